/- Words for blocks and bytes; walks: comparing, copying, lending, overwriting bytes. No conditions beyond the lengths named. -/
import Derived.Test.YtadcahnoghnkcaaProg
import Derived.Test.YtadcahnoghnkcaaLib2
import Derived.Test.YtadcahnoghnkcaaLib3
namespace Go.Proofs.Ytadcahnoghnkcaa
open Go.RowKit
set_option linter.unusedVariables false
set_option linter.unusedSimpArgs false

theorem nil_rd (w : World) (sz : Nat) : Rd w none 0 0 sz [] := ⟨by simp, Nat.le_refl _, by omega, fun _ => rfl, fun j u hu => by simp at hu⟩

theorem info5 : (Try.prog.info? 5).map (fun i => (i.zero, i.size, i.bytes)) = some (some (.int .u8 0), 1, 1) := by kernel_rfl
def eqB (l k : List UInt8) : Bool := l == k
theorem eqB_self (l : List UInt8) : eqB l l = true := by simp [eqB]

set_option maxHeartbeats 400000 in
theorem same_any (A B : Option Addr) (n c m d : Nat) (l k : List UInt8) (w : World) (h1 : Rd w A n c 1 (u8s l)) (h2 : Rd w B m d 1 (u8s k)) :
    Calls Try.prog 73 #[.slice A n c, .slice B m d] w fun e w' => e = .returned (.bool (eqB l k)) ∧ w = w' := by
  have e1 := h1.str (P := Try.prog) 27 5 9 Try.underlying27 Try.underlying5 Try.underlying9
  have e2 := h2.str (P := Try.prog) 27 5 9 Try.underlying27 Try.underlying5 Try.underlying9
  clear h1 h2
  go_enter Try.func73, Try.ntmps73
  go_wp2
  go_ret
  exact ⟨rfl, rfl⟩

def CopyQ (w : World) (n : Nat) (l : List UInt8) (e : Ending) (w' : World) : Prop := ∃ g c', e = .returned (.slice (some ⟨g, 0, none⟩) n c') ∧ w.heap.size ≤ g ∧ n ≤ c' ∧ Row w' g 5 c' 1 (u8s l) ∧ Below w.heap.size w w'
set_option maxHeartbeats 400000 in
theorem copy_any (A : Option Addr) (n c : Nat) (l : List UInt8) (w : World) (h1 : Rd w A n c 1 (u8s l)) (hn : n ≤ 1000000) :
    Calls Try.prog 71 #[.slice A n c] w (CopyQ w n l) := by
  have HR := Lib.hid (h1.below ((Below.refl w.heap.size w).alloc (Nat.le_refl _) (.cells #[] 5)))
  have HO := Lib.hid (row_lit w #[] 5 0 1 rfl (by omega))
  clear h1
  go_enter Try.func71, Try.ntmps71
  go_wp2_with (at_builtin; refine wpList_app_row _ rfl _ _ 27 rfl w.heap.size 5 _ 1 1 Try.underlying27 info5 rfl (by decide) _ 0 _ [] rfl HO.out (Nat.le_refl _) rfl (Nat.le_refl _) A n c (u8s l) rfl HR.out (u8s_one l) (by simp [maxLen]; omega) (by omega) (by simp) ?_; intro g' c' w1 hrow hnc hbg hat hch)
  go_ret
  exact ⟨g', c', rfl, hbg, by omega, by simpa using hrow, ((Ch.alloc w _ No).trans hch (fun i hi => .inr (by omega))).below (Nat.le_refl _) (fun k hk => hk.elim)⟩

def lentTail : List UInt8 := [201, 17, 99]

def LentQ (w : World) (n : Nat) (l : List UInt8) (e : Ending) (w' : World) : Prop := ∃ g c', e = .returned (.slice (some ⟨g, 0, none⟩) n (n + 3)) ∧ w.heap.size ≤ g ∧ n + 3 ≤ c' ∧ Row w' g 5 c' 1 (u8s (l ++ lentTail)) ∧ Below w.heap.size w w'
set_option maxHeartbeats 400000 in
theorem lent_any (A : Option Addr) (n c : Nat) (l : List UInt8) (w : World) (h1 : Rd w A n c 1 (u8s l)) (hn : n ≤ 1000000) :
    Calls Try.prog 74 #[.slice A n c] w (LentQ w n l) := by
  have hl : l.length = n := by have := h1.len; simpa using this
  have H1 := Lib.hid h1; clear h1
  have HL := Lib.hid hl; clear hl
  go_enter Try.func74, Try.ntmps74
  go_wp2_with (first | (go_at_call 71; refine (copy_any _ _ _ l _ H1.out hn).mono ?_; rintro e w1 ⟨g, c', rfl, hbg, hnc, hrow, hbel⟩) | (at_builtin; refine wpList_app_row _ rfl _ _ 27 rfl w.heap.size 5 _ 1 1 Try.underlying27 info5 rfl (by decide) g n c' (u8s l) rfl (hrow.ch (Ch.alloc w1 _ No) id) hbg (by simpa using HL.out) hnc _ 3 3 _ rfl (rd_lit w1 _ 5 3 1 rfl (by omega)) (by simp [Value.oneCell']) (by simp [maxLen]; omega) (by omega) (by have := hbel.size; simp; omega) ?_; intro g2 c2 w2 hrow2 hnc2 hbg2 hat2 hch2))
  go_ret
  exact ⟨g2, c2, rfl, hbg2, hnc2, by rw [u8s_append]; exact hrow2, ((hbel.alloc hbel.size _).trans (hch2.below (by have := hbel.size; simp; omega) (fun k hk => by omega)))⟩

set_option maxHeartbeats 400000 in
theorem kept_any (g c' : Nat) (A : Option Addr) (n c : Nat) (l : List UInt8) (w : World) (hrow : Row w g 5 c' 1 (u8s (l ++ lentTail))) (h1 : Rd w A n c 1 (u8s l)) (hn : n ≤ 1000000) :
    Calls Try.prog 80 #[.slice (some ⟨g, 0, none⟩) n (n + 3), .slice A n c] w fun e w' => e = .returned (.bool true) ∧ Below w.heap.size w w' := by
  have hl : l.length = n := by have := h1.len; simpa using this
  have r0 := Lib.hid (hrow.rd 0 n (n + 3) (u8s l) (by rw [List.drop_zero, u8s_take]; simp [hl]) (by simp [hl]) (by omega) (by omega))
  have r3 := Lib.hid ((hrow.ch (Ch.alloc w (.cells #[.int .u8 201, .int .u8 17, .int .u8 99] 5) No) id).rd n 3 3 (u8s lentTail) (by rw [u8s_drop, u8s_take]; simp [← hl]; rfl) (by simp [hl, lentTail]) (by omega) (by omega))
  have H1 := Lib.hid h1; clear h1 hl hrow
  go_enter Try.func80, Try.ntmps80
  go_wp2_with fail
  refine (same_any _ _ _ _ _ _ l l _ r0.out H1.out).mono ?_; rintro e w1 ⟨rfl, rfl⟩; rw [eqB_self]
  go_wp2_with fail
  refine (same_any _ _ _ _ _ _ lentTail lentTail _ r3.out (rd_lit w _ 5 3 1 rfl (by omega))).mono ?_; rintro e w1 ⟨rfl, rfl⟩; rw [eqB_self]
  go_wp2
  go_ret
  exact ⟨rfl, (Below.refl _ _).alloc (Nat.le_refl _) _⟩

/-- block B holds the cells cs, thawed -/
def Blk (w : World) (B : Nat) (t : TypeId) (cs : Array Value) : Prop := w.heap[B]? = some (.cells cs t (0, 0))
theorem blk_cell {w : World} {B : Nat} {t : TypeId} {cs : Array Value} (h : Blk w B t cs) (j : Nat) (u : Value) (hu : cs[j]? = some u) : w.cell? ⟨B, j, none⟩ = some u := by
  rw [cell_of_row w B j cs t (0, 0) h]; exact hu
theorem blk_thawed {w : World} {B : Nat} {t : TypeId} {cs : Array Value} (h : Blk w B t cs) (j : Nat) : w.frozen? ⟨B, j, none⟩ = false := by
  unfold Blk at h
  simp [World.frozen?, h]
theorem blk_set {w : World} {B : Nat} {t : TypeId} {cs : Array Value} (h : Blk w B t cs) (j : Nat) (u : Value) : Blk (w.setCell ⟨B, j, none⟩ u) B t (cs.setIfInBounds j u) := by
  unfold Blk at h ⊢
  simp [World.setCell, Array.getElem?_modify, h]
theorem blk_lt {w : World} {B : Nat} {t : TypeId} {cs : Array Value} (h : Blk w B t cs) : B < w.heap.size := (Array.getElem?_eq_some_iff.1 h).1
theorem blk_ch {S : Nat → Prop} {w w' : World} {B : Nat} {t : TypeId} {cs : Array Value} (h : Blk w B t cs) (hc : Ch S w w') (hS : ¬ S B) : Blk w' B t cs := (hc.block B (blk_lt h) hS).trans h
theorem blk_below {w w' : World} {B : Nat} {t : TypeId} {cs : Array Value} (h : Blk w B t cs) (hc : Below w.heap.size w w') : Blk w' B t cs := (hc.block B (blk_lt h)).trans h
theorem blk_new (w : World) (t : TypeId) (cs : Array Value) : Blk (w.alloc (.cells cs t)) w.heap.size t cs := heap_alloc_new w _

def CopyB (w : World) (n : Nat) (l : List UInt8) (e : Ending) (w' : World) : Prop := ∃ g c', e = .returned (.slice (some ⟨g, 0, none⟩) n c') ∧ w.heap.size ≤ g ∧ Byt w' g 5 c' l ∧ Below w.heap.size w w'
set_option maxHeartbeats 400000 in
theorem copyb_any (A : Option Addr) (n c : Nat) (l : List UInt8) (w : World) (h1 : Rd w A n c 1 (u8s l)) (hn : n ≤ 1000000) :
    Calls Try.prog 71 #[.slice A n c] w (CopyB w n l) := by
  have HR := Lib.hid (h1.below ((Below.refl w.heap.size w).alloc (Nat.le_refl _) (.cells #[] 5)))
  have HO := Lib.hid (byt_none w 5)
  clear h1
  go_enter Try.func71, Try.ntmps71
  go_wp2_with (at_builtin; refine wpList_app_b _ rfl _ _ 27 rfl 5 Try.underlying27 info5 _ 0 0 [] rfl HO.out rfl A n c l rfl HR.out (by omega) ?_; intro g' c' w1 hb hat hch)
  go_ret
  simp only [Nat.zero_add, List.nil_append] at *
  refine ⟨g', c', rfl, ?_, hb, ((Ch.alloc w _ No).trans hch (fun i hi => .inr (by omega))).below (Nat.le_refl _) (fun k hk => hk.elim)⟩
  rcases hat with ⟨rfl, _⟩ | ⟨rfl, _⟩ <;> simp
set_option maxRecDepth 100000 in
set_option maxHeartbeats 400000 in
theorem clone_any (a : Addr) (n c : Nat) (l : List UInt8) (w : World) (h1 : Rd w (some a) n c 1 (u8s l)) (hn : n ≤ 1000000) :
    Calls Try.prog 65 #[.slice (some a) n c] w (CopyB w n l) := by
  have HR := Lib.hid (h1.below ((Below.refl w.heap.size w).alloc (Nat.le_refl _) (.cells #[] 5)))
  have HO := Lib.hid (byt_none w 5)
  clear h1
  have he : ∀ w : World, (binOp .eql 27 (.slice (some a) n c) (.slice none 0 0)).run Try.prog w = .ok (.bool false) w := fun _ => rfl
  go_enter Try.func65, Try.ntmps65
  go_wp2_with (at_builtin; refine wpList_app_b _ rfl _ _ 27 rfl 5 Try.underlying27 info5 _ 0 0 [] rfl HO.out rfl _ n c l rfl HR.out (by omega) ?_; intro g' c' w1 hb hat hch)
  go_ret
  simp only [Nat.zero_add, List.nil_append] at *
  refine ⟨g', c', rfl, ?_, hb, ((Ch.alloc w _ No).trans hch (fun i hi => .inr (by omega))).below (Nat.le_refl _) (fun k hk => hk.elim)⟩
  rcases hat with ⟨rfl, _⟩ | ⟨rfl, _⟩ <;> simp

/-- writing one byte into such a block -/
theorem byt_set {w : World} {g : Nat} {e : TypeId} {c : Nat} {ys : List UInt8} (h : Byt w g e c ys) (hl : ys.length = c) (j : Nat) (x : UInt8) (hj : j < c) : Byt (w.setCell ⟨g, j, none⟩ (.int .u8 (x.toNat : Int))) g e c (ys.set j x) := by
  obtain ⟨zs, h1, h2, h3⟩ := h.ex
  have hz : zs = ys := by rw [hl, ← h1, List.take_length] at h2; exact h2
  subst hz
  refine ⟨⟨zs.set j x, by simpa using h1, List.take_length, ?_⟩, h.big⟩
  simp [World.setCell, Array.getElem?_modify, h3]
  simp [u8s, List.map_set]
set_option maxHeartbeats 400000 in
theorem over_nil (w : World) : Calls Try.prog 77 #[.slice none 0 0] w fun e w' => e = .returned (.tuple #[]) ∧ w = w' := by
  go_enter Try.func77, Try.ntmps77
  go_wp2
  go_loop [3] (fun i => i = .int .i64 0) (fun _ => 0)
  case atStart => rfl
  case round =>
    subst hrel
    go_wp2
    exact bodyPost_end (results_none rfl _ _ _) rfl ⟨rfl, rfl⟩

def OverQ (w : World) (g c : Nat) (e : Ending) (w' : World) : Prop := e = .returned (.tuple #[]) ∧ (∃ ys, ys.length = c ∧ Byt w' g 5 c ys) ∧ Ch (fun k => k = g) w w'
set_option maxHeartbeats 1000000 in
theorem over_any {g n c : Nat} {l : List UInt8} {w : World} (h : Byt w g 5 c l) (hn : n ≤ c) : Calls Try.prog 77 #[.slice (some ⟨g, 0, none⟩) n c] w (OverQ w g c) := by
  obtain ⟨ys0, hy0, _, hb0⟩ := byt_full h
  have hbig := h.big
  have H0 := Lib.hid hb0; clear hb0 h
  go_enter Try.func77, Try.ntmps77
  go_wp2
  go_loopw [3] (fun i wr => ∃ k : Nat, k ≤ c ∧ i = .int .i64 k ∧ (∃ ys, ys.length = c ∧ Byt wr g 5 c ys) ∧ Ch (fun k => k = g) w wr) (fun i _ => c - (intOf i).toNat)
  case atStart => exact ⟨0, Nat.zero_le _, rfl, ⟨_, hy0, H0.out⟩, Ch.refl _ _⟩
  case round =>
    clear H0 hy0
    obtain ⟨k, hk, rfl, ⟨ys, hy1, hb⟩, hB⟩ := hrel
    by_cases hlt : k < c
    · have hc := (byt_row hb).cell (u8s_get ys k (by omega))
      have hf := (byt_row hb).thawed k
      have hS := Lib.hid (byt_set hb hy1 k (UInt8.ofNat ((ys[k]?.getD 0).toNat + 101)) hlt)
      have hC := Lib.hid (hB.trans (Ch.setCell wr ⟨g, k, none⟩ (.int .u8 ((UInt8.ofNat ((ys[k]?.getD 0).toNat + 101)).toNat : Int))) (fun i hi => .inl hi))
      have hv : ((UInt8.ofNat ((ys[k]?.getD 0).toNat + 101)).toNat : Int) = (((ys[k]?.getD 0).toNat : Int) + 101) % 256 := by simp
      have HV := Lib.hid hv; clear hv
      have Hb := Lib.hid hb; clear hb
      have HY := Lib.hid hy1; clear hy1
      go_wp2
      rw [← HV.out]
      go_roundw
      case rel => exact ⟨k + 1, by omega, by go_num, ⟨_, by rw [List.length_set]; exact HY.out, hS.out⟩, hC.out⟩
      case measure => simp [intOf]; omega
    · obtain rfl : k = c := by omega
      go_wp2
      exact bodyPost_end (results_none rfl _ _ _) rfl ⟨rfl, ⟨_, hy1, hb⟩, hB⟩

/-- a slice of bytes that the call has made, or nil -/
def Held (w : World) (base : Nat) (A : Option Addr) (n c : Nat) (x : List UInt8) : Prop :=
  (A = none ∧ n = 0 ∧ c = 0 ∧ x = []) ∨ ∃ g, A = some ⟨g, 0, none⟩ ∧ Byt w g 5 c x ∧ x.length = n ∧ base ≤ g
theorem held_ch {S : Nat → Prop} {w w' : World} {base : Nat} {A : Option Addr} {n c : Nat} {x : List UInt8} (h : Held w base A n c x) (hc : Ch S w w') (hS : ∀ a, A = some a → ¬ S a.block) : Held w' base A n c x := by
  rcases h with h | ⟨g, rfl, hb, hn, hg⟩
  · exact .inl h
  · exact .inr ⟨g, rfl, byt_ch hb hc (hS _ rfl), hn, hg⟩
theorem held_len {w : World} {base : Nat} {A : Option Addr} {n c : Nat} {x : List UInt8} (h : Held w base A n c x) : x.length = n := by
  rcases h with ⟨_, rfl, _, rfl⟩ | ⟨g, rfl, hb, hn, hg⟩
  · rfl
  · exact hn
theorem held_nil (w : World) (base : Nat) : Held w base none 0 0 [] := .inl ⟨rfl, rfl, rfl, rfl⟩

theorem held_rd {w : World} {base : Nat} {A : Option Addr} {n c : Nat} {x : List UInt8} (h : Held w base A n c x) : Rd w A n c 1 (u8s x) := by
  rcases h with ⟨rfl, rfl, rfl, rfl⟩ | ⟨g, rfl, hb, hn, hg⟩
  · exact nil_rd w 1
  · have := byt_fits hb
    exact (byt_row hb).rd 0 n c (u8s x) (by rw [List.drop_zero, u8s_take, ← hn, Nat.mul_one, List.take_length]) (by rw [u8s_length]; omega) (by omega) hb.big
theorem held_base {w : World} {base mid : Nat} {A : Option Addr} {n c : Nat} {x : List UInt8} (h : Held w base A n c x) (hb : ∀ b, A = some b → mid ≤ b.block) : Held w mid A n c x := by
  rcases h with h | ⟨g, rfl, h1, h2, h3⟩
  · exact .inl h
  · exact .inr ⟨g, rfl, h1, h2, hb _ rfl⟩
theorem held_lt {w : World} {base : Nat} {A : Option Addr} {n c : Nat} {x : List UInt8} (h : Held w base A n c x) : ∀ b, A = some b → base ≤ b.block ∧ b.block < w.heap.size := by
  rcases h with ⟨rfl, _⟩ | ⟨g, rfl, h1, h2, h3⟩
  · intro b hb; cases hb
  · intro b hb; cases hb; exact ⟨h3, byt_lt h1⟩
theorem byt_rd {w : World} {g c n : Nat} {l : List UInt8} (h : Byt w g 5 c l) (hn : l.length = n) : Rd w (some ⟨g, 0, none⟩) n c 1 (u8s l) := by
  subst hn
  exact (byt_row h).rd 0 _ c _ (by rw [List.drop_zero, Nat.mul_one, List.take_of_length_le (by simp)]) (by simp) (byt_fits h) h.big
set_option maxRecDepth 100000 in
set_option maxHeartbeats 400000 in
theorem clone_held (A : Option Addr) (n c : Nat) (l : List UInt8) (w : World) (h1 : Rd w A n c 1 (u8s l)) (hn : n ≤ 1000000) :
    Calls Try.prog 65 #[.slice A n c] w fun e w' => ∃ A' c', e = .returned (.slice A' n c') ∧ Held w' w.heap.size A' n c' l ∧ Below w.heap.size w w' := by
  cases A with
  | none =>
    obtain ⟨rfl, rfl, hl⟩ := h1.nils rfl
    obtain rfl : l = [] := by cases l with
      | nil => rfl
      | cons x t => cases hl
    refine Calls.mono (R := fun e w' => e = .returned (.slice none 0 0) ∧ w = w') ?_ (fun e w' ⟨he, hw⟩ => ⟨none, 0, he, held_nil _ _, hw ▸ Below.refl _ _⟩)
    have he : ∀ w : World, (binOp .eql 27 (.slice none 0 0) (.slice none 0 0)).run Try.prog w = .ok (.bool true) w := fun _ => rfl
    go_enter Try.func65, Try.ntmps65
    go_wp2
    go_ret
    exact ⟨rfl, rfl⟩
  | some a =>
    have hl : l.length = n := by have := h1.len; simpa using this
    exact (clone_any a n c l w h1 hn).mono fun e w' ⟨g, c', he, hg, hb, hw⟩ => ⟨_, c', he, .inr ⟨g, rfl, hb, hl, hg⟩, hw⟩

end Go.Proofs.Ytadcahnoghnkcaa
