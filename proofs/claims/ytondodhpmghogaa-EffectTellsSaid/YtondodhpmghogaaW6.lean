/- Walks: the reference's writer. Conditions: what is handed in is short and lies apart from it. -/
import Derived.Test.YtondodhpmghogaaW5
namespace Go.Proofs.Ytondodhpmghogaa
open Go.RowKit
set_option linter.unusedVariables false
set_option linter.unusedSimpArgs false

/-- block V is a writer of the reference: it has written b; its error is e -/
structure RW (w : World) (V : Nat) (v : Value) (b : List UInt8) (e : Int) : Prop where
  blk : Blk w V 29 #[v, .int .i64 e]
  own : w.ownsRow (V + 1) 5 1 v b.length (u8s b)
theorem rw_lt {w : World} {V : Nat} {v : Value} {b : List UInt8} {e : Int} (h : RW w V v b e) : V < w.heap.size := blk_lt h.blk
theorem rw_own {w : World} {V : Nat} {v : Value} {b : List UInt8} {e : Int} (h : RW w V v b e) {k : Nat} (hk : v.ownBlock = some k) : V < k ∧ k < w.heap.size := by
  have := h.own.lt k hk; exact ⟨by omega, by omega⟩
theorem rw_ch {S : Nat → Prop} {w w' : World} {V : Nat} {v : Value} {b : List UInt8} {e : Int} (h : RW w V v b e) (hc : Ch S w w') (h1 : ¬ S V) (h2 : ∀ k, v.ownBlock = some k → ¬ S k) : RW w' V v b e := ⟨blk_ch h.blk hc h1, own_ch h.own hc h2⟩
theorem rw_form {w : World} {V : Nat} {v : Value} {b : List UInt8} {e : Int} (h : RW w V v b e) : ∃ A c, v = .slice A b.length c ∧ Rd w A b.length c 1 (u8s b) ∧ (∀ a, A = some a → V + 1 ≤ a.block ∧ a.block < w.heap.size) := own_form h.own
def RPutQ (w : World) (V : Nat) (v : Value) (r : List UInt8 × Int) (e : Ending) (w' : World) : Prop :=
  e = .returned (.tuple #[]) ∧ ∃ v', RW w' V v' r.1 r.2 ∧ Ch (fun k => k = V ∨ v.ownBlock = some k) w w' ∧ (v'.ownBlock = v.ownBlock ∨ ∃ x, v'.ownBlock = some x ∧ w.heap.size ≤ x)
theorem rputq_of {w w2 w' : World} {V : Nat} {v : Value} {r : List UInt8 × Int} {e : Ending} (hb : Below w.heap.size w w2) (h : RPutQ w2 V v r e w') : RPutQ w V v r e w' := by
  obtain ⟨he, v', h1, h2, h3⟩ := h
  refine ⟨he, v', h1, (Ch.of_below hb _).trans h2 (fun i hi => .inl hi), h3.imp id fun ⟨x, hx, hl⟩ => ⟨x, hx, Nat.le_trans hb.size hl⟩⟩
/-- what the reference's put makes: bytes, or an error -/
def rput (b : List UInt8) (e : Int) (k : List UInt8) (x : Int) : List UInt8 × Int := if e ≠ 0 then (b, e) else if x = 0 then wput b 0 k else (b, x)
set_option maxRecDepth 100000 in
set_option maxHeartbeats 4000000 in
theorem rput_any {w : World} {V : Nat} {v : Value} {b : List UInt8} {e : Int} (h : RW w V v b e) (hb : b.length ≤ 1048576) {A : Option Addr} {n c : Nat} {l : List UInt8} (hr : Rd w A n c 1 (u8s l)) (hn : n ≤ 1000000000) (hA : ∀ a, A = some a → a.block ≠ V) (x : Int) :
    Calls Try.prog 77 #[.pointer (some ⟨V, 0, none⟩), .slice A n c, .int .i64 x] w (RPutQ w V v (rput b e l x)) := by
  have c1 : w.cell? ⟨V, 1, none⟩ = some (.int .i64 e) := blk_cell h.blk 1 _ rfl
  have f1 : w.frozen? ⟨V, 1, none⟩ = false := blk_thawed h.blk 1
  by_cases he : e ≠ 0
  · have g1 : (e == 0) = false := by simpa using he
    have g2 : (e != 0) = true := by simpa using he
    go_enter Try.func77, Try.ntmps77
    go_wp2
    refine bodyPost_ret (results_none rfl _ _ _) rfl ⟨rfl, v, ?_, Ch.refl _ _, .inl rfl⟩
    unfold rput; rw [if_pos he]; exact h
  obtain rfl : e = 0 := Decidable.not_not.1 he
  clear he
  have hVw := rw_lt h
  obtain ⟨r, hrr⟩ : ∃ r, r = rput b 0 l x := ⟨_, rfl⟩
  rw [← hrr]
  have hr0 : r = if x = 0 then wput b 0 l else (b, x) := by rw [hrr]; unfold rput; simp
  have hl : l.length = n := by have := hr.len; simpa using this
  have H := Lib.hid h; have HR := Lib.hid hr; have HL := Lib.hid hl
  have hset : ∀ y, Blk (w.setCell ⟨V, 1, none⟩ (.int .i64 y)) V 29 #[v, .int .i64 y] := fun y => blk_set H.out.blk 1 (.int .i64 y)
  have hrw : ∀ y, RW (w.setCell ⟨V, 1, none⟩ (.int .i64 y)) V v b y := fun y => ⟨hset y, own_ch H.out.own (Ch.setCell w ⟨V, 1, none⟩ (.int .i64 y)) (fun k hk e => by have := rw_own H.out hk; have e' : k = V := e; omega)⟩
  obtain ⟨B, cb, rfl, hrb, hBb⟩ := rw_form h
  have c0 : w.cell? ⟨V, 0, none⟩ = some (.slice B b.length cb) := blk_cell h.blk 0 _ rfl
  have HS := Lib.hid hrw
  clear h hr hl hrb hBb hrr
  by_cases hx : x = 0
  · subst hx
    rw [if_pos rfl] at hr0
    have hw : IntKind.i64.wrap ((b.length : Int) + (n : Int)) = (b.length : Int) + n := by rw [IntKind.wrap_i64]; omega
    by_cases hov : 1048576 < b.length + n
    · have hr1 : r = (b, 3) := by rw [hr0]; unfold wput; simp [HL.out, hov]
      have g1 : decide ((1048576 : Int) < (b.length : Int) + n) = true := by simp; omega
      clear hrw hset
      go_enter Try.func77, Try.ntmps77
      go_wp2_with fail
      refine bodyPost_end (results_none rfl _ _ _) rfl ⟨rfl, _, (by subst hr1; exact HS.out 3), (Ch.setCell w ⟨V, 1, none⟩ _).mono (fun i _ hi => .inl hi), .inl rfl⟩
    · have hr1 : r = (b ++ l, 0) := by rw [hr0]; unfold wput; simp [HL.out, hov]
      have g1 : decide ((1048576 : Int) < (b.length : Int) + n) = false := by simp; omega
      have HSO := Lib.hid (HS.out 0)
      have d0 : (w.setCell ⟨V, 1, none⟩ (.int .i64 0)).cell? ⟨V, 0, none⟩ = some (.slice B b.length cb) := blk_cell HSO.out.blk 0 _ rfl
      have HR1 := Lib.hid (HR.out.ch (Ch.setCell w ⟨V, 1, none⟩ (.int .i64 0)) (fun a ha e => hA a ha e))
      have HBO := Lib.hid (show ∀ k, (Value.slice B b.length cb).ownBlock = some k → V < k ∧ k < w.heap.size from fun k hk => rw_own H.out hk)
      have HX := Lib.hid (show Ch (fun k => k = V ∨ (Value.slice B b.length cb).ownBlock = some k) w (w.setCell ⟨V, 1, none⟩ (.int .i64 0)) from (Ch.setCell w ⟨V, 1, none⟩ _).mono (fun i _ hi => .inl hi))
      have hsz : w.heap.size = (w.setCell ⟨V, 1, none⟩ (.int .i64 0)).heap.size := by simp [World.setCell]
      clear hrw hset
      generalize hLb : b.length = L at *
      have HLB := Lib.hid hLb
      clear hLb
      go_enter Try.func77, Try.ntmps77
      go_wp2_with (at_builtin; refine wpList_app (w.setCell ⟨V, 1, none⟩ (.int .i64 0)) rfl _ _ 26 rfl (V + 1) 5 (.int .u8 0) 1 1 Try.underlying26 info5 rfl (by decide) (.slice B L cb) L (u8s b) rfl (by have := HSO.out.own; rw [HLB.out] at this; exact this) A n c (u8s l) rfl HR1.out (u8s_one l) (by simp [maxLen]; omega) (by omega) (by omega) ?_; intro v2 w2 hown2 hg2 hnil2 hat2; have hch2 := Ch.of_grown hg2; have hbk2 := blk_ch HSO.out.blk hch2 (fun e => by have := HBO.out V e; omega); have f0 := blk_thawed hbk2 0; have d2 := blk_cell hbk2 0 (.slice B L cb) rfl; obtain ⟨A2, cc2, rfl, hr2, hA2⟩ := own_form hown2)
      have hbk3 := blk_set hbk2 0 (.slice A2 (L + n) cc2)
      refine bodyPost_end (results_none rfl _ _ _) rfl ⟨rfl, .slice A2 (L + n) cc2, ?_, ?_, ?_⟩
      · rw [hr1]
        refine ⟨hbk3, own_ch ?_ (Ch.setCell w2 ⟨V, 0, none⟩ _) (fun k hk e => ?_)⟩
        · rw [List.length_append, HLB.out, HL.out, u8s_append]; exact hown2
        · have e' : k = V := e
          have := hown2.lt k hk; omega
      · exact ch_set (HX.out.trans hch2 (fun i hi => .inl (.inr hi))) ⟨V, 0, none⟩ _ (.inl rfl)
      · rcases hat2 with h | h
        · exact .inl h
        · exact .inr ⟨_, h, by omega⟩
  · have hr1 : r = (b, x) := by rw [hr0, if_neg hx]
    have g1 : (x == 0) = false := by simpa using hx
    clear hrw hset
    go_enter Try.func77, Try.ntmps77
    go_wp2_with fail
    refine bodyPost_end (results_none rfl _ _ _) rfl ⟨rfl, _, (by subst hr1; exact HS.out x), (Ch.setCell w ⟨V, 1, none⟩ _).mono (fun i _ hi => .inl hi), .inl rfl⟩
end Go.Proofs.Ytondodhpmghogaa
