/- Walks: the fingerprint of bytes, by slices.Values and fold; the reference beside it. No conditions. -/
import Derived.Test.YtncahekankbalaaC1
import Derived.Test.YtncahekankbalaaLib5
import Derived.RangeFuncNested
import Derived.RangeFuncBox
import Derived.RangeFuncBound
import Derived.RangeFuncCalls
import Derived.RangeFuncLeaves
import Derived.Shelf.Abstract
import Derived.Shelf.RegionOpen
import Derived.OwnWalkIn
import Derived.TacticsInMore
import Derived.LoopNIn
import Derived.LoopIn
namespace Go.Proofs.Ytncahekankbalaa
open Go.RowKit Go.Shelf
set_option linter.unusedVariables false
set_option linter.unusedSimpArgs false
attribute [local go_sem] Oper.semAt_some
abbrev FW : Fence := Fence.wide

def step (s : Int) (c : UInt8) : Int := IntKind.u64.wrap (Go.bits .xor .u64 s (IntKind.u64.wrap (c.toNat : Int)) * 1099511628211)
def fnv (s : Int) (l : List UInt8) : Int := l.foldl step s
theorem fnv_snoc (s : Int) (l : List UInt8) (c : UInt8) : fnv s (l ++ [c]) = step (fnv s l) c := by simp [fnv]

set_option maxHeartbeats 400000 in
theorem with_any (s : Int) (c : UInt8) (w : World) : Calls Try.prog 72 #[.int .u64 s, .int .u8 (c.toNat : Int)] w fun e w' => e = .returned (.int .u64 (step s c)) ∧ w = w' := by
  go_enter Try.func72, Try.ntmps72
  go_wp2
  go_ret
  exact ⟨rfl, rfl⟩

set_option maxRecDepth 100000 in
set_option maxHeartbeats 2000000 in
/-- slices.Values over bytes's closure -/
theorem bvalues1 (l Bs n₀ : Nat) (A : Option Addr) (n c : Nat) (xs : List UInt8) (hA : ∀ a, A = some a → 0 < n → a.block < n₀) (J Jx : List UInt8 → World → Prop)
    (hY : ∀ pre x W, J pre W → pre.length < n → YieldAt FW 2 Try.prog l #[.int .u8 (x.toNat : Int)] W fun e W' =>
      (e = .returned (.bool true) ∧ J (pre ++ [x]) W' ∧ Below n₀ W W') ∨ (e = .returned (.bool false) ∧ Jx (pre ++ [x]) W'))
    (W : World) (hBs : W.cell? ⟨Bs, 0, none⟩ = some (.slice A n c)) (hr : Rd W A n c 1 (u8s xs)) (h0 : J [] W) :
    CallsIn FW 3 Try.prog 73 #[.func (.yield l) #[] #[], .pointer (some ⟨Bs, 0, none⟩)] W fun e W' => (∃ v, e = .returned v) ∧
      ((∃ ys, ys = xs ∧ J ys W') ∨ (∃ pre, pre <+: xs ∧ Jx pre W')) := by
  have hl : xs.length = n := by have := hr.len; simpa using this
  have hn := hr.small
  have HL := Lib.hid hl; clear hl
  have HR := Lib.hid hr; clear hr
  refine callsIn_of_wp Try.func73 rfl trivial ?_ rfl
  simp only [Try.ntmps73, List.size_toArray, List.length_cons, List.length_nil, Nat.reduceAdd, Nat.reduceSub, Array.replicate_succ, Array.replicate_zero, List.push_toArray, List.append_toArray, List.nil_append, List.cons_append]
  gi_wp2
  gi_loopw [7] (fun i wr => ∃ k : Nat, k ≤ n ∧ i = .int .i64 k ∧ J (xs.take k) wr ∧ Below n₀ W wr)
    (fun i _ => n - (intOf i).toNat)
  case atStart => exact ⟨0, Nat.zero_le _, rfl, by simpa using h0, Below.refl _ _⟩
  case round =>
    obtain ⟨k, hk, rfl, hJs, hnx⟩ := hrel
    by_cases hlt : k < n
    · have hkx : k < xs.length := by rw [HL.out]; exact hlt
      obtain ⟨b, off, rfl, hc⟩ := HR.out.cells k _ (u8s_get xs k hkx)
      obtain ⟨fn, tmps, assign, body, hy, hR⟩ := hY _ (xs[k]?.getD 0) wr hJs (by rw [List.length_take, HL.out]; omega)
      have hcx : wr.cell? ⟨b, off + k, none⟩ = some (.int .u8 ((xs[k]?.getD 0).toNat : Int)) := (hnx.cell (p := ⟨b, off + k, none⟩) (hA ⟨b, off, none⟩ rfl (by omega))).trans hc
      clear hkx
      gi_wp2
      refine hR.mono ?_
      rintro e W3 (⟨rfl, hJ3, hk3⟩ | ⟨rfl, hJx3⟩)
      · gi_wp2
        go_roundw
        case rel => exact ⟨k + 1, by omega, by simp, by rw [u8s_snoc xs k (by rw [HL.out]; exact hlt)]; exact hJ3, hnx.trans hk3⟩
        case measure => simp [intOf]; omega
      · gi_wp2
        refine bodyPost_ret (results_none rfl _ _ _) rfl ?_
        exact ⟨⟨_, rfl⟩, .inr ⟨_, by rw [← u8s_snoc xs k (by rw [HL.out]; exact hlt)]; exact List.take_prefix _ _, hJx3⟩⟩
    · obtain rfl : k = n := by omega
      gi_wp2
      go_end0
      exact ⟨⟨_, rfl⟩, .inl ⟨_, by rw [List.take_of_length_le (by rw [HL.out]; exact Nat.le_refl _)], hJs⟩⟩

set_option maxHeartbeats 400000 in
theorem bvalues_any (A : Option Addr) (n c : Nat) (w : World) :
    Calls Try.prog 71 #[.slice A n c] w fun e w' => e = .returned (.func (.func 73) #[] #[.pointer (some ⟨w.heap.size, 0, none⟩)]) ∧ w.alloc (.cells #[.slice A n c] 22) = w' := by
  go_enter Try.func71, Try.ntmps71
  go_wp2
  go_ret
  exact ⟨rfl, rfl⟩

theorem bvalues_stops (Bs n₀ : Nat) (A : Option Addr) (n c : Nat) (xs : List UInt8) (hA : ∀ a, A = some a → 0 < n → a.block < n₀) (w : World) (hBs : Bs < w.heap.size) (hn₀ : n₀ ≤ w.heap.size)
    (hc : w.cell? ⟨Bs, 0, none⟩ = some (.slice A n c)) (hr : Rd w A n c 1 (u8s xs)) :
    SeqStopsK FW 3 Try.prog 73 #[.pointer (some ⟨Bs, 0, none⟩)] (fun x : UInt8 => #[Value.int .u8 (x.toNat : Int)]) (Below n₀) (fun ys => ys = xs) (fun pre => pre <+: xs) n w := fun l J Jx W hW _ _ hY h0 =>
  bvalues1 l Bs n₀ A n c xs hA J Jx hY W ((hW.cell (p := ⟨Bs, 0, none⟩) hBs).trans hc) (hr.below hW) h0

set_option maxRecDepth 100000 in
set_option maxHeartbeats 2000000 in
theorem bfold_any (s : Int) (B0 : Nat) (A : Option Addr) (n c : Nat) (xs : List UInt8) (w : World) (hB : w.cell? ⟨B0, 0, none⟩ = some (.slice A n c)) (hB0 : B0 < w.heap.size) (hr : Rd w A n c 1 (u8s xs)) :
    Calls Try.prog 70 #[.func (.func 73) #[] #[.pointer (some ⟨B0, 0, none⟩)], .int .u64 s, .func (.func 72) #[] #[]] w fun e W' => e = .returned (.int .u64 (fnv s xs)) ∧ Below w.heap.size w W' := by
  have bS := Boxed.new w 93 (.int .u64 s)
  have bF := Boxed.new (w.alloc (.cells #[.int .u64 s] 93)) 98 (.func (.func 72) #[] #[])
  rw [World.size_alloc] at bF
  have hBW : Below w.heap.size w ((w.alloc (.cells #[.int .u64 s] 93)).alloc (.cells #[.func (.func 72) #[] #[]] 98)) := ((Below.refl _ w).alloc (Nat.le_refl _) _).alloc (by simp) _
  have hst := bvalues_stops B0 w.heap.size A n c xs (rd_in hr) _ (by simp; omega) (by simp; omega) ((hBW.cell (p := ⟨B0, 0, none⟩) hB0).trans hB) (hr.below hBW)
  refine (callsIn_wide (n := 4)).1 ?_
  refine callsIn_of_wp_marks Try.func70 rfl trivial ?_ rfl
  simp only [Try.ntmps70, List.size_toArray, List.length_cons, List.length_nil, Nat.reduceAdd, Nat.reduceSub, Array.replicate_succ, Array.replicate_zero, List.push_toArray, List.append_toArray, List.nil_append, List.cons_append]
  gi_wp2
  refine wpIn_rangeFunc_ownG rfl (by omega) (gf := 73) (lb := #[.pointer (some ⟨B0, 0, none⟩)]) rfl trivial (enters_of Try.func73 (by kernel_rfl) rfl)
    hst belowK_t (belowK_b (by simp; omega)) (Below.refl _ _) (fun _ => rfl)
    (fun pre W => ((W.cell? ⟨w.heap.size, 0, none⟩ = some (.int .u64 (fnv s pre)) ∧ W.frozen? ⟨w.heap.size, 0, none⟩ = false) ∧ W.cell? ⟨w.heap.size + 1, 0, none⟩ = some (.func (.func 72) #[] #[])) ∧ Below w.heap.size w W)
    (fun _ _ _ => False)
    (OwnFrom.and (Own.from (fun s A B row hs hg hr => ⟨⟨cell_kept hs.1.1 hg hr, (frozen_kept hs.1.1 hg hr).trans hs.1.2⟩, cell_kept hs.2 hg hr⟩) _) (ownFrom_below (Nat.le_refl _) (by simp; omega)))
    (fun _ _ _ _ _ hs _ _ => hs)
    ⟨⟨⟨(bS.alloc _).cell, (bS.alloc _).frozen⟩, bF.cell⟩, hBW⟩
    (fun x => { tmps := #[.func (.func 73) #[] #[.pointer (some ⟨B0, 0, none⟩)], .int .u64 s, .func (.func 72) #[] #[], undef, .pointer (some ⟨w.heap.size, 0, none⟩), .pointer (some ⟨w.heap.size + 1, 0, none⟩), .int .u64 0, .int .u8 (x.toNat : Int), .func (.func 73) #[] #[.pointer (some ⟨B0, 0, none⟩)], .int .u8 (x.toNat : Int), undef, undef, undef, undef, undef], defers := [] }) ?assign ?body ?done ?stop
  case assign =>
    intro l x W K hK
    gi_wp2
    exact hK
  case body =>
    rintro l pre x W ⟨⟨⟨hc, hf⟩, hc2⟩, hB⟩ _
    gi_wp2_with fail
    refine ⟨trivial, ?_⟩
    refine (CallsIn.inRound l (callsIn_wide.2 (with_any _ x W))).mono ?_
    rintro e w1 ⟨rfl, rfl⟩
    gi_wp2
    exact ⟨(KeepsOthers.setCell _ _ _).from _, (Below.refl w.heap.size W).setCell (p := ⟨w.heap.size, 0, none⟩) (Nat.le_refl _) _, ⟨⟨by rw [fnv_snoc]; exact World.cell?_setCell_same' _ _ _ (by rw [hc]; rfl), by rw [World.frozen?_setCell]; exact hf⟩, (cell_far _ _ _ _ (by simp)).trans hc2⟩, hB.setCell (p := ⟨w.heap.size, 0, none⟩) (Nat.le_refl _) _⟩
  case done =>
    rintro D ys W hD rfl ⟨⟨⟨hc, _⟩, _⟩, hB⟩ hK
    gi_wp2
    refine ⟨by simp, .inl ⟨_, _, rfl, run_takeDeferred hK, ?_⟩⟩
    exact ⟨_, results_tmp rfl _ _ _, rfl, hB.trans (belowK_b (w := w) (Nat.le_refl _) W D _ _ (by simp at hD; omega) hK rfl rfl)⟩
  case stop =>
    rintro D c pre W _ _ h _
    exact h.elim



def start : Int := 14695981039346656037
set_option maxHeartbeats 400000 in
theorem start_any (w : World) : Calls Try.prog 67 #[] w fun e w' => e = .returned (.int .u64 start) ∧ w = w' := by
  go_enter Try.func67, Try.ntmps67
  go_wp2
  go_ret
  exact ⟨rfl, rfl⟩
set_option maxHeartbeats 400000 in
theorem startr_any (w : World) : Calls Try.prog 69 #[] w fun e w' => e = .returned (.int .u64 start) ∧ w = w' := by
  go_enter Try.func69, Try.ntmps69
  go_wp2
  go_ret
  exact ⟨rfl, rfl⟩

set_option maxHeartbeats 400000 in
theorem more_any (s : Int) (A : Option Addr) (n c : Nat) (xs : List UInt8) (w : World) (hr : Rd w A n c 1 (u8s xs)) :
    Calls Try.prog 66 #[.int .u64 s, .slice A n c] w fun e w' => e = .returned (.int .u64 (fnv s xs)) ∧ Below w.heap.size w w' := by
  have hb := (Below.refl w.heap.size w).alloc (Nat.le_refl _) (.cells #[.slice A n c] 22)
  have hr' := hr.below hb
  have hcell : (w.alloc (.cells #[.slice A n c] 22)).cell? ⟨w.heap.size, 0, none⟩ = some (.slice A n c) := (Boxed.new w 22 _).cell
  go_enter Try.func66, Try.ntmps66
  go_wp2_with fail
  refine (bvalues_any A n c _).mono ?_; rintro e w1 ⟨rfl, rfl⟩
  go_wp2_with fail
  refine (bfold_any s w.heap.size A n c xs _ hcell (by simp) hr').mono ?_; rintro e w1 ⟨rfl, hb2⟩
  go_wp2
  go_ret
  exact ⟨rfl, hb.trans (hb2.mono (by simp))⟩

set_option maxHeartbeats 400000 in
theorem sum_any (A : Option Addr) (n c : Nat) (xs : List UInt8) (w : World) (hr : Rd w A n c 1 (u8s xs)) :
    Calls Try.prog 56 #[.slice A n c] w fun e w' => e = .returned (.int .u64 (fnv start xs)) ∧ Below w.heap.size w w' := by
  go_enter Try.func56, Try.ntmps56
  go_wp2_with fail
  refine (start_any _).mono ?_; rintro e w1 ⟨rfl, rfl⟩
  go_wp2_with fail
  refine (more_any _ A n c xs w hr).mono ?_; rintro e w1 ⟨rfl, hb2⟩
  go_wp2
  go_ret
  exact ⟨rfl, hb2⟩

set_option maxHeartbeats 400000 in
theorem morer_any (s : Int) (A : Option Addr) (n c : Nat) (l : List UInt8) (w : World) (h1 : Rd w A n c 1 (u8s l)) :
    Calls Try.prog 68 #[.int .u64 s, .slice A n c] w fun e w' => e = .returned (.int .u64 (fnv s l)) ∧ w = w' := by
  have hn := h1.small
  have hl : l.length = n := by have := h1.len; simpa using this
  have HL := Lib.hid hl; clear hl
  have H1 := Lib.hid h1; clear h1
  go_enter Try.func68, Try.ntmps68
  go_wp2
  go_loop [0, 5] (fun t i => ∃ k : Nat, k ≤ n ∧ i = .int .i64 k ∧ t = .int .u64 (fnv s (l.take k))) (fun _ i => n - (intOf i).toNat)
  case atStart => exact ⟨0, Nat.zero_le _, rfl, rfl⟩
  case round =>
    obtain ⟨k, hk, rfl, rfl⟩ := hrel
    by_cases hlt : k < n
    · obtain ⟨b, off, rfl, hc⟩ := H1.out.cells k _ (u8s_get l k (by rw [HL.out]; exact hlt))
      go_wp2
      go_round
      case rel => exact ⟨k + 1, by omega, by go_num, by rw [u8s_snoc l k (by rw [HL.out]; exact hlt), fnv_snoc]; rfl⟩
      case measure => simp [intOf]; omega
    · have : k = n := by omega
      subst this
      go_wp2
      go_ret
      exact ⟨ret_int (by rw [List.take_of_length_le (by rw [HL.out]; exact Nat.le_refl _)]), rfl⟩

set_option maxHeartbeats 400000 in
theorem sumr_any (A : Option Addr) (n c : Nat) (xs : List UInt8) (w : World) (hr : Rd w A n c 1 (u8s xs)) :
    Calls Try.prog 59 #[.slice A n c] w fun e w' => e = .returned (.int .u64 (fnv start xs)) ∧ w = w' := by
  go_enter Try.func59, Try.ntmps59
  go_wp2_with fail
  refine (startr_any _).mono ?_; rintro e w1 ⟨rfl, rfl⟩
  go_wp2_with fail
  refine (morer_any _ A n c xs w hr).mono ?_; rintro e w1 ⟨rfl, rfl⟩
  go_wp2
  go_ret
  exact ⟨rfl, rfl⟩

end Go.Proofs.Ytncahekankbalaa
