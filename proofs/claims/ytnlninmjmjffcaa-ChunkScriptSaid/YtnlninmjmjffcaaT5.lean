/- Walks: slices.Values and fold over numbers. No conditions. -/
import Derived.Test.YtnlninmjmjffcaaT4
namespace Go.Proofs.Ytnlninmjmjffcaa
open Go.RowKit Go.Shelf
set_option linter.unusedVariables false
set_option linter.unusedSimpArgs false
attribute [local go_sem] Oper.semAt_some
def mixf (s : Int) (l : List UInt64) : Int := l.foldl (fun s x => fnv s (be (x.toNat : Int) 8)) s
theorem mixf_snoc (s : Int) (l : List UInt64) (c : UInt64) : mixf s (l ++ [c]) = fnv (mixf s l) (be (c.toNat : Int) 8) := by simp [mixf]
theorem mix1n_any (s : Int) (x : UInt64) (w : World) : Calls Try.prog 55 #[.int .u64 s, .int .u64 (x.toNat : Int)] w fun e w' => e = .returned (.int .u64 (fnv s (be (x.toNat : Int) 8))) ∧ Below w.heap.size w w' := mix1_any s _ (by omega) w
theorem keepsFrom_mono {B B' : Nat} {W W' : World} (h : KeepsFrom B W W') (hB : B ≤ B') : KeepsFrom B' W W' := ⟨h.size, fun k o hk => h.same k o (Nat.le_trans hB hk)⟩

set_option maxRecDepth 100000 in
set_option maxHeartbeats 2000000 in
/-- slices.Values over numbers's closure -/
theorem qvalues1 (l Bs n₀ : Nat) (A : Option Addr) (n c : Nat) (xs : List UInt64) (hA : ∀ a, A = some a → 0 < n → a.block < n₀) (J Jx : List UInt64 → World → Prop)
    (hY : ∀ pre x W, J pre W → pre.length < n → YieldAt FW 2 Try.prog l #[.int .u64 (x.toNat : Int)] W fun e W' =>
      (e = .returned (.bool true) ∧ J (pre ++ [x]) W' ∧ Below n₀ W W') ∨ (e = .returned (.bool false) ∧ Jx (pre ++ [x]) W'))
    (W : World) (hBs : W.cell? ⟨Bs, 0, none⟩ = some (.slice A n c)) (hr : Rd W A n c 1 (q8s xs)) (h0 : J [] W) :
    CallsIn FW 3 Try.prog 64 #[.func (.yield l) #[] #[], .pointer (some ⟨Bs, 0, none⟩)] W fun e W' => (∃ v, e = .returned v) ∧
      ((∃ ys, ys = xs ∧ J ys W') ∨ (∃ pre, pre <+: xs ∧ Jx pre W')) := by
  have hl : xs.length = n := by have := hr.len; simpa using this
  have hn := hr.small
  have HL := Lib.hid hl; clear hl
  have HR := Lib.hid hr; clear hr
  refine callsIn_of_wp Try.func64 rfl trivial ?_ rfl
  simp only [Try.ntmps64, List.size_toArray, List.length_cons, List.length_nil, Nat.reduceAdd, Nat.reduceSub, Array.replicate_succ, Array.replicate_zero, List.push_toArray, List.append_toArray, List.nil_append, List.cons_append]
  gi_wp2
  gi_loopw [7] (fun i wr => ∃ k : Nat, k ≤ n ∧ i = .int .i64 k ∧ J (xs.take k) wr ∧ Below n₀ W wr)
    (fun i _ => n - (intOf i).toNat)
  case atStart => exact ⟨0, Nat.zero_le _, rfl, by simpa using h0, Below.refl _ _⟩
  case round =>
    obtain ⟨k, hk, rfl, hJs, hnx⟩ := hrel
    by_cases hlt : k < n
    · have hkx : k < xs.length := by rw [HL.out]; exact hlt
      obtain ⟨b, off, rfl, hc⟩ := HR.out.cells k _ (q8s_get xs k hkx)
      obtain ⟨fn, tmps, assign, body, hy, hR⟩ := hY _ (xs[k]?.getD 0) wr hJs (by rw [List.length_take, HL.out]; omega)
      have hcx : wr.cell? ⟨b, off + k, none⟩ = some (.int .u64 ((xs[k]?.getD 0).toNat : Int)) := (hnx.cell (p := ⟨b, off + k, none⟩) (hA ⟨b, off, none⟩ rfl (by omega))).trans hc
      clear hkx
      gi_wp2
      refine hR.mono ?_
      rintro e W3 (⟨rfl, hJ3, hk3⟩ | ⟨rfl, hJx3⟩)
      · gi_wp2
        go_roundw
        case rel => exact ⟨k + 1, by omega, by simp, by rw [q8s_snoc xs k (by rw [HL.out]; exact hlt)]; exact hJ3, hnx.trans hk3⟩
        case measure => simp [intOf]; omega
      · gi_wp2
        refine bodyPost_ret (results_none rfl _ _ _) rfl ?_
        exact ⟨⟨_, rfl⟩, .inr ⟨_, by rw [← q8s_snoc xs k (by rw [HL.out]; exact hlt)]; exact List.take_prefix _ _, hJx3⟩⟩
    · obtain rfl : k = n := by omega
      gi_wp2
      go_end0
      exact ⟨⟨_, rfl⟩, .inl ⟨_, by rw [List.take_of_length_le (by rw [HL.out]; exact Nat.le_refl _)], hJs⟩⟩

set_option maxHeartbeats 400000 in
theorem qvalues_any (A : Option Addr) (n c : Nat) (w : World) :
    Calls Try.prog 54 #[.slice A n c] w fun e w' => e = .returned (.func (.func 64) #[] #[.pointer (some ⟨w.heap.size, 0, none⟩)]) ∧ w.alloc (.cells #[.slice A n c] 24) = w' := by
  go_enter Try.func54, Try.ntmps54
  go_wp2
  go_ret
  exact ⟨rfl, rfl⟩

theorem qvalues_stops (Bs n₀ : Nat) (A : Option Addr) (n c : Nat) (xs : List UInt64) (hA : ∀ a, A = some a → 0 < n → a.block < n₀) (w : World) (hBs : Bs < w.heap.size) (hn₀ : n₀ ≤ w.heap.size)
    (hc : w.cell? ⟨Bs, 0, none⟩ = some (.slice A n c)) (hr : Rd w A n c 1 (q8s xs)) :
    SeqStopsK FW 3 Try.prog 64 #[.pointer (some ⟨Bs, 0, none⟩)] (fun x : UInt64 => #[Value.int .u64 (x.toNat : Int)]) (Below n₀) (fun ys => ys = xs) (fun pre => pre <+: xs) n w := fun l J Jx W hW _ _ hY h0 =>
  qvalues1 l Bs n₀ A n c xs hA J Jx hY W ((hW.cell (p := ⟨Bs, 0, none⟩) hBs).trans hc) (hr.below hW) h0

set_option maxRecDepth 100000 in
set_option maxHeartbeats 2000000 in
theorem qfold_any (s : Int) (B0 : Nat) (A : Option Addr) (n c : Nat) (xs : List UInt64) (w : World) (hB : w.cell? ⟨B0, 0, none⟩ = some (.slice A n c)) (hB0 : B0 < w.heap.size) (hr : Rd w A n c 1 (q8s xs)) :
    Calls Try.prog 53 #[.func (.func 64) #[] #[.pointer (some ⟨B0, 0, none⟩)], .int .u64 s, .func (.func 55) #[] #[]] w fun e W' => e = .returned (.int .u64 (mixf s xs)) ∧ Below w.heap.size w W' := by
  have bS := Boxed.new w 23 (.int .u64 s)
  have bF := Boxed.new (w.alloc (.cells #[.int .u64 s] 23)) 87 (.func (.func 55) #[] #[])
  rw [World.size_alloc] at bF
  have hBW : Below w.heap.size w ((w.alloc (.cells #[.int .u64 s] 23)).alloc (.cells #[.func (.func 55) #[] #[]] 87)) := ((Below.refl _ w).alloc (Nat.le_refl _) _).alloc (by simp) _
  have hst := qvalues_stops B0 w.heap.size A n c xs (rd_in hr) _ (by simp; omega) (by simp; omega) ((hBW.cell (p := ⟨B0, 0, none⟩) hB0).trans hB) (hr.below hBW)
  refine (callsIn_wide (n := 4)).1 ?_
  refine callsIn_of_wp_marks Try.func53 rfl trivial ?_ rfl
  simp only [Try.ntmps53, List.size_toArray, List.length_cons, List.length_nil, Nat.reduceAdd, Nat.reduceSub, Array.replicate_succ, Array.replicate_zero, List.push_toArray, List.append_toArray, List.nil_append, List.cons_append]
  gi_wp2
  refine wpIn_rangeFunc_ownG rfl (by omega) (gf := 64) (lb := #[.pointer (some ⟨B0, 0, none⟩)]) rfl trivial (enters_of Try.func64 (by kernel_rfl) rfl)
    hst belowK_t (belowK_b (by simp; omega)) (Below.refl _ _) (fun _ => rfl)
    (fun pre W => ((W.cell? ⟨w.heap.size, 0, none⟩ = some (.int .u64 (mixf s pre)) ∧ W.frozen? ⟨w.heap.size, 0, none⟩ = false) ∧ W.cell? ⟨w.heap.size + 1, 0, none⟩ = some (.func (.func 55) #[] #[])) ∧ Below w.heap.size w W)
    (fun _ _ _ => False)
    (OwnFrom.and (Own.from (fun s A B row hs hg hr => ⟨⟨cell_kept hs.1.1 hg hr, (frozen_kept hs.1.1 hg hr).trans hs.1.2⟩, cell_kept hs.2 hg hr⟩) _) (ownFrom_below (Nat.le_refl _) (by simp; omega)))
    (fun _ _ _ _ _ hs _ _ => hs)
    ⟨⟨⟨(bS.alloc _).cell, (bS.alloc _).frozen⟩, bF.cell⟩, hBW⟩
    (fun x => { tmps := #[.func (.func 64) #[] #[.pointer (some ⟨B0, 0, none⟩)], .int .u64 s, .func (.func 55) #[] #[], undef, .pointer (some ⟨w.heap.size, 0, none⟩), .pointer (some ⟨w.heap.size + 1, 0, none⟩), .int .u64 0, .int .u64 (x.toNat : Int), .func (.func 64) #[] #[.pointer (some ⟨B0, 0, none⟩)], .int .u64 (x.toNat : Int), undef, undef, undef, undef, undef], defers := [] }) ?assign ?body ?done ?stop
  case assign =>
    intro l x W K hK
    gi_wp2
    exact hK
  case body =>
    rintro l pre x W ⟨⟨⟨hc, hf⟩, hc2⟩, hB⟩ _
    gi_wp2_with fail
    refine ⟨trivial, ?_⟩
    refine (CallsIn.inRound l (callsIn_wide.2 (mix1n_any _ x W))).mono ?_
    rintro e w1 ⟨rfl, hW1⟩
    have hc1 := below_cell hW1 hc
    have hf1 := below_thawed hW1 hc hf
    have hc3 := below_cell hW1 hc2
    have hs := Nat.le_trans hB.size hW1.size
    have hkf : KeepsFrom w.heap.size W w1 := ⟨hW1.size, fun k o _ hk _ => (hW1.block k (Array.getElem?_eq_some_iff.1 hk).1).trans hk⟩
    gi_wp2
    exact ⟨keepsFrom_mono (hkf.trans ((KeepsOthers.setCell w1 ⟨w.heap.size, 0, none⟩ _).from _)) (by simp; omega), (hW1.mono hB.size).setCell (p := ⟨w.heap.size, 0, none⟩) (Nat.le_refl _) _, ⟨⟨by rw [mixf_snoc]; exact World.cell?_setCell_same' _ _ _ (by rw [hc1]; rfl), by rw [World.frozen?_setCell]; exact hf1⟩, (cell_far _ _ _ _ (by simp)).trans hc3⟩, (hB.trans (hW1.mono hB.size)).setCell (p := ⟨w.heap.size, 0, none⟩) (Nat.le_refl _) _⟩
  case done =>
    rintro D ys W hD rfl ⟨⟨⟨hc, _⟩, _⟩, hB⟩ hK
    gi_wp2
    refine ⟨by simp, .inl ⟨_, _, rfl, run_takeDeferred hK, ?_⟩⟩
    exact ⟨_, results_tmp rfl _ _ _, rfl, hB.trans (belowK_b (w := w) (Nat.le_refl _) W D _ _ (by simp at hD; omega) hK rfl rfl)⟩
  case stop =>
    rintro D c pre W _ _ h _
    exact h.elim

end Go.Proofs.Ytnlninmjmjffcaa
