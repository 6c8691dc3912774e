/- Walks: an act that can be written; is it read as it was. Conditions: the reader is as Open made it; the act is small. -/
import Derived.Test.YtondodhpmghogaaB0
import Derived.Test.YtondodhpmghogaaL2
import Derived.Deep.RegionHeld3
namespace Go.Proofs.Ytondodhpmghogaa
open Go.RowKit
set_option linter.unusedVariables false
set_option linter.unusedSimpArgs false

def pick (x n : Int) : Int := if n < 1 then 0 else (x.tmod n + n) % n
theorem pick_range (x n : Int) (h : 1 ≤ n) : 0 ≤ pick x n ∧ pick x n < n := by
  unfold pick
  rw [if_neg (by omega)]
  exact ⟨Int.emod_nonneg _ (by omega), Int.emod_lt_of_pos _ (by omega)⟩
set_option maxHeartbeats 400000 in
theorem pick_any (x n : Int) (w : World) (hn : n ≤ 4611686018427387904) : Calls Try.prog 72 #[.int .i64 x, .int .i64 n] w fun e w' => e = .returned (.int .i64 (pick x n)) ∧ w = w' := by
  by_cases h : n < 1
  · go_enter Try.func72, Try.ntmps72
    go_wp2
    go_ret
    exact ⟨ret_int (by unfold pick; rw [if_pos h]), rfl⟩
  · have h1 : 1 ≤ n := by omega
    have hm1 : -n < x.tmod n := Int.lt_tmod_of_pos x (by omega)
    have hm2 : x.tmod n < n := Int.tmod_lt_of_pos x (by omega)
    have hne : ((n : Int) == 0) = false := by simp; omega
    go_enter Try.func72, Try.ntmps72
    go_wp2
    go_ret
    exact ⟨ret_int (by unfold pick; rw [if_neg (by omega)]; simp), rfl⟩
/-- an act that can be written -/
def rightA (x : Ac) : Ac := if x.k = 0 then { x with n := pick x.n 4611686018427387904 } else x
theorem rightA_right (x : Ac) (hs : x.s.size ≤ 300) (hl : x.l.length ≤ 300) : Right (rightA x) := by
  unfold rightA
  by_cases h : x.k = 0
  · rw [if_pos h]
    have := pick_range x.n 4611686018427387904 (by decide)
    exact ⟨fun _ => ⟨this.1, by show pick x.n 4611686018427387904 ≤ _; omega⟩, hs, hl⟩
  · rw [if_neg h]
    exact ⟨fun e => absurd e h, hs, hl⟩
theorem rightA_same (x : Ac) : (rightA x).k = x.k ∧ (rightA x).s = x.s ∧ (rightA x).M = x.M ∧ (rightA x).m = x.m ∧ (rightA x).d = x.d ∧ (rightA x).l = x.l := by
  unfold rightA; split <;> exact ⟨rfl, rfl, rfl, rfl, rfl, rfl⟩
theorem rightA_ok {w : World} {x : Ac} (h : AcOk w x) : AcOk w (rightA x) := by
  obtain ⟨h1, h2, h3, h4, h5, h6⟩ := rightA_same x
  refine ⟨?_, by rw [h2]; exact h.s, by rw [h4]; exact h.m, by rw [h3, h4, h5, h6]; exact h.rd⟩
  unfold rightA
  split
  · have := pick_range x.n 4611686018427387904 (by decide)
    show pick x.n 4611686018427387904 ≤ _; omega
  · exact h.n
set_option maxRecDepth 100000 in
set_option maxHeartbeats 2000000 in
theorem right_any (x : Ac) (w : World) : Calls Try.prog 40 #[.agg x.cells.toArray] w fun e w' => e = .returned (.agg (rightA x).cells.toArray) ∧ Below w.heap.size w w' := by
  obtain ⟨k, n, s, M, m, d, l⟩ := x
  have hbx := box_below w (.cells #[.int .i64 k, .int .i64 n, .string s, .slice M m d] 34)
  obtain ⟨w1, hw1⟩ : ∃ z, z = (w.alloc (.cells #[.int .i64 k, .int .i64 n, .string s, .slice M m d] 34)).alloc (.cells #[.int .i64 0, .int .i64 0, .string ⟨#[]⟩, .slice none 0 0] 34) := ⟨_, rfl⟩
  have hb1 : Below w.heap.size w w1 := by rw [hw1]; exact hbx.alloc (by simp) _
  have hX : Blk w1 w.heap.size 34 #[.int .i64 k, .int .i64 n, .string s, .slice M m d] := by rw [hw1]; exact blk_below (blk_new _ _ _) (box_below _ _)
  have hY : Blk w1 (w.heap.size + 1) 34 #[.int .i64 0, .int .i64 0, .string ⟨#[]⟩, .slice none 0 0] := by
    rw [hw1]
    have := blk_new (w.alloc (.cells #[.int .i64 k, .int .i64 n, .string s, .slice M m d] 34)) 34 #[.int .i64 0, .int .i64 0, .string ⟨#[]⟩, .slice none 0 0]
    rwa [World.size_alloc] at this
  have HB1 := Lib.hid hb1; have HX := Lib.hid hX; have HY := Lib.hid hY
  clear hbx hb1 hX hY
  show Calls Try.prog 40 #[.agg #[.int .i64 k, .int .i64 n, .string s, .slice M m d]] w _
  by_cases h0 : k = 0
  · obtain ⟨v, hv⟩ : ∃ v, v = pick n 4611686018427387904 := ⟨_, rfl⟩
    have hres : (rightA ⟨k, n, s, M, m, d, l⟩).cells.toArray = #[.int .i64 k, .int .i64 v, .string s, .slice M m d] := by
      unfold rightA; rw [if_pos h0, hv]; rfl
    have HV := Lib.hid hv
    clear hv
    rw [hres]
    have g1 : (k == 0) = true := by simpa using h0
    have p0 := blk_cell HX.out 0 _ rfl
    have p1 := blk_cell HX.out 1 _ rfl
    have p2 := blk_thawed HX.out 1
    clear h0 hres
    go_enter Try.func40, Try.ntmps40
    go_wp2_with fail
    rw [← hw1]
    clear hw1
    refine (pick_any n 4611686018427387904 w1 (Int.le_refl _)).mono ?_
    rw [← HV.out]
    rintro e w2 ⟨rfl, rfl⟩
    have HX2 := HX; have HY2 := HY
    have HYF := Lib.hid (blk_ch HY.out (Ch.setCell w1 ⟨w.heap.size, 1, none⟩ (.int .i64 v)) (fun e => by have e : w.heap.size + 1 = w.heap.size := e; omega))
    have HB2 := Lib.hid ((ch_set (Ch.of_below HB1.out (fun j => j = w.heap.size)) ⟨w.heap.size, 1, none⟩ (.int .i64 v) rfl).below (Nat.le_refl _) (fun j hj => by omega))
    clear p0 p1
    have c0 := blk_cell HX2.out 0 _ rfl
    have c1 := blk_cell HX2.out 1 _ rfl
    have c2 := blk_cell HX2.out 2 _ rfl
    have c3 := blk_cell HX2.out 3 _ rfl
    have d0 := blk_cell HY2.out 0 _ rfl
    have d1 := blk_cell HY2.out 1 _ rfl
    have d2 := blk_cell HY2.out 2 _ rfl
    have d3 := blk_cell HY2.out 3 _ rfl
    have e0 := blk_thawed HY2.out 0
    have e1 := blk_thawed HY2.out 1
    have e2 := blk_thawed HY2.out 2
    have e3 := blk_thawed HY2.out 3
    go_wp2_with fail
    exact bodyPost_ret (results_cell_row rfl _ _ (w.heap.size + 1) 34 _ (0, 0) _ rfl (blk_set (blk_set (blk_set (blk_set HYF.out 0 (.int .i64 k)) 1 (.int .i64 v)) 2 (.string s)) 3 (.slice M m d)) Try.underlying34 rfl (by kernel_rfl)) rfl ⟨rfl, (ch_set (ch_set (ch_set (ch_set (Ch.of_below HB2.out (fun j => j = w.heap.size + 1)) ⟨w.heap.size + 1, 0, none⟩ (.int .i64 k) rfl) ⟨w.heap.size + 1, 1, none⟩ (.int .i64 v) rfl) ⟨w.heap.size + 1, 2, none⟩ (.string s) rfl) ⟨w.heap.size + 1, 3, none⟩ (.slice M m d) rfl).below (Nat.le_refl _) (fun j hj => by omega)⟩
  · have hres : (rightA ⟨k, n, s, M, m, d, l⟩).cells.toArray = #[.int .i64 k, .int .i64 n, .string s, .slice M m d] := by
      unfold rightA; rw [if_neg h0]; rfl
    rw [hres]
    have g1 : (k == 0) = false := by simpa using h0
    clear h0 hres hw1 HX HY HB1
    go_enter Try.func40, Try.ntmps40
    go_wp2_with fail
    exact bodyPost_ret (results_cell_row rfl _ _ (w.heap.size + 1) 34 _ (0, 0) _ rfl (heap_alloc2_new w _ _) Try.underlying34 rfl (by kernel_rfl)) rfl ⟨rfl, (box_below w _).alloc (by simp) _⟩
end Go.Proofs.Ytondodhpmghogaa
