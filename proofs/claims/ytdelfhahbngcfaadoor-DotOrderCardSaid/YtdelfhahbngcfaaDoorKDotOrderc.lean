/- Words, walks and plain laws for the row, packed: each text in a section of its own. Conditions stand with each theorem. -/
import Derived.Deep.Slices
import Derived.ChangeArms
import Derived.ChangeSlices
import Derived.OpenShut
import Derived.Test.YtdelfhahbngcfaaDoorKDotOrdera
import Derived.Test.YtdelfhahbngcfaaDoorKDotOrderb
section
namespace Go.Proofs.YtdelfhahbngcfaaDoorX.P06
open Go.RowKit Go.Proofs.YtdelfhahbngcfaaDoorW.PrintWords Go.Proofs.YtdelfhahbngcfaaDoorW.PrintLast Go.Proofs.YtdelfhahbngcfaaDoorW.PrintMore
attribute [local go_sem] max2_int min2_int max_two min_two max_three min_three max_four min_four   -- for this text's walks alone
set_option linter.unusedVariables false
set_option linter.unusedSimpArgs false
section
attribute [local go_sem high] eqA23
def tributarylaw06_DotOrder.j0 : Nat → Bool → Bool → Int → Int → Int → Int → Option (Bool)
  | 0, _, _, _, _, _, _ => none
  | k + 1, x7, x48, x249000, x249001, x250000, x250001 => if x48 = true then (some false) else ((dot_Next.f x249000 x249001).bind fun bt256 => (if x7 = true then (if bt256.2.2 = 0 then ((dot_Less.f k x249000 x249001 bt256.1 bt256.2.1).bind fun t260 => (if t260 = true then ((dot_Less.f k x249000 x249001 x250000 x250001).bind fun t261 => (if t261 = true then ((dot_Less.f k x250000 x250001 bt256.1 bt256.2.1).bind fun t262 => (if t262 = true then (some false) else ((dot_Check.f bt256.1 bt256.2.1).bind fun t263 => (some (t263 == 0))))) else ((dot_Check.f bt256.1 bt256.2.1).bind fun t264 => (some (t264 == 0))))) else (some false))) else (some true)) else (some false)))
def tributarylaw06_DotOrder.f (k : Nat) (a0_0 : Int) (a0_1 : Int) (a1_0 : Int) (a1_1 : Int) (a2_0 : Int) (a2_1 : Int) : Option (Bool) := (tributarylaw06_awake.f).bind fun t251 => ((dot_Less.f k a0_0 a0_1 a1_0 a1_1).bind fun t252 => ((dot_Less.f k a1_0 a1_1 a0_0 a0_1).bind fun t253 => (if t252 = true then (if t253 = true then (tributarylaw06_DotOrder.j0 k t251 true a0_0 a0_1 a1_0 a1_1) else (if ((a0_0 == a1_0 && (a0_1 == a1_1)) != false) = true then (tributarylaw06_DotOrder.j0 k t251 true a0_0 a0_1 a1_0 a1_1) else ((dot_Less.f k a1_0 a1_1 a2_0 a2_1).bind fun t254 => (if t254 = true then ((dot_Less.f k a0_0 a0_1 a2_0 a2_1).bind fun t255 => (tributarylaw06_DotOrder.j0 k t251 (!t255) a0_0 a0_1 a1_0 a1_1)) else (tributarylaw06_DotOrder.j0 k t251 false a0_0 a0_1 a1_0 a1_1))))) else (if ((a0_0 == a1_0 && (a0_1 == a1_1)) != (!t253)) = true then (tributarylaw06_DotOrder.j0 k t251 true a0_0 a0_1 a1_0 a1_1) else (tributarylaw06_DotOrder.j0 k t251 false a0_0 a0_1 a1_0 a1_1)))))
def tributarylaw06_DotOrder.T2 : Bool × List (List Nat × List Nat) := (true, [([], []), ([], []), ([0, 1], [0, 1]), ([], []), ([], []), ([3, 4, 2], [3, 4]), ([2, 5, 0, 1, 2], [2]), ([5, 6, 0, 1, 2, 3, 4, 5, 6], [5])])
def tributarylaw06_DotOrder.B2 : List Nat := [0, 0, 3, 0, 0, 31, 63, 127]
theorem tributarylaw06_DotOrder.tab2 : rtab .any (opsOf Tryd.f5 2) = tributarylaw06_DotOrder.T2 := by kernel_rfl
theorem tributarylaw06_DotOrder.bits2 : waitsOk tributarylaw06_DotOrder.T2.2 tributarylaw06_DotOrder.B2 = true := by kernel_rfl
set_option maxHeartbeats 8000000 in
set_option maxRecDepth 100000 in
theorem tributarylaw06_DotOrder.calls (k : Nat) (a0_0 : Int) (a0_1 : Int) (a1_0 : Int) (a1_1 : Int) (a2_0 : Int) (a2_1 : Int) (r : Bool) (w : World) (h : tributarylaw06_DotOrder.f k a0_0 a0_1 a1_0 a1_1 a2_0 a2_1 = some r) (hT : Laid w) :
    Calls Tryd.prog 5 #[.agg #[.int .i64 a0_0, .int .i64 a0_1], .agg #[.int .i64 a1_0, .int .i64 a1_1], .agg #[.int .i64 a2_0, .int .i64 a2_1]] w fun e w' => e = .returned (.bool r) ∧ Below w.heap.size w w' := by
  have HLAID := Aside0.mk hT
  clear hT
  have hu23 := Tryd.underlying23
  have HB := Aside0.mk (Below.refl w.heap.size w)
  have H : ((tributarylaw06_awake.f).bind fun t251 => ((dot_Less.f k a0_0 a0_1 a1_0 a1_1).bind fun t252 => ((dot_Less.f k a1_0 a1_1 a0_0 a0_1).bind fun t253 => (if t252 = true then (if t253 = true then (tributarylaw06_DotOrder.j0 k t251 true a0_0 a0_1 a1_0 a1_1) else (if ((a0_0 == a1_0 && (a0_1 == a1_1)) != false) = true then (tributarylaw06_DotOrder.j0 k t251 true a0_0 a0_1 a1_0 a1_1) else ((dot_Less.f k a1_0 a1_1 a2_0 a2_1).bind fun t254 => (if t254 = true then ((dot_Less.f k a0_0 a0_1 a2_0 a2_1).bind fun t255 => (tributarylaw06_DotOrder.j0 k t251 (!t255) a0_0 a0_1 a1_0 a1_1)) else (tributarylaw06_DotOrder.j0 k t251 false a0_0 a0_1 a1_0 a1_1))))) else (if ((a0_0 == a1_0 && (a0_1 == a1_1)) != (!t253)) = true then (tributarylaw06_DotOrder.j0 k t251 true a0_0 a0_1 a1_0 a1_1) else (tributarylaw06_DotOrder.j0 k t251 false a0_0 a0_1 a1_0 a1_1)))))) = some r := h
  clear h
  replace H := Option.bind_eq_some_iff.mp H
  obtain ⟨t251, A40, H⟩ := H
  replace H : ((dot_Less.f k a0_0 a0_1 a1_0 a1_1).bind fun t252 => ((dot_Less.f k a1_0 a1_1 a0_0 a0_1).bind fun t253 => (if t252 = true then (if t253 = true then (tributarylaw06_DotOrder.j0 k t251 true a0_0 a0_1 a1_0 a1_1) else (if ((a0_0 == a1_0 && (a0_1 == a1_1)) != false) = true then (tributarylaw06_DotOrder.j0 k t251 true a0_0 a0_1 a1_0 a1_1) else ((dot_Less.f k a1_0 a1_1 a2_0 a2_1).bind fun t254 => (if t254 = true then ((dot_Less.f k a0_0 a0_1 a2_0 a2_1).bind fun t255 => (tributarylaw06_DotOrder.j0 k t251 (!t255) a0_0 a0_1 a1_0 a1_1)) else (tributarylaw06_DotOrder.j0 k t251 false a0_0 a0_1 a1_0 a1_1))))) else (if ((a0_0 == a1_0 && (a0_1 == a1_1)) != (!t253)) = true then (tributarylaw06_DotOrder.j0 k t251 true a0_0 a0_1 a1_0 a1_1) else (tributarylaw06_DotOrder.j0 k t251 false a0_0 a0_1 a1_0 a1_1))))) = some r := H
  have A4 := Aside0.mk A40
  clear A40
  replace H := Option.bind_eq_some_iff.mp H
  obtain ⟨t252, A50, H⟩ := H
  replace H : ((dot_Less.f k a1_0 a1_1 a0_0 a0_1).bind fun t253 => (if t252 = true then (if t253 = true then (tributarylaw06_DotOrder.j0 k t251 true a0_0 a0_1 a1_0 a1_1) else (if ((a0_0 == a1_0 && (a0_1 == a1_1)) != false) = true then (tributarylaw06_DotOrder.j0 k t251 true a0_0 a0_1 a1_0 a1_1) else ((dot_Less.f k a1_0 a1_1 a2_0 a2_1).bind fun t254 => (if t254 = true then ((dot_Less.f k a0_0 a0_1 a2_0 a2_1).bind fun t255 => (tributarylaw06_DotOrder.j0 k t251 (!t255) a0_0 a0_1 a1_0 a1_1)) else (tributarylaw06_DotOrder.j0 k t251 false a0_0 a0_1 a1_0 a1_1))))) else (if ((a0_0 == a1_0 && (a0_1 == a1_1)) != (!t253)) = true then (tributarylaw06_DotOrder.j0 k t251 true a0_0 a0_1 a1_0 a1_1) else (tributarylaw06_DotOrder.j0 k t251 false a0_0 a0_1 a1_0 a1_1)))) = some r := H
  have A5 := Aside0.mk A50
  clear A50
  replace H := Option.bind_eq_some_iff.mp H
  obtain ⟨t253, A60, H⟩ := H
  replace H : (if t252 = true then (if t253 = true then (tributarylaw06_DotOrder.j0 k t251 true a0_0 a0_1 a1_0 a1_1) else (if ((a0_0 == a1_0 && (a0_1 == a1_1)) != false) = true then (tributarylaw06_DotOrder.j0 k t251 true a0_0 a0_1 a1_0 a1_1) else ((dot_Less.f k a1_0 a1_1 a2_0 a2_1).bind fun t254 => (if t254 = true then ((dot_Less.f k a0_0 a0_1 a2_0 a2_1).bind fun t255 => (tributarylaw06_DotOrder.j0 k t251 (!t255) a0_0 a0_1 a1_0 a1_1)) else (tributarylaw06_DotOrder.j0 k t251 false a0_0 a0_1 a1_0 a1_1))))) else (if ((a0_0 == a1_0 && (a0_1 == a1_1)) != (!t253)) = true then (tributarylaw06_DotOrder.j0 k t251 true a0_0 a0_1 a1_0 a1_1) else (tributarylaw06_DotOrder.j0 k t251 false a0_0 a0_1 a1_0 a1_1))) = some r := H
  have A6 := Aside0.mk A60
  clear A60
  have HC7 := Aside0.mk H
  clear H
  go_enter Tryd.func5, Tryd.ntmps5
  try go_wp2_with (first | ((with_reducible refine gate_dst (N := 3) rfl ?_); refine box_event ?hg (N := 3) ?hd (cs := #[.int .i64 a0_0, .int .i64 a0_1]) (t := 23) ?hr ?_; (case hd => rfl); (case hg => rfl); (case hr => first | (go_simp; done) | (go_simp; rfl)); intro gb248 hg w8 hbox hb; have n0_ := Aside0.mk (below_step (by repeat (first | (with_reducible first | exact HB.out | apply below_alloc | apply pw_below_drewN | apply below_drew1) | exact HB.out)) hb); have n1_ := Aside0.mk (hbox); have n2_ := Aside0.mk ((by rw [hg]; exact (below_size (by repeat (first | (with_reducible first | exact HB.out | apply below_alloc | apply pw_below_drewN | apply below_drew1) | exact HB.out))) : w.heap.size ≤ gb248)); have n3_ := Aside0.mk ((by rw [hg]; exact (below_size (by repeat (first | (with_reducible first | exact HB.out | apply below_alloc | apply pw_below_drewN | apply below_drew1) | exact HB.out))) : w.heap.size ≤ gb248)); clear HB; have HB := n0_; have BK248 := n1_; have GW248 := n2_; have GE248 := n3_; clear n0_ n1_ n2_ n3_; clear hb hbox hg) | ((with_reducible refine gate_dst (N := 4) rfl ?_); refine box_event ?hg (N := 4) ?hd (cs := #[.int .i64 a1_0, .int .i64 a1_1]) (t := 23) ?hr ?_; (case hd => rfl); (case hg => rfl); (case hr => first | (go_simp; done) | (go_simp; rfl)); intro gb249 hg w9 hbox hb; have n0_ := Aside0.mk (blk_below (g := gb248) (o := .cells #[.int .i64 a0_0, .int .i64 a0_1] 23 (0, 0)) (by (with_reducible repeat (first | refine blk_drewN ?_ _ | refine blk_drew ?_ | refine blk_alloc ?_ _)); exact BK248.out) hb); have n1_ := Aside0.mk (below_step (by repeat (first | (with_reducible first | exact HB.out | apply below_alloc | apply pw_below_drewN | apply below_drew1 | refine below_set ?_ GE248.out) | exact HB.out)) hb); have n2_ := Aside0.mk (hbox); have n3_ := Aside0.mk ((by rw [hg]; exact (below_size (by repeat (first | (with_reducible first | exact HB.out | apply below_alloc | apply pw_below_drewN | apply below_drew1 | refine below_set ?_ GE248.out) | exact HB.out))) : w.heap.size ≤ gb249)); have n4_ := Aside0.mk ((by rw [hg]; exact (below_size (by repeat (first | (with_reducible first | exact HB.out | apply below_alloc | apply pw_below_drewN | apply below_drew1 | refine below_set ?_ GE248.out) | exact HB.out))) : w.heap.size ≤ gb249)); have n5_ := Aside0.mk ((by rw [hg]; exact Nat.ne_of_lt (blk_lt (g := gb248) (o := .cells #[.int .i64 a0_0, .int .i64 a0_1] 23 (0, 0)) (by (with_reducible repeat (first | refine blk_drewN ?_ _ | refine blk_drew ?_ | refine blk_alloc ?_ _)); exact BK248.out)) : gb248 ≠ gb249)); have n6_ := Aside0.mk ((by rw [hg]; exact Nat.ne_of_gt (blk_lt (g := gb248) (o := .cells #[.int .i64 a0_0, .int .i64 a0_1] 23 (0, 0)) (by (with_reducible repeat (first | refine blk_drewN ?_ _ | refine blk_drew ?_ | refine blk_alloc ?_ _)); exact BK248.out)) : gb249 ≠ gb248)); clear BK248; clear HB; have BK248 := n0_; have HB := n1_; have BK249 := n2_; have GW249 := n3_; have GE249 := n4_; have NB248_249 := n5_; have NB249_248 := n6_; clear n0_ n1_ n2_ n3_ n4_ n5_ n6_; clear hb hbox hg) | ((with_reducible refine gate_dst (N := 5) rfl ?_); refine box_event ?hg (N := 5) ?hd (cs := #[.int .i64 a2_0, .int .i64 a2_1]) (t := 23) ?hr ?_; (case hd => rfl); (case hg => rfl); (case hr => first | (go_simp; done) | (go_simp; rfl)); intro gb250 hg w10 hbox hb; have n0_ := Aside0.mk (blk_below (g := gb248) (o := .cells #[.int .i64 a0_0, .int .i64 a0_1] 23 (0, 0)) (by (with_reducible repeat (first | refine blk_drewN ?_ _ | refine blk_drew ?_ | refine blk_alloc ?_ _)); exact BK248.out) hb); have n1_ := Aside0.mk (blk_below (g := gb249) (o := .cells #[.int .i64 a1_0, .int .i64 a1_1] 23 (0, 0)) (by (with_reducible repeat (first | refine blk_drewN ?_ _ | refine blk_drew ?_ | refine blk_alloc ?_ _)); exact BK249.out) hb); have n2_ := Aside0.mk (below_step (by repeat (first | (with_reducible first | exact HB.out | apply below_alloc | apply pw_below_drewN | apply below_drew1 | refine below_set ?_ GE248.out | refine below_set ?_ GE249.out) | exact HB.out)) hb); have n3_ := Aside0.mk (hbox); have n4_ := Aside0.mk ((by rw [hg]; exact (below_size (by repeat (first | (with_reducible first | exact HB.out | apply below_alloc | apply pw_below_drewN | apply below_drew1 | refine below_set ?_ GE248.out | refine below_set ?_ GE249.out) | exact HB.out))) : w.heap.size ≤ gb250)); have n5_ := Aside0.mk ((by rw [hg]; exact (below_size (by repeat (first | (with_reducible first | exact HB.out | apply below_alloc | apply pw_below_drewN | apply below_drew1 | refine below_set ?_ GE248.out | refine below_set ?_ GE249.out) | exact HB.out))) : w.heap.size ≤ gb250)); have n6_ := Aside0.mk ((by rw [hg]; exact Nat.ne_of_lt (blk_lt (g := gb248) (o := .cells #[.int .i64 a0_0, .int .i64 a0_1] 23 (0, 0)) (by (with_reducible repeat (first | refine blk_drewN ?_ _ | refine blk_drew ?_ | refine blk_alloc ?_ _)); exact BK248.out)) : gb248 ≠ gb250)); have n7_ := Aside0.mk ((by rw [hg]; exact Nat.ne_of_gt (blk_lt (g := gb248) (o := .cells #[.int .i64 a0_0, .int .i64 a0_1] 23 (0, 0)) (by (with_reducible repeat (first | refine blk_drewN ?_ _ | refine blk_drew ?_ | refine blk_alloc ?_ _)); exact BK248.out)) : gb250 ≠ gb248)); have n8_ := Aside0.mk ((by rw [hg]; exact Nat.ne_of_lt (blk_lt (g := gb249) (o := .cells #[.int .i64 a1_0, .int .i64 a1_1] 23 (0, 0)) (by (with_reducible repeat (first | refine blk_drewN ?_ _ | refine blk_drew ?_ | refine blk_alloc ?_ _)); exact BK249.out)) : gb249 ≠ gb250)); have n9_ := Aside0.mk ((by rw [hg]; exact Nat.ne_of_gt (blk_lt (g := gb249) (o := .cells #[.int .i64 a1_0, .int .i64 a1_1] 23 (0, 0)) (by (with_reducible repeat (first | refine blk_drewN ?_ _ | refine blk_drew ?_ | refine blk_alloc ?_ _)); exact BK249.out)) : gb250 ≠ gb249)); clear BK248; clear BK249; clear HB; have BK248 := n0_; have BK249 := n1_; have HB := n2_; have BK250 := n3_; have GW250 := n4_; have GE250 := n5_; have NB248_250 := n6_; have NB250_248 := n7_; have NB249_250 := n8_; have NB250_249 := n9_; clear n0_ n1_ n2_ n3_ n4_ n5_ n6_ n7_ n8_ n9_; clear hb hbox hg) | ((with_reducible refine gate_callee (f := 9) rfl ?_); refine goesL_ (some 12) rfl rfl Tryd.func9 (by kernel_rfl) rfl #[] rfl (by (try simp only [List.map_toArray, List.map_cons, List.map_nil]); first | done | rfl | (simp only [List.length_drop, List.length_take]; rfl)) ?_; (with_reducible refine (tributarylaw06_awake.calls  t251 _ A4.out (laid_below HLAID.out (by repeat (first | (with_reducible first | exact HB.out | apply below_alloc | apply pw_below_drewN | apply below_drew1 | refine below_set ?_ GE248.out | refine below_set ?_ GE249.out | refine below_set ?_ GE250.out) | exact HB.out)))).mono ?_); rintro e w11 ⟨rfl, hb⟩; refine ⟨_, rfl, ?_⟩; have n0_ := Aside0.mk (blk_below (g := gb248) (o := .cells #[.int .i64 a0_0, .int .i64 a0_1] 23 (0, 0)) (by (with_reducible repeat (first | refine blk_drewN ?_ _ | refine blk_drew ?_ | refine blk_alloc ?_ _)); exact BK248.out) hb); have n1_ := Aside0.mk (blk_below (g := gb249) (o := .cells #[.int .i64 a1_0, .int .i64 a1_1] 23 (0, 0)) (by (with_reducible repeat (first | refine blk_drewN ?_ _ | refine blk_drew ?_ | refine blk_alloc ?_ _)); exact BK249.out) hb); have n2_ := Aside0.mk (blk_below (g := gb250) (o := .cells #[.int .i64 a2_0, .int .i64 a2_1] 23 (0, 0)) (by (with_reducible repeat (first | refine blk_drewN ?_ _ | refine blk_drew ?_ | refine blk_alloc ?_ _)); exact BK250.out) hb); have n3_ := Aside0.mk (below_step (by repeat (first | (with_reducible first | exact HB.out | apply below_alloc | apply pw_below_drewN | apply below_drew1 | refine below_set ?_ GE248.out | refine below_set ?_ GE249.out | refine below_set ?_ GE250.out) | exact HB.out)) hb); clear BK248; clear BK249; clear BK250; clear HB; have BK248 := n0_; have BK249 := n1_; have BK250 := n2_; have HB := n3_; clear n0_ n1_ n2_ n3_; (try clear hb); (try clear hb2); (try clear hk); (try clear hi)))
  have n0_ := Aside0.mk (blk_drew BK248.out)
  have n1_ := Aside0.mk (blk_drew BK249.out)
  have n2_ := Aside0.mk (blk_drew BK250.out)
  have n3_ := Aside0.mk (below_drew1 HB.out)
  clear BK248
  clear BK249
  clear BK250
  clear HB
  have BK248 := n0_
  have BK249 := n1_
  have BK250 := n2_
  have HB := n3_
  clear n0_ n1_ n2_ n3_
  refine start_ (n := 8) (S := fun w' => w'.cell? ⟨gb248, 0, none⟩ = some (.int .i64 a0_0) ∧ w'.cell? ⟨gb248, 1, none⟩ = some (.int .i64 a0_1) ∧ w'.cell? ⟨gb249, 0, none⟩ = some (.int .i64 a1_0) ∧ w'.cell? ⟨gb249, 1, none⟩ = some (.int .i64 a1_1)) (ds := []) #[false, false, false, false, false, false, false, false] (by kernel_rfl) rfl rfl ⟨(YtdelfhahbngcfaaDoorW.PrintWords.blk_cell BK248.out 0).trans rfl, (YtdelfhahbngcfaaDoorW.PrintWords.blk_cell BK248.out 1).trans rfl, (YtdelfhahbngcfaaDoorW.PrintWords.blk_cell BK249.out 0).trans rfl, (YtdelfhahbngcfaaDoorW.PrintWords.blk_cell BK249.out 1).trans rfl⟩ (fun hHeld => ?_); refine with_tabW tributarylaw06_DotOrder.tab2 tributarylaw06_DotOrder.bits2 (fun HT_ HW_ => ?_)
  generalize w11.drew = w12 at BK248 BK249 BK250 HB hHeld ⊢
  refine take_ (i := 0) (N := some 13) (v := ?_) (a' := ?_) #[true, false, false, false, false, false, false, false] rfl rfl (take_ofW HT_.out HW_.out (by kernel_rfl)) (fun _ _ _ h => h) (Or.inl ⟨by rfl, ?_⟩) hHeld ?_ ?_
  rotate_left
  · rintro w' ⟨s0, s1, s2, s3⟩
    go_simp
    with_reducible rfl
  rotate_left
  · simp only [Act.put, List.setIfInBounds_toArray, List.set_cons_zero, List.set_cons_succ, i64_w, i32_w]
    rfl
  refine take_ (i := 1) (N := some 14) (v := ?_) (a' := ?_) #[true, true, false, false, false, false, false, false] rfl rfl (take_ofW HT_.out HW_.out (by kernel_rfl)) (fun _ _ _ h => h) (Or.inl ⟨by rfl, ?_⟩) hHeld ?_ ?_
  rotate_left
  · rintro w' ⟨s0, s1, s2, s3⟩
    go_simp
    with_reducible rfl
  rotate_left
  · simp only [Act.put, List.setIfInBounds_toArray, List.set_cons_zero, List.set_cons_succ, i64_w, i32_w]
    rfl
  refine take_ (i := 3) (N := some 16) (v := ?_) (a' := ?_) #[true, true, false, true, false, false, false, false] rfl rfl (take_ofW HT_.out HW_.out (by kernel_rfl)) (fun _ _ _ h => h) (Or.inl ⟨by rfl, ?_⟩) hHeld ?_ ?_
  rotate_left
  · rintro w' ⟨s0, s1, s2, s3⟩
    go_simp
    with_reducible rfl
  rotate_left
  · simp only [Act.put, List.setIfInBounds_toArray, List.set_cons_zero, List.set_cons_succ, i64_w, i32_w]
    rfl
  refine take_ (i := 4) (N := some 17) (v := ?_) (a' := ?_) #[true, true, false, true, true, false, false, false] rfl rfl (take_ofW HT_.out HW_.out (by kernel_rfl)) (fun _ _ _ h => h) (Or.inl ⟨by rfl, ?_⟩) hHeld ?_ ?_
  rotate_left
  · rintro w' ⟨s0, s1, s2, s3⟩
    go_simp
    with_reducible rfl
  rotate_left
  · simp only [Act.put, List.setIfInBounds_toArray, List.set_cons_zero, List.set_cons_succ, i64_w, i32_w]
    rfl
  refine one_ (i := 2) (N := some 15) #[true, true, true, true, true, false, false, false] rfl rfl (one_of HT_.out (by kernel_rfl)) (by decide) (fun K hK => ?_)
  refine goes_ Tryd.func22 (by kernel_rfl) rfl #[.agg #[.int .i64 a0_0, .int .i64 a0_1], .agg #[.int .i64 a1_0, .int .i64 a1_1]] (by rfl) rfl rfl (by (try simp only [List.map_toArray, List.map_cons, List.map_nil]); first | done | rfl | (simp only [List.length_drop, List.length_take]; rfl)) ?_
  with_reducible refine (dot_Less.calls k a0_0 a0_1 a1_0 a1_1 t252 _ A5.out).mono ?_
  rintro e w13 ⟨rfl, hb⟩
  refine ⟨_, rfl, ?_⟩
  have n0_ := Aside0.mk (blk_below (g := gb248) (o := .cells #[.int .i64 a0_0, .int .i64 a0_1] 23 (0, 0)) (by (with_reducible repeat (first | refine blk_drewN ?_ _ | refine blk_drew ?_ | refine blk_alloc ?_ _)); exact BK248.out) hb)
  have n1_ := Aside0.mk (blk_below (g := gb249) (o := .cells #[.int .i64 a1_0, .int .i64 a1_1] 23 (0, 0)) (by (with_reducible repeat (first | refine blk_drewN ?_ _ | refine blk_drew ?_ | refine blk_alloc ?_ _)); exact BK249.out) hb)
  have n2_ := Aside0.mk (blk_below (g := gb250) (o := .cells #[.int .i64 a2_0, .int .i64 a2_1] 23 (0, 0)) (by (with_reducible repeat (first | refine blk_drewN ?_ _ | refine blk_drew ?_ | refine blk_alloc ?_ _)); exact BK250.out) hb)
  have n3_ := Aside0.mk (below_step (by repeat (first | (with_reducible first | exact HB.out | apply below_alloc | apply pw_below_drewN | apply below_drew1 | refine below_set ?_ GE248.out | refine below_set ?_ GE249.out | refine below_set ?_ GE250.out) | exact HB.out)) hb)
  clear BK248
  clear BK249
  clear BK250
  clear HB
  have BK248 := n0_
  have BK249 := n1_
  have BK250 := n2_
  have HB := n3_
  clear n0_ n1_ n2_ n3_
  (try clear hb)
  (try clear hb2)
  (try clear hk)
  (try clear hi)
  refine hK.out _ _ ⟨(YtdelfhahbngcfaaDoorW.PrintWords.blk_cell BK248.out 0).trans rfl, (YtdelfhahbngcfaaDoorW.PrintWords.blk_cell BK248.out 1).trans rfl, (YtdelfhahbngcfaaDoorW.PrintWords.blk_cell BK249.out 0).trans rfl, (YtdelfhahbngcfaaDoorW.PrintWords.blk_cell BK249.out 1).trans rfl⟩ (fun hHeld => ?_)
  clear hK K
  refine norm_ (a' := ?_) ?_ ?_
  rotate_left
  · show Act.put _ (some 15) _ = _
    simp only [Act.put, List.setIfInBounds_toArray, List.set_cons_zero, List.set_cons_succ, i64_w, i32_w]
    rfl
  refine one_ (i := 5) (N := some 18) #[true, true, true, true, true, true, false, false] rfl rfl (one_of HT_.out (by kernel_rfl)) (by decide) (fun K hK => ?_)
  refine goes_ Tryd.func22 (by kernel_rfl) rfl #[.agg #[.int .i64 a1_0, .int .i64 a1_1], .agg #[.int .i64 a0_0, .int .i64 a0_1]] (by rfl) rfl rfl (by (try simp only [List.map_toArray, List.map_cons, List.map_nil]); first | done | rfl | (simp only [List.length_drop, List.length_take]; rfl)) ?_
  with_reducible refine (dot_Less.calls k a1_0 a1_1 a0_0 a0_1 t253 _ A6.out).mono ?_
  rintro e w14 ⟨rfl, hb⟩
  refine ⟨_, rfl, ?_⟩
  have n0_ := Aside0.mk (blk_below (g := gb248) (o := .cells #[.int .i64 a0_0, .int .i64 a0_1] 23 (0, 0)) (by (with_reducible repeat (first | refine blk_drewN ?_ _ | refine blk_drew ?_ | refine blk_alloc ?_ _)); exact BK248.out) hb)
  have n1_ := Aside0.mk (blk_below (g := gb249) (o := .cells #[.int .i64 a1_0, .int .i64 a1_1] 23 (0, 0)) (by (with_reducible repeat (first | refine blk_drewN ?_ _ | refine blk_drew ?_ | refine blk_alloc ?_ _)); exact BK249.out) hb)
  have n2_ := Aside0.mk (blk_below (g := gb250) (o := .cells #[.int .i64 a2_0, .int .i64 a2_1] 23 (0, 0)) (by (with_reducible repeat (first | refine blk_drewN ?_ _ | refine blk_drew ?_ | refine blk_alloc ?_ _)); exact BK250.out) hb)
  have n3_ := Aside0.mk (below_step (by repeat (first | (with_reducible first | exact HB.out | apply below_alloc | apply pw_below_drewN | apply below_drew1 | refine below_set ?_ GE248.out | refine below_set ?_ GE249.out | refine below_set ?_ GE250.out) | exact HB.out)) hb)
  clear BK248
  clear BK249
  clear BK250
  clear HB
  have BK248 := n0_
  have BK249 := n1_
  have BK250 := n2_
  have HB := n3_
  clear n0_ n1_ n2_ n3_
  (try clear hb)
  (try clear hb2)
  (try clear hk)
  (try clear hi)
  refine hK.out _ _ ⟨(YtdelfhahbngcfaaDoorW.PrintWords.blk_cell BK248.out 0).trans rfl, (YtdelfhahbngcfaaDoorW.PrintWords.blk_cell BK248.out 1).trans rfl, (YtdelfhahbngcfaaDoorW.PrintWords.blk_cell BK249.out 0).trans rfl, (YtdelfhahbngcfaaDoorW.PrintWords.blk_cell BK249.out 1).trans rfl⟩ (fun hHeld => ?_)
  clear hK K
  refine norm_ (a' := ?_) ?_ ?_
  rotate_left
  · show Act.put _ (some 18) _ = _
    simp only [Act.put, List.setIfInBounds_toArray, List.set_cons_zero, List.set_cons_succ, i64_w, i32_w]
    rfl
  refine pure_ (i := 6) (N := some 8) (v := ?_) (a' := ?_) #[true, true, true, true, true, true, true, false] rfl rfl (any_of HT_.out (by kernel_rfl)) (fun _ _ _ h => h) (Or.inl ⟨by rfl, ?_⟩) ?_ ?_
  rotate_left
  · intro w'
    go_simp
    with_reducible rfl
  rotate_left
  · simp only [Act.put, List.setIfInBounds_toArray, List.set_cons_zero, List.set_cons_succ, i64_w, i32_w]
    rfl
  refine pure_ (i := 7) (N := some 9) (v := ?_) (a' := ?_) #[true, true, true, true, true, true, true, true] rfl rfl (any_of HT_.out (by kernel_rfl)) (fun _ _ _ h => h) (Or.inl ⟨by rfl, ?_⟩) ?_ ?_
  rotate_left
  · intro w'
    go_simp
    with_reducible rfl
  rotate_left
  · simp only [Act.put, List.setIfInBounds_toArray, List.set_cons_zero, List.set_cons_succ, i64_w, i32_w]
    rfl
  refine done_ (done_of HT_.out (by kernel_rfl)) ?_
  go_upto_region 3 with (fail)
  go_cut [48] (fun v48 wc => ∃ (kq : Nat) (x48_6 : Bool), v48 = .bool x48_6 ∧ Aside0 (tributarylaw06_DotOrder.j0 kq t251 x48_6 a0_0 a0_1 a1_0 a1_1 = some r) ∧ Aside0 (kq ≤ k) ∧ Aside0 (wc.heap[gb248]? = some (.cells #[.int .i64 a0_0, .int .i64 a0_1] 23 (0, 0))) ∧ Aside0 (wc.heap[gb249]? = some (.cells #[.int .i64 a1_0, .int .i64 a1_1] 23 (0, 0))) ∧ Aside0 (wc.heap[gb250]? = some (.cells #[.int .i64 a2_0, .int .i64 a2_1] 23 (0, 0))) ∧ Aside0 (Below w.heap.size w wc))
  case first =>
    have H := HC7.out
    clear HC7
    by_cases c15 : t252 = true
    · subst c15
      have H1 : (if t253 = true then (tributarylaw06_DotOrder.j0 k t251 true a0_0 a0_1 a1_0 a1_1) else (if ((a0_0 == a1_0 && (a0_1 == a1_1)) != false) = true then (tributarylaw06_DotOrder.j0 k t251 true a0_0 a0_1 a1_0 a1_1) else ((dot_Less.f k a1_0 a1_1 a2_0 a2_1).bind fun t254 => (if t254 = true then ((dot_Less.f k a0_0 a0_1 a2_0 a2_1).bind fun t255 => (tributarylaw06_DotOrder.j0 k t251 (!t255) a0_0 a0_1 a1_0 a1_1)) else (tributarylaw06_DotOrder.j0 k t251 false a0_0 a0_1 a1_0 a1_1))))) = some r := by rw [if_pos rfl] at H; exact H
      clear H
      have H := H1
      clear H1
      by_cases c16 : t253 = true
      · subst c16
        have H1 : (tributarylaw06_DotOrder.j0 k t251 true a0_0 a0_1 a1_0 a1_1) = some r := by rw [if_pos rfl] at H; exact H
        clear H
        have H := H1
        clear H1
        have H' := Aside0.mk H
        clear H
        go_wp2
        go_meet
        case rel => exact ⟨_, (true), (by first | rfl | (simp; done) | (simp [*]; done)), H', ⟨by first | omega | exact Nat.le_refl _⟩, ⟨by (with_reducible repeat (first | refine blk_drewN ?_ _ | refine blk_drew ?_ | refine blk_alloc ?_ _)); exact BK248.out⟩, ⟨by (with_reducible repeat (first | refine blk_drewN ?_ _ | refine blk_drew ?_ | refine blk_alloc ?_ _)); exact BK249.out⟩, ⟨by (with_reducible repeat (first | refine blk_drewN ?_ _ | refine blk_drew ?_ | refine blk_alloc ?_ _)); exact BK250.out⟩, ⟨by repeat (first | (with_reducible first | exact HB.out | apply below_alloc | apply pw_below_drewN | apply below_drew1 | refine below_set ?_ GE248.out | refine below_set ?_ GE249.out | refine below_set ?_ GE250.out) | exact HB.out)⟩⟩
      · replace c16 := Bool.eq_false_iff.mpr c16
        subst c16
        have H1 : (if ((a0_0 == a1_0 && (a0_1 == a1_1)) != false) = true then (tributarylaw06_DotOrder.j0 k t251 true a0_0 a0_1 a1_0 a1_1) else ((dot_Less.f k a1_0 a1_1 a2_0 a2_1).bind fun t254 => (if t254 = true then ((dot_Less.f k a0_0 a0_1 a2_0 a2_1).bind fun t255 => (tributarylaw06_DotOrder.j0 k t251 (!t255) a0_0 a0_1 a1_0 a1_1)) else (tributarylaw06_DotOrder.j0 k t251 false a0_0 a0_1 a1_0 a1_1)))) = some r := by rw [if_neg (show ¬ (false = true) by decide)] at H; exact H
        clear H
        have H := H1
        clear H1
        by_cases c17 : ((a0_0 == a1_0 && (a0_1 == a1_1)) != false) = true
        · rw [if_pos c17] at H
          have c17e : (a0_0 == a1_0 && (a0_1 == a1_1)) = true := by revert c17; generalize (a0_0 == a1_0 && (a0_1 == a1_1)) = q_; cases q_ <;> (try cases x_) <;> simp
          have c17b0 : ((a0_0 == a1_0 && (a0_1 == a1_1)) != false) = true := c17
          (try (have c17b1 : decide ((a0_0 == a1_0 && (a0_1 == a1_1)) = false) = false := by simpa using c17))
          (try (have c17b2 : ((a0_0 == a1_0 && (a0_1 == a1_1)) == false) = false := by simpa using c17))
          (try (have c17b3 : ¬ ((a0_0 == a1_0 && (a0_1 == a1_1)) = false) := by simpa using c17))
          clear c17
          (first | rw [c17b0] | (simp only [i64_w, i32_w]; rw [c17b0]) | skip)
          have H' := Aside0.mk H
          clear H
          have hnb18 := NB248_249.out
          have hnc18 := NB249_248.out
          have hnb19 := NB248_250.out
          have hnc19 := NB250_248.out
          have hcz20_0 : w14.cell? ⟨gb248, 0, none⟩ = some (.int .i64 a0_0) := (YtdelfhahbngcfaaDoorW.PrintWords.blk_cell BK248.out 0).trans rfl
          have hcz20_1 : w14.cell? ⟨gb248, 1, none⟩ = some (.int .i64 a0_1) := (YtdelfhahbngcfaaDoorW.PrintWords.blk_cell BK248.out 1).trans rfl
          have hfz20_0 := blk_frozen BK248.out 0
          have hfz20_1 := blk_frozen BK248.out 1
          have hnb21 := NB249_250.out
          have hnc21 := NB250_249.out
          have hcz22_0 : w14.cell? ⟨gb249, 0, none⟩ = some (.int .i64 a1_0) := (YtdelfhahbngcfaaDoorW.PrintWords.blk_cell BK249.out 0).trans rfl
          have hcz22_1 : w14.cell? ⟨gb249, 1, none⟩ = some (.int .i64 a1_1) := (YtdelfhahbngcfaaDoorW.PrintWords.blk_cell BK249.out 1).trans rfl
          have hfz22_0 := blk_frozen BK249.out 0
          have hfz22_1 := blk_frozen BK249.out 1
          go_wp2
          go_meet
          case rel => exact ⟨_, (true), (by first | rfl | (simp; done) | (simp [*]; done)), H', ⟨by first | omega | exact Nat.le_refl _⟩, ⟨by (with_reducible repeat (first | refine blk_drewN ?_ _ | refine blk_drew ?_ | refine blk_alloc ?_ _)); exact BK248.out⟩, ⟨by (with_reducible repeat (first | refine blk_drewN ?_ _ | refine blk_drew ?_ | refine blk_alloc ?_ _)); exact BK249.out⟩, ⟨by (with_reducible repeat (first | refine blk_drewN ?_ _ | refine blk_drew ?_ | refine blk_alloc ?_ _)); exact BK250.out⟩, ⟨by repeat (first | (with_reducible first | exact HB.out | apply below_alloc | apply pw_below_drewN | apply below_drew1 | refine below_set ?_ GE248.out | refine below_set ?_ GE249.out | refine below_set ?_ GE250.out) | exact HB.out)⟩⟩
        · rw [if_neg c17] at H
          have c17e : (a0_0 == a1_0 && (a0_1 == a1_1)) = false := by revert c17; generalize (a0_0 == a1_0 && (a0_1 == a1_1)) = q_; cases q_ <;> (try cases x_) <;> simp
          have c17b0 : ((a0_0 == a1_0 && (a0_1 == a1_1)) != false) = false := by simpa using c17
          (try (have c17b1 : decide ((a0_0 == a1_0 && (a0_1 == a1_1)) = false) = true := by simpa using c17))
          (try (have c17b2 : ((a0_0 == a1_0 && (a0_1 == a1_1)) == false) = true := by simpa using c17))
          clear c17
          (first | rw [c17b0] | (simp only [i64_w, i32_w]; rw [c17b0]) | skip)
          replace H := Option.bind_eq_some_iff.mp H
          obtain ⟨t254, A230, H⟩ := H
          replace H : (if t254 = true then ((dot_Less.f k a0_0 a0_1 a2_0 a2_1).bind fun t255 => (tributarylaw06_DotOrder.j0 k t251 (!t255) a0_0 a0_1 a1_0 a1_1)) else (tributarylaw06_DotOrder.j0 k t251 false a0_0 a0_1 a1_0 a1_1)) = some r := H
          have A23 := Aside0.mk A230
          clear A230
          by_cases c24 : t254 = true
          · subst c24
            have H1 : ((dot_Less.f k a0_0 a0_1 a2_0 a2_1).bind fun t255 => (tributarylaw06_DotOrder.j0 k t251 (!t255) a0_0 a0_1 a1_0 a1_1)) = some r := by rw [if_pos rfl] at H; exact H
            clear H
            have H := H1
            clear H1
            replace H := Option.bind_eq_some_iff.mp H
            obtain ⟨t255, A250, H⟩ := H
            replace H : (tributarylaw06_DotOrder.j0 k t251 (!t255) a0_0 a0_1 a1_0 a1_1) = some r := H
            have A25 := Aside0.mk A250
            clear A250
            have H' := Aside0.mk H
            clear H
            have hnb26 := NB248_249.out
            have hnc26 := NB249_248.out
            have hnb27 := NB248_250.out
            have hnc27 := NB250_248.out
            have hcz28_0 : w14.cell? ⟨gb248, 0, none⟩ = some (.int .i64 a0_0) := (YtdelfhahbngcfaaDoorW.PrintWords.blk_cell BK248.out 0).trans rfl
            have hcz28_1 : w14.cell? ⟨gb248, 1, none⟩ = some (.int .i64 a0_1) := (YtdelfhahbngcfaaDoorW.PrintWords.blk_cell BK248.out 1).trans rfl
            have hfz28_0 := blk_frozen BK248.out 0
            have hfz28_1 := blk_frozen BK248.out 1
            have hnb29 := NB249_250.out
            have hnc29 := NB250_249.out
            have hcz30_0 : w14.cell? ⟨gb249, 0, none⟩ = some (.int .i64 a1_0) := (YtdelfhahbngcfaaDoorW.PrintWords.blk_cell BK249.out 0).trans rfl
            have hcz30_1 : w14.cell? ⟨gb249, 1, none⟩ = some (.int .i64 a1_1) := (YtdelfhahbngcfaaDoorW.PrintWords.blk_cell BK249.out 1).trans rfl
            have hfz30_0 := blk_frozen BK249.out 0
            have hfz30_1 := blk_frozen BK249.out 1
            have hcz31_0 : w14.cell? ⟨gb250, 0, none⟩ = some (.int .i64 a2_0) := (YtdelfhahbngcfaaDoorW.PrintWords.blk_cell BK250.out 0).trans rfl
            have hcz31_1 : w14.cell? ⟨gb250, 1, none⟩ = some (.int .i64 a2_1) := (YtdelfhahbngcfaaDoorW.PrintWords.blk_cell BK250.out 1).trans rfl
            have hfz31_0 := blk_frozen BK250.out 0
            have hfz31_1 := blk_frozen BK250.out 1
            go_wp2_with (first | (go_at_call 22; (with_reducible refine (dot_Less.calls k a1_0 a1_1 a2_0 a2_1 true _ A23.out).mono ?_); rintro e w32 ⟨rfl, hb⟩; have n0_ := Aside0.mk (blk_below (g := gb248) (o := .cells #[.int .i64 a0_0, .int .i64 a0_1] 23 (0, 0)) (by (with_reducible repeat (first | refine blk_drewN ?_ _ | refine blk_drew ?_ | refine blk_alloc ?_ _)); exact BK248.out) hb); have n1_ := Aside0.mk (blk_below (g := gb249) (o := .cells #[.int .i64 a1_0, .int .i64 a1_1] 23 (0, 0)) (by (with_reducible repeat (first | refine blk_drewN ?_ _ | refine blk_drew ?_ | refine blk_alloc ?_ _)); exact BK249.out) hb); have n2_ := Aside0.mk (blk_below (g := gb250) (o := .cells #[.int .i64 a2_0, .int .i64 a2_1] 23 (0, 0)) (by (with_reducible repeat (first | refine blk_drewN ?_ _ | refine blk_drew ?_ | refine blk_alloc ?_ _)); exact BK250.out) hb); have n3_ := Aside0.mk (below_step (by repeat (first | (with_reducible first | exact HB.out | apply below_alloc | apply pw_below_drewN | apply below_drew1 | refine below_set ?_ GE248.out | refine below_set ?_ GE249.out | refine below_set ?_ GE250.out) | exact HB.out)) hb); clear BK248; clear BK249; clear BK250; clear HB; have BK248 := n0_; have BK249 := n1_; have BK250 := n2_; have HB := n3_; clear n0_ n1_ n2_ n3_; (try clear hb); (try clear hb2); (try clear hk); (try clear hi); have hcz33_0 : w32.cell? ⟨gb248, 0, none⟩ = some (.int .i64 a0_0) := (YtdelfhahbngcfaaDoorW.PrintWords.blk_cell BK248.out 0).trans rfl; have hcz33_1 : w32.cell? ⟨gb248, 1, none⟩ = some (.int .i64 a0_1) := (YtdelfhahbngcfaaDoorW.PrintWords.blk_cell BK248.out 1).trans rfl; have hfz33_0 := blk_frozen BK248.out 0; have hfz33_1 := blk_frozen BK248.out 1; have hcz34_0 : w32.cell? ⟨gb250, 0, none⟩ = some (.int .i64 a2_0) := (YtdelfhahbngcfaaDoorW.PrintWords.blk_cell BK250.out 0).trans rfl; have hcz34_1 : w32.cell? ⟨gb250, 1, none⟩ = some (.int .i64 a2_1) := (YtdelfhahbngcfaaDoorW.PrintWords.blk_cell BK250.out 1).trans rfl; have hfz34_0 := blk_frozen BK250.out 0; have hfz34_1 := blk_frozen BK250.out 1) | (go_at_call 22; (with_reducible refine (dot_Less.calls k a0_0 a0_1 a2_0 a2_1 t255 _ A25.out).mono ?_); rintro e w35 ⟨rfl, hb⟩; have n0_ := Aside0.mk (blk_below (g := gb248) (o := .cells #[.int .i64 a0_0, .int .i64 a0_1] 23 (0, 0)) (by (with_reducible repeat (first | refine blk_drewN ?_ _ | refine blk_drew ?_ | refine blk_alloc ?_ _)); exact BK248.out) hb); have n1_ := Aside0.mk (blk_below (g := gb249) (o := .cells #[.int .i64 a1_0, .int .i64 a1_1] 23 (0, 0)) (by (with_reducible repeat (first | refine blk_drewN ?_ _ | refine blk_drew ?_ | refine blk_alloc ?_ _)); exact BK249.out) hb); have n2_ := Aside0.mk (blk_below (g := gb250) (o := .cells #[.int .i64 a2_0, .int .i64 a2_1] 23 (0, 0)) (by (with_reducible repeat (first | refine blk_drewN ?_ _ | refine blk_drew ?_ | refine blk_alloc ?_ _)); exact BK250.out) hb); have n3_ := Aside0.mk (below_step (by repeat (first | (with_reducible first | exact HB.out | apply below_alloc | apply pw_below_drewN | apply below_drew1 | refine below_set ?_ GE248.out | refine below_set ?_ GE249.out | refine below_set ?_ GE250.out) | exact HB.out)) hb); clear BK248; clear BK249; clear BK250; clear HB; have BK248 := n0_; have BK249 := n1_; have BK250 := n2_; have HB := n3_; clear n0_ n1_ n2_ n3_; (try clear hb); (try clear hb2); (try clear hk); (try clear hi)))
            go_meet
            case rel => exact ⟨_, (!t255), (by first | rfl | (simp; done) | (simp [*]; done)), H', ⟨by first | omega | exact Nat.le_refl _⟩, ⟨by (with_reducible repeat (first | refine blk_drewN ?_ _ | refine blk_drew ?_ | refine blk_alloc ?_ _)); exact BK248.out⟩, ⟨by (with_reducible repeat (first | refine blk_drewN ?_ _ | refine blk_drew ?_ | refine blk_alloc ?_ _)); exact BK249.out⟩, ⟨by (with_reducible repeat (first | refine blk_drewN ?_ _ | refine blk_drew ?_ | refine blk_alloc ?_ _)); exact BK250.out⟩, ⟨by repeat (first | (with_reducible first | exact HB.out | apply below_alloc | apply pw_below_drewN | apply below_drew1 | refine below_set ?_ GE248.out | refine below_set ?_ GE249.out | refine below_set ?_ GE250.out) | exact HB.out)⟩⟩
          · replace c24 := Bool.eq_false_iff.mpr c24
            subst c24
            have H1 : (tributarylaw06_DotOrder.j0 k t251 false a0_0 a0_1 a1_0 a1_1) = some r := by rw [if_neg (show ¬ (false = true) by decide)] at H; exact H
            clear H
            have H := H1
            clear H1
            have H' := Aside0.mk H
            clear H
            have hnb36 := NB248_249.out
            have hnc36 := NB249_248.out
            have hnb37 := NB248_250.out
            have hnc37 := NB250_248.out
            have hcz38_0 : w14.cell? ⟨gb248, 0, none⟩ = some (.int .i64 a0_0) := (YtdelfhahbngcfaaDoorW.PrintWords.blk_cell BK248.out 0).trans rfl
            have hcz38_1 : w14.cell? ⟨gb248, 1, none⟩ = some (.int .i64 a0_1) := (YtdelfhahbngcfaaDoorW.PrintWords.blk_cell BK248.out 1).trans rfl
            have hfz38_0 := blk_frozen BK248.out 0
            have hfz38_1 := blk_frozen BK248.out 1
            have hnb39 := NB249_250.out
            have hnc39 := NB250_249.out
            have hcz40_0 : w14.cell? ⟨gb249, 0, none⟩ = some (.int .i64 a1_0) := (YtdelfhahbngcfaaDoorW.PrintWords.blk_cell BK249.out 0).trans rfl
            have hcz40_1 : w14.cell? ⟨gb249, 1, none⟩ = some (.int .i64 a1_1) := (YtdelfhahbngcfaaDoorW.PrintWords.blk_cell BK249.out 1).trans rfl
            have hfz40_0 := blk_frozen BK249.out 0
            have hfz40_1 := blk_frozen BK249.out 1
            have hcz41_0 : w14.cell? ⟨gb250, 0, none⟩ = some (.int .i64 a2_0) := (YtdelfhahbngcfaaDoorW.PrintWords.blk_cell BK250.out 0).trans rfl
            have hcz41_1 : w14.cell? ⟨gb250, 1, none⟩ = some (.int .i64 a2_1) := (YtdelfhahbngcfaaDoorW.PrintWords.blk_cell BK250.out 1).trans rfl
            have hfz41_0 := blk_frozen BK250.out 0
            have hfz41_1 := blk_frozen BK250.out 1
            go_wp2_with (first | (go_at_call 22; (with_reducible refine (dot_Less.calls k a1_0 a1_1 a2_0 a2_1 false _ A23.out).mono ?_); rintro e w42 ⟨rfl, hb⟩; have n0_ := Aside0.mk (blk_below (g := gb248) (o := .cells #[.int .i64 a0_0, .int .i64 a0_1] 23 (0, 0)) (by (with_reducible repeat (first | refine blk_drewN ?_ _ | refine blk_drew ?_ | refine blk_alloc ?_ _)); exact BK248.out) hb); have n1_ := Aside0.mk (blk_below (g := gb249) (o := .cells #[.int .i64 a1_0, .int .i64 a1_1] 23 (0, 0)) (by (with_reducible repeat (first | refine blk_drewN ?_ _ | refine blk_drew ?_ | refine blk_alloc ?_ _)); exact BK249.out) hb); have n2_ := Aside0.mk (blk_below (g := gb250) (o := .cells #[.int .i64 a2_0, .int .i64 a2_1] 23 (0, 0)) (by (with_reducible repeat (first | refine blk_drewN ?_ _ | refine blk_drew ?_ | refine blk_alloc ?_ _)); exact BK250.out) hb); have n3_ := Aside0.mk (below_step (by repeat (first | (with_reducible first | exact HB.out | apply below_alloc | apply pw_below_drewN | apply below_drew1 | refine below_set ?_ GE248.out | refine below_set ?_ GE249.out | refine below_set ?_ GE250.out) | exact HB.out)) hb); clear BK248; clear BK249; clear BK250; clear HB; have BK248 := n0_; have BK249 := n1_; have BK250 := n2_; have HB := n3_; clear n0_ n1_ n2_ n3_; (try clear hb); (try clear hb2); (try clear hk); (try clear hi)))
            go_meet
            case rel => exact ⟨_, (false), (by first | rfl | (simp; done) | (simp [*]; done)), H', ⟨by first | omega | exact Nat.le_refl _⟩, ⟨by (with_reducible repeat (first | refine blk_drewN ?_ _ | refine blk_drew ?_ | refine blk_alloc ?_ _)); exact BK248.out⟩, ⟨by (with_reducible repeat (first | refine blk_drewN ?_ _ | refine blk_drew ?_ | refine blk_alloc ?_ _)); exact BK249.out⟩, ⟨by (with_reducible repeat (first | refine blk_drewN ?_ _ | refine blk_drew ?_ | refine blk_alloc ?_ _)); exact BK250.out⟩, ⟨by repeat (first | (with_reducible first | exact HB.out | apply below_alloc | apply pw_below_drewN | apply below_drew1 | refine below_set ?_ GE248.out | refine below_set ?_ GE249.out | refine below_set ?_ GE250.out) | exact HB.out)⟩⟩
    · replace c15 := Bool.eq_false_iff.mpr c15
      subst c15
      have H1 : (if ((a0_0 == a1_0 && (a0_1 == a1_1)) != (!t253)) = true then (tributarylaw06_DotOrder.j0 k t251 true a0_0 a0_1 a1_0 a1_1) else (tributarylaw06_DotOrder.j0 k t251 false a0_0 a0_1 a1_0 a1_1)) = some r := by rw [if_neg (show ¬ (false = true) by decide)] at H; exact H
      clear H
      have H := H1
      clear H1
      by_cases c43 : ((a0_0 == a1_0 && (a0_1 == a1_1)) != (!t253)) = true
      · rw [if_pos c43] at H
        have c43e : (a0_0 == a1_0 && (a0_1 == a1_1)) = t253 := by revert c43; generalize (a0_0 == a1_0 && (a0_1 == a1_1)) = q_; (try generalize t253 = x_); cases q_ <;> (try cases x_) <;> simp
        have c43b0 : ((a0_0 == a1_0 && (a0_1 == a1_1)) != (!t253)) = true := c43
        (try (have c43b1 : decide ((a0_0 == a1_0 && (a0_1 == a1_1)) = (!t253)) = false := by simpa using c43))
        (try (have c43b2 : ((a0_0 == a1_0 && (a0_1 == a1_1)) == (!t253)) = false := by simpa using c43))
        (try (have c43b3 : ¬ ((a0_0 == a1_0 && (a0_1 == a1_1)) = (!t253)) := by simpa using c43))
        clear c43
        have H' := Aside0.mk H
        clear H
        have hnb44 := NB248_249.out
        have hnc44 := NB249_248.out
        have hnb45 := NB248_250.out
        have hnc45 := NB250_248.out
        have hcz46_0 : w14.cell? ⟨gb248, 0, none⟩ = some (.int .i64 a0_0) := (YtdelfhahbngcfaaDoorW.PrintWords.blk_cell BK248.out 0).trans rfl
        have hcz46_1 : w14.cell? ⟨gb248, 1, none⟩ = some (.int .i64 a0_1) := (YtdelfhahbngcfaaDoorW.PrintWords.blk_cell BK248.out 1).trans rfl
        have hfz46_0 := blk_frozen BK248.out 0
        have hfz46_1 := blk_frozen BK248.out 1
        have hnb47 := NB249_250.out
        have hnc47 := NB250_249.out
        have hcz48_0 : w14.cell? ⟨gb249, 0, none⟩ = some (.int .i64 a1_0) := (YtdelfhahbngcfaaDoorW.PrintWords.blk_cell BK249.out 0).trans rfl
        have hcz48_1 : w14.cell? ⟨gb249, 1, none⟩ = some (.int .i64 a1_1) := (YtdelfhahbngcfaaDoorW.PrintWords.blk_cell BK249.out 1).trans rfl
        have hfz48_0 := blk_frozen BK249.out 0
        have hfz48_1 := blk_frozen BK249.out 1
        go_wp2
        go_meet
        case rel => exact ⟨_, (true), (by first | rfl | (simp; done) | (simp [*]; done)), H', ⟨by first | omega | exact Nat.le_refl _⟩, ⟨by (with_reducible repeat (first | refine blk_drewN ?_ _ | refine blk_drew ?_ | refine blk_alloc ?_ _)); exact BK248.out⟩, ⟨by (with_reducible repeat (first | refine blk_drewN ?_ _ | refine blk_drew ?_ | refine blk_alloc ?_ _)); exact BK249.out⟩, ⟨by (with_reducible repeat (first | refine blk_drewN ?_ _ | refine blk_drew ?_ | refine blk_alloc ?_ _)); exact BK250.out⟩, ⟨by repeat (first | (with_reducible first | exact HB.out | apply below_alloc | apply pw_below_drewN | apply below_drew1 | refine below_set ?_ GE248.out | refine below_set ?_ GE249.out | refine below_set ?_ GE250.out) | exact HB.out)⟩⟩
      · rw [if_neg c43] at H
        have c43e : (a0_0 == a1_0 && (a0_1 == a1_1)) = (!t253) := by revert c43; generalize (a0_0 == a1_0 && (a0_1 == a1_1)) = q_; (try generalize t253 = x_); cases q_ <;> (try cases x_) <;> simp
        have c43b0 : ((a0_0 == a1_0 && (a0_1 == a1_1)) != (!t253)) = false := by simpa using c43
        (try (have c43b1 : decide ((a0_0 == a1_0 && (a0_1 == a1_1)) = (!t253)) = true := by simpa using c43))
        (try (have c43b2 : ((a0_0 == a1_0 && (a0_1 == a1_1)) == (!t253)) = true := by simpa using c43))
        clear c43
        have H' := Aside0.mk H
        clear H
        have hnb49 := NB248_249.out
        have hnc49 := NB249_248.out
        have hnb50 := NB248_250.out
        have hnc50 := NB250_248.out
        have hcz51_0 : w14.cell? ⟨gb248, 0, none⟩ = some (.int .i64 a0_0) := (YtdelfhahbngcfaaDoorW.PrintWords.blk_cell BK248.out 0).trans rfl
        have hcz51_1 : w14.cell? ⟨gb248, 1, none⟩ = some (.int .i64 a0_1) := (YtdelfhahbngcfaaDoorW.PrintWords.blk_cell BK248.out 1).trans rfl
        have hfz51_0 := blk_frozen BK248.out 0
        have hfz51_1 := blk_frozen BK248.out 1
        have hnb52 := NB249_250.out
        have hnc52 := NB250_249.out
        have hcz53_0 : w14.cell? ⟨gb249, 0, none⟩ = some (.int .i64 a1_0) := (YtdelfhahbngcfaaDoorW.PrintWords.blk_cell BK249.out 0).trans rfl
        have hcz53_1 : w14.cell? ⟨gb249, 1, none⟩ = some (.int .i64 a1_1) := (YtdelfhahbngcfaaDoorW.PrintWords.blk_cell BK249.out 1).trans rfl
        have hfz53_0 := blk_frozen BK249.out 0
        have hfz53_1 := blk_frozen BK249.out 1
        go_wp2
        go_meet
        case rel => exact ⟨_, (false), (by first | rfl | (simp; done) | (simp [*]; done)), H', ⟨by first | omega | exact Nat.le_refl _⟩, ⟨by (with_reducible repeat (first | refine blk_drewN ?_ _ | refine blk_drew ?_ | refine blk_alloc ?_ _)); exact BK248.out⟩, ⟨by (with_reducible repeat (first | refine blk_drewN ?_ _ | refine blk_drew ?_ | refine blk_alloc ?_ _)); exact BK249.out⟩, ⟨by (with_reducible repeat (first | refine blk_drewN ?_ _ | refine blk_drew ?_ | refine blk_alloc ?_ _)); exact BK250.out⟩, ⟨by repeat (first | (with_reducible first | exact HB.out | apply below_alloc | apply pw_below_drewN | apply below_drew1 | refine below_set ?_ GE248.out | refine below_set ?_ GE249.out | refine below_set ?_ GE250.out) | exact HB.out)⟩⟩
  case rest =>
    clear HC7
    try clear c1
    try clear c2
    try clear p2
    try clear c3
    try clear c4
    try clear c5
    try clear c9
    try clear c15
    try clear c16
    try clear c17
    try clear c17b0
    try clear c17b1
    try clear c17b2
    try clear c18
    try clear c19
    try clear c21
    try clear c22
    try clear c24
    try clear c26
    try clear c27
    try clear c29
    try clear c36
    try clear c37
    try clear c39
    try clear c43
    try clear c43b0
    try clear c43b1
    try clear c43b2
    try clear c44
    try clear c45
    try clear c47
    try clear c49
    try clear c50
    try clear c52
    try clear hcz20_0
    try clear hcz20_1
    try clear hcz22_0
    try clear hcz22_1
    try clear hcz28_0
    try clear hcz28_1
    try clear hcz30_0
    try clear hcz30_1
    try clear hcz31_0
    try clear hcz31_1
    try clear hcz33_0
    try clear hcz33_1
    try clear hcz34_0
    try clear hcz34_1
    try clear hcz38_0
    try clear hcz38_1
    try clear hcz40_0
    try clear hcz40_1
    try clear hcz41_0
    try clear hcz41_1
    try clear hcz46_0
    try clear hcz46_1
    try clear hcz48_0
    try clear hcz48_1
    try clear hcz51_0
    try clear hcz51_1
    try clear hcz53_0
    try clear hcz53_1
    try clear hfz20_0
    try clear hfz20_1
    try clear hfz22_0
    try clear hfz22_1
    try clear hfz28_0
    try clear hfz28_1
    try clear hfz30_0
    try clear hfz30_1
    try clear hfz31_0
    try clear hfz31_1
    try clear hfz33_0
    try clear hfz33_1
    try clear hfz34_0
    try clear hfz34_1
    try clear hfz38_0
    try clear hfz38_1
    try clear hfz40_0
    try clear hfz40_1
    try clear hfz41_0
    try clear hfz41_1
    try clear hfz46_0
    try clear hfz46_1
    try clear hfz48_0
    try clear hfz48_1
    try clear hfz51_0
    try clear hfz51_1
    try clear hfz53_0
    try clear hfz53_1
    obtain ⟨kq, x48_6, rfl, HA, HJ6, BK248, BK249, BK250, HB⟩ := hcut
    cases kq with
    | zero => exact absurd HA.out (by simp [tributarylaw06_DotOrder.j0])
    | succ kj6 =>
      have H := HA.out
      clear HA
      simp only [tributarylaw06_DotOrder.j0] at H
      by_cases c54 : x48_6 = true
      · subst c54
        have H1 : (some false) = some r := by rw [if_pos rfl] at H; exact H
        clear H
        have H := H1
        clear H1
        obtain rfl := Option.some.inj H
        go_wp2
        go_ret
        exact ⟨by first | rfl | (simp [errW_none, errW_some] <;> rfl) | (simp [*, errW_none, errW_some] <;> rfl), by repeat (first | (with_reducible first | exact HB.out | apply below_alloc | apply pw_below_drewN | apply below_drew1 | refine below_set ?_ GE248.out | refine below_set ?_ GE249.out | refine below_set ?_ GE250.out) | exact HB.out)⟩
      · replace c54 := Bool.eq_false_iff.mpr c54
        subst c54
        have H1 : ((dot_Next.f a0_0 a0_1).bind fun bt256 => (if t251 = true then (if bt256.2.2 = 0 then ((dot_Less.f kj6 a0_0 a0_1 bt256.1 bt256.2.1).bind fun t260 => (if t260 = true then ((dot_Less.f kj6 a0_0 a0_1 a1_0 a1_1).bind fun t261 => (if t261 = true then ((dot_Less.f kj6 a1_0 a1_1 bt256.1 bt256.2.1).bind fun t262 => (if t262 = true then (some false) else ((dot_Check.f bt256.1 bt256.2.1).bind fun t263 => (some (t263 == 0))))) else ((dot_Check.f bt256.1 bt256.2.1).bind fun t264 => (some (t264 == 0))))) else (some false))) else (some true)) else (some false))) = some r := by rw [if_neg (show ¬ (false = true) by decide)] at H; exact H
        clear H
        have H := H1
        clear H1
        replace H := Option.bind_eq_some_iff.mp H
        obtain ⟨⟨t256, t257, t258⟩, A550, H⟩ := H
        replace H : (if t251 = true then (if t258 = 0 then ((dot_Less.f kj6 a0_0 a0_1 t256 t257).bind fun t260 => (if t260 = true then ((dot_Less.f kj6 a0_0 a0_1 a1_0 a1_1).bind fun t261 => (if t261 = true then ((dot_Less.f kj6 a1_0 a1_1 t256 t257).bind fun t262 => (if t262 = true then (some false) else ((dot_Check.f t256 t257).bind fun t263 => (some (t263 == 0))))) else ((dot_Check.f t256 t257).bind fun t264 => (some (t264 == 0))))) else (some false))) else (some true)) else (some false)) = some r := H
        have A55 := Aside0.mk A550
        clear A550
        by_cases c56 : t251 = true
        · subst c56
          have H1 : (if t258 = 0 then ((dot_Less.f kj6 a0_0 a0_1 t256 t257).bind fun t260 => (if t260 = true then ((dot_Less.f kj6 a0_0 a0_1 a1_0 a1_1).bind fun t261 => (if t261 = true then ((dot_Less.f kj6 a1_0 a1_1 t256 t257).bind fun t262 => (if t262 = true then (some false) else ((dot_Check.f t256 t257).bind fun t263 => (some (t263 == 0))))) else ((dot_Check.f t256 t257).bind fun t264 => (some (t264 == 0))))) else (some false))) else (some true)) = some r := by rw [if_pos rfl] at H; exact H
          clear H
          have H := H1
          clear H1
          by_cases c57 : t258 = 0
          · rw [if_pos c57] at H
            have c57b0 : (t258 == 0) = true := beq_iff_eq.mpr c57
            have c57b1 : (t258 != 0) = false := bne_eq_false_iff_eq.mpr c57
            clear c57
            replace H := Option.bind_eq_some_iff.mp H
            obtain ⟨t260, A580, H⟩ := H
            replace H : (if t260 = true then ((dot_Less.f kj6 a0_0 a0_1 a1_0 a1_1).bind fun t261 => (if t261 = true then ((dot_Less.f kj6 a1_0 a1_1 t256 t257).bind fun t262 => (if t262 = true then (some false) else ((dot_Check.f t256 t257).bind fun t263 => (some (t263 == 0))))) else ((dot_Check.f t256 t257).bind fun t264 => (some (t264 == 0))))) else (some false)) = some r := H
            have A58 := Aside0.mk A580
            clear A580
            by_cases c59 : t260 = true
            · subst c59
              have H1 : ((dot_Less.f kj6 a0_0 a0_1 a1_0 a1_1).bind fun t261 => (if t261 = true then ((dot_Less.f kj6 a1_0 a1_1 t256 t257).bind fun t262 => (if t262 = true then (some false) else ((dot_Check.f t256 t257).bind fun t263 => (some (t263 == 0))))) else ((dot_Check.f t256 t257).bind fun t264 => (some (t264 == 0))))) = some r := by rw [if_pos rfl] at H; exact H
              clear H
              have H := H1
              clear H1
              replace H := Option.bind_eq_some_iff.mp H
              obtain ⟨t261, A600, H⟩ := H
              replace H : (if t261 = true then ((dot_Less.f kj6 a1_0 a1_1 t256 t257).bind fun t262 => (if t262 = true then (some false) else ((dot_Check.f t256 t257).bind fun t263 => (some (t263 == 0))))) else ((dot_Check.f t256 t257).bind fun t264 => (some (t264 == 0)))) = some r := H
              have A60 := Aside0.mk A600
              clear A600
              by_cases c61 : t261 = true
              · subst c61
                have H1 : ((dot_Less.f kj6 a1_0 a1_1 t256 t257).bind fun t262 => (if t262 = true then (some false) else ((dot_Check.f t256 t257).bind fun t263 => (some (t263 == 0))))) = some r := by rw [if_pos rfl] at H; exact H
                clear H
                have H := H1
                clear H1
                replace H := Option.bind_eq_some_iff.mp H
                obtain ⟨t262, A620, H⟩ := H
                replace H : (if t262 = true then (some false) else ((dot_Check.f t256 t257).bind fun t263 => (some (t263 == 0)))) = some r := H
                have A62 := Aside0.mk A620
                clear A620
                by_cases c63 : t262 = true
                · subst c63
                  have H1 : (some false) = some r := by rw [if_pos rfl] at H; exact H
                  clear H
                  have H := H1
                  clear H1
                  obtain rfl := Option.some.inj H
                  have hnb64 := NB248_249.out
                  have hnc64 := NB249_248.out
                  have hnb65 := NB248_250.out
                  have hnc65 := NB250_248.out
                  have hcz66_0 : wc.cell? ⟨gb248, 0, none⟩ = some (.int .i64 a0_0) := (YtdelfhahbngcfaaDoorW.PrintWords.blk_cell BK248.out 0).trans rfl
                  have hcz66_1 : wc.cell? ⟨gb248, 1, none⟩ = some (.int .i64 a0_1) := (YtdelfhahbngcfaaDoorW.PrintWords.blk_cell BK248.out 1).trans rfl
                  have hfz66_0 := blk_frozen BK248.out 0
                  have hfz66_1 := blk_frozen BK248.out 1
                  go_wp2_with (first | ((with_reducible refine gate_callee (f := 23) rfl ?_); refine goesL_ (some 51) rfl rfl Tryd.func23 (by kernel_rfl) rfl #[.agg #[.int .i64 a0_0, .int .i64 a0_1]] rfl (by (try simp only [List.map_toArray, List.map_cons, List.map_nil]); first | done | rfl | (simp only [List.length_drop, List.length_take]; rfl)) ?_; (with_reducible refine (dot_Next.calls a0_0 a0_1 t256 t257 t258 _ A55.out).mono ?_); rintro e w67 ⟨rfl, hb⟩; refine ⟨_, rfl, ?_⟩; have n0_ := Aside0.mk (blk_below (g := gb248) (o := .cells #[.int .i64 a0_0, .int .i64 a0_1] 23 (0, 0)) (by (with_reducible repeat (first | refine blk_drewN ?_ _ | refine blk_drew ?_ | refine blk_alloc ?_ _)); exact BK248.out) hb); have n1_ := Aside0.mk (blk_below (g := gb249) (o := .cells #[.int .i64 a1_0, .int .i64 a1_1] 23 (0, 0)) (by (with_reducible repeat (first | refine blk_drewN ?_ _ | refine blk_drew ?_ | refine blk_alloc ?_ _)); exact BK249.out) hb); have n2_ := Aside0.mk (blk_below (g := gb250) (o := .cells #[.int .i64 a2_0, .int .i64 a2_1] 23 (0, 0)) (by (with_reducible repeat (first | refine blk_drewN ?_ _ | refine blk_drew ?_ | refine blk_alloc ?_ _)); exact BK250.out) hb); have n3_ := Aside0.mk (below_step (by repeat (first | (with_reducible first | exact HB.out | apply below_alloc | apply pw_below_drewN | apply below_drew1 | refine below_set ?_ GE248.out | refine below_set ?_ GE249.out | refine below_set ?_ GE250.out) | exact HB.out)) hb); clear BK248; clear BK249; clear BK250; clear HB; have BK248 := n0_; have BK249 := n1_; have BK250 := n2_; have HB := n3_; clear n0_ n1_ n2_ n3_; (try clear hb); (try clear hb2); (try clear hk); (try clear hi)) | ((with_reducible refine gate_dst (N := 10) rfl ?_); refine box_event ?hg (N := 10) ?hd (cs := #[.int .i64 0, .int .i64 0]) (t := 23) ?hr ?_; (case hd => rfl); (case hg => rfl); (case hr => first | (go_simp; done) | (go_simp; rfl)); intro gb259 hg w68 hbox hb; have n0_ := Aside0.mk (blk_below (g := gb248) (o := .cells #[.int .i64 a0_0, .int .i64 a0_1] 23 (0, 0)) (by (with_reducible repeat (first | refine blk_drewN ?_ _ | refine blk_drew ?_ | refine blk_alloc ?_ _)); exact BK248.out) hb); have n1_ := Aside0.mk (blk_below (g := gb249) (o := .cells #[.int .i64 a1_0, .int .i64 a1_1] 23 (0, 0)) (by (with_reducible repeat (first | refine blk_drewN ?_ _ | refine blk_drew ?_ | refine blk_alloc ?_ _)); exact BK249.out) hb); have n2_ := Aside0.mk (blk_below (g := gb250) (o := .cells #[.int .i64 a2_0, .int .i64 a2_1] 23 (0, 0)) (by (with_reducible repeat (first | refine blk_drewN ?_ _ | refine blk_drew ?_ | refine blk_alloc ?_ _)); exact BK250.out) hb); have n3_ := Aside0.mk (below_step (by repeat (first | (with_reducible first | exact HB.out | apply below_alloc | apply pw_below_drewN | apply below_drew1 | refine below_set ?_ GE248.out | refine below_set ?_ GE249.out | refine below_set ?_ GE250.out) | exact HB.out)) hb); have n4_ := Aside0.mk (hbox); have n5_ := Aside0.mk ((by rw [hg]; exact (below_size (by repeat (first | (with_reducible first | exact HB.out | apply below_alloc | apply pw_below_drewN | apply below_drew1 | refine below_set ?_ GE248.out | refine below_set ?_ GE249.out | refine below_set ?_ GE250.out) | exact HB.out))) : w.heap.size ≤ gb259)); have n6_ := Aside0.mk ((by rw [hg]; exact (below_size (by repeat (first | (with_reducible first | exact HB.out | apply below_alloc | apply pw_below_drewN | apply below_drew1 | refine below_set ?_ GE248.out | refine below_set ?_ GE249.out | refine below_set ?_ GE250.out) | exact HB.out))) : w.heap.size ≤ gb259)); have n7_ := Aside0.mk ((by rw [hg]; exact Nat.ne_of_lt (blk_lt (g := gb248) (o := .cells #[.int .i64 a0_0, .int .i64 a0_1] 23 (0, 0)) (by (with_reducible repeat (first | refine blk_drewN ?_ _ | refine blk_drew ?_ | refine blk_alloc ?_ _)); exact BK248.out)) : gb248 ≠ gb259)); have n8_ := Aside0.mk ((by rw [hg]; exact Nat.ne_of_gt (blk_lt (g := gb248) (o := .cells #[.int .i64 a0_0, .int .i64 a0_1] 23 (0, 0)) (by (with_reducible repeat (first | refine blk_drewN ?_ _ | refine blk_drew ?_ | refine blk_alloc ?_ _)); exact BK248.out)) : gb259 ≠ gb248)); have n9_ := Aside0.mk ((by rw [hg]; exact Nat.ne_of_lt (blk_lt (g := gb249) (o := .cells #[.int .i64 a1_0, .int .i64 a1_1] 23 (0, 0)) (by (with_reducible repeat (first | refine blk_drewN ?_ _ | refine blk_drew ?_ | refine blk_alloc ?_ _)); exact BK249.out)) : gb249 ≠ gb259)); have n10_ := Aside0.mk ((by rw [hg]; exact Nat.ne_of_gt (blk_lt (g := gb249) (o := .cells #[.int .i64 a1_0, .int .i64 a1_1] 23 (0, 0)) (by (with_reducible repeat (first | refine blk_drewN ?_ _ | refine blk_drew ?_ | refine blk_alloc ?_ _)); exact BK249.out)) : gb259 ≠ gb249)); have n11_ := Aside0.mk ((by rw [hg]; exact Nat.ne_of_lt (blk_lt (g := gb250) (o := .cells #[.int .i64 a2_0, .int .i64 a2_1] 23 (0, 0)) (by (with_reducible repeat (first | refine blk_drewN ?_ _ | refine blk_drew ?_ | refine blk_alloc ?_ _)); exact BK250.out)) : gb250 ≠ gb259)); have n12_ := Aside0.mk ((by rw [hg]; exact Nat.ne_of_gt (blk_lt (g := gb250) (o := .cells #[.int .i64 a2_0, .int .i64 a2_1] 23 (0, 0)) (by (with_reducible repeat (first | refine blk_drewN ?_ _ | refine blk_drew ?_ | refine blk_alloc ?_ _)); exact BK250.out)) : gb259 ≠ gb250)); clear BK248; clear BK249; clear BK250; clear HB; have BK248 := n0_; have BK249 := n1_; have BK250 := n2_; have HB := n3_; have BK259 := n4_; have GW259 := n5_; have GE259 := n6_; have NB248_259 := n7_; have NB259_248 := n8_; have NB249_259 := n9_; have NB259_249 := n10_; have NB250_259 := n11_; have NB259_250 := n12_; clear n0_ n1_ n2_ n3_ n4_ n5_ n6_ n7_ n8_ n9_ n10_ n11_ n12_; clear hb hbox hg; have hnb69 := NB259_248.out; have hnc69 := NB248_259.out; have hnb70 := NB259_249.out; have hnc70 := NB249_259.out; have hnb71 := NB259_250.out; have hnc71 := NB250_259.out; have hcz72_0 : w68.cell? ⟨gb259, 0, none⟩ = some (.int .i64 0) := (YtdelfhahbngcfaaDoorW.PrintWords.blk_cell BK259.out 0).trans rfl; have hcz72_1 : w68.cell? ⟨gb259, 1, none⟩ = some (.int .i64 0) := (YtdelfhahbngcfaaDoorW.PrintWords.blk_cell BK259.out 1).trans rfl; have hfz72_0 := blk_frozen BK259.out 0; have hfz72_1 := blk_frozen BK259.out 1; have hcz73_0 : w68.cell? ⟨gb248, 0, none⟩ = some (.int .i64 a0_0) := (YtdelfhahbngcfaaDoorW.PrintWords.blk_cell BK248.out 0).trans rfl; have hcz73_1 : w68.cell? ⟨gb248, 1, none⟩ = some (.int .i64 a0_1) := (YtdelfhahbngcfaaDoorW.PrintWords.blk_cell BK248.out 1).trans rfl; have hfz73_0 := blk_frozen BK248.out 0; have hfz73_1 := blk_frozen BK248.out 1) | (go_at_call 22; (with_reducible refine (dot_Less.calls kj6 a0_0 a0_1 t256 t257 true _ A58.out).mono ?_); rintro e w74 ⟨rfl, hb⟩; have n0_ := Aside0.mk (blk_below (g := gb248) (o := .cells #[.int .i64 a0_0, .int .i64 a0_1] 23 (0, 0)) (by (with_reducible repeat (first | refine blk_drewN ?_ _ | refine blk_drew ?_ | refine blk_alloc ?_ _)); refine blk_far ?_ NB248_259.out _; (with_reducible repeat (first | refine blk_drewN ?_ _ | refine blk_drew ?_ | refine blk_alloc ?_ _)); refine blk_far ?_ NB248_259.out _; (with_reducible repeat (first | refine blk_drewN ?_ _ | refine blk_drew ?_ | refine blk_alloc ?_ _)); exact BK248.out) hb); have n1_ := Aside0.mk (blk_below (g := gb249) (o := .cells #[.int .i64 a1_0, .int .i64 a1_1] 23 (0, 0)) (by (with_reducible repeat (first | refine blk_drewN ?_ _ | refine blk_drew ?_ | refine blk_alloc ?_ _)); refine blk_far ?_ NB249_259.out _; (with_reducible repeat (first | refine blk_drewN ?_ _ | refine blk_drew ?_ | refine blk_alloc ?_ _)); refine blk_far ?_ NB249_259.out _; (with_reducible repeat (first | refine blk_drewN ?_ _ | refine blk_drew ?_ | refine blk_alloc ?_ _)); exact BK249.out) hb); have n2_ := Aside0.mk (blk_below (g := gb250) (o := .cells #[.int .i64 a2_0, .int .i64 a2_1] 23 (0, 0)) (by (with_reducible repeat (first | refine blk_drewN ?_ _ | refine blk_drew ?_ | refine blk_alloc ?_ _)); refine blk_far ?_ NB250_259.out _; (with_reducible repeat (first | refine blk_drewN ?_ _ | refine blk_drew ?_ | refine blk_alloc ?_ _)); refine blk_far ?_ NB250_259.out _; (with_reducible repeat (first | refine blk_drewN ?_ _ | refine blk_drew ?_ | refine blk_alloc ?_ _)); exact BK250.out) hb); have n3_ := Aside0.mk (blk_below (g := gb259) (o := .cells #[.int .i64 t256, .int .i64 t257] 23 (0, 0)) (by (with_reducible repeat (first | refine blk_drewN ?_ _ | refine blk_drew ?_ | refine blk_alloc ?_ _)); refine blk_put (cs := #[.int .i64 t256, .int .i64 0]) ?_ 1 _ rfl; (with_reducible repeat (first | refine blk_drewN ?_ _ | refine blk_drew ?_ | refine blk_alloc ?_ _)); refine blk_put (cs := #[.int .i64 0, .int .i64 0]) ?_ 0 _ rfl; (with_reducible repeat (first | refine blk_drewN ?_ _ | refine blk_drew ?_ | refine blk_alloc ?_ _)); exact BK259.out) hb); have n4_ := Aside0.mk (below_step (by repeat (first | (with_reducible first | exact HB.out | apply below_alloc | apply pw_below_drewN | apply below_drew1 | refine below_set ?_ GE248.out | refine below_set ?_ GE249.out | refine below_set ?_ GE250.out | refine below_set ?_ GE259.out) | exact HB.out)) hb); clear BK248; clear BK249; clear BK250; clear BK259; clear HB; have BK248 := n0_; have BK249 := n1_; have BK250 := n2_; have BK259 := n3_; have HB := n4_; clear n0_ n1_ n2_ n3_ n4_; (try clear hb); (try clear hb2); (try clear hk); (try clear hi); have hcz75_0 : w74.cell? ⟨gb248, 0, none⟩ = some (.int .i64 a0_0) := (YtdelfhahbngcfaaDoorW.PrintWords.blk_cell BK248.out 0).trans rfl; have hcz75_1 : w74.cell? ⟨gb248, 1, none⟩ = some (.int .i64 a0_1) := (YtdelfhahbngcfaaDoorW.PrintWords.blk_cell BK248.out 1).trans rfl; have hfz75_0 := blk_frozen BK248.out 0; have hfz75_1 := blk_frozen BK248.out 1; have hnb76 := NB249_250.out; have hnc76 := NB250_249.out; have hcz77_0 : w74.cell? ⟨gb249, 0, none⟩ = some (.int .i64 a1_0) := (YtdelfhahbngcfaaDoorW.PrintWords.blk_cell BK249.out 0).trans rfl; have hcz77_1 : w74.cell? ⟨gb249, 1, none⟩ = some (.int .i64 a1_1) := (YtdelfhahbngcfaaDoorW.PrintWords.blk_cell BK249.out 1).trans rfl; have hfz77_0 := blk_frozen BK249.out 0; have hfz77_1 := blk_frozen BK249.out 1) | (go_at_call 22; (with_reducible refine (dot_Less.calls kj6 a0_0 a0_1 a1_0 a1_1 true _ A60.out).mono ?_); rintro e w78 ⟨rfl, hb⟩; have n0_ := Aside0.mk (blk_below (g := gb248) (o := .cells #[.int .i64 a0_0, .int .i64 a0_1] 23 (0, 0)) (by (with_reducible repeat (first | refine blk_drewN ?_ _ | refine blk_drew ?_ | refine blk_alloc ?_ _)); exact BK248.out) hb); have n1_ := Aside0.mk (blk_below (g := gb249) (o := .cells #[.int .i64 a1_0, .int .i64 a1_1] 23 (0, 0)) (by (with_reducible repeat (first | refine blk_drewN ?_ _ | refine blk_drew ?_ | refine blk_alloc ?_ _)); exact BK249.out) hb); have n2_ := Aside0.mk (blk_below (g := gb250) (o := .cells #[.int .i64 a2_0, .int .i64 a2_1] 23 (0, 0)) (by (with_reducible repeat (first | refine blk_drewN ?_ _ | refine blk_drew ?_ | refine blk_alloc ?_ _)); exact BK250.out) hb); have n3_ := Aside0.mk (blk_below (g := gb259) (o := .cells #[.int .i64 t256, .int .i64 t257] 23 (0, 0)) (by (with_reducible repeat (first | refine blk_drewN ?_ _ | refine blk_drew ?_ | refine blk_alloc ?_ _)); exact BK259.out) hb); have n4_ := Aside0.mk (below_step (by repeat (first | (with_reducible first | exact HB.out | apply below_alloc | apply pw_below_drewN | apply below_drew1 | refine below_set ?_ GE248.out | refine below_set ?_ GE249.out | refine below_set ?_ GE250.out | refine below_set ?_ GE259.out) | exact HB.out)) hb); clear BK248; clear BK249; clear BK250; clear BK259; clear HB; have BK248 := n0_; have BK249 := n1_; have BK250 := n2_; have BK259 := n3_; have HB := n4_; clear n0_ n1_ n2_ n3_ n4_; (try clear hb); (try clear hb2); (try clear hk); (try clear hi); have hcz79_0 : w78.cell? ⟨gb249, 0, none⟩ = some (.int .i64 a1_0) := (YtdelfhahbngcfaaDoorW.PrintWords.blk_cell BK249.out 0).trans rfl; have hcz79_1 : w78.cell? ⟨gb249, 1, none⟩ = some (.int .i64 a1_1) := (YtdelfhahbngcfaaDoorW.PrintWords.blk_cell BK249.out 1).trans rfl; have hfz79_0 := blk_frozen BK249.out 0; have hfz79_1 := blk_frozen BK249.out 1; have hcz80_0 : w78.cell? ⟨gb259, 0, none⟩ = some (.int .i64 t256) := (YtdelfhahbngcfaaDoorW.PrintWords.blk_cell BK259.out 0).trans rfl; have hcz80_1 : w78.cell? ⟨gb259, 1, none⟩ = some (.int .i64 t257) := (YtdelfhahbngcfaaDoorW.PrintWords.blk_cell BK259.out 1).trans rfl; have hfz80_0 := blk_frozen BK259.out 0; have hfz80_1 := blk_frozen BK259.out 1) | (go_at_call 22; (with_reducible refine (dot_Less.calls kj6 a1_0 a1_1 t256 t257 true _ A62.out).mono ?_); rintro e w81 ⟨rfl, hb⟩; have n0_ := Aside0.mk (blk_below (g := gb248) (o := .cells #[.int .i64 a0_0, .int .i64 a0_1] 23 (0, 0)) (by (with_reducible repeat (first | refine blk_drewN ?_ _ | refine blk_drew ?_ | refine blk_alloc ?_ _)); exact BK248.out) hb); have n1_ := Aside0.mk (blk_below (g := gb249) (o := .cells #[.int .i64 a1_0, .int .i64 a1_1] 23 (0, 0)) (by (with_reducible repeat (first | refine blk_drewN ?_ _ | refine blk_drew ?_ | refine blk_alloc ?_ _)); exact BK249.out) hb); have n2_ := Aside0.mk (blk_below (g := gb250) (o := .cells #[.int .i64 a2_0, .int .i64 a2_1] 23 (0, 0)) (by (with_reducible repeat (first | refine blk_drewN ?_ _ | refine blk_drew ?_ | refine blk_alloc ?_ _)); exact BK250.out) hb); have n3_ := Aside0.mk (blk_below (g := gb259) (o := .cells #[.int .i64 t256, .int .i64 t257] 23 (0, 0)) (by (with_reducible repeat (first | refine blk_drewN ?_ _ | refine blk_drew ?_ | refine blk_alloc ?_ _)); exact BK259.out) hb); have n4_ := Aside0.mk (below_step (by repeat (first | (with_reducible first | exact HB.out | apply below_alloc | apply pw_below_drewN | apply below_drew1 | refine below_set ?_ GE248.out | refine below_set ?_ GE249.out | refine below_set ?_ GE250.out | refine below_set ?_ GE259.out) | exact HB.out)) hb); clear BK248; clear BK249; clear BK250; clear BK259; clear HB; have BK248 := n0_; have BK249 := n1_; have BK250 := n2_; have BK259 := n3_; have HB := n4_; clear n0_ n1_ n2_ n3_ n4_; (try clear hb); (try clear hb2); (try clear hk); (try clear hi)))
                  go_ret
                  exact ⟨by first | rfl | (simp [errW_none, errW_some] <;> rfl) | (simp [*, errW_none, errW_some] <;> rfl), by repeat (first | (with_reducible first | exact HB.out | apply below_alloc | apply pw_below_drewN | apply below_drew1 | refine below_set ?_ GE248.out | refine below_set ?_ GE249.out | refine below_set ?_ GE250.out | refine below_set ?_ GE259.out) | exact HB.out)⟩
                · replace c63 := Bool.eq_false_iff.mpr c63
                  subst c63
                  have H1 : ((dot_Check.f t256 t257).bind fun t263 => (some (t263 == 0))) = some r := by rw [if_neg (show ¬ (false = true) by decide)] at H; exact H
                  clear H
                  have H := H1
                  clear H1
                  replace H := Option.bind_eq_some_iff.mp H
                  obtain ⟨t263, A820, H⟩ := H
                  replace H : (some (t263 == 0)) = some r := H
                  have A82 := Aside0.mk A820
                  clear A820
                  obtain rfl := Option.some.inj H
                  have hnb83 := NB248_249.out
                  have hnc83 := NB249_248.out
                  have hnb84 := NB248_250.out
                  have hnc84 := NB250_248.out
                  have hcz85_0 : wc.cell? ⟨gb248, 0, none⟩ = some (.int .i64 a0_0) := (YtdelfhahbngcfaaDoorW.PrintWords.blk_cell BK248.out 0).trans rfl
                  have hcz85_1 : wc.cell? ⟨gb248, 1, none⟩ = some (.int .i64 a0_1) := (YtdelfhahbngcfaaDoorW.PrintWords.blk_cell BK248.out 1).trans rfl
                  have hfz85_0 := blk_frozen BK248.out 0
                  have hfz85_1 := blk_frozen BK248.out 1
                  go_wp2_with (first | ((with_reducible refine gate_callee (f := 23) rfl ?_); refine goesL_ (some 51) rfl rfl Tryd.func23 (by kernel_rfl) rfl #[.agg #[.int .i64 a0_0, .int .i64 a0_1]] rfl (by (try simp only [List.map_toArray, List.map_cons, List.map_nil]); first | done | rfl | (simp only [List.length_drop, List.length_take]; rfl)) ?_; (with_reducible refine (dot_Next.calls a0_0 a0_1 t256 t257 t258 _ A55.out).mono ?_); rintro e w86 ⟨rfl, hb⟩; refine ⟨_, rfl, ?_⟩; have n0_ := Aside0.mk (blk_below (g := gb248) (o := .cells #[.int .i64 a0_0, .int .i64 a0_1] 23 (0, 0)) (by (with_reducible repeat (first | refine blk_drewN ?_ _ | refine blk_drew ?_ | refine blk_alloc ?_ _)); exact BK248.out) hb); have n1_ := Aside0.mk (blk_below (g := gb249) (o := .cells #[.int .i64 a1_0, .int .i64 a1_1] 23 (0, 0)) (by (with_reducible repeat (first | refine blk_drewN ?_ _ | refine blk_drew ?_ | refine blk_alloc ?_ _)); exact BK249.out) hb); have n2_ := Aside0.mk (blk_below (g := gb250) (o := .cells #[.int .i64 a2_0, .int .i64 a2_1] 23 (0, 0)) (by (with_reducible repeat (first | refine blk_drewN ?_ _ | refine blk_drew ?_ | refine blk_alloc ?_ _)); exact BK250.out) hb); have n3_ := Aside0.mk (below_step (by repeat (first | (with_reducible first | exact HB.out | apply below_alloc | apply pw_below_drewN | apply below_drew1 | refine below_set ?_ GE248.out | refine below_set ?_ GE249.out | refine below_set ?_ GE250.out) | exact HB.out)) hb); clear BK248; clear BK249; clear BK250; clear HB; have BK248 := n0_; have BK249 := n1_; have BK250 := n2_; have HB := n3_; clear n0_ n1_ n2_ n3_; (try clear hb); (try clear hb2); (try clear hk); (try clear hi)) | ((with_reducible refine gate_dst (N := 10) rfl ?_); refine box_event ?hg (N := 10) ?hd (cs := #[.int .i64 0, .int .i64 0]) (t := 23) ?hr ?_; (case hd => rfl); (case hg => rfl); (case hr => first | (go_simp; done) | (go_simp; rfl)); intro gb259 hg w87 hbox hb; have n0_ := Aside0.mk (blk_below (g := gb248) (o := .cells #[.int .i64 a0_0, .int .i64 a0_1] 23 (0, 0)) (by (with_reducible repeat (first | refine blk_drewN ?_ _ | refine blk_drew ?_ | refine blk_alloc ?_ _)); exact BK248.out) hb); have n1_ := Aside0.mk (blk_below (g := gb249) (o := .cells #[.int .i64 a1_0, .int .i64 a1_1] 23 (0, 0)) (by (with_reducible repeat (first | refine blk_drewN ?_ _ | refine blk_drew ?_ | refine blk_alloc ?_ _)); exact BK249.out) hb); have n2_ := Aside0.mk (blk_below (g := gb250) (o := .cells #[.int .i64 a2_0, .int .i64 a2_1] 23 (0, 0)) (by (with_reducible repeat (first | refine blk_drewN ?_ _ | refine blk_drew ?_ | refine blk_alloc ?_ _)); exact BK250.out) hb); have n3_ := Aside0.mk (below_step (by repeat (first | (with_reducible first | exact HB.out | apply below_alloc | apply pw_below_drewN | apply below_drew1 | refine below_set ?_ GE248.out | refine below_set ?_ GE249.out | refine below_set ?_ GE250.out) | exact HB.out)) hb); have n4_ := Aside0.mk (hbox); have n5_ := Aside0.mk ((by rw [hg]; exact (below_size (by repeat (first | (with_reducible first | exact HB.out | apply below_alloc | apply pw_below_drewN | apply below_drew1 | refine below_set ?_ GE248.out | refine below_set ?_ GE249.out | refine below_set ?_ GE250.out) | exact HB.out))) : w.heap.size ≤ gb259)); have n6_ := Aside0.mk ((by rw [hg]; exact (below_size (by repeat (first | (with_reducible first | exact HB.out | apply below_alloc | apply pw_below_drewN | apply below_drew1 | refine below_set ?_ GE248.out | refine below_set ?_ GE249.out | refine below_set ?_ GE250.out) | exact HB.out))) : w.heap.size ≤ gb259)); have n7_ := Aside0.mk ((by rw [hg]; exact Nat.ne_of_lt (blk_lt (g := gb248) (o := .cells #[.int .i64 a0_0, .int .i64 a0_1] 23 (0, 0)) (by (with_reducible repeat (first | refine blk_drewN ?_ _ | refine blk_drew ?_ | refine blk_alloc ?_ _)); exact BK248.out)) : gb248 ≠ gb259)); have n8_ := Aside0.mk ((by rw [hg]; exact Nat.ne_of_gt (blk_lt (g := gb248) (o := .cells #[.int .i64 a0_0, .int .i64 a0_1] 23 (0, 0)) (by (with_reducible repeat (first | refine blk_drewN ?_ _ | refine blk_drew ?_ | refine blk_alloc ?_ _)); exact BK248.out)) : gb259 ≠ gb248)); have n9_ := Aside0.mk ((by rw [hg]; exact Nat.ne_of_lt (blk_lt (g := gb249) (o := .cells #[.int .i64 a1_0, .int .i64 a1_1] 23 (0, 0)) (by (with_reducible repeat (first | refine blk_drewN ?_ _ | refine blk_drew ?_ | refine blk_alloc ?_ _)); exact BK249.out)) : gb249 ≠ gb259)); have n10_ := Aside0.mk ((by rw [hg]; exact Nat.ne_of_gt (blk_lt (g := gb249) (o := .cells #[.int .i64 a1_0, .int .i64 a1_1] 23 (0, 0)) (by (with_reducible repeat (first | refine blk_drewN ?_ _ | refine blk_drew ?_ | refine blk_alloc ?_ _)); exact BK249.out)) : gb259 ≠ gb249)); have n11_ := Aside0.mk ((by rw [hg]; exact Nat.ne_of_lt (blk_lt (g := gb250) (o := .cells #[.int .i64 a2_0, .int .i64 a2_1] 23 (0, 0)) (by (with_reducible repeat (first | refine blk_drewN ?_ _ | refine blk_drew ?_ | refine blk_alloc ?_ _)); exact BK250.out)) : gb250 ≠ gb259)); have n12_ := Aside0.mk ((by rw [hg]; exact Nat.ne_of_gt (blk_lt (g := gb250) (o := .cells #[.int .i64 a2_0, .int .i64 a2_1] 23 (0, 0)) (by (with_reducible repeat (first | refine blk_drewN ?_ _ | refine blk_drew ?_ | refine blk_alloc ?_ _)); exact BK250.out)) : gb259 ≠ gb250)); clear BK248; clear BK249; clear BK250; clear HB; have BK248 := n0_; have BK249 := n1_; have BK250 := n2_; have HB := n3_; have BK259 := n4_; have GW259 := n5_; have GE259 := n6_; have NB248_259 := n7_; have NB259_248 := n8_; have NB249_259 := n9_; have NB259_249 := n10_; have NB250_259 := n11_; have NB259_250 := n12_; clear n0_ n1_ n2_ n3_ n4_ n5_ n6_ n7_ n8_ n9_ n10_ n11_ n12_; clear hb hbox hg; have hnb88 := NB259_248.out; have hnc88 := NB248_259.out; have hnb89 := NB259_249.out; have hnc89 := NB249_259.out; have hnb90 := NB259_250.out; have hnc90 := NB250_259.out; have hcz91_0 : w87.cell? ⟨gb259, 0, none⟩ = some (.int .i64 0) := (YtdelfhahbngcfaaDoorW.PrintWords.blk_cell BK259.out 0).trans rfl; have hcz91_1 : w87.cell? ⟨gb259, 1, none⟩ = some (.int .i64 0) := (YtdelfhahbngcfaaDoorW.PrintWords.blk_cell BK259.out 1).trans rfl; have hfz91_0 := blk_frozen BK259.out 0; have hfz91_1 := blk_frozen BK259.out 1; have hcz92_0 : w87.cell? ⟨gb248, 0, none⟩ = some (.int .i64 a0_0) := (YtdelfhahbngcfaaDoorW.PrintWords.blk_cell BK248.out 0).trans rfl; have hcz92_1 : w87.cell? ⟨gb248, 1, none⟩ = some (.int .i64 a0_1) := (YtdelfhahbngcfaaDoorW.PrintWords.blk_cell BK248.out 1).trans rfl; have hfz92_0 := blk_frozen BK248.out 0; have hfz92_1 := blk_frozen BK248.out 1) | (go_at_call 22; (with_reducible refine (dot_Less.calls kj6 a0_0 a0_1 t256 t257 true _ A58.out).mono ?_); rintro e w93 ⟨rfl, hb⟩; have n0_ := Aside0.mk (blk_below (g := gb248) (o := .cells #[.int .i64 a0_0, .int .i64 a0_1] 23 (0, 0)) (by (with_reducible repeat (first | refine blk_drewN ?_ _ | refine blk_drew ?_ | refine blk_alloc ?_ _)); refine blk_far ?_ NB248_259.out _; (with_reducible repeat (first | refine blk_drewN ?_ _ | refine blk_drew ?_ | refine blk_alloc ?_ _)); refine blk_far ?_ NB248_259.out _; (with_reducible repeat (first | refine blk_drewN ?_ _ | refine blk_drew ?_ | refine blk_alloc ?_ _)); exact BK248.out) hb); have n1_ := Aside0.mk (blk_below (g := gb249) (o := .cells #[.int .i64 a1_0, .int .i64 a1_1] 23 (0, 0)) (by (with_reducible repeat (first | refine blk_drewN ?_ _ | refine blk_drew ?_ | refine blk_alloc ?_ _)); refine blk_far ?_ NB249_259.out _; (with_reducible repeat (first | refine blk_drewN ?_ _ | refine blk_drew ?_ | refine blk_alloc ?_ _)); refine blk_far ?_ NB249_259.out _; (with_reducible repeat (first | refine blk_drewN ?_ _ | refine blk_drew ?_ | refine blk_alloc ?_ _)); exact BK249.out) hb); have n2_ := Aside0.mk (blk_below (g := gb250) (o := .cells #[.int .i64 a2_0, .int .i64 a2_1] 23 (0, 0)) (by (with_reducible repeat (first | refine blk_drewN ?_ _ | refine blk_drew ?_ | refine blk_alloc ?_ _)); refine blk_far ?_ NB250_259.out _; (with_reducible repeat (first | refine blk_drewN ?_ _ | refine blk_drew ?_ | refine blk_alloc ?_ _)); refine blk_far ?_ NB250_259.out _; (with_reducible repeat (first | refine blk_drewN ?_ _ | refine blk_drew ?_ | refine blk_alloc ?_ _)); exact BK250.out) hb); have n3_ := Aside0.mk (blk_below (g := gb259) (o := .cells #[.int .i64 t256, .int .i64 t257] 23 (0, 0)) (by (with_reducible repeat (first | refine blk_drewN ?_ _ | refine blk_drew ?_ | refine blk_alloc ?_ _)); refine blk_put (cs := #[.int .i64 t256, .int .i64 0]) ?_ 1 _ rfl; (with_reducible repeat (first | refine blk_drewN ?_ _ | refine blk_drew ?_ | refine blk_alloc ?_ _)); refine blk_put (cs := #[.int .i64 0, .int .i64 0]) ?_ 0 _ rfl; (with_reducible repeat (first | refine blk_drewN ?_ _ | refine blk_drew ?_ | refine blk_alloc ?_ _)); exact BK259.out) hb); have n4_ := Aside0.mk (below_step (by repeat (first | (with_reducible first | exact HB.out | apply below_alloc | apply pw_below_drewN | apply below_drew1 | refine below_set ?_ GE248.out | refine below_set ?_ GE249.out | refine below_set ?_ GE250.out | refine below_set ?_ GE259.out) | exact HB.out)) hb); clear BK248; clear BK249; clear BK250; clear BK259; clear HB; have BK248 := n0_; have BK249 := n1_; have BK250 := n2_; have BK259 := n3_; have HB := n4_; clear n0_ n1_ n2_ n3_ n4_; (try clear hb); (try clear hb2); (try clear hk); (try clear hi); have hcz94_0 : w93.cell? ⟨gb248, 0, none⟩ = some (.int .i64 a0_0) := (YtdelfhahbngcfaaDoorW.PrintWords.blk_cell BK248.out 0).trans rfl; have hcz94_1 : w93.cell? ⟨gb248, 1, none⟩ = some (.int .i64 a0_1) := (YtdelfhahbngcfaaDoorW.PrintWords.blk_cell BK248.out 1).trans rfl; have hfz94_0 := blk_frozen BK248.out 0; have hfz94_1 := blk_frozen BK248.out 1; have hnb95 := NB249_250.out; have hnc95 := NB250_249.out; have hcz96_0 : w93.cell? ⟨gb249, 0, none⟩ = some (.int .i64 a1_0) := (YtdelfhahbngcfaaDoorW.PrintWords.blk_cell BK249.out 0).trans rfl; have hcz96_1 : w93.cell? ⟨gb249, 1, none⟩ = some (.int .i64 a1_1) := (YtdelfhahbngcfaaDoorW.PrintWords.blk_cell BK249.out 1).trans rfl; have hfz96_0 := blk_frozen BK249.out 0; have hfz96_1 := blk_frozen BK249.out 1) | (go_at_call 22; (with_reducible refine (dot_Less.calls kj6 a0_0 a0_1 a1_0 a1_1 true _ A60.out).mono ?_); rintro e w97 ⟨rfl, hb⟩; have n0_ := Aside0.mk (blk_below (g := gb248) (o := .cells #[.int .i64 a0_0, .int .i64 a0_1] 23 (0, 0)) (by (with_reducible repeat (first | refine blk_drewN ?_ _ | refine blk_drew ?_ | refine blk_alloc ?_ _)); exact BK248.out) hb); have n1_ := Aside0.mk (blk_below (g := gb249) (o := .cells #[.int .i64 a1_0, .int .i64 a1_1] 23 (0, 0)) (by (with_reducible repeat (first | refine blk_drewN ?_ _ | refine blk_drew ?_ | refine blk_alloc ?_ _)); exact BK249.out) hb); have n2_ := Aside0.mk (blk_below (g := gb250) (o := .cells #[.int .i64 a2_0, .int .i64 a2_1] 23 (0, 0)) (by (with_reducible repeat (first | refine blk_drewN ?_ _ | refine blk_drew ?_ | refine blk_alloc ?_ _)); exact BK250.out) hb); have n3_ := Aside0.mk (blk_below (g := gb259) (o := .cells #[.int .i64 t256, .int .i64 t257] 23 (0, 0)) (by (with_reducible repeat (first | refine blk_drewN ?_ _ | refine blk_drew ?_ | refine blk_alloc ?_ _)); exact BK259.out) hb); have n4_ := Aside0.mk (below_step (by repeat (first | (with_reducible first | exact HB.out | apply below_alloc | apply pw_below_drewN | apply below_drew1 | refine below_set ?_ GE248.out | refine below_set ?_ GE249.out | refine below_set ?_ GE250.out | refine below_set ?_ GE259.out) | exact HB.out)) hb); clear BK248; clear BK249; clear BK250; clear BK259; clear HB; have BK248 := n0_; have BK249 := n1_; have BK250 := n2_; have BK259 := n3_; have HB := n4_; clear n0_ n1_ n2_ n3_ n4_; (try clear hb); (try clear hb2); (try clear hk); (try clear hi); have hcz98_0 : w97.cell? ⟨gb249, 0, none⟩ = some (.int .i64 a1_0) := (YtdelfhahbngcfaaDoorW.PrintWords.blk_cell BK249.out 0).trans rfl; have hcz98_1 : w97.cell? ⟨gb249, 1, none⟩ = some (.int .i64 a1_1) := (YtdelfhahbngcfaaDoorW.PrintWords.blk_cell BK249.out 1).trans rfl; have hfz98_0 := blk_frozen BK249.out 0; have hfz98_1 := blk_frozen BK249.out 1; have hcz99_0 : w97.cell? ⟨gb259, 0, none⟩ = some (.int .i64 t256) := (YtdelfhahbngcfaaDoorW.PrintWords.blk_cell BK259.out 0).trans rfl; have hcz99_1 : w97.cell? ⟨gb259, 1, none⟩ = some (.int .i64 t257) := (YtdelfhahbngcfaaDoorW.PrintWords.blk_cell BK259.out 1).trans rfl; have hfz99_0 := blk_frozen BK259.out 0; have hfz99_1 := blk_frozen BK259.out 1) | (go_at_call 22; (with_reducible refine (dot_Less.calls kj6 a1_0 a1_1 t256 t257 false _ A62.out).mono ?_); rintro e w100 ⟨rfl, hb⟩; have n0_ := Aside0.mk (blk_below (g := gb248) (o := .cells #[.int .i64 a0_0, .int .i64 a0_1] 23 (0, 0)) (by (with_reducible repeat (first | refine blk_drewN ?_ _ | refine blk_drew ?_ | refine blk_alloc ?_ _)); exact BK248.out) hb); have n1_ := Aside0.mk (blk_below (g := gb249) (o := .cells #[.int .i64 a1_0, .int .i64 a1_1] 23 (0, 0)) (by (with_reducible repeat (first | refine blk_drewN ?_ _ | refine blk_drew ?_ | refine blk_alloc ?_ _)); exact BK249.out) hb); have n2_ := Aside0.mk (blk_below (g := gb250) (o := .cells #[.int .i64 a2_0, .int .i64 a2_1] 23 (0, 0)) (by (with_reducible repeat (first | refine blk_drewN ?_ _ | refine blk_drew ?_ | refine blk_alloc ?_ _)); exact BK250.out) hb); have n3_ := Aside0.mk (blk_below (g := gb259) (o := .cells #[.int .i64 t256, .int .i64 t257] 23 (0, 0)) (by (with_reducible repeat (first | refine blk_drewN ?_ _ | refine blk_drew ?_ | refine blk_alloc ?_ _)); exact BK259.out) hb); have n4_ := Aside0.mk (below_step (by repeat (first | (with_reducible first | exact HB.out | apply below_alloc | apply pw_below_drewN | apply below_drew1 | refine below_set ?_ GE248.out | refine below_set ?_ GE249.out | refine below_set ?_ GE250.out | refine below_set ?_ GE259.out) | exact HB.out)) hb); clear BK248; clear BK249; clear BK250; clear BK259; clear HB; have BK248 := n0_; have BK249 := n1_; have BK250 := n2_; have BK259 := n3_; have HB := n4_; clear n0_ n1_ n2_ n3_ n4_; (try clear hb); (try clear hb2); (try clear hk); (try clear hi); have hcz101_0 : w100.cell? ⟨gb259, 0, none⟩ = some (.int .i64 t256) := (YtdelfhahbngcfaaDoorW.PrintWords.blk_cell BK259.out 0).trans rfl; have hcz101_1 : w100.cell? ⟨gb259, 1, none⟩ = some (.int .i64 t257) := (YtdelfhahbngcfaaDoorW.PrintWords.blk_cell BK259.out 1).trans rfl; have hfz101_0 := blk_frozen BK259.out 0; have hfz101_1 := blk_frozen BK259.out 1) | (go_at_call 24; (with_reducible refine (dot_Check.calls t256 t257 t263 _ A82.out).mono ?_); rintro e w102 ⟨rfl, hb⟩; have n0_ := Aside0.mk (blk_below (g := gb248) (o := .cells #[.int .i64 a0_0, .int .i64 a0_1] 23 (0, 0)) (by (with_reducible repeat (first | refine blk_drewN ?_ _ | refine blk_drew ?_ | refine blk_alloc ?_ _)); exact BK248.out) hb); have n1_ := Aside0.mk (blk_below (g := gb249) (o := .cells #[.int .i64 a1_0, .int .i64 a1_1] 23 (0, 0)) (by (with_reducible repeat (first | refine blk_drewN ?_ _ | refine blk_drew ?_ | refine blk_alloc ?_ _)); exact BK249.out) hb); have n2_ := Aside0.mk (blk_below (g := gb250) (o := .cells #[.int .i64 a2_0, .int .i64 a2_1] 23 (0, 0)) (by (with_reducible repeat (first | refine blk_drewN ?_ _ | refine blk_drew ?_ | refine blk_alloc ?_ _)); exact BK250.out) hb); have n3_ := Aside0.mk (blk_below (g := gb259) (o := .cells #[.int .i64 t256, .int .i64 t257] 23 (0, 0)) (by (with_reducible repeat (first | refine blk_drewN ?_ _ | refine blk_drew ?_ | refine blk_alloc ?_ _)); exact BK259.out) hb); have n4_ := Aside0.mk (below_step (by repeat (first | (with_reducible first | exact HB.out | apply below_alloc | apply pw_below_drewN | apply below_drew1 | refine below_set ?_ GE248.out | refine below_set ?_ GE249.out | refine below_set ?_ GE250.out | refine below_set ?_ GE259.out) | exact HB.out)) hb); clear BK248; clear BK249; clear BK250; clear BK259; clear HB; have BK248 := n0_; have BK249 := n1_; have BK250 := n2_; have BK259 := n3_; have HB := n4_; clear n0_ n1_ n2_ n3_ n4_; (try clear hb); (try clear hb2); (try clear hk); (try clear hi)))
                  go_ret
                  exact ⟨by first | rfl | (simp [errW_none, errW_some] <;> rfl) | (simp [*, errW_none, errW_some] <;> rfl), by repeat (first | (with_reducible first | exact HB.out | apply below_alloc | apply pw_below_drewN | apply below_drew1 | refine below_set ?_ GE248.out | refine below_set ?_ GE249.out | refine below_set ?_ GE250.out | refine below_set ?_ GE259.out) | exact HB.out)⟩
              · replace c61 := Bool.eq_false_iff.mpr c61
                subst c61
                have H1 : ((dot_Check.f t256 t257).bind fun t264 => (some (t264 == 0))) = some r := by rw [if_neg (show ¬ (false = true) by decide)] at H; exact H
                clear H
                have H := H1
                clear H1
                replace H := Option.bind_eq_some_iff.mp H
                obtain ⟨t264, A1030, H⟩ := H
                replace H : (some (t264 == 0)) = some r := H
                have A103 := Aside0.mk A1030
                clear A1030
                obtain rfl := Option.some.inj H
                have hnb104 := NB248_249.out
                have hnc104 := NB249_248.out
                have hnb105 := NB248_250.out
                have hnc105 := NB250_248.out
                have hcz106_0 : wc.cell? ⟨gb248, 0, none⟩ = some (.int .i64 a0_0) := (YtdelfhahbngcfaaDoorW.PrintWords.blk_cell BK248.out 0).trans rfl
                have hcz106_1 : wc.cell? ⟨gb248, 1, none⟩ = some (.int .i64 a0_1) := (YtdelfhahbngcfaaDoorW.PrintWords.blk_cell BK248.out 1).trans rfl
                have hfz106_0 := blk_frozen BK248.out 0
                have hfz106_1 := blk_frozen BK248.out 1
                go_wp2_with (first | ((with_reducible refine gate_callee (f := 23) rfl ?_); refine goesL_ (some 51) rfl rfl Tryd.func23 (by kernel_rfl) rfl #[.agg #[.int .i64 a0_0, .int .i64 a0_1]] rfl (by (try simp only [List.map_toArray, List.map_cons, List.map_nil]); first | done | rfl | (simp only [List.length_drop, List.length_take]; rfl)) ?_; (with_reducible refine (dot_Next.calls a0_0 a0_1 t256 t257 t258 _ A55.out).mono ?_); rintro e w107 ⟨rfl, hb⟩; refine ⟨_, rfl, ?_⟩; have n0_ := Aside0.mk (blk_below (g := gb248) (o := .cells #[.int .i64 a0_0, .int .i64 a0_1] 23 (0, 0)) (by (with_reducible repeat (first | refine blk_drewN ?_ _ | refine blk_drew ?_ | refine blk_alloc ?_ _)); exact BK248.out) hb); have n1_ := Aside0.mk (blk_below (g := gb249) (o := .cells #[.int .i64 a1_0, .int .i64 a1_1] 23 (0, 0)) (by (with_reducible repeat (first | refine blk_drewN ?_ _ | refine blk_drew ?_ | refine blk_alloc ?_ _)); exact BK249.out) hb); have n2_ := Aside0.mk (blk_below (g := gb250) (o := .cells #[.int .i64 a2_0, .int .i64 a2_1] 23 (0, 0)) (by (with_reducible repeat (first | refine blk_drewN ?_ _ | refine blk_drew ?_ | refine blk_alloc ?_ _)); exact BK250.out) hb); have n3_ := Aside0.mk (below_step (by repeat (first | (with_reducible first | exact HB.out | apply below_alloc | apply pw_below_drewN | apply below_drew1 | refine below_set ?_ GE248.out | refine below_set ?_ GE249.out | refine below_set ?_ GE250.out) | exact HB.out)) hb); clear BK248; clear BK249; clear BK250; clear HB; have BK248 := n0_; have BK249 := n1_; have BK250 := n2_; have HB := n3_; clear n0_ n1_ n2_ n3_; (try clear hb); (try clear hb2); (try clear hk); (try clear hi)) | ((with_reducible refine gate_dst (N := 10) rfl ?_); refine box_event ?hg (N := 10) ?hd (cs := #[.int .i64 0, .int .i64 0]) (t := 23) ?hr ?_; (case hd => rfl); (case hg => rfl); (case hr => first | (go_simp; done) | (go_simp; rfl)); intro gb259 hg w108 hbox hb; have n0_ := Aside0.mk (blk_below (g := gb248) (o := .cells #[.int .i64 a0_0, .int .i64 a0_1] 23 (0, 0)) (by (with_reducible repeat (first | refine blk_drewN ?_ _ | refine blk_drew ?_ | refine blk_alloc ?_ _)); exact BK248.out) hb); have n1_ := Aside0.mk (blk_below (g := gb249) (o := .cells #[.int .i64 a1_0, .int .i64 a1_1] 23 (0, 0)) (by (with_reducible repeat (first | refine blk_drewN ?_ _ | refine blk_drew ?_ | refine blk_alloc ?_ _)); exact BK249.out) hb); have n2_ := Aside0.mk (blk_below (g := gb250) (o := .cells #[.int .i64 a2_0, .int .i64 a2_1] 23 (0, 0)) (by (with_reducible repeat (first | refine blk_drewN ?_ _ | refine blk_drew ?_ | refine blk_alloc ?_ _)); exact BK250.out) hb); have n3_ := Aside0.mk (below_step (by repeat (first | (with_reducible first | exact HB.out | apply below_alloc | apply pw_below_drewN | apply below_drew1 | refine below_set ?_ GE248.out | refine below_set ?_ GE249.out | refine below_set ?_ GE250.out) | exact HB.out)) hb); have n4_ := Aside0.mk (hbox); have n5_ := Aside0.mk ((by rw [hg]; exact (below_size (by repeat (first | (with_reducible first | exact HB.out | apply below_alloc | apply pw_below_drewN | apply below_drew1 | refine below_set ?_ GE248.out | refine below_set ?_ GE249.out | refine below_set ?_ GE250.out) | exact HB.out))) : w.heap.size ≤ gb259)); have n6_ := Aside0.mk ((by rw [hg]; exact (below_size (by repeat (first | (with_reducible first | exact HB.out | apply below_alloc | apply pw_below_drewN | apply below_drew1 | refine below_set ?_ GE248.out | refine below_set ?_ GE249.out | refine below_set ?_ GE250.out) | exact HB.out))) : w.heap.size ≤ gb259)); have n7_ := Aside0.mk ((by rw [hg]; exact Nat.ne_of_lt (blk_lt (g := gb248) (o := .cells #[.int .i64 a0_0, .int .i64 a0_1] 23 (0, 0)) (by (with_reducible repeat (first | refine blk_drewN ?_ _ | refine blk_drew ?_ | refine blk_alloc ?_ _)); exact BK248.out)) : gb248 ≠ gb259)); have n8_ := Aside0.mk ((by rw [hg]; exact Nat.ne_of_gt (blk_lt (g := gb248) (o := .cells #[.int .i64 a0_0, .int .i64 a0_1] 23 (0, 0)) (by (with_reducible repeat (first | refine blk_drewN ?_ _ | refine blk_drew ?_ | refine blk_alloc ?_ _)); exact BK248.out)) : gb259 ≠ gb248)); have n9_ := Aside0.mk ((by rw [hg]; exact Nat.ne_of_lt (blk_lt (g := gb249) (o := .cells #[.int .i64 a1_0, .int .i64 a1_1] 23 (0, 0)) (by (with_reducible repeat (first | refine blk_drewN ?_ _ | refine blk_drew ?_ | refine blk_alloc ?_ _)); exact BK249.out)) : gb249 ≠ gb259)); have n10_ := Aside0.mk ((by rw [hg]; exact Nat.ne_of_gt (blk_lt (g := gb249) (o := .cells #[.int .i64 a1_0, .int .i64 a1_1] 23 (0, 0)) (by (with_reducible repeat (first | refine blk_drewN ?_ _ | refine blk_drew ?_ | refine blk_alloc ?_ _)); exact BK249.out)) : gb259 ≠ gb249)); have n11_ := Aside0.mk ((by rw [hg]; exact Nat.ne_of_lt (blk_lt (g := gb250) (o := .cells #[.int .i64 a2_0, .int .i64 a2_1] 23 (0, 0)) (by (with_reducible repeat (first | refine blk_drewN ?_ _ | refine blk_drew ?_ | refine blk_alloc ?_ _)); exact BK250.out)) : gb250 ≠ gb259)); have n12_ := Aside0.mk ((by rw [hg]; exact Nat.ne_of_gt (blk_lt (g := gb250) (o := .cells #[.int .i64 a2_0, .int .i64 a2_1] 23 (0, 0)) (by (with_reducible repeat (first | refine blk_drewN ?_ _ | refine blk_drew ?_ | refine blk_alloc ?_ _)); exact BK250.out)) : gb259 ≠ gb250)); clear BK248; clear BK249; clear BK250; clear HB; have BK248 := n0_; have BK249 := n1_; have BK250 := n2_; have HB := n3_; have BK259 := n4_; have GW259 := n5_; have GE259 := n6_; have NB248_259 := n7_; have NB259_248 := n8_; have NB249_259 := n9_; have NB259_249 := n10_; have NB250_259 := n11_; have NB259_250 := n12_; clear n0_ n1_ n2_ n3_ n4_ n5_ n6_ n7_ n8_ n9_ n10_ n11_ n12_; clear hb hbox hg; have hnb109 := NB259_248.out; have hnc109 := NB248_259.out; have hnb110 := NB259_249.out; have hnc110 := NB249_259.out; have hnb111 := NB259_250.out; have hnc111 := NB250_259.out; have hcz112_0 : w108.cell? ⟨gb259, 0, none⟩ = some (.int .i64 0) := (YtdelfhahbngcfaaDoorW.PrintWords.blk_cell BK259.out 0).trans rfl; have hcz112_1 : w108.cell? ⟨gb259, 1, none⟩ = some (.int .i64 0) := (YtdelfhahbngcfaaDoorW.PrintWords.blk_cell BK259.out 1).trans rfl; have hfz112_0 := blk_frozen BK259.out 0; have hfz112_1 := blk_frozen BK259.out 1; have hcz113_0 : w108.cell? ⟨gb248, 0, none⟩ = some (.int .i64 a0_0) := (YtdelfhahbngcfaaDoorW.PrintWords.blk_cell BK248.out 0).trans rfl; have hcz113_1 : w108.cell? ⟨gb248, 1, none⟩ = some (.int .i64 a0_1) := (YtdelfhahbngcfaaDoorW.PrintWords.blk_cell BK248.out 1).trans rfl; have hfz113_0 := blk_frozen BK248.out 0; have hfz113_1 := blk_frozen BK248.out 1) | (go_at_call 22; (with_reducible refine (dot_Less.calls kj6 a0_0 a0_1 t256 t257 true _ A58.out).mono ?_); rintro e w114 ⟨rfl, hb⟩; have n0_ := Aside0.mk (blk_below (g := gb248) (o := .cells #[.int .i64 a0_0, .int .i64 a0_1] 23 (0, 0)) (by (with_reducible repeat (first | refine blk_drewN ?_ _ | refine blk_drew ?_ | refine blk_alloc ?_ _)); refine blk_far ?_ NB248_259.out _; (with_reducible repeat (first | refine blk_drewN ?_ _ | refine blk_drew ?_ | refine blk_alloc ?_ _)); refine blk_far ?_ NB248_259.out _; (with_reducible repeat (first | refine blk_drewN ?_ _ | refine blk_drew ?_ | refine blk_alloc ?_ _)); exact BK248.out) hb); have n1_ := Aside0.mk (blk_below (g := gb249) (o := .cells #[.int .i64 a1_0, .int .i64 a1_1] 23 (0, 0)) (by (with_reducible repeat (first | refine blk_drewN ?_ _ | refine blk_drew ?_ | refine blk_alloc ?_ _)); refine blk_far ?_ NB249_259.out _; (with_reducible repeat (first | refine blk_drewN ?_ _ | refine blk_drew ?_ | refine blk_alloc ?_ _)); refine blk_far ?_ NB249_259.out _; (with_reducible repeat (first | refine blk_drewN ?_ _ | refine blk_drew ?_ | refine blk_alloc ?_ _)); exact BK249.out) hb); have n2_ := Aside0.mk (blk_below (g := gb250) (o := .cells #[.int .i64 a2_0, .int .i64 a2_1] 23 (0, 0)) (by (with_reducible repeat (first | refine blk_drewN ?_ _ | refine blk_drew ?_ | refine blk_alloc ?_ _)); refine blk_far ?_ NB250_259.out _; (with_reducible repeat (first | refine blk_drewN ?_ _ | refine blk_drew ?_ | refine blk_alloc ?_ _)); refine blk_far ?_ NB250_259.out _; (with_reducible repeat (first | refine blk_drewN ?_ _ | refine blk_drew ?_ | refine blk_alloc ?_ _)); exact BK250.out) hb); have n3_ := Aside0.mk (blk_below (g := gb259) (o := .cells #[.int .i64 t256, .int .i64 t257] 23 (0, 0)) (by (with_reducible repeat (first | refine blk_drewN ?_ _ | refine blk_drew ?_ | refine blk_alloc ?_ _)); refine blk_put (cs := #[.int .i64 t256, .int .i64 0]) ?_ 1 _ rfl; (with_reducible repeat (first | refine blk_drewN ?_ _ | refine blk_drew ?_ | refine blk_alloc ?_ _)); refine blk_put (cs := #[.int .i64 0, .int .i64 0]) ?_ 0 _ rfl; (with_reducible repeat (first | refine blk_drewN ?_ _ | refine blk_drew ?_ | refine blk_alloc ?_ _)); exact BK259.out) hb); have n4_ := Aside0.mk (below_step (by repeat (first | (with_reducible first | exact HB.out | apply below_alloc | apply pw_below_drewN | apply below_drew1 | refine below_set ?_ GE248.out | refine below_set ?_ GE249.out | refine below_set ?_ GE250.out | refine below_set ?_ GE259.out) | exact HB.out)) hb); clear BK248; clear BK249; clear BK250; clear BK259; clear HB; have BK248 := n0_; have BK249 := n1_; have BK250 := n2_; have BK259 := n3_; have HB := n4_; clear n0_ n1_ n2_ n3_ n4_; (try clear hb); (try clear hb2); (try clear hk); (try clear hi); have hcz115_0 : w114.cell? ⟨gb248, 0, none⟩ = some (.int .i64 a0_0) := (YtdelfhahbngcfaaDoorW.PrintWords.blk_cell BK248.out 0).trans rfl; have hcz115_1 : w114.cell? ⟨gb248, 1, none⟩ = some (.int .i64 a0_1) := (YtdelfhahbngcfaaDoorW.PrintWords.blk_cell BK248.out 1).trans rfl; have hfz115_0 := blk_frozen BK248.out 0; have hfz115_1 := blk_frozen BK248.out 1; have hnb116 := NB249_250.out; have hnc116 := NB250_249.out; have hcz117_0 : w114.cell? ⟨gb249, 0, none⟩ = some (.int .i64 a1_0) := (YtdelfhahbngcfaaDoorW.PrintWords.blk_cell BK249.out 0).trans rfl; have hcz117_1 : w114.cell? ⟨gb249, 1, none⟩ = some (.int .i64 a1_1) := (YtdelfhahbngcfaaDoorW.PrintWords.blk_cell BK249.out 1).trans rfl; have hfz117_0 := blk_frozen BK249.out 0; have hfz117_1 := blk_frozen BK249.out 1) | (go_at_call 22; (with_reducible refine (dot_Less.calls kj6 a0_0 a0_1 a1_0 a1_1 false _ A60.out).mono ?_); rintro e w118 ⟨rfl, hb⟩; have n0_ := Aside0.mk (blk_below (g := gb248) (o := .cells #[.int .i64 a0_0, .int .i64 a0_1] 23 (0, 0)) (by (with_reducible repeat (first | refine blk_drewN ?_ _ | refine blk_drew ?_ | refine blk_alloc ?_ _)); exact BK248.out) hb); have n1_ := Aside0.mk (blk_below (g := gb249) (o := .cells #[.int .i64 a1_0, .int .i64 a1_1] 23 (0, 0)) (by (with_reducible repeat (first | refine blk_drewN ?_ _ | refine blk_drew ?_ | refine blk_alloc ?_ _)); exact BK249.out) hb); have n2_ := Aside0.mk (blk_below (g := gb250) (o := .cells #[.int .i64 a2_0, .int .i64 a2_1] 23 (0, 0)) (by (with_reducible repeat (first | refine blk_drewN ?_ _ | refine blk_drew ?_ | refine blk_alloc ?_ _)); exact BK250.out) hb); have n3_ := Aside0.mk (blk_below (g := gb259) (o := .cells #[.int .i64 t256, .int .i64 t257] 23 (0, 0)) (by (with_reducible repeat (first | refine blk_drewN ?_ _ | refine blk_drew ?_ | refine blk_alloc ?_ _)); exact BK259.out) hb); have n4_ := Aside0.mk (below_step (by repeat (first | (with_reducible first | exact HB.out | apply below_alloc | apply pw_below_drewN | apply below_drew1 | refine below_set ?_ GE248.out | refine below_set ?_ GE249.out | refine below_set ?_ GE250.out | refine below_set ?_ GE259.out) | exact HB.out)) hb); clear BK248; clear BK249; clear BK250; clear BK259; clear HB; have BK248 := n0_; have BK249 := n1_; have BK250 := n2_; have BK259 := n3_; have HB := n4_; clear n0_ n1_ n2_ n3_ n4_; (try clear hb); (try clear hb2); (try clear hk); (try clear hi); have hcz119_0 : w118.cell? ⟨gb259, 0, none⟩ = some (.int .i64 t256) := (YtdelfhahbngcfaaDoorW.PrintWords.blk_cell BK259.out 0).trans rfl; have hcz119_1 : w118.cell? ⟨gb259, 1, none⟩ = some (.int .i64 t257) := (YtdelfhahbngcfaaDoorW.PrintWords.blk_cell BK259.out 1).trans rfl; have hfz119_0 := blk_frozen BK259.out 0; have hfz119_1 := blk_frozen BK259.out 1) | (go_at_call 24; (with_reducible refine (dot_Check.calls t256 t257 t264 _ A103.out).mono ?_); rintro e w120 ⟨rfl, hb⟩; have n0_ := Aside0.mk (blk_below (g := gb248) (o := .cells #[.int .i64 a0_0, .int .i64 a0_1] 23 (0, 0)) (by (with_reducible repeat (first | refine blk_drewN ?_ _ | refine blk_drew ?_ | refine blk_alloc ?_ _)); exact BK248.out) hb); have n1_ := Aside0.mk (blk_below (g := gb249) (o := .cells #[.int .i64 a1_0, .int .i64 a1_1] 23 (0, 0)) (by (with_reducible repeat (first | refine blk_drewN ?_ _ | refine blk_drew ?_ | refine blk_alloc ?_ _)); exact BK249.out) hb); have n2_ := Aside0.mk (blk_below (g := gb250) (o := .cells #[.int .i64 a2_0, .int .i64 a2_1] 23 (0, 0)) (by (with_reducible repeat (first | refine blk_drewN ?_ _ | refine blk_drew ?_ | refine blk_alloc ?_ _)); exact BK250.out) hb); have n3_ := Aside0.mk (blk_below (g := gb259) (o := .cells #[.int .i64 t256, .int .i64 t257] 23 (0, 0)) (by (with_reducible repeat (first | refine blk_drewN ?_ _ | refine blk_drew ?_ | refine blk_alloc ?_ _)); exact BK259.out) hb); have n4_ := Aside0.mk (below_step (by repeat (first | (with_reducible first | exact HB.out | apply below_alloc | apply pw_below_drewN | apply below_drew1 | refine below_set ?_ GE248.out | refine below_set ?_ GE249.out | refine below_set ?_ GE250.out | refine below_set ?_ GE259.out) | exact HB.out)) hb); clear BK248; clear BK249; clear BK250; clear BK259; clear HB; have BK248 := n0_; have BK249 := n1_; have BK250 := n2_; have BK259 := n3_; have HB := n4_; clear n0_ n1_ n2_ n3_ n4_; (try clear hb); (try clear hb2); (try clear hk); (try clear hi)))
                go_ret
                exact ⟨by first | rfl | (simp [errW_none, errW_some] <;> rfl) | (simp [*, errW_none, errW_some] <;> rfl), by repeat (first | (with_reducible first | exact HB.out | apply below_alloc | apply pw_below_drewN | apply below_drew1 | refine below_set ?_ GE248.out | refine below_set ?_ GE249.out | refine below_set ?_ GE250.out | refine below_set ?_ GE259.out) | exact HB.out)⟩
            · replace c59 := Bool.eq_false_iff.mpr c59
              subst c59
              have H1 : (some false) = some r := by rw [if_neg (show ¬ (false = true) by decide)] at H; exact H
              clear H
              have H := H1
              clear H1
              obtain rfl := Option.some.inj H
              have hnb121 := NB248_249.out
              have hnc121 := NB249_248.out
              have hnb122 := NB248_250.out
              have hnc122 := NB250_248.out
              have hcz123_0 : wc.cell? ⟨gb248, 0, none⟩ = some (.int .i64 a0_0) := (YtdelfhahbngcfaaDoorW.PrintWords.blk_cell BK248.out 0).trans rfl
              have hcz123_1 : wc.cell? ⟨gb248, 1, none⟩ = some (.int .i64 a0_1) := (YtdelfhahbngcfaaDoorW.PrintWords.blk_cell BK248.out 1).trans rfl
              have hfz123_0 := blk_frozen BK248.out 0
              have hfz123_1 := blk_frozen BK248.out 1
              go_wp2_with (first | ((with_reducible refine gate_callee (f := 23) rfl ?_); refine goesL_ (some 51) rfl rfl Tryd.func23 (by kernel_rfl) rfl #[.agg #[.int .i64 a0_0, .int .i64 a0_1]] rfl (by (try simp only [List.map_toArray, List.map_cons, List.map_nil]); first | done | rfl | (simp only [List.length_drop, List.length_take]; rfl)) ?_; (with_reducible refine (dot_Next.calls a0_0 a0_1 t256 t257 t258 _ A55.out).mono ?_); rintro e w124 ⟨rfl, hb⟩; refine ⟨_, rfl, ?_⟩; have n0_ := Aside0.mk (blk_below (g := gb248) (o := .cells #[.int .i64 a0_0, .int .i64 a0_1] 23 (0, 0)) (by (with_reducible repeat (first | refine blk_drewN ?_ _ | refine blk_drew ?_ | refine blk_alloc ?_ _)); exact BK248.out) hb); have n1_ := Aside0.mk (blk_below (g := gb249) (o := .cells #[.int .i64 a1_0, .int .i64 a1_1] 23 (0, 0)) (by (with_reducible repeat (first | refine blk_drewN ?_ _ | refine blk_drew ?_ | refine blk_alloc ?_ _)); exact BK249.out) hb); have n2_ := Aside0.mk (blk_below (g := gb250) (o := .cells #[.int .i64 a2_0, .int .i64 a2_1] 23 (0, 0)) (by (with_reducible repeat (first | refine blk_drewN ?_ _ | refine blk_drew ?_ | refine blk_alloc ?_ _)); exact BK250.out) hb); have n3_ := Aside0.mk (below_step (by repeat (first | (with_reducible first | exact HB.out | apply below_alloc | apply pw_below_drewN | apply below_drew1 | refine below_set ?_ GE248.out | refine below_set ?_ GE249.out | refine below_set ?_ GE250.out) | exact HB.out)) hb); clear BK248; clear BK249; clear BK250; clear HB; have BK248 := n0_; have BK249 := n1_; have BK250 := n2_; have HB := n3_; clear n0_ n1_ n2_ n3_; (try clear hb); (try clear hb2); (try clear hk); (try clear hi)) | ((with_reducible refine gate_dst (N := 10) rfl ?_); refine box_event ?hg (N := 10) ?hd (cs := #[.int .i64 0, .int .i64 0]) (t := 23) ?hr ?_; (case hd => rfl); (case hg => rfl); (case hr => first | (go_simp; done) | (go_simp; rfl)); intro gb259 hg w125 hbox hb; have n0_ := Aside0.mk (blk_below (g := gb248) (o := .cells #[.int .i64 a0_0, .int .i64 a0_1] 23 (0, 0)) (by (with_reducible repeat (first | refine blk_drewN ?_ _ | refine blk_drew ?_ | refine blk_alloc ?_ _)); exact BK248.out) hb); have n1_ := Aside0.mk (blk_below (g := gb249) (o := .cells #[.int .i64 a1_0, .int .i64 a1_1] 23 (0, 0)) (by (with_reducible repeat (first | refine blk_drewN ?_ _ | refine blk_drew ?_ | refine blk_alloc ?_ _)); exact BK249.out) hb); have n2_ := Aside0.mk (blk_below (g := gb250) (o := .cells #[.int .i64 a2_0, .int .i64 a2_1] 23 (0, 0)) (by (with_reducible repeat (first | refine blk_drewN ?_ _ | refine blk_drew ?_ | refine blk_alloc ?_ _)); exact BK250.out) hb); have n3_ := Aside0.mk (below_step (by repeat (first | (with_reducible first | exact HB.out | apply below_alloc | apply pw_below_drewN | apply below_drew1 | refine below_set ?_ GE248.out | refine below_set ?_ GE249.out | refine below_set ?_ GE250.out) | exact HB.out)) hb); have n4_ := Aside0.mk (hbox); have n5_ := Aside0.mk ((by rw [hg]; exact (below_size (by repeat (first | (with_reducible first | exact HB.out | apply below_alloc | apply pw_below_drewN | apply below_drew1 | refine below_set ?_ GE248.out | refine below_set ?_ GE249.out | refine below_set ?_ GE250.out) | exact HB.out))) : w.heap.size ≤ gb259)); have n6_ := Aside0.mk ((by rw [hg]; exact (below_size (by repeat (first | (with_reducible first | exact HB.out | apply below_alloc | apply pw_below_drewN | apply below_drew1 | refine below_set ?_ GE248.out | refine below_set ?_ GE249.out | refine below_set ?_ GE250.out) | exact HB.out))) : w.heap.size ≤ gb259)); have n7_ := Aside0.mk ((by rw [hg]; exact Nat.ne_of_lt (blk_lt (g := gb248) (o := .cells #[.int .i64 a0_0, .int .i64 a0_1] 23 (0, 0)) (by (with_reducible repeat (first | refine blk_drewN ?_ _ | refine blk_drew ?_ | refine blk_alloc ?_ _)); exact BK248.out)) : gb248 ≠ gb259)); have n8_ := Aside0.mk ((by rw [hg]; exact Nat.ne_of_gt (blk_lt (g := gb248) (o := .cells #[.int .i64 a0_0, .int .i64 a0_1] 23 (0, 0)) (by (with_reducible repeat (first | refine blk_drewN ?_ _ | refine blk_drew ?_ | refine blk_alloc ?_ _)); exact BK248.out)) : gb259 ≠ gb248)); have n9_ := Aside0.mk ((by rw [hg]; exact Nat.ne_of_lt (blk_lt (g := gb249) (o := .cells #[.int .i64 a1_0, .int .i64 a1_1] 23 (0, 0)) (by (with_reducible repeat (first | refine blk_drewN ?_ _ | refine blk_drew ?_ | refine blk_alloc ?_ _)); exact BK249.out)) : gb249 ≠ gb259)); have n10_ := Aside0.mk ((by rw [hg]; exact Nat.ne_of_gt (blk_lt (g := gb249) (o := .cells #[.int .i64 a1_0, .int .i64 a1_1] 23 (0, 0)) (by (with_reducible repeat (first | refine blk_drewN ?_ _ | refine blk_drew ?_ | refine blk_alloc ?_ _)); exact BK249.out)) : gb259 ≠ gb249)); have n11_ := Aside0.mk ((by rw [hg]; exact Nat.ne_of_lt (blk_lt (g := gb250) (o := .cells #[.int .i64 a2_0, .int .i64 a2_1] 23 (0, 0)) (by (with_reducible repeat (first | refine blk_drewN ?_ _ | refine blk_drew ?_ | refine blk_alloc ?_ _)); exact BK250.out)) : gb250 ≠ gb259)); have n12_ := Aside0.mk ((by rw [hg]; exact Nat.ne_of_gt (blk_lt (g := gb250) (o := .cells #[.int .i64 a2_0, .int .i64 a2_1] 23 (0, 0)) (by (with_reducible repeat (first | refine blk_drewN ?_ _ | refine blk_drew ?_ | refine blk_alloc ?_ _)); exact BK250.out)) : gb259 ≠ gb250)); clear BK248; clear BK249; clear BK250; clear HB; have BK248 := n0_; have BK249 := n1_; have BK250 := n2_; have HB := n3_; have BK259 := n4_; have GW259 := n5_; have GE259 := n6_; have NB248_259 := n7_; have NB259_248 := n8_; have NB249_259 := n9_; have NB259_249 := n10_; have NB250_259 := n11_; have NB259_250 := n12_; clear n0_ n1_ n2_ n3_ n4_ n5_ n6_ n7_ n8_ n9_ n10_ n11_ n12_; clear hb hbox hg; have hnb126 := NB259_248.out; have hnc126 := NB248_259.out; have hnb127 := NB259_249.out; have hnc127 := NB249_259.out; have hnb128 := NB259_250.out; have hnc128 := NB250_259.out; have hcz129_0 : w125.cell? ⟨gb259, 0, none⟩ = some (.int .i64 0) := (YtdelfhahbngcfaaDoorW.PrintWords.blk_cell BK259.out 0).trans rfl; have hcz129_1 : w125.cell? ⟨gb259, 1, none⟩ = some (.int .i64 0) := (YtdelfhahbngcfaaDoorW.PrintWords.blk_cell BK259.out 1).trans rfl; have hfz129_0 := blk_frozen BK259.out 0; have hfz129_1 := blk_frozen BK259.out 1; have hcz130_0 : w125.cell? ⟨gb248, 0, none⟩ = some (.int .i64 a0_0) := (YtdelfhahbngcfaaDoorW.PrintWords.blk_cell BK248.out 0).trans rfl; have hcz130_1 : w125.cell? ⟨gb248, 1, none⟩ = some (.int .i64 a0_1) := (YtdelfhahbngcfaaDoorW.PrintWords.blk_cell BK248.out 1).trans rfl; have hfz130_0 := blk_frozen BK248.out 0; have hfz130_1 := blk_frozen BK248.out 1) | (go_at_call 22; (with_reducible refine (dot_Less.calls kj6 a0_0 a0_1 t256 t257 false _ A58.out).mono ?_); rintro e w131 ⟨rfl, hb⟩; have n0_ := Aside0.mk (blk_below (g := gb248) (o := .cells #[.int .i64 a0_0, .int .i64 a0_1] 23 (0, 0)) (by (with_reducible repeat (first | refine blk_drewN ?_ _ | refine blk_drew ?_ | refine blk_alloc ?_ _)); refine blk_far ?_ NB248_259.out _; (with_reducible repeat (first | refine blk_drewN ?_ _ | refine blk_drew ?_ | refine blk_alloc ?_ _)); refine blk_far ?_ NB248_259.out _; (with_reducible repeat (first | refine blk_drewN ?_ _ | refine blk_drew ?_ | refine blk_alloc ?_ _)); exact BK248.out) hb); have n1_ := Aside0.mk (blk_below (g := gb249) (o := .cells #[.int .i64 a1_0, .int .i64 a1_1] 23 (0, 0)) (by (with_reducible repeat (first | refine blk_drewN ?_ _ | refine blk_drew ?_ | refine blk_alloc ?_ _)); refine blk_far ?_ NB249_259.out _; (with_reducible repeat (first | refine blk_drewN ?_ _ | refine blk_drew ?_ | refine blk_alloc ?_ _)); refine blk_far ?_ NB249_259.out _; (with_reducible repeat (first | refine blk_drewN ?_ _ | refine blk_drew ?_ | refine blk_alloc ?_ _)); exact BK249.out) hb); have n2_ := Aside0.mk (blk_below (g := gb250) (o := .cells #[.int .i64 a2_0, .int .i64 a2_1] 23 (0, 0)) (by (with_reducible repeat (first | refine blk_drewN ?_ _ | refine blk_drew ?_ | refine blk_alloc ?_ _)); refine blk_far ?_ NB250_259.out _; (with_reducible repeat (first | refine blk_drewN ?_ _ | refine blk_drew ?_ | refine blk_alloc ?_ _)); refine blk_far ?_ NB250_259.out _; (with_reducible repeat (first | refine blk_drewN ?_ _ | refine blk_drew ?_ | refine blk_alloc ?_ _)); exact BK250.out) hb); have n3_ := Aside0.mk (blk_below (g := gb259) (o := .cells #[.int .i64 t256, .int .i64 t257] 23 (0, 0)) (by (with_reducible repeat (first | refine blk_drewN ?_ _ | refine blk_drew ?_ | refine blk_alloc ?_ _)); refine blk_put (cs := #[.int .i64 t256, .int .i64 0]) ?_ 1 _ rfl; (with_reducible repeat (first | refine blk_drewN ?_ _ | refine blk_drew ?_ | refine blk_alloc ?_ _)); refine blk_put (cs := #[.int .i64 0, .int .i64 0]) ?_ 0 _ rfl; (with_reducible repeat (first | refine blk_drewN ?_ _ | refine blk_drew ?_ | refine blk_alloc ?_ _)); exact BK259.out) hb); have n4_ := Aside0.mk (below_step (by repeat (first | (with_reducible first | exact HB.out | apply below_alloc | apply pw_below_drewN | apply below_drew1 | refine below_set ?_ GE248.out | refine below_set ?_ GE249.out | refine below_set ?_ GE250.out | refine below_set ?_ GE259.out) | exact HB.out)) hb); clear BK248; clear BK249; clear BK250; clear BK259; clear HB; have BK248 := n0_; have BK249 := n1_; have BK250 := n2_; have BK259 := n3_; have HB := n4_; clear n0_ n1_ n2_ n3_ n4_; (try clear hb); (try clear hb2); (try clear hk); (try clear hi)))
              go_ret
              exact ⟨by first | rfl | (simp [errW_none, errW_some] <;> rfl) | (simp [*, errW_none, errW_some] <;> rfl), by repeat (first | (with_reducible first | exact HB.out | apply below_alloc | apply pw_below_drewN | apply below_drew1 | refine below_set ?_ GE248.out | refine below_set ?_ GE249.out | refine below_set ?_ GE250.out | refine below_set ?_ GE259.out) | exact HB.out)⟩
          · rw [if_neg c57] at H
            have c57b0 : (t258 == 0) = false := beq_eq_false_iff_ne.mpr c57
            have c57b1 : (t258 != 0) = true := bne_iff_ne.mpr c57
            obtain rfl := Option.some.inj H
            have hnb132 := NB248_249.out
            have hnc132 := NB249_248.out
            have hnb133 := NB248_250.out
            have hnc133 := NB250_248.out
            have hcz134_0 : wc.cell? ⟨gb248, 0, none⟩ = some (.int .i64 a0_0) := (YtdelfhahbngcfaaDoorW.PrintWords.blk_cell BK248.out 0).trans rfl
            have hcz134_1 : wc.cell? ⟨gb248, 1, none⟩ = some (.int .i64 a0_1) := (YtdelfhahbngcfaaDoorW.PrintWords.blk_cell BK248.out 1).trans rfl
            have hfz134_0 := blk_frozen BK248.out 0
            have hfz134_1 := blk_frozen BK248.out 1
            go_wp2_with (first | ((with_reducible refine gate_callee (f := 23) rfl ?_); refine goesL_ (some 51) rfl rfl Tryd.func23 (by kernel_rfl) rfl #[.agg #[.int .i64 a0_0, .int .i64 a0_1]] rfl (by (try simp only [List.map_toArray, List.map_cons, List.map_nil]); first | done | rfl | (simp only [List.length_drop, List.length_take]; rfl)) ?_; (with_reducible refine (dot_Next.calls a0_0 a0_1 t256 t257 t258 _ A55.out).mono ?_); rintro e w135 ⟨rfl, hb⟩; refine ⟨_, rfl, ?_⟩; have n0_ := Aside0.mk (blk_below (g := gb248) (o := .cells #[.int .i64 a0_0, .int .i64 a0_1] 23 (0, 0)) (by (with_reducible repeat (first | refine blk_drewN ?_ _ | refine blk_drew ?_ | refine blk_alloc ?_ _)); exact BK248.out) hb); have n1_ := Aside0.mk (blk_below (g := gb249) (o := .cells #[.int .i64 a1_0, .int .i64 a1_1] 23 (0, 0)) (by (with_reducible repeat (first | refine blk_drewN ?_ _ | refine blk_drew ?_ | refine blk_alloc ?_ _)); exact BK249.out) hb); have n2_ := Aside0.mk (blk_below (g := gb250) (o := .cells #[.int .i64 a2_0, .int .i64 a2_1] 23 (0, 0)) (by (with_reducible repeat (first | refine blk_drewN ?_ _ | refine blk_drew ?_ | refine blk_alloc ?_ _)); exact BK250.out) hb); have n3_ := Aside0.mk (below_step (by repeat (first | (with_reducible first | exact HB.out | apply below_alloc | apply pw_below_drewN | apply below_drew1 | refine below_set ?_ GE248.out | refine below_set ?_ GE249.out | refine below_set ?_ GE250.out) | exact HB.out)) hb); clear BK248; clear BK249; clear BK250; clear HB; have BK248 := n0_; have BK249 := n1_; have BK250 := n2_; have HB := n3_; clear n0_ n1_ n2_ n3_; (try clear hb); (try clear hb2); (try clear hk); (try clear hi)) | ((with_reducible refine gate_dst (N := 10) rfl ?_); refine box_event ?hg (N := 10) ?hd (cs := #[.int .i64 0, .int .i64 0]) (t := 23) ?hr ?_; (case hd => rfl); (case hg => rfl); (case hr => first | (go_simp; done) | (go_simp; rfl)); intro gb259 hg w136 hbox hb; have n0_ := Aside0.mk (blk_below (g := gb248) (o := .cells #[.int .i64 a0_0, .int .i64 a0_1] 23 (0, 0)) (by (with_reducible repeat (first | refine blk_drewN ?_ _ | refine blk_drew ?_ | refine blk_alloc ?_ _)); exact BK248.out) hb); have n1_ := Aside0.mk (blk_below (g := gb249) (o := .cells #[.int .i64 a1_0, .int .i64 a1_1] 23 (0, 0)) (by (with_reducible repeat (first | refine blk_drewN ?_ _ | refine blk_drew ?_ | refine blk_alloc ?_ _)); exact BK249.out) hb); have n2_ := Aside0.mk (blk_below (g := gb250) (o := .cells #[.int .i64 a2_0, .int .i64 a2_1] 23 (0, 0)) (by (with_reducible repeat (first | refine blk_drewN ?_ _ | refine blk_drew ?_ | refine blk_alloc ?_ _)); exact BK250.out) hb); have n3_ := Aside0.mk (below_step (by repeat (first | (with_reducible first | exact HB.out | apply below_alloc | apply pw_below_drewN | apply below_drew1 | refine below_set ?_ GE248.out | refine below_set ?_ GE249.out | refine below_set ?_ GE250.out) | exact HB.out)) hb); have n4_ := Aside0.mk (hbox); have n5_ := Aside0.mk ((by rw [hg]; exact (below_size (by repeat (first | (with_reducible first | exact HB.out | apply below_alloc | apply pw_below_drewN | apply below_drew1 | refine below_set ?_ GE248.out | refine below_set ?_ GE249.out | refine below_set ?_ GE250.out) | exact HB.out))) : w.heap.size ≤ gb259)); have n6_ := Aside0.mk ((by rw [hg]; exact (below_size (by repeat (first | (with_reducible first | exact HB.out | apply below_alloc | apply pw_below_drewN | apply below_drew1 | refine below_set ?_ GE248.out | refine below_set ?_ GE249.out | refine below_set ?_ GE250.out) | exact HB.out))) : w.heap.size ≤ gb259)); have n7_ := Aside0.mk ((by rw [hg]; exact Nat.ne_of_lt (blk_lt (g := gb248) (o := .cells #[.int .i64 a0_0, .int .i64 a0_1] 23 (0, 0)) (by (with_reducible repeat (first | refine blk_drewN ?_ _ | refine blk_drew ?_ | refine blk_alloc ?_ _)); exact BK248.out)) : gb248 ≠ gb259)); have n8_ := Aside0.mk ((by rw [hg]; exact Nat.ne_of_gt (blk_lt (g := gb248) (o := .cells #[.int .i64 a0_0, .int .i64 a0_1] 23 (0, 0)) (by (with_reducible repeat (first | refine blk_drewN ?_ _ | refine blk_drew ?_ | refine blk_alloc ?_ _)); exact BK248.out)) : gb259 ≠ gb248)); have n9_ := Aside0.mk ((by rw [hg]; exact Nat.ne_of_lt (blk_lt (g := gb249) (o := .cells #[.int .i64 a1_0, .int .i64 a1_1] 23 (0, 0)) (by (with_reducible repeat (first | refine blk_drewN ?_ _ | refine blk_drew ?_ | refine blk_alloc ?_ _)); exact BK249.out)) : gb249 ≠ gb259)); have n10_ := Aside0.mk ((by rw [hg]; exact Nat.ne_of_gt (blk_lt (g := gb249) (o := .cells #[.int .i64 a1_0, .int .i64 a1_1] 23 (0, 0)) (by (with_reducible repeat (first | refine blk_drewN ?_ _ | refine blk_drew ?_ | refine blk_alloc ?_ _)); exact BK249.out)) : gb259 ≠ gb249)); have n11_ := Aside0.mk ((by rw [hg]; exact Nat.ne_of_lt (blk_lt (g := gb250) (o := .cells #[.int .i64 a2_0, .int .i64 a2_1] 23 (0, 0)) (by (with_reducible repeat (first | refine blk_drewN ?_ _ | refine blk_drew ?_ | refine blk_alloc ?_ _)); exact BK250.out)) : gb250 ≠ gb259)); have n12_ := Aside0.mk ((by rw [hg]; exact Nat.ne_of_gt (blk_lt (g := gb250) (o := .cells #[.int .i64 a2_0, .int .i64 a2_1] 23 (0, 0)) (by (with_reducible repeat (first | refine blk_drewN ?_ _ | refine blk_drew ?_ | refine blk_alloc ?_ _)); exact BK250.out)) : gb259 ≠ gb250)); clear BK248; clear BK249; clear BK250; clear HB; have BK248 := n0_; have BK249 := n1_; have BK250 := n2_; have HB := n3_; have BK259 := n4_; have GW259 := n5_; have GE259 := n6_; have NB248_259 := n7_; have NB259_248 := n8_; have NB249_259 := n9_; have NB259_249 := n10_; have NB250_259 := n11_; have NB259_250 := n12_; clear n0_ n1_ n2_ n3_ n4_ n5_ n6_ n7_ n8_ n9_ n10_ n11_ n12_; clear hb hbox hg; have hnb137 := NB259_248.out; have hnc137 := NB248_259.out; have hnb138 := NB259_249.out; have hnc138 := NB249_259.out; have hnb139 := NB259_250.out; have hnc139 := NB250_259.out; have hcz140_0 : w136.cell? ⟨gb259, 0, none⟩ = some (.int .i64 0) := (YtdelfhahbngcfaaDoorW.PrintWords.blk_cell BK259.out 0).trans rfl; have hcz140_1 : w136.cell? ⟨gb259, 1, none⟩ = some (.int .i64 0) := (YtdelfhahbngcfaaDoorW.PrintWords.blk_cell BK259.out 1).trans rfl; have hfz140_0 := blk_frozen BK259.out 0; have hfz140_1 := blk_frozen BK259.out 1))
            go_ret
            exact ⟨by first | rfl | (simp [errW_none, errW_some] <;> rfl) | (simp [*, errW_none, errW_some] <;> rfl), by repeat (first | (with_reducible first | exact HB.out | apply below_alloc | apply pw_below_drewN | apply below_drew1 | refine below_set ?_ GE248.out | refine below_set ?_ GE249.out | refine below_set ?_ GE250.out | refine below_set ?_ GE259.out) | exact HB.out)⟩
        · replace c56 := Bool.eq_false_iff.mpr c56
          subst c56
          have H1 : (some false) = some r := by rw [if_neg (show ¬ (false = true) by decide)] at H; exact H
          clear H
          have H := H1
          clear H1
          obtain rfl := Option.some.inj H
          have hnb141 := NB248_249.out
          have hnc141 := NB249_248.out
          have hnb142 := NB248_250.out
          have hnc142 := NB250_248.out
          have hcz143_0 : wc.cell? ⟨gb248, 0, none⟩ = some (.int .i64 a0_0) := (YtdelfhahbngcfaaDoorW.PrintWords.blk_cell BK248.out 0).trans rfl
          have hcz143_1 : wc.cell? ⟨gb248, 1, none⟩ = some (.int .i64 a0_1) := (YtdelfhahbngcfaaDoorW.PrintWords.blk_cell BK248.out 1).trans rfl
          have hfz143_0 := blk_frozen BK248.out 0
          have hfz143_1 := blk_frozen BK248.out 1
          go_wp2_with (first | ((with_reducible refine gate_callee (f := 23) rfl ?_); refine goesL_ (some 51) rfl rfl Tryd.func23 (by kernel_rfl) rfl #[.agg #[.int .i64 a0_0, .int .i64 a0_1]] rfl (by (try simp only [List.map_toArray, List.map_cons, List.map_nil]); first | done | rfl | (simp only [List.length_drop, List.length_take]; rfl)) ?_; (with_reducible refine (dot_Next.calls a0_0 a0_1 t256 t257 t258 _ A55.out).mono ?_); rintro e w144 ⟨rfl, hb⟩; refine ⟨_, rfl, ?_⟩; have n0_ := Aside0.mk (blk_below (g := gb248) (o := .cells #[.int .i64 a0_0, .int .i64 a0_1] 23 (0, 0)) (by (with_reducible repeat (first | refine blk_drewN ?_ _ | refine blk_drew ?_ | refine blk_alloc ?_ _)); exact BK248.out) hb); have n1_ := Aside0.mk (blk_below (g := gb249) (o := .cells #[.int .i64 a1_0, .int .i64 a1_1] 23 (0, 0)) (by (with_reducible repeat (first | refine blk_drewN ?_ _ | refine blk_drew ?_ | refine blk_alloc ?_ _)); exact BK249.out) hb); have n2_ := Aside0.mk (blk_below (g := gb250) (o := .cells #[.int .i64 a2_0, .int .i64 a2_1] 23 (0, 0)) (by (with_reducible repeat (first | refine blk_drewN ?_ _ | refine blk_drew ?_ | refine blk_alloc ?_ _)); exact BK250.out) hb); have n3_ := Aside0.mk (below_step (by repeat (first | (with_reducible first | exact HB.out | apply below_alloc | apply pw_below_drewN | apply below_drew1 | refine below_set ?_ GE248.out | refine below_set ?_ GE249.out | refine below_set ?_ GE250.out) | exact HB.out)) hb); clear BK248; clear BK249; clear BK250; clear HB; have BK248 := n0_; have BK249 := n1_; have BK250 := n2_; have HB := n3_; clear n0_ n1_ n2_ n3_; (try clear hb); (try clear hb2); (try clear hk); (try clear hi)) | ((with_reducible refine gate_dst (N := 10) rfl ?_); refine box_event ?hg (N := 10) ?hd (cs := #[.int .i64 0, .int .i64 0]) (t := 23) ?hr ?_; (case hd => rfl); (case hg => rfl); (case hr => first | (go_simp; done) | (go_simp; rfl)); intro gb259 hg w145 hbox hb; have n0_ := Aside0.mk (blk_below (g := gb248) (o := .cells #[.int .i64 a0_0, .int .i64 a0_1] 23 (0, 0)) (by (with_reducible repeat (first | refine blk_drewN ?_ _ | refine blk_drew ?_ | refine blk_alloc ?_ _)); exact BK248.out) hb); have n1_ := Aside0.mk (blk_below (g := gb249) (o := .cells #[.int .i64 a1_0, .int .i64 a1_1] 23 (0, 0)) (by (with_reducible repeat (first | refine blk_drewN ?_ _ | refine blk_drew ?_ | refine blk_alloc ?_ _)); exact BK249.out) hb); have n2_ := Aside0.mk (blk_below (g := gb250) (o := .cells #[.int .i64 a2_0, .int .i64 a2_1] 23 (0, 0)) (by (with_reducible repeat (first | refine blk_drewN ?_ _ | refine blk_drew ?_ | refine blk_alloc ?_ _)); exact BK250.out) hb); have n3_ := Aside0.mk (below_step (by repeat (first | (with_reducible first | exact HB.out | apply below_alloc | apply pw_below_drewN | apply below_drew1 | refine below_set ?_ GE248.out | refine below_set ?_ GE249.out | refine below_set ?_ GE250.out) | exact HB.out)) hb); have n4_ := Aside0.mk (hbox); have n5_ := Aside0.mk ((by rw [hg]; exact (below_size (by repeat (first | (with_reducible first | exact HB.out | apply below_alloc | apply pw_below_drewN | apply below_drew1 | refine below_set ?_ GE248.out | refine below_set ?_ GE249.out | refine below_set ?_ GE250.out) | exact HB.out))) : w.heap.size ≤ gb259)); have n6_ := Aside0.mk ((by rw [hg]; exact (below_size (by repeat (first | (with_reducible first | exact HB.out | apply below_alloc | apply pw_below_drewN | apply below_drew1 | refine below_set ?_ GE248.out | refine below_set ?_ GE249.out | refine below_set ?_ GE250.out) | exact HB.out))) : w.heap.size ≤ gb259)); have n7_ := Aside0.mk ((by rw [hg]; exact Nat.ne_of_lt (blk_lt (g := gb248) (o := .cells #[.int .i64 a0_0, .int .i64 a0_1] 23 (0, 0)) (by (with_reducible repeat (first | refine blk_drewN ?_ _ | refine blk_drew ?_ | refine blk_alloc ?_ _)); exact BK248.out)) : gb248 ≠ gb259)); have n8_ := Aside0.mk ((by rw [hg]; exact Nat.ne_of_gt (blk_lt (g := gb248) (o := .cells #[.int .i64 a0_0, .int .i64 a0_1] 23 (0, 0)) (by (with_reducible repeat (first | refine blk_drewN ?_ _ | refine blk_drew ?_ | refine blk_alloc ?_ _)); exact BK248.out)) : gb259 ≠ gb248)); have n9_ := Aside0.mk ((by rw [hg]; exact Nat.ne_of_lt (blk_lt (g := gb249) (o := .cells #[.int .i64 a1_0, .int .i64 a1_1] 23 (0, 0)) (by (with_reducible repeat (first | refine blk_drewN ?_ _ | refine blk_drew ?_ | refine blk_alloc ?_ _)); exact BK249.out)) : gb249 ≠ gb259)); have n10_ := Aside0.mk ((by rw [hg]; exact Nat.ne_of_gt (blk_lt (g := gb249) (o := .cells #[.int .i64 a1_0, .int .i64 a1_1] 23 (0, 0)) (by (with_reducible repeat (first | refine blk_drewN ?_ _ | refine blk_drew ?_ | refine blk_alloc ?_ _)); exact BK249.out)) : gb259 ≠ gb249)); have n11_ := Aside0.mk ((by rw [hg]; exact Nat.ne_of_lt (blk_lt (g := gb250) (o := .cells #[.int .i64 a2_0, .int .i64 a2_1] 23 (0, 0)) (by (with_reducible repeat (first | refine blk_drewN ?_ _ | refine blk_drew ?_ | refine blk_alloc ?_ _)); exact BK250.out)) : gb250 ≠ gb259)); have n12_ := Aside0.mk ((by rw [hg]; exact Nat.ne_of_gt (blk_lt (g := gb250) (o := .cells #[.int .i64 a2_0, .int .i64 a2_1] 23 (0, 0)) (by (with_reducible repeat (first | refine blk_drewN ?_ _ | refine blk_drew ?_ | refine blk_alloc ?_ _)); exact BK250.out)) : gb259 ≠ gb250)); clear BK248; clear BK249; clear BK250; clear HB; have BK248 := n0_; have BK249 := n1_; have BK250 := n2_; have HB := n3_; have BK259 := n4_; have GW259 := n5_; have GE259 := n6_; have NB248_259 := n7_; have NB259_248 := n8_; have NB249_259 := n9_; have NB259_249 := n10_; have NB250_259 := n11_; have NB259_250 := n12_; clear n0_ n1_ n2_ n3_ n4_ n5_ n6_ n7_ n8_ n9_ n10_ n11_ n12_; clear hb hbox hg; have hnb146 := NB259_248.out; have hnc146 := NB248_259.out; have hnb147 := NB259_249.out; have hnc147 := NB249_259.out; have hnb148 := NB259_250.out; have hnc148 := NB250_259.out; have hcz149_0 : w145.cell? ⟨gb259, 0, none⟩ = some (.int .i64 0) := (YtdelfhahbngcfaaDoorW.PrintWords.blk_cell BK259.out 0).trans rfl; have hcz149_1 : w145.cell? ⟨gb259, 1, none⟩ = some (.int .i64 0) := (YtdelfhahbngcfaaDoorW.PrintWords.blk_cell BK259.out 1).trans rfl; have hfz149_0 := blk_frozen BK259.out 0; have hfz149_1 := blk_frozen BK259.out 1))
          go_ret
          exact ⟨by first | rfl | (simp [errW_none, errW_some] <;> rfl) | (simp [*, errW_none, errW_some] <;> rfl), by repeat (first | (with_reducible first | exact HB.out | apply below_alloc | apply pw_below_drewN | apply below_drew1 | refine below_set ?_ GE248.out | refine below_set ?_ GE249.out | refine below_set ?_ GE250.out | refine below_set ?_ GE259.out) | exact HB.out)⟩
end
end Go.Proofs.YtdelfhahbngcfaaDoorX.P06
end
section
namespace Go.Proofs.YtdelfhahbngcfaaDoorX.P06
open Go.RowKit Go.Proofs.YtdelfhahbngcfaaDoorW.PrintWords Go.Proofs.YtdelfhahbngcfaaDoorW.PrintLast Go.Proofs.YtdelfhahbngcfaaDoorW.PrintMore
open Go.Lib (decDigits)
set_option linter.unusedVariables false
set_option linter.unusedSimpArgs false
def cmpI (a b : Int) : Int := if a < b then -1 else if a > b then 1 else 0
theorem nan_no (a : Int) : cmp_isNaN_int.f a = some false := by unfold cmp_isNaN_int.f; simp
theorem cmp_eq (a b : Int) : cmp_Compare_int.f a b = some (cmpI a b) := by
  unfold cmp_Compare_int.f cmpI
  simp only [nan_no, Option.bind_some]
  rw [if_neg (by decide), if_neg (by decide)]
  split
  · rfl
  · split <;> rfl
theorem or_ev (x y : Int) : Ev (fun k => cmp_Or_int.f k [x, y]) (if x = 0 then y else x) := by
  unfold cmp_Or_int.f
  refine Ev.step (fun _ => rfl) ?_
  simp only [cmp_Or_int.l0]
  refine ev_pos (by simp) (ev_pos (by decide) (ev_pos (by simp) ?_))
  have r0 : rd [x, y] 0 = x := rfl
  have r1 : rd [x, y] 1 = y := rfl
  rw [r0]
  by_cases hx : x = 0
  · rw [if_pos hx]
    refine ev_pos hx ?_
    refine Ev.step (fun _ => rfl) ?_
    simp only [cmp_Or_int.l0]
    rw [show wrap64 (0 + 1) = 1 from w64 (by decide)]
    refine ev_pos (by simp) (ev_pos (by decide) (ev_pos (by simp) ?_))
    rw [r1]
    by_cases hy : y = 0
    · subst hy
      refine ev_pos rfl ?_
      refine Ev.step (fun _ => rfl) ?_
      simp only [cmp_Or_int.l0]
      rw [show wrap64 (1 + 1) = 2 from w64 (by decide)]
      exact ev_neg (by simp) (Ev.now _)
    · exact ev_neg hy (Ev.now _)
  · rw [if_neg hx]
    exact ev_neg hx (Ev.now _)
def ltI (a0 a1 b0 b1 : Int) : Bool := decide (a0 < b0 ∨ (a0 = b0 ∧ a1 < b1))
theorem less_ev (a0 a1 b0 b1 : Int) : Ev (fun k => dot_Less.f k a0 a1 b0 b1) (ltI a0 a1 b0 b1) := by
  unfold dot_Less.f dot_order.f
  rw [cmp_eq, cmp_eq]
  refine Ev.bind (ev_some (ev_some (Ev.bind (or_ev _ _) (Ev.now _)))) ?_
  have e : decide ((if cmpI a0 b0 = 0 then cmpI a1 b1 else cmpI a0 b0) < 0) = ltI a0 a1 b0 b1 := by
    unfold cmpI ltI
    apply decide_eq_decide.2
    constructor
    · intro h
      repeat' split at h
      all_goals omega
    · intro h
      repeat' split
      all_goals omega
  rw [e]
  exact Ev.now _
theorem next_eq (n q : Int) : dot_Next.f n q = some (if okD n q then (if q = 2147483647 then (0, 0, 5) else (n, q + 1, 0)) else (0, 0, 2)) := by
  unfold dot_Next.f
  by_cases h : okD n q
  · rw [chk_yes h, if_pos h]
    unfold okD at h
    show (if (0 : Int) = 0 then (if q = 2147483647 then some (0, 0, 5) else some (n, wrap64 (q + 1), 0)) else some (0, 0, 2)) = _
    rw [if_pos rfl]
    by_cases h2 : q = 2147483647
    · rw [if_pos h2, if_pos h2]
    · rw [if_neg h2, if_neg h2, w64 (by omega)]
  · rw [chk_no h, if_neg h]
    rfl
theorem text3258 : textL 3 258 = [51, 46, 50, 53, 56] := by
  unfold textL
  rw [show ((3 : Int).toNat) = 3 from rfl, show ((258 : Int).toNat) = 258 from rfl, dec_small (by decide), dec_big (u := 258) (by decide), dec_big (u := 258 / 10) (by decide), dec_small (u := 258 / 10 / 10) (by decide)]
  rfl
theorem awake_eq : tributarylaw06_awake.f = some true := by
  unfold tributarylaw06_awake.f
  have h1 : tributarylaw06_of.f 3 258 = some (3, 258) := rfl
  have h2 : tributarylaw06_of.f 0 1 = some (0, 1) := rfl
  have h3 : dot_Bytes.f 3 258 = some ([3, 0, 0, 1, 2], 0) := by decide
  have h4 : dot_Text.f 3 258 = some (str [51, 46, 50, 53, 56], 0) := by rw [text_eq, textV_yes (by unfold okD; decide), text3258]
  have h5 : dot_Parse.f (⟨#[51, 46, 50, 53, 56]⟩ : ByteArray) = some (3, 258, 0) := by
    rw [show (⟨#[51, 46, 50, 53, 56]⟩ : ByteArray) = str (textL 3 258) by rw [text3258], parse_eq _ (by rw [text3258]; decide), parseV_yes (by unfold okD; decide)]
  have h6 : tributarykit_SameBytes.f [3, 0, 0, 1, 2] [3, 0, 0, 1, 2] = some true := by unfold tributarykit_SameBytes.f; rw [beq_self_eq_true]
  have h7 : dot_Check.f 0 1 = some 2 := by decide
  rw [h1, h5]
  simp only [Option.bind_some]
  rw [h3, h4]
  simp only [Option.bind_some]
  rw [h6]
  simp only [Option.bind_some, if_true]
  rw [if_pos (show (str [51, 46, 50, 53, 56]).toList = [51, 46, 50, 53, 56] from by rw [Lib.toList_data])]
  simp only [h2, Option.bind_some]
  rw [h7]
  decide
theorem order_j0 (a0 a1 b0 b1 : Int) : Ev (fun k => tributarylaw06_DotOrder.j0 k true false a0 a1 b0 b1) true := by
  refine Ev.step (fun _ => rfl) ?_
  simp only [tributarylaw06_DotOrder.j0]
  refine ev_neg (by decide) ?_
  rw [next_eq]
  by_cases hok : okD a0 a1
  rotate_left
  · rw [if_neg hok]
    exact ev_some (ev_pos trivial (ev_neg (by decide) (Ev.now _)))
  rw [if_pos hok]
  by_cases hm : a1 = 2147483647
  · rw [if_pos hm]
    exact ev_some (ev_pos trivial (ev_neg (by decide) (Ev.now _)))
  rw [if_neg hm]
  have hok2 : okD a0 (a1 + 1) := by unfold okD at hok ⊢; omega
  refine ev_some (ev_pos trivial (ev_pos rfl (Ev.bind (less_ev a0 a1 a0 (a1 + 1)) ?_)))
  refine ev_pos (decide_eq_true (by omega)) (Ev.bind (less_ev a0 a1 b0 b1) ?_)
  by_cases h1 : ltI a0 a1 b0 b1 = true
  · have h1' : a0 < b0 ∨ (a0 = b0 ∧ a1 < b1) := of_decide_eq_true h1
    refine ev_pos h1 (Ev.bind (less_ev b0 b1 a0 (a1 + 1)) ?_)
    have h2 : ltI b0 b1 a0 (a1 + 1) = false := decide_eq_false (by omega)
    refine ev_neg (by rw [h2]; decide) ?_
    rw [chk_yes hok2]
    exact Ev.now _
  · refine ev_neg h1 ?_
    rw [chk_yes hok2]
    exact Ev.now _
theorem order_ev (a0 a1 b0 b1 c0 c1 : Int) : Ev (fun k => tributarylaw06_DotOrder.f k a0 a1 b0 b1 c0 c1) true := by
  unfold tributarylaw06_DotOrder.f
  rw [awake_eq]
  refine ev_some (Ev.bind (less_ev a0 a1 b0 b1) (Ev.bind (less_ev b0 b1 a0 a1) ?_))
  by_cases h1 : ltI a0 a1 b0 b1 = true
  · have h1' : a0 < b0 ∨ (a0 = b0 ∧ a1 < b1) := of_decide_eq_true h1
    have h2 : ltI b0 b1 a0 a1 = false := decide_eq_false (by omega)
    have h3 : (a0 == b0 && (a1 == b1)) = false := by
      rw [Bool.and_eq_false_iff]
      by_cases e : a0 = b0
      · right; simp; omega
      · left; simp [e]
    rw [h2, h3]
    refine ev_pos h1 (ev_neg (by decide) (ev_neg (by decide) (Ev.bind (less_ev b0 b1 c0 c1) ?_)))
    by_cases h4 : ltI b0 b1 c0 c1 = true
    · have h4' : b0 < c0 ∨ (b0 = c0 ∧ b1 < c1) := of_decide_eq_true h4
      have h5 : ltI a0 a1 c0 c1 = true := decide_eq_true (by omega)
      refine ev_pos h4 (Ev.bind (less_ev a0 a1 c0 c1) ?_)
      rw [h5]
      exact order_j0 a0 a1 b0 b1
    · exact ev_neg h4 (order_j0 a0 a1 b0 b1)
  · have h1' : ¬ (a0 < b0 ∨ (a0 = b0 ∧ a1 < b1)) := fun h => h1 (decide_eq_true h)
    refine ev_neg h1 ?_
    have h3 : (a0 == b0 && (a1 == b1)) = !ltI b0 b1 a0 a1 := by
      by_cases h2 : b0 < a0 ∨ (b0 = a0 ∧ b1 < a1)
      · rw [show ltI b0 b1 a0 a1 = true from decide_eq_true h2, Bool.not_true, Bool.and_eq_false_iff]
        by_cases e : a0 = b0
        · right; simp; omega
        · left; simp [e]
      · rw [show ltI b0 b1 a0 a1 = false from decide_eq_false h2, Bool.not_false, Bool.and_eq_true]
        constructor <;> simp <;> omega
    rw [h3]
    exact ev_neg (by simp) (order_j0 a0 a1 b0 b1)
end Go.Proofs.YtdelfhahbngcfaaDoorX.P06
end
section
namespace Go.Proofs.YtdelfhahbngcfaaDoorX.P06
open Go.ChangeShapes Go.WideShapes Go.RowKit Go.Deep Go.Proofs.YtdelfhahbngcfaaDoorW.PrintWords Go.Proofs.YtdelfhahbngcfaaDoorW.PrintLast Go.Proofs.YtdelfhahbngcfaaDoorW.PrintMore
set_option linter.unusedVariables false
set_option linter.unusedSimpArgs false
section
variable {H : Type} {enc : TypeId × Value → H} {w : World} {base : Nat} {spare : Nat → Bool} {held : Bool}
set_option maxRecDepth 100000 in
theorem one23 (fuel : Nat) (cs : List Value) (x : DataW H × List MemPlace) (h : DataW.trod enc Tryd.prog w base spare held fuel 23 cs = some x) : ∃ y, k23.K w y cs := by
  obtain ⟨xs, n, _, _, hlen, hxl, hf⟩ := DataW.trod_struct Tryd.underlying23 h
  have hc : Tryd.prog.cellsOf 23 = 2 := by kernel_rfl
  rw [hc] at hlen
  match cs, hlen with
  | [c0, c1], _ =>
    match xs, hxl with
    | [y0, y1], _ =>
      have h3 : Tryd.prog.cellsOf 3 = 1 := by kernel_rfl
      have k0 := hf 0 _ rfl
      have k1 := hf 1 _ rfl
      simp only [h3, List.drop_zero, List.drop_succ_cons, List.take_succ_cons, List.take_zero, List.getElem?_cons_zero, List.getElem?_cons_succ] at k0 k1
      obtain ⟨n0, e0, _, _⟩ := DataW.trod_int Tryd.underlying3 k0
      obtain ⟨n1, e1, _, _⟩ := DataW.trod_int Tryd.underlying3 k1
      injection e0 with e0
      injection e1 with e1
      rw [e0, e1]
      exact ⟨⟨n0, n1⟩, k23_mk w ⟨n0, n1⟩⟩
end
end Go.Proofs.YtdelfhahbngcfaaDoorX.P06
end
