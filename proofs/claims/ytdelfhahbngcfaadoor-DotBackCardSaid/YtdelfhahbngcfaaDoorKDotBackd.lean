/- Words, walks and plain laws for the row, packed: each text in a section of its own. Conditions stand with each theorem. -/
import Derived.Laws.Bits64b
import Derived.Test.YtdelfhahbngcfaaDoorKDotBacka
import Derived.Test.YtdelfhahbngcfaaDoorKDotBackb
import Derived.Test.YtdelfhahbngcfaaDoorKDotBackc
section
namespace Go.Proofs.YtdelfhahbngcfaaDoorX.P06
open Go.RowKit Go.Proofs.YtdelfhahbngcfaaDoorW.PrintWords Go.Proofs.YtdelfhahbngcfaaDoorW.PrintLast Go.Proofs.YtdelfhahbngcfaaDoorW.PrintMore
attribute [local go_sem] max2_int min2_int max_two min_two max_three min_three max_four min_four   -- for this text's walks alone
set_option linter.unusedVariables false
set_option linter.unusedSimpArgs false
section
attribute [local go_sem high] eqA23
mutual
def tributarylaw06_DotBack.j0 : Nat → List Int → ByteArray → Bool → Bool → Int → Int → Int → Int → Option (Bool)
 | 0, _, _, _, _, _, _, _, _ => none
 | k + 1, x2, x3, x9, x36, x399000, x399001, x400000, x400001 => if x36 = true then (some x9) else ((dot_Bytes.f x399000 x399001).bind fun bt401 => ((dot_Bytes.f x400000 x400001).bind fun bt405 => ((dot_Text.f x399000 x399001).bind fun bt409 => ((dot_Check.f x399000 x399001).bind fun t411 => (if bt401.2 = t411 then (if bt409.2 = bt401.2 then ((dot_Check.f x400000 x400001).bind fun t412 => (tributarylaw06_DotBack.j1 k x2 x3 x9 bt401.1 bt401.2 bt405.1 bt405.2 bt409.1 (bt405.2 != t412) x399000 x399001 x400000 x400001)) else (tributarylaw06_DotBack.j1 k x2 x3 x9 bt401.1 bt401.2 bt405.1 bt405.2 bt409.1 true x399000 x399001 x400000 x400001)) else (tributarylaw06_DotBack.j1 k x2 x3 x9 bt401.1 bt401.2 bt405.1 bt405.2 bt409.1 true x399000 x399001 x400000 x400001))))))
def tributarylaw06_DotBack.j1 : Nat → List Int → ByteArray → Bool → List Int → Int → List Int → Int → ByteArray → Bool → Int → Int → Int → Int → Option (Bool)
 | 0, _, _, _, _, _, _, _, _, _, _, _, _, _ => none
 | k + 1, x2, x3, x9, x10, x11, x12, x13, x14, x67, x399000, x399001, x400000, x400001 => if x67 = true then (some false) else (if x11 = 0 then ((dot_Read.f x10).bind fun bt413 => ((dot_Parse.f x14).bind fun bt419 => (if bt413.2.2.1 = 0 then (if (!(bt413.1 == x399000) || (!(bt413.2.1 == x399001))) = true then (some false) else (if bt419.2.2 = 0 then (if (!(bt419.1 == x399000) || (!(bt419.2.1 == x399001))) = true then (some false) else (if x13 = 0 then ((dot_Less.f k x399000 x399001 x400000 x400001).bind fun t423 => (if (t423 != (Op.bytesLess ((strOfNums x10).toList) ((strOfNums x12).toList))) = true then (some false) else (tributarylaw06_DotBack.j2 k x2 x3 x9))) else (tributarylaw06_DotBack.j2 k x2 x3 x9))) else (some false))) else (some false)))) else (tributarylaw06_DotBack.j2 k x2 x3 x9))
def tributarylaw06_DotBack.j2 : Nat → List Int → ByteArray → Bool → Option (Bool)
 | 0, _, _, _ => none
 | k + 1, x2, x3, x9 => (dot_Read.f x2).bind fun bt424 => (if bt424.2.2.1 = 0 then ((dot_Bytes.f bt424.1 bt424.2.1).bind fun bt430 => (if bt430.2 = 0 then ((tributarykit_SameBytes.f bt430.1 x2).bind fun t434 => (if t434 = true then (tributarylaw06_DotBack.j3 k x3 x9) else (some false))) else (some false))) else (tributarylaw06_DotBack.j3 k x3 x9))
def tributarylaw06_DotBack.j3 : Nat → ByteArray → Bool → Option (Bool)
 | 0, _, _ => none
 | k + 1, x3, x9 => (dot_Parse.f x3).bind fun bt435 => (if bt435.2.2 = 0 then ((dot_Text.f bt435.1 bt435.2.1).bind fun bt439 => (if x9 = true then (if bt439.2 = 0 then (some (bt439.1.toList == x3.toList)) else (some false)) else (some false))) else (if x9 = true then (some (bt435.1 == 0 && (bt435.2.1 == 0))) else (some false)))
end
def tributarylaw06_DotBack.f (k : Nat) (a0_0 : Int) (a0_1 : Int) (a1_0 : Int) (a1_1 : Int) (l2 : List Int) (a3 : ByteArray) : Option (Bool) := (tributarylaw06_DotKnown.f k).bind fun t400 => (if (l2.length : Int) > 40 then (tributarylaw06_DotBack.j0 k l2 a3 t400 true a0_0 a0_1 a1_0 a1_1) else (tributarylaw06_DotBack.j0 k l2 a3 t400 (decide ((a3.size : Int) > 60)) a0_0 a0_1 a1_0 a1_1))
def tributarylaw06_DotBack.T12 : Bool × List (List Nat × List Nat) := (true, [([], []), ([0], [0]), ([1], [1]), ([2], [2]), ([3], [3]), ([3], [3]), ([4, 5, 3], [3, 4, 5]), ([3, 6], [3, 6]), ([7, 3], [7]), ([8], [8]), ([9, 8], [8, 9]), ([8, 10], [8, 10]), ([11, 8], [11]), ([12], [12]), ([12], [12]), ([13, 14, 12], [12, 13, 14]), ([12, 15], [12, 15]), ([16, 12], [16]), ([17], [17]), ([18, 17], [17, 18]), ([19, 17, 17], [17, 19]), ([20], [20]), ([20], [20]), ([21, 22, 20, 20], [20, 21, 22]), ([20], [20]), ([24, 20], [20, 24]), ([20], [20]), ([26, 20], [20, 26]), ([25, 27, 20], [20, 25, 27]), ([23, 28, 20], [20, 23, 28]), ([20, 29, 17], [17, 20, 29]), ([17, 30], [17, 30])])
def tributarylaw06_DotBack.B12 : List Nat := [0, 1, 3, 7, 15, 15, 63, 127, 255, 511, 1023, 2047, 4095, 8191, 8191, 32767, 65535, 131071, 262143, 524287, 1048575, 2097151, 2097151, 8388607, 2097151, 18874367, 2097151, 69206015, 253755391, 536870911, 1073741823, 2147483647]
theorem tributarylaw06_DotBack.tab12 : rtab .any (opsOf Tryd.f8 12) = tributarylaw06_DotBack.T12 := by kernel_rfl
theorem tributarylaw06_DotBack.bits12 : waitsOk tributarylaw06_DotBack.T12.2 tributarylaw06_DotBack.B12 = true := by kernel_rfl
theorem ntc_false : (some false : Option Bool) ≠ some true := by decide
theorem ntc_none : (none : Option Bool) ≠ some true := by decide
theorem ntc_bind {α : Type} {a : Option α} {f : α → Option Bool} (h : ∀ x, f x ≠ some true) : a.bind f ≠ some true := by
 cases a with
 | none => exact ntc_none
 | some x => exact h x
theorem ntc_iff {a b : Option Bool} (h : b ≠ some true) : (if false = true then a else b) ≠ some true := by rwa [if_neg (by decide)]
theorem ntc_ite {c : Prop} [Decidable c] {a b : Option Bool} (ha : a ≠ some true) (hb : b ≠ some true) : (if c then a else b) ≠ some true := by split <;> assumption
theorem tributarylaw06_DotBack.j1_nt0 : ∀ k y0 y1 y2 y3 y4 y5 y6 y7 y9 y10 y11 y12, tributarylaw06_DotBack.j1 k y0 y1 y2 y3 y4 y5 y6 y7 true y9 y10 y11 y12 ≠ some true := by
 intro k y0 y1 y2 y3 y4 y5 y6 y7 y9 y10 y11 y12
 cases k with
 | zero => unfold tributarylaw06_DotBack.j1; exact ntc_none
 | succ k =>
  unfold tributarylaw06_DotBack.j1
  repeat' first
   | exact ntc_false
   | refine ntc_iff ?_
   | refine ntc_ite ?_ ?_
   | refine ntc_bind (fun _ => ?_)
set_option maxHeartbeats 8000000 in
set_option maxRecDepth 100000 in
theorem tributarylaw06_DotBack.calls (k : Nat) (a0_0 : Int) (a0_1 : Int) (a1_0 : Int) (a1_1 : Int) (A2 : Option Addr) (c2 : Nat) (l2 : List Int) (a3 : ByteArray) (r : Bool) (w : World) (hr2 : Kd.C (Kd.int .u8) w A2 l2.length l2) (hc2 : l2.length ≤ c2) (h : tributarylaw06_DotBack.f k a0_0 a0_1 a1_0 a1_1 l2 a3 = some r) (hT : Laid w) (hr : r = true) :
  Calls Tryd.prog 8 #[.agg #[.int .i64 a0_0, .int .i64 a0_1], .agg #[.int .i64 a1_0, .int .i64 a1_1], .slice A2 l2.length c2, .string a3] w fun e w' => e = .returned (.bool r) ∧ Below w.heap.size w w' := by
 have HLAID := Aside0.mk hT
 clear hT
 have hu23 := Tryd.underlying23
 have hu36 := Tryd.underlying36
 have HR2 := Aside0.mk hr2
 have HC2 := Aside0.mk hc2
 clear hr2 hc2
 have HR := Aside0.mk hr
 clear hr
 have HB := Aside0.mk (Below.refl w.heap.size w)
 have H : ((tributarylaw06_DotKnown.f k).bind fun t400 => (if (l2.length : Int) > 40 then (tributarylaw06_DotBack.j0 k l2 a3 t400 true a0_0 a0_1 a1_0 a1_1) else (tributarylaw06_DotBack.j0 k l2 a3 t400 (decide ((a3.size : Int) > 60)) a0_0 a0_1 a1_0 a1_1))) = some r := h
 clear h
 replace H := Option.bind_eq_some_iff.mp H
 obtain ⟨t400, A50, H⟩ := H
 replace H : (if (l2.length : Int) > 40 then (tributarylaw06_DotBack.j0 k l2 a3 t400 true a0_0 a0_1 a1_0 a1_1) else (tributarylaw06_DotBack.j0 k l2 a3 t400 (decide ((a3.size : Int) > 60)) a0_0 a0_1 a1_0 a1_1)) = some r := H
 have A5 := Aside0.mk A50
 clear A50
 have HC6 := Aside0.mk H
 clear H
 go_enter Tryd.func8, Tryd.ntmps8
 go_upto_region 2 with (first | ((with_reducible refine gate_dst (N := 4) rfl ?_); (try (refine gate_guard (by rfl) ?_; dsimp only)); refine box_event ?hg (N := 4) ?hd (cs := #[.int .i64 a0_0, .int .i64 a0_1]) (t := 23) ?hr ?_; (case hd => rfl); (case hg => rfl); (case hr => first | (go_simp; done) | (go_simp; rfl)); intro gb398 hg w7 hbox hb; have n0_ := Aside0.mk (below_step (by repeat (first | (with_reducible first | exact HB.out | apply below_alloc | apply pw_below_drewN | apply below_drew1) | exact HB.out)) hb); have n1_ := Aside0.mk (hbox); have n2_ := Aside0.mk ((by rw [hg]; exact (below_size (by repeat (first | (with_reducible first | exact HB.out | apply below_alloc | apply pw_below_drewN | apply below_drew1) | exact HB.out))) : w.heap.size ≤ gb398)); have n3_ := Aside0.mk ((by rw [hg]; exact (below_size (by repeat (first | (with_reducible first | exact HB.out | apply below_alloc | apply pw_below_drewN | apply below_drew1) | exact HB.out))) : w.heap.size ≤ gb398)); clear HB; have HB := n0_; have BK398 := n1_; have GW398 := n2_; have GE398 := n3_; clear n0_ n1_ n2_ n3_; clear hb hbox hg) | ((with_reducible refine gate_dst (N := 5) rfl ?_); (try (refine gate_guard (by rfl) ?_; dsimp only)); refine box_event ?hg (N := 5) ?hd (cs := #[.int .i64 a1_0, .int .i64 a1_1]) (t := 23) ?hr ?_; (case hd => rfl); (case hg => rfl); (case hr => first | (go_simp; done) | (go_simp; rfl)); intro gb399 hg w8 hbox hb; have n0_ := Aside0.mk (blk_below (g := gb398) (o := .cells #[.int .i64 a0_0, .int .i64 a0_1] 23 (0, 0)) (by (with_reducible repeat (first | refine blk_drewN ?_ _ | refine blk_drew ?_ | refine blk_alloc ?_ _)); exact BK398.out) hb); have n1_ := Aside0.mk (below_step (by repeat (first | (with_reducible first | exact HB.out | apply below_alloc | apply pw_below_drewN | apply below_drew1 | refine below_set ?_ GE398.out) | exact HB.out)) hb); have n2_ := Aside0.mk (hbox); have n3_ := Aside0.mk ((by rw [hg]; exact (below_size (by repeat (first | (with_reducible first | exact HB.out | apply below_alloc | apply pw_below_drewN | apply below_drew1 | refine below_set ?_ GE398.out) | exact HB.out))) : w.heap.size ≤ gb399)); have n4_ := Aside0.mk ((by rw [hg]; exact (below_size (by repeat (first | (with_reducible first | exact HB.out | apply below_alloc | apply pw_below_drewN | apply below_drew1 | refine below_set ?_ GE398.out) | exact HB.out))) : w.heap.size ≤ gb399)); have n5_ := Aside0.mk ((by rw [hg]; exact Nat.ne_of_lt (blk_lt (g := gb398) (o := .cells #[.int .i64 a0_0, .int .i64 a0_1] 23 (0, 0)) (by (with_reducible repeat (first | refine blk_drewN ?_ _ | refine blk_drew ?_ | refine blk_alloc ?_ _)); exact BK398.out)) : gb398 ≠ gb399)); have n6_ := Aside0.mk ((by rw [hg]; exact Nat.ne_of_gt (blk_lt (g := gb398) (o := .cells #[.int .i64 a0_0, .int .i64 a0_1] 23 (0, 0)) (by (with_reducible repeat (first | refine blk_drewN ?_ _ | refine blk_drew ?_ | refine blk_alloc ?_ _)); exact BK398.out)) : gb399 ≠ gb398)); clear BK398; clear HB; have BK398 := n0_; have HB := n1_; have BK399 := n2_; have GW399 := n3_; have GE399 := n4_; have NB398_399 := n5_; have NB399_398 := n6_; clear n0_ n1_ n2_ n3_ n4_ n5_ n6_; clear hb hbox hg) | ((with_reducible refine gate_callee (f := 7) rfl ?_); refine goesL_ (some 28) rfl rfl Tryd.func7 (by kernel_rfl) rfl #[] rfl (by (try simp only [List.map_toArray, List.map_cons, List.map_nil]); first | done | rfl | (simp only [List.length_drop, List.length_take]; rfl)) ?_; (with_reducible refine (tributarylaw06_DotKnown.calls k  t400 _ A5.out (laid_below HLAID.out (by repeat (first | (with_reducible first | exact HB.out | apply below_alloc | apply pw_below_drewN | apply below_drew1 | refine below_set ?_ GE398.out | refine below_set ?_ GE399.out) | exact HB.out)))).mono ?_); rintro e w9 ⟨rfl, hb⟩; refine ⟨_, rfl, ?_⟩; have n0_ := Aside0.mk (blk_below (g := gb398) (o := .cells #[.int .i64 a0_0, .int .i64 a0_1] 23 (0, 0)) (by (with_reducible repeat (first | refine blk_drewN ?_ _ | refine blk_drew ?_ | refine blk_alloc ?_ _)); exact BK398.out) hb); have n1_ := Aside0.mk (blk_below (g := gb399) (o := .cells #[.int .i64 a1_0, .int .i64 a1_1] 23 (0, 0)) (by (with_reducible repeat (first | refine blk_drewN ?_ _ | refine blk_drew ?_ | refine blk_alloc ?_ _)); exact BK399.out) hb); have n2_ := Aside0.mk (below_step (by repeat (first | (with_reducible first | exact HB.out | apply below_alloc | apply pw_below_drewN | apply below_drew1 | refine below_set ?_ GE398.out | refine below_set ?_ GE399.out) | exact HB.out)) hb); clear BK398; clear BK399; clear HB; have BK398 := n0_; have BK399 := n1_; have HB := n2_; clear n0_ n1_ n2_; (try clear hb); (try clear hb2); (try clear hk); (try clear hi)))
 (try simp only [Act.put, List.setIfInBounds_toArray, List.set_cons_zero, List.set_cons_succ])
 go_cut [36] (fun v36 wc => ∃ (kq : Nat) (x36_5 : Bool), v36 = .bool x36_5 ∧ Aside0 (tributarylaw06_DotBack.j0 kq l2 a3 t400 x36_5 a0_0 a0_1 a1_0 a1_1 = some r) ∧ Aside0 (kq ≤ k) ∧ Aside0 (wc.heap[gb398]? = some (.cells #[.int .i64 a0_0, .int .i64 a0_1] 23 (0, 0))) ∧ Aside0 (wc.heap[gb399]? = some (.cells #[.int .i64 a1_0, .int .i64 a1_1] 23 (0, 0))) ∧ Aside0 (Below w.heap.size w wc))
 case first =>
  have H := HC6.out
  clear HC6
  by_cases c10 : (l2.length : Int) > 40
  ·
   rw [if_pos c10] at H
   have c10b0 : decide (40 < (l2.length : Int)) = true := decide_eq_true c10
   have c10b1 : decide (40 < l2.length) = true := decide_eq_true (by omega)
   clear c10
   (first | rw [c10b0] | (simp only [i64_w, i32_w]; rw [c10b0]) | skip)
   have H' := Aside0.mk H
   clear H
   go_wp2
   go_meet
   case rel => exact ⟨_, (true), (by first | rfl | (simp; done) | (simp [*]; done)), H', ⟨by first | omega | exact Nat.le_refl _⟩, ⟨by (with_reducible repeat (first | refine blk_drewN ?_ _ | refine blk_drew ?_ | refine blk_alloc ?_ _)); exact BK398.out⟩, ⟨by (with_reducible repeat (first | refine blk_drewN ?_ _ | refine blk_drew ?_ | refine blk_alloc ?_ _)); exact BK399.out⟩, ⟨by repeat (first | (with_reducible first | exact HB.out | apply below_alloc | apply pw_below_drewN | apply below_drew1 | refine below_set ?_ GE398.out | refine below_set ?_ GE399.out) | exact HB.out)⟩⟩
  ·
   rw [if_neg c10] at H
   have c10b0 : decide (40 < (l2.length : Int)) = false := decide_eq_false c10
   have c10b1 : decide (40 < l2.length) = false := decide_eq_false (by omega)
   clear c10
   (first | rw [c10b0] | (simp only [i64_w, i32_w]; rw [c10b0]) | skip)
   have H' := Aside0.mk H
   clear H
   go_wp2
   go_meet
   case rel => exact ⟨_, (decide ((a3.size : Int) > 60)), (by first | rfl | (simp; done) | (simp [*]; done)), H', ⟨by first | omega | exact Nat.le_refl _⟩, ⟨by (with_reducible repeat (first | refine blk_drewN ?_ _ | refine blk_drew ?_ | refine blk_alloc ?_ _)); exact BK398.out⟩, ⟨by (with_reducible repeat (first | refine blk_drewN ?_ _ | refine blk_drew ?_ | refine blk_alloc ?_ _)); exact BK399.out⟩, ⟨by repeat (first | (with_reducible first | exact HB.out | apply below_alloc | apply pw_below_drewN | apply below_drew1 | refine below_set ?_ GE398.out | refine below_set ?_ GE399.out) | exact HB.out)⟩⟩
 case rest =>
  clear HC6
  try clear c1; try clear c2; try clear p2; try clear c7; try clear c8; try clear c10; try clear c10b0; try clear c10b1
  obtain ⟨kq, x36_5, rfl, HA, HJ5, BK398, BK399, HB⟩ := hcut
  cases kq with
  | zero => exact absurd HA.out (by simp [tributarylaw06_DotBack.j0])
  | succ kj5 =>
   have H := HA.out
   clear HA
   simp only [tributarylaw06_DotBack.j0] at H
   by_cases c11 : x36_5 = true
   ·
    subst c11
    have H1 : (some t400) = some r := by rw [if_pos rfl] at H; exact H
    clear H
    have H := H1
    clear H1
    obtain rfl := Option.some.inj H
    go_wp2
    go_ret
    exact ⟨by first | rfl | (simp [errW_none, errW_some] <;> rfl) | (simp [*, errW_none, errW_some] <;> rfl), by repeat (first | (with_reducible first | exact HB.out | apply below_alloc | apply pw_below_drewN | apply below_drew1 | refine below_set ?_ GE398.out | refine below_set ?_ GE399.out) | exact HB.out)⟩
   ·
    replace c11 := Bool.eq_false_iff.mpr c11
    subst c11
    have H1 : ((dot_Bytes.f a0_0 a0_1).bind fun bt401 => ((dot_Bytes.f a1_0 a1_1).bind fun bt405 => ((dot_Text.f a0_0 a0_1).bind fun bt409 => ((dot_Check.f a0_0 a0_1).bind fun t411 => (if bt401.2 = t411 then (if bt409.2 = bt401.2 then ((dot_Check.f a1_0 a1_1).bind fun t412 => (tributarylaw06_DotBack.j1 kj5 l2 a3 t400 bt401.1 bt401.2 bt405.1 bt405.2 bt409.1 (bt405.2 != t412) a0_0 a0_1 a1_0 a1_1)) else (tributarylaw06_DotBack.j1 kj5 l2 a3 t400 bt401.1 bt401.2 bt405.1 bt405.2 bt409.1 true a0_0 a0_1 a1_0 a1_1)) else (tributarylaw06_DotBack.j1 kj5 l2 a3 t400 bt401.1 bt401.2 bt405.1 bt405.2 bt409.1 true a0_0 a0_1 a1_0 a1_1)))))) = some r := by rw [if_neg (show ¬ (false = true) by decide)] at H; exact H
    clear H
    have H := H1
    clear H1
    replace H := Option.bind_eq_some_iff.mp H
    obtain ⟨⟨t401, t404⟩, A120, H⟩ := H
    replace H : ((dot_Bytes.f a1_0 a1_1).bind fun bt405 => ((dot_Text.f a0_0 a0_1).bind fun bt409 => ((dot_Check.f a0_0 a0_1).bind fun t411 => (if t404 = t411 then (if bt409.2 = t404 then ((dot_Check.f a1_0 a1_1).bind fun t412 => (tributarylaw06_DotBack.j1 kj5 l2 a3 t400 t401 t404 bt405.1 bt405.2 bt409.1 (bt405.2 != t412) a0_0 a0_1 a1_0 a1_1)) else (tributarylaw06_DotBack.j1 kj5 l2 a3 t400 t401 t404 bt405.1 bt405.2 bt409.1 true a0_0 a0_1 a1_0 a1_1)) else (tributarylaw06_DotBack.j1 kj5 l2 a3 t400 t401 t404 bt405.1 bt405.2 bt409.1 true a0_0 a0_1 a1_0 a1_1))))) = some r := H
    have A12 := Aside0.mk A120
    clear A120
    replace H := Option.bind_eq_some_iff.mp H
    obtain ⟨⟨t405, t408⟩, A130, H⟩ := H
    replace H : ((dot_Text.f a0_0 a0_1).bind fun bt409 => ((dot_Check.f a0_0 a0_1).bind fun t411 => (if t404 = t411 then (if bt409.2 = t404 then ((dot_Check.f a1_0 a1_1).bind fun t412 => (tributarylaw06_DotBack.j1 kj5 l2 a3 t400 t401 t404 t405 t408 bt409.1 (t408 != t412) a0_0 a0_1 a1_0 a1_1)) else (tributarylaw06_DotBack.j1 kj5 l2 a3 t400 t401 t404 t405 t408 bt409.1 true a0_0 a0_1 a1_0 a1_1)) else (tributarylaw06_DotBack.j1 kj5 l2 a3 t400 t401 t404 t405 t408 bt409.1 true a0_0 a0_1 a1_0 a1_1)))) = some r := H
    have A13 := Aside0.mk A130
    clear A130
    replace H := Option.bind_eq_some_iff.mp H
    obtain ⟨⟨t409, t410⟩, A140, H⟩ := H
    replace H : ((dot_Check.f a0_0 a0_1).bind fun t411 => (if t404 = t411 then (if t410 = t404 then ((dot_Check.f a1_0 a1_1).bind fun t412 => (tributarylaw06_DotBack.j1 kj5 l2 a3 t400 t401 t404 t405 t408 t409 (t408 != t412) a0_0 a0_1 a1_0 a1_1)) else (tributarylaw06_DotBack.j1 kj5 l2 a3 t400 t401 t404 t405 t408 t409 true a0_0 a0_1 a1_0 a1_1)) else (tributarylaw06_DotBack.j1 kj5 l2 a3 t400 t401 t404 t405 t408 t409 true a0_0 a0_1 a1_0 a1_1))) = some r := H
    have A14 := Aside0.mk A140
    clear A140
    have HC15 := Aside0.mk H
    clear H
    have hnb16 := NB398_399.out
    have hnc16 := NB399_398.out
    have hcz17_0 : wc.cell? ⟨gb398, 0, none⟩ = some (.int .i64 a0_0) := (blk_cell BK398.out 0).trans rfl
    have hcz17_1 : wc.cell? ⟨gb398, 1, none⟩ = some (.int .i64 a0_1) := (blk_cell BK398.out 1).trans rfl
    have hfz17_0 := blk_frozen BK398.out 0
    have hfz17_1 := blk_frozen BK398.out 1
    go_upto_region 7 with (first | ((with_reducible refine gate_callee (f := 15) rfl ?_); refine goesL_ (some 40) rfl rfl Tryd.func15 (by kernel_rfl) rfl #[.agg #[.int .i64 a0_0, .int .i64 a0_1]] rfl (by (try simp only [List.map_toArray, List.map_cons, List.map_nil]); first | done | rfl | (simp only [List.length_drop, List.length_take]; rfl)) ?_; (with_reducible refine (dot_Bytes.calls a0_0 a0_1 t401 t404 _ A12.out).mono ?_); rintro e w18 ⟨v402, rfl, ho0, hb⟩; refine ⟨_, rfl, ?_⟩; have n0_ := Aside0.mk (Kd.R_lower ho0 (below_size (by repeat (first | (with_reducible first | exact HB.out | apply below_alloc | apply pw_below_drewN | apply below_drew1 | refine below_set ?_ GE398.out | refine below_set ?_ GE399.out) | exact HB.out)))); have n1_ := Aside0.mk (blk_below (g := gb398) (o := .cells #[.int .i64 a0_0, .int .i64 a0_1] 23 (0, 0)) (by (with_reducible repeat (first | refine blk_drewN ?_ _ | refine blk_drew ?_ | refine blk_alloc ?_ _)); exact BK398.out) hb); have n2_ := Aside0.mk (blk_below (g := gb399) (o := .cells #[.int .i64 a1_0, .int .i64 a1_1] 23 (0, 0)) (by (with_reducible repeat (first | refine blk_drewN ?_ _ | refine blk_drew ?_ | refine blk_alloc ?_ _)); exact BK399.out) hb); have n3_ := Aside0.mk (below_step (by repeat (first | (with_reducible first | exact HB.out | apply below_alloc | apply pw_below_drewN | apply below_drew1 | refine below_set ?_ GE398.out | refine below_set ?_ GE399.out) | exact HB.out)) hb); clear BK398; clear BK399; clear HB; have HO403 := n0_; have BK398 := n1_; have BK399 := n2_; have HB := n3_; clear n0_ n1_ n2_ n3_; (try clear hb); (try clear hb2); (try clear hk); (try clear hi); (try clear ho0); have hcz19_0 : w18.cell? ⟨gb399, 0, none⟩ = some (.int .i64 a1_0) := (blk_cell BK399.out 0).trans rfl; have hcz19_1 : w18.cell? ⟨gb399, 1, none⟩ = some (.int .i64 a1_1) := (blk_cell BK399.out 1).trans rfl; have hfz19_0 := blk_frozen BK399.out 0; have hfz19_1 := blk_frozen BK399.out 1) | ((with_reducible refine gate_callee (f := 15) rfl ?_); refine goesL_ (some 45) rfl rfl Tryd.func15 (by kernel_rfl) rfl #[.agg #[.int .i64 a1_0, .int .i64 a1_1]] rfl (by (try simp only [List.map_toArray, List.map_cons, List.map_nil]); first | done | rfl | (simp only [List.length_drop, List.length_take]; rfl)) ?_; (with_reducible refine (dot_Bytes.calls a1_0 a1_1 t405 t408 _ A13.out).mono ?_); rintro e w20 ⟨v406, rfl, ho0, hb⟩; refine ⟨_, rfl, ?_⟩; have n0_ := Aside0.mk (Kd.R_elder' (by (with_reducible repeat (first | apply Kd.R_alloc | apply Kd.R_drewN | apply Kd.R_drew)); exact HO403.out) (Kd.R_base ho0) hb); have n1_ := Aside0.mk (Kd.R_lower (Kd.R_new' ho0 (Kd.R_lt (by (with_reducible repeat (first | apply Kd.R_alloc | apply Kd.R_drewN | apply Kd.R_drew)); exact HO403.out))) (below_size (by repeat (first | (with_reducible first | exact HB.out | apply below_alloc | apply pw_below_drewN | apply below_drew1 | refine below_set ?_ GE398.out | refine below_set ?_ GE399.out) | exact HB.out)))); have n2_ := Aside0.mk (blk_below (g := gb398) (o := .cells #[.int .i64 a0_0, .int .i64 a0_1] 23 (0, 0)) (by (with_reducible repeat (first | refine blk_drewN ?_ _ | refine blk_drew ?_ | refine blk_alloc ?_ _)); exact BK398.out) hb); have n3_ := Aside0.mk (blk_below (g := gb399) (o := .cells #[.int .i64 a1_0, .int .i64 a1_1] 23 (0, 0)) (by (with_reducible repeat (first | refine blk_drewN ?_ _ | refine blk_drew ?_ | refine blk_alloc ?_ _)); exact BK399.out) hb); have n4_ := Aside0.mk (below_step (by repeat (first | (with_reducible first | exact HB.out | apply below_alloc | apply pw_below_drewN | apply below_drew1 | refine below_set ?_ GE398.out | refine below_set ?_ GE399.out) | exact HB.out)) hb); clear HO403; clear BK398; clear BK399; clear HB; have HO403 := n0_; have HO407 := n1_; have BK398 := n2_; have BK399 := n3_; have HB := n4_; clear n0_ n1_ n2_ n3_ n4_; (try clear hb); (try clear hb2); (try clear hk); (try clear hi); (try clear ho0); have hcz21_0 : w20.cell? ⟨gb398, 0, none⟩ = some (.int .i64 a0_0) := (blk_cell BK398.out 0).trans rfl; have hcz21_1 : w20.cell? ⟨gb398, 1, none⟩ = some (.int .i64 a0_1) := (blk_cell BK398.out 1).trans rfl; have hfz21_0 := blk_frozen BK398.out 0; have hfz21_1 := blk_frozen BK398.out 1) | ((with_reducible refine gate_callee (f := 10) rfl ?_); refine goesL_ (some 50) rfl rfl Tryd.func10 (by kernel_rfl) rfl #[.agg #[.int .i64 a0_0, .int .i64 a0_1]] rfl (by (try simp only [List.map_toArray, List.map_cons, List.map_nil]); first | done | rfl | (simp only [List.length_drop, List.length_take]; rfl)) ?_; (with_reducible refine (dot_Text.calls a0_0 a0_1 t409 t410 _ A14.out (laid_below HLAID.out (by repeat (first | (with_reducible first | exact HB.out | apply below_alloc | apply pw_below_drewN | apply below_drew1 | refine below_set ?_ GE398.out | refine below_set ?_ GE399.out) | exact HB.out)))).mono ?_); rintro e w22 ⟨rfl, hb⟩; refine ⟨_, rfl, ?_⟩; have n0_ := Aside0.mk (Kd.R_below (by (with_reducible repeat (first | apply Kd.R_alloc | apply Kd.R_drewN | apply Kd.R_drew)); exact HO403.out) hb); have n1_ := Aside0.mk (Kd.R_below (by (with_reducible repeat (first | apply Kd.R_alloc | apply Kd.R_drewN | apply Kd.R_drew)); exact HO407.out) hb); have n2_ := Aside0.mk (blk_below (g := gb398) (o := .cells #[.int .i64 a0_0, .int .i64 a0_1] 23 (0, 0)) (by (with_reducible repeat (first | refine blk_drewN ?_ _ | refine blk_drew ?_ | refine blk_alloc ?_ _)); exact BK398.out) hb); have n3_ := Aside0.mk (blk_below (g := gb399) (o := .cells #[.int .i64 a1_0, .int .i64 a1_1] 23 (0, 0)) (by (with_reducible repeat (first | refine blk_drewN ?_ _ | refine blk_drew ?_ | refine blk_alloc ?_ _)); exact BK399.out) hb); have n4_ := Aside0.mk (below_step (by repeat (first | (with_reducible first | exact HB.out | apply below_alloc | apply pw_below_drewN | apply below_drew1 | refine below_set ?_ GE398.out | refine below_set ?_ GE399.out) | exact HB.out)) hb); clear HO403; clear HO407; clear BK398; clear BK399; clear HB; have HO403 := n0_; have HO407 := n1_; have BK398 := n2_; have BK399 := n3_; have HB := n4_; clear n0_ n1_ n2_ n3_ n4_; (try clear hb); (try clear hb2); (try clear hk); (try clear hi)))
    (try simp only [Act.put, List.setIfInBounds_toArray, List.set_cons_zero, List.set_cons_succ])
    go_cut [67] (fun v67 wc => ∃ (kq : Nat) (x67_14 : Bool), v67 = .bool x67_14 ∧ Aside0 (tributarylaw06_DotBack.j1 kq l2 a3 t400 t401 t404 t405 t408 t409 x67_14 a0_0 a0_1 a1_0 a1_1 = some r) ∧ Aside0 (kq ≤ kj5) ∧ Aside0 (Kd.R (Kd.int .u8) 5 wc w.heap.size (fun k_ => some k_ ≠ (v406 : Value).ownBlock) v402 t401) ∧ Aside0 (Kd.R (Kd.int .u8) 5 wc w.heap.size (fun k_ => some k_ ≠ (v402 : Value).ownBlock) v406 t405) ∧ Aside0 (wc.heap[gb398]? = some (.cells #[.int .i64 a0_0, .int .i64 a0_1] 23 (0, 0))) ∧ Aside0 (wc.heap[gb399]? = some (.cells #[.int .i64 a1_0, .int .i64 a1_1] 23 (0, 0))) ∧ Aside0 (Below w.heap.size w wc))
    case first =>
     have H := HC15.out
     clear HC15
     replace H := Option.bind_eq_some_iff.mp H
     obtain ⟨t411, A230, H⟩ := H
     replace H : (if t404 = t411 then (if t410 = t404 then ((dot_Check.f a1_0 a1_1).bind fun t412 => (tributarylaw06_DotBack.j1 kj5 l2 a3 t400 t401 t404 t405 t408 t409 (t408 != t412) a0_0 a0_1 a1_0 a1_1)) else (tributarylaw06_DotBack.j1 kj5 l2 a3 t400 t401 t404 t405 t408 t409 true a0_0 a0_1 a1_0 a1_1)) else (tributarylaw06_DotBack.j1 kj5 l2 a3 t400 t401 t404 t405 t408 t409 true a0_0 a0_1 a1_0 a1_1)) = some r := H
     have A23 := Aside0.mk A230
     clear A230
     by_cases c24 : t404 = t411
     ·
      rw [if_pos c24] at H
      have c24b0 : (t404 == t411) = true := beq_iff_eq.mpr c24
      have c24b1 : (t404 != t411) = false := bne_eq_false_iff_eq.mpr c24
      clear c24
      (first | rw [c24b0] | (simp only [i64_w, i32_w]; rw [c24b0]) | skip)
      by_cases c25 : t410 = t404
      ·
       rw [if_pos c25] at H
       have c25b0 : (t410 == t404) = true := beq_iff_eq.mpr c25
       have c25b1 : (t410 != t404) = false := bne_eq_false_iff_eq.mpr c25
       clear c25
       replace H := Option.bind_eq_some_iff.mp H
       obtain ⟨t412, A260, H⟩ := H
       replace H : (tributarylaw06_DotBack.j1 kj5 l2 a3 t400 t401 t404 t405 t408 t409 (t408 != t412) a0_0 a0_1 a1_0 a1_1) = some r := H
       have A26 := Aside0.mk A260
       clear A260
       have H' := Aside0.mk H
       clear H
       have hnb27 := NB398_399.out
       have hnc27 := NB399_398.out
       have hcz28_0 : w22.cell? ⟨gb398, 0, none⟩ = some (.int .i64 a0_0) := (blk_cell BK398.out 0).trans rfl
       have hcz28_1 : w22.cell? ⟨gb398, 1, none⟩ = some (.int .i64 a0_1) := (blk_cell BK398.out 1).trans rfl
       have hfz28_0 := blk_frozen BK398.out 0
       have hfz28_1 := blk_frozen BK398.out 1
       go_wp2_with (first | ((with_reducible refine gate_callee (f := 24) rfl ?_); refine goesL_ (some 55) rfl rfl Tryd.func24 (by kernel_rfl) rfl #[.agg #[.int .i64 a0_0, .int .i64 a0_1]] rfl (by (try simp only [List.map_toArray, List.map_cons, List.map_nil]); first | done | rfl | (simp only [List.length_drop, List.length_take]; rfl)) ?_; (with_reducible refine (dot_Check.calls a0_0 a0_1 t411 _ A23.out).mono ?_); rintro e w29 ⟨rfl, hb⟩; refine ⟨_, rfl, ?_⟩; have n0_ := Aside0.mk (Kd.R_below (by (with_reducible repeat (first | apply Kd.R_alloc | apply Kd.R_drewN | apply Kd.R_drew)); exact HO403.out) hb); have n1_ := Aside0.mk (Kd.R_below (by (with_reducible repeat (first | apply Kd.R_alloc | apply Kd.R_drewN | apply Kd.R_drew)); exact HO407.out) hb); have n2_ := Aside0.mk (blk_below (g := gb398) (o := .cells #[.int .i64 a0_0, .int .i64 a0_1] 23 (0, 0)) (by (with_reducible repeat (first | refine blk_drewN ?_ _ | refine blk_drew ?_ | refine blk_alloc ?_ _)); exact BK398.out) hb); have n3_ := Aside0.mk (blk_below (g := gb399) (o := .cells #[.int .i64 a1_0, .int .i64 a1_1] 23 (0, 0)) (by (with_reducible repeat (first | refine blk_drewN ?_ _ | refine blk_drew ?_ | refine blk_alloc ?_ _)); exact BK399.out) hb); have n4_ := Aside0.mk (below_step (by repeat (first | (with_reducible first | exact HB.out | apply below_alloc | apply pw_below_drewN | apply below_drew1 | refine below_set ?_ GE398.out | refine below_set ?_ GE399.out) | exact HB.out)) hb); clear HO403; clear HO407; clear BK398; clear BK399; clear HB; have HO403 := n0_; have HO407 := n1_; have BK398 := n2_; have BK399 := n3_; have HB := n4_; clear n0_ n1_ n2_ n3_ n4_; (try clear hb); (try clear hb2); (try clear hk); (try clear hi); have hcz30_0 : w29.cell? ⟨gb399, 0, none⟩ = some (.int .i64 a1_0) := (blk_cell BK399.out 0).trans rfl; have hcz30_1 : w29.cell? ⟨gb399, 1, none⟩ = some (.int .i64 a1_1) := (blk_cell BK399.out 1).trans rfl; have hfz30_0 := blk_frozen BK399.out 0; have hfz30_1 := blk_frozen BK399.out 1) | (go_at_call 24; (with_reducible refine (dot_Check.calls a1_0 a1_1 t412 _ A26.out).mono ?_); rintro e w31 ⟨rfl, hb⟩; have n0_ := Aside0.mk (Kd.R_below (by (with_reducible repeat (first | apply Kd.R_alloc | apply Kd.R_drewN | apply Kd.R_drew)); exact HO403.out) hb); have n1_ := Aside0.mk (Kd.R_below (by (with_reducible repeat (first | apply Kd.R_alloc | apply Kd.R_drewN | apply Kd.R_drew)); exact HO407.out) hb); have n2_ := Aside0.mk (blk_below (g := gb398) (o := .cells #[.int .i64 a0_0, .int .i64 a0_1] 23 (0, 0)) (by (with_reducible repeat (first | refine blk_drewN ?_ _ | refine blk_drew ?_ | refine blk_alloc ?_ _)); exact BK398.out) hb); have n3_ := Aside0.mk (blk_below (g := gb399) (o := .cells #[.int .i64 a1_0, .int .i64 a1_1] 23 (0, 0)) (by (with_reducible repeat (first | refine blk_drewN ?_ _ | refine blk_drew ?_ | refine blk_alloc ?_ _)); exact BK399.out) hb); have n4_ := Aside0.mk (below_step (by repeat (first | (with_reducible first | exact HB.out | apply below_alloc | apply pw_below_drewN | apply below_drew1 | refine below_set ?_ GE398.out | refine below_set ?_ GE399.out) | exact HB.out)) hb); clear HO403; clear HO407; clear BK398; clear BK399; clear HB; have HO403 := n0_; have HO407 := n1_; have BK398 := n2_; have BK399 := n3_; have HB := n4_; clear n0_ n1_ n2_ n3_ n4_; (try clear hb); (try clear hb2); (try clear hk); (try clear hi)))
       go_meet
       case rel => exact ⟨_, ((t408 != t412)), (by first | rfl | (simp; done) | (simp [*]; done)), H', ⟨by have := HJ5.out; first | omega | exact Nat.le_refl _⟩, ⟨by (with_reducible repeat (first | apply Kd.R_alloc | apply Kd.R_drewN | apply Kd.R_drew)); exact Kd.R_mono HO403.out (fun _ hk => hk.2)⟩, ⟨by (with_reducible repeat (first | apply Kd.R_alloc | apply Kd.R_drewN | apply Kd.R_drew)); exact Kd.R_mono HO407.out (fun _ hk => hk.2)⟩, ⟨by (with_reducible repeat (first | refine blk_drewN ?_ _ | refine blk_drew ?_ | refine blk_alloc ?_ _)); exact BK398.out⟩, ⟨by (with_reducible repeat (first | refine blk_drewN ?_ _ | refine blk_drew ?_ | refine blk_alloc ?_ _)); exact BK399.out⟩, ⟨by repeat (first | (with_reducible first | exact HB.out | apply below_alloc | apply pw_below_drewN | apply below_drew1 | refine below_set ?_ GE398.out | refine below_set ?_ GE399.out) | exact HB.out)⟩⟩
      ·
       rw [if_neg c25] at H
       exact absurd (H.trans (congrArg some HR.out)) (by with_reducible repeat' first | exact ntc_false | exact ntc_none | exact tributarylaw06_DotBack.j1_nt0 _ _ _ _ _ _ _ _ _ _ _ _ _ | refine ntc_iff ?_ | refine ntc_ite ?_ ?_ | refine ntc_bind (fun _ => ?_))
     ·
      rw [if_neg c24] at H
      exact absurd (H.trans (congrArg some HR.out)) (by with_reducible repeat' first | exact ntc_false | exact ntc_none | exact tributarylaw06_DotBack.j1_nt0 _ _ _ _ _ _ _ _ _ _ _ _ _ | refine ntc_iff ?_ | refine ntc_ite ?_ ?_ | refine ntc_bind (fun _ => ?_))
    case rest =>
     clear HC15
     try clear c1; try clear c2; try clear p2; try clear c3; try clear c7; try clear c8; try clear c10; try clear c10b0; try clear c10b1; try clear c11; try clear c15; try clear c16; try clear c24; try clear c24b0; try clear c24b1; try clear c25; try clear c25b0; try clear c25b1; try clear c27; try clear c32; try clear c35; try clear hcz17_0; try clear hcz17_1; try clear hcz19_0; try clear hcz19_1; try clear hcz21_0; try clear hcz21_1; try clear hcz28_0; try clear hcz28_1; try clear hcz30_0; try clear hcz30_1; try clear hcz33_0; try clear hcz33_1; try clear hcz36_0; try clear hcz36_1; try clear hfz17_0; try clear hfz17_1; try clear hfz19_0; try clear hfz19_1; try clear hfz21_0; try clear hfz21_1; try clear hfz28_0; try clear hfz28_1; try clear hfz30_0; try clear hfz30_1; try clear hfz33_0; try clear hfz33_1; try clear hfz36_0; try clear hfz36_1; try clear p2
     obtain ⟨kq, x67_14, rfl, HA, HJ14, HO_10, HO_12, BK398, BK399, HB⟩ := hcut
     cases kq with
     | zero => exact absurd HA.out (by simp [tributarylaw06_DotBack.j1])
     | succ kj14 =>
      have H := HA.out
      clear HA
      simp only [tributarylaw06_DotBack.j1] at H
      by_cases c38 : x67_14 = true
      ·
       subst c38
       have H1 : (some false) = some r := by rw [if_pos rfl] at H; exact H
       clear H
       have H := H1
       clear H1
       exact absurd (H.trans (congrArg some HR.out)) (by with_reducible repeat' first | exact ntc_false | exact ntc_none | exact tributarylaw06_DotBack.j1_nt0 _ _ _ _ _ _ _ _ _ _ _ _ _ | refine ntc_iff ?_ | refine ntc_ite ?_ ?_ | refine ntc_bind (fun _ => ?_))
      ·
       replace c38 := Bool.eq_false_iff.mpr c38
       subst c38
       have H1 : (if t404 = 0 then ((dot_Read.f t401).bind fun bt413 => ((dot_Parse.f t409).bind fun bt419 => (if bt413.2.2.1 = 0 then (if (!(bt413.1 == a0_0) || (!(bt413.2.1 == a0_1))) = true then (some false) else (if bt419.2.2 = 0 then (if (!(bt419.1 == a0_0) || (!(bt419.2.1 == a0_1))) = true then (some false) else (if t408 = 0 then ((dot_Less.f kj14 a0_0 a0_1 a1_0 a1_1).bind fun t423 => (if (t423 != (Op.bytesLess ((strOfNums t401).toList) ((strOfNums t405).toList))) = true then (some false) else (tributarylaw06_DotBack.j2 kj14 l2 a3 t400))) else (tributarylaw06_DotBack.j2 kj14 l2 a3 t400))) else (some false))) else (some false)))) else (tributarylaw06_DotBack.j2 kj14 l2 a3 t400)) = some r := by rw [if_neg (show ¬ (false = true) by decide)] at H; exact H
       clear H
       have H := H1
       clear H1
       have HC39 := Aside0.mk H
       clear H
       go_upto_if 69 with (fail)
       go_cut [] (fun wc => ∃ (kq : Nat), Aside0 (tributarylaw06_DotBack.j2 kq l2 a3 t400 = some r) ∧ Aside0 (kq ≤ kj14) ∧ Aside0 (wc.heap[gb398]? = some (.cells #[.int .i64 a0_0, .int .i64 a0_1] 23 (0, 0))) ∧ Aside0 (wc.heap[gb399]? = some (.cells #[.int .i64 a1_0, .int .i64 a1_1] 23 (0, 0))) ∧ Aside0 (Below w.heap.size w wc))
       case first =>
        have H := HC39.out
        clear HC39
        by_cases c40 : t404 = 0
        ·
         rw [if_pos c40] at H
         have c40b0 : (t404 == 0) = true := beq_iff_eq.mpr c40
         have c40b1 : (t404 != 0) = false := bne_eq_false_iff_eq.mpr c40
         clear c40
         (first | rw [c40b0] | (simp only [i64_w, i32_w]; rw [c40b0]) | skip)
         replace H := Option.bind_eq_some_iff.mp H
         obtain ⟨⟨t413, t414, t415, t416⟩, A410, H⟩ := H
         replace H : ((dot_Parse.f t409).bind fun bt419 => (if t415 = 0 then (if (!(t413 == a0_0) || (!(t414 == a0_1))) = true then (some false) else (if bt419.2.2 = 0 then (if (!(bt419.1 == a0_0) || (!(bt419.2.1 == a0_1))) = true then (some false) else (if t408 = 0 then ((dot_Less.f kj14 a0_0 a0_1 a1_0 a1_1).bind fun t423 => (if (t423 != (Op.bytesLess ((strOfNums t401).toList) ((strOfNums t405).toList))) = true then (some false) else (tributarylaw06_DotBack.j2 kj14 l2 a3 t400))) else (tributarylaw06_DotBack.j2 kj14 l2 a3 t400))) else (some false))) else (some false))) = some r := H
         have A41 := Aside0.mk A410
         clear A410
         replace H := Option.bind_eq_some_iff.mp H
         obtain ⟨⟨t419, t420, t421⟩, A420, H⟩ := H
         replace H : (if t415 = 0 then (if (!(t413 == a0_0) || (!(t414 == a0_1))) = true then (some false) else (if t421 = 0 then (if (!(t419 == a0_0) || (!(t420 == a0_1))) = true then (some false) else (if t408 = 0 then ((dot_Less.f kj14 a0_0 a0_1 a1_0 a1_1).bind fun t423 => (if (t423 != (Op.bytesLess ((strOfNums t401).toList) ((strOfNums t405).toList))) = true then (some false) else (tributarylaw06_DotBack.j2 kj14 l2 a3 t400))) else (tributarylaw06_DotBack.j2 kj14 l2 a3 t400))) else (some false))) else (some false)) = some r := H
         have A42 := Aside0.mk A420
         clear A420
         by_cases c43 : t415 = 0
         ·
          rw [if_pos c43] at H
          have c43b0 : (t415 == 0) = true := beq_iff_eq.mpr c43
          have c43b1 : (t415 != 0) = false := bne_eq_false_iff_eq.mpr c43
          clear c43
          by_cases c44 : (!(t413 == a0_0) || (!(t414 == a0_1))) = true
          ·
           rw [if_pos c44] at H
           exact absurd (H.trans (congrArg some HR.out)) (by with_reducible repeat' first | exact ntc_false | exact ntc_none | exact tributarylaw06_DotBack.j1_nt0 _ _ _ _ _ _ _ _ _ _ _ _ _ | refine ntc_iff ?_ | refine ntc_ite ?_ ?_ | refine ntc_bind (fun _ => ?_))
          ·
           rw [if_neg c44] at H
           have c44b0 : (!(t413 == a0_0) || (!(t414 == a0_1))) = false := by simpa using c44
           clear c44
           by_cases c65 : t421 = 0
           ·
            rw [if_pos c65] at H
            have c65b0 : (t421 == 0) = true := beq_iff_eq.mpr c65
            have c65b1 : (t421 != 0) = false := bne_eq_false_iff_eq.mpr c65
            clear c65
            by_cases c66 : (!(t419 == a0_0) || (!(t420 == a0_1))) = true
            ·
             rw [if_pos c66] at H
             exact absurd (H.trans (congrArg some HR.out)) (by with_reducible repeat' first | exact ntc_false | exact ntc_none | exact tributarylaw06_DotBack.j1_nt0 _ _ _ _ _ _ _ _ _ _ _ _ _ | refine ntc_iff ?_ | refine ntc_ite ?_ ?_ | refine ntc_bind (fun _ => ?_))
            ·
             rw [if_neg c66] at H
             have c66b0 : (!(t419 == a0_0) || (!(t420 == a0_1))) = false := by simpa using c66
             clear c66
             by_cases c87 : t408 = 0
             ·
              rw [if_pos c87] at H
              have c87b0 : (t408 == 0) = true := beq_iff_eq.mpr c87
              have c87b1 : (t408 != 0) = false := bne_eq_false_iff_eq.mpr c87
              clear c87
              replace H := Option.bind_eq_some_iff.mp H
              obtain ⟨t423, A880, H⟩ := H
              replace H : (if (t423 != (Op.bytesLess ((strOfNums t401).toList) ((strOfNums t405).toList))) = true then (some false) else (tributarylaw06_DotBack.j2 kj14 l2 a3 t400)) = some r := H
              have A88 := Aside0.mk A880
              clear A880
              by_cases c89 : (t423 != (Op.bytesLess ((strOfNums t401).toList) ((strOfNums t405).toList))) = true
              ·
               rw [if_pos c89] at H
               have c89e : t423 = !(Op.bytesLess ((strOfNums t401).toList) ((strOfNums t405).toList)) := by revert c89; generalize t423 = q_; (try generalize (Op.bytesLess ((strOfNums t401).toList) ((strOfNums t405).toList)) = x_); cases q_ <;> (try cases x_) <;> simp
               exact absurd (H.trans (congrArg some HR.out)) (by with_reducible repeat' first | exact ntc_false | exact ntc_none | exact tributarylaw06_DotBack.j1_nt0 _ _ _ _ _ _ _ _ _ _ _ _ _ | refine ntc_iff ?_ | refine ntc_ite ?_ ?_ | refine ntc_bind (fun _ => ?_))
              ·
               rw [if_neg c89] at H
               have c89e : t423 = (Op.bytesLess ((strOfNums t401).toList) ((strOfNums t405).toList)) := by revert c89; generalize t423 = q_; (try generalize (Op.bytesLess ((strOfNums t401).toList) ((strOfNums t405).toList)) = x_); cases q_ <;> (try cases x_) <;> simp
               have c89b0 : (t423 != (Op.bytesLess ((strOfNums t401).toList) ((strOfNums t405).toList))) = false := by simpa using c89
               (try (have c89b1 : decide (t423 = (Op.bytesLess ((strOfNums t401).toList) ((strOfNums t405).toList))) = true := by simpa using c89))
               (try (have c89b2 : (t423 == (Op.bytesLess ((strOfNums t401).toList) ((strOfNums t405).toList))) = true := by simpa using c89))
               clear c89
               have H' := Aside0.mk H
               clear H
               obtain ⟨Ao114, co114, eo114⟩ := Kd.R_slice HO_10.out
               subst eo114
               try go_wp2_with (first | ((with_reducible refine gate_callee (f := 17) rfl ?_); refine goesL_ (some 72) rfl rfl Tryd.func17 (by kernel_rfl) rfl #[.slice Ao114 t401.length co114] rfl (by (try simp only [List.map_toArray, List.map_cons, List.map_nil]); first | done | rfl | (simp only [List.length_drop, List.length_take]; rfl)) ?_; (with_reducible refine (dot_Read.calls _ _ t401 t413 t414 t415 t416 _ ?side1 ?side2 A41.out).mono ?_); (case side1 => repeat (first | exact (Kd.R_reads' HO_10.out).2.2 | (with_reducible refine Kd.C_alloc ?_ _) | (with_reducible refine Kd.C_drewN ?_ _) | (with_reducible refine Kd.C_drew ?_))); (case side2 => exact (Kd.R_reads' HO_10.out).2.1); rintro e w115 ⟨rfl, hb⟩; refine ⟨_, rfl, ?_⟩; have n0_ := Aside0.mk (Kd.R_below (by (with_reducible repeat (first | apply Kd.R_alloc | apply Kd.R_drewN | apply Kd.R_drew)); exact HO_10.out) hb); have n1_ := Aside0.mk (Kd.R_below (by (with_reducible repeat (first | apply Kd.R_alloc | apply Kd.R_drewN | apply Kd.R_drew)); exact HO_12.out) hb); have n2_ := Aside0.mk (blk_below (g := gb398) (o := .cells #[.int .i64 a0_0, .int .i64 a0_1] 23 (0, 0)) (by (with_reducible repeat (first | refine blk_drewN ?_ _ | refine blk_drew ?_ | refine blk_alloc ?_ _)); exact BK398.out) hb); have n3_ := Aside0.mk (blk_below (g := gb399) (o := .cells #[.int .i64 a1_0, .int .i64 a1_1] 23 (0, 0)) (by (with_reducible repeat (first | refine blk_drewN ?_ _ | refine blk_drew ?_ | refine blk_alloc ?_ _)); exact BK399.out) hb); have n4_ := Aside0.mk (below_step (by repeat (first | (with_reducible first | exact HB.out | apply below_alloc | apply pw_below_drewN | apply below_drew1 | refine below_set ?_ GE398.out | refine below_set ?_ GE399.out) | exact HB.out)) hb); clear HO_10; clear HO_12; clear BK398; clear BK399; clear HB; have HO_10 := n0_; have HO_12 := n1_; have BK398 := n2_; have BK399 := n3_; have HB := n4_; clear n0_ n1_ n2_ n3_ n4_; (try clear hb); (try clear hb2); (try clear hk); (try clear hi)) | ((with_reducible refine gate_dst (N := 16) rfl ?_); (try (refine gate_guard (by rfl) ?_; dsimp only)); refine box_event ?hg (N := 16) ?hd (cs := #[.int .i64 0, .int .i64 0]) (t := 23) ?hr ?_; (case hd => rfl); (case hg => rfl); (case hr => first | (go_simp; done) | (go_simp; rfl)); intro gb417 hg w116 hbox hb; have n0_ := Aside0.mk (Kd.R_below (by (with_reducible repeat (first | apply Kd.R_alloc | apply Kd.R_drewN | apply Kd.R_drew)); exact HO_10.out) hb); have n1_ := Aside0.mk (Kd.R_below (by (with_reducible repeat (first | apply Kd.R_alloc | apply Kd.R_drewN | apply Kd.R_drew)); exact HO_12.out) hb); have n2_ := Aside0.mk (blk_below (g := gb398) (o := .cells #[.int .i64 a0_0, .int .i64 a0_1] 23 (0, 0)) (by (with_reducible repeat (first | refine blk_drewN ?_ _ | refine blk_drew ?_ | refine blk_alloc ?_ _)); exact BK398.out) hb); have n3_ := Aside0.mk (blk_below (g := gb399) (o := .cells #[.int .i64 a1_0, .int .i64 a1_1] 23 (0, 0)) (by (with_reducible repeat (first | refine blk_drewN ?_ _ | refine blk_drew ?_ | refine blk_alloc ?_ _)); exact BK399.out) hb); have n4_ := Aside0.mk (below_step (by repeat (first | (with_reducible first | exact HB.out | apply below_alloc | apply pw_below_drewN | apply below_drew1 | refine below_set ?_ GE398.out | refine below_set ?_ GE399.out) | exact HB.out)) hb); have n5_ := Aside0.mk (hbox); have n6_ := Aside0.mk ((by rw [hg]; exact (below_size (by repeat (first | (with_reducible first | exact HB.out | apply below_alloc | apply pw_below_drewN | apply below_drew1 | refine below_set ?_ GE398.out | refine below_set ?_ GE399.out) | exact HB.out))) : w.heap.size ≤ gb417)); have n7_ := Aside0.mk ((by rw [hg]; exact (below_size (by repeat (first | (with_reducible first | exact HB.out | apply below_alloc | apply pw_below_drewN | apply below_drew1 | refine below_set ?_ GE398.out | refine below_set ?_ GE399.out) | exact HB.out))) : w.heap.size ≤ gb417)); have n8_ := Aside0.mk ((by rw [hg]; exact Nat.ne_of_lt (blk_lt (g := gb398) (o := .cells #[.int .i64 a0_0, .int .i64 a0_1] 23 (0, 0)) (by (with_reducible repeat (first | refine blk_drewN ?_ _ | refine blk_drew ?_ | refine blk_alloc ?_ _)); exact BK398.out)) : gb398 ≠ gb417)); have n9_ := Aside0.mk ((by rw [hg]; exact Nat.ne_of_gt (blk_lt (g := gb398) (o := .cells #[.int .i64 a0_0, .int .i64 a0_1] 23 (0, 0)) (by (with_reducible repeat (first | refine blk_drewN ?_ _ | refine blk_drew ?_ | refine blk_alloc ?_ _)); exact BK398.out)) : gb417 ≠ gb398)); have n10_ := Aside0.mk ((by rw [hg]; exact Nat.ne_of_lt (blk_lt (g := gb399) (o := .cells #[.int .i64 a1_0, .int .i64 a1_1] 23 (0, 0)) (by (with_reducible repeat (first | refine blk_drewN ?_ _ | refine blk_drew ?_ | refine blk_alloc ?_ _)); exact BK399.out)) : gb399 ≠ gb417)); have n11_ := Aside0.mk ((by rw [hg]; exact Nat.ne_of_gt (blk_lt (g := gb399) (o := .cells #[.int .i64 a1_0, .int .i64 a1_1] 23 (0, 0)) (by (with_reducible repeat (first | refine blk_drewN ?_ _ | refine blk_drew ?_ | refine blk_alloc ?_ _)); exact BK399.out)) : gb417 ≠ gb399)); clear HO_10; clear HO_12; clear BK398; clear BK399; clear HB; have HO_10 := n0_; have HO_12 := n1_; have BK398 := n2_; have BK399 := n3_; have HB := n4_; have BK417 := n5_; have GW417 := n6_; have GE417 := n7_; have NB398_417 := n8_; have NB417_398 := n9_; have NB399_417 := n10_; have NB417_399 := n11_; clear n0_ n1_ n2_ n3_ n4_ n5_ n6_ n7_ n8_ n9_ n10_ n11_; clear hb hbox hg) | ((with_reducible refine gate_dst (N := 17) rfl ?_); (try (refine gate_guard (by rfl) ?_; dsimp only)); refine box_event ?hg (N := 17) ?hd (cs := #[.int .i64 0, .int .i64 0]) (t := 36) ?hr ?_; (case hd => rfl); (case hg => rfl); (case hr => first | (go_simp; done) | (go_simp; rfl)); intro gb418 hg w117 hbox hb; have n0_ := Aside0.mk (Kd.R_below (by (with_reducible repeat (first | apply Kd.R_alloc | apply Kd.R_drewN | apply Kd.R_drew)); exact HO_10.out) hb); have n1_ := Aside0.mk (Kd.R_below (by (with_reducible repeat (first | apply Kd.R_alloc | apply Kd.R_drewN | apply Kd.R_drew)); exact HO_12.out) hb); have n2_ := Aside0.mk (blk_below (g := gb398) (o := .cells #[.int .i64 a0_0, .int .i64 a0_1] 23 (0, 0)) (by (with_reducible repeat (first | refine blk_drewN ?_ _ | refine blk_drew ?_ | refine blk_alloc ?_ _)); exact BK398.out) hb); have n3_ := Aside0.mk (blk_below (g := gb399) (o := .cells #[.int .i64 a1_0, .int .i64 a1_1] 23 (0, 0)) (by (with_reducible repeat (first | refine blk_drewN ?_ _ | refine blk_drew ?_ | refine blk_alloc ?_ _)); exact BK399.out) hb); have n4_ := Aside0.mk (blk_below (g := gb417) (o := .cells #[.int .i64 0, .int .i64 0] 23 (0, 0)) (by (with_reducible repeat (first | refine blk_drewN ?_ _ | refine blk_drew ?_ | refine blk_alloc ?_ _)); exact BK417.out) hb); have n5_ := Aside0.mk (below_step (by repeat (first | (with_reducible first | exact HB.out | apply below_alloc | apply pw_below_drewN | apply below_drew1 | refine below_set ?_ GE398.out | refine below_set ?_ GE399.out | refine below_set ?_ GE417.out) | exact HB.out)) hb); have n6_ := Aside0.mk (hbox); have n7_ := Aside0.mk ((by rw [hg]; exact (below_size (by repeat (first | (with_reducible first | exact HB.out | apply below_alloc | apply pw_below_drewN | apply below_drew1 | refine below_set ?_ GE398.out | refine below_set ?_ GE399.out | refine below_set ?_ GE417.out) | exact HB.out))) : w.heap.size ≤ gb418)); have n8_ := Aside0.mk ((by rw [hg]; exact (below_size (by repeat (first | (with_reducible first | exact HB.out | apply below_alloc | apply pw_below_drewN | apply below_drew1 | refine below_set ?_ GE398.out | refine below_set ?_ GE399.out | refine below_set ?_ GE417.out) | exact HB.out))) : w.heap.size ≤ gb418)); have n9_ := Aside0.mk ((by rw [hg]; exact Nat.ne_of_lt (blk_lt (g := gb398) (o := .cells #[.int .i64 a0_0, .int .i64 a0_1] 23 (0, 0)) (by (with_reducible repeat (first | refine blk_drewN ?_ _ | refine blk_drew ?_ | refine blk_alloc ?_ _)); exact BK398.out)) : gb398 ≠ gb418)); have n10_ := Aside0.mk ((by rw [hg]; exact Nat.ne_of_gt (blk_lt (g := gb398) (o := .cells #[.int .i64 a0_0, .int .i64 a0_1] 23 (0, 0)) (by (with_reducible repeat (first | refine blk_drewN ?_ _ | refine blk_drew ?_ | refine blk_alloc ?_ _)); exact BK398.out)) : gb418 ≠ gb398)); have n11_ := Aside0.mk ((by rw [hg]; exact Nat.ne_of_lt (blk_lt (g := gb399) (o := .cells #[.int .i64 a1_0, .int .i64 a1_1] 23 (0, 0)) (by (with_reducible repeat (first | refine blk_drewN ?_ _ | refine blk_drew ?_ | refine blk_alloc ?_ _)); exact BK399.out)) : gb399 ≠ gb418)); have n12_ := Aside0.mk ((by rw [hg]; exact Nat.ne_of_gt (blk_lt (g := gb399) (o := .cells #[.int .i64 a1_0, .int .i64 a1_1] 23 (0, 0)) (by (with_reducible repeat (first | refine blk_drewN ?_ _ | refine blk_drew ?_ | refine blk_alloc ?_ _)); exact BK399.out)) : gb418 ≠ gb399)); have n13_ := Aside0.mk ((by rw [hg]; exact Nat.ne_of_lt (blk_lt (g := gb417) (o := .cells #[.int .i64 0, .int .i64 0] 23 (0, 0)) (by (with_reducible repeat (first | refine blk_drewN ?_ _ | refine blk_drew ?_ | refine blk_alloc ?_ _)); exact BK417.out)) : gb417 ≠ gb418)); have n14_ := Aside0.mk ((by rw [hg]; exact Nat.ne_of_gt (blk_lt (g := gb417) (o := .cells #[.int .i64 0, .int .i64 0] 23 (0, 0)) (by (with_reducible repeat (first | refine blk_drewN ?_ _ | refine blk_drew ?_ | refine blk_alloc ?_ _)); exact BK417.out)) : gb418 ≠ gb417)); clear HO_10; clear HO_12; clear BK398; clear BK399; clear BK417; clear HB; have HO_10 := n0_; have HO_12 := n1_; have BK398 := n2_; have BK399 := n3_; have BK417 := n4_; have HB := n5_; have BK418 := n6_; have GW418 := n7_; have GE418 := n8_; have NB398_418 := n9_; have NB418_398 := n10_; have NB399_418 := n11_; have NB418_399 := n12_; have NB417_418 := n13_; have NB418_417 := n14_; clear n0_ n1_ n2_ n3_ n4_ n5_ n6_ n7_ n8_ n9_ n10_ n11_ n12_ n13_ n14_; clear hb hbox hg; have hnb118 := NB417_398.out; have hnc118 := NB398_417.out; have hnb119 := NB417_399.out; have hnc119 := NB399_417.out; have hnb120 := NB417_418.out; have hnc120 := NB418_417.out; have hcz121_0 : w117.cell? ⟨gb417, 0, none⟩ = some (.int .i64 0) := (blk_cell BK417.out 0).trans rfl; have hcz121_1 : w117.cell? ⟨gb417, 1, none⟩ = some (.int .i64 0) := (blk_cell BK417.out 1).trans rfl; have hfz121_0 := blk_frozen BK417.out 0; have hfz121_1 := blk_frozen BK417.out 1; have hnb122 := NB418_398.out; have hnc122 := NB398_418.out; have hnb123 := NB418_399.out; have hnc123 := NB399_418.out; have hcz124_0 : w117.cell? ⟨gb418, 0, none⟩ = some (.int .i64 0) := (blk_cell BK418.out 0).trans rfl; have hcz124_1 : w117.cell? ⟨gb418, 1, none⟩ = some (.int .i64 0) := (blk_cell BK418.out 1).trans rfl; have hfz124_0 := blk_frozen BK418.out 0; have hfz124_1 := blk_frozen BK418.out 1) | ((with_reducible refine gate_callee (f := 12) rfl ?_); refine goesL_ (some 77) rfl rfl Tryd.func12 (by kernel_rfl) rfl #[.string t409] rfl (by (try simp only [List.map_toArray, List.map_cons, List.map_nil]); first | done | rfl | (simp only [List.length_drop, List.length_take]; rfl)) ?_; (with_reducible refine (dot_Parse.calls t409 t419 t420 t421 _ A42.out (laid_below HLAID.out (by repeat (first | (with_reducible first | exact HB.out | apply below_alloc | apply pw_below_drewN | apply below_drew1 | refine below_set ?_ GE398.out | refine below_set ?_ GE399.out | refine below_set ?_ GE417.out | refine below_set ?_ GE418.out) | exact HB.out)))).mono ?_); rintro e w125 ⟨rfl, hb⟩; refine ⟨_, rfl, ?_⟩; have n0_ := Aside0.mk (Kd.R_below (by (with_reducible repeat (first | apply Kd.R_alloc | apply Kd.R_drewN | apply Kd.R_drew)); exact (Kd.R_mono (Kd.R_mono (Kd.R_far (p := ⟨gb418, 1, none⟩) (Kd.R_far (p := ⟨gb418, 0, none⟩) (Kd.R_far (p := ⟨gb417, 1, none⟩) (Kd.R_far (p := ⟨gb417, 0, none⟩) (Kd.R_types (Kd.R_types HO_10.out BK417.out (by decide)) BK418.out (by decide)) (fun _ hk => hk.1.2) (.int .i64 t413)) (fun _ hk => hk.1.2) (.int .i64 t414)) (fun _ hk => hk.2) (.int .i64 t415)) (fun _ hk => hk.2) (.int .i64 t416)) (fun _ h_ => h_.1)) (fun _ h_ => h_.1))) hb); have n1_ := Aside0.mk (Kd.R_below (by (with_reducible repeat (first | apply Kd.R_alloc | apply Kd.R_drewN | apply Kd.R_drew)); exact (Kd.R_mono (Kd.R_mono (Kd.R_far (p := ⟨gb418, 1, none⟩) (Kd.R_far (p := ⟨gb418, 0, none⟩) (Kd.R_far (p := ⟨gb417, 1, none⟩) (Kd.R_far (p := ⟨gb417, 0, none⟩) (Kd.R_types (Kd.R_types HO_12.out BK417.out (by decide)) BK418.out (by decide)) (fun _ hk => hk.1.2) (.int .i64 t413)) (fun _ hk => hk.1.2) (.int .i64 t414)) (fun _ hk => hk.2) (.int .i64 t415)) (fun _ hk => hk.2) (.int .i64 t416)) (fun _ h_ => h_.1)) (fun _ h_ => h_.1))) hb); have n2_ := Aside0.mk (blk_below (g := gb398) (o := .cells #[.int .i64 a0_0, .int .i64 a0_1] 23 (0, 0)) (by (with_reducible repeat (first | refine blk_drewN ?_ _ | refine blk_drew ?_ | refine blk_alloc ?_ _)); refine blk_far ?_ NB398_418.out _; (with_reducible repeat (first | refine blk_drewN ?_ _ | refine blk_drew ?_ | refine blk_alloc ?_ _)); refine blk_far ?_ NB398_418.out _; (with_reducible repeat (first | refine blk_drewN ?_ _ | refine blk_drew ?_ | refine blk_alloc ?_ _)); refine blk_far ?_ NB398_417.out _; (with_reducible repeat (first | refine blk_drewN ?_ _ | refine blk_drew ?_ | refine blk_alloc ?_ _)); refine blk_far ?_ NB398_417.out _; (with_reducible repeat (first | refine blk_drewN ?_ _ | refine blk_drew ?_ | refine blk_alloc ?_ _)); exact BK398.out) hb); have n3_ := Aside0.mk (blk_below (g := gb399) (o := .cells #[.int .i64 a1_0, .int .i64 a1_1] 23 (0, 0)) (by (with_reducible repeat (first | refine blk_drewN ?_ _ | refine blk_drew ?_ | refine blk_alloc ?_ _)); refine blk_far ?_ NB399_418.out _; (with_reducible repeat (first | refine blk_drewN ?_ _ | refine blk_drew ?_ | refine blk_alloc ?_ _)); refine blk_far ?_ NB399_418.out _; (with_reducible repeat (first | refine blk_drewN ?_ _ | refine blk_drew ?_ | refine blk_alloc ?_ _)); refine blk_far ?_ NB399_417.out _; (with_reducible repeat (first | refine blk_drewN ?_ _ | refine blk_drew ?_ | refine blk_alloc ?_ _)); refine blk_far ?_ NB399_417.out _; (with_reducible repeat (first | refine blk_drewN ?_ _ | refine blk_drew ?_ | refine blk_alloc ?_ _)); exact BK399.out) hb); have n4_ := Aside0.mk (blk_below (g := gb417) (o := .cells #[.int .i64 t413, .int .i64 t414] 23 (0, 0)) (by (with_reducible repeat (first | refine blk_drewN ?_ _ | refine blk_drew ?_ | refine blk_alloc ?_ _)); refine blk_far ?_ NB417_418.out _; (with_reducible repeat (first | refine blk_drewN ?_ _ | refine blk_drew ?_ | refine blk_alloc ?_ _)); refine blk_far ?_ NB417_418.out _; (with_reducible repeat (first | refine blk_drewN ?_ _ | refine blk_drew ?_ | refine blk_alloc ?_ _)); refine blk_put (cs := #[.int .i64 t413, .int .i64 0]) ?_ 1 _ rfl; (with_reducible repeat (first | refine blk_drewN ?_ _ | refine blk_drew ?_ | refine blk_alloc ?_ _)); refine blk_put (cs := #[.int .i64 0, .int .i64 0]) ?_ 0 _ rfl; (with_reducible repeat (first | refine blk_drewN ?_ _ | refine blk_drew ?_ | refine blk_alloc ?_ _)); exact BK417.out) hb); have n5_ := Aside0.mk (blk_below (g := gb418) (o := .cells #[.int .i64 t415, .int .i64 t416] 36 (0, 0)) (by (with_reducible repeat (first | refine blk_drewN ?_ _ | refine blk_drew ?_ | refine blk_alloc ?_ _)); refine blk_put (cs := #[.int .i64 t415, .int .i64 0]) ?_ 1 _ rfl; (with_reducible repeat (first | refine blk_drewN ?_ _ | refine blk_drew ?_ | refine blk_alloc ?_ _)); refine blk_put (cs := #[.int .i64 0, .int .i64 0]) ?_ 0 _ rfl; (with_reducible repeat (first | refine blk_drewN ?_ _ | refine blk_drew ?_ | refine blk_alloc ?_ _)); refine blk_far ?_ NB418_417.out _; (with_reducible repeat (first | refine blk_drewN ?_ _ | refine blk_drew ?_ | refine blk_alloc ?_ _)); refine blk_far ?_ NB418_417.out _; (with_reducible repeat (first | refine blk_drewN ?_ _ | refine blk_drew ?_ | refine blk_alloc ?_ _)); exact BK418.out) hb); have n6_ := Aside0.mk (below_step (by repeat (first | (with_reducible first | exact HB.out | apply below_alloc | apply pw_below_drewN | apply below_drew1 | refine below_set ?_ GE398.out | refine below_set ?_ GE399.out | refine below_set ?_ GE417.out | refine below_set ?_ GE418.out) | exact HB.out)) hb); clear HO_10; clear HO_12; clear BK398; clear BK399; clear BK417; clear BK418; clear HB; have HO_10 := n0_; have HO_12 := n1_; have BK398 := n2_; have BK399 := n3_; have BK417 := n4_; have BK418 := n5_; have HB := n6_; clear n0_ n1_ n2_ n3_ n4_ n5_ n6_; (try clear hb); (try clear hb2); (try clear hk); (try clear hi)) | ((with_reducible refine gate_dst (N := 18) rfl ?_); (try (refine gate_guard (by rfl) ?_; dsimp only)); refine box_event ?hg (N := 18) ?hd (cs := #[.int .i64 0, .int .i64 0]) (t := 23) ?hr ?_; (case hd => rfl); (case hg => rfl); (case hr => first | (go_simp; done) | (go_simp; rfl)); intro gb422 hg w126 hbox hb; have n0_ := Aside0.mk (Kd.R_below (by (with_reducible repeat (first | apply Kd.R_alloc | apply Kd.R_drewN | apply Kd.R_drew)); exact HO_10.out) hb); have n1_ := Aside0.mk (Kd.R_below (by (with_reducible repeat (first | apply Kd.R_alloc | apply Kd.R_drewN | apply Kd.R_drew)); exact HO_12.out) hb); have n2_ := Aside0.mk (blk_below (g := gb398) (o := .cells #[.int .i64 a0_0, .int .i64 a0_1] 23 (0, 0)) (by (with_reducible repeat (first | refine blk_drewN ?_ _ | refine blk_drew ?_ | refine blk_alloc ?_ _)); exact BK398.out) hb); have n3_ := Aside0.mk (blk_below (g := gb399) (o := .cells #[.int .i64 a1_0, .int .i64 a1_1] 23 (0, 0)) (by (with_reducible repeat (first | refine blk_drewN ?_ _ | refine blk_drew ?_ | refine blk_alloc ?_ _)); exact BK399.out) hb); have n4_ := Aside0.mk (blk_below (g := gb417) (o := .cells #[.int .i64 t413, .int .i64 t414] 23 (0, 0)) (by (with_reducible repeat (first | refine blk_drewN ?_ _ | refine blk_drew ?_ | refine blk_alloc ?_ _)); exact BK417.out) hb); have n5_ := Aside0.mk (blk_below (g := gb418) (o := .cells #[.int .i64 t415, .int .i64 t416] 36 (0, 0)) (by (with_reducible repeat (first | refine blk_drewN ?_ _ | refine blk_drew ?_ | refine blk_alloc ?_ _)); exact BK418.out) hb); have n6_ := Aside0.mk (below_step (by repeat (first | (with_reducible first | exact HB.out | apply below_alloc | apply pw_below_drewN | apply below_drew1 | refine below_set ?_ GE398.out | refine below_set ?_ GE399.out | refine below_set ?_ GE417.out | refine below_set ?_ GE418.out) | exact HB.out)) hb); have n7_ := Aside0.mk (hbox); have n8_ := Aside0.mk ((by rw [hg]; exact (below_size (by repeat (first | (with_reducible first | exact HB.out | apply below_alloc | apply pw_below_drewN | apply below_drew1 | refine below_set ?_ GE398.out | refine below_set ?_ GE399.out | refine below_set ?_ GE417.out | refine below_set ?_ GE418.out) | exact HB.out))) : w.heap.size ≤ gb422)); have n9_ := Aside0.mk ((by rw [hg]; exact (below_size (by repeat (first | (with_reducible first | exact HB.out | apply below_alloc | apply pw_below_drewN | apply below_drew1 | refine below_set ?_ GE398.out | refine below_set ?_ GE399.out | refine below_set ?_ GE417.out | refine below_set ?_ GE418.out) | exact HB.out))) : w.heap.size ≤ gb422)); have n10_ := Aside0.mk ((by rw [hg]; exact Nat.ne_of_lt (blk_lt (g := gb398) (o := .cells #[.int .i64 a0_0, .int .i64 a0_1] 23 (0, 0)) (by (with_reducible repeat (first | refine blk_drewN ?_ _ | refine blk_drew ?_ | refine blk_alloc ?_ _)); exact BK398.out)) : gb398 ≠ gb422)); have n11_ := Aside0.mk ((by rw [hg]; exact Nat.ne_of_gt (blk_lt (g := gb398) (o := .cells #[.int .i64 a0_0, .int .i64 a0_1] 23 (0, 0)) (by (with_reducible repeat (first | refine blk_drewN ?_ _ | refine blk_drew ?_ | refine blk_alloc ?_ _)); exact BK398.out)) : gb422 ≠ gb398)); have n12_ := Aside0.mk ((by rw [hg]; exact Nat.ne_of_lt (blk_lt (g := gb399) (o := .cells #[.int .i64 a1_0, .int .i64 a1_1] 23 (0, 0)) (by (with_reducible repeat (first | refine blk_drewN ?_ _ | refine blk_drew ?_ | refine blk_alloc ?_ _)); exact BK399.out)) : gb399 ≠ gb422)); have n13_ := Aside0.mk ((by rw [hg]; exact Nat.ne_of_gt (blk_lt (g := gb399) (o := .cells #[.int .i64 a1_0, .int .i64 a1_1] 23 (0, 0)) (by (with_reducible repeat (first | refine blk_drewN ?_ _ | refine blk_drew ?_ | refine blk_alloc ?_ _)); exact BK399.out)) : gb422 ≠ gb399)); have n14_ := Aside0.mk ((by rw [hg]; exact Nat.ne_of_lt (blk_lt (g := gb417) (o := .cells #[.int .i64 t413, .int .i64 t414] 23 (0, 0)) (by (with_reducible repeat (first | refine blk_drewN ?_ _ | refine blk_drew ?_ | refine blk_alloc ?_ _)); exact BK417.out)) : gb417 ≠ gb422)); have n15_ := Aside0.mk ((by rw [hg]; exact Nat.ne_of_gt (blk_lt (g := gb417) (o := .cells #[.int .i64 t413, .int .i64 t414] 23 (0, 0)) (by (with_reducible repeat (first | refine blk_drewN ?_ _ | refine blk_drew ?_ | refine blk_alloc ?_ _)); exact BK417.out)) : gb422 ≠ gb417)); have n16_ := Aside0.mk ((by rw [hg]; exact Nat.ne_of_lt (blk_lt (g := gb418) (o := .cells #[.int .i64 t415, .int .i64 t416] 36 (0, 0)) (by (with_reducible repeat (first | refine blk_drewN ?_ _ | refine blk_drew ?_ | refine blk_alloc ?_ _)); exact BK418.out)) : gb418 ≠ gb422)); have n17_ := Aside0.mk ((by rw [hg]; exact Nat.ne_of_gt (blk_lt (g := gb418) (o := .cells #[.int .i64 t415, .int .i64 t416] 36 (0, 0)) (by (with_reducible repeat (first | refine blk_drewN ?_ _ | refine blk_drew ?_ | refine blk_alloc ?_ _)); exact BK418.out)) : gb422 ≠ gb418)); clear HO_10; clear HO_12; clear BK398; clear BK399; clear BK417; clear BK418; clear HB; have HO_10 := n0_; have HO_12 := n1_; have BK398 := n2_; have BK399 := n3_; have BK417 := n4_; have BK418 := n5_; have HB := n6_; have BK422 := n7_; have GW422 := n8_; have GE422 := n9_; have NB398_422 := n10_; have NB422_398 := n11_; have NB399_422 := n12_; have NB422_399 := n13_; have NB417_422 := n14_; have NB422_417 := n15_; have NB418_422 := n16_; have NB422_418 := n17_; clear n0_ n1_ n2_ n3_ n4_ n5_ n6_ n7_ n8_ n9_ n10_ n11_ n12_ n13_ n14_ n15_ n16_ n17_; clear hb hbox hg; have hnb127 := NB422_398.out; have hnc127 := NB398_422.out; have hnb128 := NB422_399.out; have hnc128 := NB399_422.out; have hnb129 := NB422_417.out; have hnc129 := NB417_422.out; have hnb130 := NB422_418.out; have hnc130 := NB418_422.out; have hcz131_0 : w126.cell? ⟨gb422, 0, none⟩ = some (.int .i64 0) := (blk_cell BK422.out 0).trans rfl; have hcz131_1 : w126.cell? ⟨gb422, 1, none⟩ = some (.int .i64 0) := (blk_cell BK422.out 1).trans rfl; have hfz131_0 := blk_frozen BK422.out 0; have hfz131_1 := blk_frozen BK422.out 1))
               have n0_ : Aside0 (Kd.R (Kd.int .u8) 5 ((w126.setCell ⟨gb422, 0, none⟩ (.int .i64 t419)).setCell ⟨gb422, 1, none⟩ (.int .i64 t420)) w.heap.size (fun k_ => some k_ ≠ (v406 : Value).ownBlock) (.slice Ao114 t401.length co114) t401) := ⟨by (with_reducible repeat (first | apply Kd.R_alloc | apply Kd.R_drewN | apply Kd.R_drew)); exact Kd.R_mono (Kd.R_far (p := ⟨gb422, 1, none⟩) (Kd.R_far (p := ⟨gb422, 0, none⟩) (Kd.R_types HO_10.out BK422.out (by decide)) (fun _ hk => hk.2) (.int .i64 t419)) (fun _ hk => hk.2) (.int .i64 t420)) (fun _ hk => hk.1)⟩
               have n1_ : Aside0 (Kd.R (Kd.int .u8) 5 ((w126.setCell ⟨gb422, 0, none⟩ (.int .i64 t419)).setCell ⟨gb422, 1, none⟩ (.int .i64 t420)) w.heap.size (fun k_ => some k_ ≠ (.slice Ao114 t401.length co114 : Value).ownBlock) v406 t405) := ⟨by (with_reducible repeat (first | apply Kd.R_alloc | apply Kd.R_drewN | apply Kd.R_drew)); exact Kd.R_mono (Kd.R_far (p := ⟨gb422, 1, none⟩) (Kd.R_far (p := ⟨gb422, 0, none⟩) (Kd.R_types HO_12.out BK422.out (by decide)) (fun _ hk => hk.2) (.int .i64 t419)) (fun _ hk => hk.2) (.int .i64 t420)) (fun _ hk => hk.1)⟩
               have n2_ : Aside0 (((w126.setCell ⟨gb422, 0, none⟩ (.int .i64 t419)).setCell ⟨gb422, 1, none⟩ (.int .i64 t420)).heap[gb398]? = some (.cells #[.int .i64 a0_0, .int .i64 a0_1] 23 (0, 0))) := ⟨by (with_reducible repeat (first | refine blk_drewN ?_ _ | refine blk_drew ?_ | refine blk_alloc ?_ _)); refine blk_far ?_ NB398_422.out _; (with_reducible repeat (first | refine blk_drewN ?_ _ | refine blk_drew ?_ | refine blk_alloc ?_ _)); refine blk_far ?_ NB398_422.out _; (with_reducible repeat (first | refine blk_drewN ?_ _ | refine blk_drew ?_ | refine blk_alloc ?_ _)); exact BK398.out⟩
               have n3_ : Aside0 (((w126.setCell ⟨gb422, 0, none⟩ (.int .i64 t419)).setCell ⟨gb422, 1, none⟩ (.int .i64 t420)).heap[gb399]? = some (.cells #[.int .i64 a1_0, .int .i64 a1_1] 23 (0, 0))) := ⟨by (with_reducible repeat (first | refine blk_drewN ?_ _ | refine blk_drew ?_ | refine blk_alloc ?_ _)); refine blk_far ?_ NB399_422.out _; (with_reducible repeat (first | refine blk_drewN ?_ _ | refine blk_drew ?_ | refine blk_alloc ?_ _)); refine blk_far ?_ NB399_422.out _; (with_reducible repeat (first | refine blk_drewN ?_ _ | refine blk_drew ?_ | refine blk_alloc ?_ _)); exact BK399.out⟩
               have n4_ : Aside0 (((w126.setCell ⟨gb422, 0, none⟩ (.int .i64 t419)).setCell ⟨gb422, 1, none⟩ (.int .i64 t420)).heap[gb417]? = some (.cells #[.int .i64 t413, .int .i64 t414] 23 (0, 0))) := ⟨by (with_reducible repeat (first | refine blk_drewN ?_ _ | refine blk_drew ?_ | refine blk_alloc ?_ _)); refine blk_far ?_ NB417_422.out _; (with_reducible repeat (first | refine blk_drewN ?_ _ | refine blk_drew ?_ | refine blk_alloc ?_ _)); refine blk_far ?_ NB417_422.out _; (with_reducible repeat (first | refine blk_drewN ?_ _ | refine blk_drew ?_ | refine blk_alloc ?_ _)); exact BK417.out⟩
               have n5_ : Aside0 (((w126.setCell ⟨gb422, 0, none⟩ (.int .i64 t419)).setCell ⟨gb422, 1, none⟩ (.int .i64 t420)).heap[gb418]? = some (.cells #[.int .i64 t415, .int .i64 t416] 36 (0, 0))) := ⟨by (with_reducible repeat (first | refine blk_drewN ?_ _ | refine blk_drew ?_ | refine blk_alloc ?_ _)); refine blk_far ?_ NB418_422.out _; (with_reducible repeat (first | refine blk_drewN ?_ _ | refine blk_drew ?_ | refine blk_alloc ?_ _)); refine blk_far ?_ NB418_422.out _; (with_reducible repeat (first | refine blk_drewN ?_ _ | refine blk_drew ?_ | refine blk_alloc ?_ _)); exact BK418.out⟩
               have n6_ : Aside0 (((w126.setCell ⟨gb422, 0, none⟩ (.int .i64 t419)).setCell ⟨gb422, 1, none⟩ (.int .i64 t420)).heap[gb422]? = some (.cells #[.int .i64 t419, .int .i64 t420] 23 (0, 0))) := ⟨by (with_reducible repeat (first | refine blk_drewN ?_ _ | refine blk_drew ?_ | refine blk_alloc ?_ _)); refine blk_put (cs := #[.int .i64 t419, .int .i64 0]) ?_ 1 _ rfl; (with_reducible repeat (first | refine blk_drewN ?_ _ | refine blk_drew ?_ | refine blk_alloc ?_ _)); refine blk_put (cs := #[.int .i64 0, .int .i64 0]) ?_ 0 _ rfl; (with_reducible repeat (first | refine blk_drewN ?_ _ | refine blk_drew ?_ | refine blk_alloc ?_ _)); exact BK422.out⟩
               have n7_ : Aside0 (Below w.heap.size w ((w126.setCell ⟨gb422, 0, none⟩ (.int .i64 t419)).setCell ⟨gb422, 1, none⟩ (.int .i64 t420))) := ⟨by repeat (first | (with_reducible first | exact HB.out | apply below_alloc | apply pw_below_drewN | apply below_drew1 | refine below_set ?_ GE398.out | refine below_set ?_ GE399.out | refine below_set ?_ GE417.out | refine below_set ?_ GE418.out | refine below_set ?_ GE422.out) | exact HB.out)⟩
               (try clear HO_10)
               (try clear HO_12)
               (try clear BK398)
               (try clear BK399)
               (try clear BK417)
               (try clear BK418)
               (try clear BK422)
               (try clear HB)
               generalize ((w126.setCell ⟨gb422, 0, none⟩ (.int .i64 t419)).setCell ⟨gb422, 1, none⟩ (.int .i64 t420)) = w132 at n0_ n1_ n2_ n3_ n4_ n5_ n6_ n7_ ⊢
               have HO_10 := n0_
               have HO_12 := n1_
               have BK398 := n2_
               have BK399 := n3_
               have BK417 := n4_
               have BK418 := n5_
               have BK422 := n6_
               have HB := n7_
               clear n0_ n1_ n2_ n3_ n4_ n5_ n6_ n7_
               have n0_ := Aside0.mk (Kd.R_drew HO_10.out)
               have n1_ := Aside0.mk (Kd.R_drew HO_12.out)
               have n2_ := Aside0.mk (blk_drew BK398.out)
               have n3_ := Aside0.mk (blk_drew BK399.out)
               have n4_ := Aside0.mk (blk_drew BK417.out)
               have n5_ := Aside0.mk (blk_drew BK418.out)
               have n6_ := Aside0.mk (blk_drew BK422.out)
               have n7_ := Aside0.mk (below_drew1 HB.out)
               clear HO_10
               clear HO_12
               clear BK398
               clear BK399
               clear BK417
               clear BK418
               clear BK422
               clear HB
               have HO_10 := n0_
               have HO_12 := n1_
               have BK398 := n2_
               have BK399 := n3_
               have BK417 := n4_
               have BK418 := n5_
               have BK422 := n6_
               have HB := n7_
               clear n0_ n1_ n2_ n3_ n4_ n5_ n6_ n7_
               refine start_ (n := 32) (S := fun w' => w'.cell? ⟨gb418, 0, none⟩ = some (.int .i64 t415) ∧ w'.cell? ⟨gb418, 1, none⟩ = some (.int .i64 t416) ∧ w'.cell? ⟨gb417, 0, none⟩ = some (.int .i64 t413) ∧ w'.cell? ⟨gb417, 1, none⟩ = some (.int .i64 t414) ∧ w'.cell? ⟨gb398, 0, none⟩ = some (.int .i64 a0_0) ∧ w'.cell? ⟨gb398, 1, none⟩ = some (.int .i64 a0_1) ∧ w'.cell? ⟨gb422, 0, none⟩ = some (.int .i64 t419) ∧ w'.cell? ⟨gb422, 1, none⟩ = some (.int .i64 t420) ∧ w'.cell? ⟨gb399, 0, none⟩ = some (.int .i64 a1_0) ∧ w'.cell? ⟨gb399, 1, none⟩ = some (.int .i64 a1_1) ∧ (convert 31 9 (.slice Ao114 t401.length co114)).run Tryd.prog w' = .ok (.string (strOfNums t401)) w' ∧ (convert 31 9 v406).run Tryd.prog w' = .ok (.string (strOfNums t405)) w') (ds := []) #[false, false, false, false, false, false, false, false, false, false, false, false, false, false, false, false, false, false, false, false, false, false, false, false, false, false, false, false, false, false, false, false] (by kernel_rfl) rfl rfl ⟨(blk_cell BK418.out 0).trans rfl, (blk_cell BK418.out 1).trans rfl, (blk_cell BK417.out 0).trans rfl, (blk_cell BK417.out 1).trans rfl, (blk_cell BK398.out 0).trans rfl, (blk_cell BK398.out 1).trans rfl, (blk_cell BK422.out 0).trans rfl, (blk_cell BK422.out 1).trans rfl, (blk_cell BK399.out 0).trans rfl, (blk_cell BK399.out 1).trans rfl, own_string (P := Tryd.prog) Tryd.underlying31 Tryd.underlying5 Tryd.underlying9 (Kd.own_of_R HO_10.out), own_string (P := Tryd.prog) Tryd.underlying31 Tryd.underlying5 Tryd.underlying9 (Kd.own_of_R HO_12.out)⟩ (fun hHeld => ?_); refine with_tabW tributarylaw06_DotBack.tab12 tributarylaw06_DotBack.bits12 (fun HT_ HW_ => ?_)
               generalize w132.drew = w133 at HO_10 HO_12 BK398 BK399 BK417 BK418 BK422 HB hHeld ⊢
               refine pure_ (i := 0) (N := some 80) (v := ?_) (a' := ?_) #[true, false, false, false, false, false, false, false, false, false, false, false, false, false, false, false, false, false, false, false, false, false, false, false, false, false, false, false, false, false, false, false] rfl rfl (any_of HT_.out (by kernel_rfl)) (fun _ _ _ h => h) (Or.inl ⟨by rfl, ?_⟩) ?_ ?_
               rotate_left
               ·
                intro w'
                go_simp
                with_reducible rfl
               rotate_left
               ·
                simp only [Act.put, List.setIfInBounds_toArray, List.set_cons_zero, List.set_cons_succ, i64_w, i32_w]
                rfl
               refine take_ (i := 1) (N := some 81) (v := ?_) (a' := ?_) #[true, true, false, false, false, false, false, false, false, false, false, false, false, false, false, false, false, false, false, false, false, false, false, false, false, false, false, false, false, false, false, false] rfl rfl (take_ofW HT_.out HW_.out (by kernel_rfl)) (fun _ _ _ h => h) (Or.inl ⟨by rfl, ?_⟩) hHeld ?_ ?_
               rotate_left
               ·
                rintro w' ⟨s0, s1, s2, s3, s4, s5, s6, s7, s8, s9, s10, s11⟩
                go_simp
                with_reducible rfl
               rotate_left
               ·
                simp only [Act.put, List.setIfInBounds_toArray, List.set_cons_zero, List.set_cons_succ, i64_w, i32_w]
                rfl
               refine pure_ (i := 2) (N := some 82) (v := ?_) (a' := ?_) #[true, true, true, false, false, false, false, false, false, false, false, false, false, false, false, false, false, false, false, false, false, false, false, false, false, false, false, false, false, false, false, false] rfl rfl (any_of HT_.out (by kernel_rfl)) (fun _ _ _ h => h) (Or.inl ⟨by rfl, ?_⟩) ?_ ?_
               rotate_left
               ·
                intro w'
                go_simp
                with_reducible rfl
               rotate_left
               ·
                simp only [Act.put, List.setIfInBounds_toArray, List.set_cons_zero, List.set_cons_succ, i64_w, i32_w]
                rfl
               refine pure_ (i := 3) (N := some 83) (v := ?_) (a' := ?_) #[true, true, true, true, false, false, false, false, false, false, false, false, false, false, false, false, false, false, false, false, false, false, false, false, false, false, false, false, false, false, false, false] rfl rfl (any_of HT_.out (by kernel_rfl)) (fun _ _ _ h => h) (Or.inl ⟨by rfl, ?_⟩) ?_ ?_
               rotate_left
               ·
                intro w'
                go_simp
                with_reducible rfl
               rotate_left
               ·
                simp only [Act.put, List.setIfInBounds_toArray, List.set_cons_zero, List.set_cons_succ, i64_w, i32_w]
                rfl
               refine take_ (i := 4) (N := some 84) (v := ?_) (a' := ?_) #[true, true, true, true, true, false, false, false, false, false, false, false, false, false, false, false, false, false, false, false, false, false, false, false, false, false, false, false, false, false, false, false] rfl rfl (take_ofW HT_.out HW_.out (by kernel_rfl)) (fun _ _ _ h => h) (Or.inl ⟨by rfl, ?_⟩) hHeld ?_ ?_
               rotate_left
               ·
                rintro w' ⟨s0, s1, s2, s3, s4, s5, s6, s7, s8, s9, s10, s11⟩
                go_simp
                with_reducible rfl
               rotate_left
               ·
                simp only [Act.put, List.setIfInBounds_toArray, List.set_cons_zero, List.set_cons_succ, i64_w, i32_w]
                rfl
               refine take_ (i := 5) (N := some 85) (v := ?_) (a' := ?_) #[true, true, true, true, true, true, false, false, false, false, false, false, false, false, false, false, false, false, false, false, false, false, false, false, false, false, false, false, false, false, false, false] rfl rfl (take_ofW HT_.out HW_.out (by kernel_rfl)) (fun _ _ _ h => h) (Or.inl ⟨by rfl, ?_⟩) hHeld ?_ ?_
               rotate_left
               ·
                rintro w' ⟨s0, s1, s2, s3, s4, s5, s6, s7, s8, s9, s10, s11⟩
                go_simp
                with_reducible rfl
               rotate_left
               ·
                simp only [Act.put, List.setIfInBounds_toArray, List.set_cons_zero, List.set_cons_succ, i64_w, i32_w]
                rfl
               refine pure_ (i := 6) (N := some 86) (v := ?_) (a' := ?_) #[true, true, true, true, true, true, true, false, false, false, false, false, false, false, false, false, false, false, false, false, false, false, false, false, false, false, false, false, false, false, false, false] rfl rfl (any_of HT_.out (by kernel_rfl)) (fun _ _ _ h => h) (Or.inl ⟨by rfl, ?_⟩) ?_ ?_
               rotate_left
               ·
                intro w'
                go_simp
                with_reducible rfl
               rotate_left
               ·
                simp only [Act.put, List.setIfInBounds_toArray, List.set_cons_zero, List.set_cons_succ, i64_w, i32_w]
                rfl
               refine pure_ (i := 7) (N := some 87) (v := ?_) (a' := ?_) #[true, true, true, true, true, true, true, true, false, false, false, false, false, false, false, false, false, false, false, false, false, false, false, false, false, false, false, false, false, false, false, false] rfl rfl (any_of HT_.out (by kernel_rfl)) (fun _ _ _ h => h) (Or.inl ⟨by rfl, ?_⟩) ?_ ?_
               rotate_left
               ·
                intro w'
                go_simp
                with_reducible rfl
               rotate_left
               ·
                simp only [Act.put, List.setIfInBounds_toArray, List.set_cons_zero, List.set_cons_succ, i64_w, i32_w]
                rfl
               refine pure_ (i := 8) (N := some 88) (v := ?_) (a' := ?_) #[true, true, true, true, true, true, true, true, true, false, false, false, false, false, false, false, false, false, false, false, false, false, false, false, false, false, false, false, false, false, false, false] rfl rfl (any_of HT_.out (by kernel_rfl)) (fun _ _ _ h => h) (Or.inl ⟨by rfl, ?_⟩) ?_ ?_
               rotate_left
               ·
                intro w'
                go_simp
                with_reducible rfl
               rotate_left
               ·
                simp only [Act.put, List.setIfInBounds_toArray, List.set_cons_zero, List.set_cons_succ, i64_w, i32_w]
                rfl
               refine pure_ (i := 9) (N := some 89) (v := ?_) (a' := ?_) #[true, true, true, true, true, true, true, true, true, true, false, false, false, false, false, false, false, false, false, false, false, false, false, false, false, false, false, false, false, false, false, false] rfl rfl (any_of HT_.out (by kernel_rfl)) (fun _ _ _ h => h) (Or.inl ⟨by rfl, ?_⟩) ?_ ?_
               rotate_left
               ·
                intro w'
                go_simp
                with_reducible rfl
               rotate_left
               ·
                simp only [Act.put, List.setIfInBounds_toArray, List.set_cons_zero, List.set_cons_succ, i64_w, i32_w]
                rfl
               refine pure_ (i := 10) (N := some 90) (v := ?_) (a' := ?_) #[true, true, true, true, true, true, true, true, true, true, true, false, false, false, false, false, false, false, false, false, false, false, false, false, false, false, false, false, false, false, false, false] rfl rfl (any_of HT_.out (by kernel_rfl)) (fun _ _ _ h => h) (Or.inl ⟨by rfl, ?_⟩) ?_ ?_
               rotate_left
               ·
                intro w'
                go_simp
                with_reducible rfl
               rotate_left
               ·
                simp only [Act.put, List.setIfInBounds_toArray, List.set_cons_zero, List.set_cons_succ, i64_w, i32_w]
                rfl
               refine pure_ (i := 11) (N := some 91) (v := ?_) (a' := ?_) #[true, true, true, true, true, true, true, true, true, true, true, true, false, false, false, false, false, false, false, false, false, false, false, false, false, false, false, false, false, false, false, false] rfl rfl (any_of HT_.out (by kernel_rfl)) (fun _ _ _ h => h) (Or.inl ⟨by rfl, ?_⟩) ?_ ?_
               rotate_left
               ·
                intro w'
                go_simp
                with_reducible rfl
               rotate_left
               ·
                simp only [Act.put, List.setIfInBounds_toArray, List.set_cons_zero, List.set_cons_succ, i64_w, i32_w]
                rfl
               refine pure_ (i := 12) (N := some 92) (v := ?_) (a' := ?_) #[true, true, true, true, true, true, true, true, true, true, true, true, true, false, false, false, false, false, false, false, false, false, false, false, false, false, false, false, false, false, false, false] rfl rfl (any_of HT_.out (by kernel_rfl)) (fun _ _ _ h => h) (Or.inl ⟨by rfl, ?_⟩) ?_ ?_
               rotate_left
               ·
                intro w'
                go_simp
                with_reducible rfl
               rotate_left
               ·
                simp only [Act.put, List.setIfInBounds_toArray, List.set_cons_zero, List.set_cons_succ, i64_w, i32_w]
                rfl
               refine take_ (i := 13) (N := some 93) (v := ?_) (a' := ?_) #[true, true, true, true, true, true, true, true, true, true, true, true, true, true, false, false, false, false, false, false, false, false, false, false, false, false, false, false, false, false, false, false] rfl rfl (take_ofW HT_.out HW_.out (by kernel_rfl)) (fun _ _ _ h => h) (Or.inl ⟨by rfl, ?_⟩) hHeld ?_ ?_
               rotate_left
               ·
                rintro w' ⟨s0, s1, s2, s3, s4, s5, s6, s7, s8, s9, s10, s11⟩
                go_simp
                with_reducible rfl
               rotate_left
               ·
                simp only [Act.put, List.setIfInBounds_toArray, List.set_cons_zero, List.set_cons_succ, i64_w, i32_w]
                rfl
               refine take_ (i := 14) (N := some 94) (v := ?_) (a' := ?_) #[true, true, true, true, true, true, true, true, true, true, true, true, true, true, true, false, false, false, false, false, false, false, false, false, false, false, false, false, false, false, false, false] rfl rfl (take_ofW HT_.out HW_.out (by kernel_rfl)) (fun _ _ _ h => h) (Or.inl ⟨by rfl, ?_⟩) hHeld ?_ ?_
               rotate_left
               ·
                rintro w' ⟨s0, s1, s2, s3, s4, s5, s6, s7, s8, s9, s10, s11⟩
                go_simp
                with_reducible rfl
               rotate_left
               ·
                simp only [Act.put, List.setIfInBounds_toArray, List.set_cons_zero, List.set_cons_succ, i64_w, i32_w]
                rfl
               refine pure_ (i := 15) (N := some 95) (v := ?_) (a' := ?_) #[true, true, true, true, true, true, true, true, true, true, true, true, true, true, true, true, false, false, false, false, false, false, false, false, false, false, false, false, false, false, false, false] rfl rfl (any_of HT_.out (by kernel_rfl)) (fun _ _ _ h => h) (Or.inl ⟨by rfl, ?_⟩) ?_ ?_
               rotate_left
               ·
                intro w'
                go_simp
                with_reducible rfl
               rotate_left
               ·
                simp only [Act.put, List.setIfInBounds_toArray, List.set_cons_zero, List.set_cons_succ, i64_w, i32_w]
                rfl
               refine pure_ (i := 16) (N := some 96) (v := ?_) (a' := ?_) #[true, true, true, true, true, true, true, true, true, true, true, true, true, true, true, true, true, false, false, false, false, false, false, false, false, false, false, false, false, false, false, false] rfl rfl (any_of HT_.out (by kernel_rfl)) (fun _ _ _ h => h) (Or.inl ⟨by rfl, ?_⟩) ?_ ?_
               rotate_left
               ·
                intro w'
                go_simp
                with_reducible rfl
               rotate_left
               ·
                simp only [Act.put, List.setIfInBounds_toArray, List.set_cons_zero, List.set_cons_succ, i64_w, i32_w]
                rfl
               refine pure_ (i := 17) (N := some 97) (v := ?_) (a' := ?_) #[true, true, true, true, true, true, true, true, true, true, true, true, true, true, true, true, true, true, false, false, false, false, false, false, false, false, false, false, false, false, false, false] rfl rfl (any_of HT_.out (by kernel_rfl)) (fun _ _ _ h => h) (Or.inl ⟨by rfl, ?_⟩) ?_ ?_
               rotate_left
               ·
                intro w'
                go_simp
                with_reducible rfl
               rotate_left
               ·
                simp only [Act.put, List.setIfInBounds_toArray, List.set_cons_zero, List.set_cons_succ, i64_w, i32_w]
                rfl
               refine pure_ (i := 18) (N := some 98) (v := ?_) (a' := ?_) #[true, true, true, true, true, true, true, true, true, true, true, true, true, true, true, true, true, true, true, false, false, false, false, false, false, false, false, false, false, false, false, false] rfl rfl (any_of HT_.out (by kernel_rfl)) (fun _ _ _ h => h) (Or.inl ⟨by rfl, ?_⟩) ?_ ?_
               rotate_left
               ·
                intro w'
                go_simp
                with_reducible rfl
               rotate_left
               ·
                simp only [Act.put, List.setIfInBounds_toArray, List.set_cons_zero, List.set_cons_succ, i64_w, i32_w]
                rfl
               refine pure_ (i := 19) (N := some 99) (v := ?_) (a' := ?_) #[true, true, true, true, true, true, true, true, true, true, true, true, true, true, true, true, true, true, true, true, false, false, false, false, false, false, false, false, false, false, false, false] rfl rfl (any_of HT_.out (by kernel_rfl)) (fun _ _ _ h => h) (Or.inl ⟨by rfl, ?_⟩) ?_ ?_
               rotate_left
               ·
                intro w'
                go_simp
                with_reducible rfl
               rotate_left
               ·
                simp only [Act.put, List.setIfInBounds_toArray, List.set_cons_zero, List.set_cons_succ, i64_w, i32_w]
                rfl
               refine pure_ (i := 20) (N := some 100) (v := ?_) (a' := ?_) #[true, true, true, true, true, true, true, true, true, true, true, true, true, true, true, true, true, true, true, true, true, false, false, false, false, false, false, false, false, false, false, false] rfl rfl (any_of HT_.out (by kernel_rfl)) (fun _ _ _ h => h) (Or.inl ⟨by rfl, ?_⟩) ?_ ?_
               rotate_left
               ·
                intro w'
                go_simp
                with_reducible rfl
               rotate_left
               ·
                simp only [Act.put, List.setIfInBounds_toArray, List.set_cons_zero, List.set_cons_succ, i64_w, i32_w]
                rfl
               refine pure_ (i := 24) (N := some 104) (v := ?_) (a' := ?_) #[true, true, true, true, true, true, true, true, true, true, true, true, true, true, true, true, true, true, true, true, true, false, false, false, true, false, false, false, false, false, false, false] rfl rfl (any_of HT_.out (by kernel_rfl)) (fun _ _ _ h => h) (Or.inl ⟨by rfl, ?_⟩) ?_ ?_
               rotate_left
               ·
                intro w'
                go_simp
                with_reducible rfl
               rotate_left
               ·
                simp only [Act.put, List.setIfInBounds_toArray, List.set_cons_zero, List.set_cons_succ, i64_w, i32_w]
                rfl
               refine take_ (i := 25) (N := some 105) (v := ?_) (a' := ?_) #[true, true, true, true, true, true, true, true, true, true, true, true, true, true, true, true, true, true, true, true, true, false, false, false, true, true, false, false, false, false, false, false] rfl rfl (take_ofW HT_.out HW_.out (by kernel_rfl)) (fun _ _ _ h => h) (Or.inl ⟨by rfl, ?_⟩) hHeld ?_ ?_
               rotate_left
               ·
                rintro w' ⟨s0, s1, s2, s3, s4, s5, s6, s7, s8, s9, s10, s11⟩
                go_simp
                with_reducible rfl
               rotate_left
               ·
                simp only [Act.put, List.setIfInBounds_toArray, List.set_cons_zero, List.set_cons_succ, i64_w, i32_w]
                rfl
               refine pure_ (i := 26) (N := some 106) (v := ?_) (a' := ?_) #[true, true, true, true, true, true, true, true, true, true, true, true, true, true, true, true, true, true, true, true, true, false, false, false, true, true, true, false, false, false, false, false] rfl rfl (any_of HT_.out (by kernel_rfl)) (fun _ _ _ h => h) (Or.inl ⟨by rfl, ?_⟩) ?_ ?_
               rotate_left
               ·
                intro w'
                go_simp
                with_reducible rfl
               rotate_left
               ·
                simp only [Act.put, List.setIfInBounds_toArray, List.set_cons_zero, List.set_cons_succ, i64_w, i32_w]
                rfl
               refine take_ (i := 27) (N := some 107) (v := ?_) (a' := ?_) #[true, true, true, true, true, true, true, true, true, true, true, true, true, true, true, true, true, true, true, true, true, false, false, false, true, true, true, true, false, false, false, false] rfl rfl (take_ofW HT_.out HW_.out (by kernel_rfl)) (fun _ _ _ h => h) (Or.inl ⟨by rfl, ?_⟩) hHeld ?_ ?_
               rotate_left
               ·
                rintro w' ⟨s0, s1, s2, s3, s4, s5, s6, s7, s8, s9, s10, s11⟩
                go_simp
                with_reducible rfl
               rotate_left
               ·
                simp only [Act.put, List.setIfInBounds_toArray, List.set_cons_zero, List.set_cons_succ, i64_w, i32_w]
                rfl
               refine pure_ (i := 28) (N := some 108) (v := ?_) (a' := ?_) #[true, true, true, true, true, true, true, true, true, true, true, true, true, true, true, true, true, true, true, true, true, false, false, false, true, true, true, true, true, false, false, false] rfl rfl (any_of HT_.out (by kernel_rfl)) (fun _ _ _ h => h) (Or.inl ⟨by rfl, ?_⟩) ?_ ?_
               rotate_left
               ·
                intro w'
                go_simp
                with_reducible rfl
               rotate_left
               ·
                simp only [Act.put, List.setIfInBounds_toArray, List.set_cons_zero, List.set_cons_succ, i64_w, i32_w]
                rfl
               refine take_ (i := 21) (N := some 101) (v := ?_) (a' := ?_) #[true, true, true, true, true, true, true, true, true, true, true, true, true, true, true, true, true, true, true, true, true, true, false, false, true, true, true, true, true, false, false, false] rfl rfl (take_ofW HT_.out HW_.out (by kernel_rfl)) (fun _ _ _ h => h) (Or.inl ⟨by rfl, ?_⟩) hHeld ?_ ?_
               rotate_left
               ·
                rintro w' ⟨s0, s1, s2, s3, s4, s5, s6, s7, s8, s9, s10, s11⟩
                go_simp
                with_reducible rfl
               rotate_left
               ·
                simp only [Act.put, List.setIfInBounds_toArray, List.set_cons_zero, List.set_cons_succ, i64_w, i32_w]
                rfl
               refine take_ (i := 22) (N := some 102) (v := ?_) (a' := ?_) #[true, true, true, true, true, true, true, true, true, true, true, true, true, true, true, true, true, true, true, true, true, true, true, false, true, true, true, true, true, false, false, false] rfl rfl (take_ofW HT_.out HW_.out (by kernel_rfl)) (fun _ _ _ h => h) (Or.inl ⟨by rfl, ?_⟩) hHeld ?_ ?_
               rotate_left
               ·
                rintro w' ⟨s0, s1, s2, s3, s4, s5, s6, s7, s8, s9, s10, s11⟩
                go_simp
                with_reducible rfl
               rotate_left
               ·
                simp only [Act.put, List.setIfInBounds_toArray, List.set_cons_zero, List.set_cons_succ, i64_w, i32_w]
                rfl
               refine one_ (i := 23) (N := some 103) #[true, true, true, true, true, true, true, true, true, true, true, true, true, true, true, true, true, true, true, true, true, true, true, true, true, true, true, true, true, false, false, false] rfl rfl (one_of HT_.out (by kernel_rfl)) (by decide) (fun K hK => ?_)
               refine goes_ Tryd.func22 (by kernel_rfl) rfl #[.agg #[.int .i64 a0_0, .int .i64 a0_1], .agg #[.int .i64 a1_0, .int .i64 a1_1]] (by rfl) rfl rfl (by (try simp only [List.map_toArray, List.map_cons, List.map_nil]); first | done | rfl | (simp only [List.length_drop, List.length_take]; rfl)) ?_
               with_reducible refine (dot_Less.calls kj14 a0_0 a0_1 a1_0 a1_1 t423 _ A88.out).mono ?_
               rintro e w134 ⟨rfl, hb⟩
               refine ⟨_, rfl, ?_⟩
               have n0_ := Aside0.mk (Kd.R_below (by (with_reducible repeat (first | apply Kd.R_alloc | apply Kd.R_drewN | apply Kd.R_drew)); exact HO_10.out) hb)
               have n1_ := Aside0.mk (Kd.R_below (by (with_reducible repeat (first | apply Kd.R_alloc | apply Kd.R_drewN | apply Kd.R_drew)); exact HO_12.out) hb)
               have n2_ := Aside0.mk (blk_below (g := gb398) (o := .cells #[.int .i64 a0_0, .int .i64 a0_1] 23 (0, 0)) (by (with_reducible repeat (first | refine blk_drewN ?_ _ | refine blk_drew ?_ | refine blk_alloc ?_ _)); exact BK398.out) hb)
               have n3_ := Aside0.mk (blk_below (g := gb399) (o := .cells #[.int .i64 a1_0, .int .i64 a1_1] 23 (0, 0)) (by (with_reducible repeat (first | refine blk_drewN ?_ _ | refine blk_drew ?_ | refine blk_alloc ?_ _)); exact BK399.out) hb)
               have n4_ := Aside0.mk (blk_below (g := gb417) (o := .cells #[.int .i64 t413, .int .i64 t414] 23 (0, 0)) (by (with_reducible repeat (first | refine blk_drewN ?_ _ | refine blk_drew ?_ | refine blk_alloc ?_ _)); exact BK417.out) hb)
               have n5_ := Aside0.mk (blk_below (g := gb418) (o := .cells #[.int .i64 t415, .int .i64 t416] 36 (0, 0)) (by (with_reducible repeat (first | refine blk_drewN ?_ _ | refine blk_drew ?_ | refine blk_alloc ?_ _)); exact BK418.out) hb)
               have n6_ := Aside0.mk (blk_below (g := gb422) (o := .cells #[.int .i64 t419, .int .i64 t420] 23 (0, 0)) (by (with_reducible repeat (first | refine blk_drewN ?_ _ | refine blk_drew ?_ | refine blk_alloc ?_ _)); exact BK422.out) hb)
               have n7_ := Aside0.mk (below_step (by repeat (first | (with_reducible first | exact HB.out | apply below_alloc | apply pw_below_drewN | apply below_drew1 | refine below_set ?_ GE398.out | refine below_set ?_ GE399.out | refine below_set ?_ GE417.out | refine below_set ?_ GE418.out | refine below_set ?_ GE422.out) | exact HB.out)) hb)
               clear HO_10
               clear HO_12
               clear BK398
               clear BK399
               clear BK417
               clear BK418
               clear BK422
               clear HB
               have HO_10 := n0_
               have HO_12 := n1_
               have BK398 := n2_
               have BK399 := n3_
               have BK417 := n4_
               have BK418 := n5_
               have BK422 := n6_
               have HB := n7_
               clear n0_ n1_ n2_ n3_ n4_ n5_ n6_ n7_
               (try clear hb)
               (try clear hb2)
               (try clear hk)
               (try clear hi)
               have hcv135 := own_string (P := Tryd.prog) Tryd.underlying31 Tryd.underlying5 Tryd.underlying9 (Kd.own_of_R HO_10.out)
               have hcv136 := own_string (P := Tryd.prog) Tryd.underlying31 Tryd.underlying5 Tryd.underlying9 (Kd.own_of_R HO_12.out)
               refine hK.out _ _ ⟨(blk_cell BK418.out 0).trans rfl, (blk_cell BK418.out 1).trans rfl, (blk_cell BK417.out 0).trans rfl, (blk_cell BK417.out 1).trans rfl, (blk_cell BK398.out 0).trans rfl, (blk_cell BK398.out 1).trans rfl, (blk_cell BK422.out 0).trans rfl, (blk_cell BK422.out 1).trans rfl, (blk_cell BK399.out 0).trans rfl, (blk_cell BK399.out 1).trans rfl, hcv135, hcv136⟩ (fun hHeld => ?_)
               clear hK K
               refine norm_ (a' := ?_) ?_ ?_
               rotate_left
               ·
                show Act.put _ (some 103) _ = _
                simp only [Act.put, List.setIfInBounds_toArray, List.set_cons_zero, List.set_cons_succ, i64_w, i32_w]
                rfl
               refine pure_ (i := 29) (N := some 109) (v := ?_) (a' := ?_) #[true, true, true, true, true, true, true, true, true, true, true, true, true, true, true, true, true, true, true, true, true, true, true, true, true, true, true, true, true, true, false, false] rfl rfl (any_of HT_.out (by kernel_rfl)) (fun _ _ _ h => h) (Or.inl ⟨by rfl, ?_⟩) ?_ ?_
               rotate_left
               ·
                intro w'
                go_simp
                with_reducible rfl
               rotate_left
               ·
                simp only [Act.put, List.setIfInBounds_toArray, List.set_cons_zero, List.set_cons_succ, i64_w, i32_w]
                rfl
               refine pure_ (i := 30) (N := some 110) (v := ?_) (a' := ?_) #[true, true, true, true, true, true, true, true, true, true, true, true, true, true, true, true, true, true, true, true, true, true, true, true, true, true, true, true, true, true, true, false] rfl rfl (any_of HT_.out (by kernel_rfl)) (fun _ _ _ h => h) (Or.inl ⟨by rfl, ?_⟩) ?_ ?_
               rotate_left
               ·
                intro w'
                go_simp
                with_reducible rfl
               rotate_left
               ·
                simp only [Act.put, List.setIfInBounds_toArray, List.set_cons_zero, List.set_cons_succ, i64_w, i32_w]
                rfl
               refine pure_ (i := 31) (N := some 111) (v := ?_) (a' := ?_) #[true, true, true, true, true, true, true, true, true, true, true, true, true, true, true, true, true, true, true, true, true, true, true, true, true, true, true, true, true, true, true, true] rfl rfl (any_of HT_.out (by kernel_rfl)) (fun _ _ _ h => h) (Or.inl ⟨by rfl, ?_⟩) ?_ ?_
               rotate_left
               ·
                intro w'
                go_simp
                with_reducible rfl
               rotate_left
               ·
                simp only [Act.put, List.setIfInBounds_toArray, List.set_cons_zero, List.set_cons_succ, i64_w, i32_w]
                rfl
               refine done_ (done_of HT_.out (by kernel_rfl)) ?_
               try go_wp2
               go_meet
               case rel => exact ⟨_, H', ⟨by have := HJ5.out; have := HJ14.out; first | omega | exact Nat.le_refl _⟩, ⟨by (with_reducible repeat (first | refine blk_drewN ?_ _ | refine blk_drew ?_ | refine blk_alloc ?_ _)); exact BK398.out⟩, ⟨by (with_reducible repeat (first | refine blk_drewN ?_ _ | refine blk_drew ?_ | refine blk_alloc ?_ _)); exact BK399.out⟩, ⟨by repeat (first | (with_reducible first | exact HB.out | apply below_alloc | apply pw_below_drewN | apply below_drew1 | refine below_set ?_ GE398.out | refine below_set ?_ GE399.out | refine below_set ?_ GE417.out | refine below_set ?_ GE418.out | refine below_set ?_ GE422.out) | exact HB.out)⟩⟩
             ·
              rw [if_neg c87] at H
              have c87b0 : (t408 == 0) = false := beq_eq_false_iff_ne.mpr c87
              have c87b1 : (t408 != 0) = true := bne_iff_ne.mpr c87
              have H' := Aside0.mk H
              clear H
              obtain ⟨Ao138, co138, eo138⟩ := Kd.R_slice HO_10.out
              subst eo138
              try go_wp2_with (first | ((with_reducible refine gate_callee (f := 17) rfl ?_); refine goesL_ (some 72) rfl rfl Tryd.func17 (by kernel_rfl) rfl #[.slice Ao138 t401.length co138] rfl (by (try simp only [List.map_toArray, List.map_cons, List.map_nil]); first | done | rfl | (simp only [List.length_drop, List.length_take]; rfl)) ?_; (with_reducible refine (dot_Read.calls _ _ t401 t413 t414 t415 t416 _ ?side1 ?side2 A41.out).mono ?_); (case side1 => repeat (first | exact (Kd.R_reads' HO_10.out).2.2 | (with_reducible refine Kd.C_alloc ?_ _) | (with_reducible refine Kd.C_drewN ?_ _) | (with_reducible refine Kd.C_drew ?_))); (case side2 => exact (Kd.R_reads' HO_10.out).2.1); rintro e w139 ⟨rfl, hb⟩; refine ⟨_, rfl, ?_⟩; have n0_ := Aside0.mk (Kd.R_below (by (with_reducible repeat (first | apply Kd.R_alloc | apply Kd.R_drewN | apply Kd.R_drew)); exact HO_10.out) hb); have n1_ := Aside0.mk (Kd.R_below (by (with_reducible repeat (first | apply Kd.R_alloc | apply Kd.R_drewN | apply Kd.R_drew)); exact HO_12.out) hb); have n2_ := Aside0.mk (blk_below (g := gb398) (o := .cells #[.int .i64 a0_0, .int .i64 a0_1] 23 (0, 0)) (by (with_reducible repeat (first | refine blk_drewN ?_ _ | refine blk_drew ?_ | refine blk_alloc ?_ _)); exact BK398.out) hb); have n3_ := Aside0.mk (blk_below (g := gb399) (o := .cells #[.int .i64 a1_0, .int .i64 a1_1] 23 (0, 0)) (by (with_reducible repeat (first | refine blk_drewN ?_ _ | refine blk_drew ?_ | refine blk_alloc ?_ _)); exact BK399.out) hb); have n4_ := Aside0.mk (below_step (by repeat (first | (with_reducible first | exact HB.out | apply below_alloc | apply pw_below_drewN | apply below_drew1 | refine below_set ?_ GE398.out | refine below_set ?_ GE399.out) | exact HB.out)) hb); clear HO_10; clear HO_12; clear BK398; clear BK399; clear HB; have HO_10 := n0_; have HO_12 := n1_; have BK398 := n2_; have BK399 := n3_; have HB := n4_; clear n0_ n1_ n2_ n3_ n4_; (try clear hb); (try clear hb2); (try clear hk); (try clear hi)) | ((with_reducible refine gate_dst (N := 16) rfl ?_); (try (refine gate_guard (by rfl) ?_; dsimp only)); refine box_event ?hg (N := 16) ?hd (cs := #[.int .i64 0, .int .i64 0]) (t := 23) ?hr ?_; (case hd => rfl); (case hg => rfl); (case hr => first | (go_simp; done) | (go_simp; rfl)); intro gb417 hg w140 hbox hb; have n0_ := Aside0.mk (Kd.R_below (by (with_reducible repeat (first | apply Kd.R_alloc | apply Kd.R_drewN | apply Kd.R_drew)); exact HO_10.out) hb); have n1_ := Aside0.mk (Kd.R_below (by (with_reducible repeat (first | apply Kd.R_alloc | apply Kd.R_drewN | apply Kd.R_drew)); exact HO_12.out) hb); have n2_ := Aside0.mk (blk_below (g := gb398) (o := .cells #[.int .i64 a0_0, .int .i64 a0_1] 23 (0, 0)) (by (with_reducible repeat (first | refine blk_drewN ?_ _ | refine blk_drew ?_ | refine blk_alloc ?_ _)); exact BK398.out) hb); have n3_ := Aside0.mk (blk_below (g := gb399) (o := .cells #[.int .i64 a1_0, .int .i64 a1_1] 23 (0, 0)) (by (with_reducible repeat (first | refine blk_drewN ?_ _ | refine blk_drew ?_ | refine blk_alloc ?_ _)); exact BK399.out) hb); have n4_ := Aside0.mk (below_step (by repeat (first | (with_reducible first | exact HB.out | apply below_alloc | apply pw_below_drewN | apply below_drew1 | refine below_set ?_ GE398.out | refine below_set ?_ GE399.out) | exact HB.out)) hb); have n5_ := Aside0.mk (hbox); have n6_ := Aside0.mk ((by rw [hg]; exact (below_size (by repeat (first | (with_reducible first | exact HB.out | apply below_alloc | apply pw_below_drewN | apply below_drew1 | refine below_set ?_ GE398.out | refine below_set ?_ GE399.out) | exact HB.out))) : w.heap.size ≤ gb417)); have n7_ := Aside0.mk ((by rw [hg]; exact (below_size (by repeat (first | (with_reducible first | exact HB.out | apply below_alloc | apply pw_below_drewN | apply below_drew1 | refine below_set ?_ GE398.out | refine below_set ?_ GE399.out) | exact HB.out))) : w.heap.size ≤ gb417)); have n8_ := Aside0.mk ((by rw [hg]; exact Nat.ne_of_lt (blk_lt (g := gb398) (o := .cells #[.int .i64 a0_0, .int .i64 a0_1] 23 (0, 0)) (by (with_reducible repeat (first | refine blk_drewN ?_ _ | refine blk_drew ?_ | refine blk_alloc ?_ _)); exact BK398.out)) : gb398 ≠ gb417)); have n9_ := Aside0.mk ((by rw [hg]; exact Nat.ne_of_gt (blk_lt (g := gb398) (o := .cells #[.int .i64 a0_0, .int .i64 a0_1] 23 (0, 0)) (by (with_reducible repeat (first | refine blk_drewN ?_ _ | refine blk_drew ?_ | refine blk_alloc ?_ _)); exact BK398.out)) : gb417 ≠ gb398)); have n10_ := Aside0.mk ((by rw [hg]; exact Nat.ne_of_lt (blk_lt (g := gb399) (o := .cells #[.int .i64 a1_0, .int .i64 a1_1] 23 (0, 0)) (by (with_reducible repeat (first | refine blk_drewN ?_ _ | refine blk_drew ?_ | refine blk_alloc ?_ _)); exact BK399.out)) : gb399 ≠ gb417)); have n11_ := Aside0.mk ((by rw [hg]; exact Nat.ne_of_gt (blk_lt (g := gb399) (o := .cells #[.int .i64 a1_0, .int .i64 a1_1] 23 (0, 0)) (by (with_reducible repeat (first | refine blk_drewN ?_ _ | refine blk_drew ?_ | refine blk_alloc ?_ _)); exact BK399.out)) : gb417 ≠ gb399)); clear HO_10; clear HO_12; clear BK398; clear BK399; clear HB; have HO_10 := n0_; have HO_12 := n1_; have BK398 := n2_; have BK399 := n3_; have HB := n4_; have BK417 := n5_; have GW417 := n6_; have GE417 := n7_; have NB398_417 := n8_; have NB417_398 := n9_; have NB399_417 := n10_; have NB417_399 := n11_; clear n0_ n1_ n2_ n3_ n4_ n5_ n6_ n7_ n8_ n9_ n10_ n11_; clear hb hbox hg) | ((with_reducible refine gate_dst (N := 17) rfl ?_); (try (refine gate_guard (by rfl) ?_; dsimp only)); refine box_event ?hg (N := 17) ?hd (cs := #[.int .i64 0, .int .i64 0]) (t := 36) ?hr ?_; (case hd => rfl); (case hg => rfl); (case hr => first | (go_simp; done) | (go_simp; rfl)); intro gb418 hg w141 hbox hb; have n0_ := Aside0.mk (Kd.R_below (by (with_reducible repeat (first | apply Kd.R_alloc | apply Kd.R_drewN | apply Kd.R_drew)); exact HO_10.out) hb); have n1_ := Aside0.mk (Kd.R_below (by (with_reducible repeat (first | apply Kd.R_alloc | apply Kd.R_drewN | apply Kd.R_drew)); exact HO_12.out) hb); have n2_ := Aside0.mk (blk_below (g := gb398) (o := .cells #[.int .i64 a0_0, .int .i64 a0_1] 23 (0, 0)) (by (with_reducible repeat (first | refine blk_drewN ?_ _ | refine blk_drew ?_ | refine blk_alloc ?_ _)); exact BK398.out) hb); have n3_ := Aside0.mk (blk_below (g := gb399) (o := .cells #[.int .i64 a1_0, .int .i64 a1_1] 23 (0, 0)) (by (with_reducible repeat (first | refine blk_drewN ?_ _ | refine blk_drew ?_ | refine blk_alloc ?_ _)); exact BK399.out) hb); have n4_ := Aside0.mk (blk_below (g := gb417) (o := .cells #[.int .i64 0, .int .i64 0] 23 (0, 0)) (by (with_reducible repeat (first | refine blk_drewN ?_ _ | refine blk_drew ?_ | refine blk_alloc ?_ _)); exact BK417.out) hb); have n5_ := Aside0.mk (below_step (by repeat (first | (with_reducible first | exact HB.out | apply below_alloc | apply pw_below_drewN | apply below_drew1 | refine below_set ?_ GE398.out | refine below_set ?_ GE399.out | refine below_set ?_ GE417.out) | exact HB.out)) hb); have n6_ := Aside0.mk (hbox); have n7_ := Aside0.mk ((by rw [hg]; exact (below_size (by repeat (first | (with_reducible first | exact HB.out | apply below_alloc | apply pw_below_drewN | apply below_drew1 | refine below_set ?_ GE398.out | refine below_set ?_ GE399.out | refine below_set ?_ GE417.out) | exact HB.out))) : w.heap.size ≤ gb418)); have n8_ := Aside0.mk ((by rw [hg]; exact (below_size (by repeat (first | (with_reducible first | exact HB.out | apply below_alloc | apply pw_below_drewN | apply below_drew1 | refine below_set ?_ GE398.out | refine below_set ?_ GE399.out | refine below_set ?_ GE417.out) | exact HB.out))) : w.heap.size ≤ gb418)); have n9_ := Aside0.mk ((by rw [hg]; exact Nat.ne_of_lt (blk_lt (g := gb398) (o := .cells #[.int .i64 a0_0, .int .i64 a0_1] 23 (0, 0)) (by (with_reducible repeat (first | refine blk_drewN ?_ _ | refine blk_drew ?_ | refine blk_alloc ?_ _)); exact BK398.out)) : gb398 ≠ gb418)); have n10_ := Aside0.mk ((by rw [hg]; exact Nat.ne_of_gt (blk_lt (g := gb398) (o := .cells #[.int .i64 a0_0, .int .i64 a0_1] 23 (0, 0)) (by (with_reducible repeat (first | refine blk_drewN ?_ _ | refine blk_drew ?_ | refine blk_alloc ?_ _)); exact BK398.out)) : gb418 ≠ gb398)); have n11_ := Aside0.mk ((by rw [hg]; exact Nat.ne_of_lt (blk_lt (g := gb399) (o := .cells #[.int .i64 a1_0, .int .i64 a1_1] 23 (0, 0)) (by (with_reducible repeat (first | refine blk_drewN ?_ _ | refine blk_drew ?_ | refine blk_alloc ?_ _)); exact BK399.out)) : gb399 ≠ gb418)); have n12_ := Aside0.mk ((by rw [hg]; exact Nat.ne_of_gt (blk_lt (g := gb399) (o := .cells #[.int .i64 a1_0, .int .i64 a1_1] 23 (0, 0)) (by (with_reducible repeat (first | refine blk_drewN ?_ _ | refine blk_drew ?_ | refine blk_alloc ?_ _)); exact BK399.out)) : gb418 ≠ gb399)); have n13_ := Aside0.mk ((by rw [hg]; exact Nat.ne_of_lt (blk_lt (g := gb417) (o := .cells #[.int .i64 0, .int .i64 0] 23 (0, 0)) (by (with_reducible repeat (first | refine blk_drewN ?_ _ | refine blk_drew ?_ | refine blk_alloc ?_ _)); exact BK417.out)) : gb417 ≠ gb418)); have n14_ := Aside0.mk ((by rw [hg]; exact Nat.ne_of_gt (blk_lt (g := gb417) (o := .cells #[.int .i64 0, .int .i64 0] 23 (0, 0)) (by (with_reducible repeat (first | refine blk_drewN ?_ _ | refine blk_drew ?_ | refine blk_alloc ?_ _)); exact BK417.out)) : gb418 ≠ gb417)); clear HO_10; clear HO_12; clear BK398; clear BK399; clear BK417; clear HB; have HO_10 := n0_; have HO_12 := n1_; have BK398 := n2_; have BK399 := n3_; have BK417 := n4_; have HB := n5_; have BK418 := n6_; have GW418 := n7_; have GE418 := n8_; have NB398_418 := n9_; have NB418_398 := n10_; have NB399_418 := n11_; have NB418_399 := n12_; have NB417_418 := n13_; have NB418_417 := n14_; clear n0_ n1_ n2_ n3_ n4_ n5_ n6_ n7_ n8_ n9_ n10_ n11_ n12_ n13_ n14_; clear hb hbox hg; have hnb142 := NB417_398.out; have hnc142 := NB398_417.out; have hnb143 := NB417_399.out; have hnc143 := NB399_417.out; have hnb144 := NB417_418.out; have hnc144 := NB418_417.out; have hcz145_0 : w141.cell? ⟨gb417, 0, none⟩ = some (.int .i64 0) := (blk_cell BK417.out 0).trans rfl; have hcz145_1 : w141.cell? ⟨gb417, 1, none⟩ = some (.int .i64 0) := (blk_cell BK417.out 1).trans rfl; have hfz145_0 := blk_frozen BK417.out 0; have hfz145_1 := blk_frozen BK417.out 1; have hnb146 := NB418_398.out; have hnc146 := NB398_418.out; have hnb147 := NB418_399.out; have hnc147 := NB399_418.out; have hcz148_0 : w141.cell? ⟨gb418, 0, none⟩ = some (.int .i64 0) := (blk_cell BK418.out 0).trans rfl; have hcz148_1 : w141.cell? ⟨gb418, 1, none⟩ = some (.int .i64 0) := (blk_cell BK418.out 1).trans rfl; have hfz148_0 := blk_frozen BK418.out 0; have hfz148_1 := blk_frozen BK418.out 1) | ((with_reducible refine gate_callee (f := 12) rfl ?_); refine goesL_ (some 77) rfl rfl Tryd.func12 (by kernel_rfl) rfl #[.string t409] rfl (by (try simp only [List.map_toArray, List.map_cons, List.map_nil]); first | done | rfl | (simp only [List.length_drop, List.length_take]; rfl)) ?_; (with_reducible refine (dot_Parse.calls t409 t419 t420 t421 _ A42.out (laid_below HLAID.out (by repeat (first | (with_reducible first | exact HB.out | apply below_alloc | apply pw_below_drewN | apply below_drew1 | refine below_set ?_ GE398.out | refine below_set ?_ GE399.out | refine below_set ?_ GE417.out | refine below_set ?_ GE418.out) | exact HB.out)))).mono ?_); rintro e w149 ⟨rfl, hb⟩; refine ⟨_, rfl, ?_⟩; have n0_ := Aside0.mk (Kd.R_below (by (with_reducible repeat (first | apply Kd.R_alloc | apply Kd.R_drewN | apply Kd.R_drew)); exact (Kd.R_mono (Kd.R_mono (Kd.R_far (p := ⟨gb418, 1, none⟩) (Kd.R_far (p := ⟨gb418, 0, none⟩) (Kd.R_far (p := ⟨gb417, 1, none⟩) (Kd.R_far (p := ⟨gb417, 0, none⟩) (Kd.R_types (Kd.R_types HO_10.out BK417.out (by decide)) BK418.out (by decide)) (fun _ hk => hk.1.2) (.int .i64 t413)) (fun _ hk => hk.1.2) (.int .i64 t414)) (fun _ hk => hk.2) (.int .i64 t415)) (fun _ hk => hk.2) (.int .i64 t416)) (fun _ h_ => h_.1)) (fun _ h_ => h_.1))) hb); have n1_ := Aside0.mk (Kd.R_below (by (with_reducible repeat (first | apply Kd.R_alloc | apply Kd.R_drewN | apply Kd.R_drew)); exact (Kd.R_mono (Kd.R_mono (Kd.R_far (p := ⟨gb418, 1, none⟩) (Kd.R_far (p := ⟨gb418, 0, none⟩) (Kd.R_far (p := ⟨gb417, 1, none⟩) (Kd.R_far (p := ⟨gb417, 0, none⟩) (Kd.R_types (Kd.R_types HO_12.out BK417.out (by decide)) BK418.out (by decide)) (fun _ hk => hk.1.2) (.int .i64 t413)) (fun _ hk => hk.1.2) (.int .i64 t414)) (fun _ hk => hk.2) (.int .i64 t415)) (fun _ hk => hk.2) (.int .i64 t416)) (fun _ h_ => h_.1)) (fun _ h_ => h_.1))) hb); have n2_ := Aside0.mk (blk_below (g := gb398) (o := .cells #[.int .i64 a0_0, .int .i64 a0_1] 23 (0, 0)) (by (with_reducible repeat (first | refine blk_drewN ?_ _ | refine blk_drew ?_ | refine blk_alloc ?_ _)); refine blk_far ?_ NB398_418.out _; (with_reducible repeat (first | refine blk_drewN ?_ _ | refine blk_drew ?_ | refine blk_alloc ?_ _)); refine blk_far ?_ NB398_418.out _; (with_reducible repeat (first | refine blk_drewN ?_ _ | refine blk_drew ?_ | refine blk_alloc ?_ _)); refine blk_far ?_ NB398_417.out _; (with_reducible repeat (first | refine blk_drewN ?_ _ | refine blk_drew ?_ | refine blk_alloc ?_ _)); refine blk_far ?_ NB398_417.out _; (with_reducible repeat (first | refine blk_drewN ?_ _ | refine blk_drew ?_ | refine blk_alloc ?_ _)); exact BK398.out) hb); have n3_ := Aside0.mk (blk_below (g := gb399) (o := .cells #[.int .i64 a1_0, .int .i64 a1_1] 23 (0, 0)) (by (with_reducible repeat (first | refine blk_drewN ?_ _ | refine blk_drew ?_ | refine blk_alloc ?_ _)); refine blk_far ?_ NB399_418.out _; (with_reducible repeat (first | refine blk_drewN ?_ _ | refine blk_drew ?_ | refine blk_alloc ?_ _)); refine blk_far ?_ NB399_418.out _; (with_reducible repeat (first | refine blk_drewN ?_ _ | refine blk_drew ?_ | refine blk_alloc ?_ _)); refine blk_far ?_ NB399_417.out _; (with_reducible repeat (first | refine blk_drewN ?_ _ | refine blk_drew ?_ | refine blk_alloc ?_ _)); refine blk_far ?_ NB399_417.out _; (with_reducible repeat (first | refine blk_drewN ?_ _ | refine blk_drew ?_ | refine blk_alloc ?_ _)); exact BK399.out) hb); have n4_ := Aside0.mk (blk_below (g := gb417) (o := .cells #[.int .i64 t413, .int .i64 t414] 23 (0, 0)) (by (with_reducible repeat (first | refine blk_drewN ?_ _ | refine blk_drew ?_ | refine blk_alloc ?_ _)); refine blk_far ?_ NB417_418.out _; (with_reducible repeat (first | refine blk_drewN ?_ _ | refine blk_drew ?_ | refine blk_alloc ?_ _)); refine blk_far ?_ NB417_418.out _; (with_reducible repeat (first | refine blk_drewN ?_ _ | refine blk_drew ?_ | refine blk_alloc ?_ _)); refine blk_put (cs := #[.int .i64 t413, .int .i64 0]) ?_ 1 _ rfl; (with_reducible repeat (first | refine blk_drewN ?_ _ | refine blk_drew ?_ | refine blk_alloc ?_ _)); refine blk_put (cs := #[.int .i64 0, .int .i64 0]) ?_ 0 _ rfl; (with_reducible repeat (first | refine blk_drewN ?_ _ | refine blk_drew ?_ | refine blk_alloc ?_ _)); exact BK417.out) hb); have n5_ := Aside0.mk (blk_below (g := gb418) (o := .cells #[.int .i64 t415, .int .i64 t416] 36 (0, 0)) (by (with_reducible repeat (first | refine blk_drewN ?_ _ | refine blk_drew ?_ | refine blk_alloc ?_ _)); refine blk_put (cs := #[.int .i64 t415, .int .i64 0]) ?_ 1 _ rfl; (with_reducible repeat (first | refine blk_drewN ?_ _ | refine blk_drew ?_ | refine blk_alloc ?_ _)); refine blk_put (cs := #[.int .i64 0, .int .i64 0]) ?_ 0 _ rfl; (with_reducible repeat (first | refine blk_drewN ?_ _ | refine blk_drew ?_ | refine blk_alloc ?_ _)); refine blk_far ?_ NB418_417.out _; (with_reducible repeat (first | refine blk_drewN ?_ _ | refine blk_drew ?_ | refine blk_alloc ?_ _)); refine blk_far ?_ NB418_417.out _; (with_reducible repeat (first | refine blk_drewN ?_ _ | refine blk_drew ?_ | refine blk_alloc ?_ _)); exact BK418.out) hb); have n6_ := Aside0.mk (below_step (by repeat (first | (with_reducible first | exact HB.out | apply below_alloc | apply pw_below_drewN | apply below_drew1 | refine below_set ?_ GE398.out | refine below_set ?_ GE399.out | refine below_set ?_ GE417.out | refine below_set ?_ GE418.out) | exact HB.out)) hb); clear HO_10; clear HO_12; clear BK398; clear BK399; clear BK417; clear BK418; clear HB; have HO_10 := n0_; have HO_12 := n1_; have BK398 := n2_; have BK399 := n3_; have BK417 := n4_; have BK418 := n5_; have HB := n6_; clear n0_ n1_ n2_ n3_ n4_ n5_ n6_; (try clear hb); (try clear hb2); (try clear hk); (try clear hi)) | ((with_reducible refine gate_dst (N := 18) rfl ?_); (try (refine gate_guard (by rfl) ?_; dsimp only)); refine box_event ?hg (N := 18) ?hd (cs := #[.int .i64 0, .int .i64 0]) (t := 23) ?hr ?_; (case hd => rfl); (case hg => rfl); (case hr => first | (go_simp; done) | (go_simp; rfl)); intro gb422 hg w150 hbox hb; have n0_ := Aside0.mk (Kd.R_below (by (with_reducible repeat (first | apply Kd.R_alloc | apply Kd.R_drewN | apply Kd.R_drew)); exact HO_10.out) hb); have n1_ := Aside0.mk (Kd.R_below (by (with_reducible repeat (first | apply Kd.R_alloc | apply Kd.R_drewN | apply Kd.R_drew)); exact HO_12.out) hb); have n2_ := Aside0.mk (blk_below (g := gb398) (o := .cells #[.int .i64 a0_0, .int .i64 a0_1] 23 (0, 0)) (by (with_reducible repeat (first | refine blk_drewN ?_ _ | refine blk_drew ?_ | refine blk_alloc ?_ _)); exact BK398.out) hb); have n3_ := Aside0.mk (blk_below (g := gb399) (o := .cells #[.int .i64 a1_0, .int .i64 a1_1] 23 (0, 0)) (by (with_reducible repeat (first | refine blk_drewN ?_ _ | refine blk_drew ?_ | refine blk_alloc ?_ _)); exact BK399.out) hb); have n4_ := Aside0.mk (blk_below (g := gb417) (o := .cells #[.int .i64 t413, .int .i64 t414] 23 (0, 0)) (by (with_reducible repeat (first | refine blk_drewN ?_ _ | refine blk_drew ?_ | refine blk_alloc ?_ _)); exact BK417.out) hb); have n5_ := Aside0.mk (blk_below (g := gb418) (o := .cells #[.int .i64 t415, .int .i64 t416] 36 (0, 0)) (by (with_reducible repeat (first | refine blk_drewN ?_ _ | refine blk_drew ?_ | refine blk_alloc ?_ _)); exact BK418.out) hb); have n6_ := Aside0.mk (below_step (by repeat (first | (with_reducible first | exact HB.out | apply below_alloc | apply pw_below_drewN | apply below_drew1 | refine below_set ?_ GE398.out | refine below_set ?_ GE399.out | refine below_set ?_ GE417.out | refine below_set ?_ GE418.out) | exact HB.out)) hb); have n7_ := Aside0.mk (hbox); have n8_ := Aside0.mk ((by rw [hg]; exact (below_size (by repeat (first | (with_reducible first | exact HB.out | apply below_alloc | apply pw_below_drewN | apply below_drew1 | refine below_set ?_ GE398.out | refine below_set ?_ GE399.out | refine below_set ?_ GE417.out | refine below_set ?_ GE418.out) | exact HB.out))) : w.heap.size ≤ gb422)); have n9_ := Aside0.mk ((by rw [hg]; exact (below_size (by repeat (first | (with_reducible first | exact HB.out | apply below_alloc | apply pw_below_drewN | apply below_drew1 | refine below_set ?_ GE398.out | refine below_set ?_ GE399.out | refine below_set ?_ GE417.out | refine below_set ?_ GE418.out) | exact HB.out))) : w.heap.size ≤ gb422)); have n10_ := Aside0.mk ((by rw [hg]; exact Nat.ne_of_lt (blk_lt (g := gb398) (o := .cells #[.int .i64 a0_0, .int .i64 a0_1] 23 (0, 0)) (by (with_reducible repeat (first | refine blk_drewN ?_ _ | refine blk_drew ?_ | refine blk_alloc ?_ _)); exact BK398.out)) : gb398 ≠ gb422)); have n11_ := Aside0.mk ((by rw [hg]; exact Nat.ne_of_gt (blk_lt (g := gb398) (o := .cells #[.int .i64 a0_0, .int .i64 a0_1] 23 (0, 0)) (by (with_reducible repeat (first | refine blk_drewN ?_ _ | refine blk_drew ?_ | refine blk_alloc ?_ _)); exact BK398.out)) : gb422 ≠ gb398)); have n12_ := Aside0.mk ((by rw [hg]; exact Nat.ne_of_lt (blk_lt (g := gb399) (o := .cells #[.int .i64 a1_0, .int .i64 a1_1] 23 (0, 0)) (by (with_reducible repeat (first | refine blk_drewN ?_ _ | refine blk_drew ?_ | refine blk_alloc ?_ _)); exact BK399.out)) : gb399 ≠ gb422)); have n13_ := Aside0.mk ((by rw [hg]; exact Nat.ne_of_gt (blk_lt (g := gb399) (o := .cells #[.int .i64 a1_0, .int .i64 a1_1] 23 (0, 0)) (by (with_reducible repeat (first | refine blk_drewN ?_ _ | refine blk_drew ?_ | refine blk_alloc ?_ _)); exact BK399.out)) : gb422 ≠ gb399)); have n14_ := Aside0.mk ((by rw [hg]; exact Nat.ne_of_lt (blk_lt (g := gb417) (o := .cells #[.int .i64 t413, .int .i64 t414] 23 (0, 0)) (by (with_reducible repeat (first | refine blk_drewN ?_ _ | refine blk_drew ?_ | refine blk_alloc ?_ _)); exact BK417.out)) : gb417 ≠ gb422)); have n15_ := Aside0.mk ((by rw [hg]; exact Nat.ne_of_gt (blk_lt (g := gb417) (o := .cells #[.int .i64 t413, .int .i64 t414] 23 (0, 0)) (by (with_reducible repeat (first | refine blk_drewN ?_ _ | refine blk_drew ?_ | refine blk_alloc ?_ _)); exact BK417.out)) : gb422 ≠ gb417)); have n16_ := Aside0.mk ((by rw [hg]; exact Nat.ne_of_lt (blk_lt (g := gb418) (o := .cells #[.int .i64 t415, .int .i64 t416] 36 (0, 0)) (by (with_reducible repeat (first | refine blk_drewN ?_ _ | refine blk_drew ?_ | refine blk_alloc ?_ _)); exact BK418.out)) : gb418 ≠ gb422)); have n17_ := Aside0.mk ((by rw [hg]; exact Nat.ne_of_gt (blk_lt (g := gb418) (o := .cells #[.int .i64 t415, .int .i64 t416] 36 (0, 0)) (by (with_reducible repeat (first | refine blk_drewN ?_ _ | refine blk_drew ?_ | refine blk_alloc ?_ _)); exact BK418.out)) : gb422 ≠ gb418)); clear HO_10; clear HO_12; clear BK398; clear BK399; clear BK417; clear BK418; clear HB; have HO_10 := n0_; have HO_12 := n1_; have BK398 := n2_; have BK399 := n3_; have BK417 := n4_; have BK418 := n5_; have HB := n6_; have BK422 := n7_; have GW422 := n8_; have GE422 := n9_; have NB398_422 := n10_; have NB422_398 := n11_; have NB399_422 := n12_; have NB422_399 := n13_; have NB417_422 := n14_; have NB422_417 := n15_; have NB418_422 := n16_; have NB422_418 := n17_; clear n0_ n1_ n2_ n3_ n4_ n5_ n6_ n7_ n8_ n9_ n10_ n11_ n12_ n13_ n14_ n15_ n16_ n17_; clear hb hbox hg; have hnb151 := NB422_398.out; have hnc151 := NB398_422.out; have hnb152 := NB422_399.out; have hnc152 := NB399_422.out; have hnb153 := NB422_417.out; have hnc153 := NB417_422.out; have hnb154 := NB422_418.out; have hnc154 := NB418_422.out; have hcz155_0 : w150.cell? ⟨gb422, 0, none⟩ = some (.int .i64 0) := (blk_cell BK422.out 0).trans rfl; have hcz155_1 : w150.cell? ⟨gb422, 1, none⟩ = some (.int .i64 0) := (blk_cell BK422.out 1).trans rfl; have hfz155_0 := blk_frozen BK422.out 0; have hfz155_1 := blk_frozen BK422.out 1))
              have n0_ : Aside0 (Kd.R (Kd.int .u8) 5 ((w150.setCell ⟨gb422, 0, none⟩ (.int .i64 t419)).setCell ⟨gb422, 1, none⟩ (.int .i64 t420)) w.heap.size (fun k_ => some k_ ≠ (v406 : Value).ownBlock) (.slice Ao138 t401.length co138) t401) := ⟨by (with_reducible repeat (first | apply Kd.R_alloc | apply Kd.R_drewN | apply Kd.R_drew)); exact Kd.R_mono (Kd.R_far (p := ⟨gb422, 1, none⟩) (Kd.R_far (p := ⟨gb422, 0, none⟩) (Kd.R_types HO_10.out BK422.out (by decide)) (fun _ hk => hk.2) (.int .i64 t419)) (fun _ hk => hk.2) (.int .i64 t420)) (fun _ hk => hk.1)⟩
              have n1_ : Aside0 (Kd.R (Kd.int .u8) 5 ((w150.setCell ⟨gb422, 0, none⟩ (.int .i64 t419)).setCell ⟨gb422, 1, none⟩ (.int .i64 t420)) w.heap.size (fun k_ => some k_ ≠ (.slice Ao138 t401.length co138 : Value).ownBlock) v406 t405) := ⟨by (with_reducible repeat (first | apply Kd.R_alloc | apply Kd.R_drewN | apply Kd.R_drew)); exact Kd.R_mono (Kd.R_far (p := ⟨gb422, 1, none⟩) (Kd.R_far (p := ⟨gb422, 0, none⟩) (Kd.R_types HO_12.out BK422.out (by decide)) (fun _ hk => hk.2) (.int .i64 t419)) (fun _ hk => hk.2) (.int .i64 t420)) (fun _ hk => hk.1)⟩
              have n2_ : Aside0 (((w150.setCell ⟨gb422, 0, none⟩ (.int .i64 t419)).setCell ⟨gb422, 1, none⟩ (.int .i64 t420)).heap[gb398]? = some (.cells #[.int .i64 a0_0, .int .i64 a0_1] 23 (0, 0))) := ⟨by (with_reducible repeat (first | refine blk_drewN ?_ _ | refine blk_drew ?_ | refine blk_alloc ?_ _)); refine blk_far ?_ NB398_422.out _; (with_reducible repeat (first | refine blk_drewN ?_ _ | refine blk_drew ?_ | refine blk_alloc ?_ _)); refine blk_far ?_ NB398_422.out _; (with_reducible repeat (first | refine blk_drewN ?_ _ | refine blk_drew ?_ | refine blk_alloc ?_ _)); exact BK398.out⟩
              have n3_ : Aside0 (((w150.setCell ⟨gb422, 0, none⟩ (.int .i64 t419)).setCell ⟨gb422, 1, none⟩ (.int .i64 t420)).heap[gb399]? = some (.cells #[.int .i64 a1_0, .int .i64 a1_1] 23 (0, 0))) := ⟨by (with_reducible repeat (first | refine blk_drewN ?_ _ | refine blk_drew ?_ | refine blk_alloc ?_ _)); refine blk_far ?_ NB399_422.out _; (with_reducible repeat (first | refine blk_drewN ?_ _ | refine blk_drew ?_ | refine blk_alloc ?_ _)); refine blk_far ?_ NB399_422.out _; (with_reducible repeat (first | refine blk_drewN ?_ _ | refine blk_drew ?_ | refine blk_alloc ?_ _)); exact BK399.out⟩
              have n4_ : Aside0 (((w150.setCell ⟨gb422, 0, none⟩ (.int .i64 t419)).setCell ⟨gb422, 1, none⟩ (.int .i64 t420)).heap[gb417]? = some (.cells #[.int .i64 t413, .int .i64 t414] 23 (0, 0))) := ⟨by (with_reducible repeat (first | refine blk_drewN ?_ _ | refine blk_drew ?_ | refine blk_alloc ?_ _)); refine blk_far ?_ NB417_422.out _; (with_reducible repeat (first | refine blk_drewN ?_ _ | refine blk_drew ?_ | refine blk_alloc ?_ _)); refine blk_far ?_ NB417_422.out _; (with_reducible repeat (first | refine blk_drewN ?_ _ | refine blk_drew ?_ | refine blk_alloc ?_ _)); exact BK417.out⟩
              have n5_ : Aside0 (((w150.setCell ⟨gb422, 0, none⟩ (.int .i64 t419)).setCell ⟨gb422, 1, none⟩ (.int .i64 t420)).heap[gb418]? = some (.cells #[.int .i64 t415, .int .i64 t416] 36 (0, 0))) := ⟨by (with_reducible repeat (first | refine blk_drewN ?_ _ | refine blk_drew ?_ | refine blk_alloc ?_ _)); refine blk_far ?_ NB418_422.out _; (with_reducible repeat (first | refine blk_drewN ?_ _ | refine blk_drew ?_ | refine blk_alloc ?_ _)); refine blk_far ?_ NB418_422.out _; (with_reducible repeat (first | refine blk_drewN ?_ _ | refine blk_drew ?_ | refine blk_alloc ?_ _)); exact BK418.out⟩
              have n6_ : Aside0 (((w150.setCell ⟨gb422, 0, none⟩ (.int .i64 t419)).setCell ⟨gb422, 1, none⟩ (.int .i64 t420)).heap[gb422]? = some (.cells #[.int .i64 t419, .int .i64 t420] 23 (0, 0))) := ⟨by (with_reducible repeat (first | refine blk_drewN ?_ _ | refine blk_drew ?_ | refine blk_alloc ?_ _)); refine blk_put (cs := #[.int .i64 t419, .int .i64 0]) ?_ 1 _ rfl; (with_reducible repeat (first | refine blk_drewN ?_ _ | refine blk_drew ?_ | refine blk_alloc ?_ _)); refine blk_put (cs := #[.int .i64 0, .int .i64 0]) ?_ 0 _ rfl; (with_reducible repeat (first | refine blk_drewN ?_ _ | refine blk_drew ?_ | refine blk_alloc ?_ _)); exact BK422.out⟩
              have n7_ : Aside0 (Below w.heap.size w ((w150.setCell ⟨gb422, 0, none⟩ (.int .i64 t419)).setCell ⟨gb422, 1, none⟩ (.int .i64 t420))) := ⟨by repeat (first | (with_reducible first | exact HB.out | apply below_alloc | apply pw_below_drewN | apply below_drew1 | refine below_set ?_ GE398.out | refine below_set ?_ GE399.out | refine below_set ?_ GE417.out | refine below_set ?_ GE418.out | refine below_set ?_ GE422.out) | exact HB.out)⟩
              (try clear HO_10)
              (try clear HO_12)
              (try clear BK398)
              (try clear BK399)
              (try clear BK417)
              (try clear BK418)
              (try clear BK422)
              (try clear HB)
              generalize ((w150.setCell ⟨gb422, 0, none⟩ (.int .i64 t419)).setCell ⟨gb422, 1, none⟩ (.int .i64 t420)) = w156 at n0_ n1_ n2_ n3_ n4_ n5_ n6_ n7_ ⊢
              have HO_10 := n0_
              have HO_12 := n1_
              have BK398 := n2_
              have BK399 := n3_
              have BK417 := n4_
              have BK418 := n5_
              have BK422 := n6_
              have HB := n7_
              clear n0_ n1_ n2_ n3_ n4_ n5_ n6_ n7_
              have n0_ := Aside0.mk (Kd.R_drew HO_10.out)
              have n1_ := Aside0.mk (Kd.R_drew HO_12.out)
              have n2_ := Aside0.mk (blk_drew BK398.out)
              have n3_ := Aside0.mk (blk_drew BK399.out)
              have n4_ := Aside0.mk (blk_drew BK417.out)
              have n5_ := Aside0.mk (blk_drew BK418.out)
              have n6_ := Aside0.mk (blk_drew BK422.out)
              have n7_ := Aside0.mk (below_drew1 HB.out)
              clear HO_10
              clear HO_12
              clear BK398
              clear BK399
              clear BK417
              clear BK418
              clear BK422
              clear HB
              have HO_10 := n0_
              have HO_12 := n1_
              have BK398 := n2_
              have BK399 := n3_
              have BK417 := n4_
              have BK418 := n5_
              have BK422 := n6_
              have HB := n7_
              clear n0_ n1_ n2_ n3_ n4_ n5_ n6_ n7_
              refine start_ (n := 32) (S := fun w' => w'.cell? ⟨gb418, 0, none⟩ = some (.int .i64 t415) ∧ w'.cell? ⟨gb418, 1, none⟩ = some (.int .i64 t416) ∧ w'.cell? ⟨gb417, 0, none⟩ = some (.int .i64 t413) ∧ w'.cell? ⟨gb417, 1, none⟩ = some (.int .i64 t414) ∧ w'.cell? ⟨gb398, 0, none⟩ = some (.int .i64 a0_0) ∧ w'.cell? ⟨gb398, 1, none⟩ = some (.int .i64 a0_1) ∧ w'.cell? ⟨gb422, 0, none⟩ = some (.int .i64 t419) ∧ w'.cell? ⟨gb422, 1, none⟩ = some (.int .i64 t420)) (ds := []) #[false, false, false, false, false, false, false, false, false, false, false, false, false, false, false, false, false, false, false, false, false, false, false, false, false, false, false, false, false, false, false, false] (by kernel_rfl) rfl rfl ⟨(blk_cell BK418.out 0).trans rfl, (blk_cell BK418.out 1).trans rfl, (blk_cell BK417.out 0).trans rfl, (blk_cell BK417.out 1).trans rfl, (blk_cell BK398.out 0).trans rfl, (blk_cell BK398.out 1).trans rfl, (blk_cell BK422.out 0).trans rfl, (blk_cell BK422.out 1).trans rfl⟩ (fun hHeld => ?_); refine with_tabW tributarylaw06_DotBack.tab12 tributarylaw06_DotBack.bits12 (fun HT_ HW_ => ?_)
              generalize w156.drew = w157 at HO_10 HO_12 BK398 BK399 BK417 BK418 BK422 HB hHeld ⊢
              refine pure_ (i := 0) (N := some 80) (v := ?_) (a' := ?_) #[true, false, false, false, false, false, false, false, false, false, false, false, false, false, false, false, false, false, false, false, false, false, false, false, false, false, false, false, false, false, false, false] rfl rfl (any_of HT_.out (by kernel_rfl)) (fun _ _ _ h => h) (Or.inl ⟨by rfl, ?_⟩) ?_ ?_
              rotate_left
              ·
               intro w'
               go_simp
               with_reducible rfl
              rotate_left
              ·
               simp only [Act.put, List.setIfInBounds_toArray, List.set_cons_zero, List.set_cons_succ, i64_w, i32_w]
               rfl
              refine take_ (i := 1) (N := some 81) (v := ?_) (a' := ?_) #[true, true, false, false, false, false, false, false, false, false, false, false, false, false, false, false, false, false, false, false, false, false, false, false, false, false, false, false, false, false, false, false] rfl rfl (take_ofW HT_.out HW_.out (by kernel_rfl)) (fun _ _ _ h => h) (Or.inl ⟨by rfl, ?_⟩) hHeld ?_ ?_
              rotate_left
              ·
               rintro w' ⟨s0, s1, s2, s3, s4, s5, s6, s7⟩
               go_simp
               with_reducible rfl
              rotate_left
              ·
               simp only [Act.put, List.setIfInBounds_toArray, List.set_cons_zero, List.set_cons_succ, i64_w, i32_w]
               rfl
              refine pure_ (i := 2) (N := some 82) (v := ?_) (a' := ?_) #[true, true, true, false, false, false, false, false, false, false, false, false, false, false, false, false, false, false, false, false, false, false, false, false, false, false, false, false, false, false, false, false] rfl rfl (any_of HT_.out (by kernel_rfl)) (fun _ _ _ h => h) (Or.inl ⟨by rfl, ?_⟩) ?_ ?_
              rotate_left
              ·
               intro w'
               go_simp
               with_reducible rfl
              rotate_left
              ·
               simp only [Act.put, List.setIfInBounds_toArray, List.set_cons_zero, List.set_cons_succ, i64_w, i32_w]
               rfl
              refine pure_ (i := 3) (N := some 83) (v := ?_) (a' := ?_) #[true, true, true, true, false, false, false, false, false, false, false, false, false, false, false, false, false, false, false, false, false, false, false, false, false, false, false, false, false, false, false, false] rfl rfl (any_of HT_.out (by kernel_rfl)) (fun _ _ _ h => h) (Or.inl ⟨by rfl, ?_⟩) ?_ ?_
              rotate_left
              ·
               intro w'
               go_simp
               with_reducible rfl
              rotate_left
              ·
               simp only [Act.put, List.setIfInBounds_toArray, List.set_cons_zero, List.set_cons_succ, i64_w, i32_w]
               rfl
              refine take_ (i := 4) (N := some 84) (v := ?_) (a' := ?_) #[true, true, true, true, true, false, false, false, false, false, false, false, false, false, false, false, false, false, false, false, false, false, false, false, false, false, false, false, false, false, false, false] rfl rfl (take_ofW HT_.out HW_.out (by kernel_rfl)) (fun _ _ _ h => h) (Or.inl ⟨by rfl, ?_⟩) hHeld ?_ ?_
              rotate_left
              ·
               rintro w' ⟨s0, s1, s2, s3, s4, s5, s6, s7⟩
               go_simp
               with_reducible rfl
              rotate_left
              ·
               simp only [Act.put, List.setIfInBounds_toArray, List.set_cons_zero, List.set_cons_succ, i64_w, i32_w]
               rfl
              refine take_ (i := 5) (N := some 85) (v := ?_) (a' := ?_) #[true, true, true, true, true, true, false, false, false, false, false, false, false, false, false, false, false, false, false, false, false, false, false, false, false, false, false, false, false, false, false, false] rfl rfl (take_ofW HT_.out HW_.out (by kernel_rfl)) (fun _ _ _ h => h) (Or.inl ⟨by rfl, ?_⟩) hHeld ?_ ?_
              rotate_left
              ·
               rintro w' ⟨s0, s1, s2, s3, s4, s5, s6, s7⟩
               go_simp
               with_reducible rfl
              rotate_left
              ·
               simp only [Act.put, List.setIfInBounds_toArray, List.set_cons_zero, List.set_cons_succ, i64_w, i32_w]
               rfl
              refine pure_ (i := 6) (N := some 86) (v := ?_) (a' := ?_) #[true, true, true, true, true, true, true, false, false, false, false, false, false, false, false, false, false, false, false, false, false, false, false, false, false, false, false, false, false, false, false, false] rfl rfl (any_of HT_.out (by kernel_rfl)) (fun _ _ _ h => h) (Or.inl ⟨by rfl, ?_⟩) ?_ ?_
              rotate_left
              ·
               intro w'
               go_simp
               with_reducible rfl
              rotate_left
              ·
               simp only [Act.put, List.setIfInBounds_toArray, List.set_cons_zero, List.set_cons_succ, i64_w, i32_w]
               rfl
              refine pure_ (i := 7) (N := some 87) (v := ?_) (a' := ?_) #[true, true, true, true, true, true, true, true, false, false, false, false, false, false, false, false, false, false, false, false, false, false, false, false, false, false, false, false, false, false, false, false] rfl rfl (any_of HT_.out (by kernel_rfl)) (fun _ _ _ h => h) (Or.inl ⟨by rfl, ?_⟩) ?_ ?_
              rotate_left
              ·
               intro w'
               go_simp
               with_reducible rfl
              rotate_left
              ·
               simp only [Act.put, List.setIfInBounds_toArray, List.set_cons_zero, List.set_cons_succ, i64_w, i32_w]
               rfl
              refine pure_ (i := 8) (N := some 88) (v := ?_) (a' := ?_) #[true, true, true, true, true, true, true, true, true, false, false, false, false, false, false, false, false, false, false, false, false, false, false, false, false, false, false, false, false, false, false, false] rfl rfl (any_of HT_.out (by kernel_rfl)) (fun _ _ _ h => h) (Or.inl ⟨by rfl, ?_⟩) ?_ ?_
              rotate_left
              ·
               intro w'
               go_simp
               with_reducible rfl
              rotate_left
              ·
               simp only [Act.put, List.setIfInBounds_toArray, List.set_cons_zero, List.set_cons_succ, i64_w, i32_w]
               rfl
              refine pure_ (i := 9) (N := some 89) (v := ?_) (a' := ?_) #[true, true, true, true, true, true, true, true, true, true, false, false, false, false, false, false, false, false, false, false, false, false, false, false, false, false, false, false, false, false, false, false] rfl rfl (any_of HT_.out (by kernel_rfl)) (fun _ _ _ h => h) (Or.inl ⟨by rfl, ?_⟩) ?_ ?_
              rotate_left
              ·
               intro w'
               go_simp
               with_reducible rfl
              rotate_left
              ·
               simp only [Act.put, List.setIfInBounds_toArray, List.set_cons_zero, List.set_cons_succ, i64_w, i32_w]
               rfl
              refine pure_ (i := 10) (N := some 90) (v := ?_) (a' := ?_) #[true, true, true, true, true, true, true, true, true, true, true, false, false, false, false, false, false, false, false, false, false, false, false, false, false, false, false, false, false, false, false, false] rfl rfl (any_of HT_.out (by kernel_rfl)) (fun _ _ _ h => h) (Or.inl ⟨by rfl, ?_⟩) ?_ ?_
              rotate_left
              ·
               intro w'
               go_simp
               with_reducible rfl
              rotate_left
              ·
               simp only [Act.put, List.setIfInBounds_toArray, List.set_cons_zero, List.set_cons_succ, i64_w, i32_w]
               rfl
              refine pure_ (i := 11) (N := some 91) (v := ?_) (a' := ?_) #[true, true, true, true, true, true, true, true, true, true, true, true, false, false, false, false, false, false, false, false, false, false, false, false, false, false, false, false, false, false, false, false] rfl rfl (any_of HT_.out (by kernel_rfl)) (fun _ _ _ h => h) (Or.inl ⟨by rfl, ?_⟩) ?_ ?_
              rotate_left
              ·
               intro w'
               go_simp
               with_reducible rfl
              rotate_left
              ·
               simp only [Act.put, List.setIfInBounds_toArray, List.set_cons_zero, List.set_cons_succ, i64_w, i32_w]
               rfl
              refine pure_ (i := 12) (N := some 92) (v := ?_) (a' := ?_) #[true, true, true, true, true, true, true, true, true, true, true, true, true, false, false, false, false, false, false, false, false, false, false, false, false, false, false, false, false, false, false, false] rfl rfl (any_of HT_.out (by kernel_rfl)) (fun _ _ _ h => h) (Or.inl ⟨by rfl, ?_⟩) ?_ ?_
              rotate_left
              ·
               intro w'
               go_simp
               with_reducible rfl
              rotate_left
              ·
               simp only [Act.put, List.setIfInBounds_toArray, List.set_cons_zero, List.set_cons_succ, i64_w, i32_w]
               rfl
              refine take_ (i := 13) (N := some 93) (v := ?_) (a' := ?_) #[true, true, true, true, true, true, true, true, true, true, true, true, true, true, false, false, false, false, false, false, false, false, false, false, false, false, false, false, false, false, false, false] rfl rfl (take_ofW HT_.out HW_.out (by kernel_rfl)) (fun _ _ _ h => h) (Or.inl ⟨by rfl, ?_⟩) hHeld ?_ ?_
              rotate_left
              ·
               rintro w' ⟨s0, s1, s2, s3, s4, s5, s6, s7⟩
               go_simp
               with_reducible rfl
              rotate_left
              ·
               simp only [Act.put, List.setIfInBounds_toArray, List.set_cons_zero, List.set_cons_succ, i64_w, i32_w]
               rfl
              refine take_ (i := 14) (N := some 94) (v := ?_) (a' := ?_) #[true, true, true, true, true, true, true, true, true, true, true, true, true, true, true, false, false, false, false, false, false, false, false, false, false, false, false, false, false, false, false, false] rfl rfl (take_ofW HT_.out HW_.out (by kernel_rfl)) (fun _ _ _ h => h) (Or.inl ⟨by rfl, ?_⟩) hHeld ?_ ?_
              rotate_left
              ·
               rintro w' ⟨s0, s1, s2, s3, s4, s5, s6, s7⟩
               go_simp
               with_reducible rfl
              rotate_left
              ·
               simp only [Act.put, List.setIfInBounds_toArray, List.set_cons_zero, List.set_cons_succ, i64_w, i32_w]
               rfl
              refine pure_ (i := 15) (N := some 95) (v := ?_) (a' := ?_) #[true, true, true, true, true, true, true, true, true, true, true, true, true, true, true, true, false, false, false, false, false, false, false, false, false, false, false, false, false, false, false, false] rfl rfl (any_of HT_.out (by kernel_rfl)) (fun _ _ _ h => h) (Or.inl ⟨by rfl, ?_⟩) ?_ ?_
              rotate_left
              ·
               intro w'
               go_simp
               with_reducible rfl
              rotate_left
              ·
               simp only [Act.put, List.setIfInBounds_toArray, List.set_cons_zero, List.set_cons_succ, i64_w, i32_w]
               rfl
              refine pure_ (i := 16) (N := some 96) (v := ?_) (a' := ?_) #[true, true, true, true, true, true, true, true, true, true, true, true, true, true, true, true, true, false, false, false, false, false, false, false, false, false, false, false, false, false, false, false] rfl rfl (any_of HT_.out (by kernel_rfl)) (fun _ _ _ h => h) (Or.inl ⟨by rfl, ?_⟩) ?_ ?_
              rotate_left
              ·
               intro w'
               go_simp
               with_reducible rfl
              rotate_left
              ·
               simp only [Act.put, List.setIfInBounds_toArray, List.set_cons_zero, List.set_cons_succ, i64_w, i32_w]
               rfl
              refine pure_ (i := 17) (N := some 97) (v := ?_) (a' := ?_) #[true, true, true, true, true, true, true, true, true, true, true, true, true, true, true, true, true, true, false, false, false, false, false, false, false, false, false, false, false, false, false, false] rfl rfl (any_of HT_.out (by kernel_rfl)) (fun _ _ _ h => h) (Or.inl ⟨by rfl, ?_⟩) ?_ ?_
              rotate_left
              ·
               intro w'
               go_simp
               with_reducible rfl
              rotate_left
              ·
               simp only [Act.put, List.setIfInBounds_toArray, List.set_cons_zero, List.set_cons_succ, i64_w, i32_w]
               rfl
              refine pure_ (i := 18) (N := some 98) (v := ?_) (a' := ?_) #[true, true, true, true, true, true, true, true, true, true, true, true, true, true, true, true, true, true, true, false, false, false, false, false, false, false, false, false, false, false, false, false] rfl rfl (any_of HT_.out (by kernel_rfl)) (fun _ _ _ h => h) (Or.inl ⟨by rfl, ?_⟩) ?_ ?_
              rotate_left
              ·
               intro w'
               go_simp
               with_reducible rfl
              rotate_left
              ·
               simp only [Act.put, List.setIfInBounds_toArray, List.set_cons_zero, List.set_cons_succ, i64_w, i32_w]
               rfl
              refine pure_ (i := 19) (N := some 99) (v := ?_) (a' := ?_) #[true, true, true, true, true, true, true, true, true, true, true, true, true, true, true, true, true, true, true, true, false, false, false, false, false, false, false, false, false, false, false, false] rfl rfl (any_of HT_.out (by kernel_rfl)) (fun _ _ _ h => h) (Or.inl ⟨by rfl, ?_⟩) ?_ ?_
              rotate_left
              ·
               intro w'
               go_simp
               with_reducible rfl
              rotate_left
              ·
               simp only [Act.put, List.setIfInBounds_toArray, List.set_cons_zero, List.set_cons_succ, i64_w, i32_w]
               rfl
              refine pure_ (i := 20) (N := some 100) (v := ?_) (a' := ?_) #[true, true, true, true, true, true, true, true, true, true, true, true, true, true, true, true, true, true, true, true, true, false, false, false, false, false, false, false, false, false, false, false] rfl rfl (any_of HT_.out (by kernel_rfl)) (fun _ _ _ h => h) (Or.inl ⟨by rfl, ?_⟩) ?_ ?_
              rotate_left
              ·
               intro w'
               go_simp
               with_reducible rfl
              rotate_left
              ·
               simp only [Act.put, List.setIfInBounds_toArray, List.set_cons_zero, List.set_cons_succ, i64_w, i32_w]
               rfl
              refine pure_ (i := 21) (N := some 101) (v := undef) (a' := ?_) #[true, true, true, true, true, true, true, true, true, true, true, true, true, true, true, true, true, true, true, true, true, true, false, false, false, false, false, false, false, false, false, false] rfl rfl (any_of HT_.out (by kernel_rfl)) (fun _ _ _ h => h) (Or.inr ⟨by rfl, rfl⟩) ?_ ?_
              rotate_left
              ·
               simp only [Act.put, List.setIfInBounds_toArray, List.set_cons_zero, List.set_cons_succ, i64_w, i32_w]
               rfl
              refine pure_ (i := 22) (N := some 102) (v := undef) (a' := ?_) #[true, true, true, true, true, true, true, true, true, true, true, true, true, true, true, true, true, true, true, true, true, true, true, false, false, false, false, false, false, false, false, false] rfl rfl (any_of HT_.out (by kernel_rfl)) (fun _ _ _ h => h) (Or.inr ⟨by rfl, rfl⟩) ?_ ?_
              rotate_left
              ·
               simp only [Act.put, List.setIfInBounds_toArray, List.set_cons_zero, List.set_cons_succ, i64_w, i32_w]
               rfl
              refine pure_ (i := 23) (N := some 103) (v := undef) (a' := ?_) #[true, true, true, true, true, true, true, true, true, true, true, true, true, true, true, true, true, true, true, true, true, true, true, true, false, false, false, false, false, false, false, false] rfl rfl (any_of HT_.out (by kernel_rfl)) (fun _ _ _ h => h) (Or.inr ⟨by rfl, rfl⟩) ?_ ?_
              rotate_left
              ·
               simp only [Act.put, List.setIfInBounds_toArray, List.set_cons_zero, List.set_cons_succ, i64_w, i32_w]
               rfl
              refine pure_ (i := 24) (N := some 104) (v := undef) (a' := ?_) #[true, true, true, true, true, true, true, true, true, true, true, true, true, true, true, true, true, true, true, true, true, true, true, true, true, false, false, false, false, false, false, false] rfl rfl (any_of HT_.out (by kernel_rfl)) (fun _ _ _ h => h) (Or.inr ⟨by rfl, rfl⟩) ?_ ?_
              rotate_left
              ·
               simp only [Act.put, List.setIfInBounds_toArray, List.set_cons_zero, List.set_cons_succ, i64_w, i32_w]
               rfl
              refine pure_ (i := 25) (N := some 105) (v := undef) (a' := ?_) #[true, true, true, true, true, true, true, true, true, true, true, true, true, true, true, true, true, true, true, true, true, true, true, true, true, true, false, false, false, false, false, false] rfl rfl (any_of HT_.out (by kernel_rfl)) (fun _ _ _ h => h) (Or.inr ⟨by rfl, rfl⟩) ?_ ?_
              rotate_left
              ·
               simp only [Act.put, List.setIfInBounds_toArray, List.set_cons_zero, List.set_cons_succ, i64_w, i32_w]
               rfl
              refine pure_ (i := 26) (N := some 106) (v := undef) (a' := ?_) #[true, true, true, true, true, true, true, true, true, true, true, true, true, true, true, true, true, true, true, true, true, true, true, true, true, true, true, false, false, false, false, false] rfl rfl (any_of HT_.out (by kernel_rfl)) (fun _ _ _ h => h) (Or.inr ⟨by rfl, rfl⟩) ?_ ?_
              rotate_left
              ·
               simp only [Act.put, List.setIfInBounds_toArray, List.set_cons_zero, List.set_cons_succ, i64_w, i32_w]
               rfl
              refine pure_ (i := 27) (N := some 107) (v := undef) (a' := ?_) #[true, true, true, true, true, true, true, true, true, true, true, true, true, true, true, true, true, true, true, true, true, true, true, true, true, true, true, true, false, false, false, false] rfl rfl (any_of HT_.out (by kernel_rfl)) (fun _ _ _ h => h) (Or.inr ⟨by rfl, rfl⟩) ?_ ?_
              rotate_left
              ·
               simp only [Act.put, List.setIfInBounds_toArray, List.set_cons_zero, List.set_cons_succ, i64_w, i32_w]
               rfl
              refine pure_ (i := 28) (N := some 108) (v := undef) (a' := ?_) #[true, true, true, true, true, true, true, true, true, true, true, true, true, true, true, true, true, true, true, true, true, true, true, true, true, true, true, true, true, false, false, false] rfl rfl (any_of HT_.out (by kernel_rfl)) (fun _ _ _ h => h) (Or.inr ⟨by rfl, rfl⟩) ?_ ?_
              rotate_left
              ·
               simp only [Act.put, List.setIfInBounds_toArray, List.set_cons_zero, List.set_cons_succ, i64_w, i32_w]
               rfl
              refine pure_ (i := 29) (N := some 109) (v := undef) (a' := ?_) #[true, true, true, true, true, true, true, true, true, true, true, true, true, true, true, true, true, true, true, true, true, true, true, true, true, true, true, true, true, true, false, false] rfl rfl (any_of HT_.out (by kernel_rfl)) (fun _ _ _ h => h) (Or.inr ⟨by rfl, rfl⟩) ?_ ?_
              rotate_left
              ·
               simp only [Act.put, List.setIfInBounds_toArray, List.set_cons_zero, List.set_cons_succ, i64_w, i32_w]
               rfl
              refine pure_ (i := 30) (N := some 110) (v := ?_) (a' := ?_) #[true, true, true, true, true, true, true, true, true, true, true, true, true, true, true, true, true, true, true, true, true, true, true, true, true, true, true, true, true, true, true, false] rfl rfl (any_of HT_.out (by kernel_rfl)) (fun _ _ _ h => h) (Or.inl ⟨by rfl, ?_⟩) ?_ ?_
              rotate_left
              ·
               intro w'
               go_simp
               with_reducible rfl
              rotate_left
              ·
               simp only [Act.put, List.setIfInBounds_toArray, List.set_cons_zero, List.set_cons_succ, i64_w, i32_w]
               rfl
              refine pure_ (i := 31) (N := some 111) (v := ?_) (a' := ?_) #[true, true, true, true, true, true, true, true, true, true, true, true, true, true, true, true, true, true, true, true, true, true, true, true, true, true, true, true, true, true, true, true] rfl rfl (any_of HT_.out (by kernel_rfl)) (fun _ _ _ h => h) (Or.inl ⟨by rfl, ?_⟩) ?_ ?_
              rotate_left
              ·
               intro w'
               go_simp
               with_reducible rfl
              rotate_left
              ·
               simp only [Act.put, List.setIfInBounds_toArray, List.set_cons_zero, List.set_cons_succ, i64_w, i32_w]
               rfl
              refine done_ (done_of HT_.out (by kernel_rfl)) ?_
              try go_wp2
              go_meet
              case rel => exact ⟨_, H', ⟨by have := HJ5.out; have := HJ14.out; first | omega | exact Nat.le_refl _⟩, ⟨by (with_reducible repeat (first | refine blk_drewN ?_ _ | refine blk_drew ?_ | refine blk_alloc ?_ _)); exact BK398.out⟩, ⟨by (with_reducible repeat (first | refine blk_drewN ?_ _ | refine blk_drew ?_ | refine blk_alloc ?_ _)); exact BK399.out⟩, ⟨by repeat (first | (with_reducible first | exact HB.out | apply below_alloc | apply pw_below_drewN | apply below_drew1 | refine below_set ?_ GE398.out | refine below_set ?_ GE399.out | refine below_set ?_ GE417.out | refine below_set ?_ GE418.out | refine below_set ?_ GE422.out) | exact HB.out)⟩⟩
           ·
            rw [if_neg c65] at H
            exact absurd (H.trans (congrArg some HR.out)) (by with_reducible repeat' first | exact ntc_false | exact ntc_none | exact tributarylaw06_DotBack.j1_nt0 _ _ _ _ _ _ _ _ _ _ _ _ _ | refine ntc_iff ?_ | refine ntc_ite ?_ ?_ | refine ntc_bind (fun _ => ?_))
         ·
          rw [if_neg c43] at H
          exact absurd (H.trans (congrArg some HR.out)) (by with_reducible repeat' first | exact ntc_false | exact ntc_none | exact tributarylaw06_DotBack.j1_nt0 _ _ _ _ _ _ _ _ _ _ _ _ _ | refine ntc_iff ?_ | refine ntc_ite ?_ ?_ | refine ntc_bind (fun _ => ?_))
        ·
         rw [if_neg c40] at H
         have c40b0 : (t404 == 0) = false := beq_eq_false_iff_ne.mpr c40
         have c40b1 : (t404 != 0) = true := bne_iff_ne.mpr c40
         (first | rw [c40b0] | (simp only [i64_w, i32_w]; rw [c40b0]) | skip)
         have H' := Aside0.mk H
         clear H
         go_wp2
         go_meet
         case rel => exact ⟨_, H', ⟨by have := HJ5.out; have := HJ14.out; first | omega | exact Nat.le_refl _⟩, ⟨by (with_reducible repeat (first | refine blk_drewN ?_ _ | refine blk_drew ?_ | refine blk_alloc ?_ _)); exact BK398.out⟩, ⟨by (with_reducible repeat (first | refine blk_drewN ?_ _ | refine blk_drew ?_ | refine blk_alloc ?_ _)); exact BK399.out⟩, ⟨by repeat (first | (with_reducible first | exact HB.out | apply below_alloc | apply pw_below_drewN | apply below_drew1 | refine below_set ?_ GE398.out | refine below_set ?_ GE399.out) | exact HB.out)⟩⟩
       case rest =>
        clear HC39
        try clear c1; try clear p2; try clear c4; try clear c6; try clear c12; try clear c16; try clear c17; try clear c18; try clear c19; try clear c40; try clear c40b0; try clear c40b1; try clear c43; try clear c43b0; try clear c43b1; try clear c65; try clear c65b0; try clear c65b1; try clear c162; try clear c163; try clear c164; try clear c166; try clear c167; try clear c171; try clear c172; try clear c173; try clear c174; try clear c182; try clear c183; try clear c184; try clear c186; try clear c187; try clear c191; try clear c192; try clear c193; try clear c194; try clear hcz165_0; try clear hcz165_1; try clear hcz168_0; try clear hcz168_1; try clear hcz175_0; try clear hcz175_1; try clear hcz185_0; try clear hcz185_1; try clear hcz188_0; try clear hcz188_1; try clear hcz195_0; try clear hcz195_1; try clear hfz165_0; try clear hfz165_1; try clear hfz168_0; try clear hfz168_1; try clear hfz175_0; try clear hfz175_1; try clear hfz185_0; try clear hfz185_1; try clear hfz188_0; try clear hfz188_1; try clear hfz195_0; try clear hfz195_1
        obtain ⟨kq, HA, HJ38, BK398, BK399, HB⟩ := hcut
        cases kq with
        | zero => exact absurd HA.out (by simp [tributarylaw06_DotBack.j2])
        | succ kj38 =>
         have H := HA.out
         clear HA
         simp only [tributarylaw06_DotBack.j2] at H
         replace H := Option.bind_eq_some_iff.mp H
         obtain ⟨⟨t424, t425, t426, t427⟩, A1980, H⟩ := H
         replace H : (if t426 = 0 then ((dot_Bytes.f t424 t425).bind fun bt430 => (if bt430.2 = 0 then ((tributarykit_SameBytes.f bt430.1 l2).bind fun t434 => (if t434 = true then (tributarylaw06_DotBack.j3 kj38 a3 t400) else (some false))) else (some false))) else (tributarylaw06_DotBack.j3 kj38 a3 t400)) = some r := H
         have A198 := Aside0.mk A1980
         clear A1980
         have HC199 := Aside0.mk H
         clear H
         go_upto_if 119 with (first | ((with_reducible refine gate_callee (f := 17) rfl ?_); refine goesL_ (some 114) rfl rfl Tryd.func17 (by kernel_rfl) rfl #[.slice A2 l2.length c2] rfl (by (try simp only [List.map_toArray, List.map_cons, List.map_nil]); first | done | rfl | (simp only [List.length_drop, List.length_take]; rfl)) ?_; (with_reducible refine (dot_Read.calls _ _ l2 t424 t425 t426 t427 _ ?side1 ?side2 A198.out).mono ?_); (case side1 => repeat (first | exact (Kd.C_below HR2.out HB.out) | (with_reducible refine Kd.C_alloc ?_ _) | (with_reducible refine Kd.C_drewN ?_ _) | (with_reducible refine Kd.C_drew ?_))); (case side2 => exact HC2.out); rintro e w200 ⟨rfl, hb⟩; refine ⟨_, rfl, ?_⟩; have n0_ := Aside0.mk (blk_below (g := gb398) (o := .cells #[.int .i64 a0_0, .int .i64 a0_1] 23 (0, 0)) (by (with_reducible repeat (first | refine blk_drewN ?_ _ | refine blk_drew ?_ | refine blk_alloc ?_ _)); exact BK398.out) hb); have n1_ := Aside0.mk (blk_below (g := gb399) (o := .cells #[.int .i64 a1_0, .int .i64 a1_1] 23 (0, 0)) (by (with_reducible repeat (first | refine blk_drewN ?_ _ | refine blk_drew ?_ | refine blk_alloc ?_ _)); exact BK399.out) hb); have n2_ := Aside0.mk (below_step (by repeat (first | (with_reducible first | exact HB.out | apply below_alloc | apply pw_below_drewN | apply below_drew1 | refine below_set ?_ GE398.out | refine below_set ?_ GE399.out) | exact HB.out)) hb); clear BK398; clear BK399; clear HB; have BK398 := n0_; have BK399 := n1_; have HB := n2_; clear n0_ n1_ n2_; (try clear hb); (try clear hb2); (try clear hk); (try clear hi)) | ((with_reducible refine gate_dst (N := 20) rfl ?_); (try (refine gate_guard (by rfl) ?_; dsimp only)); refine box_event ?hg (N := 20) ?hd (cs := #[.int .i64 0, .int .i64 0]) (t := 23) ?hr ?_; (case hd => rfl); (case hg => rfl); (case hr => first | (go_simp; done) | (go_simp; rfl)); intro gb428 hg w201 hbox hb; have n0_ := Aside0.mk (blk_below (g := gb398) (o := .cells #[.int .i64 a0_0, .int .i64 a0_1] 23 (0, 0)) (by (with_reducible repeat (first | refine blk_drewN ?_ _ | refine blk_drew ?_ | refine blk_alloc ?_ _)); exact BK398.out) hb); have n1_ := Aside0.mk (blk_below (g := gb399) (o := .cells #[.int .i64 a1_0, .int .i64 a1_1] 23 (0, 0)) (by (with_reducible repeat (first | refine blk_drewN ?_ _ | refine blk_drew ?_ | refine blk_alloc ?_ _)); exact BK399.out) hb); have n2_ := Aside0.mk (below_step (by repeat (first | (with_reducible first | exact HB.out | apply below_alloc | apply pw_below_drewN | apply below_drew1 | refine below_set ?_ GE398.out | refine below_set ?_ GE399.out) | exact HB.out)) hb); have n3_ := Aside0.mk (hbox); have n4_ := Aside0.mk ((by rw [hg]; exact (below_size (by repeat (first | (with_reducible first | exact HB.out | apply below_alloc | apply pw_below_drewN | apply below_drew1 | refine below_set ?_ GE398.out | refine below_set ?_ GE399.out) | exact HB.out))) : w.heap.size ≤ gb428)); have n5_ := Aside0.mk ((by rw [hg]; exact (below_size (by repeat (first | (with_reducible first | exact HB.out | apply below_alloc | apply pw_below_drewN | apply below_drew1 | refine below_set ?_ GE398.out | refine below_set ?_ GE399.out) | exact HB.out))) : w.heap.size ≤ gb428)); have n6_ := Aside0.mk ((by rw [hg]; exact Nat.ne_of_lt (blk_lt (g := gb398) (o := .cells #[.int .i64 a0_0, .int .i64 a0_1] 23 (0, 0)) (by (with_reducible repeat (first | refine blk_drewN ?_ _ | refine blk_drew ?_ | refine blk_alloc ?_ _)); exact BK398.out)) : gb398 ≠ gb428)); have n7_ := Aside0.mk ((by rw [hg]; exact Nat.ne_of_gt (blk_lt (g := gb398) (o := .cells #[.int .i64 a0_0, .int .i64 a0_1] 23 (0, 0)) (by (with_reducible repeat (first | refine blk_drewN ?_ _ | refine blk_drew ?_ | refine blk_alloc ?_ _)); exact BK398.out)) : gb428 ≠ gb398)); have n8_ := Aside0.mk ((by rw [hg]; exact Nat.ne_of_lt (blk_lt (g := gb399) (o := .cells #[.int .i64 a1_0, .int .i64 a1_1] 23 (0, 0)) (by (with_reducible repeat (first | refine blk_drewN ?_ _ | refine blk_drew ?_ | refine blk_alloc ?_ _)); exact BK399.out)) : gb399 ≠ gb428)); have n9_ := Aside0.mk ((by rw [hg]; exact Nat.ne_of_gt (blk_lt (g := gb399) (o := .cells #[.int .i64 a1_0, .int .i64 a1_1] 23 (0, 0)) (by (with_reducible repeat (first | refine blk_drewN ?_ _ | refine blk_drew ?_ | refine blk_alloc ?_ _)); exact BK399.out)) : gb428 ≠ gb399)); clear BK398; clear BK399; clear HB; have BK398 := n0_; have BK399 := n1_; have HB := n2_; have BK428 := n3_; have GW428 := n4_; have GE428 := n5_; have NB398_428 := n6_; have NB428_398 := n7_; have NB399_428 := n8_; have NB428_399 := n9_; clear n0_ n1_ n2_ n3_ n4_ n5_ n6_ n7_ n8_ n9_; clear hb hbox hg) | ((with_reducible refine gate_dst (N := 21) rfl ?_); (try (refine gate_guard (by rfl) ?_; dsimp only)); refine box_event ?hg (N := 21) ?hd (cs := #[.int .i64 0, .int .i64 0]) (t := 36) ?hr ?_; (case hd => rfl); (case hg => rfl); (case hr => first | (go_simp; done) | (go_simp; rfl)); intro gb429 hg w202 hbox hb; have n0_ := Aside0.mk (blk_below (g := gb398) (o := .cells #[.int .i64 a0_0, .int .i64 a0_1] 23 (0, 0)) (by (with_reducible repeat (first | refine blk_drewN ?_ _ | refine blk_drew ?_ | refine blk_alloc ?_ _)); exact BK398.out) hb); have n1_ := Aside0.mk (blk_below (g := gb399) (o := .cells #[.int .i64 a1_0, .int .i64 a1_1] 23 (0, 0)) (by (with_reducible repeat (first | refine blk_drewN ?_ _ | refine blk_drew ?_ | refine blk_alloc ?_ _)); exact BK399.out) hb); have n2_ := Aside0.mk (blk_below (g := gb428) (o := .cells #[.int .i64 0, .int .i64 0] 23 (0, 0)) (by (with_reducible repeat (first | refine blk_drewN ?_ _ | refine blk_drew ?_ | refine blk_alloc ?_ _)); exact BK428.out) hb); have n3_ := Aside0.mk (below_step (by repeat (first | (with_reducible first | exact HB.out | apply below_alloc | apply pw_below_drewN | apply below_drew1 | refine below_set ?_ GE398.out | refine below_set ?_ GE399.out | refine below_set ?_ GE428.out) | exact HB.out)) hb); have n4_ := Aside0.mk (hbox); have n5_ := Aside0.mk ((by rw [hg]; exact (below_size (by repeat (first | (with_reducible first | exact HB.out | apply below_alloc | apply pw_below_drewN | apply below_drew1 | refine below_set ?_ GE398.out | refine below_set ?_ GE399.out | refine below_set ?_ GE428.out) | exact HB.out))) : w.heap.size ≤ gb429)); have n6_ := Aside0.mk ((by rw [hg]; exact (below_size (by repeat (first | (with_reducible first | exact HB.out | apply below_alloc | apply pw_below_drewN | apply below_drew1 | refine below_set ?_ GE398.out | refine below_set ?_ GE399.out | refine below_set ?_ GE428.out) | exact HB.out))) : w.heap.size ≤ gb429)); have n7_ := Aside0.mk ((by rw [hg]; exact Nat.ne_of_lt (blk_lt (g := gb398) (o := .cells #[.int .i64 a0_0, .int .i64 a0_1] 23 (0, 0)) (by (with_reducible repeat (first | refine blk_drewN ?_ _ | refine blk_drew ?_ | refine blk_alloc ?_ _)); exact BK398.out)) : gb398 ≠ gb429)); have n8_ := Aside0.mk ((by rw [hg]; exact Nat.ne_of_gt (blk_lt (g := gb398) (o := .cells #[.int .i64 a0_0, .int .i64 a0_1] 23 (0, 0)) (by (with_reducible repeat (first | refine blk_drewN ?_ _ | refine blk_drew ?_ | refine blk_alloc ?_ _)); exact BK398.out)) : gb429 ≠ gb398)); have n9_ := Aside0.mk ((by rw [hg]; exact Nat.ne_of_lt (blk_lt (g := gb399) (o := .cells #[.int .i64 a1_0, .int .i64 a1_1] 23 (0, 0)) (by (with_reducible repeat (first | refine blk_drewN ?_ _ | refine blk_drew ?_ | refine blk_alloc ?_ _)); exact BK399.out)) : gb399 ≠ gb429)); have n10_ := Aside0.mk ((by rw [hg]; exact Nat.ne_of_gt (blk_lt (g := gb399) (o := .cells #[.int .i64 a1_0, .int .i64 a1_1] 23 (0, 0)) (by (with_reducible repeat (first | refine blk_drewN ?_ _ | refine blk_drew ?_ | refine blk_alloc ?_ _)); exact BK399.out)) : gb429 ≠ gb399)); have n11_ := Aside0.mk ((by rw [hg]; exact Nat.ne_of_lt (blk_lt (g := gb428) (o := .cells #[.int .i64 0, .int .i64 0] 23 (0, 0)) (by (with_reducible repeat (first | refine blk_drewN ?_ _ | refine blk_drew ?_ | refine blk_alloc ?_ _)); exact BK428.out)) : gb428 ≠ gb429)); have n12_ := Aside0.mk ((by rw [hg]; exact Nat.ne_of_gt (blk_lt (g := gb428) (o := .cells #[.int .i64 0, .int .i64 0] 23 (0, 0)) (by (with_reducible repeat (first | refine blk_drewN ?_ _ | refine blk_drew ?_ | refine blk_alloc ?_ _)); exact BK428.out)) : gb429 ≠ gb428)); clear BK398; clear BK399; clear BK428; clear HB; have BK398 := n0_; have BK399 := n1_; have BK428 := n2_; have HB := n3_; have BK429 := n4_; have GW429 := n5_; have GE429 := n6_; have NB398_429 := n7_; have NB429_398 := n8_; have NB399_429 := n9_; have NB429_399 := n10_; have NB428_429 := n11_; have NB429_428 := n12_; clear n0_ n1_ n2_ n3_ n4_ n5_ n6_ n7_ n8_ n9_ n10_ n11_ n12_; clear hb hbox hg; have hnb203 := NB428_398.out; have hnc203 := NB398_428.out; have hnb204 := NB428_399.out; have hnc204 := NB399_428.out; have hnb205 := NB428_429.out; have hnc205 := NB429_428.out; have hcz206_0 : w202.cell? ⟨gb428, 0, none⟩ = some (.int .i64 0) := (blk_cell BK428.out 0).trans rfl; have hcz206_1 : w202.cell? ⟨gb428, 1, none⟩ = some (.int .i64 0) := (blk_cell BK428.out 1).trans rfl; have hfz206_0 := blk_frozen BK428.out 0; have hfz206_1 := blk_frozen BK428.out 1; have hnb207 := NB429_398.out; have hnc207 := NB398_429.out; have hnb208 := NB429_399.out; have hnc208 := NB399_429.out; have hcz209_0 : w202.cell? ⟨gb429, 0, none⟩ = some (.int .i64 0) := (blk_cell BK429.out 0).trans rfl; have hcz209_1 : w202.cell? ⟨gb429, 1, none⟩ = some (.int .i64 0) := (blk_cell BK429.out 1).trans rfl; have hfz209_0 := blk_frozen BK429.out 0; have hfz209_1 := blk_frozen BK429.out 1))
         (try simp only [Act.put, List.setIfInBounds_toArray, List.set_cons_zero, List.set_cons_succ])
         go_cut [] (fun wc => ∃ (kq : Nat), Aside0 (tributarylaw06_DotBack.j3 kq a3 t400 = some r) ∧ Aside0 (kq ≤ kj38) ∧ Aside0 (wc.heap[gb398]? = some (.cells #[.int .i64 a0_0, .int .i64 a0_1] 23 (0, 0))) ∧ Aside0 (wc.heap[gb399]? = some (.cells #[.int .i64 a1_0, .int .i64 a1_1] 23 (0, 0))) ∧ Aside0 (wc.heap[gb428]? = some (.cells #[.int .i64 t424, .int .i64 t425] 23 (0, 0))) ∧ Aside0 (wc.heap[gb429]? = some (.cells #[.int .i64 t426, .int .i64 t427] 36 (0, 0))) ∧ Aside0 (Below w.heap.size w wc))
         case first =>
          have H := HC199.out
          clear HC199
          by_cases c210 : t426 = 0
          ·
           rw [if_pos c210] at H
           have c210b0 : (t426 == 0) = true := beq_iff_eq.mpr c210
           have c210b1 : (t426 != 0) = false := bne_eq_false_iff_eq.mpr c210
           clear c210
           (first | rw [c210b0] | (simp only [i64_w, i32_w]; rw [c210b0]) | skip)
           replace H := Option.bind_eq_some_iff.mp H
           obtain ⟨⟨t430, t433⟩, A2110, H⟩ := H
           replace H : (if t433 = 0 then ((tributarykit_SameBytes.f t430 l2).bind fun t434 => (if t434 = true then (tributarylaw06_DotBack.j3 kj38 a3 t400) else (some false))) else (some false)) = some r := H
           have A211 := Aside0.mk A2110
           clear A2110
           by_cases c212 : t433 = 0
           ·
            rw [if_pos c212] at H
            have c212b0 : (t433 == 0) = true := beq_iff_eq.mpr c212
            have c212b1 : (t433 != 0) = false := bne_eq_false_iff_eq.mpr c212
            clear c212
            replace H := Option.bind_eq_some_iff.mp H
            obtain ⟨t434, A2130, H⟩ := H
            replace H : (if t434 = true then (tributarylaw06_DotBack.j3 kj38 a3 t400) else (some false)) = some r := H
            have A213 := Aside0.mk A2130
            clear A2130
            by_cases c214 : t434 = true
            ·
             subst c214
             have H1 : (tributarylaw06_DotBack.j3 kj38 a3 t400) = some r := by rw [if_pos rfl] at H; exact H
             clear H
             have H := H1
             clear H1
             have H' := Aside0.mk H
             clear H
             have hnb215 := NB428_398.out
             have hnc215 := NB398_428.out
             have hnb216 := NB428_399.out
             have hnc216 := NB399_428.out
             have hnb217 := NB428_429.out
             have hnc217 := NB429_428.out
             have hcz218_0 : w202.cell? ⟨gb428, 0, none⟩ = some (.int .i64 0) := (blk_cell BK428.out 0).trans rfl
             have hcz218_1 : w202.cell? ⟨gb428, 1, none⟩ = some (.int .i64 0) := (blk_cell BK428.out 1).trans rfl
             have hfz218_0 := blk_frozen BK428.out 0
             have hfz218_1 := blk_frozen BK428.out 1
             go_wp2_with (first | ((with_reducible refine gate_callee (f := 15) rfl ?_); refine goesL_ (some 122) rfl rfl Tryd.func15 (by kernel_rfl) rfl #[.agg #[.int .i64 t424, .int .i64 t425]] rfl (by (try simp only [List.map_toArray, List.map_cons, List.map_nil]); first | done | rfl | (simp only [List.length_drop, List.length_take]; rfl)) ?_; (with_reducible refine (dot_Bytes.calls t424 t425 t430 t433 _ A211.out).mono ?_); rintro e w219 ⟨v431, rfl, ho0, hb⟩; refine ⟨_, rfl, ?_⟩; have n0_ := Aside0.mk (Kd.R_lower ho0 (below_size (by repeat (first | (with_reducible first | exact HB.out | apply below_alloc | apply pw_below_drewN | apply below_drew1 | refine below_set ?_ GE398.out | refine below_set ?_ GE399.out | refine below_set ?_ GE428.out | refine below_set ?_ GE429.out) | exact HB.out)))); have n1_ := Aside0.mk (blk_below (g := gb398) (o := .cells #[.int .i64 a0_0, .int .i64 a0_1] 23 (0, 0)) (by (with_reducible repeat (first | refine blk_drewN ?_ _ | refine blk_drew ?_ | refine blk_alloc ?_ _)); refine blk_far ?_ NB398_429.out _; (with_reducible repeat (first | refine blk_drewN ?_ _ | refine blk_drew ?_ | refine blk_alloc ?_ _)); refine blk_far ?_ NB398_429.out _; (with_reducible repeat (first | refine blk_drewN ?_ _ | refine blk_drew ?_ | refine blk_alloc ?_ _)); refine blk_far ?_ NB398_428.out _; (with_reducible repeat (first | refine blk_drewN ?_ _ | refine blk_drew ?_ | refine blk_alloc ?_ _)); refine blk_far ?_ NB398_428.out _; (with_reducible repeat (first | refine blk_drewN ?_ _ | refine blk_drew ?_ | refine blk_alloc ?_ _)); exact BK398.out) hb); have n2_ := Aside0.mk (blk_below (g := gb399) (o := .cells #[.int .i64 a1_0, .int .i64 a1_1] 23 (0, 0)) (by (with_reducible repeat (first | refine blk_drewN ?_ _ | refine blk_drew ?_ | refine blk_alloc ?_ _)); refine blk_far ?_ NB399_429.out _; (with_reducible repeat (first | refine blk_drewN ?_ _ | refine blk_drew ?_ | refine blk_alloc ?_ _)); refine blk_far ?_ NB399_429.out _; (with_reducible repeat (first | refine blk_drewN ?_ _ | refine blk_drew ?_ | refine blk_alloc ?_ _)); refine blk_far ?_ NB399_428.out _; (with_reducible repeat (first | refine blk_drewN ?_ _ | refine blk_drew ?_ | refine blk_alloc ?_ _)); refine blk_far ?_ NB399_428.out _; (with_reducible repeat (first | refine blk_drewN ?_ _ | refine blk_drew ?_ | refine blk_alloc ?_ _)); exact BK399.out) hb); have n3_ := Aside0.mk (blk_below (g := gb428) (o := .cells #[.int .i64 t424, .int .i64 t425] 23 (0, 0)) (by (with_reducible repeat (first | refine blk_drewN ?_ _ | refine blk_drew ?_ | refine blk_alloc ?_ _)); refine blk_far ?_ NB428_429.out _; (with_reducible repeat (first | refine blk_drewN ?_ _ | refine blk_drew ?_ | refine blk_alloc ?_ _)); refine blk_far ?_ NB428_429.out _; (with_reducible repeat (first | refine blk_drewN ?_ _ | refine blk_drew ?_ | refine blk_alloc ?_ _)); refine blk_put (cs := #[.int .i64 t424, .int .i64 0]) ?_ 1 _ rfl; (with_reducible repeat (first | refine blk_drewN ?_ _ | refine blk_drew ?_ | refine blk_alloc ?_ _)); refine blk_put (cs := #[.int .i64 0, .int .i64 0]) ?_ 0 _ rfl; (with_reducible repeat (first | refine blk_drewN ?_ _ | refine blk_drew ?_ | refine blk_alloc ?_ _)); exact BK428.out) hb); have n4_ := Aside0.mk (blk_below (g := gb429) (o := .cells #[.int .i64 t426, .int .i64 t427] 36 (0, 0)) (by (with_reducible repeat (first | refine blk_drewN ?_ _ | refine blk_drew ?_ | refine blk_alloc ?_ _)); refine blk_put (cs := #[.int .i64 t426, .int .i64 0]) ?_ 1 _ rfl; (with_reducible repeat (first | refine blk_drewN ?_ _ | refine blk_drew ?_ | refine blk_alloc ?_ _)); refine blk_put (cs := #[.int .i64 0, .int .i64 0]) ?_ 0 _ rfl; (with_reducible repeat (first | refine blk_drewN ?_ _ | refine blk_drew ?_ | refine blk_alloc ?_ _)); refine blk_far ?_ NB429_428.out _; (with_reducible repeat (first | refine blk_drewN ?_ _ | refine blk_drew ?_ | refine blk_alloc ?_ _)); refine blk_far ?_ NB429_428.out _; (with_reducible repeat (first | refine blk_drewN ?_ _ | refine blk_drew ?_ | refine blk_alloc ?_ _)); exact BK429.out) hb); have n5_ := Aside0.mk (below_step (by repeat (first | (with_reducible first | exact HB.out | apply below_alloc | apply pw_below_drewN | apply below_drew1 | refine below_set ?_ GE398.out | refine below_set ?_ GE399.out | refine below_set ?_ GE428.out | refine below_set ?_ GE429.out) | exact HB.out)) hb); clear BK398; clear BK399; clear BK428; clear BK429; clear HB; have HO432 := n0_; have BK398 := n1_; have BK399 := n2_; have BK428 := n3_; have BK429 := n4_; have HB := n5_; clear n0_ n1_ n2_ n3_ n4_ n5_; (try clear hb); (try clear hb2); (try clear hk); (try clear hi); (try clear ho0); obtain ⟨Ao220, co220, eo220⟩ := Kd.R_slice HO432.out; subst eo220) | (go_at_call 19; (with_reducible refine (tributarykit_SameBytes.calls _ _ t430 _ _ l2 true _ ?side1 ?side2 ?side3 ?side4 A213.out).mono ?_); (case side1 => repeat (first | exact (Kd.R_reads' HO432.out).2.2 | (with_reducible refine Kd.C_alloc ?_ _) | (with_reducible refine Kd.C_drewN ?_ _) | (with_reducible refine Kd.C_drew ?_))); (case side2 => exact (Kd.R_reads' HO432.out).2.1); (case side3 => repeat (first | exact (Kd.C_below HR2.out HB.out) | (with_reducible refine Kd.C_alloc ?_ _) | (with_reducible refine Kd.C_drewN ?_ _) | (with_reducible refine Kd.C_drew ?_))); (case side4 => exact HC2.out); rintro e w' ⟨rfl, ⟨nd, rfl⟩⟩))
             go_meet
             case rel => exact ⟨_, H', ⟨by have := HJ5.out; have := HJ14.out; have := HJ38.out; first | omega | exact Nat.le_refl _⟩, ⟨by (with_reducible repeat (first | refine blk_drewN ?_ _ | refine blk_drew ?_ | refine blk_alloc ?_ _)); exact BK398.out⟩, ⟨by (with_reducible repeat (first | refine blk_drewN ?_ _ | refine blk_drew ?_ | refine blk_alloc ?_ _)); exact BK399.out⟩, ⟨by (with_reducible repeat (first | refine blk_drewN ?_ _ | refine blk_drew ?_ | refine blk_alloc ?_ _)); exact BK428.out⟩, ⟨by (with_reducible repeat (first | refine blk_drewN ?_ _ | refine blk_drew ?_ | refine blk_alloc ?_ _)); exact BK429.out⟩, ⟨by repeat (first | (with_reducible first | exact HB.out | apply below_alloc | apply pw_below_drewN | apply below_drew1 | refine below_set ?_ GE398.out | refine below_set ?_ GE399.out | refine below_set ?_ GE428.out | refine below_set ?_ GE429.out) | exact HB.out)⟩⟩
            ·
             replace c214 := Bool.eq_false_iff.mpr c214
             subst c214
             have H1 : (some false) = some r := by rw [if_neg (show ¬ (false = true) by decide)] at H; exact H
             clear H
             have H := H1
             clear H1
             exact absurd (H.trans (congrArg some HR.out)) (by with_reducible repeat' first | exact ntc_false | exact ntc_none | exact tributarylaw06_DotBack.j1_nt0 _ _ _ _ _ _ _ _ _ _ _ _ _ | refine ntc_iff ?_ | refine ntc_ite ?_ ?_ | refine ntc_bind (fun _ => ?_))
           ·
            rw [if_neg c212] at H
            exact absurd (H.trans (congrArg some HR.out)) (by with_reducible repeat' first | exact ntc_false | exact ntc_none | exact tributarylaw06_DotBack.j1_nt0 _ _ _ _ _ _ _ _ _ _ _ _ _ | refine ntc_iff ?_ | refine ntc_ite ?_ ?_ | refine ntc_bind (fun _ => ?_))
          ·
           rw [if_neg c210] at H
           have c210b0 : (t426 == 0) = false := beq_eq_false_iff_ne.mpr c210
           have c210b1 : (t426 != 0) = true := bne_iff_ne.mpr c210
           (first | rw [c210b0] | (simp only [i64_w, i32_w]; rw [c210b0]) | skip)
           have H' := Aside0.mk H
           clear H
           go_wp2
           go_meet
           case rel => exact ⟨_, H', ⟨by have := HJ5.out; have := HJ14.out; have := HJ38.out; first | omega | exact Nat.le_refl _⟩, ⟨by (with_reducible repeat (first | refine blk_drewN ?_ _ | refine blk_drew ?_ | refine blk_alloc ?_ _)); refine blk_far ?_ NB398_429.out _; (with_reducible repeat (first | refine blk_drewN ?_ _ | refine blk_drew ?_ | refine blk_alloc ?_ _)); refine blk_far ?_ NB398_429.out _; (with_reducible repeat (first | refine blk_drewN ?_ _ | refine blk_drew ?_ | refine blk_alloc ?_ _)); refine blk_far ?_ NB398_428.out _; (with_reducible repeat (first | refine blk_drewN ?_ _ | refine blk_drew ?_ | refine blk_alloc ?_ _)); refine blk_far ?_ NB398_428.out _; (with_reducible repeat (first | refine blk_drewN ?_ _ | refine blk_drew ?_ | refine blk_alloc ?_ _)); exact BK398.out⟩, ⟨by (with_reducible repeat (first | refine blk_drewN ?_ _ | refine blk_drew ?_ | refine blk_alloc ?_ _)); refine blk_far ?_ NB399_429.out _; (with_reducible repeat (first | refine blk_drewN ?_ _ | refine blk_drew ?_ | refine blk_alloc ?_ _)); refine blk_far ?_ NB399_429.out _; (with_reducible repeat (first | refine blk_drewN ?_ _ | refine blk_drew ?_ | refine blk_alloc ?_ _)); refine blk_far ?_ NB399_428.out _; (with_reducible repeat (first | refine blk_drewN ?_ _ | refine blk_drew ?_ | refine blk_alloc ?_ _)); refine blk_far ?_ NB399_428.out _; (with_reducible repeat (first | refine blk_drewN ?_ _ | refine blk_drew ?_ | refine blk_alloc ?_ _)); exact BK399.out⟩, ⟨by (with_reducible repeat (first | refine blk_drewN ?_ _ | refine blk_drew ?_ | refine blk_alloc ?_ _)); refine blk_far ?_ NB428_429.out _; (with_reducible repeat (first | refine blk_drewN ?_ _ | refine blk_drew ?_ | refine blk_alloc ?_ _)); refine blk_far ?_ NB428_429.out _; (with_reducible repeat (first | refine blk_drewN ?_ _ | refine blk_drew ?_ | refine blk_alloc ?_ _)); refine blk_put (cs := #[.int .i64 t424, .int .i64 0]) ?_ 1 _ rfl; (with_reducible repeat (first | refine blk_drewN ?_ _ | refine blk_drew ?_ | refine blk_alloc ?_ _)); refine blk_put (cs := #[.int .i64 0, .int .i64 0]) ?_ 0 _ rfl; (with_reducible repeat (first | refine blk_drewN ?_ _ | refine blk_drew ?_ | refine blk_alloc ?_ _)); exact BK428.out⟩, ⟨by (with_reducible repeat (first | refine blk_drewN ?_ _ | refine blk_drew ?_ | refine blk_alloc ?_ _)); refine blk_put (cs := #[.int .i64 t426, .int .i64 0]) ?_ 1 _ rfl; (with_reducible repeat (first | refine blk_drewN ?_ _ | refine blk_drew ?_ | refine blk_alloc ?_ _)); refine blk_put (cs := #[.int .i64 0, .int .i64 0]) ?_ 0 _ rfl; (with_reducible repeat (first | refine blk_drewN ?_ _ | refine blk_drew ?_ | refine blk_alloc ?_ _)); refine blk_far ?_ NB429_428.out _; (with_reducible repeat (first | refine blk_drewN ?_ _ | refine blk_drew ?_ | refine blk_alloc ?_ _)); refine blk_far ?_ NB429_428.out _; (with_reducible repeat (first | refine blk_drewN ?_ _ | refine blk_drew ?_ | refine blk_alloc ?_ _)); exact BK429.out⟩, ⟨by repeat (first | (with_reducible first | exact HB.out | apply below_alloc | apply pw_below_drewN | apply below_drew1 | refine below_set ?_ GE398.out | refine below_set ?_ GE399.out | refine below_set ?_ GE428.out | refine below_set ?_ GE429.out) | exact HB.out)⟩⟩
         case rest =>
          clear HC199
          try clear c1; try clear c2; try clear p2; try clear c4; try clear c6; try clear c12; try clear c15; try clear c16; try clear c17; try clear c18; try clear c19; try clear c20; try clear c21; try clear c22; try clear c40; try clear c40b0; try clear c40b1; try clear c43; try clear c43b0; try clear c43b1; try clear c65; try clear c65b0; try clear c65b1; try clear c162; try clear c163; try clear c164; try clear c166; try clear c167; try clear c171; try clear c172; try clear c173; try clear c174; try clear c182; try clear c183; try clear c184; try clear c186; try clear c187; try clear c191; try clear c192; try clear c193; try clear c194; try clear c203; try clear c204; try clear c205; try clear c207; try clear c208; try clear c210; try clear c210b0; try clear c210b1; try clear c212; try clear c212b0; try clear c212b1; try clear c214; try clear c215; try clear c216; try clear c217; try clear c221; try clear c222; try clear c223; try clear c227; try clear c228; try clear c229; try clear hcz165_0; try clear hcz165_1; try clear hcz168_0; try clear hcz168_1; try clear hcz175_0; try clear hcz175_1; try clear hcz185_0; try clear hcz185_1; try clear hcz188_0; try clear hcz188_1; try clear hcz195_0; try clear hcz195_1; try clear hcz206_0; try clear hcz206_1; try clear hcz209_0; try clear hcz209_1; try clear hcz218_0; try clear hcz218_1; try clear hcz224_0; try clear hcz224_1; try clear hcz230_0; try clear hcz230_1; try clear hfz165_0; try clear hfz165_1; try clear hfz168_0; try clear hfz168_1; try clear hfz175_0; try clear hfz175_1; try clear hfz185_0; try clear hfz185_1; try clear hfz188_0; try clear hfz188_1; try clear hfz195_0; try clear hfz195_1; try clear hfz206_0; try clear hfz206_1; try clear hfz209_0; try clear hfz209_1; try clear hfz218_0; try clear hfz218_1; try clear hfz224_0; try clear hfz224_1; try clear hfz230_0; try clear hfz230_1; try clear p2
          obtain ⟨kq, HA, HJ198, BK398, BK399, BK428, BK429, HB⟩ := hcut
          cases kq with
          | zero => exact absurd HA.out (by simp [tributarylaw06_DotBack.j3])
          | succ kj198 =>
           have H := HA.out
           clear HA
           simp only [tributarylaw06_DotBack.j3] at H
           replace H := Option.bind_eq_some_iff.mp H
           obtain ⟨⟨t435, t436, t437⟩, A2320, H⟩ := H
           replace H : (if t437 = 0 then ((dot_Text.f t435 t436).bind fun bt439 => (if t400 = true then (if bt439.2 = 0 then (some (bt439.1.toList == a3.toList)) else (some false)) else (some false))) else (if t400 = true then (some (t435 == 0 && (t436 == 0))) else (some false))) = some r := H
           have A232 := Aside0.mk A2320
           clear A2320
           by_cases c233 : t437 = 0
           ·
            rw [if_pos c233] at H
            have c233b0 : (t437 == 0) = true := beq_iff_eq.mpr c233
            have c233b1 : (t437 != 0) = false := bne_eq_false_iff_eq.mpr c233
            clear c233
            replace H := Option.bind_eq_some_iff.mp H
            obtain ⟨⟨t439, t440⟩, A2340, H⟩ := H
            replace H : (if t400 = true then (if t440 = 0 then (some (t439.toList == a3.toList)) else (some false)) else (some false)) = some r := H
            have A234 := Aside0.mk A2340
            clear A2340
            by_cases c235 : t400 = true
            ·
             subst c235
             have H1 : (if t440 = 0 then (some (t439.toList == a3.toList)) else (some false)) = some r := by rw [if_pos rfl] at H; exact H
             clear H
             have H := H1
             clear H1
             by_cases c236 : t440 = 0
             ·
              rw [if_pos c236] at H
              have c236b0 : (t440 == 0) = true := beq_iff_eq.mpr c236
              have c236b1 : (t440 != 0) = false := bne_eq_false_iff_eq.mpr c236
              clear c236
              obtain rfl := Option.some.inj H
              go_wp2_with (first | ((with_reducible refine gate_callee (f := 12) rfl ?_); refine goesL_ (some 135) rfl rfl Tryd.func12 (by kernel_rfl) rfl #[.string a3] rfl (by (try simp only [List.map_toArray, List.map_cons, List.map_nil]); first | done | rfl | (simp only [List.length_drop, List.length_take]; rfl)) ?_; (with_reducible refine (dot_Parse.calls a3 t435 t436 t437 _ A232.out (laid_below HLAID.out (by repeat (first | (with_reducible first | exact HB.out | apply below_alloc | apply pw_below_drewN | apply below_drew1 | refine below_set ?_ GE398.out | refine below_set ?_ GE399.out | refine below_set ?_ GE428.out | refine below_set ?_ GE429.out) | exact HB.out)))).mono ?_); rintro e w237 ⟨rfl, hb⟩; refine ⟨_, rfl, ?_⟩; have n0_ := Aside0.mk (blk_below (g := gb398) (o := .cells #[.int .i64 a0_0, .int .i64 a0_1] 23 (0, 0)) (by (with_reducible repeat (first | refine blk_drewN ?_ _ | refine blk_drew ?_ | refine blk_alloc ?_ _)); exact BK398.out) hb); have n1_ := Aside0.mk (blk_below (g := gb399) (o := .cells #[.int .i64 a1_0, .int .i64 a1_1] 23 (0, 0)) (by (with_reducible repeat (first | refine blk_drewN ?_ _ | refine blk_drew ?_ | refine blk_alloc ?_ _)); exact BK399.out) hb); have n2_ := Aside0.mk (blk_below (g := gb428) (o := .cells #[.int .i64 t424, .int .i64 t425] 23 (0, 0)) (by (with_reducible repeat (first | refine blk_drewN ?_ _ | refine blk_drew ?_ | refine blk_alloc ?_ _)); exact BK428.out) hb); have n3_ := Aside0.mk (blk_below (g := gb429) (o := .cells #[.int .i64 t426, .int .i64 t427] 36 (0, 0)) (by (with_reducible repeat (first | refine blk_drewN ?_ _ | refine blk_drew ?_ | refine blk_alloc ?_ _)); exact BK429.out) hb); have n4_ := Aside0.mk (below_step (by repeat (first | (with_reducible first | exact HB.out | apply below_alloc | apply pw_below_drewN | apply below_drew1 | refine below_set ?_ GE398.out | refine below_set ?_ GE399.out | refine below_set ?_ GE428.out | refine below_set ?_ GE429.out) | exact HB.out)) hb); clear BK398; clear BK399; clear BK428; clear BK429; clear HB; have BK398 := n0_; have BK399 := n1_; have BK428 := n2_; have BK429 := n3_; have HB := n4_; clear n0_ n1_ n2_ n3_ n4_; (try clear hb); (try clear hb2); (try clear hk); (try clear hi)) | ((with_reducible refine gate_dst (N := 24) rfl ?_); (try (refine gate_guard (by rfl) ?_; dsimp only)); refine box_event ?hg (N := 24) ?hd (cs := #[.int .i64 0, .int .i64 0]) (t := 23) ?hr ?_; (case hd => rfl); (case hg => rfl); (case hr => first | (go_simp; done) | (go_simp; rfl)); intro gb438 hg w238 hbox hb; have n0_ := Aside0.mk (blk_below (g := gb398) (o := .cells #[.int .i64 a0_0, .int .i64 a0_1] 23 (0, 0)) (by (with_reducible repeat (first | refine blk_drewN ?_ _ | refine blk_drew ?_ | refine blk_alloc ?_ _)); exact BK398.out) hb); have n1_ := Aside0.mk (blk_below (g := gb399) (o := .cells #[.int .i64 a1_0, .int .i64 a1_1] 23 (0, 0)) (by (with_reducible repeat (first | refine blk_drewN ?_ _ | refine blk_drew ?_ | refine blk_alloc ?_ _)); exact BK399.out) hb); have n2_ := Aside0.mk (blk_below (g := gb428) (o := .cells #[.int .i64 t424, .int .i64 t425] 23 (0, 0)) (by (with_reducible repeat (first | refine blk_drewN ?_ _ | refine blk_drew ?_ | refine blk_alloc ?_ _)); exact BK428.out) hb); have n3_ := Aside0.mk (blk_below (g := gb429) (o := .cells #[.int .i64 t426, .int .i64 t427] 36 (0, 0)) (by (with_reducible repeat (first | refine blk_drewN ?_ _ | refine blk_drew ?_ | refine blk_alloc ?_ _)); exact BK429.out) hb); have n4_ := Aside0.mk (below_step (by repeat (first | (with_reducible first | exact HB.out | apply below_alloc | apply pw_below_drewN | apply below_drew1 | refine below_set ?_ GE398.out | refine below_set ?_ GE399.out | refine below_set ?_ GE428.out | refine below_set ?_ GE429.out) | exact HB.out)) hb); have n5_ := Aside0.mk (hbox); have n6_ := Aside0.mk ((by rw [hg]; exact (below_size (by repeat (first | (with_reducible first | exact HB.out | apply below_alloc | apply pw_below_drewN | apply below_drew1 | refine below_set ?_ GE398.out | refine below_set ?_ GE399.out | refine below_set ?_ GE428.out | refine below_set ?_ GE429.out) | exact HB.out))) : w.heap.size ≤ gb438)); have n7_ := Aside0.mk ((by rw [hg]; exact (below_size (by repeat (first | (with_reducible first | exact HB.out | apply below_alloc | apply pw_below_drewN | apply below_drew1 | refine below_set ?_ GE398.out | refine below_set ?_ GE399.out | refine below_set ?_ GE428.out | refine below_set ?_ GE429.out) | exact HB.out))) : w.heap.size ≤ gb438)); have n8_ := Aside0.mk ((by rw [hg]; exact Nat.ne_of_lt (blk_lt (g := gb398) (o := .cells #[.int .i64 a0_0, .int .i64 a0_1] 23 (0, 0)) (by (with_reducible repeat (first | refine blk_drewN ?_ _ | refine blk_drew ?_ | refine blk_alloc ?_ _)); exact BK398.out)) : gb398 ≠ gb438)); have n9_ := Aside0.mk ((by rw [hg]; exact Nat.ne_of_gt (blk_lt (g := gb398) (o := .cells #[.int .i64 a0_0, .int .i64 a0_1] 23 (0, 0)) (by (with_reducible repeat (first | refine blk_drewN ?_ _ | refine blk_drew ?_ | refine blk_alloc ?_ _)); exact BK398.out)) : gb438 ≠ gb398)); have n10_ := Aside0.mk ((by rw [hg]; exact Nat.ne_of_lt (blk_lt (g := gb399) (o := .cells #[.int .i64 a1_0, .int .i64 a1_1] 23 (0, 0)) (by (with_reducible repeat (first | refine blk_drewN ?_ _ | refine blk_drew ?_ | refine blk_alloc ?_ _)); exact BK399.out)) : gb399 ≠ gb438)); have n11_ := Aside0.mk ((by rw [hg]; exact Nat.ne_of_gt (blk_lt (g := gb399) (o := .cells #[.int .i64 a1_0, .int .i64 a1_1] 23 (0, 0)) (by (with_reducible repeat (first | refine blk_drewN ?_ _ | refine blk_drew ?_ | refine blk_alloc ?_ _)); exact BK399.out)) : gb438 ≠ gb399)); have n12_ := Aside0.mk ((by rw [hg]; exact Nat.ne_of_lt (blk_lt (g := gb428) (o := .cells #[.int .i64 t424, .int .i64 t425] 23 (0, 0)) (by (with_reducible repeat (first | refine blk_drewN ?_ _ | refine blk_drew ?_ | refine blk_alloc ?_ _)); exact BK428.out)) : gb428 ≠ gb438)); have n13_ := Aside0.mk ((by rw [hg]; exact Nat.ne_of_gt (blk_lt (g := gb428) (o := .cells #[.int .i64 t424, .int .i64 t425] 23 (0, 0)) (by (with_reducible repeat (first | refine blk_drewN ?_ _ | refine blk_drew ?_ | refine blk_alloc ?_ _)); exact BK428.out)) : gb438 ≠ gb428)); have n14_ := Aside0.mk ((by rw [hg]; exact Nat.ne_of_lt (blk_lt (g := gb429) (o := .cells #[.int .i64 t426, .int .i64 t427] 36 (0, 0)) (by (with_reducible repeat (first | refine blk_drewN ?_ _ | refine blk_drew ?_ | refine blk_alloc ?_ _)); exact BK429.out)) : gb429 ≠ gb438)); have n15_ := Aside0.mk ((by rw [hg]; exact Nat.ne_of_gt (blk_lt (g := gb429) (o := .cells #[.int .i64 t426, .int .i64 t427] 36 (0, 0)) (by (with_reducible repeat (first | refine blk_drewN ?_ _ | refine blk_drew ?_ | refine blk_alloc ?_ _)); exact BK429.out)) : gb438 ≠ gb429)); clear BK398; clear BK399; clear BK428; clear BK429; clear HB; have BK398 := n0_; have BK399 := n1_; have BK428 := n2_; have BK429 := n3_; have HB := n4_; have BK438 := n5_; have GW438 := n6_; have GE438 := n7_; have NB398_438 := n8_; have NB438_398 := n9_; have NB399_438 := n10_; have NB438_399 := n11_; have NB428_438 := n12_; have NB438_428 := n13_; have NB429_438 := n14_; have NB438_429 := n15_; clear n0_ n1_ n2_ n3_ n4_ n5_ n6_ n7_ n8_ n9_ n10_ n11_ n12_ n13_ n14_ n15_; clear hb hbox hg; have hnb239 := NB438_398.out; have hnc239 := NB398_438.out; have hnb240 := NB438_399.out; have hnc240 := NB399_438.out; have hnb241 := NB438_428.out; have hnc241 := NB428_438.out; have hnb242 := NB438_429.out; have hnc242 := NB429_438.out; have hcz243_0 : w238.cell? ⟨gb438, 0, none⟩ = some (.int .i64 0) := (blk_cell BK438.out 0).trans rfl; have hcz243_1 : w238.cell? ⟨gb438, 1, none⟩ = some (.int .i64 0) := (blk_cell BK438.out 1).trans rfl; have hfz243_0 := blk_frozen BK438.out 0; have hfz243_1 := blk_frozen BK438.out 1) | ((with_reducible refine gate_callee (f := 10) rfl ?_); refine goesL_ (some 148) rfl rfl Tryd.func10 (by kernel_rfl) rfl #[.agg #[.int .i64 t435, .int .i64 t436]] rfl (by (try simp only [List.map_toArray, List.map_cons, List.map_nil]); first | done | rfl | (simp only [List.length_drop, List.length_take]; rfl)) ?_; (with_reducible refine (dot_Text.calls t435 t436 t439 t440 _ A234.out (laid_below HLAID.out (by repeat (first | (with_reducible first | exact HB.out | apply below_alloc | apply pw_below_drewN | apply below_drew1 | refine below_set ?_ GE398.out | refine below_set ?_ GE399.out | refine below_set ?_ GE428.out | refine below_set ?_ GE429.out | refine below_set ?_ GE438.out) | exact HB.out)))).mono ?_); rintro e w244 ⟨rfl, hb⟩; refine ⟨_, rfl, ?_⟩; have n0_ := Aside0.mk (blk_below (g := gb398) (o := .cells #[.int .i64 a0_0, .int .i64 a0_1] 23 (0, 0)) (by (with_reducible repeat (first | refine blk_drewN ?_ _ | refine blk_drew ?_ | refine blk_alloc ?_ _)); refine blk_far ?_ NB398_438.out _; (with_reducible repeat (first | refine blk_drewN ?_ _ | refine blk_drew ?_ | refine blk_alloc ?_ _)); refine blk_far ?_ NB398_438.out _; (with_reducible repeat (first | refine blk_drewN ?_ _ | refine blk_drew ?_ | refine blk_alloc ?_ _)); exact BK398.out) hb); have n1_ := Aside0.mk (blk_below (g := gb399) (o := .cells #[.int .i64 a1_0, .int .i64 a1_1] 23 (0, 0)) (by (with_reducible repeat (first | refine blk_drewN ?_ _ | refine blk_drew ?_ | refine blk_alloc ?_ _)); refine blk_far ?_ NB399_438.out _; (with_reducible repeat (first | refine blk_drewN ?_ _ | refine blk_drew ?_ | refine blk_alloc ?_ _)); refine blk_far ?_ NB399_438.out _; (with_reducible repeat (first | refine blk_drewN ?_ _ | refine blk_drew ?_ | refine blk_alloc ?_ _)); exact BK399.out) hb); have n2_ := Aside0.mk (blk_below (g := gb428) (o := .cells #[.int .i64 t424, .int .i64 t425] 23 (0, 0)) (by (with_reducible repeat (first | refine blk_drewN ?_ _ | refine blk_drew ?_ | refine blk_alloc ?_ _)); refine blk_far ?_ NB428_438.out _; (with_reducible repeat (first | refine blk_drewN ?_ _ | refine blk_drew ?_ | refine blk_alloc ?_ _)); refine blk_far ?_ NB428_438.out _; (with_reducible repeat (first | refine blk_drewN ?_ _ | refine blk_drew ?_ | refine blk_alloc ?_ _)); exact BK428.out) hb); have n3_ := Aside0.mk (blk_below (g := gb429) (o := .cells #[.int .i64 t426, .int .i64 t427] 36 (0, 0)) (by (with_reducible repeat (first | refine blk_drewN ?_ _ | refine blk_drew ?_ | refine blk_alloc ?_ _)); refine blk_far ?_ NB429_438.out _; (with_reducible repeat (first | refine blk_drewN ?_ _ | refine blk_drew ?_ | refine blk_alloc ?_ _)); refine blk_far ?_ NB429_438.out _; (with_reducible repeat (first | refine blk_drewN ?_ _ | refine blk_drew ?_ | refine blk_alloc ?_ _)); exact BK429.out) hb); have n4_ := Aside0.mk (blk_below (g := gb438) (o := .cells #[.int .i64 t435, .int .i64 t436] 23 (0, 0)) (by (with_reducible repeat (first | refine blk_drewN ?_ _ | refine blk_drew ?_ | refine blk_alloc ?_ _)); refine blk_put (cs := #[.int .i64 t435, .int .i64 0]) ?_ 1 _ rfl; (with_reducible repeat (first | refine blk_drewN ?_ _ | refine blk_drew ?_ | refine blk_alloc ?_ _)); refine blk_put (cs := #[.int .i64 0, .int .i64 0]) ?_ 0 _ rfl; (with_reducible repeat (first | refine blk_drewN ?_ _ | refine blk_drew ?_ | refine blk_alloc ?_ _)); exact BK438.out) hb); have n5_ := Aside0.mk (below_step (by repeat (first | (with_reducible first | exact HB.out | apply below_alloc | apply pw_below_drewN | apply below_drew1 | refine below_set ?_ GE398.out | refine below_set ?_ GE399.out | refine below_set ?_ GE428.out | refine below_set ?_ GE429.out | refine below_set ?_ GE438.out) | exact HB.out)) hb); clear BK398; clear BK399; clear BK428; clear BK429; clear BK438; clear HB; have BK398 := n0_; have BK399 := n1_; have BK428 := n2_; have BK429 := n3_; have BK438 := n4_; have HB := n5_; clear n0_ n1_ n2_ n3_ n4_ n5_; (try clear hb); (try clear hb2); (try clear hk); (try clear hi)))
              go_ret
              exact ⟨by first | rfl | (simp [errW_none, errW_some] <;> rfl) | (simp [*, errW_none, errW_some] <;> rfl), by repeat (first | (with_reducible first | exact HB.out | apply below_alloc | apply pw_below_drewN | apply below_drew1 | refine below_set ?_ GE398.out | refine below_set ?_ GE399.out | refine below_set ?_ GE428.out | refine below_set ?_ GE429.out | refine below_set ?_ GE438.out) | exact HB.out)⟩
             ·
              rw [if_neg c236] at H
              exact absurd (H.trans (congrArg some HR.out)) (by with_reducible repeat' first | exact ntc_false | exact ntc_none | exact tributarylaw06_DotBack.j1_nt0 _ _ _ _ _ _ _ _ _ _ _ _ _ | refine ntc_iff ?_ | refine ntc_ite ?_ ?_ | refine ntc_bind (fun _ => ?_))
            ·
             replace c235 := Bool.eq_false_iff.mpr c235
             subst c235
             have H1 : (some false) = some r := by rw [if_neg (show ¬ (false = true) by decide)] at H; exact H
             clear H
             have H := H1
             clear H1
             exact absurd (H.trans (congrArg some HR.out)) (by with_reducible repeat' first | exact ntc_false | exact ntc_none | exact tributarylaw06_DotBack.j1_nt0 _ _ _ _ _ _ _ _ _ _ _ _ _ | refine ntc_iff ?_ | refine ntc_ite ?_ ?_ | refine ntc_bind (fun _ => ?_))
           ·
            rw [if_neg c233] at H
            have c233b0 : (t437 == 0) = false := beq_eq_false_iff_ne.mpr c233
            have c233b1 : (t437 != 0) = true := bne_iff_ne.mpr c233
            by_cases c261 : t400 = true
            ·
             subst c261
             have H1 : (some (t435 == 0 && (t436 == 0))) = some r := by rw [if_pos rfl] at H; exact H
             clear H
             have H := H1
             clear H1
             obtain rfl := Option.some.inj H
             go_wp2_with (first | ((with_reducible refine gate_callee (f := 12) rfl ?_); refine goesL_ (some 135) rfl rfl Tryd.func12 (by kernel_rfl) rfl #[.string a3] rfl (by (try simp only [List.map_toArray, List.map_cons, List.map_nil]); first | done | rfl | (simp only [List.length_drop, List.length_take]; rfl)) ?_; (with_reducible refine (dot_Parse.calls a3 t435 t436 t437 _ A232.out (laid_below HLAID.out (by repeat (first | (with_reducible first | exact HB.out | apply below_alloc | apply pw_below_drewN | apply below_drew1 | refine below_set ?_ GE398.out | refine below_set ?_ GE399.out | refine below_set ?_ GE428.out | refine below_set ?_ GE429.out) | exact HB.out)))).mono ?_); rintro e w262 ⟨rfl, hb⟩; refine ⟨_, rfl, ?_⟩; have n0_ := Aside0.mk (blk_below (g := gb398) (o := .cells #[.int .i64 a0_0, .int .i64 a0_1] 23 (0, 0)) (by (with_reducible repeat (first | refine blk_drewN ?_ _ | refine blk_drew ?_ | refine blk_alloc ?_ _)); exact BK398.out) hb); have n1_ := Aside0.mk (blk_below (g := gb399) (o := .cells #[.int .i64 a1_0, .int .i64 a1_1] 23 (0, 0)) (by (with_reducible repeat (first | refine blk_drewN ?_ _ | refine blk_drew ?_ | refine blk_alloc ?_ _)); exact BK399.out) hb); have n2_ := Aside0.mk (blk_below (g := gb428) (o := .cells #[.int .i64 t424, .int .i64 t425] 23 (0, 0)) (by (with_reducible repeat (first | refine blk_drewN ?_ _ | refine blk_drew ?_ | refine blk_alloc ?_ _)); exact BK428.out) hb); have n3_ := Aside0.mk (blk_below (g := gb429) (o := .cells #[.int .i64 t426, .int .i64 t427] 36 (0, 0)) (by (with_reducible repeat (first | refine blk_drewN ?_ _ | refine blk_drew ?_ | refine blk_alloc ?_ _)); exact BK429.out) hb); have n4_ := Aside0.mk (below_step (by repeat (first | (with_reducible first | exact HB.out | apply below_alloc | apply pw_below_drewN | apply below_drew1 | refine below_set ?_ GE398.out | refine below_set ?_ GE399.out | refine below_set ?_ GE428.out | refine below_set ?_ GE429.out) | exact HB.out)) hb); clear BK398; clear BK399; clear BK428; clear BK429; clear HB; have BK398 := n0_; have BK399 := n1_; have BK428 := n2_; have BK429 := n3_; have HB := n4_; clear n0_ n1_ n2_ n3_ n4_; (try clear hb); (try clear hb2); (try clear hk); (try clear hi)) | ((with_reducible refine gate_dst (N := 24) rfl ?_); (try (refine gate_guard (by rfl) ?_; dsimp only)); refine box_event ?hg (N := 24) ?hd (cs := #[.int .i64 0, .int .i64 0]) (t := 23) ?hr ?_; (case hd => rfl); (case hg => rfl); (case hr => first | (go_simp; done) | (go_simp; rfl)); intro gb438 hg w263 hbox hb; have n0_ := Aside0.mk (blk_below (g := gb398) (o := .cells #[.int .i64 a0_0, .int .i64 a0_1] 23 (0, 0)) (by (with_reducible repeat (first | refine blk_drewN ?_ _ | refine blk_drew ?_ | refine blk_alloc ?_ _)); exact BK398.out) hb); have n1_ := Aside0.mk (blk_below (g := gb399) (o := .cells #[.int .i64 a1_0, .int .i64 a1_1] 23 (0, 0)) (by (with_reducible repeat (first | refine blk_drewN ?_ _ | refine blk_drew ?_ | refine blk_alloc ?_ _)); exact BK399.out) hb); have n2_ := Aside0.mk (blk_below (g := gb428) (o := .cells #[.int .i64 t424, .int .i64 t425] 23 (0, 0)) (by (with_reducible repeat (first | refine blk_drewN ?_ _ | refine blk_drew ?_ | refine blk_alloc ?_ _)); exact BK428.out) hb); have n3_ := Aside0.mk (blk_below (g := gb429) (o := .cells #[.int .i64 t426, .int .i64 t427] 36 (0, 0)) (by (with_reducible repeat (first | refine blk_drewN ?_ _ | refine blk_drew ?_ | refine blk_alloc ?_ _)); exact BK429.out) hb); have n4_ := Aside0.mk (below_step (by repeat (first | (with_reducible first | exact HB.out | apply below_alloc | apply pw_below_drewN | apply below_drew1 | refine below_set ?_ GE398.out | refine below_set ?_ GE399.out | refine below_set ?_ GE428.out | refine below_set ?_ GE429.out) | exact HB.out)) hb); have n5_ := Aside0.mk (hbox); have n6_ := Aside0.mk ((by rw [hg]; exact (below_size (by repeat (first | (with_reducible first | exact HB.out | apply below_alloc | apply pw_below_drewN | apply below_drew1 | refine below_set ?_ GE398.out | refine below_set ?_ GE399.out | refine below_set ?_ GE428.out | refine below_set ?_ GE429.out) | exact HB.out))) : w.heap.size ≤ gb438)); have n7_ := Aside0.mk ((by rw [hg]; exact (below_size (by repeat (first | (with_reducible first | exact HB.out | apply below_alloc | apply pw_below_drewN | apply below_drew1 | refine below_set ?_ GE398.out | refine below_set ?_ GE399.out | refine below_set ?_ GE428.out | refine below_set ?_ GE429.out) | exact HB.out))) : w.heap.size ≤ gb438)); have n8_ := Aside0.mk ((by rw [hg]; exact Nat.ne_of_lt (blk_lt (g := gb398) (o := .cells #[.int .i64 a0_0, .int .i64 a0_1] 23 (0, 0)) (by (with_reducible repeat (first | refine blk_drewN ?_ _ | refine blk_drew ?_ | refine blk_alloc ?_ _)); exact BK398.out)) : gb398 ≠ gb438)); have n9_ := Aside0.mk ((by rw [hg]; exact Nat.ne_of_gt (blk_lt (g := gb398) (o := .cells #[.int .i64 a0_0, .int .i64 a0_1] 23 (0, 0)) (by (with_reducible repeat (first | refine blk_drewN ?_ _ | refine blk_drew ?_ | refine blk_alloc ?_ _)); exact BK398.out)) : gb438 ≠ gb398)); have n10_ := Aside0.mk ((by rw [hg]; exact Nat.ne_of_lt (blk_lt (g := gb399) (o := .cells #[.int .i64 a1_0, .int .i64 a1_1] 23 (0, 0)) (by (with_reducible repeat (first | refine blk_drewN ?_ _ | refine blk_drew ?_ | refine blk_alloc ?_ _)); exact BK399.out)) : gb399 ≠ gb438)); have n11_ := Aside0.mk ((by rw [hg]; exact Nat.ne_of_gt (blk_lt (g := gb399) (o := .cells #[.int .i64 a1_0, .int .i64 a1_1] 23 (0, 0)) (by (with_reducible repeat (first | refine blk_drewN ?_ _ | refine blk_drew ?_ | refine blk_alloc ?_ _)); exact BK399.out)) : gb438 ≠ gb399)); have n12_ := Aside0.mk ((by rw [hg]; exact Nat.ne_of_lt (blk_lt (g := gb428) (o := .cells #[.int .i64 t424, .int .i64 t425] 23 (0, 0)) (by (with_reducible repeat (first | refine blk_drewN ?_ _ | refine blk_drew ?_ | refine blk_alloc ?_ _)); exact BK428.out)) : gb428 ≠ gb438)); have n13_ := Aside0.mk ((by rw [hg]; exact Nat.ne_of_gt (blk_lt (g := gb428) (o := .cells #[.int .i64 t424, .int .i64 t425] 23 (0, 0)) (by (with_reducible repeat (first | refine blk_drewN ?_ _ | refine blk_drew ?_ | refine blk_alloc ?_ _)); exact BK428.out)) : gb438 ≠ gb428)); have n14_ := Aside0.mk ((by rw [hg]; exact Nat.ne_of_lt (blk_lt (g := gb429) (o := .cells #[.int .i64 t426, .int .i64 t427] 36 (0, 0)) (by (with_reducible repeat (first | refine blk_drewN ?_ _ | refine blk_drew ?_ | refine blk_alloc ?_ _)); exact BK429.out)) : gb429 ≠ gb438)); have n15_ := Aside0.mk ((by rw [hg]; exact Nat.ne_of_gt (blk_lt (g := gb429) (o := .cells #[.int .i64 t426, .int .i64 t427] 36 (0, 0)) (by (with_reducible repeat (first | refine blk_drewN ?_ _ | refine blk_drew ?_ | refine blk_alloc ?_ _)); exact BK429.out)) : gb438 ≠ gb429)); clear BK398; clear BK399; clear BK428; clear BK429; clear HB; have BK398 := n0_; have BK399 := n1_; have BK428 := n2_; have BK429 := n3_; have HB := n4_; have BK438 := n5_; have GW438 := n6_; have GE438 := n7_; have NB398_438 := n8_; have NB438_398 := n9_; have NB399_438 := n10_; have NB438_399 := n11_; have NB428_438 := n12_; have NB438_428 := n13_; have NB429_438 := n14_; have NB438_429 := n15_; clear n0_ n1_ n2_ n3_ n4_ n5_ n6_ n7_ n8_ n9_ n10_ n11_ n12_ n13_ n14_ n15_; clear hb hbox hg; have hnb264 := NB438_398.out; have hnc264 := NB398_438.out; have hnb265 := NB438_399.out; have hnc265 := NB399_438.out; have hnb266 := NB438_428.out; have hnc266 := NB428_438.out; have hnb267 := NB438_429.out; have hnc267 := NB429_438.out; have hcz268_0 : w263.cell? ⟨gb438, 0, none⟩ = some (.int .i64 0) := (blk_cell BK438.out 0).trans rfl; have hcz268_1 : w263.cell? ⟨gb438, 1, none⟩ = some (.int .i64 0) := (blk_cell BK438.out 1).trans rfl; have hfz268_0 := blk_frozen BK438.out 0; have hfz268_1 := blk_frozen BK438.out 1))
             go_ret
             exact ⟨by first | rfl | (simp [errW_none, errW_some] <;> rfl) | (simp [*, errW_none, errW_some] <;> rfl), by repeat (first | (with_reducible first | exact HB.out | apply below_alloc | apply pw_below_drewN | apply below_drew1 | refine below_set ?_ GE398.out | refine below_set ?_ GE399.out | refine below_set ?_ GE428.out | refine below_set ?_ GE429.out | refine below_set ?_ GE438.out) | exact HB.out)⟩
            ·
             replace c261 := Bool.eq_false_iff.mpr c261
             subst c261
             have H1 : (some false) = some r := by rw [if_neg (show ¬ (false = true) by decide)] at H; exact H
             clear H
             have H := H1
             clear H1
             exact absurd (H.trans (congrArg some HR.out)) (by with_reducible repeat' first | exact ntc_false | exact ntc_none | exact tributarylaw06_DotBack.j1_nt0 _ _ _ _ _ _ _ _ _ _ _ _ _ | refine ntc_iff ?_ | refine ntc_ite ?_ ?_ | refine ntc_bind (fun _ => ?_))
end
end Go.Proofs.YtdelfhahbngcfaaDoorX.P06
end
section
namespace Go.Proofs.YtdelfhahbngcfaaDoorX.P06
open Go.RowKit Go.Proofs.YtdelfhahbngcfaaDoorW.PrintWords Go.Proofs.YtdelfhahbngcfaaDoorW.PrintLast Go.Proofs.YtdelfhahbngcfaaDoorW.PrintMore
set_option linter.unusedVariables false
set_option linter.unusedSimpArgs false
def fourL (a : Int) : List Int := [(a / 16777216) % 256, (a / 65536) % 256, (a / 256) % 256, a % 256]
theorem shl_or (a c : Nat) (hc : c < 256) : (a * 256) ||| c = a * 256 + c := by
  have := Nat.two_pow_add_eq_or_of_lt (i := 8) (b := c) (by simpa using hc) a
  rw [show (2 : Nat) ^ 8 = 256 from rfl] at this
  rw [Nat.mul_comm a 256]
  exact this.symm
theorem or_i64 (a b : Nat) (ha : a < 9223372036854775808) (hb : b < 9223372036854775808) : bits .or .i64 (a : Int) (b : Int) = ((a ||| b : Nat) : Int) := by
  have h : a ||| b < 2 ^ 63 := Nat.or_lt_two_pow (by omega) (by omega)
  have h1 : (BitVec.ofInt 64 (a : Int)).toNat = a := by
    rw [BitVec.ofInt_natCast, BitVec.toNat_ofNat]; exact Nat.mod_eq_of_lt (by omega)
  have h2 : (BitVec.ofInt 64 (b : Int)).toNat = b := by
    rw [BitVec.ofInt_natCast, BitVec.toNat_ofNat]; exact Nat.mod_eq_of_lt (by omega)
  show IntKind.i64.wrap ((BitVec.ofInt 64 (a : Int) ||| BitVec.ofInt 64 (b : Int)).toNat : Int) = _
  rw [BitVec.toNat_or, h1, h2, IntKind.wrap_i64]
  omega
def isB (x : Int) : Prop := 0 ≤ x ∧ x < 256
theorem num_step {n c : Int} (hn : 0 ≤ n ∧ n < 4294967296) (hc : isB c) : numS n c = n * 256 + c := by
  unfold isB at hc
  obtain ⟨N, rfl⟩ : ∃ N : Nat, n = N := ⟨n.toNat, by omega⟩
  obtain ⟨C, rfl⟩ : ∃ C : Nat, c = C := ⟨c.toNat, by omega⟩
  unfold numS
  rw [w64 (a := (N : Int) * 256) (by omega), w64 (a := (C : Int)) (by omega), show (N : Int) * 256 = ((N * 256 : Nat) : Int) by omega, or_i64 _ _ (by omega) (by omega), shl_or N C (by omega)]
  omega
theorem num4 {b0 b1 b2 b3 : Int} (h0 : isB b0) (h1 : isB b1) (h2 : isB b2) (h3 : isB b3) : numV [b0, b1, b2, b3] = ((b0 * 256 + b1) * 256 + b2) * 256 + b3 := by
  have g0 := h0; have g1 := h1; have g2 := h2
  unfold isB at g0 g1 g2
  show numS (numS (numS (numS 0 b0) b1) b2) b3 = _
  rw [num_step (n := 0) (by omega) h0, num_step (by omega) h1, num_step (by omega) h2, num_step (by omega) h3]
  omega
theorem isB_mod (a : Int) : isB (a % 256) := by unfold isB; omega
theorem num_four {a : Int} (h : 0 ≤ a ∧ a < 4294967296) : numV (fourL a) = a := by
  unfold fourL
  rw [num4 (isB_mod _) (isB_mod _) (isB_mod _) (isB_mod _)]
  omega
theorem four_num {b0 b1 b2 b3 : Int} (h0 : isB b0) (h1 : isB b1) (h2 : isB b2) (h3 : isB b3) : fourL (numV [b0, b1, b2, b3]) = [b0, b1, b2, b3] := by
  rw [num4 h0 h1 h2 h3]
  unfold isB at h0 h1 h2 h3
  unfold fourL
  refine congr (congrArg _ ?_) (congr (congrArg _ ?_) (congr (congrArg _ ?_) (congr (congrArg _ ?_) rfl)))
  all_goals omega
def bytesD (n q : Int) : List Int := (n % 256) :: fourL q
theorem bytes_yes {n q : Int} (h : okD n q) : dot_Bytes.f n q = some (bytesD n q, 0) := by
  unfold dot_Bytes.f
  rw [chk_yes h]
  rfl
theorem bytes_no {n q : Int} (h : ¬ okD n q) : dot_Bytes.f n q = some ([], 2) := by
  unfold dot_Bytes.f
  rw [chk_no h]
  rfl
theorem read_dot {n q : Int} (h : okD n q) : dot_Read.f (bytesD n q) = some (n, q, 0, 0) := by
  have h' := h
  unfold okD at h'
  have e1 : wrap64 (YtdelfhahbngcfaaDoorW.PrintWords.rd (bytesD n q) 0) = n := by
    show wrap64 (n % 256) = n
    rw [w64 (by omega)]; omega
  have e2 : numV ((bytesD n q).drop 1) = q := num_four (by omega)
  unfold dot_Read.f
  rw [if_pos (show (bytesD n q).length = 5 from rfl), e1, e2, chk_yes h]
  rfl
theorem read_back (l : List Int) (hb : ∀ x ∈ l, isB x) : (∃ n q, okD n q ∧ dot_Read.f l = some (n, q, 0, 0) ∧ bytesD n q = l) ∨ (∃ x : Int × Int × Int × Int, dot_Read.f l = some x ∧ ¬ x.2.2.1 = 0) := by
  unfold dot_Read.f
  by_cases h5 : l.length = 5
  · rw [if_pos h5]
    match l, h5 with
    | [a0, a1, a2, a3, a4], _ =>
      have h := hb
      simp only [List.mem_cons, List.not_mem_nil, or_false, forall_eq_or_imp, forall_eq] at h
      obtain ⟨h0, h1, h2, h3, h4⟩ := h
      show (∃ n q, okD n q ∧ (dot_Check.f (wrap64 a0) (numV [a1, a2, a3, a4])).bind _ = _ ∧ _) ∨ _
      by_cases hok : okD (wrap64 a0) (numV [a1, a2, a3, a4])
      · refine .inl ⟨wrap64 a0, numV [a1, a2, a3, a4], hok, ?_, ?_⟩
        · rw [chk_yes hok]; rfl
        · unfold bytesD
          rw [four_num h1 h2 h3 h4]
          unfold isB at h0
          rw [w64 (by omega), show a0 % 256 = a0 by omega]
      · refine .inr ⟨(0, 0, 2, 0), ?_, by show ¬ (2 : Int) = 0; omega⟩
        show (dot_Check.f (wrap64 a0) (numV [a1, a2, a3, a4])).bind _ = _
        rw [chk_no hok]; rfl
  · rw [if_neg h5]
    exact .inr ⟨_, rfl, by show ¬ (4 : Int) = 0; omega⟩
theorem less_cons {a b : Int} (ha : isB a) (hb : isB b) (x y : List UInt8) : Op.bytesLess (UInt8.ofNat a.toNat :: x) (UInt8.ofNat b.toNat :: y) = (decide (a < b) || (decide (a = b) && Op.bytesLess x y)) := by
  unfold isB at ha hb
  have e1 : (UInt8.ofNat a.toNat).toNat = a.toNat := by simp; omega
  have e2 : (UInt8.ofNat b.toNat).toNat = b.toNat := by simp; omega
  have h1 : decide (UInt8.ofNat a.toNat < UInt8.ofNat b.toNat) = decide (a < b) := by
    apply decide_eq_decide.2
    rw [UInt8.lt_iff_toNat_lt, e1, e2]
    omega
  have h2 : (UInt8.ofNat a.toNat == UInt8.ofNat b.toNat) = decide (a = b) := by
    rw [Bool.eq_iff_iff, beq_iff_eq, decide_eq_true_iff, ← UInt8.toNat_inj, e1, e2]
    omega
  show (decide (UInt8.ofNat a.toNat < UInt8.ofNat b.toNat) || (UInt8.ofNat a.toNat == UInt8.ofNat b.toNat && Op.bytesLess x y)) = _
  rw [h1, h2]
theorem less_lex {a0 a1 a2 a3 a4 b0 b1 b2 b3 b4 : Int} (h : isB a0 ∧ isB a1 ∧ isB a2 ∧ isB a3 ∧ isB a4) (g : isB b0 ∧ isB b1 ∧ isB b2 ∧ isB b3 ∧ isB b4) :
    Op.bytesLess ((strOfNums [a0, a1, a2, a3, a4]).toList) ((strOfNums [b0, b1, b2, b3, b4]).toList) = ltI a0 (((a1 * 256 + a2) * 256 + a3) * 256 + a4) b0 (((b1 * 256 + b2) * 256 + b3) * 256 + b4) := by
  obtain ⟨h0, h1, h2, h3, h4⟩ := h
  obtain ⟨g0, g1, g2, g3, g4⟩ := g
  rw [Lib.toList_data, Lib.toList_data]
  show Op.bytesLess (UInt8.ofNat a0.toNat :: UInt8.ofNat a1.toNat :: UInt8.ofNat a2.toNat :: UInt8.ofNat a3.toNat :: UInt8.ofNat a4.toNat :: []) (UInt8.ofNat b0.toNat :: UInt8.ofNat b1.toNat :: UInt8.ofNat b2.toNat :: UInt8.ofNat b3.toNat :: UInt8.ofNat b4.toNat :: []) = _
  rw [less_cons h0 g0, less_cons h1 g1, less_cons h2 g2, less_cons h3 g3, less_cons h4 g4]
  have e : Op.bytesLess [] [] = false := rfl
  rw [e]
  unfold isB at *
  unfold ltI
  rw [Bool.eq_iff_iff]
  simp only [Bool.or_eq_true, Bool.and_eq_true, decide_eq_true_iff, Bool.false_eq_true, and_false, or_false]
  omega
theorem less_bytes {a0 a1 b0 b1 : Int} (h : okD a0 a1) (g : okD b0 b1) : Op.bytesLess ((strOfNums (bytesD a0 a1)).toList) ((strOfNums (bytesD b0 b1)).toList) = ltI a0 a1 b0 b1 := by
  unfold okD at h g
  have := less_lex (a0 := a0 % 256) (b0 := b0 % 256) ⟨isB_mod a0, isB_mod (a1 / 16777216), isB_mod (a1 / 65536), isB_mod (a1 / 256), isB_mod a1⟩ ⟨isB_mod b0, isB_mod (b1 / 16777216), isB_mod (b1 / 65536), isB_mod (b1 / 256), isB_mod b1⟩
  refine this.trans ?_
  rw [show a0 % 256 = a0 by omega, show b0 % 256 = b0 by omega,
    show (((a1 / 16777216) % 256 * 256 + (a1 / 65536) % 256) * 256 + (a1 / 256) % 256) * 256 + a1 % 256 = a1 by omega,
    show (((b1 / 16777216) % 256 * 256 + (b1 / 65536) % 256) * 256 + (b1 / 256) % 256) * 256 + b1 % 256 = b1 by omega]
theorem back_j3 (s : ByteArray) (hs : s.size ≤ 60) : Ev (fun k => tributarylaw06_DotBack.j3 k s true) true := by
  refine Ev.step (fun _ => rfl) ?_
  simp only [tributarylaw06_DotBack.j3]
  by_cases h : IsText s
  · obtain ⟨p, hp, rfl⟩ := h
    refine ev_eq ((parse_eq _ (by omega)).trans (congrArg some (parseV_yes hp))) (ev_pos (by simp) (ev_eq ((text_eq p.1 p.2).trans (congrArg some (textV_yes hp))) (ev_pos (by simp) (ev_pos (by simp) ?_))))
    simp only [beq_self_eq_true]
    exact Ev.now _
  · refine ev_eq ((parse_eq s (by omega)).trans (congrArg some (parseV_no h))) (ev_neg (by show ¬ (2 : Int) = 0; omega) (ev_pos (by simp) ?_))
    exact Ev.now _
theorem back_j2 (l : List Int) (s : ByteArray) (hs : s.size ≤ 60) (hb : ∀ x ∈ l, isB x) : Ev (fun k => tributarylaw06_DotBack.j2 k l s true) true := by
  refine Ev.step (fun _ => rfl) ?_
  simp only [tributarylaw06_DotBack.j2]
  rcases read_back l hb with ⟨n, q, hok, e, he⟩ | ⟨x, e, hne⟩
  · refine ev_eq e (ev_pos (by simp) (ev_eq (bytes_yes hok) (ev_pos (by simp) ?_)))
    rw [he]
    exact ev_eq (b := true) (congrArg some (beq_self_eq_true _)) (ev_pos (by simp) (back_j3 s hs))
  · exact ev_eq e (ev_neg hne (back_j3 s hs))
theorem back_j1 (a0 a1 b0 b1 : Int) (l : List Int) (s : ByteArray) (hs : s.size ≤ 60) (hb : ∀ x ∈ l, isB x) (bA bB : List Int) (eA eB : Int) (tA : ByteArray)
    (hA : (okD a0 a1 ∧ bA = bytesD a0 a1 ∧ eA = 0 ∧ tA = str (textL a0 a1)) ∨ eA = 2) (hB : (okD b0 b1 ∧ bB = bytesD b0 b1 ∧ eB = 0) ∨ eB = 2) :
    Ev (fun k => tributarylaw06_DotBack.j1 k l s true bA eA bB eB tA false a0 a1 b0 b1) true := by
  refine Ev.step (fun _ => rfl) ?_
  simp only [tributarylaw06_DotBack.j1]
  refine ev_neg (by decide) ?_
  rcases hA with ⟨hok, rfl, rfl, rfl⟩ | rfl
  rotate_left
  · exact ev_neg (by omega) (back_j2 l s hs hb)
  have hl := textL_len hok
  refine ev_pos (by simp) (ev_eq (read_dot hok) (ev_eq ((parse_eq _ (by rw [str_size]; omega)).trans (congrArg some (parseV_yes hok))) (ev_pos (by simp) (ev_neg (by simp) (ev_pos (by simp) (ev_neg (by simp) ?_))))))
  rcases hB with ⟨hok2, rfl, rfl⟩ | rfl
  · refine ev_pos (by simp) (Ev.bind (less_ev a0 a1 b0 b1) ?_)
    refine ev_neg ?_ (back_j2 l s hs hb)
    rw [less_bytes hok hok2]
    simp
  · exact ev_neg (by omega) (back_j2 l s hs hb)
theorem back_j0 (a0 a1 b0 b1 : Int) (l : List Int) (s : ByteArray) (hs : s.size ≤ 60) (hb : ∀ x ∈ l, isB x) : Ev (fun k => tributarylaw06_DotBack.j0 k l s true false a0 a1 b0 b1) true := by
  refine Ev.step (fun _ => rfl) ?_
  simp only [tributarylaw06_DotBack.j0]
  refine ev_neg (by decide) ?_
  have hB : ∃ bB eB, dot_Bytes.f b0 b1 = some (bB, eB) ∧ dot_Check.f b0 b1 = some eB ∧ ((okD b0 b1 ∧ bB = bytesD b0 b1 ∧ eB = 0) ∨ eB = 2) := by
    by_cases h : okD b0 b1
    · exact ⟨_, _, bytes_yes h, chk_yes h, .inl ⟨h, rfl, rfl⟩⟩
    · exact ⟨_, _, bytes_no h, chk_no h, .inr rfl⟩
  obtain ⟨bB, eB, f1, f2, hB⟩ := hB
  have hA : ∃ bA eA tA, dot_Bytes.f a0 a1 = some (bA, eA) ∧ dot_Check.f a0 a1 = some eA ∧ dot_Text.f a0 a1 = some (tA, eA) ∧ ((okD a0 a1 ∧ bA = bytesD a0 a1 ∧ eA = 0 ∧ tA = str (textL a0 a1)) ∨ eA = 2) := by
    by_cases h : okD a0 a1
    · exact ⟨_, _, _, bytes_yes h, chk_yes h, (text_eq _ _).trans (congrArg some (textV_yes h)), .inl ⟨h, rfl, rfl, rfl⟩⟩
    · exact ⟨_, _, _, bytes_no h, chk_no h, (text_eq _ _).trans (congrArg some (textV_no h)), .inr rfl⟩
  obtain ⟨bA, eA, tA, g1, g2, g3, hA⟩ := hA
  refine ev_eq g1 (ev_eq f1 (ev_eq g3 (ev_eq g2 (ev_pos (by simp) (ev_pos (by simp) (ev_eq f2 ?_))))))
  simp only [bne_self_eq_false]
  exact back_j1 a0 a1 b0 b1 l s hs hb bA bB eA eB tA hA hB
theorem back_out (a0 a1 b0 b1 : Int) (l : List Int) (s : ByteArray) : Ev (fun k => tributarylaw06_DotBack.j0 k l s true true a0 a1 b0 b1) true := by
  refine Ev.step (fun _ => rfl) ?_
  simp only [tributarylaw06_DotBack.j0]
  exact ev_pos (by simp) (Ev.now _)
theorem back_ev (a0 a1 b0 b1 : Int) (l : List Int) (s : ByteArray) (hb : ∀ x ∈ l, isB x) : Ev (fun k => tributarylaw06_DotBack.f k a0 a1 b0 b1 l s) true := by
  unfold tributarylaw06_DotBack.f
  refine Ev.bind known_ev ?_
  by_cases h : (l.length : Int) > 40
  · exact ev_pos h (back_out a0 a1 b0 b1 l s)
  refine ev_neg h ?_
  by_cases h2 : (s.size : Int) > 60
  · rw [decide_eq_true h2]; exact back_out a0 a1 b0 b1 l s
  · rw [decide_eq_false h2]; exact back_j0 a0 a1 b0 b1 l s (by omega) hb
end Go.Proofs.YtdelfhahbngcfaaDoorX.P06
end
