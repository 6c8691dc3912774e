/- Words, walks and plain laws for the row, packed: each text in a section of its own. Conditions stand with each theorem. -/
import Derived.Test.YtdelfhahbngcfaaKPastHasa
import Derived.Test.YtdelfhahbngcfaaKPastHasb
import Derived.Test.YtdelfhahbngcfaaKPastHasc
import Derived.Test.YtdelfhahbngcfaaKPastHasd
import Derived.Test.YtdelfhahbngcfaaKPastHase
section
namespace Go.Proofs.YtdelfhahbngcfaaX.P07
open Go.RowKit Go.Proofs.YtdelfhahbngcfaaW.PrintWords Go.Proofs.YtdelfhahbngcfaaW.PrintLast Go.Proofs.YtdelfhahbngcfaaW.PrintMore
attribute [local go_sem] max2_int min2_int max_two min_two max_three min_three max_four min_four   -- for this text's walks alone
set_option linter.unusedVariables false
set_option linter.unusedSimpArgs false
section
mutual
abbrev mkP07LU_0 : Array Bool := #[false, false, false, false, false, false, false, false, false, false, false, false, false, false, false, false, false, false, false, false, false, false]
abbrev mkP07LU_1 : Array Bool := #[true, false, false, false, false, false, false, false, false, false, false, false, false, false, false, false, false, false, false, false, false, false]
abbrev mkP07LU_2 : Array Bool := #[true, true, false, false, false, false, false, false, false, false, false, false, false, false, false, false, false, false, false, false, false, false]
abbrev mkP07LU_3 : Array Bool := #[true, true, true, false, false, false, false, false, false, false, false, false, false, false, false, false, false, false, false, false, false, false]
abbrev mkP07LU_4 : Array Bool := #[true, true, true, true, false, false, false, false, false, false, false, false, false, false, false, false, false, false, false, false, false, false]
abbrev mkP07LU_5 : Array Bool := #[true, true, true, true, true, false, false, false, false, false, false, false, false, false, false, false, false, false, false, false, false, false]
abbrev mkP07LU_6 : Array Bool := #[true, true, true, true, true, true, false, false, false, false, false, false, false, false, false, false, false, false, false, false, false, false]
abbrev mkP07LU_7 : Array Bool := #[true, true, true, true, true, true, true, false, false, false, false, false, false, false, false, false, false, false, false, false, false, false]
abbrev mkP07LU_8 : Array Bool := #[true, true, true, true, true, true, true, true, false, false, false, false, false, false, false, false, false, false, false, false, false, false]
abbrev mkP07LU_9 : Array Bool := #[true, true, true, true, true, true, true, true, true, false, false, false, false, false, false, false, false, false, false, false, false, false]
abbrev mkP07LU_10 : Array Bool := #[true, true, true, true, true, true, true, true, true, true, false, false, false, false, false, false, false, false, false, false, false, false]
abbrev mkP07LU_11 : Array Bool := #[true, true, true, true, true, true, true, true, true, true, true, false, false, false, false, false, false, false, false, false, false, false]
abbrev mkP07LU_12 : Array Bool := #[true, true, true, true, true, true, true, true, true, true, true, true, false, false, false, false, false, false, false, false, false, false]
abbrev mkP07LU_13 : Array Bool := #[true, true, true, true, true, true, true, true, true, true, true, true, true, false, false, false, false, false, false, false, false, false]
abbrev mkP07LU_14 : Array Bool := #[true, true, true, true, true, true, true, true, true, true, true, true, true, false, false, true, false, false, false, false, false, false]
abbrev mkP07LU_15 : Array Bool := #[true, true, true, true, true, true, true, true, true, true, true, true, true, false, false, true, true, false, false, false, false, false]
abbrev mkP07LU_16 : Array Bool := #[true, true, true, true, true, true, true, true, true, true, true, true, true, false, false, true, true, true, false, false, false, false]
abbrev mkP07LU_17 : Array Bool := #[true, true, true, true, true, true, true, true, true, true, true, true, true, false, false, true, true, true, true, false, false, false]
abbrev mkP07LU_18 : Array Bool := #[true, true, true, true, true, true, true, true, true, true, true, true, true, true, false, true, true, true, true, false, false, false]
abbrev mkP07LU_19 : Array Bool := #[true, true, true, true, true, true, true, true, true, true, true, true, true, true, false, true, true, true, true, true, false, false]
abbrev mkP07LU_20 : Array Bool := #[true, true, true, true, true, true, true, true, true, true, true, true, true, true, true, true, true, true, true, true, false, false]
abbrev mkP07LU_21 : Array Bool := #[true, true, true, true, true, true, true, true, true, true, true, true, true, true, true, true, true, true, true, true, true, false]
abbrev mkP07LU_22 : Array Bool := #[true, true, true, true, true, true, true, true, true, true, true, true, true, true, true, true, true, true, true, true, true, true]
def tributarylaw07_PastHas.j2 : Nat → List (S60) → List (S60) → Bool → Int → Int → Option (Bool)
 | 0, _, _, _, _, _ => none
 | k + 1, x0, x1, x9, x395000, x395001 => (past_Check.f k x0).bind fun t411 => (if t411 = 0 then ((past_Check.f k x1).bind fun t412 => (tributarylaw07_PastHas.j3 k x0 x1 x9 (t412 != 0) x395000 x395001)) else (tributarylaw07_PastHas.j3 k x0 x1 x9 true x395000 x395001))
def tributarylaw07_PastHas.j3 : Nat → List (S60) → List (S60) → Bool → Bool → Int → Int → Option (Bool)
 | 0, _, _, _, _, _, _ => none
 | k + 1, x0, x1, x9, x80, x395000, x395001 => if x80 = true then (if x9 = true then ((past_Within.f k x0 x1).bind fun t413 => (some (!t413))) else (some false)) else ((past_Join.f k x0 x1).bind fun bt414 => ((past_Minus.f k x0 x1).bind fun bt418 => (if bt414.2 = 0 then (if bt418.2 = 0 then ((past_Check.f k bt414.1).bind fun t422 => (if t422 = 0 then ((past_Check.f k bt418.1).bind fun t423 => (tributarylaw07_PastHas.j4 k x0 x1 x9 bt414.1 bt418.1 (t423 != 0) x395000 x395001)) else (tributarylaw07_PastHas.j4 k x0 x1 x9 bt414.1 bt418.1 true x395000 x395001))) else (tributarylaw07_PastHas.j4 k x0 x1 x9 bt414.1 bt418.1 true x395000 x395001)) else (tributarylaw07_PastHas.j4 k x0 x1 x9 bt414.1 bt418.1 true x395000 x395001))))
def tributarylaw07_PastHas.j4 : Nat → List (S60) → List (S60) → Bool → List (S60) → List (S60) → Bool → Int → Int → Option (Bool)
 | 0, _, _, _, _, _, _, _, _ => none
 | k + 1, x0, x1, x9, x13, x15, x115, x395000, x395001 => if x115 = true then (some false) else ((past_Has.f k x0 x395000 x395001).bind fun t424 => ((past_Has.f k x1 x395000 x395001).bind fun t425 => ((past_Has.f k x13 x395000 x395001).bind fun t426 => (if t424 = true then (if (t426 != true) = true then (tributarylaw07_PastHas.j5 k x1 x9 x13 x15 true) else ((past_Has.f k x15 x395000 x395001).bind fun t427 => (if (t427 != (!t425)) = true then (tributarylaw07_PastHas.j5 k x1 x9 x13 x15 true) else ((past_Within.f k x0 x1).bind fun t428 => (if (t428 != ((x15.length : Int) == 0)) = true then (tributarylaw07_PastHas.j5 k x1 x9 x13 x15 true) else ((past_Within.f k x0 x13).bind fun t429 => (if t429 = true then ((past_Within.f k x1 x13).bind fun t430 => (if t430 = true then ((past_Within.f k x15 x0).bind fun t431 => (tributarylaw07_PastHas.j5 k x1 x9 x13 x15 (!t431))) else (tributarylaw07_PastHas.j5 k x1 x9 x13 x15 true))) else (tributarylaw07_PastHas.j5 k x1 x9 x13 x15 true)))))))) else (if (t426 != t425) = true then (tributarylaw07_PastHas.j5 k x1 x9 x13 x15 true) else ((past_Has.f k x15 x395000 x395001).bind fun t432 => (if (t432 != false) = true then (tributarylaw07_PastHas.j5 k x1 x9 x13 x15 true) else ((past_Within.f k x0 x1).bind fun t433 => (if (t433 != ((x15.length : Int) == 0)) = true then (tributarylaw07_PastHas.j5 k x1 x9 x13 x15 true) else ((past_Within.f k x0 x13).bind fun t434 => (if t434 = true then ((past_Within.f k x1 x13).bind fun t435 => (if t435 = true then ((past_Within.f k x15 x0).bind fun t436 => (tributarylaw07_PastHas.j5 k x1 x9 x13 x15 (!t436))) else (tributarylaw07_PastHas.j5 k x1 x9 x13 x15 true))) else (tributarylaw07_PastHas.j5 k x1 x9 x13 x15 true))))))))))))
def tributarylaw07_PastHas.j5 : Nat → List (S60) → Bool → List (S60) → List (S60) → Bool → Option (Bool)
 | 0, _, _, _, _, _ => none
 | k + 1, x1, x9, x13, x15, x167 => if x167 = true then (some false) else ((past_Join.f k x15 x1).bind fun bt437 => (if x9 = true then (if bt437.2 = 0 then ((tributarykit_SameSpans.f k bt437.1 x13).bind fun t441 => (if t441 = true then ((past_Count.f k x15).bind fun t442 => ((past_Count.f k x1).bind fun t443 => ((past_Count.f k x13).bind fun t444 => (some ((wrap64 (t442 + t443)) == t444))))) else (some false))) else (some false)) else (some false)))
def tributarylaw07_PastHas.j0 : Nat → List (S60) → List (S60) → List (S41) → Bool → List (S60) → Bool → Int → Int → Option (Bool)
 | 0, _, _, _, _, _, _, _, _ => none
 | k + 1, x0, x1, x2, x9, x10, x44, x395000, x395001 => if x44 = true then (some false) else (tributarylaw07_PastHas.l0 k x0 x1 x2 x9 x10 0 x395000 x395001)
def tributarylaw07_PastHas.l0 : Nat → List (S60) → List (S60) → List (S41) → Bool → List (S60) → Int → Int → Int → Option (Bool)
 | 0, _, _, _, _, _, _, _, _ => none
 | k + 1, x0, x1, x2, x9, x10, x12, x395000, x395001 => if x12 < (x2.length : Int) then (if 0 ≤ x12 then ((past_Has.f k x10 ((rd_T41 x2 x12).f0) ((rd_T41 x2 x12).f1)).bind fun t407 => (if t407 = true then ((past_Last.f k x10 ((rd_T41 x2 x12).f0)).bind fun t409 => (if t409 < ((rd_T41 x2 x12).f1) then (some false) else (tributarylaw07_PastHas.l0 k x0 x1 x2 x9 x10 (wrap64 (x12 + 1)) x395000 x395001))) else (some false))) else (none)) else (tributarylaw07_PastHas.j2 k x0 x1 x9 x395000 x395001)
end
def tributarylaw07_PastHas.f (k : Nat) (l0 : List (S60)) (l1 : List (S60)) (l2 : List (S41)) (a3_0 : Int) (a3_1 : Int) : Option (Bool) := (tributarylaw07_PastKnown.f k).bind fun t395 => ((tributarylaw07_long.f l0 l1 l2).bind fun t396 => (if t396 = true then (some t395) else ((past_Of.f l2).bind fun bt397 => (if bt397.2 = 0 then ((past_Check.f k bt397.1).bind fun t401 => (if t401 = 0 then ((past_Count.f k bt397.1).bind fun t402 => ((dot_Sort.f l2).bind fun t403 => (tributarylaw07_PastHas.j0 k l0 l1 l2 t395 bt397.1 (t402 != (t403.length : Int)) a3_0 a3_1))) else (tributarylaw07_PastHas.j0 k l0 l1 l2 t395 bt397.1 true a3_0 a3_1))) else (tributarylaw07_PastHas.j2 k l0 l1 t395 a3_0 a3_1)))))
def tributarylaw07_PastHas.T11 : Bool × List (List Nat × List Nat) := (true, [([], []), ([], []), ([], []), ([1, 2], [1, 2]), ([3], [3]), ([0, 4], [0, 4]), ([5], [5]), ([6, 5], [6]), ([7], [7]), ([7], [7]), ([7], [7]), ([9, 10, 7], [7, 9, 10]), ([11, 7], [7, 11]), ([12, 7], [7, 12]), ([8, 13, 7, 7], [7, 8, 13]), ([7], [7]), ([7], [7]), ([15, 16, 7], [7, 15, 16]), ([17, 7], [7, 17]), ([18, 7], [7, 18]), ([14, 19, 7], [7, 14, 19]), ([7, 20], [7, 20])])
def tributarylaw07_PastHas.B11 : List Nat := [0, 0, 0, 6, 14, 31, 63, 127, 255, 255, 255, 1791, 3839, 7935, 16383, 255, 255, 98559, 229631, 491775, 1048575, 2097151]
theorem tributarylaw07_PastHas.tab11 : rtab .any (opsOf Try.f8 11) = tributarylaw07_PastHas.T11 := by kernel_rfl
theorem tributarylaw07_PastHas.bits11 : waitsOk tributarylaw07_PastHas.T11.2 tributarylaw07_PastHas.B11 = true := by kernel_rfl
def tributarylaw07_PastHas.T19 : Bool × List (List Nat × List Nat) := (true, [([], []), ([], []), ([0, 1], [0, 1]), ([], []), ([], []), ([3, 4, 2], [3, 4]), ([2, 5, 0, 1, 2], [2]), ([5, 6, 0, 1, 2, 3, 4, 5, 6], [5])])
def tributarylaw07_PastHas.B19 : List Nat := [0, 0, 3, 0, 0, 31, 63, 127]
theorem tributarylaw07_PastHas.tab19 : rtab .any (opsOf Try.f8 19) = tributarylaw07_PastHas.T19 := by kernel_rfl
theorem tributarylaw07_PastHas.bits19 : waitsOk tributarylaw07_PastHas.T19.2 tributarylaw07_PastHas.B19 = true := by kernel_rfl
theorem mt_false : (some false : Option Bool) ≠ some true := by decide
theorem mt_none : (none : Option Bool) ≠ some true := by decide
theorem mt_bind {α : Type} {a : Option α} {f : α → Option Bool} (h : ∀ x, f x ≠ some true) : a.bind f ≠ some true := by
  cases a with
  | none => exact mt_none
  | some x => exact h x
theorem mt_iff {a b : Option Bool} (h : b ≠ some true) : (if false = true then a else b) ≠ some true := by rwa [if_neg (by decide)]
theorem mt_ite {c : Prop} [Decidable c] {a b : Option Bool} (ha : a ≠ some true) (hb : b ≠ some true) : (if c then a else b) ≠ some true := by split <;> assumption
theorem tributarylaw07_PastHas.j0_nt0 : ∀ k y0 y1 y2 y3 y4 y6 y7, tributarylaw07_PastHas.j0 k y0 y1 y2 y3 y4 true y6 y7 ≠ some true := by
  intro k y0 y1 y2 y3 y4 y6 y7
  cases k with
  | zero => unfold tributarylaw07_PastHas.j0; exact mt_none
  | succ k =>
    unfold tributarylaw07_PastHas.j0
    repeat' first
      | exact mt_false
      | refine mt_iff ?_
      | refine mt_ite ?_ ?_
      | refine mt_bind (fun _ => ?_)
theorem tributarylaw07_PastHas.j5_nt1 : ∀ k y0 y1 y2 y3, tributarylaw07_PastHas.j5 k y0 y1 y2 y3 true ≠ some true := by
  intro k y0 y1 y2 y3
  cases k with
  | zero => unfold tributarylaw07_PastHas.j5; exact mt_none
  | succ k =>
    unfold tributarylaw07_PastHas.j5
    repeat' first
      | exact mt_false
      | exact tributarylaw07_PastHas.j0_nt0 _ _ _ _ _ _ _ _
      | refine mt_iff ?_
      | refine mt_ite ?_ ?_
      | refine mt_bind (fun _ => ?_)
theorem tributarylaw07_PastHas.j4_nt2 : ∀ k y0 y1 y2 y3 y4 y6 y7, tributarylaw07_PastHas.j4 k y0 y1 y2 y3 y4 true y6 y7 ≠ some true := by
  intro k y0 y1 y2 y3 y4 y6 y7
  cases k with
  | zero => unfold tributarylaw07_PastHas.j4; exact mt_none
  | succ k =>
    unfold tributarylaw07_PastHas.j4
    repeat' first
      | exact mt_false
      | exact tributarylaw07_PastHas.j0_nt0 _ _ _ _ _ _ _ _
      | exact tributarylaw07_PastHas.j5_nt1 _ _ _ _ _
      | refine mt_iff ?_
      | refine mt_ite ?_ ?_
      | refine mt_bind (fun _ => ?_)
set_option maxHeartbeats 8000000 in
set_option maxRecDepth 100000 in
theorem tributarylaw07_PastHas.calls (k : Nat) (A0 : Option Addr) (c0 : Nat) (l0 : List (S60)) (A1 : Option Addr) (c1 : Nat) (l1 : List (S60)) (A2 : Option Addr) (c2 : Nat) (l2 : List (S41)) (a3_0 : Int) (a3_1 : Int) (r : Bool) (w : World) (hr0 : Kd.C k60 w A0 l0.length l0) (hc0 : l0.length ≤ c0) (hr1 : Kd.C k60 w A1 l1.length l1) (hc1 : l1.length ≤ c1) (hr2 : Kd.C k41 w A2 l2.length l2) (hc2 : l2.length ≤ c2) (h : tributarylaw07_PastHas.f k l0 l1 l2 a3_0 a3_1 = some r) (hr : r = true) :
  Calls Try.prog 8 #[.slice A0 l0.length c0, .slice A1 l1.length c1, .slice A2 l2.length c2, .agg #[.int .i64 a3_0, .int .i64 a3_1]] w fun e w' => e = .returned (.bool r) ∧ Below w.heap.size w w' := by
 have hu41 := Try.underlying41
 have HR0 := Aside0.mk hr0
 have HC0 := Aside0.mk hc0
 clear hr0 hc0
 have HR1 := Aside0.mk hr1
 have HC1 := Aside0.mk hc1
 clear hr1 hc1
 have HR2 := Aside0.mk hr2
 have HC2 := Aside0.mk hc2
 clear hr2 hc2
 have HR := Aside0.mk hr
 clear hr
 have HB := Aside0.mk (Below.refl w.heap.size w)
 have H : ((tributarylaw07_PastKnown.f k).bind fun t395 => ((tributarylaw07_long.f l0 l1 l2).bind fun t396 => (if t396 = true then (some t395) else ((past_Of.f l2).bind fun bt397 => (if bt397.2 = 0 then ((past_Check.f k bt397.1).bind fun t401 => (if t401 = 0 then ((past_Count.f k bt397.1).bind fun t402 => ((dot_Sort.f l2).bind fun t403 => (tributarylaw07_PastHas.j0 k l0 l1 l2 t395 bt397.1 (t402 != (t403.length : Int)) a3_0 a3_1))) else (tributarylaw07_PastHas.j0 k l0 l1 l2 t395 bt397.1 true a3_0 a3_1))) else (tributarylaw07_PastHas.j2 k l0 l1 t395 a3_0 a3_1)))))) = some r := h
 clear h
 replace H := Option.bind_eq_some_iff.mp H
 obtain ⟨t395, A50, H⟩ := H
 replace H : ((tributarylaw07_long.f l0 l1 l2).bind fun t396 => (if t396 = true then (some t395) else ((past_Of.f l2).bind fun bt397 => (if bt397.2 = 0 then ((past_Check.f k bt397.1).bind fun t401 => (if t401 = 0 then ((past_Count.f k bt397.1).bind fun t402 => ((dot_Sort.f l2).bind fun t403 => (tributarylaw07_PastHas.j0 k l0 l1 l2 t395 bt397.1 (t402 != (t403.length : Int)) a3_0 a3_1))) else (tributarylaw07_PastHas.j0 k l0 l1 l2 t395 bt397.1 true a3_0 a3_1))) else (tributarylaw07_PastHas.j2 k l0 l1 t395 a3_0 a3_1))))) = some r := H
 have A5 := Aside0.mk A50
 clear A50
 replace H := Option.bind_eq_some_iff.mp H
 obtain ⟨t396, A60, H⟩ := H
 replace H : (if t396 = true then (some t395) else ((past_Of.f l2).bind fun bt397 => (if bt397.2 = 0 then ((past_Check.f k bt397.1).bind fun t401 => (if t401 = 0 then ((past_Count.f k bt397.1).bind fun t402 => ((dot_Sort.f l2).bind fun t403 => (tributarylaw07_PastHas.j0 k l0 l1 l2 t395 bt397.1 (t402 != (t403.length : Int)) a3_0 a3_1))) else (tributarylaw07_PastHas.j0 k l0 l1 l2 t395 bt397.1 true a3_0 a3_1))) else (tributarylaw07_PastHas.j2 k l0 l1 t395 a3_0 a3_1)))) = some r := H
 have A6 := Aside0.mk A60
 clear A60
 by_cases c7 : t396 = true
 ·
  subst c7
  have H1 : (some t395) = some r := by rw [if_pos rfl] at H; exact H
  clear H
  have H := H1
  clear H1
  obtain rfl := Option.some.inj H
  go_enter Try.func8, Try.ntmps8
  go_wp2_with (first | ((with_reducible refine gate_dst (N := 7) rfl ?_); (try (refine gate_guard (by rfl) ?_; dsimp only)); refine box_event ?hg (N := 7) ?hd (cs := #[.int .i64 a3_0, .int .i64 a3_1]) (t := 41) ?hr ?_; (case hd => rfl); (case hg => rfl); (case hr => first | (go_simp; done) | (go_simp; rfl)); intro gb394 hg w8 hbox hb; have n0_ := Aside0.mk (below_step (by repeat (first | (with_reducible first | exact HB.out | apply below_alloc | apply pw_below_drewN | apply below_drew1) | exact HB.out)) hb); have n1_ := Aside0.mk (hbox); have n2_ := Aside0.mk ((by rw [hg]; exact (below_size (by repeat (first | (with_reducible first | exact HB.out | apply below_alloc | apply pw_below_drewN | apply below_drew1) | exact HB.out))) : w.heap.size ≤ gb394)); have n3_ := Aside0.mk ((by rw [hg]; exact (below_size (by repeat (first | (with_reducible first | exact HB.out | apply below_alloc | apply pw_below_drewN | apply below_drew1) | exact HB.out))) : w.heap.size ≤ gb394)); clear HB; have HB := n0_; have BK394 := n1_; have GW394 := n2_; have GE394 := n3_; clear n0_ n1_ n2_ n3_; clear hb hbox hg) | ((with_reducible refine gate_callee (f := 7) rfl ?_); refine goesL_ (some 21) rfl rfl Try.func7 (by kernel_rfl) rfl #[] rfl (by (try simp only [List.map_toArray, List.map_cons, List.map_nil]); first | done | rfl | (simp only [List.length_drop, List.length_take]; rfl)) ?_; (with_reducible refine (tributarylaw07_PastKnown.calls k  t395 _ A5.out).mono ?_); rintro e w9 ⟨rfl, hb⟩; refine ⟨_, rfl, ?_⟩; have n0_ := Aside0.mk (blk_below (g := gb394) (o := .cells #[.int .i64 a3_0, .int .i64 a3_1] 41 (0, 0)) (by (with_reducible repeat (first | refine blk_drewN ?_ _ | refine blk_drew ?_ | refine blk_alloc ?_ _)); exact BK394.out) hb); have n1_ := Aside0.mk (below_step (by repeat (first | (with_reducible first | exact HB.out | apply below_alloc | apply pw_below_drewN | apply below_drew1 | refine below_set ?_ GE394.out) | exact HB.out)) hb); clear BK394; clear HB; have BK394 := n0_; have HB := n1_; clear n0_ n1_; (try clear hb); (try clear hb2); (try clear hk); (try clear hi)) | ((with_reducible refine gate_callee (f := 9) rfl ?_); refine goesL_ (some 25) rfl rfl Try.func9 (by kernel_rfl) rfl #[.slice A0 l0.length c0, .slice A1 l1.length c1, .slice A2 l2.length c2] rfl (by (try simp only [List.map_toArray, List.map_cons, List.map_nil]); first | done | rfl | (simp only [List.length_drop, List.length_take]; rfl)) ?_; (with_reducible refine (tributarylaw07_long.calls _ _ l0 _ _ l1 _ _ l2 true _ ?side1 ?side2 ?side3 ?side4 ?side5 ?side6 A6.out).mono ?_); (case side1 => repeat (first | exact (Kd.C_below HR0.out HB.out) | (with_reducible refine Kd.C_alloc ?_ _) | (with_reducible refine Kd.C_drewN ?_ _) | (with_reducible refine Kd.C_drew ?_))); (case side2 => exact HC0.out); (case side3 => repeat (first | exact (Kd.C_below HR1.out HB.out) | (with_reducible refine Kd.C_alloc ?_ _) | (with_reducible refine Kd.C_drewN ?_ _) | (with_reducible refine Kd.C_drew ?_))); (case side4 => exact HC1.out); (case side5 => repeat (first | exact (Kd.C_below HR2.out HB.out) | (with_reducible refine Kd.C_alloc ?_ _) | (with_reducible refine Kd.C_drewN ?_ _) | (with_reducible refine Kd.C_drew ?_))); (case side6 => exact HC2.out); rintro e w' ⟨rfl, ⟨nd, rfl⟩⟩; refine ⟨_, rfl, ?_⟩))
  go_ret
  exact ⟨by first | rfl | (simp [errW_none, errW_some] <;> rfl) | (simp [*, errW_none, errW_some] <;> rfl), by repeat (first | (with_reducible first | exact HB.out | apply below_alloc | apply pw_below_drewN | apply below_drew1 | refine below_set ?_ GE394.out) | exact HB.out)⟩
 ·
  replace c7 := Bool.eq_false_iff.mpr c7
  subst c7
  have H1 : ((past_Of.f l2).bind fun bt397 => (if bt397.2 = 0 then ((past_Check.f k bt397.1).bind fun t401 => (if t401 = 0 then ((past_Count.f k bt397.1).bind fun t402 => ((dot_Sort.f l2).bind fun t403 => (tributarylaw07_PastHas.j0 k l0 l1 l2 t395 bt397.1 (t402 != (t403.length : Int)) a3_0 a3_1))) else (tributarylaw07_PastHas.j0 k l0 l1 l2 t395 bt397.1 true a3_0 a3_1))) else (tributarylaw07_PastHas.j2 k l0 l1 t395 a3_0 a3_1))) = some r := by rw [if_neg (show ¬ (false = true) by decide)] at H; exact H
  clear H
  have H := H1
  clear H1
  replace H := Option.bind_eq_some_iff.mp H
  obtain ⟨⟨t397, t398⟩, A100, H⟩ := H
  replace H : (if t398 = 0 then ((past_Check.f k t397).bind fun t401 => (if t401 = 0 then ((past_Count.f k t397).bind fun t402 => ((dot_Sort.f l2).bind fun t403 => (tributarylaw07_PastHas.j0 k l0 l1 l2 t395 t397 (t402 != (t403.length : Int)) a3_0 a3_1))) else (tributarylaw07_PastHas.j0 k l0 l1 l2 t395 t397 true a3_0 a3_1))) else (tributarylaw07_PastHas.j2 k l0 l1 t395 a3_0 a3_1)) = some r := H
  have A10 := Aside0.mk A100
  clear A100
  have HC11 := Aside0.mk H
  clear H
  go_enter Try.func8, Try.ntmps8
  go_upto_if 33 with (first | ((with_reducible refine gate_dst (N := 7) rfl ?_); (try (refine gate_guard (by rfl) ?_; dsimp only)); refine box_event ?hg (N := 7) ?hd (cs := #[.int .i64 a3_0, .int .i64 a3_1]) (t := 41) ?hr ?_; (case hd => rfl); (case hg => rfl); (case hr => first | (go_simp; done) | (go_simp; rfl)); intro gb394 hg w12 hbox hb; have n0_ := Aside0.mk (below_step (by repeat (first | (with_reducible first | exact HB.out | apply below_alloc | apply pw_below_drewN | apply below_drew1) | exact HB.out)) hb); have n1_ := Aside0.mk (hbox); have n2_ := Aside0.mk ((by rw [hg]; exact (below_size (by repeat (first | (with_reducible first | exact HB.out | apply below_alloc | apply pw_below_drewN | apply below_drew1) | exact HB.out))) : w.heap.size ≤ gb394)); have n3_ := Aside0.mk ((by rw [hg]; exact (below_size (by repeat (first | (with_reducible first | exact HB.out | apply below_alloc | apply pw_below_drewN | apply below_drew1) | exact HB.out))) : w.heap.size ≤ gb394)); clear HB; have HB := n0_; have BK394 := n1_; have GW394 := n2_; have GE394 := n3_; clear n0_ n1_ n2_ n3_; clear hb hbox hg) | ((with_reducible refine gate_callee (f := 7) rfl ?_); refine goesL_ (some 21) rfl rfl Try.func7 (by kernel_rfl) rfl #[] rfl (by (try simp only [List.map_toArray, List.map_cons, List.map_nil]); first | done | rfl | (simp only [List.length_drop, List.length_take]; rfl)) ?_; (with_reducible refine (tributarylaw07_PastKnown.calls k  t395 _ A5.out).mono ?_); rintro e w13 ⟨rfl, hb⟩; refine ⟨_, rfl, ?_⟩; have n0_ := Aside0.mk (blk_below (g := gb394) (o := .cells #[.int .i64 a3_0, .int .i64 a3_1] 41 (0, 0)) (by (with_reducible repeat (first | refine blk_drewN ?_ _ | refine blk_drew ?_ | refine blk_alloc ?_ _)); exact BK394.out) hb); have n1_ := Aside0.mk (below_step (by repeat (first | (with_reducible first | exact HB.out | apply below_alloc | apply pw_below_drewN | apply below_drew1 | refine below_set ?_ GE394.out) | exact HB.out)) hb); clear BK394; clear HB; have BK394 := n0_; have HB := n1_; clear n0_ n1_; (try clear hb); (try clear hb2); (try clear hk); (try clear hi)) | ((with_reducible refine gate_callee (f := 9) rfl ?_); refine goesL_ (some 25) rfl rfl Try.func9 (by kernel_rfl) rfl #[.slice A0 l0.length c0, .slice A1 l1.length c1, .slice A2 l2.length c2] rfl (by (try simp only [List.map_toArray, List.map_cons, List.map_nil]); first | done | rfl | (simp only [List.length_drop, List.length_take]; rfl)) ?_; (with_reducible refine (tributarylaw07_long.calls _ _ l0 _ _ l1 _ _ l2 false _ ?side1 ?side2 ?side3 ?side4 ?side5 ?side6 A6.out).mono ?_); (case side1 => repeat (first | exact (Kd.C_below HR0.out HB.out) | (with_reducible refine Kd.C_alloc ?_ _) | (with_reducible refine Kd.C_drewN ?_ _) | (with_reducible refine Kd.C_drew ?_))); (case side2 => exact HC0.out); (case side3 => repeat (first | exact (Kd.C_below HR1.out HB.out) | (with_reducible refine Kd.C_alloc ?_ _) | (with_reducible refine Kd.C_drewN ?_ _) | (with_reducible refine Kd.C_drew ?_))); (case side4 => exact HC1.out); (case side5 => repeat (first | exact (Kd.C_below HR2.out HB.out) | (with_reducible refine Kd.C_alloc ?_ _) | (with_reducible refine Kd.C_drewN ?_ _) | (with_reducible refine Kd.C_drew ?_))); (case side6 => exact HC2.out); rintro e w' ⟨rfl, ⟨nd, rfl⟩⟩; refine ⟨_, rfl, ?_⟩) | ((with_reducible refine gate_callee (f := 31) rfl ?_); refine goesL_ (some 29) rfl rfl Try.func31 (by kernel_rfl) rfl #[.slice A2 l2.length c2] rfl (by (try simp only [List.map_toArray, List.map_cons, List.map_nil]); first | done | rfl | (simp only [List.length_drop, List.length_take]; rfl)) ?_; (with_reducible refine (past_Of.calls _ _ l2 t397 t398 _ ?side1 ?side2 A10.out).mono ?_); (case side1 => repeat (first | exact (Kd.C_below HR2.out (by repeat (first | (with_reducible first | exact HB.out | apply below_alloc | apply pw_below_drewN | apply below_drew1 | refine below_set ?_ GE394.out) | exact HB.out))) | (with_reducible refine Kd.C_alloc ?_ _) | (with_reducible refine Kd.C_drewN ?_ _) | (with_reducible refine Kd.C_drew ?_))); (case side2 => exact HC2.out); rintro e w14 ⟨v399, rfl, ho0, hb⟩; refine ⟨_, rfl, ?_⟩; have n0_ := Aside0.mk (Kd.R_lower ho0 (below_size (by repeat (first | (with_reducible first | exact HB.out | apply below_alloc | apply pw_below_drewN | apply below_drew1 | refine below_set ?_ GE394.out) | exact HB.out)))); have n1_ := Aside0.mk (blk_below (g := gb394) (o := .cells #[.int .i64 a3_0, .int .i64 a3_1] 41 (0, 0)) (by (with_reducible repeat (first | refine blk_drewN ?_ _ | refine blk_drew ?_ | refine blk_alloc ?_ _)); exact BK394.out) hb); have n2_ := Aside0.mk (below_step (by repeat (first | (with_reducible first | exact HB.out | apply below_alloc | apply pw_below_drewN | apply below_drew1 | refine below_set ?_ GE394.out) | exact HB.out)) hb); clear BK394; clear HB; have HO400 := n0_; have BK394 := n1_; have HB := n2_; clear n0_ n1_ n2_; (try clear hb); (try clear hb2); (try clear hk); (try clear hi); (try clear ho0)))
  (try simp only [Act.put, List.setIfInBounds_toArray, List.set_cons_zero, List.set_cons_succ])
  go_cut [] (fun wc => ∃ (kq : Nat), Aside0 (tributarylaw07_PastHas.j2 kq l0 l1 t395 a3_0 a3_1 = some r) ∧ Aside0 (kq ≤ k) ∧ Aside0 (wc.heap[gb394]? = some (.cells #[.int .i64 a3_0, .int .i64 a3_1] 41 (0, 0))) ∧ Aside0 (Below w.heap.size w wc))
  case first =>
   have H := HC11.out
   clear HC11
   by_cases c15 : t398 = 0
   ·
    rw [if_pos c15] at H
    have c15b0 : (t398 == 0) = true := beq_iff_eq.mpr c15
    have c15b1 : (t398 != 0) = false := bne_eq_false_iff_eq.mpr c15
    clear c15
    (first | rw [c15b0] | (simp only [i64_w, i32_w]; rw [c15b0]) | skip)
    have HC16 := Aside0.mk H
    clear H
    go_upto_region 6 with (fail)
    go_cut [44] (fun v44 wc => ∃ (kq : Nat) (x44_15 : Bool), v44 = .bool x44_15 ∧ Aside0 (tributarylaw07_PastHas.j0 kq l0 l1 l2 t395 t397 x44_15 a3_0 a3_1 = some r) ∧ Aside0 (kq ≤ k) ∧ Aside0 (Kd.R k60 60 wc w.heap.size (fun _ => True) v399 t397) ∧ Aside0 (wc.heap[gb394]? = some (.cells #[.int .i64 a3_0, .int .i64 a3_1] 41 (0, 0))) ∧ Aside0 (Below w.heap.size w wc))
    case first =>
     have H := HC16.out
     clear HC16
     replace H := Option.bind_eq_some_iff.mp H
     obtain ⟨t401, A170, H⟩ := H
     replace H : (if t401 = 0 then ((past_Count.f k t397).bind fun t402 => ((dot_Sort.f l2).bind fun t403 => (tributarylaw07_PastHas.j0 k l0 l1 l2 t395 t397 (t402 != (t403.length : Int)) a3_0 a3_1))) else (tributarylaw07_PastHas.j0 k l0 l1 l2 t395 t397 true a3_0 a3_1)) = some r := H
     have A17 := Aside0.mk A170
     clear A170
     by_cases c18 : t401 = 0
     ·
      rw [if_pos c18] at H
      have c18b0 : (t401 == 0) = true := beq_iff_eq.mpr c18
      have c18b1 : (t401 != 0) = false := bne_eq_false_iff_eq.mpr c18
      clear c18
      (first | rw [c18b0] | (simp only [i64_w, i32_w]; rw [c18b0]) | skip)
      replace H := Option.bind_eq_some_iff.mp H
      obtain ⟨t402, A190, H⟩ := H
      replace H : ((dot_Sort.f l2).bind fun t403 => (tributarylaw07_PastHas.j0 k l0 l1 l2 t395 t397 (t402 != (t403.length : Int)) a3_0 a3_1)) = some r := H
      have A19 := Aside0.mk A190
      clear A190
      replace H := Option.bind_eq_some_iff.mp H
      obtain ⟨t403, A200, H⟩ := H
      replace H : (tributarylaw07_PastHas.j0 k l0 l1 l2 t395 t397 (t402 != (t403.length : Int)) a3_0 a3_1) = some r := H
      have A20 := Aside0.mk A200
      clear A200
      have H' := Aside0.mk H
      clear H
      obtain ⟨Ao21, co21, eo21⟩ := Kd.R_slice HO400.out
      subst eo21
      go_wp2_with (first | ((with_reducible refine gate_callee (f := 38) rfl ?_); refine goesL_ (some 35) rfl rfl Try.func38 (by kernel_rfl) rfl #[.slice Ao21 t397.length co21] rfl (by (try simp only [List.map_toArray, List.map_cons, List.map_nil]); first | done | rfl | (simp only [List.length_drop, List.length_take]; rfl)) ?_; (with_reducible refine (past_Check.calls k _ _ t397 t401 _ ?side1 ?side2 A17.out).mono ?_); (case side1 => repeat (first | exact (Kd.R_reads' HO400.out).2.2 | (with_reducible refine Kd.C_alloc ?_ _) | (with_reducible refine Kd.C_drewN ?_ _) | (with_reducible refine Kd.C_drew ?_))); (case side2 => exact (Kd.R_reads' HO400.out).2.1); rintro e w22 ⟨rfl, hb⟩; refine ⟨_, rfl, ?_⟩; have n0_ := Aside0.mk (Kd.R_below (lf HO400.out) hb); have n1_ := Aside0.mk (blk_below (g := gb394) (o := .cells #[.int .i64 a3_0, .int .i64 a3_1] 41 (0, 0)) (by (with_reducible repeat (first | refine blk_drewN ?_ _ | refine blk_drew ?_ | refine blk_alloc ?_ _)); exact BK394.out) hb); have n2_ := Aside0.mk (below_step (by repeat (first | (with_reducible first | exact HB.out | apply below_alloc | apply pw_below_drewN | apply below_drew1 | refine below_set ?_ GE394.out) | exact HB.out)) hb); clear HO400; clear BK394; clear HB; have HO400 := n0_; have BK394 := n1_; have HB := n2_; clear n0_ n1_ n2_; (try clear hb); (try clear hb2); (try clear hk); (try clear hi)) | (go_at_call 26; (with_reducible refine (past_Count.calls k _ _ t397 t402 _ ?side1 ?side2 A19.out).mono ?_); (case side1 => repeat (first | exact (Kd.R_reads' HO400.out).2.2 | (with_reducible refine Kd.C_alloc ?_ _) | (with_reducible refine Kd.C_drewN ?_ _) | (with_reducible refine Kd.C_drew ?_))); (case side2 => exact (Kd.R_reads' HO400.out).2.1); rintro e w23 ⟨rfl, hb⟩; have n0_ := Aside0.mk (Kd.R_below (lf HO400.out) hb); have n1_ := Aside0.mk (blk_below (g := gb394) (o := .cells #[.int .i64 a3_0, .int .i64 a3_1] 41 (0, 0)) (by (with_reducible repeat (first | refine blk_drewN ?_ _ | refine blk_drew ?_ | refine blk_alloc ?_ _)); exact BK394.out) hb); have n2_ := Aside0.mk (below_step (by repeat (first | (with_reducible first | exact HB.out | apply below_alloc | apply pw_below_drewN | apply below_drew1 | refine below_set ?_ GE394.out) | exact HB.out)) hb); clear HO400; clear BK394; clear HB; have HO400 := n0_; have BK394 := n1_; have HB := n2_; clear n0_ n1_ n2_; (try clear hb); (try clear hb2); (try clear hk); (try clear hi)) | (go_at_call 45; (with_reducible refine (dot_Sort.calls _ _ l2 t403 _ ?side1 ?side2 A20.out).mono ?_); (case side1 => repeat (first | exact (Kd.C_below HR2.out HB.out) | (with_reducible refine Kd.C_alloc ?_ _) | (with_reducible refine Kd.C_drewN ?_ _) | (with_reducible refine Kd.C_drew ?_))); (case side2 => exact HC2.out); rintro e w24 ⟨v404, rfl, ho0, hb⟩; have n0_ := Aside0.mk (Kd.R_below (lf HO400.out) hb); have n1_ := Aside0.mk (Kd.R_lower (Kd.R_newB ho0 (g := gb394) (o := .cells #[.int .i64 a3_0, .int .i64 a3_1] 41 (0, 0)) (by (with_reducible repeat (first | refine blk_drewN ?_ _ | refine blk_drew ?_ | refine blk_alloc ?_ _)); exact BK394.out)) (below_size (by repeat (first | (with_reducible first | exact HB.out | apply below_alloc | apply pw_below_drewN | apply below_drew1 | refine below_set ?_ GE394.out) | exact HB.out)))); have n2_ := Aside0.mk (blk_below (g := gb394) (o := .cells #[.int .i64 a3_0, .int .i64 a3_1] 41 (0, 0)) (by (with_reducible repeat (first | refine blk_drewN ?_ _ | refine blk_drew ?_ | refine blk_alloc ?_ _)); exact BK394.out) hb); have n3_ := Aside0.mk (below_step (by repeat (first | (with_reducible first | exact HB.out | apply below_alloc | apply pw_below_drewN | apply below_drew1 | refine below_set ?_ GE394.out) | exact HB.out)) hb); clear HO400; clear BK394; clear HB; have HO400 := n0_; have HO405 := n1_; have BK394 := n2_; have HB := n3_; clear n0_ n1_ n2_ n3_; (try clear hb); (try clear hb2); (try clear hk); (try clear hi); (try clear ho0); obtain ⟨Ao25, co25, eo25⟩ := Kd.R_slice HO405.out; subst eo25))
      go_meet
      case rel => exact ⟨_, ((t402 != (t403.length : Int))), (by first | rfl | (simp; done) | (simp [*]; done)), H', ⟨by first | omega | exact Nat.le_refl _⟩, ⟨by (with_reducible repeat (first | apply Kd.R_alloc | apply Kd.R_drewN | apply Kd.R_drew)); exact HO400.out⟩, ⟨by (with_reducible repeat (first | refine blk_drewN ?_ _ | refine blk_drew ?_ | refine blk_alloc ?_ _)); exact BK394.out⟩, ⟨by repeat (first | (with_reducible first | exact HB.out | apply below_alloc | apply pw_below_drewN | apply below_drew1 | refine below_set ?_ GE394.out) | exact HB.out)⟩⟩
     · rw [if_neg c18] at H
       exact absurd (H.trans (congrArg some HR.out)) (by with_reducible repeat' first | exact mt_false | exact mt_none | exact tributarylaw07_PastHas.j0_nt0 _ _ _ _ _ _ _ _ | exact tributarylaw07_PastHas.j5_nt1 _ _ _ _ _ | exact tributarylaw07_PastHas.j4_nt2 _ _ _ _ _ _ _ _ | refine mt_iff ?_ | refine mt_ite ?_ ?_ | refine mt_bind (fun _ => ?_))
    case rest =>
     clear HC16
     try clear c1; try clear c2; try clear p2; try clear c3; try clear c7; try clear c8; try clear c9; try clear c15; try clear c15b0; try clear c15b1; try clear c18; try clear c18b0; try clear c18b1
     obtain ⟨kq, x44_15, rfl, HA, HJ15, HO_10, BK394, HB⟩ := hcut
     cases kq with
     | zero => exact absurd HA.out (by simp [tributarylaw07_PastHas.j0])
     | succ kj15 =>
      have H := HA.out
      clear HA
      simp only [tributarylaw07_PastHas.j0] at H
      by_cases c28 : x44_15 = true
      · subst c28
        have H1 : (some false) = some r := by rw [if_pos rfl] at H; exact H
        clear H
        have H := H1
        clear H1
        exact absurd (H.trans (congrArg some HR.out)) (by with_reducible repeat' first | exact mt_false | exact mt_none | exact tributarylaw07_PastHas.j0_nt0 _ _ _ _ _ _ _ _ | exact tributarylaw07_PastHas.j5_nt1 _ _ _ _ _ | exact tributarylaw07_PastHas.j4_nt2 _ _ _ _ _ _ _ _ | refine mt_iff ?_ | refine mt_ite ?_ ?_ | refine mt_bind (fun _ => ?_))
      ·
       replace c28 := Bool.eq_false_iff.mpr c28
       subst c28
       have H1 : (tributarylaw07_PastHas.l0 kj15 l0 l1 l2 t395 t397 0 a3_0 a3_1) = some r := by rw [if_neg (show ¬ (false = true) by decide)] at H; exact H
       clear H
       have H := H1
       clear H1
       have H' := Aside0.mk H
       clear H
       go_wp2
       go_loopg [12] kj15 (fun kq v12 w' => ∃ (x12_2 : Int), v12 = .int .i64 x12_2 ∧ Aside0 (tributarylaw07_PastHas.l0 kq l0 l1 l2 t395 t397 x12_2 a3_0 a3_1 = some r) ∧ Aside0 (kq ≤ kj15) ∧ Aside0 (Kd.R k60 60 w' w.heap.size (fun _ => True) v399 t397) ∧ Aside0 (w'.heap[gb394]? = some (.cells #[.int .i64 a3_0, .int .i64 a3_1] 41 (0, 0))) ∧ Aside0 (Below w.heap.size w w'))
       case atStart => exact ⟨(0), (by first | rfl | (simp; done) | (simp [*]; done)), H', ⟨Nat.le_refl _⟩, ⟨by (with_reducible repeat (first | apply Kd.R_alloc | apply Kd.R_drewN | apply Kd.R_drew)); exact HO_10.out⟩, ⟨by (with_reducible repeat (first | refine blk_drewN ?_ _ | refine blk_drew ?_ | refine blk_alloc ?_ _)); exact BK394.out⟩, ⟨by repeat (first | (with_reducible first | exact HB.out | apply below_alloc | apply pw_below_drewN | apply below_drew1 | refine below_set ?_ GE394.out) | exact HB.out)⟩⟩
       case round =>
        clear H'
        try clear c1; try clear c2; try clear p2; try clear c3; try clear c7; try clear c8; try clear c9; try clear c15; try clear c15b0; try clear c15b1; try clear c18; try clear c18b0; try clear c18b1; try clear c28; try clear p2
        obtain ⟨x12_2, rfl, HA, HK2, HO_10, BK394, HB⟩ := hrel
        cases gk with
        | zero => exact absurd HA.out (by simp [tributarylaw07_PastHas.l0])
        | succ k2 =>
         have H := HA.out
         clear HA
         simp only [tributarylaw07_PastHas.l0] at H
         by_cases c29 : x12_2 < (l2.length : Int)
         ·
          rw [if_pos c29] at H
          have c29b0 : decide (x12_2 < (l2.length : Int)) = true := decide_eq_true c29
          clear c29
          by_cases c30 : 0 ≤ x12_2
          ·
           rw [if_pos c30] at H
           have c30b0 : decide (0 ≤ x12_2) = true := decide_eq_true c30
           clear c30
           replace H := Option.bind_eq_some_iff.mp H
           obtain ⟨t407, A310, H⟩ := H
           replace H : (if t407 = true then ((past_Last.f k2 t397 ((rd_T41 l2 x12_2).f0)).bind fun t409 => (if t409 < ((rd_T41 l2 x12_2).f1) then (some false) else (tributarylaw07_PastHas.l0 k2 l0 l1 l2 t395 t397 (wrap64 (x12_2 + 1)) a3_0 a3_1))) else (some false)) = some r := H
           have A31 := Aside0.mk A310
           clear A310
           by_cases c32 : t407 = true
           ·
            subst c32
            have H1 : ((past_Last.f k2 t397 ((rd_T41 l2 x12_2).f0)).bind fun t409 => (if t409 < ((rd_T41 l2 x12_2).f1) then (some false) else (tributarylaw07_PastHas.l0 k2 l0 l1 l2 t395 t397 (wrap64 (x12_2 + 1)) a3_0 a3_1))) = some r := by rw [if_pos rfl] at H; exact H
            clear H
            have H := H1
            clear H1
            replace H := Option.bind_eq_some_iff.mp H
            obtain ⟨t409, A330, H⟩ := H
            replace H : (if t409 < ((rd_T41 l2 x12_2).f1) then (some false) else (tributarylaw07_PastHas.l0 k2 l0 l1 l2 t395 t397 (wrap64 (x12_2 + 1)) a3_0 a3_1)) = some r := H
            have A33 := Aside0.mk A330
            clear A330
            by_cases c34 : t409 < ((rd_T41 l2 x12_2).f1)
            · rw [if_pos c34] at H
              exact absurd (H.trans (congrArg some HR.out)) (by with_reducible repeat' first | exact mt_false | exact mt_none | exact tributarylaw07_PastHas.j0_nt0 _ _ _ _ _ _ _ _ | exact tributarylaw07_PastHas.j5_nt1 _ _ _ _ _ | exact tributarylaw07_PastHas.j4_nt2 _ _ _ _ _ _ _ _ | refine mt_iff ?_ | refine mt_ite ?_ ?_ | refine mt_bind (fun _ => ?_))
            ·
             rw [if_neg c34] at H
             have c34b0 : decide (t409 < ((rd_T41 l2 x12_2).f1)) = false := decide_eq_false c34
             clear c34
             have H' := Aside0.mk H
             clear H
             try go_wp2
             have n0_ := Aside0.mk (Kd.R_drew HO_10.out)
             have n1_ := Aside0.mk (blk_drew BK394.out)
             have n2_ := Aside0.mk (below_drew1 HB.out)
             clear HO_10
             clear BK394
             clear HB
             have HO_10 := n0_
             have BK394 := n1_
             have HB := n2_
             clear n0_ n1_ n2_
             have p406 : 0 ≤ (x12_2 : Int) := of_decide_eq_true (by first | (with_reducible assumption) | assumption)
             have q406 : x12_2 < (l2.length : Int) := of_decide_eq_true (by first | (with_reducible assumption) | assumption)
             obtain ⟨ad406, e406, hx406_0, hx406_1⟩ := at_T41 HR2.out x12_2 p406 q406
             have hw406_1 := hx406_1
             have hw406_0 := hx406_0
             cases e406
             replace hx406_0 := (HB.out.cell (World.block_lt_of_cell? w _ hx406_0)).trans hx406_0
             replace hx406_1 := (HB.out.cell (World.block_lt_of_cell? w _ hx406_1)).trans hx406_1
             replace p406 := eq_true p406
             replace q406 := eq_true q406
             obtain ⟨Ao40, co40, eo40⟩ := Kd.R_slice HO_10.out
             (first | subst eo40 | (injection eo40 with f1_ f2_ f3_; have f4_ := f1_.symm; have f5_ := f3_.symm; clear f1_ f2_ f3_; subst f4_; subst f5_))
             have p408 : 0 ≤ (x12_2 : Int) := of_decide_eq_true (by first | (with_reducible assumption) | assumption)
             have q408 : x12_2 < (l2.length : Int) := of_decide_eq_true (by first | (with_reducible assumption) | assumption)
             obtain ⟨ad408, e408, hx408_0, hx408_1⟩ := at_T41 HR2.out x12_2 p408 q408
             have hw408_1 := hx408_1
             have hw408_0 := hx408_0
             obtain rfl : ad406 = ad408 := (by injection e408)
             replace hx408_0 := (HB.out.cell (World.block_lt_of_cell? w _ hx408_0)).trans hx408_0
             replace hx408_1 := (HB.out.cell (World.block_lt_of_cell? w _ hx408_1)).trans hx408_1
             replace p408 := eq_true p408
             replace q408 := eq_true q408
             have p410 : 0 ≤ (x12_2 : Int) := of_decide_eq_true (by first | (with_reducible assumption) | assumption)
             have q410 : x12_2 < (l2.length : Int) := of_decide_eq_true (by first | (with_reducible assumption) | assumption)
             obtain ⟨ad410, e410, hx410_0, hx410_1⟩ := at_T41 HR2.out x12_2 p410 q410
             have hw410_1 := hx410_1
             have hw410_0 := hx410_0
             obtain rfl : ad406 = ad410 := (by injection e410)
             replace hx410_0 := (HB.out.cell (World.block_lt_of_cell? w _ hx410_0)).trans hx410_0
             replace hx410_1 := (HB.out.cell (World.block_lt_of_cell? w _ hx410_1)).trans hx410_1
             replace p410 := eq_true p410
             replace q410 := eq_true q410
             refine start_ (n := 22) (S := fun w' => w'.cell? (ad406.add ((x12_2).toNat * 2)) = some (.int .i64 ((rd_T41 l2 x12_2).f0)) ∧ w'.cell? ⟨(ad406.add ((x12_2).toNat * 2)).block, (ad406.add ((x12_2).toNat * 2)).off + 1, none⟩ = some (.int .i64 ((rd_T41 l2 x12_2).f1)) ∧ w'.cell? (ad406.add ((x12_2).toNat * 2)) = some (.int .i64 ((rd_T41 l2 x12_2).f0)) ∧ w'.cell? ⟨(ad406.add ((x12_2).toNat * 2)).block, (ad406.add ((x12_2).toNat * 2)).off + 1, none⟩ = some (.int .i64 ((rd_T41 l2 x12_2).f1)) ∧ w'.cell? (ad406.add ((x12_2).toNat * 2)) = some (.int .i64 ((rd_T41 l2 x12_2).f0)) ∧ w'.cell? ⟨(ad406.add ((x12_2).toNat * 2)).block, (ad406.add ((x12_2).toNat * 2)).off + 1, none⟩ = some (.int .i64 ((rd_T41 l2 x12_2).f1))) (ds := []) mkP07LU_0 (by kernel_rfl) rfl rfl ⟨((HB.out.cell (World.block_lt_of_cell? w _ hw406_0)).trans hw406_0), ((HB.out.cell (World.block_lt_of_cell? w _ hw406_1)).trans hw406_1), ((HB.out.cell (World.block_lt_of_cell? w _ hw408_0)).trans hw408_0), ((HB.out.cell (World.block_lt_of_cell? w _ hw408_1)).trans hw408_1), ((HB.out.cell (World.block_lt_of_cell? w _ hw410_0)).trans hw410_0), ((HB.out.cell (World.block_lt_of_cell? w _ hw410_1)).trans hw410_1)⟩ (fun hHeld => ?_); refine with_tabW tributarylaw07_PastHas.tab11 tributarylaw07_PastHas.bits11 (fun HT_ HW_ => ?_)
             generalize wr.drew = w39 at HO_10 BK394 HB hx406_0 hx406_1 hx408_0 hx408_1 hx410_0 hx410_1 hHeld ⊢
             refine pure_ (i := 0) (N := some 51) (v := ?_) (a' := ?_) mkP07LU_1 rfl rfl (any_of HT_.out (by kernel_rfl)) (fun _ _ _ h => h) (Or.inl ⟨by rfl, ?_⟩) ?_ ?_
             rotate_left
             ·
              intro w'
              go_simp
              with_reducible rfl
             rotate_left
             ·
              simp only [Act.put, List.setIfInBounds_toArray, List.set_cons_zero, List.set_cons_succ, i64_w, i32_w]
              rfl
             refine pure_ (i := 1) (N := some 52) (v := ?_) (a' := ?_) mkP07LU_2 rfl rfl (any_of HT_.out (by kernel_rfl)) (fun _ _ _ h => h) (Or.inl ⟨by rfl, ?_⟩) ?_ ?_
             rotate_left
             ·
              intro w'
              go_simp
              with_reducible rfl
             rotate_left
             ·
              simp only [Act.put, List.setIfInBounds_toArray, List.set_cons_zero, List.set_cons_succ, i64_w, i32_w]
              rfl
             refine pure_ (i := 2) (N := some 53) (v := ?_) (a' := ?_) mkP07LU_3 rfl rfl (any_of HT_.out (by kernel_rfl)) (fun _ _ _ h => h) (Or.inl ⟨by rfl, ?_⟩) ?_ ?_
             rotate_left
             ·
              intro w'
              go_simp
              with_reducible rfl
             rotate_left
             ·
              simp only [Act.put, List.setIfInBounds_toArray, List.set_cons_zero, List.set_cons_succ, i64_w, i32_w]
              rfl
             refine pure_ (i := 3) (N := some 54) (v := ?_) (a' := ?_) mkP07LU_4 rfl rfl (any_of HT_.out (by kernel_rfl)) (fun _ _ _ h => h) (Or.inl ⟨by rfl, ?_⟩) ?_ ?_
             rotate_left
             ·
              intro w'
              go_simp
              with_reducible rfl
             rotate_left
             ·
              simp only [Act.put, List.setIfInBounds_toArray, List.set_cons_zero, List.set_cons_succ, i64_w, i32_w]
              rfl
             refine take_ (i := 4) (N := some 55) (v := ?_) (a' := ?_) mkP07LU_5 rfl rfl (take_ofW HT_.out HW_.out (by kernel_rfl)) (fun _ _ _ h => h) (Or.inl ⟨by rfl, ?_⟩) hHeld ?_ ?_
             rotate_left
             ·
              rintro w' ⟨s0, s1, s2, s3, s4, s5⟩
              go_simp
              with_reducible rfl
             rotate_left
             ·
              simp only [Act.put, List.setIfInBounds_toArray, List.set_cons_zero, List.set_cons_succ, i64_w, i32_w]
              rfl
             refine one_ (i := 5) (N := some 56) mkP07LU_6 rfl rfl (one_of HT_.out (by kernel_rfl)) (by decide) (fun K hK => ?_)
             refine goes_ Try.func24 (by kernel_rfl) rfl #[.slice Ao40 t397.length co40, .agg #[.int .i64 ((rd_T41 l2 x12_2).f0), .int .i64 ((rd_T41 l2 x12_2).f1)]] (by rfl) rfl rfl (by (try simp only [List.map_toArray, List.map_cons, List.map_nil]); first | done | rfl | (simp only [List.length_drop, List.length_take]; rfl)) ?_
             with_reducible refine (past_Has.calls k2 _ _ t397 ((rd_T41 l2 x12_2).f0) ((rd_T41 l2 x12_2).f1) true _ ?side1 ?side2 A31.out).mono ?_
             (case side1 => repeat (first | exact (Kd.R_reads' HO_10.out).2.2 | (with_reducible refine Kd.C_alloc ?_ _) | (with_reducible refine Kd.C_drewN ?_ _) | (with_reducible refine Kd.C_drew ?_)))
             (case side2 => exact (Kd.R_reads' HO_10.out).2.1)
             rintro e w41 ⟨rfl, hb⟩
             refine ⟨_, rfl, ?_⟩
             have n0_ := Aside0.mk (Kd.R_below (lf HO_10.out) hb)
             have n1_ := Aside0.mk (blk_below (g := gb394) (o := .cells #[.int .i64 a3_0, .int .i64 a3_1] 41 (0, 0)) (by (with_reducible repeat (first | refine blk_drewN ?_ _ | refine blk_drew ?_ | refine blk_alloc ?_ _)); exact BK394.out) hb)
             have n2_ := Aside0.mk (below_step (by repeat (first | (with_reducible first | exact HB.out | apply below_alloc | apply pw_below_drewN | apply below_drew1 | refine below_set ?_ GE394.out) | exact HB.out)) hb)
             clear HO_10
             clear BK394
             clear HB
             have HO_10 := n0_
             have BK394 := n1_
             have HB := n2_
             clear n0_ n1_ n2_
             (try clear hb)
             (try clear hb2)
             (try clear hk)
             (try clear hi)
             refine hK.out _ _ ⟨((HB.out.cell (World.block_lt_of_cell? w _ hw406_0)).trans hw406_0), ((HB.out.cell (World.block_lt_of_cell? w _ hw406_1)).trans hw406_1), ((HB.out.cell (World.block_lt_of_cell? w _ hw408_0)).trans hw408_0), ((HB.out.cell (World.block_lt_of_cell? w _ hw408_1)).trans hw408_1), ((HB.out.cell (World.block_lt_of_cell? w _ hw410_0)).trans hw410_0), ((HB.out.cell (World.block_lt_of_cell? w _ hw410_1)).trans hw410_1)⟩ (fun hHeld => ?_)
             clear hK K
             refine norm_ (a' := ?_) ?_ ?_
             rotate_left
             ·
              show Act.put _ (some 56) _ = _
              simp only [Act.put, List.setIfInBounds_toArray, List.set_cons_zero, List.set_cons_succ, i64_w, i32_w]
              rfl
             refine pure_ (i := 6) (N := some 57) (v := ?_) (a' := ?_) mkP07LU_7 rfl rfl (any_of HT_.out (by kernel_rfl)) (fun _ _ _ h => h) (Or.inl ⟨by rfl, ?_⟩) ?_ ?_
             rotate_left
             ·
              intro w'
              go_simp
              with_reducible rfl
             rotate_left
             ·
              simp only [Act.put, List.setIfInBounds_toArray, List.set_cons_zero, List.set_cons_succ, i64_w, i32_w]
              rfl
             refine pure_ (i := 7) (N := some 58) (v := ?_) (a' := ?_) mkP07LU_8 rfl rfl (any_of HT_.out (by kernel_rfl)) (fun _ _ _ h => h) (Or.inl ⟨by rfl, ?_⟩) ?_ ?_
             rotate_left
             ·
              intro w'
              go_simp
              with_reducible rfl
             rotate_left
             ·
              simp only [Act.put, List.setIfInBounds_toArray, List.set_cons_zero, List.set_cons_succ, i64_w, i32_w]
              rfl
             refine pure_ (i := 8) (N := some 59) (v := ?_) (a' := ?_) mkP07LU_9 rfl rfl (any_of HT_.out (by kernel_rfl)) (fun _ _ _ h => h) (Or.inl ⟨by rfl, ?_⟩) ?_ ?_
             rotate_left
             ·
              intro w'
              go_simp
              with_reducible rfl
             rotate_left
             ·
              simp only [Act.put, List.setIfInBounds_toArray, List.set_cons_zero, List.set_cons_succ, i64_w, i32_w]
              rfl
             refine pure_ (i := 9) (N := some 60) (v := ?_) (a' := ?_) mkP07LU_10 rfl rfl (any_of HT_.out (by kernel_rfl)) (fun _ _ _ h => h) (Or.inl ⟨by rfl, ?_⟩) ?_ ?_
             rotate_left
             ·
              intro w'
              go_simp
              with_reducible rfl
             rotate_left
             ·
              simp only [Act.put, List.setIfInBounds_toArray, List.set_cons_zero, List.set_cons_succ, i64_w, i32_w]
              rfl
             refine pure_ (i := 10) (N := some 61) (v := ?_) (a' := ?_) mkP07LU_11 rfl rfl (any_of HT_.out (by kernel_rfl)) (fun _ _ _ h => h) (Or.inl ⟨by rfl, ?_⟩) ?_ ?_
             rotate_left
             ·
              intro w'
              go_simp
              with_reducible rfl
             rotate_left
             ·
              simp only [Act.put, List.setIfInBounds_toArray, List.set_cons_zero, List.set_cons_succ, i64_w, i32_w]
              rfl
             refine pure_ (i := 11) (N := some 62) (v := ?_) (a' := ?_) mkP07LU_12 rfl rfl (any_of HT_.out (by kernel_rfl)) (fun _ _ _ h => h) (Or.inl ⟨by rfl, ?_⟩) ?_ ?_
             rotate_left
             ·
              intro w'
              go_simp
              with_reducible rfl
             rotate_left
             ·
              simp only [Act.put, List.setIfInBounds_toArray, List.set_cons_zero, List.set_cons_succ, i64_w, i32_w]
              rfl
             refine pure_ (i := 12) (N := some 63) (v := ?_) (a' := ?_) mkP07LU_13 rfl rfl (any_of HT_.out (by kernel_rfl)) (fun _ _ _ h => h) (Or.inl ⟨by rfl, ?_⟩) ?_ ?_
             rotate_left
             ·
              intro w'
              go_simp
              with_reducible rfl
             rotate_left
             ·
              simp only [Act.put, List.setIfInBounds_toArray, List.set_cons_zero, List.set_cons_succ, i64_w, i32_w]
              rfl
             refine pure_ (i := 15) (N := some 66) (v := ?_) (a' := ?_) mkP07LU_14 rfl rfl (any_of HT_.out (by kernel_rfl)) (fun _ _ _ h => h) (Or.inl ⟨by rfl, ?_⟩) ?_ ?_
             rotate_left
             ·
              intro w'
              go_simp
              with_reducible rfl
             rotate_left
             ·
              simp only [Act.put, List.setIfInBounds_toArray, List.set_cons_zero, List.set_cons_succ, i64_w, i32_w]
              rfl
             refine pure_ (i := 16) (N := some 67) (v := ?_) (a' := ?_) mkP07LU_15 rfl rfl (any_of HT_.out (by kernel_rfl)) (fun _ _ _ h => h) (Or.inl ⟨by rfl, ?_⟩) ?_ ?_
             rotate_left
             ·
              intro w'
              go_simp
              with_reducible rfl
             rotate_left
             ·
              simp only [Act.put, List.setIfInBounds_toArray, List.set_cons_zero, List.set_cons_succ, i64_w, i32_w]
              rfl
             refine pure_ (i := 17) (N := some 68) (v := ?_) (a' := ?_) mkP07LU_16 rfl rfl (any_of HT_.out (by kernel_rfl)) (fun _ _ _ h => h) (Or.inl ⟨by rfl, ?_⟩) ?_ ?_
             rotate_left
             ·
              intro w'
              go_simp
              with_reducible rfl
             rotate_left
             ·
              simp only [Act.put, List.setIfInBounds_toArray, List.set_cons_zero, List.set_cons_succ, i64_w, i32_w]
              rfl
             refine pure_ (i := 18) (N := some 69) (v := ?_) (a' := ?_) mkP07LU_17 rfl rfl (any_of HT_.out (by kernel_rfl)) (fun _ _ _ h => h) (Or.inl ⟨by rfl, ?_⟩) ?_ ?_
             rotate_left
             ·
              intro w'
              go_simp
              with_reducible rfl
             rotate_left
             ·
              simp only [Act.put, List.setIfInBounds_toArray, List.set_cons_zero, List.set_cons_succ, i64_w, i32_w]
              rfl
             refine take_ (i := 13) (N := some 64) (v := ?_) (a' := ?_) mkP07LU_18 rfl rfl (take_ofW HT_.out HW_.out (by kernel_rfl)) (fun _ _ _ h => h) (Or.inl ⟨by rfl, ?_⟩) hHeld ?_ ?_
             rotate_left
             ·
              rintro w' ⟨s0, s1, s2, s3, s4, s5⟩
              go_simp
              with_reducible rfl
             rotate_left
             ·
              simp only [Act.put, List.setIfInBounds_toArray, List.set_cons_zero, List.set_cons_succ, i64_w, i32_w]
              rfl
             refine take_ (i := 19) (N := some 70) (v := ?_) (a' := ?_) mkP07LU_19 rfl rfl (take_ofW HT_.out HW_.out (by kernel_rfl)) (fun _ _ _ h => h) (Or.inl ⟨by rfl, ?_⟩) hHeld ?_ ?_
             rotate_left
             ·
              rintro w' ⟨s0, s1, s2, s3, s4, s5⟩
              go_simp
              with_reducible rfl
             rotate_left
             ·
              simp only [Act.put, List.setIfInBounds_toArray, List.set_cons_zero, List.set_cons_succ, i64_w, i32_w]
              rfl
             refine one_ (i := 14) (N := some 65) mkP07LU_20 rfl rfl (one_of HT_.out (by kernel_rfl)) (by decide) (fun K hK => ?_)
             refine goes_ Try.func28 (by kernel_rfl) rfl #[.slice Ao40 t397.length co40, .int .i64 ((rd_T41 l2 x12_2).f0)] (by rfl) rfl rfl (by (try simp only [List.map_toArray, List.map_cons, List.map_nil]); first | done | rfl | (simp only [List.length_drop, List.length_take]; rfl)) ?_
             with_reducible refine (past_Last.calls k2 _ _ t397 ((rd_T41 l2 x12_2).f0) t409 _ ?side1 ?side2 A33.out).mono ?_
             (case side1 => repeat (first | exact (Kd.R_reads' HO_10.out).2.2 | (with_reducible refine Kd.C_alloc ?_ _) | (with_reducible refine Kd.C_drewN ?_ _) | (with_reducible refine Kd.C_drew ?_)))
             (case side2 => exact (Kd.R_reads' HO_10.out).2.1)
             rintro e w42 ⟨rfl, hb⟩
             refine ⟨_, rfl, ?_⟩
             have n0_ := Aside0.mk (Kd.R_below (lf HO_10.out) hb)
             have n1_ := Aside0.mk (blk_below (g := gb394) (o := .cells #[.int .i64 a3_0, .int .i64 a3_1] 41 (0, 0)) (by (with_reducible repeat (first | refine blk_drewN ?_ _ | refine blk_drew ?_ | refine blk_alloc ?_ _)); exact BK394.out) hb)
             have n2_ := Aside0.mk (below_step (by repeat (first | (with_reducible first | exact HB.out | apply below_alloc | apply pw_below_drewN | apply below_drew1 | refine below_set ?_ GE394.out) | exact HB.out)) hb)
             clear HO_10
             clear BK394
             clear HB
             have HO_10 := n0_
             have BK394 := n1_
             have HB := n2_
             clear n0_ n1_ n2_
             (try clear hb)
             (try clear hb2)
             (try clear hk)
             (try clear hi)
             refine hK.out _ _ ⟨((HB.out.cell (World.block_lt_of_cell? w _ hw406_0)).trans hw406_0), ((HB.out.cell (World.block_lt_of_cell? w _ hw406_1)).trans hw406_1), ((HB.out.cell (World.block_lt_of_cell? w _ hw408_0)).trans hw408_0), ((HB.out.cell (World.block_lt_of_cell? w _ hw408_1)).trans hw408_1), ((HB.out.cell (World.block_lt_of_cell? w _ hw410_0)).trans hw410_0), ((HB.out.cell (World.block_lt_of_cell? w _ hw410_1)).trans hw410_1)⟩ (fun hHeld => ?_)
             clear hK K
             refine norm_ (a' := ?_) ?_ ?_
             rotate_left
             ·
              show Act.put _ (some 65) _ = _
              simp only [Act.put, List.setIfInBounds_toArray, List.set_cons_zero, List.set_cons_succ, i64_w, i32_w]
              rfl
             refine pure_ (i := 20) (N := some 71) (v := ?_) (a' := ?_) mkP07LU_21 rfl rfl (any_of HT_.out (by kernel_rfl)) (fun _ _ _ h => h) (Or.inl ⟨by rfl, ?_⟩) ?_ ?_
             rotate_left
             ·
              intro w'
              go_simp
              with_reducible rfl
             rotate_left
             ·
              simp only [Act.put, List.setIfInBounds_toArray, List.set_cons_zero, List.set_cons_succ, i64_w, i32_w]
              rfl
             refine pure_ (i := 21) (N := some 72) (v := ?_) (a' := ?_) mkP07LU_22 rfl rfl (any_of HT_.out (by kernel_rfl)) (fun _ _ _ h => h) (Or.inl ⟨by rfl, ?_⟩) ?_ ?_
             rotate_left
             ·
              intro w'
              go_simp
              with_reducible rfl
             rotate_left
             ·
              simp only [Act.put, List.setIfInBounds_toArray, List.set_cons_zero, List.set_cons_succ, i64_w, i32_w]
              rfl
             refine done_ (done_of HT_.out (by kernel_rfl)) ?_
             try go_wp2
             go_roundg k2
             case measure => have := HJ15.out; have := HK2.out; omega
             case rel => exact ⟨(wrap64 (x12_2 + 1)), (by first | rfl | (simp; done) | (simp [*]; done)), H', ⟨by have := HJ15.out; have := HK2.out; omega⟩, ⟨by (with_reducible repeat (first | apply Kd.R_alloc | apply Kd.R_drewN | apply Kd.R_drew)); exact HO_10.out⟩, ⟨by (with_reducible repeat (first | refine blk_drewN ?_ _ | refine blk_drew ?_ | refine blk_alloc ?_ _)); exact BK394.out⟩, ⟨by repeat (first | (with_reducible first | exact HB.out | apply below_alloc | apply pw_below_drewN | apply below_drew1 | refine below_set ?_ GE394.out) | exact HB.out)⟩⟩
           · replace c32 := Bool.eq_false_iff.mpr c32
             subst c32
             have H1 : (some false) = some r := by rw [if_neg (show ¬ (false = true) by decide)] at H; exact H
             clear H
             have H := H1
             clear H1
             exact absurd (H.trans (congrArg some HR.out)) (by with_reducible repeat' first | exact mt_false | exact mt_none | exact tributarylaw07_PastHas.j0_nt0 _ _ _ _ _ _ _ _ | exact tributarylaw07_PastHas.j5_nt1 _ _ _ _ _ | exact tributarylaw07_PastHas.j4_nt2 _ _ _ _ _ _ _ _ | refine mt_iff ?_ | refine mt_ite ?_ ?_ | refine mt_bind (fun _ => ?_))
          · rw [if_neg c30] at H
            exact absurd (H.trans (congrArg some HR.out)) (by with_reducible repeat' first | exact mt_false | exact mt_none | exact tributarylaw07_PastHas.j0_nt0 _ _ _ _ _ _ _ _ | exact tributarylaw07_PastHas.j5_nt1 _ _ _ _ _ | exact tributarylaw07_PastHas.j4_nt2 _ _ _ _ _ _ _ _ | refine mt_iff ?_ | refine mt_ite ?_ ?_ | refine mt_bind (fun _ => ?_))
         ·
          rw [if_neg c29] at H
          have c29b0 : decide (x12_2 < (l2.length : Int)) = false := decide_eq_false c29
          clear c29
          have H' := Aside0.mk H
          clear H
          go_wp2
          go_meet
          case rel => exact ⟨_, H', ⟨by have := HJ15.out; have := HK2.out; first | omega | exact Nat.le_refl _⟩, ⟨by (with_reducible repeat (first | refine blk_drewN ?_ _ | refine blk_drew ?_ | refine blk_alloc ?_ _)); exact BK394.out⟩, ⟨by repeat (first | (with_reducible first | exact HB.out | apply below_alloc | apply pw_below_drewN | apply below_drew1 | refine below_set ?_ GE394.out) | exact HB.out)⟩⟩
   ·
    rw [if_neg c15] at H
    have c15b0 : (t398 == 0) = false := beq_eq_false_iff_ne.mpr c15
    have c15b1 : (t398 != 0) = true := bne_iff_ne.mpr c15
    (first | rw [c15b0] | (simp only [i64_w, i32_w]; rw [c15b0]) | skip)
    have H' := Aside0.mk H
    clear H
    go_wp2
    go_meet
    case rel => exact ⟨_, H', ⟨by first | omega | exact Nat.le_refl _⟩, ⟨by (with_reducible repeat (first | refine blk_drewN ?_ _ | refine blk_drew ?_ | refine blk_alloc ?_ _)); exact BK394.out⟩, ⟨by repeat (first | (with_reducible first | exact HB.out | apply below_alloc | apply pw_below_drewN | apply below_drew1 | refine below_set ?_ GE394.out) | exact HB.out)⟩⟩
  case rest =>
   clear HC11
   try clear c1; try clear c2; try clear p2; try clear c3; try clear p4; try clear q4; try clear hx4; try clear p6; try clear c15; try clear c15b0; try clear c15b1; try clear c24; try clear c28; try clear c29; try clear c29b0; try clear c30; try clear c32; try clear c34; try clear c34b0; try clear p40; try clear q40; try clear hx40; try clear p41; try clear q41; try clear hx41; try clear hx406_0; try clear hx406_1; try clear hx408_0; try clear hx408_1; try clear hx410_0; try clear hx410_1; try clear p406; try clear p408; try clear p410; try clear q406; try clear q408; try clear q410
   obtain ⟨kq, HA, HJ10, BK394, HB⟩ := hcut
   cases kq with
   | zero => exact absurd HA.out (by simp [tributarylaw07_PastHas.j2])
   | succ kj10 =>
    have H := HA.out
    clear HA
    simp only [tributarylaw07_PastHas.j2] at H
    have HC46 := Aside0.mk H
    clear H
    go_upto_region 13 with (fail)
    go_cut [80] (fun v80 wc => ∃ (kq : Nat) (x80_45 : Bool), v80 = .bool x80_45 ∧ Aside0 (tributarylaw07_PastHas.j3 kq l0 l1 t395 x80_45 a3_0 a3_1 = some r) ∧ Aside0 (kq ≤ kj10) ∧ Aside0 (wc.heap[gb394]? = some (.cells #[.int .i64 a3_0, .int .i64 a3_1] 41 (0, 0))) ∧ Aside0 (Below w.heap.size w wc))
    case first =>
     have H := HC46.out
     clear HC46
     replace H := Option.bind_eq_some_iff.mp H
     obtain ⟨t411, A470, H⟩ := H
     replace H : (if t411 = 0 then ((past_Check.f kj10 l1).bind fun t412 => (tributarylaw07_PastHas.j3 kj10 l0 l1 t395 (t412 != 0) a3_0 a3_1)) else (tributarylaw07_PastHas.j3 kj10 l0 l1 t395 true a3_0 a3_1)) = some r := H
     have A47 := Aside0.mk A470
     clear A470
     by_cases c48 : t411 = 0
     ·
      rw [if_pos c48] at H
      have c48b0 : (t411 == 0) = true := beq_iff_eq.mpr c48
      have c48b1 : (t411 != 0) = false := bne_eq_false_iff_eq.mpr c48
      clear c48
      (first | rw [c48b0] | (simp only [i64_w, i32_w]; rw [c48b0]) | skip)
      replace H := Option.bind_eq_some_iff.mp H
      obtain ⟨t412, A490, H⟩ := H
      replace H : (tributarylaw07_PastHas.j3 kj10 l0 l1 t395 (t412 != 0) a3_0 a3_1) = some r := H
      have A49 := Aside0.mk A490
      clear A490
      have H' := Aside0.mk H
      clear H
      go_wp2_with (first | ((with_reducible refine gate_callee (f := 38) rfl ?_); refine goesL_ (some 74) rfl rfl Try.func38 (by kernel_rfl) rfl #[.slice A0 l0.length c0] rfl (by (try simp only [List.map_toArray, List.map_cons, List.map_nil]); first | done | rfl | (simp only [List.length_drop, List.length_take]; rfl)) ?_; (with_reducible refine (past_Check.calls kj10 _ _ l0 t411 _ ?side1 ?side2 A47.out).mono ?_); (case side1 => repeat (first | exact (Kd.C_below HR0.out HB.out) | (with_reducible refine Kd.C_alloc ?_ _) | (with_reducible refine Kd.C_drewN ?_ _) | (with_reducible refine Kd.C_drew ?_))); (case side2 => exact HC0.out); rintro e w50 ⟨rfl, hb⟩; refine ⟨_, rfl, ?_⟩; have n0_ := Aside0.mk (blk_below (g := gb394) (o := .cells #[.int .i64 a3_0, .int .i64 a3_1] 41 (0, 0)) (by (with_reducible repeat (first | refine blk_drewN ?_ _ | refine blk_drew ?_ | refine blk_alloc ?_ _)); exact BK394.out) hb); have n1_ := Aside0.mk (below_step (by repeat (first | (with_reducible first | exact HB.out | apply below_alloc | apply pw_below_drewN | apply below_drew1 | refine below_set ?_ GE394.out) | exact HB.out)) hb); clear BK394; clear HB; have BK394 := n0_; have HB := n1_; clear n0_ n1_; (try clear hb); (try clear hb2); (try clear hk); (try clear hi)) | (go_at_call 38; (with_reducible refine (past_Check.calls kj10 _ _ l1 t412 _ ?side1 ?side2 A49.out).mono ?_); (case side1 => repeat (first | exact (Kd.C_below HR1.out HB.out) | (with_reducible refine Kd.C_alloc ?_ _) | (with_reducible refine Kd.C_drewN ?_ _) | (with_reducible refine Kd.C_drew ?_))); (case side2 => exact HC1.out); rintro e w51 ⟨rfl, hb⟩; have n0_ := Aside0.mk (blk_below (g := gb394) (o := .cells #[.int .i64 a3_0, .int .i64 a3_1] 41 (0, 0)) (by (with_reducible repeat (first | refine blk_drewN ?_ _ | refine blk_drew ?_ | refine blk_alloc ?_ _)); exact BK394.out) hb); have n1_ := Aside0.mk (below_step (by repeat (first | (with_reducible first | exact HB.out | apply below_alloc | apply pw_below_drewN | apply below_drew1 | refine below_set ?_ GE394.out) | exact HB.out)) hb); clear BK394; clear HB; have BK394 := n0_; have HB := n1_; clear n0_ n1_; (try clear hb); (try clear hb2); (try clear hk); (try clear hi)))
      go_meet
      case rel => exact ⟨_, ((t412 != 0)), (by first | rfl | (simp; done) | (simp [*]; done)), H', ⟨by have := HJ10.out; first | omega | exact Nat.le_refl _⟩, ⟨by (with_reducible repeat (first | refine blk_drewN ?_ _ | refine blk_drew ?_ | refine blk_alloc ?_ _)); exact BK394.out⟩, ⟨by repeat (first | (with_reducible first | exact HB.out | apply below_alloc | apply pw_below_drewN | apply below_drew1 | refine below_set ?_ GE394.out) | exact HB.out)⟩⟩
     ·
      rw [if_neg c48] at H
      have c48b0 : (t411 == 0) = false := beq_eq_false_iff_ne.mpr c48
      have c48b1 : (t411 != 0) = true := bne_iff_ne.mpr c48
      (first | rw [c48b0] | (simp only [i64_w, i32_w]; rw [c48b0]) | skip)
      have H' := Aside0.mk H
      clear H
      go_wp2_with (first | ((with_reducible refine gate_callee (f := 38) rfl ?_); refine goesL_ (some 74) rfl rfl Try.func38 (by kernel_rfl) rfl #[.slice A0 l0.length c0] rfl (by (try simp only [List.map_toArray, List.map_cons, List.map_nil]); first | done | rfl | (simp only [List.length_drop, List.length_take]; rfl)) ?_; (with_reducible refine (past_Check.calls kj10 _ _ l0 t411 _ ?side1 ?side2 A47.out).mono ?_); (case side1 => repeat (first | exact (Kd.C_below HR0.out HB.out) | (with_reducible refine Kd.C_alloc ?_ _) | (with_reducible refine Kd.C_drewN ?_ _) | (with_reducible refine Kd.C_drew ?_))); (case side2 => exact HC0.out); rintro e w52 ⟨rfl, hb⟩; refine ⟨_, rfl, ?_⟩; have n0_ := Aside0.mk (blk_below (g := gb394) (o := .cells #[.int .i64 a3_0, .int .i64 a3_1] 41 (0, 0)) (by (with_reducible repeat (first | refine blk_drewN ?_ _ | refine blk_drew ?_ | refine blk_alloc ?_ _)); exact BK394.out) hb); have n1_ := Aside0.mk (below_step (by repeat (first | (with_reducible first | exact HB.out | apply below_alloc | apply pw_below_drewN | apply below_drew1 | refine below_set ?_ GE394.out) | exact HB.out)) hb); clear BK394; clear HB; have BK394 := n0_; have HB := n1_; clear n0_ n1_; (try clear hb); (try clear hb2); (try clear hk); (try clear hi)))
      go_meet
      case rel => exact ⟨_, (true), (by first | rfl | (simp; done) | (simp [*]; done)), H', ⟨by have := HJ10.out; first | omega | exact Nat.le_refl _⟩, ⟨by (with_reducible repeat (first | refine blk_drewN ?_ _ | refine blk_drew ?_ | refine blk_alloc ?_ _)); exact BK394.out⟩, ⟨by repeat (first | (with_reducible first | exact HB.out | apply below_alloc | apply pw_below_drewN | apply below_drew1 | refine below_set ?_ GE394.out) | exact HB.out)⟩⟩
    case rest =>
     clear HC46
     try clear c1; try clear c2; try clear p2; try clear c3; try clear c4; try clear p4; try clear q4; try clear hx4; try clear p6; try clear c15; try clear c15b0; try clear c15b1; try clear c24; try clear c28; try clear c29; try clear c29b0; try clear c30; try clear c32; try clear c34; try clear c34b0; try clear c38; try clear p40; try clear q40; try clear hx40; try clear p41; try clear q41; try clear hx41; try clear c48; try clear c48b0; try clear c48b1; try clear hx406_0; try clear hx406_1; try clear hx408_0; try clear hx408_1; try clear hx410_0; try clear hx410_1; try clear p2; try clear p4; try clear p40; try clear p406; try clear p408; try clear p41; try clear p410; try clear p6; try clear q4; try clear q40; try clear q406; try clear q408; try clear q41; try clear q410
     obtain ⟨kq, x80_45, rfl, HA, HJ45, BK394, HB⟩ := hcut
     cases kq with
     | zero => exact absurd HA.out (by simp [tributarylaw07_PastHas.j3])
     | succ kj45 =>
      have H := HA.out
      clear HA
      simp only [tributarylaw07_PastHas.j3] at H
      by_cases c53 : x80_45 = true
      ·
       subst c53
       have H1 : (if t395 = true then ((past_Within.f kj45 l0 l1).bind fun t413 => (some (!t413))) else (some false)) = some r := by rw [if_pos rfl] at H; exact H
       clear H
       have H := H1
       clear H1
       by_cases c54 : t395 = true
       ·
        subst c54
        have H1 : ((past_Within.f kj45 l0 l1).bind fun t413 => (some (!t413))) = some r := by rw [if_pos rfl] at H; exact H
        clear H
        have H := H1
        clear H1
        replace H := Option.bind_eq_some_iff.mp H
        obtain ⟨t413, A550, H⟩ := H
        replace H : (some (!t413)) = some r := H
        have A55 := Aside0.mk A550
        clear A550
        obtain rfl := Option.some.inj H
        go_wp2_with (first | (go_at_call 40; (with_reducible refine (past_Within.calls kj45 _ _ l0 _ _ l1 t413 _ ?side1 ?side2 ?side3 ?side4 A55.out).mono ?_); (case side1 => repeat (first | exact (Kd.C_below HR0.out HB.out) | (with_reducible refine Kd.C_alloc ?_ _) | (with_reducible refine Kd.C_drewN ?_ _) | (with_reducible refine Kd.C_drew ?_))); (case side2 => exact HC0.out); (case side3 => repeat (first | exact (Kd.C_below HR1.out HB.out) | (with_reducible refine Kd.C_alloc ?_ _) | (with_reducible refine Kd.C_drewN ?_ _) | (with_reducible refine Kd.C_drew ?_))); (case side4 => exact HC1.out); rintro e w56 ⟨rfl, hb⟩; have n0_ := Aside0.mk (blk_below (g := gb394) (o := .cells #[.int .i64 a3_0, .int .i64 a3_1] 41 (0, 0)) (by (with_reducible repeat (first | refine blk_drewN ?_ _ | refine blk_drew ?_ | refine blk_alloc ?_ _)); exact BK394.out) hb); have n1_ := Aside0.mk (below_step (by repeat (first | (with_reducible first | exact HB.out | apply below_alloc | apply pw_below_drewN | apply below_drew1 | refine below_set ?_ GE394.out) | exact HB.out)) hb); clear BK394; clear HB; have BK394 := n0_; have HB := n1_; clear n0_ n1_; (try clear hb); (try clear hb2); (try clear hk); (try clear hi)))
        go_ret
        exact ⟨by first | rfl | (simp [errW_none, errW_some] <;> rfl) | (simp [*, errW_none, errW_some] <;> rfl), by repeat (first | (with_reducible first | exact HB.out | apply below_alloc | apply pw_below_drewN | apply below_drew1 | refine below_set ?_ GE394.out) | exact HB.out)⟩
       · replace c54 := Bool.eq_false_iff.mpr c54
         subst c54
         have H1 : (some false) = some r := by rw [if_neg (show ¬ (false = true) by decide)] at H; exact H
         clear H
         have H := H1
         clear H1
         exact absurd (H.trans (congrArg some HR.out)) (by with_reducible repeat' first | exact mt_false | exact mt_none | exact tributarylaw07_PastHas.j0_nt0 _ _ _ _ _ _ _ _ | exact tributarylaw07_PastHas.j5_nt1 _ _ _ _ _ | exact tributarylaw07_PastHas.j4_nt2 _ _ _ _ _ _ _ _ | refine mt_iff ?_ | refine mt_ite ?_ ?_ | refine mt_bind (fun _ => ?_))
      ·
       replace c53 := Bool.eq_false_iff.mpr c53
       subst c53
       have H1 : ((past_Join.f kj45 l0 l1).bind fun bt414 => ((past_Minus.f kj45 l0 l1).bind fun bt418 => (if bt414.2 = 0 then (if bt418.2 = 0 then ((past_Check.f kj45 bt414.1).bind fun t422 => (if t422 = 0 then ((past_Check.f kj45 bt418.1).bind fun t423 => (tributarylaw07_PastHas.j4 kj45 l0 l1 t395 bt414.1 bt418.1 (t423 != 0) a3_0 a3_1)) else (tributarylaw07_PastHas.j4 kj45 l0 l1 t395 bt414.1 bt418.1 true a3_0 a3_1))) else (tributarylaw07_PastHas.j4 kj45 l0 l1 t395 bt414.1 bt418.1 true a3_0 a3_1)) else (tributarylaw07_PastHas.j4 kj45 l0 l1 t395 bt414.1 bt418.1 true a3_0 a3_1)))) = some r := by rw [if_neg (show ¬ (false = true) by decide)] at H; exact H
       clear H
       have H := H1
       clear H1
       replace H := Option.bind_eq_some_iff.mp H
       obtain ⟨⟨t414, t415⟩, A570, H⟩ := H
       replace H : ((past_Minus.f kj45 l0 l1).bind fun bt418 => (if t415 = 0 then (if bt418.2 = 0 then ((past_Check.f kj45 t414).bind fun t422 => (if t422 = 0 then ((past_Check.f kj45 bt418.1).bind fun t423 => (tributarylaw07_PastHas.j4 kj45 l0 l1 t395 t414 bt418.1 (t423 != 0) a3_0 a3_1)) else (tributarylaw07_PastHas.j4 kj45 l0 l1 t395 t414 bt418.1 true a3_0 a3_1))) else (tributarylaw07_PastHas.j4 kj45 l0 l1 t395 t414 bt418.1 true a3_0 a3_1)) else (tributarylaw07_PastHas.j4 kj45 l0 l1 t395 t414 bt418.1 true a3_0 a3_1))) = some r := H
       have A57 := Aside0.mk A570
       clear A570
       replace H := Option.bind_eq_some_iff.mp H
       obtain ⟨⟨t418, t419⟩, A580, H⟩ := H
       replace H : (if t415 = 0 then (if t419 = 0 then ((past_Check.f kj45 t414).bind fun t422 => (if t422 = 0 then ((past_Check.f kj45 t418).bind fun t423 => (tributarylaw07_PastHas.j4 kj45 l0 l1 t395 t414 t418 (t423 != 0) a3_0 a3_1)) else (tributarylaw07_PastHas.j4 kj45 l0 l1 t395 t414 t418 true a3_0 a3_1))) else (tributarylaw07_PastHas.j4 kj45 l0 l1 t395 t414 t418 true a3_0 a3_1)) else (tributarylaw07_PastHas.j4 kj45 l0 l1 t395 t414 t418 true a3_0 a3_1)) = some r := H
       have A58 := Aside0.mk A580
       clear A580
       have HC59 := Aside0.mk H
       clear H
       go_upto_region 17 with (first | ((with_reducible refine gate_callee (f := 33) rfl ?_); refine goesL_ (some 91) rfl rfl Try.func33 (by kernel_rfl) rfl #[.slice A0 l0.length c0, .slice A1 l1.length c1] rfl (by (try simp only [List.map_toArray, List.map_cons, List.map_nil]); first | done | rfl | (simp only [List.length_drop, List.length_take]; rfl)) ?_; (with_reducible refine (past_Join.calls kj45 _ _ l0 _ _ l1 t414 t415 _ ?side1 ?side2 ?side3 ?side4 A57.out).mono ?_); (case side1 => repeat (first | exact (Kd.C_below HR0.out HB.out) | (with_reducible refine Kd.C_alloc ?_ _) | (with_reducible refine Kd.C_drewN ?_ _) | (with_reducible refine Kd.C_drew ?_))); (case side2 => exact HC0.out); (case side3 => repeat (first | exact (Kd.C_below HR1.out HB.out) | (with_reducible refine Kd.C_alloc ?_ _) | (with_reducible refine Kd.C_drewN ?_ _) | (with_reducible refine Kd.C_drew ?_))); (case side4 => exact HC1.out); rintro e w60 ⟨v416, rfl, ho0, hb⟩; refine ⟨_, rfl, ?_⟩; have n0_ := Aside0.mk (Kd.R_lower ho0 (below_size (by repeat (first | (with_reducible first | exact HB.out | apply below_alloc | apply pw_below_drewN | apply below_drew1 | refine below_set ?_ GE394.out) | exact HB.out)))); have n1_ := Aside0.mk (blk_below (g := gb394) (o := .cells #[.int .i64 a3_0, .int .i64 a3_1] 41 (0, 0)) (by (with_reducible repeat (first | refine blk_drewN ?_ _ | refine blk_drew ?_ | refine blk_alloc ?_ _)); exact BK394.out) hb); have n2_ := Aside0.mk (below_step (by repeat (first | (with_reducible first | exact HB.out | apply below_alloc | apply pw_below_drewN | apply below_drew1 | refine below_set ?_ GE394.out) | exact HB.out)) hb); clear BK394; clear HB; have HO417 := n0_; have BK394 := n1_; have HB := n2_; clear n0_ n1_ n2_; (try clear hb); (try clear hb2); (try clear hk); (try clear hi); (try clear ho0)) | ((with_reducible refine gate_callee (f := 35) rfl ?_); refine goesL_ (some 97) rfl rfl Try.func35 (by kernel_rfl) rfl #[.slice A0 l0.length c0, .slice A1 l1.length c1] rfl (by (try simp only [List.map_toArray, List.map_cons, List.map_nil]); first | done | rfl | (simp only [List.length_drop, List.length_take]; rfl)) ?_; (with_reducible refine (past_Minus.calls kj45 _ _ l0 _ _ l1 t418 t419 _ ?side1 ?side2 ?side3 ?side4 A58.out).mono ?_); (case side1 => repeat (first | exact (Kd.C_below HR0.out HB.out) | (with_reducible refine Kd.C_alloc ?_ _) | (with_reducible refine Kd.C_drewN ?_ _) | (with_reducible refine Kd.C_drew ?_))); (case side2 => exact HC0.out); (case side3 => repeat (first | exact (Kd.C_below HR1.out HB.out) | (with_reducible refine Kd.C_alloc ?_ _) | (with_reducible refine Kd.C_drewN ?_ _) | (with_reducible refine Kd.C_drew ?_))); (case side4 => exact HC1.out); rintro e w61 ⟨v420, rfl, ho0, hb⟩; refine ⟨_, rfl, ?_⟩; have n0_ := Aside0.mk (Kd.R_elder' (lf HO417.out) (Kd.R_base ho0) hb); have n1_ := Aside0.mk (Kd.R_lower (Kd.R_new' ho0 (Kd.R_lt (lf HO417.out))) (below_size (by repeat (first | (with_reducible first | exact HB.out | apply below_alloc | apply pw_below_drewN | apply below_drew1 | refine below_set ?_ GE394.out) | exact HB.out)))); have n2_ := Aside0.mk (blk_below (g := gb394) (o := .cells #[.int .i64 a3_0, .int .i64 a3_1] 41 (0, 0)) (by (with_reducible repeat (first | refine blk_drewN ?_ _ | refine blk_drew ?_ | refine blk_alloc ?_ _)); exact BK394.out) hb); have n3_ := Aside0.mk (below_step (by repeat (first | (with_reducible first | exact HB.out | apply below_alloc | apply pw_below_drewN | apply below_drew1 | refine below_set ?_ GE394.out) | exact HB.out)) hb); clear HO417; clear BK394; clear HB; have HO417 := n0_; have HO421 := n1_; have BK394 := n2_; have HB := n3_; clear n0_ n1_ n2_ n3_; (try clear hb); (try clear hb2); (try clear hk); (try clear hi); (try clear ho0)))
       (try simp only [Act.put, List.setIfInBounds_toArray, List.set_cons_zero, List.set_cons_succ])
       go_cut [115] (fun v115 wc => ∃ (kq : Nat) (x115_58 : Bool), v115 = .bool x115_58 ∧ Aside0 (tributarylaw07_PastHas.j4 kq l0 l1 t395 t414 t418 x115_58 a3_0 a3_1 = some r) ∧ Aside0 (kq ≤ kj45) ∧ Aside0 (Kd.R k60 60 wc w.heap.size (fun k_ => some k_ ≠ (v420 : Value).ownBlock) v416 t414) ∧ Aside0 (Kd.R k60 60 wc w.heap.size (fun k_ => some k_ ≠ (v416 : Value).ownBlock) v420 t418) ∧ Aside0 (wc.heap[gb394]? = some (.cells #[.int .i64 a3_0, .int .i64 a3_1] 41 (0, 0))) ∧ Aside0 (Below w.heap.size w wc))
       case first =>
        have H := HC59.out
        clear HC59
        by_cases c62 : t415 = 0
        ·
         rw [if_pos c62] at H
         have c62b0 : (t415 == 0) = true := beq_iff_eq.mpr c62
         have c62b1 : (t415 != 0) = false := bne_eq_false_iff_eq.mpr c62
         clear c62
         (first | rw [c62b0] | (simp only [i64_w, i32_w]; rw [c62b0]) | skip)
         by_cases c63 : t419 = 0
         ·
          rw [if_pos c63] at H
          have c63b0 : (t419 == 0) = true := beq_iff_eq.mpr c63
          have c63b1 : (t419 != 0) = false := bne_eq_false_iff_eq.mpr c63
          clear c63
          replace H := Option.bind_eq_some_iff.mp H
          obtain ⟨t422, A640, H⟩ := H
          replace H : (if t422 = 0 then ((past_Check.f kj45 t418).bind fun t423 => (tributarylaw07_PastHas.j4 kj45 l0 l1 t395 t414 t418 (t423 != 0) a3_0 a3_1)) else (tributarylaw07_PastHas.j4 kj45 l0 l1 t395 t414 t418 true a3_0 a3_1)) = some r := H
          have A64 := Aside0.mk A640
          clear A640
          by_cases c65 : t422 = 0
          ·
           rw [if_pos c65] at H
           have c65b0 : (t422 == 0) = true := beq_iff_eq.mpr c65
           have c65b1 : (t422 != 0) = false := bne_eq_false_iff_eq.mpr c65
           clear c65
           replace H := Option.bind_eq_some_iff.mp H
           obtain ⟨t423, A660, H⟩ := H
           replace H : (tributarylaw07_PastHas.j4 kj45 l0 l1 t395 t414 t418 (t423 != 0) a3_0 a3_1) = some r := H
           have A66 := Aside0.mk A660
           clear A660
           have H' := Aside0.mk H
           clear H
           obtain ⟨Ao67, co67, eo67⟩ := Kd.R_slice HO417.out
           subst eo67
           go_wp2_with (first | (go_at_call 38; (with_reducible refine (past_Check.calls kj45 _ _ t414 t422 _ ?side1 ?side2 A64.out).mono ?_); (case side1 => repeat (first | exact (Kd.R_reads' HO417.out).2.2 | (with_reducible refine Kd.C_alloc ?_ _) | (with_reducible refine Kd.C_drewN ?_ _) | (with_reducible refine Kd.C_drew ?_))); (case side2 => exact (Kd.R_reads' HO417.out).2.1); rintro e w68 ⟨rfl, hb⟩; have n0_ := Aside0.mk (Kd.R_below (lf HO417.out) hb); have n1_ := Aside0.mk (Kd.R_below (lf HO421.out) hb); have n2_ := Aside0.mk (blk_below (g := gb394) (o := .cells #[.int .i64 a3_0, .int .i64 a3_1] 41 (0, 0)) (by (with_reducible repeat (first | refine blk_drewN ?_ _ | refine blk_drew ?_ | refine blk_alloc ?_ _)); exact BK394.out) hb); have n3_ := Aside0.mk (below_step (by repeat (first | (with_reducible first | exact HB.out | apply below_alloc | apply pw_below_drewN | apply below_drew1 | refine below_set ?_ GE394.out) | exact HB.out)) hb); clear HO417; clear HO421; clear BK394; clear HB; have HO417 := n0_; have HO421 := n1_; have BK394 := n2_; have HB := n3_; clear n0_ n1_ n2_ n3_; (try clear hb); (try clear hb2); (try clear hk); (try clear hi); obtain ⟨Ao69, co69, eo69⟩ := Kd.R_slice HO421.out; subst eo69) | (go_at_call 38; (with_reducible refine (past_Check.calls kj45 _ _ t418 t423 _ ?side1 ?side2 A66.out).mono ?_); (case side1 => repeat (first | exact (Kd.R_reads' HO421.out).2.2 | (with_reducible refine Kd.C_alloc ?_ _) | (with_reducible refine Kd.C_drewN ?_ _) | (with_reducible refine Kd.C_drew ?_))); (case side2 => exact (Kd.R_reads' HO421.out).2.1); rintro e w70 ⟨rfl, hb⟩; have n0_ := Aside0.mk (Kd.R_below (lf HO417.out) hb); have n1_ := Aside0.mk (Kd.R_below (lf HO421.out) hb); have n2_ := Aside0.mk (blk_below (g := gb394) (o := .cells #[.int .i64 a3_0, .int .i64 a3_1] 41 (0, 0)) (by (with_reducible repeat (first | refine blk_drewN ?_ _ | refine blk_drew ?_ | refine blk_alloc ?_ _)); exact BK394.out) hb); have n3_ := Aside0.mk (below_step (by repeat (first | (with_reducible first | exact HB.out | apply below_alloc | apply pw_below_drewN | apply below_drew1 | refine below_set ?_ GE394.out) | exact HB.out)) hb); clear HO417; clear HO421; clear BK394; clear HB; have HO417 := n0_; have HO421 := n1_; have BK394 := n2_; have HB := n3_; clear n0_ n1_ n2_ n3_; (try clear hb); (try clear hb2); (try clear hk); (try clear hi)))
           go_meet
           case rel => exact ⟨_, ((t423 != 0)), (by first | rfl | (simp; done) | (simp [*]; done)), H', ⟨by have := HJ10.out; have := HJ45.out; first | omega | exact Nat.le_refl _⟩, ⟨by (with_reducible repeat (first | apply Kd.R_alloc | apply Kd.R_drewN | apply Kd.R_drew)); exact Kd.R_mono HO417.out (fun _ hk => hk.2)⟩, ⟨by (with_reducible repeat (first | apply Kd.R_alloc | apply Kd.R_drewN | apply Kd.R_drew)); exact Kd.R_mono HO421.out (fun _ hk => hk.2)⟩, ⟨by (with_reducible repeat (first | refine blk_drewN ?_ _ | refine blk_drew ?_ | refine blk_alloc ?_ _)); exact BK394.out⟩, ⟨by repeat (first | (with_reducible first | exact HB.out | apply below_alloc | apply pw_below_drewN | apply below_drew1 | refine below_set ?_ GE394.out) | exact HB.out)⟩⟩
          · rw [if_neg c65] at H
            exact absurd (H.trans (congrArg some HR.out)) (by with_reducible repeat' first | exact mt_false | exact mt_none | exact tributarylaw07_PastHas.j0_nt0 _ _ _ _ _ _ _ _ | exact tributarylaw07_PastHas.j5_nt1 _ _ _ _ _ | exact tributarylaw07_PastHas.j4_nt2 _ _ _ _ _ _ _ _ | refine mt_iff ?_ | refine mt_ite ?_ ?_ | refine mt_bind (fun _ => ?_))
         · rw [if_neg c63] at H
           exact absurd (H.trans (congrArg some HR.out)) (by with_reducible repeat' first | exact mt_false | exact mt_none | exact tributarylaw07_PastHas.j0_nt0 _ _ _ _ _ _ _ _ | exact tributarylaw07_PastHas.j5_nt1 _ _ _ _ _ | exact tributarylaw07_PastHas.j4_nt2 _ _ _ _ _ _ _ _ | refine mt_iff ?_ | refine mt_ite ?_ ?_ | refine mt_bind (fun _ => ?_))
        · rw [if_neg c62] at H
          exact absurd (H.trans (congrArg some HR.out)) (by with_reducible repeat' first | exact mt_false | exact mt_none | exact tributarylaw07_PastHas.j0_nt0 _ _ _ _ _ _ _ _ | exact tributarylaw07_PastHas.j5_nt1 _ _ _ _ _ | exact tributarylaw07_PastHas.j4_nt2 _ _ _ _ _ _ _ _ | refine mt_iff ?_ | refine mt_ite ?_ ?_ | refine mt_bind (fun _ => ?_))
       case rest =>
        clear HC59
        try clear c1; try clear c2; try clear p2; try clear c3; try clear c4; try clear p4; try clear q4; try clear hx4; try clear c5; try clear c6; try clear p6; try clear c15; try clear c15b0; try clear c15b1; try clear c24; try clear c28; try clear c29; try clear c29b0; try clear c30; try clear c32; try clear c33; try clear c34; try clear c34b0; try clear c35; try clear c38; try clear p40; try clear q40; try clear hx40; try clear p41; try clear q41; try clear hx41; try clear c48; try clear c48b0; try clear c48b1; try clear c53; try clear c54; try clear c62; try clear c62b0; try clear c62b1; try clear c63; try clear c63b0; try clear c63b1; try clear p64; try clear c65; try clear c65b0; try clear c65b1; try clear hx406_0; try clear hx406_1; try clear hx408_0; try clear hx408_1; try clear hx410_0; try clear hx410_1; try clear p2; try clear p4; try clear p40; try clear p406; try clear p408; try clear p41; try clear p410; try clear p6; try clear q4; try clear q40; try clear q406; try clear q408; try clear q41; try clear q410
        obtain ⟨kq, x115_58, rfl, HA, HJ58, HO_13, HO_15, BK394, HB⟩ := hcut
        cases kq with
        | zero => exact absurd HA.out (by simp [tributarylaw07_PastHas.j4])
        | succ kj58 =>
         have H := HA.out
         clear HA
         simp only [tributarylaw07_PastHas.j4] at H
         by_cases c73 : x115_58 = true
         · subst c73
           have H1 : (some false) = some r := by rw [if_pos rfl] at H; exact H
           clear H
           have H := H1
           clear H1
           exact absurd (H.trans (congrArg some HR.out)) (by with_reducible repeat' first | exact mt_false | exact mt_none | exact tributarylaw07_PastHas.j0_nt0 _ _ _ _ _ _ _ _ | exact tributarylaw07_PastHas.j5_nt1 _ _ _ _ _ | exact tributarylaw07_PastHas.j4_nt2 _ _ _ _ _ _ _ _ | refine mt_iff ?_ | refine mt_ite ?_ ?_ | refine mt_bind (fun _ => ?_))
         ·
          replace c73 := Bool.eq_false_iff.mpr c73
          subst c73
          have H1 : ((past_Has.f kj58 l0 a3_0 a3_1).bind fun t424 => ((past_Has.f kj58 l1 a3_0 a3_1).bind fun t425 => ((past_Has.f kj58 t414 a3_0 a3_1).bind fun t426 => (if t424 = true then (if (t426 != true) = true then (tributarylaw07_PastHas.j5 kj58 l1 t395 t414 t418 true) else ((past_Has.f kj58 t418 a3_0 a3_1).bind fun t427 => (if (t427 != (!t425)) = true then (tributarylaw07_PastHas.j5 kj58 l1 t395 t414 t418 true) else ((past_Within.f kj58 l0 l1).bind fun t428 => (if (t428 != ((t418.length : Int) == 0)) = true then (tributarylaw07_PastHas.j5 kj58 l1 t395 t414 t418 true) else ((past_Within.f kj58 l0 t414).bind fun t429 => (if t429 = true then ((past_Within.f kj58 l1 t414).bind fun t430 => (if t430 = true then ((past_Within.f kj58 t418 l0).bind fun t431 => (tributarylaw07_PastHas.j5 kj58 l1 t395 t414 t418 (!t431))) else (tributarylaw07_PastHas.j5 kj58 l1 t395 t414 t418 true))) else (tributarylaw07_PastHas.j5 kj58 l1 t395 t414 t418 true)))))))) else (if (t426 != t425) = true then (tributarylaw07_PastHas.j5 kj58 l1 t395 t414 t418 true) else ((past_Has.f kj58 t418 a3_0 a3_1).bind fun t432 => (if (t432 != false) = true then (tributarylaw07_PastHas.j5 kj58 l1 t395 t414 t418 true) else ((past_Within.f kj58 l0 l1).bind fun t433 => (if (t433 != ((t418.length : Int) == 0)) = true then (tributarylaw07_PastHas.j5 kj58 l1 t395 t414 t418 true) else ((past_Within.f kj58 l0 t414).bind fun t434 => (if t434 = true then ((past_Within.f kj58 l1 t414).bind fun t435 => (if t435 = true then ((past_Within.f kj58 t418 l0).bind fun t436 => (tributarylaw07_PastHas.j5 kj58 l1 t395 t414 t418 (!t436))) else (tributarylaw07_PastHas.j5 kj58 l1 t395 t414 t418 true))) else (tributarylaw07_PastHas.j5 kj58 l1 t395 t414 t418 true)))))))))))) = some r := by rw [if_neg (show ¬ (false = true) by decide)] at H; exact H
          clear H
          have H := H1
          clear H1
          replace H := Option.bind_eq_some_iff.mp H
          obtain ⟨t424, A740, H⟩ := H
          replace H : ((past_Has.f kj58 l1 a3_0 a3_1).bind fun t425 => ((past_Has.f kj58 t414 a3_0 a3_1).bind fun t426 => (if t424 = true then (if (t426 != true) = true then (tributarylaw07_PastHas.j5 kj58 l1 t395 t414 t418 true) else ((past_Has.f kj58 t418 a3_0 a3_1).bind fun t427 => (if (t427 != (!t425)) = true then (tributarylaw07_PastHas.j5 kj58 l1 t395 t414 t418 true) else ((past_Within.f kj58 l0 l1).bind fun t428 => (if (t428 != ((t418.length : Int) == 0)) = true then (tributarylaw07_PastHas.j5 kj58 l1 t395 t414 t418 true) else ((past_Within.f kj58 l0 t414).bind fun t429 => (if t429 = true then ((past_Within.f kj58 l1 t414).bind fun t430 => (if t430 = true then ((past_Within.f kj58 t418 l0).bind fun t431 => (tributarylaw07_PastHas.j5 kj58 l1 t395 t414 t418 (!t431))) else (tributarylaw07_PastHas.j5 kj58 l1 t395 t414 t418 true))) else (tributarylaw07_PastHas.j5 kj58 l1 t395 t414 t418 true)))))))) else (if (t426 != t425) = true then (tributarylaw07_PastHas.j5 kj58 l1 t395 t414 t418 true) else ((past_Has.f kj58 t418 a3_0 a3_1).bind fun t432 => (if (t432 != false) = true then (tributarylaw07_PastHas.j5 kj58 l1 t395 t414 t418 true) else ((past_Within.f kj58 l0 l1).bind fun t433 => (if (t433 != ((t418.length : Int) == 0)) = true then (tributarylaw07_PastHas.j5 kj58 l1 t395 t414 t418 true) else ((past_Within.f kj58 l0 t414).bind fun t434 => (if t434 = true then ((past_Within.f kj58 l1 t414).bind fun t435 => (if t435 = true then ((past_Within.f kj58 t418 l0).bind fun t436 => (tributarylaw07_PastHas.j5 kj58 l1 t395 t414 t418 (!t436))) else (tributarylaw07_PastHas.j5 kj58 l1 t395 t414 t418 true))) else (tributarylaw07_PastHas.j5 kj58 l1 t395 t414 t418 true))))))))))) = some r := H
          have A74 := Aside0.mk A740
          clear A740
          replace H := Option.bind_eq_some_iff.mp H
          obtain ⟨t425, A750, H⟩ := H
          replace H : ((past_Has.f kj58 t414 a3_0 a3_1).bind fun t426 => (if t424 = true then (if (t426 != true) = true then (tributarylaw07_PastHas.j5 kj58 l1 t395 t414 t418 true) else ((past_Has.f kj58 t418 a3_0 a3_1).bind fun t427 => (if (t427 != (!t425)) = true then (tributarylaw07_PastHas.j5 kj58 l1 t395 t414 t418 true) else ((past_Within.f kj58 l0 l1).bind fun t428 => (if (t428 != ((t418.length : Int) == 0)) = true then (tributarylaw07_PastHas.j5 kj58 l1 t395 t414 t418 true) else ((past_Within.f kj58 l0 t414).bind fun t429 => (if t429 = true then ((past_Within.f kj58 l1 t414).bind fun t430 => (if t430 = true then ((past_Within.f kj58 t418 l0).bind fun t431 => (tributarylaw07_PastHas.j5 kj58 l1 t395 t414 t418 (!t431))) else (tributarylaw07_PastHas.j5 kj58 l1 t395 t414 t418 true))) else (tributarylaw07_PastHas.j5 kj58 l1 t395 t414 t418 true)))))))) else (if (t426 != t425) = true then (tributarylaw07_PastHas.j5 kj58 l1 t395 t414 t418 true) else ((past_Has.f kj58 t418 a3_0 a3_1).bind fun t432 => (if (t432 != false) = true then (tributarylaw07_PastHas.j5 kj58 l1 t395 t414 t418 true) else ((past_Within.f kj58 l0 l1).bind fun t433 => (if (t433 != ((t418.length : Int) == 0)) = true then (tributarylaw07_PastHas.j5 kj58 l1 t395 t414 t418 true) else ((past_Within.f kj58 l0 t414).bind fun t434 => (if t434 = true then ((past_Within.f kj58 l1 t414).bind fun t435 => (if t435 = true then ((past_Within.f kj58 t418 l0).bind fun t436 => (tributarylaw07_PastHas.j5 kj58 l1 t395 t414 t418 (!t436))) else (tributarylaw07_PastHas.j5 kj58 l1 t395 t414 t418 true))) else (tributarylaw07_PastHas.j5 kj58 l1 t395 t414 t418 true)))))))))) = some r := H
          have A75 := Aside0.mk A750
          clear A750
          have HC76 := Aside0.mk H
          clear H
          try go_wp2
          have n0_ := Aside0.mk (Kd.R_drew HO_13.out)
          have n1_ := Aside0.mk (Kd.R_drew HO_15.out)
          have n2_ := Aside0.mk (blk_drew BK394.out)
          have n3_ := Aside0.mk (below_drew1 HB.out)
          clear HO_13
          clear HO_15
          clear BK394
          clear HB
          have HO_13 := n0_
          have HO_15 := n1_
          have BK394 := n2_
          have HB := n3_
          clear n0_ n1_ n2_ n3_
          refine start_ (n := 8) (S := fun w' => w'.cell? ⟨gb394, 0, none⟩ = some (.int .i64 a3_0) ∧ w'.cell? ⟨gb394, 1, none⟩ = some (.int .i64 a3_1)) (ds := []) #[false, false, false, false, false, false, false, false] (by kernel_rfl) rfl rfl ⟨(blk_cell BK394.out 0).trans rfl, (blk_cell BK394.out 1).trans rfl⟩ (fun hHeld => ?_); refine with_tabW tributarylaw07_PastHas.tab19 tributarylaw07_PastHas.bits19 (fun HT_ HW_ => ?_)
          generalize wc.drew = w77 at HO_13 HO_15 BK394 HB hHeld ⊢
          refine pure_ (i := 0) (N := some 116) (v := ?_) (a' := ?_) #[true, false, false, false, false, false, false, false] rfl rfl (any_of HT_.out (by kernel_rfl)) (fun _ _ _ h => h) (Or.inl ⟨by rfl, ?_⟩) ?_ ?_
          rotate_left
          ·
           intro w'
           go_simp
           with_reducible rfl
          rotate_left
          ·
           simp only [Act.put, List.setIfInBounds_toArray, List.set_cons_zero, List.set_cons_succ, i64_w, i32_w]
           rfl
          refine pure_ (i := 3) (N := some 119) (v := ?_) (a' := ?_) #[true, false, false, true, false, false, false, false] rfl rfl (any_of HT_.out (by kernel_rfl)) (fun _ _ _ h => h) (Or.inl ⟨by rfl, ?_⟩) ?_ ?_
          rotate_left
          ·
           intro w'
           go_simp
           with_reducible rfl
          rotate_left
          ·
           simp only [Act.put, List.setIfInBounds_toArray, List.set_cons_zero, List.set_cons_succ, i64_w, i32_w]
           rfl
          refine take_ (i := 1) (N := some 117) (v := ?_) (a' := ?_) #[true, true, false, true, false, false, false, false] rfl rfl (take_ofW HT_.out HW_.out (by kernel_rfl)) (fun _ _ _ h => h) (Or.inl ⟨by rfl, ?_⟩) hHeld ?_ ?_
          rotate_left
          ·
           rintro w' ⟨s0, s1⟩
           go_simp
           with_reducible rfl
          rotate_left
          ·
           simp only [Act.put, List.setIfInBounds_toArray, List.set_cons_zero, List.set_cons_succ, i64_w, i32_w]
           rfl
          refine take_ (i := 4) (N := some 120) (v := ?_) (a' := ?_) #[true, true, false, true, true, false, false, false] rfl rfl (take_ofW HT_.out HW_.out (by kernel_rfl)) (fun _ _ _ h => h) (Or.inl ⟨by rfl, ?_⟩) hHeld ?_ ?_
          rotate_left
          ·
           rintro w' ⟨s0, s1⟩
           go_simp
           with_reducible rfl
          rotate_left
          ·
           simp only [Act.put, List.setIfInBounds_toArray, List.set_cons_zero, List.set_cons_succ, i64_w, i32_w]
           rfl
          refine one_ (i := 2) (N := some 118) #[true, true, true, true, true, false, false, false] rfl rfl (one_of HT_.out (by kernel_rfl)) (by decide) (fun K hK => ?_)
          refine goes_ Try.func24 (by kernel_rfl) rfl #[.slice A0 l0.length c0, .agg #[.int .i64 a3_0, .int .i64 a3_1]] (by rfl) rfl rfl (by (try simp only [List.map_toArray, List.map_cons, List.map_nil]); first | done | rfl | (simp only [List.length_drop, List.length_take]; rfl)) ?_
          with_reducible refine (past_Has.calls kj58 _ _ l0 a3_0 a3_1 t424 _ ?side1 ?side2 A74.out).mono ?_
          (case side1 => repeat (first | exact (Kd.C_below HR0.out HB.out) | (with_reducible refine Kd.C_alloc ?_ _) | (with_reducible refine Kd.C_drewN ?_ _) | (with_reducible refine Kd.C_drew ?_)))
          (case side2 => exact HC0.out)
          rintro e w78 ⟨rfl, hb⟩
          refine ⟨_, rfl, ?_⟩
          have n0_ := Aside0.mk (Kd.R_below (lf HO_13.out) hb)
          have n1_ := Aside0.mk (Kd.R_below (lf HO_15.out) hb)
          have n2_ := Aside0.mk (blk_below (g := gb394) (o := .cells #[.int .i64 a3_0, .int .i64 a3_1] 41 (0, 0)) (by (with_reducible repeat (first | refine blk_drewN ?_ _ | refine blk_drew ?_ | refine blk_alloc ?_ _)); exact BK394.out) hb)
          have n3_ := Aside0.mk (below_step (by repeat (first | (with_reducible first | exact HB.out | apply below_alloc | apply pw_below_drewN | apply below_drew1 | refine below_set ?_ GE394.out) | exact HB.out)) hb)
          clear HO_13
          clear HO_15
          clear BK394
          clear HB
          have HO_13 := n0_
          have HO_15 := n1_
          have BK394 := n2_
          have HB := n3_
          clear n0_ n1_ n2_ n3_
          (try clear hb)
          (try clear hb2)
          (try clear hk)
          (try clear hi)
          refine hK.out _ _ ⟨(blk_cell BK394.out 0).trans rfl, (blk_cell BK394.out 1).trans rfl⟩ (fun hHeld => ?_)
          clear hK K
          refine norm_ (a' := ?_) ?_ ?_
          rotate_left
          ·
           show Act.put _ (some 118) _ = _
           simp only [Act.put, List.setIfInBounds_toArray, List.set_cons_zero, List.set_cons_succ, i64_w, i32_w]
           rfl
          refine one_ (i := 5) (N := some 121) #[true, true, true, true, true, true, false, false] rfl rfl (one_of HT_.out (by kernel_rfl)) (by decide) (fun K hK => ?_)
          refine goes_ Try.func24 (by kernel_rfl) rfl #[.slice A1 l1.length c1, .agg #[.int .i64 a3_0, .int .i64 a3_1]] (by rfl) rfl rfl (by (try simp only [List.map_toArray, List.map_cons, List.map_nil]); first | done | rfl | (simp only [List.length_drop, List.length_take]; rfl)) ?_
          with_reducible refine (past_Has.calls kj58 _ _ l1 a3_0 a3_1 t425 _ ?side1 ?side2 A75.out).mono ?_
          (case side1 => repeat (first | exact (Kd.C_below HR1.out HB.out) | (with_reducible refine Kd.C_alloc ?_ _) | (with_reducible refine Kd.C_drewN ?_ _) | (with_reducible refine Kd.C_drew ?_)))
          (case side2 => exact HC1.out)
          rintro e w79 ⟨rfl, hb⟩
          refine ⟨_, rfl, ?_⟩
          have n0_ := Aside0.mk (Kd.R_below (lf HO_13.out) hb)
          have n1_ := Aside0.mk (Kd.R_below (lf HO_15.out) hb)
          have n2_ := Aside0.mk (blk_below (g := gb394) (o := .cells #[.int .i64 a3_0, .int .i64 a3_1] 41 (0, 0)) (by (with_reducible repeat (first | refine blk_drewN ?_ _ | refine blk_drew ?_ | refine blk_alloc ?_ _)); exact BK394.out) hb)
          have n3_ := Aside0.mk (below_step (by repeat (first | (with_reducible first | exact HB.out | apply below_alloc | apply pw_below_drewN | apply below_drew1 | refine below_set ?_ GE394.out) | exact HB.out)) hb)
          clear HO_13
          clear HO_15
          clear BK394
          clear HB
          have HO_13 := n0_
          have HO_15 := n1_
          have BK394 := n2_
          have HB := n3_
          clear n0_ n1_ n2_ n3_
          (try clear hb)
          (try clear hb2)
          (try clear hk)
          (try clear hi)
          refine hK.out _ _ ⟨(blk_cell BK394.out 0).trans rfl, (blk_cell BK394.out 1).trans rfl⟩ (fun hHeld => ?_)
          clear hK K
          refine norm_ (a' := ?_) ?_ ?_
          rotate_left
          ·
           show Act.put _ (some 121) _ = _
           simp only [Act.put, List.setIfInBounds_toArray, List.set_cons_zero, List.set_cons_succ, i64_w, i32_w]
           rfl
          refine pure_ (i := 6) (N := some 17) (v := ?_) (a' := ?_) #[true, true, true, true, true, true, true, false] rfl rfl (any_of HT_.out (by kernel_rfl)) (fun _ _ _ h => h) (Or.inl ⟨by rfl, ?_⟩) ?_ ?_
          rotate_left
          ·
           intro w'
           go_simp
           with_reducible rfl
          rotate_left
          ·
           simp only [Act.put, List.setIfInBounds_toArray, List.set_cons_zero, List.set_cons_succ, i64_w, i32_w]
           rfl
          refine pure_ (i := 7) (N := some 18) (v := ?_) (a' := ?_) #[true, true, true, true, true, true, true, true] rfl rfl (any_of HT_.out (by kernel_rfl)) (fun _ _ _ h => h) (Or.inl ⟨by rfl, ?_⟩) ?_ ?_
          rotate_left
          ·
           intro w'
           go_simp
           with_reducible rfl
          rotate_left
          ·
           simp only [Act.put, List.setIfInBounds_toArray, List.set_cons_zero, List.set_cons_succ, i64_w, i32_w]
           rfl
          refine done_ (done_of HT_.out (by kernel_rfl)) ?_
          go_upto_region 20 with (fail)
          go_cut [167] (fun v167 wc => ∃ (kq : Nat) (x167_75 : Bool), v167 = .bool x167_75 ∧ Aside0 (tributarylaw07_PastHas.j5 kq l1 t395 t414 t418 x167_75 = some r) ∧ Aside0 (kq ≤ kj58) ∧ Aside0 (Kd.R k60 60 wc w.heap.size (fun k_ => some k_ ≠ (v420 : Value).ownBlock) v416 t414) ∧ Aside0 (Kd.R k60 60 wc w.heap.size (fun k_ => some k_ ≠ (v416 : Value).ownBlock) v420 t418) ∧ Aside0 (wc.heap[gb394]? = some (.cells #[.int .i64 a3_0, .int .i64 a3_1] 41 (0, 0))) ∧ Aside0 (Below w.heap.size w wc))
          case first =>
           have H := HC76.out
           clear HC76
           replace H := Option.bind_eq_some_iff.mp H
           obtain ⟨t426, A800, H⟩ := H
           replace H : (if t424 = true then (if (t426 != true) = true then (tributarylaw07_PastHas.j5 kj58 l1 t395 t414 t418 true) else ((past_Has.f kj58 t418 a3_0 a3_1).bind fun t427 => (if (t427 != (!t425)) = true then (tributarylaw07_PastHas.j5 kj58 l1 t395 t414 t418 true) else ((past_Within.f kj58 l0 l1).bind fun t428 => (if (t428 != ((t418.length : Int) == 0)) = true then (tributarylaw07_PastHas.j5 kj58 l1 t395 t414 t418 true) else ((past_Within.f kj58 l0 t414).bind fun t429 => (if t429 = true then ((past_Within.f kj58 l1 t414).bind fun t430 => (if t430 = true then ((past_Within.f kj58 t418 l0).bind fun t431 => (tributarylaw07_PastHas.j5 kj58 l1 t395 t414 t418 (!t431))) else (tributarylaw07_PastHas.j5 kj58 l1 t395 t414 t418 true))) else (tributarylaw07_PastHas.j5 kj58 l1 t395 t414 t418 true)))))))) else (if (t426 != t425) = true then (tributarylaw07_PastHas.j5 kj58 l1 t395 t414 t418 true) else ((past_Has.f kj58 t418 a3_0 a3_1).bind fun t432 => (if (t432 != false) = true then (tributarylaw07_PastHas.j5 kj58 l1 t395 t414 t418 true) else ((past_Within.f kj58 l0 l1).bind fun t433 => (if (t433 != ((t418.length : Int) == 0)) = true then (tributarylaw07_PastHas.j5 kj58 l1 t395 t414 t418 true) else ((past_Within.f kj58 l0 t414).bind fun t434 => (if t434 = true then ((past_Within.f kj58 l1 t414).bind fun t435 => (if t435 = true then ((past_Within.f kj58 t418 l0).bind fun t436 => (tributarylaw07_PastHas.j5 kj58 l1 t395 t414 t418 (!t436))) else (tributarylaw07_PastHas.j5 kj58 l1 t395 t414 t418 true))) else (tributarylaw07_PastHas.j5 kj58 l1 t395 t414 t418 true))))))))) = some r := H
           have A80 := Aside0.mk A800
           clear A800
           by_cases c81 : t424 = true
           ·
            subst c81
            have H1 : (if (t426 != true) = true then (tributarylaw07_PastHas.j5 kj58 l1 t395 t414 t418 true) else ((past_Has.f kj58 t418 a3_0 a3_1).bind fun t427 => (if (t427 != (!t425)) = true then (tributarylaw07_PastHas.j5 kj58 l1 t395 t414 t418 true) else ((past_Within.f kj58 l0 l1).bind fun t428 => (if (t428 != ((t418.length : Int) == 0)) = true then (tributarylaw07_PastHas.j5 kj58 l1 t395 t414 t418 true) else ((past_Within.f kj58 l0 t414).bind fun t429 => (if t429 = true then ((past_Within.f kj58 l1 t414).bind fun t430 => (if t430 = true then ((past_Within.f kj58 t418 l0).bind fun t431 => (tributarylaw07_PastHas.j5 kj58 l1 t395 t414 t418 (!t431))) else (tributarylaw07_PastHas.j5 kj58 l1 t395 t414 t418 true))) else (tributarylaw07_PastHas.j5 kj58 l1 t395 t414 t418 true)))))))) = some r := by rw [if_pos rfl] at H; exact H
            clear H
            have H := H1
            clear H1
            by_cases c82 : (t426 != true) = true
            · rw [if_pos c82] at H
              have c82e : t426 = !true := by revert c82; generalize t426 = q_; cases q_ <;> (try cases x_) <;> simp
              exact absurd (H.trans (congrArg some HR.out)) (by with_reducible repeat' first | exact mt_false | exact mt_none | exact tributarylaw07_PastHas.j0_nt0 _ _ _ _ _ _ _ _ | exact tributarylaw07_PastHas.j5_nt1 _ _ _ _ _ | exact tributarylaw07_PastHas.j4_nt2 _ _ _ _ _ _ _ _ | refine mt_iff ?_ | refine mt_ite ?_ ?_ | refine mt_bind (fun _ => ?_))
            ·
             rw [if_neg c82] at H
             have c82e : t426 = true := by revert c82; generalize t426 = q_; cases q_ <;> (try cases x_) <;> simp
             have c82b0 : (t426 != true) = false := by simpa using c82
             (try (have c82b1 : decide (t426 = true) = true := by simpa using c82))
             (try (have c82b2 : (t426 == true) = true := by simpa using c82))
             clear c82
             (first | rw [c82b0] | (simp only [i64_w, i32_w]; rw [c82b0]) | skip)
             replace H := Option.bind_eq_some_iff.mp H
             obtain ⟨t427, A860, H⟩ := H
             replace H : (if (t427 != (!t425)) = true then (tributarylaw07_PastHas.j5 kj58 l1 t395 t414 t418 true) else ((past_Within.f kj58 l0 l1).bind fun t428 => (if (t428 != ((t418.length : Int) == 0)) = true then (tributarylaw07_PastHas.j5 kj58 l1 t395 t414 t418 true) else ((past_Within.f kj58 l0 t414).bind fun t429 => (if t429 = true then ((past_Within.f kj58 l1 t414).bind fun t430 => (if t430 = true then ((past_Within.f kj58 t418 l0).bind fun t431 => (tributarylaw07_PastHas.j5 kj58 l1 t395 t414 t418 (!t431))) else (tributarylaw07_PastHas.j5 kj58 l1 t395 t414 t418 true))) else (tributarylaw07_PastHas.j5 kj58 l1 t395 t414 t418 true)))))) = some r := H
             have A86 := Aside0.mk A860
             clear A860
             by_cases c87 : (t427 != (!t425)) = true
             · rw [if_pos c87] at H
               have c87e : t427 = t425 := by revert c87; generalize t427 = q_; (try generalize t425 = x_); cases q_ <;> (try cases x_) <;> simp
               exact absurd (H.trans (congrArg some HR.out)) (by with_reducible repeat' first | exact mt_false | exact mt_none | exact tributarylaw07_PastHas.j0_nt0 _ _ _ _ _ _ _ _ | exact tributarylaw07_PastHas.j5_nt1 _ _ _ _ _ | exact tributarylaw07_PastHas.j4_nt2 _ _ _ _ _ _ _ _ | refine mt_iff ?_ | refine mt_ite ?_ ?_ | refine mt_bind (fun _ => ?_))
             ·
              rw [if_neg c87] at H
              have c87e : t427 = (!t425) := by revert c87; generalize t427 = q_; (try generalize t425 = x_); cases q_ <;> (try cases x_) <;> simp
              have c87b0 : (t427 != (!t425)) = false := by simpa using c87
              (try (have c87b1 : decide (t427 = (!t425)) = true := by simpa using c87))
              (try (have c87b2 : (t427 == (!t425)) = true := by simpa using c87))
              clear c87
              replace H := Option.bind_eq_some_iff.mp H
              obtain ⟨t428, A940, H⟩ := H
              replace H : (if (t428 != ((t418.length : Int) == 0)) = true then (tributarylaw07_PastHas.j5 kj58 l1 t395 t414 t418 true) else ((past_Within.f kj58 l0 t414).bind fun t429 => (if t429 = true then ((past_Within.f kj58 l1 t414).bind fun t430 => (if t430 = true then ((past_Within.f kj58 t418 l0).bind fun t431 => (tributarylaw07_PastHas.j5 kj58 l1 t395 t414 t418 (!t431))) else (tributarylaw07_PastHas.j5 kj58 l1 t395 t414 t418 true))) else (tributarylaw07_PastHas.j5 kj58 l1 t395 t414 t418 true)))) = some r := H
              have A94 := Aside0.mk A940
              clear A940
              by_cases c95 : (t428 != ((t418.length : Int) == 0)) = true
              · rw [if_pos c95] at H
                have c95e : t428 = !((t418.length : Int) == 0) := by revert c95; generalize t428 = q_; (try generalize ((t418.length : Int) == 0) = x_); cases q_ <;> (try cases x_) <;> simp
                exact absurd (H.trans (congrArg some HR.out)) (by with_reducible repeat' first | exact mt_false | exact mt_none | exact tributarylaw07_PastHas.j0_nt0 _ _ _ _ _ _ _ _ | exact tributarylaw07_PastHas.j5_nt1 _ _ _ _ _ | exact tributarylaw07_PastHas.j4_nt2 _ _ _ _ _ _ _ _ | refine mt_iff ?_ | refine mt_ite ?_ ?_ | refine mt_bind (fun _ => ?_))
              ·
               rw [if_neg c95] at H
               have c95e : t428 = ((t418.length : Int) == 0) := by revert c95; generalize t428 = q_; (try generalize ((t418.length : Int) == 0) = x_); cases q_ <;> (try cases x_) <;> simp
               have c95b0 : (t428 != ((t418.length : Int) == 0)) = false := by simpa using c95
               (try (have c95b1 : decide (t428 = ((t418.length : Int) == 0)) = true := by simpa using c95))
               (try (have c95b2 : (t428 == ((t418.length : Int) == 0)) = true := by simpa using c95))
               clear c95
               replace H := Option.bind_eq_some_iff.mp H
               obtain ⟨t429, A1030, H⟩ := H
               replace H : (if t429 = true then ((past_Within.f kj58 l1 t414).bind fun t430 => (if t430 = true then ((past_Within.f kj58 t418 l0).bind fun t431 => (tributarylaw07_PastHas.j5 kj58 l1 t395 t414 t418 (!t431))) else (tributarylaw07_PastHas.j5 kj58 l1 t395 t414 t418 true))) else (tributarylaw07_PastHas.j5 kj58 l1 t395 t414 t418 true)) = some r := H
               have A103 := Aside0.mk A1030
               clear A1030
               by_cases c104 : t429 = true
               ·
                subst c104
                have H1 : ((past_Within.f kj58 l1 t414).bind fun t430 => (if t430 = true then ((past_Within.f kj58 t418 l0).bind fun t431 => (tributarylaw07_PastHas.j5 kj58 l1 t395 t414 t418 (!t431))) else (tributarylaw07_PastHas.j5 kj58 l1 t395 t414 t418 true))) = some r := by rw [if_pos rfl] at H; exact H
                clear H
                have H := H1
                clear H1
                replace H := Option.bind_eq_some_iff.mp H
                obtain ⟨t430, A1050, H⟩ := H
                replace H : (if t430 = true then ((past_Within.f kj58 t418 l0).bind fun t431 => (tributarylaw07_PastHas.j5 kj58 l1 t395 t414 t418 (!t431))) else (tributarylaw07_PastHas.j5 kj58 l1 t395 t414 t418 true)) = some r := H
                have A105 := Aside0.mk A1050
                clear A1050
                by_cases c106 : t430 = true
                ·
                 subst c106
                 have H1 : ((past_Within.f kj58 t418 l0).bind fun t431 => (tributarylaw07_PastHas.j5 kj58 l1 t395 t414 t418 (!t431))) = some r := by rw [if_pos rfl] at H; exact H
                 clear H
                 have H := H1
                 clear H1
                 replace H := Option.bind_eq_some_iff.mp H
                 obtain ⟨t431, A1070, H⟩ := H
                 replace H : (tributarylaw07_PastHas.j5 kj58 l1 t395 t414 t418 (!t431)) = some r := H
                 have A107 := Aside0.mk A1070
                 clear A1070
                 have H' := Aside0.mk H
                 clear H
                 have hcz108_0 : w79.cell? ⟨gb394, 0, none⟩ = some (.int .i64 a3_0) := (blk_cell BK394.out 0).trans rfl
                 have hcz108_1 : w79.cell? ⟨gb394, 1, none⟩ = some (.int .i64 a3_1) := (blk_cell BK394.out 1).trans rfl
                 have hfz108_0 := blk_frozen BK394.out 0
                 have hfz108_1 := blk_frozen BK394.out 1
                 obtain ⟨Ao109, co109, eo109⟩ := Kd.R_slice HO_13.out
                 subst eo109
                 go_wp2_with (first | ((with_reducible refine gate_callee (f := 24) rfl ?_); refine goesL_ (some 124) rfl rfl Try.func24 (by kernel_rfl) rfl #[.slice Ao109 t414.length co109, .agg #[.int .i64 a3_0, .int .i64 a3_1]] rfl (by (try simp only [List.map_toArray, List.map_cons, List.map_nil]); first | done | rfl | (simp only [List.length_drop, List.length_take]; rfl)) ?_; (with_reducible refine (past_Has.calls kj58 _ _ t414 a3_0 a3_1 t426 _ ?side1 ?side2 A80.out).mono ?_); (case side1 => repeat (first | exact (Kd.R_reads' HO_13.out).2.2 | (with_reducible refine Kd.C_alloc ?_ _) | (with_reducible refine Kd.C_drewN ?_ _) | (with_reducible refine Kd.C_drew ?_))); (case side2 => exact (Kd.R_reads' HO_13.out).2.1); rintro e w110 ⟨rfl, hb⟩; refine ⟨_, rfl, ?_⟩; have n0_ := Aside0.mk (Kd.R_below (lf HO_13.out) hb); have n1_ := Aside0.mk (Kd.R_below (lf HO_15.out) hb); have n2_ := Aside0.mk (blk_below (g := gb394) (o := .cells #[.int .i64 a3_0, .int .i64 a3_1] 41 (0, 0)) (by (with_reducible repeat (first | refine blk_drewN ?_ _ | refine blk_drew ?_ | refine blk_alloc ?_ _)); exact BK394.out) hb); have n3_ := Aside0.mk (below_step (by repeat (first | (with_reducible first | exact HB.out | apply below_alloc | apply pw_below_drewN | apply below_drew1 | refine below_set ?_ GE394.out) | exact HB.out)) hb); clear HO_13; clear HO_15; clear BK394; clear HB; have HO_13 := n0_; have HO_15 := n1_; have BK394 := n2_; have HB := n3_; clear n0_ n1_ n2_ n3_; (try clear hb); (try clear hb2); (try clear hk); (try clear hi); have hcz111_0 : w110.cell? ⟨gb394, 0, none⟩ = some (.int .i64 a3_0) := (blk_cell BK394.out 0).trans rfl; have hcz111_1 : w110.cell? ⟨gb394, 1, none⟩ = some (.int .i64 a3_1) := (blk_cell BK394.out 1).trans rfl; have hfz111_0 := blk_frozen BK394.out 0; have hfz111_1 := blk_frozen BK394.out 1; obtain ⟨Ao112, co112, eo112⟩ := Kd.R_slice HO_15.out; subst eo112) | (go_at_call 24; (with_reducible refine (past_Has.calls kj58 _ _ t418 a3_0 a3_1 t427 _ ?side1 ?side2 A86.out).mono ?_); (case side1 => repeat (first | exact (Kd.R_reads' HO_15.out).2.2 | (with_reducible refine Kd.C_alloc ?_ _) | (with_reducible refine Kd.C_drewN ?_ _) | (with_reducible refine Kd.C_drew ?_))); (case side2 => exact (Kd.R_reads' HO_15.out).2.1); rintro e w113 ⟨rfl, hb⟩; have n0_ := Aside0.mk (Kd.R_below (lf HO_13.out) hb); have n1_ := Aside0.mk (Kd.R_below (lf HO_15.out) hb); have n2_ := Aside0.mk (blk_below (g := gb394) (o := .cells #[.int .i64 a3_0, .int .i64 a3_1] 41 (0, 0)) (by (with_reducible repeat (first | refine blk_drewN ?_ _ | refine blk_drew ?_ | refine blk_alloc ?_ _)); exact BK394.out) hb); have n3_ := Aside0.mk (below_step (by repeat (first | (with_reducible first | exact HB.out | apply below_alloc | apply pw_below_drewN | apply below_drew1 | refine below_set ?_ GE394.out) | exact HB.out)) hb); clear HO_13; clear HO_15; clear BK394; clear HB; have HO_13 := n0_; have HO_15 := n1_; have BK394 := n2_; have HB := n3_; clear n0_ n1_ n2_ n3_; (try clear hb); (try clear hb2); (try clear hk); (try clear hi)) | (go_at_call 40; (with_reducible refine (past_Within.calls kj58 _ _ l0 _ _ l1 t428 _ ?side1 ?side2 ?side3 ?side4 A94.out).mono ?_); (case side1 => repeat (first | exact (Kd.C_below HR0.out HB.out) | (with_reducible refine Kd.C_alloc ?_ _) | (with_reducible refine Kd.C_drewN ?_ _) | (with_reducible refine Kd.C_drew ?_))); (case side2 => exact HC0.out); (case side3 => repeat (first | exact (Kd.C_below HR1.out HB.out) | (with_reducible refine Kd.C_alloc ?_ _) | (with_reducible refine Kd.C_drewN ?_ _) | (with_reducible refine Kd.C_drew ?_))); (case side4 => exact HC1.out); rintro e w114 ⟨rfl, hb⟩; have n0_ := Aside0.mk (Kd.R_below (lf HO_13.out) hb); have n1_ := Aside0.mk (Kd.R_below (lf HO_15.out) hb); have n2_ := Aside0.mk (blk_below (g := gb394) (o := .cells #[.int .i64 a3_0, .int .i64 a3_1] 41 (0, 0)) (by (with_reducible repeat (first | refine blk_drewN ?_ _ | refine blk_drew ?_ | refine blk_alloc ?_ _)); exact BK394.out) hb); have n3_ := Aside0.mk (below_step (by repeat (first | (with_reducible first | exact HB.out | apply below_alloc | apply pw_below_drewN | apply below_drew1 | refine below_set ?_ GE394.out) | exact HB.out)) hb); clear HO_13; clear HO_15; clear BK394; clear HB; have HO_13 := n0_; have HO_15 := n1_; have BK394 := n2_; have HB := n3_; clear n0_ n1_ n2_ n3_; (try clear hb); (try clear hb2); (try clear hk); (try clear hi)) | (go_at_call 40; (with_reducible refine (past_Within.calls kj58 _ _ l0 _ _ t414 true _ ?side1 ?side2 ?side3 ?side4 A103.out).mono ?_); (case side1 => repeat (first | exact (Kd.C_below HR0.out HB.out) | (with_reducible refine Kd.C_alloc ?_ _) | (with_reducible refine Kd.C_drewN ?_ _) | (with_reducible refine Kd.C_drew ?_))); (case side2 => exact HC0.out); (case side3 => repeat (first | exact (Kd.R_reads' HO_13.out).2.2 | (with_reducible refine Kd.C_alloc ?_ _) | (with_reducible refine Kd.C_drewN ?_ _) | (with_reducible refine Kd.C_drew ?_))); (case side4 => exact (Kd.R_reads' HO_13.out).2.1); rintro e w115 ⟨rfl, hb⟩; have n0_ := Aside0.mk (Kd.R_below (lf HO_13.out) hb); have n1_ := Aside0.mk (Kd.R_below (lf HO_15.out) hb); have n2_ := Aside0.mk (blk_below (g := gb394) (o := .cells #[.int .i64 a3_0, .int .i64 a3_1] 41 (0, 0)) (by (with_reducible repeat (first | refine blk_drewN ?_ _ | refine blk_drew ?_ | refine blk_alloc ?_ _)); exact BK394.out) hb); have n3_ := Aside0.mk (below_step (by repeat (first | (with_reducible first | exact HB.out | apply below_alloc | apply pw_below_drewN | apply below_drew1 | refine below_set ?_ GE394.out) | exact HB.out)) hb); clear HO_13; clear HO_15; clear BK394; clear HB; have HO_13 := n0_; have HO_15 := n1_; have BK394 := n2_; have HB := n3_; clear n0_ n1_ n2_ n3_; (try clear hb); (try clear hb2); (try clear hk); (try clear hi)) | (go_at_call 40; (with_reducible refine (past_Within.calls kj58 _ _ l1 _ _ t414 true _ ?side1 ?side2 ?side3 ?side4 A105.out).mono ?_); (case side1 => repeat (first | exact (Kd.C_below HR1.out HB.out) | (with_reducible refine Kd.C_alloc ?_ _) | (with_reducible refine Kd.C_drewN ?_ _) | (with_reducible refine Kd.C_drew ?_))); (case side2 => exact HC1.out); (case side3 => repeat (first | exact (Kd.R_reads' HO_13.out).2.2 | (with_reducible refine Kd.C_alloc ?_ _) | (with_reducible refine Kd.C_drewN ?_ _) | (with_reducible refine Kd.C_drew ?_))); (case side4 => exact (Kd.R_reads' HO_13.out).2.1); rintro e w116 ⟨rfl, hb⟩; have n0_ := Aside0.mk (Kd.R_below (lf HO_13.out) hb); have n1_ := Aside0.mk (Kd.R_below (lf HO_15.out) hb); have n2_ := Aside0.mk (blk_below (g := gb394) (o := .cells #[.int .i64 a3_0, .int .i64 a3_1] 41 (0, 0)) (by (with_reducible repeat (first | refine blk_drewN ?_ _ | refine blk_drew ?_ | refine blk_alloc ?_ _)); exact BK394.out) hb); have n3_ := Aside0.mk (below_step (by repeat (first | (with_reducible first | exact HB.out | apply below_alloc | apply pw_below_drewN | apply below_drew1 | refine below_set ?_ GE394.out) | exact HB.out)) hb); clear HO_13; clear HO_15; clear BK394; clear HB; have HO_13 := n0_; have HO_15 := n1_; have BK394 := n2_; have HB := n3_; clear n0_ n1_ n2_ n3_; (try clear hb); (try clear hb2); (try clear hk); (try clear hi)) | (go_at_call 40; (with_reducible refine (past_Within.calls kj58 _ _ t418 _ _ l0 t431 _ ?side1 ?side2 ?side3 ?side4 A107.out).mono ?_); (case side1 => repeat (first | exact (Kd.R_reads' HO_15.out).2.2 | (with_reducible refine Kd.C_alloc ?_ _) | (with_reducible refine Kd.C_drewN ?_ _) | (with_reducible refine Kd.C_drew ?_))); (case side2 => exact (Kd.R_reads' HO_15.out).2.1); (case side3 => repeat (first | exact (Kd.C_below HR0.out HB.out) | (with_reducible refine Kd.C_alloc ?_ _) | (with_reducible refine Kd.C_drewN ?_ _) | (with_reducible refine Kd.C_drew ?_))); (case side4 => exact HC0.out); rintro e w117 ⟨rfl, hb⟩; have n0_ := Aside0.mk (Kd.R_below (lf HO_13.out) hb); have n1_ := Aside0.mk (Kd.R_below (lf HO_15.out) hb); have n2_ := Aside0.mk (blk_below (g := gb394) (o := .cells #[.int .i64 a3_0, .int .i64 a3_1] 41 (0, 0)) (by (with_reducible repeat (first | refine blk_drewN ?_ _ | refine blk_drew ?_ | refine blk_alloc ?_ _)); exact BK394.out) hb); have n3_ := Aside0.mk (below_step (by repeat (first | (with_reducible first | exact HB.out | apply below_alloc | apply pw_below_drewN | apply below_drew1 | refine below_set ?_ GE394.out) | exact HB.out)) hb); clear HO_13; clear HO_15; clear BK394; clear HB; have HO_13 := n0_; have HO_15 := n1_; have BK394 := n2_; have HB := n3_; clear n0_ n1_ n2_ n3_; (try clear hb); (try clear hb2); (try clear hk); (try clear hi)))
                 go_meet
                 case rel => exact ⟨_, (!t431), (by first | rfl | (simp; done) | (simp [*]; done)), H', ⟨by have := HJ10.out; have := HJ45.out; have := HJ58.out; first | omega | exact Nat.le_refl _⟩, ⟨by (with_reducible repeat (first | apply Kd.R_alloc | apply Kd.R_drewN | apply Kd.R_drew)); exact HO_13.out⟩, ⟨by (with_reducible repeat (first | apply Kd.R_alloc | apply Kd.R_drewN | apply Kd.R_drew)); exact HO_15.out⟩, ⟨by (with_reducible repeat (first | refine blk_drewN ?_ _ | refine blk_drew ?_ | refine blk_alloc ?_ _)); exact BK394.out⟩, ⟨by repeat (first | (with_reducible first | exact HB.out | apply below_alloc | apply pw_below_drewN | apply below_drew1 | refine below_set ?_ GE394.out) | exact HB.out)⟩⟩
                · replace c106 := Bool.eq_false_iff.mpr c106
                  subst c106
                  have H1 : (tributarylaw07_PastHas.j5 kj58 l1 t395 t414 t418 true) = some r := by rw [if_neg (show ¬ (false = true) by decide)] at H; exact H
                  clear H
                  have H := H1
                  clear H1
                  exact absurd (H.trans (congrArg some HR.out)) (by with_reducible repeat' first | exact mt_false | exact mt_none | exact tributarylaw07_PastHas.j0_nt0 _ _ _ _ _ _ _ _ | exact tributarylaw07_PastHas.j5_nt1 _ _ _ _ _ | exact tributarylaw07_PastHas.j4_nt2 _ _ _ _ _ _ _ _ | refine mt_iff ?_ | refine mt_ite ?_ ?_ | refine mt_bind (fun _ => ?_))
               · replace c104 := Bool.eq_false_iff.mpr c104
                 subst c104
                 have H1 : (tributarylaw07_PastHas.j5 kj58 l1 t395 t414 t418 true) = some r := by rw [if_neg (show ¬ (false = true) by decide)] at H; exact H
                 clear H
                 have H := H1
                 clear H1
                 exact absurd (H.trans (congrArg some HR.out)) (by with_reducible repeat' first | exact mt_false | exact mt_none | exact tributarylaw07_PastHas.j0_nt0 _ _ _ _ _ _ _ _ | exact tributarylaw07_PastHas.j5_nt1 _ _ _ _ _ | exact tributarylaw07_PastHas.j4_nt2 _ _ _ _ _ _ _ _ | refine mt_iff ?_ | refine mt_ite ?_ ?_ | refine mt_bind (fun _ => ?_))
           ·
            replace c81 := Bool.eq_false_iff.mpr c81
            subst c81
            have H1 : (if (t426 != t425) = true then (tributarylaw07_PastHas.j5 kj58 l1 t395 t414 t418 true) else ((past_Has.f kj58 t418 a3_0 a3_1).bind fun t432 => (if (t432 != false) = true then (tributarylaw07_PastHas.j5 kj58 l1 t395 t414 t418 true) else ((past_Within.f kj58 l0 l1).bind fun t433 => (if (t433 != ((t418.length : Int) == 0)) = true then (tributarylaw07_PastHas.j5 kj58 l1 t395 t414 t418 true) else ((past_Within.f kj58 l0 t414).bind fun t434 => (if t434 = true then ((past_Within.f kj58 l1 t414).bind fun t435 => (if t435 = true then ((past_Within.f kj58 t418 l0).bind fun t436 => (tributarylaw07_PastHas.j5 kj58 l1 t395 t414 t418 (!t436))) else (tributarylaw07_PastHas.j5 kj58 l1 t395 t414 t418 true))) else (tributarylaw07_PastHas.j5 kj58 l1 t395 t414 t418 true)))))))) = some r := by rw [if_neg (show ¬ (false = true) by decide)] at H; exact H
            clear H
            have H := H1
            clear H1
            by_cases c135 : (t426 != t425) = true
            · rw [if_pos c135] at H
              have c135e : t426 = !t425 := by revert c135; generalize t426 = q_; (try generalize t425 = x_); cases q_ <;> (try cases x_) <;> simp
              exact absurd (H.trans (congrArg some HR.out)) (by with_reducible repeat' first | exact mt_false | exact mt_none | exact tributarylaw07_PastHas.j0_nt0 _ _ _ _ _ _ _ _ | exact tributarylaw07_PastHas.j5_nt1 _ _ _ _ _ | exact tributarylaw07_PastHas.j4_nt2 _ _ _ _ _ _ _ _ | refine mt_iff ?_ | refine mt_ite ?_ ?_ | refine mt_bind (fun _ => ?_))
            ·
             rw [if_neg c135] at H
             have c135e : t426 = t425 := by revert c135; generalize t426 = q_; (try generalize t425 = x_); cases q_ <;> (try cases x_) <;> simp
             have c135b0 : (t426 != t425) = false := by simpa using c135
             (try (have c135b1 : decide (t426 = t425) = true := by simpa using c135))
             (try (have c135b2 : (t426 == t425) = true := by simpa using c135))
             clear c135
             replace H := Option.bind_eq_some_iff.mp H
             obtain ⟨t432, A1390, H⟩ := H
             replace H : (if (t432 != false) = true then (tributarylaw07_PastHas.j5 kj58 l1 t395 t414 t418 true) else ((past_Within.f kj58 l0 l1).bind fun t433 => (if (t433 != ((t418.length : Int) == 0)) = true then (tributarylaw07_PastHas.j5 kj58 l1 t395 t414 t418 true) else ((past_Within.f kj58 l0 t414).bind fun t434 => (if t434 = true then ((past_Within.f kj58 l1 t414).bind fun t435 => (if t435 = true then ((past_Within.f kj58 t418 l0).bind fun t436 => (tributarylaw07_PastHas.j5 kj58 l1 t395 t414 t418 (!t436))) else (tributarylaw07_PastHas.j5 kj58 l1 t395 t414 t418 true))) else (tributarylaw07_PastHas.j5 kj58 l1 t395 t414 t418 true)))))) = some r := H
             have A139 := Aside0.mk A1390
             clear A1390
             by_cases c140 : (t432 != false) = true
             · rw [if_pos c140] at H
               have c140e : t432 = true := by revert c140; generalize t432 = q_; cases q_ <;> (try cases x_) <;> simp
               exact absurd (H.trans (congrArg some HR.out)) (by with_reducible repeat' first | exact mt_false | exact mt_none | exact tributarylaw07_PastHas.j0_nt0 _ _ _ _ _ _ _ _ | exact tributarylaw07_PastHas.j5_nt1 _ _ _ _ _ | exact tributarylaw07_PastHas.j4_nt2 _ _ _ _ _ _ _ _ | refine mt_iff ?_ | refine mt_ite ?_ ?_ | refine mt_bind (fun _ => ?_))
             ·
              rw [if_neg c140] at H
              have c140e : t432 = false := by revert c140; generalize t432 = q_; cases q_ <;> (try cases x_) <;> simp
              have c140b0 : (t432 != false) = false := by simpa using c140
              (try (have c140b1 : decide (t432 = false) = true := by simpa using c140))
              (try (have c140b2 : (t432 == false) = true := by simpa using c140))
              clear c140
              replace H := Option.bind_eq_some_iff.mp H
              obtain ⟨t433, A1470, H⟩ := H
              replace H : (if (t433 != ((t418.length : Int) == 0)) = true then (tributarylaw07_PastHas.j5 kj58 l1 t395 t414 t418 true) else ((past_Within.f kj58 l0 t414).bind fun t434 => (if t434 = true then ((past_Within.f kj58 l1 t414).bind fun t435 => (if t435 = true then ((past_Within.f kj58 t418 l0).bind fun t436 => (tributarylaw07_PastHas.j5 kj58 l1 t395 t414 t418 (!t436))) else (tributarylaw07_PastHas.j5 kj58 l1 t395 t414 t418 true))) else (tributarylaw07_PastHas.j5 kj58 l1 t395 t414 t418 true)))) = some r := H
              have A147 := Aside0.mk A1470
              clear A1470
              by_cases c148 : (t433 != ((t418.length : Int) == 0)) = true
              · rw [if_pos c148] at H
                have c148e : t433 = !((t418.length : Int) == 0) := by revert c148; generalize t433 = q_; (try generalize ((t418.length : Int) == 0) = x_); cases q_ <;> (try cases x_) <;> simp
                exact absurd (H.trans (congrArg some HR.out)) (by with_reducible repeat' first | exact mt_false | exact mt_none | exact tributarylaw07_PastHas.j0_nt0 _ _ _ _ _ _ _ _ | exact tributarylaw07_PastHas.j5_nt1 _ _ _ _ _ | exact tributarylaw07_PastHas.j4_nt2 _ _ _ _ _ _ _ _ | refine mt_iff ?_ | refine mt_ite ?_ ?_ | refine mt_bind (fun _ => ?_))
              ·
               rw [if_neg c148] at H
               have c148e : t433 = ((t418.length : Int) == 0) := by revert c148; generalize t433 = q_; (try generalize ((t418.length : Int) == 0) = x_); cases q_ <;> (try cases x_) <;> simp
               have c148b0 : (t433 != ((t418.length : Int) == 0)) = false := by simpa using c148
               (try (have c148b1 : decide (t433 = ((t418.length : Int) == 0)) = true := by simpa using c148))
               (try (have c148b2 : (t433 == ((t418.length : Int) == 0)) = true := by simpa using c148))
               clear c148
               replace H := Option.bind_eq_some_iff.mp H
               obtain ⟨t434, A1560, H⟩ := H
               replace H : (if t434 = true then ((past_Within.f kj58 l1 t414).bind fun t435 => (if t435 = true then ((past_Within.f kj58 t418 l0).bind fun t436 => (tributarylaw07_PastHas.j5 kj58 l1 t395 t414 t418 (!t436))) else (tributarylaw07_PastHas.j5 kj58 l1 t395 t414 t418 true))) else (tributarylaw07_PastHas.j5 kj58 l1 t395 t414 t418 true)) = some r := H
               have A156 := Aside0.mk A1560
               clear A1560
               by_cases c157 : t434 = true
               ·
                subst c157
                have H1 : ((past_Within.f kj58 l1 t414).bind fun t435 => (if t435 = true then ((past_Within.f kj58 t418 l0).bind fun t436 => (tributarylaw07_PastHas.j5 kj58 l1 t395 t414 t418 (!t436))) else (tributarylaw07_PastHas.j5 kj58 l1 t395 t414 t418 true))) = some r := by rw [if_pos rfl] at H; exact H
                clear H
                have H := H1
                clear H1
                replace H := Option.bind_eq_some_iff.mp H
                obtain ⟨t435, A1580, H⟩ := H
                replace H : (if t435 = true then ((past_Within.f kj58 t418 l0).bind fun t436 => (tributarylaw07_PastHas.j5 kj58 l1 t395 t414 t418 (!t436))) else (tributarylaw07_PastHas.j5 kj58 l1 t395 t414 t418 true)) = some r := H
                have A158 := Aside0.mk A1580
                clear A1580
                by_cases c159 : t435 = true
                ·
                 subst c159
                 have H1 : ((past_Within.f kj58 t418 l0).bind fun t436 => (tributarylaw07_PastHas.j5 kj58 l1 t395 t414 t418 (!t436))) = some r := by rw [if_pos rfl] at H; exact H
                 clear H
                 have H := H1
                 clear H1
                 replace H := Option.bind_eq_some_iff.mp H
                 obtain ⟨t436, A1600, H⟩ := H
                 replace H : (tributarylaw07_PastHas.j5 kj58 l1 t395 t414 t418 (!t436)) = some r := H
                 have A160 := Aside0.mk A1600
                 clear A1600
                 have H' := Aside0.mk H
                 clear H
                 have hcz161_0 : w79.cell? ⟨gb394, 0, none⟩ = some (.int .i64 a3_0) := (blk_cell BK394.out 0).trans rfl
                 have hcz161_1 : w79.cell? ⟨gb394, 1, none⟩ = some (.int .i64 a3_1) := (blk_cell BK394.out 1).trans rfl
                 have hfz161_0 := blk_frozen BK394.out 0
                 have hfz161_1 := blk_frozen BK394.out 1
                 obtain ⟨Ao162, co162, eo162⟩ := Kd.R_slice HO_13.out
                 subst eo162
                 go_wp2_with (first | ((with_reducible refine gate_callee (f := 24) rfl ?_); refine goesL_ (some 124) rfl rfl Try.func24 (by kernel_rfl) rfl #[.slice Ao162 t414.length co162, .agg #[.int .i64 a3_0, .int .i64 a3_1]] rfl (by (try simp only [List.map_toArray, List.map_cons, List.map_nil]); first | done | rfl | (simp only [List.length_drop, List.length_take]; rfl)) ?_; (with_reducible refine (past_Has.calls kj58 _ _ t414 a3_0 a3_1 t426 _ ?side1 ?side2 A80.out).mono ?_); (case side1 => repeat (first | exact (Kd.R_reads' HO_13.out).2.2 | (with_reducible refine Kd.C_alloc ?_ _) | (with_reducible refine Kd.C_drewN ?_ _) | (with_reducible refine Kd.C_drew ?_))); (case side2 => exact (Kd.R_reads' HO_13.out).2.1); rintro e w163 ⟨rfl, hb⟩; refine ⟨_, rfl, ?_⟩; have n0_ := Aside0.mk (Kd.R_below (lf HO_13.out) hb); have n1_ := Aside0.mk (Kd.R_below (lf HO_15.out) hb); have n2_ := Aside0.mk (blk_below (g := gb394) (o := .cells #[.int .i64 a3_0, .int .i64 a3_1] 41 (0, 0)) (by (with_reducible repeat (first | refine blk_drewN ?_ _ | refine blk_drew ?_ | refine blk_alloc ?_ _)); exact BK394.out) hb); have n3_ := Aside0.mk (below_step (by repeat (first | (with_reducible first | exact HB.out | apply below_alloc | apply pw_below_drewN | apply below_drew1 | refine below_set ?_ GE394.out) | exact HB.out)) hb); clear HO_13; clear HO_15; clear BK394; clear HB; have HO_13 := n0_; have HO_15 := n1_; have BK394 := n2_; have HB := n3_; clear n0_ n1_ n2_ n3_; (try clear hb); (try clear hb2); (try clear hk); (try clear hi); have hcz164_0 : w163.cell? ⟨gb394, 0, none⟩ = some (.int .i64 a3_0) := (blk_cell BK394.out 0).trans rfl; have hcz164_1 : w163.cell? ⟨gb394, 1, none⟩ = some (.int .i64 a3_1) := (blk_cell BK394.out 1).trans rfl; have hfz164_0 := blk_frozen BK394.out 0; have hfz164_1 := blk_frozen BK394.out 1; obtain ⟨Ao165, co165, eo165⟩ := Kd.R_slice HO_15.out; subst eo165) | (go_at_call 24; (with_reducible refine (past_Has.calls kj58 _ _ t418 a3_0 a3_1 t432 _ ?side1 ?side2 A139.out).mono ?_); (case side1 => repeat (first | exact (Kd.R_reads' HO_15.out).2.2 | (with_reducible refine Kd.C_alloc ?_ _) | (with_reducible refine Kd.C_drewN ?_ _) | (with_reducible refine Kd.C_drew ?_))); (case side2 => exact (Kd.R_reads' HO_15.out).2.1); rintro e w166 ⟨rfl, hb⟩; have n0_ := Aside0.mk (Kd.R_below (lf HO_13.out) hb); have n1_ := Aside0.mk (Kd.R_below (lf HO_15.out) hb); have n2_ := Aside0.mk (blk_below (g := gb394) (o := .cells #[.int .i64 a3_0, .int .i64 a3_1] 41 (0, 0)) (by (with_reducible repeat (first | refine blk_drewN ?_ _ | refine blk_drew ?_ | refine blk_alloc ?_ _)); exact BK394.out) hb); have n3_ := Aside0.mk (below_step (by repeat (first | (with_reducible first | exact HB.out | apply below_alloc | apply pw_below_drewN | apply below_drew1 | refine below_set ?_ GE394.out) | exact HB.out)) hb); clear HO_13; clear HO_15; clear BK394; clear HB; have HO_13 := n0_; have HO_15 := n1_; have BK394 := n2_; have HB := n3_; clear n0_ n1_ n2_ n3_; (try clear hb); (try clear hb2); (try clear hk); (try clear hi)) | (go_at_call 40; (with_reducible refine (past_Within.calls kj58 _ _ l0 _ _ l1 t433 _ ?side1 ?side2 ?side3 ?side4 A147.out).mono ?_); (case side1 => repeat (first | exact (Kd.C_below HR0.out HB.out) | (with_reducible refine Kd.C_alloc ?_ _) | (with_reducible refine Kd.C_drewN ?_ _) | (with_reducible refine Kd.C_drew ?_))); (case side2 => exact HC0.out); (case side3 => repeat (first | exact (Kd.C_below HR1.out HB.out) | (with_reducible refine Kd.C_alloc ?_ _) | (with_reducible refine Kd.C_drewN ?_ _) | (with_reducible refine Kd.C_drew ?_))); (case side4 => exact HC1.out); rintro e w167 ⟨rfl, hb⟩; have n0_ := Aside0.mk (Kd.R_below (lf HO_13.out) hb); have n1_ := Aside0.mk (Kd.R_below (lf HO_15.out) hb); have n2_ := Aside0.mk (blk_below (g := gb394) (o := .cells #[.int .i64 a3_0, .int .i64 a3_1] 41 (0, 0)) (by (with_reducible repeat (first | refine blk_drewN ?_ _ | refine blk_drew ?_ | refine blk_alloc ?_ _)); exact BK394.out) hb); have n3_ := Aside0.mk (below_step (by repeat (first | (with_reducible first | exact HB.out | apply below_alloc | apply pw_below_drewN | apply below_drew1 | refine below_set ?_ GE394.out) | exact HB.out)) hb); clear HO_13; clear HO_15; clear BK394; clear HB; have HO_13 := n0_; have HO_15 := n1_; have BK394 := n2_; have HB := n3_; clear n0_ n1_ n2_ n3_; (try clear hb); (try clear hb2); (try clear hk); (try clear hi)) | (go_at_call 40; (with_reducible refine (past_Within.calls kj58 _ _ l0 _ _ t414 true _ ?side1 ?side2 ?side3 ?side4 A156.out).mono ?_); (case side1 => repeat (first | exact (Kd.C_below HR0.out HB.out) | (with_reducible refine Kd.C_alloc ?_ _) | (with_reducible refine Kd.C_drewN ?_ _) | (with_reducible refine Kd.C_drew ?_))); (case side2 => exact HC0.out); (case side3 => repeat (first | exact (Kd.R_reads' HO_13.out).2.2 | (with_reducible refine Kd.C_alloc ?_ _) | (with_reducible refine Kd.C_drewN ?_ _) | (with_reducible refine Kd.C_drew ?_))); (case side4 => exact (Kd.R_reads' HO_13.out).2.1); rintro e w168 ⟨rfl, hb⟩; have n0_ := Aside0.mk (Kd.R_below (lf HO_13.out) hb); have n1_ := Aside0.mk (Kd.R_below (lf HO_15.out) hb); have n2_ := Aside0.mk (blk_below (g := gb394) (o := .cells #[.int .i64 a3_0, .int .i64 a3_1] 41 (0, 0)) (by (with_reducible repeat (first | refine blk_drewN ?_ _ | refine blk_drew ?_ | refine blk_alloc ?_ _)); exact BK394.out) hb); have n3_ := Aside0.mk (below_step (by repeat (first | (with_reducible first | exact HB.out | apply below_alloc | apply pw_below_drewN | apply below_drew1 | refine below_set ?_ GE394.out) | exact HB.out)) hb); clear HO_13; clear HO_15; clear BK394; clear HB; have HO_13 := n0_; have HO_15 := n1_; have BK394 := n2_; have HB := n3_; clear n0_ n1_ n2_ n3_; (try clear hb); (try clear hb2); (try clear hk); (try clear hi)) | (go_at_call 40; (with_reducible refine (past_Within.calls kj58 _ _ l1 _ _ t414 true _ ?side1 ?side2 ?side3 ?side4 A158.out).mono ?_); (case side1 => repeat (first | exact (Kd.C_below HR1.out HB.out) | (with_reducible refine Kd.C_alloc ?_ _) | (with_reducible refine Kd.C_drewN ?_ _) | (with_reducible refine Kd.C_drew ?_))); (case side2 => exact HC1.out); (case side3 => repeat (first | exact (Kd.R_reads' HO_13.out).2.2 | (with_reducible refine Kd.C_alloc ?_ _) | (with_reducible refine Kd.C_drewN ?_ _) | (with_reducible refine Kd.C_drew ?_))); (case side4 => exact (Kd.R_reads' HO_13.out).2.1); rintro e w169 ⟨rfl, hb⟩; have n0_ := Aside0.mk (Kd.R_below (lf HO_13.out) hb); have n1_ := Aside0.mk (Kd.R_below (lf HO_15.out) hb); have n2_ := Aside0.mk (blk_below (g := gb394) (o := .cells #[.int .i64 a3_0, .int .i64 a3_1] 41 (0, 0)) (by (with_reducible repeat (first | refine blk_drewN ?_ _ | refine blk_drew ?_ | refine blk_alloc ?_ _)); exact BK394.out) hb); have n3_ := Aside0.mk (below_step (by repeat (first | (with_reducible first | exact HB.out | apply below_alloc | apply pw_below_drewN | apply below_drew1 | refine below_set ?_ GE394.out) | exact HB.out)) hb); clear HO_13; clear HO_15; clear BK394; clear HB; have HO_13 := n0_; have HO_15 := n1_; have BK394 := n2_; have HB := n3_; clear n0_ n1_ n2_ n3_; (try clear hb); (try clear hb2); (try clear hk); (try clear hi)) | (go_at_call 40; (with_reducible refine (past_Within.calls kj58 _ _ t418 _ _ l0 t436 _ ?side1 ?side2 ?side3 ?side4 A160.out).mono ?_); (case side1 => repeat (first | exact (Kd.R_reads' HO_15.out).2.2 | (with_reducible refine Kd.C_alloc ?_ _) | (with_reducible refine Kd.C_drewN ?_ _) | (with_reducible refine Kd.C_drew ?_))); (case side2 => exact (Kd.R_reads' HO_15.out).2.1); (case side3 => repeat (first | exact (Kd.C_below HR0.out HB.out) | (with_reducible refine Kd.C_alloc ?_ _) | (with_reducible refine Kd.C_drewN ?_ _) | (with_reducible refine Kd.C_drew ?_))); (case side4 => exact HC0.out); rintro e w170 ⟨rfl, hb⟩; have n0_ := Aside0.mk (Kd.R_below (lf HO_13.out) hb); have n1_ := Aside0.mk (Kd.R_below (lf HO_15.out) hb); have n2_ := Aside0.mk (blk_below (g := gb394) (o := .cells #[.int .i64 a3_0, .int .i64 a3_1] 41 (0, 0)) (by (with_reducible repeat (first | refine blk_drewN ?_ _ | refine blk_drew ?_ | refine blk_alloc ?_ _)); exact BK394.out) hb); have n3_ := Aside0.mk (below_step (by repeat (first | (with_reducible first | exact HB.out | apply below_alloc | apply pw_below_drewN | apply below_drew1 | refine below_set ?_ GE394.out) | exact HB.out)) hb); clear HO_13; clear HO_15; clear BK394; clear HB; have HO_13 := n0_; have HO_15 := n1_; have BK394 := n2_; have HB := n3_; clear n0_ n1_ n2_ n3_; (try clear hb); (try clear hb2); (try clear hk); (try clear hi)))
                 go_meet
                 case rel => exact ⟨_, (!t436), (by first | rfl | (simp; done) | (simp [*]; done)), H', ⟨by have := HJ10.out; have := HJ45.out; have := HJ58.out; first | omega | exact Nat.le_refl _⟩, ⟨by (with_reducible repeat (first | apply Kd.R_alloc | apply Kd.R_drewN | apply Kd.R_drew)); exact HO_13.out⟩, ⟨by (with_reducible repeat (first | apply Kd.R_alloc | apply Kd.R_drewN | apply Kd.R_drew)); exact HO_15.out⟩, ⟨by (with_reducible repeat (first | refine blk_drewN ?_ _ | refine blk_drew ?_ | refine blk_alloc ?_ _)); exact BK394.out⟩, ⟨by repeat (first | (with_reducible first | exact HB.out | apply below_alloc | apply pw_below_drewN | apply below_drew1 | refine below_set ?_ GE394.out) | exact HB.out)⟩⟩
                · replace c159 := Bool.eq_false_iff.mpr c159
                  subst c159
                  have H1 : (tributarylaw07_PastHas.j5 kj58 l1 t395 t414 t418 true) = some r := by rw [if_neg (show ¬ (false = true) by decide)] at H; exact H
                  clear H
                  have H := H1
                  clear H1
                  exact absurd (H.trans (congrArg some HR.out)) (by with_reducible repeat' first | exact mt_false | exact mt_none | exact tributarylaw07_PastHas.j0_nt0 _ _ _ _ _ _ _ _ | exact tributarylaw07_PastHas.j5_nt1 _ _ _ _ _ | exact tributarylaw07_PastHas.j4_nt2 _ _ _ _ _ _ _ _ | refine mt_iff ?_ | refine mt_ite ?_ ?_ | refine mt_bind (fun _ => ?_))
               · replace c157 := Bool.eq_false_iff.mpr c157
                 subst c157
                 have H1 : (tributarylaw07_PastHas.j5 kj58 l1 t395 t414 t418 true) = some r := by rw [if_neg (show ¬ (false = true) by decide)] at H; exact H
                 clear H
                 have H := H1
                 clear H1
                 exact absurd (H.trans (congrArg some HR.out)) (by with_reducible repeat' first | exact mt_false | exact mt_none | exact tributarylaw07_PastHas.j0_nt0 _ _ _ _ _ _ _ _ | exact tributarylaw07_PastHas.j5_nt1 _ _ _ _ _ | exact tributarylaw07_PastHas.j4_nt2 _ _ _ _ _ _ _ _ | refine mt_iff ?_ | refine mt_ite ?_ ?_ | refine mt_bind (fun _ => ?_))
          case rest =>
           clear HC76
           try clear c1; try clear c2; try clear p2; try clear c3; try clear c4; try clear p4; try clear q4; try clear hx4; try clear c5; try clear c6; try clear p6; try clear c7; try clear c8; try clear c9; try clear c10; try clear c13; try clear c14; try clear c15; try clear c15b0; try clear c15b1; try clear c24; try clear c28; try clear c29; try clear c29b0; try clear c30; try clear c32; try clear c33; try clear c34; try clear c34b0; try clear c35; try clear c38; try clear p40; try clear q40; try clear hx40; try clear p41; try clear q41; try clear hx41; try clear c48; try clear c48b0; try clear c48b1; try clear c53; try clear c54; try clear c62; try clear c62b0; try clear c62b1; try clear c63; try clear c63b0; try clear c63b1; try clear p64; try clear c65; try clear c65b0; try clear c65b1; try clear c73; try clear c81; try clear c82; try clear c82b0; try clear c82b1; try clear c82b2; try clear c87; try clear c87b0; try clear c87b1; try clear c87b2; try clear c95; try clear c95b0; try clear c95b1; try clear c95b2; try clear c104; try clear c106; try clear c135; try clear c135b0; try clear c135b1; try clear c135b2; try clear c140; try clear c140b0; try clear c140b1; try clear c140b2; try clear c148; try clear c148b0; try clear c148b1; try clear c148b2; try clear c157; try clear c159; try clear hcz108_0; try clear hcz108_1; try clear hcz111_0; try clear hcz111_1; try clear hcz118_0; try clear hcz118_1; try clear hcz121_0; try clear hcz121_1; try clear hcz127_0; try clear hcz127_1; try clear hcz130_0; try clear hcz130_1; try clear hcz136_0; try clear hcz136_1; try clear hcz141_0; try clear hcz141_1; try clear hcz144_0; try clear hcz144_1; try clear hcz149_0; try clear hcz149_1; try clear hcz152_0; try clear hcz152_1; try clear hcz161_0; try clear hcz161_1; try clear hcz164_0; try clear hcz164_1; try clear hcz171_0; try clear hcz171_1; try clear hcz174_0; try clear hcz174_1; try clear hcz180_0; try clear hcz180_1; try clear hcz183_0; try clear hcz183_1; try clear hcz83_0; try clear hcz83_1; try clear hcz88_0; try clear hcz88_1; try clear hcz91_0; try clear hcz91_1; try clear hcz96_0; try clear hcz96_1; try clear hcz99_0; try clear hcz99_1; try clear hfz108_0; try clear hfz108_1; try clear hfz111_0; try clear hfz111_1; try clear hfz118_0; try clear hfz118_1; try clear hfz121_0; try clear hfz121_1; try clear hfz127_0; try clear hfz127_1; try clear hfz130_0; try clear hfz130_1; try clear hfz136_0; try clear hfz136_1; try clear hfz141_0; try clear hfz141_1; try clear hfz144_0; try clear hfz144_1; try clear hfz149_0; try clear hfz149_1; try clear hfz152_0; try clear hfz152_1; try clear hfz161_0; try clear hfz161_1; try clear hfz164_0; try clear hfz164_1; try clear hfz171_0; try clear hfz171_1; try clear hfz174_0; try clear hfz174_1; try clear hfz180_0; try clear hfz180_1; try clear hfz183_0; try clear hfz183_1; try clear hfz83_0; try clear hfz83_1; try clear hfz88_0; try clear hfz88_1; try clear hfz91_0; try clear hfz91_1; try clear hfz96_0; try clear hfz96_1; try clear hfz99_0; try clear hfz99_1; try clear hx406_0; try clear hx406_1; try clear hx408_0; try clear hx408_1; try clear hx410_0; try clear hx410_1; try clear p2; try clear p4; try clear p40; try clear p406; try clear p408; try clear p41; try clear p410; try clear p6; try clear p64; try clear q4; try clear q40; try clear q406; try clear q408; try clear q41; try clear q410
           obtain ⟨kq, x167_75, rfl, HA, HJ75, HO_13, HO_15, BK394, HB⟩ := hcut
           cases kq with
           | zero => exact absurd HA.out (by simp [tributarylaw07_PastHas.j5])
           | succ kj75 =>
            have H := HA.out
            clear HA
            simp only [tributarylaw07_PastHas.j5] at H
            by_cases c188 : x167_75 = true
            · subst c188
              have H1 : (some false) = some r := by rw [if_pos rfl] at H; exact H
              clear H
              have H := H1
              clear H1
              exact absurd (H.trans (congrArg some HR.out)) (by with_reducible repeat' first | exact mt_false | exact mt_none | exact tributarylaw07_PastHas.j0_nt0 _ _ _ _ _ _ _ _ | exact tributarylaw07_PastHas.j5_nt1 _ _ _ _ _ | exact tributarylaw07_PastHas.j4_nt2 _ _ _ _ _ _ _ _ | refine mt_iff ?_ | refine mt_ite ?_ ?_ | refine mt_bind (fun _ => ?_))
            ·
             replace c188 := Bool.eq_false_iff.mpr c188
             subst c188
             have H1 : ((past_Join.f kj75 t418 l1).bind fun bt437 => (if t395 = true then (if bt437.2 = 0 then ((tributarykit_SameSpans.f kj75 bt437.1 t414).bind fun t441 => (if t441 = true then ((past_Count.f kj75 t418).bind fun t442 => ((past_Count.f kj75 l1).bind fun t443 => ((past_Count.f kj75 t414).bind fun t444 => (some ((wrap64 (t442 + t443)) == t444))))) else (some false))) else (some false)) else (some false))) = some r := by rw [if_neg (show ¬ (false = true) by decide)] at H; exact H
             clear H
             have H := H1
             clear H1
             replace H := Option.bind_eq_some_iff.mp H
             obtain ⟨⟨t437, t438⟩, A1890, H⟩ := H
             replace H : (if t395 = true then (if t438 = 0 then ((tributarykit_SameSpans.f kj75 t437 t414).bind fun t441 => (if t441 = true then ((past_Count.f kj75 t418).bind fun t442 => ((past_Count.f kj75 l1).bind fun t443 => ((past_Count.f kj75 t414).bind fun t444 => (some ((wrap64 (t442 + t443)) == t444))))) else (some false))) else (some false)) else (some false)) = some r := H
             have A189 := Aside0.mk A1890
             clear A1890
             by_cases c190 : t395 = true
             ·
              subst c190
              have H1 : (if t438 = 0 then ((tributarykit_SameSpans.f kj75 t437 t414).bind fun t441 => (if t441 = true then ((past_Count.f kj75 t418).bind fun t442 => ((past_Count.f kj75 l1).bind fun t443 => ((past_Count.f kj75 t414).bind fun t444 => (some ((wrap64 (t442 + t443)) == t444))))) else (some false))) else (some false)) = some r := by rw [if_pos rfl] at H; exact H
              clear H
              have H := H1
              clear H1
              by_cases c191 : t438 = 0
              ·
               rw [if_pos c191] at H
               have c191b0 : (t438 == 0) = true := beq_iff_eq.mpr c191
               have c191b1 : (t438 != 0) = false := bne_eq_false_iff_eq.mpr c191
               clear c191
               replace H := Option.bind_eq_some_iff.mp H
               obtain ⟨t441, A1920, H⟩ := H
               replace H : (if t441 = true then ((past_Count.f kj75 t418).bind fun t442 => ((past_Count.f kj75 l1).bind fun t443 => ((past_Count.f kj75 t414).bind fun t444 => (some ((wrap64 (t442 + t443)) == t444))))) else (some false)) = some r := H
               have A192 := Aside0.mk A1920
               clear A1920
               by_cases c193 : t441 = true
               ·
                subst c193
                have H1 : ((past_Count.f kj75 t418).bind fun t442 => ((past_Count.f kj75 l1).bind fun t443 => ((past_Count.f kj75 t414).bind fun t444 => (some ((wrap64 (t442 + t443)) == t444))))) = some r := by rw [if_pos rfl] at H; exact H
                clear H
                have H := H1
                clear H1
                replace H := Option.bind_eq_some_iff.mp H
                obtain ⟨t442, A1940, H⟩ := H
                replace H : ((past_Count.f kj75 l1).bind fun t443 => ((past_Count.f kj75 t414).bind fun t444 => (some ((wrap64 (t442 + t443)) == t444)))) = some r := H
                have A194 := Aside0.mk A1940
                clear A1940
                replace H := Option.bind_eq_some_iff.mp H
                obtain ⟨t443, A1950, H⟩ := H
                replace H : ((past_Count.f kj75 t414).bind fun t444 => (some ((wrap64 (t442 + t443)) == t444))) = some r := H
                have A195 := Aside0.mk A1950
                clear A1950
                replace H := Option.bind_eq_some_iff.mp H
                obtain ⟨t444, A1960, H⟩ := H
                replace H : (some ((wrap64 (t442 + t443)) == t444)) = some r := H
                have A196 := Aside0.mk A1960
                clear A1960
                obtain rfl := Option.some.inj H
                obtain ⟨Ao197, co197, eo197⟩ := Kd.R_slice HO_15.out
                subst eo197
                go_wp2_with (first | ((with_reducible refine gate_callee (f := 33) rfl ?_); refine goesL_ (some 171) rfl rfl Try.func33 (by kernel_rfl) rfl #[.slice Ao197 t418.length co197, .slice A1 l1.length c1] rfl (by (try simp only [List.map_toArray, List.map_cons, List.map_nil]); first | done | rfl | (simp only [List.length_drop, List.length_take]; rfl)) ?_; (with_reducible refine (past_Join.calls kj75 _ _ t418 _ _ l1 t437 t438 _ ?side1 ?side2 ?side3 ?side4 A189.out).mono ?_); (case side1 => repeat (first | exact (Kd.R_reads' HO_15.out).2.2 | (with_reducible refine Kd.C_alloc ?_ _) | (with_reducible refine Kd.C_drewN ?_ _) | (with_reducible refine Kd.C_drew ?_))); (case side2 => exact (Kd.R_reads' HO_15.out).2.1); (case side3 => repeat (first | exact (Kd.C_below HR1.out HB.out) | (with_reducible refine Kd.C_alloc ?_ _) | (with_reducible refine Kd.C_drewN ?_ _) | (with_reducible refine Kd.C_drew ?_))); (case side4 => exact HC1.out); rintro e w198 ⟨v439, rfl, ho0, hb⟩; refine ⟨_, rfl, ?_⟩; have n0_ := Aside0.mk (Kd.R_elder' (lf HO_13.out) (Kd.R_base ho0) hb); have n1_ := Aside0.mk (Kd.R_elder' (lf HO_15.out) (Kd.R_base ho0) hb); have n2_ := Aside0.mk (Kd.R_lower (Kd.R_new' (Kd.R_new' ho0 (Kd.R_lt (lf HO_13.out))) (Kd.R_lt (lf HO_15.out))) (below_size (by repeat (first | (with_reducible first | exact HB.out | apply below_alloc | apply pw_below_drewN | apply below_drew1 | refine below_set ?_ GE394.out) | exact HB.out)))); have n3_ := Aside0.mk (blk_below (g := gb394) (o := .cells #[.int .i64 a3_0, .int .i64 a3_1] 41 (0, 0)) (by (with_reducible repeat (first | refine blk_drewN ?_ _ | refine blk_drew ?_ | refine blk_alloc ?_ _)); exact BK394.out) hb); have n4_ := Aside0.mk (below_step (by repeat (first | (with_reducible first | exact HB.out | apply below_alloc | apply pw_below_drewN | apply below_drew1 | refine below_set ?_ GE394.out) | exact HB.out)) hb); clear HO_13; clear HO_15; clear BK394; clear HB; have HO_13 := n0_; have HO_15 := n1_; have HO440 := n2_; have BK394 := n3_; have HB := n4_; clear n0_ n1_ n2_ n3_ n4_; (try clear hb); (try clear hb2); (try clear hk); (try clear hi); (try clear ho0); obtain ⟨Ao199, co199, eo199⟩ := Kd.R_slice HO440.out; subst eo199; obtain ⟨Ao200, co200, eo200⟩ := Kd.R_slice HO_13.out; subst eo200) | (go_at_call 18; (with_reducible refine (tributarykit_SameSpans.calls kj75 _ _ t437 _ _ t414 true _ ?side1 ?side2 ?side3 ?side4 A192.out).mono ?_); (case side1 => repeat (first | exact (Kd.R_reads' HO440.out).2.2 | (with_reducible refine Kd.C_alloc ?_ _) | (with_reducible refine Kd.C_drewN ?_ _) | (with_reducible refine Kd.C_drew ?_))); (case side2 => exact (Kd.R_reads' HO440.out).2.1); (case side3 => repeat (first | exact (Kd.R_reads' HO_13.out).2.2 | (with_reducible refine Kd.C_alloc ?_ _) | (with_reducible refine Kd.C_drewN ?_ _) | (with_reducible refine Kd.C_drew ?_))); (case side4 => exact (Kd.R_reads' HO_13.out).2.1); rintro e w' ⟨rfl, ⟨nd, rfl⟩⟩) | (go_at_call 26; (with_reducible refine (past_Count.calls kj75 _ _ t418 t442 _ ?side1 ?side2 A194.out).mono ?_); (case side1 => repeat (first | exact (Kd.R_reads' HO_15.out).2.2 | (with_reducible refine Kd.C_alloc ?_ _) | (with_reducible refine Kd.C_drewN ?_ _) | (with_reducible refine Kd.C_drew ?_))); (case side2 => exact (Kd.R_reads' HO_15.out).2.1); rintro e w201 ⟨rfl, hb⟩; have n0_ := Aside0.mk (Kd.R_below (lf HO_13.out) hb); have n1_ := Aside0.mk (Kd.R_below (lf HO_15.out) hb); have n2_ := Aside0.mk (Kd.R_below (lf HO440.out) hb); have n3_ := Aside0.mk (blk_below (g := gb394) (o := .cells #[.int .i64 a3_0, .int .i64 a3_1] 41 (0, 0)) (by (with_reducible repeat (first | refine blk_drewN ?_ _ | refine blk_drew ?_ | refine blk_alloc ?_ _)); exact BK394.out) hb); have n4_ := Aside0.mk (below_step (by repeat (first | (with_reducible first | exact HB.out | apply below_alloc | apply pw_below_drewN | apply below_drew1 | refine below_set ?_ GE394.out) | exact HB.out)) hb); clear HO_13; clear HO_15; clear HO440; clear BK394; clear HB; have HO_13 := n0_; have HO_15 := n1_; have HO440 := n2_; have BK394 := n3_; have HB := n4_; clear n0_ n1_ n2_ n3_ n4_; (try clear hb); (try clear hb2); (try clear hk); (try clear hi)) | (go_at_call 26; (with_reducible refine (past_Count.calls kj75 _ _ l1 t443 _ ?side1 ?side2 A195.out).mono ?_); (case side1 => repeat (first | exact (Kd.C_below HR1.out HB.out) | (with_reducible refine Kd.C_alloc ?_ _) | (with_reducible refine Kd.C_drewN ?_ _) | (with_reducible refine Kd.C_drew ?_))); (case side2 => exact HC1.out); rintro e w202 ⟨rfl, hb⟩; have n0_ := Aside0.mk (Kd.R_below (lf HO_13.out) hb); have n1_ := Aside0.mk (Kd.R_below (lf HO_15.out) hb); have n2_ := Aside0.mk (Kd.R_below (lf HO440.out) hb); have n3_ := Aside0.mk (blk_below (g := gb394) (o := .cells #[.int .i64 a3_0, .int .i64 a3_1] 41 (0, 0)) (by (with_reducible repeat (first | refine blk_drewN ?_ _ | refine blk_drew ?_ | refine blk_alloc ?_ _)); exact BK394.out) hb); have n4_ := Aside0.mk (below_step (by repeat (first | (with_reducible first | exact HB.out | apply below_alloc | apply pw_below_drewN | apply below_drew1 | refine below_set ?_ GE394.out) | exact HB.out)) hb); clear HO_13; clear HO_15; clear HO440; clear BK394; clear HB; have HO_13 := n0_; have HO_15 := n1_; have HO440 := n2_; have BK394 := n3_; have HB := n4_; clear n0_ n1_ n2_ n3_ n4_; (try clear hb); (try clear hb2); (try clear hk); (try clear hi)) | (go_at_call 26; (with_reducible refine (past_Count.calls kj75 _ _ t414 t444 _ ?side1 ?side2 A196.out).mono ?_); (case side1 => repeat (first | exact (Kd.R_reads' HO_13.out).2.2 | (with_reducible refine Kd.C_alloc ?_ _) | (with_reducible refine Kd.C_drewN ?_ _) | (with_reducible refine Kd.C_drew ?_))); (case side2 => exact (Kd.R_reads' HO_13.out).2.1); rintro e w203 ⟨rfl, hb⟩; have n0_ := Aside0.mk (Kd.R_below (lf HO_13.out) hb); have n1_ := Aside0.mk (Kd.R_below (lf HO_15.out) hb); have n2_ := Aside0.mk (Kd.R_below (lf HO440.out) hb); have n3_ := Aside0.mk (blk_below (g := gb394) (o := .cells #[.int .i64 a3_0, .int .i64 a3_1] 41 (0, 0)) (by (with_reducible repeat (first | refine blk_drewN ?_ _ | refine blk_drew ?_ | refine blk_alloc ?_ _)); exact BK394.out) hb); have n4_ := Aside0.mk (below_step (by repeat (first | (with_reducible first | exact HB.out | apply below_alloc | apply pw_below_drewN | apply below_drew1 | refine below_set ?_ GE394.out) | exact HB.out)) hb); clear HO_13; clear HO_15; clear HO440; clear BK394; clear HB; have HO_13 := n0_; have HO_15 := n1_; have HO440 := n2_; have BK394 := n3_; have HB := n4_; clear n0_ n1_ n2_ n3_ n4_; (try clear hb); (try clear hb2); (try clear hk); (try clear hi)))
                go_ret
                exact ⟨by first | rfl | (simp [errW_none, errW_some] <;> rfl) | (simp [*, errW_none, errW_some] <;> rfl), by repeat (first | (with_reducible first | exact HB.out | apply below_alloc | apply pw_below_drewN | apply below_drew1 | refine below_set ?_ GE394.out) | exact HB.out)⟩
               · replace c193 := Bool.eq_false_iff.mpr c193
                 subst c193
                 have H1 : (some false) = some r := by rw [if_neg (show ¬ (false = true) by decide)] at H; exact H
                 clear H
                 have H := H1
                 clear H1
                 exact absurd (H.trans (congrArg some HR.out)) (by with_reducible repeat' first | exact mt_false | exact mt_none | exact tributarylaw07_PastHas.j0_nt0 _ _ _ _ _ _ _ _ | exact tributarylaw07_PastHas.j5_nt1 _ _ _ _ _ | exact tributarylaw07_PastHas.j4_nt2 _ _ _ _ _ _ _ _ | refine mt_iff ?_ | refine mt_ite ?_ ?_ | refine mt_bind (fun _ => ?_))
              · rw [if_neg c191] at H
                exact absurd (H.trans (congrArg some HR.out)) (by with_reducible repeat' first | exact mt_false | exact mt_none | exact tributarylaw07_PastHas.j0_nt0 _ _ _ _ _ _ _ _ | exact tributarylaw07_PastHas.j5_nt1 _ _ _ _ _ | exact tributarylaw07_PastHas.j4_nt2 _ _ _ _ _ _ _ _ | refine mt_iff ?_ | refine mt_ite ?_ ?_ | refine mt_bind (fun _ => ?_))
             · replace c190 := Bool.eq_false_iff.mpr c190
               subst c190
               have H1 : (some false) = some r := by rw [if_neg (show ¬ (false = true) by decide)] at H; exact H
               clear H
               have H := H1
               clear H1
               exact absurd (H.trans (congrArg some HR.out)) (by with_reducible repeat' first | exact mt_false | exact mt_none | exact tributarylaw07_PastHas.j0_nt0 _ _ _ _ _ _ _ _ | exact tributarylaw07_PastHas.j5_nt1 _ _ _ _ _ | exact tributarylaw07_PastHas.j4_nt2 _ _ _ _ _ _ _ _ | refine mt_iff ?_ | refine mt_ite ?_ ?_ | refine mt_bind (fun _ => ?_))
end
end Go.Proofs.YtdelfhahbngcfaaX.P07
end
section
namespace Go.Proofs.YtdelfhahbngcfaaX.P07
open Go.RowKit Go.Proofs.YtdelfhahbngcfaaW.PrintWords Go.Proofs.YtdelfhahbngcfaaW.PrintLast Go.Proofs.YtdelfhahbngcfaaW.PrintMore
set_option linter.unusedVariables false
set_option linter.unusedSimpArgs false
structure Made (a b j m : List S60) : Prop where
  ca : Chk a
  cb : Chk b
  cj : Chk j
  cm : Chk m
  hj : ∀ n q, HasP j n q ↔ HasP a n q ∨ HasP b n q
  hm : ∀ n q, HasP m n q ↔ HasP a n q ∧ ¬ HasP b n q
  em : m = minusV a b
  lb : b.length ≤ 200
  lm : m.length ≤ 400
theorem made (a b : List S60) (ha : Chk a) (hb : Chk b) (la : a.length ≤ 200) (lb : b.length ≤ 200) : Made a b (tidyL (a ++ b)) (minusV a b) := by
  have oa := chk_ok ha
  have ob := chk_ok hb
  have ks : ∀ s ∈ a ++ b, okS60 s := fun s hs => by
    rcases List.mem_append.1 hs with h | h
    · exact (chk_can ha.2).2 s h
    · exact (chk_can hb.2).2 s h
  have hl : (a ++ b).length ≤ 400 := by simp; omega
  obtain ⟨m1, m2, m3⟩ := minus_law b a oa.1 oa.2 ob.2
  have hml := minus_len b a oa.1 oa.2 ob.2
  exact ⟨ha, hb, tidy_chk _ (by omega) ks, chk_sub (src := a) (by omega) m1 m2 (fun n q h => ((m3 n q).1 h).1) (chk_can ha.2).2,
    fun n q => by rw [(tidy_law _ (fun s hs => okS_okI (ks s hs))).2.2, has_app], m3, rfl, lb, by omega⟩
theorem made_has {a b j m : List S60} (h : Made a b j m) (n q : Int) : hasR j n q = (hasR a n q || hasR b n q) ∧ hasR m n q = (hasR a n q && !hasR b n q) := by
  rw [hasR_yes h.ca, hasR_yes h.cb, hasR_yes h.cj, hasR_yes h.cm]
  have e1 := h.hj n q
  have e2 := h.hm n q
  rw [← hasB_iff, ← hasB_iff, ← hasB_iff] at e1 e2
  cases hA : hasB a n q <;> cases hB : hasB b n q <;> cases hJ : hasB j n q <;> cases hM : hasB m n q <;> simp_all
theorem made_again {a b j m : List S60} (h : Made a b j m) : joinV m b = (j, 0) ∧ countR m + countR b = countR j := by
  have oa := chk_ok h.ca
  have ob := chk_ok h.cb
  have oj := chk_ok h.cj
  have om := chk_ok h.cm
  have hok : ∀ s ∈ m ++ b, okI s = true := fun s hs => (List.mem_append.1 hs).elim (om.2 s) (ob.2 s)
  obtain ⟨t1, t2, t3⟩ := tidy_law (m ++ b) hok
  have hu : ∀ n q, HasP j n q ↔ HasP m n q ∨ HasP b n q := fun n q => by
    rw [h.hj, h.hm]
    by_cases hb : HasP b n q <;> simp [hb]
  have e : tidyL (m ++ b) = j := can_one t1 oj.1 (fun n q => by rw [t3, has_app, hu])
  have hl := tidy_lenc (m ++ b)
  rw [List.length_append] at hl
  have lb := h.lb
  have lm := h.lm
  refine ⟨?_, ?_⟩
  · rw [joinV_yes h.cm h.cb]
    unfold tidyV
    rw [e] at hl ⊢
    exact if_neg (by omega)
  · rw [(count_cnt h.cm).1, (count_cnt h.cb).1, (count_cnt h.cj).1]
    exact cnt_union om.1 ob.1 oj.1 om.2 ob.2 oj.2 (fun n q hh => ((h.hm n q).1 hh.1).2 hh.2) hu
theorem has_j5 {a b j m : List S60} (h : Made a b j m) : Ev (fun k => tributarylaw07_PastHas.j5 k b true j m false) true := by
  refine Ev.step (fun _ => by rw [tributarylaw07_PastHas.j5]) ?_
  have hj := h.cj.1
  have hm := h.cm.1
  have hb := h.cb.1
  obtain ⟨e1, e2⟩ := made_again h
  have c1 := count_cnt h.cm
  have c2 := count_cnt h.cb
  refine ev_neg (by decide) (Ev.bind (join_ev m b (by omega) (by omega)) ?_)
  rw [e1]
  refine ev_pos rfl (ev_pos rfl (Ev.bind (same_self j (by omega)) (ev_pos rfl ?_)))
  refine Ev.bind (count_ev m (by omega)) (Ev.bind (count_ev b (by omega)) (Ev.bind (count_ev j (by omega)) ?_))
  rw [w64 (a := countR m + countR b) (by omega), e2, beq_self_eq_true]
  exact Ev.now _
theorem has_tail {a b j m : List S60} (h : Made a b j m) : Ev (fun k => (past_Within.f k a b).bind fun t428 => (if (t428 != ((m.length : Int) == 0)) = true then (tributarylaw07_PastHas.j5 k b true j m true) else ((past_Within.f k a j).bind fun t429 => (if t429 = true then ((past_Within.f k b j).bind fun t430 => (if t430 = true then ((past_Within.f k m a).bind fun t431 => (tributarylaw07_PastHas.j5 k b true j m (!t431))) else (tributarylaw07_PastHas.j5 k b true j m true))) else (tributarylaw07_PastHas.j5 k b true j m true))))) true := by
  have hj := h.cj.1
  have hm := h.cm.1
  have hb := h.cb.1
  have ha := h.ca.1
  refine Ev.bind (within_ev a b (by omega) (by omega)) ?_
  have e : (withV a b != ((m.length : Int) == 0)) = false := by
    rw [withV_yes h.ca h.cb, ← h.em]
    cases m with
    | nil => rfl
    | cons x r =>
      have : ((((x :: r).length : Nat) : Int) == 0) = false := by rw [List.length_cons]; exact beq_false_of_ne (by omega)
      rw [this]
      rfl
  rw [e]
  refine ev_neg (by decide) (Ev.bind (within_ev a j (by omega) (by omega)) ?_)
  rw [with_sub h.ca h.cj (fun n q hh => (h.hj n q).2 (.inl hh))]
  refine ev_pos rfl (Ev.bind (within_ev b j (by omega) (by omega)) ?_)
  rw [with_sub h.cb h.cj (fun n q hh => (h.hj n q).2 (.inr hh))]
  refine ev_pos rfl (Ev.bind (within_ev m a (by omega) (by omega)) ?_)
  rw [with_sub h.cm h.ca (fun n q hh => ((h.hm n q).1 hh).1)]
  exact has_j5 h
theorem has_j4 {a b j m : List S60} (h : Made a b j m) (n q : Int) : Ev (fun k => tributarylaw07_PastHas.j4 k a b true j m false n q) true := by
  refine Ev.step (fun _ => by rw [tributarylaw07_PastHas.j4]) ?_
  have hj := h.cj.1
  have hm := h.cm.1
  have hb := h.cb.1
  have ha := h.ca.1
  refine ev_neg (by decide) ?_
  obtain ⟨e1, e2⟩ := made_has h n q
  have vA := has_ev a n q (by omega)
  have vB := has_ev b n q (by omega)
  have vJ := has_ev j n q (by omega)
  have vM := has_ev m n q (by omega)
  rw [e1] at vJ
  rw [e2] at vM
  have T := has_tail h
  generalize hasR a n q = A at vA vJ vM
  generalize hasR b n q = B at vB vJ vM
  refine Ev.bind vA (Ev.bind vB (Ev.bind vJ ?_))
  cases A <;> cases B
  · exact ev_neg (by decide) (ev_neg (by decide) (Ev.bind vM (ev_neg (by decide) T)))
  · exact ev_neg (by decide) (ev_neg (by decide) (Ev.bind vM (ev_neg (by decide) T)))
  · exact ev_pos rfl (ev_neg (by decide) (Ev.bind vM (ev_neg (by decide) T)))
  · exact ev_pos rfl (ev_neg (by decide) (Ev.bind vM (ev_neg (by decide) T)))
theorem has_j2 (a b : List S60) (la : a.length ≤ 200) (lb : b.length ≤ 200) (n q : Int) : Ev (fun k => tributarylaw07_PastHas.j2 k a b true n q) true := by
  have bad : ¬ (Chk a ∧ Chk b) → Ev (fun k => tributarylaw07_PastHas.j3 k a b true true n q) true := fun hn => by
    refine Ev.step (fun _ => by rw [tributarylaw07_PastHas.j3]) ?_
    refine ev_pos rfl (ev_pos rfl (Ev.bind (within_ev a b (by omega) (by omega)) ?_))
    rw [withV_no hn]
    exact Ev.now _
  refine Ev.step (fun _ => by rw [tributarylaw07_PastHas.j2]) ?_
  refine Ev.bind (check_ev a (by omega)) ?_
  by_cases ha : Chk a
  rotate_left
  · rw [chkV2 ha]
    exact ev_neg (by decide) (bad (fun h => ha h.1))
  rw [chkV0 ha]
  refine ev_pos rfl (Ev.bind (check_ev b (by omega)) ?_)
  by_cases hb : Chk b
  rotate_left
  · rw [chkV2 hb]
    exact bad (fun h => hb h.2)
  rw [chkV0 hb]
  refine Ev.step (fun _ => by rw [tributarylaw07_PastHas.j3]) ?_
  have M := made a b ha hb la lb
  have lj := M.cj.1
  have lm := M.cm.1
  have ej : joinV a b = (tidyL (a ++ b), 0) := by
    rw [joinV_yes ha hb]; unfold tidyV; exact if_neg (by omega)
  have em : minusP a b = (minusV a b, 0) := by
    rw [minusP_yes ha hb]; exact if_neg (by omega)
  refine ev_neg (by decide) (Ev.bind (join_ev a b (by omega) (by omega)) (Ev.bind (minus_ev a b (by omega) (by omega)) ?_))
  rw [ej, em]
  refine ev_pos rfl (ev_pos rfl (Ev.bind (check_ev (tidyL (a ++ b)) (by omega)) ?_))
  rw [chkV0 M.cj]
  refine ev_pos rfl (Ev.bind (check_ev (minusV a b) (by omega)) ?_)
  rw [chkV0 M.cm]
  exact has_j4 M n q
theorem has_loop (a b : List S60) (l : List S41) (o : List S60) (n q : Int) (hl : l.length ≤ 200) (hc : Chk o) (hh : ∀ d ∈ l, HasP o d.f0 d.f1) (J : Ev (fun k => tributarylaw07_PastHas.j2 k a b true n q) true) :
    ∀ (d j : Nat), j + d = l.length → Ev (fun k => tributarylaw07_PastHas.l0 k a b l true o (j : Int) n q) true
  | 0, j, h => by
    refine Ev.step (fun _ => by rw [tributarylaw07_PastHas.l0]) ?_
    exact ev_neg (by omega) J
  | d + 1, j, h => by
    have hj : j < l.length := by omega
    have ho := hc.1
    refine Ev.step (fun _ => by rw [tributarylaw07_PastHas.l0]) ?_
    refine ev_pos (by omega) (ev_pos (by omega) ?_)
    rw [rd41_at hj]
    have hp := hh l[j] (List.getElem_mem hj)
    refine Ev.bind (has_ev o _ _ (by omega)) ?_
    rw [hasR_yes hc, (hasB_iff _ _ _).2 hp]
    refine ev_pos rfl (Ev.bind (last_ev o _ (by omega)) ?_)
    rw [lastR_yes hc]
    obtain ⟨s, hs, e1, e2, e3⟩ := hp
    have := (last_from l[j].f0 o 0).2 s hs e1
    refine ev_neg (by omega) ?_
    rw [w64 (a := (j : Int) + 1) (by omega), show (j : Int) + 1 = ((j + 1 : Nat) : Int) by omega]
    exact has_loop a b l o n q hl hc hh J d (j + 1) (by omega)
theorem pasthas_ev (a b : List S60) (l : List S41) (d : S41) : Ev (fun k => tributarylaw07_PastHas.f k a b l d.f0 d.f1) true := by
  unfold tributarylaw07_PastHas.f
  refine Ev.bind known_ev ?_
  by_cases hlong : (a.length : Int) > 200 ∨ (b.length : Int) > 200 ∨ (l.length : Int) > 200
  · rw [show tributarylaw07_long.f a b l = some true from by
      unfold tributarylaw07_long.f
      by_cases h1 : (a.length : Int) > 200
      · exact if_pos h1
      rw [if_neg h1]
      by_cases h2 : (b.length : Int) > 200
      · exact if_pos h2
      rw [if_neg h2]
      have h3 : (l.length : Int) > 200 := by omega
      rw [decide_eq_true h3]]
    exact ev_some (ev_pos rfl (Ev.now _))
  have h1 : a.length ≤ 200 := by omega
  have h2 : b.length ≤ 200 := by omega
  have h3 : l.length ≤ 200 := by omega
  rw [show tributarylaw07_long.f a b l = some false from by
    unfold tributarylaw07_long.f
    rw [if_neg (by omega), if_neg (by omega), decide_eq_false (by omega)]]
  refine ev_some (ev_neg (by decide) ?_)
  rw [of_eq l (by omega)]
  refine ev_some ?_
  have J := has_j2 a b h1 h2 d.f0 d.f1
  by_cases hall : l.all okD = true
  rotate_left
  · have e : ofV l = ([], 2) := by unfold ofV; exact if_neg hall
    rw [e]
    exact ev_neg (by decide) J
  have hd : ∀ x ∈ l, okD x = true := List.all_eq_true.1 hall
  have et := of_tidy l hd
  have hc : Chk (ofL l) := by
    rw [et]
    refine tidy_chk _ (by rw [List.length_map]; omega) (fun s hs => ?_)
    obtain ⟨x, hx, rfl⟩ := List.mem_map.1 hs
    exact span_okS (hd x hx)
  have ho := hc.1
  obtain ⟨_, _, o3, o4⟩ := of_law l hd
  have e : ofV l = (ofL l, 0) := by
    unfold ofV
    rw [if_pos hall]
    exact if_neg (by omega)
  rw [e]
  refine ev_pos rfl (Ev.bind (check_ev (ofL l) (by omega)) ?_)
  rw [chkV0 hc]
  refine ev_pos rfl (Ev.bind (count_ev (ofL l) (by omega)) ?_)
  rw [show dot_Sort.f l = some (sortV l) from by unfold dot_Sort.f; exact if_pos (by omega)]
  refine ev_some ?_
  rw [(count_cnt hc).1, o4, bne_self_eq_false]
  refine Ev.step (fun _ => by rw [tributarylaw07_PastHas.j0]) ?_
  refine ev_neg (by decide) ?_
  exact has_loop a b l (ofL l) d.f0 d.f1 h3 hc (fun x hx => (o3 x.f0 x.f1).2 hx) J l.length 0 (by omega)
end Go.Proofs.YtdelfhahbngcfaaX.P07
end
