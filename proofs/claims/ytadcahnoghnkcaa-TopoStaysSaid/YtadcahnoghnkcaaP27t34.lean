/- A law without arguments: its function, and its contract where it tells true; written by a program out of the translation's print. -/
import Derived.Test.YtadcahnoghnkcaaP27x0
import Derived.Test.YtadcahnoghnkcaaP27M2
import Derived.Test.YtadcahnoghnkcaaP27M3
import Derived.Test.YtadcahnoghnkcaaP27M5
import Derived.Test.YtadcahnoghnkcaaG2
namespace Go.Proofs.YtadcahnoghnkcaaX.P27
open Go.RowKit Go.Proofs.YtadcahnoghnkcaaW.PrintWords Go.Proofs.YtadcahnoghnkcaaW.PrintLast Go.Proofs.YtadcahnoghnkcaaW.PrintMore
attribute [local go_sem] max2_int min2_int max_two min_two max_three min_three max_four min_four   -- for this text's walks alone
set_option linter.unusedVariables false
set_option linter.unusedSimpArgs false

/-! ### tributarylaw27_TopoKnown: function 11 -/
mutual
def tributarylaw27_TopoKnown.j0 : Nat → List (S109) → Bool → Option (Bool)
 | 0, _, _ => none
 | k + 1, x1, x15 => (topo_Kill.f k x1 2).bind fun bt411 => ((topo_Move.f k bt411.1 4 3).bind fun bt415 => ((topo_Kill.f k x1 1).bind fun bt419 => ((topo_Kill.f k bt411.1 2).bind fun bt423 => (if bt411.2 = 0 then ((topo_Live.f k bt411.1).bind fun t427 => ((tributarykit_SameInts.f k t427 (([1, 3] : List Int))).bind fun t433 => (if t433 = true then ((topo_Height.f k bt411.1).bind fun t434 => (if t434 = 1 then (if bt415.2 = 0 then ((topo_Live.f k bt415.1).bind fun t435 => ((tributarykit_SameInts.f k t435 (([1, 3, 4] : List Int))).bind fun t441 => (if t441 = true then (if bt419.2 = 2 then (tributarylaw27_TopoKnown.j1 k x1 x15 (bt423.2 == 14)) else (tributarylaw27_TopoKnown.j1 k x1 x15 false)) else (tributarylaw27_TopoKnown.j1 k x1 x15 false)))) else (tributarylaw27_TopoKnown.j1 k x1 x15 false)) else (tributarylaw27_TopoKnown.j1 k x1 x15 false))) else (tributarylaw27_TopoKnown.j1 k x1 x15 false)))) else (tributarylaw27_TopoKnown.j1 k x1 x15 false)))))
def tributarylaw27_TopoKnown.j1 : Nat → List (S109) → Bool → Bool → Option (Bool)
 | 0, _, _, _ => none
 | k + 1, x1, x15, x24 => (topo_Enrol.f k x1 2 2).bind fun bt442 => ((topo_Move.f k x1 2 2).bind fun bt447 => ((topo_Move.f k x1 3 4).bind fun bt451 => ((topo_Move.f k x1 1 2).bind fun bt455 => ((topo_Move.f k bt442.1 2 5).bind fun bt459 => ((tributarylaw27_awake.f k).bind fun t463 => (if t463 = true then (if x15 = true then (if x24 = true then (if bt442.2.2 = 0 then (if bt447.2 = 13 then (if bt451.2 = 15 then (if bt455.2 = 2 then (if bt459.2 = 13 then ((topo_Check.f k ([] : List (S109))).bind fun t464 => (some (t464 == 2))) else (some false)) else (some false)) else (some false)) else (some false)) else (some false)) else (some false)) else (some false)) else (some false)))))))
end
def tributarylaw27_TopoKnown.f (k : Nat)  : Option (Bool) := (tributarylaw27_four.f k).bind fun bt387 => ((topo_Enrol.f k bt387.1 3 3).bind fun bt391 => ((topo_Enrol.f k bt387.1 3 4).bind fun bt396 => ((topo_Enrol.f k bt387.1 1 1).bind fun bt401 => ((topo_Enrol.f k bt387.1 3 9).bind fun bt406 => (if bt387.2 = true then (if bt391.2.2 = 0 then (if bt391.2.1 = 5 then (if bt396.2.2 = 15 then (if bt401.2.2 = 2 then (tributarylaw27_TopoKnown.j0 k bt387.1 (bt406.2.2 == 2)) else (tributarylaw27_TopoKnown.j0 k bt387.1 false)) else (tributarylaw27_TopoKnown.j0 k bt387.1 false)) else (tributarylaw27_TopoKnown.j0 k bt387.1 false)) else (tributarylaw27_TopoKnown.j0 k bt387.1 false)) else (tributarylaw27_TopoKnown.j0 k bt387.1 false))))))
theorem tributarylaw27_TopoKnown.mono_l : ∀ k, (∀ y0 y1, LeO (tributarylaw27_TopoKnown.j0 k y0 y1) (tributarylaw27_TopoKnown.j0 (k + 1) y0 y1)) ∧ (∀ y0 y1 y2, LeO (tributarylaw27_TopoKnown.j1 k y0 y1 y2) (tributarylaw27_TopoKnown.j1 (k + 1) y0 y1 y2))
 | 0 => ⟨fun _ _ r h => by simp [tributarylaw27_TopoKnown.j0] at h, fun _ _ _ r h => by simp [tributarylaw27_TopoKnown.j1] at h⟩
 | k + 1 => by
  obtain ⟨ih0, ih1⟩ := tributarylaw27_TopoKnown.mono_l k
  refine ⟨?_, ?_⟩
  ·
   intro y0 y1
   unfold tributarylaw27_TopoKnown.j0
   repeat' first
   | (with_reducible exact ih0 _ _)
   | (with_reducible exact ih1 _ _ _)
   | (with_reducible exact topo_Check.mono _ _)
   | (with_reducible exact topo_Enrol.mono _ _ _ _)
   | (with_reducible exact topo_Height.mono _ _)
   | (with_reducible exact topo_Kill.mono _ _ _)
   | (with_reducible exact topo_Live.mono _ _)
   | (with_reducible exact topo_Move.mono _ _ _ _)
   | (with_reducible exact tributarykit_SameInts.mono _ _ _)
   | (with_reducible exact tributarylaw27_awake.mono _)
   | (with_reducible exact tributarylaw27_four.mono _)
   | (with_reducible exact LeO.refl _)
   | (with_reducible exact LeO.none _)
   | (with_reducible refine LeO.ite ?_ ?_)
   | (with_reducible refine LeO.bind ?_ (fun _ => ?_))
   | exact ih0 _ _
   | exact ih1 _ _ _
   | exact topo_Check.mono _ _
   | exact topo_Enrol.mono _ _ _ _
   | exact topo_Height.mono _ _
   | exact topo_Kill.mono _ _ _
   | exact topo_Live.mono _ _
   | exact topo_Move.mono _ _ _ _
   | exact tributarykit_SameInts.mono _ _ _
   | exact tributarylaw27_awake.mono _
   | exact tributarylaw27_four.mono _
   | exact LeO.none _
   | refine LeO.ite ?_ ?_
   | refine LeO.bind ?_ (fun _ => ?_)
  ·
   intro y0 y1 y2
   unfold tributarylaw27_TopoKnown.j1
   repeat' first
   | (with_reducible exact ih0 _ _)
   | (with_reducible exact ih1 _ _ _)
   | (with_reducible exact topo_Check.mono _ _)
   | (with_reducible exact topo_Enrol.mono _ _ _ _)
   | (with_reducible exact topo_Height.mono _ _)
   | (with_reducible exact topo_Kill.mono _ _ _)
   | (with_reducible exact topo_Live.mono _ _)
   | (with_reducible exact topo_Move.mono _ _ _ _)
   | (with_reducible exact tributarykit_SameInts.mono _ _ _)
   | (with_reducible exact tributarylaw27_awake.mono _)
   | (with_reducible exact tributarylaw27_four.mono _)
   | (with_reducible exact LeO.refl _)
   | (with_reducible exact LeO.none _)
   | (with_reducible refine LeO.ite ?_ ?_)
   | (with_reducible refine LeO.bind ?_ (fun _ => ?_))
   | exact ih0 _ _
   | exact ih1 _ _ _
   | exact topo_Check.mono _ _
   | exact topo_Enrol.mono _ _ _ _
   | exact topo_Height.mono _ _
   | exact topo_Kill.mono _ _ _
   | exact topo_Live.mono _ _
   | exact topo_Move.mono _ _ _ _
   | exact tributarykit_SameInts.mono _ _ _
   | exact tributarylaw27_awake.mono _
   | exact tributarylaw27_four.mono _
   | exact LeO.none _
   | refine LeO.ite ?_ ?_
   | refine LeO.bind ?_ (fun _ => ?_)
theorem tributarylaw27_TopoKnown.mono : ∀ k, LeO (tributarylaw27_TopoKnown.f k ) (tributarylaw27_TopoKnown.f (k + 1) ) := by
 intro  k
 obtain ⟨ih0, ih1⟩ := tributarylaw27_TopoKnown.mono_l k
 unfold tributarylaw27_TopoKnown.f
 repeat' first
   | (with_reducible exact ih0 _ _)
   | (with_reducible exact ih1 _ _ _)
   | (with_reducible exact topo_Check.mono _ _)
   | (with_reducible exact topo_Enrol.mono _ _ _ _)
   | (with_reducible exact topo_Height.mono _ _)
   | (with_reducible exact topo_Kill.mono _ _ _)
   | (with_reducible exact topo_Live.mono _ _)
   | (with_reducible exact topo_Move.mono _ _ _ _)
   | (with_reducible exact tributarykit_SameInts.mono _ _ _)
   | (with_reducible exact tributarylaw27_awake.mono _)
   | (with_reducible exact tributarylaw27_four.mono _)
   | (with_reducible exact LeO.refl _)
   | (with_reducible exact LeO.none _)
   | (with_reducible refine LeO.ite ?_ ?_)
   | (with_reducible refine LeO.bind ?_ (fun _ => ?_))
   | exact ih0 _ _
   | exact ih1 _ _ _
   | exact topo_Check.mono _ _
   | exact topo_Enrol.mono _ _ _ _
   | exact topo_Height.mono _ _
   | exact topo_Kill.mono _ _ _
   | exact topo_Live.mono _ _
   | exact topo_Move.mono _ _ _ _
   | exact tributarykit_SameInts.mono _ _ _
   | exact tributarylaw27_awake.mono _
   | exact tributarylaw27_four.mono _
   | exact LeO.none _
   | refine LeO.ite ?_ ?_
   | refine LeO.bind ?_ (fun _ => ?_)
section
theorem nt_false : (some false : Option Bool) ≠ some true := by decide
theorem nt_none : (none : Option Bool) ≠ some true := by decide
theorem nt_bind {α : Type} {a : Option α} {f : α → Option Bool} (h : ∀ x, f x ≠ some true) : a.bind f ≠ some true := by
 cases a with
 | none => exact nt_none
 | some x => exact h x
theorem nt_iff {a b : Option Bool} (h : b ≠ some true) : (if false = true then a else b) ≠ some true := by rwa [if_neg (by decide)]
theorem nt_ite {c : Prop} [Decidable c] {a b : Option Bool} (ha : a ≠ some true) (hb : b ≠ some true) : (if c then a else b) ≠ some true := by split <;> assumption
end
theorem tributarylaw27_TopoKnown.j1_f1 : ∀ k y0 y2, tributarylaw27_TopoKnown.j1 k y0 false y2 ≠ some true := by
 intro k y0 y2
 cases k with
 | zero => unfold tributarylaw27_TopoKnown.j1; exact nt_none
 | succ k =>
  unfold tributarylaw27_TopoKnown.j1
  repeat' first
   | exact nt_false
   | refine nt_iff ?_
   | refine nt_ite ?_ ?_
   | refine nt_bind (fun _ => ?_)
theorem tributarylaw27_TopoKnown.j1_f2 : ∀ k y0 y1, tributarylaw27_TopoKnown.j1 k y0 y1 false ≠ some true := by
 intro k y0 y1
 cases k with
 | zero => unfold tributarylaw27_TopoKnown.j1; exact nt_none
 | succ k =>
  unfold tributarylaw27_TopoKnown.j1
  repeat' first
   | exact nt_false
   | exact tributarylaw27_TopoKnown.j1_f1 _ _ _
   | refine nt_iff ?_
   | refine nt_ite ?_ ?_
   | refine nt_bind (fun _ => ?_)
theorem tributarylaw27_TopoKnown.j0_f1 : ∀ k y0, tributarylaw27_TopoKnown.j0 k y0 false ≠ some true := by
 intro k y0
 cases k with
 | zero => unfold tributarylaw27_TopoKnown.j0; exact nt_none
 | succ k =>
  unfold tributarylaw27_TopoKnown.j0
  repeat' first
   | exact nt_false
   | exact tributarylaw27_TopoKnown.j1_f1 _ _ _
   | exact tributarylaw27_TopoKnown.j1_f2 _ _ _
   | refine nt_iff ?_
   | refine nt_ite ?_ ?_
   | refine nt_bind (fun _ => ?_)
set_option maxHeartbeats 8000000 in
set_option maxRecDepth 100000 in
theorem tributarylaw27_TopoKnown.calls (k : Nat)  (r : Bool) (w : World) (h : tributarylaw27_TopoKnown.f k  = some r) (hr : r = true) :
  Calls Try.prog 11 #[] w fun e w' => e = .returned (.bool r) ∧ Below w.heap.size w w' := by
 have HR := Aside0.mk hr
 clear hr
 have HB := Aside0.mk (Below.refl w.heap.size w)
 have H : ((tributarylaw27_four.f k).bind fun bt387 => ((topo_Enrol.f k bt387.1 3 3).bind fun bt391 => ((topo_Enrol.f k bt387.1 3 4).bind fun bt396 => ((topo_Enrol.f k bt387.1 1 1).bind fun bt401 => ((topo_Enrol.f k bt387.1 3 9).bind fun bt406 => (if bt387.2 = true then (if bt391.2.2 = 0 then (if bt391.2.1 = 5 then (if bt396.2.2 = 15 then (if bt401.2.2 = 2 then (tributarylaw27_TopoKnown.j0 k bt387.1 (bt406.2.2 == 2)) else (tributarylaw27_TopoKnown.j0 k bt387.1 false)) else (tributarylaw27_TopoKnown.j0 k bt387.1 false)) else (tributarylaw27_TopoKnown.j0 k bt387.1 false)) else (tributarylaw27_TopoKnown.j0 k bt387.1 false)) else (tributarylaw27_TopoKnown.j0 k bt387.1 false))))))) = some r := h
 clear h
 replace H := Option.bind_eq_some_iff.mp H
 obtain ⟨⟨t387, t388⟩, A10, H⟩ := H
 replace H : ((topo_Enrol.f k t387 3 3).bind fun bt391 => ((topo_Enrol.f k t387 3 4).bind fun bt396 => ((topo_Enrol.f k t387 1 1).bind fun bt401 => ((topo_Enrol.f k t387 3 9).bind fun bt406 => (if t388 = true then (if bt391.2.2 = 0 then (if bt391.2.1 = 5 then (if bt396.2.2 = 15 then (if bt401.2.2 = 2 then (tributarylaw27_TopoKnown.j0 k t387 (bt406.2.2 == 2)) else (tributarylaw27_TopoKnown.j0 k t387 false)) else (tributarylaw27_TopoKnown.j0 k t387 false)) else (tributarylaw27_TopoKnown.j0 k t387 false)) else (tributarylaw27_TopoKnown.j0 k t387 false)) else (tributarylaw27_TopoKnown.j0 k t387 false)))))) = some r := H
 have A1 := Aside0.mk A10
 clear A10
 replace H := Option.bind_eq_some_iff.mp H
 obtain ⟨⟨t391, t394, t395⟩, A20, H⟩ := H
 replace H : ((topo_Enrol.f k t387 3 4).bind fun bt396 => ((topo_Enrol.f k t387 1 1).bind fun bt401 => ((topo_Enrol.f k t387 3 9).bind fun bt406 => (if t388 = true then (if t395 = 0 then (if t394 = 5 then (if bt396.2.2 = 15 then (if bt401.2.2 = 2 then (tributarylaw27_TopoKnown.j0 k t387 (bt406.2.2 == 2)) else (tributarylaw27_TopoKnown.j0 k t387 false)) else (tributarylaw27_TopoKnown.j0 k t387 false)) else (tributarylaw27_TopoKnown.j0 k t387 false)) else (tributarylaw27_TopoKnown.j0 k t387 false)) else (tributarylaw27_TopoKnown.j0 k t387 false))))) = some r := H
 have A2 := Aside0.mk A20
 clear A20
 replace H := Option.bind_eq_some_iff.mp H
 obtain ⟨⟨t396, t399, t400⟩, A30, H⟩ := H
 replace H : ((topo_Enrol.f k t387 1 1).bind fun bt401 => ((topo_Enrol.f k t387 3 9).bind fun bt406 => (if t388 = true then (if t395 = 0 then (if t394 = 5 then (if t400 = 15 then (if bt401.2.2 = 2 then (tributarylaw27_TopoKnown.j0 k t387 (bt406.2.2 == 2)) else (tributarylaw27_TopoKnown.j0 k t387 false)) else (tributarylaw27_TopoKnown.j0 k t387 false)) else (tributarylaw27_TopoKnown.j0 k t387 false)) else (tributarylaw27_TopoKnown.j0 k t387 false)) else (tributarylaw27_TopoKnown.j0 k t387 false)))) = some r := H
 have A3 := Aside0.mk A30
 clear A30
 replace H := Option.bind_eq_some_iff.mp H
 obtain ⟨⟨t401, t404, t405⟩, A40, H⟩ := H
 replace H : ((topo_Enrol.f k t387 3 9).bind fun bt406 => (if t388 = true then (if t395 = 0 then (if t394 = 5 then (if t400 = 15 then (if t405 = 2 then (tributarylaw27_TopoKnown.j0 k t387 (bt406.2.2 == 2)) else (tributarylaw27_TopoKnown.j0 k t387 false)) else (tributarylaw27_TopoKnown.j0 k t387 false)) else (tributarylaw27_TopoKnown.j0 k t387 false)) else (tributarylaw27_TopoKnown.j0 k t387 false)) else (tributarylaw27_TopoKnown.j0 k t387 false))) = some r := H
 have A4 := Aside0.mk A40
 clear A40
 replace H := Option.bind_eq_some_iff.mp H
 obtain ⟨⟨t406, t409, t410⟩, A50, H⟩ := H
 replace H : (if t388 = true then (if t395 = 0 then (if t394 = 5 then (if t400 = 15 then (if t405 = 2 then (tributarylaw27_TopoKnown.j0 k t387 (t410 == 2)) else (tributarylaw27_TopoKnown.j0 k t387 false)) else (tributarylaw27_TopoKnown.j0 k t387 false)) else (tributarylaw27_TopoKnown.j0 k t387 false)) else (tributarylaw27_TopoKnown.j0 k t387 false)) else (tributarylaw27_TopoKnown.j0 k t387 false)) = some r := H
 have A5 := Aside0.mk A50
 clear A50
 have HC6 := Aside0.mk H
 clear H
 go_enter Try.func11, Try.ntmps11
 go_upto_region 6 with (first | ((with_reducible refine gate_callee (f := 60) rfl ?_); refine goesL_ (some 37) rfl rfl Try.func60 (by kernel_rfl) rfl #[] rfl (by (try simp only [List.map_toArray, List.map_cons, List.map_nil]); first | done | rfl | (simp only [List.length_drop, List.length_take]; rfl)) ?_; (with_reducible refine (tributarylaw27_four.calls k  t387 t388 _ A1.out).mono ?_); rintro e w7 ⟨v389, rfl, ho0, hb⟩; refine ⟨_, rfl, ?_⟩; have n0_ := Aside0.mk (Kd.R_lower ho0 (below_size (by repeat (first | (with_reducible first | exact HB.out | apply below_alloc | apply pw_below_drewN | apply below_drew1) | exact HB.out)))); have n1_ := Aside0.mk (below_step (by repeat (first | (with_reducible first | exact HB.out | apply below_alloc | apply pw_below_drewN | apply below_drew1) | exact HB.out)) hb); clear HB; have HO390 := n0_; have HB := n1_; clear n0_ n1_; (try clear hb); (try clear hb2); (try clear hk); (try clear hi); (try clear ho0); obtain ⟨Ao8, co8, eo8⟩ := Kd.R_slice HO390.out; subst eo8) | ((with_reducible refine gate_callee (f := 49) rfl ?_); refine goesL_ (some 42) rfl rfl Try.func49 (by kernel_rfl) rfl #[.slice Ao8 t387.length co8, .int .i64 3, .int .i64 3] rfl (by (try simp only [List.map_toArray, List.map_cons, List.map_nil]); first | done | rfl | (simp only [List.length_drop, List.length_take]; rfl)) ?_; (with_reducible refine (topo_Enrol.calls k (fun k_ => some k_ = (.slice Ao8 t387.length co8 : Value).ownBlock) _ _ t387 3 3 t391 t394 t395 _ ?side1 A2.out).mono ?_); (case side1 => exact Kd.R_V (Kd.R_tight rfl (HO390.out))); rintro e w9 ⟨v392, rfl, ho0, hb⟩; refine ⟨_, rfl, ?_⟩; have n0_ := Aside0.mk (Kd.R_elder' (by (with_reducible repeat (first | apply Kd.R_alloc | apply Kd.R_drewN | apply Kd.R_drew)); exact HO390.out) (Kd.R_base ho0) hb); have n1_ := Aside0.mk (Kd.R_lower (Kd.R_new' (Kd.R_mono (ok' := fun k_ => True) ho0 (fun _ hk_ => trivial)) (Kd.R_lt (by (with_reducible repeat (first | apply Kd.R_alloc | apply Kd.R_drewN | apply Kd.R_drew)); exact HO390.out))) (below_size (by repeat (first | (with_reducible first | exact HB.out | apply below_alloc | apply pw_below_drewN | apply below_drew1) | exact HB.out)))); have n2_ := Aside0.mk (below_step (by repeat (first | (with_reducible first | exact HB.out | apply below_alloc | apply pw_below_drewN | apply below_drew1) | exact HB.out)) hb); clear HO390; clear HB; have HO390 := n0_; have HO393 := n1_; have HB := n2_; clear n0_ n1_ n2_; (try clear hb); (try clear hb2); (try clear hk); (try clear hi); (try clear ho0)) | ((with_reducible refine gate_callee (f := 49) rfl ?_); refine goesL_ (some 48) rfl rfl Try.func49 (by kernel_rfl) rfl #[.slice Ao8 t387.length co8, .int .i64 3, .int .i64 4] rfl (by (try simp only [List.map_toArray, List.map_cons, List.map_nil]); first | done | rfl | (simp only [List.length_drop, List.length_take]; rfl)) ?_; (with_reducible refine (topo_Enrol.calls k (fun k_ => some k_ = (.slice Ao8 t387.length co8 : Value).ownBlock) _ _ t387 3 4 t396 t399 t400 _ ?side1 A3.out).mono ?_); (case side1 => exact Kd.R_V (Kd.R_tight rfl (HO390.out))); rintro e w10 ⟨v397, rfl, ho0, hb⟩; refine ⟨_, rfl, ?_⟩; have n0_ := Aside0.mk (Kd.R_elder' (by (with_reducible repeat (first | apply Kd.R_alloc | apply Kd.R_drewN | apply Kd.R_drew)); exact HO390.out) (Kd.R_base ho0) hb); have n1_ := Aside0.mk (Kd.R_elder' (by (with_reducible repeat (first | apply Kd.R_alloc | apply Kd.R_drewN | apply Kd.R_drew)); exact HO393.out) (Kd.R_base ho0) hb); have n2_ := Aside0.mk (Kd.R_lower (Kd.R_new' (Kd.R_new' (Kd.R_mono (ok' := fun k_ => True) ho0 (fun _ hk_ => trivial)) (Kd.R_lt (by (with_reducible repeat (first | apply Kd.R_alloc | apply Kd.R_drewN | apply Kd.R_drew)); exact HO390.out))) (Kd.R_lt (by (with_reducible repeat (first | apply Kd.R_alloc | apply Kd.R_drewN | apply Kd.R_drew)); exact HO393.out))) (below_size (by repeat (first | (with_reducible first | exact HB.out | apply below_alloc | apply pw_below_drewN | apply below_drew1) | exact HB.out)))); have n3_ := Aside0.mk (below_step (by repeat (first | (with_reducible first | exact HB.out | apply below_alloc | apply pw_below_drewN | apply below_drew1) | exact HB.out)) hb); clear HO390; clear HO393; clear HB; have HO390 := n0_; have HO393 := n1_; have HO398 := n2_; have HB := n3_; clear n0_ n1_ n2_ n3_; (try clear hb); (try clear hb2); (try clear hk); (try clear hi); (try clear ho0)) | ((with_reducible refine gate_callee (f := 49) rfl ?_); refine goesL_ (some 54) rfl rfl Try.func49 (by kernel_rfl) rfl #[.slice Ao8 t387.length co8, .int .i64 1, .int .i64 1] rfl (by (try simp only [List.map_toArray, List.map_cons, List.map_nil]); first | done | rfl | (simp only [List.length_drop, List.length_take]; rfl)) ?_; (with_reducible refine (topo_Enrol.calls k (fun k_ => some k_ = (.slice Ao8 t387.length co8 : Value).ownBlock) _ _ t387 1 1 t401 t404 t405 _ ?side1 A4.out).mono ?_); (case side1 => exact Kd.R_V (Kd.R_tight rfl (HO390.out))); rintro e w11 ⟨v402, rfl, ho0, hb⟩; refine ⟨_, rfl, ?_⟩; have n0_ := Aside0.mk (Kd.R_elder' (by (with_reducible repeat (first | apply Kd.R_alloc | apply Kd.R_drewN | apply Kd.R_drew)); exact HO390.out) (Kd.R_base ho0) hb); have n1_ := Aside0.mk (Kd.R_elder' (by (with_reducible repeat (first | apply Kd.R_alloc | apply Kd.R_drewN | apply Kd.R_drew)); exact HO393.out) (Kd.R_base ho0) hb); have n2_ := Aside0.mk (Kd.R_elder' (by (with_reducible repeat (first | apply Kd.R_alloc | apply Kd.R_drewN | apply Kd.R_drew)); exact HO398.out) (Kd.R_base ho0) hb); have n3_ := Aside0.mk (Kd.R_lower (Kd.R_new' (Kd.R_new' (Kd.R_new' (Kd.R_mono (ok' := fun k_ => True) ho0 (fun _ hk_ => trivial)) (Kd.R_lt (by (with_reducible repeat (first | apply Kd.R_alloc | apply Kd.R_drewN | apply Kd.R_drew)); exact HO390.out))) (Kd.R_lt (by (with_reducible repeat (first | apply Kd.R_alloc | apply Kd.R_drewN | apply Kd.R_drew)); exact HO393.out))) (Kd.R_lt (by (with_reducible repeat (first | apply Kd.R_alloc | apply Kd.R_drewN | apply Kd.R_drew)); exact HO398.out))) (below_size (by repeat (first | (with_reducible first | exact HB.out | apply below_alloc | apply pw_below_drewN | apply below_drew1) | exact HB.out)))); have n4_ := Aside0.mk (below_step (by repeat (first | (with_reducible first | exact HB.out | apply below_alloc | apply pw_below_drewN | apply below_drew1) | exact HB.out)) hb); clear HO390; clear HO393; clear HO398; clear HB; have HO390 := n0_; have HO393 := n1_; have HO398 := n2_; have HO403 := n3_; have HB := n4_; clear n0_ n1_ n2_ n3_ n4_; (try clear hb); (try clear hb2); (try clear hk); (try clear hi); (try clear ho0)) | ((with_reducible refine gate_callee (f := 49) rfl ?_); refine goesL_ (some 60) rfl rfl Try.func49 (by kernel_rfl) rfl #[.slice Ao8 t387.length co8, .int .i64 3, .int .i64 9] rfl (by (try simp only [List.map_toArray, List.map_cons, List.map_nil]); first | done | rfl | (simp only [List.length_drop, List.length_take]; rfl)) ?_; (with_reducible refine (topo_Enrol.calls k (fun k_ => some k_ = (.slice Ao8 t387.length co8 : Value).ownBlock) _ _ t387 3 9 t406 t409 t410 _ ?side1 A5.out).mono ?_); (case side1 => exact Kd.R_V (Kd.R_tight rfl (HO390.out))); rintro e w12 ⟨v407, rfl, ho0, hb⟩; refine ⟨_, rfl, ?_⟩; have n0_ := Aside0.mk (Kd.R_elder' (by (with_reducible repeat (first | apply Kd.R_alloc | apply Kd.R_drewN | apply Kd.R_drew)); exact HO390.out) (Kd.R_base ho0) hb); have n1_ := Aside0.mk (Kd.R_elder' (by (with_reducible repeat (first | apply Kd.R_alloc | apply Kd.R_drewN | apply Kd.R_drew)); exact HO393.out) (Kd.R_base ho0) hb); have n2_ := Aside0.mk (Kd.R_elder' (by (with_reducible repeat (first | apply Kd.R_alloc | apply Kd.R_drewN | apply Kd.R_drew)); exact HO398.out) (Kd.R_base ho0) hb); have n3_ := Aside0.mk (Kd.R_elder' (by (with_reducible repeat (first | apply Kd.R_alloc | apply Kd.R_drewN | apply Kd.R_drew)); exact HO403.out) (Kd.R_base ho0) hb); have n4_ := Aside0.mk (Kd.R_lower (Kd.R_new' (Kd.R_new' (Kd.R_new' (Kd.R_new' (Kd.R_mono (ok' := fun k_ => True) ho0 (fun _ hk_ => trivial)) (Kd.R_lt (by (with_reducible repeat (first | apply Kd.R_alloc | apply Kd.R_drewN | apply Kd.R_drew)); exact HO390.out))) (Kd.R_lt (by (with_reducible repeat (first | apply Kd.R_alloc | apply Kd.R_drewN | apply Kd.R_drew)); exact HO393.out))) (Kd.R_lt (by (with_reducible repeat (first | apply Kd.R_alloc | apply Kd.R_drewN | apply Kd.R_drew)); exact HO398.out))) (Kd.R_lt (by (with_reducible repeat (first | apply Kd.R_alloc | apply Kd.R_drewN | apply Kd.R_drew)); exact HO403.out))) (below_size (by repeat (first | (with_reducible first | exact HB.out | apply below_alloc | apply pw_below_drewN | apply below_drew1) | exact HB.out)))); have n5_ := Aside0.mk (below_step (by repeat (first | (with_reducible first | exact HB.out | apply below_alloc | apply pw_below_drewN | apply below_drew1) | exact HB.out)) hb); clear HO390; clear HO393; clear HO398; clear HO403; clear HB; have HO390 := n0_; have HO393 := n1_; have HO398 := n2_; have HO403 := n3_; have HO408 := n4_; have HB := n5_; clear n0_ n1_ n2_ n3_ n4_ n5_; (try clear hb); (try clear hb2); (try clear hk); (try clear hi); (try clear ho0)))
 (try simp only [Act.put, List.setIfInBounds_toArray, List.set_cons_zero, List.set_cons_succ])
 go_cut [15] (fun v15 wc => ∃ (kq : Nat) (x15_5 : Bool), v15 = .bool x15_5 ∧ Aside0 (tributarylaw27_TopoKnown.j0 kq t387 x15_5 = some r) ∧ Aside0 (kq ≤ k) ∧ Aside0 (Kd.R k109 109 wc w.heap.size (fun _ => True) (.slice Ao8 t387.length co8) t387) ∧ Aside0 (Below w.heap.size w wc))
 case first =>
  have H := HC6.out
  clear HC6
  by_cases c13 : t388 = true
  ·
   subst c13
   have H1 : (if t395 = 0 then (if t394 = 5 then (if t400 = 15 then (if t405 = 2 then (tributarylaw27_TopoKnown.j0 k t387 (t410 == 2)) else (tributarylaw27_TopoKnown.j0 k t387 false)) else (tributarylaw27_TopoKnown.j0 k t387 false)) else (tributarylaw27_TopoKnown.j0 k t387 false)) else (tributarylaw27_TopoKnown.j0 k t387 false)) = some r := by rw [if_pos rfl] at H; exact H
   clear H
   have H := H1
   clear H1
   by_cases c14 : t395 = 0
   ·
    rw [if_pos c14] at H
    have c14b0 : (t395 == 0) = true := beq_iff_eq.mpr c14
    have c14b1 : (t395 != 0) = false := bne_eq_false_iff_eq.mpr c14
    clear c14
    (first | rw [c14b0] | (simp only [i64_w, i32_w]; rw [c14b0]) | skip)
    by_cases c15 : t394 = 5
    ·
     rw [if_pos c15] at H
     have c15b0 : (t394 == 5) = true := beq_iff_eq.mpr c15
     have c15b1 : (t394 != 5) = false := bne_eq_false_iff_eq.mpr c15
     clear c15
     by_cases c16 : t400 = 15
     ·
      rw [if_pos c16] at H
      have c16b0 : (t400 == 15) = true := beq_iff_eq.mpr c16
      have c16b1 : (t400 != 15) = false := bne_eq_false_iff_eq.mpr c16
      clear c16
      by_cases c17 : t405 = 2
      ·
       rw [if_pos c17] at H
       have c17b0 : (t405 == 2) = true := beq_iff_eq.mpr c17
       have c17b1 : (t405 != 2) = false := bne_eq_false_iff_eq.mpr c17
       clear c17
       have H' := Aside0.mk H
       clear H
       go_wp2
       go_meet
       case rel => exact ⟨_, ((t410 == 2)), (by first | rfl | (simp; done) | (simp [*]; done)), H', ⟨by first | omega | exact Nat.le_refl _⟩, ⟨by (with_reducible repeat (first | apply Kd.R_alloc | apply Kd.R_drewN | apply Kd.R_drew)); exact Kd.R_mono HO390.out (fun _ hk => trivial)⟩, ⟨by repeat (first | (with_reducible first | exact HB.out | apply below_alloc | apply pw_below_drewN | apply below_drew1) | exact HB.out)⟩⟩
      ·
       rw [if_neg c17] at H; exact absurd (H.trans (congrArg some HR.out)) (by first | (intro h; cases h; done) | exact tributarylaw27_TopoKnown.j0_f1 _ _ | exact tributarylaw27_TopoKnown.j1_f1 _ _ _ | exact tributarylaw27_TopoKnown.j1_f2 _ _ _)
     ·
      rw [if_neg c16] at H; exact absurd (H.trans (congrArg some HR.out)) (by first | (intro h; cases h; done) | exact tributarylaw27_TopoKnown.j0_f1 _ _ | exact tributarylaw27_TopoKnown.j1_f1 _ _ _ | exact tributarylaw27_TopoKnown.j1_f2 _ _ _)
    ·
     rw [if_neg c15] at H; exact absurd (H.trans (congrArg some HR.out)) (by first | (intro h; cases h; done) | exact tributarylaw27_TopoKnown.j0_f1 _ _ | exact tributarylaw27_TopoKnown.j1_f1 _ _ _ | exact tributarylaw27_TopoKnown.j1_f2 _ _ _)
   ·
    rw [if_neg c14] at H; exact absurd (H.trans (congrArg some HR.out)) (by first | (intro h; cases h; done) | exact tributarylaw27_TopoKnown.j0_f1 _ _ | exact tributarylaw27_TopoKnown.j1_f1 _ _ _ | exact tributarylaw27_TopoKnown.j1_f2 _ _ _)
  ·
   rw [if_neg c13] at H; exact absurd (H.trans (congrArg some HR.out)) (by first | (intro h; cases h; done) | exact tributarylaw27_TopoKnown.j0_f1 _ _ | exact tributarylaw27_TopoKnown.j1_f1 _ _ _ | exact tributarylaw27_TopoKnown.j1_f2 _ _ _)
 case rest =>
  clear HC6
  try clear c1; try clear p2; try clear c4; try clear c6; try clear c11; try clear c13; try clear c14; try clear c14b0; try clear c14b1; try clear c15; try clear c15b0; try clear c15b1; try clear c16; try clear c16b0; try clear c16b1; try clear c17; try clear c17b0; try clear c17b1
  obtain ⟨kq, x15_5, rfl, HA, HJ5, HO_1, HB⟩ := hcut
  cases kq with
  | zero => exact absurd HA.out (by simp [tributarylaw27_TopoKnown.j0])
  | succ kj5 =>
   have H := HA.out
   clear HA
   simp only [tributarylaw27_TopoKnown.j0] at H
   replace H := Option.bind_eq_some_iff.mp H
   obtain ⟨⟨t411, t412⟩, A180, H⟩ := H
   replace H : ((topo_Move.f kj5 t411 4 3).bind fun bt415 => ((topo_Kill.f kj5 t387 1).bind fun bt419 => ((topo_Kill.f kj5 t411 2).bind fun bt423 => (if t412 = 0 then ((topo_Live.f kj5 t411).bind fun t427 => ((tributarykit_SameInts.f kj5 t427 (([1, 3] : List Int))).bind fun t433 => (if t433 = true then ((topo_Height.f kj5 t411).bind fun t434 => (if t434 = 1 then (if bt415.2 = 0 then ((topo_Live.f kj5 bt415.1).bind fun t435 => ((tributarykit_SameInts.f kj5 t435 (([1, 3, 4] : List Int))).bind fun t441 => (if t441 = true then (if bt419.2 = 2 then (tributarylaw27_TopoKnown.j1 kj5 t387 x15_5 (bt423.2 == 14)) else (tributarylaw27_TopoKnown.j1 kj5 t387 x15_5 false)) else (tributarylaw27_TopoKnown.j1 kj5 t387 x15_5 false)))) else (tributarylaw27_TopoKnown.j1 kj5 t387 x15_5 false)) else (tributarylaw27_TopoKnown.j1 kj5 t387 x15_5 false))) else (tributarylaw27_TopoKnown.j1 kj5 t387 x15_5 false)))) else (tributarylaw27_TopoKnown.j1 kj5 t387 x15_5 false))))) = some r := H
   have A18 := Aside0.mk A180
   clear A180
   replace H := Option.bind_eq_some_iff.mp H
   obtain ⟨⟨t415, t416⟩, A190, H⟩ := H
   replace H : ((topo_Kill.f kj5 t387 1).bind fun bt419 => ((topo_Kill.f kj5 t411 2).bind fun bt423 => (if t412 = 0 then ((topo_Live.f kj5 t411).bind fun t427 => ((tributarykit_SameInts.f kj5 t427 (([1, 3] : List Int))).bind fun t433 => (if t433 = true then ((topo_Height.f kj5 t411).bind fun t434 => (if t434 = 1 then (if t416 = 0 then ((topo_Live.f kj5 t415).bind fun t435 => ((tributarykit_SameInts.f kj5 t435 (([1, 3, 4] : List Int))).bind fun t441 => (if t441 = true then (if bt419.2 = 2 then (tributarylaw27_TopoKnown.j1 kj5 t387 x15_5 (bt423.2 == 14)) else (tributarylaw27_TopoKnown.j1 kj5 t387 x15_5 false)) else (tributarylaw27_TopoKnown.j1 kj5 t387 x15_5 false)))) else (tributarylaw27_TopoKnown.j1 kj5 t387 x15_5 false)) else (tributarylaw27_TopoKnown.j1 kj5 t387 x15_5 false))) else (tributarylaw27_TopoKnown.j1 kj5 t387 x15_5 false)))) else (tributarylaw27_TopoKnown.j1 kj5 t387 x15_5 false)))) = some r := H
   have A19 := Aside0.mk A190
   clear A190
   replace H := Option.bind_eq_some_iff.mp H
   obtain ⟨⟨t419, t420⟩, A200, H⟩ := H
   replace H : ((topo_Kill.f kj5 t411 2).bind fun bt423 => (if t412 = 0 then ((topo_Live.f kj5 t411).bind fun t427 => ((tributarykit_SameInts.f kj5 t427 (([1, 3] : List Int))).bind fun t433 => (if t433 = true then ((topo_Height.f kj5 t411).bind fun t434 => (if t434 = 1 then (if t416 = 0 then ((topo_Live.f kj5 t415).bind fun t435 => ((tributarykit_SameInts.f kj5 t435 (([1, 3, 4] : List Int))).bind fun t441 => (if t441 = true then (if t420 = 2 then (tributarylaw27_TopoKnown.j1 kj5 t387 x15_5 (bt423.2 == 14)) else (tributarylaw27_TopoKnown.j1 kj5 t387 x15_5 false)) else (tributarylaw27_TopoKnown.j1 kj5 t387 x15_5 false)))) else (tributarylaw27_TopoKnown.j1 kj5 t387 x15_5 false)) else (tributarylaw27_TopoKnown.j1 kj5 t387 x15_5 false))) else (tributarylaw27_TopoKnown.j1 kj5 t387 x15_5 false)))) else (tributarylaw27_TopoKnown.j1 kj5 t387 x15_5 false))) = some r := H
   have A20 := Aside0.mk A200
   clear A200
   replace H := Option.bind_eq_some_iff.mp H
   obtain ⟨⟨t423, t424⟩, A210, H⟩ := H
   replace H : (if t412 = 0 then ((topo_Live.f kj5 t411).bind fun t427 => ((tributarykit_SameInts.f kj5 t427 (([1, 3] : List Int))).bind fun t433 => (if t433 = true then ((topo_Height.f kj5 t411).bind fun t434 => (if t434 = 1 then (if t416 = 0 then ((topo_Live.f kj5 t415).bind fun t435 => ((tributarykit_SameInts.f kj5 t435 (([1, 3, 4] : List Int))).bind fun t441 => (if t441 = true then (if t420 = 2 then (tributarylaw27_TopoKnown.j1 kj5 t387 x15_5 (t424 == 14)) else (tributarylaw27_TopoKnown.j1 kj5 t387 x15_5 false)) else (tributarylaw27_TopoKnown.j1 kj5 t387 x15_5 false)))) else (tributarylaw27_TopoKnown.j1 kj5 t387 x15_5 false)) else (tributarylaw27_TopoKnown.j1 kj5 t387 x15_5 false))) else (tributarylaw27_TopoKnown.j1 kj5 t387 x15_5 false)))) else (tributarylaw27_TopoKnown.j1 kj5 t387 x15_5 false)) = some r := H
   have A21 := Aside0.mk A210
   clear A210
   have HC22 := Aside0.mk H
   clear H
   go_upto_region 11 with (first | ((with_reducible refine gate_callee (f := 51) rfl ?_); refine goesL_ (some 87) rfl rfl Try.func51 (by kernel_rfl) rfl #[.slice Ao8 t387.length co8, .int .i64 2] rfl (by (try simp only [List.map_toArray, List.map_cons, List.map_nil]); first | done | rfl | (simp only [List.length_drop, List.length_take]; rfl)) ?_; (with_reducible refine (topo_Kill.calls kj5 _ _ t387 2 t411 t412 _ ?side1 ?side2 A18.out).mono ?_); (case side1 => repeat (first | exact (Kd.R_reads' HO_1.out).2.2 | (with_reducible refine Kd.C_alloc ?_ _) | (with_reducible refine Kd.C_drewN ?_ _) | (with_reducible refine Kd.C_drew ?_))); (case side2 => exact (Kd.R_reads' HO_1.out).2.1); rintro e w23 ⟨v413, rfl, ho0, hb⟩; refine ⟨_, rfl, ?_⟩; have n0_ := Aside0.mk (Kd.R_elder' (by (with_reducible repeat (first | apply Kd.R_alloc | apply Kd.R_drewN | apply Kd.R_drew)); exact HO_1.out) (Kd.R_base ho0) hb); have n1_ := Aside0.mk (Kd.R_lower (Kd.R_new' ho0 (Kd.R_lt (by (with_reducible repeat (first | apply Kd.R_alloc | apply Kd.R_drewN | apply Kd.R_drew)); exact HO_1.out))) (below_size (by repeat (first | (with_reducible first | exact HB.out | apply below_alloc | apply pw_below_drewN | apply below_drew1) | exact HB.out)))); have n2_ := Aside0.mk (below_step (by repeat (first | (with_reducible first | exact HB.out | apply below_alloc | apply pw_below_drewN | apply below_drew1) | exact HB.out)) hb); clear HO_1; clear HB; have HO_1 := n0_; have HO414 := n1_; have HB := n2_; clear n0_ n1_ n2_; (try clear hb); (try clear hb2); (try clear hk); (try clear hi); (try clear ho0); obtain ⟨Ao24, co24, eo24⟩ := Kd.R_slice HO414.out; subst eo24) | ((with_reducible refine gate_callee (f := 53) rfl ?_); refine goesL_ (some 92) rfl rfl Try.func53 (by kernel_rfl) rfl #[.slice Ao24 t411.length co24, .int .i64 4, .int .i64 3] rfl (by (try simp only [List.map_toArray, List.map_cons, List.map_nil]); first | done | rfl | (simp only [List.length_drop, List.length_take]; rfl)) ?_; (with_reducible refine (topo_Move.calls kj5 _ _ t411 4 3 t415 t416 _ ?side1 ?side2 A19.out).mono ?_); (case side1 => repeat (first | exact (Kd.R_reads' HO414.out).2.2 | (with_reducible refine Kd.C_alloc ?_ _) | (with_reducible refine Kd.C_drewN ?_ _) | (with_reducible refine Kd.C_drew ?_))); (case side2 => exact (Kd.R_reads' HO414.out).2.1); rintro e w25 ⟨v417, rfl, ho0, hb⟩; refine ⟨_, rfl, ?_⟩; have n0_ := Aside0.mk (Kd.R_elder' (by (with_reducible repeat (first | apply Kd.R_alloc | apply Kd.R_drewN | apply Kd.R_drew)); exact HO_1.out) (Kd.R_base ho0) hb); have n1_ := Aside0.mk (Kd.R_elder' (by (with_reducible repeat (first | apply Kd.R_alloc | apply Kd.R_drewN | apply Kd.R_drew)); exact HO414.out) (Kd.R_base ho0) hb); have n2_ := Aside0.mk (Kd.R_lower (Kd.R_new' (Kd.R_new' ho0 (Kd.R_lt (by (with_reducible repeat (first | apply Kd.R_alloc | apply Kd.R_drewN | apply Kd.R_drew)); exact HO_1.out))) (Kd.R_lt (by (with_reducible repeat (first | apply Kd.R_alloc | apply Kd.R_drewN | apply Kd.R_drew)); exact HO414.out))) (below_size (by repeat (first | (with_reducible first | exact HB.out | apply below_alloc | apply pw_below_drewN | apply below_drew1) | exact HB.out)))); have n3_ := Aside0.mk (below_step (by repeat (first | (with_reducible first | exact HB.out | apply below_alloc | apply pw_below_drewN | apply below_drew1) | exact HB.out)) hb); clear HO_1; clear HO414; clear HB; have HO_1 := n0_; have HO414 := n1_; have HO418 := n2_; have HB := n3_; clear n0_ n1_ n2_ n3_; (try clear hb); (try clear hb2); (try clear hk); (try clear hi); (try clear ho0)) | ((with_reducible refine gate_callee (f := 51) rfl ?_); refine goesL_ (some 97) rfl rfl Try.func51 (by kernel_rfl) rfl #[.slice Ao8 t387.length co8, .int .i64 1] rfl (by (try simp only [List.map_toArray, List.map_cons, List.map_nil]); first | done | rfl | (simp only [List.length_drop, List.length_take]; rfl)) ?_; (with_reducible refine (topo_Kill.calls kj5 _ _ t387 1 t419 t420 _ ?side1 ?side2 A20.out).mono ?_); (case side1 => repeat (first | exact (Kd.R_reads' HO_1.out).2.2 | (with_reducible refine Kd.C_alloc ?_ _) | (with_reducible refine Kd.C_drewN ?_ _) | (with_reducible refine Kd.C_drew ?_))); (case side2 => exact (Kd.R_reads' HO_1.out).2.1); rintro e w26 ⟨v421, rfl, ho0, hb⟩; refine ⟨_, rfl, ?_⟩; have n0_ := Aside0.mk (Kd.R_elder' (by (with_reducible repeat (first | apply Kd.R_alloc | apply Kd.R_drewN | apply Kd.R_drew)); exact HO_1.out) (Kd.R_base ho0) hb); have n1_ := Aside0.mk (Kd.R_elder' (by (with_reducible repeat (first | apply Kd.R_alloc | apply Kd.R_drewN | apply Kd.R_drew)); exact HO414.out) (Kd.R_base ho0) hb); have n2_ := Aside0.mk (Kd.R_elder' (by (with_reducible repeat (first | apply Kd.R_alloc | apply Kd.R_drewN | apply Kd.R_drew)); exact HO418.out) (Kd.R_base ho0) hb); have n3_ := Aside0.mk (Kd.R_lower (Kd.R_new' (Kd.R_new' (Kd.R_new' ho0 (Kd.R_lt (by (with_reducible repeat (first | apply Kd.R_alloc | apply Kd.R_drewN | apply Kd.R_drew)); exact HO_1.out))) (Kd.R_lt (by (with_reducible repeat (first | apply Kd.R_alloc | apply Kd.R_drewN | apply Kd.R_drew)); exact HO414.out))) (Kd.R_lt (by (with_reducible repeat (first | apply Kd.R_alloc | apply Kd.R_drewN | apply Kd.R_drew)); exact HO418.out))) (below_size (by repeat (first | (with_reducible first | exact HB.out | apply below_alloc | apply pw_below_drewN | apply below_drew1) | exact HB.out)))); have n4_ := Aside0.mk (below_step (by repeat (first | (with_reducible first | exact HB.out | apply below_alloc | apply pw_below_drewN | apply below_drew1) | exact HB.out)) hb); clear HO_1; clear HO414; clear HO418; clear HB; have HO_1 := n0_; have HO414 := n1_; have HO418 := n2_; have HO422 := n3_; have HB := n4_; clear n0_ n1_ n2_ n3_ n4_; (try clear hb); (try clear hb2); (try clear hk); (try clear hi); (try clear ho0)) | ((with_reducible refine gate_callee (f := 51) rfl ?_); refine goesL_ (some 102) rfl rfl Try.func51 (by kernel_rfl) rfl #[.slice Ao24 t411.length co24, .int .i64 2] rfl (by (try simp only [List.map_toArray, List.map_cons, List.map_nil]); first | done | rfl | (simp only [List.length_drop, List.length_take]; rfl)) ?_; (with_reducible refine (topo_Kill.calls kj5 _ _ t411 2 t423 t424 _ ?side1 ?side2 A21.out).mono ?_); (case side1 => repeat (first | exact (Kd.R_reads' HO414.out).2.2 | (with_reducible refine Kd.C_alloc ?_ _) | (with_reducible refine Kd.C_drewN ?_ _) | (with_reducible refine Kd.C_drew ?_))); (case side2 => exact (Kd.R_reads' HO414.out).2.1); rintro e w27 ⟨v425, rfl, ho0, hb⟩; refine ⟨_, rfl, ?_⟩; have n0_ := Aside0.mk (Kd.R_elder' (by (with_reducible repeat (first | apply Kd.R_alloc | apply Kd.R_drewN | apply Kd.R_drew)); exact HO_1.out) (Kd.R_base ho0) hb); have n1_ := Aside0.mk (Kd.R_elder' (by (with_reducible repeat (first | apply Kd.R_alloc | apply Kd.R_drewN | apply Kd.R_drew)); exact HO414.out) (Kd.R_base ho0) hb); have n2_ := Aside0.mk (Kd.R_elder' (by (with_reducible repeat (first | apply Kd.R_alloc | apply Kd.R_drewN | apply Kd.R_drew)); exact HO418.out) (Kd.R_base ho0) hb); have n3_ := Aside0.mk (Kd.R_elder' (by (with_reducible repeat (first | apply Kd.R_alloc | apply Kd.R_drewN | apply Kd.R_drew)); exact HO422.out) (Kd.R_base ho0) hb); have n4_ := Aside0.mk (Kd.R_lower (Kd.R_new' (Kd.R_new' (Kd.R_new' (Kd.R_new' ho0 (Kd.R_lt (by (with_reducible repeat (first | apply Kd.R_alloc | apply Kd.R_drewN | apply Kd.R_drew)); exact HO_1.out))) (Kd.R_lt (by (with_reducible repeat (first | apply Kd.R_alloc | apply Kd.R_drewN | apply Kd.R_drew)); exact HO414.out))) (Kd.R_lt (by (with_reducible repeat (first | apply Kd.R_alloc | apply Kd.R_drewN | apply Kd.R_drew)); exact HO418.out))) (Kd.R_lt (by (with_reducible repeat (first | apply Kd.R_alloc | apply Kd.R_drewN | apply Kd.R_drew)); exact HO422.out))) (below_size (by repeat (first | (with_reducible first | exact HB.out | apply below_alloc | apply pw_below_drewN | apply below_drew1) | exact HB.out)))); have n5_ := Aside0.mk (below_step (by repeat (first | (with_reducible first | exact HB.out | apply below_alloc | apply pw_below_drewN | apply below_drew1) | exact HB.out)) hb); clear HO_1; clear HO414; clear HO418; clear HO422; clear HB; have HO_1 := n0_; have HO414 := n1_; have HO418 := n2_; have HO422 := n3_; have HO426 := n4_; have HB := n5_; clear n0_ n1_ n2_ n3_ n4_ n5_; (try clear hb); (try clear hb2); (try clear hk); (try clear hi); (try clear ho0)))
   (try simp only [Act.put, List.setIfInBounds_toArray, List.set_cons_zero, List.set_cons_succ])
   go_cut [24] (fun v24 wc => ∃ (kq : Nat) (x24_21 : Bool), v24 = .bool x24_21 ∧ Aside0 (tributarylaw27_TopoKnown.j1 kq t387 x15_5 x24_21 = some r) ∧ Aside0 (kq ≤ kj5) ∧ Aside0 (Kd.R k109 109 wc w.heap.size (fun _ => True) (.slice Ao8 t387.length co8) t387) ∧ Aside0 (Below w.heap.size w wc))
   case first =>
    have H := HC22.out
    clear HC22
    by_cases c28 : t412 = 0
    ·
     rw [if_pos c28] at H
     have c28b0 : (t412 == 0) = true := beq_iff_eq.mpr c28
     have c28b1 : (t412 != 0) = false := bne_eq_false_iff_eq.mpr c28
     clear c28
     (first | rw [c28b0] | (simp only [i64_w, i32_w]; rw [c28b0]) | skip)
     replace H := Option.bind_eq_some_iff.mp H
     obtain ⟨t427, A290, H⟩ := H
     replace H : ((tributarykit_SameInts.f kj5 t427 (([1, 3] : List Int))).bind fun t433 => (if t433 = true then ((topo_Height.f kj5 t411).bind fun t434 => (if t434 = 1 then (if t416 = 0 then ((topo_Live.f kj5 t415).bind fun t435 => ((tributarykit_SameInts.f kj5 t435 (([1, 3, 4] : List Int))).bind fun t441 => (if t441 = true then (if t420 = 2 then (tributarylaw27_TopoKnown.j1 kj5 t387 x15_5 (t424 == 14)) else (tributarylaw27_TopoKnown.j1 kj5 t387 x15_5 false)) else (tributarylaw27_TopoKnown.j1 kj5 t387 x15_5 false)))) else (tributarylaw27_TopoKnown.j1 kj5 t387 x15_5 false)) else (tributarylaw27_TopoKnown.j1 kj5 t387 x15_5 false))) else (tributarylaw27_TopoKnown.j1 kj5 t387 x15_5 false))) = some r := H
     have A29 := Aside0.mk A290
     clear A290
     obtain ⟨y430, hy430⟩ : ∃ y_ : List Int, y_ = (([1, 3] : List Int)) := ⟨_, rfl⟩
     replace H : ((tributarykit_SameInts.f kj5 t427 y430).bind fun t433 => (if t433 = true then ((topo_Height.f kj5 t411).bind fun t434 => (if t434 = 1 then (if t416 = 0 then ((topo_Live.f kj5 t415).bind fun t435 => ((tributarykit_SameInts.f kj5 t435 (([1, 3, 4] : List Int))).bind fun t441 => (if t441 = true then (if t420 = 2 then (tributarylaw27_TopoKnown.j1 kj5 t387 x15_5 (t424 == 14)) else (tributarylaw27_TopoKnown.j1 kj5 t387 x15_5 false)) else (tributarylaw27_TopoKnown.j1 kj5 t387 x15_5 false)))) else (tributarylaw27_TopoKnown.j1 kj5 t387 x15_5 false)) else (tributarylaw27_TopoKnown.j1 kj5 t387 x15_5 false))) else (tributarylaw27_TopoKnown.j1 kj5 t387 x15_5 false))) = some r := by first | (rw [hy430]; with_reducible exact H) | (have H2_ := (Option.bind_some _ _).symm.trans H; rw [hy430]; with_reducible exact H2_) | (have H2_ := (Option.bind_some _ _).symm.trans H; with_reducible exact H2_) | with_reducible exact H | (rw [hy430]; exact H) | exact H
     have Ny430 := Aside0.mk hy430
     clear hy430
     replace H := Option.bind_eq_some_iff.mp H
     obtain ⟨t433, A300, H⟩ := H
     replace H : (if t433 = true then ((topo_Height.f kj5 t411).bind fun t434 => (if t434 = 1 then (if t416 = 0 then ((topo_Live.f kj5 t415).bind fun t435 => ((tributarykit_SameInts.f kj5 t435 (([1, 3, 4] : List Int))).bind fun t441 => (if t441 = true then (if t420 = 2 then (tributarylaw27_TopoKnown.j1 kj5 t387 x15_5 (t424 == 14)) else (tributarylaw27_TopoKnown.j1 kj5 t387 x15_5 false)) else (tributarylaw27_TopoKnown.j1 kj5 t387 x15_5 false)))) else (tributarylaw27_TopoKnown.j1 kj5 t387 x15_5 false)) else (tributarylaw27_TopoKnown.j1 kj5 t387 x15_5 false))) else (tributarylaw27_TopoKnown.j1 kj5 t387 x15_5 false)) = some r := H
     have A30 := Aside0.mk A300
     clear A300
     by_cases c31 : t433 = true
     ·
      subst c31
      have H1 : ((topo_Height.f kj5 t411).bind fun t434 => (if t434 = 1 then (if t416 = 0 then ((topo_Live.f kj5 t415).bind fun t435 => ((tributarykit_SameInts.f kj5 t435 (([1, 3, 4] : List Int))).bind fun t441 => (if t441 = true then (if t420 = 2 then (tributarylaw27_TopoKnown.j1 kj5 t387 x15_5 (t424 == 14)) else (tributarylaw27_TopoKnown.j1 kj5 t387 x15_5 false)) else (tributarylaw27_TopoKnown.j1 kj5 t387 x15_5 false)))) else (tributarylaw27_TopoKnown.j1 kj5 t387 x15_5 false)) else (tributarylaw27_TopoKnown.j1 kj5 t387 x15_5 false))) = some r := by rw [if_pos rfl] at H; exact H
      clear H
      have H := H1
      clear H1
      replace H := Option.bind_eq_some_iff.mp H
      obtain ⟨t434, A320, H⟩ := H
      replace H : (if t434 = 1 then (if t416 = 0 then ((topo_Live.f kj5 t415).bind fun t435 => ((tributarykit_SameInts.f kj5 t435 (([1, 3, 4] : List Int))).bind fun t441 => (if t441 = true then (if t420 = 2 then (tributarylaw27_TopoKnown.j1 kj5 t387 x15_5 (t424 == 14)) else (tributarylaw27_TopoKnown.j1 kj5 t387 x15_5 false)) else (tributarylaw27_TopoKnown.j1 kj5 t387 x15_5 false)))) else (tributarylaw27_TopoKnown.j1 kj5 t387 x15_5 false)) else (tributarylaw27_TopoKnown.j1 kj5 t387 x15_5 false)) = some r := H
      have A32 := Aside0.mk A320
      clear A320
      by_cases c33 : t434 = 1
      ·
       rw [if_pos c33] at H
       have c33b0 : (t434 == 1) = true := beq_iff_eq.mpr c33
       have c33b1 : (t434 != 1) = false := bne_eq_false_iff_eq.mpr c33
       clear c33
       by_cases c34 : t416 = 0
       ·
        rw [if_pos c34] at H
        have c34b0 : (t416 == 0) = true := beq_iff_eq.mpr c34
        have c34b1 : (t416 != 0) = false := bne_eq_false_iff_eq.mpr c34
        clear c34
        replace H := Option.bind_eq_some_iff.mp H
        obtain ⟨t435, A350, H⟩ := H
        replace H : ((tributarykit_SameInts.f kj5 t435 (([1, 3, 4] : List Int))).bind fun t441 => (if t441 = true then (if t420 = 2 then (tributarylaw27_TopoKnown.j1 kj5 t387 x15_5 (t424 == 14)) else (tributarylaw27_TopoKnown.j1 kj5 t387 x15_5 false)) else (tributarylaw27_TopoKnown.j1 kj5 t387 x15_5 false))) = some r := H
        have A35 := Aside0.mk A350
        clear A350
        obtain ⟨y438, hy438⟩ : ∃ y_ : List Int, y_ = (([1, 3, 4] : List Int)) := ⟨_, rfl⟩
        replace H : ((tributarykit_SameInts.f kj5 t435 y438).bind fun t441 => (if t441 = true then (if t420 = 2 then (tributarylaw27_TopoKnown.j1 kj5 t387 x15_5 (t424 == 14)) else (tributarylaw27_TopoKnown.j1 kj5 t387 x15_5 false)) else (tributarylaw27_TopoKnown.j1 kj5 t387 x15_5 false))) = some r := by first | (rw [hy438]; with_reducible exact H) | (have H2_ := (Option.bind_some _ _).symm.trans H; rw [hy438]; with_reducible exact H2_) | (have H2_ := (Option.bind_some _ _).symm.trans H; with_reducible exact H2_) | with_reducible exact H | (rw [hy438]; exact H) | exact H
        have Ny438 := Aside0.mk hy438
        clear hy438
        replace H := Option.bind_eq_some_iff.mp H
        obtain ⟨t441, A360, H⟩ := H
        replace H : (if t441 = true then (if t420 = 2 then (tributarylaw27_TopoKnown.j1 kj5 t387 x15_5 (t424 == 14)) else (tributarylaw27_TopoKnown.j1 kj5 t387 x15_5 false)) else (tributarylaw27_TopoKnown.j1 kj5 t387 x15_5 false)) = some r := H
        have A36 := Aside0.mk A360
        clear A360
        by_cases c37 : t441 = true
        ·
         subst c37
         have H1 : (if t420 = 2 then (tributarylaw27_TopoKnown.j1 kj5 t387 x15_5 (t424 == 14)) else (tributarylaw27_TopoKnown.j1 kj5 t387 x15_5 false)) = some r := by rw [if_pos rfl] at H; exact H
         clear H
         have H := H1
         clear H1
         by_cases c38 : t420 = 2
         ·
          rw [if_pos c38] at H
          have c38b0 : (t420 == 2) = true := beq_iff_eq.mpr c38
          have c38b1 : (t420 != 2) = false := bne_eq_false_iff_eq.mpr c38
          clear c38
          have H' := Aside0.mk H
          clear H
          go_wp2_with (first | (go_at_call 44; (with_reducible refine (topo_Live.calls kj5 _ _ t411 t427 _ ?side1 ?side2 A29.out).mono ?_); (case side1 => repeat (first | exact (Kd.R_reads' HO414.out).2.2 | (with_reducible refine Kd.C_alloc ?_ _) | (with_reducible refine Kd.C_drewN ?_ _) | (with_reducible refine Kd.C_drew ?_))); (case side2 => exact (Kd.R_reads' HO414.out).2.1); rintro e w39 ⟨v428, rfl, ho0, hb⟩; have n0_ := Aside0.mk (Kd.R_below (by (with_reducible repeat (first | apply Kd.R_alloc | apply Kd.R_drewN | apply Kd.R_drew)); exact HO_1.out) hb); have n1_ := Aside0.mk (Kd.R_below (by (with_reducible repeat (first | apply Kd.R_alloc | apply Kd.R_drewN | apply Kd.R_drew)); exact HO414.out) hb); have n2_ := Aside0.mk (Kd.R_below (by (with_reducible repeat (first | apply Kd.R_alloc | apply Kd.R_drewN | apply Kd.R_drew)); exact HO418.out) hb); have n3_ := Aside0.mk (Kd.R_below (by (with_reducible repeat (first | apply Kd.R_alloc | apply Kd.R_drewN | apply Kd.R_drew)); exact HO422.out) hb); have n4_ := Aside0.mk (Kd.R_below (by (with_reducible repeat (first | apply Kd.R_alloc | apply Kd.R_drewN | apply Kd.R_drew)); exact HO426.out) hb); have n5_ := Aside0.mk (Kd.R_lower ho0 (below_size (by repeat (first | (with_reducible first | exact HB.out | apply below_alloc | apply pw_below_drewN | apply below_drew1) | exact HB.out)))); have n6_ := Aside0.mk (below_step (by repeat (first | (with_reducible first | exact HB.out | apply below_alloc | apply pw_below_drewN | apply below_drew1) | exact HB.out)) hb); clear HO_1; clear HO414; clear HO418; clear HO422; clear HO426; clear HB; have HO_1 := n0_; have HO414 := n1_; have HO418 := n2_; have HO422 := n3_; have HO426 := n4_; have HO429 := n5_; have HB := n6_; clear n0_ n1_ n2_ n3_ n4_ n5_ n6_; (try clear hb); (try clear hb2); (try clear hk); (try clear hi); (try clear ho0)) | ((with_reducible refine gate_dst (N := 110) rfl ?_); (try (refine gate_guard (by rfl) ?_; dsimp only)); refine Kd.R_lit (Kd.int .i64) _ 3 ?hg (N := 110) ?hd (xs := ([1, 3] : List Int)) (inner := [.int .i64 1, .int .i64 3]) (ok := fun _ => True) (okp := fun _ => True) ?hr ?hp (fun _ hk => hk) trivial (Below.refl _ _) (Nat.le_refl _) (by simp) ?_; (case hd => rfl); (case hg => rfl); (case hr => first | (go_simp; done) | (go_simp; rfl)); (case hp => exact (Reps.one (show Kd.M (Kd.int .i64) _ _ _ 1 [.int .i64 1] from rfl) (Reps.one (show Kd.M (Kd.int .i64) _ _ _ 3 [.int .i64 3] from rfl) (Reps.none _ _)))); intro v431 w40 ho41 hb hg_ hnew_; clear hg_ hnew_; (first | rw [← Ny430.out] at ho41 | (simp only [Int.reduceToNat] at ho41; rw [← Ny430.out] at ho41)); have n0_ := Aside0.mk (Kd.R_below (by (with_reducible repeat (first | apply Kd.R_alloc | apply Kd.R_drewN | apply Kd.R_drew)); exact HO_1.out) hb); have n1_ := Aside0.mk (Kd.R_below (by (with_reducible repeat (first | apply Kd.R_alloc | apply Kd.R_drewN | apply Kd.R_drew)); exact HO414.out) hb); have n2_ := Aside0.mk (Kd.R_below (by (with_reducible repeat (first | apply Kd.R_alloc | apply Kd.R_drewN | apply Kd.R_drew)); exact HO418.out) hb); have n3_ := Aside0.mk (Kd.R_below (by (with_reducible repeat (first | apply Kd.R_alloc | apply Kd.R_drewN | apply Kd.R_drew)); exact HO422.out) hb); have n4_ := Aside0.mk (Kd.R_below (by (with_reducible repeat (first | apply Kd.R_alloc | apply Kd.R_drewN | apply Kd.R_drew)); exact HO426.out) hb); have n5_ := Aside0.mk (Kd.R_elder' (by (with_reducible repeat (first | apply Kd.R_alloc | apply Kd.R_drewN | apply Kd.R_drew)); exact HO429.out) (Kd.R_base ho41) hb); have n6_ := Aside0.mk (Kd.R_lower (Kd.R_new' ho41 (Kd.R_lt (by (with_reducible repeat (first | apply Kd.R_alloc | apply Kd.R_drewN | apply Kd.R_drew)); exact HO429.out))) (below_size (by repeat (first | (with_reducible first | exact HB.out | apply below_alloc | apply pw_below_drewN | apply below_drew1) | exact HB.out)))); have n7_ := Aside0.mk (below_step (by repeat (first | (with_reducible first | exact HB.out | apply below_alloc | apply pw_below_drewN | apply below_drew1) | exact HB.out)) hb); clear HO_1; clear HO414; clear HO418; clear HO422; clear HO426; clear HO429; clear HB; have HO_1 := n0_; have HO414 := n1_; have HO418 := n2_; have HO422 := n3_; have HO426 := n4_; have HO429 := n5_; have HO432 := n6_; have HB := n7_; clear n0_ n1_ n2_ n3_ n4_ n5_ n6_ n7_; clear hb ho41; obtain ⟨Ao42, co42, eo42⟩ := Kd.R_slice HO429.out; subst eo42; obtain ⟨Ao43, co43, eo43⟩ := Kd.R_slice HO432.out; subst eo43) | (go_at_call 41; (with_reducible refine (tributarykit_SameInts.calls kj5 _ _ t427 _ _ y430 true _ ?side1 ?side2 ?side3 ?side4 A30.out).mono ?_); (case side1 => repeat (first | exact (Kd.R_reads' HO429.out).2.2 | (with_reducible refine Kd.C_alloc ?_ _) | (with_reducible refine Kd.C_drewN ?_ _) | (with_reducible refine Kd.C_drew ?_))); (case side2 => exact (Kd.R_reads' HO429.out).2.1); (case side3 => repeat (first | exact (Kd.R_reads' HO432.out).2.2 | (with_reducible refine Kd.C_alloc ?_ _) | (with_reducible refine Kd.C_drewN ?_ _) | (with_reducible refine Kd.C_drew ?_))); (case side4 => exact (Kd.R_reads' HO432.out).2.1); rintro e w' ⟨rfl, ⟨nd, rfl⟩⟩) | (go_at_call 46; (with_reducible refine (topo_Height.calls kj5 _ _ t411 t434 _ ?side1 ?side2 A32.out).mono ?_); (case side1 => repeat (first | exact (Kd.R_reads' HO414.out).2.2 | (with_reducible refine Kd.C_alloc ?_ _) | (with_reducible refine Kd.C_drewN ?_ _) | (with_reducible refine Kd.C_drew ?_))); (case side2 => exact (Kd.R_reads' HO414.out).2.1); rintro e w44 ⟨rfl, hb⟩; have n0_ := Aside0.mk (Kd.R_below (by (with_reducible repeat (first | apply Kd.R_alloc | apply Kd.R_drewN | apply Kd.R_drew)); exact HO_1.out) hb); have n1_ := Aside0.mk (Kd.R_below (by (with_reducible repeat (first | apply Kd.R_alloc | apply Kd.R_drewN | apply Kd.R_drew)); exact HO414.out) hb); have n2_ := Aside0.mk (Kd.R_below (by (with_reducible repeat (first | apply Kd.R_alloc | apply Kd.R_drewN | apply Kd.R_drew)); exact HO418.out) hb); have n3_ := Aside0.mk (Kd.R_below (by (with_reducible repeat (first | apply Kd.R_alloc | apply Kd.R_drewN | apply Kd.R_drew)); exact HO422.out) hb); have n4_ := Aside0.mk (Kd.R_below (by (with_reducible repeat (first | apply Kd.R_alloc | apply Kd.R_drewN | apply Kd.R_drew)); exact HO426.out) hb); have n5_ := Aside0.mk (Kd.R_below (by (with_reducible repeat (first | apply Kd.R_alloc | apply Kd.R_drewN | apply Kd.R_drew)); exact HO429.out) hb); have n6_ := Aside0.mk (Kd.R_below (by (with_reducible repeat (first | apply Kd.R_alloc | apply Kd.R_drewN | apply Kd.R_drew)); exact HO432.out) hb); have n7_ := Aside0.mk (below_step (by repeat (first | (with_reducible first | exact HB.out | apply below_alloc | apply pw_below_drewN | apply below_drew1) | exact HB.out)) hb); clear HO_1; clear HO414; clear HO418; clear HO422; clear HO426; clear HO429; clear HO432; clear HB; have HO_1 := n0_; have HO414 := n1_; have HO418 := n2_; have HO422 := n3_; have HO426 := n4_; have HO429 := n5_; have HO432 := n6_; have HB := n7_; clear n0_ n1_ n2_ n3_ n4_ n5_ n6_ n7_; (try clear hb); (try clear hb2); (try clear hk); (try clear hi); obtain ⟨Ao45, co45, eo45⟩ := Kd.R_slice HO418.out; subst eo45) | (go_at_call 44; (with_reducible refine (topo_Live.calls kj5 _ _ t415 t435 _ ?side1 ?side2 A35.out).mono ?_); (case side1 => repeat (first | exact (Kd.R_reads' HO418.out).2.2 | (with_reducible refine Kd.C_alloc ?_ _) | (with_reducible refine Kd.C_drewN ?_ _) | (with_reducible refine Kd.C_drew ?_))); (case side2 => exact (Kd.R_reads' HO418.out).2.1); rintro e w46 ⟨v436, rfl, ho0, hb⟩; have n0_ := Aside0.mk (Kd.R_below (by (with_reducible repeat (first | apply Kd.R_alloc | apply Kd.R_drewN | apply Kd.R_drew)); exact HO_1.out) hb); have n1_ := Aside0.mk (Kd.R_below (by (with_reducible repeat (first | apply Kd.R_alloc | apply Kd.R_drewN | apply Kd.R_drew)); exact HO414.out) hb); have n2_ := Aside0.mk (Kd.R_below (by (with_reducible repeat (first | apply Kd.R_alloc | apply Kd.R_drewN | apply Kd.R_drew)); exact HO418.out) hb); have n3_ := Aside0.mk (Kd.R_below (by (with_reducible repeat (first | apply Kd.R_alloc | apply Kd.R_drewN | apply Kd.R_drew)); exact HO422.out) hb); have n4_ := Aside0.mk (Kd.R_below (by (with_reducible repeat (first | apply Kd.R_alloc | apply Kd.R_drewN | apply Kd.R_drew)); exact HO426.out) hb); have n5_ := Aside0.mk (Kd.R_elder' (by (with_reducible repeat (first | apply Kd.R_alloc | apply Kd.R_drewN | apply Kd.R_drew)); exact HO429.out) (Kd.R_base ho0) hb); have n6_ := Aside0.mk (Kd.R_elder' (by (with_reducible repeat (first | apply Kd.R_alloc | apply Kd.R_drewN | apply Kd.R_drew)); exact HO432.out) (Kd.R_base ho0) hb); have n7_ := Aside0.mk (Kd.R_lower (Kd.R_new' (Kd.R_new' ho0 (Kd.R_lt (by (with_reducible repeat (first | apply Kd.R_alloc | apply Kd.R_drewN | apply Kd.R_drew)); exact HO429.out))) (Kd.R_lt (by (with_reducible repeat (first | apply Kd.R_alloc | apply Kd.R_drewN | apply Kd.R_drew)); exact HO432.out))) (below_size (by repeat (first | (with_reducible first | exact HB.out | apply below_alloc | apply pw_below_drewN | apply below_drew1) | exact HB.out)))); have n8_ := Aside0.mk (below_step (by repeat (first | (with_reducible first | exact HB.out | apply below_alloc | apply pw_below_drewN | apply below_drew1) | exact HB.out)) hb); clear HO_1; clear HO414; clear HO418; clear HO422; clear HO426; clear HO429; clear HO432; clear HB; have HO_1 := n0_; have HO414 := n1_; have HO418 := n2_; have HO422 := n3_; have HO426 := n4_; have HO429 := n5_; have HO432 := n6_; have HO437 := n7_; have HB := n8_; clear n0_ n1_ n2_ n3_ n4_ n5_ n6_ n7_ n8_; (try clear hb); (try clear hb2); (try clear hk); (try clear hi); (try clear ho0)) | ((with_reducible refine gate_dst (N := 125) rfl ?_); (try (refine gate_guard (by rfl) ?_; dsimp only)); refine Kd.R_lit (Kd.int .i64) _ 3 ?hg (N := 125) ?hd (xs := ([1, 3, 4] : List Int)) (inner := [.int .i64 1, .int .i64 3, .int .i64 4]) (ok := fun _ => True) (okp := fun _ => True) ?hr ?hp (fun _ hk => hk) trivial (Below.refl _ _) (Nat.le_refl _) (by simp) ?_; (case hd => rfl); (case hg => rfl); (case hr => first | (go_simp; done) | (go_simp; rfl)); (case hp => exact (Reps.one (show Kd.M (Kd.int .i64) _ _ _ 1 [.int .i64 1] from rfl) (Reps.one (show Kd.M (Kd.int .i64) _ _ _ 3 [.int .i64 3] from rfl) (Reps.one (show Kd.M (Kd.int .i64) _ _ _ 4 [.int .i64 4] from rfl) (Reps.none _ _))))); intro v439 w47 ho48 hb hg_ hnew_; clear hg_ hnew_; (first | rw [← Ny438.out] at ho48 | (simp only [Int.reduceToNat] at ho48; rw [← Ny438.out] at ho48)); have n0_ := Aside0.mk (Kd.R_below (by (with_reducible repeat (first | apply Kd.R_alloc | apply Kd.R_drewN | apply Kd.R_drew)); exact HO_1.out) hb); have n1_ := Aside0.mk (Kd.R_below (by (with_reducible repeat (first | apply Kd.R_alloc | apply Kd.R_drewN | apply Kd.R_drew)); exact HO414.out) hb); have n2_ := Aside0.mk (Kd.R_below (by (with_reducible repeat (first | apply Kd.R_alloc | apply Kd.R_drewN | apply Kd.R_drew)); exact HO418.out) hb); have n3_ := Aside0.mk (Kd.R_below (by (with_reducible repeat (first | apply Kd.R_alloc | apply Kd.R_drewN | apply Kd.R_drew)); exact HO422.out) hb); have n4_ := Aside0.mk (Kd.R_below (by (with_reducible repeat (first | apply Kd.R_alloc | apply Kd.R_drewN | apply Kd.R_drew)); exact HO426.out) hb); have n5_ := Aside0.mk (Kd.R_elder' (by (with_reducible repeat (first | apply Kd.R_alloc | apply Kd.R_drewN | apply Kd.R_drew)); exact HO429.out) (Kd.R_base ho48) hb); have n6_ := Aside0.mk (Kd.R_elder' (by (with_reducible repeat (first | apply Kd.R_alloc | apply Kd.R_drewN | apply Kd.R_drew)); exact HO432.out) (Kd.R_base ho48) hb); have n7_ := Aside0.mk (Kd.R_elder' (by (with_reducible repeat (first | apply Kd.R_alloc | apply Kd.R_drewN | apply Kd.R_drew)); exact HO437.out) (Kd.R_base ho48) hb); have n8_ := Aside0.mk (Kd.R_lower (Kd.R_new' (Kd.R_new' (Kd.R_new' ho48 (Kd.R_lt (by (with_reducible repeat (first | apply Kd.R_alloc | apply Kd.R_drewN | apply Kd.R_drew)); exact HO429.out))) (Kd.R_lt (by (with_reducible repeat (first | apply Kd.R_alloc | apply Kd.R_drewN | apply Kd.R_drew)); exact HO432.out))) (Kd.R_lt (by (with_reducible repeat (first | apply Kd.R_alloc | apply Kd.R_drewN | apply Kd.R_drew)); exact HO437.out))) (below_size (by repeat (first | (with_reducible first | exact HB.out | apply below_alloc | apply pw_below_drewN | apply below_drew1) | exact HB.out)))); have n9_ := Aside0.mk (below_step (by repeat (first | (with_reducible first | exact HB.out | apply below_alloc | apply pw_below_drewN | apply below_drew1) | exact HB.out)) hb); clear HO_1; clear HO414; clear HO418; clear HO422; clear HO426; clear HO429; clear HO432; clear HO437; clear HB; have HO_1 := n0_; have HO414 := n1_; have HO418 := n2_; have HO422 := n3_; have HO426 := n4_; have HO429 := n5_; have HO432 := n6_; have HO437 := n7_; have HO440 := n8_; have HB := n9_; clear n0_ n1_ n2_ n3_ n4_ n5_ n6_ n7_ n8_ n9_; clear hb ho48; obtain ⟨Ao49, co49, eo49⟩ := Kd.R_slice HO437.out; subst eo49; obtain ⟨Ao50, co50, eo50⟩ := Kd.R_slice HO440.out; subst eo50) | (go_at_call 41; (with_reducible refine (tributarykit_SameInts.calls kj5 _ _ t435 _ _ y438 true _ ?side1 ?side2 ?side3 ?side4 A36.out).mono ?_); (case side1 => repeat (first | exact (Kd.R_reads' HO437.out).2.2 | (with_reducible refine Kd.C_alloc ?_ _) | (with_reducible refine Kd.C_drewN ?_ _) | (with_reducible refine Kd.C_drew ?_))); (case side2 => exact (Kd.R_reads' HO437.out).2.1); (case side3 => repeat (first | exact (Kd.R_reads' HO440.out).2.2 | (with_reducible refine Kd.C_alloc ?_ _) | (with_reducible refine Kd.C_drewN ?_ _) | (with_reducible refine Kd.C_drew ?_))); (case side4 => exact (Kd.R_reads' HO440.out).2.1); rintro e w' ⟨rfl, ⟨nd, rfl⟩⟩))
          go_meet
          case rel => exact ⟨_, ((t424 == 14)), (by first | rfl | (simp; done) | (simp [*]; done)), H', ⟨by have := HJ5.out; first | omega | exact Nat.le_refl _⟩, ⟨by (with_reducible repeat (first | apply Kd.R_alloc | apply Kd.R_drewN | apply Kd.R_drew)); exact Kd.R_mono HO_1.out (fun _ hk => trivial)⟩, ⟨by repeat (first | (with_reducible first | exact HB.out | apply below_alloc | apply pw_below_drewN | apply below_drew1) | exact HB.out)⟩⟩
         ·
          rw [if_neg c38] at H; exact absurd (H.trans (congrArg some HR.out)) (by first | (intro h; cases h; done) | exact tributarylaw27_TopoKnown.j0_f1 _ _ | exact tributarylaw27_TopoKnown.j1_f1 _ _ _ | exact tributarylaw27_TopoKnown.j1_f2 _ _ _)
        ·
         rw [if_neg c37] at H; exact absurd (H.trans (congrArg some HR.out)) (by first | (intro h; cases h; done) | exact tributarylaw27_TopoKnown.j0_f1 _ _ | exact tributarylaw27_TopoKnown.j1_f1 _ _ _ | exact tributarylaw27_TopoKnown.j1_f2 _ _ _)
       ·
        rw [if_neg c34] at H; exact absurd (H.trans (congrArg some HR.out)) (by first | (intro h; cases h; done) | exact tributarylaw27_TopoKnown.j0_f1 _ _ | exact tributarylaw27_TopoKnown.j1_f1 _ _ _ | exact tributarylaw27_TopoKnown.j1_f2 _ _ _)
      ·
       rw [if_neg c33] at H; exact absurd (H.trans (congrArg some HR.out)) (by first | (intro h; cases h; done) | exact tributarylaw27_TopoKnown.j0_f1 _ _ | exact tributarylaw27_TopoKnown.j1_f1 _ _ _ | exact tributarylaw27_TopoKnown.j1_f2 _ _ _)
     ·
      rw [if_neg c31] at H; exact absurd (H.trans (congrArg some HR.out)) (by first | (intro h; cases h; done) | exact tributarylaw27_TopoKnown.j0_f1 _ _ | exact tributarylaw27_TopoKnown.j1_f1 _ _ _ | exact tributarylaw27_TopoKnown.j1_f2 _ _ _)
    ·
     rw [if_neg c28] at H; exact absurd (H.trans (congrArg some HR.out)) (by first | (intro h; cases h; done) | exact tributarylaw27_TopoKnown.j0_f1 _ _ | exact tributarylaw27_TopoKnown.j1_f1 _ _ _ | exact tributarylaw27_TopoKnown.j1_f2 _ _ _)
   case rest =>
    clear HC22
    try clear c1; try clear c2; try clear p2; try clear c3; try clear c4; try clear c5; try clear c6; try clear c11; try clear c13; try clear c14; try clear c14b0; try clear c14b1; try clear c15; try clear c15b0; try clear c15b1; try clear c16; try clear c16b0; try clear c16b1; try clear c17; try clear c17b0; try clear c17b1; try clear c28; try clear c28b0; try clear c28b1; try clear c31; try clear c33; try clear c33b0; try clear c33b1; try clear c34; try clear c34b0; try clear c34b1; try clear c37; try clear c38; try clear c38b0; try clear c38b1; try clear c49; try clear c51; try clear c53; try clear c60; try clear p2
    obtain ⟨kq, x24_21, rfl, HA, HJ21, HO_1, HB⟩ := hcut
    cases kq with
    | zero => exact absurd HA.out (by simp [tributarylaw27_TopoKnown.j1])
    | succ kj21 =>
     have H := HA.out
     clear HA
     simp only [tributarylaw27_TopoKnown.j1] at H
     replace H := Option.bind_eq_some_iff.mp H
     obtain ⟨⟨t442, t445, t446⟩, A920, H⟩ := H
     replace H : ((topo_Move.f kj21 t387 2 2).bind fun bt447 => ((topo_Move.f kj21 t387 3 4).bind fun bt451 => ((topo_Move.f kj21 t387 1 2).bind fun bt455 => ((topo_Move.f kj21 t442 2 5).bind fun bt459 => ((tributarylaw27_awake.f kj21).bind fun t463 => (if t463 = true then (if x15_5 = true then (if x24_21 = true then (if t446 = 0 then (if bt447.2 = 13 then (if bt451.2 = 15 then (if bt455.2 = 2 then (if bt459.2 = 13 then ((topo_Check.f kj21 ([] : List (S109))).bind fun t464 => (some (t464 == 2))) else (some false)) else (some false)) else (some false)) else (some false)) else (some false)) else (some false)) else (some false)) else (some false))))))) = some r := H
     have A92 := Aside0.mk A920
     clear A920
     replace H := Option.bind_eq_some_iff.mp H
     obtain ⟨⟨t447, t448⟩, A930, H⟩ := H
     replace H : ((topo_Move.f kj21 t387 3 4).bind fun bt451 => ((topo_Move.f kj21 t387 1 2).bind fun bt455 => ((topo_Move.f kj21 t442 2 5).bind fun bt459 => ((tributarylaw27_awake.f kj21).bind fun t463 => (if t463 = true then (if x15_5 = true then (if x24_21 = true then (if t446 = 0 then (if t448 = 13 then (if bt451.2 = 15 then (if bt455.2 = 2 then (if bt459.2 = 13 then ((topo_Check.f kj21 ([] : List (S109))).bind fun t464 => (some (t464 == 2))) else (some false)) else (some false)) else (some false)) else (some false)) else (some false)) else (some false)) else (some false)) else (some false)))))) = some r := H
     have A93 := Aside0.mk A930
     clear A930
     replace H := Option.bind_eq_some_iff.mp H
     obtain ⟨⟨t451, t452⟩, A940, H⟩ := H
     replace H : ((topo_Move.f kj21 t387 1 2).bind fun bt455 => ((topo_Move.f kj21 t442 2 5).bind fun bt459 => ((tributarylaw27_awake.f kj21).bind fun t463 => (if t463 = true then (if x15_5 = true then (if x24_21 = true then (if t446 = 0 then (if t448 = 13 then (if t452 = 15 then (if bt455.2 = 2 then (if bt459.2 = 13 then ((topo_Check.f kj21 ([] : List (S109))).bind fun t464 => (some (t464 == 2))) else (some false)) else (some false)) else (some false)) else (some false)) else (some false)) else (some false)) else (some false)) else (some false))))) = some r := H
     have A94 := Aside0.mk A940
     clear A940
     replace H := Option.bind_eq_some_iff.mp H
     obtain ⟨⟨t455, t456⟩, A950, H⟩ := H
     replace H : ((topo_Move.f kj21 t442 2 5).bind fun bt459 => ((tributarylaw27_awake.f kj21).bind fun t463 => (if t463 = true then (if x15_5 = true then (if x24_21 = true then (if t446 = 0 then (if t448 = 13 then (if t452 = 15 then (if t456 = 2 then (if bt459.2 = 13 then ((topo_Check.f kj21 ([] : List (S109))).bind fun t464 => (some (t464 == 2))) else (some false)) else (some false)) else (some false)) else (some false)) else (some false)) else (some false)) else (some false)) else (some false)))) = some r := H
     have A95 := Aside0.mk A950
     clear A950
     replace H := Option.bind_eq_some_iff.mp H
     obtain ⟨⟨t459, t460⟩, A960, H⟩ := H
     replace H : ((tributarylaw27_awake.f kj21).bind fun t463 => (if t463 = true then (if x15_5 = true then (if x24_21 = true then (if t446 = 0 then (if t448 = 13 then (if t452 = 15 then (if t456 = 2 then (if t460 = 13 then ((topo_Check.f kj21 ([] : List (S109))).bind fun t464 => (some (t464 == 2))) else (some false)) else (some false)) else (some false)) else (some false)) else (some false)) else (some false)) else (some false)) else (some false))) = some r := H
     have A96 := Aside0.mk A960
     clear A960
     replace H := Option.bind_eq_some_iff.mp H
     obtain ⟨t463, A970, H⟩ := H
     replace H : (if t463 = true then (if x15_5 = true then (if x24_21 = true then (if t446 = 0 then (if t448 = 13 then (if t452 = 15 then (if t456 = 2 then (if t460 = 13 then ((topo_Check.f kj21 ([] : List (S109))).bind fun t464 => (some (t464 == 2))) else (some false)) else (some false)) else (some false)) else (some false)) else (some false)) else (some false)) else (some false)) else (some false)) = some r := H
     have A97 := Aside0.mk A970
     clear A970
     by_cases c98 : t463 = true
     ·
      subst c98
      have H1 : (if x15_5 = true then (if x24_21 = true then (if t446 = 0 then (if t448 = 13 then (if t452 = 15 then (if t456 = 2 then (if t460 = 13 then ((topo_Check.f kj21 ([] : List (S109))).bind fun t464 => (some (t464 == 2))) else (some false)) else (some false)) else (some false)) else (some false)) else (some false)) else (some false)) else (some false)) = some r := by rw [if_pos rfl] at H; exact H
      clear H
      have H := H1
      clear H1
      by_cases c99 : x15_5 = true
      ·
       subst c99
       have H1 : (if x24_21 = true then (if t446 = 0 then (if t448 = 13 then (if t452 = 15 then (if t456 = 2 then (if t460 = 13 then ((topo_Check.f kj21 ([] : List (S109))).bind fun t464 => (some (t464 == 2))) else (some false)) else (some false)) else (some false)) else (some false)) else (some false)) else (some false)) = some r := by rw [if_pos rfl] at H; exact H
       clear H
       have H := H1
       clear H1
       by_cases c100 : x24_21 = true
       ·
        subst c100
        have H1 : (if t446 = 0 then (if t448 = 13 then (if t452 = 15 then (if t456 = 2 then (if t460 = 13 then ((topo_Check.f kj21 ([] : List (S109))).bind fun t464 => (some (t464 == 2))) else (some false)) else (some false)) else (some false)) else (some false)) else (some false)) = some r := by rw [if_pos rfl] at H; exact H
        clear H
        have H := H1
        clear H1
        by_cases c101 : t446 = 0
        ·
         rw [if_pos c101] at H
         have c101b0 : (t446 == 0) = true := beq_iff_eq.mpr c101
         have c101b1 : (t446 != 0) = false := bne_eq_false_iff_eq.mpr c101
         clear c101
         by_cases c102 : t448 = 13
         ·
          rw [if_pos c102] at H
          have c102b0 : (t448 == 13) = true := beq_iff_eq.mpr c102
          have c102b1 : (t448 != 13) = false := bne_eq_false_iff_eq.mpr c102
          clear c102
          by_cases c103 : t452 = 15
          ·
           rw [if_pos c103] at H
           have c103b0 : (t452 == 15) = true := beq_iff_eq.mpr c103
           have c103b1 : (t452 != 15) = false := bne_eq_false_iff_eq.mpr c103
           clear c103
           by_cases c104 : t456 = 2
           ·
            rw [if_pos c104] at H
            have c104b0 : (t456 == 2) = true := beq_iff_eq.mpr c104
            have c104b1 : (t456 != 2) = false := bne_eq_false_iff_eq.mpr c104
            clear c104
            by_cases c105 : t460 = 13
            ·
             rw [if_pos c105] at H
             have c105b0 : (t460 == 13) = true := beq_iff_eq.mpr c105
             have c105b1 : (t460 != 13) = false := bne_eq_false_iff_eq.mpr c105
             clear c105
             replace H := Option.bind_eq_some_iff.mp H
             obtain ⟨t464, A1060, H⟩ := H
             replace H : (some (t464 == 2)) = some r := H
             have A106 := Aside0.mk A1060
             clear A1060
             obtain rfl := Option.some.inj H
             go_wp2_with (first | ((with_reducible refine gate_callee (f := 49) rfl ?_); refine goesL_ (some 138) rfl rfl Try.func49 (by kernel_rfl) rfl #[.slice Ao8 t387.length co8, .int .i64 2, .int .i64 2] rfl (by (try simp only [List.map_toArray, List.map_cons, List.map_nil]); first | done | rfl | (simp only [List.length_drop, List.length_take]; rfl)) ?_; (with_reducible refine (topo_Enrol.calls kj21 (fun k_ => some k_ = (.slice Ao8 t387.length co8 : Value).ownBlock) _ _ t387 2 2 t442 t445 t446 _ ?side1 A92.out).mono ?_); (case side1 => exact Kd.R_V (Kd.R_tight rfl (HO_1.out))); rintro e w107 ⟨v443, rfl, ho0, hb⟩; refine ⟨_, rfl, ?_⟩; have n0_ := Aside0.mk (Kd.R_elder' (by (with_reducible repeat (first | apply Kd.R_alloc | apply Kd.R_drewN | apply Kd.R_drew)); exact HO_1.out) (Kd.R_base ho0) hb); have n1_ := Aside0.mk (Kd.R_lower (Kd.R_new' (Kd.R_mono (ok' := fun k_ => True) ho0 (fun _ hk_ => trivial)) (Kd.R_lt (by (with_reducible repeat (first | apply Kd.R_alloc | apply Kd.R_drewN | apply Kd.R_drew)); exact HO_1.out))) (below_size (by repeat (first | (with_reducible first | exact HB.out | apply below_alloc | apply pw_below_drewN | apply below_drew1) | exact HB.out)))); have n2_ := Aside0.mk (below_step (by repeat (first | (with_reducible first | exact HB.out | apply below_alloc | apply pw_below_drewN | apply below_drew1) | exact HB.out)) hb); clear HO_1; clear HB; have HO_1 := n0_; have HO444 := n1_; have HB := n2_; clear n0_ n1_ n2_; (try clear hb); (try clear hb2); (try clear hk); (try clear hi); (try clear ho0)) | ((with_reducible refine gate_callee (f := 53) rfl ?_); refine goesL_ (some 144) rfl rfl Try.func53 (by kernel_rfl) rfl #[.slice Ao8 t387.length co8, .int .i64 2, .int .i64 2] rfl (by (try simp only [List.map_toArray, List.map_cons, List.map_nil]); first | done | rfl | (simp only [List.length_drop, List.length_take]; rfl)) ?_; (with_reducible refine (topo_Move.calls kj21 _ _ t387 2 2 t447 t448 _ ?side1 ?side2 A93.out).mono ?_); (case side1 => repeat (first | exact (Kd.R_reads' HO_1.out).2.2 | (with_reducible refine Kd.C_alloc ?_ _) | (with_reducible refine Kd.C_drewN ?_ _) | (with_reducible refine Kd.C_drew ?_))); (case side2 => exact (Kd.R_reads' HO_1.out).2.1); rintro e w108 ⟨v449, rfl, ho0, hb⟩; refine ⟨_, rfl, ?_⟩; have n0_ := Aside0.mk (Kd.R_elder' (by (with_reducible repeat (first | apply Kd.R_alloc | apply Kd.R_drewN | apply Kd.R_drew)); exact HO_1.out) (Kd.R_base ho0) hb); have n1_ := Aside0.mk (Kd.R_elder' (by (with_reducible repeat (first | apply Kd.R_alloc | apply Kd.R_drewN | apply Kd.R_drew)); exact HO444.out) (Kd.R_base ho0) hb); have n2_ := Aside0.mk (Kd.R_lower (Kd.R_new' (Kd.R_new' ho0 (Kd.R_lt (by (with_reducible repeat (first | apply Kd.R_alloc | apply Kd.R_drewN | apply Kd.R_drew)); exact HO_1.out))) (Kd.R_lt (by (with_reducible repeat (first | apply Kd.R_alloc | apply Kd.R_drewN | apply Kd.R_drew)); exact HO444.out))) (below_size (by repeat (first | (with_reducible first | exact HB.out | apply below_alloc | apply pw_below_drewN | apply below_drew1) | exact HB.out)))); have n3_ := Aside0.mk (below_step (by repeat (first | (with_reducible first | exact HB.out | apply below_alloc | apply pw_below_drewN | apply below_drew1) | exact HB.out)) hb); clear HO_1; clear HO444; clear HB; have HO_1 := n0_; have HO444 := n1_; have HO450 := n2_; have HB := n3_; clear n0_ n1_ n2_ n3_; (try clear hb); (try clear hb2); (try clear hk); (try clear hi); (try clear ho0)) | ((with_reducible refine gate_callee (f := 53) rfl ?_); refine goesL_ (some 149) rfl rfl Try.func53 (by kernel_rfl) rfl #[.slice Ao8 t387.length co8, .int .i64 3, .int .i64 4] rfl (by (try simp only [List.map_toArray, List.map_cons, List.map_nil]); first | done | rfl | (simp only [List.length_drop, List.length_take]; rfl)) ?_; (with_reducible refine (topo_Move.calls kj21 _ _ t387 3 4 t451 t452 _ ?side1 ?side2 A94.out).mono ?_); (case side1 => repeat (first | exact (Kd.R_reads' HO_1.out).2.2 | (with_reducible refine Kd.C_alloc ?_ _) | (with_reducible refine Kd.C_drewN ?_ _) | (with_reducible refine Kd.C_drew ?_))); (case side2 => exact (Kd.R_reads' HO_1.out).2.1); rintro e w109 ⟨v453, rfl, ho0, hb⟩; refine ⟨_, rfl, ?_⟩; have n0_ := Aside0.mk (Kd.R_elder' (by (with_reducible repeat (first | apply Kd.R_alloc | apply Kd.R_drewN | apply Kd.R_drew)); exact HO_1.out) (Kd.R_base ho0) hb); have n1_ := Aside0.mk (Kd.R_elder' (by (with_reducible repeat (first | apply Kd.R_alloc | apply Kd.R_drewN | apply Kd.R_drew)); exact HO444.out) (Kd.R_base ho0) hb); have n2_ := Aside0.mk (Kd.R_elder' (by (with_reducible repeat (first | apply Kd.R_alloc | apply Kd.R_drewN | apply Kd.R_drew)); exact HO450.out) (Kd.R_base ho0) hb); have n3_ := Aside0.mk (Kd.R_lower (Kd.R_new' (Kd.R_new' (Kd.R_new' ho0 (Kd.R_lt (by (with_reducible repeat (first | apply Kd.R_alloc | apply Kd.R_drewN | apply Kd.R_drew)); exact HO_1.out))) (Kd.R_lt (by (with_reducible repeat (first | apply Kd.R_alloc | apply Kd.R_drewN | apply Kd.R_drew)); exact HO444.out))) (Kd.R_lt (by (with_reducible repeat (first | apply Kd.R_alloc | apply Kd.R_drewN | apply Kd.R_drew)); exact HO450.out))) (below_size (by repeat (first | (with_reducible first | exact HB.out | apply below_alloc | apply pw_below_drewN | apply below_drew1) | exact HB.out)))); have n4_ := Aside0.mk (below_step (by repeat (first | (with_reducible first | exact HB.out | apply below_alloc | apply pw_below_drewN | apply below_drew1) | exact HB.out)) hb); clear HO_1; clear HO444; clear HO450; clear HB; have HO_1 := n0_; have HO444 := n1_; have HO450 := n2_; have HO454 := n3_; have HB := n4_; clear n0_ n1_ n2_ n3_ n4_; (try clear hb); (try clear hb2); (try clear hk); (try clear hi); (try clear ho0)) | ((with_reducible refine gate_callee (f := 53) rfl ?_); refine goesL_ (some 154) rfl rfl Try.func53 (by kernel_rfl) rfl #[.slice Ao8 t387.length co8, .int .i64 1, .int .i64 2] rfl (by (try simp only [List.map_toArray, List.map_cons, List.map_nil]); first | done | rfl | (simp only [List.length_drop, List.length_take]; rfl)) ?_; (with_reducible refine (topo_Move.calls kj21 _ _ t387 1 2 t455 t456 _ ?side1 ?side2 A95.out).mono ?_); (case side1 => repeat (first | exact (Kd.R_reads' HO_1.out).2.2 | (with_reducible refine Kd.C_alloc ?_ _) | (with_reducible refine Kd.C_drewN ?_ _) | (with_reducible refine Kd.C_drew ?_))); (case side2 => exact (Kd.R_reads' HO_1.out).2.1); rintro e w110 ⟨v457, rfl, ho0, hb⟩; refine ⟨_, rfl, ?_⟩; have n0_ := Aside0.mk (Kd.R_elder' (by (with_reducible repeat (first | apply Kd.R_alloc | apply Kd.R_drewN | apply Kd.R_drew)); exact HO_1.out) (Kd.R_base ho0) hb); have n1_ := Aside0.mk (Kd.R_elder' (by (with_reducible repeat (first | apply Kd.R_alloc | apply Kd.R_drewN | apply Kd.R_drew)); exact HO444.out) (Kd.R_base ho0) hb); have n2_ := Aside0.mk (Kd.R_elder' (by (with_reducible repeat (first | apply Kd.R_alloc | apply Kd.R_drewN | apply Kd.R_drew)); exact HO450.out) (Kd.R_base ho0) hb); have n3_ := Aside0.mk (Kd.R_elder' (by (with_reducible repeat (first | apply Kd.R_alloc | apply Kd.R_drewN | apply Kd.R_drew)); exact HO454.out) (Kd.R_base ho0) hb); have n4_ := Aside0.mk (Kd.R_lower (Kd.R_new' (Kd.R_new' (Kd.R_new' (Kd.R_new' ho0 (Kd.R_lt (by (with_reducible repeat (first | apply Kd.R_alloc | apply Kd.R_drewN | apply Kd.R_drew)); exact HO_1.out))) (Kd.R_lt (by (with_reducible repeat (first | apply Kd.R_alloc | apply Kd.R_drewN | apply Kd.R_drew)); exact HO444.out))) (Kd.R_lt (by (with_reducible repeat (first | apply Kd.R_alloc | apply Kd.R_drewN | apply Kd.R_drew)); exact HO450.out))) (Kd.R_lt (by (with_reducible repeat (first | apply Kd.R_alloc | apply Kd.R_drewN | apply Kd.R_drew)); exact HO454.out))) (below_size (by repeat (first | (with_reducible first | exact HB.out | apply below_alloc | apply pw_below_drewN | apply below_drew1) | exact HB.out)))); have n5_ := Aside0.mk (below_step (by repeat (first | (with_reducible first | exact HB.out | apply below_alloc | apply pw_below_drewN | apply below_drew1) | exact HB.out)) hb); clear HO_1; clear HO444; clear HO450; clear HO454; clear HB; have HO_1 := n0_; have HO444 := n1_; have HO450 := n2_; have HO454 := n3_; have HO458 := n4_; have HB := n5_; clear n0_ n1_ n2_ n3_ n4_ n5_; (try clear hb); (try clear hb2); (try clear hk); (try clear hi); (try clear ho0); obtain ⟨Ao111, co111, eo111⟩ := Kd.R_slice HO444.out; subst eo111) | ((with_reducible refine gate_callee (f := 53) rfl ?_); refine goesL_ (some 159) rfl rfl Try.func53 (by kernel_rfl) rfl #[.slice Ao111 t442.length co111, .int .i64 2, .int .i64 5] rfl (by (try simp only [List.map_toArray, List.map_cons, List.map_nil]); first | done | rfl | (simp only [List.length_drop, List.length_take]; rfl)) ?_; (with_reducible refine (topo_Move.calls kj21 _ _ t442 2 5 t459 t460 _ ?side1 ?side2 A96.out).mono ?_); (case side1 => repeat (first | exact (Kd.R_reads' HO444.out).2.2 | (with_reducible refine Kd.C_alloc ?_ _) | (with_reducible refine Kd.C_drewN ?_ _) | (with_reducible refine Kd.C_drew ?_))); (case side2 => exact (Kd.R_reads' HO444.out).2.1); rintro e w112 ⟨v461, rfl, ho0, hb⟩; refine ⟨_, rfl, ?_⟩; have n0_ := Aside0.mk (Kd.R_elder' (by (with_reducible repeat (first | apply Kd.R_alloc | apply Kd.R_drewN | apply Kd.R_drew)); exact HO_1.out) (Kd.R_base ho0) hb); have n1_ := Aside0.mk (Kd.R_elder' (by (with_reducible repeat (first | apply Kd.R_alloc | apply Kd.R_drewN | apply Kd.R_drew)); exact HO444.out) (Kd.R_base ho0) hb); have n2_ := Aside0.mk (Kd.R_elder' (by (with_reducible repeat (first | apply Kd.R_alloc | apply Kd.R_drewN | apply Kd.R_drew)); exact HO450.out) (Kd.R_base ho0) hb); have n3_ := Aside0.mk (Kd.R_elder' (by (with_reducible repeat (first | apply Kd.R_alloc | apply Kd.R_drewN | apply Kd.R_drew)); exact HO454.out) (Kd.R_base ho0) hb); have n4_ := Aside0.mk (Kd.R_elder' (by (with_reducible repeat (first | apply Kd.R_alloc | apply Kd.R_drewN | apply Kd.R_drew)); exact HO458.out) (Kd.R_base ho0) hb); have n5_ := Aside0.mk (Kd.R_lower (Kd.R_new' (Kd.R_new' (Kd.R_new' (Kd.R_new' (Kd.R_new' ho0 (Kd.R_lt (by (with_reducible repeat (first | apply Kd.R_alloc | apply Kd.R_drewN | apply Kd.R_drew)); exact HO_1.out))) (Kd.R_lt (by (with_reducible repeat (first | apply Kd.R_alloc | apply Kd.R_drewN | apply Kd.R_drew)); exact HO444.out))) (Kd.R_lt (by (with_reducible repeat (first | apply Kd.R_alloc | apply Kd.R_drewN | apply Kd.R_drew)); exact HO450.out))) (Kd.R_lt (by (with_reducible repeat (first | apply Kd.R_alloc | apply Kd.R_drewN | apply Kd.R_drew)); exact HO454.out))) (Kd.R_lt (by (with_reducible repeat (first | apply Kd.R_alloc | apply Kd.R_drewN | apply Kd.R_drew)); exact HO458.out))) (below_size (by repeat (first | (with_reducible first | exact HB.out | apply below_alloc | apply pw_below_drewN | apply below_drew1) | exact HB.out)))); have n6_ := Aside0.mk (below_step (by repeat (first | (with_reducible first | exact HB.out | apply below_alloc | apply pw_below_drewN | apply below_drew1) | exact HB.out)) hb); clear HO_1; clear HO444; clear HO450; clear HO454; clear HO458; clear HB; have HO_1 := n0_; have HO444 := n1_; have HO450 := n2_; have HO454 := n3_; have HO458 := n4_; have HO462 := n5_; have HB := n6_; clear n0_ n1_ n2_ n3_ n4_ n5_ n6_; (try clear hb); (try clear hb2); (try clear hk); (try clear hi); (try clear ho0)) | ((with_reducible refine gate_callee (f := 38) rfl ?_); refine goesL_ (some 162) rfl rfl Try.func38 (by kernel_rfl) rfl #[] rfl (by (try simp only [List.map_toArray, List.map_cons, List.map_nil]); first | done | rfl | (simp only [List.length_drop, List.length_take]; rfl)) ?_; (with_reducible refine (tributarylaw27_awake.calls kj21  true _ A97.out).mono ?_); rintro e w113 ⟨rfl, hb⟩; refine ⟨_, rfl, ?_⟩; have n0_ := Aside0.mk (Kd.R_below (by (with_reducible repeat (first | apply Kd.R_alloc | apply Kd.R_drewN | apply Kd.R_drew)); exact HO_1.out) hb); have n1_ := Aside0.mk (Kd.R_below (by (with_reducible repeat (first | apply Kd.R_alloc | apply Kd.R_drewN | apply Kd.R_drew)); exact HO444.out) hb); have n2_ := Aside0.mk (Kd.R_below (by (with_reducible repeat (first | apply Kd.R_alloc | apply Kd.R_drewN | apply Kd.R_drew)); exact HO450.out) hb); have n3_ := Aside0.mk (Kd.R_below (by (with_reducible repeat (first | apply Kd.R_alloc | apply Kd.R_drewN | apply Kd.R_drew)); exact HO454.out) hb); have n4_ := Aside0.mk (Kd.R_below (by (with_reducible repeat (first | apply Kd.R_alloc | apply Kd.R_drewN | apply Kd.R_drew)); exact HO458.out) hb); have n5_ := Aside0.mk (Kd.R_below (by (with_reducible repeat (first | apply Kd.R_alloc | apply Kd.R_drewN | apply Kd.R_drew)); exact HO462.out) hb); have n6_ := Aside0.mk (below_step (by repeat (first | (with_reducible first | exact HB.out | apply below_alloc | apply pw_below_drewN | apply below_drew1) | exact HB.out)) hb); clear HO_1; clear HO444; clear HO450; clear HO454; clear HO458; clear HO462; clear HB; have HO_1 := n0_; have HO444 := n1_; have HO450 := n2_; have HO454 := n3_; have HO458 := n4_; have HO462 := n5_; have HB := n6_; clear n0_ n1_ n2_ n3_ n4_ n5_ n6_; (try clear hb); (try clear hb2); (try clear hk); (try clear hi)) | (go_at_call 55; (refine (topo_Check.calls kj21 _ _ ([] : List (S109)) t464 _ ?side1 ?side2 A106.out).mono ?_); (case side1 => exact Kd.C_nil _ _); (case side2 => exact Nat.le_refl _); rintro e w114 ⟨rfl, hb⟩; have n0_ := Aside0.mk (Kd.R_below (by (with_reducible repeat (first | apply Kd.R_alloc | apply Kd.R_drewN | apply Kd.R_drew)); exact HO_1.out) hb); have n1_ := Aside0.mk (Kd.R_below (by (with_reducible repeat (first | apply Kd.R_alloc | apply Kd.R_drewN | apply Kd.R_drew)); exact HO444.out) hb); have n2_ := Aside0.mk (Kd.R_below (by (with_reducible repeat (first | apply Kd.R_alloc | apply Kd.R_drewN | apply Kd.R_drew)); exact HO450.out) hb); have n3_ := Aside0.mk (Kd.R_below (by (with_reducible repeat (first | apply Kd.R_alloc | apply Kd.R_drewN | apply Kd.R_drew)); exact HO454.out) hb); have n4_ := Aside0.mk (Kd.R_below (by (with_reducible repeat (first | apply Kd.R_alloc | apply Kd.R_drewN | apply Kd.R_drew)); exact HO458.out) hb); have n5_ := Aside0.mk (Kd.R_below (by (with_reducible repeat (first | apply Kd.R_alloc | apply Kd.R_drewN | apply Kd.R_drew)); exact HO462.out) hb); have n6_ := Aside0.mk (below_step (by repeat (first | (with_reducible first | exact HB.out | apply below_alloc | apply pw_below_drewN | apply below_drew1) | exact HB.out)) hb); clear HO_1; clear HO444; clear HO450; clear HO454; clear HO458; clear HO462; clear HB; have HO_1 := n0_; have HO444 := n1_; have HO450 := n2_; have HO454 := n3_; have HO458 := n4_; have HO462 := n5_; have HB := n6_; clear n0_ n1_ n2_ n3_ n4_ n5_ n6_; (try clear hb); (try clear hb2); (try clear hk); (try clear hi)))
             go_ret
             exact ⟨by first | rfl | (simp [errW_none, errW_some] <;> rfl) | (simp [*, errW_none, errW_some] <;> rfl), by repeat (first | (with_reducible first | exact HB.out | apply below_alloc | apply pw_below_drewN | apply below_drew1) | exact HB.out)⟩
            ·
             rw [if_neg c105] at H; exact absurd (H.trans (congrArg some HR.out)) (by first | (intro h; cases h; done) | exact tributarylaw27_TopoKnown.j0_f1 _ _ | exact tributarylaw27_TopoKnown.j1_f1 _ _ _ | exact tributarylaw27_TopoKnown.j1_f2 _ _ _)
           ·
            rw [if_neg c104] at H; exact absurd (H.trans (congrArg some HR.out)) (by first | (intro h; cases h; done) | exact tributarylaw27_TopoKnown.j0_f1 _ _ | exact tributarylaw27_TopoKnown.j1_f1 _ _ _ | exact tributarylaw27_TopoKnown.j1_f2 _ _ _)
          ·
           rw [if_neg c103] at H; exact absurd (H.trans (congrArg some HR.out)) (by first | (intro h; cases h; done) | exact tributarylaw27_TopoKnown.j0_f1 _ _ | exact tributarylaw27_TopoKnown.j1_f1 _ _ _ | exact tributarylaw27_TopoKnown.j1_f2 _ _ _)
         ·
          rw [if_neg c102] at H; exact absurd (H.trans (congrArg some HR.out)) (by first | (intro h; cases h; done) | exact tributarylaw27_TopoKnown.j0_f1 _ _ | exact tributarylaw27_TopoKnown.j1_f1 _ _ _ | exact tributarylaw27_TopoKnown.j1_f2 _ _ _)
        ·
         rw [if_neg c101] at H; exact absurd (H.trans (congrArg some HR.out)) (by first | (intro h; cases h; done) | exact tributarylaw27_TopoKnown.j0_f1 _ _ | exact tributarylaw27_TopoKnown.j1_f1 _ _ _ | exact tributarylaw27_TopoKnown.j1_f2 _ _ _)
       ·
        rw [if_neg c100] at H; exact absurd (H.trans (congrArg some HR.out)) (by first | (intro h; cases h; done) | exact tributarylaw27_TopoKnown.j0_f1 _ _ | exact tributarylaw27_TopoKnown.j1_f1 _ _ _ | exact tributarylaw27_TopoKnown.j1_f2 _ _ _)
      ·
       rw [if_neg c99] at H; exact absurd (H.trans (congrArg some HR.out)) (by first | (intro h; cases h; done) | exact tributarylaw27_TopoKnown.j0_f1 _ _ | exact tributarylaw27_TopoKnown.j1_f1 _ _ _ | exact tributarylaw27_TopoKnown.j1_f2 _ _ _)
     ·
      rw [if_neg c98] at H; exact absurd (H.trans (congrArg some HR.out)) (by first | (intro h; cases h; done) | exact tributarylaw27_TopoKnown.j0_f1 _ _ | exact tributarylaw27_TopoKnown.j1_f1 _ _ _ | exact tributarylaw27_TopoKnown.j1_f2 _ _ _)
theorem known : ∃ k, tributarylaw27_TopoKnown.f k = some true := Ev.rounds (Ev.of (k := 40) tributarylaw27_TopoKnown.mono (by decide +kernel))

end Go.Proofs.YtadcahnoghnkcaaX.P27
