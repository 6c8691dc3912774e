/- Functions and their contracts, written by a program out of the translation's print. No conditions beyond those named. -/
import Derived.Test.YtadcahnoghnkcaaP27x0
import Derived.Test.YtadcahnoghnkcaaP27M2
import Derived.Test.YtadcahnoghnkcaaP27M3
import Derived.Test.YtadcahnoghnkcaaP27M4
import Derived.Test.YtadcahnoghnkcaaP27M5
import Derived.Test.YtadcahnoghnkcaaP27M7
namespace Go.Proofs.YtadcahnoghnkcaaX.P27
open Go.RowKit Go.Proofs.YtadcahnoghnkcaaW.PrintWords Go.Proofs.YtadcahnoghnkcaaW.PrintLast Go.Proofs.YtadcahnoghnkcaaW.PrintMore
attribute [local go_sem] max2_int min2_int max_two min_two max_three min_three max_four min_four   -- for this text's walks alone
set_option linter.unusedVariables false
set_option linter.unusedSimpArgs false

/-! ### tributarylaw27_TopoLoops: function 13 -/
mutual
def tributarylaw27_TopoLoops.l0 : Nat → List (S107) → Int → Int → Bool → List (S109) → Int → Option (Bool)
  | 0, _, _, _, _, _, _ => none
  | k + 1, x0, x1, x2, x7, x8, x9 => if x9 < (x0.length : Int) then (if 0 ≤ x9 then ((tributarylaw27_does.f k x8 ((rd_T107 x0 x9).f0) ((rd_T107 x0 x9).f1) ((rd_T107 x0 x9).f2) ((rd_T107 x0 x9).f3)).bind fun bt495 => (tributarylaw27_TopoLoops.l0 k x0 x1 x2 x7 bt495.1 (wrap64 (x9 + 1)))) else (none)) else ((tributarykit_Pick.f x1 (x8.length : Int)).bind fun t499 => ((tributarykit_Pick.f x2 (x8.length : Int)).bind fun t500 => ((topo_Move.f k x8 (wrap64 (1 + t499)) (wrap64 (1 + t500))).bind fun bt501 => ((topo_Way.f k x8 (wrap64 (1 + t500))).bind fun bt505 => (if bt505.2 = 0 then (if (wrap64 (1 + t499)) = 1 then (tributarylaw27_TopoLoops.j1 k (wrap64 (1 + t499)) x7 x8 bt501.1 bt501.2 false) else (if 0 ≤ (wrap64 ((wrap64 (1 + t499)) - 1)) then (if (wrap64 ((wrap64 (1 + t499)) - 1)) < (x8.length : Int) then (if ((rd_T109 x8 (wrap64 ((wrap64 (1 + t499)) - 1))).f2 = true) then (tributarylaw27_TopoLoops.j1 k (wrap64 (1 + t499)) x7 x8 bt501.1 bt501.2 false) else (if 0 ≤ (wrap64 ((wrap64 (1 + t500)) - 1)) then (if (wrap64 ((wrap64 (1 + t500)) - 1)) < (x8.length : Int) then (if ((rd_T109 x8 (wrap64 ((wrap64 (1 + t500)) - 1))).f2 = true) then (tributarylaw27_TopoLoops.j1 k (wrap64 (1 + t499)) x7 x8 bt501.1 bt501.2 false) else (if ((rd_T109 x8 (wrap64 ((wrap64 (1 + t500)) - 1))).f0) = 3 then (tributarylaw27_TopoLoops.j1 k (wrap64 (1 + t499)) x7 x8 bt501.1 bt501.2 false) else ((tributarylaw27_has.f k bt505.1 (wrap64 (1 + t499))).bind fun t512 => (tributarylaw27_TopoLoops.j1 k (wrap64 (1 + t499)) x7 x8 bt501.1 bt501.2 (!t512))))) else (none)) else (none))) else (none)) else (none))) else (some false))))))
def tributarylaw27_TopoLoops.j1 : Nat → Int → Bool → List (S109) → List (S109) → Int → Bool → Option (Bool)
  | 0, _, _, _, _, _, _ => none
  | k + 1, x1, x7, x8, x12, x13, x16 => if ((x13 == 0) != x16) = true then (some false) else (if x16 = true then (if 0 ≤ (wrap64 (x1 - 1)) then (if (wrap64 (x1 - 1)) < (x8.length : Int) then ((topo_Move.f k x12 x1 ((rd_T109 x8 (wrap64 (x1 - 1))).f1)).bind fun bt514 => (if 0 ≤ (wrap64 (((rd_T109 x8 (wrap64 (x1 - 1))).f1) - 1)) then (if (wrap64 (((rd_T109 x8 (wrap64 (x1 - 1))).f1) - 1)) < (x8.length : Int) then (if (rd_T109 x8 (wrap64 (((rd_T109 x8 (wrap64 (x1 - 1))).f1) - 1))).f2 = true then (if x7 = true then (some (bt514.2 == 14)) else (some false)) else (if x7 = true then (if bt514.2 = 0 then ((tributarykit_SameMembers.f k bt514.1 x8).bind fun t520 => (if t520 = true then ((topo_Check.f k x12).bind fun t521 => (some (t521 == 0))) else (some false))) else (some false)) else (some false))) else (none)) else (none))) else (none)) else (none)) else (if x7 = true then (some ((x12.length : Int) == 0)) else (some false)))
end
def tributarylaw27_TopoLoops.f (k : Nat) (l0 : List (S107)) (a1 : Int) (a2 : Int) : Option (Bool) := (tributarylaw27_awake.f k).bind fun t490 => (if (l0.length : Int) > 60 then (some t490) else ((topo_New.f).bind fun t491 => (tributarylaw27_TopoLoops.l0 k l0 a1 a2 t490 t491 0)))
theorem tributarylaw27_TopoLoops.mono_l : ∀ k, (∀ y0 y1 y2 y3 y4 y5, LeO (tributarylaw27_TopoLoops.l0 k y0 y1 y2 y3 y4 y5) (tributarylaw27_TopoLoops.l0 (k + 1) y0 y1 y2 y3 y4 y5)) ∧ (∀ y0 y1 y2 y3 y4 y5, LeO (tributarylaw27_TopoLoops.j1 k y0 y1 y2 y3 y4 y5) (tributarylaw27_TopoLoops.j1 (k + 1) y0 y1 y2 y3 y4 y5))
  | 0 => ⟨fun _ _ _ _ _ _ r h => by simp [tributarylaw27_TopoLoops.l0] at h, fun _ _ _ _ _ _ r h => by simp [tributarylaw27_TopoLoops.j1] at h⟩
  | k + 1 => by
    obtain ⟨ih0, ih1⟩ := tributarylaw27_TopoLoops.mono_l k
    refine ⟨?_, ?_⟩
    · intro y0 y1 y2 y3 y4 y5
      unfold tributarylaw27_TopoLoops.l0
      repeat' first
      | (with_reducible exact ih0 _ _ _ _ _ _)
      | (with_reducible exact ih1 _ _ _ _ _ _)
      | (with_reducible exact topo_Check.mono _ _)
      | (with_reducible exact topo_Move.mono _ _ _ _)
      | (with_reducible exact topo_Way.mono _ _ _)
      | (with_reducible exact tributarykit_SameMembers.mono _ _ _)
      | (with_reducible exact tributarylaw27_awake.mono _)
      | (with_reducible exact tributarylaw27_does.mono _ _ _ _ _ _)
      | (with_reducible exact tributarylaw27_has.mono _ _ _)
      | (with_reducible exact LeO.refl _)
      | (with_reducible exact LeO.none _)
      | (with_reducible refine LeO.ite ?_ ?_)
      | (with_reducible refine LeO.bind ?_ (fun _ => ?_))
      | exact ih0 _ _ _ _ _ _
      | exact ih1 _ _ _ _ _ _
      | exact topo_Check.mono _ _
      | exact topo_Move.mono _ _ _ _
      | exact topo_Way.mono _ _ _
      | exact tributarykit_SameMembers.mono _ _ _
      | exact tributarylaw27_awake.mono _
      | exact tributarylaw27_does.mono _ _ _ _ _ _
      | exact tributarylaw27_has.mono _ _ _
      | exact LeO.none _
      | refine LeO.ite ?_ ?_
      | refine LeO.bind ?_ (fun _ => ?_)
    · intro y0 y1 y2 y3 y4 y5
      unfold tributarylaw27_TopoLoops.j1
      repeat' first
      | (with_reducible exact ih0 _ _ _ _ _ _)
      | (with_reducible exact ih1 _ _ _ _ _ _)
      | (with_reducible exact topo_Check.mono _ _)
      | (with_reducible exact topo_Move.mono _ _ _ _)
      | (with_reducible exact topo_Way.mono _ _ _)
      | (with_reducible exact tributarykit_SameMembers.mono _ _ _)
      | (with_reducible exact tributarylaw27_awake.mono _)
      | (with_reducible exact tributarylaw27_does.mono _ _ _ _ _ _)
      | (with_reducible exact tributarylaw27_has.mono _ _ _)
      | (with_reducible exact LeO.refl _)
      | (with_reducible exact LeO.none _)
      | (with_reducible refine LeO.ite ?_ ?_)
      | (with_reducible refine LeO.bind ?_ (fun _ => ?_))
      | exact ih0 _ _ _ _ _ _
      | exact ih1 _ _ _ _ _ _
      | exact topo_Check.mono _ _
      | exact topo_Move.mono _ _ _ _
      | exact topo_Way.mono _ _ _
      | exact tributarykit_SameMembers.mono _ _ _
      | exact tributarylaw27_awake.mono _
      | exact tributarylaw27_does.mono _ _ _ _ _ _
      | exact tributarylaw27_has.mono _ _ _
      | exact LeO.none _
      | refine LeO.ite ?_ ?_
      | refine LeO.bind ?_ (fun _ => ?_)
theorem tributarylaw27_TopoLoops.mono : ∀ a0 a1 a2 k, LeO (tributarylaw27_TopoLoops.f k a0 a1 a2) (tributarylaw27_TopoLoops.f (k + 1) a0 a1 a2) := by
  intro a0 a1 a2 k
  obtain ⟨ih0, ih1⟩ := tributarylaw27_TopoLoops.mono_l k
  unfold tributarylaw27_TopoLoops.f
  repeat' first
      | (with_reducible exact ih0 _ _ _ _ _ _)
      | (with_reducible exact ih1 _ _ _ _ _ _)
      | (with_reducible exact topo_Check.mono _ _)
      | (with_reducible exact topo_Move.mono _ _ _ _)
      | (with_reducible exact topo_Way.mono _ _ _)
      | (with_reducible exact tributarykit_SameMembers.mono _ _ _)
      | (with_reducible exact tributarylaw27_awake.mono _)
      | (with_reducible exact tributarylaw27_does.mono _ _ _ _ _ _)
      | (with_reducible exact tributarylaw27_has.mono _ _ _)
      | (with_reducible exact LeO.refl _)
      | (with_reducible exact LeO.none _)
      | (with_reducible refine LeO.ite ?_ ?_)
      | (with_reducible refine LeO.bind ?_ (fun _ => ?_))
      | exact ih0 _ _ _ _ _ _
      | exact ih1 _ _ _ _ _ _
      | exact topo_Check.mono _ _
      | exact topo_Move.mono _ _ _ _
      | exact topo_Way.mono _ _ _
      | exact tributarykit_SameMembers.mono _ _ _
      | exact tributarylaw27_awake.mono _
      | exact tributarylaw27_does.mono _ _ _ _ _ _
      | exact tributarylaw27_has.mono _ _ _
      | exact LeO.none _
      | refine LeO.ite ?_ ?_
      | refine LeO.bind ?_ (fun _ => ?_)
set_option maxHeartbeats 8000000 in
set_option maxRecDepth 100000 in
theorem tributarylaw27_TopoLoops.calls (k : Nat) (A0 : Option Addr) (c0 : Nat) (l0 : List (S107)) (a1 : Int) (a2 : Int) (r : Bool) (w : World) (hr0 : Kd.C k107 w A0 l0.length l0) (hc0 : l0.length ≤ c0) (h : tributarylaw27_TopoLoops.f k l0 a1 a2 = some r) :
    Calls Try.prog 13 #[.slice A0 l0.length c0, .int .i64 a1, .int .i64 a2] w fun e w' => e = .returned (.bool r) ∧ Below w.heap.size w w' := by
  have hu107 := Try.underlying107
  have HR0 := Aside0.mk hr0
  have HC0 := Aside0.mk hc0
  clear hr0 hc0
  have HB := Aside0.mk (Below.refl w.heap.size w)
  have H : ((tributarylaw27_awake.f k).bind fun t490 => (if (l0.length : Int) > 60 then (some t490) else ((topo_New.f).bind fun t491 => (tributarylaw27_TopoLoops.l0 k l0 a1 a2 t490 t491 0)))) = some r := h
  clear h
  replace H := Option.bind_eq_some_iff.mp H
  obtain ⟨t490, A40, H⟩ := H
  replace H : (if (l0.length : Int) > 60 then (some t490) else ((topo_New.f).bind fun t491 => (tributarylaw27_TopoLoops.l0 k l0 a1 a2 t490 t491 0))) = some r := H
  have A4 := Aside0.mk A40
  clear A40
  by_cases c5 : (l0.length : Int) > 60
  · rw [if_pos c5] at H
    have c5b0 : decide (60 < (l0.length : Int)) = true := decide_eq_true c5
    have c5b1 : decide (60 < l0.length) = true := decide_eq_true (by omega)
    clear c5
    obtain rfl := Option.some.inj H
    go_enter Try.func13, Try.ntmps13
    go_wp2_with (first | ((with_reducible refine gate_callee (f := 38) rfl ?_); refine goesL_ (some 19) rfl rfl Try.func38 (by kernel_rfl) rfl #[] rfl (by (try simp only [List.map_toArray, List.map_cons, List.map_nil]); first | done | rfl | (simp only [List.length_drop, List.length_take]; rfl)) ?_; (with_reducible refine (tributarylaw27_awake.calls k  t490 _ A4.out).mono ?_); rintro e w6 ⟨rfl, hb⟩; refine ⟨_, rfl, ?_⟩; have n0_ := Aside0.mk (below_step (by repeat (first | (with_reducible first | exact HB.out | apply below_alloc | apply pw_below_drewN | apply below_drew1) | exact HB.out)) hb); clear HB; have HB := n0_; clear n0_; (try clear hb); (try clear hb2); (try clear hk); (try clear hi)))
    go_ret
    exact ⟨by first | rfl | (simp [errW_none, errW_some] <;> rfl) | (simp [*, errW_none, errW_some] <;> rfl), by repeat (first | (with_reducible first | exact HB.out | apply below_alloc | apply pw_below_drewN | apply below_drew1) | exact HB.out)⟩
  · rw [if_neg c5] at H
    have c5b0 : decide (60 < (l0.length : Int)) = false := decide_eq_false c5
    have c5b1 : decide (60 < l0.length) = false := decide_eq_false (by omega)
    clear c5
    replace H := Option.bind_eq_some_iff.mp H
    obtain ⟨t491, A70, H⟩ := H
    replace H : (tributarylaw27_TopoLoops.l0 k l0 a1 a2 t490 t491 0) = some r := H
    have A7 := Aside0.mk A70
    clear A70
    have H' := Aside0.mk H
    clear H
    go_enter Try.func13, Try.ntmps13
    go_wp2_with (first | ((with_reducible refine gate_callee (f := 38) rfl ?_); refine goesL_ (some 19) rfl rfl Try.func38 (by kernel_rfl) rfl #[] rfl (by (try simp only [List.map_toArray, List.map_cons, List.map_nil]); first | done | rfl | (simp only [List.length_drop, List.length_take]; rfl)) ?_; (with_reducible refine (tributarylaw27_awake.calls k  t490 _ A4.out).mono ?_); rintro e w8 ⟨rfl, hb⟩; refine ⟨_, rfl, ?_⟩; have n0_ := Aside0.mk (below_step (by repeat (first | (with_reducible first | exact HB.out | apply below_alloc | apply pw_below_drewN | apply below_drew1) | exact HB.out)) hb); clear HB; have HB := n0_; clear n0_; (try clear hb); (try clear hb2); (try clear hk); (try clear hi)) | ((with_reducible refine gate_callee (f := 58) rfl ?_); refine goesL_ (some 24) rfl rfl Try.func58 (by kernel_rfl) rfl #[] rfl (by (try simp only [List.map_toArray, List.map_cons, List.map_nil]); first | done | rfl | (simp only [List.length_drop, List.length_take]; rfl)) ?_; (with_reducible refine (topo_New.calls  t491 _ A7.out).mono ?_); rintro e w9 ⟨v492, rfl, ho0, hb⟩; refine ⟨_, rfl, ?_⟩; have n0_ := Aside0.mk (Kd.R_lower ho0 (below_size (by repeat (first | (with_reducible first | exact HB.out | apply below_alloc | apply pw_below_drewN | apply below_drew1) | exact HB.out)))); have n1_ := Aside0.mk (below_step (by repeat (first | (with_reducible first | exact HB.out | apply below_alloc | apply pw_below_drewN | apply below_drew1) | exact HB.out)) hb); clear HB; have HO493 := n0_; have HB := n1_; clear n0_ n1_; (try clear hb); (try clear hb2); (try clear hk); (try clear hi); (try clear ho0)))
    go_loopg [8, 9] k (fun kq v8 v9 w' => ∃ (x8_1 : List (S109)) (x9_1 : Int), v9 = .int .i64 x9_1 ∧ Aside0 (tributarylaw27_TopoLoops.l0 kq l0 a1 a2 t490 x8_1 x9_1 = some r) ∧ Aside0 (kq ≤ k) ∧ Aside0 (Kd.R k109 109 w' w.heap.size (fun _ => True) v8 x8_1) ∧ Aside0 (Below w.heap.size w w'))
    case atStart => exact ⟨(t491), (0), (by first | rfl | (simp; done) | (simp [*]; done)), H', ⟨Nat.le_refl _⟩, ⟨by (with_reducible repeat (first | apply Kd.R_alloc | apply Kd.R_drewN | apply Kd.R_drew)); exact HO493.out⟩, ⟨by repeat (first | (with_reducible first | exact HB.out | apply below_alloc | apply pw_below_drewN | apply below_drew1) | exact HB.out)⟩⟩
    case round =>
      clear H'
      try clear c1
      try clear p2
      try clear c3
      try clear c5
      try clear c5b0
      try clear c5b1
      obtain ⟨x8_1, x9_1, rfl, HA, HK1, HO_8, HB⟩ := hrel
      cases gk with
      | zero => exact absurd HA.out (by simp [tributarylaw27_TopoLoops.l0])
      | succ k1 =>
        have H := HA.out
        clear HA
        simp only [tributarylaw27_TopoLoops.l0] at H
        by_cases c10 : x9_1 < (l0.length : Int)
        · rw [if_pos c10] at H
          have c10b0 : decide (x9_1 < (l0.length : Int)) = true := decide_eq_true c10
          clear c10
          by_cases c11 : 0 ≤ x9_1
          · rw [if_pos c11] at H
            have c11b0 : decide (0 ≤ x9_1) = true := decide_eq_true c11
            clear c11
            replace H := Option.bind_eq_some_iff.mp H
            obtain ⟨⟨t495, t498⟩, A120, H⟩ := H
            replace H : (tributarylaw27_TopoLoops.l0 k1 l0 a1 a2 t490 t495 (wrap64 (x9_1 + 1))) = some r := H
            have A12 := Aside0.mk A120
            clear A120
            have H' := Aside0.mk H
            clear H
            have p494 : 0 ≤ (x9_1 : Int) := of_decide_eq_true (by first | (with_reducible assumption) | assumption)
            have q494 : x9_1 < (l0.length : Int) := of_decide_eq_true (by first | (with_reducible assumption) | assumption)
            obtain ⟨ad494, e494, hx494_0, hx494_1, hx494_2, hx494_3⟩ := at_T107 HR0.out x9_1 p494 q494
            cases e494
            replace hx494_0 := (HB.out.cell (World.block_lt_of_cell? w _ hx494_0)).trans hx494_0
            replace hx494_1 := (HB.out.cell (World.block_lt_of_cell? w _ hx494_1)).trans hx494_1
            replace hx494_2 := (HB.out.cell (World.block_lt_of_cell? w _ hx494_2)).trans hx494_2
            replace hx494_3 := (HB.out.cell (World.block_lt_of_cell? w _ hx494_3)).trans hx494_3
            replace p494 := eq_true p494
            replace q494 := eq_true q494
            obtain ⟨Ao13, co13, eo13⟩ := Kd.R_slice HO_8.out
            subst eo13
            go_wp2_with (first | ((with_reducible refine gate_callee (f := 61) rfl ?_); refine goesL_ (some 37) rfl rfl Try.func61 (by kernel_rfl) rfl #[.slice Ao13 x8_1.length co13, .agg #[.int .i64 ((rd_T107 l0 x9_1).f0), .int .i64 ((rd_T107 l0 x9_1).f1), .int .i64 ((rd_T107 l0 x9_1).f2), .int .i64 ((rd_T107 l0 x9_1).f3)]] rfl (by (try simp only [List.map_toArray, List.map_cons, List.map_nil]); first | done | rfl | (simp only [List.length_drop, List.length_take]; rfl)) ?_; (with_reducible refine (tributarylaw27_does.calls k1 (fun k_ => some k_ = (.slice Ao13 x8_1.length co13 : Value).ownBlock) (.slice Ao13 x8_1.length co13) x8_1 ((rd_T107 l0 x9_1).f0) ((rd_T107 l0 x9_1).f1) ((rd_T107 l0 x9_1).f2) ((rd_T107 l0 x9_1).f3) t495 t498 w _ ?side1 ?side2 A12.out).mono ?_); (case side1 => repeat (first | (with_reducible first | exact HB.out | apply below_alloc | apply pw_below_drewN | apply below_drew1) | exact HB.out)); (case side2 => exact Kd.R_tight rfl HO_8.out); rintro e w14 ⟨v496, rfl, ho0, hb, hkp⟩; refine ⟨_, rfl, ?_⟩; have n0_ := Aside0.mk (Kd.R_mono (ok' := fun k_ => True) ho0 (fun k_ hk_ => trivial)); have n1_ := Aside0.mk (hb); clear HB; clear HO_8; have HO497 := n0_; have HB := n1_; clear n0_ n1_; (try clear hb); (try clear hkp); (try clear ho0)))
            go_roundg k1
            case measure => have := HK1.out; omega
            case rel => exact ⟨(t495), (wrap64 (x9_1 + 1)), (by first | rfl | (simp; done) | (simp [*]; done)), H', ⟨by have := HK1.out; omega⟩, ⟨by (with_reducible repeat (first | apply Kd.R_alloc | apply Kd.R_drewN | apply Kd.R_drew)); exact HO497.out⟩, ⟨by repeat (first | (with_reducible first | exact HB.out | apply below_alloc | apply pw_below_drewN | apply below_drew1) | exact HB.out)⟩⟩
          · rw [if_neg c11] at H
            exact absurd H (by simp)
        · rw [if_neg c10] at H
          have c10b0 : decide (x9_1 < (l0.length : Int)) = false := decide_eq_false c10
          clear c10
          replace H := Option.bind_eq_some_iff.mp H
          obtain ⟨t499, A150, H⟩ := H
          replace H : ((tributarykit_Pick.f a2 (x8_1.length : Int)).bind fun t500 => ((topo_Move.f k1 x8_1 (wrap64 (1 + t499)) (wrap64 (1 + t500))).bind fun bt501 => ((topo_Way.f k1 x8_1 (wrap64 (1 + t500))).bind fun bt505 => (if bt505.2 = 0 then (if (wrap64 (1 + t499)) = 1 then (tributarylaw27_TopoLoops.j1 k1 (wrap64 (1 + t499)) t490 x8_1 bt501.1 bt501.2 false) else (if 0 ≤ (wrap64 ((wrap64 (1 + t499)) - 1)) then (if (wrap64 ((wrap64 (1 + t499)) - 1)) < (x8_1.length : Int) then (if ((rd_T109 x8_1 (wrap64 ((wrap64 (1 + t499)) - 1))).f2 = true) then (tributarylaw27_TopoLoops.j1 k1 (wrap64 (1 + t499)) t490 x8_1 bt501.1 bt501.2 false) else (if 0 ≤ (wrap64 ((wrap64 (1 + t500)) - 1)) then (if (wrap64 ((wrap64 (1 + t500)) - 1)) < (x8_1.length : Int) then (if ((rd_T109 x8_1 (wrap64 ((wrap64 (1 + t500)) - 1))).f2 = true) then (tributarylaw27_TopoLoops.j1 k1 (wrap64 (1 + t499)) t490 x8_1 bt501.1 bt501.2 false) else (if ((rd_T109 x8_1 (wrap64 ((wrap64 (1 + t500)) - 1))).f0) = 3 then (tributarylaw27_TopoLoops.j1 k1 (wrap64 (1 + t499)) t490 x8_1 bt501.1 bt501.2 false) else ((tributarylaw27_has.f k1 bt505.1 (wrap64 (1 + t499))).bind fun t512 => (tributarylaw27_TopoLoops.j1 k1 (wrap64 (1 + t499)) t490 x8_1 bt501.1 bt501.2 (!t512))))) else (none)) else (none))) else (none)) else (none))) else (some false))))) = some r := H
          have A15 := Aside0.mk A150
          clear A150
          replace H := Option.bind_eq_some_iff.mp H
          obtain ⟨t500, A160, H⟩ := H
          replace H : ((topo_Move.f k1 x8_1 (wrap64 (1 + t499)) (wrap64 (1 + t500))).bind fun bt501 => ((topo_Way.f k1 x8_1 (wrap64 (1 + t500))).bind fun bt505 => (if bt505.2 = 0 then (if (wrap64 (1 + t499)) = 1 then (tributarylaw27_TopoLoops.j1 k1 (wrap64 (1 + t499)) t490 x8_1 bt501.1 bt501.2 false) else (if 0 ≤ (wrap64 ((wrap64 (1 + t499)) - 1)) then (if (wrap64 ((wrap64 (1 + t499)) - 1)) < (x8_1.length : Int) then (if ((rd_T109 x8_1 (wrap64 ((wrap64 (1 + t499)) - 1))).f2 = true) then (tributarylaw27_TopoLoops.j1 k1 (wrap64 (1 + t499)) t490 x8_1 bt501.1 bt501.2 false) else (if 0 ≤ (wrap64 ((wrap64 (1 + t500)) - 1)) then (if (wrap64 ((wrap64 (1 + t500)) - 1)) < (x8_1.length : Int) then (if ((rd_T109 x8_1 (wrap64 ((wrap64 (1 + t500)) - 1))).f2 = true) then (tributarylaw27_TopoLoops.j1 k1 (wrap64 (1 + t499)) t490 x8_1 bt501.1 bt501.2 false) else (if ((rd_T109 x8_1 (wrap64 ((wrap64 (1 + t500)) - 1))).f0) = 3 then (tributarylaw27_TopoLoops.j1 k1 (wrap64 (1 + t499)) t490 x8_1 bt501.1 bt501.2 false) else ((tributarylaw27_has.f k1 bt505.1 (wrap64 (1 + t499))).bind fun t512 => (tributarylaw27_TopoLoops.j1 k1 (wrap64 (1 + t499)) t490 x8_1 bt501.1 bt501.2 (!t512))))) else (none)) else (none))) else (none)) else (none))) else (some false)))) = some r := H
          have A16 := Aside0.mk A160
          clear A160
          replace H := Option.bind_eq_some_iff.mp H
          obtain ⟨⟨t501, t502⟩, A170, H⟩ := H
          replace H : ((topo_Way.f k1 x8_1 (wrap64 (1 + t500))).bind fun bt505 => (if bt505.2 = 0 then (if (wrap64 (1 + t499)) = 1 then (tributarylaw27_TopoLoops.j1 k1 (wrap64 (1 + t499)) t490 x8_1 t501 t502 false) else (if 0 ≤ (wrap64 ((wrap64 (1 + t499)) - 1)) then (if (wrap64 ((wrap64 (1 + t499)) - 1)) < (x8_1.length : Int) then (if ((rd_T109 x8_1 (wrap64 ((wrap64 (1 + t499)) - 1))).f2 = true) then (tributarylaw27_TopoLoops.j1 k1 (wrap64 (1 + t499)) t490 x8_1 t501 t502 false) else (if 0 ≤ (wrap64 ((wrap64 (1 + t500)) - 1)) then (if (wrap64 ((wrap64 (1 + t500)) - 1)) < (x8_1.length : Int) then (if ((rd_T109 x8_1 (wrap64 ((wrap64 (1 + t500)) - 1))).f2 = true) then (tributarylaw27_TopoLoops.j1 k1 (wrap64 (1 + t499)) t490 x8_1 t501 t502 false) else (if ((rd_T109 x8_1 (wrap64 ((wrap64 (1 + t500)) - 1))).f0) = 3 then (tributarylaw27_TopoLoops.j1 k1 (wrap64 (1 + t499)) t490 x8_1 t501 t502 false) else ((tributarylaw27_has.f k1 bt505.1 (wrap64 (1 + t499))).bind fun t512 => (tributarylaw27_TopoLoops.j1 k1 (wrap64 (1 + t499)) t490 x8_1 t501 t502 (!t512))))) else (none)) else (none))) else (none)) else (none))) else (some false))) = some r := H
          have A17 := Aside0.mk A170
          clear A170
          replace H := Option.bind_eq_some_iff.mp H
          obtain ⟨⟨t505, t506⟩, A180, H⟩ := H
          replace H : (if t506 = 0 then (if (wrap64 (1 + t499)) = 1 then (tributarylaw27_TopoLoops.j1 k1 (wrap64 (1 + t499)) t490 x8_1 t501 t502 false) else (if 0 ≤ (wrap64 ((wrap64 (1 + t499)) - 1)) then (if (wrap64 ((wrap64 (1 + t499)) - 1)) < (x8_1.length : Int) then (if ((rd_T109 x8_1 (wrap64 ((wrap64 (1 + t499)) - 1))).f2 = true) then (tributarylaw27_TopoLoops.j1 k1 (wrap64 (1 + t499)) t490 x8_1 t501 t502 false) else (if 0 ≤ (wrap64 ((wrap64 (1 + t500)) - 1)) then (if (wrap64 ((wrap64 (1 + t500)) - 1)) < (x8_1.length : Int) then (if ((rd_T109 x8_1 (wrap64 ((wrap64 (1 + t500)) - 1))).f2 = true) then (tributarylaw27_TopoLoops.j1 k1 (wrap64 (1 + t499)) t490 x8_1 t501 t502 false) else (if ((rd_T109 x8_1 (wrap64 ((wrap64 (1 + t500)) - 1))).f0) = 3 then (tributarylaw27_TopoLoops.j1 k1 (wrap64 (1 + t499)) t490 x8_1 t501 t502 false) else ((tributarylaw27_has.f k1 t505 (wrap64 (1 + t499))).bind fun t512 => (tributarylaw27_TopoLoops.j1 k1 (wrap64 (1 + t499)) t490 x8_1 t501 t502 (!t512))))) else (none)) else (none))) else (none)) else (none))) else (some false)) = some r := H
          have A18 := Aside0.mk A180
          clear A180
          by_cases c19 : t506 = 0
          · rw [if_pos c19] at H
            have c19b0 : (t506 == 0) = true := beq_iff_eq.mpr c19
            have c19b1 : (t506 != 0) = false := bne_eq_false_iff_eq.mpr c19
            clear c19
            have HC20 := Aside0.mk H
            clear H
            obtain ⟨Ao21, co21, eo21⟩ := Kd.R_slice HO_8.out
            subst eo21
            go_upto_region 15 with (first | ((with_reducible refine gate_callee (f := 36) rfl ?_); refine goesL_ (some 44) rfl rfl Try.func36 (by kernel_rfl) rfl #[.int .i64 a1, .int .i64 (x8_1.length : Int)] rfl (by (try simp only [List.map_toArray, List.map_cons, List.map_nil]); first | done | rfl | (simp only [List.length_drop, List.length_take]; rfl)) ?_; (with_reducible refine (tributarykit_Pick.calls a1 (x8_1.length : Int) t499 _ A15.out).mono ?_); rintro e w' ⟨rfl, ⟨nd, rfl⟩⟩; refine ⟨_, rfl, ?_⟩) | ((with_reducible refine gate_callee (f := 36) rfl ?_); refine goesL_ (some 49) rfl rfl Try.func36 (by kernel_rfl) rfl #[.int .i64 a2, .int .i64 (x8_1.length : Int)] rfl (by (try simp only [List.map_toArray, List.map_cons, List.map_nil]); first | done | rfl | (simp only [List.length_drop, List.length_take]; rfl)) ?_; (with_reducible refine (tributarykit_Pick.calls a2 (x8_1.length : Int) t500 _ A16.out).mono ?_); rintro e w' ⟨rfl, ⟨nd, rfl⟩⟩; refine ⟨_, rfl, ?_⟩) | ((with_reducible refine gate_callee (f := 53) rfl ?_); refine goesL_ (some 55) rfl rfl Try.func53 (by kernel_rfl) rfl #[.slice Ao21 x8_1.length co21, .int .i64 (wrap64 (1 + t499)), .int .i64 (wrap64 (1 + t500))] rfl (by (try simp only [List.map_toArray, List.map_cons, List.map_nil]); first | done | rfl | (simp only [List.length_drop, List.length_take]; rfl)) ?_; (with_reducible refine (topo_Move.calls k1 _ _ x8_1 (wrap64 (1 + t499)) (wrap64 (1 + t500)) t501 t502 _ ?side1 ?side2 A17.out).mono ?_); (case side1 => repeat (first | exact (Kd.R_reads' HO_8.out).2.2 | (with_reducible refine Kd.C_alloc ?_ _) | (with_reducible refine Kd.C_drewN ?_ _) | (with_reducible refine Kd.C_drew ?_))); (case side2 => exact (Kd.R_reads' HO_8.out).2.1); rintro e w22 ⟨v503, rfl, ho0, hb⟩; refine ⟨_, rfl, ?_⟩; have n0_ := Aside0.mk (Kd.R_elder' (by (with_reducible repeat (first | apply Kd.R_alloc | apply Kd.R_drewN | apply Kd.R_drew)); exact HO_8.out) (Kd.R_base ho0) hb); have n1_ := Aside0.mk (Kd.R_lower (Kd.R_new' ho0 (Kd.R_lt (by (with_reducible repeat (first | apply Kd.R_alloc | apply Kd.R_drewN | apply Kd.R_drew)); exact HO_8.out))) (below_size (by repeat (first | (with_reducible first | exact HB.out | apply below_alloc | apply pw_below_drewN | apply below_drew1) | exact HB.out)))); have n2_ := Aside0.mk (below_step (by repeat (first | (with_reducible first | exact HB.out | apply below_alloc | apply pw_below_drewN | apply below_drew1) | exact HB.out)) hb); clear HO_8; clear HB; have HO_8 := n0_; have HO504 := n1_; have HB := n2_; clear n0_ n1_ n2_; (try clear hb); (try clear hb2); (try clear hk); (try clear hi); (try clear ho0)) | ((with_reducible refine gate_callee (f := 39) rfl ?_); refine goesL_ (some 61) rfl rfl Try.func39 (by kernel_rfl) rfl #[.slice Ao21 x8_1.length co21, .int .i64 (wrap64 (1 + t500))] rfl (by (try simp only [List.map_toArray, List.map_cons, List.map_nil]); first | done | rfl | (simp only [List.length_drop, List.length_take]; rfl)) ?_; (with_reducible refine (topo_Way.calls k1 _ _ x8_1 (wrap64 (1 + t500)) t505 t506 _ ?side1 ?side2 A18.out).mono ?_); (case side1 => repeat (first | exact (Kd.R_reads' HO_8.out).2.2 | (with_reducible refine Kd.C_alloc ?_ _) | (with_reducible refine Kd.C_drewN ?_ _) | (with_reducible refine Kd.C_drew ?_))); (case side2 => exact (Kd.R_reads' HO_8.out).2.1); rintro e w23 ⟨v507, rfl, ho0, hb⟩; refine ⟨_, rfl, ?_⟩; have n0_ := Aside0.mk (Kd.R_below (by (with_reducible repeat (first | apply Kd.R_alloc | apply Kd.R_drewN | apply Kd.R_drew)); exact HO_8.out) hb); have n1_ := Aside0.mk (Kd.R_below (by (with_reducible repeat (first | apply Kd.R_alloc | apply Kd.R_drewN | apply Kd.R_drew)); exact HO504.out) hb); have n2_ := Aside0.mk (Kd.R_lower ho0 (below_size (by repeat (first | (with_reducible first | exact HB.out | apply below_alloc | apply pw_below_drewN | apply below_drew1) | exact HB.out)))); have n3_ := Aside0.mk (below_step (by repeat (first | (with_reducible first | exact HB.out | apply below_alloc | apply pw_below_drewN | apply below_drew1) | exact HB.out)) hb); clear HO_8; clear HO504; clear HB; have HO_8 := n0_; have HO504 := n1_; have HO508 := n2_; have HB := n3_; clear n0_ n1_ n2_ n3_; (try clear hb); (try clear hb2); (try clear hk); (try clear hi); (try clear ho0)))
            (try simp only [Act.put, List.setIfInBounds_toArray, List.set_cons_zero, List.set_cons_succ])
            go_cut [16] (fun v16 wc => ∃ (kq : Nat) (x16_19 : Bool), v16 = .bool x16_19 ∧ Aside0 (tributarylaw27_TopoLoops.j1 kq (wrap64 (1 + t499)) t490 x8_1 t501 t502 x16_19 = some r) ∧ Aside0 (kq ≤ k1) ∧ Aside0 (Kd.R k109 109 wc w.heap.size (fun k_ => some k_ ≠ (v503 : Value).ownBlock) (.slice Ao21 x8_1.length co21) x8_1) ∧ Aside0 (Kd.R k109 109 wc w.heap.size (fun k_ => some k_ ≠ ((.slice Ao21 x8_1.length co21) : Value).ownBlock) v503 t501) ∧ Aside0 (Below w.heap.size w wc))
            case first =>
              have H := HC20.out
              clear HC20
              by_cases c24 : (wrap64 (1 + t499)) = 1
              · rw [if_pos c24] at H
                have c24b0 : ((wrap64 (1 + t499)) == 1) = true := beq_iff_eq.mpr c24
                have c24b1 : ((wrap64 (1 + t499)) != 1) = false := bne_eq_false_iff_eq.mpr c24
                clear c24
                (first | rw [c24b0] | (simp only [i64_w, i32_w]; rw [c24b0]) | skip)
                have H' := Aside0.mk H
                clear H
                go_wp2
                go_meet
                case rel => exact ⟨_, (false), (by first | rfl | (simp; done) | (simp [*]; done)), H', ⟨by have := HK1.out; first | omega | exact Nat.le_refl _⟩, ⟨by (with_reducible repeat (first | apply Kd.R_alloc | apply Kd.R_drewN | apply Kd.R_drew)); exact Kd.R_mono HO_8.out (fun _ hk => hk.2)⟩, ⟨by (with_reducible repeat (first | apply Kd.R_alloc | apply Kd.R_drewN | apply Kd.R_drew)); exact Kd.R_mono HO504.out (fun _ hk => hk.2)⟩, ⟨by repeat (first | (with_reducible first | exact HB.out | apply below_alloc | apply pw_below_drewN | apply below_drew1) | exact HB.out)⟩⟩
              · rw [if_neg c24] at H
                have c24b0 : ((wrap64 (1 + t499)) == 1) = false := beq_eq_false_iff_ne.mpr c24
                have c24b1 : ((wrap64 (1 + t499)) != 1) = true := bne_iff_ne.mpr c24
                (first | rw [c24b0] | (simp only [i64_w, i32_w]; rw [c24b0]) | skip)
                obtain ⟨ji25, hji25⟩ : ∃ j_ : Int, (wrap64 ((wrap64 (1 + t499)) - 1)) = j_ := ⟨_, rfl⟩
                replace H : (if 0 ≤ (ji25) then (if (ji25) < (x8_1.length : Int) then (if ((rd_T109 x8_1 (ji25)).f2 = true) then (tributarylaw27_TopoLoops.j1 k1 (wrap64 (1 + t499)) t490 x8_1 t501 t502 false) else (if 0 ≤ (wrap64 ((wrap64 (1 + t500)) - 1)) then (if (wrap64 ((wrap64 (1 + t500)) - 1)) < (x8_1.length : Int) then (if ((rd_T109 x8_1 (wrap64 ((wrap64 (1 + t500)) - 1))).f2 = true) then (tributarylaw27_TopoLoops.j1 k1 (wrap64 (1 + t499)) t490 x8_1 t501 t502 false) else (if ((rd_T109 x8_1 (wrap64 ((wrap64 (1 + t500)) - 1))).f0) = 3 then (tributarylaw27_TopoLoops.j1 k1 (wrap64 (1 + t499)) t490 x8_1 t501 t502 false) else ((tributarylaw27_has.f k1 t505 (wrap64 (1 + t499))).bind fun t512 => (tributarylaw27_TopoLoops.j1 k1 (wrap64 (1 + t499)) t490 x8_1 t501 t502 (!t512))))) else (none)) else (none))) else (none)) else (none)) = some r := by first | (rw [hji25] at H; exact H) | (simp only [hji25] at H ⊢; exact H)
                have hji25w : (IntKind.i64.wrap ((wrap64 (1 + t499)) - 1)) = ji25 := (i64_w _).trans hji25
                by_cases c26 : 0 ≤ (ji25)
                · rw [if_pos c26] at H
                  have c26b0 : decide (0 ≤ (ji25)) = true := decide_eq_true c26
                  clear c26
                  by_cases c27 : (ji25) < (x8_1.length : Int)
                  · rw [if_pos c27] at H
                    have c27b0 : decide ((ji25) < (x8_1.length : Int)) = true := decide_eq_true c27
                    clear c27
                    obtain ⟨bq28, hbq28⟩ : ∃ b_ : Bool, b_ = ((rd_T109 x8_1 (ji25)).f2) := ⟨_, rfl⟩
                    replace H : (if (bq28 = true) then (tributarylaw27_TopoLoops.j1 k1 (wrap64 (1 + t499)) t490 x8_1 t501 t502 false) else (if 0 ≤ (wrap64 ((wrap64 (1 + t500)) - 1)) then (if (wrap64 ((wrap64 (1 + t500)) - 1)) < (x8_1.length : Int) then (if ((rd_T109 x8_1 (wrap64 ((wrap64 (1 + t500)) - 1))).f2 = true) then (tributarylaw27_TopoLoops.j1 k1 (wrap64 (1 + t499)) t490 x8_1 t501 t502 false) else (if ((rd_T109 x8_1 (wrap64 ((wrap64 (1 + t500)) - 1))).f0) = 3 then (tributarylaw27_TopoLoops.j1 k1 (wrap64 (1 + t499)) t490 x8_1 t501 t502 false) else ((tributarylaw27_has.f k1 t505 (wrap64 (1 + t499))).bind fun t512 => (tributarylaw27_TopoLoops.j1 k1 (wrap64 (1 + t499)) t490 x8_1 t501 t502 (!t512))))) else (none)) else (none))) = some r := by rw [← hbq28] at H; exact H
                    have Nbq28 := Aside0.mk hbq28
                    clear hbq28
                    by_cases c29 : (bq28 = true)
                    · subst c29
                      have H1 : (tributarylaw27_TopoLoops.j1 k1 (wrap64 (1 + t499)) t490 x8_1 t501 t502 false) = some r := by rw [if_pos rfl] at H; exact H
                      clear H
                      have H := H1
                      clear H1
                      have H' := Aside0.mk H
                      clear H
                      have p509 : 0 ≤ ((ji25) : Int) := of_decide_eq_true (by first | (with_reducible assumption) | assumption)
                      have q509 : (ji25) < (x8_1.length : Int) := of_decide_eq_true (by first | (with_reducible assumption) | assumption)
                      obtain ⟨ad509, e509, hx509_0, hx509_1, hx509_2⟩ := at_T109 (Kd.R_reads' HO_8.out).2.2 (ji25) p509 q509
                      (try rw [← Nbq28.out] at hx509_2)
                      cases e509
                      replace p509 := eq_true p509
                      replace q509 := eq_true q509
                      go_wp2
                      go_meet
                      case rel => exact ⟨_, (false), (by first | rfl | (simp; done) | (simp [*]; done)), H', ⟨by have := HK1.out; first | omega | exact Nat.le_refl _⟩, ⟨by (with_reducible repeat (first | apply Kd.R_alloc | apply Kd.R_drewN | apply Kd.R_drew)); exact Kd.R_mono HO_8.out (fun _ hk => hk.2)⟩, ⟨by (with_reducible repeat (first | apply Kd.R_alloc | apply Kd.R_drewN | apply Kd.R_drew)); exact Kd.R_mono HO504.out (fun _ hk => hk.2)⟩, ⟨by repeat (first | (with_reducible first | exact HB.out | apply below_alloc | apply pw_below_drewN | apply below_drew1) | exact HB.out)⟩⟩
                    · replace c29 := Bool.eq_false_iff.mpr c29
                      subst c29
                      have H1 : (if 0 ≤ (wrap64 ((wrap64 (1 + t500)) - 1)) then (if (wrap64 ((wrap64 (1 + t500)) - 1)) < (x8_1.length : Int) then (if ((rd_T109 x8_1 (wrap64 ((wrap64 (1 + t500)) - 1))).f2 = true) then (tributarylaw27_TopoLoops.j1 k1 (wrap64 (1 + t499)) t490 x8_1 t501 t502 false) else (if ((rd_T109 x8_1 (wrap64 ((wrap64 (1 + t500)) - 1))).f0) = 3 then (tributarylaw27_TopoLoops.j1 k1 (wrap64 (1 + t499)) t490 x8_1 t501 t502 false) else ((tributarylaw27_has.f k1 t505 (wrap64 (1 + t499))).bind fun t512 => (tributarylaw27_TopoLoops.j1 k1 (wrap64 (1 + t499)) t490 x8_1 t501 t502 (!t512))))) else (none)) else (none)) = some r := by rw [if_neg (show ¬ (false = true) by decide)] at H; exact H
                      clear H
                      have H := H1
                      clear H1
                      obtain ⟨ji30, hji30⟩ : ∃ j_ : Int, (wrap64 ((wrap64 (1 + t500)) - 1)) = j_ := ⟨_, rfl⟩
                      replace H : (if 0 ≤ (ji30) then (if (ji30) < (x8_1.length : Int) then (if ((rd_T109 x8_1 (ji30)).f2 = true) then (tributarylaw27_TopoLoops.j1 k1 (wrap64 (1 + t499)) t490 x8_1 t501 t502 false) else (if ((rd_T109 x8_1 (ji30)).f0) = 3 then (tributarylaw27_TopoLoops.j1 k1 (wrap64 (1 + t499)) t490 x8_1 t501 t502 false) else ((tributarylaw27_has.f k1 t505 (wrap64 (1 + t499))).bind fun t512 => (tributarylaw27_TopoLoops.j1 k1 (wrap64 (1 + t499)) t490 x8_1 t501 t502 (!t512))))) else (none)) else (none)) = some r := by first | (rw [hji30] at H; exact H) | (simp only [hji30] at H ⊢; exact H)
                      have hji30w : (IntKind.i64.wrap ((wrap64 (1 + t500)) - 1)) = ji30 := (i64_w _).trans hji30
                      by_cases c31 : 0 ≤ (ji30)
                      · rw [if_pos c31] at H
                        have c31b0 : decide (0 ≤ (ji30)) = true := decide_eq_true c31
                        clear c31
                        by_cases c32 : (ji30) < (x8_1.length : Int)
                        · rw [if_pos c32] at H
                          have c32b0 : decide ((ji30) < (x8_1.length : Int)) = true := decide_eq_true c32
                          clear c32
                          obtain ⟨bq33, hbq33⟩ : ∃ b_ : Bool, b_ = ((rd_T109 x8_1 (ji30)).f2) := ⟨_, rfl⟩
                          replace H : (if (bq33 = true) then (tributarylaw27_TopoLoops.j1 k1 (wrap64 (1 + t499)) t490 x8_1 t501 t502 false) else (if ((rd_T109 x8_1 (ji30)).f0) = 3 then (tributarylaw27_TopoLoops.j1 k1 (wrap64 (1 + t499)) t490 x8_1 t501 t502 false) else ((tributarylaw27_has.f k1 t505 (wrap64 (1 + t499))).bind fun t512 => (tributarylaw27_TopoLoops.j1 k1 (wrap64 (1 + t499)) t490 x8_1 t501 t502 (!t512))))) = some r := by rw [← hbq33] at H; exact H
                          have Nbq33 := Aside0.mk hbq33
                          clear hbq33
                          by_cases c34 : (bq33 = true)
                          · subst c34
                            have H1 : (tributarylaw27_TopoLoops.j1 k1 (wrap64 (1 + t499)) t490 x8_1 t501 t502 false) = some r := by rw [if_pos rfl] at H; exact H
                            clear H
                            have H := H1
                            clear H1
                            have H' := Aside0.mk H
                            clear H
                            have p509 : 0 ≤ ((ji25) : Int) := of_decide_eq_true (by first | (with_reducible assumption) | assumption)
                            have q509 : (ji25) < (x8_1.length : Int) := of_decide_eq_true (by first | (with_reducible assumption) | assumption)
                            obtain ⟨ad509, e509, hx509_0, hx509_1, hx509_2⟩ := at_T109 (Kd.R_reads' HO_8.out).2.2 (ji25) p509 q509
                            (try rw [← Nbq28.out] at hx509_2)
                            (try rw [← Nbq33.out] at hx509_2)
                            cases e509
                            replace p509 := eq_true p509
                            replace q509 := eq_true q509
                            have p510 : 0 ≤ ((ji30) : Int) := of_decide_eq_true (by first | (with_reducible assumption) | assumption)
                            have q510 : (ji30) < (x8_1.length : Int) := of_decide_eq_true (by first | (with_reducible assumption) | assumption)
                            obtain ⟨ad510, e510, hx510_0, hx510_1, hx510_2⟩ := at_T109 (Kd.R_reads' HO_8.out).2.2 (ji30) p510 q510
                            (try rw [← Nbq28.out] at hx510_2)
                            (try rw [← Nbq33.out] at hx510_2)
                            obtain rfl : ad509 = ad510 := (by injection e510)
                            replace p510 := eq_true p510
                            replace q510 := eq_true q510
                            go_wp2
                            go_meet
                            case rel => exact ⟨_, (false), (by first | rfl | (simp; done) | (simp [*]; done)), H', ⟨by have := HK1.out; first | omega | exact Nat.le_refl _⟩, ⟨by (with_reducible repeat (first | apply Kd.R_alloc | apply Kd.R_drewN | apply Kd.R_drew)); exact Kd.R_mono HO_8.out (fun _ hk => hk.2)⟩, ⟨by (with_reducible repeat (first | apply Kd.R_alloc | apply Kd.R_drewN | apply Kd.R_drew)); exact Kd.R_mono HO504.out (fun _ hk => hk.2)⟩, ⟨by repeat (first | (with_reducible first | exact HB.out | apply below_alloc | apply pw_below_drewN | apply below_drew1) | exact HB.out)⟩⟩
                          · replace c34 := Bool.eq_false_iff.mpr c34
                            subst c34
                            have H1 : (if ((rd_T109 x8_1 (ji30)).f0) = 3 then (tributarylaw27_TopoLoops.j1 k1 (wrap64 (1 + t499)) t490 x8_1 t501 t502 false) else ((tributarylaw27_has.f k1 t505 (wrap64 (1 + t499))).bind fun t512 => (tributarylaw27_TopoLoops.j1 k1 (wrap64 (1 + t499)) t490 x8_1 t501 t502 (!t512)))) = some r := by rw [if_neg (show ¬ (false = true) by decide)] at H; exact H
                            clear H
                            have H := H1
                            clear H1
                            by_cases c35 : ((rd_T109 x8_1 (ji30)).f0) = 3
                            · rw [if_pos c35] at H
                              have c35b0 : (((rd_T109 x8_1 (ji30)).f0) == 3) = true := beq_iff_eq.mpr c35
                              have c35b1 : (((rd_T109 x8_1 (ji30)).f0) != 3) = false := bne_eq_false_iff_eq.mpr c35
                              clear c35
                              have H' := Aside0.mk H
                              clear H
                              have p509 : 0 ≤ ((ji25) : Int) := of_decide_eq_true (by first | (with_reducible assumption) | assumption)
                              have q509 : (ji25) < (x8_1.length : Int) := of_decide_eq_true (by first | (with_reducible assumption) | assumption)
                              obtain ⟨ad509, e509, hx509_0, hx509_1, hx509_2⟩ := at_T109 (Kd.R_reads' HO_8.out).2.2 (ji25) p509 q509
                              (try rw [← Nbq28.out] at hx509_2)
                              (try rw [← Nbq33.out] at hx509_2)
                              cases e509
                              replace p509 := eq_true p509
                              replace q509 := eq_true q509
                              have p510 : 0 ≤ ((ji30) : Int) := of_decide_eq_true (by first | (with_reducible assumption) | assumption)
                              have q510 : (ji30) < (x8_1.length : Int) := of_decide_eq_true (by first | (with_reducible assumption) | assumption)
                              obtain ⟨ad510, e510, hx510_0, hx510_1, hx510_2⟩ := at_T109 (Kd.R_reads' HO_8.out).2.2 (ji30) p510 q510
                              (try rw [← Nbq28.out] at hx510_2)
                              (try rw [← Nbq33.out] at hx510_2)
                              obtain rfl : ad509 = ad510 := (by injection e510)
                              replace p510 := eq_true p510
                              replace q510 := eq_true q510
                              have p511 : 0 ≤ ((ji30) : Int) := of_decide_eq_true (by first | (with_reducible assumption) | assumption)
                              have q511 : (ji30) < (x8_1.length : Int) := of_decide_eq_true (by first | (with_reducible assumption) | assumption)
                              obtain ⟨ad511, e511, hx511_0, hx511_1, hx511_2⟩ := at_T109 (Kd.R_reads' HO_8.out).2.2 (ji30) p511 q511
                              (try rw [← Nbq28.out] at hx511_2)
                              (try rw [← Nbq33.out] at hx511_2)
                              obtain rfl : ad509 = ad511 := (by injection e511)
                              replace p511 := eq_true p511
                              replace q511 := eq_true q511
                              go_wp2
                              go_meet
                              case rel => exact ⟨_, (false), (by first | rfl | (simp; done) | (simp [*]; done)), H', ⟨by have := HK1.out; first | omega | exact Nat.le_refl _⟩, ⟨by (with_reducible repeat (first | apply Kd.R_alloc | apply Kd.R_drewN | apply Kd.R_drew)); exact Kd.R_mono HO_8.out (fun _ hk => hk.2)⟩, ⟨by (with_reducible repeat (first | apply Kd.R_alloc | apply Kd.R_drewN | apply Kd.R_drew)); exact Kd.R_mono HO504.out (fun _ hk => hk.2)⟩, ⟨by repeat (first | (with_reducible first | exact HB.out | apply below_alloc | apply pw_below_drewN | apply below_drew1) | exact HB.out)⟩⟩
                            · rw [if_neg c35] at H
                              have c35b0 : (((rd_T109 x8_1 (ji30)).f0) == 3) = false := beq_eq_false_iff_ne.mpr c35
                              have c35b1 : (((rd_T109 x8_1 (ji30)).f0) != 3) = true := bne_iff_ne.mpr c35
                              replace H := Option.bind_eq_some_iff.mp H
                              obtain ⟨t512, A360, H⟩ := H
                              replace H : (tributarylaw27_TopoLoops.j1 k1 (wrap64 (1 + t499)) t490 x8_1 t501 t502 (!t512)) = some r := H
                              have A36 := Aside0.mk A360
                              clear A360
                              have H' := Aside0.mk H
                              clear H
                              have p509 : 0 ≤ ((ji25) : Int) := of_decide_eq_true (by first | (with_reducible assumption) | assumption)
                              have q509 : (ji25) < (x8_1.length : Int) := of_decide_eq_true (by first | (with_reducible assumption) | assumption)
                              obtain ⟨ad509, e509, hx509_0, hx509_1, hx509_2⟩ := at_T109 (Kd.R_reads' HO_8.out).2.2 (ji25) p509 q509
                              (try rw [← Nbq28.out] at hx509_2)
                              (try rw [← Nbq33.out] at hx509_2)
                              cases e509
                              replace p509 := eq_true p509
                              replace q509 := eq_true q509
                              have p510 : 0 ≤ ((ji30) : Int) := of_decide_eq_true (by first | (with_reducible assumption) | assumption)
                              have q510 : (ji30) < (x8_1.length : Int) := of_decide_eq_true (by first | (with_reducible assumption) | assumption)
                              obtain ⟨ad510, e510, hx510_0, hx510_1, hx510_2⟩ := at_T109 (Kd.R_reads' HO_8.out).2.2 (ji30) p510 q510
                              (try rw [← Nbq28.out] at hx510_2)
                              (try rw [← Nbq33.out] at hx510_2)
                              obtain rfl : ad509 = ad510 := (by injection e510)
                              replace p510 := eq_true p510
                              replace q510 := eq_true q510
                              have p511 : 0 ≤ ((ji30) : Int) := of_decide_eq_true (by first | (with_reducible assumption) | assumption)
                              have q511 : (ji30) < (x8_1.length : Int) := of_decide_eq_true (by first | (with_reducible assumption) | assumption)
                              obtain ⟨ad511, e511, hx511_0, hx511_1, hx511_2⟩ := at_T109 (Kd.R_reads' HO_8.out).2.2 (ji30) p511 q511
                              (try rw [← Nbq28.out] at hx511_2)
                              (try rw [← Nbq33.out] at hx511_2)
                              obtain rfl : ad509 = ad511 := (by injection e511)
                              replace p511 := eq_true p511
                              replace q511 := eq_true q511
                              obtain ⟨Ao37, co37, eo37⟩ := Kd.R_slice HO508.out
                              subst eo37
                              go_wp2_with (first | (go_at_call 62; (with_reducible refine (tributarylaw27_has.calls k1 _ _ t505 (wrap64 (1 + t499)) t512 _ ?side1 ?side2 A36.out).mono ?_); (case side1 => repeat (first | exact (Kd.R_reads' HO508.out).2.2 | (with_reducible refine Kd.C_alloc ?_ _) | (with_reducible refine Kd.C_drewN ?_ _) | (with_reducible refine Kd.C_drew ?_))); (case side2 => exact (Kd.R_reads' HO508.out).2.1); rintro e w' ⟨rfl, ⟨nd, rfl⟩⟩))
                              go_meet
                              case rel => exact ⟨_, (!t512), (by first | rfl | (simp; done) | (simp [*]; done)), H', ⟨by have := HK1.out; first | omega | exact Nat.le_refl _⟩, ⟨by (with_reducible repeat (first | apply Kd.R_alloc | apply Kd.R_drewN | apply Kd.R_drew)); exact Kd.R_mono HO_8.out (fun _ hk => hk.2)⟩, ⟨by (with_reducible repeat (first | apply Kd.R_alloc | apply Kd.R_drewN | apply Kd.R_drew)); exact Kd.R_mono HO504.out (fun _ hk => hk.2)⟩, ⟨by repeat (first | (with_reducible first | exact HB.out | apply below_alloc | apply pw_below_drewN | apply below_drew1) | exact HB.out)⟩⟩
                        · rw [if_neg c32] at H
                          exact absurd H (by simp)
                      · rw [if_neg c31] at H
                        exact absurd H (by simp)
                  · rw [if_neg c27] at H
                    exact absurd H (by simp)
                · rw [if_neg c26] at H
                  exact absurd H (by simp)
            case rest =>
              clear HC20
              try clear c1
              try clear c2
              try clear p2
              try clear q2
              try clear c3
              try clear q3
              try clear p4
              try clear q4
              try clear hx4
              try clear c5
              try clear c5b0
              try clear c5b1
              try clear p5
              try clear q5
              try clear hx5
              try clear c6
              try clear p6
              try clear c10
              try clear c10b0
              try clear c11
              try clear c11b0
              try clear c13
              try clear c19
              try clear c19b0
              try clear c19b1
              try clear c24
              try clear c24b0
              try clear c24b1
              try clear c26
              try clear c26b0
              try clear c27
              try clear c27b0
              try clear q28
              try clear c29
              try clear c31
              try clear c31b0
              try clear c32
              try clear c32b0
              try clear q33
              try clear c34
              try clear c35
              try clear c35b0
              try clear c35b1
              try clear c36
              try clear hx494_0
              try clear hx494_1
              try clear hx494_2
              try clear hx494_3
              try clear hx509_0
              try clear hx509_1
              try clear hx509_2
              try clear hx510_0
              try clear hx510_1
              try clear hx510_2
              try clear hx511_0
              try clear hx511_1
              try clear hx511_2
              try clear p2
              try clear p494
              try clear p509
              try clear p510
              try clear p511
              try clear q494
              try clear q509
              try clear q510
              try clear q511
              obtain ⟨kq, x16_19, rfl, HA, HJ19, HO_8, HO_12, HB⟩ := hcut
              cases kq with
              | zero => exact absurd HA.out (by simp [tributarylaw27_TopoLoops.j1])
              | succ kj19 =>
                have H := HA.out
                clear HA
                simp only [tributarylaw27_TopoLoops.j1] at H
                by_cases c38 : ((t502 == 0) != x16_19) = true
                · rw [if_pos c38] at H
                  have c38b0 : ((t502 == 0) != x16_19) = true := c38
                  (try (have c38b1 : decide ((t502 == 0) = x16_19) = false := by simpa using c38))
                  (try (have c38b2 : ((t502 == 0) == x16_19) = false := by simpa using c38))
                  (try (have c38b3 : ¬ ((t502 == 0) = x16_19) := by simpa using c38))
                  clear c38
                  obtain rfl := Option.some.inj H
                  go_wp2
                  go_ret
                  exact ⟨by first | rfl | (simp [errW_none, errW_some] <;> rfl) | (simp [*, errW_none, errW_some] <;> rfl), by repeat (first | (with_reducible first | exact HB.out | apply below_alloc | apply pw_below_drewN | apply below_drew1) | exact HB.out)⟩
                · rw [if_neg c38] at H
                  have c38b0 : ((t502 == 0) != x16_19) = false := by simpa using c38
                  (try (have c38b1 : decide ((t502 == 0) = x16_19) = true := by simpa using c38))
                  (try (have c38b2 : ((t502 == 0) == x16_19) = true := by simpa using c38))
                  clear c38
                  by_cases c39 : x16_19 = true
                  · subst c39
                    have H1 : (if 0 ≤ (wrap64 ((wrap64 (1 + t499)) - 1)) then (if (wrap64 ((wrap64 (1 + t499)) - 1)) < (x8_1.length : Int) then ((topo_Move.f kj19 t501 (wrap64 (1 + t499)) ((rd_T109 x8_1 (wrap64 ((wrap64 (1 + t499)) - 1))).f1)).bind fun bt514 => (if 0 ≤ (wrap64 (((rd_T109 x8_1 (wrap64 ((wrap64 (1 + t499)) - 1))).f1) - 1)) then (if (wrap64 (((rd_T109 x8_1 (wrap64 ((wrap64 (1 + t499)) - 1))).f1) - 1)) < (x8_1.length : Int) then (if (rd_T109 x8_1 (wrap64 (((rd_T109 x8_1 (wrap64 ((wrap64 (1 + t499)) - 1))).f1) - 1))).f2 = true then (if t490 = true then (some (bt514.2 == 14)) else (some false)) else (if t490 = true then (if bt514.2 = 0 then ((tributarykit_SameMembers.f kj19 bt514.1 x8_1).bind fun t520 => (if t520 = true then ((topo_Check.f kj19 t501).bind fun t521 => (some (t521 == 0))) else (some false))) else (some false)) else (some false))) else (none)) else (none))) else (none)) else (none)) = some r := by rw [if_pos rfl] at H; exact H
                    clear H
                    have H := H1
                    clear H1
                    obtain ⟨ji40, hji40⟩ : ∃ j_ : Int, (wrap64 ((wrap64 (1 + t499)) - 1)) = j_ := ⟨_, rfl⟩
                    replace H : (if 0 ≤ (ji40) then (if (ji40) < (x8_1.length : Int) then ((topo_Move.f kj19 t501 (wrap64 (1 + t499)) ((rd_T109 x8_1 (ji40)).f1)).bind fun bt514 => (if 0 ≤ (wrap64 (((rd_T109 x8_1 (ji40)).f1) - 1)) then (if (wrap64 (((rd_T109 x8_1 (ji40)).f1) - 1)) < (x8_1.length : Int) then (if (rd_T109 x8_1 (wrap64 (((rd_T109 x8_1 (ji40)).f1) - 1))).f2 = true then (if t490 = true then (some (bt514.2 == 14)) else (some false)) else (if t490 = true then (if bt514.2 = 0 then ((tributarykit_SameMembers.f kj19 bt514.1 x8_1).bind fun t520 => (if t520 = true then ((topo_Check.f kj19 t501).bind fun t521 => (some (t521 == 0))) else (some false))) else (some false)) else (some false))) else (none)) else (none))) else (none)) else (none)) = some r := by first | (rw [hji40] at H; exact H) | (simp only [hji40] at H ⊢; exact H)
                    have hji40w : (IntKind.i64.wrap ((wrap64 (1 + t499)) - 1)) = ji40 := (i64_w _).trans hji40
                    by_cases c41 : 0 ≤ (ji40)
                    · rw [if_pos c41] at H
                      have c41b0 : decide (0 ≤ (ji40)) = true := decide_eq_true c41
                      clear c41
                      by_cases c42 : (ji40) < (x8_1.length : Int)
                      · rw [if_pos c42] at H
                        have c42b0 : decide ((ji40) < (x8_1.length : Int)) = true := decide_eq_true c42
                        clear c42
                        replace H := Option.bind_eq_some_iff.mp H
                        obtain ⟨⟨t514, t515⟩, A430, H⟩ := H
                        replace H : (if 0 ≤ (wrap64 (((rd_T109 x8_1 (ji40)).f1) - 1)) then (if (wrap64 (((rd_T109 x8_1 (ji40)).f1) - 1)) < (x8_1.length : Int) then (if (rd_T109 x8_1 (wrap64 (((rd_T109 x8_1 (ji40)).f1) - 1))).f2 = true then (if t490 = true then (some (t515 == 14)) else (some false)) else (if t490 = true then (if t515 = 0 then ((tributarykit_SameMembers.f kj19 t514 x8_1).bind fun t520 => (if t520 = true then ((topo_Check.f kj19 t501).bind fun t521 => (some (t521 == 0))) else (some false))) else (some false)) else (some false))) else (none)) else (none)) = some r := H
                        have A43 := Aside0.mk A430
                        clear A430
                        obtain ⟨ji44, hji44⟩ : ∃ j_ : Int, (wrap64 (((rd_T109 x8_1 (ji40)).f1) - 1)) = j_ := ⟨_, rfl⟩
                        replace H : (if 0 ≤ (ji44) then (if (ji44) < (x8_1.length : Int) then (if (rd_T109 x8_1 (ji44)).f2 = true then (if t490 = true then (some (t515 == 14)) else (some false)) else (if t490 = true then (if t515 = 0 then ((tributarykit_SameMembers.f kj19 t514 x8_1).bind fun t520 => (if t520 = true then ((topo_Check.f kj19 t501).bind fun t521 => (some (t521 == 0))) else (some false))) else (some false)) else (some false))) else (none)) else (none)) = some r := by first | (rw [hji44] at H; exact H) | (simp only [hji44] at H ⊢; exact H)
                        (try rw [hji44] at A43)
                        have hji44w : (IntKind.i64.wrap (((rd_T109 x8_1 (ji40)).f1) - 1)) = ji44 := (i64_w _).trans hji44
                        by_cases c45 : 0 ≤ (ji44)
                        · rw [if_pos c45] at H
                          have c45b0 : decide (0 ≤ (ji44)) = true := decide_eq_true c45
                          clear c45
                          by_cases c46 : (ji44) < (x8_1.length : Int)
                          · rw [if_pos c46] at H
                            have c46b0 : decide ((ji44) < (x8_1.length : Int)) = true := decide_eq_true c46
                            clear c46
                            obtain ⟨bq47, hbq47⟩ : ∃ b_ : Bool, b_ = ((rd_T109 x8_1 (ji44)).f2) := ⟨_, rfl⟩
                            replace H : (if bq47 = true then (if t490 = true then (some (t515 == 14)) else (some false)) else (if t490 = true then (if t515 = 0 then ((tributarykit_SameMembers.f kj19 t514 x8_1).bind fun t520 => (if t520 = true then ((topo_Check.f kj19 t501).bind fun t521 => (some (t521 == 0))) else (some false))) else (some false)) else (some false))) = some r := by rw [← hbq47] at H; exact H
                            have Nbq47 := Aside0.mk hbq47
                            clear hbq47
                            by_cases c48 : bq47 = true
                            · subst c48
                              have H1 : (if t490 = true then (some (t515 == 14)) else (some false)) = some r := by rw [if_pos rfl] at H; exact H
                              clear H
                              have H := H1
                              clear H1
                              by_cases c49 : t490 = true
                              · subst c49
                                have H1 : (some (t515 == 14)) = some r := by rw [if_pos rfl] at H; exact H
                                clear H
                                have H := H1
                                clear H1
                                obtain rfl := Option.some.inj H
                                have p513 : 0 ≤ ((ji40) : Int) := of_decide_eq_true (by first | (with_reducible assumption) | assumption)
                                have q513 : (ji40) < (x8_1.length : Int) := of_decide_eq_true (by first | (with_reducible assumption) | assumption)
                                obtain ⟨ad513, e513, hx513_0, hx513_1, hx513_2⟩ := at_T109 (Kd.R_reads' HO_8.out).2.2 (ji40) p513 q513
                                (try rw [← Nbq47.out] at hx513_2)
                                cases e513
                                replace p513 := eq_true p513
                                replace q513 := eq_true q513
                                obtain ⟨Ao50, co50, eo50⟩ := Kd.R_slice HO_12.out
                                subst eo50
                                go_wp2_with (first | ((with_reducible refine gate_callee (f := 53) rfl ?_); refine goesL_ (some 122) rfl rfl Try.func53 (by kernel_rfl) rfl #[.slice Ao50 t501.length co50, .int .i64 (wrap64 (1 + t499)), .int .i64 ((rd_T109 x8_1 (ji40)).f1)] rfl (by (try simp only [List.map_toArray, List.map_cons, List.map_nil]); first | done | (simp only [hji40]; rfl) | rfl | (simp only [List.length_drop, List.length_take]; rfl)) ?_; (with_reducible refine (topo_Move.calls kj19 _ _ t501 (wrap64 (1 + t499)) ((rd_T109 x8_1 (ji40)).f1) t514 t515 _ ?side1 ?side2 A43.out).mono ?_); (case side1 => repeat (first | exact (Kd.R_reads' HO_12.out).2.2 | (with_reducible refine Kd.C_alloc ?_ _) | (with_reducible refine Kd.C_drewN ?_ _) | (with_reducible refine Kd.C_drew ?_))); (case side2 => exact (Kd.R_reads' HO_12.out).2.1); rintro e w51 ⟨v516, rfl, ho0, hb⟩; refine ⟨_, rfl, ?_⟩; have n0_ := Aside0.mk (Kd.R_elder' (by (with_reducible repeat (first | apply Kd.R_alloc | apply Kd.R_drewN | apply Kd.R_drew)); exact HO_8.out) (Kd.R_base ho0) hb); have n1_ := Aside0.mk (Kd.R_elder' (by (with_reducible repeat (first | apply Kd.R_alloc | apply Kd.R_drewN | apply Kd.R_drew)); exact HO_12.out) (Kd.R_base ho0) hb); have n2_ := Aside0.mk (Kd.R_lower (Kd.R_new' (Kd.R_new' ho0 (Kd.R_lt (by (with_reducible repeat (first | apply Kd.R_alloc | apply Kd.R_drewN | apply Kd.R_drew)); exact HO_8.out))) (Kd.R_lt (by (with_reducible repeat (first | apply Kd.R_alloc | apply Kd.R_drewN | apply Kd.R_drew)); exact HO_12.out))) (below_size (by repeat (first | (with_reducible first | exact HB.out | apply below_alloc | apply pw_below_drewN | apply below_drew1) | exact HB.out)))); have n3_ := Aside0.mk (below_step (by repeat (first | (with_reducible first | exact HB.out | apply below_alloc | apply pw_below_drewN | apply below_drew1) | exact HB.out)) hb); clear HO_8; clear HO_12; clear HB; have HO_8 := n0_; have HO_12 := n1_; have HO517 := n2_; have HB := n3_; clear n0_ n1_ n2_ n3_; (try clear hb); (try clear hb2); (try clear hk); (try clear hi); (try clear ho0); have p518 : 0 ≤ ((ji40) : Int) := of_decide_eq_true (by first | (with_reducible assumption) | assumption); have q518 : (ji40) < (x8_1.length : Int) := of_decide_eq_true (by first | (with_reducible assumption) | assumption); obtain ⟨ad518, e518, hx518_0, hx518_1, hx518_2⟩ := at_T109 (Kd.R_reads' HO_8.out).2.2 (ji40) p518 q518; (try rw [← Nbq47.out] at hx518_2); obtain rfl : ad513 = ad518 := (by injection e518); replace p518 := eq_true p518; replace q518 := eq_true q518; have p519 : 0 ≤ ((ji44) : Int) := of_decide_eq_true (by first | (with_reducible assumption) | assumption); have q519 : (ji44) < (x8_1.length : Int) := of_decide_eq_true (by first | (with_reducible assumption) | assumption); obtain ⟨ad519, e519, hx519_0, hx519_1, hx519_2⟩ := at_T109 (Kd.R_reads' HO_8.out).2.2 (ji44) p519 q519; (try rw [← Nbq47.out] at hx519_2); obtain rfl : ad513 = ad519 := (by injection e519); replace p519 := eq_true p519; replace q519 := eq_true q519))
                                go_ret
                                exact ⟨by first | rfl | (simp [errW_none, errW_some] <;> rfl) | (simp only [← hji40, ← hji44]; first | rfl | (simp [errW_none, errW_some] <;> rfl)) | (simp [*, errW_none, errW_some] <;> rfl), by repeat (first | (with_reducible first | exact HB.out | apply below_alloc | apply pw_below_drewN | apply below_drew1) | exact HB.out)⟩
                              · replace c49 := Bool.eq_false_iff.mpr c49
                                subst c49
                                have H1 : (some false) = some r := by rw [if_neg (show ¬ (false = true) by decide)] at H; exact H
                                clear H
                                have H := H1
                                clear H1
                                obtain rfl := Option.some.inj H
                                have p513 : 0 ≤ ((ji40) : Int) := of_decide_eq_true (by first | (with_reducible assumption) | assumption)
                                have q513 : (ji40) < (x8_1.length : Int) := of_decide_eq_true (by first | (with_reducible assumption) | assumption)
                                obtain ⟨ad513, e513, hx513_0, hx513_1, hx513_2⟩ := at_T109 (Kd.R_reads' HO_8.out).2.2 (ji40) p513 q513
                                (try rw [← Nbq47.out] at hx513_2)
                                cases e513
                                replace p513 := eq_true p513
                                replace q513 := eq_true q513
                                obtain ⟨Ao52, co52, eo52⟩ := Kd.R_slice HO_12.out
                                subst eo52
                                go_wp2_with (first | ((with_reducible refine gate_callee (f := 53) rfl ?_); refine goesL_ (some 122) rfl rfl Try.func53 (by kernel_rfl) rfl #[.slice Ao52 t501.length co52, .int .i64 (wrap64 (1 + t499)), .int .i64 ((rd_T109 x8_1 (ji40)).f1)] rfl (by (try simp only [List.map_toArray, List.map_cons, List.map_nil]); first | done | (simp only [hji40]; rfl) | rfl | (simp only [List.length_drop, List.length_take]; rfl)) ?_; (with_reducible refine (topo_Move.calls kj19 _ _ t501 (wrap64 (1 + t499)) ((rd_T109 x8_1 (ji40)).f1) t514 t515 _ ?side1 ?side2 A43.out).mono ?_); (case side1 => repeat (first | exact (Kd.R_reads' HO_12.out).2.2 | (with_reducible refine Kd.C_alloc ?_ _) | (with_reducible refine Kd.C_drewN ?_ _) | (with_reducible refine Kd.C_drew ?_))); (case side2 => exact (Kd.R_reads' HO_12.out).2.1); rintro e w53 ⟨v516, rfl, ho0, hb⟩; refine ⟨_, rfl, ?_⟩; have n0_ := Aside0.mk (Kd.R_elder' (by (with_reducible repeat (first | apply Kd.R_alloc | apply Kd.R_drewN | apply Kd.R_drew)); exact HO_8.out) (Kd.R_base ho0) hb); have n1_ := Aside0.mk (Kd.R_elder' (by (with_reducible repeat (first | apply Kd.R_alloc | apply Kd.R_drewN | apply Kd.R_drew)); exact HO_12.out) (Kd.R_base ho0) hb); have n2_ := Aside0.mk (Kd.R_lower (Kd.R_new' (Kd.R_new' ho0 (Kd.R_lt (by (with_reducible repeat (first | apply Kd.R_alloc | apply Kd.R_drewN | apply Kd.R_drew)); exact HO_8.out))) (Kd.R_lt (by (with_reducible repeat (first | apply Kd.R_alloc | apply Kd.R_drewN | apply Kd.R_drew)); exact HO_12.out))) (below_size (by repeat (first | (with_reducible first | exact HB.out | apply below_alloc | apply pw_below_drewN | apply below_drew1) | exact HB.out)))); have n3_ := Aside0.mk (below_step (by repeat (first | (with_reducible first | exact HB.out | apply below_alloc | apply pw_below_drewN | apply below_drew1) | exact HB.out)) hb); clear HO_8; clear HO_12; clear HB; have HO_8 := n0_; have HO_12 := n1_; have HO517 := n2_; have HB := n3_; clear n0_ n1_ n2_ n3_; (try clear hb); (try clear hb2); (try clear hk); (try clear hi); (try clear ho0); have p518 : 0 ≤ ((ji40) : Int) := of_decide_eq_true (by first | (with_reducible assumption) | assumption); have q518 : (ji40) < (x8_1.length : Int) := of_decide_eq_true (by first | (with_reducible assumption) | assumption); obtain ⟨ad518, e518, hx518_0, hx518_1, hx518_2⟩ := at_T109 (Kd.R_reads' HO_8.out).2.2 (ji40) p518 q518; (try rw [← Nbq47.out] at hx518_2); obtain rfl : ad513 = ad518 := (by injection e518); replace p518 := eq_true p518; replace q518 := eq_true q518; have p519 : 0 ≤ ((ji44) : Int) := of_decide_eq_true (by first | (with_reducible assumption) | assumption); have q519 : (ji44) < (x8_1.length : Int) := of_decide_eq_true (by first | (with_reducible assumption) | assumption); obtain ⟨ad519, e519, hx519_0, hx519_1, hx519_2⟩ := at_T109 (Kd.R_reads' HO_8.out).2.2 (ji44) p519 q519; (try rw [← Nbq47.out] at hx519_2); obtain rfl : ad513 = ad519 := (by injection e519); replace p519 := eq_true p519; replace q519 := eq_true q519))
                                go_ret
                                exact ⟨by first | rfl | (simp [errW_none, errW_some] <;> rfl) | (simp only [← hji40, ← hji44]; first | rfl | (simp [errW_none, errW_some] <;> rfl)) | (simp [*, errW_none, errW_some] <;> rfl), by repeat (first | (with_reducible first | exact HB.out | apply below_alloc | apply pw_below_drewN | apply below_drew1) | exact HB.out)⟩
                            · replace c48 := Bool.eq_false_iff.mpr c48
                              subst c48
                              have H1 : (if t490 = true then (if t515 = 0 then ((tributarykit_SameMembers.f kj19 t514 x8_1).bind fun t520 => (if t520 = true then ((topo_Check.f kj19 t501).bind fun t521 => (some (t521 == 0))) else (some false))) else (some false)) else (some false)) = some r := by rw [if_neg (show ¬ (false = true) by decide)] at H; exact H
                              clear H
                              have H := H1
                              clear H1
                              by_cases c54 : t490 = true
                              · subst c54
                                have H1 : (if t515 = 0 then ((tributarykit_SameMembers.f kj19 t514 x8_1).bind fun t520 => (if t520 = true then ((topo_Check.f kj19 t501).bind fun t521 => (some (t521 == 0))) else (some false))) else (some false)) = some r := by rw [if_pos rfl] at H; exact H
                                clear H
                                have H := H1
                                clear H1
                                by_cases c55 : t515 = 0
                                · rw [if_pos c55] at H
                                  have c55b0 : (t515 == 0) = true := beq_iff_eq.mpr c55
                                  have c55b1 : (t515 != 0) = false := bne_eq_false_iff_eq.mpr c55
                                  clear c55
                                  replace H := Option.bind_eq_some_iff.mp H
                                  obtain ⟨t520, A560, H⟩ := H
                                  replace H : (if t520 = true then ((topo_Check.f kj19 t501).bind fun t521 => (some (t521 == 0))) else (some false)) = some r := H
                                  have A56 := Aside0.mk A560
                                  clear A560
                                  by_cases c57 : t520 = true
                                  · subst c57
                                    have H1 : ((topo_Check.f kj19 t501).bind fun t521 => (some (t521 == 0))) = some r := by rw [if_pos rfl] at H; exact H
                                    clear H
                                    have H := H1
                                    clear H1
                                    replace H := Option.bind_eq_some_iff.mp H
                                    obtain ⟨t521, A580, H⟩ := H
                                    replace H : (some (t521 == 0)) = some r := H
                                    have A58 := Aside0.mk A580
                                    clear A580
                                    obtain rfl := Option.some.inj H
                                    have p513 : 0 ≤ ((ji40) : Int) := of_decide_eq_true (by first | (with_reducible assumption) | assumption)
                                    have q513 : (ji40) < (x8_1.length : Int) := of_decide_eq_true (by first | (with_reducible assumption) | assumption)
                                    obtain ⟨ad513, e513, hx513_0, hx513_1, hx513_2⟩ := at_T109 (Kd.R_reads' HO_8.out).2.2 (ji40) p513 q513
                                    (try rw [← Nbq47.out] at hx513_2)
                                    cases e513
                                    replace p513 := eq_true p513
                                    replace q513 := eq_true q513
                                    obtain ⟨Ao59, co59, eo59⟩ := Kd.R_slice HO_12.out
                                    subst eo59
                                    go_wp2_with (first | ((with_reducible refine gate_callee (f := 53) rfl ?_); refine goesL_ (some 122) rfl rfl Try.func53 (by kernel_rfl) rfl #[.slice Ao59 t501.length co59, .int .i64 (wrap64 (1 + t499)), .int .i64 ((rd_T109 x8_1 (ji40)).f1)] rfl (by (try simp only [List.map_toArray, List.map_cons, List.map_nil]); first | done | (simp only [hji40]; rfl) | rfl | (simp only [List.length_drop, List.length_take]; rfl)) ?_; (with_reducible refine (topo_Move.calls kj19 _ _ t501 (wrap64 (1 + t499)) ((rd_T109 x8_1 (ji40)).f1) t514 t515 _ ?side1 ?side2 A43.out).mono ?_); (case side1 => repeat (first | exact (Kd.R_reads' HO_12.out).2.2 | (with_reducible refine Kd.C_alloc ?_ _) | (with_reducible refine Kd.C_drewN ?_ _) | (with_reducible refine Kd.C_drew ?_))); (case side2 => exact (Kd.R_reads' HO_12.out).2.1); rintro e w60 ⟨v516, rfl, ho0, hb⟩; refine ⟨_, rfl, ?_⟩; have n0_ := Aside0.mk (Kd.R_elder' (by (with_reducible repeat (first | apply Kd.R_alloc | apply Kd.R_drewN | apply Kd.R_drew)); exact HO_8.out) (Kd.R_base ho0) hb); have n1_ := Aside0.mk (Kd.R_elder' (by (with_reducible repeat (first | apply Kd.R_alloc | apply Kd.R_drewN | apply Kd.R_drew)); exact HO_12.out) (Kd.R_base ho0) hb); have n2_ := Aside0.mk (Kd.R_lower (Kd.R_new' (Kd.R_new' ho0 (Kd.R_lt (by (with_reducible repeat (first | apply Kd.R_alloc | apply Kd.R_drewN | apply Kd.R_drew)); exact HO_8.out))) (Kd.R_lt (by (with_reducible repeat (first | apply Kd.R_alloc | apply Kd.R_drewN | apply Kd.R_drew)); exact HO_12.out))) (below_size (by repeat (first | (with_reducible first | exact HB.out | apply below_alloc | apply pw_below_drewN | apply below_drew1) | exact HB.out)))); have n3_ := Aside0.mk (below_step (by repeat (first | (with_reducible first | exact HB.out | apply below_alloc | apply pw_below_drewN | apply below_drew1) | exact HB.out)) hb); clear HO_8; clear HO_12; clear HB; have HO_8 := n0_; have HO_12 := n1_; have HO517 := n2_; have HB := n3_; clear n0_ n1_ n2_ n3_; (try clear hb); (try clear hb2); (try clear hk); (try clear hi); (try clear ho0); have p518 : 0 ≤ ((ji40) : Int) := of_decide_eq_true (by first | (with_reducible assumption) | assumption); have q518 : (ji40) < (x8_1.length : Int) := of_decide_eq_true (by first | (with_reducible assumption) | assumption); obtain ⟨ad518, e518, hx518_0, hx518_1, hx518_2⟩ := at_T109 (Kd.R_reads' HO_8.out).2.2 (ji40) p518 q518; (try rw [← Nbq47.out] at hx518_2); obtain rfl : ad513 = ad518 := (by injection e518); replace p518 := eq_true p518; replace q518 := eq_true q518; have p519 : 0 ≤ ((ji44) : Int) := of_decide_eq_true (by first | (with_reducible assumption) | assumption); have q519 : (ji44) < (x8_1.length : Int) := of_decide_eq_true (by first | (with_reducible assumption) | assumption); obtain ⟨ad519, e519, hx519_0, hx519_1, hx519_2⟩ := at_T109 (Kd.R_reads' HO_8.out).2.2 (ji44) p519 q519; (try rw [← Nbq47.out] at hx519_2); obtain rfl : ad513 = ad519 := (by injection e519); replace p519 := eq_true p519; replace q519 := eq_true q519; obtain ⟨Ao61, co61, eo61⟩ := Kd.R_slice HO517.out; subst eo61) | (go_at_call 48; (with_reducible refine (tributarykit_SameMembers.calls kj19 _ _ t514 _ _ x8_1 true _ ?side1 ?side2 ?side3 ?side4 A56.out).mono ?_); (case side1 => repeat (first | exact (Kd.R_reads' HO517.out).2.2 | (with_reducible refine Kd.C_alloc ?_ _) | (with_reducible refine Kd.C_drewN ?_ _) | (with_reducible refine Kd.C_drew ?_))); (case side2 => exact (Kd.R_reads' HO517.out).2.1); (case side3 => repeat (first | exact (Kd.R_reads' HO_8.out).2.2 | (with_reducible refine Kd.C_alloc ?_ _) | (with_reducible refine Kd.C_drewN ?_ _) | (with_reducible refine Kd.C_drew ?_))); (case side4 => exact (Kd.R_reads' HO_8.out).2.1); rintro e w' ⟨rfl, ⟨nd, rfl⟩⟩) | (go_at_call 55; (with_reducible refine (topo_Check.calls kj19 _ _ t501 t521 _ ?side1 ?side2 A58.out).mono ?_); (case side1 => repeat (first | exact (Kd.R_reads' HO_12.out).2.2 | (with_reducible refine Kd.C_alloc ?_ _) | (with_reducible refine Kd.C_drewN ?_ _) | (with_reducible refine Kd.C_drew ?_))); (case side2 => exact (Kd.R_reads' HO_12.out).2.1); rintro e w62 ⟨rfl, hb⟩; have n0_ := Aside0.mk (Kd.R_below (by (with_reducible repeat (first | apply Kd.R_alloc | apply Kd.R_drewN | apply Kd.R_drew)); exact HO_8.out) hb); have n1_ := Aside0.mk (Kd.R_below (by (with_reducible repeat (first | apply Kd.R_alloc | apply Kd.R_drewN | apply Kd.R_drew)); exact HO_12.out) hb); have n2_ := Aside0.mk (Kd.R_below (by (with_reducible repeat (first | apply Kd.R_alloc | apply Kd.R_drewN | apply Kd.R_drew)); exact HO517.out) hb); have n3_ := Aside0.mk (below_step (by repeat (first | (with_reducible first | exact HB.out | apply below_alloc | apply pw_below_drewN | apply below_drew1) | exact HB.out)) hb); clear HO_8; clear HO_12; clear HO517; clear HB; have HO_8 := n0_; have HO_12 := n1_; have HO517 := n2_; have HB := n3_; clear n0_ n1_ n2_ n3_; (try clear hb); (try clear hb2); (try clear hk); (try clear hi)))
                                    go_ret
                                    exact ⟨by first | rfl | (simp [errW_none, errW_some] <;> rfl) | (simp only [← hji40, ← hji44]; first | rfl | (simp [errW_none, errW_some] <;> rfl)) | (simp [*, errW_none, errW_some] <;> rfl), by repeat (first | (with_reducible first | exact HB.out | apply below_alloc | apply pw_below_drewN | apply below_drew1) | exact HB.out)⟩
                                  · replace c57 := Bool.eq_false_iff.mpr c57
                                    subst c57
                                    have H1 : (some false) = some r := by rw [if_neg (show ¬ (false = true) by decide)] at H; exact H
                                    clear H
                                    have H := H1
                                    clear H1
                                    obtain rfl := Option.some.inj H
                                    have p513 : 0 ≤ ((ji40) : Int) := of_decide_eq_true (by first | (with_reducible assumption) | assumption)
                                    have q513 : (ji40) < (x8_1.length : Int) := of_decide_eq_true (by first | (with_reducible assumption) | assumption)
                                    obtain ⟨ad513, e513, hx513_0, hx513_1, hx513_2⟩ := at_T109 (Kd.R_reads' HO_8.out).2.2 (ji40) p513 q513
                                    (try rw [← Nbq47.out] at hx513_2)
                                    cases e513
                                    replace p513 := eq_true p513
                                    replace q513 := eq_true q513
                                    obtain ⟨Ao63, co63, eo63⟩ := Kd.R_slice HO_12.out
                                    subst eo63
                                    go_wp2_with (first | ((with_reducible refine gate_callee (f := 53) rfl ?_); refine goesL_ (some 122) rfl rfl Try.func53 (by kernel_rfl) rfl #[.slice Ao63 t501.length co63, .int .i64 (wrap64 (1 + t499)), .int .i64 ((rd_T109 x8_1 (ji40)).f1)] rfl (by (try simp only [List.map_toArray, List.map_cons, List.map_nil]); first | done | (simp only [hji40]; rfl) | rfl | (simp only [List.length_drop, List.length_take]; rfl)) ?_; (with_reducible refine (topo_Move.calls kj19 _ _ t501 (wrap64 (1 + t499)) ((rd_T109 x8_1 (ji40)).f1) t514 t515 _ ?side1 ?side2 A43.out).mono ?_); (case side1 => repeat (first | exact (Kd.R_reads' HO_12.out).2.2 | (with_reducible refine Kd.C_alloc ?_ _) | (with_reducible refine Kd.C_drewN ?_ _) | (with_reducible refine Kd.C_drew ?_))); (case side2 => exact (Kd.R_reads' HO_12.out).2.1); rintro e w64 ⟨v516, rfl, ho0, hb⟩; refine ⟨_, rfl, ?_⟩; have n0_ := Aside0.mk (Kd.R_elder' (by (with_reducible repeat (first | apply Kd.R_alloc | apply Kd.R_drewN | apply Kd.R_drew)); exact HO_8.out) (Kd.R_base ho0) hb); have n1_ := Aside0.mk (Kd.R_elder' (by (with_reducible repeat (first | apply Kd.R_alloc | apply Kd.R_drewN | apply Kd.R_drew)); exact HO_12.out) (Kd.R_base ho0) hb); have n2_ := Aside0.mk (Kd.R_lower (Kd.R_new' (Kd.R_new' ho0 (Kd.R_lt (by (with_reducible repeat (first | apply Kd.R_alloc | apply Kd.R_drewN | apply Kd.R_drew)); exact HO_8.out))) (Kd.R_lt (by (with_reducible repeat (first | apply Kd.R_alloc | apply Kd.R_drewN | apply Kd.R_drew)); exact HO_12.out))) (below_size (by repeat (first | (with_reducible first | exact HB.out | apply below_alloc | apply pw_below_drewN | apply below_drew1) | exact HB.out)))); have n3_ := Aside0.mk (below_step (by repeat (first | (with_reducible first | exact HB.out | apply below_alloc | apply pw_below_drewN | apply below_drew1) | exact HB.out)) hb); clear HO_8; clear HO_12; clear HB; have HO_8 := n0_; have HO_12 := n1_; have HO517 := n2_; have HB := n3_; clear n0_ n1_ n2_ n3_; (try clear hb); (try clear hb2); (try clear hk); (try clear hi); (try clear ho0); have p518 : 0 ≤ ((ji40) : Int) := of_decide_eq_true (by first | (with_reducible assumption) | assumption); have q518 : (ji40) < (x8_1.length : Int) := of_decide_eq_true (by first | (with_reducible assumption) | assumption); obtain ⟨ad518, e518, hx518_0, hx518_1, hx518_2⟩ := at_T109 (Kd.R_reads' HO_8.out).2.2 (ji40) p518 q518; (try rw [← Nbq47.out] at hx518_2); obtain rfl : ad513 = ad518 := (by injection e518); replace p518 := eq_true p518; replace q518 := eq_true q518; have p519 : 0 ≤ ((ji44) : Int) := of_decide_eq_true (by first | (with_reducible assumption) | assumption); have q519 : (ji44) < (x8_1.length : Int) := of_decide_eq_true (by first | (with_reducible assumption) | assumption); obtain ⟨ad519, e519, hx519_0, hx519_1, hx519_2⟩ := at_T109 (Kd.R_reads' HO_8.out).2.2 (ji44) p519 q519; (try rw [← Nbq47.out] at hx519_2); obtain rfl : ad513 = ad519 := (by injection e519); replace p519 := eq_true p519; replace q519 := eq_true q519; obtain ⟨Ao65, co65, eo65⟩ := Kd.R_slice HO517.out; subst eo65) | (go_at_call 48; (with_reducible refine (tributarykit_SameMembers.calls kj19 _ _ t514 _ _ x8_1 false _ ?side1 ?side2 ?side3 ?side4 A56.out).mono ?_); (case side1 => repeat (first | exact (Kd.R_reads' HO517.out).2.2 | (with_reducible refine Kd.C_alloc ?_ _) | (with_reducible refine Kd.C_drewN ?_ _) | (with_reducible refine Kd.C_drew ?_))); (case side2 => exact (Kd.R_reads' HO517.out).2.1); (case side3 => repeat (first | exact (Kd.R_reads' HO_8.out).2.2 | (with_reducible refine Kd.C_alloc ?_ _) | (with_reducible refine Kd.C_drewN ?_ _) | (with_reducible refine Kd.C_drew ?_))); (case side4 => exact (Kd.R_reads' HO_8.out).2.1); rintro e w' ⟨rfl, ⟨nd, rfl⟩⟩))
                                    go_ret
                                    exact ⟨by first | rfl | (simp [errW_none, errW_some] <;> rfl) | (simp only [← hji40, ← hji44]; first | rfl | (simp [errW_none, errW_some] <;> rfl)) | (simp [*, errW_none, errW_some] <;> rfl), by repeat (first | (with_reducible first | exact HB.out | apply below_alloc | apply pw_below_drewN | apply below_drew1) | exact HB.out)⟩
                                · rw [if_neg c55] at H
                                  have c55b0 : (t515 == 0) = false := beq_eq_false_iff_ne.mpr c55
                                  have c55b1 : (t515 != 0) = true := bne_iff_ne.mpr c55
                                  obtain rfl := Option.some.inj H
                                  have p513 : 0 ≤ ((ji40) : Int) := of_decide_eq_true (by first | (with_reducible assumption) | assumption)
                                  have q513 : (ji40) < (x8_1.length : Int) := of_decide_eq_true (by first | (with_reducible assumption) | assumption)
                                  obtain ⟨ad513, e513, hx513_0, hx513_1, hx513_2⟩ := at_T109 (Kd.R_reads' HO_8.out).2.2 (ji40) p513 q513
                                  (try rw [← Nbq47.out] at hx513_2)
                                  cases e513
                                  replace p513 := eq_true p513
                                  replace q513 := eq_true q513
                                  obtain ⟨Ao66, co66, eo66⟩ := Kd.R_slice HO_12.out
                                  subst eo66
                                  go_wp2_with (first | ((with_reducible refine gate_callee (f := 53) rfl ?_); refine goesL_ (some 122) rfl rfl Try.func53 (by kernel_rfl) rfl #[.slice Ao66 t501.length co66, .int .i64 (wrap64 (1 + t499)), .int .i64 ((rd_T109 x8_1 (ji40)).f1)] rfl (by (try simp only [List.map_toArray, List.map_cons, List.map_nil]); first | done | (simp only [hji40]; rfl) | rfl | (simp only [List.length_drop, List.length_take]; rfl)) ?_; (with_reducible refine (topo_Move.calls kj19 _ _ t501 (wrap64 (1 + t499)) ((rd_T109 x8_1 (ji40)).f1) t514 t515 _ ?side1 ?side2 A43.out).mono ?_); (case side1 => repeat (first | exact (Kd.R_reads' HO_12.out).2.2 | (with_reducible refine Kd.C_alloc ?_ _) | (with_reducible refine Kd.C_drewN ?_ _) | (with_reducible refine Kd.C_drew ?_))); (case side2 => exact (Kd.R_reads' HO_12.out).2.1); rintro e w67 ⟨v516, rfl, ho0, hb⟩; refine ⟨_, rfl, ?_⟩; have n0_ := Aside0.mk (Kd.R_elder' (by (with_reducible repeat (first | apply Kd.R_alloc | apply Kd.R_drewN | apply Kd.R_drew)); exact HO_8.out) (Kd.R_base ho0) hb); have n1_ := Aside0.mk (Kd.R_elder' (by (with_reducible repeat (first | apply Kd.R_alloc | apply Kd.R_drewN | apply Kd.R_drew)); exact HO_12.out) (Kd.R_base ho0) hb); have n2_ := Aside0.mk (Kd.R_lower (Kd.R_new' (Kd.R_new' ho0 (Kd.R_lt (by (with_reducible repeat (first | apply Kd.R_alloc | apply Kd.R_drewN | apply Kd.R_drew)); exact HO_8.out))) (Kd.R_lt (by (with_reducible repeat (first | apply Kd.R_alloc | apply Kd.R_drewN | apply Kd.R_drew)); exact HO_12.out))) (below_size (by repeat (first | (with_reducible first | exact HB.out | apply below_alloc | apply pw_below_drewN | apply below_drew1) | exact HB.out)))); have n3_ := Aside0.mk (below_step (by repeat (first | (with_reducible first | exact HB.out | apply below_alloc | apply pw_below_drewN | apply below_drew1) | exact HB.out)) hb); clear HO_8; clear HO_12; clear HB; have HO_8 := n0_; have HO_12 := n1_; have HO517 := n2_; have HB := n3_; clear n0_ n1_ n2_ n3_; (try clear hb); (try clear hb2); (try clear hk); (try clear hi); (try clear ho0); have p518 : 0 ≤ ((ji40) : Int) := of_decide_eq_true (by first | (with_reducible assumption) | assumption); have q518 : (ji40) < (x8_1.length : Int) := of_decide_eq_true (by first | (with_reducible assumption) | assumption); obtain ⟨ad518, e518, hx518_0, hx518_1, hx518_2⟩ := at_T109 (Kd.R_reads' HO_8.out).2.2 (ji40) p518 q518; (try rw [← Nbq47.out] at hx518_2); obtain rfl : ad513 = ad518 := (by injection e518); replace p518 := eq_true p518; replace q518 := eq_true q518; have p519 : 0 ≤ ((ji44) : Int) := of_decide_eq_true (by first | (with_reducible assumption) | assumption); have q519 : (ji44) < (x8_1.length : Int) := of_decide_eq_true (by first | (with_reducible assumption) | assumption); obtain ⟨ad519, e519, hx519_0, hx519_1, hx519_2⟩ := at_T109 (Kd.R_reads' HO_8.out).2.2 (ji44) p519 q519; (try rw [← Nbq47.out] at hx519_2); obtain rfl : ad513 = ad519 := (by injection e519); replace p519 := eq_true p519; replace q519 := eq_true q519))
                                  go_ret
                                  exact ⟨by first | rfl | (simp [errW_none, errW_some] <;> rfl) | (simp only [← hji40, ← hji44]; first | rfl | (simp [errW_none, errW_some] <;> rfl)) | (simp [*, errW_none, errW_some] <;> rfl), by repeat (first | (with_reducible first | exact HB.out | apply below_alloc | apply pw_below_drewN | apply below_drew1) | exact HB.out)⟩
                              · replace c54 := Bool.eq_false_iff.mpr c54
                                subst c54
                                have H1 : (some false) = some r := by rw [if_neg (show ¬ (false = true) by decide)] at H; exact H
                                clear H
                                have H := H1
                                clear H1
                                obtain rfl := Option.some.inj H
                                have p513 : 0 ≤ ((ji40) : Int) := of_decide_eq_true (by first | (with_reducible assumption) | assumption)
                                have q513 : (ji40) < (x8_1.length : Int) := of_decide_eq_true (by first | (with_reducible assumption) | assumption)
                                obtain ⟨ad513, e513, hx513_0, hx513_1, hx513_2⟩ := at_T109 (Kd.R_reads' HO_8.out).2.2 (ji40) p513 q513
                                (try rw [← Nbq47.out] at hx513_2)
                                cases e513
                                replace p513 := eq_true p513
                                replace q513 := eq_true q513
                                obtain ⟨Ao68, co68, eo68⟩ := Kd.R_slice HO_12.out
                                subst eo68
                                go_wp2_with (first | ((with_reducible refine gate_callee (f := 53) rfl ?_); refine goesL_ (some 122) rfl rfl Try.func53 (by kernel_rfl) rfl #[.slice Ao68 t501.length co68, .int .i64 (wrap64 (1 + t499)), .int .i64 ((rd_T109 x8_1 (ji40)).f1)] rfl (by (try simp only [List.map_toArray, List.map_cons, List.map_nil]); first | done | (simp only [hji40]; rfl) | rfl | (simp only [List.length_drop, List.length_take]; rfl)) ?_; (with_reducible refine (topo_Move.calls kj19 _ _ t501 (wrap64 (1 + t499)) ((rd_T109 x8_1 (ji40)).f1) t514 t515 _ ?side1 ?side2 A43.out).mono ?_); (case side1 => repeat (first | exact (Kd.R_reads' HO_12.out).2.2 | (with_reducible refine Kd.C_alloc ?_ _) | (with_reducible refine Kd.C_drewN ?_ _) | (with_reducible refine Kd.C_drew ?_))); (case side2 => exact (Kd.R_reads' HO_12.out).2.1); rintro e w69 ⟨v516, rfl, ho0, hb⟩; refine ⟨_, rfl, ?_⟩; have n0_ := Aside0.mk (Kd.R_elder' (by (with_reducible repeat (first | apply Kd.R_alloc | apply Kd.R_drewN | apply Kd.R_drew)); exact HO_8.out) (Kd.R_base ho0) hb); have n1_ := Aside0.mk (Kd.R_elder' (by (with_reducible repeat (first | apply Kd.R_alloc | apply Kd.R_drewN | apply Kd.R_drew)); exact HO_12.out) (Kd.R_base ho0) hb); have n2_ := Aside0.mk (Kd.R_lower (Kd.R_new' (Kd.R_new' ho0 (Kd.R_lt (by (with_reducible repeat (first | apply Kd.R_alloc | apply Kd.R_drewN | apply Kd.R_drew)); exact HO_8.out))) (Kd.R_lt (by (with_reducible repeat (first | apply Kd.R_alloc | apply Kd.R_drewN | apply Kd.R_drew)); exact HO_12.out))) (below_size (by repeat (first | (with_reducible first | exact HB.out | apply below_alloc | apply pw_below_drewN | apply below_drew1) | exact HB.out)))); have n3_ := Aside0.mk (below_step (by repeat (first | (with_reducible first | exact HB.out | apply below_alloc | apply pw_below_drewN | apply below_drew1) | exact HB.out)) hb); clear HO_8; clear HO_12; clear HB; have HO_8 := n0_; have HO_12 := n1_; have HO517 := n2_; have HB := n3_; clear n0_ n1_ n2_ n3_; (try clear hb); (try clear hb2); (try clear hk); (try clear hi); (try clear ho0); have p518 : 0 ≤ ((ji40) : Int) := of_decide_eq_true (by first | (with_reducible assumption) | assumption); have q518 : (ji40) < (x8_1.length : Int) := of_decide_eq_true (by first | (with_reducible assumption) | assumption); obtain ⟨ad518, e518, hx518_0, hx518_1, hx518_2⟩ := at_T109 (Kd.R_reads' HO_8.out).2.2 (ji40) p518 q518; (try rw [← Nbq47.out] at hx518_2); obtain rfl : ad513 = ad518 := (by injection e518); replace p518 := eq_true p518; replace q518 := eq_true q518; have p519 : 0 ≤ ((ji44) : Int) := of_decide_eq_true (by first | (with_reducible assumption) | assumption); have q519 : (ji44) < (x8_1.length : Int) := of_decide_eq_true (by first | (with_reducible assumption) | assumption); obtain ⟨ad519, e519, hx519_0, hx519_1, hx519_2⟩ := at_T109 (Kd.R_reads' HO_8.out).2.2 (ji44) p519 q519; (try rw [← Nbq47.out] at hx519_2); obtain rfl : ad513 = ad519 := (by injection e519); replace p519 := eq_true p519; replace q519 := eq_true q519))
                                go_ret
                                exact ⟨by first | rfl | (simp [errW_none, errW_some] <;> rfl) | (simp only [← hji40, ← hji44]; first | rfl | (simp [errW_none, errW_some] <;> rfl)) | (simp [*, errW_none, errW_some] <;> rfl), by repeat (first | (with_reducible first | exact HB.out | apply below_alloc | apply pw_below_drewN | apply below_drew1) | exact HB.out)⟩
                          · rw [if_neg c46] at H
                            exact absurd H (by simp)
                        · rw [if_neg c45] at H
                          exact absurd H (by simp)
                      · rw [if_neg c42] at H
                        exact absurd H (by simp)
                    · rw [if_neg c41] at H
                      exact absurd H (by simp)
                  · replace c39 := Bool.eq_false_iff.mpr c39
                    subst c39
                    have H1 : (if t490 = true then (some ((t501.length : Int) == 0)) else (some false)) = some r := by rw [if_neg (show ¬ (false = true) by decide)] at H; exact H
                    clear H
                    have H := H1
                    clear H1
                    by_cases c70 : t490 = true
                    · subst c70
                      have H1 : (some ((t501.length : Int) == 0)) = some r := by rw [if_pos rfl] at H; exact H
                      clear H
                      have H := H1
                      clear H1
                      obtain rfl := Option.some.inj H
                      obtain ⟨Ao71, co71, eo71⟩ := Kd.R_slice HO_12.out
                      subst eo71
                      go_wp2
                      go_ret
                      exact ⟨by first | rfl | (simp [errW_none, errW_some] <;> rfl) | (simp [*, errW_none, errW_some] <;> rfl), by repeat (first | (with_reducible first | exact HB.out | apply below_alloc | apply pw_below_drewN | apply below_drew1) | exact HB.out)⟩
                    · replace c70 := Bool.eq_false_iff.mpr c70
                      subst c70
                      have H1 : (some false) = some r := by rw [if_neg (show ¬ (false = true) by decide)] at H; exact H
                      clear H
                      have H := H1
                      clear H1
                      obtain rfl := Option.some.inj H
                      go_wp2
                      go_ret
                      exact ⟨by first | rfl | (simp [errW_none, errW_some] <;> rfl) | (simp [*, errW_none, errW_some] <;> rfl), by repeat (first | (with_reducible first | exact HB.out | apply below_alloc | apply pw_below_drewN | apply below_drew1) | exact HB.out)⟩
          · rw [if_neg c19] at H
            have c19b0 : (t506 == 0) = false := beq_eq_false_iff_ne.mpr c19
            have c19b1 : (t506 != 0) = true := bne_iff_ne.mpr c19
            obtain rfl := Option.some.inj H
            obtain ⟨Ao72, co72, eo72⟩ := Kd.R_slice HO_8.out
            subst eo72
            go_wp2_with (first | ((with_reducible refine gate_callee (f := 36) rfl ?_); refine goesL_ (some 44) rfl rfl Try.func36 (by kernel_rfl) rfl #[.int .i64 a1, .int .i64 (x8_1.length : Int)] rfl (by (try simp only [List.map_toArray, List.map_cons, List.map_nil]); first | done | rfl | (simp only [List.length_drop, List.length_take]; rfl)) ?_; (with_reducible refine (tributarykit_Pick.calls a1 (x8_1.length : Int) t499 _ A15.out).mono ?_); rintro e w' ⟨rfl, ⟨nd, rfl⟩⟩; refine ⟨_, rfl, ?_⟩) | ((with_reducible refine gate_callee (f := 36) rfl ?_); refine goesL_ (some 49) rfl rfl Try.func36 (by kernel_rfl) rfl #[.int .i64 a2, .int .i64 (x8_1.length : Int)] rfl (by (try simp only [List.map_toArray, List.map_cons, List.map_nil]); first | done | rfl | (simp only [List.length_drop, List.length_take]; rfl)) ?_; (with_reducible refine (tributarykit_Pick.calls a2 (x8_1.length : Int) t500 _ A16.out).mono ?_); rintro e w' ⟨rfl, ⟨nd, rfl⟩⟩; refine ⟨_, rfl, ?_⟩) | ((with_reducible refine gate_callee (f := 53) rfl ?_); refine goesL_ (some 55) rfl rfl Try.func53 (by kernel_rfl) rfl #[.slice Ao72 x8_1.length co72, .int .i64 (wrap64 (1 + t499)), .int .i64 (wrap64 (1 + t500))] rfl (by (try simp only [List.map_toArray, List.map_cons, List.map_nil]); first | done | rfl | (simp only [List.length_drop, List.length_take]; rfl)) ?_; (with_reducible refine (topo_Move.calls k1 _ _ x8_1 (wrap64 (1 + t499)) (wrap64 (1 + t500)) t501 t502 _ ?side1 ?side2 A17.out).mono ?_); (case side1 => repeat (first | exact (Kd.R_reads' HO_8.out).2.2 | (with_reducible refine Kd.C_alloc ?_ _) | (with_reducible refine Kd.C_drewN ?_ _) | (with_reducible refine Kd.C_drew ?_))); (case side2 => exact (Kd.R_reads' HO_8.out).2.1); rintro e w73 ⟨v503, rfl, ho0, hb⟩; refine ⟨_, rfl, ?_⟩; have n0_ := Aside0.mk (Kd.R_elder' (by (with_reducible repeat (first | apply Kd.R_alloc | apply Kd.R_drewN | apply Kd.R_drew)); exact HO_8.out) (Kd.R_base ho0) hb); have n1_ := Aside0.mk (Kd.R_lower (Kd.R_new' ho0 (Kd.R_lt (by (with_reducible repeat (first | apply Kd.R_alloc | apply Kd.R_drewN | apply Kd.R_drew)); exact HO_8.out))) (below_size (by repeat (first | (with_reducible first | exact HB.out | apply below_alloc | apply pw_below_drewN | apply below_drew1) | exact HB.out)))); have n2_ := Aside0.mk (below_step (by repeat (first | (with_reducible first | exact HB.out | apply below_alloc | apply pw_below_drewN | apply below_drew1) | exact HB.out)) hb); clear HO_8; clear HB; have HO_8 := n0_; have HO504 := n1_; have HB := n2_; clear n0_ n1_ n2_; (try clear hb); (try clear hb2); (try clear hk); (try clear hi); (try clear ho0)) | ((with_reducible refine gate_callee (f := 39) rfl ?_); refine goesL_ (some 61) rfl rfl Try.func39 (by kernel_rfl) rfl #[.slice Ao72 x8_1.length co72, .int .i64 (wrap64 (1 + t500))] rfl (by (try simp only [List.map_toArray, List.map_cons, List.map_nil]); first | done | rfl | (simp only [List.length_drop, List.length_take]; rfl)) ?_; (with_reducible refine (topo_Way.calls k1 _ _ x8_1 (wrap64 (1 + t500)) t505 t506 _ ?side1 ?side2 A18.out).mono ?_); (case side1 => repeat (first | exact (Kd.R_reads' HO_8.out).2.2 | (with_reducible refine Kd.C_alloc ?_ _) | (with_reducible refine Kd.C_drewN ?_ _) | (with_reducible refine Kd.C_drew ?_))); (case side2 => exact (Kd.R_reads' HO_8.out).2.1); rintro e w74 ⟨v507, rfl, ho0, hb⟩; refine ⟨_, rfl, ?_⟩; have n0_ := Aside0.mk (Kd.R_below (by (with_reducible repeat (first | apply Kd.R_alloc | apply Kd.R_drewN | apply Kd.R_drew)); exact HO_8.out) hb); have n1_ := Aside0.mk (Kd.R_below (by (with_reducible repeat (first | apply Kd.R_alloc | apply Kd.R_drewN | apply Kd.R_drew)); exact HO504.out) hb); have n2_ := Aside0.mk (Kd.R_lower ho0 (below_size (by repeat (first | (with_reducible first | exact HB.out | apply below_alloc | apply pw_below_drewN | apply below_drew1) | exact HB.out)))); have n3_ := Aside0.mk (below_step (by repeat (first | (with_reducible first | exact HB.out | apply below_alloc | apply pw_below_drewN | apply below_drew1) | exact HB.out)) hb); clear HO_8; clear HO504; clear HB; have HO_8 := n0_; have HO504 := n1_; have HO508 := n2_; have HB := n3_; clear n0_ n1_ n2_ n3_; (try clear hb); (try clear hb2); (try clear hk); (try clear hi); (try clear ho0)))
            go_ret
            exact ⟨by first | rfl | (simp [errW_none, errW_some] <;> rfl) | (simp [*, errW_none, errW_some] <;> rfl), by repeat (first | (with_reducible first | exact HB.out | apply below_alloc | apply pw_below_drewN | apply below_drew1) | exact HB.out)⟩

end Go.Proofs.YtadcahnoghnkcaaX.P27
