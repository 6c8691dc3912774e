/- Words, walks and plain laws for the row, packed: each text in a section of its own. Conditions stand with each theorem. -/
import Derived.Test.YtdelfhahbngcfaaKPastSetsa
import Derived.Test.YtdelfhahbngcfaaKPastSetsb
import Derived.Test.YtdelfhahbngcfaaKPastSetsc
import Derived.Test.YtdelfhahbngcfaaKPastSetsd
import Derived.Test.YtdelfhahbngcfaaKPastSetse
import Derived.Test.YtdelfhahbngcfaaKPastSetsf
section
namespace Go.Proofs.YtdelfhahbngcfaaX.P07
open Go.RowKit Go.Proofs.YtdelfhahbngcfaaW.PrintWords Go.Proofs.YtdelfhahbngcfaaW.PrintLast Go.Proofs.YtdelfhahbngcfaaW.PrintMore
attribute [local go_sem] max2_int min2_int max_two min_two max_three min_three max_four min_four   -- for this text's walks alone
set_option linter.unusedVariables false
set_option linter.unusedSimpArgs false
section
def tributaryref07_Of.l0 : Nat → List (S41) → List (S60) → Int → Option ((List (S60)) × Int)
  | 0, _, _, _ => none
  | k + 1, x0, x4, x5 => if x5 < (x0.length : Int) then (if 0 ≤ x5 then ((tributaryref06_Check.f ((rd_T41 x0 x5).f0) ((rd_T41 x0 x5).f1)).bind fun t205 => (if t205 = 0 then (if x4.length < 5864062014805 then (tributaryref07_Of.l0 k x0 (x4 ++ [(⟨(rd_T41 x0 x5).f0, (rd_T41 x0 x5).f1, (rd_T41 x0 x5).f1⟩ : S60)]) (wrap64 (x5 + 1))) else (none)) else (some (([] : List (S60)), 2)))) else (none)) else ((tributaryref07_tidy.f x4).bind fun bt212 => (some (bt212.1, bt212.2)))
def tributaryref07_Of.f (k : Nat) (l0 : List (S41)) : Option ((List (S60)) × Int) := tributaryref07_Of.l0 k l0 ([] : List (S60)) 0
def tributaryref07_Of.T7 : Bool × List (List Nat × List Nat) := (true, [([], []), ([], []), ([], []), ([1, 2], [1, 2]), ([3], [3]), ([4], [4]), ([], []), ([], []), ([6, 7], [6, 7]), ([8], [8]), ([9], [9]), ([], []), ([], []), ([11, 12], [11, 12]), ([13], [13]), ([14], [14]), ([5, 10, 15], [5, 10, 15]), ([16], [16]), ([0, 17], [0, 17]), ([18, 18, 0, 1, 2, 3, 4, 5, 6, 7, 8, 9, 10, 11, 12, 13, 14, 15, 16, 17, 18], [0, 18])])
def tributaryref07_Of.B7 : List Nat := [0, 0, 0, 6, 14, 30, 0, 0, 192, 448, 960, 0, 0, 6144, 14336, 30720, 65534, 131070, 262143, 524287]
theorem tributaryref07_Of.tab7 : rtab .any (opsOf Try.f32 7) = tributaryref07_Of.T7 := by kernel_rfl
theorem tributaryref07_Of.bits7 : waitsOk tributaryref07_Of.T7.2 tributaryref07_Of.B7 = true := by kernel_rfl
set_option maxHeartbeats 8000000 in
set_option maxRecDepth 100000 in
theorem tributaryref07_Of.calls (k : Nat) (A0 : Option Addr) (c0 : Nat) (l0 : List (S41)) (r1 : List (S60)) (r2 : Int) (w : World) (hr0 : Kd.C k41 w A0 l0.length l0) (hc0 : l0.length ≤ c0) (h : tributaryref07_Of.f k l0 = some (r1, r2)) :
    Calls Try.prog 32 #[.slice A0 l0.length c0] w fun e w' => ∃ v0_ : Value, e = .returned (.tuple #[v0_, .int .i64 r2]) ∧ Kd.R k60 60 w' w.heap.size (fun _ => True) v0_ r1 ∧ Below w.heap.size w w' := by
  have hu41 := Try.underlying41
  have hu60 := Try.underlying60
  have HR0 := Aside0.mk hr0
  have HC0 := Aside0.mk hc0
  clear hr0 hc0
  have HB := Aside0.mk (Below.refl w.heap.size w)
  have H : (tributaryref07_Of.l0 k l0 ([] : List (S60)) 0) = some (r1, r2) := h
  clear h
  have H' := Aside0.mk H
  clear H
  go_enter Try.func32, Try.ntmps32
  go_wp2
  go_loopg [4, 5] k (fun kq v4 v5 w' => ∃ (x4_1 : List (S60)) (x5_1 : Int), v5 = .int .i64 x5_1 ∧ Aside0 (tributaryref07_Of.l0 kq l0 x4_1 x5_1 = some (r1, r2)) ∧ Aside0 (kq ≤ k) ∧ Aside0 (Kd.R k60 60 w' w.heap.size (fun _ => True) v4 x4_1) ∧ Aside0 (Below w.heap.size w w'))
  case atStart => exact ⟨(([] : List (S60))), (0), (by first | rfl | (simp; done) | (simp [*]; done)), H', ⟨Nat.le_refl _⟩, ⟨by first | exact Kd.R_nil _ _ _ _ _ | exact Kd.N_nil _ _ _ _ _ | exact Kd.V_nil _ _ _ _ _ | exact Kd.Q_nil _ _ _ _ _ | exact Kd.S_nil _ _ _ _ _⟩, ⟨by repeat (first | (with_reducible first | exact HB.out | apply below_alloc | apply pw_below_drewN | apply below_drew1) | exact HB.out)⟩⟩
  case round =>
    clear H'
    obtain ⟨x4_1, x5_1, rfl, HA, HK1, HO_4, HB⟩ := hrel
    cases gk with
    | zero => exact absurd HA.out (by simp [tributaryref07_Of.l0])
    | succ k1 =>
      have H := HA.out
      clear HA
      simp only [tributaryref07_Of.l0] at H
      by_cases c2 : x5_1 < (l0.length : Int)
      · rw [if_pos c2] at H
        have c2b0 : decide (x5_1 < (l0.length : Int)) = true := decide_eq_true c2
        clear c2
        by_cases c3 : 0 ≤ x5_1
        · rw [if_pos c3] at H
          have c3b0 : decide (0 ≤ x5_1) = true := decide_eq_true c3
          clear c3
          replace H := Option.bind_eq_some_iff.mp H
          obtain ⟨t205, A40, H⟩ := H
          replace H : (if t205 = 0 then (if x4_1.length < 5864062014805 then (tributaryref07_Of.l0 k1 l0 (x4_1 ++ [(⟨(rd_T41 l0 x5_1).f0, (rd_T41 l0 x5_1).f1, (rd_T41 l0 x5_1).f1⟩ : S60)]) (wrap64 (x5_1 + 1))) else (none)) else (some (([] : List (S60)), 2))) = some (r1, r2) := H
          have A4 := Aside0.mk A40
          clear A40
          by_cases c5 : t205 = 0
          · rw [if_pos c5] at H
            have c5b0 : (t205 == 0) = true := beq_iff_eq.mpr c5
            have c5b1 : (t205 != 0) = false := bne_eq_false_iff_eq.mpr c5
            clear c5
            by_cases c6 : x4_1.length < 5864062014805
            · rw [if_pos c6] at H
              have LMc6 := Aside0.mk c6
              clear c6
              obtain ⟨y209, hy209⟩ : ∃ y_ : List (S60), y_ = (x4_1 ++ [(⟨(rd_T41 l0 x5_1).f0, (rd_T41 l0 x5_1).f1, (rd_T41 l0 x5_1).f1⟩ : S60)]) := ⟨_, rfl⟩
              replace H : (tributaryref07_Of.l0 k1 l0 y209 (wrap64 (x5_1 + 1))) = some (r1, r2) := by first | (rw [hy209]; with_reducible exact H) | (have H2_ := (Option.bind_some _ _).symm.trans H; rw [hy209]; with_reducible exact H2_) | (have H2_ := (Option.bind_some _ _).symm.trans H; with_reducible exact H2_) | with_reducible exact H | (rw [hy209]; exact H) | exact H
              have Ny209 := Aside0.mk hy209
              clear hy209
              have H' := Aside0.mk H
              clear H
              have p204 : 0 ≤ (x5_1 : Int) := of_decide_eq_true (by first | (with_reducible assumption) | assumption)
              have q204 : x5_1 < (l0.length : Int) := of_decide_eq_true (by first | (with_reducible assumption) | assumption)
              obtain ⟨ad204, e204, hx204_0, hx204_1⟩ := at_T41 HR0.out x5_1 p204 q204
              cases e204
              replace hx204_0 := (HB.out.cell (World.block_lt_of_cell? w _ hx204_0)).trans hx204_0
              replace hx204_1 := (HB.out.cell (World.block_lt_of_cell? w _ hx204_1)).trans hx204_1
              replace p204 := eq_true p204
              replace q204 := eq_true q204
              try go_wp2_with (first | ((with_reducible refine gate_callee (f := 53) rfl ?_); refine goesL_ (some 16) rfl rfl Try.func53 (by kernel_rfl) rfl #[.agg #[.int .i64 ((rd_T41 l0 x5_1).f0), .int .i64 ((rd_T41 l0 x5_1).f1)]] rfl (by (try simp only [List.map_toArray, List.map_cons, List.map_nil]); first | done | rfl | (simp only [List.length_drop, List.length_take]; rfl)) ?_; (with_reducible refine (tributaryref06_Check.calls ((rd_T41 l0 x5_1).f0) ((rd_T41 l0 x5_1).f1) t205 _ A4.out).mono ?_); rintro e w7 ⟨rfl, hb⟩; refine ⟨_, rfl, ?_⟩; have n0_ := Aside0.mk (Kd.R_below (by (with_reducible repeat (first | apply Kd.R_alloc | apply Kd.R_drewN | apply Kd.R_drew)); exact HO_4.out) hb); have n1_ := Aside0.mk (below_step (by repeat (first | (with_reducible first | exact HB.out | apply below_alloc | apply pw_below_drewN | apply below_drew1) | exact HB.out)) hb); clear HO_4; clear HB; have HO_4 := n0_; have HB := n1_; clear n0_ n1_; (try clear hb); (try clear hb2); (try clear hk); (try clear hi)))
              have n0_ := Aside0.mk (Kd.R_drew HO_4.out)
              have n1_ := Aside0.mk (below_drew1 HB.out)
              clear HO_4
              clear HB
              have HO_4 := n0_
              have HB := n1_
              clear n0_ n1_
              have p206 : 0 ≤ (x5_1 : Int) := of_decide_eq_true (by first | (with_reducible assumption) | assumption)
              have q206 : x5_1 < (l0.length : Int) := of_decide_eq_true (by first | (with_reducible assumption) | assumption)
              obtain ⟨ad206, e206, hx206_0, hx206_1⟩ := at_T41 HR0.out x5_1 p206 q206
              have hw206_1 := hx206_1
              have hw206_0 := hx206_0
              obtain rfl : ad204 = ad206 := (by injection e206)
              replace hx206_0 := (HB.out.cell (World.block_lt_of_cell? w _ hx206_0)).trans hx206_0
              replace hx206_1 := (HB.out.cell (World.block_lt_of_cell? w _ hx206_1)).trans hx206_1
              replace p206 := eq_true p206
              replace q206 := eq_true q206
              have p207 : 0 ≤ (x5_1 : Int) := of_decide_eq_true (by first | (with_reducible assumption) | assumption)
              have q207 : x5_1 < (l0.length : Int) := of_decide_eq_true (by first | (with_reducible assumption) | assumption)
              obtain ⟨ad207, e207, hx207_0, hx207_1⟩ := at_T41 HR0.out x5_1 p207 q207
              have hw207_1 := hx207_1
              have hw207_0 := hx207_0
              obtain rfl : ad204 = ad207 := (by injection e207)
              replace hx207_0 := (HB.out.cell (World.block_lt_of_cell? w _ hx207_0)).trans hx207_0
              replace hx207_1 := (HB.out.cell (World.block_lt_of_cell? w _ hx207_1)).trans hx207_1
              replace p207 := eq_true p207
              replace q207 := eq_true q207
              have p208 : 0 ≤ (x5_1 : Int) := of_decide_eq_true (by first | (with_reducible assumption) | assumption)
              have q208 : x5_1 < (l0.length : Int) := of_decide_eq_true (by first | (with_reducible assumption) | assumption)
              obtain ⟨ad208, e208, hx208_0, hx208_1⟩ := at_T41 HR0.out x5_1 p208 q208
              have hw208_1 := hx208_1
              have hw208_0 := hx208_0
              obtain rfl : ad204 = ad208 := (by injection e208)
              replace hx208_0 := (HB.out.cell (World.block_lt_of_cell? w _ hx208_0)).trans hx208_0
              replace hx208_1 := (HB.out.cell (World.block_lt_of_cell? w _ hx208_1)).trans hx208_1
              replace p208 := eq_true p208
              replace q208 := eq_true q208
              refine start_ (n := 20) (S := fun w' => w'.cell? (ad204.add ((x5_1).toNat * 2)) = some (.int .i64 ((rd_T41 l0 x5_1).f0)) ∧ w'.cell? ⟨(ad204.add ((x5_1).toNat * 2)).block, (ad204.add ((x5_1).toNat * 2)).off + 1, none⟩ = some (.int .i64 ((rd_T41 l0 x5_1).f1)) ∧ w'.cell? (ad204.add ((x5_1).toNat * 2)) = some (.int .i64 ((rd_T41 l0 x5_1).f0)) ∧ w'.cell? ⟨(ad204.add ((x5_1).toNat * 2)).block, (ad204.add ((x5_1).toNat * 2)).off + 1, none⟩ = some (.int .i64 ((rd_T41 l0 x5_1).f1)) ∧ w'.cell? (ad204.add ((x5_1).toNat * 2)) = some (.int .i64 ((rd_T41 l0 x5_1).f0)) ∧ w'.cell? ⟨(ad204.add ((x5_1).toNat * 2)).block, (ad204.add ((x5_1).toNat * 2)).off + 1, none⟩ = some (.int .i64 ((rd_T41 l0 x5_1).f1))) (ds := []) #[false, false, false, false, false, false, false, false, false, false, false, false, false, false, false, false, false, false, false, false] (by kernel_rfl) rfl rfl ⟨((HB.out.cell (World.block_lt_of_cell? w _ hw206_0)).trans hw206_0), ((HB.out.cell (World.block_lt_of_cell? w _ hw206_1)).trans hw206_1), ((HB.out.cell (World.block_lt_of_cell? w _ hw207_0)).trans hw207_0), ((HB.out.cell (World.block_lt_of_cell? w _ hw207_1)).trans hw207_1), ((HB.out.cell (World.block_lt_of_cell? w _ hw208_0)).trans hw208_0), ((HB.out.cell (World.block_lt_of_cell? w _ hw208_1)).trans hw208_1)⟩ (fun hHeld => ?_); refine with_tabW tributaryref07_Of.tab7 tributaryref07_Of.bits7 (fun HT_ HW_ => ?_)
              generalize w7.drew = w8 at HO_4 HB hx206_0 hx206_1 hx207_0 hx207_1 hx208_0 hx208_1 hHeld ⊢
              refine pure_ (i := 0) (N := some 18) (v := ?_) (a' := ?_) #[true, false, false, false, false, false, false, false, false, false, false, false, false, false, false, false, false, false, false, false] rfl rfl (any_of HT_.out (by kernel_rfl)) (fun _ _ _ h => h) (Or.inl ⟨by rfl, ?_⟩) ?_ ?_
              rotate_left
              · intro w'
                go_simp
                with_reducible rfl
              rotate_left
              · simp only [Act.put, List.setIfInBounds_toArray, List.set_cons_zero, List.set_cons_succ, i64_w, i32_w]
                rfl
              refine pure_ (i := 1) (N := some 19) (v := ?_) (a' := ?_) #[true, true, false, false, false, false, false, false, false, false, false, false, false, false, false, false, false, false, false, false] rfl rfl (any_of HT_.out (by kernel_rfl)) (fun _ _ _ h => h) (Or.inl ⟨by rfl, ?_⟩) ?_ ?_
              rotate_left
              · intro w'
                go_simp
                with_reducible rfl
              rotate_left
              · simp only [Act.put, List.setIfInBounds_toArray, List.set_cons_zero, List.set_cons_succ, i64_w, i32_w]
                rfl
              refine pure_ (i := 2) (N := some 20) (v := ?_) (a' := ?_) #[true, true, true, false, false, false, false, false, false, false, false, false, false, false, false, false, false, false, false, false] rfl rfl (any_of HT_.out (by kernel_rfl)) (fun _ _ _ h => h) (Or.inl ⟨by rfl, ?_⟩) ?_ ?_
              rotate_left
              · intro w'
                go_simp
                with_reducible rfl
              rotate_left
              · simp only [Act.put, List.setIfInBounds_toArray, List.set_cons_zero, List.set_cons_succ, i64_w, i32_w]
                rfl
              refine pure_ (i := 3) (N := some 21) (v := ?_) (a' := ?_) #[true, true, true, true, false, false, false, false, false, false, false, false, false, false, false, false, false, false, false, false] rfl rfl (any_of HT_.out (by kernel_rfl)) (fun _ _ _ h => h) (Or.inl ⟨by rfl, ?_⟩) ?_ ?_
              rotate_left
              · intro w'
                go_simp
                with_reducible rfl
              rotate_left
              · simp only [Act.put, List.setIfInBounds_toArray, List.set_cons_zero, List.set_cons_succ, i64_w, i32_w]
                rfl
              refine pure_ (i := 4) (N := some 22) (v := ?_) (a' := ?_) #[true, true, true, true, true, false, false, false, false, false, false, false, false, false, false, false, false, false, false, false] rfl rfl (any_of HT_.out (by kernel_rfl)) (fun _ _ _ h => h) (Or.inl ⟨by rfl, ?_⟩) ?_ ?_
              rotate_left
              · intro w'
                go_simp
                with_reducible rfl
              rotate_left
              · simp only [Act.put, List.setIfInBounds_toArray, List.set_cons_zero, List.set_cons_succ, i64_w, i32_w]
                rfl
              refine pure_ (i := 6) (N := some 24) (v := ?_) (a' := ?_) #[true, true, true, true, true, false, true, false, false, false, false, false, false, false, false, false, false, false, false, false] rfl rfl (any_of HT_.out (by kernel_rfl)) (fun _ _ _ h => h) (Or.inl ⟨by rfl, ?_⟩) ?_ ?_
              rotate_left
              · intro w'
                go_simp
                with_reducible rfl
              rotate_left
              · simp only [Act.put, List.setIfInBounds_toArray, List.set_cons_zero, List.set_cons_succ, i64_w, i32_w]
                rfl
              refine pure_ (i := 7) (N := some 25) (v := ?_) (a' := ?_) #[true, true, true, true, true, false, true, true, false, false, false, false, false, false, false, false, false, false, false, false] rfl rfl (any_of HT_.out (by kernel_rfl)) (fun _ _ _ h => h) (Or.inl ⟨by rfl, ?_⟩) ?_ ?_
              rotate_left
              · intro w'
                go_simp
                with_reducible rfl
              rotate_left
              · simp only [Act.put, List.setIfInBounds_toArray, List.set_cons_zero, List.set_cons_succ, i64_w, i32_w]
                rfl
              refine pure_ (i := 8) (N := some 26) (v := ?_) (a' := ?_) #[true, true, true, true, true, false, true, true, true, false, false, false, false, false, false, false, false, false, false, false] rfl rfl (any_of HT_.out (by kernel_rfl)) (fun _ _ _ h => h) (Or.inl ⟨by rfl, ?_⟩) ?_ ?_
              rotate_left
              · intro w'
                go_simp
                with_reducible rfl
              rotate_left
              · simp only [Act.put, List.setIfInBounds_toArray, List.set_cons_zero, List.set_cons_succ, i64_w, i32_w]
                rfl
              refine pure_ (i := 9) (N := some 27) (v := ?_) (a' := ?_) #[true, true, true, true, true, false, true, true, true, true, false, false, false, false, false, false, false, false, false, false] rfl rfl (any_of HT_.out (by kernel_rfl)) (fun _ _ _ h => h) (Or.inl ⟨by rfl, ?_⟩) ?_ ?_
              rotate_left
              · intro w'
                go_simp
                with_reducible rfl
              rotate_left
              · simp only [Act.put, List.setIfInBounds_toArray, List.set_cons_zero, List.set_cons_succ, i64_w, i32_w]
                rfl
              refine pure_ (i := 11) (N := some 29) (v := ?_) (a' := ?_) #[true, true, true, true, true, false, true, true, true, true, false, true, false, false, false, false, false, false, false, false] rfl rfl (any_of HT_.out (by kernel_rfl)) (fun _ _ _ h => h) (Or.inl ⟨by rfl, ?_⟩) ?_ ?_
              rotate_left
              · intro w'
                go_simp
                with_reducible rfl
              rotate_left
              · simp only [Act.put, List.setIfInBounds_toArray, List.set_cons_zero, List.set_cons_succ, i64_w, i32_w]
                rfl
              refine pure_ (i := 12) (N := some 30) (v := ?_) (a' := ?_) #[true, true, true, true, true, false, true, true, true, true, false, true, true, false, false, false, false, false, false, false] rfl rfl (any_of HT_.out (by kernel_rfl)) (fun _ _ _ h => h) (Or.inl ⟨by rfl, ?_⟩) ?_ ?_
              rotate_left
              · intro w'
                go_simp
                with_reducible rfl
              rotate_left
              · simp only [Act.put, List.setIfInBounds_toArray, List.set_cons_zero, List.set_cons_succ, i64_w, i32_w]
                rfl
              refine pure_ (i := 13) (N := some 31) (v := ?_) (a' := ?_) #[true, true, true, true, true, false, true, true, true, true, false, true, true, true, false, false, false, false, false, false] rfl rfl (any_of HT_.out (by kernel_rfl)) (fun _ _ _ h => h) (Or.inl ⟨by rfl, ?_⟩) ?_ ?_
              rotate_left
              · intro w'
                go_simp
                with_reducible rfl
              rotate_left
              · simp only [Act.put, List.setIfInBounds_toArray, List.set_cons_zero, List.set_cons_succ, i64_w, i32_w]
                rfl
              refine pure_ (i := 14) (N := some 32) (v := ?_) (a' := ?_) #[true, true, true, true, true, false, true, true, true, true, false, true, true, true, true, false, false, false, false, false] rfl rfl (any_of HT_.out (by kernel_rfl)) (fun _ _ _ h => h) (Or.inl ⟨by rfl, ?_⟩) ?_ ?_
              rotate_left
              · intro w'
                go_simp
                with_reducible rfl
              rotate_left
              · simp only [Act.put, List.setIfInBounds_toArray, List.set_cons_zero, List.set_cons_succ, i64_w, i32_w]
                rfl
              refine take_ (i := 5) (N := some 23) (v := ?_) (a' := ?_) #[true, true, true, true, true, true, true, true, true, true, false, true, true, true, true, false, false, false, false, false] rfl rfl (take_ofW HT_.out HW_.out (by kernel_rfl)) (fun _ _ _ h => h) (Or.inl ⟨by rfl, ?_⟩) hHeld ?_ ?_
              rotate_left
              · rintro w' ⟨s0, s1, s2, s3, s4, s5⟩
                go_simp
                with_reducible rfl
              rotate_left
              · simp only [Act.put, List.setIfInBounds_toArray, List.set_cons_zero, List.set_cons_succ, i64_w, i32_w]
                rfl
              refine take_ (i := 10) (N := some 28) (v := ?_) (a' := ?_) #[true, true, true, true, true, true, true, true, true, true, true, true, true, true, true, false, false, false, false, false] rfl rfl (take_ofW HT_.out HW_.out (by kernel_rfl)) (fun _ _ _ h => h) (Or.inl ⟨by rfl, ?_⟩) hHeld ?_ ?_
              rotate_left
              · rintro w' ⟨s0, s1, s2, s3, s4, s5⟩
                go_simp
                with_reducible rfl
              rotate_left
              · simp only [Act.put, List.setIfInBounds_toArray, List.set_cons_zero, List.set_cons_succ, i64_w, i32_w]
                rfl
              refine take_ (i := 15) (N := some 33) (v := ?_) (a' := ?_) #[true, true, true, true, true, true, true, true, true, true, true, true, true, true, true, true, false, false, false, false] rfl rfl (take_ofW HT_.out HW_.out (by kernel_rfl)) (fun _ _ _ h => h) (Or.inl ⟨by rfl, ?_⟩) hHeld ?_ ?_
              rotate_left
              · rintro w' ⟨s0, s1, s2, s3, s4, s5⟩
                go_simp
                with_reducible rfl
              rotate_left
              · simp only [Act.put, List.setIfInBounds_toArray, List.set_cons_zero, List.set_cons_succ, i64_w, i32_w]
                rfl
              refine pure_ (i := 16) (N := some 34) (v := ?_) (a' := ?_) #[true, true, true, true, true, true, true, true, true, true, true, true, true, true, true, true, true, false, false, false] rfl rfl (any_of HT_.out (by kernel_rfl)) (fun _ _ _ h => h) (Or.inl ⟨by rfl, ?_⟩) ?_ ?_
              rotate_left
              · intro w'
                go_simp
                with_reducible rfl
              rotate_left
              · simp only [Act.put, List.setIfInBounds_toArray, List.set_cons_zero, List.set_cons_succ, i64_w, i32_w]
                rfl
              refine one_ (i := 17) (N := some 35) #[true, true, true, true, true, true, true, true, true, true, true, true, true, true, true, true, true, true, false, false] rfl rfl (one_of HT_.out (by kernel_rfl)) (by decide) (fun K hK => ?_)
              refine value_ (w1 := ?_) (v := ?_) (by rfl) rfl ?_ ?_
              rotate_left 2
              · go_simp
                constructor
                · rfl
                · rfl
              refine hK.out _ _ ⟨(World.cell?_alloc_lt _ _ _ (World.block_lt_of_cell? _ _ (((HB.out.cell (World.block_lt_of_cell? w _ hw206_0)).trans hw206_0)))).trans (((HB.out.cell (World.block_lt_of_cell? w _ hw206_0)).trans hw206_0)), (World.cell?_alloc_lt _ _ _ (World.block_lt_of_cell? _ _ (((HB.out.cell (World.block_lt_of_cell? w _ hw206_1)).trans hw206_1)))).trans (((HB.out.cell (World.block_lt_of_cell? w _ hw206_1)).trans hw206_1)), (World.cell?_alloc_lt _ _ _ (World.block_lt_of_cell? _ _ (((HB.out.cell (World.block_lt_of_cell? w _ hw207_0)).trans hw207_0)))).trans (((HB.out.cell (World.block_lt_of_cell? w _ hw207_0)).trans hw207_0)), (World.cell?_alloc_lt _ _ _ (World.block_lt_of_cell? _ _ (((HB.out.cell (World.block_lt_of_cell? w _ hw207_1)).trans hw207_1)))).trans (((HB.out.cell (World.block_lt_of_cell? w _ hw207_1)).trans hw207_1)), (World.cell?_alloc_lt _ _ _ (World.block_lt_of_cell? _ _ (((HB.out.cell (World.block_lt_of_cell? w _ hw208_0)).trans hw208_0)))).trans (((HB.out.cell (World.block_lt_of_cell? w _ hw208_0)).trans hw208_0)), (World.cell?_alloc_lt _ _ _ (World.block_lt_of_cell? _ _ (((HB.out.cell (World.block_lt_of_cell? w _ hw208_1)).trans hw208_1)))).trans (((HB.out.cell (World.block_lt_of_cell? w _ hw208_1)).trans hw208_1))⟩ (fun hHeld => ?_)
              clear hK K
              refine norm_ (a' := ?_) ?_ ?_
              rotate_left
              · show Act.put _ (some 35) _ = _
                simp only [Act.put, List.setIfInBounds_toArray, List.set_cons_zero, List.set_cons_succ, i64_w, i32_w]
                rfl
              refine one_ (i := 18) (N := some 36) #[true, true, true, true, true, true, true, true, true, true, true, true, true, true, true, true, true, true, true, false] rfl rfl (one_of HT_.out (by kernel_rfl)) (by decide) (fun K hK => ?_)
              refine Kd.R_append_step k60 (w0 := w) w.heap.size (by rfl) (.tmp 18) (.tmp 35) 22 60 (.agg #[(.int .i64 0), (.int .i64 0), (.int .i64 0)]) 24 rfl Try.underlying22 info60 rfl (by decide) (by omega) u4 x4_1 (⟨(rd_T41 l0 x5_1).f0, (rd_T41 l0 x5_1).f1, (rd_T41 l0 x5_1).f1⟩ : S60) [.int .i64 ((rd_T41 l0 x5_1).f0), .int .i64 ((rd_T41 l0 x5_1).f1), .int .i64 ((rd_T41 l0 x5_1).f1)] (fun _ => True) (fun _ => False) rfl rfl ?aP (fun _ hk => hk.elim) ?aF ?aO ?aB ?aS ?aL ?_
              (case aP => exact k60_mkM _ _ _ (⟨(rd_T41 l0 x5_1).f0, (rd_T41 l0 x5_1).f1, (rd_T41 l0 x5_1).f1⟩ : S60))
              (case aB => exact (by repeat (first | (with_reducible first | exact HB.out | apply below_alloc | apply pw_below_drewN | apply below_drew1) | exact HB.out)))
              (case aF => exact (fun _ _ => trivial))
              (case aO => exact (by (with_reducible repeat (first | apply Kd.R_alloc | apply Kd.R_drewN | apply Kd.R_drew)); exact HO_4.out))
              (case aS => exact (below_size (by repeat (first | (with_reducible first | exact HB.out | apply below_alloc | apply pw_below_drewN | apply below_drew1) | exact HB.out))))
              (case aL => have := LMc6.out; omega)
              intro v210 w9 ho hb hg hat
              rw [← Ny209.out] at ho
              have n0_ := Aside0.mk (hb)
              have n1_ := Aside0.mk (ho)
              clear HB
              clear HO_4
              have HB := n0_
              have HO211 := n1_
              clear n0_ n1_
              clear ho hb hg hat
              refine hK.out _ _ ⟨((HB.out.cell (World.block_lt_of_cell? w _ hw206_0)).trans hw206_0), ((HB.out.cell (World.block_lt_of_cell? w _ hw206_1)).trans hw206_1), ((HB.out.cell (World.block_lt_of_cell? w _ hw207_0)).trans hw207_0), ((HB.out.cell (World.block_lt_of_cell? w _ hw207_1)).trans hw207_1), ((HB.out.cell (World.block_lt_of_cell? w _ hw208_0)).trans hw208_0), ((HB.out.cell (World.block_lt_of_cell? w _ hw208_1)).trans hw208_1)⟩ (fun hHeld => ?_)
              clear hK K
              refine norm_ (a' := ?_) ?_ ?_
              rotate_left
              · show Act.put _ (some 36) _ = _
                simp only [Act.put, List.setIfInBounds_toArray, List.set_cons_zero, List.set_cons_succ, i64_w, i32_w]
                rfl
              refine pure_ (i := 19) (N := some 4) (v := ?_) (a' := ?_) #[true, true, true, true, true, true, true, true, true, true, true, true, true, true, true, true, true, true, true, true] rfl rfl (any_of HT_.out (by kernel_rfl)) (fun _ _ _ h => h) (Or.inl ⟨by rfl, ?_⟩) ?_ ?_
              rotate_left
              · intro w'
                go_simp
                with_reducible rfl
              rotate_left
              · simp only [Act.put, List.setIfInBounds_toArray, List.set_cons_zero, List.set_cons_succ, i64_w, i32_w]
                rfl
              refine done_ (done_of HT_.out (by kernel_rfl)) ?_
              try go_wp2
              go_roundg k1
              case measure => have := HK1.out; omega
              case rel => exact ⟨(y209), (wrap64 (x5_1 + 1)), (by first | rfl | (simp; done) | (simp [*]; done)), H', ⟨by have := HK1.out; omega⟩, ⟨by (with_reducible repeat (first | apply Kd.R_alloc | apply Kd.R_drewN | apply Kd.R_drew)); exact HO211.out⟩, ⟨by repeat (first | (with_reducible first | exact HB.out | apply below_alloc | apply pw_below_drewN | apply below_drew1) | exact HB.out)⟩⟩
            · rw [if_neg c6] at H
              exact absurd H (by simp)
          · rw [if_neg c5] at H
            have c5b0 : (t205 == 0) = false := beq_eq_false_iff_ne.mpr c5
            have c5b1 : (t205 != 0) = true := bne_iff_ne.mpr c5
            simp only [Option.some.injEq, Prod.mk.injEq] at H
            obtain ⟨rfl, rfl⟩ := H
            have p204 : 0 ≤ (x5_1 : Int) := of_decide_eq_true (by first | (with_reducible assumption) | assumption)
            have q204 : x5_1 < (l0.length : Int) := of_decide_eq_true (by first | (with_reducible assumption) | assumption)
            obtain ⟨ad204, e204, hx204_0, hx204_1⟩ := at_T41 HR0.out x5_1 p204 q204
            cases e204
            replace hx204_0 := (HB.out.cell (World.block_lt_of_cell? w _ hx204_0)).trans hx204_0
            replace hx204_1 := (HB.out.cell (World.block_lt_of_cell? w _ hx204_1)).trans hx204_1
            replace p204 := eq_true p204
            replace q204 := eq_true q204
            go_wp2_with (first | ((with_reducible refine gate_callee (f := 53) rfl ?_); refine goesL_ (some 16) rfl rfl Try.func53 (by kernel_rfl) rfl #[.agg #[.int .i64 ((rd_T41 l0 x5_1).f0), .int .i64 ((rd_T41 l0 x5_1).f1)]] rfl (by (try simp only [List.map_toArray, List.map_cons, List.map_nil]); first | done | rfl | (simp only [List.length_drop, List.length_take]; rfl)) ?_; (with_reducible refine (tributaryref06_Check.calls ((rd_T41 l0 x5_1).f0) ((rd_T41 l0 x5_1).f1) t205 _ A4.out).mono ?_); rintro e w10 ⟨rfl, hb⟩; refine ⟨_, rfl, ?_⟩; have n0_ := Aside0.mk (Kd.R_below (by (with_reducible repeat (first | apply Kd.R_alloc | apply Kd.R_drewN | apply Kd.R_drew)); exact HO_4.out) hb); have n1_ := Aside0.mk (below_step (by repeat (first | (with_reducible first | exact HB.out | apply below_alloc | apply pw_below_drewN | apply below_drew1) | exact HB.out)) hb); clear HO_4; clear HB; have HO_4 := n0_; have HB := n1_; clear n0_ n1_; (try clear hb); (try clear hb2); (try clear hk); (try clear hi)))
            go_ret2
            exact ⟨_, by first | rfl | (simp [errW_none, errW_some] <;> rfl) | (simp [*, errW_none, errW_some] <;> rfl), by first | exact Kd.R_nil _ _ _ _ _ | exact Kd.N_nil _ _ _ _ _ | exact Kd.V_nil _ _ _ _ _ | exact Kd.Q_nil _ _ _ _ _ | exact Kd.S_nil _ _ _ _ _, by repeat (first | (with_reducible first | exact HB.out | apply below_alloc | apply pw_below_drewN | apply below_drew1) | exact HB.out)⟩
        · rw [if_neg c3] at H
          exact absurd H (by simp)
      · rw [if_neg c2] at H
        have c2b0 : decide (x5_1 < (l0.length : Int)) = false := decide_eq_false c2
        clear c2
        replace H := Option.bind_eq_some_iff.mp H
        obtain ⟨⟨t212, t213⟩, A110, H⟩ := H
        replace H : (some (t212, t213)) = some (r1, r2) := H
        have A11 := Aside0.mk A110
        clear A110
        simp only [Option.some.injEq, Prod.mk.injEq] at H
        obtain ⟨rfl, rfl⟩ := H
        obtain ⟨Ao12, co12, eo12⟩ := Kd.R_slice HO_4.out
        subst eo12
        go_wp2_with (first | ((with_reducible refine gate_callee (f := 54) rfl ?_); refine goesL_ (some 38) rfl rfl Try.func54 (by kernel_rfl) rfl #[.slice Ao12 x4_1.length co12] rfl (by (try simp only [List.map_toArray, List.map_cons, List.map_nil]); first | done | rfl | (simp only [List.length_drop, List.length_take]; rfl)) ?_; (with_reducible refine (tributaryref07_tidy.calls _ _ x4_1 t212 t213 _ ?side1 ?side2 A11.out).mono ?_); (case side1 => repeat (first | exact (Kd.R_reads' HO_4.out).2.2 | (with_reducible refine Kd.C_alloc ?_ _) | (with_reducible refine Kd.C_drewN ?_ _) | (with_reducible refine Kd.C_drew ?_))); (case side2 => exact (Kd.R_reads' HO_4.out).2.1); rintro e w13 ⟨v214, rfl, ho0, hb⟩; refine ⟨_, rfl, ?_⟩; have n0_ := Aside0.mk (Kd.R_elder' (by (with_reducible repeat (first | apply Kd.R_alloc | apply Kd.R_drewN | apply Kd.R_drew)); exact HO_4.out) (Kd.R_base ho0) hb); have n1_ := Aside0.mk (Kd.R_lower (Kd.R_new' ho0 (Kd.R_lt (by (with_reducible repeat (first | apply Kd.R_alloc | apply Kd.R_drewN | apply Kd.R_drew)); exact HO_4.out))) (below_size (by repeat (first | (with_reducible first | exact HB.out | apply below_alloc | apply pw_below_drewN | apply below_drew1) | exact HB.out)))); have n2_ := Aside0.mk (below_step (by repeat (first | (with_reducible first | exact HB.out | apply below_alloc | apply pw_below_drewN | apply below_drew1) | exact HB.out)) hb); clear HO_4; clear HB; have HO_4 := n0_; have HO215 := n1_; have HB := n2_; clear n0_ n1_ n2_; (try clear hb); (try clear hb2); (try clear hk); (try clear hi); (try clear ho0)))
        go_ret2
        exact ⟨_, by first | rfl | (simp [errW_none, errW_some] <;> rfl) | (simp [*, errW_none, errW_some] <;> rfl), by (with_reducible repeat (first | apply Kd.R_alloc | apply Kd.R_drewN | apply Kd.R_drew)); exact Kd.R_mono HO215.out (fun _ hk => trivial), by repeat (first | (with_reducible first | exact HB.out | apply below_alloc | apply pw_below_drewN | apply below_drew1) | exact HB.out)⟩
end
section
def tributaryref07_Join.f (k : Nat) (l0 : List (S60)) (l1 : List (S60)) : Option ((List (S60)) × Int) := (tributaryref07_Check.f k l0).bind fun t229 => (if t229 = 0 then ((tributaryref07_Check.f k l1).bind fun t230 => (if t230 = 0 then ((some (([] : List (S60)) : List (S60))).bind fun y231 => (if y231.length + l0.length < 5864062014805 then ((some (y231 ++ l0 : List (S60))).bind fun y234 => (if y234.length + l1.length < 5864062014805 then ((tributaryref07_tidy.f (y234 ++ l1)).bind fun bt240 => (some (bt240.1, bt240.2))) else (none))) else (none))) else (some (([] : List (S60)), 2)))) else (some (([] : List (S60)), 2)))
set_option maxHeartbeats 8000000 in
set_option maxRecDepth 100000 in
theorem tributaryref07_Join.calls (k : Nat) (A0 : Option Addr) (c0 : Nat) (l0 : List (S60)) (A1 : Option Addr) (c1 : Nat) (l1 : List (S60)) (r1 : List (S60)) (r2 : Int) (w : World) (hr0 : Kd.C k60 w A0 l0.length l0) (hc0 : l0.length ≤ c0) (hr1 : Kd.C k60 w A1 l1.length l1) (hc1 : l1.length ≤ c1) (h : tributaryref07_Join.f k l0 l1 = some (r1, r2)) :
    Calls Try.prog 34 #[.slice A0 l0.length c0, .slice A1 l1.length c1] w fun e w' => ∃ v0_ : Value, e = .returned (.tuple #[v0_, .int .i64 r2]) ∧ Kd.R k60 60 w' w.heap.size (fun _ => True) v0_ r1 ∧ Below w.heap.size w w' := by
  have HR0 := Aside0.mk hr0
  have HC0 := Aside0.mk hc0
  clear hr0 hc0
  have HR1 := Aside0.mk hr1
  have HC1 := Aside0.mk hc1
  clear hr1 hc1
  have HB := Aside0.mk (Below.refl w.heap.size w)
  have H : ((tributaryref07_Check.f k l0).bind fun t229 => (if t229 = 0 then ((tributaryref07_Check.f k l1).bind fun t230 => (if t230 = 0 then ((some (([] : List (S60)) : List (S60))).bind fun y231 => (if y231.length + l0.length < 5864062014805 then ((some (y231 ++ l0 : List (S60))).bind fun y234 => (if y234.length + l1.length < 5864062014805 then ((tributaryref07_tidy.f (y234 ++ l1)).bind fun bt240 => (some (bt240.1, bt240.2))) else (none))) else (none))) else (some (([] : List (S60)), 2)))) else (some (([] : List (S60)), 2)))) = some (r1, r2) := h
  clear h
  replace H := Option.bind_eq_some_iff.mp H
  obtain ⟨t229, A30, H⟩ := H
  replace H : (if t229 = 0 then ((tributaryref07_Check.f k l1).bind fun t230 => (if t230 = 0 then ((some (([] : List (S60)) : List (S60))).bind fun y231 => (if y231.length + l0.length < 5864062014805 then ((some (y231 ++ l0 : List (S60))).bind fun y234 => (if y234.length + l1.length < 5864062014805 then ((tributaryref07_tidy.f (y234 ++ l1)).bind fun bt240 => (some (bt240.1, bt240.2))) else (none))) else (none))) else (some (([] : List (S60)), 2)))) else (some (([] : List (S60)), 2))) = some (r1, r2) := H
  have A3 := Aside0.mk A30
  clear A30
  by_cases c4 : t229 = 0
  · rw [if_pos c4] at H
    have c4b0 : (t229 == 0) = true := beq_iff_eq.mpr c4
    have c4b1 : (t229 != 0) = false := bne_eq_false_iff_eq.mpr c4
    clear c4
    replace H := Option.bind_eq_some_iff.mp H
    obtain ⟨t230, A50, H⟩ := H
    replace H : (if t230 = 0 then ((some (([] : List (S60)) : List (S60))).bind fun y231 => (if y231.length + l0.length < 5864062014805 then ((some (y231 ++ l0 : List (S60))).bind fun y234 => (if y234.length + l1.length < 5864062014805 then ((tributaryref07_tidy.f (y234 ++ l1)).bind fun bt240 => (some (bt240.1, bt240.2))) else (none))) else (none))) else (some (([] : List (S60)), 2))) = some (r1, r2) := H
    have A5 := Aside0.mk A50
    clear A50
    by_cases c6 : t230 = 0
    · rw [if_pos c6] at H
      have c6b0 : (t230 == 0) = true := beq_iff_eq.mpr c6
      have c6b1 : (t230 != 0) = false := bne_eq_false_iff_eq.mpr c6
      clear c6
      obtain ⟨y231, hy231⟩ : ∃ y_ : List (S60), y_ = (([] : List (S60))) := ⟨_, rfl⟩
      replace H : (if y231.length + l0.length < 5864062014805 then ((some (y231 ++ l0 : List (S60))).bind fun y234 => (if y234.length + l1.length < 5864062014805 then ((tributaryref07_tidy.f (y234 ++ l1)).bind fun bt240 => (some (bt240.1, bt240.2))) else (none))) else (none)) = some (r1, r2) := by first | (rw [hy231]; with_reducible exact H) | (have H2_ := (Option.bind_some _ _).symm.trans H; rw [hy231]; with_reducible exact H2_) | (have H2_ := (Option.bind_some _ _).symm.trans H; with_reducible exact H2_) | with_reducible exact H | (rw [hy231]; exact H) | exact H
      have Ny231 := Aside0.mk hy231
      clear hy231
      by_cases c7 : y231.length + l0.length < 5864062014805
      · rw [if_pos c7] at H
        have LMc7 := Aside0.mk c7
        clear c7
        obtain ⟨y234, hy234⟩ : ∃ y_ : List (S60), y_ = (y231 ++ l0) := ⟨_, rfl⟩
        replace H : (if y234.length + l1.length < 5864062014805 then ((tributaryref07_tidy.f (y234 ++ l1)).bind fun bt240 => (some (bt240.1, bt240.2))) else (none)) = some (r1, r2) := by first | (rw [hy234]; with_reducible exact H) | (have H2_ := (Option.bind_some _ _).symm.trans H; rw [hy234]; with_reducible exact H2_) | (have H2_ := (Option.bind_some _ _).symm.trans H; with_reducible exact H2_) | with_reducible exact H | (rw [hy234]; exact H) | exact H
        have Ny234 := Aside0.mk hy234
        clear hy234
        by_cases c8 : y234.length + l1.length < 5864062014805
        · rw [if_pos c8] at H
          have LMc8 := Aside0.mk c8
          clear c8
          obtain ⟨y237, hy237⟩ : ∃ y_ : List (S60), y_ = (y234 ++ l1) := ⟨_, rfl⟩
          replace H : ((tributaryref07_tidy.f y237).bind fun bt240 => (some (bt240.1, bt240.2))) = some (r1, r2) := by first | (rw [hy237]; with_reducible exact H) | (have H2_ := (Option.bind_some _ _).symm.trans H; rw [hy237]; with_reducible exact H2_) | (have H2_ := (Option.bind_some _ _).symm.trans H; with_reducible exact H2_) | with_reducible exact H | (rw [hy237]; exact H) | exact H
          have Ny237 := Aside0.mk hy237
          clear hy237
          replace H := Option.bind_eq_some_iff.mp H
          obtain ⟨⟨t240, t241⟩, A90, H⟩ := H
          replace H : (some (t240, t241)) = some (r1, r2) := H
          have A9 := Aside0.mk A90
          clear A90
          simp only [Option.some.injEq, Prod.mk.injEq] at H
          obtain ⟨rfl, rfl⟩ := H
          go_enter Try.func34, Try.ntmps34
          go_wp2_with (first | ((with_reducible refine gate_callee (f := 39) rfl ?_); refine goesL_ (some 7) rfl rfl Try.func39 (by kernel_rfl) rfl #[.slice A0 l0.length c0] rfl (by (try simp only [List.map_toArray, List.map_cons, List.map_nil]); first | done | rfl | (simp only [List.length_drop, List.length_take]; rfl)) ?_; (with_reducible refine (tributaryref07_Check.calls k _ _ l0 t229 _ ?side1 ?side2 A3.out).mono ?_); (case side1 => repeat (first | exact HR0.out | (with_reducible refine Kd.C_alloc ?_ _) | (with_reducible refine Kd.C_drewN ?_ _) | (with_reducible refine Kd.C_drew ?_))); (case side2 => exact HC0.out); rintro e w10 ⟨rfl, hb⟩; refine ⟨_, rfl, ?_⟩; have n0_ := Aside0.mk (below_step (by repeat (first | (with_reducible first | exact HB.out | apply below_alloc | apply pw_below_drewN | apply below_drew1) | exact HB.out)) hb); clear HB; have HB := n0_; clear n0_; (try clear hb); (try clear hb2); (try clear hk); (try clear hi)) | (go_at_call 39; (with_reducible refine (tributaryref07_Check.calls k _ _ l1 t230 _ ?side1 ?side2 A5.out).mono ?_); (case side1 => repeat (first | exact (Kd.C_below HR1.out HB.out) | (with_reducible refine Kd.C_alloc ?_ _) | (with_reducible refine Kd.C_drewN ?_ _) | (with_reducible refine Kd.C_drew ?_))); (case side2 => exact HC1.out); rintro e w11 ⟨rfl, hb⟩; have n0_ := Aside0.mk (below_step (by repeat (first | (with_reducible first | exact HB.out | apply below_alloc | apply pw_below_drewN | apply below_drew1) | exact HB.out)) hb); clear HB; have HB := n0_; clear n0_; (try clear hb); (try clear hb2); (try clear hk); (try clear hi)) | ((with_reducible refine gate_dst (N := 14) rfl ?_); refine Kd.R_lit k60 _ 60 ?hg (N := 14) ?hd (xs := ([] : List (S60))) (inner := []) (ok := fun _ => True) (okp := fun _ => True) ?hr ?hp (fun _ hk => hk) trivial (Below.refl _ _) (Nat.le_refl _) (by simp) ?_; (case hd => rfl); (case hg => rfl); (case hr => first | (go_simp; done) | (go_simp; rfl)); (case hp => exact (Reps.none _ _)); intro v232 w12 ho13 hb hg_ hnew_; clear hg_ hnew_; (first | rw [← Ny231.out] at ho13 | (simp only [Int.reduceToNat] at ho13; rw [← Ny231.out] at ho13)); have n0_ := Aside0.mk (Kd.R_lower ho13 (below_size (by repeat (first | (with_reducible first | exact HB.out | apply below_alloc | apply pw_below_drewN | apply below_drew1) | exact HB.out)))); have n1_ := Aside0.mk (below_step (by repeat (first | (with_reducible first | exact HB.out | apply below_alloc | apply pw_below_drewN | apply below_drew1) | exact HB.out)) hb); clear HB; have HO233 := n0_; have HB := n1_; clear n0_ n1_; clear hb ho13) | ((with_reducible refine gate_builtin (b := .append) (xs := #[.tmp 14, .tmp 15]) rfl ?_); at_builtin; refine Kd.R_append_rows k60 (w0 := w) w.heap.size rfl (.tmp 14) (.tmp 15) 22 60 (.agg #[(.int .i64 0), (.int .i64 0), (.int .i64 0)]) 24 rfl Try.underlying22 info60 rfl (by decide) (by omega) v232 y231 l0 _ _ _ (fun _ => True) (fun _ => False) rfl rfl ?aO ?aR (fun _ _ h => h) (fun _ h => h.elim) ?aF ?aB ?aS ?aL ?_; (case aR => repeat (first | exact (Kd.C_below HR0.out HB.out) | (with_reducible refine Kd.C_alloc ?_ _) | (with_reducible refine Kd.C_drewN ?_ _) | (with_reducible refine Kd.C_drew ?_))); (case aB => exact (by repeat (first | (with_reducible first | exact HB.out | apply below_alloc | apply pw_below_drewN | apply below_drew1) | exact HB.out))); (case aF => exact (fun _ _ => trivial)); (case aO => exact (by (with_reducible repeat (first | apply Kd.R_alloc | apply Kd.R_drewN | apply Kd.R_drew)); exact HO233.out)); (case aS => exact (below_size (by repeat (first | (with_reducible first | exact HB.out | apply below_alloc | apply pw_below_drewN | apply below_drew1) | exact HB.out)))); (case aL => have := LMc7.out; omega); intro v235 w14 ho hb hg hat; rw [← Ny234.out] at ho; have n0_ := Aside0.mk (hb); have n1_ := Aside0.mk (ho); clear HB; clear HO233; have HB := n0_; have HO236 := n1_; clear n0_ n1_; clear ho hb hg hat) | ((with_reducible refine gate_builtin (b := .append) (xs := #[.tmp 16, .tmp 17]) rfl ?_); at_builtin; refine Kd.R_append_rows k60 (w0 := w) w.heap.size rfl (.tmp 16) (.tmp 17) 22 60 (.agg #[(.int .i64 0), (.int .i64 0), (.int .i64 0)]) 24 rfl Try.underlying22 info60 rfl (by decide) (by omega) v235 y234 l1 _ _ _ (fun _ => True) (fun _ => False) rfl rfl ?aO ?aR (fun _ _ h => h) (fun _ h => h.elim) ?aF ?aB ?aS ?aL ?_; (case aR => repeat (first | exact (Kd.C_below HR1.out HB.out) | (with_reducible refine Kd.C_alloc ?_ _) | (with_reducible refine Kd.C_drewN ?_ _) | (with_reducible refine Kd.C_drew ?_))); (case aB => exact (by repeat (first | (with_reducible first | exact HB.out | apply below_alloc | apply pw_below_drewN | apply below_drew1) | exact HB.out))); (case aF => exact (fun _ _ => trivial)); (case aO => exact (by (with_reducible repeat (first | apply Kd.R_alloc | apply Kd.R_drewN | apply Kd.R_drew)); exact HO236.out)); (case aS => exact (below_size (by repeat (first | (with_reducible first | exact HB.out | apply below_alloc | apply pw_below_drewN | apply below_drew1) | exact HB.out)))); (case aL => have := LMc8.out; omega); intro v238 w15 ho hb hg hat; rw [← Ny237.out] at ho; have n0_ := Aside0.mk (hb); have n1_ := Aside0.mk (ho); clear HB; clear HO236; have HB := n0_; have HO239 := n1_; clear n0_ n1_; clear ho hb hg hat; obtain ⟨Ao16, co16, eo16⟩ := Kd.R_slice HO239.out; subst eo16) | ((with_reducible refine gate_callee (f := 54) rfl ?_); refine goesL_ (some 19) rfl rfl Try.func54 (by kernel_rfl) rfl #[.slice Ao16 y237.length co16] rfl (by (try simp only [List.map_toArray, List.map_cons, List.map_nil]); first | done | rfl | (simp only [List.length_drop, List.length_take]; rfl)) ?_; (with_reducible refine (tributaryref07_tidy.calls _ _ y237 t240 t241 _ ?side1 ?side2 A9.out).mono ?_); (case side1 => repeat (first | exact (Kd.R_reads' HO239.out).2.2 | (with_reducible refine Kd.C_alloc ?_ _) | (with_reducible refine Kd.C_drewN ?_ _) | (with_reducible refine Kd.C_drew ?_))); (case side2 => exact (Kd.R_reads' HO239.out).2.1); rintro e w17 ⟨v242, rfl, ho0, hb⟩; refine ⟨_, rfl, ?_⟩; have n0_ := Aside0.mk (Kd.R_elder' (by (with_reducible repeat (first | apply Kd.R_alloc | apply Kd.R_drewN | apply Kd.R_drew)); exact HO239.out) (Kd.R_base ho0) hb); have n1_ := Aside0.mk (Kd.R_lower (Kd.R_new' ho0 (Kd.R_lt (by (with_reducible repeat (first | apply Kd.R_alloc | apply Kd.R_drewN | apply Kd.R_drew)); exact HO239.out))) (below_size (by repeat (first | (with_reducible first | exact HB.out | apply below_alloc | apply pw_below_drewN | apply below_drew1) | exact HB.out)))); have n2_ := Aside0.mk (below_step (by repeat (first | (with_reducible first | exact HB.out | apply below_alloc | apply pw_below_drewN | apply below_drew1) | exact HB.out)) hb); clear HO239; clear HB; have HO239 := n0_; have HO243 := n1_; have HB := n2_; clear n0_ n1_ n2_; (try clear hb); (try clear hb2); (try clear hk); (try clear hi); (try clear ho0)))
          go_ret2
          exact ⟨_, by first | rfl | (simp [errW_none, errW_some] <;> rfl) | (simp [*, errW_none, errW_some] <;> rfl), by (with_reducible repeat (first | apply Kd.R_alloc | apply Kd.R_drewN | apply Kd.R_drew)); exact Kd.R_mono HO243.out (fun _ hk => trivial), by repeat (first | (with_reducible first | exact HB.out | apply below_alloc | apply pw_below_drewN | apply below_drew1) | exact HB.out)⟩
        · rw [if_neg c8] at H
          exact absurd H (by simp)
      · rw [if_neg c7] at H
        exact absurd H (by simp)
    · rw [if_neg c6] at H
      have c6b0 : (t230 == 0) = false := beq_eq_false_iff_ne.mpr c6
      have c6b1 : (t230 != 0) = true := bne_iff_ne.mpr c6
      simp only [Option.some.injEq, Prod.mk.injEq] at H
      obtain ⟨rfl, rfl⟩ := H
      go_enter Try.func34, Try.ntmps34
      go_wp2_with (first | ((with_reducible refine gate_callee (f := 39) rfl ?_); refine goesL_ (some 7) rfl rfl Try.func39 (by kernel_rfl) rfl #[.slice A0 l0.length c0] rfl (by (try simp only [List.map_toArray, List.map_cons, List.map_nil]); first | done | rfl | (simp only [List.length_drop, List.length_take]; rfl)) ?_; (with_reducible refine (tributaryref07_Check.calls k _ _ l0 t229 _ ?side1 ?side2 A3.out).mono ?_); (case side1 => repeat (first | exact HR0.out | (with_reducible refine Kd.C_alloc ?_ _) | (with_reducible refine Kd.C_drewN ?_ _) | (with_reducible refine Kd.C_drew ?_))); (case side2 => exact HC0.out); rintro e w18 ⟨rfl, hb⟩; refine ⟨_, rfl, ?_⟩; have n0_ := Aside0.mk (below_step (by repeat (first | (with_reducible first | exact HB.out | apply below_alloc | apply pw_below_drewN | apply below_drew1) | exact HB.out)) hb); clear HB; have HB := n0_; clear n0_; (try clear hb); (try clear hb2); (try clear hk); (try clear hi)) | (go_at_call 39; (with_reducible refine (tributaryref07_Check.calls k _ _ l1 t230 _ ?side1 ?side2 A5.out).mono ?_); (case side1 => repeat (first | exact (Kd.C_below HR1.out HB.out) | (with_reducible refine Kd.C_alloc ?_ _) | (with_reducible refine Kd.C_drewN ?_ _) | (with_reducible refine Kd.C_drew ?_))); (case side2 => exact HC1.out); rintro e w19 ⟨rfl, hb⟩; have n0_ := Aside0.mk (below_step (by repeat (first | (with_reducible first | exact HB.out | apply below_alloc | apply pw_below_drewN | apply below_drew1) | exact HB.out)) hb); clear HB; have HB := n0_; clear n0_; (try clear hb); (try clear hb2); (try clear hk); (try clear hi)))
      go_ret2
      exact ⟨_, by first | rfl | (simp [errW_none, errW_some] <;> rfl) | (simp [*, errW_none, errW_some] <;> rfl), by first | exact Kd.R_nil _ _ _ _ _ | exact Kd.N_nil _ _ _ _ _ | exact Kd.V_nil _ _ _ _ _ | exact Kd.Q_nil _ _ _ _ _ | exact Kd.S_nil _ _ _ _ _, by repeat (first | (with_reducible first | exact HB.out | apply below_alloc | apply pw_below_drewN | apply below_drew1) | exact HB.out)⟩
  · rw [if_neg c4] at H
    have c4b0 : (t229 == 0) = false := beq_eq_false_iff_ne.mpr c4
    have c4b1 : (t229 != 0) = true := bne_iff_ne.mpr c4
    simp only [Option.some.injEq, Prod.mk.injEq] at H
    obtain ⟨rfl, rfl⟩ := H
    go_enter Try.func34, Try.ntmps34
    go_wp2_with (first | ((with_reducible refine gate_callee (f := 39) rfl ?_); refine goesL_ (some 7) rfl rfl Try.func39 (by kernel_rfl) rfl #[.slice A0 l0.length c0] rfl (by (try simp only [List.map_toArray, List.map_cons, List.map_nil]); first | done | rfl | (simp only [List.length_drop, List.length_take]; rfl)) ?_; (with_reducible refine (tributaryref07_Check.calls k _ _ l0 t229 _ ?side1 ?side2 A3.out).mono ?_); (case side1 => repeat (first | exact HR0.out | (with_reducible refine Kd.C_alloc ?_ _) | (with_reducible refine Kd.C_drewN ?_ _) | (with_reducible refine Kd.C_drew ?_))); (case side2 => exact HC0.out); rintro e w20 ⟨rfl, hb⟩; refine ⟨_, rfl, ?_⟩; have n0_ := Aside0.mk (below_step (by repeat (first | (with_reducible first | exact HB.out | apply below_alloc | apply pw_below_drewN | apply below_drew1) | exact HB.out)) hb); clear HB; have HB := n0_; clear n0_; (try clear hb); (try clear hb2); (try clear hk); (try clear hi)))
    go_ret2
    exact ⟨_, by first | rfl | (simp [errW_none, errW_some] <;> rfl) | (simp [*, errW_none, errW_some] <;> rfl), by first | exact Kd.R_nil _ _ _ _ _ | exact Kd.N_nil _ _ _ _ _ | exact Kd.V_nil _ _ _ _ _ | exact Kd.Q_nil _ _ _ _ _ | exact Kd.S_nil _ _ _ _ _, by repeat (first | (with_reducible first | exact HB.out | apply below_alloc | apply pw_below_drewN | apply below_drew1) | exact HB.out)⟩
end
section
def past_Within.f (k : Nat) (l0 : List (S60)) (l1 : List (S60)) : Option (Bool) := (past_Minus.f k l0 l1).bind fun bt273 => (if bt273.2 = 0 then (some ((bt273.1.length : Int) == 0)) else (some false))
set_option maxHeartbeats 8000000 in
set_option maxRecDepth 100000 in
theorem past_Within.calls (k : Nat) (A0 : Option Addr) (c0 : Nat) (l0 : List (S60)) (A1 : Option Addr) (c1 : Nat) (l1 : List (S60)) (r : Bool) (w : World) (hr0 : Kd.C k60 w A0 l0.length l0) (hc0 : l0.length ≤ c0) (hr1 : Kd.C k60 w A1 l1.length l1) (hc1 : l1.length ≤ c1) (h : past_Within.f k l0 l1 = some r) :
    Calls Try.prog 40 #[.slice A0 l0.length c0, .slice A1 l1.length c1] w fun e w' => e = .returned (.bool r) ∧ Below w.heap.size w w' := by
  have HR0 := Aside0.mk hr0
  have HC0 := Aside0.mk hc0
  clear hr0 hc0
  have HR1 := Aside0.mk hr1
  have HC1 := Aside0.mk hc1
  clear hr1 hc1
  have HB := Aside0.mk (Below.refl w.heap.size w)
  have H : ((past_Minus.f k l0 l1).bind fun bt273 => (if bt273.2 = 0 then (some ((bt273.1.length : Int) == 0)) else (some false))) = some r := h
  clear h
  replace H := Option.bind_eq_some_iff.mp H
  obtain ⟨⟨t273, t274⟩, A30, H⟩ := H
  replace H : (if t274 = 0 then (some ((t273.length : Int) == 0)) else (some false)) = some r := H
  have A3 := Aside0.mk A30
  clear A30
  by_cases c4 : t274 = 0
  · rw [if_pos c4] at H
    have c4b0 : (t274 == 0) = true := beq_iff_eq.mpr c4
    have c4b1 : (t274 != 0) = false := bne_eq_false_iff_eq.mpr c4
    clear c4
    obtain rfl := Option.some.inj H
    go_enter Try.func40, Try.ntmps40
    go_wp2_with (first | ((with_reducible refine gate_callee (f := 35) rfl ?_); refine goesL_ (some 10) rfl rfl Try.func35 (by kernel_rfl) rfl #[.slice A0 l0.length c0, .slice A1 l1.length c1] rfl (by (try simp only [List.map_toArray, List.map_cons, List.map_nil]); first | done | rfl | (simp only [List.length_drop, List.length_take]; rfl)) ?_; (with_reducible refine (past_Minus.calls k _ _ l0 _ _ l1 t273 t274 _ ?side1 ?side2 ?side3 ?side4 A3.out).mono ?_); (case side1 => repeat (first | exact HR0.out | (with_reducible refine Kd.C_alloc ?_ _) | (with_reducible refine Kd.C_drewN ?_ _) | (with_reducible refine Kd.C_drew ?_))); (case side2 => exact HC0.out); (case side3 => repeat (first | exact HR1.out | (with_reducible refine Kd.C_alloc ?_ _) | (with_reducible refine Kd.C_drewN ?_ _) | (with_reducible refine Kd.C_drew ?_))); (case side4 => exact HC1.out); rintro e w5 ⟨v275, rfl, ho0, hb⟩; refine ⟨_, rfl, ?_⟩; have n0_ := Aside0.mk (Kd.R_lower ho0 (below_size (by repeat (first | (with_reducible first | exact HB.out | apply below_alloc | apply pw_below_drewN | apply below_drew1) | exact HB.out)))); have n1_ := Aside0.mk (below_step (by repeat (first | (with_reducible first | exact HB.out | apply below_alloc | apply pw_below_drewN | apply below_drew1) | exact HB.out)) hb); clear HB; have HO276 := n0_; have HB := n1_; clear n0_ n1_; (try clear hb); (try clear hb2); (try clear hk); (try clear hi); (try clear ho0); obtain ⟨Ao6, co6, eo6⟩ := Kd.R_slice HO276.out; subst eo6))
    go_ret
    exact ⟨by first | rfl | (simp [errW_none, errW_some] <;> rfl) | (simp [*, errW_none, errW_some] <;> rfl), by repeat (first | (with_reducible first | exact HB.out | apply below_alloc | apply pw_below_drewN | apply below_drew1) | exact HB.out)⟩
  · rw [if_neg c4] at H
    have c4b0 : (t274 == 0) = false := beq_eq_false_iff_ne.mpr c4
    have c4b1 : (t274 != 0) = true := bne_iff_ne.mpr c4
    obtain rfl := Option.some.inj H
    go_enter Try.func40, Try.ntmps40
    go_wp2_with (first | ((with_reducible refine gate_callee (f := 35) rfl ?_); refine goesL_ (some 10) rfl rfl Try.func35 (by kernel_rfl) rfl #[.slice A0 l0.length c0, .slice A1 l1.length c1] rfl (by (try simp only [List.map_toArray, List.map_cons, List.map_nil]); first | done | rfl | (simp only [List.length_drop, List.length_take]; rfl)) ?_; (with_reducible refine (past_Minus.calls k _ _ l0 _ _ l1 t273 t274 _ ?side1 ?side2 ?side3 ?side4 A3.out).mono ?_); (case side1 => repeat (first | exact HR0.out | (with_reducible refine Kd.C_alloc ?_ _) | (with_reducible refine Kd.C_drewN ?_ _) | (with_reducible refine Kd.C_drew ?_))); (case side2 => exact HC0.out); (case side3 => repeat (first | exact HR1.out | (with_reducible refine Kd.C_alloc ?_ _) | (with_reducible refine Kd.C_drewN ?_ _) | (with_reducible refine Kd.C_drew ?_))); (case side4 => exact HC1.out); rintro e w7 ⟨v275, rfl, ho0, hb⟩; refine ⟨_, rfl, ?_⟩; have n0_ := Aside0.mk (Kd.R_lower ho0 (below_size (by repeat (first | (with_reducible first | exact HB.out | apply below_alloc | apply pw_below_drewN | apply below_drew1) | exact HB.out)))); have n1_ := Aside0.mk (below_step (by repeat (first | (with_reducible first | exact HB.out | apply below_alloc | apply pw_below_drewN | apply below_drew1) | exact HB.out)) hb); clear HB; have HO276 := n0_; have HB := n1_; clear n0_ n1_; (try clear hb); (try clear hb2); (try clear hk); (try clear hi); (try clear ho0)))
    go_ret
    exact ⟨by first | rfl | (simp [errW_none, errW_some] <;> rfl) | (simp [*, errW_none, errW_some] <;> rfl), by repeat (first | (with_reducible first | exact HB.out | apply below_alloc | apply pw_below_drewN | apply below_drew1) | exact HB.out)⟩
end
section
mutual
def tributarylaw07_PastSets.j0 : Nat → List (S60) → List (S60) → List (S41) → List (S60) → List (S60) → List (S41) → List (S60) → List (S60) → Bool → Option (Bool)
  | 0, _, _, _, _, _, _, _, _, _ => none
  | k + 1, x0, x1, x2, x7, x8, x9, x14, x18, x22 => (tributarykit_OverSpans.f x14).bind fun t327 => ((tributarykit_OverSpans.f x18).bind fun t328 => ((tributarykit_SameSpans.f k x7 x0).bind fun t329 => (if t329 = true then ((tributarykit_SameSpans.f k x8 x1).bind fun t330 => (if t330 = true then ((tributarykit_SameDots.f k x9 x2).bind fun t331 => (tributarylaw07_PastSets.j1 k x0 x1 x7 x8 x22 t331)) else (tributarylaw07_PastSets.j1 k x0 x1 x7 x8 x22 false))) else (tributarylaw07_PastSets.j1 k x0 x1 x7 x8 x22 false))))
def tributarylaw07_PastSets.j1 : Nat → List (S60) → List (S60) → List (S60) → List (S60) → Bool → Bool → Option (Bool)
  | 0, _, _, _, _, _, _ => none
  | k + 1, x0, x1, x7, x8, x22, x23 => if x22 = true then (if x23 = true then ((past_Check.f k x7).bind fun t332 => ((tributaryref07_Check.f k x0).bind fun t333 => (if t332 = t333 then ((past_Within.f k x7 x8).bind fun t334 => ((tributaryref07_Within.f k x0 x1).bind fun t335 => (if (t334 == t335) = true then ((tributarylaw07_awake.f k).bind fun t336 => (some t336)) else (some false)))) else (some false)))) else (some false)) else (some false)
end
def tributarylaw07_PastSets.f (k : Nat) (l0 : List (S60)) (l1 : List (S60)) (l2 : List (S41)) : Option (Bool) := (tributarylaw07_long.f l0 l1 l2).bind fun t289 => (if t289 = true then ((tributarylaw07_awake.f k).bind fun t290 => (some t290)) else ((tributarykit_CopySpans.f l0).bind fun t291 => ((tributarykit_CopySpans.f l1).bind fun t294 => ((tributarykit_CopyDots.f l2).bind fun t297 => ((past_Of.f t297).bind fun bt300 => ((tributaryref07_Of.f k l2).bind fun bt304 => ((past_Join.f k t291 t294).bind fun bt308 => ((tributaryref07_Join.f k l0 l1).bind fun bt312 => ((past_Minus.f k t291 t294).bind fun bt316 => ((tributaryref07_Minus.f k l0 l1).bind fun bt320 => ((tributarykit_SameSpans.f k bt300.1 bt304.1).bind fun t324 => (if t324 = true then (if bt300.2 = bt304.2 then ((tributarykit_SameSpans.f k bt308.1 bt312.1).bind fun t325 => (if t325 = true then (if bt308.2 = bt312.2 then ((tributarykit_SameSpans.f k bt316.1 bt320.1).bind fun t326 => (if t326 = true then (tributarylaw07_PastSets.j0 k l0 l1 l2 t291 t294 t297 bt308.1 bt316.1 (bt316.2 == bt320.2)) else (tributarylaw07_PastSets.j0 k l0 l1 l2 t291 t294 t297 bt308.1 bt316.1 false))) else (tributarylaw07_PastSets.j0 k l0 l1 l2 t291 t294 t297 bt308.1 bt316.1 false)) else (tributarylaw07_PastSets.j0 k l0 l1 l2 t291 t294 t297 bt308.1 bt316.1 false))) else (tributarylaw07_PastSets.j0 k l0 l1 l2 t291 t294 t297 bt308.1 bt316.1 false)) else (tributarylaw07_PastSets.j0 k l0 l1 l2 t291 t294 t297 bt308.1 bt316.1 false)))))))))))))
set_option maxHeartbeats 8000000 in
set_option maxRecDepth 100000 in
theorem tributarylaw07_PastSets.calls (k : Nat) (A0 : Option Addr) (c0 : Nat) (l0 : List (S60)) (A1 : Option Addr) (c1 : Nat) (l1 : List (S60)) (A2 : Option Addr) (c2 : Nat) (l2 : List (S41)) (r : Bool) (w : World) (hr0 : Kd.C k60 w A0 l0.length l0) (hc0 : l0.length ≤ c0) (hr1 : Kd.C k60 w A1 l1.length l1) (hc1 : l1.length ≤ c1) (hr2 : Kd.C k41 w A2 l2.length l2) (hc2 : l2.length ≤ c2) (h : tributarylaw07_PastSets.f k l0 l1 l2 = some r) :
    Calls Try.prog 5 #[.slice A0 l0.length c0, .slice A1 l1.length c1, .slice A2 l2.length c2] w fun e w' => e = .returned (.bool r) ∧ Below w.heap.size w w' := by
  have HR0 := Aside0.mk hr0
  have HC0 := Aside0.mk hc0
  clear hr0 hc0
  have HR1 := Aside0.mk hr1
  have HC1 := Aside0.mk hc1
  clear hr1 hc1
  have HR2 := Aside0.mk hr2
  have HC2 := Aside0.mk hc2
  clear hr2 hc2
  have HB := Aside0.mk (Below.refl w.heap.size w)
  have H : ((tributarylaw07_long.f l0 l1 l2).bind fun t289 => (if t289 = true then ((tributarylaw07_awake.f k).bind fun t290 => (some t290)) else ((tributarykit_CopySpans.f l0).bind fun t291 => ((tributarykit_CopySpans.f l1).bind fun t294 => ((tributarykit_CopyDots.f l2).bind fun t297 => ((past_Of.f t297).bind fun bt300 => ((tributaryref07_Of.f k l2).bind fun bt304 => ((past_Join.f k t291 t294).bind fun bt308 => ((tributaryref07_Join.f k l0 l1).bind fun bt312 => ((past_Minus.f k t291 t294).bind fun bt316 => ((tributaryref07_Minus.f k l0 l1).bind fun bt320 => ((tributarykit_SameSpans.f k bt300.1 bt304.1).bind fun t324 => (if t324 = true then (if bt300.2 = bt304.2 then ((tributarykit_SameSpans.f k bt308.1 bt312.1).bind fun t325 => (if t325 = true then (if bt308.2 = bt312.2 then ((tributarykit_SameSpans.f k bt316.1 bt320.1).bind fun t326 => (if t326 = true then (tributarylaw07_PastSets.j0 k l0 l1 l2 t291 t294 t297 bt308.1 bt316.1 (bt316.2 == bt320.2)) else (tributarylaw07_PastSets.j0 k l0 l1 l2 t291 t294 t297 bt308.1 bt316.1 false))) else (tributarylaw07_PastSets.j0 k l0 l1 l2 t291 t294 t297 bt308.1 bt316.1 false)) else (tributarylaw07_PastSets.j0 k l0 l1 l2 t291 t294 t297 bt308.1 bt316.1 false))) else (tributarylaw07_PastSets.j0 k l0 l1 l2 t291 t294 t297 bt308.1 bt316.1 false)) else (tributarylaw07_PastSets.j0 k l0 l1 l2 t291 t294 t297 bt308.1 bt316.1 false)))))))))))))) = some r := h
  clear h
  replace H := Option.bind_eq_some_iff.mp H
  obtain ⟨t289, A40, H⟩ := H
  replace H : (if t289 = true then ((tributarylaw07_awake.f k).bind fun t290 => (some t290)) else ((tributarykit_CopySpans.f l0).bind fun t291 => ((tributarykit_CopySpans.f l1).bind fun t294 => ((tributarykit_CopyDots.f l2).bind fun t297 => ((past_Of.f t297).bind fun bt300 => ((tributaryref07_Of.f k l2).bind fun bt304 => ((past_Join.f k t291 t294).bind fun bt308 => ((tributaryref07_Join.f k l0 l1).bind fun bt312 => ((past_Minus.f k t291 t294).bind fun bt316 => ((tributaryref07_Minus.f k l0 l1).bind fun bt320 => ((tributarykit_SameSpans.f k bt300.1 bt304.1).bind fun t324 => (if t324 = true then (if bt300.2 = bt304.2 then ((tributarykit_SameSpans.f k bt308.1 bt312.1).bind fun t325 => (if t325 = true then (if bt308.2 = bt312.2 then ((tributarykit_SameSpans.f k bt316.1 bt320.1).bind fun t326 => (if t326 = true then (tributarylaw07_PastSets.j0 k l0 l1 l2 t291 t294 t297 bt308.1 bt316.1 (bt316.2 == bt320.2)) else (tributarylaw07_PastSets.j0 k l0 l1 l2 t291 t294 t297 bt308.1 bt316.1 false))) else (tributarylaw07_PastSets.j0 k l0 l1 l2 t291 t294 t297 bt308.1 bt316.1 false)) else (tributarylaw07_PastSets.j0 k l0 l1 l2 t291 t294 t297 bt308.1 bt316.1 false))) else (tributarylaw07_PastSets.j0 k l0 l1 l2 t291 t294 t297 bt308.1 bt316.1 false)) else (tributarylaw07_PastSets.j0 k l0 l1 l2 t291 t294 t297 bt308.1 bt316.1 false))))))))))))) = some r := H
  have A4 := Aside0.mk A40
  clear A40
  by_cases c5 : t289 = true
  · subst c5
    have H1 : ((tributarylaw07_awake.f k).bind fun t290 => (some t290)) = some r := by rw [if_pos rfl] at H; exact H
    clear H
    have H := H1
    clear H1
    replace H := Option.bind_eq_some_iff.mp H
    obtain ⟨t290, A60, H⟩ := H
    replace H : (some t290) = some r := H
    have A6 := Aside0.mk A60
    clear A60
    obtain rfl := Option.some.inj H
    go_enter Try.func5, Try.ntmps5
    go_wp2_with (first | ((with_reducible refine gate_callee (f := 9) rfl ?_); refine goesL_ (some 27) rfl rfl Try.func9 (by kernel_rfl) rfl #[.slice A0 l0.length c0, .slice A1 l1.length c1, .slice A2 l2.length c2] rfl (by (try simp only [List.map_toArray, List.map_cons, List.map_nil]); first | done | rfl | (simp only [List.length_drop, List.length_take]; rfl)) ?_; (with_reducible refine (tributarylaw07_long.calls _ _ l0 _ _ l1 _ _ l2 true _ ?side1 ?side2 ?side3 ?side4 ?side5 ?side6 A4.out).mono ?_); (case side1 => repeat (first | exact HR0.out | (with_reducible refine Kd.C_alloc ?_ _) | (with_reducible refine Kd.C_drewN ?_ _) | (with_reducible refine Kd.C_drew ?_))); (case side2 => exact HC0.out); (case side3 => repeat (first | exact HR1.out | (with_reducible refine Kd.C_alloc ?_ _) | (with_reducible refine Kd.C_drewN ?_ _) | (with_reducible refine Kd.C_drew ?_))); (case side4 => exact HC1.out); (case side5 => repeat (first | exact HR2.out | (with_reducible refine Kd.C_alloc ?_ _) | (with_reducible refine Kd.C_drewN ?_ _) | (with_reducible refine Kd.C_drew ?_))); (case side6 => exact HC2.out); rintro e w' ⟨rfl, ⟨nd, rfl⟩⟩; refine ⟨_, rfl, ?_⟩) | ((with_reducible refine gate_callee (f := 10) rfl ?_); refine goesL_ (some 28) rfl rfl Try.func10 (by kernel_rfl) rfl #[] rfl (by (try simp only [List.map_toArray, List.map_cons, List.map_nil]); first | done | rfl | (simp only [List.length_drop, List.length_take]; rfl)) ?_; (with_reducible refine (tributarylaw07_awake.calls k  t290 _ A6.out).mono ?_); rintro e w7 ⟨rfl, hb⟩; refine ⟨_, rfl, ?_⟩; have n0_ := Aside0.mk (below_step (by repeat (first | (with_reducible first | exact HB.out | apply below_alloc | apply pw_below_drewN | apply below_drew1) | exact HB.out)) hb); clear HB; have HB := n0_; clear n0_; (try clear hb); (try clear hb2); (try clear hk); (try clear hi)))
    go_ret
    exact ⟨by first | rfl | (simp [errW_none, errW_some] <;> rfl) | (simp [*, errW_none, errW_some] <;> rfl), by repeat (first | (with_reducible first | exact HB.out | apply below_alloc | apply pw_below_drewN | apply below_drew1) | exact HB.out)⟩
  · replace c5 := Bool.eq_false_iff.mpr c5
    subst c5
    have H1 : ((tributarykit_CopySpans.f l0).bind fun t291 => ((tributarykit_CopySpans.f l1).bind fun t294 => ((tributarykit_CopyDots.f l2).bind fun t297 => ((past_Of.f t297).bind fun bt300 => ((tributaryref07_Of.f k l2).bind fun bt304 => ((past_Join.f k t291 t294).bind fun bt308 => ((tributaryref07_Join.f k l0 l1).bind fun bt312 => ((past_Minus.f k t291 t294).bind fun bt316 => ((tributaryref07_Minus.f k l0 l1).bind fun bt320 => ((tributarykit_SameSpans.f k bt300.1 bt304.1).bind fun t324 => (if t324 = true then (if bt300.2 = bt304.2 then ((tributarykit_SameSpans.f k bt308.1 bt312.1).bind fun t325 => (if t325 = true then (if bt308.2 = bt312.2 then ((tributarykit_SameSpans.f k bt316.1 bt320.1).bind fun t326 => (if t326 = true then (tributarylaw07_PastSets.j0 k l0 l1 l2 t291 t294 t297 bt308.1 bt316.1 (bt316.2 == bt320.2)) else (tributarylaw07_PastSets.j0 k l0 l1 l2 t291 t294 t297 bt308.1 bt316.1 false))) else (tributarylaw07_PastSets.j0 k l0 l1 l2 t291 t294 t297 bt308.1 bt316.1 false)) else (tributarylaw07_PastSets.j0 k l0 l1 l2 t291 t294 t297 bt308.1 bt316.1 false))) else (tributarylaw07_PastSets.j0 k l0 l1 l2 t291 t294 t297 bt308.1 bt316.1 false)) else (tributarylaw07_PastSets.j0 k l0 l1 l2 t291 t294 t297 bt308.1 bt316.1 false)))))))))))) = some r := by rw [if_neg (show ¬ (false = true) by decide)] at H; exact H
    clear H
    have H := H1
    clear H1
    replace H := Option.bind_eq_some_iff.mp H
    obtain ⟨t291, A80, H⟩ := H
    replace H : ((tributarykit_CopySpans.f l1).bind fun t294 => ((tributarykit_CopyDots.f l2).bind fun t297 => ((past_Of.f t297).bind fun bt300 => ((tributaryref07_Of.f k l2).bind fun bt304 => ((past_Join.f k t291 t294).bind fun bt308 => ((tributaryref07_Join.f k l0 l1).bind fun bt312 => ((past_Minus.f k t291 t294).bind fun bt316 => ((tributaryref07_Minus.f k l0 l1).bind fun bt320 => ((tributarykit_SameSpans.f k bt300.1 bt304.1).bind fun t324 => (if t324 = true then (if bt300.2 = bt304.2 then ((tributarykit_SameSpans.f k bt308.1 bt312.1).bind fun t325 => (if t325 = true then (if bt308.2 = bt312.2 then ((tributarykit_SameSpans.f k bt316.1 bt320.1).bind fun t326 => (if t326 = true then (tributarylaw07_PastSets.j0 k l0 l1 l2 t291 t294 t297 bt308.1 bt316.1 (bt316.2 == bt320.2)) else (tributarylaw07_PastSets.j0 k l0 l1 l2 t291 t294 t297 bt308.1 bt316.1 false))) else (tributarylaw07_PastSets.j0 k l0 l1 l2 t291 t294 t297 bt308.1 bt316.1 false)) else (tributarylaw07_PastSets.j0 k l0 l1 l2 t291 t294 t297 bt308.1 bt316.1 false))) else (tributarylaw07_PastSets.j0 k l0 l1 l2 t291 t294 t297 bt308.1 bt316.1 false)) else (tributarylaw07_PastSets.j0 k l0 l1 l2 t291 t294 t297 bt308.1 bt316.1 false))))))))))) = some r := H
    have A8 := Aside0.mk A80
    clear A80
    replace H := Option.bind_eq_some_iff.mp H
    obtain ⟨t294, A90, H⟩ := H
    replace H : ((tributarykit_CopyDots.f l2).bind fun t297 => ((past_Of.f t297).bind fun bt300 => ((tributaryref07_Of.f k l2).bind fun bt304 => ((past_Join.f k t291 t294).bind fun bt308 => ((tributaryref07_Join.f k l0 l1).bind fun bt312 => ((past_Minus.f k t291 t294).bind fun bt316 => ((tributaryref07_Minus.f k l0 l1).bind fun bt320 => ((tributarykit_SameSpans.f k bt300.1 bt304.1).bind fun t324 => (if t324 = true then (if bt300.2 = bt304.2 then ((tributarykit_SameSpans.f k bt308.1 bt312.1).bind fun t325 => (if t325 = true then (if bt308.2 = bt312.2 then ((tributarykit_SameSpans.f k bt316.1 bt320.1).bind fun t326 => (if t326 = true then (tributarylaw07_PastSets.j0 k l0 l1 l2 t291 t294 t297 bt308.1 bt316.1 (bt316.2 == bt320.2)) else (tributarylaw07_PastSets.j0 k l0 l1 l2 t291 t294 t297 bt308.1 bt316.1 false))) else (tributarylaw07_PastSets.j0 k l0 l1 l2 t291 t294 t297 bt308.1 bt316.1 false)) else (tributarylaw07_PastSets.j0 k l0 l1 l2 t291 t294 t297 bt308.1 bt316.1 false))) else (tributarylaw07_PastSets.j0 k l0 l1 l2 t291 t294 t297 bt308.1 bt316.1 false)) else (tributarylaw07_PastSets.j0 k l0 l1 l2 t291 t294 t297 bt308.1 bt316.1 false)))))))))) = some r := H
    have A9 := Aside0.mk A90
    clear A90
    replace H := Option.bind_eq_some_iff.mp H
    obtain ⟨t297, A100, H⟩ := H
    replace H : ((past_Of.f t297).bind fun bt300 => ((tributaryref07_Of.f k l2).bind fun bt304 => ((past_Join.f k t291 t294).bind fun bt308 => ((tributaryref07_Join.f k l0 l1).bind fun bt312 => ((past_Minus.f k t291 t294).bind fun bt316 => ((tributaryref07_Minus.f k l0 l1).bind fun bt320 => ((tributarykit_SameSpans.f k bt300.1 bt304.1).bind fun t324 => (if t324 = true then (if bt300.2 = bt304.2 then ((tributarykit_SameSpans.f k bt308.1 bt312.1).bind fun t325 => (if t325 = true then (if bt308.2 = bt312.2 then ((tributarykit_SameSpans.f k bt316.1 bt320.1).bind fun t326 => (if t326 = true then (tributarylaw07_PastSets.j0 k l0 l1 l2 t291 t294 t297 bt308.1 bt316.1 (bt316.2 == bt320.2)) else (tributarylaw07_PastSets.j0 k l0 l1 l2 t291 t294 t297 bt308.1 bt316.1 false))) else (tributarylaw07_PastSets.j0 k l0 l1 l2 t291 t294 t297 bt308.1 bt316.1 false)) else (tributarylaw07_PastSets.j0 k l0 l1 l2 t291 t294 t297 bt308.1 bt316.1 false))) else (tributarylaw07_PastSets.j0 k l0 l1 l2 t291 t294 t297 bt308.1 bt316.1 false)) else (tributarylaw07_PastSets.j0 k l0 l1 l2 t291 t294 t297 bt308.1 bt316.1 false))))))))) = some r := H
    have A10 := Aside0.mk A100
    clear A100
    replace H := Option.bind_eq_some_iff.mp H
    obtain ⟨⟨t300, t301⟩, A110, H⟩ := H
    replace H : ((tributaryref07_Of.f k l2).bind fun bt304 => ((past_Join.f k t291 t294).bind fun bt308 => ((tributaryref07_Join.f k l0 l1).bind fun bt312 => ((past_Minus.f k t291 t294).bind fun bt316 => ((tributaryref07_Minus.f k l0 l1).bind fun bt320 => ((tributarykit_SameSpans.f k t300 bt304.1).bind fun t324 => (if t324 = true then (if t301 = bt304.2 then ((tributarykit_SameSpans.f k bt308.1 bt312.1).bind fun t325 => (if t325 = true then (if bt308.2 = bt312.2 then ((tributarykit_SameSpans.f k bt316.1 bt320.1).bind fun t326 => (if t326 = true then (tributarylaw07_PastSets.j0 k l0 l1 l2 t291 t294 t297 bt308.1 bt316.1 (bt316.2 == bt320.2)) else (tributarylaw07_PastSets.j0 k l0 l1 l2 t291 t294 t297 bt308.1 bt316.1 false))) else (tributarylaw07_PastSets.j0 k l0 l1 l2 t291 t294 t297 bt308.1 bt316.1 false)) else (tributarylaw07_PastSets.j0 k l0 l1 l2 t291 t294 t297 bt308.1 bt316.1 false))) else (tributarylaw07_PastSets.j0 k l0 l1 l2 t291 t294 t297 bt308.1 bt316.1 false)) else (tributarylaw07_PastSets.j0 k l0 l1 l2 t291 t294 t297 bt308.1 bt316.1 false)))))))) = some r := H
    have A11 := Aside0.mk A110
    clear A110
    replace H := Option.bind_eq_some_iff.mp H
    obtain ⟨⟨t304, t305⟩, A120, H⟩ := H
    replace H : ((past_Join.f k t291 t294).bind fun bt308 => ((tributaryref07_Join.f k l0 l1).bind fun bt312 => ((past_Minus.f k t291 t294).bind fun bt316 => ((tributaryref07_Minus.f k l0 l1).bind fun bt320 => ((tributarykit_SameSpans.f k t300 t304).bind fun t324 => (if t324 = true then (if t301 = t305 then ((tributarykit_SameSpans.f k bt308.1 bt312.1).bind fun t325 => (if t325 = true then (if bt308.2 = bt312.2 then ((tributarykit_SameSpans.f k bt316.1 bt320.1).bind fun t326 => (if t326 = true then (tributarylaw07_PastSets.j0 k l0 l1 l2 t291 t294 t297 bt308.1 bt316.1 (bt316.2 == bt320.2)) else (tributarylaw07_PastSets.j0 k l0 l1 l2 t291 t294 t297 bt308.1 bt316.1 false))) else (tributarylaw07_PastSets.j0 k l0 l1 l2 t291 t294 t297 bt308.1 bt316.1 false)) else (tributarylaw07_PastSets.j0 k l0 l1 l2 t291 t294 t297 bt308.1 bt316.1 false))) else (tributarylaw07_PastSets.j0 k l0 l1 l2 t291 t294 t297 bt308.1 bt316.1 false)) else (tributarylaw07_PastSets.j0 k l0 l1 l2 t291 t294 t297 bt308.1 bt316.1 false))))))) = some r := H
    have A12 := Aside0.mk A120
    clear A120
    replace H := Option.bind_eq_some_iff.mp H
    obtain ⟨⟨t308, t309⟩, A130, H⟩ := H
    replace H : ((tributaryref07_Join.f k l0 l1).bind fun bt312 => ((past_Minus.f k t291 t294).bind fun bt316 => ((tributaryref07_Minus.f k l0 l1).bind fun bt320 => ((tributarykit_SameSpans.f k t300 t304).bind fun t324 => (if t324 = true then (if t301 = t305 then ((tributarykit_SameSpans.f k t308 bt312.1).bind fun t325 => (if t325 = true then (if t309 = bt312.2 then ((tributarykit_SameSpans.f k bt316.1 bt320.1).bind fun t326 => (if t326 = true then (tributarylaw07_PastSets.j0 k l0 l1 l2 t291 t294 t297 t308 bt316.1 (bt316.2 == bt320.2)) else (tributarylaw07_PastSets.j0 k l0 l1 l2 t291 t294 t297 t308 bt316.1 false))) else (tributarylaw07_PastSets.j0 k l0 l1 l2 t291 t294 t297 t308 bt316.1 false)) else (tributarylaw07_PastSets.j0 k l0 l1 l2 t291 t294 t297 t308 bt316.1 false))) else (tributarylaw07_PastSets.j0 k l0 l1 l2 t291 t294 t297 t308 bt316.1 false)) else (tributarylaw07_PastSets.j0 k l0 l1 l2 t291 t294 t297 t308 bt316.1 false)))))) = some r := H
    have A13 := Aside0.mk A130
    clear A130
    replace H := Option.bind_eq_some_iff.mp H
    obtain ⟨⟨t312, t313⟩, A140, H⟩ := H
    replace H : ((past_Minus.f k t291 t294).bind fun bt316 => ((tributaryref07_Minus.f k l0 l1).bind fun bt320 => ((tributarykit_SameSpans.f k t300 t304).bind fun t324 => (if t324 = true then (if t301 = t305 then ((tributarykit_SameSpans.f k t308 t312).bind fun t325 => (if t325 = true then (if t309 = t313 then ((tributarykit_SameSpans.f k bt316.1 bt320.1).bind fun t326 => (if t326 = true then (tributarylaw07_PastSets.j0 k l0 l1 l2 t291 t294 t297 t308 bt316.1 (bt316.2 == bt320.2)) else (tributarylaw07_PastSets.j0 k l0 l1 l2 t291 t294 t297 t308 bt316.1 false))) else (tributarylaw07_PastSets.j0 k l0 l1 l2 t291 t294 t297 t308 bt316.1 false)) else (tributarylaw07_PastSets.j0 k l0 l1 l2 t291 t294 t297 t308 bt316.1 false))) else (tributarylaw07_PastSets.j0 k l0 l1 l2 t291 t294 t297 t308 bt316.1 false)) else (tributarylaw07_PastSets.j0 k l0 l1 l2 t291 t294 t297 t308 bt316.1 false))))) = some r := H
    have A14 := Aside0.mk A140
    clear A140
    replace H := Option.bind_eq_some_iff.mp H
    obtain ⟨⟨t316, t317⟩, A150, H⟩ := H
    replace H : ((tributaryref07_Minus.f k l0 l1).bind fun bt320 => ((tributarykit_SameSpans.f k t300 t304).bind fun t324 => (if t324 = true then (if t301 = t305 then ((tributarykit_SameSpans.f k t308 t312).bind fun t325 => (if t325 = true then (if t309 = t313 then ((tributarykit_SameSpans.f k t316 bt320.1).bind fun t326 => (if t326 = true then (tributarylaw07_PastSets.j0 k l0 l1 l2 t291 t294 t297 t308 t316 (t317 == bt320.2)) else (tributarylaw07_PastSets.j0 k l0 l1 l2 t291 t294 t297 t308 t316 false))) else (tributarylaw07_PastSets.j0 k l0 l1 l2 t291 t294 t297 t308 t316 false)) else (tributarylaw07_PastSets.j0 k l0 l1 l2 t291 t294 t297 t308 t316 false))) else (tributarylaw07_PastSets.j0 k l0 l1 l2 t291 t294 t297 t308 t316 false)) else (tributarylaw07_PastSets.j0 k l0 l1 l2 t291 t294 t297 t308 t316 false)))) = some r := H
    have A15 := Aside0.mk A150
    clear A150
    replace H := Option.bind_eq_some_iff.mp H
    obtain ⟨⟨t320, t321⟩, A160, H⟩ := H
    replace H : ((tributarykit_SameSpans.f k t300 t304).bind fun t324 => (if t324 = true then (if t301 = t305 then ((tributarykit_SameSpans.f k t308 t312).bind fun t325 => (if t325 = true then (if t309 = t313 then ((tributarykit_SameSpans.f k t316 t320).bind fun t326 => (if t326 = true then (tributarylaw07_PastSets.j0 k l0 l1 l2 t291 t294 t297 t308 t316 (t317 == t321)) else (tributarylaw07_PastSets.j0 k l0 l1 l2 t291 t294 t297 t308 t316 false))) else (tributarylaw07_PastSets.j0 k l0 l1 l2 t291 t294 t297 t308 t316 false)) else (tributarylaw07_PastSets.j0 k l0 l1 l2 t291 t294 t297 t308 t316 false))) else (tributarylaw07_PastSets.j0 k l0 l1 l2 t291 t294 t297 t308 t316 false)) else (tributarylaw07_PastSets.j0 k l0 l1 l2 t291 t294 t297 t308 t316 false))) = some r := H
    have A16 := Aside0.mk A160
    clear A160
    have HC17 := Aside0.mk H
    clear H
    go_enter Try.func5, Try.ntmps5
    go_upto_region 10 with (first | ((with_reducible refine gate_callee (f := 9) rfl ?_); refine goesL_ (some 27) rfl rfl Try.func9 (by kernel_rfl) rfl #[.slice A0 l0.length c0, .slice A1 l1.length c1, .slice A2 l2.length c2] rfl (by (try simp only [List.map_toArray, List.map_cons, List.map_nil]); first | done | rfl | (simp only [List.length_drop, List.length_take]; rfl)) ?_; (with_reducible refine (tributarylaw07_long.calls _ _ l0 _ _ l1 _ _ l2 false _ ?side1 ?side2 ?side3 ?side4 ?side5 ?side6 A4.out).mono ?_); (case side1 => repeat (first | exact HR0.out | (with_reducible refine Kd.C_alloc ?_ _) | (with_reducible refine Kd.C_drewN ?_ _) | (with_reducible refine Kd.C_drew ?_))); (case side2 => exact HC0.out); (case side3 => repeat (first | exact HR1.out | (with_reducible refine Kd.C_alloc ?_ _) | (with_reducible refine Kd.C_drewN ?_ _) | (with_reducible refine Kd.C_drew ?_))); (case side4 => exact HC1.out); (case side5 => repeat (first | exact HR2.out | (with_reducible refine Kd.C_alloc ?_ _) | (with_reducible refine Kd.C_drewN ?_ _) | (with_reducible refine Kd.C_drew ?_))); (case side6 => exact HC2.out); rintro e w' ⟨rfl, ⟨nd, rfl⟩⟩; refine ⟨_, rfl, ?_⟩) | ((with_reducible refine gate_callee (f := 11) rfl ?_); refine goesL_ (some 30) rfl rfl Try.func11 (by kernel_rfl) rfl #[.slice A0 l0.length c0] rfl (by (try simp only [List.map_toArray, List.map_cons, List.map_nil]); first | done | rfl | (simp only [List.length_drop, List.length_take]; rfl)) ?_; (with_reducible refine (tributarykit_CopySpans.calls _ _ l0 t291 _ ?side1 ?side2 A8.out).mono ?_); (case side1 => repeat (first | exact HR0.out | (with_reducible refine Kd.C_alloc ?_ _) | (with_reducible refine Kd.C_drewN ?_ _) | (with_reducible refine Kd.C_drew ?_))); (case side2 => exact HC0.out); rintro e w18 ⟨v292, rfl, ho0, hb⟩; refine ⟨_, rfl, ?_⟩; have n0_ := Aside0.mk (Kd.R_lower ho0 (below_size (by repeat (first | (with_reducible first | exact HB.out | apply below_alloc | apply pw_below_drewN | apply below_drew1) | exact HB.out)))); have n1_ := Aside0.mk (below_step (by repeat (first | (with_reducible first | exact HB.out | apply below_alloc | apply pw_below_drewN | apply below_drew1) | exact HB.out)) hb); clear HB; have HO293 := n0_; have HB := n1_; clear n0_ n1_; (try clear hb); (try clear hb2); (try clear hk); (try clear hi); (try clear ho0)) | ((with_reducible refine gate_callee (f := 11) rfl ?_); refine goesL_ (some 32) rfl rfl Try.func11 (by kernel_rfl) rfl #[.slice A1 l1.length c1] rfl (by (try simp only [List.map_toArray, List.map_cons, List.map_nil]); first | done | rfl | (simp only [List.length_drop, List.length_take]; rfl)) ?_; (with_reducible refine (tributarykit_CopySpans.calls _ _ l1 t294 _ ?side1 ?side2 A9.out).mono ?_); (case side1 => repeat (first | exact (Kd.C_below HR1.out HB.out) | (with_reducible refine Kd.C_alloc ?_ _) | (with_reducible refine Kd.C_drewN ?_ _) | (with_reducible refine Kd.C_drew ?_))); (case side2 => exact HC1.out); rintro e w19 ⟨v295, rfl, ho0, hb⟩; refine ⟨_, rfl, ?_⟩; have n0_ := Aside0.mk (Kd.R_elder' (by (with_reducible repeat (first | apply Kd.R_alloc | apply Kd.R_drewN | apply Kd.R_drew)); exact HO293.out) (Kd.R_base ho0) hb); have n1_ := Aside0.mk (Kd.R_lower (Kd.R_new' ho0 (Kd.R_lt (by (with_reducible repeat (first | apply Kd.R_alloc | apply Kd.R_drewN | apply Kd.R_drew)); exact HO293.out))) (below_size (by repeat (first | (with_reducible first | exact HB.out | apply below_alloc | apply pw_below_drewN | apply below_drew1) | exact HB.out)))); have n2_ := Aside0.mk (below_step (by repeat (first | (with_reducible first | exact HB.out | apply below_alloc | apply pw_below_drewN | apply below_drew1) | exact HB.out)) hb); clear HO293; clear HB; have HO293 := n0_; have HO296 := n1_; have HB := n2_; clear n0_ n1_ n2_; (try clear hb); (try clear hb2); (try clear hk); (try clear hi); (try clear ho0)) | ((with_reducible refine gate_callee (f := 30) rfl ?_); refine goesL_ (some 34) rfl rfl Try.func30 (by kernel_rfl) rfl #[.slice A2 l2.length c2] rfl (by (try simp only [List.map_toArray, List.map_cons, List.map_nil]); first | done | rfl | (simp only [List.length_drop, List.length_take]; rfl)) ?_; (with_reducible refine (tributarykit_CopyDots.calls _ _ l2 t297 _ ?side1 ?side2 A10.out).mono ?_); (case side1 => repeat (first | exact (Kd.C_below HR2.out HB.out) | (with_reducible refine Kd.C_alloc ?_ _) | (with_reducible refine Kd.C_drewN ?_ _) | (with_reducible refine Kd.C_drew ?_))); (case side2 => exact HC2.out); rintro e w20 ⟨v298, rfl, ho0, hb⟩; refine ⟨_, rfl, ?_⟩; have n0_ := Aside0.mk (Kd.R_below (by (with_reducible repeat (first | apply Kd.R_alloc | apply Kd.R_drewN | apply Kd.R_drew)); exact HO293.out) hb); have n1_ := Aside0.mk (Kd.R_below (by (with_reducible repeat (first | apply Kd.R_alloc | apply Kd.R_drewN | apply Kd.R_drew)); exact HO296.out) hb); have n2_ := Aside0.mk (Kd.R_lower ho0 (below_size (by repeat (first | (with_reducible first | exact HB.out | apply below_alloc | apply pw_below_drewN | apply below_drew1) | exact HB.out)))); have n3_ := Aside0.mk (below_step (by repeat (first | (with_reducible first | exact HB.out | apply below_alloc | apply pw_below_drewN | apply below_drew1) | exact HB.out)) hb); clear HO293; clear HO296; clear HB; have HO293 := n0_; have HO296 := n1_; have HO299 := n2_; have HB := n3_; clear n0_ n1_ n2_ n3_; (try clear hb); (try clear hb2); (try clear hk); (try clear hi); (try clear ho0); obtain ⟨Ao21, co21, eo21⟩ := Kd.R_slice HO299.out; subst eo21) | ((with_reducible refine gate_callee (f := 31) rfl ?_); refine goesL_ (some 37) rfl rfl Try.func31 (by kernel_rfl) rfl #[.slice Ao21 t297.length co21] rfl (by (try simp only [List.map_toArray, List.map_cons, List.map_nil]); first | done | rfl | (simp only [List.length_drop, List.length_take]; rfl)) ?_; (with_reducible refine (past_Of.calls _ _ t297 t300 t301 _ ?side1 ?side2 A11.out).mono ?_); (case side1 => repeat (first | exact (Kd.R_reads' HO299.out).2.2 | (with_reducible refine Kd.C_alloc ?_ _) | (with_reducible refine Kd.C_drewN ?_ _) | (with_reducible refine Kd.C_drew ?_))); (case side2 => exact (Kd.R_reads' HO299.out).2.1); rintro e w22 ⟨v302, rfl, ho0, hb⟩; refine ⟨_, rfl, ?_⟩; have n0_ := Aside0.mk (Kd.R_elder' (by (with_reducible repeat (first | apply Kd.R_alloc | apply Kd.R_drewN | apply Kd.R_drew)); exact HO293.out) (Kd.R_base ho0) hb); have n1_ := Aside0.mk (Kd.R_elder' (by (with_reducible repeat (first | apply Kd.R_alloc | apply Kd.R_drewN | apply Kd.R_drew)); exact HO296.out) (Kd.R_base ho0) hb); have n2_ := Aside0.mk (Kd.R_below (by (with_reducible repeat (first | apply Kd.R_alloc | apply Kd.R_drewN | apply Kd.R_drew)); exact HO299.out) hb); have n3_ := Aside0.mk (Kd.R_lower (Kd.R_new' (Kd.R_new' ho0 (Kd.R_lt (by (with_reducible repeat (first | apply Kd.R_alloc | apply Kd.R_drewN | apply Kd.R_drew)); exact HO293.out))) (Kd.R_lt (by (with_reducible repeat (first | apply Kd.R_alloc | apply Kd.R_drewN | apply Kd.R_drew)); exact HO296.out))) (below_size (by repeat (first | (with_reducible first | exact HB.out | apply below_alloc | apply pw_below_drewN | apply below_drew1) | exact HB.out)))); have n4_ := Aside0.mk (below_step (by repeat (first | (with_reducible first | exact HB.out | apply below_alloc | apply pw_below_drewN | apply below_drew1) | exact HB.out)) hb); clear HO293; clear HO296; clear HO299; clear HB; have HO293 := n0_; have HO296 := n1_; have HO299 := n2_; have HO303 := n3_; have HB := n4_; clear n0_ n1_ n2_ n3_ n4_; (try clear hb); (try clear hb2); (try clear hk); (try clear hi); (try clear ho0)) | ((with_reducible refine gate_callee (f := 32) rfl ?_); refine goesL_ (some 42) rfl rfl Try.func32 (by kernel_rfl) rfl #[.slice A2 l2.length c2] rfl (by (try simp only [List.map_toArray, List.map_cons, List.map_nil]); first | done | rfl | (simp only [List.length_drop, List.length_take]; rfl)) ?_; (with_reducible refine (tributaryref07_Of.calls k _ _ l2 t304 t305 _ ?side1 ?side2 A12.out).mono ?_); (case side1 => repeat (first | exact (Kd.C_below HR2.out HB.out) | (with_reducible refine Kd.C_alloc ?_ _) | (with_reducible refine Kd.C_drewN ?_ _) | (with_reducible refine Kd.C_drew ?_))); (case side2 => exact HC2.out); rintro e w23 ⟨v306, rfl, ho0, hb⟩; refine ⟨_, rfl, ?_⟩; have n0_ := Aside0.mk (Kd.R_elder' (by (with_reducible repeat (first | apply Kd.R_alloc | apply Kd.R_drewN | apply Kd.R_drew)); exact HO293.out) (Kd.R_base ho0) hb); have n1_ := Aside0.mk (Kd.R_elder' (by (with_reducible repeat (first | apply Kd.R_alloc | apply Kd.R_drewN | apply Kd.R_drew)); exact HO296.out) (Kd.R_base ho0) hb); have n2_ := Aside0.mk (Kd.R_below (by (with_reducible repeat (first | apply Kd.R_alloc | apply Kd.R_drewN | apply Kd.R_drew)); exact HO299.out) hb); have n3_ := Aside0.mk (Kd.R_elder' (by (with_reducible repeat (first | apply Kd.R_alloc | apply Kd.R_drewN | apply Kd.R_drew)); exact HO303.out) (Kd.R_base ho0) hb); have n4_ := Aside0.mk (Kd.R_lower (Kd.R_new' (Kd.R_new' (Kd.R_new' ho0 (Kd.R_lt (by (with_reducible repeat (first | apply Kd.R_alloc | apply Kd.R_drewN | apply Kd.R_drew)); exact HO293.out))) (Kd.R_lt (by (with_reducible repeat (first | apply Kd.R_alloc | apply Kd.R_drewN | apply Kd.R_drew)); exact HO296.out))) (Kd.R_lt (by (with_reducible repeat (first | apply Kd.R_alloc | apply Kd.R_drewN | apply Kd.R_drew)); exact HO303.out))) (below_size (by repeat (first | (with_reducible first | exact HB.out | apply below_alloc | apply pw_below_drewN | apply below_drew1) | exact HB.out)))); have n5_ := Aside0.mk (below_step (by repeat (first | (with_reducible first | exact HB.out | apply below_alloc | apply pw_below_drewN | apply below_drew1) | exact HB.out)) hb); clear HO293; clear HO296; clear HO299; clear HO303; clear HB; have HO293 := n0_; have HO296 := n1_; have HO299 := n2_; have HO303 := n3_; have HO307 := n4_; have HB := n5_; clear n0_ n1_ n2_ n3_ n4_ n5_; (try clear hb); (try clear hb2); (try clear hk); (try clear hi); (try clear ho0); obtain ⟨Ao24, co24, eo24⟩ := Kd.R_slice HO293.out; subst eo24; obtain ⟨Ao25, co25, eo25⟩ := Kd.R_slice HO296.out; subst eo25) | ((with_reducible refine gate_callee (f := 33) rfl ?_); refine goesL_ (some 48) rfl rfl Try.func33 (by kernel_rfl) rfl #[.slice Ao24 t291.length co24, .slice Ao25 t294.length co25] rfl (by (try simp only [List.map_toArray, List.map_cons, List.map_nil]); first | done | rfl | (simp only [List.length_drop, List.length_take]; rfl)) ?_; (with_reducible refine (past_Join.calls k _ _ t291 _ _ t294 t308 t309 _ ?side1 ?side2 ?side3 ?side4 A13.out).mono ?_); (case side1 => repeat (first | exact (Kd.R_reads' HO293.out).2.2 | (with_reducible refine Kd.C_alloc ?_ _) | (with_reducible refine Kd.C_drewN ?_ _) | (with_reducible refine Kd.C_drew ?_))); (case side2 => exact (Kd.R_reads' HO293.out).2.1); (case side3 => repeat (first | exact (Kd.R_reads' HO296.out).2.2 | (with_reducible refine Kd.C_alloc ?_ _) | (with_reducible refine Kd.C_drewN ?_ _) | (with_reducible refine Kd.C_drew ?_))); (case side4 => exact (Kd.R_reads' HO296.out).2.1); rintro e w26 ⟨v310, rfl, ho0, hb⟩; refine ⟨_, rfl, ?_⟩; have n0_ := Aside0.mk (Kd.R_elder' (by (with_reducible repeat (first | apply Kd.R_alloc | apply Kd.R_drewN | apply Kd.R_drew)); exact HO293.out) (Kd.R_base ho0) hb); have n1_ := Aside0.mk (Kd.R_elder' (by (with_reducible repeat (first | apply Kd.R_alloc | apply Kd.R_drewN | apply Kd.R_drew)); exact HO296.out) (Kd.R_base ho0) hb); have n2_ := Aside0.mk (Kd.R_below (by (with_reducible repeat (first | apply Kd.R_alloc | apply Kd.R_drewN | apply Kd.R_drew)); exact HO299.out) hb); have n3_ := Aside0.mk (Kd.R_elder' (by (with_reducible repeat (first | apply Kd.R_alloc | apply Kd.R_drewN | apply Kd.R_drew)); exact HO303.out) (Kd.R_base ho0) hb); have n4_ := Aside0.mk (Kd.R_elder' (by (with_reducible repeat (first | apply Kd.R_alloc | apply Kd.R_drewN | apply Kd.R_drew)); exact HO307.out) (Kd.R_base ho0) hb); have n5_ := Aside0.mk (Kd.R_lower (Kd.R_new' (Kd.R_new' (Kd.R_new' (Kd.R_new' ho0 (Kd.R_lt (by (with_reducible repeat (first | apply Kd.R_alloc | apply Kd.R_drewN | apply Kd.R_drew)); exact HO293.out))) (Kd.R_lt (by (with_reducible repeat (first | apply Kd.R_alloc | apply Kd.R_drewN | apply Kd.R_drew)); exact HO296.out))) (Kd.R_lt (by (with_reducible repeat (first | apply Kd.R_alloc | apply Kd.R_drewN | apply Kd.R_drew)); exact HO303.out))) (Kd.R_lt (by (with_reducible repeat (first | apply Kd.R_alloc | apply Kd.R_drewN | apply Kd.R_drew)); exact HO307.out))) (below_size (by repeat (first | (with_reducible first | exact HB.out | apply below_alloc | apply pw_below_drewN | apply below_drew1) | exact HB.out)))); have n6_ := Aside0.mk (below_step (by repeat (first | (with_reducible first | exact HB.out | apply below_alloc | apply pw_below_drewN | apply below_drew1) | exact HB.out)) hb); clear HO293; clear HO296; clear HO299; clear HO303; clear HO307; clear HB; have HO293 := n0_; have HO296 := n1_; have HO299 := n2_; have HO303 := n3_; have HO307 := n4_; have HO311 := n5_; have HB := n6_; clear n0_ n1_ n2_ n3_ n4_ n5_ n6_; (try clear hb); (try clear hb2); (try clear hk); (try clear hi); (try clear ho0)) | ((with_reducible refine gate_callee (f := 34) rfl ?_); refine goesL_ (some 54) rfl rfl Try.func34 (by kernel_rfl) rfl #[.slice A0 l0.length c0, .slice A1 l1.length c1] rfl (by (try simp only [List.map_toArray, List.map_cons, List.map_nil]); first | done | rfl | (simp only [List.length_drop, List.length_take]; rfl)) ?_; (with_reducible refine (tributaryref07_Join.calls k _ _ l0 _ _ l1 t312 t313 _ ?side1 ?side2 ?side3 ?side4 A14.out).mono ?_); (case side1 => repeat (first | exact (Kd.C_below HR0.out HB.out) | (with_reducible refine Kd.C_alloc ?_ _) | (with_reducible refine Kd.C_drewN ?_ _) | (with_reducible refine Kd.C_drew ?_))); (case side2 => exact HC0.out); (case side3 => repeat (first | exact (Kd.C_below HR1.out HB.out) | (with_reducible refine Kd.C_alloc ?_ _) | (with_reducible refine Kd.C_drewN ?_ _) | (with_reducible refine Kd.C_drew ?_))); (case side4 => exact HC1.out); rintro e w27 ⟨v314, rfl, ho0, hb⟩; refine ⟨_, rfl, ?_⟩; have n0_ := Aside0.mk (Kd.R_elder' (by (with_reducible repeat (first | apply Kd.R_alloc | apply Kd.R_drewN | apply Kd.R_drew)); exact HO293.out) (Kd.R_base ho0) hb); have n1_ := Aside0.mk (Kd.R_elder' (by (with_reducible repeat (first | apply Kd.R_alloc | apply Kd.R_drewN | apply Kd.R_drew)); exact HO296.out) (Kd.R_base ho0) hb); have n2_ := Aside0.mk (Kd.R_below (by (with_reducible repeat (first | apply Kd.R_alloc | apply Kd.R_drewN | apply Kd.R_drew)); exact HO299.out) hb); have n3_ := Aside0.mk (Kd.R_elder' (by (with_reducible repeat (first | apply Kd.R_alloc | apply Kd.R_drewN | apply Kd.R_drew)); exact HO303.out) (Kd.R_base ho0) hb); have n4_ := Aside0.mk (Kd.R_elder' (by (with_reducible repeat (first | apply Kd.R_alloc | apply Kd.R_drewN | apply Kd.R_drew)); exact HO307.out) (Kd.R_base ho0) hb); have n5_ := Aside0.mk (Kd.R_elder' (by (with_reducible repeat (first | apply Kd.R_alloc | apply Kd.R_drewN | apply Kd.R_drew)); exact HO311.out) (Kd.R_base ho0) hb); have n6_ := Aside0.mk (Kd.R_lower (Kd.R_new' (Kd.R_new' (Kd.R_new' (Kd.R_new' (Kd.R_new' ho0 (Kd.R_lt (by (with_reducible repeat (first | apply Kd.R_alloc | apply Kd.R_drewN | apply Kd.R_drew)); exact HO293.out))) (Kd.R_lt (by (with_reducible repeat (first | apply Kd.R_alloc | apply Kd.R_drewN | apply Kd.R_drew)); exact HO296.out))) (Kd.R_lt (by (with_reducible repeat (first | apply Kd.R_alloc | apply Kd.R_drewN | apply Kd.R_drew)); exact HO303.out))) (Kd.R_lt (by (with_reducible repeat (first | apply Kd.R_alloc | apply Kd.R_drewN | apply Kd.R_drew)); exact HO307.out))) (Kd.R_lt (by (with_reducible repeat (first | apply Kd.R_alloc | apply Kd.R_drewN | apply Kd.R_drew)); exact HO311.out))) (below_size (by repeat (first | (with_reducible first | exact HB.out | apply below_alloc | apply pw_below_drewN | apply below_drew1) | exact HB.out)))); have n7_ := Aside0.mk (below_step (by repeat (first | (with_reducible first | exact HB.out | apply below_alloc | apply pw_below_drewN | apply below_drew1) | exact HB.out)) hb); clear HO293; clear HO296; clear HO299; clear HO303; clear HO307; clear HO311; clear HB; have HO293 := n0_; have HO296 := n1_; have HO299 := n2_; have HO303 := n3_; have HO307 := n4_; have HO311 := n5_; have HO315 := n6_; have HB := n7_; clear n0_ n1_ n2_ n3_ n4_ n5_ n6_ n7_; (try clear hb); (try clear hb2); (try clear hk); (try clear hi); (try clear ho0)) | ((with_reducible refine gate_callee (f := 35) rfl ?_); refine goesL_ (some 60) rfl rfl Try.func35 (by kernel_rfl) rfl #[.slice Ao24 t291.length co24, .slice Ao25 t294.length co25] rfl (by (try simp only [List.map_toArray, List.map_cons, List.map_nil]); first | done | rfl | (simp only [List.length_drop, List.length_take]; rfl)) ?_; (with_reducible refine (past_Minus.calls k _ _ t291 _ _ t294 t316 t317 _ ?side1 ?side2 ?side3 ?side4 A15.out).mono ?_); (case side1 => repeat (first | exact (Kd.R_reads' HO293.out).2.2 | (with_reducible refine Kd.C_alloc ?_ _) | (with_reducible refine Kd.C_drewN ?_ _) | (with_reducible refine Kd.C_drew ?_))); (case side2 => exact (Kd.R_reads' HO293.out).2.1); (case side3 => repeat (first | exact (Kd.R_reads' HO296.out).2.2 | (with_reducible refine Kd.C_alloc ?_ _) | (with_reducible refine Kd.C_drewN ?_ _) | (with_reducible refine Kd.C_drew ?_))); (case side4 => exact (Kd.R_reads' HO296.out).2.1); rintro e w28 ⟨v318, rfl, ho0, hb⟩; refine ⟨_, rfl, ?_⟩; have n0_ := Aside0.mk (Kd.R_elder' (by (with_reducible repeat (first | apply Kd.R_alloc | apply Kd.R_drewN | apply Kd.R_drew)); exact HO293.out) (Kd.R_base ho0) hb); have n1_ := Aside0.mk (Kd.R_elder' (by (with_reducible repeat (first | apply Kd.R_alloc | apply Kd.R_drewN | apply Kd.R_drew)); exact HO296.out) (Kd.R_base ho0) hb); have n2_ := Aside0.mk (Kd.R_below (by (with_reducible repeat (first | apply Kd.R_alloc | apply Kd.R_drewN | apply Kd.R_drew)); exact HO299.out) hb); have n3_ := Aside0.mk (Kd.R_elder' (by (with_reducible repeat (first | apply Kd.R_alloc | apply Kd.R_drewN | apply Kd.R_drew)); exact HO303.out) (Kd.R_base ho0) hb); have n4_ := Aside0.mk (Kd.R_elder' (by (with_reducible repeat (first | apply Kd.R_alloc | apply Kd.R_drewN | apply Kd.R_drew)); exact HO307.out) (Kd.R_base ho0) hb); have n5_ := Aside0.mk (Kd.R_elder' (by (with_reducible repeat (first | apply Kd.R_alloc | apply Kd.R_drewN | apply Kd.R_drew)); exact HO311.out) (Kd.R_base ho0) hb); have n6_ := Aside0.mk (Kd.R_elder' (by (with_reducible repeat (first | apply Kd.R_alloc | apply Kd.R_drewN | apply Kd.R_drew)); exact HO315.out) (Kd.R_base ho0) hb); have n7_ := Aside0.mk (Kd.R_lower (Kd.R_new' (Kd.R_new' (Kd.R_new' (Kd.R_new' (Kd.R_new' (Kd.R_new' ho0 (Kd.R_lt (by (with_reducible repeat (first | apply Kd.R_alloc | apply Kd.R_drewN | apply Kd.R_drew)); exact HO293.out))) (Kd.R_lt (by (with_reducible repeat (first | apply Kd.R_alloc | apply Kd.R_drewN | apply Kd.R_drew)); exact HO296.out))) (Kd.R_lt (by (with_reducible repeat (first | apply Kd.R_alloc | apply Kd.R_drewN | apply Kd.R_drew)); exact HO303.out))) (Kd.R_lt (by (with_reducible repeat (first | apply Kd.R_alloc | apply Kd.R_drewN | apply Kd.R_drew)); exact HO307.out))) (Kd.R_lt (by (with_reducible repeat (first | apply Kd.R_alloc | apply Kd.R_drewN | apply Kd.R_drew)); exact HO311.out))) (Kd.R_lt (by (with_reducible repeat (first | apply Kd.R_alloc | apply Kd.R_drewN | apply Kd.R_drew)); exact HO315.out))) (below_size (by repeat (first | (with_reducible first | exact HB.out | apply below_alloc | apply pw_below_drewN | apply below_drew1) | exact HB.out)))); have n8_ := Aside0.mk (below_step (by repeat (first | (with_reducible first | exact HB.out | apply below_alloc | apply pw_below_drewN | apply below_drew1) | exact HB.out)) hb); clear HO293; clear HO296; clear HO299; clear HO303; clear HO307; clear HO311; clear HO315; clear HB; have HO293 := n0_; have HO296 := n1_; have HO299 := n2_; have HO303 := n3_; have HO307 := n4_; have HO311 := n5_; have HO315 := n6_; have HO319 := n7_; have HB := n8_; clear n0_ n1_ n2_ n3_ n4_ n5_ n6_ n7_ n8_; (try clear hb); (try clear hb2); (try clear hk); (try clear hi); (try clear ho0)) | ((with_reducible refine gate_callee (f := 36) rfl ?_); refine goesL_ (some 66) rfl rfl Try.func36 (by kernel_rfl) rfl #[.slice A0 l0.length c0, .slice A1 l1.length c1] rfl (by (try simp only [List.map_toArray, List.map_cons, List.map_nil]); first | done | rfl | (simp only [List.length_drop, List.length_take]; rfl)) ?_; (with_reducible refine (tributaryref07_Minus.calls k _ _ l0 _ _ l1 t320 t321 _ ?side1 ?side2 ?side3 ?side4 A16.out).mono ?_); (case side1 => repeat (first | exact (Kd.C_below HR0.out HB.out) | (with_reducible refine Kd.C_alloc ?_ _) | (with_reducible refine Kd.C_drewN ?_ _) | (with_reducible refine Kd.C_drew ?_))); (case side2 => exact HC0.out); (case side3 => repeat (first | exact (Kd.C_below HR1.out HB.out) | (with_reducible refine Kd.C_alloc ?_ _) | (with_reducible refine Kd.C_drewN ?_ _) | (with_reducible refine Kd.C_drew ?_))); (case side4 => exact HC1.out); rintro e w29 ⟨v322, rfl, ho0, hb⟩; refine ⟨_, rfl, ?_⟩; have n0_ := Aside0.mk (Kd.R_elder' (by (with_reducible repeat (first | apply Kd.R_alloc | apply Kd.R_drewN | apply Kd.R_drew)); exact HO293.out) (Kd.R_base ho0) hb); have n1_ := Aside0.mk (Kd.R_elder' (by (with_reducible repeat (first | apply Kd.R_alloc | apply Kd.R_drewN | apply Kd.R_drew)); exact HO296.out) (Kd.R_base ho0) hb); have n2_ := Aside0.mk (Kd.R_below (by (with_reducible repeat (first | apply Kd.R_alloc | apply Kd.R_drewN | apply Kd.R_drew)); exact HO299.out) hb); have n3_ := Aside0.mk (Kd.R_elder' (by (with_reducible repeat (first | apply Kd.R_alloc | apply Kd.R_drewN | apply Kd.R_drew)); exact HO303.out) (Kd.R_base ho0) hb); have n4_ := Aside0.mk (Kd.R_elder' (by (with_reducible repeat (first | apply Kd.R_alloc | apply Kd.R_drewN | apply Kd.R_drew)); exact HO307.out) (Kd.R_base ho0) hb); have n5_ := Aside0.mk (Kd.R_elder' (by (with_reducible repeat (first | apply Kd.R_alloc | apply Kd.R_drewN | apply Kd.R_drew)); exact HO311.out) (Kd.R_base ho0) hb); have n6_ := Aside0.mk (Kd.R_elder' (by (with_reducible repeat (first | apply Kd.R_alloc | apply Kd.R_drewN | apply Kd.R_drew)); exact HO315.out) (Kd.R_base ho0) hb); have n7_ := Aside0.mk (Kd.R_elder' (by (with_reducible repeat (first | apply Kd.R_alloc | apply Kd.R_drewN | apply Kd.R_drew)); exact HO319.out) (Kd.R_base ho0) hb); have n8_ := Aside0.mk (Kd.R_lower (Kd.R_new' (Kd.R_new' (Kd.R_new' (Kd.R_new' (Kd.R_new' (Kd.R_new' (Kd.R_new' ho0 (Kd.R_lt (by (with_reducible repeat (first | apply Kd.R_alloc | apply Kd.R_drewN | apply Kd.R_drew)); exact HO293.out))) (Kd.R_lt (by (with_reducible repeat (first | apply Kd.R_alloc | apply Kd.R_drewN | apply Kd.R_drew)); exact HO296.out))) (Kd.R_lt (by (with_reducible repeat (first | apply Kd.R_alloc | apply Kd.R_drewN | apply Kd.R_drew)); exact HO303.out))) (Kd.R_lt (by (with_reducible repeat (first | apply Kd.R_alloc | apply Kd.R_drewN | apply Kd.R_drew)); exact HO307.out))) (Kd.R_lt (by (with_reducible repeat (first | apply Kd.R_alloc | apply Kd.R_drewN | apply Kd.R_drew)); exact HO311.out))) (Kd.R_lt (by (with_reducible repeat (first | apply Kd.R_alloc | apply Kd.R_drewN | apply Kd.R_drew)); exact HO315.out))) (Kd.R_lt (by (with_reducible repeat (first | apply Kd.R_alloc | apply Kd.R_drewN | apply Kd.R_drew)); exact HO319.out))) (below_size (by repeat (first | (with_reducible first | exact HB.out | apply below_alloc | apply pw_below_drewN | apply below_drew1) | exact HB.out)))); have n9_ := Aside0.mk (below_step (by repeat (first | (with_reducible first | exact HB.out | apply below_alloc | apply pw_below_drewN | apply below_drew1) | exact HB.out)) hb); clear HO293; clear HO296; clear HO299; clear HO303; clear HO307; clear HO311; clear HO315; clear HO319; clear HB; have HO293 := n0_; have HO296 := n1_; have HO299 := n2_; have HO303 := n3_; have HO307 := n4_; have HO311 := n5_; have HO315 := n6_; have HO319 := n7_; have HO323 := n8_; have HB := n9_; clear n0_ n1_ n2_ n3_ n4_ n5_ n6_ n7_ n8_ n9_; (try clear hb); (try clear hb2); (try clear hk); (try clear hi); (try clear ho0)))
    (try simp only [Act.put, List.setIfInBounds_toArray, List.set_cons_zero, List.set_cons_succ])
    go_cut [22] (fun v22 wc => ∃ (kq : Nat) (x22_16 : Bool), v22 = .bool x22_16 ∧ Aside0 (tributarylaw07_PastSets.j0 kq l0 l1 l2 t291 t294 t297 t308 t316 x22_16 = some r) ∧ Aside0 (kq ≤ k) ∧ Aside0 (Kd.R k60 60 wc w.heap.size (fun k_ => some k_ ≠ ((.slice Ao25 t294.length co25) : Value).ownBlock ∧ some k_ ≠ (v310 : Value).ownBlock ∧ some k_ ≠ (v318 : Value).ownBlock) (.slice Ao24 t291.length co24) t291) ∧ Aside0 (Kd.R k60 60 wc w.heap.size (fun k_ => some k_ ≠ ((.slice Ao24 t291.length co24) : Value).ownBlock ∧ some k_ ≠ (v310 : Value).ownBlock ∧ some k_ ≠ (v318 : Value).ownBlock) (.slice Ao25 t294.length co25) t294) ∧ Aside0 (Kd.R k41 41 wc w.heap.size (fun _ => True) (.slice Ao21 t297.length co21) t297) ∧ Aside0 (Kd.R k60 60 wc w.heap.size (fun k_ => some k_ ≠ ((.slice Ao24 t291.length co24) : Value).ownBlock ∧ some k_ ≠ ((.slice Ao25 t294.length co25) : Value).ownBlock ∧ some k_ ≠ (v318 : Value).ownBlock) v310 t308) ∧ Aside0 (Kd.R k60 60 wc w.heap.size (fun k_ => some k_ ≠ ((.slice Ao24 t291.length co24) : Value).ownBlock ∧ some k_ ≠ ((.slice Ao25 t294.length co25) : Value).ownBlock ∧ some k_ ≠ (v310 : Value).ownBlock) v318 t316) ∧ Aside0 (Below w.heap.size w wc))
    case first =>
      have H := HC17.out
      clear HC17
      replace H := Option.bind_eq_some_iff.mp H
      obtain ⟨t324, A300, H⟩ := H
      replace H : (if t324 = true then (if t301 = t305 then ((tributarykit_SameSpans.f k t308 t312).bind fun t325 => (if t325 = true then (if t309 = t313 then ((tributarykit_SameSpans.f k t316 t320).bind fun t326 => (if t326 = true then (tributarylaw07_PastSets.j0 k l0 l1 l2 t291 t294 t297 t308 t316 (t317 == t321)) else (tributarylaw07_PastSets.j0 k l0 l1 l2 t291 t294 t297 t308 t316 false))) else (tributarylaw07_PastSets.j0 k l0 l1 l2 t291 t294 t297 t308 t316 false)) else (tributarylaw07_PastSets.j0 k l0 l1 l2 t291 t294 t297 t308 t316 false))) else (tributarylaw07_PastSets.j0 k l0 l1 l2 t291 t294 t297 t308 t316 false)) else (tributarylaw07_PastSets.j0 k l0 l1 l2 t291 t294 t297 t308 t316 false)) = some r := H
      have A30 := Aside0.mk A300
      clear A300
      by_cases c31 : t324 = true
      · subst c31
        have H1 : (if t301 = t305 then ((tributarykit_SameSpans.f k t308 t312).bind fun t325 => (if t325 = true then (if t309 = t313 then ((tributarykit_SameSpans.f k t316 t320).bind fun t326 => (if t326 = true then (tributarylaw07_PastSets.j0 k l0 l1 l2 t291 t294 t297 t308 t316 (t317 == t321)) else (tributarylaw07_PastSets.j0 k l0 l1 l2 t291 t294 t297 t308 t316 false))) else (tributarylaw07_PastSets.j0 k l0 l1 l2 t291 t294 t297 t308 t316 false)) else (tributarylaw07_PastSets.j0 k l0 l1 l2 t291 t294 t297 t308 t316 false))) else (tributarylaw07_PastSets.j0 k l0 l1 l2 t291 t294 t297 t308 t316 false)) = some r := by rw [if_pos rfl] at H; exact H
        clear H
        have H := H1
        clear H1
        by_cases c32 : t301 = t305
        · rw [if_pos c32] at H
          have c32b0 : (t301 == t305) = true := beq_iff_eq.mpr c32
          have c32b1 : (t301 != t305) = false := bne_eq_false_iff_eq.mpr c32
          clear c32
          (first | rw [c32b0] | (simp only [i64_w, i32_w]; rw [c32b0]) | skip)
          replace H := Option.bind_eq_some_iff.mp H
          obtain ⟨t325, A330, H⟩ := H
          replace H : (if t325 = true then (if t309 = t313 then ((tributarykit_SameSpans.f k t316 t320).bind fun t326 => (if t326 = true then (tributarylaw07_PastSets.j0 k l0 l1 l2 t291 t294 t297 t308 t316 (t317 == t321)) else (tributarylaw07_PastSets.j0 k l0 l1 l2 t291 t294 t297 t308 t316 false))) else (tributarylaw07_PastSets.j0 k l0 l1 l2 t291 t294 t297 t308 t316 false)) else (tributarylaw07_PastSets.j0 k l0 l1 l2 t291 t294 t297 t308 t316 false)) = some r := H
          have A33 := Aside0.mk A330
          clear A330
          by_cases c34 : t325 = true
          · subst c34
            have H1 : (if t309 = t313 then ((tributarykit_SameSpans.f k t316 t320).bind fun t326 => (if t326 = true then (tributarylaw07_PastSets.j0 k l0 l1 l2 t291 t294 t297 t308 t316 (t317 == t321)) else (tributarylaw07_PastSets.j0 k l0 l1 l2 t291 t294 t297 t308 t316 false))) else (tributarylaw07_PastSets.j0 k l0 l1 l2 t291 t294 t297 t308 t316 false)) = some r := by rw [if_pos rfl] at H; exact H
            clear H
            have H := H1
            clear H1
            by_cases c35 : t309 = t313
            · rw [if_pos c35] at H
              have c35b0 : (t309 == t313) = true := beq_iff_eq.mpr c35
              have c35b1 : (t309 != t313) = false := bne_eq_false_iff_eq.mpr c35
              clear c35
              replace H := Option.bind_eq_some_iff.mp H
              obtain ⟨t326, A360, H⟩ := H
              replace H : (if t326 = true then (tributarylaw07_PastSets.j0 k l0 l1 l2 t291 t294 t297 t308 t316 (t317 == t321)) else (tributarylaw07_PastSets.j0 k l0 l1 l2 t291 t294 t297 t308 t316 false)) = some r := H
              have A36 := Aside0.mk A360
              clear A360
              by_cases c37 : t326 = true
              · subst c37
                have H1 : (tributarylaw07_PastSets.j0 k l0 l1 l2 t291 t294 t297 t308 t316 (t317 == t321)) = some r := by rw [if_pos rfl] at H; exact H
                clear H
                have H := H1
                clear H1
                have H' := Aside0.mk H
                clear H
                obtain ⟨Ao38, co38, eo38⟩ := Kd.R_slice HO303.out
                subst eo38
                obtain ⟨Ao39, co39, eo39⟩ := Kd.R_slice HO307.out
                subst eo39
                go_wp2_with (first | ((with_reducible refine gate_callee (f := 18) rfl ?_); refine goesL_ (some 71) rfl rfl Try.func18 (by kernel_rfl) rfl #[.slice Ao38 t300.length co38, .slice Ao39 t304.length co39] rfl (by (try simp only [List.map_toArray, List.map_cons, List.map_nil]); first | done | rfl | (simp only [List.length_drop, List.length_take]; rfl)) ?_; (with_reducible refine (tributarykit_SameSpans.calls k _ _ t300 _ _ t304 true _ ?side1 ?side2 ?side3 ?side4 A30.out).mono ?_); (case side1 => repeat (first | exact (Kd.R_reads' HO303.out).2.2 | (with_reducible refine Kd.C_alloc ?_ _) | (with_reducible refine Kd.C_drewN ?_ _) | (with_reducible refine Kd.C_drew ?_))); (case side2 => exact (Kd.R_reads' HO303.out).2.1); (case side3 => repeat (first | exact (Kd.R_reads' HO307.out).2.2 | (with_reducible refine Kd.C_alloc ?_ _) | (with_reducible refine Kd.C_drewN ?_ _) | (with_reducible refine Kd.C_drew ?_))); (case side4 => exact (Kd.R_reads' HO307.out).2.1); rintro e w' ⟨rfl, ⟨nd, rfl⟩⟩; refine ⟨_, rfl, ?_⟩; obtain ⟨Ao40, co40, eo40⟩ := Kd.R_slice HO311.out; subst eo40; obtain ⟨Ao41, co41, eo41⟩ := Kd.R_slice HO315.out; subst eo41) | (go_at_call 18; (with_reducible refine (tributarykit_SameSpans.calls k _ _ t308 _ _ t312 true _ ?side1 ?side2 ?side3 ?side4 A33.out).mono ?_); (case side1 => repeat (first | exact (Kd.R_reads' HO311.out).2.2 | (with_reducible refine Kd.C_alloc ?_ _) | (with_reducible refine Kd.C_drewN ?_ _) | (with_reducible refine Kd.C_drew ?_))); (case side2 => exact (Kd.R_reads' HO311.out).2.1); (case side3 => repeat (first | exact (Kd.R_reads' HO315.out).2.2 | (with_reducible refine Kd.C_alloc ?_ _) | (with_reducible refine Kd.C_drewN ?_ _) | (with_reducible refine Kd.C_drew ?_))); (case side4 => exact (Kd.R_reads' HO315.out).2.1); rintro e w' ⟨rfl, ⟨nd, rfl⟩⟩; obtain ⟨Ao42, co42, eo42⟩ := Kd.R_slice HO319.out; subst eo42; obtain ⟨Ao43, co43, eo43⟩ := Kd.R_slice HO323.out; subst eo43) | (go_at_call 18; (with_reducible refine (tributarykit_SameSpans.calls k _ _ t316 _ _ t320 true _ ?side1 ?side2 ?side3 ?side4 A36.out).mono ?_); (case side1 => repeat (first | exact (Kd.R_reads' HO319.out).2.2 | (with_reducible refine Kd.C_alloc ?_ _) | (with_reducible refine Kd.C_drewN ?_ _) | (with_reducible refine Kd.C_drew ?_))); (case side2 => exact (Kd.R_reads' HO319.out).2.1); (case side3 => repeat (first | exact (Kd.R_reads' HO323.out).2.2 | (with_reducible refine Kd.C_alloc ?_ _) | (with_reducible refine Kd.C_drewN ?_ _) | (with_reducible refine Kd.C_drew ?_))); (case side4 => exact (Kd.R_reads' HO323.out).2.1); rintro e w' ⟨rfl, ⟨nd, rfl⟩⟩))
                go_meet
                case rel => exact ⟨_, ((t317 == t321)), (by first | rfl | (simp; done) | (simp [*]; done)), H', ⟨by first | omega | exact Nat.le_refl _⟩, ⟨by (with_reducible repeat (first | apply Kd.R_alloc | apply Kd.R_drewN | apply Kd.R_drew)); exact Kd.R_mono HO293.out (fun _ hk => ⟨hk.1.1.1.1.1.1.2, ⟨hk.1.1.1.2, hk.1.2⟩⟩)⟩, ⟨by (with_reducible repeat (first | apply Kd.R_alloc | apply Kd.R_drewN | apply Kd.R_drew)); exact Kd.R_mono HO296.out (fun _ hk => ⟨hk.1.1.1.1.1.1.2, ⟨hk.1.1.1.2, hk.1.2⟩⟩)⟩, ⟨by (with_reducible repeat (first | apply Kd.R_alloc | apply Kd.R_drewN | apply Kd.R_drew)); exact HO299.out⟩, ⟨by (with_reducible repeat (first | apply Kd.R_alloc | apply Kd.R_drewN | apply Kd.R_drew)); exact Kd.R_mono HO311.out (fun _ hk => ⟨hk.1.1.1.1.1.1.2, ⟨hk.1.1.1.1.1.2, hk.1.2⟩⟩)⟩, ⟨by (with_reducible repeat (first | apply Kd.R_alloc | apply Kd.R_drewN | apply Kd.R_drew)); exact Kd.R_mono HO319.out (fun _ hk => ⟨hk.1.1.1.1.1.1.2, ⟨hk.1.1.1.1.1.2, hk.1.1.2⟩⟩)⟩, ⟨by repeat (first | (with_reducible first | exact HB.out | apply below_alloc | apply pw_below_drewN | apply below_drew1) | exact HB.out)⟩⟩
              · replace c37 := Bool.eq_false_iff.mpr c37
                subst c37
                have H1 : (tributarylaw07_PastSets.j0 k l0 l1 l2 t291 t294 t297 t308 t316 false) = some r := by rw [if_neg (show ¬ (false = true) by decide)] at H; exact H
                clear H
                have H := H1
                clear H1
                have H' := Aside0.mk H
                clear H
                obtain ⟨Ao44, co44, eo44⟩ := Kd.R_slice HO303.out
                subst eo44
                obtain ⟨Ao45, co45, eo45⟩ := Kd.R_slice HO307.out
                subst eo45
                go_wp2_with (first | ((with_reducible refine gate_callee (f := 18) rfl ?_); refine goesL_ (some 71) rfl rfl Try.func18 (by kernel_rfl) rfl #[.slice Ao44 t300.length co44, .slice Ao45 t304.length co45] rfl (by (try simp only [List.map_toArray, List.map_cons, List.map_nil]); first | done | rfl | (simp only [List.length_drop, List.length_take]; rfl)) ?_; (with_reducible refine (tributarykit_SameSpans.calls k _ _ t300 _ _ t304 true _ ?side1 ?side2 ?side3 ?side4 A30.out).mono ?_); (case side1 => repeat (first | exact (Kd.R_reads' HO303.out).2.2 | (with_reducible refine Kd.C_alloc ?_ _) | (with_reducible refine Kd.C_drewN ?_ _) | (with_reducible refine Kd.C_drew ?_))); (case side2 => exact (Kd.R_reads' HO303.out).2.1); (case side3 => repeat (first | exact (Kd.R_reads' HO307.out).2.2 | (with_reducible refine Kd.C_alloc ?_ _) | (with_reducible refine Kd.C_drewN ?_ _) | (with_reducible refine Kd.C_drew ?_))); (case side4 => exact (Kd.R_reads' HO307.out).2.1); rintro e w' ⟨rfl, ⟨nd, rfl⟩⟩; refine ⟨_, rfl, ?_⟩; obtain ⟨Ao46, co46, eo46⟩ := Kd.R_slice HO311.out; subst eo46; obtain ⟨Ao47, co47, eo47⟩ := Kd.R_slice HO315.out; subst eo47) | (go_at_call 18; (with_reducible refine (tributarykit_SameSpans.calls k _ _ t308 _ _ t312 true _ ?side1 ?side2 ?side3 ?side4 A33.out).mono ?_); (case side1 => repeat (first | exact (Kd.R_reads' HO311.out).2.2 | (with_reducible refine Kd.C_alloc ?_ _) | (with_reducible refine Kd.C_drewN ?_ _) | (with_reducible refine Kd.C_drew ?_))); (case side2 => exact (Kd.R_reads' HO311.out).2.1); (case side3 => repeat (first | exact (Kd.R_reads' HO315.out).2.2 | (with_reducible refine Kd.C_alloc ?_ _) | (with_reducible refine Kd.C_drewN ?_ _) | (with_reducible refine Kd.C_drew ?_))); (case side4 => exact (Kd.R_reads' HO315.out).2.1); rintro e w' ⟨rfl, ⟨nd, rfl⟩⟩; obtain ⟨Ao48, co48, eo48⟩ := Kd.R_slice HO319.out; subst eo48; obtain ⟨Ao49, co49, eo49⟩ := Kd.R_slice HO323.out; subst eo49) | (go_at_call 18; (with_reducible refine (tributarykit_SameSpans.calls k _ _ t316 _ _ t320 false _ ?side1 ?side2 ?side3 ?side4 A36.out).mono ?_); (case side1 => repeat (first | exact (Kd.R_reads' HO319.out).2.2 | (with_reducible refine Kd.C_alloc ?_ _) | (with_reducible refine Kd.C_drewN ?_ _) | (with_reducible refine Kd.C_drew ?_))); (case side2 => exact (Kd.R_reads' HO319.out).2.1); (case side3 => repeat (first | exact (Kd.R_reads' HO323.out).2.2 | (with_reducible refine Kd.C_alloc ?_ _) | (with_reducible refine Kd.C_drewN ?_ _) | (with_reducible refine Kd.C_drew ?_))); (case side4 => exact (Kd.R_reads' HO323.out).2.1); rintro e w' ⟨rfl, ⟨nd, rfl⟩⟩))
                go_meet
                case rel => exact ⟨_, (false), (by first | rfl | (simp; done) | (simp [*]; done)), H', ⟨by first | omega | exact Nat.le_refl _⟩, ⟨by (with_reducible repeat (first | apply Kd.R_alloc | apply Kd.R_drewN | apply Kd.R_drew)); exact Kd.R_mono HO293.out (fun _ hk => ⟨hk.1.1.1.1.1.1.2, ⟨hk.1.1.1.2, hk.1.2⟩⟩)⟩, ⟨by (with_reducible repeat (first | apply Kd.R_alloc | apply Kd.R_drewN | apply Kd.R_drew)); exact Kd.R_mono HO296.out (fun _ hk => ⟨hk.1.1.1.1.1.1.2, ⟨hk.1.1.1.2, hk.1.2⟩⟩)⟩, ⟨by (with_reducible repeat (first | apply Kd.R_alloc | apply Kd.R_drewN | apply Kd.R_drew)); exact HO299.out⟩, ⟨by (with_reducible repeat (first | apply Kd.R_alloc | apply Kd.R_drewN | apply Kd.R_drew)); exact Kd.R_mono HO311.out (fun _ hk => ⟨hk.1.1.1.1.1.1.2, ⟨hk.1.1.1.1.1.2, hk.1.2⟩⟩)⟩, ⟨by (with_reducible repeat (first | apply Kd.R_alloc | apply Kd.R_drewN | apply Kd.R_drew)); exact Kd.R_mono HO319.out (fun _ hk => ⟨hk.1.1.1.1.1.1.2, ⟨hk.1.1.1.1.1.2, hk.1.1.2⟩⟩)⟩, ⟨by repeat (first | (with_reducible first | exact HB.out | apply below_alloc | apply pw_below_drewN | apply below_drew1) | exact HB.out)⟩⟩
            · rw [if_neg c35] at H
              have c35b0 : (t309 == t313) = false := beq_eq_false_iff_ne.mpr c35
              have c35b1 : (t309 != t313) = true := bne_iff_ne.mpr c35
              have H' := Aside0.mk H
              clear H
              obtain ⟨Ao50, co50, eo50⟩ := Kd.R_slice HO303.out
              subst eo50
              obtain ⟨Ao51, co51, eo51⟩ := Kd.R_slice HO307.out
              subst eo51
              go_wp2_with (first | ((with_reducible refine gate_callee (f := 18) rfl ?_); refine goesL_ (some 71) rfl rfl Try.func18 (by kernel_rfl) rfl #[.slice Ao50 t300.length co50, .slice Ao51 t304.length co51] rfl (by (try simp only [List.map_toArray, List.map_cons, List.map_nil]); first | done | rfl | (simp only [List.length_drop, List.length_take]; rfl)) ?_; (with_reducible refine (tributarykit_SameSpans.calls k _ _ t300 _ _ t304 true _ ?side1 ?side2 ?side3 ?side4 A30.out).mono ?_); (case side1 => repeat (first | exact (Kd.R_reads' HO303.out).2.2 | (with_reducible refine Kd.C_alloc ?_ _) | (with_reducible refine Kd.C_drewN ?_ _) | (with_reducible refine Kd.C_drew ?_))); (case side2 => exact (Kd.R_reads' HO303.out).2.1); (case side3 => repeat (first | exact (Kd.R_reads' HO307.out).2.2 | (with_reducible refine Kd.C_alloc ?_ _) | (with_reducible refine Kd.C_drewN ?_ _) | (with_reducible refine Kd.C_drew ?_))); (case side4 => exact (Kd.R_reads' HO307.out).2.1); rintro e w' ⟨rfl, ⟨nd, rfl⟩⟩; refine ⟨_, rfl, ?_⟩; obtain ⟨Ao52, co52, eo52⟩ := Kd.R_slice HO311.out; subst eo52; obtain ⟨Ao53, co53, eo53⟩ := Kd.R_slice HO315.out; subst eo53) | (go_at_call 18; (with_reducible refine (tributarykit_SameSpans.calls k _ _ t308 _ _ t312 true _ ?side1 ?side2 ?side3 ?side4 A33.out).mono ?_); (case side1 => repeat (first | exact (Kd.R_reads' HO311.out).2.2 | (with_reducible refine Kd.C_alloc ?_ _) | (with_reducible refine Kd.C_drewN ?_ _) | (with_reducible refine Kd.C_drew ?_))); (case side2 => exact (Kd.R_reads' HO311.out).2.1); (case side3 => repeat (first | exact (Kd.R_reads' HO315.out).2.2 | (with_reducible refine Kd.C_alloc ?_ _) | (with_reducible refine Kd.C_drewN ?_ _) | (with_reducible refine Kd.C_drew ?_))); (case side4 => exact (Kd.R_reads' HO315.out).2.1); rintro e w' ⟨rfl, ⟨nd, rfl⟩⟩))
              go_meet
              case rel => exact ⟨_, (false), (by first | rfl | (simp; done) | (simp [*]; done)), H', ⟨by first | omega | exact Nat.le_refl _⟩, ⟨by (with_reducible repeat (first | apply Kd.R_alloc | apply Kd.R_drewN | apply Kd.R_drew)); exact Kd.R_mono HO293.out (fun _ hk => ⟨hk.1.1.1.1.1.1.2, ⟨hk.1.1.1.2, hk.1.2⟩⟩)⟩, ⟨by (with_reducible repeat (first | apply Kd.R_alloc | apply Kd.R_drewN | apply Kd.R_drew)); exact Kd.R_mono HO296.out (fun _ hk => ⟨hk.1.1.1.1.1.1.2, ⟨hk.1.1.1.2, hk.1.2⟩⟩)⟩, ⟨by (with_reducible repeat (first | apply Kd.R_alloc | apply Kd.R_drewN | apply Kd.R_drew)); exact HO299.out⟩, ⟨by (with_reducible repeat (first | apply Kd.R_alloc | apply Kd.R_drewN | apply Kd.R_drew)); exact Kd.R_mono HO311.out (fun _ hk => ⟨hk.1.1.1.1.1.1.2, ⟨hk.1.1.1.1.1.2, hk.1.2⟩⟩)⟩, ⟨by (with_reducible repeat (first | apply Kd.R_alloc | apply Kd.R_drewN | apply Kd.R_drew)); exact Kd.R_mono HO319.out (fun _ hk => ⟨hk.1.1.1.1.1.1.2, ⟨hk.1.1.1.1.1.2, hk.1.1.2⟩⟩)⟩, ⟨by repeat (first | (with_reducible first | exact HB.out | apply below_alloc | apply pw_below_drewN | apply below_drew1) | exact HB.out)⟩⟩
          · replace c34 := Bool.eq_false_iff.mpr c34
            subst c34
            have H1 : (tributarylaw07_PastSets.j0 k l0 l1 l2 t291 t294 t297 t308 t316 false) = some r := by rw [if_neg (show ¬ (false = true) by decide)] at H; exact H
            clear H
            have H := H1
            clear H1
            have H' := Aside0.mk H
            clear H
            obtain ⟨Ao54, co54, eo54⟩ := Kd.R_slice HO303.out
            subst eo54
            obtain ⟨Ao55, co55, eo55⟩ := Kd.R_slice HO307.out
            subst eo55
            go_wp2_with (first | ((with_reducible refine gate_callee (f := 18) rfl ?_); refine goesL_ (some 71) rfl rfl Try.func18 (by kernel_rfl) rfl #[.slice Ao54 t300.length co54, .slice Ao55 t304.length co55] rfl (by (try simp only [List.map_toArray, List.map_cons, List.map_nil]); first | done | rfl | (simp only [List.length_drop, List.length_take]; rfl)) ?_; (with_reducible refine (tributarykit_SameSpans.calls k _ _ t300 _ _ t304 true _ ?side1 ?side2 ?side3 ?side4 A30.out).mono ?_); (case side1 => repeat (first | exact (Kd.R_reads' HO303.out).2.2 | (with_reducible refine Kd.C_alloc ?_ _) | (with_reducible refine Kd.C_drewN ?_ _) | (with_reducible refine Kd.C_drew ?_))); (case side2 => exact (Kd.R_reads' HO303.out).2.1); (case side3 => repeat (first | exact (Kd.R_reads' HO307.out).2.2 | (with_reducible refine Kd.C_alloc ?_ _) | (with_reducible refine Kd.C_drewN ?_ _) | (with_reducible refine Kd.C_drew ?_))); (case side4 => exact (Kd.R_reads' HO307.out).2.1); rintro e w' ⟨rfl, ⟨nd, rfl⟩⟩; refine ⟨_, rfl, ?_⟩; obtain ⟨Ao56, co56, eo56⟩ := Kd.R_slice HO311.out; subst eo56; obtain ⟨Ao57, co57, eo57⟩ := Kd.R_slice HO315.out; subst eo57) | (go_at_call 18; (with_reducible refine (tributarykit_SameSpans.calls k _ _ t308 _ _ t312 false _ ?side1 ?side2 ?side3 ?side4 A33.out).mono ?_); (case side1 => repeat (first | exact (Kd.R_reads' HO311.out).2.2 | (with_reducible refine Kd.C_alloc ?_ _) | (with_reducible refine Kd.C_drewN ?_ _) | (with_reducible refine Kd.C_drew ?_))); (case side2 => exact (Kd.R_reads' HO311.out).2.1); (case side3 => repeat (first | exact (Kd.R_reads' HO315.out).2.2 | (with_reducible refine Kd.C_alloc ?_ _) | (with_reducible refine Kd.C_drewN ?_ _) | (with_reducible refine Kd.C_drew ?_))); (case side4 => exact (Kd.R_reads' HO315.out).2.1); rintro e w' ⟨rfl, ⟨nd, rfl⟩⟩))
            go_meet
            case rel => exact ⟨_, (false), (by first | rfl | (simp; done) | (simp [*]; done)), H', ⟨by first | omega | exact Nat.le_refl _⟩, ⟨by (with_reducible repeat (first | apply Kd.R_alloc | apply Kd.R_drewN | apply Kd.R_drew)); exact Kd.R_mono HO293.out (fun _ hk => ⟨hk.1.1.1.1.1.1.2, ⟨hk.1.1.1.2, hk.1.2⟩⟩)⟩, ⟨by (with_reducible repeat (first | apply Kd.R_alloc | apply Kd.R_drewN | apply Kd.R_drew)); exact Kd.R_mono HO296.out (fun _ hk => ⟨hk.1.1.1.1.1.1.2, ⟨hk.1.1.1.2, hk.1.2⟩⟩)⟩, ⟨by (with_reducible repeat (first | apply Kd.R_alloc | apply Kd.R_drewN | apply Kd.R_drew)); exact HO299.out⟩, ⟨by (with_reducible repeat (first | apply Kd.R_alloc | apply Kd.R_drewN | apply Kd.R_drew)); exact Kd.R_mono HO311.out (fun _ hk => ⟨hk.1.1.1.1.1.1.2, ⟨hk.1.1.1.1.1.2, hk.1.2⟩⟩)⟩, ⟨by (with_reducible repeat (first | apply Kd.R_alloc | apply Kd.R_drewN | apply Kd.R_drew)); exact Kd.R_mono HO319.out (fun _ hk => ⟨hk.1.1.1.1.1.1.2, ⟨hk.1.1.1.1.1.2, hk.1.1.2⟩⟩)⟩, ⟨by repeat (first | (with_reducible first | exact HB.out | apply below_alloc | apply pw_below_drewN | apply below_drew1) | exact HB.out)⟩⟩
        · rw [if_neg c32] at H
          have c32b0 : (t301 == t305) = false := beq_eq_false_iff_ne.mpr c32
          have c32b1 : (t301 != t305) = true := bne_iff_ne.mpr c32
          (first | rw [c32b0] | (simp only [i64_w, i32_w]; rw [c32b0]) | skip)
          have H' := Aside0.mk H
          clear H
          obtain ⟨Ao58, co58, eo58⟩ := Kd.R_slice HO303.out
          subst eo58
          obtain ⟨Ao59, co59, eo59⟩ := Kd.R_slice HO307.out
          subst eo59
          go_wp2_with (first | ((with_reducible refine gate_callee (f := 18) rfl ?_); refine goesL_ (some 71) rfl rfl Try.func18 (by kernel_rfl) rfl #[.slice Ao58 t300.length co58, .slice Ao59 t304.length co59] rfl (by (try simp only [List.map_toArray, List.map_cons, List.map_nil]); first | done | rfl | (simp only [List.length_drop, List.length_take]; rfl)) ?_; (with_reducible refine (tributarykit_SameSpans.calls k _ _ t300 _ _ t304 true _ ?side1 ?side2 ?side3 ?side4 A30.out).mono ?_); (case side1 => repeat (first | exact (Kd.R_reads' HO303.out).2.2 | (with_reducible refine Kd.C_alloc ?_ _) | (with_reducible refine Kd.C_drewN ?_ _) | (with_reducible refine Kd.C_drew ?_))); (case side2 => exact (Kd.R_reads' HO303.out).2.1); (case side3 => repeat (first | exact (Kd.R_reads' HO307.out).2.2 | (with_reducible refine Kd.C_alloc ?_ _) | (with_reducible refine Kd.C_drewN ?_ _) | (with_reducible refine Kd.C_drew ?_))); (case side4 => exact (Kd.R_reads' HO307.out).2.1); rintro e w' ⟨rfl, ⟨nd, rfl⟩⟩; refine ⟨_, rfl, ?_⟩))
          go_meet
          case rel => exact ⟨_, (false), (by first | rfl | (simp; done) | (simp [*]; done)), H', ⟨by first | omega | exact Nat.le_refl _⟩, ⟨by (with_reducible repeat (first | apply Kd.R_alloc | apply Kd.R_drewN | apply Kd.R_drew)); exact Kd.R_mono HO293.out (fun _ hk => ⟨hk.1.1.1.1.1.1.2, ⟨hk.1.1.1.2, hk.1.2⟩⟩)⟩, ⟨by (with_reducible repeat (first | apply Kd.R_alloc | apply Kd.R_drewN | apply Kd.R_drew)); exact Kd.R_mono HO296.out (fun _ hk => ⟨hk.1.1.1.1.1.1.2, ⟨hk.1.1.1.2, hk.1.2⟩⟩)⟩, ⟨by (with_reducible repeat (first | apply Kd.R_alloc | apply Kd.R_drewN | apply Kd.R_drew)); exact HO299.out⟩, ⟨by (with_reducible repeat (first | apply Kd.R_alloc | apply Kd.R_drewN | apply Kd.R_drew)); exact Kd.R_mono HO311.out (fun _ hk => ⟨hk.1.1.1.1.1.1.2, ⟨hk.1.1.1.1.1.2, hk.1.2⟩⟩)⟩, ⟨by (with_reducible repeat (first | apply Kd.R_alloc | apply Kd.R_drewN | apply Kd.R_drew)); exact Kd.R_mono HO319.out (fun _ hk => ⟨hk.1.1.1.1.1.1.2, ⟨hk.1.1.1.1.1.2, hk.1.1.2⟩⟩)⟩, ⟨by repeat (first | (with_reducible first | exact HB.out | apply below_alloc | apply pw_below_drewN | apply below_drew1) | exact HB.out)⟩⟩
      · replace c31 := Bool.eq_false_iff.mpr c31
        subst c31
        have H1 : (tributarylaw07_PastSets.j0 k l0 l1 l2 t291 t294 t297 t308 t316 false) = some r := by rw [if_neg (show ¬ (false = true) by decide)] at H; exact H
        clear H
        have H := H1
        clear H1
        have H' := Aside0.mk H
        clear H
        obtain ⟨Ao60, co60, eo60⟩ := Kd.R_slice HO303.out
        subst eo60
        obtain ⟨Ao61, co61, eo61⟩ := Kd.R_slice HO307.out
        subst eo61
        go_wp2_with (first | ((with_reducible refine gate_callee (f := 18) rfl ?_); refine goesL_ (some 71) rfl rfl Try.func18 (by kernel_rfl) rfl #[.slice Ao60 t300.length co60, .slice Ao61 t304.length co61] rfl (by (try simp only [List.map_toArray, List.map_cons, List.map_nil]); first | done | rfl | (simp only [List.length_drop, List.length_take]; rfl)) ?_; (with_reducible refine (tributarykit_SameSpans.calls k _ _ t300 _ _ t304 false _ ?side1 ?side2 ?side3 ?side4 A30.out).mono ?_); (case side1 => repeat (first | exact (Kd.R_reads' HO303.out).2.2 | (with_reducible refine Kd.C_alloc ?_ _) | (with_reducible refine Kd.C_drewN ?_ _) | (with_reducible refine Kd.C_drew ?_))); (case side2 => exact (Kd.R_reads' HO303.out).2.1); (case side3 => repeat (first | exact (Kd.R_reads' HO307.out).2.2 | (with_reducible refine Kd.C_alloc ?_ _) | (with_reducible refine Kd.C_drewN ?_ _) | (with_reducible refine Kd.C_drew ?_))); (case side4 => exact (Kd.R_reads' HO307.out).2.1); rintro e w' ⟨rfl, ⟨nd, rfl⟩⟩; refine ⟨_, rfl, ?_⟩))
        go_meet
        case rel => exact ⟨_, (false), (by first | rfl | (simp; done) | (simp [*]; done)), H', ⟨by first | omega | exact Nat.le_refl _⟩, ⟨by (with_reducible repeat (first | apply Kd.R_alloc | apply Kd.R_drewN | apply Kd.R_drew)); exact Kd.R_mono HO293.out (fun _ hk => ⟨hk.1.1.1.1.1.1.2, ⟨hk.1.1.1.2, hk.1.2⟩⟩)⟩, ⟨by (with_reducible repeat (first | apply Kd.R_alloc | apply Kd.R_drewN | apply Kd.R_drew)); exact Kd.R_mono HO296.out (fun _ hk => ⟨hk.1.1.1.1.1.1.2, ⟨hk.1.1.1.2, hk.1.2⟩⟩)⟩, ⟨by (with_reducible repeat (first | apply Kd.R_alloc | apply Kd.R_drewN | apply Kd.R_drew)); exact HO299.out⟩, ⟨by (with_reducible repeat (first | apply Kd.R_alloc | apply Kd.R_drewN | apply Kd.R_drew)); exact Kd.R_mono HO311.out (fun _ hk => ⟨hk.1.1.1.1.1.1.2, ⟨hk.1.1.1.1.1.2, hk.1.2⟩⟩)⟩, ⟨by (with_reducible repeat (first | apply Kd.R_alloc | apply Kd.R_drewN | apply Kd.R_drew)); exact Kd.R_mono HO319.out (fun _ hk => ⟨hk.1.1.1.1.1.1.2, ⟨hk.1.1.1.1.1.2, hk.1.1.2⟩⟩)⟩, ⟨by repeat (first | (with_reducible first | exact HB.out | apply below_alloc | apply pw_below_drewN | apply below_drew1) | exact HB.out)⟩⟩
    case rest =>
      clear HC17
      try clear c1
      try clear c2
      try clear p2
      try clear c3
      try clear c5
      try clear c9
      try clear c10
      try clear c11
      try clear c18
      try clear c30
      try clear c31
      try clear c32
      try clear c32b0
      try clear c32b1
      try clear c33
      try clear c34
      try clear c35
      try clear c35b0
      try clear c35b1
      try clear c36
      try clear c37
      obtain ⟨kq, x22_16, rfl, HA, HJ16, HO_7, HO_8, HO_9, HO_14, HO_18, HB⟩ := hcut
      cases kq with
      | zero => exact absurd HA.out (by simp [tributarylaw07_PastSets.j0])
      | succ kj16 =>
        have H := HA.out
        clear HA
        simp only [tributarylaw07_PastSets.j0] at H
        replace H := Option.bind_eq_some_iff.mp H
        obtain ⟨t327, A620, H⟩ := H
        replace H : ((tributarykit_OverSpans.f t316).bind fun t328 => ((tributarykit_SameSpans.f kj16 t291 l0).bind fun t329 => (if t329 = true then ((tributarykit_SameSpans.f kj16 t294 l1).bind fun t330 => (if t330 = true then ((tributarykit_SameDots.f kj16 t297 l2).bind fun t331 => (tributarylaw07_PastSets.j1 kj16 l0 l1 t291 t294 x22_16 t331)) else (tributarylaw07_PastSets.j1 kj16 l0 l1 t291 t294 x22_16 false))) else (tributarylaw07_PastSets.j1 kj16 l0 l1 t291 t294 x22_16 false)))) = some r := H
        have A62 := Aside0.mk A620
        clear A620
        replace H := Option.bind_eq_some_iff.mp H
        obtain ⟨t328, A630, H⟩ := H
        replace H : ((tributarykit_SameSpans.f kj16 t291 l0).bind fun t329 => (if t329 = true then ((tributarykit_SameSpans.f kj16 t294 l1).bind fun t330 => (if t330 = true then ((tributarykit_SameDots.f kj16 t297 l2).bind fun t331 => (tributarylaw07_PastSets.j1 kj16 l0 l1 t291 t294 x22_16 t331)) else (tributarylaw07_PastSets.j1 kj16 l0 l1 t291 t294 x22_16 false))) else (tributarylaw07_PastSets.j1 kj16 l0 l1 t291 t294 x22_16 false))) = some r := H
        have A63 := Aside0.mk A630
        clear A630
        have HC64 := Aside0.mk H
        clear H
        obtain ⟨Ao65, co65, eo65⟩ := Kd.R_slice HO_14.out
        subst eo65
        go_upto_region 13 with (first | ((with_reducible refine gate_callee (f := 20) rfl ?_); refine goesL_ (some 98) rfl rfl Try.func20 (by kernel_rfl) rfl #[.slice Ao65 t308.length co65] rfl (by (try simp only [List.map_toArray, List.map_cons, List.map_nil]); first | done | rfl | (simp only [List.length_drop, List.length_take]; rfl)) ?_; (with_reducible refine (tributarykit_OverSpans.calls (fun k_ => some k_ = (.slice Ao65 t308.length co65 : Value).ownBlock) (.slice Ao65 t308.length co65) t308 t327 w _ ?side1 ?side2 A62.out).mono ?_); (case side1 => repeat (first | (with_reducible first | exact HB.out | apply below_alloc | apply pw_below_drewN | apply below_drew1) | exact HB.out)); (case side2 => exact Kd.R_tight rfl HO_14.out); rintro e w66 ⟨rfl, hy0, hb, hkp⟩; refine ⟨_, rfl, ?_⟩; have n0_ := Aside0.mk (Kd.R_mono (ok' := fun k_ => some k_ ≠ (.slice Ao25 t294.length co25 : Value).ownBlock ∧ some k_ ≠ (.slice Ao65 t308.length co65 : Value).ownBlock ∧ some k_ ≠ (v318 : Value).ownBlock) (Kd.R_keptB (HO_7.out) hkp (fun k_ hk_ hs_ => (hk_.2.1) hs_)) (fun k_ hk_ => ⟨hk_.1.1, hk_.1.2.1, hk_.1.2.2⟩)); have n1_ := Aside0.mk (Kd.R_mono (ok' := fun k_ => some k_ ≠ (.slice Ao24 t291.length co24 : Value).ownBlock ∧ some k_ ≠ (.slice Ao65 t308.length co65 : Value).ownBlock ∧ some k_ ≠ (v318 : Value).ownBlock) (Kd.R_keptB (HO_8.out) hkp (fun k_ hk_ hs_ => (hk_.2.1) hs_)) (fun k_ hk_ => ⟨hk_.1.1, hk_.1.2.1, hk_.1.2.2⟩)); have n2_ := Aside0.mk (Kd.R_mono (ok' := fun k_ => True) (Kd.R_keptB ((Kd.R_apart' HO_9.out (Kd.R_typed HO_14.out) (by decide))) hkp (fun k_ hk_ hs_ => (hk_.2) hs_)) (fun k_ hk_ => trivial)); have n3_ := Aside0.mk (Kd.R_reok rfl hy0 (fun k_ e_ => HO_14.out.1 k_ e_)); have n4_ := Aside0.mk (Kd.R_mono (ok' := fun k_ => some k_ ≠ (.slice Ao24 t291.length co24 : Value).ownBlock ∧ some k_ ≠ (.slice Ao25 t294.length co25 : Value).ownBlock ∧ some k_ ≠ (.slice Ao65 t308.length co65 : Value).ownBlock) (Kd.R_keptB (HO_18.out) hkp (fun k_ hk_ hs_ => (hk_.2.2) hs_)) (fun k_ hk_ => ⟨hk_.1.1, hk_.1.2.1, hk_.1.2.2⟩)); have n5_ := Aside0.mk (hb); clear HO_7; clear HO_8; clear HO_9; clear HO_14; clear HO_18; clear HB; have HO_7 := n0_; have HO_8 := n1_; have HO_9 := n2_; have HO_14 := n3_; have HO_18 := n4_; have HB := n5_; clear n0_ n1_ n2_ n3_ n4_ n5_; (try clear hb); (try clear hkp); (try clear hy0); obtain ⟨Ao67, co67, eo67⟩ := Kd.R_slice HO_18.out; subst eo67) | ((with_reducible refine gate_callee (f := 20) rfl ?_); refine goesL_ (some 100) rfl rfl Try.func20 (by kernel_rfl) rfl #[.slice Ao67 t316.length co67] rfl (by (try simp only [List.map_toArray, List.map_cons, List.map_nil]); first | done | rfl | (simp only [List.length_drop, List.length_take]; rfl)) ?_; (with_reducible refine (tributarykit_OverSpans.calls (fun k_ => some k_ = (.slice Ao67 t316.length co67 : Value).ownBlock) (.slice Ao67 t316.length co67) t316 t328 w _ ?side1 ?side2 A63.out).mono ?_); (case side1 => repeat (first | (with_reducible first | exact HB.out | apply below_alloc | apply pw_below_drewN | apply below_drew1) | exact HB.out)); (case side2 => exact Kd.R_tight rfl HO_18.out); rintro e w68 ⟨rfl, hy0, hb, hkp⟩; refine ⟨_, rfl, ?_⟩; have n0_ := Aside0.mk (Kd.R_mono (ok' := fun k_ => some k_ ≠ (.slice Ao25 t294.length co25 : Value).ownBlock ∧ some k_ ≠ (.slice Ao65 t308.length co65 : Value).ownBlock ∧ some k_ ≠ (.slice Ao67 t316.length co67 : Value).ownBlock) (Kd.R_keptB (HO_7.out) hkp (fun k_ hk_ hs_ => (hk_.2.2) hs_)) (fun k_ hk_ => ⟨hk_.1.1, hk_.1.2.1, hk_.1.2.2⟩)); have n1_ := Aside0.mk (Kd.R_mono (ok' := fun k_ => some k_ ≠ (.slice Ao24 t291.length co24 : Value).ownBlock ∧ some k_ ≠ (.slice Ao65 t308.length co65 : Value).ownBlock ∧ some k_ ≠ (.slice Ao67 t316.length co67 : Value).ownBlock) (Kd.R_keptB (HO_8.out) hkp (fun k_ hk_ hs_ => (hk_.2.2) hs_)) (fun k_ hk_ => ⟨hk_.1.1, hk_.1.2.1, hk_.1.2.2⟩)); have n2_ := Aside0.mk (Kd.R_mono (ok' := fun k_ => True) (Kd.R_keptB ((Kd.R_apart' HO_9.out (Kd.R_typed HO_18.out) (by decide))) hkp (fun k_ hk_ hs_ => (hk_.2) hs_)) (fun k_ hk_ => trivial)); have n3_ := Aside0.mk (Kd.R_mono (ok' := fun k_ => some k_ ≠ (.slice Ao24 t291.length co24 : Value).ownBlock ∧ some k_ ≠ (.slice Ao25 t294.length co25 : Value).ownBlock ∧ some k_ ≠ (.slice Ao67 t316.length co67 : Value).ownBlock) (Kd.R_keptB (HO_14.out) hkp (fun k_ hk_ hs_ => (hk_.2.2) hs_)) (fun k_ hk_ => ⟨hk_.1.1, hk_.1.2.1, hk_.1.2.2⟩)); have n4_ := Aside0.mk (Kd.R_reok rfl hy0 (fun k_ e_ => HO_18.out.1 k_ e_)); have n5_ := Aside0.mk (hb); clear HO_7; clear HO_8; clear HO_9; clear HO_14; clear HO_18; clear HB; have HO_7 := n0_; have HO_8 := n1_; have HO_9 := n2_; have HO_14 := n3_; have HO_18 := n4_; have HB := n5_; clear n0_ n1_ n2_ n3_ n4_ n5_; (try clear hb); (try clear hkp); (try clear hy0)))
        (try simp only [Act.put, List.setIfInBounds_toArray, List.set_cons_zero, List.set_cons_succ])
        go_cut [23] (fun v23 wc => ∃ (kq : Nat) (x23_63 : Bool), v23 = .bool x23_63 ∧ Aside0 (tributarylaw07_PastSets.j1 kq l0 l1 t291 t294 x22_16 x23_63 = some r) ∧ Aside0 (kq ≤ kj16) ∧ Aside0 (Kd.R k60 60 wc w.heap.size (fun k_ => some k_ ≠ ((.slice Ao25 t294.length co25) : Value).ownBlock) (.slice Ao24 t291.length co24) t291) ∧ Aside0 (Kd.R k60 60 wc w.heap.size (fun k_ => some k_ ≠ ((.slice Ao24 t291.length co24) : Value).ownBlock) (.slice Ao25 t294.length co25) t294) ∧ Aside0 (Below w.heap.size w wc))
        case first =>
          have H := HC64.out
          clear HC64
          replace H := Option.bind_eq_some_iff.mp H
          obtain ⟨t329, A690, H⟩ := H
          replace H : (if t329 = true then ((tributarykit_SameSpans.f kj16 t294 l1).bind fun t330 => (if t330 = true then ((tributarykit_SameDots.f kj16 t297 l2).bind fun t331 => (tributarylaw07_PastSets.j1 kj16 l0 l1 t291 t294 x22_16 t331)) else (tributarylaw07_PastSets.j1 kj16 l0 l1 t291 t294 x22_16 false))) else (tributarylaw07_PastSets.j1 kj16 l0 l1 t291 t294 x22_16 false)) = some r := H
          have A69 := Aside0.mk A690
          clear A690
          by_cases c70 : t329 = true
          · subst c70
            have H1 : ((tributarykit_SameSpans.f kj16 t294 l1).bind fun t330 => (if t330 = true then ((tributarykit_SameDots.f kj16 t297 l2).bind fun t331 => (tributarylaw07_PastSets.j1 kj16 l0 l1 t291 t294 x22_16 t331)) else (tributarylaw07_PastSets.j1 kj16 l0 l1 t291 t294 x22_16 false))) = some r := by rw [if_pos rfl] at H; exact H
            clear H
            have H := H1
            clear H1
            replace H := Option.bind_eq_some_iff.mp H
            obtain ⟨t330, A710, H⟩ := H
            replace H : (if t330 = true then ((tributarykit_SameDots.f kj16 t297 l2).bind fun t331 => (tributarylaw07_PastSets.j1 kj16 l0 l1 t291 t294 x22_16 t331)) else (tributarylaw07_PastSets.j1 kj16 l0 l1 t291 t294 x22_16 false)) = some r := H
            have A71 := Aside0.mk A710
            clear A710
            by_cases c72 : t330 = true
            · subst c72
              have H1 : ((tributarykit_SameDots.f kj16 t297 l2).bind fun t331 => (tributarylaw07_PastSets.j1 kj16 l0 l1 t291 t294 x22_16 t331)) = some r := by rw [if_pos rfl] at H; exact H
              clear H
              have H := H1
              clear H1
              replace H := Option.bind_eq_some_iff.mp H
              obtain ⟨t331, A730, H⟩ := H
              replace H : (tributarylaw07_PastSets.j1 kj16 l0 l1 t291 t294 x22_16 t331) = some r := H
              have A73 := Aside0.mk A730
              clear A730
              have H' := Aside0.mk H
              clear H
              go_wp2_with (first | ((with_reducible refine gate_callee (f := 18) rfl ?_); refine goesL_ (some 103) rfl rfl Try.func18 (by kernel_rfl) rfl #[.slice Ao24 t291.length co24, .slice A0 l0.length c0] rfl (by (try simp only [List.map_toArray, List.map_cons, List.map_nil]); first | done | rfl | (simp only [List.length_drop, List.length_take]; rfl)) ?_; (with_reducible refine (tributarykit_SameSpans.calls kj16 _ _ t291 _ _ l0 true _ ?side1 ?side2 ?side3 ?side4 A69.out).mono ?_); (case side1 => repeat (first | exact (Kd.R_reads' HO_7.out).2.2 | (with_reducible refine Kd.C_alloc ?_ _) | (with_reducible refine Kd.C_drewN ?_ _) | (with_reducible refine Kd.C_drew ?_))); (case side2 => exact (Kd.R_reads' HO_7.out).2.1); (case side3 => repeat (first | exact (Kd.C_below HR0.out HB.out) | (with_reducible refine Kd.C_alloc ?_ _) | (with_reducible refine Kd.C_drewN ?_ _) | (with_reducible refine Kd.C_drew ?_))); (case side4 => exact HC0.out); rintro e w' ⟨rfl, ⟨nd, rfl⟩⟩; refine ⟨_, rfl, ?_⟩) | (go_at_call 18; (with_reducible refine (tributarykit_SameSpans.calls kj16 _ _ t294 _ _ l1 true _ ?side1 ?side2 ?side3 ?side4 A71.out).mono ?_); (case side1 => repeat (first | exact (Kd.R_reads' HO_8.out).2.2 | (with_reducible refine Kd.C_alloc ?_ _) | (with_reducible refine Kd.C_drewN ?_ _) | (with_reducible refine Kd.C_drew ?_))); (case side2 => exact (Kd.R_reads' HO_8.out).2.1); (case side3 => repeat (first | exact (Kd.C_below HR1.out (by repeat (first | (with_reducible first | exact HB.out | apply below_alloc | apply pw_below_drewN | apply below_drew1) | exact HB.out))) | (with_reducible refine Kd.C_alloc ?_ _) | (with_reducible refine Kd.C_drewN ?_ _) | (with_reducible refine Kd.C_drew ?_))); (case side4 => exact HC1.out); rintro e w' ⟨rfl, ⟨nd, rfl⟩⟩) | (go_at_call 37; (with_reducible refine (tributarykit_SameDots.calls kj16 _ _ t297 _ _ l2 t331 _ ?side1 ?side2 ?side3 ?side4 A73.out).mono ?_); (case side1 => repeat (first | exact (Kd.R_reads' HO_9.out).2.2 | (with_reducible refine Kd.C_alloc ?_ _) | (with_reducible refine Kd.C_drewN ?_ _) | (with_reducible refine Kd.C_drew ?_))); (case side2 => exact (Kd.R_reads' HO_9.out).2.1); (case side3 => repeat (first | exact (Kd.C_below HR2.out (by repeat (first | (with_reducible first | exact HB.out | apply below_alloc | apply pw_below_drewN | apply below_drew1) | exact HB.out))) | (with_reducible refine Kd.C_alloc ?_ _) | (with_reducible refine Kd.C_drewN ?_ _) | (with_reducible refine Kd.C_drew ?_))); (case side4 => exact HC2.out); rintro e w' ⟨rfl, ⟨nd, rfl⟩⟩))
              go_meet
              case rel => exact ⟨_, (t331), (by first | rfl | (simp; done) | (simp [*]; done)), H', ⟨by have := HJ16.out; first | omega | exact Nat.le_refl _⟩, ⟨by (with_reducible repeat (first | apply Kd.R_alloc | apply Kd.R_drewN | apply Kd.R_drew)); exact Kd.R_mono HO_7.out (fun _ hk => hk.1)⟩, ⟨by (with_reducible repeat (first | apply Kd.R_alloc | apply Kd.R_drewN | apply Kd.R_drew)); exact Kd.R_mono HO_8.out (fun _ hk => hk.1)⟩, ⟨by repeat (first | (with_reducible first | exact HB.out | apply below_alloc | apply pw_below_drewN | apply below_drew1) | exact HB.out)⟩⟩
            · replace c72 := Bool.eq_false_iff.mpr c72
              subst c72
              have H1 : (tributarylaw07_PastSets.j1 kj16 l0 l1 t291 t294 x22_16 false) = some r := by rw [if_neg (show ¬ (false = true) by decide)] at H; exact H
              clear H
              have H := H1
              clear H1
              have H' := Aside0.mk H
              clear H
              go_wp2_with (first | ((with_reducible refine gate_callee (f := 18) rfl ?_); refine goesL_ (some 103) rfl rfl Try.func18 (by kernel_rfl) rfl #[.slice Ao24 t291.length co24, .slice A0 l0.length c0] rfl (by (try simp only [List.map_toArray, List.map_cons, List.map_nil]); first | done | rfl | (simp only [List.length_drop, List.length_take]; rfl)) ?_; (with_reducible refine (tributarykit_SameSpans.calls kj16 _ _ t291 _ _ l0 true _ ?side1 ?side2 ?side3 ?side4 A69.out).mono ?_); (case side1 => repeat (first | exact (Kd.R_reads' HO_7.out).2.2 | (with_reducible refine Kd.C_alloc ?_ _) | (with_reducible refine Kd.C_drewN ?_ _) | (with_reducible refine Kd.C_drew ?_))); (case side2 => exact (Kd.R_reads' HO_7.out).2.1); (case side3 => repeat (first | exact (Kd.C_below HR0.out HB.out) | (with_reducible refine Kd.C_alloc ?_ _) | (with_reducible refine Kd.C_drewN ?_ _) | (with_reducible refine Kd.C_drew ?_))); (case side4 => exact HC0.out); rintro e w' ⟨rfl, ⟨nd, rfl⟩⟩; refine ⟨_, rfl, ?_⟩) | (go_at_call 18; (with_reducible refine (tributarykit_SameSpans.calls kj16 _ _ t294 _ _ l1 false _ ?side1 ?side2 ?side3 ?side4 A71.out).mono ?_); (case side1 => repeat (first | exact (Kd.R_reads' HO_8.out).2.2 | (with_reducible refine Kd.C_alloc ?_ _) | (with_reducible refine Kd.C_drewN ?_ _) | (with_reducible refine Kd.C_drew ?_))); (case side2 => exact (Kd.R_reads' HO_8.out).2.1); (case side3 => repeat (first | exact (Kd.C_below HR1.out (by repeat (first | (with_reducible first | exact HB.out | apply below_alloc | apply pw_below_drewN | apply below_drew1) | exact HB.out))) | (with_reducible refine Kd.C_alloc ?_ _) | (with_reducible refine Kd.C_drewN ?_ _) | (with_reducible refine Kd.C_drew ?_))); (case side4 => exact HC1.out); rintro e w' ⟨rfl, ⟨nd, rfl⟩⟩))
              go_meet
              case rel => exact ⟨_, (false), (by first | rfl | (simp; done) | (simp [*]; done)), H', ⟨by have := HJ16.out; first | omega | exact Nat.le_refl _⟩, ⟨by (with_reducible repeat (first | apply Kd.R_alloc | apply Kd.R_drewN | apply Kd.R_drew)); exact Kd.R_mono HO_7.out (fun _ hk => hk.1)⟩, ⟨by (with_reducible repeat (first | apply Kd.R_alloc | apply Kd.R_drewN | apply Kd.R_drew)); exact Kd.R_mono HO_8.out (fun _ hk => hk.1)⟩, ⟨by repeat (first | (with_reducible first | exact HB.out | apply below_alloc | apply pw_below_drewN | apply below_drew1) | exact HB.out)⟩⟩
          · replace c70 := Bool.eq_false_iff.mpr c70
            subst c70
            have H1 : (tributarylaw07_PastSets.j1 kj16 l0 l1 t291 t294 x22_16 false) = some r := by rw [if_neg (show ¬ (false = true) by decide)] at H; exact H
            clear H
            have H := H1
            clear H1
            have H' := Aside0.mk H
            clear H
            go_wp2_with (first | ((with_reducible refine gate_callee (f := 18) rfl ?_); refine goesL_ (some 103) rfl rfl Try.func18 (by kernel_rfl) rfl #[.slice Ao24 t291.length co24, .slice A0 l0.length c0] rfl (by (try simp only [List.map_toArray, List.map_cons, List.map_nil]); first | done | rfl | (simp only [List.length_drop, List.length_take]; rfl)) ?_; (with_reducible refine (tributarykit_SameSpans.calls kj16 _ _ t291 _ _ l0 false _ ?side1 ?side2 ?side3 ?side4 A69.out).mono ?_); (case side1 => repeat (first | exact (Kd.R_reads' HO_7.out).2.2 | (with_reducible refine Kd.C_alloc ?_ _) | (with_reducible refine Kd.C_drewN ?_ _) | (with_reducible refine Kd.C_drew ?_))); (case side2 => exact (Kd.R_reads' HO_7.out).2.1); (case side3 => repeat (first | exact (Kd.C_below HR0.out HB.out) | (with_reducible refine Kd.C_alloc ?_ _) | (with_reducible refine Kd.C_drewN ?_ _) | (with_reducible refine Kd.C_drew ?_))); (case side4 => exact HC0.out); rintro e w' ⟨rfl, ⟨nd, rfl⟩⟩; refine ⟨_, rfl, ?_⟩))
            go_meet
            case rel => exact ⟨_, (false), (by first | rfl | (simp; done) | (simp [*]; done)), H', ⟨by have := HJ16.out; first | omega | exact Nat.le_refl _⟩, ⟨by (with_reducible repeat (first | apply Kd.R_alloc | apply Kd.R_drewN | apply Kd.R_drew)); exact Kd.R_mono HO_7.out (fun _ hk => hk.1)⟩, ⟨by (with_reducible repeat (first | apply Kd.R_alloc | apply Kd.R_drewN | apply Kd.R_drew)); exact Kd.R_mono HO_8.out (fun _ hk => hk.1)⟩, ⟨by repeat (first | (with_reducible first | exact HB.out | apply below_alloc | apply pw_below_drewN | apply below_drew1) | exact HB.out)⟩⟩
        case rest =>
          clear HC64
          try clear c1
          try clear c2
          try clear p2
          try clear c3
          try clear c5
          try clear c7
          try clear c9
          try clear c10
          try clear c11
          try clear c18
          try clear c20
          try clear c30
          try clear c31
          try clear c32
          try clear c32b0
          try clear c32b1
          try clear c33
          try clear c34
          try clear c35
          try clear c35b0
          try clear c35b1
          try clear c36
          try clear c37
          try clear c70
          try clear c72
          try clear p2
          obtain ⟨kq, x23_63, rfl, HA, HJ63, HO_7, HO_8, HB⟩ := hcut
          cases kq with
          | zero => exact absurd HA.out (by simp [tributarylaw07_PastSets.j1])
          | succ kj63 =>
            have H := HA.out
            clear HA
            simp only [tributarylaw07_PastSets.j1] at H
            by_cases c74 : x22_16 = true
            · subst c74
              have H1 : (if x23_63 = true then ((past_Check.f kj63 t291).bind fun t332 => ((tributaryref07_Check.f kj63 l0).bind fun t333 => (if t332 = t333 then ((past_Within.f kj63 t291 t294).bind fun t334 => ((tributaryref07_Within.f kj63 l0 l1).bind fun t335 => (if (t334 == t335) = true then ((tributarylaw07_awake.f kj63).bind fun t336 => (some t336)) else (some false)))) else (some false)))) else (some false)) = some r := by rw [if_pos rfl] at H; exact H
              clear H
              have H := H1
              clear H1
              by_cases c75 : x23_63 = true
              · subst c75
                have H1 : ((past_Check.f kj63 t291).bind fun t332 => ((tributaryref07_Check.f kj63 l0).bind fun t333 => (if t332 = t333 then ((past_Within.f kj63 t291 t294).bind fun t334 => ((tributaryref07_Within.f kj63 l0 l1).bind fun t335 => (if (t334 == t335) = true then ((tributarylaw07_awake.f kj63).bind fun t336 => (some t336)) else (some false)))) else (some false)))) = some r := by rw [if_pos rfl] at H; exact H
                clear H
                have H := H1
                clear H1
                replace H := Option.bind_eq_some_iff.mp H
                obtain ⟨t332, A760, H⟩ := H
                replace H : ((tributaryref07_Check.f kj63 l0).bind fun t333 => (if t332 = t333 then ((past_Within.f kj63 t291 t294).bind fun t334 => ((tributaryref07_Within.f kj63 l0 l1).bind fun t335 => (if (t334 == t335) = true then ((tributarylaw07_awake.f kj63).bind fun t336 => (some t336)) else (some false)))) else (some false))) = some r := H
                have A76 := Aside0.mk A760
                clear A760
                replace H := Option.bind_eq_some_iff.mp H
                obtain ⟨t333, A770, H⟩ := H
                replace H : (if t332 = t333 then ((past_Within.f kj63 t291 t294).bind fun t334 => ((tributaryref07_Within.f kj63 l0 l1).bind fun t335 => (if (t334 == t335) = true then ((tributarylaw07_awake.f kj63).bind fun t336 => (some t336)) else (some false)))) else (some false)) = some r := H
                have A77 := Aside0.mk A770
                clear A770
                by_cases c78 : t332 = t333
                · rw [if_pos c78] at H
                  have c78b0 : (t332 == t333) = true := beq_iff_eq.mpr c78
                  have c78b1 : (t332 != t333) = false := bne_eq_false_iff_eq.mpr c78
                  clear c78
                  replace H := Option.bind_eq_some_iff.mp H
                  obtain ⟨t334, A790, H⟩ := H
                  replace H : ((tributaryref07_Within.f kj63 l0 l1).bind fun t335 => (if (t334 == t335) = true then ((tributarylaw07_awake.f kj63).bind fun t336 => (some t336)) else (some false))) = some r := H
                  have A79 := Aside0.mk A790
                  clear A790
                  replace H := Option.bind_eq_some_iff.mp H
                  obtain ⟨t335, A800, H⟩ := H
                  replace H : (if (t334 == t335) = true then ((tributarylaw07_awake.f kj63).bind fun t336 => (some t336)) else (some false)) = some r := H
                  have A80 := Aside0.mk A800
                  clear A800
                  by_cases c81 : (t334 == t335) = true
                  · rw [if_pos c81] at H
                    have c81b0 : (t334 == t335) = true := c81
                    (try (have c81b1 : decide (t334 = t335) = true := by simpa using c81))
                    (try (have c81b2 : (t334 == t335) = true := by simpa using c81))
                    clear c81
                    replace H := Option.bind_eq_some_iff.mp H
                    obtain ⟨t336, A820, H⟩ := H
                    replace H : (some t336) = some r := H
                    have A82 := Aside0.mk A820
                    clear A820
                    obtain rfl := Option.some.inj H
                    go_wp2_with (first | (go_at_call 38; (with_reducible refine (past_Check.calls kj63 _ _ t291 t332 _ ?side1 ?side2 A76.out).mono ?_); (case side1 => repeat (first | exact (Kd.R_reads' HO_7.out).2.2 | (with_reducible refine Kd.C_alloc ?_ _) | (with_reducible refine Kd.C_drewN ?_ _) | (with_reducible refine Kd.C_drew ?_))); (case side2 => exact (Kd.R_reads' HO_7.out).2.1); rintro e w83 ⟨rfl, hb⟩; have n0_ := Aside0.mk (Kd.R_below (by (with_reducible repeat (first | apply Kd.R_alloc | apply Kd.R_drewN | apply Kd.R_drew)); exact HO_7.out) hb); have n1_ := Aside0.mk (Kd.R_below (by (with_reducible repeat (first | apply Kd.R_alloc | apply Kd.R_drewN | apply Kd.R_drew)); exact HO_8.out) hb); have n2_ := Aside0.mk (below_step (by repeat (first | (with_reducible first | exact HB.out | apply below_alloc | apply pw_below_drewN | apply below_drew1) | exact HB.out)) hb); clear HO_7; clear HO_8; clear HB; have HO_7 := n0_; have HO_8 := n1_; have HB := n2_; clear n0_ n1_ n2_; (try clear hb); (try clear hb2); (try clear hk); (try clear hi)) | (go_at_call 39; (with_reducible refine (tributaryref07_Check.calls kj63 _ _ l0 t333 _ ?side1 ?side2 A77.out).mono ?_); (case side1 => repeat (first | exact (Kd.C_below HR0.out HB.out) | (with_reducible refine Kd.C_alloc ?_ _) | (with_reducible refine Kd.C_drewN ?_ _) | (with_reducible refine Kd.C_drew ?_))); (case side2 => exact HC0.out); rintro e w84 ⟨rfl, hb⟩; have n0_ := Aside0.mk (Kd.R_below (by (with_reducible repeat (first | apply Kd.R_alloc | apply Kd.R_drewN | apply Kd.R_drew)); exact HO_7.out) hb); have n1_ := Aside0.mk (Kd.R_below (by (with_reducible repeat (first | apply Kd.R_alloc | apply Kd.R_drewN | apply Kd.R_drew)); exact HO_8.out) hb); have n2_ := Aside0.mk (below_step (by repeat (first | (with_reducible first | exact HB.out | apply below_alloc | apply pw_below_drewN | apply below_drew1) | exact HB.out)) hb); clear HO_7; clear HO_8; clear HB; have HO_7 := n0_; have HO_8 := n1_; have HB := n2_; clear n0_ n1_ n2_; (try clear hb); (try clear hb2); (try clear hk); (try clear hi)) | (go_at_call 40; (with_reducible refine (past_Within.calls kj63 _ _ t291 _ _ t294 t334 _ ?side1 ?side2 ?side3 ?side4 A79.out).mono ?_); (case side1 => repeat (first | exact (Kd.R_reads' HO_7.out).2.2 | (with_reducible refine Kd.C_alloc ?_ _) | (with_reducible refine Kd.C_drewN ?_ _) | (with_reducible refine Kd.C_drew ?_))); (case side2 => exact (Kd.R_reads' HO_7.out).2.1); (case side3 => repeat (first | exact (Kd.R_reads' HO_8.out).2.2 | (with_reducible refine Kd.C_alloc ?_ _) | (with_reducible refine Kd.C_drewN ?_ _) | (with_reducible refine Kd.C_drew ?_))); (case side4 => exact (Kd.R_reads' HO_8.out).2.1); rintro e w85 ⟨rfl, hb⟩; have n0_ := Aside0.mk (Kd.R_below (by (with_reducible repeat (first | apply Kd.R_alloc | apply Kd.R_drewN | apply Kd.R_drew)); exact HO_7.out) hb); have n1_ := Aside0.mk (Kd.R_below (by (with_reducible repeat (first | apply Kd.R_alloc | apply Kd.R_drewN | apply Kd.R_drew)); exact HO_8.out) hb); have n2_ := Aside0.mk (below_step (by repeat (first | (with_reducible first | exact HB.out | apply below_alloc | apply pw_below_drewN | apply below_drew1) | exact HB.out)) hb); clear HO_7; clear HO_8; clear HB; have HO_7 := n0_; have HO_8 := n1_; have HB := n2_; clear n0_ n1_ n2_; (try clear hb); (try clear hb2); (try clear hk); (try clear hi)) | (go_at_call 41; (with_reducible refine (tributaryref07_Within.calls kj63 _ _ l0 _ _ l1 t335 _ ?side1 ?side2 ?side3 ?side4 A80.out).mono ?_); (case side1 => repeat (first | exact (Kd.C_below HR0.out HB.out) | (with_reducible refine Kd.C_alloc ?_ _) | (with_reducible refine Kd.C_drewN ?_ _) | (with_reducible refine Kd.C_drew ?_))); (case side2 => exact HC0.out); (case side3 => repeat (first | exact (Kd.C_below HR1.out HB.out) | (with_reducible refine Kd.C_alloc ?_ _) | (with_reducible refine Kd.C_drewN ?_ _) | (with_reducible refine Kd.C_drew ?_))); (case side4 => exact HC1.out); rintro e w86 ⟨rfl, hb⟩; have n0_ := Aside0.mk (Kd.R_below (by (with_reducible repeat (first | apply Kd.R_alloc | apply Kd.R_drewN | apply Kd.R_drew)); exact HO_7.out) hb); have n1_ := Aside0.mk (Kd.R_below (by (with_reducible repeat (first | apply Kd.R_alloc | apply Kd.R_drewN | apply Kd.R_drew)); exact HO_8.out) hb); have n2_ := Aside0.mk (below_step (by repeat (first | (with_reducible first | exact HB.out | apply below_alloc | apply pw_below_drewN | apply below_drew1) | exact HB.out)) hb); clear HO_7; clear HO_8; clear HB; have HO_7 := n0_; have HO_8 := n1_; have HB := n2_; clear n0_ n1_ n2_; (try clear hb); (try clear hb2); (try clear hk); (try clear hi)) | (go_at_call 10; (with_reducible refine (tributarylaw07_awake.calls kj63  t336 _ A82.out).mono ?_); rintro e w87 ⟨rfl, hb⟩; have n0_ := Aside0.mk (Kd.R_below (by (with_reducible repeat (first | apply Kd.R_alloc | apply Kd.R_drewN | apply Kd.R_drew)); exact HO_7.out) hb); have n1_ := Aside0.mk (Kd.R_below (by (with_reducible repeat (first | apply Kd.R_alloc | apply Kd.R_drewN | apply Kd.R_drew)); exact HO_8.out) hb); have n2_ := Aside0.mk (below_step (by repeat (first | (with_reducible first | exact HB.out | apply below_alloc | apply pw_below_drewN | apply below_drew1) | exact HB.out)) hb); clear HO_7; clear HO_8; clear HB; have HO_7 := n0_; have HO_8 := n1_; have HB := n2_; clear n0_ n1_ n2_; (try clear hb); (try clear hb2); (try clear hk); (try clear hi)))
                    go_ret
                    exact ⟨by first | rfl | (simp [errW_none, errW_some] <;> rfl) | (simp [*, errW_none, errW_some] <;> rfl), by repeat (first | (with_reducible first | exact HB.out | apply below_alloc | apply pw_below_drewN | apply below_drew1) | exact HB.out)⟩
                  · rw [if_neg c81] at H
                    have c81b0 : (t334 == t335) = false := by simpa using c81
                    (try (have c81b1 : decide (t334 = t335) = false := by simpa using c81))
                    (try (have c81b2 : (t334 == t335) = false := by simpa using c81))
                    (try (have c81b3 : ¬ (t334 = t335) := by simpa using c81))
                    clear c81
                    obtain rfl := Option.some.inj H
                    go_wp2_with (first | (go_at_call 38; (with_reducible refine (past_Check.calls kj63 _ _ t291 t332 _ ?side1 ?side2 A76.out).mono ?_); (case side1 => repeat (first | exact (Kd.R_reads' HO_7.out).2.2 | (with_reducible refine Kd.C_alloc ?_ _) | (with_reducible refine Kd.C_drewN ?_ _) | (with_reducible refine Kd.C_drew ?_))); (case side2 => exact (Kd.R_reads' HO_7.out).2.1); rintro e w88 ⟨rfl, hb⟩; have n0_ := Aside0.mk (Kd.R_below (by (with_reducible repeat (first | apply Kd.R_alloc | apply Kd.R_drewN | apply Kd.R_drew)); exact HO_7.out) hb); have n1_ := Aside0.mk (Kd.R_below (by (with_reducible repeat (first | apply Kd.R_alloc | apply Kd.R_drewN | apply Kd.R_drew)); exact HO_8.out) hb); have n2_ := Aside0.mk (below_step (by repeat (first | (with_reducible first | exact HB.out | apply below_alloc | apply pw_below_drewN | apply below_drew1) | exact HB.out)) hb); clear HO_7; clear HO_8; clear HB; have HO_7 := n0_; have HO_8 := n1_; have HB := n2_; clear n0_ n1_ n2_; (try clear hb); (try clear hb2); (try clear hk); (try clear hi)) | (go_at_call 39; (with_reducible refine (tributaryref07_Check.calls kj63 _ _ l0 t333 _ ?side1 ?side2 A77.out).mono ?_); (case side1 => repeat (first | exact (Kd.C_below HR0.out HB.out) | (with_reducible refine Kd.C_alloc ?_ _) | (with_reducible refine Kd.C_drewN ?_ _) | (with_reducible refine Kd.C_drew ?_))); (case side2 => exact HC0.out); rintro e w89 ⟨rfl, hb⟩; have n0_ := Aside0.mk (Kd.R_below (by (with_reducible repeat (first | apply Kd.R_alloc | apply Kd.R_drewN | apply Kd.R_drew)); exact HO_7.out) hb); have n1_ := Aside0.mk (Kd.R_below (by (with_reducible repeat (first | apply Kd.R_alloc | apply Kd.R_drewN | apply Kd.R_drew)); exact HO_8.out) hb); have n2_ := Aside0.mk (below_step (by repeat (first | (with_reducible first | exact HB.out | apply below_alloc | apply pw_below_drewN | apply below_drew1) | exact HB.out)) hb); clear HO_7; clear HO_8; clear HB; have HO_7 := n0_; have HO_8 := n1_; have HB := n2_; clear n0_ n1_ n2_; (try clear hb); (try clear hb2); (try clear hk); (try clear hi)) | (go_at_call 40; (with_reducible refine (past_Within.calls kj63 _ _ t291 _ _ t294 t334 _ ?side1 ?side2 ?side3 ?side4 A79.out).mono ?_); (case side1 => repeat (first | exact (Kd.R_reads' HO_7.out).2.2 | (with_reducible refine Kd.C_alloc ?_ _) | (with_reducible refine Kd.C_drewN ?_ _) | (with_reducible refine Kd.C_drew ?_))); (case side2 => exact (Kd.R_reads' HO_7.out).2.1); (case side3 => repeat (first | exact (Kd.R_reads' HO_8.out).2.2 | (with_reducible refine Kd.C_alloc ?_ _) | (with_reducible refine Kd.C_drewN ?_ _) | (with_reducible refine Kd.C_drew ?_))); (case side4 => exact (Kd.R_reads' HO_8.out).2.1); rintro e w90 ⟨rfl, hb⟩; have n0_ := Aside0.mk (Kd.R_below (by (with_reducible repeat (first | apply Kd.R_alloc | apply Kd.R_drewN | apply Kd.R_drew)); exact HO_7.out) hb); have n1_ := Aside0.mk (Kd.R_below (by (with_reducible repeat (first | apply Kd.R_alloc | apply Kd.R_drewN | apply Kd.R_drew)); exact HO_8.out) hb); have n2_ := Aside0.mk (below_step (by repeat (first | (with_reducible first | exact HB.out | apply below_alloc | apply pw_below_drewN | apply below_drew1) | exact HB.out)) hb); clear HO_7; clear HO_8; clear HB; have HO_7 := n0_; have HO_8 := n1_; have HB := n2_; clear n0_ n1_ n2_; (try clear hb); (try clear hb2); (try clear hk); (try clear hi)) | (go_at_call 41; (with_reducible refine (tributaryref07_Within.calls kj63 _ _ l0 _ _ l1 t335 _ ?side1 ?side2 ?side3 ?side4 A80.out).mono ?_); (case side1 => repeat (first | exact (Kd.C_below HR0.out HB.out) | (with_reducible refine Kd.C_alloc ?_ _) | (with_reducible refine Kd.C_drewN ?_ _) | (with_reducible refine Kd.C_drew ?_))); (case side2 => exact HC0.out); (case side3 => repeat (first | exact (Kd.C_below HR1.out HB.out) | (with_reducible refine Kd.C_alloc ?_ _) | (with_reducible refine Kd.C_drewN ?_ _) | (with_reducible refine Kd.C_drew ?_))); (case side4 => exact HC1.out); rintro e w91 ⟨rfl, hb⟩; have n0_ := Aside0.mk (Kd.R_below (by (with_reducible repeat (first | apply Kd.R_alloc | apply Kd.R_drewN | apply Kd.R_drew)); exact HO_7.out) hb); have n1_ := Aside0.mk (Kd.R_below (by (with_reducible repeat (first | apply Kd.R_alloc | apply Kd.R_drewN | apply Kd.R_drew)); exact HO_8.out) hb); have n2_ := Aside0.mk (below_step (by repeat (first | (with_reducible first | exact HB.out | apply below_alloc | apply pw_below_drewN | apply below_drew1) | exact HB.out)) hb); clear HO_7; clear HO_8; clear HB; have HO_7 := n0_; have HO_8 := n1_; have HB := n2_; clear n0_ n1_ n2_; (try clear hb); (try clear hb2); (try clear hk); (try clear hi)))
                    go_ret
                    exact ⟨by first | rfl | (simp [errW_none, errW_some] <;> rfl) | (simp [*, errW_none, errW_some] <;> rfl), by repeat (first | (with_reducible first | exact HB.out | apply below_alloc | apply pw_below_drewN | apply below_drew1) | exact HB.out)⟩
                · rw [if_neg c78] at H
                  have c78b0 : (t332 == t333) = false := beq_eq_false_iff_ne.mpr c78
                  have c78b1 : (t332 != t333) = true := bne_iff_ne.mpr c78
                  obtain rfl := Option.some.inj H
                  go_wp2_with (first | (go_at_call 38; (with_reducible refine (past_Check.calls kj63 _ _ t291 t332 _ ?side1 ?side2 A76.out).mono ?_); (case side1 => repeat (first | exact (Kd.R_reads' HO_7.out).2.2 | (with_reducible refine Kd.C_alloc ?_ _) | (with_reducible refine Kd.C_drewN ?_ _) | (with_reducible refine Kd.C_drew ?_))); (case side2 => exact (Kd.R_reads' HO_7.out).2.1); rintro e w92 ⟨rfl, hb⟩; have n0_ := Aside0.mk (Kd.R_below (by (with_reducible repeat (first | apply Kd.R_alloc | apply Kd.R_drewN | apply Kd.R_drew)); exact HO_7.out) hb); have n1_ := Aside0.mk (Kd.R_below (by (with_reducible repeat (first | apply Kd.R_alloc | apply Kd.R_drewN | apply Kd.R_drew)); exact HO_8.out) hb); have n2_ := Aside0.mk (below_step (by repeat (first | (with_reducible first | exact HB.out | apply below_alloc | apply pw_below_drewN | apply below_drew1) | exact HB.out)) hb); clear HO_7; clear HO_8; clear HB; have HO_7 := n0_; have HO_8 := n1_; have HB := n2_; clear n0_ n1_ n2_; (try clear hb); (try clear hb2); (try clear hk); (try clear hi)) | (go_at_call 39; (with_reducible refine (tributaryref07_Check.calls kj63 _ _ l0 t333 _ ?side1 ?side2 A77.out).mono ?_); (case side1 => repeat (first | exact (Kd.C_below HR0.out HB.out) | (with_reducible refine Kd.C_alloc ?_ _) | (with_reducible refine Kd.C_drewN ?_ _) | (with_reducible refine Kd.C_drew ?_))); (case side2 => exact HC0.out); rintro e w93 ⟨rfl, hb⟩; have n0_ := Aside0.mk (Kd.R_below (by (with_reducible repeat (first | apply Kd.R_alloc | apply Kd.R_drewN | apply Kd.R_drew)); exact HO_7.out) hb); have n1_ := Aside0.mk (Kd.R_below (by (with_reducible repeat (first | apply Kd.R_alloc | apply Kd.R_drewN | apply Kd.R_drew)); exact HO_8.out) hb); have n2_ := Aside0.mk (below_step (by repeat (first | (with_reducible first | exact HB.out | apply below_alloc | apply pw_below_drewN | apply below_drew1) | exact HB.out)) hb); clear HO_7; clear HO_8; clear HB; have HO_7 := n0_; have HO_8 := n1_; have HB := n2_; clear n0_ n1_ n2_; (try clear hb); (try clear hb2); (try clear hk); (try clear hi)))
                  go_ret
                  exact ⟨by first | rfl | (simp [errW_none, errW_some] <;> rfl) | (simp [*, errW_none, errW_some] <;> rfl), by repeat (first | (with_reducible first | exact HB.out | apply below_alloc | apply pw_below_drewN | apply below_drew1) | exact HB.out)⟩
              · replace c75 := Bool.eq_false_iff.mpr c75
                subst c75
                have H1 : (some false) = some r := by rw [if_neg (show ¬ (false = true) by decide)] at H; exact H
                clear H
                have H := H1
                clear H1
                obtain rfl := Option.some.inj H
                go_wp2
                go_ret
                exact ⟨by first | rfl | (simp [errW_none, errW_some] <;> rfl) | (simp [*, errW_none, errW_some] <;> rfl), by repeat (first | (with_reducible first | exact HB.out | apply below_alloc | apply pw_below_drewN | apply below_drew1) | exact HB.out)⟩
            · replace c74 := Bool.eq_false_iff.mpr c74
              subst c74
              have H1 : (some false) = some r := by rw [if_neg (show ¬ (false = true) by decide)] at H; exact H
              clear H
              have H := H1
              clear H1
              obtain rfl := Option.some.inj H
              go_wp2
              go_ret
              exact ⟨by first | rfl | (simp [errW_none, errW_some] <;> rfl) | (simp [*, errW_none, errW_some] <;> rfl), by repeat (first | (with_reducible first | exact HB.out | apply below_alloc | apply pw_below_drewN | apply below_drew1) | exact HB.out)⟩
end
end Go.Proofs.YtdelfhahbngcfaaX.P07
end
section
namespace Go.Proofs.YtdelfhahbngcfaaX.P07
open Go.RowKit Go.Proofs.YtdelfhahbngcfaaW.PrintWords Go.Proofs.YtdelfhahbngcfaaW.PrintLast Go.Proofs.YtdelfhahbngcfaaW.PrintMore
set_option linter.unusedVariables false
set_option linter.unusedSimpArgs false
theorem okS_okI {s : S60} (h : okS60 s) : okI s = true := by unfold okS60 at h; unfold okI; simp; omega
theorem chk_ok {l : List S60} (h : Chk l) : Can l ∧ (∀ s ∈ l, okI s = true) := ⟨(chk_can h.2).1, fun s hs => okS_okI ((chk_can h.2).2 s hs)⟩
theorem chk_rest {a b : List S60} (ha : Chk a) (hb : Chk b) : Rest a b [] :=
  ⟨(chk_ok ha).1, (chk_ok hb).1, (chk_ok ha).2, (chk_ok hb).2, trivial, fun s hs => (by cases hs), fun n q _ s hs => (by cases hs)⟩
theorem chkV0 {l : List S60} (h : Chk l) : chkV l = 0 := by unfold chkV; exact if_pos h
theorem chkV2 {l : List S60} (h : ¬ Chk l) : chkV l = 2 := by unfold chkV; exact if_neg h
theorem has_join (a b : List S60) (n q : Int) : ((hasB a n q || hasB b n q) = true) ↔ HasP (a ++ b) n q := by rw [Bool.or_eq_true, hasB_iff, hasB_iff, has_app]
theorem has_minus (a b : List S60) (n q : Int) : ((hasB a n q && !hasB b n q) = true) ↔ HasP a n q ∧ ¬ HasP b n q := by
  rw [Bool.and_eq_true, Bool.not_eq_true', hasB_iff, ← Bool.not_eq_true, hasB_iff]
theorem sweep_join {a b : List S60} (ha : Chk a) (hb : Chk b) : Ev (fun k => sweepF (fun x y => x || y) k a b []) (tidyL (a ++ b)) := by
  have hR := chk_rest ha hb
  have hm := mu_le a b
  have := ha.1; have := hb.1
  obtain ⟨o, h1, h2, _, h3⟩ := sweep_law (kf := fun x y => x || y) rfl (mu a b) a b [] hR (Nat.le_refl _) (by simp; omega)
  obtain ⟨t1, _, t3⟩ := tidy_law (a ++ b) (fun s hs => (List.mem_append.1 hs).elim (hR.oa s) (hR.ob s))
  have e : o = tidyL (a ++ b) := can_one h2 t1 (fun n q => by
    rw [h3, t3, ← has_join]; simp [has_nil])
  rw [← e]
  exact Ev.of (g := fun k => sweepF (fun x y => x || y) k a b []) (fun k => sweepF_mono _ k a b []) h1
theorem sweep_minus {a b : List S60} (ha : Chk a) (hb : Chk b) : Ev (fun k => sweepF (fun x y => x && !y) k a b []) (minusV a b) := by
  have hR := chk_rest ha hb
  have hm := mu_le a b
  have := ha.1; have := hb.1
  obtain ⟨o, h1, h2, _, h3⟩ := sweep_law (kf := fun x y => x && !y) rfl (mu a b) a b [] hR (Nat.le_refl _) (by simp; omega)
  obtain ⟨t1, _, t3⟩ := minus_law b a hR.ca hR.oa hR.ob
  have e : o = minusV a b := can_one h2 t1 (fun n q => by
    rw [h3, t3, ← has_minus]; simp [has_nil])
  rw [← e]
  exact Ev.of (g := fun k => sweepF (fun x y => x && !y) k a b []) (fun k => sweepF_mono _ k a b []) h1
open Classical in
noncomputable def joinV (a b : List S60) : List S60 × Int := if Chk a ∧ Chk b then tidyV (a ++ b) else ([], 2)
open Classical in
noncomputable def minusP (a b : List S60) : List S60 × Int := if Chk a ∧ Chk b then (if 4000 < (minusV a b).length then ([], 8) else (minusV a b, 0)) else ([], 2)
open Classical in
noncomputable def withV (a b : List S60) : Bool := decide (Chk a ∧ Chk b ∧ minusV a b = [])
theorem swept_ev (kf : Bool → Bool → Bool) (a b o : List S60) (r : List S60 × Int) (hla : a.length < 1000000) (hlb : b.length < 1000000) (h0 : ¬ (Chk a ∧ Chk b) → r = ([], 2)) (h1 : Chk a → Chk b → Ev (fun k => sweepF kf k a b []) o ∧ r = if 4000 < o.length then ([], 8) else (o, 0)) : Ev (fun k => sweptF kf k a b) r := by
  unfold sweptF
  refine ev_pos ⟨hla, hlb⟩ (Ev.bind (check_ev a hla) ?_)
  by_cases ha : Chk a
  · rw [chkV0 ha]
    refine ev_pos rfl (Ev.bind (check_ev b hlb) ?_)
    by_cases hb : Chk b
    · rw [chkV0 hb]
      obtain ⟨h2, rfl⟩ := h1 ha hb
      refine ev_pos rfl (Ev.bind h2 ?_)
      by_cases h4 : 4000 < o.length
      · simp only [if_pos h4]; exact Ev.now _
      · simp only [if_neg h4]; exact Ev.now _
    · rw [chkV2 hb, h0 (fun h => hb h.2)]
      exact ev_neg (by decide) (Ev.now _)
  · rw [chkV2 ha, h0 (fun h => ha h.1)]
    exact ev_neg (by decide) (Ev.now _)
theorem join_ev (a b : List S60) (hla : a.length < 1000000) (hlb : b.length < 1000000) : Ev (fun k => past_Join.f k a b) (joinV a b) := by
  unfold past_Join.f
  refine swept_ev _ a b (tidyL (a ++ b)) _ hla hlb (fun h => by unfold joinV; exact if_neg h) (fun ha hb => ⟨sweep_join ha hb, ?_⟩)
  unfold joinV tidyV
  rw [if_pos ⟨ha, hb⟩]
theorem minus_ev (a b : List S60) (hla : a.length < 1000000) (hlb : b.length < 1000000) : Ev (fun k => past_Minus.f k a b) (minusP a b) := by
  unfold past_Minus.f
  refine swept_ev _ a b (minusV a b) _ hla hlb (fun h => by unfold minusP; exact if_neg h) (fun ha hb => ⟨sweep_minus ha hb, ?_⟩)
  unfold minusP
  rw [if_pos ⟨ha, hb⟩]
theorem within_ev (a b : List S60) (hla : a.length < 1000000) (hlb : b.length < 1000000) : Ev (fun k => past_Within.f k a b) (withV a b) := by
  unfold past_Within.f
  refine Ev.bind (minus_ev a b hla hlb) ?_
  unfold minusP withV
  by_cases h : Chk a ∧ Chk b
  · rw [if_pos h]
    by_cases h4 : 4000 < (minusV a b).length
    · rw [if_pos h4]
      have e : minusV a b ≠ [] := fun e => by rw [e] at h4; simp at h4
      simp only [h.1, h.2, e, and_false, decide_false]
      exact ev_neg (by decide) (Ev.now _)
    · rw [if_neg h4]
      refine ev_pos rfl ?_
      have : (((minusV a b).length : Int) == 0) = decide (Chk a ∧ Chk b ∧ minusV a b = []) := by
        by_cases e : minusV a b = []
        · simp [h.1, h.2, e]
        · have : (minusV a b).length ≠ 0 := fun h => e (List.eq_nil_of_length_eq_zero h)
          simp [h.1, h.2, e]
      rw [← this]
      exact Ev.now _
  · rw [if_neg h]
    have : decide (Chk a ∧ Chk b ∧ minusV a b = []) = false := decide_eq_false (fun hh => h ⟨hh.1, hh.2.1⟩)
    rw [this]
    exact ev_neg (by decide) (Ev.now _)
theorem tidy_eq (l : List S60) (hl : l.length < 1000000) : tributaryref07_tidy.f l = some (tidyV l) := by unfold tributaryref07_tidy.f; exact if_pos hl
theorem joinV_yes {a b : List S60} (ha : Chk a) (hb : Chk b) : joinV a b = tidyV (a ++ b) := by unfold joinV; exact if_pos ⟨ha, hb⟩
theorem joinV_no {a b : List S60} (h : ¬ (Chk a ∧ Chk b)) : joinV a b = ([], 2) := by unfold joinV; exact if_neg h
theorem minusP_yes {a b : List S60} (ha : Chk a) (hb : Chk b) : minusP a b = if 4000 < (minusV a b).length then ([], 8) else (minusV a b, 0) := by unfold minusP; exact if_pos ⟨ha, hb⟩
theorem minusP_no {a b : List S60} (h : ¬ (Chk a ∧ Chk b)) : minusP a b = ([], 2) := by unfold minusP; exact if_neg h
theorem withV_yes {a b : List S60} (ha : Chk a) (hb : Chk b) : withV a b = decide (minusV a b = []) := by
  unfold withV; rw [decide_eq_decide]; exact ⟨fun h => h.2.2, fun h => ⟨ha, hb, h⟩⟩
theorem withV_no {a b : List S60} (h : ¬ (Chk a ∧ Chk b)) : withV a b = false := by
  unfold withV; exact decide_eq_false (fun hh => h ⟨hh.1, hh.2.1⟩)
theorem rjoin_ev (a b : List S60) (hla : a.length < 1000000) (hlb : b.length < 1000000) : Ev (fun k => tributaryref07_Join.f k a b) (joinV a b) := by
  unfold tributaryref07_Join.f
  refine Ev.bind (rcheck_ev a hla) ?_
  by_cases ha : Chk a
  · rw [chkV0 ha]
    refine ev_pos rfl (Ev.bind (rcheck_ev b hlb) ?_)
    by_cases hb : Chk b
    · rw [chkV0 hb, joinV_yes ha hb]
      have := ha.1; have := hb.1
      refine ev_pos rfl (ev_some (ev_pos (by simp; omega) (ev_some (ev_pos (by simp; omega) ?_))))
      rw [List.nil_append, tidy_eq _ (by simp; omega)]
      exact ev_some (Ev.now _)
    · rw [chkV2 hb, joinV_no (fun h => hb h.2)]
      exact ev_neg (by decide) (Ev.now _)
  · rw [chkV2 ha, joinV_no (fun h => ha h.1)]
    exact ev_neg (by decide) (Ev.now _)
theorem rdchk (d : S41) : tributaryref06_Check.f d.f0 d.f1 = some (if okD d = true then 0 else 2) := dchk_eq d.f0 d.f1
theorem rd41_at {l : List S41} {j : Nat} (h : j < l.length) : rd_T41 l (j : Int) = l[j] := by unfold rd_T41; simp [List.getD_eq_getElem?_getD, h]
def spanD (d : S41) : S60 := ⟨d.f0, d.f1, d.f1⟩
theorem spanD_ok {d : S41} (h : okD d = true) : okI (spanD d) = true := by
  have hd' : 1 ≤ d.f0 ∧ d.f0 ≤ 200 ∧ 1 ≤ d.f1 ∧ d.f1 ≤ 2147483647 := by unfold okD at h; exact of_decide_eq_true h
  unfold okI spanD
  simp
  omega
theorem of_tidy (l : List S41) (h : ∀ d ∈ l, okD d = true) : ofL l = tidyL (l.map spanD) := by
  obtain ⟨a1, _, a3, _⟩ := of_law l h
  obtain ⟨b1, _, b3⟩ := tidy_law (l.map spanD) (fun s hs => by
    obtain ⟨d, hd, rfl⟩ := List.mem_map.1 hs
    exact spanD_ok (h d hd))
  refine can_one a1 b1 (fun n q => ?_)
  rw [a3, b3]
  unfold HasP
  constructor
  · intro hh
    exact ⟨spanD ⟨n, q⟩, List.mem_map.2 ⟨_, hh, rfl⟩, rfl, Int.le_refl _, Int.le_refl _⟩
  · rintro ⟨s, hs, rfl, h1, h2⟩
    obtain ⟨d, hd, rfl⟩ := List.mem_map.1 hs
    have : (⟨(spanD d).f0, q⟩ : S41) = d := by
      cases d
      simp only [spanD] at *
      congr
      omega
    rw [this]; exact hd
theorem rof_loop (l : List S41) (hl : l.length < 1000000) : ∀ (d j : Nat), j + d = l.length → (∀ x ∈ l.take j, okD x = true) → Ev (fun k => tributaryref07_Of.l0 k l ((l.take j).map spanD) (j : Int)) (if l.all okD = true then tidyV (l.map spanD) else ([], 2))
  | 0, j, hj, hc => by
    rw [List.take_of_length_le (by omega)] at hc ⊢
    rw [if_pos (List.all_eq_true.2 hc)]
    refine Ev.step (fun _ => rfl) ?_
    simp only [tributaryref07_Of.l0]
    refine ev_neg (by omega) ?_
    rw [tidy_eq _ (by simp; omega)]
    exact ev_some (Ev.now _)
  | d + 1, j, hj, hc => by
    have hjl : j < l.length := by omega
    have ih := rof_loop l hl d (j + 1) (by omega)
    refine Ev.step (fun _ => rfl) ?_
    simp only [tributaryref07_Of.l0]
    obtain ⟨x, hx⟩ : ∃ x, x = l[j] := ⟨_, rfl⟩
    rw [rd41_at hjl, ← hx]
    refine ev_pos (by omega) (ev_pos (by omega) ?_)
    by_cases hd : okD x = true
    · rw [show tributaryref06_Check.f x.f0 x.f1 = some 0 from by rw [rdchk, if_pos hd]]
      refine ev_some (ev_pos rfl (ev_pos (by simp; omega) ?_))
      rw [w64 (by omega : -9223372036854775808 ≤ (j : Int) + 1 ∧ (j : Int) + 1 ≤ 9223372036854775807), show (j : Int) + 1 = ((j + 1 : Nat) : Int) by omega]
      have e : (l.take j).map spanD ++ [⟨x.f0, x.f1, x.f1⟩] = (l.take (j + 1)).map spanD := by
        rw [List.take_succ_eq_append_getElem hjl, List.map_append, ← hx]; rfl
      rw [e]
      refine ih (fun y hy => ?_)
      rw [List.take_succ_eq_append_getElem hjl] at hy
      rcases List.mem_append.1 hy with hy | hy
      · exact hc y hy
      · rw [List.mem_singleton.1 hy, ← hx]; exact hd
    · rw [show tributaryref06_Check.f x.f0 x.f1 = some 2 from by rw [rdchk, if_neg hd]]
      rw [if_neg (fun h => hd (by rw [hx]; exact List.all_eq_true.1 h _ (List.getElem_mem hjl)))]
      exact ev_some (ev_neg (by decide) (Ev.now _))
theorem rof_ev (l : List S41) (hl : l.length < 1000000) : Ev (fun k => tributaryref07_Of.f k l) (ofV l) := by
  have := rof_loop l hl l.length 0 (by omega) (fun x hx => by simp at hx)
  have e : ofV l = if l.all okD = true then tidyV (l.map spanD) else ([], 2) := by
    unfold ofV tidyV
    by_cases h : l.all okD = true
    · rw [if_pos h, if_pos h, of_tidy l (List.all_eq_true.1 h)]
    · rw [if_neg h, if_neg h]
  rw [e]
  unfold tributaryref07_Of.f
  exact this
theorem of_eq (l : List S41) (hl : l.length < 1000000) : past_Of.f l = some (ofV l) := by unfold past_Of.f; exact if_pos hl
end Go.Proofs.YtdelfhahbngcfaaX.P07
end
section
namespace Go.Proofs.YtdelfhahbngcfaaX.P07
open Go.RowKit Go.Proofs.YtdelfhahbngcfaaW.PrintWords Go.Proofs.YtdelfhahbngcfaaW.PrintLast Go.Proofs.YtdelfhahbngcfaaW.PrintMore
set_option linter.unusedVariables false
set_option linter.unusedSimpArgs false
theorem without_snoc (l : List S60) (x : S60) (j : Nat) (h : j < l.length) : withoutV (l.take (j + 1)) x = withoutV (l.take j) x ++ cutS x l[j] := by
  unfold withoutV
  rw [List.take_succ_eq_append_getElem h, List.flatMap_append]
  simp
theorem without_len (l : List S60) (x : S60) : (withoutV l x).length ≤ 2 * l.length := by
  induction l with
  | nil => simp [withoutV]
  | cons y l ih =>
    have e : withoutV (y :: l) x = cutS x y ++ withoutV l x := rfl
    have := cut_len x y
    rw [e, List.length_append, List.length_cons]
    omega
theorem without_loop (l : List S60) (x : S60) (hx : okI x = true) (hl : l.length < 1000000000) : ∀ (d j : Nat), j + d = l.length →
    Ev (fun k => tributaryref07_without.l0 k l (withoutV (l.take j) x) (j : Int) x.f0 x.f1 x.f2) (withoutV l x)
  | 0, j, hj => by
    rw [List.take_of_length_le (by omega)]
    refine Ev.step (fun _ => rfl) ?_
    simp only [tributaryref07_without.l0]
    exact ev_neg (by omega) (Ev.now _)
  | d + 1, j, hj => by
    have hjl : j < l.length := by omega
    have ih := without_loop l x hx hl d (j + 1) (by omega)
    have a1 := okI_spec hx
    have hsn := without_snoc l x j hjl
    obtain ⟨o, ho⟩ : ∃ o, o = withoutV (l.take j) x := ⟨_, rfl⟩
    have hol : o.length ≤ 2 * j := by
      rw [ho]
      refine Nat.le_trans (without_len _ _) ?_
      rw [List.length_take]; omega
    rw [← ho] at hsn ⊢
    obtain ⟨y, hy⟩ : ∃ y, y = l[j] := ⟨_, rfl⟩
    rw [← hy] at hsn
    rw [hsn] at ih
    have hw : wrap64 ((j : Int) + 1) = ((j + 1 : Nat) : Int) := by rw [w64 (by omega)]; omega
    have key : ∀ b : Bool, (b = true → cutS x y = [y]) → (b = false → cutS x y = (if y.f1 < x.f1 then [⟨y.f0, y.f1, x.f1 - 1⟩] else []) ++ (if y.f2 > x.f2 then [⟨y.f0, x.f2 + 1, y.f2⟩] else [])) →
        Ev (fun k => tributaryref07_without.j1 k l o (j : Int) b x.f0 x.f1 x.f2 y.f0 y.f1 y.f2) (withoutV l x) := by
      intro b hb1 hb2
      refine Ev.step (fun _ => rfl) ?_
      cases b with
      | true =>
        rw [hb1 rfl] at ih
        simp only [tributaryref07_without.j1]
        rw [hw]
        first | exact ev_pos trivial (ev_pos (by omega) ih) | exact ev_pos (by omega) ih
      | false =>
        rw [hb2 rfl] at ih
        simp only [tributaryref07_without.j1]
        rw [hw, w64 (by omega : -9223372036854775808 ≤ x.f1 - 1 ∧ x.f1 - 1 ≤ 9223372036854775807), w64 (by omega : -9223372036854775808 ≤ x.f2 + 1 ∧ x.f2 + 1 ≤ 9223372036854775807)]
        refine ev_neg (by decide) ?_
        by_cases h1 : y.f1 < x.f1
        · rw [if_pos h1] at ih
          refine ev_pos h1 (ev_pos (by omega) (ev_some ?_))
          by_cases h2 : y.f2 > x.f2
          · rw [if_pos h2] at ih
            refine ev_pos h2 (ev_pos (by simp; omega) ?_)
            rw [List.append_assoc]; exact ih
          · rw [if_neg h2, List.append_nil] at ih
            exact ev_neg h2 ih
        · rw [if_neg h1, List.nil_append] at ih
          refine ev_neg h1 ?_
          by_cases h2 : y.f2 > x.f2
          · rw [if_pos h2] at ih
            exact ev_pos h2 (ev_pos (by omega) ih)
          · rw [if_neg h2, List.append_nil] at ih
            exact ev_neg h2 ih
    refine Ev.step (fun _ => rfl) ?_
    simp only [tributaryref07_without.l0]
    rw [rd_at hjl, ← hy]
    refine ev_pos (by omega) (ev_pos (by omega) ?_)
    by_cases h1 : y.f0 = x.f0
    · refine ev_pos h1 ?_
      by_cases h2 : y.f2 < x.f1
      · exact ev_pos h2 (key true (fun _ => by unfold cutS; exact if_pos (.inr (.inl h2))) (fun h => by cases h))
      · refine ev_neg h2 (key _ (fun h => ?_) (fun h => ?_))
        · unfold cutS; exact if_pos (.inr (.inr (of_decide_eq_true h)))
        · have := of_decide_eq_false h
          unfold cutS; exact if_neg (by omega)
    · exact ev_neg h1 (key true (fun _ => by unfold cutS; exact if_pos (.inl h1)) (fun h => by cases h))
theorem without_ev (l : List S60) (x : S60) (hx : okI x = true) (hl : l.length < 1000000000) : Ev (fun k => tributaryref07_without.f k l x.f0 x.f1 x.f2) (withoutV l x) := by
  unfold tributaryref07_without.f
  have := without_loop l x hx hl l.length 0 (by omega)
  exact this
theorem minus_len2 : ∀ (b a : List S60), Can a → (∀ s ∈ a, okI s = true) → (∀ s ∈ b, okI s = true) → (minusV a b).length ≤ a.length + b.length
  | [], a, _, _, _ => by simp [minusV]
  | x :: b, a, h1, h2, h3 => by
    obtain ⟨c1, c2, _, _⟩ := without_law x (h3 x (List.mem_cons_self ..)) a h1 h2
    have h4 := minus_len2 b (withoutV a x) c1 c2 (fun s hs => h3 s (List.mem_cons_of_mem _ hs))
    have h5 : ∀ (l : List S60), Can l → (∀ s ∈ l, okI s = true) → (withoutV l x).length ≤ l.length + (if ∃ y ∈ l, y.f0 = x.f0 ∧ y.f1 < x.f1 ∧ x.f2 < y.f2 then 1 else 0) := by
      intro l
      induction l with
      | nil => intro _ _; simp [withoutV]
      | cons y l ih =>
        intro hc ho
        have i1 := ih hc.2.2 (fun s hs => ho s (List.mem_cons_of_mem _ hs))
        have e : withoutV (y :: l) x = cutS x y ++ withoutV l x := rfl
        rw [e, List.length_append, List.length_cons]
        by_cases hy : y.f0 = x.f0 ∧ y.f1 < x.f1 ∧ x.f2 < y.f2
        · have hno : ¬ ∃ z ∈ l, z.f0 = x.f0 ∧ z.f1 < x.f1 ∧ x.f2 < z.f2 := by
            rintro ⟨z, hz, z1, z2, z3⟩
            have := hc.2.1 z hz
            have hx := okI_spec (h3 x (List.mem_cons_self ..))
            unfold Aft at this
            omega
          rw [if_neg hno] at i1
          rw [if_pos ⟨y, List.mem_cons_self .., hy⟩]
          have := cut_len x y
          omega
        · have hcut : (cutS x y).length ≤ 1 := by
            unfold cutS
            split
            · simp
            · rename_i hn
              split <;> split <;> simp <;> omega
          by_cases hz : ∃ z ∈ l, z.f0 = x.f0 ∧ z.f1 < x.f1 ∧ x.f2 < z.f2
          · rw [if_pos hz] at i1
            obtain ⟨z, hzm, hz⟩ := hz
            rw [if_pos ⟨z, List.mem_cons_of_mem _ hzm, hz⟩]
            omega
          · rw [if_neg hz] at i1
            have : (if ∃ z ∈ y :: l, z.f0 = x.f0 ∧ z.f1 < x.f1 ∧ x.f2 < z.f2 then 1 else 0) ≥ 0 := Nat.zero_le _
            omega
    have h6 := h5 a h1 h2
    have h7 : (if ∃ y ∈ a, y.f0 = x.f0 ∧ y.f1 < x.f1 ∧ x.f2 < y.f2 then 1 else 0) ≤ 1 := by split <;> omega
    have e : minusV a (x :: b) = minusV (withoutV a x) b := rfl
    rw [e, List.length_cons]
    omega
theorem Minus_loop (a b : List S60) (ha : Chk a) (hb : Chk b) : ∀ (d j : Nat), j + d = b.length → Ev (fun k => tributaryref07_Minus.l0 k b (minusV a (b.take j)) (j : Int)) (if 4000 < (minusV a b).length then ([], 8) else (minusV a b, 0))
  | 0, j, hj => by
    rw [List.take_of_length_le (by omega)]
    refine Ev.step (fun _ => rfl) ?_
    simp only [tributaryref07_Minus.l0]
    refine ev_neg (by omega) ?_
    by_cases h4 : 4000 < (minusV a b).length
    · rw [if_pos h4]; exact ev_pos (by omega) (Ev.now _)
    · rw [if_neg h4]; exact ev_neg (by omega) (Ev.now _)
  | d + 1, j, hj => by
    have hjl : j < b.length := by omega
    have ih := Minus_loop a b ha hb d (j + 1) (by omega)
    have hb4 := hb.1
    have ha4 := ha.1
    refine Ev.step (fun _ => rfl) ?_
    simp only [tributaryref07_Minus.l0]
    rw [rd_at hjl, w64 (by omega : -9223372036854775808 ≤ (j : Int) + 1 ∧ (j : Int) + 1 ≤ 9223372036854775807), show (j : Int) + 1 = ((j + 1 : Nat) : Int) by omega]
    have hlen := minus_len2 (b.take j) a (chk_ok ha).1 (chk_ok ha).2 (fun s hs => (chk_ok hb).2 s (List.mem_of_mem_take hs))
    have htk : (b.take j).length ≤ j := by rw [List.length_take]; omega
    refine ev_pos (by omega) (ev_pos (by omega) (Ev.bind (without_ev _ b[j] ((chk_ok hb).2 _ (List.getElem_mem hjl)) (by omega)) ?_))
    have e : minusV a (b.take (j + 1)) = withoutV (minusV a (b.take j)) b[j] := by
      unfold minusV
      rw [List.take_succ_eq_append_getElem hjl, List.foldl_append]
      rfl
    rw [← e]
    exact ih
theorem Within_loop (a b : List S60) (ha : Chk a) (hb : Chk b) : ∀ (d j : Nat), j + d = b.length → Ev (fun k => tributaryref07_Within.l0 k b (minusV a (b.take j)) (j : Int)) (decide (minusV a b = []))
  | 0, j, hj => by
    rw [List.take_of_length_le (by omega)]
    refine Ev.step (fun _ => rfl) ?_
    simp only [tributaryref07_Within.l0]
    refine ev_neg (by omega) ?_
    have : (((minusV a b).length : Int) == 0) = decide (minusV a b = []) := by
      by_cases e : minusV a b = []
      · simp [e]
      · have : (minusV a b).length ≠ 0 := fun h => e (List.eq_nil_of_length_eq_zero h)
        simp [e]
    rw [← this]
    exact Ev.now _
  | d + 1, j, hj => by
    have hjl : j < b.length := by omega
    have ih := Within_loop a b ha hb d (j + 1) (by omega)
    have hb4 := hb.1
    have ha4 := ha.1
    refine Ev.step (fun _ => rfl) ?_
    simp only [tributaryref07_Within.l0]
    rw [rd_at hjl, w64 (by omega : -9223372036854775808 ≤ (j : Int) + 1 ∧ (j : Int) + 1 ≤ 9223372036854775807), show (j : Int) + 1 = ((j + 1 : Nat) : Int) by omega]
    have hlen := minus_len2 (b.take j) a (chk_ok ha).1 (chk_ok ha).2 (fun s hs => (chk_ok hb).2 s (List.mem_of_mem_take hs))
    have htk : (b.take j).length ≤ j := by rw [List.length_take]; omega
    refine ev_pos (by omega) (ev_pos (by omega) (Ev.bind (without_ev _ b[j] ((chk_ok hb).2 _ (List.getElem_mem hjl)) (by omega)) ?_))
    have e : minusV a (b.take (j + 1)) = withoutV (minusV a (b.take j)) b[j] := by
      unfold minusV
      rw [List.take_succ_eq_append_getElem hjl, List.foldl_append]
      rfl
    rw [← e]
    exact ih
theorem rminus_ev (a b : List S60) (hla : a.length < 1000000) (hlb : b.length < 1000000) : Ev (fun k => tributaryref07_Minus.f k a b) (minusP a b) := by
  unfold tributaryref07_Minus.f
  refine Ev.bind (rcheck_ev a hla) ?_
  by_cases ha : Chk a
  · rw [chkV0 ha]
    refine ev_pos rfl (Ev.bind (rcheck_ev b hlb) ?_)
    by_cases hb : Chk b
    · rw [chkV0 hb, minusP_yes ha hb]
      have := ha.1
      refine Ev.step (fun _ => rfl) ?_
      simp only [tributaryref07_Minus.j0]
      have hloop := Minus_loop a b ha hb b.length 0 (by omega)
      refine ev_neg (by decide) (ev_some (ev_pos (by simp; omega) ?_))
      exact hloop
    · rw [chkV2 hb, minusP_no (fun h => hb h.2)]
      refine Ev.step (fun _ => rfl) ?_
      simp only [tributaryref07_Minus.j0]
      first | exact ev_pos (by decide) (Ev.now _) | exact Ev.now _
  · rw [chkV2 ha, minusP_no (fun h => ha h.1)]
    refine ev_neg (by decide) ?_
    refine Ev.step (fun _ => rfl) ?_
    simp only [tributaryref07_Minus.j0]
    first | exact ev_pos trivial (Ev.now _) | exact Ev.now _
theorem rwithin_ev (a b : List S60) (hla : a.length < 1000000) (hlb : b.length < 1000000) : Ev (fun k => tributaryref07_Within.f k a b) (withV a b) := by
  unfold tributaryref07_Within.f
  refine Ev.bind (rcheck_ev a hla) ?_
  by_cases ha : Chk a
  · rw [chkV0 ha]
    refine ev_pos rfl (Ev.bind (rcheck_ev b hlb) ?_)
    by_cases hb : Chk b
    · rw [chkV0 hb, withV_yes ha hb]
      have := ha.1
      refine Ev.step (fun _ => rfl) ?_
      simp only [tributaryref07_Within.j0]
      have hloop := Within_loop a b ha hb b.length 0 (by omega)
      refine ev_neg (by decide) (ev_some (ev_pos (by simp; omega) ?_))
      exact hloop
    · rw [chkV2 hb, withV_no (fun h => hb h.2)]
      refine Ev.step (fun _ => rfl) ?_
      simp only [tributaryref07_Within.j0]
      first | exact ev_pos (by decide) (Ev.now _) | exact Ev.now _
  · rw [chkV2 ha, withV_no (fun h => ha h.1)]
    refine ev_neg (by decide) ?_
    refine Ev.step (fun _ => rfl) ?_
    simp only [tributaryref07_Within.j0]
    first | exact ev_pos trivial (Ev.now _) | exact Ev.now _
end Go.Proofs.YtdelfhahbngcfaaX.P07
end
section
namespace Go.Proofs.YtdelfhahbngcfaaX.P07
open Go.RowKit Go.Proofs.YtdelfhahbngcfaaW.PrintWords Go.Proofs.YtdelfhahbngcfaaW.PrintLast Go.Proofs.YtdelfhahbngcfaaW.PrintMore
set_option linter.unusedVariables false
set_option linter.unusedSimpArgs false
instance : DecidableEq S41 := fun a b => decidable_of_iff (a.f0 = b.f0 ∧ a.f1 = b.f1) (by cases a; cases b; simp)
theorem sameD_loop (a : List S41) (hl : a.length < 1000000) : ∀ (d j : Nat), j + d = a.length → Ev (fun k => tributarykit_SameDots.l0 k a a (j : Int)) true
  | 0, j, hj => by
    refine Ev.step (fun _ => rfl) ?_
    simp only [tributarykit_SameDots.l0]
    exact ev_neg (by omega) (Ev.now true)
  | d + 1, j, hj => by
    have h1 : j < a.length := by omega
    refine Ev.step (fun _ => rfl) ?_
    simp only [tributarykit_SameDots.l0]
    refine ev_pos (by omega) (ev_pos (by omega) (ev_pos (by omega) (ev_neg (by simp) ?_)))
    rw [w64 (by omega : -9223372036854775808 ≤ (j : Int) + 1 ∧ (j : Int) + 1 ≤ 9223372036854775807), show (j : Int) + 1 = ((j + 1 : Nat) : Int) by omega]
    exact sameD_loop a hl d (j + 1) (by omega)
theorem sameD_ev (a : List S41) (hl : a.length < 1000000) : Ev (fun k => tributarykit_SameDots.f k a a) true := by
  unfold tributarykit_SameDots.f
  exact ev_pos rfl (sameD_loop a hl a.length 0 (by omega))
theorem copyD_eq (l : List S41) (hl : l.length < 1000000) : tributarykit_CopyDots.f l = some l := by
  unfold tributarykit_CopyDots.f
  rw [Option.bind_some, if_pos (by simp; omega)]
  simp
theorem same_self (a : List S60) (hl : a.length < 1000000) : Ev (fun k => tributarykit_SameSpans.f k a a) true := by
  have := same_ev a a hl
  simpa using this
theorem sorted_one : ∀ {a b : List S41}, a.Pairwise ltDot → b.Pairwise ltDot → (∀ x, x ∈ a ↔ x ∈ b) → a = b
  | [], [], _, _, _ => rfl
  | [], y :: b, _, _, h => by have := (h y).2 (List.mem_cons_self ..); cases this
  | x :: a, [], _, _, h => by have := (h x).1 (List.mem_cons_self ..); cases this
  | x :: a, y :: b, ha, hb, h => by
    rw [List.pairwise_cons] at ha hb
    have h1 : x = y := by
      rcases List.mem_cons.1 ((h x).1 (List.mem_cons_self ..)) with e | e
      · exact e
      · rcases List.mem_cons.1 ((h y).2 (List.mem_cons_self ..)) with e2 | e2
        · exact e2.symm
        · have := hb.1 x e; have := ha.1 y e2; unfold ltDot at *; omega
    subst h1
    congr 1
    refine sorted_one ha.2 hb.2 (fun z => ?_)
    constructor
    · intro hz
      rcases List.mem_cons.1 ((h z).1 (List.mem_cons_of_mem _ hz)) with e | e
      · have := ha.1 z hz; rw [e] at this; unfold ltDot at this; omega
      · exact e
    · intro hz
      rcases List.mem_cons.1 ((h z).2 (List.mem_cons_of_mem _ hz)) with e | e
      · have := hb.1 z hz; rw [e] at this; unfold ltDot at this; omega
      · exact e
theorem sort_is {l a : List S41} (h : a.Pairwise ltDot) (hm : ∀ x, x ∈ l ↔ x ∈ a) : sortV l = a := sorted_one (sort_law l).1 h (fun x => ((sort_law l).2 x).trans (hm x))
instance (x y : S41) : Decidable (ltDot x y) := by unfold ltDot; infer_instance
theorem of_awake : past_Of.f [⟨1, 3⟩, ⟨1, 1⟩, ⟨1, 2⟩, ⟨2, 5⟩] = some ([⟨1, 1, 3⟩, ⟨2, 5, 5⟩], 0) := by
  have e : sortV [⟨1, 3⟩, ⟨1, 1⟩, ⟨1, 2⟩, ⟨2, 5⟩] = [⟨1, 1⟩, ⟨1, 2⟩, ⟨1, 3⟩, ⟨2, 5⟩] := sort_is (by decide) (fun x => by simp only [List.mem_cons, List.not_mem_nil, or_false]; constructor <;> (intro h; rcases h with h | h | h | h <;> simp [h]))
  unfold past_Of.f ofV ofL
  rw [e]
  decide +kernel
set_option maxRecDepth 100000 in
theorem awake_ev : Ev (fun k => tributarylaw07_awake.f k) true := Ev.of (k := 40) tributarylaw07_awake.mono (by
  unfold tributarylaw07_awake.f
  rw [show tributarylaw07_at.f 1 3 = some (1, 3) from rfl, show tributarylaw07_at.f 1 1 = some (1, 1) from rfl, show tributarylaw07_at.f 1 2 = some (1, 2) from rfl, show tributarylaw07_at.f 2 5 = some (2, 5) from rfl]
  simp only [Option.bind_some]
  rw [of_awake]
  decide +kernel)
end Go.Proofs.YtdelfhahbngcfaaX.P07
end
section
namespace Go.Proofs.YtdelfhahbngcfaaX.P07
open Go.RowKit Go.Proofs.YtdelfhahbngcfaaW.PrintWords Go.Proofs.YtdelfhahbngcfaaW.PrintLast Go.Proofs.YtdelfhahbngcfaaW.PrintMore
set_option linter.unusedVariables false
set_option linter.unusedSimpArgs false
theorem joinV_len (a b : List S60) : (joinV a b).1.length < 1000000 := by
  by_cases h : Chk a ∧ Chk b
  · rw [joinV_yes h.1 h.2]
    unfold tidyV
    split
    · simp
    · show (tidyL (a ++ b)).length < 1000000; omega
  · rw [joinV_no h]; simp
theorem minusP_len (a b : List S60) : (minusP a b).1.length < 1000000 := by
  by_cases h : Chk a ∧ Chk b
  · rw [minusP_yes h.1 h.2]
    split
    · simp
    · show (minusV a b).length < 1000000; omega
  · rw [minusP_no h]; simp
theorem ofV_len (l : List S41) : (ofV l).1.length < 1000000 := by
  unfold ofV
  split
  · split
    · simp
    · show (ofL l).length < 1000000; omega
  · simp
theorem sets_ev (a b : List S60) (l : List S41) : Ev (fun k => tributarylaw07_PastSets.f k a b l) true := by
  unfold tributarylaw07_PastSets.f
  by_cases hlong : (a.length : Int) > 200 ∨ (b.length : Int) > 200 ∨ (l.length : Int) > 200
  · rw [show tributarylaw07_long.f a b l = some true from by
      unfold tributarylaw07_long.f
      by_cases h1 : (a.length : Int) > 200
      · exact if_pos h1
      rw [if_neg h1]
      by_cases h2 : (b.length : Int) > 200
      · exact if_pos h2
      rw [if_neg h2]
      have h3 : (l.length : Int) > 200 := by omega
      rw [decide_eq_true h3]]
    exact ev_some (ev_pos rfl (Ev.bind awake_ev (Ev.now _)))
  · have h1 : a.length ≤ 200 := by omega
    have h2 : b.length ≤ 200 := by omega
    have h3 : l.length ≤ 200 := by omega
    rw [show tributarylaw07_long.f a b l = some false from by
      unfold tributarylaw07_long.f
      rw [if_neg (by omega), if_neg (by omega), decide_eq_false (by omega)]]
    rw [copy_eq a (by omega), copy_eq b (by omega), copyD_eq l (by omega)]
    refine ev_some (ev_neg (by decide) (ev_some (ev_some (ev_some ?_))))
    rw [of_eq l (by omega)]
    refine ev_some (Ev.bind (rof_ev l (by omega)) (Ev.bind (join_ev a b (by omega) (by omega)) (Ev.bind (rjoin_ev a b (by omega) (by omega)) (Ev.bind (minus_ev a b (by omega) (by omega)) (Ev.bind (rminus_ev a b (by omega) (by omega)) ?_)))))
    refine Ev.bind (same_self _ (ofV_len l)) (ev_pos rfl (ev_pos rfl ?_))
    refine Ev.bind (same_self _ (joinV_len a b)) (ev_pos rfl (ev_pos rfl ?_))
    refine Ev.bind (same_self _ (minusP_len a b)) (ev_pos rfl ?_)
    rw [beq_self_eq_true]
    refine Ev.step (fun _ => rfl) ?_
    simp only [tributarylaw07_PastSets.j0]
    refine ev_some (ev_some (Ev.bind (same_self a (by omega)) (ev_pos rfl (Ev.bind (same_self b (by omega)) (ev_pos rfl (Ev.bind (sameD_ev l (by omega)) ?_))))))
    refine Ev.step (fun _ => rfl) ?_
    have fin : Ev (fun k => (past_Check.f k a).bind fun t332 => ((tributaryref07_Check.f k a).bind fun t333 => (if t332 = t333 then ((past_Within.f k a b).bind fun t334 => ((tributaryref07_Within.f k a b).bind fun t335 => (if (t334 == t335) = true then ((tributarylaw07_awake.f k).bind fun t336 => (some t336)) else (some false)))) else (some false)))) true :=
      Ev.bind (check_ev a (by omega)) (Ev.bind (rcheck_ev a (by omega)) (ev_pos rfl (Ev.bind (within_ev a b (by omega) (by omega)) (Ev.bind (rwithin_ev a b (by omega) (by omega)) (ev_pos (by simp) (Ev.bind awake_ev (Ev.now _)))))))
    refine Ev.congr (fun k => ?_) fin
    show tributarylaw07_PastSets.j1 (k + 1) a b a b true true = _
    rw [tributarylaw07_PastSets.j1]
    rfl
end Go.Proofs.YtdelfhahbngcfaaX.P07
end
