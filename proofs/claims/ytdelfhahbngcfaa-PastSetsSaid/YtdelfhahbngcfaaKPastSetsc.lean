/- Words, walks and plain laws for the row, packed: each text in a section of its own. Conditions stand with each theorem. -/
import Derived.Deep.RegionLaw
import Derived.Deep.RegionHeld3
import Derived.Deep.Slices
import Derived.ChangeArms
import Derived.ChangeSlices
import Derived.OpenShut
import Derived.Test.YtdelfhahbngcfaaKPastSetsa
import Derived.Test.YtdelfhahbngcfaaKPastSetsb
section
namespace Go.Proofs.YtdelfhahbngcfaaX.P07
open Go.RowKit Go.Proofs.YtdelfhahbngcfaaW.PrintWords Go.Proofs.YtdelfhahbngcfaaW.PrintLast Go.Proofs.YtdelfhahbngcfaaW.PrintMore
attribute [local go_sem] max2_int min2_int max_two min_two max_three min_three max_four min_four   -- for this text's walks alone
set_option linter.unusedVariables false
set_option linter.unusedSimpArgs false
section
mutual
def tributaryref07_without.l0 : Nat → List (S60) → List (S60) → Int → Int → Int → Int → Option ((List (S60)))
  | 0, _, _, _, _, _, _ => none
  | k + 1, x0, x5, x6, x394000, x394001, x394002 => if x6 < (x0.length : Int) then (if 0 ≤ x6 then (if ((rd_T60 x0 x6).f0) = x394000 then (if ((rd_T60 x0 x6).f2) < x394001 then (tributaryref07_without.j1 k x0 x5 x6 true x394000 x394001 x394002 ((rd_T60 x0 x6).f0) ((rd_T60 x0 x6).f1) ((rd_T60 x0 x6).f2)) else (tributaryref07_without.j1 k x0 x5 x6 (decide (((rd_T60 x0 x6).f1) > x394002)) x394000 x394001 x394002 ((rd_T60 x0 x6).f0) ((rd_T60 x0 x6).f1) ((rd_T60 x0 x6).f2))) else (tributaryref07_without.j1 k x0 x5 x6 true x394000 x394001 x394002 ((rd_T60 x0 x6).f0) ((rd_T60 x0 x6).f1) ((rd_T60 x0 x6).f2))) else (none)) else (some x5)
def tributaryref07_without.j1 : Nat → List (S60) → List (S60) → Int → Bool → Int → Int → Int → Int → Int → Int → Option ((List (S60)))
  | 0, _, _, _, _, _, _, _, _, _, _ => none
  | k + 1, x0, x5, x6, x36, x394000, x394001, x394002, x396000, x396001, x396002 => if x36 = true then (if x5.length < 5864062014805 then (tributaryref07_without.l0 k x0 (x5 ++ [(⟨x396000, x396001, x396002⟩ : S60)]) (wrap64 (x6 + 1)) x394000 x394001 x394002) else (none)) else (if x396001 < x394001 then (if x5.length < 5864062014805 then ((some (x5 ++ [(⟨x396000, x396001, wrap64 (x394001 - 1)⟩ : S60)] : List (S60))).bind fun y399 => (if x396002 > x394002 then (if y399.length < 5864062014805 then (tributaryref07_without.l0 k x0 (y399 ++ [(⟨x396000, wrap64 (x394002 + 1), x396002⟩ : S60)]) (wrap64 (x6 + 1)) x394000 x394001 x394002) else (none)) else (tributaryref07_without.l0 k x0 y399 (wrap64 (x6 + 1)) x394000 x394001 x394002))) else (none)) else (if x396002 > x394002 then (if x5.length < 5864062014805 then (tributaryref07_without.l0 k x0 (x5 ++ [(⟨x396000, wrap64 (x394002 + 1), x396002⟩ : S60)]) (wrap64 (x6 + 1)) x394000 x394001 x394002) else (none)) else (tributaryref07_without.l0 k x0 x5 (wrap64 (x6 + 1)) x394000 x394001 x394002)))
end
def tributaryref07_without.f (k : Nat) (l0 : List (S60)) (a1_0 : Int) (a1_1 : Int) (a1_2 : Int) : Option ((List (S60))) := tributaryref07_without.l0 k l0 ([] : List (S60)) 0 a1_0 a1_1 a1_2
set_option maxHeartbeats 8000000 in
set_option maxRecDepth 100000 in
theorem tributaryref07_without.calls (k : Nat) (A0 : Option Addr) (c0 : Nat) (l0 : List (S60)) (a1_0 : Int) (a1_1 : Int) (a1_2 : Int) (r : List (S60)) (w : World) (hr0 : Kd.C k60 w A0 l0.length l0) (hc0 : l0.length ≤ c0) (h : tributaryref07_without.f k l0 a1_0 a1_1 a1_2 = some r) :
    Calls Try.prog 64 #[.slice A0 l0.length c0, .agg #[.int .i64 a1_0, .int .i64 a1_1, .int .i64 a1_2]] w fun e w' => ∃ v0_ : Value, e = .returned (v0_) ∧ Kd.R k60 60 w' w.heap.size (fun _ => True) v0_ r ∧ Below w.heap.size w w' := by
  have hu60 := Try.underlying60
  have HR0 := Aside0.mk hr0
  have HC0 := Aside0.mk hc0
  clear hr0 hc0
  have HB := Aside0.mk (Below.refl w.heap.size w)
  have H : (tributaryref07_without.l0 k l0 ([] : List (S60)) 0 a1_0 a1_1 a1_2) = some r := h
  clear h
  have H' := Aside0.mk H
  clear H
  go_enter Try.func64, Try.ntmps64
  go_wp2_with (first | ((with_reducible refine gate_dst (N := 3) rfl ?_); refine box_event ?hg (N := 3) ?hd (cs := #[.int .i64 a1_0, .int .i64 a1_1, .int .i64 a1_2]) (t := 60) ?hr ?_; (case hd => rfl); (case hg => rfl); (case hr => first | (go_simp; done) | (go_simp; rfl)); intro gb393 hg w3 hbox hb; have n0_ := Aside0.mk (below_step (by repeat (first | (with_reducible first | exact HB.out | apply below_alloc | apply pw_below_drewN | apply below_drew1) | exact HB.out)) hb); have n1_ := Aside0.mk (hbox); have n2_ := Aside0.mk ((by rw [hg]; exact (below_size (by repeat (first | (with_reducible first | exact HB.out | apply below_alloc | apply pw_below_drewN | apply below_drew1) | exact HB.out))) : w.heap.size ≤ gb393)); have n3_ := Aside0.mk ((by rw [hg]; exact (below_size (by repeat (first | (with_reducible first | exact HB.out | apply below_alloc | apply pw_below_drewN | apply below_drew1) | exact HB.out))) : w.heap.size ≤ gb393)); clear HB; have HB := n0_; have BK393 := n1_; have GW393 := n2_; have GE393 := n3_; clear n0_ n1_ n2_ n3_; clear hb hbox hg))
  go_loopg [5, 6] k (fun kq v5 v6 w' => ∃ (x5_1 : List (S60)) (x6_1 : Int), v6 = .int .i64 x6_1 ∧ Aside0 (tributaryref07_without.l0 kq l0 x5_1 x6_1 a1_0 a1_1 a1_2 = some r) ∧ Aside0 (kq ≤ k) ∧ Aside0 (Kd.R k60 60 w' w.heap.size (fun k_ => k_ ≠ gb393) v5 x5_1) ∧ Aside0 (w'.heap[gb393]? = some (.cells #[.int .i64 a1_0, .int .i64 a1_1, .int .i64 a1_2] 60 (0, 0))) ∧ Aside0 (Below w.heap.size w w'))
  case atStart => exact ⟨(([] : List (S60))), (0), (by first | rfl | (simp; done) | (simp [*]; done)), H', ⟨Nat.le_refl _⟩, ⟨by first | exact Kd.R_nil _ _ _ _ _ | exact Kd.N_nil _ _ _ _ _ | exact Kd.V_nil _ _ _ _ _ | exact Kd.Q_nil _ _ _ _ _ | exact Kd.S_nil _ _ _ _ _⟩, ⟨by (with_reducible repeat (first | refine blk_drewN ?_ _ | refine blk_drew ?_ | refine blk_alloc ?_ _)); exact BK393.out⟩, ⟨by repeat (first | (with_reducible first | exact HB.out | apply below_alloc | apply pw_below_drewN | apply below_drew1 | refine below_set ?_ GE393.out) | exact HB.out)⟩⟩
  case round =>
    clear H'
    try clear p2
    obtain ⟨x5_1, x6_1, rfl, HA, HK1, HO_5, BK393, HB⟩ := hrel
    cases gk with
    | zero => exact absurd HA.out (by simp [tributaryref07_without.l0])
    | succ k1 =>
      have H := HA.out
      clear HA
      simp only [tributaryref07_without.l0] at H
      by_cases c4 : x6_1 < (l0.length : Int)
      · rw [if_pos c4] at H
        have c4b0 : decide (x6_1 < (l0.length : Int)) = true := decide_eq_true c4
        clear c4
        by_cases c5 : 0 ≤ x6_1
        · rw [if_pos c5] at H
          have c5b0 : decide (0 ≤ x6_1) = true := decide_eq_true c5
          clear c5
          have HC6 := Aside0.mk H
          clear H
          have p394 : 0 ≤ (x6_1 : Int) := of_decide_eq_true (by first | (with_reducible assumption) | assumption)
          have q394 : x6_1 < (l0.length : Int) := of_decide_eq_true (by first | (with_reducible assumption) | assumption)
          obtain ⟨ad394, e394, hx394_0, hx394_1, hx394_2⟩ := at_T60 HR0.out x6_1 p394 q394
          cases e394
          replace hx394_0 := (HB.out.cell (World.block_lt_of_cell? w _ hx394_0)).trans hx394_0
          replace hx394_1 := (HB.out.cell (World.block_lt_of_cell? w _ hx394_1)).trans hx394_1
          replace hx394_2 := (HB.out.cell (World.block_lt_of_cell? w _ hx394_2)).trans hx394_2
          replace p394 := eq_true p394
          replace q394 := eq_true q394
          go_upto_region 6 with (first | ((with_reducible refine gate_dst (N := 7) rfl ?_); refine box_event ?hg (N := 7) ?hd (cs := #[.int .i64 0, .int .i64 0, .int .i64 0]) (t := 60) ?hr ?_; (case hd => rfl); (case hg => rfl); (case hr => first | (go_simp; done) | (go_simp; rfl)); intro gb395 hg w7 hbox hb; have n0_ := Aside0.mk (Kd.R_below (Kd.R_elderB (by (with_reducible repeat (first | apply Kd.R_alloc | apply Kd.R_drewN | apply Kd.R_drew)); exact HO_5.out) gb395 (Nat.le_of_eq hg.symm)) hb); have n1_ := Aside0.mk (blk_below (g := gb393) (o := .cells #[.int .i64 a1_0, .int .i64 a1_1, .int .i64 a1_2] 60 (0, 0)) (by (with_reducible repeat (first | refine blk_drewN ?_ _ | refine blk_drew ?_ | refine blk_alloc ?_ _)); exact BK393.out) hb); have n2_ := Aside0.mk (below_step (by repeat (first | (with_reducible first | exact HB.out | apply below_alloc | apply pw_below_drewN | apply below_drew1 | refine below_set ?_ GE393.out) | exact HB.out)) hb); have n3_ := Aside0.mk (hbox); have n4_ := Aside0.mk ((by rw [hg]; exact (below_size (by repeat (first | (with_reducible first | exact HB.out | apply below_alloc | apply pw_below_drewN | apply below_drew1 | refine below_set ?_ GE393.out) | exact HB.out))) : w.heap.size ≤ gb395)); have n5_ := Aside0.mk ((by rw [hg]; exact (below_size (by repeat (first | (with_reducible first | exact HB.out | apply below_alloc | apply pw_below_drewN | apply below_drew1 | refine below_set ?_ GE393.out) | exact HB.out))) : w.heap.size ≤ gb395)); have n6_ := Aside0.mk ((by rw [hg]; exact Nat.ne_of_lt (blk_lt (g := gb393) (o := .cells #[.int .i64 a1_0, .int .i64 a1_1, .int .i64 a1_2] 60 (0, 0)) (by (with_reducible repeat (first | refine blk_drewN ?_ _ | refine blk_drew ?_ | refine blk_alloc ?_ _)); exact BK393.out)) : gb393 ≠ gb395)); have n7_ := Aside0.mk ((by rw [hg]; exact Nat.ne_of_gt (blk_lt (g := gb393) (o := .cells #[.int .i64 a1_0, .int .i64 a1_1, .int .i64 a1_2] 60 (0, 0)) (by (with_reducible repeat (first | refine blk_drewN ?_ _ | refine blk_drew ?_ | refine blk_alloc ?_ _)); exact BK393.out)) : gb395 ≠ gb393)); clear HO_5; clear BK393; clear HB; have HO_5 := n0_; have BK393 := n1_; have HB := n2_; have BK395 := n3_; have GW395 := n4_; have GE395 := n5_; have NB393_395 := n6_; have NB395_393 := n7_; clear n0_ n1_ n2_ n3_ n4_ n5_ n6_ n7_; clear hb hbox hg; have hnb8 := NB395_393.out; have hnc8 := NB393_395.out; have hcz9_0 : w7.cell? ⟨gb395, 0, none⟩ = some (.int .i64 0) := (YtdelfhahbngcfaaW.PrintWords.blk_cell BK395.out 0).trans rfl; have hcz9_1 : w7.cell? ⟨gb395, 1, none⟩ = some (.int .i64 0) := (YtdelfhahbngcfaaW.PrintWords.blk_cell BK395.out 1).trans rfl; have hcz9_2 : w7.cell? ⟨gb395, 2, none⟩ = some (.int .i64 0) := (YtdelfhahbngcfaaW.PrintWords.blk_cell BK395.out 2).trans rfl; have hfz9_0 := blk_frozen BK395.out 0; have hfz9_1 := blk_frozen BK395.out 1; have hfz9_2 := blk_frozen BK395.out 2))
          (try simp only [Act.put, List.setIfInBounds_toArray, List.set_cons_zero, List.set_cons_succ])
          go_cut [36] (fun v36 wc => ∃ (kq : Nat) (x36_5 : Bool), v36 = .bool x36_5 ∧ Aside0 (tributaryref07_without.j1 kq l0 x5_1 x6_1 x36_5 a1_0 a1_1 a1_2 ((rd_T60 l0 x6_1).f0) ((rd_T60 l0 x6_1).f1) ((rd_T60 l0 x6_1).f2) = some r) ∧ Aside0 (kq ≤ k1) ∧ Aside0 (Kd.R k60 60 wc w.heap.size (fun k_ => k_ ≠ gb393 ∧ k_ ≠ gb395) u5 x5_1) ∧ Aside0 (wc.heap[gb393]? = some (.cells #[.int .i64 a1_0, .int .i64 a1_1, .int .i64 a1_2] 60 (0, 0))) ∧ Aside0 (wc.heap[gb395]? = some (.cells #[.int .i64 ((rd_T60 l0 x6_1).f0), .int .i64 ((rd_T60 l0 x6_1).f1), .int .i64 ((rd_T60 l0 x6_1).f2)] 60 (0, 0))) ∧ Aside0 (Below w.heap.size w wc))
          case first =>
            have H := HC6.out
            clear HC6
            by_cases c10 : ((rd_T60 l0 x6_1).f0) = a1_0
            · rw [if_pos c10] at H
              have c10b0 : (((rd_T60 l0 x6_1).f0) == a1_0) = true := beq_iff_eq.mpr c10
              have c10b1 : (((rd_T60 l0 x6_1).f0) != a1_0) = false := bne_eq_false_iff_eq.mpr c10
              clear c10
              (first | rw [c10b0] | (simp only [i64_w, i32_w]; rw [c10b0]) | skip)
              by_cases c11 : ((rd_T60 l0 x6_1).f2) < a1_1
              · rw [if_pos c11] at H
                have c11b0 : decide (((rd_T60 l0 x6_1).f2) < a1_1) = true := decide_eq_true c11
                clear c11
                have H' := Aside0.mk H
                clear H
                have hnb12 := NB395_393.out
                have hnc12 := NB393_395.out
                have hcz13_0 : w7.cell? ⟨gb395, 0, none⟩ = some (.int .i64 0) := (YtdelfhahbngcfaaW.PrintWords.blk_cell BK395.out 0).trans rfl
                have hcz13_1 : w7.cell? ⟨gb395, 1, none⟩ = some (.int .i64 0) := (YtdelfhahbngcfaaW.PrintWords.blk_cell BK395.out 1).trans rfl
                have hcz13_2 : w7.cell? ⟨gb395, 2, none⟩ = some (.int .i64 0) := (YtdelfhahbngcfaaW.PrintWords.blk_cell BK395.out 2).trans rfl
                have hfz13_0 := blk_frozen BK395.out 0
                have hfz13_1 := blk_frozen BK395.out 1
                have hfz13_2 := blk_frozen BK395.out 2
                have hcz14_0 : w7.cell? ⟨gb393, 0, none⟩ = some (.int .i64 a1_0) := (YtdelfhahbngcfaaW.PrintWords.blk_cell BK393.out 0).trans rfl
                have hcz14_1 : w7.cell? ⟨gb393, 1, none⟩ = some (.int .i64 a1_1) := (YtdelfhahbngcfaaW.PrintWords.blk_cell BK393.out 1).trans rfl
                have hcz14_2 : w7.cell? ⟨gb393, 2, none⟩ = some (.int .i64 a1_2) := (YtdelfhahbngcfaaW.PrintWords.blk_cell BK393.out 2).trans rfl
                have hfz14_0 := blk_frozen BK393.out 0
                have hfz14_1 := blk_frozen BK393.out 1
                have hfz14_2 := blk_frozen BK393.out 2
                go_wp2
                go_meet
                case rel => exact ⟨_, (true), (by first | rfl | (simp; done) | (simp [*]; done)), H', ⟨by have := HK1.out; first | omega | exact Nat.le_refl _⟩, ⟨by (with_reducible repeat (first | apply Kd.R_alloc | apply Kd.R_drewN | apply Kd.R_drew)); exact Kd.R_mono (Kd.R_far (p := ⟨gb395, 2, none⟩) (Kd.R_far (p := ⟨gb395, 1, none⟩) (Kd.R_far (p := ⟨gb395, 0, none⟩) (Kd.R_mono HO_5.out (fun k_ hk => (⟨hk, hk.2⟩ : _ ∧ k_ ≠ gb395))) (fun _ hk => hk.2) (.int .i64 ((rd_T60 l0 x6_1).f0))) (fun _ hk => hk.2) (.int .i64 ((rd_T60 l0 x6_1).f1))) (fun _ hk => hk.2) (.int .i64 ((rd_T60 l0 x6_1).f2))) (fun _ hk => ⟨hk.1.1, hk.1.2⟩)⟩, ⟨by (with_reducible repeat (first | refine blk_drewN ?_ _ | refine blk_drew ?_ | refine blk_alloc ?_ _)); refine blk_far ?_ NB393_395.out _; (with_reducible repeat (first | refine blk_drewN ?_ _ | refine blk_drew ?_ | refine blk_alloc ?_ _)); refine blk_far ?_ NB393_395.out _; (with_reducible repeat (first | refine blk_drewN ?_ _ | refine blk_drew ?_ | refine blk_alloc ?_ _)); refine blk_far ?_ NB393_395.out _; (with_reducible repeat (first | refine blk_drewN ?_ _ | refine blk_drew ?_ | refine blk_alloc ?_ _)); exact BK393.out⟩, ⟨by (with_reducible repeat (first | refine blk_drewN ?_ _ | refine blk_drew ?_ | refine blk_alloc ?_ _)); refine blk_put (cs := #[.int .i64 ((rd_T60 l0 x6_1).f0), .int .i64 ((rd_T60 l0 x6_1).f1), .int .i64 0]) ?_ 2 _ rfl; (with_reducible repeat (first | refine blk_drewN ?_ _ | refine blk_drew ?_ | refine blk_alloc ?_ _)); refine blk_put (cs := #[.int .i64 ((rd_T60 l0 x6_1).f0), .int .i64 0, .int .i64 0]) ?_ 1 _ rfl; (with_reducible repeat (first | refine blk_drewN ?_ _ | refine blk_drew ?_ | refine blk_alloc ?_ _)); refine blk_put (cs := #[.int .i64 0, .int .i64 0, .int .i64 0]) ?_ 0 _ rfl; (with_reducible repeat (first | refine blk_drewN ?_ _ | refine blk_drew ?_ | refine blk_alloc ?_ _)); exact BK395.out⟩, ⟨by repeat (first | (with_reducible first | exact HB.out | apply below_alloc | apply pw_below_drewN | apply below_drew1 | refine below_set ?_ GE393.out | refine below_set ?_ GE395.out) | exact HB.out)⟩⟩
              · rw [if_neg c11] at H
                have c11b0 : decide (((rd_T60 l0 x6_1).f2) < a1_1) = false := decide_eq_false c11
                clear c11
                have H' := Aside0.mk H
                clear H
                have hnb15 := NB395_393.out
                have hnc15 := NB393_395.out
                have hcz16_0 : w7.cell? ⟨gb395, 0, none⟩ = some (.int .i64 0) := (YtdelfhahbngcfaaW.PrintWords.blk_cell BK395.out 0).trans rfl
                have hcz16_1 : w7.cell? ⟨gb395, 1, none⟩ = some (.int .i64 0) := (YtdelfhahbngcfaaW.PrintWords.blk_cell BK395.out 1).trans rfl
                have hcz16_2 : w7.cell? ⟨gb395, 2, none⟩ = some (.int .i64 0) := (YtdelfhahbngcfaaW.PrintWords.blk_cell BK395.out 2).trans rfl
                have hfz16_0 := blk_frozen BK395.out 0
                have hfz16_1 := blk_frozen BK395.out 1
                have hfz16_2 := blk_frozen BK395.out 2
                have hcz17_0 : w7.cell? ⟨gb393, 0, none⟩ = some (.int .i64 a1_0) := (YtdelfhahbngcfaaW.PrintWords.blk_cell BK393.out 0).trans rfl
                have hcz17_1 : w7.cell? ⟨gb393, 1, none⟩ = some (.int .i64 a1_1) := (YtdelfhahbngcfaaW.PrintWords.blk_cell BK393.out 1).trans rfl
                have hcz17_2 : w7.cell? ⟨gb393, 2, none⟩ = some (.int .i64 a1_2) := (YtdelfhahbngcfaaW.PrintWords.blk_cell BK393.out 2).trans rfl
                have hfz17_0 := blk_frozen BK393.out 0
                have hfz17_1 := blk_frozen BK393.out 1
                have hfz17_2 := blk_frozen BK393.out 2
                go_wp2
                go_meet
                case rel => exact ⟨_, (decide (((rd_T60 l0 x6_1).f1) > a1_2)), (by first | rfl | (simp; done) | (simp [*]; done)), H', ⟨by have := HK1.out; first | omega | exact Nat.le_refl _⟩, ⟨by (with_reducible repeat (first | apply Kd.R_alloc | apply Kd.R_drewN | apply Kd.R_drew)); exact Kd.R_mono (Kd.R_far (p := ⟨gb395, 2, none⟩) (Kd.R_far (p := ⟨gb395, 1, none⟩) (Kd.R_far (p := ⟨gb395, 0, none⟩) (Kd.R_mono HO_5.out (fun k_ hk => (⟨hk, hk.2⟩ : _ ∧ k_ ≠ gb395))) (fun _ hk => hk.2) (.int .i64 ((rd_T60 l0 x6_1).f0))) (fun _ hk => hk.2) (.int .i64 ((rd_T60 l0 x6_1).f1))) (fun _ hk => hk.2) (.int .i64 ((rd_T60 l0 x6_1).f2))) (fun _ hk => ⟨hk.1.1, hk.1.2⟩)⟩, ⟨by (with_reducible repeat (first | refine blk_drewN ?_ _ | refine blk_drew ?_ | refine blk_alloc ?_ _)); refine blk_far ?_ NB393_395.out _; (with_reducible repeat (first | refine blk_drewN ?_ _ | refine blk_drew ?_ | refine blk_alloc ?_ _)); refine blk_far ?_ NB393_395.out _; (with_reducible repeat (first | refine blk_drewN ?_ _ | refine blk_drew ?_ | refine blk_alloc ?_ _)); refine blk_far ?_ NB393_395.out _; (with_reducible repeat (first | refine blk_drewN ?_ _ | refine blk_drew ?_ | refine blk_alloc ?_ _)); exact BK393.out⟩, ⟨by (with_reducible repeat (first | refine blk_drewN ?_ _ | refine blk_drew ?_ | refine blk_alloc ?_ _)); refine blk_put (cs := #[.int .i64 ((rd_T60 l0 x6_1).f0), .int .i64 ((rd_T60 l0 x6_1).f1), .int .i64 0]) ?_ 2 _ rfl; (with_reducible repeat (first | refine blk_drewN ?_ _ | refine blk_drew ?_ | refine blk_alloc ?_ _)); refine blk_put (cs := #[.int .i64 ((rd_T60 l0 x6_1).f0), .int .i64 0, .int .i64 0]) ?_ 1 _ rfl; (with_reducible repeat (first | refine blk_drewN ?_ _ | refine blk_drew ?_ | refine blk_alloc ?_ _)); refine blk_put (cs := #[.int .i64 0, .int .i64 0, .int .i64 0]) ?_ 0 _ rfl; (with_reducible repeat (first | refine blk_drewN ?_ _ | refine blk_drew ?_ | refine blk_alloc ?_ _)); exact BK395.out⟩, ⟨by repeat (first | (with_reducible first | exact HB.out | apply below_alloc | apply pw_below_drewN | apply below_drew1 | refine below_set ?_ GE393.out | refine below_set ?_ GE395.out) | exact HB.out)⟩⟩
            · rw [if_neg c10] at H
              have c10b0 : (((rd_T60 l0 x6_1).f0) == a1_0) = false := beq_eq_false_iff_ne.mpr c10
              have c10b1 : (((rd_T60 l0 x6_1).f0) != a1_0) = true := bne_iff_ne.mpr c10
              (first | rw [c10b0] | (simp only [i64_w, i32_w]; rw [c10b0]) | skip)
              have H' := Aside0.mk H
              clear H
              have hnb18 := NB395_393.out
              have hnc18 := NB393_395.out
              have hcz19_0 : w7.cell? ⟨gb395, 0, none⟩ = some (.int .i64 0) := (YtdelfhahbngcfaaW.PrintWords.blk_cell BK395.out 0).trans rfl
              have hcz19_1 : w7.cell? ⟨gb395, 1, none⟩ = some (.int .i64 0) := (YtdelfhahbngcfaaW.PrintWords.blk_cell BK395.out 1).trans rfl
              have hcz19_2 : w7.cell? ⟨gb395, 2, none⟩ = some (.int .i64 0) := (YtdelfhahbngcfaaW.PrintWords.blk_cell BK395.out 2).trans rfl
              have hfz19_0 := blk_frozen BK395.out 0
              have hfz19_1 := blk_frozen BK395.out 1
              have hfz19_2 := blk_frozen BK395.out 2
              have hcz20_0 : w7.cell? ⟨gb393, 0, none⟩ = some (.int .i64 a1_0) := (YtdelfhahbngcfaaW.PrintWords.blk_cell BK393.out 0).trans rfl
              have hcz20_1 : w7.cell? ⟨gb393, 1, none⟩ = some (.int .i64 a1_1) := (YtdelfhahbngcfaaW.PrintWords.blk_cell BK393.out 1).trans rfl
              have hcz20_2 : w7.cell? ⟨gb393, 2, none⟩ = some (.int .i64 a1_2) := (YtdelfhahbngcfaaW.PrintWords.blk_cell BK393.out 2).trans rfl
              have hfz20_0 := blk_frozen BK393.out 0
              have hfz20_1 := blk_frozen BK393.out 1
              have hfz20_2 := blk_frozen BK393.out 2
              go_wp2
              go_meet
              case rel => exact ⟨_, (true), (by first | rfl | (simp; done) | (simp [*]; done)), H', ⟨by have := HK1.out; first | omega | exact Nat.le_refl _⟩, ⟨by (with_reducible repeat (first | apply Kd.R_alloc | apply Kd.R_drewN | apply Kd.R_drew)); exact Kd.R_mono (Kd.R_far (p := ⟨gb395, 2, none⟩) (Kd.R_far (p := ⟨gb395, 1, none⟩) (Kd.R_far (p := ⟨gb395, 0, none⟩) (Kd.R_mono HO_5.out (fun k_ hk => (⟨hk, hk.2⟩ : _ ∧ k_ ≠ gb395))) (fun _ hk => hk.2) (.int .i64 ((rd_T60 l0 x6_1).f0))) (fun _ hk => hk.2) (.int .i64 ((rd_T60 l0 x6_1).f1))) (fun _ hk => hk.2) (.int .i64 ((rd_T60 l0 x6_1).f2))) (fun _ hk => ⟨hk.1.1, hk.1.2⟩)⟩, ⟨by (with_reducible repeat (first | refine blk_drewN ?_ _ | refine blk_drew ?_ | refine blk_alloc ?_ _)); refine blk_far ?_ NB393_395.out _; (with_reducible repeat (first | refine blk_drewN ?_ _ | refine blk_drew ?_ | refine blk_alloc ?_ _)); refine blk_far ?_ NB393_395.out _; (with_reducible repeat (first | refine blk_drewN ?_ _ | refine blk_drew ?_ | refine blk_alloc ?_ _)); refine blk_far ?_ NB393_395.out _; (with_reducible repeat (first | refine blk_drewN ?_ _ | refine blk_drew ?_ | refine blk_alloc ?_ _)); exact BK393.out⟩, ⟨by (with_reducible repeat (first | refine blk_drewN ?_ _ | refine blk_drew ?_ | refine blk_alloc ?_ _)); refine blk_put (cs := #[.int .i64 ((rd_T60 l0 x6_1).f0), .int .i64 ((rd_T60 l0 x6_1).f1), .int .i64 0]) ?_ 2 _ rfl; (with_reducible repeat (first | refine blk_drewN ?_ _ | refine blk_drew ?_ | refine blk_alloc ?_ _)); refine blk_put (cs := #[.int .i64 ((rd_T60 l0 x6_1).f0), .int .i64 0, .int .i64 0]) ?_ 1 _ rfl; (with_reducible repeat (first | refine blk_drewN ?_ _ | refine blk_drew ?_ | refine blk_alloc ?_ _)); refine blk_put (cs := #[.int .i64 0, .int .i64 0, .int .i64 0]) ?_ 0 _ rfl; (with_reducible repeat (first | refine blk_drewN ?_ _ | refine blk_drew ?_ | refine blk_alloc ?_ _)); exact BK395.out⟩, ⟨by repeat (first | (with_reducible first | exact HB.out | apply below_alloc | apply pw_below_drewN | apply below_drew1 | refine below_set ?_ GE393.out | refine below_set ?_ GE395.out) | exact HB.out)⟩⟩
          case rest =>
            clear HC6
            try clear c1
            try clear p2
            try clear p3
            try clear q3
            try clear hx3
            try clear c4
            try clear c4b0
            try clear c5
            try clear c5b0
            try clear c6
            try clear c8
            try clear c10
            try clear c10b0
            try clear c10b1
            try clear c11
            try clear c11b0
            try clear c12
            try clear c15
            try clear c18
            try clear hcz13_0
            try clear hcz13_1
            try clear hcz13_2
            try clear hcz14_0
            try clear hcz14_1
            try clear hcz14_2
            try clear hcz16_0
            try clear hcz16_1
            try clear hcz16_2
            try clear hcz17_0
            try clear hcz17_1
            try clear hcz17_2
            try clear hcz19_0
            try clear hcz19_1
            try clear hcz19_2
            try clear hcz20_0
            try clear hcz20_1
            try clear hcz20_2
            try clear hcz9_0
            try clear hcz9_1
            try clear hcz9_2
            try clear hfz13_0
            try clear hfz13_1
            try clear hfz13_2
            try clear hfz14_0
            try clear hfz14_1
            try clear hfz14_2
            try clear hfz16_0
            try clear hfz16_1
            try clear hfz16_2
            try clear hfz17_0
            try clear hfz17_1
            try clear hfz17_2
            try clear hfz19_0
            try clear hfz19_1
            try clear hfz19_2
            try clear hfz20_0
            try clear hfz20_1
            try clear hfz20_2
            try clear hfz9_0
            try clear hfz9_1
            try clear hfz9_2
            try clear hx394_0
            try clear hx394_1
            try clear hx394_2
            try clear p2
            try clear p394
            try clear q394
            obtain ⟨kq, x36_5, rfl, HA, HJ5, HO_5, BK393, BK395, HB⟩ := hcut
            cases kq with
            | zero => exact absurd HA.out (by simp [tributaryref07_without.j1])
            | succ kj5 =>
              have H := HA.out
              clear HA
              simp only [tributaryref07_without.j1] at H
              by_cases c21 : x36_5 = true
              · subst c21
                have H1 : (if x5_1.length < 5864062014805 then (tributaryref07_without.l0 kj5 l0 (x5_1 ++ [(⟨((rd_T60 l0 x6_1).f0), ((rd_T60 l0 x6_1).f1), ((rd_T60 l0 x6_1).f2)⟩ : S60)]) (wrap64 (x6_1 + 1)) a1_0 a1_1 a1_2) else (none)) = some r := by rw [if_pos rfl] at H; exact H
                clear H
                have H := H1
                clear H1
                by_cases c22 : x5_1.length < 5864062014805
                · rw [if_pos c22] at H
                  have LMc22 := Aside0.mk c22
                  clear c22
                  obtain ⟨y396, hy396⟩ : ∃ y_ : List (S60), y_ = (x5_1 ++ [(⟨((rd_T60 l0 x6_1).f0), ((rd_T60 l0 x6_1).f1), ((rd_T60 l0 x6_1).f2)⟩ : S60)]) := ⟨_, rfl⟩
                  replace H : (tributaryref07_without.l0 kj5 l0 y396 (wrap64 (x6_1 + 1)) a1_0 a1_1 a1_2) = some r := by first | (rw [hy396]; with_reducible exact H) | (have H2_ := (Option.bind_some _ _).symm.trans H; rw [hy396]; with_reducible exact H2_) | (have H2_ := (Option.bind_some _ _).symm.trans H; with_reducible exact H2_) | with_reducible exact H | (rw [hy396]; exact H) | exact H
                  have Ny396 := Aside0.mk hy396
                  clear hy396
                  have H' := Aside0.mk H
                  clear H
                  have hnb23 := NB395_393.out
                  have hnc23 := NB393_395.out
                  have hcz24_0 : wc.cell? ⟨gb395, 0, none⟩ = some (.int .i64 ((rd_T60 l0 x6_1).f0)) := (YtdelfhahbngcfaaW.PrintWords.blk_cell BK395.out 0).trans rfl
                  have hcz24_1 : wc.cell? ⟨gb395, 1, none⟩ = some (.int .i64 ((rd_T60 l0 x6_1).f1)) := (YtdelfhahbngcfaaW.PrintWords.blk_cell BK395.out 1).trans rfl
                  have hcz24_2 : wc.cell? ⟨gb395, 2, none⟩ = some (.int .i64 ((rd_T60 l0 x6_1).f2)) := (YtdelfhahbngcfaaW.PrintWords.blk_cell BK395.out 2).trans rfl
                  have hfz24_0 := blk_frozen BK395.out 0
                  have hfz24_1 := blk_frozen BK395.out 1
                  have hfz24_2 := blk_frozen BK395.out 2
                  go_wp2_with (first | ((with_reducible refine gate_builtin (b := .append) (xs := #[.tmp 37, .tmp 39]) rfl ?_); at_builtin; refine Kd.R_append k60 (w0 := w) w.heap.size rfl (.tmp 37) (.tmp 39) 22 60 (.agg #[(.int .i64 0), (.int .i64 0), (.int .i64 0)]) 24 rfl Try.underlying22 info60 rfl (by decide) (by omega) u5 x5_1 (⟨((rd_T60 l0 x6_1).f0), ((rd_T60 l0 x6_1).f1), ((rd_T60 l0 x6_1).f2)⟩ : S60) [.int .i64 ((rd_T60 l0 x6_1).f0), .int .i64 ((rd_T60 l0 x6_1).f1), .int .i64 ((rd_T60 l0 x6_1).f2)] (fun k_ => k_ ≠ gb393 ∧ k_ ≠ gb395) (fun _ => False) rfl rfl ?aP (fun _ hk => hk.elim) ?aF ?aO ?aB ?aS ?aL ?_; (case aP => exact k60_mkM _ _ _ (⟨((rd_T60 l0 x6_1).f0), ((rd_T60 l0 x6_1).f1), ((rd_T60 l0 x6_1).f2)⟩ : S60)); (case aB => exact (by repeat (first | (with_reducible first | exact HB.out | apply below_alloc | apply pw_below_drewN | apply below_drew1 | refine below_set ?_ GE393.out | refine below_set ?_ GE395.out) | exact HB.out))); (case aF => exact (fun k_ hk => ⟨Kd.freshB (g := gb393) (o := .cells #[.int .i64 a1_0, .int .i64 a1_1, .int .i64 a1_2] 60 (0, 0)) (by (with_reducible repeat (first | refine blk_drewN ?_ _ | refine blk_drew ?_ | refine blk_alloc ?_ _)); exact BK393.out) k_ hk, Kd.freshB (g := gb395) (o := .cells #[.int .i64 ((rd_T60 l0 x6_1).f0), .int .i64 ((rd_T60 l0 x6_1).f1), .int .i64 ((rd_T60 l0 x6_1).f2)] 60 (0, 0)) (by (with_reducible repeat (first | refine blk_drewN ?_ _ | refine blk_drew ?_ | refine blk_alloc ?_ _)); exact BK395.out) k_ hk⟩)); (case aO => exact (by (with_reducible repeat (first | apply Kd.R_alloc | apply Kd.R_drewN | apply Kd.R_drew)); exact HO_5.out)); (case aS => exact (below_size (by repeat (first | (with_reducible first | exact HB.out | apply below_alloc | apply pw_below_drewN | apply below_drew1 | refine below_set ?_ GE393.out | refine below_set ?_ GE395.out) | exact HB.out)))); (case aL => have := LMc22.out; omega); intro v397 w25 ho hb hg hat; rw [← Ny396.out] at ho; have n0_ := Aside0.mk (blk_grown (g := gb393) (o := .cells #[.int .i64 a1_0, .int .i64 a1_1, .int .i64 a1_2] 60 (0, 0)) (by (with_reducible repeat (first | refine blk_drewN ?_ _ | refine blk_drew ?_ | refine blk_alloc ?_ _)); exact BK393.out) hg (Kd.R_away HO_5.out (fun _ hk => hk.1))); have n1_ := Aside0.mk (blk_grown (g := gb395) (o := .cells #[.int .i64 ((rd_T60 l0 x6_1).f0), .int .i64 ((rd_T60 l0 x6_1).f1), .int .i64 ((rd_T60 l0 x6_1).f2)] 60 (0, 0)) (by (with_reducible repeat (first | refine blk_drewN ?_ _ | refine blk_drew ?_ | refine blk_alloc ?_ _)); exact BK395.out) hg (Kd.R_away HO_5.out (fun _ hk => hk.2))); have n2_ := Aside0.mk (hb); have n3_ := Aside0.mk (ho); clear BK393; clear BK395; clear HB; clear HO_5; have BK393 := n0_; have BK395 := n1_; have HB := n2_; have HO398 := n3_; clear n0_ n1_ n2_ n3_; clear ho hb hg hat))
                  go_roundg kj5
                  case measure => have := HK1.out; have := HJ5.out; omega
                  case rel => exact ⟨(y396), (wrap64 (x6_1 + 1)), (by first | rfl | (simp; done) | (simp [*]; done)), H', ⟨by have := HK1.out; have := HJ5.out; omega⟩, ⟨by (with_reducible repeat (first | apply Kd.R_alloc | apply Kd.R_drewN | apply Kd.R_drew)); exact Kd.R_mono HO398.out (fun _ hk => hk.1)⟩, ⟨by (with_reducible repeat (first | refine blk_drewN ?_ _ | refine blk_drew ?_ | refine blk_alloc ?_ _)); exact BK393.out⟩, ⟨by repeat (first | (with_reducible first | exact HB.out | apply below_alloc | apply pw_below_drewN | apply below_drew1 | refine below_set ?_ GE393.out | refine below_set ?_ GE395.out) | exact HB.out)⟩⟩
                · rw [if_neg c22] at H
                  exact absurd H (by simp)
              · replace c21 := Bool.eq_false_iff.mpr c21
                subst c21
                have H1 : (if ((rd_T60 l0 x6_1).f1) < a1_1 then (if x5_1.length < 5864062014805 then ((some (x5_1 ++ [(⟨((rd_T60 l0 x6_1).f0), ((rd_T60 l0 x6_1).f1), wrap64 (a1_1 - 1)⟩ : S60)] : List (S60))).bind fun y399 => (if ((rd_T60 l0 x6_1).f2) > a1_2 then (if y399.length < 5864062014805 then (tributaryref07_without.l0 kj5 l0 (y399 ++ [(⟨((rd_T60 l0 x6_1).f0), wrap64 (a1_2 + 1), ((rd_T60 l0 x6_1).f2)⟩ : S60)]) (wrap64 (x6_1 + 1)) a1_0 a1_1 a1_2) else (none)) else (tributaryref07_without.l0 kj5 l0 y399 (wrap64 (x6_1 + 1)) a1_0 a1_1 a1_2))) else (none)) else (if ((rd_T60 l0 x6_1).f2) > a1_2 then (if x5_1.length < 5864062014805 then (tributaryref07_without.l0 kj5 l0 (x5_1 ++ [(⟨((rd_T60 l0 x6_1).f0), wrap64 (a1_2 + 1), ((rd_T60 l0 x6_1).f2)⟩ : S60)]) (wrap64 (x6_1 + 1)) a1_0 a1_1 a1_2) else (none)) else (tributaryref07_without.l0 kj5 l0 x5_1 (wrap64 (x6_1 + 1)) a1_0 a1_1 a1_2))) = some r := by rw [if_neg (show ¬ (false = true) by decide)] at H; exact H
                clear H
                have H := H1
                clear H1
                by_cases c26 : ((rd_T60 l0 x6_1).f1) < a1_1
                · rw [if_pos c26] at H
                  have c26b0 : decide (((rd_T60 l0 x6_1).f1) < a1_1) = true := decide_eq_true c26
                  clear c26
                  by_cases c27 : x5_1.length < 5864062014805
                  · rw [if_pos c27] at H
                    have LMc27 := Aside0.mk c27
                    clear c27
                    obtain ⟨y399, hy399⟩ : ∃ y_ : List (S60), y_ = (x5_1 ++ [(⟨((rd_T60 l0 x6_1).f0), ((rd_T60 l0 x6_1).f1), wrap64 (a1_1 - 1)⟩ : S60)]) := ⟨_, rfl⟩
                    replace H : (if ((rd_T60 l0 x6_1).f2) > a1_2 then (if y399.length < 5864062014805 then (tributaryref07_without.l0 kj5 l0 (y399 ++ [(⟨((rd_T60 l0 x6_1).f0), wrap64 (a1_2 + 1), ((rd_T60 l0 x6_1).f2)⟩ : S60)]) (wrap64 (x6_1 + 1)) a1_0 a1_1 a1_2) else (none)) else (tributaryref07_without.l0 kj5 l0 y399 (wrap64 (x6_1 + 1)) a1_0 a1_1 a1_2)) = some r := by first | (rw [hy399]; with_reducible exact H) | (have H2_ := (Option.bind_some _ _).symm.trans H; rw [hy399]; with_reducible exact H2_) | (have H2_ := (Option.bind_some _ _).symm.trans H; with_reducible exact H2_) | with_reducible exact H | (rw [hy399]; exact H) | exact H
                    have Ny399 := Aside0.mk hy399
                    clear hy399
                    by_cases c28 : ((rd_T60 l0 x6_1).f2) > a1_2
                    · rw [if_pos c28] at H
                      have c28b0 : decide (a1_2 < ((rd_T60 l0 x6_1).f2)) = true := decide_eq_true c28
                      clear c28
                      by_cases c29 : y399.length < 5864062014805
                      · rw [if_pos c29] at H
                        have LMc29 := Aside0.mk c29
                        clear c29
                        obtain ⟨y402, hy402⟩ : ∃ y_ : List (S60), y_ = (y399 ++ [(⟨((rd_T60 l0 x6_1).f0), wrap64 (a1_2 + 1), ((rd_T60 l0 x6_1).f2)⟩ : S60)]) := ⟨_, rfl⟩
                        replace H : (tributaryref07_without.l0 kj5 l0 y402 (wrap64 (x6_1 + 1)) a1_0 a1_1 a1_2) = some r := by first | (rw [hy402]; with_reducible exact H) | (have H2_ := (Option.bind_some _ _).symm.trans H; rw [hy402]; with_reducible exact H2_) | (have H2_ := (Option.bind_some _ _).symm.trans H; with_reducible exact H2_) | with_reducible exact H | (rw [hy402]; exact H) | exact H
                        have Ny402 := Aside0.mk hy402
                        clear hy402
                        have H' := Aside0.mk H
                        clear H
                        have hnb30 := NB395_393.out
                        have hnc30 := NB393_395.out
                        have hcz31_0 : wc.cell? ⟨gb395, 0, none⟩ = some (.int .i64 ((rd_T60 l0 x6_1).f0)) := (YtdelfhahbngcfaaW.PrintWords.blk_cell BK395.out 0).trans rfl
                        have hcz31_1 : wc.cell? ⟨gb395, 1, none⟩ = some (.int .i64 ((rd_T60 l0 x6_1).f1)) := (YtdelfhahbngcfaaW.PrintWords.blk_cell BK395.out 1).trans rfl
                        have hcz31_2 : wc.cell? ⟨gb395, 2, none⟩ = some (.int .i64 ((rd_T60 l0 x6_1).f2)) := (YtdelfhahbngcfaaW.PrintWords.blk_cell BK395.out 2).trans rfl
                        have hfz31_0 := blk_frozen BK395.out 0
                        have hfz31_1 := blk_frozen BK395.out 1
                        have hfz31_2 := blk_frozen BK395.out 2
                        have hcz32_0 : wc.cell? ⟨gb393, 0, none⟩ = some (.int .i64 a1_0) := (YtdelfhahbngcfaaW.PrintWords.blk_cell BK393.out 0).trans rfl
                        have hcz32_1 : wc.cell? ⟨gb393, 1, none⟩ = some (.int .i64 a1_1) := (YtdelfhahbngcfaaW.PrintWords.blk_cell BK393.out 1).trans rfl
                        have hcz32_2 : wc.cell? ⟨gb393, 2, none⟩ = some (.int .i64 a1_2) := (YtdelfhahbngcfaaW.PrintWords.blk_cell BK393.out 2).trans rfl
                        have hfz32_0 := blk_frozen BK393.out 0
                        have hfz32_1 := blk_frozen BK393.out 1
                        have hfz32_2 := blk_frozen BK393.out 2
                        go_wp2_with (first | ((with_reducible refine gate_builtin (b := .append) (xs := #[.tmp 46, .tmp 55]) rfl ?_); at_builtin; refine Kd.R_append k60 (w0 := w) w.heap.size rfl (.tmp 46) (.tmp 55) 22 60 (.agg #[(.int .i64 0), (.int .i64 0), (.int .i64 0)]) 24 rfl Try.underlying22 info60 rfl (by decide) (by omega) u5 x5_1 (⟨((rd_T60 l0 x6_1).f0), ((rd_T60 l0 x6_1).f1), wrap64 (a1_1 - 1)⟩ : S60) [.int .i64 ((rd_T60 l0 x6_1).f0), .int .i64 ((rd_T60 l0 x6_1).f1), .int .i64 (wrap64 (a1_1 - 1))] (fun k_ => k_ ≠ gb393 ∧ k_ ≠ gb395) (fun _ => False) rfl rfl ?aP (fun _ hk => hk.elim) ?aF ?aO ?aB ?aS ?aL ?_; (case aP => exact k60_mkM _ _ _ (⟨((rd_T60 l0 x6_1).f0), ((rd_T60 l0 x6_1).f1), wrap64 (a1_1 - 1)⟩ : S60)); (case aB => exact (by repeat (first | (with_reducible first | exact HB.out | apply below_alloc | apply pw_below_drewN | apply below_drew1 | refine below_set ?_ GE393.out | refine below_set ?_ GE395.out) | exact HB.out))); (case aF => exact (fun k_ hk => ⟨Kd.freshB (g := gb393) (o := .cells #[.int .i64 a1_0, .int .i64 a1_1, .int .i64 a1_2] 60 (0, 0)) (by (with_reducible repeat (first | refine blk_drewN ?_ _ | refine blk_drew ?_ | refine blk_alloc ?_ _)); exact BK393.out) k_ hk, Kd.freshB (g := gb395) (o := .cells #[.int .i64 ((rd_T60 l0 x6_1).f0), .int .i64 ((rd_T60 l0 x6_1).f1), .int .i64 ((rd_T60 l0 x6_1).f2)] 60 (0, 0)) (by (with_reducible repeat (first | refine blk_drewN ?_ _ | refine blk_drew ?_ | refine blk_alloc ?_ _)); exact BK395.out) k_ hk⟩)); (case aO => exact (by (with_reducible repeat (first | apply Kd.R_alloc | apply Kd.R_drewN | apply Kd.R_drew)); exact HO_5.out)); (case aS => exact (below_size (by repeat (first | (with_reducible first | exact HB.out | apply below_alloc | apply pw_below_drewN | apply below_drew1 | refine below_set ?_ GE393.out | refine below_set ?_ GE395.out) | exact HB.out)))); (case aL => have := LMc27.out; omega); intro v400 w33 ho hb hg hat; rw [← Ny399.out] at ho; have n0_ := Aside0.mk (blk_grown (g := gb393) (o := .cells #[.int .i64 a1_0, .int .i64 a1_1, .int .i64 a1_2] 60 (0, 0)) (by (with_reducible repeat (first | refine blk_drewN ?_ _ | refine blk_drew ?_ | refine blk_alloc ?_ _)); exact BK393.out) hg (Kd.R_away HO_5.out (fun _ hk => hk.1))); have n1_ := Aside0.mk (blk_grown (g := gb395) (o := .cells #[.int .i64 ((rd_T60 l0 x6_1).f0), .int .i64 ((rd_T60 l0 x6_1).f1), .int .i64 ((rd_T60 l0 x6_1).f2)] 60 (0, 0)) (by (with_reducible repeat (first | refine blk_drewN ?_ _ | refine blk_drew ?_ | refine blk_alloc ?_ _)); exact BK395.out) hg (Kd.R_away HO_5.out (fun _ hk => hk.2))); have n2_ := Aside0.mk (hb); have n3_ := Aside0.mk (ho); clear BK393; clear BK395; clear HB; clear HO_5; have BK393 := n0_; have BK395 := n1_; have HB := n2_; have HO401 := n3_; clear n0_ n1_ n2_ n3_; clear ho hb hg hat; have hcz34_0 : w33.cell? ⟨gb395, 0, none⟩ = some (.int .i64 ((rd_T60 l0 x6_1).f0)) := (YtdelfhahbngcfaaW.PrintWords.blk_cell BK395.out 0).trans rfl; have hcz34_1 : w33.cell? ⟨gb395, 1, none⟩ = some (.int .i64 ((rd_T60 l0 x6_1).f1)) := (YtdelfhahbngcfaaW.PrintWords.blk_cell BK395.out 1).trans rfl; have hcz34_2 : w33.cell? ⟨gb395, 2, none⟩ = some (.int .i64 ((rd_T60 l0 x6_1).f2)) := (YtdelfhahbngcfaaW.PrintWords.blk_cell BK395.out 2).trans rfl; have hfz34_0 := blk_frozen BK395.out 0; have hfz34_1 := blk_frozen BK395.out 1; have hfz34_2 := blk_frozen BK395.out 2; have hcz35_0 : w33.cell? ⟨gb393, 0, none⟩ = some (.int .i64 a1_0) := (YtdelfhahbngcfaaW.PrintWords.blk_cell BK393.out 0).trans rfl; have hcz35_1 : w33.cell? ⟨gb393, 1, none⟩ = some (.int .i64 a1_1) := (YtdelfhahbngcfaaW.PrintWords.blk_cell BK393.out 1).trans rfl; have hcz35_2 : w33.cell? ⟨gb393, 2, none⟩ = some (.int .i64 a1_2) := (YtdelfhahbngcfaaW.PrintWords.blk_cell BK393.out 2).trans rfl; have hfz35_0 := blk_frozen BK393.out 0; have hfz35_1 := blk_frozen BK393.out 1; have hfz35_2 := blk_frozen BK393.out 2) | ((with_reducible refine gate_builtin (b := .append) (xs := #[.tmp 62, .tmp 71]) rfl ?_); at_builtin; refine Kd.R_append k60 (w0 := w) w.heap.size rfl (.tmp 62) (.tmp 71) 22 60 (.agg #[(.int .i64 0), (.int .i64 0), (.int .i64 0)]) 24 rfl Try.underlying22 info60 rfl (by decide) (by omega) v400 y399 (⟨((rd_T60 l0 x6_1).f0), wrap64 (a1_2 + 1), ((rd_T60 l0 x6_1).f2)⟩ : S60) [.int .i64 ((rd_T60 l0 x6_1).f0), .int .i64 (wrap64 (a1_2 + 1)), .int .i64 ((rd_T60 l0 x6_1).f2)] (fun k_ => k_ ≠ gb393 ∧ k_ ≠ gb395) (fun _ => False) rfl rfl ?aP (fun _ hk => hk.elim) ?aF ?aO ?aB ?aS ?aL ?_; (case aP => exact k60_mkM _ _ _ (⟨((rd_T60 l0 x6_1).f0), wrap64 (a1_2 + 1), ((rd_T60 l0 x6_1).f2)⟩ : S60)); (case aB => exact (by repeat (first | (with_reducible first | exact HB.out | apply below_alloc | apply pw_below_drewN | apply below_drew1 | refine below_set ?_ GE393.out | refine below_set ?_ GE395.out) | exact HB.out))); (case aF => exact (fun k_ hk => ⟨Kd.freshB (g := gb393) (o := .cells #[.int .i64 a1_0, .int .i64 a1_1, .int .i64 a1_2] 60 (0, 0)) (by (with_reducible repeat (first | refine blk_drewN ?_ _ | refine blk_drew ?_ | refine blk_alloc ?_ _)); exact BK393.out) k_ hk, Kd.freshB (g := gb395) (o := .cells #[.int .i64 ((rd_T60 l0 x6_1).f0), .int .i64 ((rd_T60 l0 x6_1).f1), .int .i64 ((rd_T60 l0 x6_1).f2)] 60 (0, 0)) (by (with_reducible repeat (first | refine blk_drewN ?_ _ | refine blk_drew ?_ | refine blk_alloc ?_ _)); exact BK395.out) k_ hk⟩)); (case aO => exact (by (with_reducible repeat (first | apply Kd.R_alloc | apply Kd.R_drewN | apply Kd.R_drew)); exact HO401.out)); (case aS => exact (below_size (by repeat (first | (with_reducible first | exact HB.out | apply below_alloc | apply pw_below_drewN | apply below_drew1 | refine below_set ?_ GE393.out | refine below_set ?_ GE395.out) | exact HB.out)))); (case aL => have := LMc29.out; omega); intro v403 w36 ho hb hg hat; rw [← Ny402.out] at ho; have n0_ := Aside0.mk (blk_grown (g := gb393) (o := .cells #[.int .i64 a1_0, .int .i64 a1_1, .int .i64 a1_2] 60 (0, 0)) (by (with_reducible repeat (first | refine blk_drewN ?_ _ | refine blk_drew ?_ | refine blk_alloc ?_ _)); exact BK393.out) hg (Kd.R_away HO401.out (fun _ hk => hk.1))); have n1_ := Aside0.mk (blk_grown (g := gb395) (o := .cells #[.int .i64 ((rd_T60 l0 x6_1).f0), .int .i64 ((rd_T60 l0 x6_1).f1), .int .i64 ((rd_T60 l0 x6_1).f2)] 60 (0, 0)) (by (with_reducible repeat (first | refine blk_drewN ?_ _ | refine blk_drew ?_ | refine blk_alloc ?_ _)); exact BK395.out) hg (Kd.R_away HO401.out (fun _ hk => hk.2))); have n2_ := Aside0.mk (hb); have n3_ := Aside0.mk (ho); clear BK393; clear BK395; clear HB; clear HO401; have BK393 := n0_; have BK395 := n1_; have HB := n2_; have HO404 := n3_; clear n0_ n1_ n2_ n3_; clear ho hb hg hat))
                        go_roundg kj5
                        case measure => have := HK1.out; have := HJ5.out; omega
                        case rel => exact ⟨(y402), (wrap64 (x6_1 + 1)), (by first | rfl | (simp; done) | (simp [*]; done)), H', ⟨by have := HK1.out; have := HJ5.out; omega⟩, ⟨by (with_reducible repeat (first | apply Kd.R_alloc | apply Kd.R_drewN | apply Kd.R_drew)); exact Kd.R_mono HO404.out (fun _ hk => hk.1)⟩, ⟨by (with_reducible repeat (first | refine blk_drewN ?_ _ | refine blk_drew ?_ | refine blk_alloc ?_ _)); exact BK393.out⟩, ⟨by repeat (first | (with_reducible first | exact HB.out | apply below_alloc | apply pw_below_drewN | apply below_drew1 | refine below_set ?_ GE393.out | refine below_set ?_ GE395.out) | exact HB.out)⟩⟩
                      · rw [if_neg c29] at H
                        exact absurd H (by simp)
                    · rw [if_neg c28] at H
                      have c28b0 : decide (a1_2 < ((rd_T60 l0 x6_1).f2)) = false := decide_eq_false c28
                      clear c28
                      have H' := Aside0.mk H
                      clear H
                      have hnb37 := NB395_393.out
                      have hnc37 := NB393_395.out
                      have hcz38_0 : wc.cell? ⟨gb395, 0, none⟩ = some (.int .i64 ((rd_T60 l0 x6_1).f0)) := (YtdelfhahbngcfaaW.PrintWords.blk_cell BK395.out 0).trans rfl
                      have hcz38_1 : wc.cell? ⟨gb395, 1, none⟩ = some (.int .i64 ((rd_T60 l0 x6_1).f1)) := (YtdelfhahbngcfaaW.PrintWords.blk_cell BK395.out 1).trans rfl
                      have hcz38_2 : wc.cell? ⟨gb395, 2, none⟩ = some (.int .i64 ((rd_T60 l0 x6_1).f2)) := (YtdelfhahbngcfaaW.PrintWords.blk_cell BK395.out 2).trans rfl
                      have hfz38_0 := blk_frozen BK395.out 0
                      have hfz38_1 := blk_frozen BK395.out 1
                      have hfz38_2 := blk_frozen BK395.out 2
                      have hcz39_0 : wc.cell? ⟨gb393, 0, none⟩ = some (.int .i64 a1_0) := (YtdelfhahbngcfaaW.PrintWords.blk_cell BK393.out 0).trans rfl
                      have hcz39_1 : wc.cell? ⟨gb393, 1, none⟩ = some (.int .i64 a1_1) := (YtdelfhahbngcfaaW.PrintWords.blk_cell BK393.out 1).trans rfl
                      have hcz39_2 : wc.cell? ⟨gb393, 2, none⟩ = some (.int .i64 a1_2) := (YtdelfhahbngcfaaW.PrintWords.blk_cell BK393.out 2).trans rfl
                      have hfz39_0 := blk_frozen BK393.out 0
                      have hfz39_1 := blk_frozen BK393.out 1
                      have hfz39_2 := blk_frozen BK393.out 2
                      go_wp2_with (first | ((with_reducible refine gate_builtin (b := .append) (xs := #[.tmp 46, .tmp 55]) rfl ?_); at_builtin; refine Kd.R_append k60 (w0 := w) w.heap.size rfl (.tmp 46) (.tmp 55) 22 60 (.agg #[(.int .i64 0), (.int .i64 0), (.int .i64 0)]) 24 rfl Try.underlying22 info60 rfl (by decide) (by omega) u5 x5_1 (⟨((rd_T60 l0 x6_1).f0), ((rd_T60 l0 x6_1).f1), wrap64 (a1_1 - 1)⟩ : S60) [.int .i64 ((rd_T60 l0 x6_1).f0), .int .i64 ((rd_T60 l0 x6_1).f1), .int .i64 (wrap64 (a1_1 - 1))] (fun k_ => k_ ≠ gb393 ∧ k_ ≠ gb395) (fun _ => False) rfl rfl ?aP (fun _ hk => hk.elim) ?aF ?aO ?aB ?aS ?aL ?_; (case aP => exact k60_mkM _ _ _ (⟨((rd_T60 l0 x6_1).f0), ((rd_T60 l0 x6_1).f1), wrap64 (a1_1 - 1)⟩ : S60)); (case aB => exact (by repeat (first | (with_reducible first | exact HB.out | apply below_alloc | apply pw_below_drewN | apply below_drew1 | refine below_set ?_ GE393.out | refine below_set ?_ GE395.out) | exact HB.out))); (case aF => exact (fun k_ hk => ⟨Kd.freshB (g := gb393) (o := .cells #[.int .i64 a1_0, .int .i64 a1_1, .int .i64 a1_2] 60 (0, 0)) (by (with_reducible repeat (first | refine blk_drewN ?_ _ | refine blk_drew ?_ | refine blk_alloc ?_ _)); exact BK393.out) k_ hk, Kd.freshB (g := gb395) (o := .cells #[.int .i64 ((rd_T60 l0 x6_1).f0), .int .i64 ((rd_T60 l0 x6_1).f1), .int .i64 ((rd_T60 l0 x6_1).f2)] 60 (0, 0)) (by (with_reducible repeat (first | refine blk_drewN ?_ _ | refine blk_drew ?_ | refine blk_alloc ?_ _)); exact BK395.out) k_ hk⟩)); (case aO => exact (by (with_reducible repeat (first | apply Kd.R_alloc | apply Kd.R_drewN | apply Kd.R_drew)); exact HO_5.out)); (case aS => exact (below_size (by repeat (first | (with_reducible first | exact HB.out | apply below_alloc | apply pw_below_drewN | apply below_drew1 | refine below_set ?_ GE393.out | refine below_set ?_ GE395.out) | exact HB.out)))); (case aL => have := LMc27.out; omega); intro v400 w40 ho hb hg hat; rw [← Ny399.out] at ho; have n0_ := Aside0.mk (blk_grown (g := gb393) (o := .cells #[.int .i64 a1_0, .int .i64 a1_1, .int .i64 a1_2] 60 (0, 0)) (by (with_reducible repeat (first | refine blk_drewN ?_ _ | refine blk_drew ?_ | refine blk_alloc ?_ _)); exact BK393.out) hg (Kd.R_away HO_5.out (fun _ hk => hk.1))); have n1_ := Aside0.mk (blk_grown (g := gb395) (o := .cells #[.int .i64 ((rd_T60 l0 x6_1).f0), .int .i64 ((rd_T60 l0 x6_1).f1), .int .i64 ((rd_T60 l0 x6_1).f2)] 60 (0, 0)) (by (with_reducible repeat (first | refine blk_drewN ?_ _ | refine blk_drew ?_ | refine blk_alloc ?_ _)); exact BK395.out) hg (Kd.R_away HO_5.out (fun _ hk => hk.2))); have n2_ := Aside0.mk (hb); have n3_ := Aside0.mk (ho); clear BK393; clear BK395; clear HB; clear HO_5; have BK393 := n0_; have BK395 := n1_; have HB := n2_; have HO401 := n3_; clear n0_ n1_ n2_ n3_; clear ho hb hg hat; have hcz41_0 : w40.cell? ⟨gb395, 0, none⟩ = some (.int .i64 ((rd_T60 l0 x6_1).f0)) := (YtdelfhahbngcfaaW.PrintWords.blk_cell BK395.out 0).trans rfl; have hcz41_1 : w40.cell? ⟨gb395, 1, none⟩ = some (.int .i64 ((rd_T60 l0 x6_1).f1)) := (YtdelfhahbngcfaaW.PrintWords.blk_cell BK395.out 1).trans rfl; have hcz41_2 : w40.cell? ⟨gb395, 2, none⟩ = some (.int .i64 ((rd_T60 l0 x6_1).f2)) := (YtdelfhahbngcfaaW.PrintWords.blk_cell BK395.out 2).trans rfl; have hfz41_0 := blk_frozen BK395.out 0; have hfz41_1 := blk_frozen BK395.out 1; have hfz41_2 := blk_frozen BK395.out 2; have hcz42_0 : w40.cell? ⟨gb393, 0, none⟩ = some (.int .i64 a1_0) := (YtdelfhahbngcfaaW.PrintWords.blk_cell BK393.out 0).trans rfl; have hcz42_1 : w40.cell? ⟨gb393, 1, none⟩ = some (.int .i64 a1_1) := (YtdelfhahbngcfaaW.PrintWords.blk_cell BK393.out 1).trans rfl; have hcz42_2 : w40.cell? ⟨gb393, 2, none⟩ = some (.int .i64 a1_2) := (YtdelfhahbngcfaaW.PrintWords.blk_cell BK393.out 2).trans rfl; have hfz42_0 := blk_frozen BK393.out 0; have hfz42_1 := blk_frozen BK393.out 1; have hfz42_2 := blk_frozen BK393.out 2))
                      go_roundg kj5
                      case measure => have := HK1.out; have := HJ5.out; omega
                      case rel => exact ⟨(y399), (wrap64 (x6_1 + 1)), (by first | rfl | (simp; done) | (simp [*]; done)), H', ⟨by have := HK1.out; have := HJ5.out; omega⟩, ⟨by (with_reducible repeat (first | apply Kd.R_alloc | apply Kd.R_drewN | apply Kd.R_drew)); exact Kd.R_mono HO401.out (fun _ hk => hk.1)⟩, ⟨by (with_reducible repeat (first | refine blk_drewN ?_ _ | refine blk_drew ?_ | refine blk_alloc ?_ _)); exact BK393.out⟩, ⟨by repeat (first | (with_reducible first | exact HB.out | apply below_alloc | apply pw_below_drewN | apply below_drew1 | refine below_set ?_ GE393.out | refine below_set ?_ GE395.out) | exact HB.out)⟩⟩
                  · rw [if_neg c27] at H
                    exact absurd H (by simp)
                · rw [if_neg c26] at H
                  have c26b0 : decide (((rd_T60 l0 x6_1).f1) < a1_1) = false := decide_eq_false c26
                  clear c26
                  by_cases c43 : ((rd_T60 l0 x6_1).f2) > a1_2
                  · rw [if_pos c43] at H
                    have c43b0 : decide (a1_2 < ((rd_T60 l0 x6_1).f2)) = true := decide_eq_true c43
                    clear c43
                    by_cases c44 : x5_1.length < 5864062014805
                    · rw [if_pos c44] at H
                      have LMc44 := Aside0.mk c44
                      clear c44
                      obtain ⟨y405, hy405⟩ : ∃ y_ : List (S60), y_ = (x5_1 ++ [(⟨((rd_T60 l0 x6_1).f0), wrap64 (a1_2 + 1), ((rd_T60 l0 x6_1).f2)⟩ : S60)]) := ⟨_, rfl⟩
                      replace H : (tributaryref07_without.l0 kj5 l0 y405 (wrap64 (x6_1 + 1)) a1_0 a1_1 a1_2) = some r := by first | (rw [hy405]; with_reducible exact H) | (have H2_ := (Option.bind_some _ _).symm.trans H; rw [hy405]; with_reducible exact H2_) | (have H2_ := (Option.bind_some _ _).symm.trans H; with_reducible exact H2_) | with_reducible exact H | (rw [hy405]; exact H) | exact H
                      have Ny405 := Aside0.mk hy405
                      clear hy405
                      have H' := Aside0.mk H
                      clear H
                      have hnb45 := NB395_393.out
                      have hnc45 := NB393_395.out
                      have hcz46_0 : wc.cell? ⟨gb395, 0, none⟩ = some (.int .i64 ((rd_T60 l0 x6_1).f0)) := (YtdelfhahbngcfaaW.PrintWords.blk_cell BK395.out 0).trans rfl
                      have hcz46_1 : wc.cell? ⟨gb395, 1, none⟩ = some (.int .i64 ((rd_T60 l0 x6_1).f1)) := (YtdelfhahbngcfaaW.PrintWords.blk_cell BK395.out 1).trans rfl
                      have hcz46_2 : wc.cell? ⟨gb395, 2, none⟩ = some (.int .i64 ((rd_T60 l0 x6_1).f2)) := (YtdelfhahbngcfaaW.PrintWords.blk_cell BK395.out 2).trans rfl
                      have hfz46_0 := blk_frozen BK395.out 0
                      have hfz46_1 := blk_frozen BK395.out 1
                      have hfz46_2 := blk_frozen BK395.out 2
                      have hcz47_0 : wc.cell? ⟨gb393, 0, none⟩ = some (.int .i64 a1_0) := (YtdelfhahbngcfaaW.PrintWords.blk_cell BK393.out 0).trans rfl
                      have hcz47_1 : wc.cell? ⟨gb393, 1, none⟩ = some (.int .i64 a1_1) := (YtdelfhahbngcfaaW.PrintWords.blk_cell BK393.out 1).trans rfl
                      have hcz47_2 : wc.cell? ⟨gb393, 2, none⟩ = some (.int .i64 a1_2) := (YtdelfhahbngcfaaW.PrintWords.blk_cell BK393.out 2).trans rfl
                      have hfz47_0 := blk_frozen BK393.out 0
                      have hfz47_1 := blk_frozen BK393.out 1
                      have hfz47_2 := blk_frozen BK393.out 2
                      go_wp2_with (first | ((with_reducible refine gate_builtin (b := .append) (xs := #[.tmp 62, .tmp 71]) rfl ?_); at_builtin; refine Kd.R_append k60 (w0 := w) w.heap.size rfl (.tmp 62) (.tmp 71) 22 60 (.agg #[(.int .i64 0), (.int .i64 0), (.int .i64 0)]) 24 rfl Try.underlying22 info60 rfl (by decide) (by omega) u5 x5_1 (⟨((rd_T60 l0 x6_1).f0), wrap64 (a1_2 + 1), ((rd_T60 l0 x6_1).f2)⟩ : S60) [.int .i64 ((rd_T60 l0 x6_1).f0), .int .i64 (wrap64 (a1_2 + 1)), .int .i64 ((rd_T60 l0 x6_1).f2)] (fun k_ => k_ ≠ gb393 ∧ k_ ≠ gb395) (fun _ => False) rfl rfl ?aP (fun _ hk => hk.elim) ?aF ?aO ?aB ?aS ?aL ?_; (case aP => exact k60_mkM _ _ _ (⟨((rd_T60 l0 x6_1).f0), wrap64 (a1_2 + 1), ((rd_T60 l0 x6_1).f2)⟩ : S60)); (case aB => exact (by repeat (first | (with_reducible first | exact HB.out | apply below_alloc | apply pw_below_drewN | apply below_drew1 | refine below_set ?_ GE393.out | refine below_set ?_ GE395.out) | exact HB.out))); (case aF => exact (fun k_ hk => ⟨Kd.freshB (g := gb393) (o := .cells #[.int .i64 a1_0, .int .i64 a1_1, .int .i64 a1_2] 60 (0, 0)) (by (with_reducible repeat (first | refine blk_drewN ?_ _ | refine blk_drew ?_ | refine blk_alloc ?_ _)); exact BK393.out) k_ hk, Kd.freshB (g := gb395) (o := .cells #[.int .i64 ((rd_T60 l0 x6_1).f0), .int .i64 ((rd_T60 l0 x6_1).f1), .int .i64 ((rd_T60 l0 x6_1).f2)] 60 (0, 0)) (by (with_reducible repeat (first | refine blk_drewN ?_ _ | refine blk_drew ?_ | refine blk_alloc ?_ _)); exact BK395.out) k_ hk⟩)); (case aO => exact (by (with_reducible repeat (first | apply Kd.R_alloc | apply Kd.R_drewN | apply Kd.R_drew)); exact HO_5.out)); (case aS => exact (below_size (by repeat (first | (with_reducible first | exact HB.out | apply below_alloc | apply pw_below_drewN | apply below_drew1 | refine below_set ?_ GE393.out | refine below_set ?_ GE395.out) | exact HB.out)))); (case aL => have := LMc44.out; omega); intro v406 w48 ho hb hg hat; rw [← Ny405.out] at ho; have n0_ := Aside0.mk (blk_grown (g := gb393) (o := .cells #[.int .i64 a1_0, .int .i64 a1_1, .int .i64 a1_2] 60 (0, 0)) (by (with_reducible repeat (first | refine blk_drewN ?_ _ | refine blk_drew ?_ | refine blk_alloc ?_ _)); exact BK393.out) hg (Kd.R_away HO_5.out (fun _ hk => hk.1))); have n1_ := Aside0.mk (blk_grown (g := gb395) (o := .cells #[.int .i64 ((rd_T60 l0 x6_1).f0), .int .i64 ((rd_T60 l0 x6_1).f1), .int .i64 ((rd_T60 l0 x6_1).f2)] 60 (0, 0)) (by (with_reducible repeat (first | refine blk_drewN ?_ _ | refine blk_drew ?_ | refine blk_alloc ?_ _)); exact BK395.out) hg (Kd.R_away HO_5.out (fun _ hk => hk.2))); have n2_ := Aside0.mk (hb); have n3_ := Aside0.mk (ho); clear BK393; clear BK395; clear HB; clear HO_5; have BK393 := n0_; have BK395 := n1_; have HB := n2_; have HO407 := n3_; clear n0_ n1_ n2_ n3_; clear ho hb hg hat))
                      go_roundg kj5
                      case measure => have := HK1.out; have := HJ5.out; omega
                      case rel => exact ⟨(y405), (wrap64 (x6_1 + 1)), (by first | rfl | (simp; done) | (simp [*]; done)), H', ⟨by have := HK1.out; have := HJ5.out; omega⟩, ⟨by (with_reducible repeat (first | apply Kd.R_alloc | apply Kd.R_drewN | apply Kd.R_drew)); exact Kd.R_mono HO407.out (fun _ hk => hk.1)⟩, ⟨by (with_reducible repeat (first | refine blk_drewN ?_ _ | refine blk_drew ?_ | refine blk_alloc ?_ _)); exact BK393.out⟩, ⟨by repeat (first | (with_reducible first | exact HB.out | apply below_alloc | apply pw_below_drewN | apply below_drew1 | refine below_set ?_ GE393.out | refine below_set ?_ GE395.out) | exact HB.out)⟩⟩
                    · rw [if_neg c44] at H
                      exact absurd H (by simp)
                  · rw [if_neg c43] at H
                    have c43b0 : decide (a1_2 < ((rd_T60 l0 x6_1).f2)) = false := decide_eq_false c43
                    clear c43
                    have H' := Aside0.mk H
                    clear H
                    have hnb49 := NB395_393.out
                    have hnc49 := NB393_395.out
                    have hcz50_0 : wc.cell? ⟨gb395, 0, none⟩ = some (.int .i64 ((rd_T60 l0 x6_1).f0)) := (YtdelfhahbngcfaaW.PrintWords.blk_cell BK395.out 0).trans rfl
                    have hcz50_1 : wc.cell? ⟨gb395, 1, none⟩ = some (.int .i64 ((rd_T60 l0 x6_1).f1)) := (YtdelfhahbngcfaaW.PrintWords.blk_cell BK395.out 1).trans rfl
                    have hcz50_2 : wc.cell? ⟨gb395, 2, none⟩ = some (.int .i64 ((rd_T60 l0 x6_1).f2)) := (YtdelfhahbngcfaaW.PrintWords.blk_cell BK395.out 2).trans rfl
                    have hfz50_0 := blk_frozen BK395.out 0
                    have hfz50_1 := blk_frozen BK395.out 1
                    have hfz50_2 := blk_frozen BK395.out 2
                    have hcz51_0 : wc.cell? ⟨gb393, 0, none⟩ = some (.int .i64 a1_0) := (YtdelfhahbngcfaaW.PrintWords.blk_cell BK393.out 0).trans rfl
                    have hcz51_1 : wc.cell? ⟨gb393, 1, none⟩ = some (.int .i64 a1_1) := (YtdelfhahbngcfaaW.PrintWords.blk_cell BK393.out 1).trans rfl
                    have hcz51_2 : wc.cell? ⟨gb393, 2, none⟩ = some (.int .i64 a1_2) := (YtdelfhahbngcfaaW.PrintWords.blk_cell BK393.out 2).trans rfl
                    have hfz51_0 := blk_frozen BK393.out 0
                    have hfz51_1 := blk_frozen BK393.out 1
                    have hfz51_2 := blk_frozen BK393.out 2
                    go_wp2
                    go_roundg kj5
                    case measure => have := HK1.out; have := HJ5.out; omega
                    case rel => exact ⟨(x5_1), (wrap64 (x6_1 + 1)), (by first | rfl | (simp; done) | (simp [*]; done)), H', ⟨by have := HK1.out; have := HJ5.out; omega⟩, ⟨by (with_reducible repeat (first | apply Kd.R_alloc | apply Kd.R_drewN | apply Kd.R_drew)); exact Kd.R_mono HO_5.out (fun _ hk => hk.1)⟩, ⟨by (with_reducible repeat (first | refine blk_drewN ?_ _ | refine blk_drew ?_ | refine blk_alloc ?_ _)); exact BK393.out⟩, ⟨by repeat (first | (with_reducible first | exact HB.out | apply below_alloc | apply pw_below_drewN | apply below_drew1 | refine below_set ?_ GE393.out | refine below_set ?_ GE395.out) | exact HB.out)⟩⟩
        · rw [if_neg c5] at H
          exact absurd H (by simp)
      · rw [if_neg c4] at H
        have c4b0 : decide (x6_1 < (l0.length : Int)) = false := decide_eq_false c4
        clear c4
        obtain rfl := Option.some.inj H
        go_wp2
        go_ret
        exact ⟨_, by first | rfl | (simp [errW_none, errW_some] <;> rfl) | (simp [*, errW_none, errW_some] <;> rfl), by (with_reducible repeat (first | apply Kd.R_alloc | apply Kd.R_drewN | apply Kd.R_drew)); exact Kd.R_mono HO_5.out (fun _ hk => trivial), by repeat (first | (with_reducible first | exact HB.out | apply below_alloc | apply pw_below_drewN | apply below_drew1 | refine below_set ?_ GE393.out) | exact HB.out)⟩
end
section
mutual
def tributaryref07_Minus.j0 : Nat → List (S60) → List (S60) → Bool → Option ((List (S60)) × Int)
  | 0, _, _, _ => none
  | k + 1, x0, x1, x15 => if x15 = true then (some (([] : List (S60)), 2)) else ((some (([] : List (S60)) : List (S60))).bind fun y410 => (if y410.length + x0.length < 5864062014805 then (tributaryref07_Minus.l0 k x1 (y410 ++ x0) 0) else (none)))
def tributaryref07_Minus.l0 : Nat → List (S60) → List (S60) → Int → Option ((List (S60)) × Int)
  | 0, _, _, _ => none
  | k + 1, x1, x6, x7 => if x7 < (x1.length : Int) then (if 0 ≤ x7 then ((tributaryref07_without.f k x6 ((rd_T60 x1 x7).f0) ((rd_T60 x1 x7).f1) ((rd_T60 x1 x7).f2)).bind fun t417 => (tributaryref07_Minus.l0 k x1 t417 (wrap64 (x7 + 1)))) else (none)) else (if (x6.length : Int) > 4000 then (some (([] : List (S60)), 8)) else (some (x6, 0)))
end
def tributaryref07_Minus.f (k : Nat) (l0 : List (S60)) (l1 : List (S60)) : Option ((List (S60)) × Int) := (tributaryref07_Check.f k l0).bind fun t408 => (if t408 = 0 then ((tributaryref07_Check.f k l1).bind fun t409 => (tributaryref07_Minus.j0 k l0 l1 (t409 != 0))) else (tributaryref07_Minus.j0 k l0 l1 true))
set_option maxHeartbeats 8000000 in
set_option maxRecDepth 100000 in
theorem tributaryref07_Minus.calls (k : Nat) (A0 : Option Addr) (c0 : Nat) (l0 : List (S60)) (A1 : Option Addr) (c1 : Nat) (l1 : List (S60)) (r1 : List (S60)) (r2 : Int) (w : World) (hr0 : Kd.C k60 w A0 l0.length l0) (hc0 : l0.length ≤ c0) (hr1 : Kd.C k60 w A1 l1.length l1) (hc1 : l1.length ≤ c1) (h : tributaryref07_Minus.f k l0 l1 = some (r1, r2)) :
    Calls Try.prog 36 #[.slice A0 l0.length c0, .slice A1 l1.length c1] w fun e w' => ∃ v0_ : Value, e = .returned (.tuple #[v0_, .int .i64 r2]) ∧ Kd.R k60 60 w' w.heap.size (fun _ => True) v0_ r1 ∧ Below w.heap.size w w' := by
  have hu60 := Try.underlying60
  have HR0 := Aside0.mk hr0
  have HC0 := Aside0.mk hc0
  clear hr0 hc0
  have HR1 := Aside0.mk hr1
  have HC1 := Aside0.mk hc1
  clear hr1 hc1
  have HB := Aside0.mk (Below.refl w.heap.size w)
  have H : ((tributaryref07_Check.f k l0).bind fun t408 => (if t408 = 0 then ((tributaryref07_Check.f k l1).bind fun t409 => (tributaryref07_Minus.j0 k l0 l1 (t409 != 0))) else (tributaryref07_Minus.j0 k l0 l1 true))) = some (r1, r2) := h
  clear h
  have HC3 := Aside0.mk H
  clear H
  go_enter Try.func36, Try.ntmps36
  go_upto_region 1 with (fail)
  go_cut [15] (fun v15 wc => ∃ (kq : Nat) (x15_2 : Bool), v15 = .bool x15_2 ∧ Aside0 (tributaryref07_Minus.j0 kq l0 l1 x15_2 = some (r1, r2)) ∧ Aside0 (kq ≤ k) ∧ Aside0 (Below w.heap.size w wc))
  case first =>
    have H := HC3.out
    clear HC3
    replace H := Option.bind_eq_some_iff.mp H
    obtain ⟨t408, A40, H⟩ := H
    replace H : (if t408 = 0 then ((tributaryref07_Check.f k l1).bind fun t409 => (tributaryref07_Minus.j0 k l0 l1 (t409 != 0))) else (tributaryref07_Minus.j0 k l0 l1 true)) = some (r1, r2) := H
    have A4 := Aside0.mk A40
    clear A40
    by_cases c5 : t408 = 0
    · rw [if_pos c5] at H
      have c5b0 : (t408 == 0) = true := beq_iff_eq.mpr c5
      have c5b1 : (t408 != 0) = false := bne_eq_false_iff_eq.mpr c5
      clear c5
      (first | rw [c5b0] | (simp only [i64_w, i32_w]; rw [c5b0]) | skip)
      replace H := Option.bind_eq_some_iff.mp H
      obtain ⟨t409, A60, H⟩ := H
      replace H : (tributaryref07_Minus.j0 k l0 l1 (t409 != 0)) = some (r1, r2) := H
      have A6 := Aside0.mk A60
      clear A60
      have H' := Aside0.mk H
      clear H
      go_wp2_with (first | ((with_reducible refine gate_callee (f := 39) rfl ?_); refine goesL_ (some 9) rfl rfl Try.func39 (by kernel_rfl) rfl #[.slice A0 l0.length c0] rfl (by (try simp only [List.map_toArray, List.map_cons, List.map_nil]); first | done | rfl | (simp only [List.length_drop, List.length_take]; rfl)) ?_; (with_reducible refine (tributaryref07_Check.calls k _ _ l0 t408 _ ?side1 ?side2 A4.out).mono ?_); (case side1 => repeat (first | exact (Kd.C_below HR0.out HB.out) | (with_reducible refine Kd.C_alloc ?_ _) | (with_reducible refine Kd.C_drewN ?_ _) | (with_reducible refine Kd.C_drew ?_))); (case side2 => exact HC0.out); rintro e w7 ⟨rfl, hb⟩; refine ⟨_, rfl, ?_⟩; have n0_ := Aside0.mk (below_step (by repeat (first | (with_reducible first | exact HB.out | apply below_alloc | apply pw_below_drewN | apply below_drew1) | exact HB.out)) hb); clear HB; have HB := n0_; clear n0_; (try clear hb); (try clear hb2); (try clear hk); (try clear hi)) | (go_at_call 39; (with_reducible refine (tributaryref07_Check.calls k _ _ l1 t409 _ ?side1 ?side2 A6.out).mono ?_); (case side1 => repeat (first | exact (Kd.C_below HR1.out HB.out) | (with_reducible refine Kd.C_alloc ?_ _) | (with_reducible refine Kd.C_drewN ?_ _) | (with_reducible refine Kd.C_drew ?_))); (case side2 => exact HC1.out); rintro e w8 ⟨rfl, hb⟩; have n0_ := Aside0.mk (below_step (by repeat (first | (with_reducible first | exact HB.out | apply below_alloc | apply pw_below_drewN | apply below_drew1) | exact HB.out)) hb); clear HB; have HB := n0_; clear n0_; (try clear hb); (try clear hb2); (try clear hk); (try clear hi)))
      go_meet
      case rel => exact ⟨_, ((t409 != 0)), (by first | rfl | (simp; done) | (simp [*]; done)), H', ⟨by first | omega | exact Nat.le_refl _⟩, ⟨by repeat (first | (with_reducible first | exact HB.out | apply below_alloc | apply pw_below_drewN | apply below_drew1) | exact HB.out)⟩⟩
    · rw [if_neg c5] at H
      have c5b0 : (t408 == 0) = false := beq_eq_false_iff_ne.mpr c5
      have c5b1 : (t408 != 0) = true := bne_iff_ne.mpr c5
      (first | rw [c5b0] | (simp only [i64_w, i32_w]; rw [c5b0]) | skip)
      have H' := Aside0.mk H
      clear H
      go_wp2_with (first | ((with_reducible refine gate_callee (f := 39) rfl ?_); refine goesL_ (some 9) rfl rfl Try.func39 (by kernel_rfl) rfl #[.slice A0 l0.length c0] rfl (by (try simp only [List.map_toArray, List.map_cons, List.map_nil]); first | done | rfl | (simp only [List.length_drop, List.length_take]; rfl)) ?_; (with_reducible refine (tributaryref07_Check.calls k _ _ l0 t408 _ ?side1 ?side2 A4.out).mono ?_); (case side1 => repeat (first | exact (Kd.C_below HR0.out HB.out) | (with_reducible refine Kd.C_alloc ?_ _) | (with_reducible refine Kd.C_drewN ?_ _) | (with_reducible refine Kd.C_drew ?_))); (case side2 => exact HC0.out); rintro e w9 ⟨rfl, hb⟩; refine ⟨_, rfl, ?_⟩; have n0_ := Aside0.mk (below_step (by repeat (first | (with_reducible first | exact HB.out | apply below_alloc | apply pw_below_drewN | apply below_drew1) | exact HB.out)) hb); clear HB; have HB := n0_; clear n0_; (try clear hb); (try clear hb2); (try clear hk); (try clear hi)))
      go_meet
      case rel => exact ⟨_, (true), (by first | rfl | (simp; done) | (simp [*]; done)), H', ⟨by first | omega | exact Nat.le_refl _⟩, ⟨by repeat (first | (with_reducible first | exact HB.out | apply below_alloc | apply pw_below_drewN | apply below_drew1) | exact HB.out)⟩⟩
  case rest =>
    clear HC3
    try clear c1
    try clear p2
    try clear c3
    try clear c5
    try clear c5b0
    try clear c5b1
    obtain ⟨kq, x15_2, rfl, HA, HJ2, HB⟩ := hcut
    cases kq with
    | zero => exact absurd HA.out (by simp [tributaryref07_Minus.j0])
    | succ kj2 =>
      have H := HA.out
      clear HA
      simp only [tributaryref07_Minus.j0] at H
      by_cases c10 : x15_2 = true
      · subst c10
        have H1 : (some (([] : List (S60)), 2)) = some (r1, r2) := by rw [if_pos rfl] at H; exact H
        clear H
        have H := H1
        clear H1
        simp only [Option.some.injEq, Prod.mk.injEq] at H
        obtain ⟨rfl, rfl⟩ := H
        go_wp2
        go_ret2
        exact ⟨_, by first | rfl | (simp [errW_none, errW_some] <;> rfl) | (simp [*, errW_none, errW_some] <;> rfl), by first | exact Kd.R_nil _ _ _ _ _ | exact Kd.N_nil _ _ _ _ _ | exact Kd.V_nil _ _ _ _ _ | exact Kd.Q_nil _ _ _ _ _ | exact Kd.S_nil _ _ _ _ _, by repeat (first | (with_reducible first | exact HB.out | apply below_alloc | apply pw_below_drewN | apply below_drew1) | exact HB.out)⟩
      · replace c10 := Bool.eq_false_iff.mpr c10
        subst c10
        have H1 : ((some (([] : List (S60)) : List (S60))).bind fun y410 => (if y410.length + l0.length < 5864062014805 then (tributaryref07_Minus.l0 kj2 l1 (y410 ++ l0) 0) else (none))) = some (r1, r2) := by rw [if_neg (show ¬ (false = true) by decide)] at H; exact H
        clear H
        have H := H1
        clear H1
        obtain ⟨y410, hy410⟩ : ∃ y_ : List (S60), y_ = (([] : List (S60))) := ⟨_, rfl⟩
        replace H : (if y410.length + l0.length < 5864062014805 then (tributaryref07_Minus.l0 kj2 l1 (y410 ++ l0) 0) else (none)) = some (r1, r2) := by first | (rw [hy410]; with_reducible exact H) | (have H2_ := (Option.bind_some _ _).symm.trans H; rw [hy410]; with_reducible exact H2_) | (have H2_ := (Option.bind_some _ _).symm.trans H; with_reducible exact H2_) | with_reducible exact H | (rw [hy410]; exact H) | exact H
        have Ny410 := Aside0.mk hy410
        clear hy410
        by_cases c11 : y410.length + l0.length < 5864062014805
        · rw [if_pos c11] at H
          have LMc11 := Aside0.mk c11
          clear c11
          obtain ⟨y413, hy413⟩ : ∃ y_ : List (S60), y_ = (y410 ++ l0) := ⟨_, rfl⟩
          replace H : (tributaryref07_Minus.l0 kj2 l1 y413 0) = some (r1, r2) := by first | (rw [hy413]; with_reducible exact H) | (have H2_ := (Option.bind_some _ _).symm.trans H; rw [hy413]; with_reducible exact H2_) | (have H2_ := (Option.bind_some _ _).symm.trans H; with_reducible exact H2_) | with_reducible exact H | (rw [hy413]; exact H) | exact H
          have Ny413 := Aside0.mk hy413
          clear hy413
          have H' := Aside0.mk H
          clear H
          go_wp2_with (first | ((with_reducible refine gate_dst (N := 16) rfl ?_); refine Kd.R_lit k60 _ 60 ?hg (N := 16) ?hd (xs := ([] : List (S60))) (inner := []) (ok := fun _ => True) (okp := fun _ => True) ?hr ?hp (fun _ hk => hk) trivial (Below.refl _ _) (Nat.le_refl _) (by simp) ?_; (case hd => rfl); (case hg => rfl); (case hr => first | (go_simp; done) | (go_simp; rfl)); (case hp => exact (Reps.none _ _)); intro v411 w12 ho13 hb hg_ hnew_; clear hg_ hnew_; (first | rw [← Ny410.out] at ho13 | (simp only [Int.reduceToNat] at ho13; rw [← Ny410.out] at ho13)); have n0_ := Aside0.mk (Kd.R_lower ho13 (below_size (by repeat (first | (with_reducible first | exact HB.out | apply below_alloc | apply pw_below_drewN | apply below_drew1) | exact HB.out)))); have n1_ := Aside0.mk (below_step (by repeat (first | (with_reducible first | exact HB.out | apply below_alloc | apply pw_below_drewN | apply below_drew1) | exact HB.out)) hb); clear HB; have HO412 := n0_; have HB := n1_; clear n0_ n1_; clear hb ho13) | ((with_reducible refine gate_builtin (b := .append) (xs := #[.tmp 16, .tmp 17]) rfl ?_); at_builtin; refine Kd.R_append_rows k60 (w0 := w) w.heap.size rfl (.tmp 16) (.tmp 17) 22 60 (.agg #[(.int .i64 0), (.int .i64 0), (.int .i64 0)]) 24 rfl Try.underlying22 info60 rfl (by decide) (by omega) v411 y410 l0 _ _ _ (fun _ => True) (fun _ => False) rfl rfl ?aO ?aR (fun _ _ h => h) (fun _ h => h.elim) ?aF ?aB ?aS ?aL ?_; (case aR => repeat (first | exact (Kd.C_below HR0.out HB.out) | (with_reducible refine Kd.C_alloc ?_ _) | (with_reducible refine Kd.C_drewN ?_ _) | (with_reducible refine Kd.C_drew ?_))); (case aB => exact (by repeat (first | (with_reducible first | exact HB.out | apply below_alloc | apply pw_below_drewN | apply below_drew1) | exact HB.out))); (case aF => exact (fun _ _ => trivial)); (case aO => exact (by (with_reducible repeat (first | apply Kd.R_alloc | apply Kd.R_drewN | apply Kd.R_drew)); exact HO412.out)); (case aS => exact (below_size (by repeat (first | (with_reducible first | exact HB.out | apply below_alloc | apply pw_below_drewN | apply below_drew1) | exact HB.out)))); (case aL => have := LMc11.out; omega); intro v414 w14 ho hb hg hat; rw [← Ny413.out] at ho; have n0_ := Aside0.mk (hb); have n1_ := Aside0.mk (ho); clear HB; clear HO412; have HB := n0_; have HO415 := n1_; clear n0_ n1_; clear ho hb hg hat))
          go_loopg [6, 7] kj2 (fun kq v6 v7 w' => ∃ (x6_2 : List (S60)) (x7_2 : Int), v7 = .int .i64 x7_2 ∧ Aside0 (tributaryref07_Minus.l0 kq l1 x6_2 x7_2 = some (r1, r2)) ∧ Aside0 (kq ≤ kj2) ∧ Aside0 (Kd.R k60 60 w' w.heap.size (fun _ => True) v6 x6_2) ∧ Aside0 (Below w.heap.size w w'))
          case atStart => exact ⟨(y413), (0), (by first | rfl | (simp; done) | (simp [*]; done)), H', ⟨Nat.le_refl _⟩, ⟨by (with_reducible repeat (first | apply Kd.R_alloc | apply Kd.R_drewN | apply Kd.R_drew)); exact HO415.out⟩, ⟨by repeat (first | (with_reducible first | exact HB.out | apply below_alloc | apply pw_below_drewN | apply below_drew1) | exact HB.out)⟩⟩
          case round =>
            clear H'
            try clear c1
            try clear p2
            try clear c3
            try clear c5
            try clear c5b0
            try clear c5b1
            try clear c10
            try clear c11
            try clear p2
            obtain ⟨x6_2, x7_2, rfl, HA, HK2, HO_6, HB⟩ := hrel
            cases gk with
            | zero => exact absurd HA.out (by simp [tributaryref07_Minus.l0])
            | succ k2 =>
              have H := HA.out
              clear HA
              simp only [tributaryref07_Minus.l0] at H
              by_cases c15 : x7_2 < (l1.length : Int)
              · rw [if_pos c15] at H
                have c15b0 : decide (x7_2 < (l1.length : Int)) = true := decide_eq_true c15
                clear c15
                by_cases c16 : 0 ≤ x7_2
                · rw [if_pos c16] at H
                  have c16b0 : decide (0 ≤ x7_2) = true := decide_eq_true c16
                  clear c16
                  replace H := Option.bind_eq_some_iff.mp H
                  obtain ⟨t417, A170, H⟩ := H
                  replace H : (tributaryref07_Minus.l0 k2 l1 t417 (wrap64 (x7_2 + 1))) = some (r1, r2) := H
                  have A17 := Aside0.mk A170
                  clear A170
                  have H' := Aside0.mk H
                  clear H
                  have p416 : 0 ≤ (x7_2 : Int) := of_decide_eq_true (by first | (with_reducible assumption) | assumption)
                  have q416 : x7_2 < (l1.length : Int) := of_decide_eq_true (by first | (with_reducible assumption) | assumption)
                  obtain ⟨ad416, e416, hx416_0, hx416_1, hx416_2⟩ := at_T60 HR1.out x7_2 p416 q416
                  cases e416
                  replace hx416_0 := (HB.out.cell (World.block_lt_of_cell? w _ hx416_0)).trans hx416_0
                  replace hx416_1 := (HB.out.cell (World.block_lt_of_cell? w _ hx416_1)).trans hx416_1
                  replace hx416_2 := (HB.out.cell (World.block_lt_of_cell? w _ hx416_2)).trans hx416_2
                  replace p416 := eq_true p416
                  replace q416 := eq_true q416
                  obtain ⟨Ao18, co18, eo18⟩ := Kd.R_slice HO_6.out
                  subst eo18
                  go_wp2_with (first | ((with_reducible refine gate_callee (f := 64) rfl ?_); refine goesL_ (some 30) rfl rfl Try.func64 (by kernel_rfl) rfl #[.slice Ao18 x6_2.length co18, .agg #[.int .i64 ((rd_T60 l1 x7_2).f0), .int .i64 ((rd_T60 l1 x7_2).f1), .int .i64 ((rd_T60 l1 x7_2).f2)]] rfl (by (try simp only [List.map_toArray, List.map_cons, List.map_nil]); first | done | rfl | (simp only [List.length_drop, List.length_take]; rfl)) ?_; (with_reducible refine (tributaryref07_without.calls k2 _ _ x6_2 ((rd_T60 l1 x7_2).f0) ((rd_T60 l1 x7_2).f1) ((rd_T60 l1 x7_2).f2) t417 _ ?side1 ?side2 A17.out).mono ?_); (case side1 => repeat (first | exact (Kd.R_reads' HO_6.out).2.2 | (with_reducible refine Kd.C_alloc ?_ _) | (with_reducible refine Kd.C_drewN ?_ _) | (with_reducible refine Kd.C_drew ?_))); (case side2 => exact (Kd.R_reads' HO_6.out).2.1); rintro e w19 ⟨v418, rfl, ho0, hb⟩; refine ⟨_, rfl, ?_⟩; have n0_ := Aside0.mk (Kd.R_elder' (by (with_reducible repeat (first | apply Kd.R_alloc | apply Kd.R_drewN | apply Kd.R_drew)); exact HO_6.out) (Kd.R_base ho0) hb); have n1_ := Aside0.mk (Kd.R_lower (Kd.R_new' ho0 (Kd.R_lt (by (with_reducible repeat (first | apply Kd.R_alloc | apply Kd.R_drewN | apply Kd.R_drew)); exact HO_6.out))) (below_size (by repeat (first | (with_reducible first | exact HB.out | apply below_alloc | apply pw_below_drewN | apply below_drew1) | exact HB.out)))); have n2_ := Aside0.mk (below_step (by repeat (first | (with_reducible first | exact HB.out | apply below_alloc | apply pw_below_drewN | apply below_drew1) | exact HB.out)) hb); clear HO_6; clear HB; have HO_6 := n0_; have HO419 := n1_; have HB := n2_; clear n0_ n1_ n2_; (try clear hb); (try clear hb2); (try clear hk); (try clear hi); (try clear ho0)))
                  go_roundg k2
                  case measure => have := HJ2.out; have := HK2.out; omega
                  case rel => exact ⟨(t417), (wrap64 (x7_2 + 1)), (by first | rfl | (simp; done) | (simp [*]; done)), H', ⟨by have := HJ2.out; have := HK2.out; omega⟩, ⟨by (with_reducible repeat (first | apply Kd.R_alloc | apply Kd.R_drewN | apply Kd.R_drew)); exact Kd.R_mono HO419.out (fun _ hk => trivial)⟩, ⟨by repeat (first | (with_reducible first | exact HB.out | apply below_alloc | apply pw_below_drewN | apply below_drew1) | exact HB.out)⟩⟩
                · rw [if_neg c16] at H
                  exact absurd H (by simp)
              · rw [if_neg c15] at H
                have c15b0 : decide (x7_2 < (l1.length : Int)) = false := decide_eq_false c15
                clear c15
                by_cases c20 : (x6_2.length : Int) > 4000
                · rw [if_pos c20] at H
                  have c20b0 : decide (4000 < (x6_2.length : Int)) = true := decide_eq_true c20
                  have c20b1 : decide (4000 < x6_2.length) = true := decide_eq_true (by omega)
                  clear c20
                  simp only [Option.some.injEq, Prod.mk.injEq] at H
                  obtain ⟨rfl, rfl⟩ := H
                  obtain ⟨Ao21, co21, eo21⟩ := Kd.R_slice HO_6.out
                  subst eo21
                  go_wp2
                  go_ret2
                  exact ⟨_, by first | rfl | (simp [errW_none, errW_some] <;> rfl) | (simp [*, errW_none, errW_some] <;> rfl), by first | exact Kd.R_nil _ _ _ _ _ | exact Kd.N_nil _ _ _ _ _ | exact Kd.V_nil _ _ _ _ _ | exact Kd.Q_nil _ _ _ _ _ | exact Kd.S_nil _ _ _ _ _, by repeat (first | (with_reducible first | exact HB.out | apply below_alloc | apply pw_below_drewN | apply below_drew1) | exact HB.out)⟩
                · rw [if_neg c20] at H
                  have c20b0 : decide (4000 < (x6_2.length : Int)) = false := decide_eq_false c20
                  have c20b1 : decide (4000 < x6_2.length) = false := decide_eq_false (by omega)
                  clear c20
                  simp only [Option.some.injEq, Prod.mk.injEq] at H
                  obtain ⟨rfl, rfl⟩ := H
                  obtain ⟨Ao22, co22, eo22⟩ := Kd.R_slice HO_6.out
                  subst eo22
                  go_wp2
                  go_ret2
                  exact ⟨_, by first | rfl | (simp [errW_none, errW_some] <;> rfl) | (simp [*, errW_none, errW_some] <;> rfl), by (with_reducible repeat (first | apply Kd.R_alloc | apply Kd.R_drewN | apply Kd.R_drew)); exact HO_6.out, by repeat (first | (with_reducible first | exact HB.out | apply below_alloc | apply pw_below_drewN | apply below_drew1) | exact HB.out)⟩
        · rw [if_neg c11] at H
          exact absurd H (by simp)
end
section
mutual
def tributaryref07_Within.j0 : Nat → List (S60) → List (S60) → Bool → Option (Bool)
  | 0, _, _, _ => none
  | k + 1, x0, x1, x14 => if x14 = true then (some false) else ((some (([] : List (S60)) : List (S60))).bind fun y424 => (if y424.length + x0.length < 5864062014805 then (tributaryref07_Within.l0 k x1 (y424 ++ x0) 0) else (none)))
def tributaryref07_Within.l0 : Nat → List (S60) → List (S60) → Int → Option (Bool)
  | 0, _, _, _ => none
  | k + 1, x1, x5, x6 => if x6 < (x1.length : Int) then (if 0 ≤ x6 then ((tributaryref07_without.f k x5 ((rd_T60 x1 x6).f0) ((rd_T60 x1 x6).f1) ((rd_T60 x1 x6).f2)).bind fun t431 => (tributaryref07_Within.l0 k x1 t431 (wrap64 (x6 + 1)))) else (none)) else (some ((x5.length : Int) == 0))
end
def tributaryref07_Within.f (k : Nat) (l0 : List (S60)) (l1 : List (S60)) : Option (Bool) := (tributaryref07_Check.f k l0).bind fun t422 => (if t422 = 0 then ((tributaryref07_Check.f k l1).bind fun t423 => (tributaryref07_Within.j0 k l0 l1 (t423 != 0))) else (tributaryref07_Within.j0 k l0 l1 true))
set_option maxHeartbeats 8000000 in
set_option maxRecDepth 100000 in
theorem tributaryref07_Within.calls (k : Nat) (A0 : Option Addr) (c0 : Nat) (l0 : List (S60)) (A1 : Option Addr) (c1 : Nat) (l1 : List (S60)) (r : Bool) (w : World) (hr0 : Kd.C k60 w A0 l0.length l0) (hc0 : l0.length ≤ c0) (hr1 : Kd.C k60 w A1 l1.length l1) (hc1 : l1.length ≤ c1) (h : tributaryref07_Within.f k l0 l1 = some r) :
    Calls Try.prog 41 #[.slice A0 l0.length c0, .slice A1 l1.length c1] w fun e w' => e = .returned (.bool r) ∧ Below w.heap.size w w' := by
  have hu60 := Try.underlying60
  have HR0 := Aside0.mk hr0
  have HC0 := Aside0.mk hc0
  clear hr0 hc0
  have HR1 := Aside0.mk hr1
  have HC1 := Aside0.mk hc1
  clear hr1 hc1
  have HB := Aside0.mk (Below.refl w.heap.size w)
  have H : ((tributaryref07_Check.f k l0).bind fun t422 => (if t422 = 0 then ((tributaryref07_Check.f k l1).bind fun t423 => (tributaryref07_Within.j0 k l0 l1 (t423 != 0))) else (tributaryref07_Within.j0 k l0 l1 true))) = some r := h
  clear h
  have HC3 := Aside0.mk H
  clear H
  go_enter Try.func41, Try.ntmps41
  go_upto_region 1 with (fail)
  go_cut [14] (fun v14 wc => ∃ (kq : Nat) (x14_2 : Bool), v14 = .bool x14_2 ∧ Aside0 (tributaryref07_Within.j0 kq l0 l1 x14_2 = some r) ∧ Aside0 (kq ≤ k) ∧ Aside0 (Below w.heap.size w wc))
  case first =>
    have H := HC3.out
    clear HC3
    replace H := Option.bind_eq_some_iff.mp H
    obtain ⟨t422, A40, H⟩ := H
    replace H : (if t422 = 0 then ((tributaryref07_Check.f k l1).bind fun t423 => (tributaryref07_Within.j0 k l0 l1 (t423 != 0))) else (tributaryref07_Within.j0 k l0 l1 true)) = some r := H
    have A4 := Aside0.mk A40
    clear A40
    by_cases c5 : t422 = 0
    · rw [if_pos c5] at H
      have c5b0 : (t422 == 0) = true := beq_iff_eq.mpr c5
      have c5b1 : (t422 != 0) = false := bne_eq_false_iff_eq.mpr c5
      clear c5
      (first | rw [c5b0] | (simp only [i64_w, i32_w]; rw [c5b0]) | skip)
      replace H := Option.bind_eq_some_iff.mp H
      obtain ⟨t423, A60, H⟩ := H
      replace H : (tributaryref07_Within.j0 k l0 l1 (t423 != 0)) = some r := H
      have A6 := Aside0.mk A60
      clear A60
      have H' := Aside0.mk H
      clear H
      go_wp2_with (first | ((with_reducible refine gate_callee (f := 39) rfl ?_); refine goesL_ (some 8) rfl rfl Try.func39 (by kernel_rfl) rfl #[.slice A0 l0.length c0] rfl (by (try simp only [List.map_toArray, List.map_cons, List.map_nil]); first | done | rfl | (simp only [List.length_drop, List.length_take]; rfl)) ?_; (with_reducible refine (tributaryref07_Check.calls k _ _ l0 t422 _ ?side1 ?side2 A4.out).mono ?_); (case side1 => repeat (first | exact (Kd.C_below HR0.out HB.out) | (with_reducible refine Kd.C_alloc ?_ _) | (with_reducible refine Kd.C_drewN ?_ _) | (with_reducible refine Kd.C_drew ?_))); (case side2 => exact HC0.out); rintro e w7 ⟨rfl, hb⟩; refine ⟨_, rfl, ?_⟩; have n0_ := Aside0.mk (below_step (by repeat (first | (with_reducible first | exact HB.out | apply below_alloc | apply pw_below_drewN | apply below_drew1) | exact HB.out)) hb); clear HB; have HB := n0_; clear n0_; (try clear hb); (try clear hb2); (try clear hk); (try clear hi)) | (go_at_call 39; (with_reducible refine (tributaryref07_Check.calls k _ _ l1 t423 _ ?side1 ?side2 A6.out).mono ?_); (case side1 => repeat (first | exact (Kd.C_below HR1.out HB.out) | (with_reducible refine Kd.C_alloc ?_ _) | (with_reducible refine Kd.C_drewN ?_ _) | (with_reducible refine Kd.C_drew ?_))); (case side2 => exact HC1.out); rintro e w8 ⟨rfl, hb⟩; have n0_ := Aside0.mk (below_step (by repeat (first | (with_reducible first | exact HB.out | apply below_alloc | apply pw_below_drewN | apply below_drew1) | exact HB.out)) hb); clear HB; have HB := n0_; clear n0_; (try clear hb); (try clear hb2); (try clear hk); (try clear hi)))
      go_meet
      case rel => exact ⟨_, ((t423 != 0)), (by first | rfl | (simp; done) | (simp [*]; done)), H', ⟨by first | omega | exact Nat.le_refl _⟩, ⟨by repeat (first | (with_reducible first | exact HB.out | apply below_alloc | apply pw_below_drewN | apply below_drew1) | exact HB.out)⟩⟩
    · rw [if_neg c5] at H
      have c5b0 : (t422 == 0) = false := beq_eq_false_iff_ne.mpr c5
      have c5b1 : (t422 != 0) = true := bne_iff_ne.mpr c5
      (first | rw [c5b0] | (simp only [i64_w, i32_w]; rw [c5b0]) | skip)
      have H' := Aside0.mk H
      clear H
      go_wp2_with (first | ((with_reducible refine gate_callee (f := 39) rfl ?_); refine goesL_ (some 8) rfl rfl Try.func39 (by kernel_rfl) rfl #[.slice A0 l0.length c0] rfl (by (try simp only [List.map_toArray, List.map_cons, List.map_nil]); first | done | rfl | (simp only [List.length_drop, List.length_take]; rfl)) ?_; (with_reducible refine (tributaryref07_Check.calls k _ _ l0 t422 _ ?side1 ?side2 A4.out).mono ?_); (case side1 => repeat (first | exact (Kd.C_below HR0.out HB.out) | (with_reducible refine Kd.C_alloc ?_ _) | (with_reducible refine Kd.C_drewN ?_ _) | (with_reducible refine Kd.C_drew ?_))); (case side2 => exact HC0.out); rintro e w9 ⟨rfl, hb⟩; refine ⟨_, rfl, ?_⟩; have n0_ := Aside0.mk (below_step (by repeat (first | (with_reducible first | exact HB.out | apply below_alloc | apply pw_below_drewN | apply below_drew1) | exact HB.out)) hb); clear HB; have HB := n0_; clear n0_; (try clear hb); (try clear hb2); (try clear hk); (try clear hi)))
      go_meet
      case rel => exact ⟨_, (true), (by first | rfl | (simp; done) | (simp [*]; done)), H', ⟨by first | omega | exact Nat.le_refl _⟩, ⟨by repeat (first | (with_reducible first | exact HB.out | apply below_alloc | apply pw_below_drewN | apply below_drew1) | exact HB.out)⟩⟩
  case rest =>
    clear HC3
    try clear c1
    try clear p2
    try clear c3
    try clear c4
    try clear c5
    try clear c5b0
    try clear c5b1
    obtain ⟨kq, x14_2, rfl, HA, HJ2, HB⟩ := hcut
    cases kq with
    | zero => exact absurd HA.out (by simp [tributaryref07_Within.j0])
    | succ kj2 =>
      have H := HA.out
      clear HA
      simp only [tributaryref07_Within.j0] at H
      by_cases c10 : x14_2 = true
      · subst c10
        have H1 : (some false) = some r := by rw [if_pos rfl] at H; exact H
        clear H
        have H := H1
        clear H1
        obtain rfl := Option.some.inj H
        go_wp2
        go_ret
        exact ⟨by first | rfl | (simp [errW_none, errW_some] <;> rfl) | (simp [*, errW_none, errW_some] <;> rfl), by repeat (first | (with_reducible first | exact HB.out | apply below_alloc | apply pw_below_drewN | apply below_drew1) | exact HB.out)⟩
      · replace c10 := Bool.eq_false_iff.mpr c10
        subst c10
        have H1 : ((some (([] : List (S60)) : List (S60))).bind fun y424 => (if y424.length + l0.length < 5864062014805 then (tributaryref07_Within.l0 kj2 l1 (y424 ++ l0) 0) else (none))) = some r := by rw [if_neg (show ¬ (false = true) by decide)] at H; exact H
        clear H
        have H := H1
        clear H1
        obtain ⟨y424, hy424⟩ : ∃ y_ : List (S60), y_ = (([] : List (S60))) := ⟨_, rfl⟩
        replace H : (if y424.length + l0.length < 5864062014805 then (tributaryref07_Within.l0 kj2 l1 (y424 ++ l0) 0) else (none)) = some r := by first | (rw [hy424]; with_reducible exact H) | (have H2_ := (Option.bind_some _ _).symm.trans H; rw [hy424]; with_reducible exact H2_) | (have H2_ := (Option.bind_some _ _).symm.trans H; with_reducible exact H2_) | with_reducible exact H | (rw [hy424]; exact H) | exact H
        have Ny424 := Aside0.mk hy424
        clear hy424
        by_cases c11 : y424.length + l0.length < 5864062014805
        · rw [if_pos c11] at H
          have LMc11 := Aside0.mk c11
          clear c11
          obtain ⟨y427, hy427⟩ : ∃ y_ : List (S60), y_ = (y424 ++ l0) := ⟨_, rfl⟩
          replace H : (tributaryref07_Within.l0 kj2 l1 y427 0) = some r := by first | (rw [hy427]; with_reducible exact H) | (have H2_ := (Option.bind_some _ _).symm.trans H; rw [hy427]; with_reducible exact H2_) | (have H2_ := (Option.bind_some _ _).symm.trans H; with_reducible exact H2_) | with_reducible exact H | (rw [hy427]; exact H) | exact H
          have Ny427 := Aside0.mk hy427
          clear hy427
          have H' := Aside0.mk H
          clear H
          go_wp2_with (first | ((with_reducible refine gate_dst (N := 15) rfl ?_); refine Kd.R_lit k60 _ 60 ?hg (N := 15) ?hd (xs := ([] : List (S60))) (inner := []) (ok := fun _ => True) (okp := fun _ => True) ?hr ?hp (fun _ hk => hk) trivial (Below.refl _ _) (Nat.le_refl _) (by simp) ?_; (case hd => rfl); (case hg => rfl); (case hr => first | (go_simp; done) | (go_simp; rfl)); (case hp => exact (Reps.none _ _)); intro v425 w12 ho13 hb hg_ hnew_; clear hg_ hnew_; (first | rw [← Ny424.out] at ho13 | (simp only [Int.reduceToNat] at ho13; rw [← Ny424.out] at ho13)); have n0_ := Aside0.mk (Kd.R_lower ho13 (below_size (by repeat (first | (with_reducible first | exact HB.out | apply below_alloc | apply pw_below_drewN | apply below_drew1) | exact HB.out)))); have n1_ := Aside0.mk (below_step (by repeat (first | (with_reducible first | exact HB.out | apply below_alloc | apply pw_below_drewN | apply below_drew1) | exact HB.out)) hb); clear HB; have HO426 := n0_; have HB := n1_; clear n0_ n1_; clear hb ho13) | ((with_reducible refine gate_builtin (b := .append) (xs := #[.tmp 15, .tmp 16]) rfl ?_); at_builtin; refine Kd.R_append_rows k60 (w0 := w) w.heap.size rfl (.tmp 15) (.tmp 16) 22 60 (.agg #[(.int .i64 0), (.int .i64 0), (.int .i64 0)]) 24 rfl Try.underlying22 info60 rfl (by decide) (by omega) v425 y424 l0 _ _ _ (fun _ => True) (fun _ => False) rfl rfl ?aO ?aR (fun _ _ h => h) (fun _ h => h.elim) ?aF ?aB ?aS ?aL ?_; (case aR => repeat (first | exact (Kd.C_below HR0.out HB.out) | (with_reducible refine Kd.C_alloc ?_ _) | (with_reducible refine Kd.C_drewN ?_ _) | (with_reducible refine Kd.C_drew ?_))); (case aB => exact (by repeat (first | (with_reducible first | exact HB.out | apply below_alloc | apply pw_below_drewN | apply below_drew1) | exact HB.out))); (case aF => exact (fun _ _ => trivial)); (case aO => exact (by (with_reducible repeat (first | apply Kd.R_alloc | apply Kd.R_drewN | apply Kd.R_drew)); exact HO426.out)); (case aS => exact (below_size (by repeat (first | (with_reducible first | exact HB.out | apply below_alloc | apply pw_below_drewN | apply below_drew1) | exact HB.out)))); (case aL => have := LMc11.out; omega); intro v428 w14 ho hb hg hat; rw [← Ny427.out] at ho; have n0_ := Aside0.mk (hb); have n1_ := Aside0.mk (ho); clear HB; clear HO426; have HB := n0_; have HO429 := n1_; clear n0_ n1_; clear ho hb hg hat))
          go_loopg [5, 6] kj2 (fun kq v5 v6 w' => ∃ (x5_2 : List (S60)) (x6_2 : Int), v6 = .int .i64 x6_2 ∧ Aside0 (tributaryref07_Within.l0 kq l1 x5_2 x6_2 = some r) ∧ Aside0 (kq ≤ kj2) ∧ Aside0 (Kd.R k60 60 w' w.heap.size (fun _ => True) v5 x5_2) ∧ Aside0 (Below w.heap.size w w'))
          case atStart => exact ⟨(y427), (0), (by first | rfl | (simp; done) | (simp [*]; done)), H', ⟨Nat.le_refl _⟩, ⟨by (with_reducible repeat (first | apply Kd.R_alloc | apply Kd.R_drewN | apply Kd.R_drew)); exact HO429.out⟩, ⟨by repeat (first | (with_reducible first | exact HB.out | apply below_alloc | apply pw_below_drewN | apply below_drew1) | exact HB.out)⟩⟩
          case round =>
            clear H'
            try clear c1
            try clear p2
            try clear c3
            try clear c4
            try clear c5
            try clear c5b0
            try clear c5b1
            try clear c10
            try clear c11
            try clear p2
            obtain ⟨x5_2, x6_2, rfl, HA, HK2, HO_5, HB⟩ := hrel
            cases gk with
            | zero => exact absurd HA.out (by simp [tributaryref07_Within.l0])
            | succ k2 =>
              have H := HA.out
              clear HA
              simp only [tributaryref07_Within.l0] at H
              by_cases c15 : x6_2 < (l1.length : Int)
              · rw [if_pos c15] at H
                have c15b0 : decide (x6_2 < (l1.length : Int)) = true := decide_eq_true c15
                clear c15
                by_cases c16 : 0 ≤ x6_2
                · rw [if_pos c16] at H
                  have c16b0 : decide (0 ≤ x6_2) = true := decide_eq_true c16
                  clear c16
                  replace H := Option.bind_eq_some_iff.mp H
                  obtain ⟨t431, A170, H⟩ := H
                  replace H : (tributaryref07_Within.l0 k2 l1 t431 (wrap64 (x6_2 + 1))) = some r := H
                  have A17 := Aside0.mk A170
                  clear A170
                  have H' := Aside0.mk H
                  clear H
                  have p430 : 0 ≤ (x6_2 : Int) := of_decide_eq_true (by first | (with_reducible assumption) | assumption)
                  have q430 : x6_2 < (l1.length : Int) := of_decide_eq_true (by first | (with_reducible assumption) | assumption)
                  obtain ⟨ad430, e430, hx430_0, hx430_1, hx430_2⟩ := at_T60 HR1.out x6_2 p430 q430
                  cases e430
                  replace hx430_0 := (HB.out.cell (World.block_lt_of_cell? w _ hx430_0)).trans hx430_0
                  replace hx430_1 := (HB.out.cell (World.block_lt_of_cell? w _ hx430_1)).trans hx430_1
                  replace hx430_2 := (HB.out.cell (World.block_lt_of_cell? w _ hx430_2)).trans hx430_2
                  replace p430 := eq_true p430
                  replace q430 := eq_true q430
                  obtain ⟨Ao18, co18, eo18⟩ := Kd.R_slice HO_5.out
                  subst eo18
                  go_wp2_with (first | ((with_reducible refine gate_callee (f := 64) rfl ?_); refine goesL_ (some 29) rfl rfl Try.func64 (by kernel_rfl) rfl #[.slice Ao18 x5_2.length co18, .agg #[.int .i64 ((rd_T60 l1 x6_2).f0), .int .i64 ((rd_T60 l1 x6_2).f1), .int .i64 ((rd_T60 l1 x6_2).f2)]] rfl (by (try simp only [List.map_toArray, List.map_cons, List.map_nil]); first | done | rfl | (simp only [List.length_drop, List.length_take]; rfl)) ?_; (with_reducible refine (tributaryref07_without.calls k2 _ _ x5_2 ((rd_T60 l1 x6_2).f0) ((rd_T60 l1 x6_2).f1) ((rd_T60 l1 x6_2).f2) t431 _ ?side1 ?side2 A17.out).mono ?_); (case side1 => repeat (first | exact (Kd.R_reads' HO_5.out).2.2 | (with_reducible refine Kd.C_alloc ?_ _) | (with_reducible refine Kd.C_drewN ?_ _) | (with_reducible refine Kd.C_drew ?_))); (case side2 => exact (Kd.R_reads' HO_5.out).2.1); rintro e w19 ⟨v432, rfl, ho0, hb⟩; refine ⟨_, rfl, ?_⟩; have n0_ := Aside0.mk (Kd.R_elder' (by (with_reducible repeat (first | apply Kd.R_alloc | apply Kd.R_drewN | apply Kd.R_drew)); exact HO_5.out) (Kd.R_base ho0) hb); have n1_ := Aside0.mk (Kd.R_lower (Kd.R_new' ho0 (Kd.R_lt (by (with_reducible repeat (first | apply Kd.R_alloc | apply Kd.R_drewN | apply Kd.R_drew)); exact HO_5.out))) (below_size (by repeat (first | (with_reducible first | exact HB.out | apply below_alloc | apply pw_below_drewN | apply below_drew1) | exact HB.out)))); have n2_ := Aside0.mk (below_step (by repeat (first | (with_reducible first | exact HB.out | apply below_alloc | apply pw_below_drewN | apply below_drew1) | exact HB.out)) hb); clear HO_5; clear HB; have HO_5 := n0_; have HO433 := n1_; have HB := n2_; clear n0_ n1_ n2_; (try clear hb); (try clear hb2); (try clear hk); (try clear hi); (try clear ho0)))
                  go_roundg k2
                  case measure => have := HJ2.out; have := HK2.out; omega
                  case rel => exact ⟨(t431), (wrap64 (x6_2 + 1)), (by first | rfl | (simp; done) | (simp [*]; done)), H', ⟨by have := HJ2.out; have := HK2.out; omega⟩, ⟨by (with_reducible repeat (first | apply Kd.R_alloc | apply Kd.R_drewN | apply Kd.R_drew)); exact Kd.R_mono HO433.out (fun _ hk => trivial)⟩, ⟨by repeat (first | (with_reducible first | exact HB.out | apply below_alloc | apply pw_below_drewN | apply below_drew1) | exact HB.out)⟩⟩
                · rw [if_neg c16] at H
                  exact absurd H (by simp)
              · rw [if_neg c15] at H
                have c15b0 : decide (x6_2 < (l1.length : Int)) = false := decide_eq_false c15
                clear c15
                obtain rfl := Option.some.inj H
                obtain ⟨Ao20, co20, eo20⟩ := Kd.R_slice HO_5.out
                subst eo20
                go_wp2
                go_ret
                exact ⟨by first | rfl | (simp [errW_none, errW_some] <;> rfl) | (simp [*, errW_none, errW_some] <;> rfl), by repeat (first | (with_reducible first | exact HB.out | apply below_alloc | apply pw_below_drewN | apply below_drew1) | exact HB.out)⟩
        · rw [if_neg c11] at H
          exact absurd H (by simp)
end
end Go.Proofs.YtdelfhahbngcfaaX.P07
end
section
namespace Go.Proofs.YtdelfhahbngcfaaX.P07
open Go.RowKit Go.Shelf Go.Proofs.Ytdelfhahbngcfaa Go.Proofs.YtdelfhahbngcfaaW.PrintWords Go.Proofs.YtdelfhahbngcfaaW.PrintLast Go.Proofs.YtdelfhahbngcfaaW.PrintMore
set_option linter.unusedVariables false
set_option linter.unusedSimpArgs false
attribute [local go_sem] Oper.semAt_some
abbrev kb : Kd Int := Kd.int .u8
def rd_LB (xs : List (List Int)) (i : Int) : List Int := xs.getD i.toNat ([] : List Int)
theorem at_LB {w : World} {A : Option Addr} {n : Nat} {xs : List (List Int)} (h : Kd.C (Kd.slice 5 kb) w A n xs) (i : Int) (h0 : 0 ≤ i) (h1 : i < n) : ∃ ad A0 c0, A = some ad ∧ w.cell? (ad.add i.toNat) = some (.slice A0 (rd_LB xs i).length c0) ∧ (rd_LB xs i).length ≤ c0 ∧ kb.C w A0 (rd_LB xs i).length (rd_LB xs i) := by
  obtain ⟨ad, c, e, _, hK, hc0⟩ := Kd.C_get h ([] : List Int) i h0 h1
  have hc : ∀ j u, c[j]? = some u → w.cell? (ad.add (i.toNat * 1 + j)) = some u := hc0
  obtain ⟨A0, c0, rfl, l0, g0⟩ := hK
  exact ⟨ad, A0, c0, e, by have hq := hc 0 _ rfl; rwa [Nat.mul_one, Nat.add_zero] at hq, l0, g0⟩
theorem own_zero {w : World} {base e sz g n cap : Nat} {xs : List Value} (h : w.ownsRow base e sz (.slice (some ⟨g, 0, none⟩) n cap) n xs) : w.ownsRow base e sz (.slice (some ⟨g, 0, none⟩) 0 cap) 0 [] := by
  rcases h.2 with ⟨h, _⟩ | ⟨g', cap', cur, h1, h2, h3, h4, h5, h6, h7⟩
  · cases h
  · cases h1
    exact ⟨by simp, .inr ⟨g, cap, cur, rfl, h2, h3, Nat.zero_le _, h5, h6, by simp⟩⟩
theorem RB_zero {w : World} {base g n cap : Nat} {xs : List Int} (h : Kd.R kb 5 w base (fun _ => True) (.slice (some ⟨g, 0, none⟩) n cap) xs) : Kd.R kb 5 w base (fun _ => True) (.slice (some ⟨g, 0, none⟩) 0 cap) [] := by
  obtain ⟨inner, ho⟩ := Kd.R_own h
  have hn : xs.length = n := by
    obtain ⟨A, c, e, _⟩ := Kd.R_reads h
    cases e; rfl
  subst hn
  exact ⟨fun _ _ => trivial, [], own_zero ho, by simp [Reps]⟩
theorem RB_some {w : World} {base n : Nat} {v : Value} {xs : List Int} (h : Kd.R kb 5 w base (fun _ => True) v xs) (hn : xs.length = n) (h0 : 0 < n) : ∃ g cap, v = .slice (some ⟨g, 0, none⟩) n cap ∧ n ≤ cap ∧ cap ≤ 9223372036854775807 := by
  obtain ⟨inner, ho⟩ := Kd.R_own h
  subst hn
  rcases ho.2 with ⟨_, h1⟩ | ⟨g, cap, cur, h1, h2, h3, h4, h5, h6, h7⟩
  · omega
  · exact ⟨g, cap, h1, h4, by simpa only [maxLen] using h5⟩
set_option maxRecDepth 100000 in
set_option maxHeartbeats 1000000 in
theorem grow_any (n : Nat) (w : World) (hn : n < 1000000) :
    Calls Try.prog 69 #[.slice none 0 0, .int .i64 (n : Int)] w fun e w' => ∃ v, e = .returned v ∧ Kd.R kb 5 w' w.heap.size (fun _ => True) v [] ∧ Below w.heap.size w w' := by
  by_cases h0 : n = 0
  · subst h0
    go_enter Try.func69, Try.ntmps69
    go_wp2
    go_ret
    exact ⟨_, rfl, Kd.R_nil _ _ _ _ _, Below.refl _ _⟩
  · have g0 : decide ((0 : Int) < (n : Int)) = true := by simp; omega
    have hR0 := Lib.hid (Kd.R_nil kb 5 w w.heap.size (fun _ => True))
    go_enter Try.func69, Try.ntmps69
    go_wp2_with (at_builtin; refine Kd.R_append_zeros kb (w0 := w) w.heap.size rfl (.tmp 20) (.tmp 21) 23 3 5 _ 1 rfl Try.underlying23 Try.underlying3 info5 rfl (by decide) (by decide) (.slice none 0 0) [] (0 : Int) (kx := .i64) (n : Int) (fun _ => True) rfl rfl (show kb.M _ _ _ (0 : Int) [.int .u8 0] from rfl) (fun _ _ => trivial) hR0.out (by omega) (Below.refl _ _) (Nat.le_refl _) (by simp; omega) ?_; intro v1 w1 ho hb hg hat; obtain ⟨g, cap, rfl, hc1, hc2⟩ := RB_some ho (n := n) (by simp) (by omega); have HO := Lib.hid (RB_zero ho); have HBB := Lib.hid hb; clear ho hb hg hat)
    go_ret
    exact ⟨_, rfl, HO.out, HBB.out⟩
theorem flat_take (l : List (List Int)) (k : Nat) (h : k < l.length) : (l.take (k + 1)).flatten = (l.take k).flatten ++ (rd_LB l (k : Int)) := by
  rw [List.take_succ_eq_append_getElem h, List.flatten_append]
  simp [rd_LB, List.getD_eq_getElem?_getD, h]
theorem flat_le (l : List (List Int)) (k : Nat) : (l.take k).flatten.length ≤ l.flatten.length := by
  conv => rhs; rw [← List.take_append_drop k l, List.flatten_append, List.length_append]
  omega
theorem addr_plain0 {w : World} {x : Addr} {v : Value} (h : w.cell? x = some v) : ∃ b off, x = ⟨b, off, none⟩ := by
  obtain ⟨b, off, spot⟩ := x
  cases spot with
  | none => exact ⟨b, off, rfl⟩
  | some s => simp [World.cell?] at h; split at h <;> simp_all
theorem rows_of_C {w : World} {A : Option Addr} {n : Nat} {l : List (List Int)} (h : Kd.C (Kd.slice 5 kb) w A n l) (h0 : 0 < n) : ∃ b off, A = some ⟨b, off, none⟩ ∧ ∀ k : Nat, k < n → ∃ A1 c1, w.cell? ⟨b, off + k, none⟩ = some (.slice A1 (rd_LB l k).length c1) ∧ (rd_LB l k).length ≤ c1 ∧ kb.C w A1 (rd_LB l k).length (rd_LB l k) := by
  obtain ⟨ad, A1, c1, rfl, hc, _⟩ := at_LB h 0 (by omega) (by omega)
  obtain ⟨b, off, rfl⟩ := addr_plain0 (x := ad) (by simpa [Addr.add] using hc)
  refine ⟨b, off, rfl, fun k hk => ?_⟩
  obtain ⟨ad, A1, c1, e, hc, hl, hC⟩ := at_LB h (k : Int) (by omega) (by omega)
  cases e
  have hadd : (⟨b, off, none⟩ : Addr).add k = ⟨b, off + k, none⟩ := by unfold Addr.add; split <;> simp_all
  simp only [Int.toNat_natCast, hadd] at hc
  exact ⟨A1, c1, hc, hl, hC⟩
theorem kb_flat {W : World} (x : Int) (cs : List Value) (base : Nat) (ok : Nat → Prop) (h : kb.K W x cs) : kb.M W base ok x cs := h
set_option maxRecDepth 100000 in
set_option maxHeartbeats 4000000 in
theorem concat_any (A0 : Option Addr) (c0 : Nat) (l0 : List (List (Int))) (w : World) (hr0 : Kd.C (Kd.slice 5 kb) w A0 l0.length l0) (hc0 : l0.length ≤ c0) (h1 : l0.length < 1000) (h2 : l0.flatten.length < 1000000) :
    Calls Try.prog 48 #[.slice A0 l0.length c0] w fun e w' => ∃ v0_ : Value, e = .returned (v0_) ∧ Kd.R kb 5 w' w.heap.size (fun _ => True) v0_ l0.flatten ∧ Below w.heap.size w w' := by
  have HEL := Lib.hid (show ∀ (k : Nat), k < l0.length → ∃ b off, A0 = some ⟨b, off, none⟩ ∧ ∀ W : World, Below w.heap.size w W → ∃ A1 c1, W.cell? ⟨b, off + k, none⟩ = some (.slice A1 (rd_LB l0 k).length c1) ∧ (rd_LB l0 k).length ≤ c1 ∧ kb.C W A1 (rd_LB l0 k).length (rd_LB l0 k) from fun k hk => by
    obtain ⟨b, off, rfl, hf⟩ := rows_of_C hr0 (by omega)
    obtain ⟨A1, c1, hc, hl, hC⟩ := hf k hk
    exact ⟨b, off, rfl, fun W hb => ⟨A1, c1, below_cell hb hc, hl, Kd.C_below hC hb⟩⟩)
  have HFL := Lib.hid (fun k => flat_le l0 k)
  have HTK := Lib.hid (fun k hk => flat_take l0 k hk)
  obtain ⟨N, hN⟩ : ∃ N, N = l0.length := ⟨_, rfl⟩
  rw [← hN] at HEL HTK hc0 h1 ⊢
  have HN := Lib.hid hN
  clear hr0 hN
  go_enter Try.func48, Try.ntmps48
  go_wp2
  go_loopw [3, 11] (fun s i wr => ∃ k m : Nat, k ≤ N ∧ i = .int .i64 k ∧ s = .int .i64 (m : Int) ∧ Hid (m = (l0.take k).flatten.length) ∧ Hid (w = wr)) (fun _ i _ => N - (intOf i).toNat)
  case atStart => exact ⟨0, 0, Nat.zero_le _, rfl, rfl, Lib.hid rfl, Lib.hid rfl⟩
  case round =>
    obtain ⟨k, m, hk, rfl, rfl, HMK, HW⟩ := hrel
    obtain rfl := HW.out
    have HFIN := Lib.hid HFL.out
    by_cases hlt : k < N
    · obtain ⟨b, off, rfl, hf⟩ := HEL.out k hlt
      obtain ⟨A1, c1, hc, hl, hC⟩ := hf w (Below.refl _ _)
      have hs2 := HFL.out (k + 1)
      have ht := HTK.out k hlt
      have hlen : (l0.take (k + 1)).flatten.length = (l0.take k).flatten.length + (rd_LB l0 k).length := by rw [ht, List.length_append]
      have HL := Lib.hid (show (l0.take (k + 1)).flatten.length = m + (rd_LB l0 k).length by rw [hlen, HMK.out])
      have hb1 : m + (rd_LB l0 k).length < 1000000 := by rw [← HL.out]; omega
      clear ht hlen hC hf hs2
      obtain ⟨q, hq⟩ : ∃ q, q = (rd_LB l0 k).length := ⟨_, rfl⟩
      rw [← hq] at hc hl hb1
      have HQ := Lib.hid hq; clear hq
      have hneg : decide ((m : Int) + (q : Int) < 0) = false := by simp; omega
      go_wp2
      go_roundw
      case rel => exact ⟨k + 1, m + q, by omega, by go_num, by go_num, Lib.hid (by rw [HL.out, HQ.out]), Lib.hid trivial⟩
      case measure => simp [intOf]; omega
    · obtain rfl : k = N := by omega
      have hall : (l0.take k).flatten = l0.flatten := by rw [HN.out, List.take_length]
      have hM : m = l0.flatten.length := by rw [HMK.out, hall]
      rw [← hM] at h2
      have HALL := Lib.hid hall; have HM := Lib.hid hM
      clear hall hM
      go_wp2_with (go_at_call 69; refine (grow_any m w h2).mono ?_; rintro e w1 ⟨v1, rfl, ho, hb⟩; have HO := Lib.hid ho; have HB := Lib.hid hb; clear ho hb)
      go_loopw [6, 27] (fun v i wr => ∃ j : Nat, j ≤ k ∧ i = .int .i64 j ∧ (∃ L, Hid (L = (l0.take j).flatten ∧ Kd.R kb 5 wr w.heap.size (fun _ => True) v L)) ∧ Hid (Below w.heap.size w wr)) (fun _ i _ => k - (intOf i).toNat)
      case atStart => exact ⟨0, Nat.zero_le _, rfl, ⟨_, Lib.hid ⟨rfl, HO.out⟩⟩, HB⟩
      case round =>
        clear HO HB
        obtain ⟨j, hj, rfl, ⟨L, HLO⟩, HB⟩ := hrel
        have HO := Lib.hid HLO.out.2
        by_cases hlj : j < k
        · obtain ⟨b, off, rfl, hf⟩ := HEL.out j hlj
          obtain ⟨A1, c1, hc, hl, hC⟩ := hf wr HB.out
          have ht := HTK.out j hlj
          have hs1 := HFIN.out (j + 1)
          have hb1 : L.length + (rd_LB l0 j).length < 1000000 := by rw [ht, List.length_append, ← HM.out] at hs1; rw [HLO.out.1]; omega
          have HC := Lib.hid hC; have HT := Lib.hid ht
          clear hf hC ht hs1
          go_wp2_with (at_builtin; refine Kd.R_append_rows kb (Rr := kb.K wr) (w0 := w) w.heap.size rfl (.tmp 31) (.tmp 32) 23 5 _ 1 rfl Try.underlying23 info5 rfl (by decide) (by decide) _ _ _ _ _ _ (fun _ => True) (fun _ => False) rfl rfl HO.out HC.out (fun x cs h => kb_flat x cs _ _ h) (fun _ h => h.elim) (fun _ _ => trivial) HB.out HB.out.size (by omega) ?_; intro v1 w1 ho hb hg hat; have HO1 := Lib.hid ho; have HB1 := Lib.hid hb; clear ho hb hg hat)
          go_roundw
          case rel => exact ⟨j + 1, by omega, by go_num, ⟨_, Lib.hid ⟨by rw [HT.out, HLO.out.1], HO1.out⟩⟩, HB1⟩
          case measure => simp [intOf]; omega
        · obtain rfl : j = k := by omega
          go_wp2
          go_ret
          exact ⟨_, rfl, by rw [← HALL.out, ← HLO.out.1]; exact HO.out, HB.out⟩
end Go.Proofs.YtdelfhahbngcfaaX.P07
end
section
namespace Go.Proofs.YtdelfhahbngcfaaX.P07
open Go.Proofs.Ytdelfhahbngcfaa hiding blk_cell blk_new blk_lt blk_set blk_below
open Go.RowKit Go.Shelf Go.Proofs.YtdelfhahbngcfaaW.PrintWords Go.Proofs.YtdelfhahbngcfaaW.PrintLast Go.Proofs.YtdelfhahbngcfaaW.PrintMore
set_option linter.unusedVariables false
set_option linter.unusedSimpArgs false
attribute [local go_sem] Oper.semAt_some
def fourL (a : Int) : List Int := [(a / 16777216) % 256, (a / 65536) % 256, (a / 256) % 256, a % 256]
def oneB (x : S60) : List Int := [x.f0 % 256] ++ fourL x.f1 ++ fourL x.f2
def bytesL (l : List S60) : List Int := (fourL (l.length : Int)).drop 2 ++ l.flatMap oneB
theorem C4 {w : World} {G : Nat} {l0 l1 l2 l3 : List Int} {A0 A1 A2 A3 : Option Addr} {c0 c1 c2 c3 : Nat}
    (h0 : w.cell? ⟨G, 0, none⟩ = some (.slice A0 l0.length c0)) (h1 : w.cell? ⟨G, 1, none⟩ = some (.slice A1 l1.length c1)) (h2 : w.cell? ⟨G, 2, none⟩ = some (.slice A2 l2.length c2)) (h3 : w.cell? ⟨G, 3, none⟩ = some (.slice A3 l3.length c3))
    (k0 : l0.length ≤ c0 ∧ kb.C w A0 l0.length l0) (k1 : l1.length ≤ c1 ∧ kb.C w A1 l1.length l1) (k2 : l2.length ≤ c2 ∧ kb.C w A2 l2.length l2) (k3 : l3.length ≤ c3 ∧ kb.C w A3 l3.length l3) :
    Kd.C (Kd.slice 5 kb) w (some ⟨G, 0, none⟩) 4 [l0, l1, l2, l3] := by
  refine ⟨rfl, by decide, fun _ => ⟨⟨G, 0, none⟩, rfl, fun j p hp => ?_⟩⟩
  have one : ∀ (i : Nat) (A : Option Addr) (l : List Int) (c : Nat), w.cell? ⟨G, i, none⟩ = some (.slice A l.length c) → l.length ≤ c ∧ kb.C w A l.length l → ∃ cs, cs.length = (Kd.slice 5 kb).sz ∧ (Kd.slice 5 kb).K w l cs ∧ ∀ t u, cs[t]? = some u → w.cell? ((⟨G, 0, none⟩ : Addr).add (i * (Kd.slice 5 kb).sz + t)) = some u := fun i A l c hc hk =>
    ⟨[.slice A l.length c], rfl, ⟨A, c, rfl, hk.1, hk.2⟩, fun t u hu => by
      have ht : t = 0 := by
        have := (List.getElem?_eq_some_iff.1 hu).1
        simp at this; omega
      subst ht
      have e : u = .slice A l.length c := by simpa using hu.symm
      rw [e, show ((⟨G, 0, none⟩ : Addr).add (i * (Kd.slice 5 kb).sz + 0)) = ⟨G, i, none⟩ by
        have : i * (Kd.slice 5 kb).sz + 0 = i := Nat.mul_one i
        rw [this]; unfold Addr.add; split <;> simp_all]
      exact hc⟩
  match j, hp with
  | 0, hp => have e : p = l0 := by simpa using hp.symm
             subst e; exact one 0 A0 _ c0 h0 k0
  | 1, hp => have e : p = l1 := by simpa using hp.symm
             subst e; exact one 1 A1 _ c1 h1 k1
  | 2, hp => have e : p = l2 := by simpa using hp.symm
             subst e; exact one 2 A2 _ c2 h2 k2
  | 3, hp => have e : p = l3 := by simpa using hp.symm
             subst e; exact one 3 A3 _ c3 h3 k3
  | n + 4, hp => simp at hp
theorem concat4 (base G1 b1 b2 c0 : Nat) (A0 : Option Addr) (l0 : List Int) (x : S60) (vA vB : Value) (V w0 : World) (hw0 : Below w0.heap.size w0 V) (hbw : base ≤ V.heap.size) (h0 : l0.length ≤ c0 ∧ kb.C V A0 l0.length l0) (hG : V.heap[G1]? = some (.cells #[.int .u8 (x.f0 % 256)] 5))
    (hA : Kd.R kb 5 V b1 (fun _ => True) vA (fourL x.f1)) (hB : Kd.R kb 5 V b2 (fun _ => True) vB (fourL x.f2)) (hlen : l0.length < 990000) :
    Calls Try.prog 48 #[.slice (some ⟨V.heap.size, 0, none⟩) 4 4] (V.alloc (.cells #[.slice A0 l0.length c0, .slice (some ⟨G1, 0, none⟩) 1 1, vA, vB] 23)) fun e w' => ∃ v, e = .returned v ∧ Kd.R kb 5 w' base (fun _ => True) v (l0 ++ oneB x) ∧ Below V.heap.size V w' ∧ Below w0.heap.size w0 w' := by
  obtain ⟨A2, c2, rfl, k2, r2⟩ := Kd.R_reads hA
  obtain ⟨A3, c3, rfl, k3, r3⟩ := Kd.R_reads hB
  have hbl : Below V.heap.size V (V.alloc (.cells #[.slice A0 l0.length c0, .slice (some ⟨G1, 0, none⟩) 1 1, .slice A2 (fourL x.f1).length c2, .slice A3 (fourL x.f2).length c3] 23)) := (Below.refl _ V).alloc (Nat.le_refl _) _
  have hN := blk_new V (.cells #[.slice A0 l0.length c0, .slice (some ⟨G1, 0, none⟩) 1 1, .slice A2 (fourL x.f1).length c2, .slice A3 (fourL x.f2).length c3] 23)
  have r1 : kb.C V (some ⟨G1, 0, none⟩) 1 [x.f0 % 256] := ⟨rfl, by decide, fun _ => ⟨_, rfl, fun j p hp => by
    cases j with
    | zero =>
      have e : p = x.f0 % 256 := by simpa using hp.symm
      subst e
      refine ⟨[.int .u8 (x.f0 % 256)], rfl, rfl, fun t u hu => ?_⟩
      have ht : t = 0 := by have := (List.getElem?_eq_some_iff.1 hu).1; simp at this; omega
      subst ht
      have e2 : u = .int .u8 (x.f0 % 256) := by simpa using hu.symm
      rw [e2]
      exact (blk_cell hG 0).trans rfl
    | succ j => simp at hp⟩⟩
  have hC := C4 (l1 := [x.f0 % 256]) ((blk_cell hN 0).trans rfl) ((blk_cell hN 1).trans rfl) ((blk_cell hN 2).trans rfl) ((blk_cell hN 3).trans rfl) ⟨h0.1, Kd.C_below h0.2 hbl⟩ ⟨Nat.le_refl 1, Kd.C_below r1 hbl⟩ ⟨k2, Kd.C_below r2 hbl⟩ ⟨k3, Kd.C_below r3 hbl⟩
  refine (concat_any (some ⟨V.heap.size, 0, none⟩) 4 [l0, [x.f0 % 256], fourL x.f1, fourL x.f2] _ hC (Nat.le_refl 4) (by show 4 < 1000; decide) (by simp [fourL]; omega)).mono ?_
  rintro e w' ⟨v, rfl, ho, hb⟩
  refine ⟨v, rfl, ?_, hbl.trans (hb.mono hbl.size), hw0.trans ((hbl.trans (hb.mono hbl.size)).mono hw0.size)⟩
  have := Kd.R_lower ho (Nat.le_trans hbw hbl.size)
  simpa [oneB, List.append_assoc] using this
theorem blk_thru {W W' : World} {g : Nat} {o : Obj} (hb : Below W.heap.size W W') (h : W.heap[g]? = some o) : W'.heap[g]? = some o := (hb.block g (blk_lt h)).trans h
def past_Bytes.f (k : Nat) (l0 : List S60) : Option (List Int × Int) := if l0.length ≤ 100000 then (past_Check.f k l0).bind fun e => if e = 0 then some (bytesL l0, 0) else some ([], e) else none
theorem past_Bytes.mono : ∀ a0 k, LeO (past_Bytes.f k a0) (past_Bytes.f (k + 1) a0) := fun a0 k => by
  unfold past_Bytes.f
  exact LeO.ite (LeO.bind (past_Check.mono a0 k) (fun _ => LeO.refl _)) (LeO.refl _)
theorem bytes_len (l : List S60) : (l.flatMap oneB).length = l.length * 9 := by
  induction l with
  | nil => rfl
  | cons x r ih => rw [List.flatMap_cons, List.length_append, ih]; simp [oneB, fourL]; omega
set_option maxRecDepth 100000 in
set_option maxHeartbeats 8000000 in
theorem past_Bytes.calls (k : Nat) (A0 : Option Addr) (c0 : Nat) (l0 : List (S60)) (r1 : List Int) (r2 : Int) (w : World) (hr0 : Kd.C k60 w A0 l0.length l0) (hc0 : l0.length ≤ c0) (h : past_Bytes.f k l0 = some (r1, r2)) :
    Calls Try.prog 13 #[.slice A0 l0.length c0] w fun e w' => ∃ v0_ : Value, e = .returned (.tuple #[v0_, .int .i64 r2]) ∧ Kd.Q kb 5 w' w.heap.size (fun _ => True) v0_ r1 ∧ Below w.heap.size w w' := by
  unfold past_Bytes.f at h
  by_cases hn : l0.length ≤ 100000
  rotate_left
  · rw [if_neg hn] at h; cases h
  rw [if_pos hn] at h
  obtain ⟨e0, he, h⟩ := Option.bind_eq_some_iff.mp h
  have HX := Lib.hid (fun h0 => cells60 hr0 h0)
  have HCHK := Lib.hid (past_Check.calls k A0 c0 l0 e0 w hr0 hc0 he)
  obtain ⟨N, hN⟩ : ∃ N, N = l0.length := ⟨_, rfl⟩
  have HN := Lib.hid hN
  rw [← hN] at hn HCHK ⊢
  clear he hr0 hN
  by_cases h0 : e0 = 0
  rotate_left
  · rw [if_neg h0] at h
    obtain ⟨rfl, rfl⟩ := Prod.mk.inj (Option.some.inj h)
    have h0' : (e0 != 0) = true := bne_iff_ne.2 h0
    clear h h0
    go_enter Try.func13, Try.ntmps13
    go_wp2_with (go_at_call 38; refine HCHK.out.mono ?_; rintro e w1 ⟨rfl, hbel⟩; have HB := Lib.hid hbel; clear hbel)
    go_ret2
    exact ⟨_, rfl, Kd.Q_of_R (Kd.R_nil _ _ _ _ _), HB.out⟩
  subst h0
  rw [if_pos rfl] at h
  obtain ⟨rfl, rfl⟩ := Prod.mk.inj (Option.some.inj h)
  clear h
  go_enter Try.func13, Try.ntmps13
  go_wp2_with first | (go_at_call 38; refine HCHK.out.mono ?_; rintro e w1 ⟨rfl, hbel⟩; have HB := Lib.hid hbel; clear hbel) | (go_at_call 47; refine (past_four.calls (N : Int) (fourL (N : Int)) _ rfl).mono ?_; rintro e w2 ⟨v2, rfl, ho, hbel⟩; have HO := Lib.hid ho; have HB2 := Lib.hid hbel; clear ho hbel; obtain ⟨g2, c2, rfl, hc2, hm2⟩ := RB_some HO.out (n := 4) rfl (by decide))
  have HQ0 := Lib.hid (show Kd.Q kb 5 w2 w.heap.size (fun _ => True) (.slice (some ⟨g2, 2, none⟩) 2 (c2 - 2)) ((fourL (N : Int)).drop 2) ∧ Below w.heap.size w w2 from by
    refine ⟨?_, HB.out.trans (HB2.out.mono HB.out.size)⟩
    have := Kd.Q_drop (k := 2) (Kd.Q_of_R (Kd.R_lower HO.out HB.out.size)) (show 2 ≤ 4 by omega)
    rw [if_neg (by omega)] at this
    exact this)
  go_wp2
  go_loopw [5, 19] (fun v i wr => ∃ j : Nat, j ≤ N ∧ i = .int .i64 j ∧ Hid (Kd.Q kb 5 wr w.heap.size (fun _ => True) v ((fourL (N : Int)).drop 2 ++ (l0.take j).flatMap oneB) ∧ Below w.heap.size w wr)) (fun _ i _ => N - (intOf i).toNat)
  case atStart => exact ⟨0, Nat.zero_le _, rfl, Lib.hid ⟨by simpa using HQ0.out.1, HQ0.out.2⟩⟩
  case round =>
    clear HQ0 HO HB HB2
    obtain ⟨j, hj, rfl, HI⟩ := hrel
    by_cases hlt : j < N
    · have hkl : j < l0.length := by rw [← HN.out]; exact hlt
      obtain ⟨b, off, rfl, hc⟩ := HX.out (by omega)
      obtain ⟨q0, q1, q2⟩ := hc j hkl
      obtain ⟨x, hx⟩ : ∃ x, x = rd_T60 l0 (j : Int) := ⟨_, rfl⟩
      rw [← hx] at q0 q1 q2
      replace q0 := (HI.out.2.cell (World.block_lt_of_cell? w _ q0)).trans q0
      replace q1 := (HI.out.2.cell (World.block_lt_of_cell? w _ q1)).trans q1
      replace q2 := (HI.out.2.cell (World.block_lt_of_cell? w _ q2)).trans q2
      have hxx : l0[j] = x := by rw [hx]; unfold rd_T60; simp [List.getD_eq_getElem?_getD, hkl]
      obtain ⟨ol, hol⟩ : ∃ ol, ol = (fourL (N : Int)).drop 2 ++ (l0.take j).flatMap oneB := ⟨_, rfl⟩
      have HT := Lib.hid (show (fourL (N : Int)).drop 2 ++ (l0.take (j + 1)).flatMap oneB = ol ++ oneB x by rw [List.take_succ_eq_append_getElem hkl, hxx, List.flatMap_append, hol]; simp)
      have hlen : ol.length < 990000 := by rw [hol, List.length_append, bytes_len]; simp [fourL]; omega
      rw [← hol] at HI
      obtain ⟨Av, cv, rfl, hcv, hCv⟩ := Kd.Q_reads HI.out.1
      have hbT : Below wr.heap.size wr (wr.alloc (.cells #[.int .i64 x.f0, .int .i64 x.f1, .int .i64 x.f2] 60)) := (Below.refl _ wr).alloc (Nat.le_refl _) _
      have HS := Lib.hid (show ∀ W, Below (wr.alloc (.cells #[.int .i64 x.f0, .int .i64 x.f1, .int .i64 x.f2] 60)).heap.size (wr.alloc (.cells #[.int .i64 x.f0, .int .i64 x.f1, .int .i64 x.f2] 60)) W → W.cell? ⟨wr.heap.size, 0, none⟩ = some (.int .i64 x.f0) ∧ W.cell? ⟨wr.heap.size, 1, none⟩ = some (.int .i64 x.f1) ∧ W.cell? ⟨wr.heap.size, 2, none⟩ = some (.int .i64 x.f2) from fun W hW => by
        have := blk_thru hW (blk_new wr (.cells #[.int .i64 x.f0, .int .i64 x.f1, .int .i64 x.f2] 60))
        exact ⟨(blk_cell this 0).trans rfl, (blk_cell this 1).trans rfl, (blk_cell this 2).trans rfl⟩)
      have HOUT := Lib.hid (show ∀ W, Below (wr.alloc (.cells #[.int .i64 x.f0, .int .i64 x.f1, .int .i64 x.f2] 60)).heap.size (wr.alloc (.cells #[.int .i64 x.f0, .int .i64 x.f1, .int .i64 x.f2] 60)) W → w.heap.size ≤ W.heap.size ∧ (ol.length ≤ cv ∧ kb.C W Av ol.length ol) from fun W hW => ⟨by have := hW.size; have := hbT.size; have := HI.out.2.size; omega, hcv, Kd.C_below (Kd.C_below hCv hbT) hW⟩)
      have HBW := Lib.hid (show ∀ W, Below (wr.alloc (.cells #[.int .i64 x.f0, .int .i64 x.f1, .int .i64 x.f2] 60)).heap.size (wr.alloc (.cells #[.int .i64 x.f0, .int .i64 x.f1, .int .i64 x.f2] 60)) W → Below w.heap.size w W from fun W hW => HI.out.2.trans ((hbT.trans (hW.mono hbT.size)).mono HI.out.2.size))
      have e8 : IntKind.u8.wrap x.f0 = x.f0 % 256 := IntKind.wrap_u8 _
      have s0 := HS.out _ (Below.refl _ _)
      have HGA := Lib.hid (show ((wr.alloc (.cells #[.int .i64 x.f0, .int .i64 x.f1, .int .i64 x.f2] 60)).alloc (.cells #[.int .u8 (x.f0 % 256)] 5)).heap[wr.heap.size + 1]? = some (.cells #[.int .u8 (x.f0 % 256)] 5) from by
        have := blk_new (wr.alloc (.cells #[.int .i64 x.f0, .int .i64 x.f1, .int .i64 x.f2] 60)) (.cells #[.int .u8 (x.f0 % 256)] 5)
        rwa [show (wr.alloc (.cells #[.int .i64 x.f0, .int .i64 x.f1, .int .i64 x.f2] 60)).heap.size = wr.heap.size + 1 by simp] at this)
      clear hc hx hxx hkl hol hCv hbT
      go_wp2_with fail
      have hV0 : Below (wr.alloc (.cells #[.int .i64 x.f0, .int .i64 x.f1, .int .i64 x.f2] 60)).heap.size (wr.alloc (.cells #[.int .i64 x.f0, .int .i64 x.f1, .int .i64 x.f2] 60)) (wr.alloc (.cells #[.int .i64 x.f0, .int .i64 x.f1, .int .i64 x.f2] 60)).drew := below_drew1 (Below.refl _ _)
      refine wp_region_held_drew (S := (fun W => W.cell? ⟨wr.heap.size, 0, none⟩ = some (.int .i64 x.f0) ∧ W.cell? ⟨wr.heap.size, 1, none⟩ = some (.int .i64 x.f1) ∧ W.cell? ⟨wr.heap.size, 2, none⟩ = some (.int .i64 x.f2))) (by kernel_rfl) (HS.out _ hV0) (fun hHeld => ?_)
      refine wpAnyH_take (i := 0) (oi := { dst := some 23, op := Go.Op.move (Go.Operand.tmp 5), type := 23, pos := "past.go:213", after := #[], guard := none }) (v := .slice Av ol.length cv) rfl (by kernel_rfl) (by kernel_rfl) (by kernel_rfl) (fun _ _ _ h => h) (Or.inl ⟨by rfl, ?_⟩) (by assumption) ?_
      · intro W hSw
        go_simp
      simp only [Act.put, List.setIfInBounds_toArray, List.set_cons_zero, List.set_cons_succ]
      refine wpAnyH_take (i := 1) (oi := { dst := some 24, op := Go.Op.fieldAddr 60 (Go.Operand.tmp 7) 0, type := 0, pos := "past.go:213", after := #[], guard := none }) (v := .pointer (some ⟨wr.heap.size, 0, none⟩)) rfl (by kernel_rfl) (by kernel_rfl) (by kernel_rfl) (fun _ _ _ h => h) (Or.inl ⟨by rfl, ?_⟩) (by assumption) ?_
      · intro W hSw
        go_simp
      simp only [Act.put, List.setIfInBounds_toArray, List.set_cons_zero, List.set_cons_succ]
      refine wpAnyH_take (i := 2) (oi := { dst := some 25, op := Go.Op.load 3 (Go.Operand.tmp 24), type := 3, pos := "past.go:213", after := #[{ on := 1, ground := Go.Ground.data }], guard := none }) (v := .int .i64 x.f0) rfl (by kernel_rfl) (by kernel_rfl) (by kernel_rfl) (fun _ _ _ h => h) (Or.inl ⟨by rfl, ?_⟩) (by assumption) ?_
      · intro W hSw
        go_simp
      simp only [Act.put, List.setIfInBounds_toArray, List.set_cons_zero, List.set_cons_succ]
      refine wpAnyH_take (i := 3) (oi := { dst := some 26, op := Go.Op.convert 3 5 (Go.Operand.tmp 25), type := 5, pos := "past.go:213", after := #[{ on := 2, ground := Go.Ground.data }], guard := none }) (v := .int .u8 (x.f0 % 256)) rfl (by kernel_rfl) (by kernel_rfl) (by kernel_rfl) (fun _ _ _ h => h) (Or.inl ⟨by rfl, ?_⟩) (by assumption) ?_
      · intro W hSw
        go_simp
      simp only [Act.put, List.setIfInBounds_toArray, List.set_cons_zero, List.set_cons_succ]
      refine wpAnyH_take (i := 5) (oi := { dst := some 28, op := Go.Op.fieldAddr 60 (Go.Operand.tmp 7) 1, type := 0, pos := "past.go:213", after := #[], guard := none }) (v := .pointer (some ⟨wr.heap.size, 1, none⟩)) rfl (by kernel_rfl) (by kernel_rfl) (by kernel_rfl) (fun _ _ _ h => h) (Or.inl ⟨by rfl, ?_⟩) (by assumption) ?_
      · intro W hSw
        go_simp
      simp only [Act.put, List.setIfInBounds_toArray, List.set_cons_zero, List.set_cons_succ]
      refine wpAnyH_take (i := 6) (oi := { dst := some 29, op := Go.Op.load 3 (Go.Operand.tmp 28), type := 3, pos := "past.go:213", after := #[{ on := 5, ground := Go.Ground.data }], guard := none }) (v := .int .i64 x.f1) rfl (by kernel_rfl) (by kernel_rfl) (by kernel_rfl) (fun _ _ _ h => h) (Or.inl ⟨by rfl, ?_⟩) (by assumption) ?_
      · intro W hSw
        go_simp
      simp only [Act.put, List.setIfInBounds_toArray, List.set_cons_zero, List.set_cons_succ]
      refine wpAnyH_take (i := 8) (oi := { dst := some 31, op := Go.Op.fieldAddr 60 (Go.Operand.tmp 7) 2, type := 0, pos := "past.go:213", after := #[], guard := none }) (v := .pointer (some ⟨wr.heap.size, 2, none⟩)) rfl (by kernel_rfl) (by kernel_rfl) (by kernel_rfl) (fun _ _ _ h => h) (Or.inl ⟨by rfl, ?_⟩) (by assumption) ?_
      · intro W hSw
        go_simp
      simp only [Act.put, List.setIfInBounds_toArray, List.set_cons_zero, List.set_cons_succ]
      refine wpAnyH_take (i := 9) (oi := { dst := some 32, op := Go.Op.load 3 (Go.Operand.tmp 31), type := 3, pos := "past.go:213", after := #[{ on := 8, ground := Go.Ground.data }], guard := none }) (v := .int .i64 x.f2) rfl (by kernel_rfl) (by kernel_rfl) (by kernel_rfl) (fun _ _ _ h => h) (Or.inl ⟨by rfl, ?_⟩) (by assumption) ?_
      · intro W hSw
        go_simp
      simp only [Act.put, List.setIfInBounds_toArray, List.set_cons_zero, List.set_cons_succ]
      obtain ⟨W0, hW0⟩ : ∃ W, W = (wr.alloc (.cells #[.int .i64 x.f0, .int .i64 x.f1, .int .i64 x.f2] 60)).drew := ⟨_, rfl⟩
      rw [← hW0] at hHeld hV0 ⊢
      clear hW0
      refine wpAnyH_ready (rs := [4, 7]) (by kernel_rfl) (by simp) ?_
      refine AllReadyH.cons (o := { dst := some 27, op := Go.Op.buildSlice 23 1 #[(0, Go.Operand.tmp 26)], type := 23, pos := "past.go:213", after := #[{ on := 3, ground := Go.Ground.data }], guard := none }) rfl (fun K hK => ?_) (AllReadyH.cons (o := { dst := some 30, op := Go.Op.call { callee := Go.Callee.value (Go.Operand.func 47), args := #[Go.Operand.tmp 29], argTypes := #[3] }, type := 23, pos := "past.go:213", after := #[{ on := 6, ground := Go.Ground.data }], guard := none }) rfl (fun K hK => ?_) (AllReadyH.nil))
      · go_simp
        have bV1 : Below (wr.alloc (.cells #[.int .i64 x.f0, .int .i64 x.f1, .int .i64 x.f2] 60)).heap.size (wr.alloc (.cells #[.int .i64 x.f0, .int .i64 x.f1, .int .i64 x.f2] 60)) (W0.alloc (.cells #[.int .u8 (x.f0 % 256)] 5)) := below_alloc hV0 _
        refine hK.out _ _ (HS.out _ bV1) (fun hHeld => ?_)
        clear hK K
        try simp only [Act.put, List.setIfInBounds_toArray, List.set_cons_zero, List.set_cons_succ]
        have hG1 := blk_new W0 (.cells #[.int .u8 (x.f0 % 256)] 5)
        have hs1 : Below W0.heap.size W0 (W0.alloc (.cells #[.int .u8 (x.f0 % 256)] 5)) := below_alloc (Below.refl _ _) _
        obtain ⟨V1, hV1⟩ : ∃ V, V = W0.alloc (.cells #[.int .u8 (x.f0 % 256)] 5) := ⟨_, rfl⟩
        rw [← hV1] at hHeld bV1 hG1 hs1 ⊢
        clear hV1
        refine wpAnyH_ready (rs := [7]) (by kernel_rfl) (by simp) ?_
        refine AllReadyH.cons (o := { dst := some 30, op := Go.Op.call { callee := Go.Callee.value (Go.Operand.func 47), args := #[Go.Operand.tmp 29], argTypes := #[3] }, type := 23, pos := "past.go:213", after := #[{ on := 6, ground := Go.Ground.data }], guard := none }) rfl (fun K hK => ?_) (AllReadyH.nil)
        · go_simp
          refine (past_four.calls x.f1 (fourL x.f1) _ rfl).mono ?_
          rintro e V2 ⟨v2, rfl, ho2, hs2⟩
          obtain ⟨g2, c2, rfl, _, _⟩ := RB_some ho2 (n := 4) rfl (by decide)
          have bV2 : Below (wr.alloc (.cells #[.int .i64 x.f0, .int .i64 x.f1, .int .i64 x.f2] 60)).heap.size (wr.alloc (.cells #[.int .i64 x.f0, .int .i64 x.f1, .int .i64 x.f2] 60)) V2 := bV1.trans (hs2.mono bV1.size)
          go_wp2_with fail
          refine hK.out _ _ (HS.out _ bV2) (fun hHeld => ?_)
          clear hK K
          try simp only [Act.put, List.setIfInBounds_toArray, List.set_cons_zero, List.set_cons_succ]
          have hG2 := blk_thru hs2 hG1
          refine wpAnyH_ready (rs := [10]) (by kernel_rfl) (by simp) ?_
          refine AllReadyH.cons (o := { dst := some 33, op := Go.Op.call { callee := Go.Callee.value (Go.Operand.func 47), args := #[Go.Operand.tmp 32], argTypes := #[3] }, type := 23, pos := "past.go:213", after := #[{ on := 9, ground := Go.Ground.data }, { on := 7, ground := Go.Ground.chain }], guard := none }) rfl (fun K hK => ?_) (AllReadyH.nil)
          · go_simp
            refine (past_four.calls x.f2 (fourL x.f2) _ rfl).mono ?_
            rintro e V3 ⟨v3, rfl, ho3, hs3⟩
            obtain ⟨g3, c3, rfl, _, _⟩ := RB_some ho3 (n := 4) rfl (by decide)
            have bV3 : Below (wr.alloc (.cells #[.int .i64 x.f0, .int .i64 x.f1, .int .i64 x.f2] 60)).heap.size (wr.alloc (.cells #[.int .i64 x.f0, .int .i64 x.f1, .int .i64 x.f2] 60)) V3 := bV2.trans (hs3.mono bV2.size)
            go_wp2_with fail
            refine hK.out _ _ (HS.out _ bV3) (fun hHeld => ?_)
            clear hK K
            try simp only [Act.put, List.setIfInBounds_toArray, List.set_cons_zero, List.set_cons_succ]
            have hG3 := blk_thru hs3 hG2
            have hoA3 := Kd.R_below ho2 hs3
            refine wpAnyH_ready (rs := [11]) (by kernel_rfl) (by simp) ?_
            refine AllReadyH.cons (o := { dst := some 34, op := Go.Op.buildSlice 83 4 #[(0, Go.Operand.tmp 23), (1, Go.Operand.tmp 27), (2, Go.Operand.tmp 30), (3, Go.Operand.tmp 33)], type := 83, pos := "past.go:213", after := #[{ on := 0, ground := Go.Ground.data }, { on := 4, ground := Go.Ground.data }, { on := 7, ground := Go.Ground.data }, { on := 10, ground := Go.Ground.data }], guard := none }) rfl (fun K hK => ?_) AllReadyH.nil
            go_simp
            refine hK.out _ _ (HS.out _ (below_alloc bV3 _)) (fun hHeld => ?_)
            clear hK K
            try simp only [Act.put, List.setIfInBounds_toArray, List.set_cons_zero, List.set_cons_succ]
            refine wpAnyH_ready (rs := [12]) (by kernel_rfl) (by simp) ?_
            refine AllReadyH.cons (o := { dst := some 35, op := Go.Op.call { callee := Go.Callee.value (Go.Operand.func 48), args := #[Go.Operand.tmp 34], argTypes := #[83] }, type := 23, pos := "past.go:213", after := #[{ on := 11, ground := Go.Ground.data }, { on := 10, ground := Go.Ground.chain }], guard := none }) rfl (fun K hK => ?_) AllReadyH.nil
            go_simp
            refine (concat4 w.heap.size _ _ _ cv Av ol x _ _ V3 w (HBW.out _ bV3) (HOUT.out _ bV3).1 (HOUT.out _ bV3).2 hG3 hoA3 ho3 hlen).mono ?_
            rintro e w9 ⟨v9, rfl, ho9, hb9, hb10⟩
            go_wp2_with fail
            refine hK.out _ _ (HS.out _ (bV3.trans (hb9.mono bV3.size))) (fun hHeld => ?_)
            clear hK K
            try simp only [Act.put, List.setIfInBounds_toArray, List.set_cons_zero, List.set_cons_succ]
            refine wpAnyH_ready (rs := [13]) (by kernel_rfl) (by simp) ?_
            refine AllReadyH.cons (o := { dst := some 5, op := Go.Op.assign (Go.Operand.tmp 35), type := 23, pos := "past.go:213", after := #[{ on := 12, ground := Go.Ground.data }, { on := 12, ground := Go.Ground.chain }, { on := 0, ground := Go.Ground.phase }, { on := 1, ground := Go.Ground.phase }, { on := 2, ground := Go.Ground.phase }, { on := 3, ground := Go.Ground.phase }, { on := 4, ground := Go.Ground.phase }, { on := 5, ground := Go.Ground.phase }, { on := 6, ground := Go.Ground.phase }, { on := 7, ground := Go.Ground.phase }, { on := 8, ground := Go.Ground.phase }, { on := 9, ground := Go.Ground.phase }, { on := 10, ground := Go.Ground.phase }, { on := 11, ground := Go.Ground.phase }, { on := 12, ground := Go.Ground.phase }], guard := none }) rfl (fun K hK => ?_) AllReadyH.nil
            go_simp
            refine hK.out _ _ (HS.out _ (bV3.trans (hb9.mono bV3.size))) (fun hHeld => ?_)
            clear hK K
            try simp only [Act.put, List.setIfInBounds_toArray, List.set_cons_zero, List.set_cons_succ]
            refine wpAnyH_done (by kernel_rfl) ?_ _
            have HO9 := Lib.hid ho9
            have HB9 := Lib.hid hb10
            clear ho9 hb10 hb9
            go_wp2
            go_roundw
            case rel => exact ⟨j + 1, by omega, by go_num, Lib.hid ⟨by rw [HT.out]; exact Kd.Q_of_R HO9.out, HB9.out⟩⟩
            case measure => simp [intOf]; omega
      · go_simp
        refine (past_four.calls x.f1 (fourL x.f1) _ rfl).mono ?_
        rintro e V4 ⟨v4, rfl, ho4, hs4⟩
        obtain ⟨g4, c4, rfl, _, _⟩ := RB_some ho4 (n := 4) rfl (by decide)
        have bV4 : Below (wr.alloc (.cells #[.int .i64 x.f0, .int .i64 x.f1, .int .i64 x.f2] 60)).heap.size (wr.alloc (.cells #[.int .i64 x.f0, .int .i64 x.f1, .int .i64 x.f2] 60)) V4 := hV0.trans (hs4.mono hV0.size)
        go_wp2_with fail
        refine hK.out _ _ (HS.out _ bV4) (fun hHeld => ?_)
        clear hK K
        try simp only [Act.put, List.setIfInBounds_toArray, List.set_cons_zero, List.set_cons_succ]
        refine wpAnyH_ready (rs := [4, 10]) (by kernel_rfl) (by simp) ?_
        refine AllReadyH.cons (o := { dst := some 27, op := Go.Op.buildSlice 23 1 #[(0, Go.Operand.tmp 26)], type := 23, pos := "past.go:213", after := #[{ on := 3, ground := Go.Ground.data }], guard := none }) rfl (fun K hK => ?_) (AllReadyH.cons (o := { dst := some 33, op := Go.Op.call { callee := Go.Callee.value (Go.Operand.func 47), args := #[Go.Operand.tmp 32], argTypes := #[3] }, type := 23, pos := "past.go:213", after := #[{ on := 9, ground := Go.Ground.data }, { on := 7, ground := Go.Ground.chain }], guard := none }) rfl (fun K hK => ?_) (AllReadyH.nil))
        · go_simp
          have bV5 : Below (wr.alloc (.cells #[.int .i64 x.f0, .int .i64 x.f1, .int .i64 x.f2] 60)).heap.size (wr.alloc (.cells #[.int .i64 x.f0, .int .i64 x.f1, .int .i64 x.f2] 60)) (V4.alloc (.cells #[.int .u8 (x.f0 % 256)] 5)) := below_alloc bV4 _
          refine hK.out _ _ (HS.out _ bV5) (fun hHeld => ?_)
          clear hK K
          try simp only [Act.put, List.setIfInBounds_toArray, List.set_cons_zero, List.set_cons_succ]
          have hG5 := blk_new V4 (.cells #[.int .u8 (x.f0 % 256)] 5)
          have hs5 : Below V4.heap.size V4 (V4.alloc (.cells #[.int .u8 (x.f0 % 256)] 5)) := below_alloc (Below.refl _ _) _
          obtain ⟨V5, hV5⟩ : ∃ V, V = V4.alloc (.cells #[.int .u8 (x.f0 % 256)] 5) := ⟨_, rfl⟩
          rw [← hV5] at hHeld bV5 hG5 hs5 ⊢
          clear hV5
          have hoA5 := Kd.R_below ho4 hs5
          refine wpAnyH_ready (rs := [10]) (by kernel_rfl) (by simp) ?_
          refine AllReadyH.cons (o := { dst := some 33, op := Go.Op.call { callee := Go.Callee.value (Go.Operand.func 47), args := #[Go.Operand.tmp 32], argTypes := #[3] }, type := 23, pos := "past.go:213", after := #[{ on := 9, ground := Go.Ground.data }, { on := 7, ground := Go.Ground.chain }], guard := none }) rfl (fun K hK => ?_) (AllReadyH.nil)
          · go_simp
            refine (past_four.calls x.f2 (fourL x.f2) _ rfl).mono ?_
            rintro e V6 ⟨v6, rfl, ho6, hs6⟩
            obtain ⟨g6, c6, rfl, _, _⟩ := RB_some ho6 (n := 4) rfl (by decide)
            have bV6 : Below (wr.alloc (.cells #[.int .i64 x.f0, .int .i64 x.f1, .int .i64 x.f2] 60)).heap.size (wr.alloc (.cells #[.int .i64 x.f0, .int .i64 x.f1, .int .i64 x.f2] 60)) V6 := bV5.trans (hs6.mono bV5.size)
            go_wp2_with fail
            refine hK.out _ _ (HS.out _ bV6) (fun hHeld => ?_)
            clear hK K
            try simp only [Act.put, List.setIfInBounds_toArray, List.set_cons_zero, List.set_cons_succ]
            have hoA6 := Kd.R_below hoA5 hs6
            have hG6 := blk_thru hs6 hG5
            refine wpAnyH_ready (rs := [11]) (by kernel_rfl) (by simp) ?_
            refine AllReadyH.cons (o := { dst := some 34, op := Go.Op.buildSlice 83 4 #[(0, Go.Operand.tmp 23), (1, Go.Operand.tmp 27), (2, Go.Operand.tmp 30), (3, Go.Operand.tmp 33)], type := 83, pos := "past.go:213", after := #[{ on := 0, ground := Go.Ground.data }, { on := 4, ground := Go.Ground.data }, { on := 7, ground := Go.Ground.data }, { on := 10, ground := Go.Ground.data }], guard := none }) rfl (fun K hK => ?_) AllReadyH.nil
            go_simp
            refine hK.out _ _ (HS.out _ (below_alloc bV6 _)) (fun hHeld => ?_)
            clear hK K
            try simp only [Act.put, List.setIfInBounds_toArray, List.set_cons_zero, List.set_cons_succ]
            refine wpAnyH_ready (rs := [12]) (by kernel_rfl) (by simp) ?_
            refine AllReadyH.cons (o := { dst := some 35, op := Go.Op.call { callee := Go.Callee.value (Go.Operand.func 48), args := #[Go.Operand.tmp 34], argTypes := #[83] }, type := 23, pos := "past.go:213", after := #[{ on := 11, ground := Go.Ground.data }, { on := 10, ground := Go.Ground.chain }], guard := none }) rfl (fun K hK => ?_) AllReadyH.nil
            go_simp
            refine (concat4 w.heap.size _ _ _ cv Av ol x _ _ V6 w (HBW.out _ bV6) (HOUT.out _ bV6).1 (HOUT.out _ bV6).2 hG6 hoA6 ho6 hlen).mono ?_
            rintro e w9 ⟨v9, rfl, ho9, hb9, hb10⟩
            go_wp2_with fail
            refine hK.out _ _ (HS.out _ (bV6.trans (hb9.mono bV6.size))) (fun hHeld => ?_)
            clear hK K
            try simp only [Act.put, List.setIfInBounds_toArray, List.set_cons_zero, List.set_cons_succ]
            refine wpAnyH_ready (rs := [13]) (by kernel_rfl) (by simp) ?_
            refine AllReadyH.cons (o := { dst := some 5, op := Go.Op.assign (Go.Operand.tmp 35), type := 23, pos := "past.go:213", after := #[{ on := 12, ground := Go.Ground.data }, { on := 12, ground := Go.Ground.chain }, { on := 0, ground := Go.Ground.phase }, { on := 1, ground := Go.Ground.phase }, { on := 2, ground := Go.Ground.phase }, { on := 3, ground := Go.Ground.phase }, { on := 4, ground := Go.Ground.phase }, { on := 5, ground := Go.Ground.phase }, { on := 6, ground := Go.Ground.phase }, { on := 7, ground := Go.Ground.phase }, { on := 8, ground := Go.Ground.phase }, { on := 9, ground := Go.Ground.phase }, { on := 10, ground := Go.Ground.phase }, { on := 11, ground := Go.Ground.phase }, { on := 12, ground := Go.Ground.phase }], guard := none }) rfl (fun K hK => ?_) AllReadyH.nil
            go_simp
            refine hK.out _ _ (HS.out _ (bV6.trans (hb9.mono bV6.size))) (fun hHeld => ?_)
            clear hK K
            try simp only [Act.put, List.setIfInBounds_toArray, List.set_cons_zero, List.set_cons_succ]
            refine wpAnyH_done (by kernel_rfl) ?_ _
            have HO9 := Lib.hid ho9
            have HB9 := Lib.hid hb10
            clear ho9 hb10 hb9
            go_wp2
            go_roundw
            case rel => exact ⟨j + 1, by omega, by go_num, Lib.hid ⟨by rw [HT.out]; exact Kd.Q_of_R HO9.out, HB9.out⟩⟩
            case measure => simp [intOf]; omega
        · go_simp
          refine (past_four.calls x.f2 (fourL x.f2) _ rfl).mono ?_
          rintro e V7 ⟨v7, rfl, ho7, hs7⟩
          obtain ⟨g7, c7, rfl, _, _⟩ := RB_some ho7 (n := 4) rfl (by decide)
          have bV7 : Below (wr.alloc (.cells #[.int .i64 x.f0, .int .i64 x.f1, .int .i64 x.f2] 60)).heap.size (wr.alloc (.cells #[.int .i64 x.f0, .int .i64 x.f1, .int .i64 x.f2] 60)) V7 := bV4.trans (hs7.mono bV4.size)
          go_wp2_with fail
          refine hK.out _ _ (HS.out _ bV7) (fun hHeld => ?_)
          clear hK K
          try simp only [Act.put, List.setIfInBounds_toArray, List.set_cons_zero, List.set_cons_succ]
          have hoA7 := Kd.R_below ho4 hs7
          refine wpAnyH_ready (rs := [4]) (by kernel_rfl) (by simp) ?_
          refine AllReadyH.cons (o := { dst := some 27, op := Go.Op.buildSlice 23 1 #[(0, Go.Operand.tmp 26)], type := 23, pos := "past.go:213", after := #[{ on := 3, ground := Go.Ground.data }], guard := none }) rfl (fun K hK => ?_) (AllReadyH.nil)
          · go_simp
            have bV8 : Below (wr.alloc (.cells #[.int .i64 x.f0, .int .i64 x.f1, .int .i64 x.f2] 60)).heap.size (wr.alloc (.cells #[.int .i64 x.f0, .int .i64 x.f1, .int .i64 x.f2] 60)) (V7.alloc (.cells #[.int .u8 (x.f0 % 256)] 5)) := below_alloc bV7 _
            refine hK.out _ _ (HS.out _ bV8) (fun hHeld => ?_)
            clear hK K
            try simp only [Act.put, List.setIfInBounds_toArray, List.set_cons_zero, List.set_cons_succ]
            have hG8 := blk_new V7 (.cells #[.int .u8 (x.f0 % 256)] 5)
            have hs8 : Below V7.heap.size V7 (V7.alloc (.cells #[.int .u8 (x.f0 % 256)] 5)) := below_alloc (Below.refl _ _) _
            obtain ⟨V8, hV8⟩ : ∃ V, V = V7.alloc (.cells #[.int .u8 (x.f0 % 256)] 5) := ⟨_, rfl⟩
            rw [← hV8] at hHeld bV8 hG8 hs8 ⊢
            clear hV8
            have hoA8 := Kd.R_below hoA7 hs8
            have hoB8 := Kd.R_below ho7 hs8
            refine wpAnyH_ready (rs := [11]) (by kernel_rfl) (by simp) ?_
            refine AllReadyH.cons (o := { dst := some 34, op := Go.Op.buildSlice 83 4 #[(0, Go.Operand.tmp 23), (1, Go.Operand.tmp 27), (2, Go.Operand.tmp 30), (3, Go.Operand.tmp 33)], type := 83, pos := "past.go:213", after := #[{ on := 0, ground := Go.Ground.data }, { on := 4, ground := Go.Ground.data }, { on := 7, ground := Go.Ground.data }, { on := 10, ground := Go.Ground.data }], guard := none }) rfl (fun K hK => ?_) AllReadyH.nil
            go_simp
            refine hK.out _ _ (HS.out _ (below_alloc bV8 _)) (fun hHeld => ?_)
            clear hK K
            try simp only [Act.put, List.setIfInBounds_toArray, List.set_cons_zero, List.set_cons_succ]
            refine wpAnyH_ready (rs := [12]) (by kernel_rfl) (by simp) ?_
            refine AllReadyH.cons (o := { dst := some 35, op := Go.Op.call { callee := Go.Callee.value (Go.Operand.func 48), args := #[Go.Operand.tmp 34], argTypes := #[83] }, type := 23, pos := "past.go:213", after := #[{ on := 11, ground := Go.Ground.data }, { on := 10, ground := Go.Ground.chain }], guard := none }) rfl (fun K hK => ?_) AllReadyH.nil
            go_simp
            refine (concat4 w.heap.size _ _ _ cv Av ol x _ _ V8 w (HBW.out _ bV8) (HOUT.out _ bV8).1 (HOUT.out _ bV8).2 hG8 hoA8 hoB8 hlen).mono ?_
            rintro e w9 ⟨v9, rfl, ho9, hb9, hb10⟩
            go_wp2_with fail
            refine hK.out _ _ (HS.out _ (bV8.trans (hb9.mono bV8.size))) (fun hHeld => ?_)
            clear hK K
            try simp only [Act.put, List.setIfInBounds_toArray, List.set_cons_zero, List.set_cons_succ]
            refine wpAnyH_ready (rs := [13]) (by kernel_rfl) (by simp) ?_
            refine AllReadyH.cons (o := { dst := some 5, op := Go.Op.assign (Go.Operand.tmp 35), type := 23, pos := "past.go:213", after := #[{ on := 12, ground := Go.Ground.data }, { on := 12, ground := Go.Ground.chain }, { on := 0, ground := Go.Ground.phase }, { on := 1, ground := Go.Ground.phase }, { on := 2, ground := Go.Ground.phase }, { on := 3, ground := Go.Ground.phase }, { on := 4, ground := Go.Ground.phase }, { on := 5, ground := Go.Ground.phase }, { on := 6, ground := Go.Ground.phase }, { on := 7, ground := Go.Ground.phase }, { on := 8, ground := Go.Ground.phase }, { on := 9, ground := Go.Ground.phase }, { on := 10, ground := Go.Ground.phase }, { on := 11, ground := Go.Ground.phase }, { on := 12, ground := Go.Ground.phase }], guard := none }) rfl (fun K hK => ?_) AllReadyH.nil
            go_simp
            refine hK.out _ _ (HS.out _ (bV8.trans (hb9.mono bV8.size))) (fun hHeld => ?_)
            clear hK K
            try simp only [Act.put, List.setIfInBounds_toArray, List.set_cons_zero, List.set_cons_succ]
            refine wpAnyH_done (by kernel_rfl) ?_ _
            have HO9 := Lib.hid ho9
            have HB9 := Lib.hid hb10
            clear ho9 hb10 hb9
            go_wp2
            go_roundw
            case rel => exact ⟨j + 1, by omega, by go_num, Lib.hid ⟨by rw [HT.out]; exact Kd.Q_of_R HO9.out, HB9.out⟩⟩
            case measure => simp [intOf]; omega
    · obtain rfl : j = N := by omega
      have HE := Lib.hid (show (fourL (j : Int)).drop 2 ++ (l0.take j).flatMap oneB = bytesL l0 by rw [HN.out, List.take_length]; rfl)
      go_wp2
      go_ret2
      exact ⟨_, rfl, by rw [← HE.out]; exact HI.out.1, HI.out.2⟩
end Go.Proofs.YtdelfhahbngcfaaX.P07
end
section
namespace Go.Proofs.YtdelfhahbngcfaaX.P07
open Go.ChangeShapes Go.WideShapes Go.RowKit Go.Deep Go.Proofs.YtdelfhahbngcfaaW.PrintWords Go.Proofs.YtdelfhahbngcfaaW.PrintLast Go.Proofs.YtdelfhahbngcfaaW.PrintMore
set_option linter.unusedVariables false
set_option linter.unusedSimpArgs false
section
variable {H : Type} {enc : TypeId × Value → H} {w : World} {base : Nat} {spare : Nat → Bool} {held : Bool}
theorem C_of_trod {α : Type} (d : Kd α) {P : Program} {t e : TypeId} (ht : P.underlying t = some (.slice e)) (hc : P.cellsOf e = d.sz) (one : ∀ fuel cs x, DataW.trod enc P w base spare held fuel e cs = some x → ∃ y, d.K w y cs)
    {fuel : Nat} {v : Value} {x : DataW H × List MemPlace} (h : DataW.trod enc P w base spare held fuel t [v] = some x) : ∃ A c xs, v = .slice A xs.length c ∧ Kd.C d w A xs.length xs ∧ xs.length ≤ c := by
  rcases open_slice ht h with ⟨hcs, _⟩ | ⟨a, len, cap, m, n, D, Pl, hcs, hb, hl, hm, hmm, hx, hi⟩
  · injection hcs with hcs
    exact ⟨none, 0, [], hcs, ⟨rfl, by simp, fun h => by simp at h⟩, Nat.le_refl _⟩
  · injection hcs with hcs
    have hml : len ≤ m := by rw [hmm]; split <;> omega
    rw [hc] at hi
    have each : ∀ i, i < len → ∃ y, ∃ c, c.length = d.sz ∧ d.K w y c ∧ ∀ j u, c[j]? = some u → w.cell? (a.add (i * d.sz + j)) = some u := by
      intro i hil
      obtain ⟨cs', h1, h2⟩ := hi i (by omega)
      obtain ⟨_, hlen, hcell⟩ := World.cells?_some h1
      obtain ⟨y, hy⟩ := one _ _ _ h2
      refine ⟨y, cs', d.K_len hy, hy, fun j u hu => ?_⟩
      have hj : j < cs'.length := (List.getElem?_eq_some_iff.1 hu).1
      rw [d.K_len hy] at hj
      have h4 := hcell j hj
      rw [Deep.add_add] at h4
      rw [h4]; exact hu
    refine ⟨some a, cap, (List.range len).attach.map fun i => Classical.choose (each i.1 (by simpa using i.2)), by simpa using hcs, ?_, by simpa using hl⟩
    refine ⟨rfl, by simp only [List.length_map, List.length_attach, List.length_range]; simp only [maxLen] at hm; omega, fun h0 => ⟨a, rfl, fun j p hp => ?_⟩⟩
    have hj : j < len := by have := (List.getElem?_eq_some_iff.1 hp).1; simpa using this
    have hp' : p = Classical.choose (each j hj) := by
      rw [List.getElem?_eq_getElem (by simpa using hj)] at hp
      have := Option.some.inj hp
      rw [← this]
      simp
    rw [hp']
    exact Classical.choose_spec (each j hj)
set_option maxRecDepth 100000 in
theorem one60t (fuel : Nat) (cs : List Value) (x : DataW H × List MemPlace) (h : DataW.trod enc Try.prog w base spare held fuel 60 cs = some x) : ∃ y, k60.K w y cs := by
  obtain ⟨xs, n, _, _, hlen, hxl, hf⟩ := DataW.trod_struct Try.underlying60 h
  have hc : Try.prog.cellsOf 60 = 3 := by kernel_rfl
  rw [hc] at hlen
  match cs, hlen with
  | [c0, c1, c2], _ =>
    match xs, hxl with
    | [y0, y1, y2], _ =>
      have h3 : Try.prog.cellsOf 3 = 1 := by kernel_rfl
      have k0 := hf 0 _ rfl
      have k1 := hf 1 _ rfl
      have k2 := hf 2 _ rfl
      simp only [h3, List.drop_zero, List.drop_succ_cons, List.take_succ_cons, List.take_zero, List.getElem?_cons_zero, List.getElem?_cons_succ] at k0 k1 k2
      obtain ⟨n0, e0, _, _⟩ := DataW.trod_int Try.underlying3 k0
      obtain ⟨n1, e1, _, _⟩ := DataW.trod_int Try.underlying3 k1
      obtain ⟨n2, e2, _, _⟩ := DataW.trod_int Try.underlying3 k2
      injection e0 with e0
      injection e1 with e1
      injection e2 with e2
      rw [e0, e1, e2]
      exact ⟨⟨n0, n1, n2⟩, k60_mk w ⟨n0, n1, n2⟩⟩
set_option maxRecDepth 100000 in
theorem one41 (fuel : Nat) (cs : List Value) (x : DataW H × List MemPlace) (h : DataW.trod enc Try.prog w base spare held fuel 41 cs = some x) : ∃ y, k41.K w y cs := by
  obtain ⟨xs, n, _, _, hlen, hxl, hf⟩ := DataW.trod_struct Try.underlying41 h
  have hc : Try.prog.cellsOf 41 = 2 := by kernel_rfl
  rw [hc] at hlen
  match cs, hlen with
  | [c0, c1], _ =>
    match xs, hxl with
    | [y0, y1], _ =>
      have h3 : Try.prog.cellsOf 3 = 1 := by kernel_rfl
      have k0 := hf 0 _ rfl
      have k1 := hf 1 _ rfl
      simp only [h3, List.drop_zero, List.drop_succ_cons, List.take_succ_cons, List.take_zero, List.getElem?_cons_zero, List.getElem?_cons_succ] at k0 k1
      obtain ⟨n0, e0, _, _⟩ := DataW.trod_int Try.underlying3 k0
      obtain ⟨n1, e1, _, _⟩ := DataW.trod_int Try.underlying3 k1
      injection e0 with e0
      injection e1 with e1
      rw [e0, e1]
      exact ⟨⟨n0, n1⟩, k41_mk w ⟨n0, n1⟩⟩
end
end Go.Proofs.YtdelfhahbngcfaaX.P07
end
