/- Words, walks and plain laws for the row, packed: each text in a section of its own. Conditions stand with each theorem. -/
import Derived.WalkKit
import Derived.WalkSpells
import Derived.WalkLawsBesides
import Derived.Laws.BytesArg
import Derived.Laws.AppendOwnNone
import Derived.Maps.AppendAt
import Derived.Lib.Hide
import Derived.KernelRfl
import Derived.Deep.OwnRows
import Derived.Lib.SlBytesConst
import Derived.Scope
import Derived.Deep.LoopGhost
import Derived.Shelf.Abstract
import Derived.Shelf.RegionOpen
import Derived.Test.YtdelfhahbngcfaaProg
import Derived.Deep.RegionLaw
import Derived.Deep.RegionHeld3
import Derived.OrdersIn
import Derived.OrdersHeld
import Derived.RangeFuncCalls
import Derived.RangeFuncLeaves
import Derived.Test.YtdelfhahbngcfaaKPastBytesa
section
namespace Go.Proofs.YtdelfhahbngcfaaX.P07
open Go.RowKit Go.Proofs.YtdelfhahbngcfaaW.PrintWords Go.Proofs.YtdelfhahbngcfaaW.PrintLast Go.Proofs.YtdelfhahbngcfaaW.PrintMore
attribute [local go_sem] max2_int min2_int max_two min_two max_three min_three max_four min_four   -- for this text's walks alone
set_option linter.unusedVariables false
set_option linter.unusedSimpArgs false
section
abbrev mkP07MC_0 : Array Bool := #[false, false, false, false, false, false, false, false, false, false, false, false, false, false, false, false, false, false, false]
abbrev mkP07MC_1 : Array Bool := #[true, false, false, false, false, false, false, false, false, false, false, false, false, false, false, false, false, false, false]
abbrev mkP07MC_2 : Array Bool := #[true, true, false, false, false, false, false, false, false, false, false, false, false, false, false, false, false, false, false]
abbrev mkP07MC_3 : Array Bool := #[true, true, true, false, false, false, false, false, false, false, false, false, false, false, false, false, false, false, false]
abbrev mkP07MC_4 : Array Bool := #[true, true, true, true, false, false, false, false, false, false, false, false, false, false, false, false, false, false, false]
abbrev mkP07MC_5 : Array Bool := #[true, true, true, true, false, true, false, false, false, false, false, false, false, false, false, false, false, false, false]
abbrev mkP07MC_6 : Array Bool := #[true, true, true, true, false, true, true, false, false, false, false, false, false, false, false, false, false, false, false]
abbrev mkP07MC_7 : Array Bool := #[true, true, true, true, false, true, true, true, false, false, false, false, false, false, false, false, false, false, false]
abbrev mkP07MC_8 : Array Bool := #[true, true, true, true, false, true, true, true, true, false, false, false, false, false, false, false, false, false, false]
abbrev mkP07MC_9 : Array Bool := #[true, true, true, true, false, true, true, true, true, false, true, false, false, false, false, false, false, false, false]
abbrev mkP07MC_10 : Array Bool := #[true, true, true, true, false, true, true, true, true, false, true, true, false, false, false, false, false, false, false]
abbrev mkP07MC_11 : Array Bool := #[true, true, true, true, false, true, true, true, true, false, true, true, true, false, false, false, false, false, false]
abbrev mkP07MC_12 : Array Bool := #[true, true, true, true, false, true, true, true, true, false, true, true, true, true, false, false, false, false, false]
abbrev mkP07MC_13 : Array Bool := #[true, true, true, true, true, true, true, true, true, false, true, true, true, true, false, false, false, false, false]
abbrev mkP07MC_14 : Array Bool := #[true, true, true, true, true, true, true, true, true, true, true, true, true, true, false, false, false, false, false]
abbrev mkP07MC_15 : Array Bool := #[true, true, true, true, true, true, true, true, true, true, true, true, true, true, true, false, false, false, false]
abbrev mkP07MC_16 : Array Bool := #[true, true, true, true, true, true, true, true, true, true, true, true, true, true, true, true, false, false, false]
abbrev mkP07MC_17 : Array Bool := #[true, true, true, true, true, true, true, true, true, true, true, true, true, true, true, true, true, false, false]
abbrev mkP07MC_18 : Array Bool := #[true, true, true, true, true, true, true, true, true, true, true, true, true, true, true, true, true, true, false]
abbrev mkP07MC_19 : Array Bool := #[true, true, true, true, true, true, true, true, true, true, true, true, true, true, true, true, true, true, true]
theorem eqA41 (d : Nat) (w : World) (x0 y0 : Int) (x1 y1 : Int) :
    (Op.equalIn (d + 2) 41 (.agg #[.int .i64 x0, .int .i64 x1]) (.agg #[.int .i64 y0, .int .i64 y1])).run Try.prog w = .ok (x0 == y0 && (x1 == y1)) w := by
  refine eqA_of Try.underlying41 (by kernel_rfl) ?_
  refine eqf_cons (by rfl) (by go_simp; rfl) (by go_simp; rfl) (by go_simp) ?_
  exact eqf_last (by rfl) (by go_simp; rfl) (by go_simp; rfl) (by go_simp)
end
section
theorem eqA60 (d : Nat) (w : World) (x0 y0 : Int) (x1 y1 : Int) (x2 y2 : Int) :
    (Op.equalIn (d + 2) 60 (.agg #[.int .i64 x0, .int .i64 x1, .int .i64 x2]) (.agg #[.int .i64 y0, .int .i64 y1, .int .i64 y2])).run Try.prog w = .ok (x0 == y0 && (x1 == y1 && (x2 == y2))) w := by
  refine eqA_of Try.underlying60 (by kernel_rfl) ?_
  refine eqf_cons (by rfl) (by go_simp; rfl) (by go_simp; rfl) (by go_simp) ?_
  refine eqf_cons (by rfl) (by go_simp; rfl) (by go_simp; rfl) (by go_simp) ?_
  exact eqf_last (by rfl) (by go_simp; rfl) (by go_simp; rfl) (by go_simp)
end
section
def tributarylaw07_long.f (l0 : List (S60)) (l1 : List (S60)) (l2 : List (S41)) : Option (Bool) := if (l0.length : Int) > 200 then (some true) else (if (l1.length : Int) > 200 then (some true) else (some (decide ((l2.length : Int) > 200))))
set_option maxHeartbeats 8000000 in
set_option maxRecDepth 100000 in
theorem tributarylaw07_long.calls (A0 : Option Addr) (c0 : Nat) (l0 : List (S60)) (A1 : Option Addr) (c1 : Nat) (l1 : List (S60)) (A2 : Option Addr) (c2 : Nat) (l2 : List (S41)) (r : Bool) (w : World) (hr0 : Kd.C k60 w A0 l0.length l0) (hc0 : l0.length ≤ c0) (hr1 : Kd.C k60 w A1 l1.length l1) (hc1 : l1.length ≤ c1) (hr2 : Kd.C k41 w A2 l2.length l2) (hc2 : l2.length ≤ c2) (h : tributarylaw07_long.f l0 l1 l2 = some r) :
    Calls Try.prog 9 #[.slice A0 l0.length c0, .slice A1 l1.length c1, .slice A2 l2.length c2] w fun e w' => e = .returned (.bool r) ∧ Drawn0 w w' := by
  have HR0 := Aside0.mk hr0
  have HC0 := Aside0.mk hc0
  clear hr0 hc0
  have HR1 := Aside0.mk hr1
  have HC1 := Aside0.mk hc1
  clear hr1 hc1
  have HR2 := Aside0.mk hr2
  have HC2 := Aside0.mk hc2
  clear hr2 hc2
  have H : (if (l0.length : Int) > 200 then (some true) else (if (l1.length : Int) > 200 then (some true) else (some (decide ((l2.length : Int) > 200))))) = some r := h
  clear h
  by_cases c4 : (l0.length : Int) > 200
  · rw [if_pos c4] at H
    have c4b0 : decide (200 < (l0.length : Int)) = true := decide_eq_true c4
    have c4b1 : decide (200 < l0.length) = true := decide_eq_true (by omega)
    clear c4
    obtain rfl := Option.some.inj H
    go_enter Try.func9, Try.ntmps9
    go_wp2
    go_ret
    exact ⟨by first | rfl | (simp; done) | (simp [*]; done), by repeat (first | exact Drawn0.refl _ | apply Drawn0.step)⟩
  · rw [if_neg c4] at H
    have c4b0 : decide (200 < (l0.length : Int)) = false := decide_eq_false c4
    have c4b1 : decide (200 < l0.length) = false := decide_eq_false (by omega)
    clear c4
    by_cases c5 : (l1.length : Int) > 200
    · rw [if_pos c5] at H
      have c5b0 : decide (200 < (l1.length : Int)) = true := decide_eq_true c5
      have c5b1 : decide (200 < l1.length) = true := decide_eq_true (by omega)
      clear c5
      obtain rfl := Option.some.inj H
      go_enter Try.func9, Try.ntmps9
      go_wp2
      go_ret
      exact ⟨by first | rfl | (simp; done) | (simp [*]; done), by repeat (first | exact Drawn0.refl _ | apply Drawn0.step)⟩
    · rw [if_neg c5] at H
      have c5b0 : decide (200 < (l1.length : Int)) = false := decide_eq_false c5
      have c5b1 : decide (200 < l1.length) = false := decide_eq_false (by omega)
      clear c5
      obtain rfl := Option.some.inj H
      go_enter Try.func9, Try.ntmps9
      go_wp2
      go_ret
      exact ⟨by first | rfl | (simp; done) | (simp [*]; done), by repeat (first | exact Drawn0.refl _ | apply Drawn0.step)⟩
end
section
mutual
def past_Check.l0 : Nat → List (S60) → List (S60) → Int → Int → Option (Int)
  | 0, _, _, _, _ => none
  | k + 1, x0, x8, x9, x10 => if x10 < x9 then (if 0 ≤ x10 then (if x10 < (x8.length : Int) then (if ((rd_T60 x8 x10).f0) < 1 then (past_Check.j1 k x0 x10 x8 x9 x10 true ((rd_T60 x8 x10).f0) ((rd_T60 x8 x10).f1) ((rd_T60 x8 x10).f2)) else (if ((rd_T60 x8 x10).f0) > 200 then (past_Check.j1 k x0 x10 x8 x9 x10 true ((rd_T60 x8 x10).f0) ((rd_T60 x8 x10).f1) ((rd_T60 x8 x10).f2)) else (if ((rd_T60 x8 x10).f1) < 1 then (past_Check.j1 k x0 x10 x8 x9 x10 true ((rd_T60 x8 x10).f0) ((rd_T60 x8 x10).f1) ((rd_T60 x8 x10).f2)) else (if ((rd_T60 x8 x10).f1) > ((rd_T60 x8 x10).f2) then (past_Check.j1 k x0 x10 x8 x9 x10 true ((rd_T60 x8 x10).f0) ((rd_T60 x8 x10).f1) ((rd_T60 x8 x10).f2)) else (past_Check.j1 k x0 x10 x8 x9 x10 (decide (((rd_T60 x8 x10).f2) > 2147483647)) ((rd_T60 x8 x10).f0) ((rd_T60 x8 x10).f1) ((rd_T60 x8 x10).f2)))))) else (none)) else (none)) else (some 0)
def past_Check.j1 : Nat → List (S60) → Int → List (S60) → Int → Int → Bool → Int → Int → Int → Option (Int)
  | 0, _, _, _, _, _, _, _, _, _ => none
  | k + 1, x0, x3, x8, x9, x10, x15, x103000, x103001, x103002 => if x15 = true then (some 2) else (if x3 > 0 then (if 0 ≤ (wrap64 (x3 - 1)) then (if (wrap64 (x3 - 1)) < (x0.length : Int) then (if x103000 < ((rd_T60 x0 (wrap64 (x3 - 1))).f0) then (some 2) else (if x103000 = ((rd_T60 x0 (wrap64 (x3 - 1))).f0) then (if x103001 ≤ (wrap64 (((rd_T60 x0 (wrap64 (x3 - 1))).f2) + 1)) then (some 2) else (past_Check.l0 k x0 x8 x9 (wrap64 (x10 + 1)))) else (past_Check.l0 k x0 x8 x9 (wrap64 (x10 + 1))))) else (none)) else (none)) else (past_Check.l0 k x0 x8 x9 (wrap64 (x10 + 1))))
end
def past_Check.f (k : Nat) (l0 : List (S60)) : Option (Int) := if (l0.length : Int) > 4000 then (some 2) else (past_Check.l0 k l0 l0 (l0.length : Int) 0)
theorem past_Check.mono_l : ∀ k, (∀ y0 y1 y2 y3, LeO (past_Check.l0 k y0 y1 y2 y3) (past_Check.l0 (k + 1) y0 y1 y2 y3)) ∧ (∀ y0 y1 y2 y3 y4 y5 y6 y7 y8, LeO (past_Check.j1 k y0 y1 y2 y3 y4 y5 y6 y7 y8) (past_Check.j1 (k + 1) y0 y1 y2 y3 y4 y5 y6 y7 y8))
  | 0 => ⟨fun _ _ _ _ r h => by simp [past_Check.l0] at h, fun _ _ _ _ _ _ _ _ _ r h => by simp [past_Check.j1] at h⟩
  | k + 1 => by
    obtain ⟨ih0, ih1⟩ := past_Check.mono_l k
    refine ⟨?_, ?_⟩
    · intro y0 y1 y2 y3
      unfold past_Check.l0
      repeat' first
      | (with_reducible exact ih0 _ _ _ _)
      | (with_reducible exact ih1 _ _ _ _ _ _ _ _ _)
      | (with_reducible exact LeO.refl _)
      | (with_reducible exact LeO.none _)
      | (with_reducible refine LeO.ite ?_ ?_)
      | (with_reducible refine LeO.bind ?_ (fun _ => ?_))
      | exact ih0 _ _ _ _
      | exact ih1 _ _ _ _ _ _ _ _ _
      | exact LeO.none _
      | refine LeO.ite ?_ ?_
      | refine LeO.bind ?_ (fun _ => ?_)
    · intro y0 y1 y2 y3 y4 y5 y6 y7 y8
      unfold past_Check.j1
      repeat' first
      | (with_reducible exact ih0 _ _ _ _)
      | (with_reducible exact ih1 _ _ _ _ _ _ _ _ _)
      | (with_reducible exact LeO.refl _)
      | (with_reducible exact LeO.none _)
      | (with_reducible refine LeO.ite ?_ ?_)
      | (with_reducible refine LeO.bind ?_ (fun _ => ?_))
      | exact ih0 _ _ _ _
      | exact ih1 _ _ _ _ _ _ _ _ _
      | exact LeO.none _
      | refine LeO.ite ?_ ?_
      | refine LeO.bind ?_ (fun _ => ?_)
theorem past_Check.mono : ∀ a0 k, LeO (past_Check.f k a0) (past_Check.f (k + 1) a0) := by
  intro a0 k
  obtain ⟨ih0, ih1⟩ := past_Check.mono_l k
  unfold past_Check.f
  repeat' first
      | (with_reducible exact ih0 _ _ _ _)
      | (with_reducible exact ih1 _ _ _ _ _ _ _ _ _)
      | (with_reducible exact LeO.refl _)
      | (with_reducible exact LeO.none _)
      | (with_reducible refine LeO.ite ?_ ?_)
      | (with_reducible refine LeO.bind ?_ (fun _ => ?_))
      | exact ih0 _ _ _ _
      | exact ih1 _ _ _ _ _ _ _ _ _
      | exact LeO.none _
      | refine LeO.ite ?_ ?_
      | refine LeO.bind ?_ (fun _ => ?_)
set_option maxHeartbeats 8000000 in
set_option maxRecDepth 100000 in
theorem past_Check.calls (k : Nat) (A0 : Option Addr) (c0 : Nat) (l0 : List (S60)) (r : Int) (w : World) (hr0 : Kd.C k60 w A0 l0.length l0) (hc0 : l0.length ≤ c0) (h : past_Check.f k l0 = some r) :
    Calls Try.prog 38 #[.slice A0 l0.length c0] w fun e w' => e = .returned (.int .i64 r) ∧ Below w.heap.size w w' := by
  have hu60 := Try.underlying60
  have HR0 := Aside0.mk hr0
  have HC0 := Aside0.mk hc0
  clear hr0 hc0
  have HB := Aside0.mk (Below.refl w.heap.size w)
  have H : (if (l0.length : Int) > 4000 then (some 2) else (past_Check.l0 k l0 l0 (l0.length : Int) 0)) = some r := h
  clear h
  by_cases c2 : (l0.length : Int) > 4000
  · rw [if_pos c2] at H
    have c2b0 : decide (4000 < (l0.length : Int)) = true := decide_eq_true c2
    have c2b1 : decide (4000 < l0.length) = true := decide_eq_true (by omega)
    clear c2
    obtain rfl := Option.some.inj H
    go_enter Try.func38, Try.ntmps38
    go_wp2
    repeat (go_quiet (fail); try go_wp2)
    go_ret
    exact ⟨by first | rfl | (simp [errW_none, errW_some] <;> rfl) | (simp [*, errW_none, errW_some] <;> rfl), by repeat (first | (with_reducible first | exact HB.out | apply below_alloc | apply pw_below_drewN | apply below_drew1) | exact HB.out)⟩
  · rw [if_neg c2] at H
    have c2b0 : decide (4000 < (l0.length : Int)) = false := decide_eq_false c2
    have c2b1 : decide (4000 < l0.length) = false := decide_eq_false (by omega)
    clear c2
    have H' := Aside0.mk H
    clear H
    go_enter Try.func38, Try.ntmps38
    go_wp2
    repeat (go_quiet (fail); try go_wp2)
    go_loopg [10] k (fun kq v10 w' => ∃ (x10_1 : Int), v10 = .int .i64 x10_1 ∧ Aside0 (past_Check.l0 kq l0 l0 (l0.length : Int) x10_1 = some r) ∧ Aside0 (kq ≤ k) ∧ Aside0 (Below w.heap.size w w'))
    case atStart => exact ⟨(0), (by first | rfl | (simp; done) | (simp [*]; done)), H', ⟨Nat.le_refl _⟩, ⟨by repeat (first | (with_reducible first | exact HB.out | apply below_alloc | apply pw_below_drewN | apply below_drew1) | exact HB.out)⟩⟩
    case round =>
      clear H'
      try clear c2
      try clear c2b0
      try clear c2b1
      try clear p2
      obtain ⟨x10_1, rfl, HA, HK1, HB⟩ := hrel
      cases gk with
      | zero => exact absurd HA.out (by simp [past_Check.l0])
      | succ k1 =>
        have H := HA.out
        clear HA
        simp only [past_Check.l0] at H
        by_cases c3 : x10_1 < (l0.length : Int)
        · rw [if_pos c3] at H
          have c3b0 : decide (x10_1 < (l0.length : Int)) = true := decide_eq_true c3
          clear c3
          by_cases c4 : 0 ≤ x10_1
          · rw [if_pos c4] at H
            have c4b0 : decide (0 ≤ x10_1) = true := decide_eq_true c4
            clear c4
            by_cases c5 : x10_1 < (l0.length : Int)
            · rw [if_pos c5] at H
              have c5b0 : decide (x10_1 < (l0.length : Int)) = true := decide_eq_true c5
              clear c5
              have HC6 := Aside0.mk H
              clear H
              have p101 : 0 ≤ (x10_1 : Int) := of_decide_eq_true (by first | (with_reducible assumption) | assumption)
              have q101 : x10_1 < (l0.length : Int) := of_decide_eq_true (by first | (with_reducible assumption) | assumption)
              obtain ⟨ad101, e101, hx101_0, hx101_1, hx101_2⟩ := at_T60 HR0.out x10_1 p101 q101
              cases e101
              replace hx101_0 := (HB.out.cell (World.block_lt_of_cell? w _ hx101_0)).trans hx101_0
              replace hx101_1 := (HB.out.cell (World.block_lt_of_cell? w _ hx101_1)).trans hx101_1
              replace hx101_2 := (HB.out.cell (World.block_lt_of_cell? w _ hx101_2)).trans hx101_2
              replace p101 := eq_true p101
              replace q101 := eq_true q101
              go_upto_region 6 with (first | ((with_reducible refine gate_dst (N := 4) rfl ?_); refine box_event ?hg (N := 4) ?hd (cs := #[.int .i64 0, .int .i64 0, .int .i64 0]) (t := 60) ?hr ?_; (case hd => rfl); (case hg => rfl); (case hr => first | (go_simp; done) | (go_simp; rfl)); intro gb102 hg w7 hbox hb; have n0_ := Aside0.mk (below_step (by repeat (first | (with_reducible first | exact HB.out | apply below_alloc | apply pw_below_drewN | apply below_drew1) | exact HB.out)) hb); have n1_ := Aside0.mk (hbox); have n2_ := Aside0.mk ((by rw [hg]; exact (below_size (by repeat (first | (with_reducible first | exact HB.out | apply below_alloc | apply pw_below_drewN | apply below_drew1) | exact HB.out))) : w.heap.size ≤ gb102)); have n3_ := Aside0.mk ((by rw [hg]; exact (below_size (by repeat (first | (with_reducible first | exact HB.out | apply below_alloc | apply pw_below_drewN | apply below_drew1) | exact HB.out))) : w.heap.size ≤ gb102)); clear HB; have HB := n0_; have BK102 := n1_; have GW102 := n2_; have GE102 := n3_; clear n0_ n1_ n2_ n3_; clear hb hbox hg; have hcz8_0 : w7.cell? ⟨gb102, 0, none⟩ = some (.int .i64 0) := (YtdelfhahbngcfaaW.PrintWords.blk_cell BK102.out 0).trans rfl; have hcz8_1 : w7.cell? ⟨gb102, 1, none⟩ = some (.int .i64 0) := (YtdelfhahbngcfaaW.PrintWords.blk_cell BK102.out 1).trans rfl; have hcz8_2 : w7.cell? ⟨gb102, 2, none⟩ = some (.int .i64 0) := (YtdelfhahbngcfaaW.PrintWords.blk_cell BK102.out 2).trans rfl; have hfz8_0 := blk_frozen BK102.out 0; have hfz8_1 := blk_frozen BK102.out 1; have hfz8_2 := blk_frozen BK102.out 2))
              repeat (go_quiet (first | ((with_reducible refine gate_dst (N := 4) rfl ?_); refine box_event ?hg (N := 4) ?hd (cs := #[.int .i64 0, .int .i64 0, .int .i64 0]) (t := 60) ?hr ?_; (case hd => rfl); (case hg => rfl); (case hr => first | (go_simp; done) | (go_simp; rfl)); intro gb102 hg w7 hbox hb; have n0_ := Aside0.mk (below_step (by repeat (first | (with_reducible first | exact HB.out | apply below_alloc | apply pw_below_drewN | apply below_drew1) | exact HB.out)) hb); have n1_ := Aside0.mk (hbox); have n2_ := Aside0.mk ((by rw [hg]; exact (below_size (by repeat (first | (with_reducible first | exact HB.out | apply below_alloc | apply pw_below_drewN | apply below_drew1) | exact HB.out))) : w.heap.size ≤ gb102)); have n3_ := Aside0.mk ((by rw [hg]; exact (below_size (by repeat (first | (with_reducible first | exact HB.out | apply below_alloc | apply pw_below_drewN | apply below_drew1) | exact HB.out))) : w.heap.size ≤ gb102)); clear HB; have HB := n0_; have BK102 := n1_; have GW102 := n2_; have GE102 := n3_; clear n0_ n1_ n2_ n3_; clear hb hbox hg; have hcz8_0 : w7.cell? ⟨gb102, 0, none⟩ = some (.int .i64 0) := (YtdelfhahbngcfaaW.PrintWords.blk_cell BK102.out 0).trans rfl; have hcz8_1 : w7.cell? ⟨gb102, 1, none⟩ = some (.int .i64 0) := (YtdelfhahbngcfaaW.PrintWords.blk_cell BK102.out 1).trans rfl; have hcz8_2 : w7.cell? ⟨gb102, 2, none⟩ = some (.int .i64 0) := (YtdelfhahbngcfaaW.PrintWords.blk_cell BK102.out 2).trans rfl; have hfz8_0 := blk_frozen BK102.out 0; have hfz8_1 := blk_frozen BK102.out 1; have hfz8_2 := blk_frozen BK102.out 2)); go_upto_region 6 with (first | ((with_reducible refine gate_dst (N := 4) rfl ?_); refine box_event ?hg (N := 4) ?hd (cs := #[.int .i64 0, .int .i64 0, .int .i64 0]) (t := 60) ?hr ?_; (case hd => rfl); (case hg => rfl); (case hr => first | (go_simp; done) | (go_simp; rfl)); intro gb102 hg w7 hbox hb; have n0_ := Aside0.mk (below_step (by repeat (first | (with_reducible first | exact HB.out | apply below_alloc | apply pw_below_drewN | apply below_drew1) | exact HB.out)) hb); have n1_ := Aside0.mk (hbox); have n2_ := Aside0.mk ((by rw [hg]; exact (below_size (by repeat (first | (with_reducible first | exact HB.out | apply below_alloc | apply pw_below_drewN | apply below_drew1) | exact HB.out))) : w.heap.size ≤ gb102)); have n3_ := Aside0.mk ((by rw [hg]; exact (below_size (by repeat (first | (with_reducible first | exact HB.out | apply below_alloc | apply pw_below_drewN | apply below_drew1) | exact HB.out))) : w.heap.size ≤ gb102)); clear HB; have HB := n0_; have BK102 := n1_; have GW102 := n2_; have GE102 := n3_; clear n0_ n1_ n2_ n3_; clear hb hbox hg; have hcz8_0 : w7.cell? ⟨gb102, 0, none⟩ = some (.int .i64 0) := (YtdelfhahbngcfaaW.PrintWords.blk_cell BK102.out 0).trans rfl; have hcz8_1 : w7.cell? ⟨gb102, 1, none⟩ = some (.int .i64 0) := (YtdelfhahbngcfaaW.PrintWords.blk_cell BK102.out 1).trans rfl; have hcz8_2 : w7.cell? ⟨gb102, 2, none⟩ = some (.int .i64 0) := (YtdelfhahbngcfaaW.PrintWords.blk_cell BK102.out 2).trans rfl; have hfz8_0 := blk_frozen BK102.out 0; have hfz8_1 := blk_frozen BK102.out 1; have hfz8_2 := blk_frozen BK102.out 2)))
              (try simp only [Act.put, List.setIfInBounds_toArray, List.set_cons_zero, List.set_cons_succ])
              go_cut [15] (fun v15 wc => ∃ (kq : Nat) (x15_5 : Bool), v15 = .bool x15_5 ∧ Aside0 (past_Check.j1 kq l0 x10_1 l0 (l0.length : Int) x10_1 x15_5 ((rd_T60 l0 x10_1).f0) ((rd_T60 l0 x10_1).f1) ((rd_T60 l0 x10_1).f2) = some r) ∧ Aside0 (kq ≤ k1) ∧ Aside0 (wc.heap[gb102]? = some (.cells #[.int .i64 ((rd_T60 l0 x10_1).f0), .int .i64 ((rd_T60 l0 x10_1).f1), .int .i64 ((rd_T60 l0 x10_1).f2)] 60 (0, 0))) ∧ Aside0 (Below w.heap.size w wc))
              case first =>
                have H := HC6.out
                clear HC6
                by_cases c9 : ((rd_T60 l0 x10_1).f0) < 1
                · rw [if_pos c9] at H
                  have c9b0 : decide (((rd_T60 l0 x10_1).f0) < 1) = true := decide_eq_true c9
                  clear c9
                  (first | rw [c9b0] | (simp only [i64_w, i32_w]; rw [c9b0]) | skip)
                  have H' := Aside0.mk H
                  clear H
                  have hcz10_0 : w7.cell? ⟨gb102, 0, none⟩ = some (.int .i64 0) := (YtdelfhahbngcfaaW.PrintWords.blk_cell BK102.out 0).trans rfl
                  have hcz10_1 : w7.cell? ⟨gb102, 1, none⟩ = some (.int .i64 0) := (YtdelfhahbngcfaaW.PrintWords.blk_cell BK102.out 1).trans rfl
                  have hcz10_2 : w7.cell? ⟨gb102, 2, none⟩ = some (.int .i64 0) := (YtdelfhahbngcfaaW.PrintWords.blk_cell BK102.out 2).trans rfl
                  have hfz10_0 := blk_frozen BK102.out 0
                  have hfz10_1 := blk_frozen BK102.out 1
                  have hfz10_2 := blk_frozen BK102.out 2
                  go_wp2
                  repeat (go_quiet (fail); try go_wp2)
                  go_meet
                  case rel => exact ⟨_, (true), (by first | rfl | (simp; done) | (simp [*]; done)), H', ⟨by have := HK1.out; first | omega | exact Nat.le_refl _⟩, ⟨by (with_reducible repeat (first | refine blk_drewN ?_ _ | refine blk_drew ?_ | refine blk_alloc ?_ _)); refine blk_put (cs := #[.int .i64 ((rd_T60 l0 x10_1).f0), .int .i64 ((rd_T60 l0 x10_1).f1), .int .i64 0]) ?_ 2 _ rfl; (with_reducible repeat (first | refine blk_drewN ?_ _ | refine blk_drew ?_ | refine blk_alloc ?_ _)); refine blk_put (cs := #[.int .i64 ((rd_T60 l0 x10_1).f0), .int .i64 0, .int .i64 0]) ?_ 1 _ rfl; (with_reducible repeat (first | refine blk_drewN ?_ _ | refine blk_drew ?_ | refine blk_alloc ?_ _)); refine blk_put (cs := #[.int .i64 0, .int .i64 0, .int .i64 0]) ?_ 0 _ rfl; (with_reducible repeat (first | refine blk_drewN ?_ _ | refine blk_drew ?_ | refine blk_alloc ?_ _)); exact BK102.out⟩, ⟨by repeat (first | (with_reducible first | exact HB.out | apply below_alloc | apply pw_below_drewN | apply below_drew1 | refine below_set ?_ GE102.out) | exact HB.out)⟩⟩
                · rw [if_neg c9] at H
                  have c9b0 : decide (((rd_T60 l0 x10_1).f0) < 1) = false := decide_eq_false c9
                  clear c9
                  (first | rw [c9b0] | (simp only [i64_w, i32_w]; rw [c9b0]) | skip)
                  by_cases c11 : ((rd_T60 l0 x10_1).f0) > 200
                  · rw [if_pos c11] at H
                    have c11b0 : decide (200 < ((rd_T60 l0 x10_1).f0)) = true := decide_eq_true c11
                    clear c11
                    have H' := Aside0.mk H
                    clear H
                    have hcz12_0 : w7.cell? ⟨gb102, 0, none⟩ = some (.int .i64 0) := (YtdelfhahbngcfaaW.PrintWords.blk_cell BK102.out 0).trans rfl
                    have hcz12_1 : w7.cell? ⟨gb102, 1, none⟩ = some (.int .i64 0) := (YtdelfhahbngcfaaW.PrintWords.blk_cell BK102.out 1).trans rfl
                    have hcz12_2 : w7.cell? ⟨gb102, 2, none⟩ = some (.int .i64 0) := (YtdelfhahbngcfaaW.PrintWords.blk_cell BK102.out 2).trans rfl
                    have hfz12_0 := blk_frozen BK102.out 0
                    have hfz12_1 := blk_frozen BK102.out 1
                    have hfz12_2 := blk_frozen BK102.out 2
                    go_wp2
                    repeat (go_quiet (fail); try go_wp2)
                    go_meet
                    case rel => exact ⟨_, (true), (by first | rfl | (simp; done) | (simp [*]; done)), H', ⟨by have := HK1.out; first | omega | exact Nat.le_refl _⟩, ⟨by (with_reducible repeat (first | refine blk_drewN ?_ _ | refine blk_drew ?_ | refine blk_alloc ?_ _)); refine blk_put (cs := #[.int .i64 ((rd_T60 l0 x10_1).f0), .int .i64 ((rd_T60 l0 x10_1).f1), .int .i64 0]) ?_ 2 _ rfl; (with_reducible repeat (first | refine blk_drewN ?_ _ | refine blk_drew ?_ | refine blk_alloc ?_ _)); refine blk_put (cs := #[.int .i64 ((rd_T60 l0 x10_1).f0), .int .i64 0, .int .i64 0]) ?_ 1 _ rfl; (with_reducible repeat (first | refine blk_drewN ?_ _ | refine blk_drew ?_ | refine blk_alloc ?_ _)); refine blk_put (cs := #[.int .i64 0, .int .i64 0, .int .i64 0]) ?_ 0 _ rfl; (with_reducible repeat (first | refine blk_drewN ?_ _ | refine blk_drew ?_ | refine blk_alloc ?_ _)); exact BK102.out⟩, ⟨by repeat (first | (with_reducible first | exact HB.out | apply below_alloc | apply pw_below_drewN | apply below_drew1 | refine below_set ?_ GE102.out) | exact HB.out)⟩⟩
                  · rw [if_neg c11] at H
                    have c11b0 : decide (200 < ((rd_T60 l0 x10_1).f0)) = false := decide_eq_false c11
                    clear c11
                    by_cases c13 : ((rd_T60 l0 x10_1).f1) < 1
                    · rw [if_pos c13] at H
                      have c13b0 : decide (((rd_T60 l0 x10_1).f1) < 1) = true := decide_eq_true c13
                      clear c13
                      have H' := Aside0.mk H
                      clear H
                      have hcz14_0 : w7.cell? ⟨gb102, 0, none⟩ = some (.int .i64 0) := (YtdelfhahbngcfaaW.PrintWords.blk_cell BK102.out 0).trans rfl
                      have hcz14_1 : w7.cell? ⟨gb102, 1, none⟩ = some (.int .i64 0) := (YtdelfhahbngcfaaW.PrintWords.blk_cell BK102.out 1).trans rfl
                      have hcz14_2 : w7.cell? ⟨gb102, 2, none⟩ = some (.int .i64 0) := (YtdelfhahbngcfaaW.PrintWords.blk_cell BK102.out 2).trans rfl
                      have hfz14_0 := blk_frozen BK102.out 0
                      have hfz14_1 := blk_frozen BK102.out 1
                      have hfz14_2 := blk_frozen BK102.out 2
                      go_wp2
                      repeat (go_quiet (fail); try go_wp2)
                      go_meet
                      case rel => exact ⟨_, (true), (by first | rfl | (simp; done) | (simp [*]; done)), H', ⟨by have := HK1.out; first | omega | exact Nat.le_refl _⟩, ⟨by (with_reducible repeat (first | refine blk_drewN ?_ _ | refine blk_drew ?_ | refine blk_alloc ?_ _)); refine blk_put (cs := #[.int .i64 ((rd_T60 l0 x10_1).f0), .int .i64 ((rd_T60 l0 x10_1).f1), .int .i64 0]) ?_ 2 _ rfl; (with_reducible repeat (first | refine blk_drewN ?_ _ | refine blk_drew ?_ | refine blk_alloc ?_ _)); refine blk_put (cs := #[.int .i64 ((rd_T60 l0 x10_1).f0), .int .i64 0, .int .i64 0]) ?_ 1 _ rfl; (with_reducible repeat (first | refine blk_drewN ?_ _ | refine blk_drew ?_ | refine blk_alloc ?_ _)); refine blk_put (cs := #[.int .i64 0, .int .i64 0, .int .i64 0]) ?_ 0 _ rfl; (with_reducible repeat (first | refine blk_drewN ?_ _ | refine blk_drew ?_ | refine blk_alloc ?_ _)); exact BK102.out⟩, ⟨by repeat (first | (with_reducible first | exact HB.out | apply below_alloc | apply pw_below_drewN | apply below_drew1 | refine below_set ?_ GE102.out) | exact HB.out)⟩⟩
                    · rw [if_neg c13] at H
                      have c13b0 : decide (((rd_T60 l0 x10_1).f1) < 1) = false := decide_eq_false c13
                      clear c13
                      by_cases c15 : ((rd_T60 l0 x10_1).f1) > ((rd_T60 l0 x10_1).f2)
                      · rw [if_pos c15] at H
                        have c15b0 : decide (((rd_T60 l0 x10_1).f2) < ((rd_T60 l0 x10_1).f1)) = true := decide_eq_true c15
                        clear c15
                        have H' := Aside0.mk H
                        clear H
                        have hcz16_0 : w7.cell? ⟨gb102, 0, none⟩ = some (.int .i64 0) := (YtdelfhahbngcfaaW.PrintWords.blk_cell BK102.out 0).trans rfl
                        have hcz16_1 : w7.cell? ⟨gb102, 1, none⟩ = some (.int .i64 0) := (YtdelfhahbngcfaaW.PrintWords.blk_cell BK102.out 1).trans rfl
                        have hcz16_2 : w7.cell? ⟨gb102, 2, none⟩ = some (.int .i64 0) := (YtdelfhahbngcfaaW.PrintWords.blk_cell BK102.out 2).trans rfl
                        have hfz16_0 := blk_frozen BK102.out 0
                        have hfz16_1 := blk_frozen BK102.out 1
                        have hfz16_2 := blk_frozen BK102.out 2
                        go_wp2
                        repeat (go_quiet (fail); try go_wp2)
                        go_meet
                        case rel => exact ⟨_, (true), (by first | rfl | (simp; done) | (simp [*]; done)), H', ⟨by have := HK1.out; first | omega | exact Nat.le_refl _⟩, ⟨by (with_reducible repeat (first | refine blk_drewN ?_ _ | refine blk_drew ?_ | refine blk_alloc ?_ _)); refine blk_put (cs := #[.int .i64 ((rd_T60 l0 x10_1).f0), .int .i64 ((rd_T60 l0 x10_1).f1), .int .i64 0]) ?_ 2 _ rfl; (with_reducible repeat (first | refine blk_drewN ?_ _ | refine blk_drew ?_ | refine blk_alloc ?_ _)); refine blk_put (cs := #[.int .i64 ((rd_T60 l0 x10_1).f0), .int .i64 0, .int .i64 0]) ?_ 1 _ rfl; (with_reducible repeat (first | refine blk_drewN ?_ _ | refine blk_drew ?_ | refine blk_alloc ?_ _)); refine blk_put (cs := #[.int .i64 0, .int .i64 0, .int .i64 0]) ?_ 0 _ rfl; (with_reducible repeat (first | refine blk_drewN ?_ _ | refine blk_drew ?_ | refine blk_alloc ?_ _)); exact BK102.out⟩, ⟨by repeat (first | (with_reducible first | exact HB.out | apply below_alloc | apply pw_below_drewN | apply below_drew1 | refine below_set ?_ GE102.out) | exact HB.out)⟩⟩
                      · rw [if_neg c15] at H
                        have c15b0 : decide (((rd_T60 l0 x10_1).f2) < ((rd_T60 l0 x10_1).f1)) = false := decide_eq_false c15
                        clear c15
                        have H' := Aside0.mk H
                        clear H
                        have hcz17_0 : w7.cell? ⟨gb102, 0, none⟩ = some (.int .i64 0) := (YtdelfhahbngcfaaW.PrintWords.blk_cell BK102.out 0).trans rfl
                        have hcz17_1 : w7.cell? ⟨gb102, 1, none⟩ = some (.int .i64 0) := (YtdelfhahbngcfaaW.PrintWords.blk_cell BK102.out 1).trans rfl
                        have hcz17_2 : w7.cell? ⟨gb102, 2, none⟩ = some (.int .i64 0) := (YtdelfhahbngcfaaW.PrintWords.blk_cell BK102.out 2).trans rfl
                        have hfz17_0 := blk_frozen BK102.out 0
                        have hfz17_1 := blk_frozen BK102.out 1
                        have hfz17_2 := blk_frozen BK102.out 2
                        go_wp2
                        repeat (go_quiet (fail); try go_wp2)
                        go_meet
                        case rel => exact ⟨_, (decide (((rd_T60 l0 x10_1).f2) > 2147483647)), (by first | rfl | (simp; done) | (simp [*]; done)), H', ⟨by have := HK1.out; first | omega | exact Nat.le_refl _⟩, ⟨by (with_reducible repeat (first | refine blk_drewN ?_ _ | refine blk_drew ?_ | refine blk_alloc ?_ _)); refine blk_put (cs := #[.int .i64 ((rd_T60 l0 x10_1).f0), .int .i64 ((rd_T60 l0 x10_1).f1), .int .i64 0]) ?_ 2 _ rfl; (with_reducible repeat (first | refine blk_drewN ?_ _ | refine blk_drew ?_ | refine blk_alloc ?_ _)); refine blk_put (cs := #[.int .i64 ((rd_T60 l0 x10_1).f0), .int .i64 0, .int .i64 0]) ?_ 1 _ rfl; (with_reducible repeat (first | refine blk_drewN ?_ _ | refine blk_drew ?_ | refine blk_alloc ?_ _)); refine blk_put (cs := #[.int .i64 0, .int .i64 0, .int .i64 0]) ?_ 0 _ rfl; (with_reducible repeat (first | refine blk_drewN ?_ _ | refine blk_drew ?_ | refine blk_alloc ?_ _)); exact BK102.out⟩, ⟨by repeat (first | (with_reducible first | exact HB.out | apply below_alloc | apply pw_below_drewN | apply below_drew1 | refine below_set ?_ GE102.out) | exact HB.out)⟩⟩
              case rest =>
                clear HC6
                try clear c1
                try clear p1
                try clear q1
                try clear hx1
                try clear c2
                try clear c2b0
                try clear c2b1
                try clear p2
                try clear c3
                try clear c3b0
                try clear c4
                try clear c4b0
                try clear c5
                try clear c5b0
                try clear c9
                try clear c9b0
                try clear p10
                try clear q10
                try clear hx10
                try clear c11
                try clear c11b0
                try clear c13
                try clear c13b0
                try clear c15
                try clear c15b0
                try clear hcz10_0
                try clear hcz10_1
                try clear hcz10_2
                try clear hcz12_0
                try clear hcz12_1
                try clear hcz12_2
                try clear hcz14_0
                try clear hcz14_1
                try clear hcz14_2
                try clear hcz16_0
                try clear hcz16_1
                try clear hcz16_2
                try clear hcz17_0
                try clear hcz17_1
                try clear hcz17_2
                try clear hcz8_0
                try clear hcz8_1
                try clear hcz8_2
                try clear hfz10_0
                try clear hfz10_1
                try clear hfz10_2
                try clear hfz12_0
                try clear hfz12_1
                try clear hfz12_2
                try clear hfz14_0
                try clear hfz14_1
                try clear hfz14_2
                try clear hfz16_0
                try clear hfz16_1
                try clear hfz16_2
                try clear hfz17_0
                try clear hfz17_1
                try clear hfz17_2
                try clear hfz8_0
                try clear hfz8_1
                try clear hfz8_2
                try clear hx101_0
                try clear hx101_1
                try clear hx101_2
                try clear p101
                try clear p2
                try clear q101
                obtain ⟨kq, x15_5, rfl, HA, HJ5, BK102, HB⟩ := hcut
                cases kq with
                | zero => exact absurd HA.out (by simp [past_Check.j1])
                | succ kj5 =>
                  have H := HA.out
                  clear HA
                  simp only [past_Check.j1] at H
                  by_cases c18 : x15_5 = true
                  · subst c18
                    have H1 : (some 2) = some r := by rw [if_pos rfl] at H; exact H
                    clear H
                    have H := H1
                    clear H1
                    obtain rfl := Option.some.inj H
                    go_wp2
                    repeat (go_quiet (fail); try go_wp2)
                    go_ret
                    exact ⟨by first | rfl | (simp [errW_none, errW_some] <;> rfl) | (simp [*, errW_none, errW_some] <;> rfl), by repeat (first | (with_reducible first | exact HB.out | apply below_alloc | apply pw_below_drewN | apply below_drew1 | refine below_set ?_ GE102.out) | exact HB.out)⟩
                  · replace c18 := Bool.eq_false_iff.mpr c18
                    subst c18
                    have H1 : (if x10_1 > 0 then (if 0 ≤ (wrap64 (x10_1 - 1)) then (if (wrap64 (x10_1 - 1)) < (l0.length : Int) then (if ((rd_T60 l0 x10_1).f0) < ((rd_T60 l0 (wrap64 (x10_1 - 1))).f0) then (some 2) else (if ((rd_T60 l0 x10_1).f0) = ((rd_T60 l0 (wrap64 (x10_1 - 1))).f0) then (if ((rd_T60 l0 x10_1).f1) ≤ (wrap64 (((rd_T60 l0 (wrap64 (x10_1 - 1))).f2) + 1)) then (some 2) else (past_Check.l0 kj5 l0 l0 (l0.length : Int) (wrap64 (x10_1 + 1)))) else (past_Check.l0 kj5 l0 l0 (l0.length : Int) (wrap64 (x10_1 + 1))))) else (none)) else (none)) else (past_Check.l0 kj5 l0 l0 (l0.length : Int) (wrap64 (x10_1 + 1)))) = some r := by rw [if_neg (show ¬ (false = true) by decide)] at H; exact H
                    clear H
                    have H := H1
                    clear H1
                    by_cases c19 : x10_1 > 0
                    · rw [if_pos c19] at H
                      have c19b0 : decide (0 < x10_1) = true := decide_eq_true c19
                      clear c19
                      obtain ⟨ji20, hji20⟩ : ∃ j_ : Int, (wrap64 (x10_1 - 1)) = j_ := ⟨_, rfl⟩
                      replace H : (if 0 ≤ (ji20) then (if (ji20) < (l0.length : Int) then (if ((rd_T60 l0 x10_1).f0) < ((rd_T60 l0 (ji20)).f0) then (some 2) else (if ((rd_T60 l0 x10_1).f0) = ((rd_T60 l0 (ji20)).f0) then (if ((rd_T60 l0 x10_1).f1) ≤ (wrap64 (((rd_T60 l0 (ji20)).f2) + 1)) then (some 2) else (past_Check.l0 kj5 l0 l0 (l0.length : Int) (wrap64 (x10_1 + 1)))) else (past_Check.l0 kj5 l0 l0 (l0.length : Int) (wrap64 (x10_1 + 1))))) else (none)) else (none)) = some r := by first | (rw [hji20] at H; exact H) | (simp only [hji20] at H ⊢; exact H)
                      have hji20w : (IntKind.i64.wrap (x10_1 - 1)) = ji20 := (i64_w _).trans hji20
                      by_cases c21 : 0 ≤ (ji20)
                      · rw [if_pos c21] at H
                        have c21b0 : decide (0 ≤ (ji20)) = true := decide_eq_true c21
                        clear c21
                        by_cases c22 : (ji20) < (l0.length : Int)
                        · rw [if_pos c22] at H
                          have c22b0 : decide ((ji20) < (l0.length : Int)) = true := decide_eq_true c22
                          clear c22
                          by_cases c23 : ((rd_T60 l0 x10_1).f0) < ((rd_T60 l0 (ji20)).f0)
                          · rw [if_pos c23] at H
                            have c23b0 : decide (((rd_T60 l0 x10_1).f0) < ((rd_T60 l0 (ji20)).f0)) = true := decide_eq_true c23
                            clear c23
                            obtain rfl := Option.some.inj H
                            have hcz24_0 : wc.cell? ⟨gb102, 0, none⟩ = some (.int .i64 ((rd_T60 l0 x10_1).f0)) := (YtdelfhahbngcfaaW.PrintWords.blk_cell BK102.out 0).trans rfl
                            have hcz24_1 : wc.cell? ⟨gb102, 1, none⟩ = some (.int .i64 ((rd_T60 l0 x10_1).f1)) := (YtdelfhahbngcfaaW.PrintWords.blk_cell BK102.out 1).trans rfl
                            have hcz24_2 : wc.cell? ⟨gb102, 2, none⟩ = some (.int .i64 ((rd_T60 l0 x10_1).f2)) := (YtdelfhahbngcfaaW.PrintWords.blk_cell BK102.out 2).trans rfl
                            have hfz24_0 := blk_frozen BK102.out 0
                            have hfz24_1 := blk_frozen BK102.out 1
                            have hfz24_2 := blk_frozen BK102.out 2
                            have p103 : 0 ≤ ((ji20) : Int) := of_decide_eq_true (by first | (with_reducible assumption) | assumption)
                            have q103 : (ji20) < (l0.length : Int) := of_decide_eq_true (by first | (with_reducible assumption) | assumption)
                            obtain ⟨ad103, e103, hx103_0, hx103_1, hx103_2⟩ := at_T60 HR0.out (ji20) p103 q103
                            obtain rfl : ad101 = ad103 := (by injection e103)
                            replace hx103_0 := (HB.out.cell (World.block_lt_of_cell? w _ hx103_0)).trans hx103_0
                            replace hx103_1 := (HB.out.cell (World.block_lt_of_cell? w _ hx103_1)).trans hx103_1
                            replace hx103_2 := (HB.out.cell (World.block_lt_of_cell? w _ hx103_2)).trans hx103_2
                            replace p103 := eq_true p103
                            replace q103 := eq_true q103
                            go_wp2
                            repeat (go_quiet (fail); try go_wp2)
                            go_ret
                            exact ⟨by first | rfl | (simp [errW_none, errW_some] <;> rfl) | (simp only [← hji20]; first | rfl | (simp [errW_none, errW_some] <;> rfl)) | (simp [*, errW_none, errW_some] <;> rfl), by repeat (first | (with_reducible first | exact HB.out | apply below_alloc | apply pw_below_drewN | apply below_drew1 | refine below_set ?_ GE102.out) | exact HB.out)⟩
                          · rw [if_neg c23] at H
                            have c23b0 : decide (((rd_T60 l0 x10_1).f0) < ((rd_T60 l0 (ji20)).f0)) = false := decide_eq_false c23
                            clear c23
                            by_cases c25 : ((rd_T60 l0 x10_1).f0) = ((rd_T60 l0 (ji20)).f0)
                            · rw [if_pos c25] at H
                              have c25b0 : (((rd_T60 l0 x10_1).f0) == ((rd_T60 l0 (ji20)).f0)) = true := beq_iff_eq.mpr c25
                              have c25b1 : (((rd_T60 l0 x10_1).f0) != ((rd_T60 l0 (ji20)).f0)) = false := bne_eq_false_iff_eq.mpr c25
                              clear c25
                              by_cases c26 : ((rd_T60 l0 x10_1).f1) ≤ (wrap64 (((rd_T60 l0 (ji20)).f2) + 1))
                              · rw [if_pos c26] at H
                                have c26b0 : decide (((rd_T60 l0 x10_1).f1) ≤ (wrap64 (((rd_T60 l0 (ji20)).f2) + 1))) = true := decide_eq_true c26
                                clear c26
                                obtain rfl := Option.some.inj H
                                have hcz27_0 : wc.cell? ⟨gb102, 0, none⟩ = some (.int .i64 ((rd_T60 l0 x10_1).f0)) := (YtdelfhahbngcfaaW.PrintWords.blk_cell BK102.out 0).trans rfl
                                have hcz27_1 : wc.cell? ⟨gb102, 1, none⟩ = some (.int .i64 ((rd_T60 l0 x10_1).f1)) := (YtdelfhahbngcfaaW.PrintWords.blk_cell BK102.out 1).trans rfl
                                have hcz27_2 : wc.cell? ⟨gb102, 2, none⟩ = some (.int .i64 ((rd_T60 l0 x10_1).f2)) := (YtdelfhahbngcfaaW.PrintWords.blk_cell BK102.out 2).trans rfl
                                have hfz27_0 := blk_frozen BK102.out 0
                                have hfz27_1 := blk_frozen BK102.out 1
                                have hfz27_2 := blk_frozen BK102.out 2
                                have p103 : 0 ≤ ((ji20) : Int) := of_decide_eq_true (by first | (with_reducible assumption) | assumption)
                                have q103 : (ji20) < (l0.length : Int) := of_decide_eq_true (by first | (with_reducible assumption) | assumption)
                                obtain ⟨ad103, e103, hx103_0, hx103_1, hx103_2⟩ := at_T60 HR0.out (ji20) p103 q103
                                obtain rfl : ad101 = ad103 := (by injection e103)
                                replace hx103_0 := (HB.out.cell (World.block_lt_of_cell? w _ hx103_0)).trans hx103_0
                                replace hx103_1 := (HB.out.cell (World.block_lt_of_cell? w _ hx103_1)).trans hx103_1
                                replace hx103_2 := (HB.out.cell (World.block_lt_of_cell? w _ hx103_2)).trans hx103_2
                                replace p103 := eq_true p103
                                replace q103 := eq_true q103
                                have p104 : 0 ≤ ((ji20) : Int) := of_decide_eq_true (by first | (with_reducible assumption) | assumption)
                                have q104 : (ji20) < (l0.length : Int) := of_decide_eq_true (by first | (with_reducible assumption) | assumption)
                                obtain ⟨ad104, e104, hx104_0, hx104_1, hx104_2⟩ := at_T60 HR0.out (ji20) p104 q104
                                obtain rfl : ad101 = ad104 := (by injection e104)
                                replace hx104_0 := (HB.out.cell (World.block_lt_of_cell? w _ hx104_0)).trans hx104_0
                                replace hx104_1 := (HB.out.cell (World.block_lt_of_cell? w _ hx104_1)).trans hx104_1
                                replace hx104_2 := (HB.out.cell (World.block_lt_of_cell? w _ hx104_2)).trans hx104_2
                                replace p104 := eq_true p104
                                replace q104 := eq_true q104
                                have p105 : 0 ≤ ((ji20) : Int) := of_decide_eq_true (by first | (with_reducible assumption) | assumption)
                                have q105 : (ji20) < (l0.length : Int) := of_decide_eq_true (by first | (with_reducible assumption) | assumption)
                                obtain ⟨ad105, e105, hx105_0, hx105_1, hx105_2⟩ := at_T60 HR0.out (ji20) p105 q105
                                obtain rfl : ad101 = ad105 := (by injection e105)
                                replace hx105_0 := (HB.out.cell (World.block_lt_of_cell? w _ hx105_0)).trans hx105_0
                                replace hx105_1 := (HB.out.cell (World.block_lt_of_cell? w _ hx105_1)).trans hx105_1
                                replace hx105_2 := (HB.out.cell (World.block_lt_of_cell? w _ hx105_2)).trans hx105_2
                                replace p105 := eq_true p105
                                replace q105 := eq_true q105
                                go_wp2
                                repeat (go_quiet (fail); try go_wp2)
                                go_ret
                                exact ⟨by first | rfl | (simp [errW_none, errW_some] <;> rfl) | (simp only [← hji20]; first | rfl | (simp [errW_none, errW_some] <;> rfl)) | (simp [*, errW_none, errW_some] <;> rfl), by repeat (first | (with_reducible first | exact HB.out | apply below_alloc | apply pw_below_drewN | apply below_drew1 | refine below_set ?_ GE102.out) | exact HB.out)⟩
                              · rw [if_neg c26] at H
                                have c26b0 : decide (((rd_T60 l0 x10_1).f1) ≤ (wrap64 (((rd_T60 l0 (ji20)).f2) + 1))) = false := decide_eq_false c26
                                clear c26
                                have H' := Aside0.mk H
                                clear H
                                have hcz28_0 : wc.cell? ⟨gb102, 0, none⟩ = some (.int .i64 ((rd_T60 l0 x10_1).f0)) := (YtdelfhahbngcfaaW.PrintWords.blk_cell BK102.out 0).trans rfl
                                have hcz28_1 : wc.cell? ⟨gb102, 1, none⟩ = some (.int .i64 ((rd_T60 l0 x10_1).f1)) := (YtdelfhahbngcfaaW.PrintWords.blk_cell BK102.out 1).trans rfl
                                have hcz28_2 : wc.cell? ⟨gb102, 2, none⟩ = some (.int .i64 ((rd_T60 l0 x10_1).f2)) := (YtdelfhahbngcfaaW.PrintWords.blk_cell BK102.out 2).trans rfl
                                have hfz28_0 := blk_frozen BK102.out 0
                                have hfz28_1 := blk_frozen BK102.out 1
                                have hfz28_2 := blk_frozen BK102.out 2
                                have p103 : 0 ≤ ((ji20) : Int) := of_decide_eq_true (by first | (with_reducible assumption) | assumption)
                                have q103 : (ji20) < (l0.length : Int) := of_decide_eq_true (by first | (with_reducible assumption) | assumption)
                                obtain ⟨ad103, e103, hx103_0, hx103_1, hx103_2⟩ := at_T60 HR0.out (ji20) p103 q103
                                obtain rfl : ad101 = ad103 := (by injection e103)
                                replace hx103_0 := (HB.out.cell (World.block_lt_of_cell? w _ hx103_0)).trans hx103_0
                                replace hx103_1 := (HB.out.cell (World.block_lt_of_cell? w _ hx103_1)).trans hx103_1
                                replace hx103_2 := (HB.out.cell (World.block_lt_of_cell? w _ hx103_2)).trans hx103_2
                                replace p103 := eq_true p103
                                replace q103 := eq_true q103
                                have p104 : 0 ≤ ((ji20) : Int) := of_decide_eq_true (by first | (with_reducible assumption) | assumption)
                                have q104 : (ji20) < (l0.length : Int) := of_decide_eq_true (by first | (with_reducible assumption) | assumption)
                                obtain ⟨ad104, e104, hx104_0, hx104_1, hx104_2⟩ := at_T60 HR0.out (ji20) p104 q104
                                obtain rfl : ad101 = ad104 := (by injection e104)
                                replace hx104_0 := (HB.out.cell (World.block_lt_of_cell? w _ hx104_0)).trans hx104_0
                                replace hx104_1 := (HB.out.cell (World.block_lt_of_cell? w _ hx104_1)).trans hx104_1
                                replace hx104_2 := (HB.out.cell (World.block_lt_of_cell? w _ hx104_2)).trans hx104_2
                                replace p104 := eq_true p104
                                replace q104 := eq_true q104
                                have p105 : 0 ≤ ((ji20) : Int) := of_decide_eq_true (by first | (with_reducible assumption) | assumption)
                                have q105 : (ji20) < (l0.length : Int) := of_decide_eq_true (by first | (with_reducible assumption) | assumption)
                                obtain ⟨ad105, e105, hx105_0, hx105_1, hx105_2⟩ := at_T60 HR0.out (ji20) p105 q105
                                obtain rfl : ad101 = ad105 := (by injection e105)
                                replace hx105_0 := (HB.out.cell (World.block_lt_of_cell? w _ hx105_0)).trans hx105_0
                                replace hx105_1 := (HB.out.cell (World.block_lt_of_cell? w _ hx105_1)).trans hx105_1
                                replace hx105_2 := (HB.out.cell (World.block_lt_of_cell? w _ hx105_2)).trans hx105_2
                                replace p105 := eq_true p105
                                replace q105 := eq_true q105
                                go_wp2
                                repeat (go_quiet (fail); try go_wp2)
                                go_roundg kj5
                                case measure => have := HK1.out; have := HJ5.out; omega
                                case rel => exact ⟨(wrap64 (x10_1 + 1)), (by first | rfl | (simp; done) | (simp [*]; done)), H', ⟨by have := HK1.out; have := HJ5.out; omega⟩, ⟨by repeat (first | (with_reducible first | exact HB.out | apply below_alloc | apply pw_below_drewN | apply below_drew1 | refine below_set ?_ GE102.out) | exact HB.out)⟩⟩
                            · rw [if_neg c25] at H
                              have c25b0 : (((rd_T60 l0 x10_1).f0) == ((rd_T60 l0 (ji20)).f0)) = false := beq_eq_false_iff_ne.mpr c25
                              have c25b1 : (((rd_T60 l0 x10_1).f0) != ((rd_T60 l0 (ji20)).f0)) = true := bne_iff_ne.mpr c25
                              have H' := Aside0.mk H
                              clear H
                              have hcz29_0 : wc.cell? ⟨gb102, 0, none⟩ = some (.int .i64 ((rd_T60 l0 x10_1).f0)) := (YtdelfhahbngcfaaW.PrintWords.blk_cell BK102.out 0).trans rfl
                              have hcz29_1 : wc.cell? ⟨gb102, 1, none⟩ = some (.int .i64 ((rd_T60 l0 x10_1).f1)) := (YtdelfhahbngcfaaW.PrintWords.blk_cell BK102.out 1).trans rfl
                              have hcz29_2 : wc.cell? ⟨gb102, 2, none⟩ = some (.int .i64 ((rd_T60 l0 x10_1).f2)) := (YtdelfhahbngcfaaW.PrintWords.blk_cell BK102.out 2).trans rfl
                              have hfz29_0 := blk_frozen BK102.out 0
                              have hfz29_1 := blk_frozen BK102.out 1
                              have hfz29_2 := blk_frozen BK102.out 2
                              have p103 : 0 ≤ ((ji20) : Int) := of_decide_eq_true (by first | (with_reducible assumption) | assumption)
                              have q103 : (ji20) < (l0.length : Int) := of_decide_eq_true (by first | (with_reducible assumption) | assumption)
                              obtain ⟨ad103, e103, hx103_0, hx103_1, hx103_2⟩ := at_T60 HR0.out (ji20) p103 q103
                              obtain rfl : ad101 = ad103 := (by injection e103)
                              replace hx103_0 := (HB.out.cell (World.block_lt_of_cell? w _ hx103_0)).trans hx103_0
                              replace hx103_1 := (HB.out.cell (World.block_lt_of_cell? w _ hx103_1)).trans hx103_1
                              replace hx103_2 := (HB.out.cell (World.block_lt_of_cell? w _ hx103_2)).trans hx103_2
                              replace p103 := eq_true p103
                              replace q103 := eq_true q103
                              have p104 : 0 ≤ ((ji20) : Int) := of_decide_eq_true (by first | (with_reducible assumption) | assumption)
                              have q104 : (ji20) < (l0.length : Int) := of_decide_eq_true (by first | (with_reducible assumption) | assumption)
                              obtain ⟨ad104, e104, hx104_0, hx104_1, hx104_2⟩ := at_T60 HR0.out (ji20) p104 q104
                              obtain rfl : ad101 = ad104 := (by injection e104)
                              replace hx104_0 := (HB.out.cell (World.block_lt_of_cell? w _ hx104_0)).trans hx104_0
                              replace hx104_1 := (HB.out.cell (World.block_lt_of_cell? w _ hx104_1)).trans hx104_1
                              replace hx104_2 := (HB.out.cell (World.block_lt_of_cell? w _ hx104_2)).trans hx104_2
                              replace p104 := eq_true p104
                              replace q104 := eq_true q104
                              go_wp2
                              repeat (go_quiet (fail); try go_wp2)
                              go_roundg kj5
                              case measure => have := HK1.out; have := HJ5.out; omega
                              case rel => exact ⟨(wrap64 (x10_1 + 1)), (by first | rfl | (simp; done) | (simp [*]; done)), H', ⟨by have := HK1.out; have := HJ5.out; omega⟩, ⟨by repeat (first | (with_reducible first | exact HB.out | apply below_alloc | apply pw_below_drewN | apply below_drew1 | refine below_set ?_ GE102.out) | exact HB.out)⟩⟩
                        · rw [if_neg c22] at H
                          exact absurd H (by simp)
                      · rw [if_neg c21] at H
                        exact absurd H (by simp)
                    · rw [if_neg c19] at H
                      have c19b0 : decide (0 < x10_1) = false := decide_eq_false c19
                      clear c19
                      have H' := Aside0.mk H
                      clear H
                      go_wp2
                      repeat (go_quiet (fail); try go_wp2)
                      go_roundg kj5
                      case measure => have := HK1.out; have := HJ5.out; omega
                      case rel => exact ⟨(wrap64 (x10_1 + 1)), (by first | rfl | (simp; done) | (simp [*]; done)), H', ⟨by have := HK1.out; have := HJ5.out; omega⟩, ⟨by repeat (first | (with_reducible first | exact HB.out | apply below_alloc | apply pw_below_drewN | apply below_drew1 | refine below_set ?_ GE102.out) | exact HB.out)⟩⟩
            · rw [if_neg c5] at H
              exact absurd H (by simp)
          · rw [if_neg c4] at H
            exact absurd H (by simp)
        · rw [if_neg c3] at H
          have c3b0 : decide (x10_1 < (l0.length : Int)) = false := decide_eq_false c3
          clear c3
          obtain rfl := Option.some.inj H
          go_wp2
          repeat (go_quiet (fail); try go_wp2)
          go_ret
          exact ⟨by first | rfl | (simp [errW_none, errW_some] <;> rfl) | (simp [*, errW_none, errW_some] <;> rfl), by repeat (first | (with_reducible first | exact HB.out | apply below_alloc | apply pw_below_drewN | apply below_drew1) | exact HB.out)⟩
end
section
def past_four.f (a0 : Int) : Option (List Int) := some (([(a0 / 16777216) % 256, (a0 / 65536) % 256, (a0 / 256) % 256, (a0) % 256] : List Int))
set_option maxHeartbeats 8000000 in
set_option maxRecDepth 100000 in
theorem past_four.calls (a0 : Int) (r : List Int) (w : World) (h : past_four.f a0 = some r) :
    Calls Try.prog 47 #[.int .i64 a0] w fun e w' => ∃ v0_ : Value, e = .returned (v0_) ∧ Kd.R (Kd.int .u8) 5 w' w.heap.size (fun _ => True) v0_ r ∧ Below w.heap.size w w' := by
  have HB := Aside0.mk (Below.refl w.heap.size w)
  have H : (some (([(a0 / 16777216) % 256, (a0 / 65536) % 256, (a0 / 256) % 256, (a0) % 256] : List Int))) = some r := h
  clear h
  obtain ⟨y106, hy106⟩ : ∃ y_ : List Int, y_ = (([(a0 / 16777216) % 256, (a0 / 65536) % 256, (a0 / 256) % 256, (a0) % 256] : List Int)) := ⟨_, rfl⟩
  replace H : (some y106) = some r := by first | (rw [hy106]; with_reducible exact H) | (have H2_ := (Option.bind_some _ _).symm.trans H; rw [hy106]; with_reducible exact H2_) | (have H2_ := (Option.bind_some _ _).symm.trans H; with_reducible exact H2_) | with_reducible exact H | (rw [hy106]; exact H) | exact H
  have Ny106 := Aside0.mk hy106
  clear hy106
  obtain rfl := Option.some.inj H
  go_enter Try.func47, Try.ntmps47
  go_wp2_with (first | ((with_reducible refine gate_dst (N := 14) rfl ?_); refine Kd.R_lit (Kd.int .u8) _ 5 ?hg (N := 14) ?hd (xs := ([(a0 / 16777216) % 256, (a0 / 65536) % 256, (a0 / 256) % 256, (a0) % 256] : List Int)) (inner := [.int .u8 ((a0 / 16777216) % 256), .int .u8 ((a0 / 65536) % 256), .int .u8 ((a0 / 256) % 256), .int .u8 ((a0) % 256)]) (ok := fun _ => True) (okp := fun _ => True) ?hr ?hp (fun _ hk => hk) trivial (Below.refl _ _) (Nat.le_refl _) (by simp) ?_; (case hd => rfl); (case hg => rfl); (case hr => first | (go_simp; done) | (go_simp; rfl)); (case hp => exact (Reps.one (show Kd.M (Kd.int .u8) _ _ _ ((a0 / 16777216) % 256) [.int .u8 ((a0 / 16777216) % 256)] from rfl) (Reps.one (show Kd.M (Kd.int .u8) _ _ _ ((a0 / 65536) % 256) [.int .u8 ((a0 / 65536) % 256)] from rfl) (Reps.one (show Kd.M (Kd.int .u8) _ _ _ ((a0 / 256) % 256) [.int .u8 ((a0 / 256) % 256)] from rfl) (Reps.one (show Kd.M (Kd.int .u8) _ _ _ ((a0) % 256) [.int .u8 ((a0) % 256)] from rfl) (Reps.none _ _)))))); intro v107 w2 ho3 hb hg_ hnew_; clear hg_ hnew_; (first | rw [← Ny106.out] at ho3 | (simp only [Int.reduceToNat] at ho3; rw [← Ny106.out] at ho3)); have n0_ := Aside0.mk (Kd.R_lower ho3 (below_size (by repeat (first | (with_reducible first | exact HB.out | apply below_alloc | apply pw_below_drewN | apply below_drew1) | exact HB.out)))); have n1_ := Aside0.mk (below_step (by repeat (first | (with_reducible first | exact HB.out | apply below_alloc | apply pw_below_drewN | apply below_drew1) | exact HB.out)) hb); clear HB; have HO108 := n0_; have HB := n1_; clear n0_ n1_; clear hb ho3))
  go_ret
  exact ⟨_, by first | rfl | (simp [errW_none, errW_some] <;> rfl) | (simp [*, errW_none, errW_some] <;> rfl), by (with_reducible repeat (first | apply Kd.R_alloc | apply Kd.R_drewN | apply Kd.R_drew)); exact HO108.out, by repeat (first | (with_reducible first | exact HB.out | apply below_alloc | apply pw_below_drewN | apply below_drew1) | exact HB.out)⟩
end
section
def tributarykit_SameBytes.f (l0 : List Int) (l1 : List Int) : Option (Bool) := some ((strOfNums l0).toList == (strOfNums l1).toList)
set_option maxHeartbeats 8000000 in
set_option maxRecDepth 100000 in
theorem tributarykit_SameBytes.calls (A0 : Option Addr) (c0 : Nat) (l0 : List Int) (A1 : Option Addr) (c1 : Nat) (l1 : List Int) (r : Bool) (w : World) (hr0 : Kd.C (Kd.int .u8) w A0 l0.length l0) (hc0 : l0.length ≤ c0) (hr1 : Kd.C (Kd.int .u8) w A1 l1.length l1) (hc1 : l1.length ≤ c1) (h : tributarykit_SameBytes.f l0 l1 = some r) :
    Calls Try.prog 17 #[.slice A0 l0.length c0, .slice A1 l1.length c1] w fun e w' => e = .returned (.bool r) ∧ Drawn0 w w' := by
  have HR0 := Aside0.mk hr0
  have HC0 := Aside0.mk hc0
  clear hr0 hc0
  have HR1 := Aside0.mk hr1
  have HC1 := Aside0.mk hc1
  clear hr1 hc1
  have H : (some ((strOfNums l0).toList == (strOfNums l1).toList)) = some r := h
  clear h
  obtain rfl := Option.some.inj H
  have hcv3 := Kd.C_string (P := Try.prog) (A := A0) (c := c0) Try.underlying23 Try.underlying5 Try.underlying9 HR0.out
  have hcv4 := Kd.C_string (P := Try.prog) (A := A1) (c := c1) Try.underlying23 Try.underlying5 Try.underlying9 HR1.out
  go_enter Try.func17, Try.ntmps17
  go_wp2
  go_ret
  exact ⟨by first | rfl | (simp; done) | (simp [*]; done), by repeat (first | exact Drawn0.refl _ | apply Drawn0.step)⟩
end
section
end
section
end
section
end
section
end
section
def dot_Check.f (a0_0 : Int) (a0_1 : Int) : Option (Int) := if a0_0 < 1 then (some 2) else (if a0_0 > 200 then (some 2) else (if a0_1 < 1 then (some 2) else (if a0_1 > 2147483647 then (some 2) else (some 0))))
set_option maxHeartbeats 8000000 in
set_option maxRecDepth 100000 in
theorem dot_Check.calls (a0_0 : Int) (a0_1 : Int) (r : Int) (w : World) (h : dot_Check.f a0_0 a0_1 = some r) :
    Calls Try.prog 52 #[.agg #[.int .i64 a0_0, .int .i64 a0_1]] w fun e w' => e = .returned (.int .i64 r) ∧ Below w.heap.size w w' := by
  have hu41 := Try.underlying41
  have HB := Aside0.mk (Below.refl w.heap.size w)
  have H : (if a0_0 < 1 then (some 2) else (if a0_0 > 200 then (some 2) else (if a0_1 < 1 then (some 2) else (if a0_1 > 2147483647 then (some 2) else (some 0))))) = some r := h
  clear h
  by_cases c2 : a0_0 < 1
  · rw [if_pos c2] at H
    have c2b0 : decide (a0_0 < 1) = true := decide_eq_true c2
    clear c2
    obtain rfl := Option.some.inj H
    go_enter Try.func52, Try.ntmps52
    go_wp2_with (first | ((with_reducible refine gate_dst (N := 1) rfl ?_); refine box_event ?hg (N := 1) ?hd (cs := #[.int .i64 a0_0, .int .i64 a0_1]) (t := 41) ?hr ?_; (case hd => rfl); (case hg => rfl); (case hr => first | (go_simp; done) | (go_simp; rfl)); intro gb161 hg w3 hbox hb; have n0_ := Aside0.mk (below_step (by repeat (first | (with_reducible first | exact HB.out | apply below_alloc | apply pw_below_drewN | apply below_drew1) | exact HB.out)) hb); have n1_ := Aside0.mk (hbox); have n2_ := Aside0.mk ((by rw [hg]; exact (below_size (by repeat (first | (with_reducible first | exact HB.out | apply below_alloc | apply pw_below_drewN | apply below_drew1) | exact HB.out))) : w.heap.size ≤ gb161)); have n3_ := Aside0.mk ((by rw [hg]; exact (below_size (by repeat (first | (with_reducible first | exact HB.out | apply below_alloc | apply pw_below_drewN | apply below_drew1) | exact HB.out))) : w.heap.size ≤ gb161)); clear HB; have HB := n0_; have BK161 := n1_; have GW161 := n2_; have GE161 := n3_; clear n0_ n1_ n2_ n3_; clear hb hbox hg; have hcz4_0 : w3.cell? ⟨gb161, 0, none⟩ = some (.int .i64 a0_0) := (YtdelfhahbngcfaaW.PrintWords.blk_cell BK161.out 0).trans rfl; have hcz4_1 : w3.cell? ⟨gb161, 1, none⟩ = some (.int .i64 a0_1) := (YtdelfhahbngcfaaW.PrintWords.blk_cell BK161.out 1).trans rfl; have hfz4_0 := blk_frozen BK161.out 0; have hfz4_1 := blk_frozen BK161.out 1))
    go_ret
    exact ⟨by first | rfl | (simp [errW_none, errW_some] <;> rfl) | (simp [*, errW_none, errW_some] <;> rfl), by repeat (first | (with_reducible first | exact HB.out | apply below_alloc | apply pw_below_drewN | apply below_drew1 | refine below_set ?_ GE161.out) | exact HB.out)⟩
  · rw [if_neg c2] at H
    have c2b0 : decide (a0_0 < 1) = false := decide_eq_false c2
    clear c2
    by_cases c5 : a0_0 > 200
    · rw [if_pos c5] at H
      have c5b0 : decide (200 < a0_0) = true := decide_eq_true c5
      clear c5
      obtain rfl := Option.some.inj H
      go_enter Try.func52, Try.ntmps52
      go_wp2_with (first | ((with_reducible refine gate_dst (N := 1) rfl ?_); refine box_event ?hg (N := 1) ?hd (cs := #[.int .i64 a0_0, .int .i64 a0_1]) (t := 41) ?hr ?_; (case hd => rfl); (case hg => rfl); (case hr => first | (go_simp; done) | (go_simp; rfl)); intro gb161 hg w6 hbox hb; have n0_ := Aside0.mk (below_step (by repeat (first | (with_reducible first | exact HB.out | apply below_alloc | apply pw_below_drewN | apply below_drew1) | exact HB.out)) hb); have n1_ := Aside0.mk (hbox); have n2_ := Aside0.mk ((by rw [hg]; exact (below_size (by repeat (first | (with_reducible first | exact HB.out | apply below_alloc | apply pw_below_drewN | apply below_drew1) | exact HB.out))) : w.heap.size ≤ gb161)); have n3_ := Aside0.mk ((by rw [hg]; exact (below_size (by repeat (first | (with_reducible first | exact HB.out | apply below_alloc | apply pw_below_drewN | apply below_drew1) | exact HB.out))) : w.heap.size ≤ gb161)); clear HB; have HB := n0_; have BK161 := n1_; have GW161 := n2_; have GE161 := n3_; clear n0_ n1_ n2_ n3_; clear hb hbox hg; have hcz7_0 : w6.cell? ⟨gb161, 0, none⟩ = some (.int .i64 a0_0) := (YtdelfhahbngcfaaW.PrintWords.blk_cell BK161.out 0).trans rfl; have hcz7_1 : w6.cell? ⟨gb161, 1, none⟩ = some (.int .i64 a0_1) := (YtdelfhahbngcfaaW.PrintWords.blk_cell BK161.out 1).trans rfl; have hfz7_0 := blk_frozen BK161.out 0; have hfz7_1 := blk_frozen BK161.out 1))
      go_ret
      exact ⟨by first | rfl | (simp [errW_none, errW_some] <;> rfl) | (simp [*, errW_none, errW_some] <;> rfl), by repeat (first | (with_reducible first | exact HB.out | apply below_alloc | apply pw_below_drewN | apply below_drew1 | refine below_set ?_ GE161.out) | exact HB.out)⟩
    · rw [if_neg c5] at H
      have c5b0 : decide (200 < a0_0) = false := decide_eq_false c5
      clear c5
      by_cases c8 : a0_1 < 1
      · rw [if_pos c8] at H
        have c8b0 : decide (a0_1 < 1) = true := decide_eq_true c8
        clear c8
        obtain rfl := Option.some.inj H
        go_enter Try.func52, Try.ntmps52
        go_wp2_with (first | ((with_reducible refine gate_dst (N := 1) rfl ?_); refine box_event ?hg (N := 1) ?hd (cs := #[.int .i64 a0_0, .int .i64 a0_1]) (t := 41) ?hr ?_; (case hd => rfl); (case hg => rfl); (case hr => first | (go_simp; done) | (go_simp; rfl)); intro gb161 hg w9 hbox hb; have n0_ := Aside0.mk (below_step (by repeat (first | (with_reducible first | exact HB.out | apply below_alloc | apply pw_below_drewN | apply below_drew1) | exact HB.out)) hb); have n1_ := Aside0.mk (hbox); have n2_ := Aside0.mk ((by rw [hg]; exact (below_size (by repeat (first | (with_reducible first | exact HB.out | apply below_alloc | apply pw_below_drewN | apply below_drew1) | exact HB.out))) : w.heap.size ≤ gb161)); have n3_ := Aside0.mk ((by rw [hg]; exact (below_size (by repeat (first | (with_reducible first | exact HB.out | apply below_alloc | apply pw_below_drewN | apply below_drew1) | exact HB.out))) : w.heap.size ≤ gb161)); clear HB; have HB := n0_; have BK161 := n1_; have GW161 := n2_; have GE161 := n3_; clear n0_ n1_ n2_ n3_; clear hb hbox hg; have hcz10_0 : w9.cell? ⟨gb161, 0, none⟩ = some (.int .i64 a0_0) := (YtdelfhahbngcfaaW.PrintWords.blk_cell BK161.out 0).trans rfl; have hcz10_1 : w9.cell? ⟨gb161, 1, none⟩ = some (.int .i64 a0_1) := (YtdelfhahbngcfaaW.PrintWords.blk_cell BK161.out 1).trans rfl; have hfz10_0 := blk_frozen BK161.out 0; have hfz10_1 := blk_frozen BK161.out 1))
        go_ret
        exact ⟨by first | rfl | (simp [errW_none, errW_some] <;> rfl) | (simp [*, errW_none, errW_some] <;> rfl), by repeat (first | (with_reducible first | exact HB.out | apply below_alloc | apply pw_below_drewN | apply below_drew1 | refine below_set ?_ GE161.out) | exact HB.out)⟩
      · rw [if_neg c8] at H
        have c8b0 : decide (a0_1 < 1) = false := decide_eq_false c8
        clear c8
        by_cases c11 : a0_1 > 2147483647
        · rw [if_pos c11] at H
          have c11b0 : decide (2147483647 < a0_1) = true := decide_eq_true c11
          clear c11
          obtain rfl := Option.some.inj H
          go_enter Try.func52, Try.ntmps52
          go_wp2_with (first | ((with_reducible refine gate_dst (N := 1) rfl ?_); refine box_event ?hg (N := 1) ?hd (cs := #[.int .i64 a0_0, .int .i64 a0_1]) (t := 41) ?hr ?_; (case hd => rfl); (case hg => rfl); (case hr => first | (go_simp; done) | (go_simp; rfl)); intro gb161 hg w12 hbox hb; have n0_ := Aside0.mk (below_step (by repeat (first | (with_reducible first | exact HB.out | apply below_alloc | apply pw_below_drewN | apply below_drew1) | exact HB.out)) hb); have n1_ := Aside0.mk (hbox); have n2_ := Aside0.mk ((by rw [hg]; exact (below_size (by repeat (first | (with_reducible first | exact HB.out | apply below_alloc | apply pw_below_drewN | apply below_drew1) | exact HB.out))) : w.heap.size ≤ gb161)); have n3_ := Aside0.mk ((by rw [hg]; exact (below_size (by repeat (first | (with_reducible first | exact HB.out | apply below_alloc | apply pw_below_drewN | apply below_drew1) | exact HB.out))) : w.heap.size ≤ gb161)); clear HB; have HB := n0_; have BK161 := n1_; have GW161 := n2_; have GE161 := n3_; clear n0_ n1_ n2_ n3_; clear hb hbox hg; have hcz13_0 : w12.cell? ⟨gb161, 0, none⟩ = some (.int .i64 a0_0) := (YtdelfhahbngcfaaW.PrintWords.blk_cell BK161.out 0).trans rfl; have hcz13_1 : w12.cell? ⟨gb161, 1, none⟩ = some (.int .i64 a0_1) := (YtdelfhahbngcfaaW.PrintWords.blk_cell BK161.out 1).trans rfl; have hfz13_0 := blk_frozen BK161.out 0; have hfz13_1 := blk_frozen BK161.out 1))
          go_ret
          exact ⟨by first | rfl | (simp [errW_none, errW_some] <;> rfl) | (simp [*, errW_none, errW_some] <;> rfl), by repeat (first | (with_reducible first | exact HB.out | apply below_alloc | apply pw_below_drewN | apply below_drew1 | refine below_set ?_ GE161.out) | exact HB.out)⟩
        · rw [if_neg c11] at H
          have c11b0 : decide (2147483647 < a0_1) = false := decide_eq_false c11
          clear c11
          obtain rfl := Option.some.inj H
          go_enter Try.func52, Try.ntmps52
          go_wp2_with (first | ((with_reducible refine gate_dst (N := 1) rfl ?_); refine box_event ?hg (N := 1) ?hd (cs := #[.int .i64 a0_0, .int .i64 a0_1]) (t := 41) ?hr ?_; (case hd => rfl); (case hg => rfl); (case hr => first | (go_simp; done) | (go_simp; rfl)); intro gb161 hg w14 hbox hb; have n0_ := Aside0.mk (below_step (by repeat (first | (with_reducible first | exact HB.out | apply below_alloc | apply pw_below_drewN | apply below_drew1) | exact HB.out)) hb); have n1_ := Aside0.mk (hbox); have n2_ := Aside0.mk ((by rw [hg]; exact (below_size (by repeat (first | (with_reducible first | exact HB.out | apply below_alloc | apply pw_below_drewN | apply below_drew1) | exact HB.out))) : w.heap.size ≤ gb161)); have n3_ := Aside0.mk ((by rw [hg]; exact (below_size (by repeat (first | (with_reducible first | exact HB.out | apply below_alloc | apply pw_below_drewN | apply below_drew1) | exact HB.out))) : w.heap.size ≤ gb161)); clear HB; have HB := n0_; have BK161 := n1_; have GW161 := n2_; have GE161 := n3_; clear n0_ n1_ n2_ n3_; clear hb hbox hg; have hcz15_0 : w14.cell? ⟨gb161, 0, none⟩ = some (.int .i64 a0_0) := (YtdelfhahbngcfaaW.PrintWords.blk_cell BK161.out 0).trans rfl; have hcz15_1 : w14.cell? ⟨gb161, 1, none⟩ = some (.int .i64 a0_1) := (YtdelfhahbngcfaaW.PrintWords.blk_cell BK161.out 1).trans rfl; have hfz15_0 := blk_frozen BK161.out 0; have hfz15_1 := blk_frozen BK161.out 1))
          go_ret
          exact ⟨by first | rfl | (simp [errW_none, errW_some] <;> rfl) | (simp [*, errW_none, errW_some] <;> rfl), by repeat (first | (with_reducible first | exact HB.out | apply below_alloc | apply pw_below_drewN | apply below_drew1 | refine below_set ?_ GE161.out) | exact HB.out)⟩
end
section
def tributarylaw07_at.f (a0 : Int) (a1 : Int) : Option (Int × Int) := some (a0, a1)
set_option maxHeartbeats 8000000 in
set_option maxRecDepth 100000 in
theorem tributarylaw07_at.calls (a0 : Int) (a1 : Int) (r1 : Int) (r2 : Int) (w : World) (h : tributarylaw07_at.f a0 a1 = some (r1, r2)) :
    Calls Try.prog 42 #[.int .i64 a0, .int .i64 a1] w fun e w' => e = .returned (.agg #[.int .i64 r1, .int .i64 r2]) ∧ Below w.heap.size w w' := by
  have hu41 := Try.underlying41
  have HB := Aside0.mk (Below.refl w.heap.size w)
  have H : (some (a0, a1)) = some (r1, r2) := h
  clear h
  simp only [Option.some.injEq, Prod.mk.injEq] at H
  obtain ⟨rfl, rfl⟩ := H
  go_enter Try.func42, Try.ntmps42
  go_wp2_with (first | ((with_reducible refine gate_dst (N := 4) rfl ?_); refine box_event ?hg (N := 4) ?hd (cs := #[.int .i64 0, .int .i64 0]) (t := 41) ?hr ?_; (case hd => rfl); (case hg => rfl); (case hr => first | (go_simp; done) | (go_simp; rfl)); intro gb162 hg w3 hbox hb; have n0_ := Aside0.mk (below_step (by repeat (first | (with_reducible first | exact HB.out | apply below_alloc | apply pw_below_drewN | apply below_drew1) | exact HB.out)) hb); have n1_ := Aside0.mk (hbox); have n2_ := Aside0.mk ((by rw [hg]; exact (below_size (by repeat (first | (with_reducible first | exact HB.out | apply below_alloc | apply pw_below_drewN | apply below_drew1) | exact HB.out))) : w.heap.size ≤ gb162)); have n3_ := Aside0.mk ((by rw [hg]; exact (below_size (by repeat (first | (with_reducible first | exact HB.out | apply below_alloc | apply pw_below_drewN | apply below_drew1) | exact HB.out))) : w.heap.size ≤ gb162)); clear HB; have HB := n0_; have BK162 := n1_; have GW162 := n2_; have GE162 := n3_; clear n0_ n1_ n2_ n3_; clear hb hbox hg; have hcz4_0 : w3.cell? ⟨gb162, 0, none⟩ = some (.int .i64 0) := (YtdelfhahbngcfaaW.PrintWords.blk_cell BK162.out 0).trans rfl; have hcz4_1 : w3.cell? ⟨gb162, 1, none⟩ = some (.int .i64 0) := (YtdelfhahbngcfaaW.PrintWords.blk_cell BK162.out 1).trans rfl; have hfz4_0 := blk_frozen BK162.out 0; have hfz4_1 := blk_frozen BK162.out 1))
  refine bodyPost_ret (results_cell_row rfl _ _ gb162 41 #[.int .i64 a0, .int .i64 a1] (0, 0) _ rfl (by (with_reducible repeat (first | refine blk_drewN ?_ _ | refine blk_drew ?_ | refine blk_alloc ?_ _)); refine blk_put (cs := #[.int .i64 a0, .int .i64 0]) ?_ 1 _ rfl; (with_reducible repeat (first | refine blk_drewN ?_ _ | refine blk_drew ?_ | refine blk_alloc ?_ _)); refine blk_put (cs := #[.int .i64 0, .int .i64 0]) ?_ 0 _ rfl; (with_reducible repeat (first | refine blk_drewN ?_ _ | refine blk_drew ?_ | refine blk_alloc ?_ _)); exact BK162.out) Try.underlying41 rfl (by kernel_rfl)) rfl ?_
  exact ⟨by first | rfl | (simp [errW_none, errW_some] <;> rfl) | (simp [*, errW_none, errW_some] <;> rfl), by repeat (first | (with_reducible first | exact HB.out | apply below_alloc | apply pw_below_drewN | apply below_drew1 | refine below_set ?_ GE162.out) | exact HB.out)⟩
end
section
def tributarylaw07_of.l0 : Nat → List Int → List (S60) → Int → Option ((List (S60)))
  | 0, _, _, _ => none
  | k + 1, x0, x3, x4 => if (wrap64 (x4 + 2)) < (x0.length : Int) then (if 0 ≤ x4 then (if x4 < (x0.length : Int) then (if 0 ≤ (wrap64 (x4 + 1)) then (if (wrap64 (x4 + 1)) < (x0.length : Int) then (if 0 ≤ (wrap64 (x4 + 2)) then (if x3.length < 5864062014805 then (tributarylaw07_of.l0 k x0 (x3 ++ [(⟨rd x0 x4, rd x0 (wrap64 (x4 + 1)), rd x0 (wrap64 (x4 + 2))⟩ : S60)]) (wrap64 (x4 + 3))) else (none)) else (none)) else (none)) else (none)) else (none)) else (none)) else (some x3)
def tributarylaw07_of.f (k : Nat) (l0 : List Int) : Option ((List (S60))) := tributarylaw07_of.l0 k l0 ([] : List (S60)) 0
theorem tributarylaw07_of.mono_l : ∀ k, (∀ y0 y1 y2, LeO (tributarylaw07_of.l0 k y0 y1 y2) (tributarylaw07_of.l0 (k + 1) y0 y1 y2))
  | 0 => fun _ _ _ r h => by simp [tributarylaw07_of.l0] at h
  | k + 1 => by
    have ih0 := tributarylaw07_of.mono_l k
    · intro y0 y1 y2
      unfold tributarylaw07_of.l0
      repeat' first
      | (with_reducible exact ih0 _ _ _)
      | (with_reducible exact LeO.refl _)
      | (with_reducible exact LeO.none _)
      | (with_reducible refine LeO.ite ?_ ?_)
      | (with_reducible refine LeO.bind ?_ (fun _ => ?_))
      | exact ih0 _ _ _
      | exact LeO.none _
      | refine LeO.ite ?_ ?_
      | refine LeO.bind ?_ (fun _ => ?_)
theorem tributarylaw07_of.mono : ∀ a0 k, LeO (tributarylaw07_of.f k a0) (tributarylaw07_of.f (k + 1) a0) := by
  intro a0 k
  have ih0 := tributarylaw07_of.mono_l k
  unfold tributarylaw07_of.f
  repeat' first
      | (with_reducible exact ih0 _ _ _)
      | (with_reducible exact LeO.refl _)
      | (with_reducible exact LeO.none _)
      | (with_reducible refine LeO.ite ?_ ?_)
      | (with_reducible refine LeO.bind ?_ (fun _ => ?_))
      | exact ih0 _ _ _
      | exact LeO.none _
      | refine LeO.ite ?_ ?_
      | refine LeO.bind ?_ (fun _ => ?_)
def tributarylaw07_of.T5 : Bool × List (List Nat × List Nat) := (true, [([], []), ([], []), ([], []), ([1, 2], [1, 2]), ([3], [3]), ([], []), ([], []), ([6], [6]), ([5, 7], [5, 7]), ([8], [8]), ([], []), ([], []), ([11], [11]), ([10, 12], [10, 12]), ([13], [13]), ([4, 9, 14], [4, 9, 14]), ([15], [15]), ([0, 16], [0, 16]), ([17, 17, 0, 1, 2, 3, 4, 5, 6, 7, 8, 9, 10, 11, 12, 13, 14, 15, 16, 17], [0, 17])])
def tributarylaw07_of.B5 : List Nat := [0, 0, 0, 6, 14, 0, 0, 64, 224, 480, 0, 0, 2048, 7168, 15360, 32766, 65534, 131071, 262143]
theorem tributarylaw07_of.tab5 : rtab .any (opsOf Try.f43 5) = tributarylaw07_of.T5 := by kernel_rfl
theorem tributarylaw07_of.bits5 : waitsOk tributarylaw07_of.T5.2 tributarylaw07_of.B5 = true := by kernel_rfl
set_option maxHeartbeats 8000000 in
set_option maxRecDepth 100000 in
theorem tributarylaw07_of.calls (k : Nat) (A0 : Option Addr) (c0 : Nat) (l0 : List Int) (r : List (S60)) (w : World) (hr0 : Kd.C (Kd.int .i64) w A0 l0.length l0) (hc0 : l0.length ≤ c0) (h : tributarylaw07_of.f k l0 = some r) :
    Calls Try.prog 43 #[.slice A0 l0.length c0] w fun e w' => ∃ v0_ : Value, e = .returned (v0_) ∧ Kd.R k60 60 w' w.heap.size (fun _ => True) v0_ r ∧ Below w.heap.size w w' := by
  have hu60 := Try.underlying60
  have HR0 := Aside0.mk hr0
  have HC0 := Aside0.mk hc0
  clear hr0 hc0
  have HB := Aside0.mk (Below.refl w.heap.size w)
  have H : (tributarylaw07_of.l0 k l0 ([] : List (S60)) 0) = some r := h
  clear h
  have H' := Aside0.mk H
  clear H
  go_enter Try.func43, Try.ntmps43
  go_wp2
  go_loopg [3, 4] k (fun kq v3 v4 w' => ∃ (x3_1 : List (S60)) (x4_1 : Int), v4 = .int .i64 x4_1 ∧ Aside0 (tributarylaw07_of.l0 kq l0 x3_1 x4_1 = some r) ∧ Aside0 (kq ≤ k) ∧ Aside0 (Kd.R k60 60 w' w.heap.size (fun _ => True) v3 x3_1) ∧ Aside0 (Below w.heap.size w w'))
  case atStart => exact ⟨(([] : List (S60))), (0), (by first | rfl | (simp; done) | (simp [*]; done)), H', ⟨Nat.le_refl _⟩, ⟨by first | exact Kd.R_nil _ _ _ _ _ | exact Kd.N_nil _ _ _ _ _ | exact Kd.V_nil _ _ _ _ _ | exact Kd.Q_nil _ _ _ _ _ | exact Kd.S_nil _ _ _ _ _⟩, ⟨by repeat (first | (with_reducible first | exact HB.out | apply below_alloc | apply pw_below_drewN | apply below_drew1) | exact HB.out)⟩⟩
  case round =>
    clear H'
    obtain ⟨x3_1, x4_1, rfl, HA, HK1, HO_3, HB⟩ := hrel
    cases gk with
    | zero => exact absurd HA.out (by simp [tributarylaw07_of.l0])
    | succ k1 =>
      have H := HA.out
      clear HA
      simp only [tributarylaw07_of.l0] at H
      by_cases c2 : (wrap64 (x4_1 + 2)) < (l0.length : Int)
      · rw [if_pos c2] at H
        have c2b0 : decide ((wrap64 (x4_1 + 2)) < (l0.length : Int)) = true := decide_eq_true c2
        clear c2
        by_cases c3 : 0 ≤ x4_1
        · rw [if_pos c3] at H
          have c3b0 : decide (0 ≤ x4_1) = true := decide_eq_true c3
          clear c3
          by_cases c4 : x4_1 < (l0.length : Int)
          · rw [if_pos c4] at H
            have c4b0 : decide (x4_1 < (l0.length : Int)) = true := decide_eq_true c4
            clear c4
            obtain ⟨ji5, hji5⟩ : ∃ j_ : Int, (wrap64 (x4_1 + 1)) = j_ := ⟨_, rfl⟩
            replace H : (if 0 ≤ (ji5) then (if (ji5) < (l0.length : Int) then (if 0 ≤ (wrap64 (x4_1 + 2)) then (if x3_1.length < 5864062014805 then (tributarylaw07_of.l0 k1 l0 (x3_1 ++ [(⟨rd l0 x4_1, rd l0 (ji5), rd l0 (wrap64 (x4_1 + 2))⟩ : S60)]) (wrap64 (x4_1 + 3))) else (none)) else (none)) else (none)) else (none)) = some r := by first | (rw [hji5] at H; exact H) | (simp only [hji5] at H ⊢; exact H)
            have hji5w : (IntKind.i64.wrap (x4_1 + 1)) = ji5 := (i64_w _).trans hji5
            by_cases c6 : 0 ≤ (ji5)
            · rw [if_pos c6] at H
              have c6b0 : decide (0 ≤ (ji5)) = true := decide_eq_true c6
              clear c6
              by_cases c7 : (ji5) < (l0.length : Int)
              · rw [if_pos c7] at H
                have c7b0 : decide ((ji5) < (l0.length : Int)) = true := decide_eq_true c7
                clear c7
                obtain ⟨ji8, hji8⟩ : ∃ j_ : Int, (wrap64 (x4_1 + 2)) = j_ := ⟨_, rfl⟩
                replace H : (if 0 ≤ (ji8) then (if x3_1.length < 5864062014805 then (tributarylaw07_of.l0 k1 l0 (x3_1 ++ [(⟨rd l0 x4_1, rd l0 (ji5), rd l0 (ji8)⟩ : S60)]) (wrap64 (x4_1 + 3))) else (none)) else (none)) = some r := by first | (rw [hji8] at H; exact H) | (simp only [hji8] at H ⊢; exact H)
                (try rw [hji8] at c2b0)
                have hji8w : (IntKind.i64.wrap (x4_1 + 2)) = ji8 := (i64_w _).trans hji8
                by_cases c9 : 0 ≤ (ji8)
                · rw [if_pos c9] at H
                  have c9b0 : decide (0 ≤ (ji8)) = true := decide_eq_true c9
                  clear c9
                  by_cases c10 : x3_1.length < 5864062014805
                  · rw [if_pos c10] at H
                    have LMc10 := Aside0.mk c10
                    clear c10
                    obtain ⟨y166, hy166⟩ : ∃ y_ : List (S60), y_ = (x3_1 ++ [(⟨rd l0 x4_1, rd l0 (ji5), rd l0 (ji8)⟩ : S60)]) := ⟨_, rfl⟩
                    replace H : (tributarylaw07_of.l0 k1 l0 y166 (wrap64 (x4_1 + 3))) = some r := by first | (rw [hy166]; with_reducible exact H) | (have H2_ := (Option.bind_some _ _).symm.trans H; rw [hy166]; with_reducible exact H2_) | (have H2_ := (Option.bind_some _ _).symm.trans H; with_reducible exact H2_) | with_reducible exact H | (rw [hy166]; exact H) | exact H
                    have Ny166 := Aside0.mk hy166
                    clear hy166
                    have H' := Aside0.mk H
                    clear H
                    try go_wp2
                    have n0_ := Aside0.mk (Kd.R_drew HO_3.out)
                    have n1_ := Aside0.mk (below_drew1 HB.out)
                    clear HO_3
                    clear HB
                    have HO_3 := n0_
                    have HB := n1_
                    clear n0_ n1_
                    have p163 : 0 ≤ (x4_1 : Int) := of_decide_eq_true (by first | (with_reducible assumption) | assumption)
                    have q163 : x4_1 < (l0.length : Int) := of_decide_eq_true (by first | (with_reducible assumption) | assumption)
                    obtain ⟨ad163, e163, hx163_0⟩ := Kd.at_int HR0.out x4_1 p163 q163
                    have hw163_0 := hx163_0
                    cases e163
                    replace hx163_0 := (HB.out.cell (World.block_lt_of_cell? w _ hx163_0)).trans hx163_0
                    replace p163 := eq_true p163
                    replace q163 := eq_true q163
                    have p164 : 0 ≤ ((ji5) : Int) := of_decide_eq_true (by first | (with_reducible assumption) | assumption)
                    have q164 : (ji5) < (l0.length : Int) := of_decide_eq_true (by first | (with_reducible assumption) | assumption)
                    obtain ⟨ad164, e164, hx164_0⟩ := Kd.at_int HR0.out (ji5) p164 q164
                    have hw164_0 := hx164_0
                    obtain rfl : ad163 = ad164 := (by injection e164)
                    replace hx164_0 := (HB.out.cell (World.block_lt_of_cell? w _ hx164_0)).trans hx164_0
                    replace p164 := eq_true p164
                    replace q164 := eq_true q164
                    have p165 : 0 ≤ ((ji8) : Int) := of_decide_eq_true (by first | (with_reducible assumption) | assumption)
                    have q165 : (ji8) < (l0.length : Int) := of_decide_eq_true (by first | (with_reducible assumption) | assumption)
                    obtain ⟨ad165, e165, hx165_0⟩ := Kd.at_int HR0.out (ji8) p165 q165
                    have hw165_0 := hx165_0
                    obtain rfl : ad163 = ad165 := (by injection e165)
                    replace hx165_0 := (HB.out.cell (World.block_lt_of_cell? w _ hx165_0)).trans hx165_0
                    replace p165 := eq_true p165
                    replace q165 := eq_true q165
                    refine start_ (n := 19) (S := fun w' => w'.cell? (ad163.add (x4_1).toNat) = some (.int .i64 (rd l0 x4_1)) ∧ w'.cell? (ad163.add ((ji5)).toNat) = some (.int .i64 (rd l0 (ji5))) ∧ w'.cell? (ad163.add ((ji8)).toNat) = some (.int .i64 (rd l0 (ji8)))) (ds := []) mkP07MC_0 (by kernel_rfl) rfl rfl ⟨((HB.out.cell (World.block_lt_of_cell? w _ hw163_0)).trans hw163_0), ((HB.out.cell (World.block_lt_of_cell? w _ hw164_0)).trans hw164_0), ((HB.out.cell (World.block_lt_of_cell? w _ hw165_0)).trans hw165_0)⟩ (fun hHeld => ?_); refine with_tabW tributarylaw07_of.tab5 tributarylaw07_of.bits5 (fun HT_ HW_ => ?_)
                    generalize wr.drew = w11 at HO_3 HB hx163_0 hx164_0 hx165_0 hHeld ⊢
                    refine pure_ (i := 0) (N := some 12) (v := ?_) (a' := ?_) mkP07MC_1 rfl rfl (any_of HT_.out (by kernel_rfl)) (fun _ _ _ h => h) (Or.inl ⟨by rfl, ?_⟩) ?_ ?_
                    rotate_left
                    · intro w'
                      go_simp
                      with_reducible rfl
                    rotate_left
                    · simp only [Act.put, List.setIfInBounds_toArray, List.set_cons_zero, List.set_cons_succ, i64_w, i32_w]
                      rfl
                    refine pure_ (i := 1) (N := some 13) (v := ?_) (a' := ?_) mkP07MC_2 rfl rfl (any_of HT_.out (by kernel_rfl)) (fun _ _ _ h => h) (Or.inl ⟨by rfl, ?_⟩) ?_ ?_
                    rotate_left
                    · intro w'
                      go_simp
                      with_reducible rfl
                    rotate_left
                    · simp only [Act.put, List.setIfInBounds_toArray, List.set_cons_zero, List.set_cons_succ, i64_w, i32_w]
                      rfl
                    refine pure_ (i := 2) (N := some 14) (v := ?_) (a' := ?_) mkP07MC_3 rfl rfl (any_of HT_.out (by kernel_rfl)) (fun _ _ _ h => h) (Or.inl ⟨by rfl, ?_⟩) ?_ ?_
                    rotate_left
                    · intro w'
                      go_simp
                      with_reducible rfl
                    rotate_left
                    · simp only [Act.put, List.setIfInBounds_toArray, List.set_cons_zero, List.set_cons_succ, i64_w, i32_w]
                      rfl
                    refine pure_ (i := 3) (N := some 15) (v := ?_) (a' := ?_) mkP07MC_4 rfl rfl (any_of HT_.out (by kernel_rfl)) (fun _ _ _ h => h) (Or.inl ⟨by rfl, ?_⟩) ?_ ?_
                    rotate_left
                    · intro w'
                      go_simp
                      with_reducible rfl
                    rotate_left
                    · simp only [Act.put, List.setIfInBounds_toArray, List.set_cons_zero, List.set_cons_succ, i64_w, i32_w]
                      rfl
                    refine pure_ (i := 5) (N := some 17) (v := ?_) (a' := ?_) mkP07MC_5 rfl rfl (any_of HT_.out (by kernel_rfl)) (fun _ _ _ h => h) (Or.inl ⟨by rfl, ?_⟩) ?_ ?_
                    rotate_left
                    · intro w'
                      go_simp
                      with_reducible rfl
                    rotate_left
                    · simp only [Act.put, List.setIfInBounds_toArray, List.set_cons_zero, List.set_cons_succ, i64_w, i32_w]
                      rfl
                    refine pure_ (i := 6) (N := some 18) (v := ?_) (a' := ?_) mkP07MC_6 rfl rfl (any_of HT_.out (by kernel_rfl)) (fun _ _ _ h => h) (Or.inl ⟨by rfl, ?_⟩) ?_ ?_
                    rotate_left
                    · intro w'
                      go_simp
                      with_reducible rfl
                    rotate_left
                    · simp only [Act.put, List.setIfInBounds_toArray, List.set_cons_zero, List.set_cons_succ, i64_w, i32_w]
                      rfl
                    refine pure_ (i := 7) (N := some 19) (v := ?_) (a' := ?_) mkP07MC_7 rfl rfl (any_of HT_.out (by kernel_rfl)) (fun _ _ _ h => h) (Or.inl ⟨by rfl, ?_⟩) ?_ ?_
                    rotate_left
                    · intro w'
                      go_simp
                      with_reducible rfl
                    rotate_left
                    · simp only [Act.put, List.setIfInBounds_toArray, List.set_cons_zero, List.set_cons_succ, i64_w, i32_w]
                      rfl
                    refine pure_ (i := 8) (N := some 20) (v := ?_) (a' := ?_) mkP07MC_8 rfl rfl (any_of HT_.out (by kernel_rfl)) (fun _ _ _ h => h) (Or.inl ⟨by rfl, ?_⟩) ?_ ?_
                    rotate_left
                    · intro w'
                      go_simp
                      with_reducible rfl
                    rotate_left
                    · simp only [Act.put, List.setIfInBounds_toArray, List.set_cons_zero, List.set_cons_succ, i64_w, i32_w]
                      rfl
                    refine pure_ (i := 10) (N := some 22) (v := ?_) (a' := ?_) mkP07MC_9 rfl rfl (any_of HT_.out (by kernel_rfl)) (fun _ _ _ h => h) (Or.inl ⟨by rfl, ?_⟩) ?_ ?_
                    rotate_left
                    · intro w'
                      go_simp
                      with_reducible rfl
                    rotate_left
                    · simp only [Act.put, List.setIfInBounds_toArray, List.set_cons_zero, List.set_cons_succ, i64_w, i32_w]
                      rfl
                    refine pure_ (i := 11) (N := some 23) (v := ?_) (a' := ?_) mkP07MC_10 rfl rfl (any_of HT_.out (by kernel_rfl)) (fun _ _ _ h => h) (Or.inl ⟨by rfl, ?_⟩) ?_ ?_
                    rotate_left
                    · intro w'
                      go_simp
                      with_reducible rfl
                    rotate_left
                    · simp only [Act.put, List.setIfInBounds_toArray, List.set_cons_zero, List.set_cons_succ, i64_w, i32_w]
                      rfl
                    refine pure_ (i := 12) (N := some 24) (v := ?_) (a' := ?_) mkP07MC_11 rfl rfl (any_of HT_.out (by kernel_rfl)) (fun _ _ _ h => h) (Or.inl ⟨by rfl, ?_⟩) ?_ ?_
                    rotate_left
                    · intro w'
                      go_simp
                      with_reducible rfl
                    rotate_left
                    · simp only [Act.put, List.setIfInBounds_toArray, List.set_cons_zero, List.set_cons_succ, i64_w, i32_w]
                      rfl
                    refine pure_ (i := 13) (N := some 25) (v := ?_) (a' := ?_) mkP07MC_12 rfl rfl (any_of HT_.out (by kernel_rfl)) (fun _ _ _ h => h) (Or.inl ⟨by rfl, ?_⟩) ?_ ?_
                    rotate_left
                    · intro w'
                      go_simp
                      with_reducible rfl
                    rotate_left
                    · simp only [Act.put, List.setIfInBounds_toArray, List.set_cons_zero, List.set_cons_succ, i64_w, i32_w]
                      rfl
                    refine take_ (i := 4) (N := some 16) (v := ?_) (a' := ?_) mkP07MC_13 rfl rfl (take_ofW HT_.out HW_.out (by kernel_rfl)) (fun _ _ _ h => h) (Or.inl ⟨by rfl, ?_⟩) hHeld ?_ ?_
                    rotate_left
                    · rintro w' ⟨s0, s1, s2⟩
                      go_simp
                      with_reducible rfl
                    rotate_left
                    · simp only [Act.put, List.setIfInBounds_toArray, List.set_cons_zero, List.set_cons_succ, i64_w, i32_w]
                      rfl
                    refine take_ (i := 9) (N := some 21) (v := ?_) (a' := ?_) mkP07MC_14 rfl rfl (take_ofW HT_.out HW_.out (by kernel_rfl)) (fun _ _ _ h => h) (Or.inl ⟨by rfl, ?_⟩) hHeld ?_ ?_
                    rotate_left
                    · rintro w' ⟨s0, s1, s2⟩
                      go_simp
                      with_reducible rfl
                    rotate_left
                    · simp only [Act.put, List.setIfInBounds_toArray, List.set_cons_zero, List.set_cons_succ, i64_w, i32_w]
                      rfl
                    refine take_ (i := 14) (N := some 26) (v := ?_) (a' := ?_) mkP07MC_15 rfl rfl (take_ofW HT_.out HW_.out (by kernel_rfl)) (fun _ _ _ h => h) (Or.inl ⟨by rfl, ?_⟩) hHeld ?_ ?_
                    rotate_left
                    · rintro w' ⟨s0, s1, s2⟩
                      go_simp
                      with_reducible rfl
                    rotate_left
                    · simp only [Act.put, List.setIfInBounds_toArray, List.set_cons_zero, List.set_cons_succ, i64_w, i32_w]
                      rfl
                    refine pure_ (i := 15) (N := some 27) (v := ?_) (a' := ?_) mkP07MC_16 rfl rfl (any_of HT_.out (by kernel_rfl)) (fun _ _ _ h => h) (Or.inl ⟨by rfl, ?_⟩) ?_ ?_
                    rotate_left
                    · intro w'
                      go_simp
                      with_reducible rfl
                    rotate_left
                    · simp only [Act.put, List.setIfInBounds_toArray, List.set_cons_zero, List.set_cons_succ, i64_w, i32_w]
                      rfl
                    refine one_ (i := 16) (N := some 28) mkP07MC_17 rfl rfl (one_of HT_.out (by kernel_rfl)) (by decide) (fun K hK => ?_)
                    refine value_ (w1 := ?_) (v := ?_) (by rfl) rfl ?_ ?_
                    rotate_left 2
                    · go_simp
                      constructor
                      · rfl
                      · rfl
                    refine hK.out _ _ ⟨(World.cell?_alloc_lt _ _ _ (World.block_lt_of_cell? _ _ (((HB.out.cell (World.block_lt_of_cell? w _ hw163_0)).trans hw163_0)))).trans (((HB.out.cell (World.block_lt_of_cell? w _ hw163_0)).trans hw163_0)), (World.cell?_alloc_lt _ _ _ (World.block_lt_of_cell? _ _ (((HB.out.cell (World.block_lt_of_cell? w _ hw164_0)).trans hw164_0)))).trans (((HB.out.cell (World.block_lt_of_cell? w _ hw164_0)).trans hw164_0)), (World.cell?_alloc_lt _ _ _ (World.block_lt_of_cell? _ _ (((HB.out.cell (World.block_lt_of_cell? w _ hw165_0)).trans hw165_0)))).trans (((HB.out.cell (World.block_lt_of_cell? w _ hw165_0)).trans hw165_0))⟩ (fun hHeld => ?_)
                    clear hK K
                    refine norm_ (a' := ?_) ?_ ?_
                    rotate_left
                    · show Act.put _ (some 28) _ = _
                      simp only [Act.put, List.setIfInBounds_toArray, List.set_cons_zero, List.set_cons_succ, i64_w, i32_w]
                      rfl
                    refine one_ (i := 17) (N := some 29) mkP07MC_18 rfl rfl (one_of HT_.out (by kernel_rfl)) (by decide) (fun K hK => ?_)
                    refine Kd.R_append_step k60 (w0 := w) w.heap.size (by rfl) (.tmp 12) (.tmp 28) 22 60 (.agg #[(.int .i64 0), (.int .i64 0), (.int .i64 0)]) 24 rfl Try.underlying22 info60 rfl (by decide) (by omega) u3 x3_1 (⟨rd l0 x4_1, rd l0 (ji5), rd l0 (ji8)⟩ : S60) [.int .i64 (rd l0 x4_1), .int .i64 (rd l0 (ji5)), .int .i64 (rd l0 (ji8))] (fun _ => True) (fun _ => False) rfl rfl ?aP (fun _ hk => hk.elim) ?aF ?aO ?aB ?aS ?aL ?_
                    (case aP => exact k60_mkM _ _ _ (⟨rd l0 x4_1, rd l0 (ji5), rd l0 (ji8)⟩ : S60))
                    (case aB => exact (by repeat (first | (with_reducible first | exact HB.out | apply below_alloc | apply pw_below_drewN | apply below_drew1) | exact HB.out)))
                    (case aF => exact (fun _ _ => trivial))
                    (case aO => exact (by (with_reducible repeat (first | apply Kd.R_alloc | apply Kd.R_drewN | apply Kd.R_drew)); exact HO_3.out))
                    (case aS => exact (below_size (by repeat (first | (with_reducible first | exact HB.out | apply below_alloc | apply pw_below_drewN | apply below_drew1) | exact HB.out))))
                    (case aL => have := LMc10.out; omega)
                    intro v167 w12 ho hb hg hat
                    rw [← Ny166.out] at ho
                    have n0_ := Aside0.mk (hb)
                    have n1_ := Aside0.mk (ho)
                    clear HB
                    clear HO_3
                    have HB := n0_
                    have HO168 := n1_
                    clear n0_ n1_
                    clear ho hb hg hat
                    refine hK.out _ _ ⟨((HB.out.cell (World.block_lt_of_cell? w _ hw163_0)).trans hw163_0), ((HB.out.cell (World.block_lt_of_cell? w _ hw164_0)).trans hw164_0), ((HB.out.cell (World.block_lt_of_cell? w _ hw165_0)).trans hw165_0)⟩ (fun hHeld => ?_)
                    clear hK K
                    refine norm_ (a' := ?_) ?_ ?_
                    rotate_left
                    · show Act.put _ (some 29) _ = _
                      simp only [Act.put, List.setIfInBounds_toArray, List.set_cons_zero, List.set_cons_succ, i64_w, i32_w]
                      rfl
                    refine pure_ (i := 18) (N := some 3) (v := ?_) (a' := ?_) mkP07MC_19 rfl rfl (any_of HT_.out (by kernel_rfl)) (fun _ _ _ h => h) (Or.inl ⟨by rfl, ?_⟩) ?_ ?_
                    rotate_left
                    · intro w'
                      go_simp
                      with_reducible rfl
                    rotate_left
                    · simp only [Act.put, List.setIfInBounds_toArray, List.set_cons_zero, List.set_cons_succ, i64_w, i32_w]
                      rfl
                    refine done_ (done_of HT_.out (by kernel_rfl)) ?_
                    try go_wp2
                    go_roundg k1
                    case measure => have := HK1.out; omega
                    case rel => exact ⟨(y166), (wrap64 (x4_1 + 3)), (by first | rfl | (simp; done) | (simp [*]; done)), H', ⟨by have := HK1.out; omega⟩, ⟨by (with_reducible repeat (first | apply Kd.R_alloc | apply Kd.R_drewN | apply Kd.R_drew)); exact HO168.out⟩, ⟨by repeat (first | (with_reducible first | exact HB.out | apply below_alloc | apply pw_below_drewN | apply below_drew1) | exact HB.out)⟩⟩
                  · rw [if_neg c10] at H
                    exact absurd H (by simp)
                · rw [if_neg c9] at H
                  exact absurd H (by simp)
              · rw [if_neg c7] at H
                exact absurd H (by simp)
            · rw [if_neg c6] at H
              exact absurd H (by simp)
          · rw [if_neg c4] at H
            exact absurd H (by simp)
        · rw [if_neg c3] at H
          exact absurd H (by simp)
      · rw [if_neg c2] at H
        have c2b0 : decide ((wrap64 (x4_1 + 2)) < (l0.length : Int)) = false := decide_eq_false c2
        clear c2
        obtain rfl := Option.some.inj H
        go_wp2
        go_ret
        exact ⟨_, by first | rfl | (simp [errW_none, errW_some] <;> rfl) | (simp [*, errW_none, errW_some] <;> rfl), by (with_reducible repeat (first | apply Kd.R_alloc | apply Kd.R_drewN | apply Kd.R_drew)); exact HO_3.out, by repeat (first | (with_reducible first | exact HB.out | apply below_alloc | apply pw_below_drewN | apply below_drew1) | exact HB.out)⟩
end
section
attribute [local go_sem high] eqA60
def tributarykit_SameSpans.l0 : Nat → List (S60) → List (S60) → Int → Option (Bool)
  | 0, _, _, _ => none
  | k + 1, x0, x1, x5 => if x5 < (x0.length : Int) then (if 0 ≤ x5 then (if x5 < (x1.length : Int) then (if (!(((rd_T60 x0 x5).f0) == ((rd_T60 x1 x5).f0)) || (!(((rd_T60 x0 x5).f1) == ((rd_T60 x1 x5).f1)) || (!(((rd_T60 x0 x5).f2) == ((rd_T60 x1 x5).f2))))) = true then (some false) else (tributarykit_SameSpans.l0 k x0 x1 (wrap64 (x5 + 1)))) else (none)) else (none)) else (some true)
def tributarykit_SameSpans.f (k : Nat) (l0 : List (S60)) (l1 : List (S60)) : Option (Bool) := if (l0.length : Int) = (l1.length : Int) then (tributarykit_SameSpans.l0 k l0 l1 0) else (some false)
theorem tributarykit_SameSpans.mono_l : ∀ k, (∀ y0 y1 y2, LeO (tributarykit_SameSpans.l0 k y0 y1 y2) (tributarykit_SameSpans.l0 (k + 1) y0 y1 y2))
  | 0 => fun _ _ _ r h => by simp [tributarykit_SameSpans.l0] at h
  | k + 1 => by
    have ih0 := tributarykit_SameSpans.mono_l k
    · intro y0 y1 y2
      unfold tributarykit_SameSpans.l0
      repeat' first
      | (with_reducible exact ih0 _ _ _)
      | (with_reducible exact LeO.refl _)
      | (with_reducible exact LeO.none _)
      | (with_reducible refine LeO.ite ?_ ?_)
      | (with_reducible refine LeO.bind ?_ (fun _ => ?_))
      | exact ih0 _ _ _
      | exact LeO.none _
      | refine LeO.ite ?_ ?_
      | refine LeO.bind ?_ (fun _ => ?_)
theorem tributarykit_SameSpans.mono : ∀ a0 a1 k, LeO (tributarykit_SameSpans.f k a0 a1) (tributarykit_SameSpans.f (k + 1) a0 a1) := by
  intro a0 a1 k
  have ih0 := tributarykit_SameSpans.mono_l k
  unfold tributarykit_SameSpans.f
  repeat' first
      | (with_reducible exact ih0 _ _ _)
      | (with_reducible exact LeO.refl _)
      | (with_reducible exact LeO.none _)
      | (with_reducible refine LeO.ite ?_ ?_)
      | (with_reducible refine LeO.bind ?_ (fun _ => ?_))
      | exact ih0 _ _ _
      | exact LeO.none _
      | refine LeO.ite ?_ ?_
      | refine LeO.bind ?_ (fun _ => ?_)
set_option maxHeartbeats 8000000 in
set_option maxRecDepth 100000 in
theorem tributarykit_SameSpans.calls (k : Nat) (A0 : Option Addr) (c0 : Nat) (l0 : List (S60)) (A1 : Option Addr) (c1 : Nat) (l1 : List (S60)) (r : Bool) (w : World) (hr0 : Kd.C k60 w A0 l0.length l0) (hc0 : l0.length ≤ c0) (hr1 : Kd.C k60 w A1 l1.length l1) (hc1 : l1.length ≤ c1) (h : tributarykit_SameSpans.f k l0 l1 = some r) :
    Calls Try.prog 18 #[.slice A0 l0.length c0, .slice A1 l1.length c1] w fun e w' => e = .returned (.bool r) ∧ Drawn0 w w' := by
  have hu60 := Try.underlying60
  have HR0 := Aside0.mk hr0
  have HC0 := Aside0.mk hc0
  clear hr0 hc0
  have HR1 := Aside0.mk hr1
  have HC1 := Aside0.mk hc1
  clear hr1 hc1
  have H : (if (l0.length : Int) = (l1.length : Int) then (tributarykit_SameSpans.l0 k l0 l1 0) else (some false)) = some r := h
  clear h
  by_cases c3 : (l0.length : Int) = (l1.length : Int)
  · rw [if_pos c3] at H
    have c3b0 : ((l0.length : Int) == (l1.length : Int)) = true := beq_iff_eq.mpr c3
    have c3b1 : ((l0.length : Int) != (l1.length : Int)) = false := bne_eq_false_iff_eq.mpr c3
    have c3b2 : (l0.length == l1.length) = true := by first | simpa using c3 | (simp at c3 ⊢; omega)
    clear c3
    have H' := Aside0.mk H
    clear H
    go_enter Try.func18, Try.ntmps18
    go_wp2
    repeat (go_quiet (fail); try go_wp2)
    go_loopg [5] k (fun kq v5 w' => ∃ (x5_1 : Int), v5 = .int .i64 x5_1 ∧ Aside0 (tributarykit_SameSpans.l0 kq l0 l1 x5_1 = some r) ∧ Aside0 (kq ≤ k) ∧ Drawn0 w w')
    case atStart => exact ⟨(0), (by first | rfl | (simp; done) | (simp [*]; done)), H', ⟨Nat.le_refl _⟩, by repeat (first | exact Drawn0.refl _ | apply Drawn0.step)⟩
    case round =>
      clear H'
      try clear c1
      try clear p2
      try clear c3
      try clear c3b0
      try clear c3b1
      try clear c3b2
      obtain ⟨x5_1, rfl, HA, HK1, ⟨m1, rfl⟩⟩ := hrel
      cases gk with
      | zero => exact absurd HA.out (by simp [tributarykit_SameSpans.l0])
      | succ k1 =>
        have H := HA.out
        clear HA
        simp only [tributarykit_SameSpans.l0] at H
        by_cases c4 : x5_1 < (l0.length : Int)
        · rw [if_pos c4] at H
          have c4b0 : decide (x5_1 < (l0.length : Int)) = true := decide_eq_true c4
          clear c4
          by_cases c5 : 0 ≤ x5_1
          · rw [if_pos c5] at H
            have c5b0 : decide (0 ≤ x5_1) = true := decide_eq_true c5
            clear c5
            by_cases c6 : x5_1 < (l1.length : Int)
            · rw [if_pos c6] at H
              have c6b0 : decide (x5_1 < (l1.length : Int)) = true := decide_eq_true c6
              clear c6
              by_cases c7 : (!(((rd_T60 l0 x5_1).f0) == ((rd_T60 l1 x5_1).f0)) || (!(((rd_T60 l0 x5_1).f1) == ((rd_T60 l1 x5_1).f1)) || (!(((rd_T60 l0 x5_1).f2) == ((rd_T60 l1 x5_1).f2))))) = true
              · rw [if_pos c7] at H
                have c7b0 : (!(((rd_T60 l0 x5_1).f0) == ((rd_T60 l1 x5_1).f0)) || (!(((rd_T60 l0 x5_1).f1) == ((rd_T60 l1 x5_1).f1)) || (!(((rd_T60 l0 x5_1).f2) == ((rd_T60 l1 x5_1).f2))))) = true := c7
                clear c7
                obtain rfl := Option.some.inj H
                have p169 : 0 ≤ (x5_1 : Int) := of_decide_eq_true (by first | (with_reducible assumption) | assumption)
                have q169 : x5_1 < (l0.length : Int) := of_decide_eq_true (by first | (with_reducible assumption) | assumption)
                obtain ⟨ad169, e169, hx169_0, hx169_1, hx169_2⟩ := at_T60 HR0.out x5_1 p169 q169
                cases e169
                replace p169 := eq_true p169
                replace q169 := eq_true q169
                have p170 : 0 ≤ (x5_1 : Int) := of_decide_eq_true (by first | (with_reducible assumption) | assumption)
                have q170 : x5_1 < (l1.length : Int) := of_decide_eq_true (by first | (with_reducible assumption) | assumption)
                obtain ⟨ad170, e170, hx170_0, hx170_1, hx170_2⟩ := at_T60 HR1.out x5_1 p170 q170
                cases e170
                replace p170 := eq_true p170
                replace q170 := eq_true q170
                go_wp2
                repeat (go_quiet (fail); try go_wp2)
                go_ret
                exact ⟨by first | rfl | (simp; done) | (simp [*]; done), by repeat (first | exact Drawn0.refl _ | apply Drawn0.step)⟩
              · rw [if_neg c7] at H
                have c7b0 : (!(((rd_T60 l0 x5_1).f0) == ((rd_T60 l1 x5_1).f0)) || (!(((rd_T60 l0 x5_1).f1) == ((rd_T60 l1 x5_1).f1)) || (!(((rd_T60 l0 x5_1).f2) == ((rd_T60 l1 x5_1).f2))))) = false := by simpa using c7
                clear c7
                have H' := Aside0.mk H
                clear H
                have p169 : 0 ≤ (x5_1 : Int) := of_decide_eq_true (by first | (with_reducible assumption) | assumption)
                have q169 : x5_1 < (l0.length : Int) := of_decide_eq_true (by first | (with_reducible assumption) | assumption)
                obtain ⟨ad169, e169, hx169_0, hx169_1, hx169_2⟩ := at_T60 HR0.out x5_1 p169 q169
                cases e169
                replace p169 := eq_true p169
                replace q169 := eq_true q169
                have p170 : 0 ≤ (x5_1 : Int) := of_decide_eq_true (by first | (with_reducible assumption) | assumption)
                have q170 : x5_1 < (l1.length : Int) := of_decide_eq_true (by first | (with_reducible assumption) | assumption)
                obtain ⟨ad170, e170, hx170_0, hx170_1, hx170_2⟩ := at_T60 HR1.out x5_1 p170 q170
                cases e170
                replace p170 := eq_true p170
                replace q170 := eq_true q170
                go_wp2
                repeat (go_quiet (fail); try go_wp2)
                go_roundg k1
                case measure => have := HK1.out; omega
                case rel => exact ⟨(wrap64 (x5_1 + 1)), (by first | rfl | (simp; done) | (simp [*]; done)), H', ⟨by have := HK1.out; omega⟩, by repeat (first | exact Drawn0.refl _ | apply Drawn0.step)⟩
            · rw [if_neg c6] at H
              exact absurd H (by simp)
          · rw [if_neg c5] at H
            exact absurd H (by simp)
        · rw [if_neg c4] at H
          have c4b0 : decide (x5_1 < (l0.length : Int)) = false := decide_eq_false c4
          clear c4
          obtain rfl := Option.some.inj H
          go_wp2
          repeat (go_quiet (fail); try go_wp2)
          go_ret
          exact ⟨by first | rfl | (simp; done) | (simp [*]; done), by repeat (first | exact Drawn0.refl _ | apply Drawn0.step)⟩
  · rw [if_neg c3] at H
    have c3b0 : ((l0.length : Int) == (l1.length : Int)) = false := beq_eq_false_iff_ne.mpr c3
    have c3b1 : ((l0.length : Int) != (l1.length : Int)) = true := bne_iff_ne.mpr c3
    have c3b2 : (l0.length == l1.length) = false := by first | simpa using c3 | (simp at c3 ⊢; omega)
    obtain rfl := Option.some.inj H
    go_enter Try.func18, Try.ntmps18
    go_wp2
    repeat (go_quiet (fail); try go_wp2)
    go_ret
    exact ⟨by first | rfl | (simp; done) | (simp [*]; done), by repeat (first | exact Drawn0.refl _ | apply Drawn0.step)⟩
end
section
def tributarylaw07_is.f (k : Nat) (l0 : List (S60)) (a1 : Int) (l2 : List Int) : Option (Bool) := if a1 = 0 then ((tributarylaw07_of.f k l2).bind fun t171 => ((tributarykit_SameSpans.f k l0 t171).bind fun t174 => (some t174))) else (some false)
theorem tributarylaw07_is.mono : ∀ a0 a1 a2 k, LeO (tributarylaw07_is.f k a0 a1 a2) (tributarylaw07_is.f (k + 1) a0 a1 a2) := by
  intro a0 a1 a2 k
  unfold tributarylaw07_is.f
  repeat' first
      | (with_reducible exact tributarykit_SameSpans.mono _ _ _)
      | (with_reducible exact tributarylaw07_of.mono _ _)
      | (with_reducible exact LeO.refl _)
      | (with_reducible exact LeO.none _)
      | (with_reducible refine LeO.ite ?_ ?_)
      | (with_reducible refine LeO.bind ?_ (fun _ => ?_))
      | exact tributarykit_SameSpans.mono _ _ _
      | exact tributarylaw07_of.mono _ _
      | exact LeO.none _
      | refine LeO.ite ?_ ?_
      | refine LeO.bind ?_ (fun _ => ?_)
set_option maxHeartbeats 8000000 in
set_option maxRecDepth 100000 in
theorem tributarylaw07_is.calls (k : Nat) (A0 : Option Addr) (c0 : Nat) (l0 : List (S60)) (a1 : Int) (A2 : Option Addr) (c2 : Nat) (l2 : List Int) (r : Bool) (w : World) (hr0 : Kd.C k60 w A0 l0.length l0) (hc0 : l0.length ≤ c0) (hr2 : Kd.C (Kd.int .i64) w A2 l2.length l2) (hc2 : l2.length ≤ c2) (h : tributarylaw07_is.f k l0 a1 l2 = some r) :
    Calls Try.prog 44 #[.slice A0 l0.length c0, .int .i64 a1, .slice A2 l2.length c2] w fun e w' => e = .returned (.bool r) ∧ Below w.heap.size w w' := by
  have HR0 := Aside0.mk hr0
  have HC0 := Aside0.mk hc0
  clear hr0 hc0
  have HR2 := Aside0.mk hr2
  have HC2 := Aside0.mk hc2
  clear hr2 hc2
  have HB := Aside0.mk (Below.refl w.heap.size w)
  have H : (if a1 = 0 then ((tributarylaw07_of.f k l2).bind fun t171 => ((tributarykit_SameSpans.f k l0 t171).bind fun t174 => (some t174))) else (some false)) = some r := h
  clear h
  by_cases c4 : a1 = 0
  · rw [if_pos c4] at H
    have c4b0 : (a1 == 0) = true := beq_iff_eq.mpr c4
    have c4b1 : (a1 != 0) = false := bne_eq_false_iff_eq.mpr c4
    clear c4
    replace H := Option.bind_eq_some_iff.mp H
    obtain ⟨t171, A50, H⟩ := H
    replace H : ((tributarykit_SameSpans.f k l0 t171).bind fun t174 => (some t174)) = some r := H
    have A5 := Aside0.mk A50
    clear A50
    replace H := Option.bind_eq_some_iff.mp H
    obtain ⟨t174, A60, H⟩ := H
    replace H : (some t174) = some r := H
    have A6 := Aside0.mk A60
    clear A60
    obtain rfl := Option.some.inj H
    go_enter Try.func44, Try.ntmps44
    go_wp2_with (first | (go_at_call 43; (with_reducible refine (tributarylaw07_of.calls k _ _ l2 t171 _ ?side1 ?side2 A5.out).mono ?_); (case side1 => repeat (first | exact HR2.out | (with_reducible refine Kd.C_alloc ?_ _) | (with_reducible refine Kd.C_drewN ?_ _) | (with_reducible refine Kd.C_drew ?_))); (case side2 => exact HC2.out); rintro e w7 ⟨v172, rfl, ho0, hb⟩; have n0_ := Aside0.mk (Kd.R_lower ho0 (below_size (by repeat (first | (with_reducible first | exact HB.out | apply below_alloc | apply pw_below_drewN | apply below_drew1) | exact HB.out)))); have n1_ := Aside0.mk (below_step (by repeat (first | (with_reducible first | exact HB.out | apply below_alloc | apply pw_below_drewN | apply below_drew1) | exact HB.out)) hb); clear HB; have HO173 := n0_; have HB := n1_; clear n0_ n1_; (try clear hb); (try clear hb2); (try clear hk); (try clear hi); (try clear ho0); obtain ⟨Ao8, co8, eo8⟩ := Kd.R_slice HO173.out; subst eo8) | (go_at_call 18; (with_reducible refine (tributarykit_SameSpans.calls k _ _ l0 _ _ t171 t174 _ ?side1 ?side2 ?side3 ?side4 A6.out).mono ?_); (case side1 => repeat (first | exact (Kd.C_below HR0.out HB.out) | (with_reducible refine Kd.C_alloc ?_ _) | (with_reducible refine Kd.C_drewN ?_ _) | (with_reducible refine Kd.C_drew ?_))); (case side2 => exact HC0.out); (case side3 => repeat (first | exact (Kd.R_reads' HO173.out).2.2 | (with_reducible refine Kd.C_alloc ?_ _) | (with_reducible refine Kd.C_drewN ?_ _) | (with_reducible refine Kd.C_drew ?_))); (case side4 => exact (Kd.R_reads' HO173.out).2.1); rintro e w' ⟨rfl, ⟨nd, rfl⟩⟩))
    go_ret
    exact ⟨by first | rfl | (simp [errW_none, errW_some] <;> rfl) | (simp [*, errW_none, errW_some] <;> rfl), by repeat (first | (with_reducible first | exact HB.out | apply below_alloc | apply pw_below_drewN | apply below_drew1) | exact HB.out)⟩
  · rw [if_neg c4] at H
    have c4b0 : (a1 == 0) = false := beq_eq_false_iff_ne.mpr c4
    have c4b1 : (a1 != 0) = true := bne_iff_ne.mpr c4
    obtain rfl := Option.some.inj H
    go_enter Try.func44, Try.ntmps44
    go_wp2
    go_ret
    exact ⟨by first | rfl | (simp [errW_none, errW_some] <;> rfl) | (simp [*, errW_none, errW_some] <;> rfl), by repeat (first | (with_reducible first | exact HB.out | apply below_alloc | apply pw_below_drewN | apply below_drew1) | exact HB.out)⟩
end
section
def tributarykit_CopySpans.f (l0 : List (S60)) : Option ((List (S60))) := (some (([] : List (S60)) : List (S60))).bind fun y186 => (if y186.length + l0.length < 5864062014805 then (some (y186 ++ l0)) else (none))
set_option maxHeartbeats 8000000 in
set_option maxRecDepth 100000 in
theorem tributarykit_CopySpans.calls (A0 : Option Addr) (c0 : Nat) (l0 : List (S60)) (r : List (S60)) (w : World) (hr0 : Kd.C k60 w A0 l0.length l0) (hc0 : l0.length ≤ c0) (h : tributarykit_CopySpans.f l0 = some r) :
    Calls Try.prog 11 #[.slice A0 l0.length c0] w fun e w' => ∃ v0_ : Value, e = .returned (v0_) ∧ Kd.R k60 60 w' w.heap.size (fun _ => True) v0_ r ∧ Below w.heap.size w w' := by
  have HR0 := Aside0.mk hr0
  have HC0 := Aside0.mk hc0
  clear hr0 hc0
  have HB := Aside0.mk (Below.refl w.heap.size w)
  have H : ((some (([] : List (S60)) : List (S60))).bind fun y186 => (if y186.length + l0.length < 5864062014805 then (some (y186 ++ l0)) else (none))) = some r := h
  clear h
  obtain ⟨y186, hy186⟩ : ∃ y_ : List (S60), y_ = (([] : List (S60))) := ⟨_, rfl⟩
  replace H : (if y186.length + l0.length < 5864062014805 then (some (y186 ++ l0)) else (none)) = some r := by first | (rw [hy186]; with_reducible exact H) | (have H2_ := (Option.bind_some _ _).symm.trans H; rw [hy186]; with_reducible exact H2_) | (have H2_ := (Option.bind_some _ _).symm.trans H; with_reducible exact H2_) | with_reducible exact H | (rw [hy186]; exact H) | exact H
  have Ny186 := Aside0.mk hy186
  clear hy186
  by_cases c2 : y186.length + l0.length < 5864062014805
  · rw [if_pos c2] at H
    have LMc2 := Aside0.mk c2
    clear c2
    obtain ⟨y189, hy189⟩ : ∃ y_ : List (S60), y_ = (y186 ++ l0) := ⟨_, rfl⟩
    replace H : (some y189) = some r := by first | (rw [hy189]; with_reducible exact H) | (have H2_ := (Option.bind_some _ _).symm.trans H; rw [hy189]; with_reducible exact H2_) | (have H2_ := (Option.bind_some _ _).symm.trans H; with_reducible exact H2_) | with_reducible exact H | (rw [hy189]; exact H) | exact H
    have Ny189 := Aside0.mk hy189
    clear hy189
    obtain rfl := Option.some.inj H
    go_enter Try.func11, Try.ntmps11
    go_wp2_with (first | ((with_reducible refine gate_dst (N := 3) rfl ?_); refine Kd.R_lit k60 _ 60 ?hg (N := 3) ?hd (xs := ([] : List (S60))) (inner := []) (ok := fun _ => True) (okp := fun _ => True) ?hr ?hp (fun _ hk => hk) trivial (Below.refl _ _) (Nat.le_refl _) (by simp) ?_; (case hd => rfl); (case hg => rfl); (case hr => first | (go_simp; done) | (go_simp; rfl)); (case hp => exact (Reps.none _ _)); intro v187 w3 ho4 hb hg_ hnew_; clear hg_ hnew_; (first | rw [← Ny186.out] at ho4 | (simp only [Int.reduceToNat] at ho4; rw [← Ny186.out] at ho4)); have n0_ := Aside0.mk (Kd.R_lower ho4 (below_size (by repeat (first | (with_reducible first | exact HB.out | apply below_alloc | apply pw_below_drewN | apply below_drew1) | exact HB.out)))); have n1_ := Aside0.mk (below_step (by repeat (first | (with_reducible first | exact HB.out | apply below_alloc | apply pw_below_drewN | apply below_drew1) | exact HB.out)) hb); clear HB; have HO188 := n0_; have HB := n1_; clear n0_ n1_; clear hb ho4) | ((with_reducible refine gate_builtin (b := .append) (xs := #[.tmp 3, .tmp 4]) rfl ?_); at_builtin; refine Kd.R_append_rows k60 (w0 := w) w.heap.size rfl (.tmp 3) (.tmp 4) 22 60 (.agg #[(.int .i64 0), (.int .i64 0), (.int .i64 0)]) 24 rfl Try.underlying22 info60 rfl (by decide) (by omega) v187 y186 l0 _ _ _ (fun _ => True) (fun _ => False) rfl rfl ?aO ?aR (fun _ _ h => h) (fun _ h => h.elim) ?aF ?aB ?aS ?aL ?_; (case aR => repeat (first | exact (Kd.C_below HR0.out HB.out) | (with_reducible refine Kd.C_alloc ?_ _) | (with_reducible refine Kd.C_drewN ?_ _) | (with_reducible refine Kd.C_drew ?_))); (case aB => exact (by repeat (first | (with_reducible first | exact HB.out | apply below_alloc | apply pw_below_drewN | apply below_drew1) | exact HB.out))); (case aF => exact (fun _ _ => trivial)); (case aO => exact (by (with_reducible repeat (first | apply Kd.R_alloc | apply Kd.R_drewN | apply Kd.R_drew)); exact HO188.out)); (case aS => exact (below_size (by repeat (first | (with_reducible first | exact HB.out | apply below_alloc | apply pw_below_drewN | apply below_drew1) | exact HB.out)))); (case aL => have := LMc2.out; omega); intro v190 w5 ho hb hg hat; rw [← Ny189.out] at ho; have n0_ := Aside0.mk (hb); have n1_ := Aside0.mk (ho); clear HB; clear HO188; have HB := n0_; have HO191 := n1_; clear n0_ n1_; clear ho hb hg hat))
    go_ret
    exact ⟨_, by first | rfl | (simp [errW_none, errW_some] <;> rfl) | (simp [*, errW_none, errW_some] <;> rfl), by (with_reducible repeat (first | apply Kd.R_alloc | apply Kd.R_drewN | apply Kd.R_drew)); exact HO191.out, by repeat (first | (with_reducible first | exact HB.out | apply below_alloc | apply pw_below_drewN | apply below_drew1) | exact HB.out)⟩
  · rw [if_neg c2] at H
    exact absurd H (by simp)
end
section
end
section
def past_number.l0 : Nat → Int → List Int → Int → Int → Option (Int)
  | 0, _, _, _, _ => none
  | k + 1, x3, x6, x7, x8 => if x8 < x7 then (if 0 ≤ x8 then (if x8 < (x6.length : Int) then (past_number.l0 k (Go.bits .or .i64 (wrap64 (x3 * 256)) (wrap64 (rd x6 x8))) x6 x7 (wrap64 (x8 + 1))) else (none)) else (none)) else (some x3)
def past_number.f (k : Nat) (l0 : List Int) : Option (Int) := past_number.l0 k 0 l0 (l0.length : Int) 0
set_option maxHeartbeats 8000000 in
set_option maxRecDepth 100000 in
theorem past_number.calls (k : Nat) (A0 : Option Addr) (c0 : Nat) (l0 : List Int) (r : Int) (w : World) (hr0 : Kd.C (Kd.int .u8) w A0 l0.length l0) (hc0 : l0.length ≤ c0) (h : past_number.f k l0 = some r) :
    Calls Try.prog 49 #[.slice A0 l0.length c0] w fun e w' => e = .returned (.int .i64 r) ∧ Drawn0 w w' := by
  have HR0 := Aside0.mk hr0
  have HC0 := Aside0.mk hc0
  clear hr0 hc0
  have H : (past_number.l0 k 0 l0 (l0.length : Int) 0) = some r := h
  clear h
  have H' := Aside0.mk H
  clear H
  go_enter Try.func49, Try.ntmps49
  go_wp2
  go_loopg [3, 8] k (fun kq v3 v8 w' => ∃ (x3_1 : Int) (x8_1 : Int), v3 = .int .i64 x3_1 ∧ v8 = .int .i64 x8_1 ∧ Aside0 (past_number.l0 kq x3_1 l0 (l0.length : Int) x8_1 = some r) ∧ Aside0 (kq ≤ k) ∧ Drawn0 w w')
  case atStart => exact ⟨(0), (0), (by first | rfl | (simp; done) | (simp [*]; done)), (by first | rfl | (simp; done) | (simp [*]; done)), H', ⟨Nat.le_refl _⟩, by repeat (first | exact Drawn0.refl _ | apply Drawn0.step)⟩
  case round =>
    clear H'
    obtain ⟨x3_1, x8_1, rfl, rfl, HA, HK1, ⟨m1, rfl⟩⟩ := hrel
    cases gk with
    | zero => exact absurd HA.out (by simp [past_number.l0])
    | succ k1 =>
      have H := HA.out
      clear HA
      simp only [past_number.l0] at H
      by_cases c2 : x8_1 < (l0.length : Int)
      · rw [if_pos c2] at H
        have c2b0 : decide (x8_1 < (l0.length : Int)) = true := decide_eq_true c2
        clear c2
        by_cases c3 : 0 ≤ x8_1
        · rw [if_pos c3] at H
          have c3b0 : decide (0 ≤ x8_1) = true := decide_eq_true c3
          clear c3
          by_cases c4 : x8_1 < (l0.length : Int)
          · rw [if_pos c4] at H
            have c4b0 : decide (x8_1 < (l0.length : Int)) = true := decide_eq_true c4
            clear c4
            have H' := Aside0.mk H
            clear H
            have p224 : 0 ≤ (x8_1 : Int) := of_decide_eq_true (by first | (with_reducible assumption) | assumption)
            have q224 : x8_1 < (l0.length : Int) := of_decide_eq_true (by first | (with_reducible assumption) | assumption)
            obtain ⟨ad224, e224, hx224_0⟩ := Kd.at_int HR0.out x8_1 p224 q224
            cases e224
            replace p224 := eq_true p224
            replace q224 := eq_true q224
            go_wp2
            go_roundg k1
            case measure => have := HK1.out; omega
            case rel => exact ⟨(Go.bits .or .i64 (wrap64 (x3_1 * 256)) (wrap64 (rd l0 x8_1))), (wrap64 (x8_1 + 1)), (by first | rfl | (simp; done) | (simp [*]; done)), (by first | rfl | (simp; done) | (simp [*]; done)), H', ⟨by have := HK1.out; omega⟩, by repeat (first | exact Drawn0.refl _ | apply Drawn0.step)⟩
          · rw [if_neg c4] at H
            exact absurd H (by simp)
        · rw [if_neg c3] at H
          exact absurd H (by simp)
      · rw [if_neg c2] at H
        have c2b0 : decide (x8_1 < (l0.length : Int)) = false := decide_eq_false c2
        clear c2
        obtain rfl := Option.some.inj H
        go_wp2
        go_ret
        exact ⟨by first | rfl | (simp; done) | (simp [*]; done), by repeat (first | exact Drawn0.refl _ | apply Drawn0.step)⟩
end
section
end
section
end
section
end
section
attribute [local go_sem high] eqA41
end
end Go.Proofs.YtdelfhahbngcfaaX.P07
end
section
namespace Go.Proofs.Ytdelfhahbngcfaa
open Go.RowKit
set_option linter.unusedVariables false
def u8s (l : List UInt8) : List Value := l.map fun c => .int .u8 (c.toNat : Int)
theorem u8s_length (l : List UInt8) : (u8s l).length = l.length := by simp [u8s]
attribute [simp] u8s_length
theorem u8s_append (l k : List UInt8) : u8s (l ++ k) = u8s l ++ u8s k := by simp [u8s]
theorem u8s_take (l : List UInt8) (n : Nat) : (u8s l).take n = u8s (l.take n) := by simp [u8s, List.map_take]
theorem u8s_drop (l : List UInt8) (n : Nat) : (u8s l).drop n = u8s (l.drop n) := by simp [u8s, List.map_drop]
theorem u8s_get (l : List UInt8) (j : Nat) (h : j < l.length) : (u8s l)[j]? = some (.int .u8 ((l[j]?.getD 0).toNat : Int)) := by simp [u8s, h]
theorem u8s_one (l : List UInt8) : ∀ u ∈ u8s l, u.oneCell' = true := by
  intro u hu; simp [u8s] at hu; obtain ⟨c, _, rfl⟩ := hu; rfl
def q8s (l : List UInt64) : List Value := l.map fun c => .int .u64 (c.toNat : Int)
theorem q8s_length (l : List UInt64) : (q8s l).length = l.length := by simp [q8s]
attribute [simp] q8s_length
structure Ch (S : Nat → Prop) (w w' : World) : Prop where
  os : w'.os = w.os
  tape : w'.tape = w.tape
  output : w'.output = w.output
  size : w.heap.size ≤ w'.heap.size
  block : ∀ k, k < w.heap.size → ¬ S k → w'.heap[k]? = w.heap[k]?
def No : Nat → Prop := fun _ => False
theorem Ch.refl (S : Nat → Prop) (w : World) : Ch S w w := ⟨rfl, rfl, rfl, Nat.le_refl _, fun _ _ _ => rfl⟩
theorem Ch.trans {S S' : Nat → Prop} {a b c : World} (h : Ch S a b) (k : Ch S' b c) (hS : ∀ i, S' i → S i ∨ a.heap.size ≤ i) : Ch S a c :=
  ⟨k.os.trans h.os, k.tape.trans h.tape, k.output.trans h.output, Nat.le_trans h.size k.size, fun i hi hn =>
    (k.block i (Nat.lt_of_lt_of_le hi h.size) (fun hs => (hS i hs).elim hn (fun hge => by omega))).trans (h.block i hi hn)⟩
theorem Ch.mono {S S' : Nat → Prop} {a b : World} (h : Ch S a b) (hS : ∀ i, i < a.heap.size → S i → S' i) : Ch S' a b :=
  ⟨h.os, h.tape, h.output, h.size, fun i hi hn => h.block i hi (fun hs => hn (hS i hi hs))⟩
theorem Ch.of_below {w w' : World} (h : Below w.heap.size w w') (S : Nat → Prop) : Ch S w w' := ⟨h.os, h.tape, h.output, h.size, fun k hk _ => h.block k hk⟩
theorem Ch.below {S : Nat → Prop} {w w' : World} (h : Ch S w w') {B : Nat} (hB : B ≤ w.heap.size) (hS : ∀ k, S k → B ≤ k) : Below B w w' :=
  ⟨h.os, h.tape, h.output, h.size, fun k hk => h.block k (by omega) (fun hs => by have := hS k hs; omega)⟩
theorem Ch.of_grown {w w' : World} {row : Option Nat} (h : w.grownBy w' row) : Ch (fun k => row = some k) w w' := ⟨h.os, h.tape, h.output, h.size, fun k hk hn => h.block k hk (fun e => hn e.symm)⟩
theorem Ch.alloc (w : World) (o : Obj) (S : Nat → Prop) : Ch S w (w.alloc o) := Ch.of_below ((Below.refl _ w).alloc (Nat.le_refl _) o) S
theorem Ch.drew (w : World) (S : Nat → Prop) : Ch S w w.drew := ⟨rfl, rfl, rfl, Nat.le_refl _, fun _ _ _ => rfl⟩
theorem Ch.setCell (w : World) (a : Addr) (v : Value) : Ch (fun k => k = a.block) w (w.setCell a v) :=
  ⟨rfl, rfl, rfl, by simp [World.setCell], fun k _ hn => Below.heap_setCell w a v k hn⟩
theorem below_cell {w w1 : World} (hb : Below w.heap.size w w1) {a : Addr} {v : Value} (hc : w.cell? a = some v) : w1.cell? a = some v := (hb.cell (World.block_lt_of_cell? w a hc)).trans hc
structure Rd (w : World) (A : Option Addr) (n c sz : Nat) (xs : List Value) : Prop where
  len : xs.length = n * sz
  cap : n ≤ c
  big : c ≤ 9223372036854775807
  nil : A = none → c = 0
  cells : ∀ j u, xs[j]? = some u → ∃ b off, A = some ⟨b, off, none⟩ ∧ w.cell? ⟨b, off + j, none⟩ = some u
theorem Rd.keep {w w' : World} {A : Option Addr} {n c sz : Nat} {xs : List Value} (h : Rd w A n c sz xs) (hw : ∀ a, A = some a → a.block < w.heap.size → w'.heap[a.block]? = w.heap[a.block]?) : Rd w' A n c sz xs :=
  ⟨h.len, h.cap, h.big, h.nil, fun j u hu => by
    obtain ⟨b, off, rfl, hc⟩ := h.cells j u hu
    exact ⟨b, off, rfl, (World.cell?_of_block (a := ⟨b, off + j, none⟩) (hw ⟨b, off, none⟩ rfl (World.block_lt_of_cell? w ⟨b, off + j, none⟩ hc))).trans hc⟩⟩
theorem Rd.ch {S : Nat → Prop} {w w' : World} {A : Option Addr} {n c sz : Nat} {xs : List Value} (h : Rd w A n c sz xs) (hc : Ch S w w') (hS : ∀ a, A = some a → ¬ S a.block) : Rd w' A n c sz xs :=
  h.keep fun a ha hlt => hc.block _ hlt (hS a ha)
theorem Rd.below {w w' : World} {A : Option Addr} {n c sz : Nat} {xs : List Value} (h : Rd w A n c sz xs) (hb : Below w.heap.size w w') : Rd w' A n c sz xs :=
  h.keep fun a _ hlt => hb.block _ hlt
theorem Rd.small {w : World} {A : Option Addr} {n c sz : Nat} {xs : List Value} (h : Rd w A n c sz xs) : n ≤ 9223372036854775807 := Nat.le_trans h.cap h.big
theorem Rd.nils {w : World} {A : Option Addr} {n c sz : Nat} {xs : List Value} (h : Rd w A n c sz xs) (hA : A = none) : n = 0 ∧ c = 0 ∧ xs = [] := by
  have h1 := h.nil hA
  have h2 := h.cap
  have h3 := h.len
  have h4 : n = 0 := by omega
  subst h4
  exact ⟨rfl, h1, List.eq_nil_of_length_eq_zero (by simpa using h3)⟩
theorem Rd.str {P : Program} {w : World} {A : Option Addr} {n c : Nat} {l : List UInt8} (h : Rd w A n c 1 (u8s l)) (src e dst : TypeId) (hs : P.underlying src = some (.slice e)) (he : P.underlying e = some (.int .u8)) (hd : P.underlying dst = some .string) :
    (convert src dst (.slice A n c)).run P w = .ok (.string ⟨l.toArray⟩) w := by
  have hl : l.length = n := by have := h.len; simpa using this
  by_cases h0 : n = 0
  · subst h0
    obtain rfl : l = [] := List.eq_nil_of_length_eq_zero hl
    cases A with
    | none => exact run_convert_bytes_nil w src e hs he 0 c dst hd
    | some a =>
      rw [run_convert_bytes_string w src dst e _ 0 c hs he hd]
      simp [Conv.bytesToString, loadCells, loadCellsFrom]
      rfl
  · obtain ⟨b, off, rfl, _⟩ := h.cells 0 _ (u8s_get l 0 (by omega))
    have := run_convert_bytes_arg (P := P) w src e hs he b off n c (l.map fun c => (c.toNat : Int)) (by simpa using hl) (fun i hi => by
      obtain ⟨b', off', e', hc⟩ := h.cells i _ (u8s_get l i (by omega))
      cases e'
      rw [hc]
      simp [List.getD_eq_getElem?_getD, show i < l.length by omega]) dst hd
    rw [this]
    simp [strOfNums, Function.comp_def]
theorem own_form {w : World} {base n sz : Nat} {e : TypeId} {v : Value} {xs : List Value} (h : w.ownsRow base e sz v n xs) : ∃ A c, v = .slice A n c ∧ Rd w A n c sz xs ∧ (∀ a, A = some a → base ≤ a.block ∧ a.block < w.heap.size) := by
  rcases h.2 with ⟨rfl, rfl⟩ | ⟨g, cap, cur, rfl, hb, hg, hn, hm, hcs, ht⟩
  · have hx : xs = [] := List.eq_nil_of_length_eq_zero (by simpa using h.1)
    subst hx
    exact ⟨none, 0, rfl, ⟨h.1, Nat.le_refl _, by omega, fun _ => rfl, fun j u hu => (by simp at hu)⟩, fun a ha => (by cases ha)⟩
  · refine ⟨_, cap, rfl, ⟨h.1, hn, (by simpa only [maxLen] using hm), (fun e => by cases e), fun j u hu => ⟨g, 0, rfl, ?_⟩⟩, fun a ha => (by cases ha; exact ⟨hb, (Array.getElem?_eq_some_iff.1 hg).1⟩)⟩
    rw [Nat.zero_add, cell_of_row w g j cur e (0, 0) hg]
    rw [← ht, List.getElem?_take] at hu
    split at hu
    · simpa using hu
    · cases hu
theorem own_same {w w' : World} {base n sz : Nat} {e : TypeId} {v : Value} {xs : List Value} (h : w.ownsRow base e sz v n xs) (hw : ∀ k, v.ownBlock = some k → w'.heap[k]? = w.heap[k]?) : w'.ownsRow base e sz v n xs := by
  refine ⟨h.1, ?_⟩
  rcases h.2 with hn | ⟨g, cap, cur, rfl, hb, hgg, rest⟩
  · exact .inl hn
  · exact .inr ⟨g, cap, cur, rfl, hb, (hw g rfl).trans hgg, rest⟩
theorem own_ch {S : Nat → Prop} {w w' : World} {base n sz : Nat} {e : TypeId} {v : Value} {xs : List Value} (h : w.ownsRow base e sz v n xs) (hc : Ch S w w') (hS : ∀ k, v.ownBlock = some k → ¬ S k) : w'.ownsRow base e sz v n xs :=
  own_same h fun k hk => hc.block k (h.lt k hk).2 (hS k hk)
theorem own_base {w : World} {base base' n sz : Nat} {e : TypeId} {v : Value} {xs : List Value} (h : w.ownsRow base e sz v n xs) (hb : base' ≤ base) : w.ownsRow base' e sz v n xs := by
  refine ⟨h.1, ?_⟩
  rcases h.2 with hn | ⟨g, cap, cur, rfl, hbg, rest⟩
  · exact .inl hn
  · exact .inr ⟨g, cap, cur, rfl, Nat.le_trans hb hbg, rest⟩
structure Row (w : World) (g : Nat) (e : TypeId) (c sz : Nat) (xs : List Value) : Prop where
  ex : ∃ cur : Array Value, w.heap[g]? = some (.cells cur e (0, 0)) ∧ cur.size = c * sz ∧ cur.toList.take xs.length = xs
  fits : xs.length ≤ c * sz
  big : c ≤ 9223372036854775807
theorem Row.lt {w : World} {g : Nat} {e : TypeId} {c sz : Nat} {xs : List Value} (h : Row w g e c sz xs) : g < w.heap.size := by
  obtain ⟨cur, hg, _⟩ := h.ex
  exact (Array.getElem?_eq_some_iff.1 hg).1
theorem Row.cell {w : World} {g : Nat} {e : TypeId} {c sz : Nat} {xs : List Value} (h : Row w g e c sz xs) {j : Nat} {u : Value} (hu : xs[j]? = some u) : w.cell? ⟨g, j, none⟩ = some u := by
  obtain ⟨cur, hg, hs, ht⟩ := h.ex
  rw [cell_of_row w g j cur e (0, 0) hg]
  rw [← ht, List.getElem?_take] at hu
  split at hu
  · simpa using hu
  · cases hu
theorem Row.thawed {w : World} {g : Nat} {e : TypeId} {c sz : Nat} {xs : List Value} (h : Row w g e c sz xs) (j : Nat) : w.frozen? ⟨g, j, none⟩ = false := by
  obtain ⟨cur, hg, hs, ht⟩ := h.ex
  simp [World.frozen?, hg]
theorem Row.same {w w' : World} {g : Nat} {e : TypeId} {c sz : Nat} {xs : List Value} (h : Row w g e c sz xs) (hw : w'.heap[g]? = w.heap[g]?) : Row w' g e c sz xs :=
  ⟨by rw [hw]; exact h.ex, h.fits, h.big⟩
theorem Row.ch {S : Nat → Prop} {w w' : World} {g : Nat} {e : TypeId} {c sz : Nat} {xs : List Value} (h : Row w g e c sz xs) (hc : Ch S w w') (hS : ¬ S g) : Row w' g e c sz xs := h.same (hc.block g h.lt hS)
theorem Row.below {w w' : World} {g : Nat} {e : TypeId} {c sz : Nat} {xs : List Value} (h : Row w g e c sz xs) (hc : Below w.heap.size w w') : Row w' g e c sz xs := h.same (hc.block g h.lt)
theorem Row.rd {w : World} {g : Nat} {e : TypeId} {c sz : Nat} {xs : List Value} (h : Row w g e c sz xs) (o n c' : Nat) (ys : List Value) (hy : ys = (xs.drop o).take (n * sz)) (hl : o + n * sz ≤ xs.length) (hn : n ≤ c') (hc : c' ≤ 9223372036854775807) : Rd w (some ⟨g, o, none⟩) n c' sz ys := by
  subst hy
  refine ⟨?_, hn, hc, (fun e => by cases e), fun j u hu => ⟨g, o, rfl, ?_⟩⟩
  · simp; omega
  · refine h.cell ?_
    rw [List.getElem?_take] at hu
    split at hu
    · simpa [List.getElem?_drop] using hu
    · cases hu
theorem Row.set {w : World} {g : Nat} {e : TypeId} {c sz : Nat} {xs : List Value} (h : Row w g e c sz xs) (j : Nat) (u : Value) (hj : j < xs.length) : Row (w.setCell ⟨g, j, none⟩ u) g e c sz (xs.set j u) := by
  obtain ⟨cur, hg, hs, ht⟩ := h.ex
  refine ⟨⟨cur.setIfInBounds j u, ?_, by simpa using hs, ?_⟩, by simpa using h.fits, h.big⟩
  · simp [World.setCell, Array.getElem?_modify, hg]
  · have : (cur.setIfInBounds j u).toList = cur.toList.set j u := by simp
    rw [this, List.length_set, List.take_set, ht]
theorem own_row {w : World} {base n sz : Nat} {e : TypeId} {v : Value} {xs : List Value} (h : w.ownsRow base e sz v n xs) (hv : v ≠ .slice none 0 0) : ∃ g c, v = .slice (some ⟨g, 0, none⟩) n c ∧ base ≤ g ∧ n ≤ c ∧ Row w g e c sz xs := by
  rcases h.2 with ⟨rfl, rfl⟩ | ⟨g, cap, cur, rfl, hb, hg, hn, hm, hcs, ht⟩
  · exact absurd rfl hv
  · refine ⟨g, cap, rfl, hb, hn, ⟨cur, hg, hcs, ?_⟩, ?_, by simpa only [maxLen] using hm⟩
    · rw [h.1]; exact ht
    · rw [h.1]; exact Nat.mul_le_mul_right _ hn
theorem Row.own {w : World} {g : Nat} {e : TypeId} {c sz : Nat} {xs : List Value} (h : Row w g e c sz xs) {base n : Nat} (hb : base ≤ g) (hn : xs.length = n * sz) (hc : n ≤ c) : w.ownsRow base e sz (.slice (some ⟨g, 0, none⟩) n c) n xs := by
  obtain ⟨cur, hg, hs, ht⟩ := h.ex
  exact ⟨hn, .inr ⟨g, c, cur, rfl, hb, hg, hc, by simpa only [maxLen] using h.big, hs, by rw [← hn]; exact ht⟩⟩
theorem rd_mark (w : World) (cs : Array Value) (e : TypeId) (fr : Nat × Nat) (n sz : Nat) (h : cs.size = n * sz) (hn : n ≤ 9223372036854775807) : Rd (w.alloc (.cells cs e fr)) (some ⟨w.heap.size, 0, none⟩) n n sz cs.toList :=
  ⟨by simpa using h, Nat.le_refl _, hn, (fun e => by cases e), fun j u hu => ⟨_, 0, rfl, by
    rw [Nat.zero_add, cell_of_row _ w.heap.size j cs e fr (heap_alloc_new w _)]; simpa using hu⟩⟩
theorem rd_lit (w : World) (cs : Array Value) (e : TypeId) (n sz : Nat) (h : cs.size = n * sz) (hn : n ≤ 9223372036854775807) : Rd (w.alloc (.cells cs e)) (some ⟨w.heap.size, 0, none⟩) n n sz cs.toList := rd_mark w cs e (0, 0) n sz h hn
theorem row_lit (w : World) (cs : Array Value) (e : TypeId) (n sz : Nat) (h : cs.size = n * sz) (hn : n ≤ 9223372036854775807) : Row (w.alloc (.cells cs e)) w.heap.size e n sz cs.toList :=
  ⟨⟨cs, heap_alloc_new w _, h, List.take_length⟩, by simp [h], hn⟩
section
variable {P : Program} {ops : Array Oper} {rest : List Oper} {o : Oper} {a : Act} {Q : Exit → Act → World → Prop}
theorem wpList_app (w : World) (hgd : o.guard = none) (s x : Operand) (t : TypeId)
    (ho : o.op = .call { callee := .builtin .append, args := #[s, x], argTypes := #[t, t] })
    (base : Nat) (e : TypeId) (z : Value) (size bytes : Nat) (ht : P.underlying t = some (.slice e)) (hinfo : (P.info? e).map (fun i => (i.zero, i.size, i.bytes)) = some (some z, size, bytes)) (hzs : z.cells.size = size) (hsz : 0 < size)
    (v : Value) (n : Nat) (xs : List Value) (hs : a.eval s = v) (hown : w.ownsRow base e size v n xs)
    (A : Option Addr) (m c : Nat) (news : List Value) (hx : a.eval x = .slice A m c) (hr : Rd w A m c size news) (h1 : ∀ u ∈ news, u.oneCell' = true)
    (h63 : n + m ≤ maxLen) (hbytes : (n + m) * bytes ≤ 140737488355328) (hbase : base ≤ w.heap.size)
    (h : ∀ v' w', w'.ownsRow base e size v' (n + m) (xs ++ news) → w.grownBy w' v.ownBlock → (v' = .slice none 0 0 ↔ v = .slice none 0 0 ∧ m = 0) → (v'.ownBlock = v.ownBlock ∨ v'.ownBlock = some w.heap.size) → wpList P ops Q rest (a.put o.dst v') w') : wpList P ops Q (o :: rest) a w := by
  obtain ⟨i0, hi, hzz⟩ := Option.map_eq_some_iff.1 hinfo
  simp only [Prod.mk.injEq] at hzz
  obtain ⟨hz0, hz1, hz2⟩ := hzz
  cases hA : A with
  | none =>
    obtain ⟨rfl, rfl, rfl⟩ := hr.nils hA
    subst hA
    refine wpList_append_own_none hgd s x t ho base e i0 size ht hi v n xs hs hown hx (h v w (by simpa using hown) ⟨rfl, rfl, rfl, Nat.le_refl _, fun _ _ _ => rfl⟩ (by simp) (.inl rfl))
  | some ad =>
    subst hA
    refine wpList_append_own_at w hgd s x t ho base e i0 z size bytes ht hi hz0 hz1 hz2 hzs hsz v n xs hs hown ad m c news hx hr.len (fun j u hu => ?_) h1 h63 hbytes hbase h
    obtain ⟨b, off, he, hc⟩ := hr.cells j u hu
    cases he
    have : (⟨b, off, none⟩ : Addr).add j = ⟨b, off + j, none⟩ := by unfold Addr.add; split <;> simp_all
    rw [this]; exact hc
theorem wpList_app_row (w : World) (hgd : o.guard = none) (s x : Operand) (t : TypeId)
    (ho : o.op = .call { callee := .builtin .append, args := #[s, x], argTypes := #[t, t] })
    (base : Nat) (e : TypeId) (z : Value) (size bytes : Nat) (ht : P.underlying t = some (.slice e)) (hinfo : (P.info? e).map (fun i => (i.zero, i.size, i.bytes)) = some (some z, size, bytes)) (hzs : z.cells.size = size) (hsz : 0 < size)
    (g n c : Nat) (xs : List Value) (hs : a.eval s = .slice (some ⟨g, 0, none⟩) n c) (hrow : Row w g e c size xs) (hb : base ≤ g) (hn : xs.length = n * size) (hnc : n ≤ c)
    (A : Option Addr) (m c2 : Nat) (news : List Value) (hx : a.eval x = .slice A m c2) (hr : Rd w A m c2 size news) (h1 : ∀ u ∈ news, u.oneCell' = true)
    (h63 : n + m ≤ maxLen) (hbytes : (n + m) * bytes ≤ 140737488355328) (hbase : base ≤ w.heap.size)
    (h : ∀ g' c' w', Row w' g' e c' size (xs ++ news) → n + m ≤ c' → base ≤ g' → (g' = g ∨ g' = w.heap.size) → Ch (fun k => k = g) w w' → wpList P ops Q rest (a.put o.dst (.slice (some ⟨g', 0, none⟩) (n + m) c')) w') : wpList P ops Q (o :: rest) a w := by
  refine wpList_app w hgd s x t ho base e z size bytes ht hinfo hzs hsz _ n xs hs (hrow.own hb hn hnc) A m c2 news hx hr h1 h63 hbytes hbase ?_
  intro v' w' hown hg hnil hat
  obtain ⟨g', c', rfl, hbg, hnc', hrow'⟩ := own_row hown (fun h => by have := (hnil.1 h).1; simp at this)
  refine h g' c' w' hrow' hnc' hbg ?_ ((Ch.of_grown hg).mono fun i _ hi => ?_)
  · simpa [Value.ownBlock] using hat
  · have : g = i := by simpa [Value.ownBlock] using hi
    exact this.symm
end
end Go.Proofs.Ytdelfhahbngcfaa
end
section
namespace Go.Proofs.YtdelfhahbngcfaaX.P07
open Go.RowKit Go.Shelf Go.Proofs.Ytdelfhahbngcfaa Go.Proofs.YtdelfhahbngcfaaW.PrintWords Go.Proofs.YtdelfhahbngcfaaW.PrintLast Go.Proofs.YtdelfhahbngcfaaW.PrintMore
set_option linter.unusedVariables false
set_option linter.unusedSimpArgs false
attribute [local go_sem] Oper.semAt_some max2_int min2_int max_two min_two
theorem cells60 {w : World} {A : Option Addr} {n : Nat} {xs : List S60} (h : Kd.C k60 w A n xs) (hn : 0 < xs.length) : ∃ b off, A = some ⟨b, off, none⟩ ∧ ∀ i : Nat, i < xs.length →
    w.cell? ⟨b, off + i * 3, none⟩ = some (.int .i64 (rd_T60 xs i).f0) ∧ w.cell? ⟨b, off + i * 3 + 1, none⟩ = some (.int .i64 (rd_T60 xs i).f1) ∧ w.cell? ⟨b, off + i * 3 + 2, none⟩ = some (.int .i64 (rd_T60 xs i).f2) := by
  have hl : xs.length = n := h.1
  obtain ⟨ad, rfl, q0, _⟩ := at_T60 h 0 (by omega) (by omega)
  obtain ⟨b, off, rfl⟩ : ∃ b off, ad = ⟨b, off, none⟩ := by
    obtain ⟨b, off, sp⟩ := ad
    cases sp with
    | none => exact ⟨b, off, rfl⟩
    | some z => simp [World.cell?, Addr.add] at q0; split at q0 <;> simp_all
  refine ⟨b, off, rfl, fun i hi => ?_⟩
  obtain ⟨ad, e, r0, r1, r2⟩ := at_T60 h (i : Int) (by omega) (by omega)
  cases e
  have hadd : (⟨b, off, none⟩ : Addr).add (i * 3) = ⟨b, off + i * 3, none⟩ := by unfold Addr.add; split <;> simp_all
  simp only [Int.toNat_natCast, hadd] at r0 r1 r2
  exact ⟨r0, r1, r2⟩
def inS (x : S60) (n s : Int) : Bool := x.f0 == n && (decide (x.f1 ≤ s) && decide (s ≤ x.f2))
set_option maxHeartbeats 2000000 in
theorem has1_any (x : S60) (n s : Int) (B : Nat) (w : World) (hb : w.cell? ⟨B, 0, none⟩ = some (.int .i64 n)) (hb1 : w.cell? ⟨B, 1, none⟩ = some (.int .i64 s)) :
    Calls Try.prog 56 #[.agg #[.int .i64 x.f0, .int .i64 x.f1, .int .i64 x.f2], .pointer (some ⟨B, 0, none⟩)] w fun e w' => e = .returned (.bool (inS x n s)) ∧ Below w.heap.size w w' := by
  obtain ⟨a, b, c⟩ := x
  have hb2 : Below w.heap.size w (w.alloc (.cells #[.int .i64 a, .int .i64 b, .int .i64 c] 60)) := (Below.refl _ w).alloc (Nat.le_refl _) _
  have q0 := (hb2.cell (p := ⟨B, 0, none⟩) (World.block_lt_of_cell? w _ hb)).trans hb
  have q1 := (hb2.cell (p := ⟨B, 1, none⟩) (World.block_lt_of_cell? w _ hb1)).trans hb1
  have HB := Lib.hid hb2
  clear hb2 hb hb1
  unfold inS
  simp only []
  obtain ⟨r, hr⟩ : ∃ r : Bool, r = (a == n && (decide (b ≤ s) && decide (s ≤ c))) := ⟨_, rfl⟩
  rw [← hr]
  by_cases h1 : a = n
  · subst h1
    by_cases h2 : b ≤ s
    · by_cases h3 : s ≤ c
      · have e : r = true := by simp [hr, h2, h3]
        have h2' := decide_eq_true h2; have h3' := decide_eq_true h3
        subst e; clear hr h2 h3
        go_enter Try.func56, Try.ntmps56
        go_wp2
        go_ret
        exact ⟨rfl, HB.out⟩
      · have e : r = false := by simp [hr, h2, h3]
        have h2' := decide_eq_true h2; have h3' := decide_eq_false h3
        subst e; clear hr h2 h3
        go_enter Try.func56, Try.ntmps56
        go_wp2
        go_ret
        exact ⟨rfl, HB.out⟩
    · have e : r = false := by simp [hr, h2]
      have h2' := decide_eq_false h2
      subst e; clear hr h2
      go_enter Try.func56, Try.ntmps56
      go_wp2
      go_ret
      exact ⟨rfl, HB.out⟩
  · have e : r = false := by simp [hr, h1]
    have h1' : (a == n) = false := beq_eq_false_iff_ne.2 h1
    subst e; clear hr h1
    go_enter Try.func56, Try.ntmps56
    go_wp2
    go_ret
    exact ⟨rfl, HB.out⟩
set_option maxRecDepth 100000 in
set_option maxHeartbeats 4000000 in
theorem hasIx_any (A : Option Addr) (c B : Nat) (xs : List S60) (n s : Int) (w : World) (hb : w.cell? ⟨B, 0, none⟩ = some (.int .i64 n)) (hb1 : w.cell? ⟨B, 1, none⟩ = some (.int .i64 s)) (hx : Kd.C k60 w A xs.length xs) (hxs : xs.length ≤ 2000000) :
    Calls Try.prog 72 #[.slice A xs.length c, .func (.func 56) #[] #[.pointer (some ⟨B, 0, none⟩)]] w fun e w' => ∃ i : Int, e = .returned (.int .i64 i) ∧ decide (0 ≤ i) = xs.any (fun x => inS x n s) ∧ Below w.heap.size w w' := by
  have HB := Lib.hid hb; have HB1 := Lib.hid hb1
  have HX := Lib.hid (fun h0 => cells60 hx h0)
  obtain ⟨N, hN⟩ : ∃ N, N = xs.length := ⟨_, rfl⟩
  rw [← hN] at hxs ⊢
  have HN := Lib.hid hN
  have HB0 := Lib.hid (Below.refl w.heap.size w)
  clear hb hb1 hx hN
  go_enter Try.func72, Try.ntmps72
  go_wp2
  go_loopw [8] (fun i wr => ∃ k : Nat, k ≤ N ∧ i = .int .i64 k ∧ Hid ((xs.take k).any (fun x => inS x n s) = false) ∧ Hid (Below w.heap.size w wr)) (fun i _ => N - (intOf i).toNat)
  case atStart => exact ⟨0, Nat.zero_le _, rfl, Lib.hid rfl, HB0⟩
  case round =>
    obtain ⟨k, hk, rfl, HF, HW⟩ := hrel
    by_cases hlt : k < N
    · have hkl : k < xs.length := by rw [← HN.out]; exact hlt
      obtain ⟨b, off, rfl, hc⟩ := HX.out (by omega)
      obtain ⟨q0, q1, q2⟩ := hc k hkl
      obtain ⟨x, hx⟩ : ∃ x, x = rd_T60 xs (k : Int) := ⟨_, rfl⟩
      rw [← hx] at q0 q1 q2
      replace q0 := (HW.out.cell (World.block_lt_of_cell? w _ q0)).trans q0
      replace q1 := (HW.out.cell (World.block_lt_of_cell? w _ q1)).trans q1
      replace q2 := (HW.out.cell (World.block_lt_of_cell? w _ q2)).trans q2
      have hxx : xs[k] = x := by rw [hx]; unfold rd_T60; simp [List.getD_eq_getElem?_getD, hkl]
      have HT := Lib.hid (show xs.take (k + 1) = xs.take k ++ [x] by rw [List.take_succ_eq_append_getElem hkl, hxx])
      have HXE := Lib.hid (show x ∈ xs by rw [← hxx]; exact List.getElem_mem hkl)
      have HCALL := Lib.hid (has1_any x n s B wr ((HW.out.cell (World.block_lt_of_cell? w _ HB.out)).trans HB.out) ((HW.out.cell (World.block_lt_of_cell? w _ HB1.out)).trans HB1.out))
      clear hc hx hxx hkl
      cases hd : inS x n s with
      | true =>
        rw [hd] at HCALL
        have HANY := Lib.hid (show xs.any (fun x => inS x n s) = true from List.any_eq_true.2 ⟨x, HXE.out, hd⟩)
        clear hd
        go_wp2_with (go_at_call 56; refine HCALL.out.mono ?_; rintro e w1 ⟨rfl, hbel⟩; have HW1 := Lib.hid (HW.out.trans (hbel.mono HW.out.size)); clear hbel)
        go_ret
        exact ⟨_, rfl, by rw [HANY.out]; simp, HW1.out⟩
      | false =>
        rw [hd] at HCALL
        have HF2 := Lib.hid (show (xs.take (k + 1)).any (fun x => inS x n s) = false by rw [HT.out, List.any_append, HF.out]; simp [hd])
        clear hd
        go_wp2_with (go_at_call 56; refine HCALL.out.mono ?_; rintro e w1 ⟨rfl, hbel⟩; have HW1 := Lib.hid (HW.out.trans (hbel.mono HW.out.size)); clear hbel)
        go_roundw
        case rel => exact ⟨k + 1, by omega, by go_num, HF2, HW1⟩
        case measure => simp [intOf]; omega
    · obtain rfl : k = N := by omega
      have HA := Lib.hid (show xs.any (fun x => inS x n s) = false by have := HF.out; rw [HN.out, List.take_length] at this; exact this)
      go_wp2
      go_ret
      exact ⟨_, rfl, by rw [HA.out]; decide, HW.out⟩
theorem hasC_any (A : Option Addr) (c B : Nat) (xs : List S60) (n s : Int) (w : World) (hb : w.cell? ⟨B, 0, none⟩ = some (.int .i64 n)) (hb1 : w.cell? ⟨B, 1, none⟩ = some (.int .i64 s)) (hx : Kd.C k60 w A xs.length xs) (hxs : xs.length ≤ 2000000) :
    Calls Try.prog 55 #[.slice A xs.length c, .func (.func 56) #[] #[.pointer (some ⟨B, 0, none⟩)]] w fun e w' => e = .returned (.bool (xs.any (fun x => inS x n s))) ∧ Below w.heap.size w w' := by
  have H := Lib.hid (hasIx_any A c B xs n s w hb hb1 hx hxs)
  clear hb hb1 hx
  go_enter Try.func55, Try.ntmps55
  go_wp2_with (go_at_call 72; refine H.out.mono ?_; rintro e w1 ⟨i, rfl, hi, hbel⟩; have HI := Lib.hid hi; have HB := Lib.hid hbel; clear hi hbel)
  go_ret
  exact ⟨congrArg (fun b => Ending.returned (.bool b)) HI.out, HB.out⟩
def past_Has.f (k : Nat) (l0 : List S60) (a1_0 a1_1 : Int) : Option Bool := if l0.length ≤ 2000000 then (past_Check.f k l0).bind fun e => if e = 0 then some (l0.any (fun x => inS x a1_0 a1_1)) else some false else none
theorem past_Has.mono : ∀ a0 a1 a2 k, LeO (past_Has.f k a0 a1 a2) (past_Has.f (k + 1) a0 a1 a2) := fun a0 a1 a2 k => by
  unfold past_Has.f
  exact LeO.ite (LeO.bind (past_Check.mono a0 k) (fun _ => LeO.refl _)) (LeO.refl _)
set_option maxHeartbeats 2000000 in
theorem past_Has.calls (k : Nat) (A0 : Option Addr) (c0 : Nat) (l0 : List (S60)) (a1_0 a1_1 : Int) (r : Bool) (w : World) (hr0 : Kd.C k60 w A0 l0.length l0) (hc0 : l0.length ≤ c0) (h : past_Has.f k l0 a1_0 a1_1 = some r) :
    Calls Try.prog 24 #[.slice A0 l0.length c0, .agg #[.int .i64 a1_0, .int .i64 a1_1]] w fun e w' => e = .returned (.bool r) ∧ Below w.heap.size w w' := by
  unfold past_Has.f at h
  by_cases hl : l0.length ≤ 2000000
  rotate_left
  · rw [if_neg hl] at h; cases h
  rw [if_pos hl] at h
  obtain ⟨e0, he, h⟩ := Option.bind_eq_some_iff.mp h
  have hb2 : Below w.heap.size w (w.alloc (.cells #[.int .i64 a1_0, .int .i64 a1_1] 41)) := (Below.refl _ w).alloc (Nat.le_refl _) _
  have HC := Lib.hid (past_Check.calls k A0 c0 l0 e0 _ (Kd.C_below hr0 hb2) hc0 he)
  have q0 : (w.alloc (.cells #[.int .i64 a1_0, .int .i64 a1_1] 41)).cell? ⟨w.heap.size, 0, none⟩ = some (.int .i64 a1_0) := (YtdelfhahbngcfaaW.PrintWords.blk_cell (blk_new w _) 0).trans rfl
  have q1 : (w.alloc (.cells #[.int .i64 a1_0, .int .i64 a1_1] 41)).cell? ⟨w.heap.size, 1, none⟩ = some (.int .i64 a1_1) := (YtdelfhahbngcfaaW.PrintWords.blk_cell (blk_new w _) 1).trans rfl
  have HQ := Lib.hid (fun W (hW : Below (w.alloc (.cells #[.int .i64 a1_0, .int .i64 a1_1] 41)).heap.size (w.alloc (.cells #[.int .i64 a1_0, .int .i64 a1_1] 41)) W) =>
    hasC_any A0 c0 w.heap.size l0 a1_0 a1_1 W ((hW.cell (p := ⟨w.heap.size, 0, none⟩) (World.block_lt_of_cell? _ _ q0)).trans q0) ((hW.cell (p := ⟨w.heap.size, 1, none⟩) (World.block_lt_of_cell? _ _ q1)).trans q1) (Kd.C_below (Kd.C_below hr0 hb2) hW) hl)
  have HB := Lib.hid hb2
  clear q0 q1 hb2 hr0
  by_cases h0 : e0 = 0
  · subst h0
    rw [if_pos rfl] at h
    obtain rfl := Option.some.inj h
    clear h
    go_enter Try.func24, Try.ntmps24
    go_wp2_with first | (go_at_call 55; refine (HQ.out _ HB1.out).mono ?_; rintro e w2 ⟨rfl, hbel2⟩; have HB3 := Lib.hid hbel2; clear hbel2) | (go_at_call 38; refine HC.out.mono ?_; rintro e w1 ⟨rfl, hbel⟩; have HB1 := Lib.hid hbel; clear hbel)
    go_ret
    have s1 := HB1.out.size
    have s0 := HB.out.size
    exact ⟨rfl, HB.out.trans ((HB1.out.mono s0).trans (HB3.out.mono (Nat.le_trans s0 s1)))⟩
  · rw [if_neg h0] at h
    obtain rfl := Option.some.inj h
    have h0' : (e0 == 0) = false := beq_eq_false_iff_ne.2 h0
    clear h h0
    go_enter Try.func24, Try.ntmps24
    go_wp2_with (go_at_call 38; refine HC.out.mono ?_; rintro e w1 ⟨rfl, hbel⟩; have HB1 := Lib.hid hbel; clear hbel)
    go_ret
    exact ⟨rfl, HB.out.trans (HB1.out.mono HB.out.size)⟩
def cnt1 (n : Int) (x : S60) : Int := wrap64 (wrap64 (wrap64 (n + x.f2) - x.f1) + 1)
def last1 (nd : Int) (n : Int) (x : S60) : Int := if x.f0 = nd then mx n x.f2 else n
set_option maxHeartbeats 2000000 in
theorem cnt1_any (n : Int) (x : S60) (w : World) : Calls Try.prog 58 #[.int .i64 n, .agg #[.int .i64 x.f0, .int .i64 x.f1, .int .i64 x.f2]] w fun e w' => e = .returned (.int .i64 (cnt1 n x)) ∧ Below w.heap.size w w' := by
  obtain ⟨a, b, c⟩ := x
  have HB := Lib.hid ((Below.refl w.heap.size w).alloc (Nat.le_refl _) (.cells #[.int .i64 a, .int .i64 b, .int .i64 c] 60))
  unfold cnt1
  go_enter Try.func58, Try.ntmps58
  go_wp2
  go_ret
  exact ⟨rfl, HB.out⟩
set_option maxHeartbeats 2000000 in
theorem last1_any (nd n : Int) (x : S60) (B : Nat) (w : World) (hb : w.cell? ⟨B, 0, none⟩ = some (.int .i64 nd)) : Calls Try.prog 59 #[.int .i64 n, .agg #[.int .i64 x.f0, .int .i64 x.f1, .int .i64 x.f2], .pointer (some ⟨B, 0, none⟩)] w fun e w' => e = .returned (.int .i64 (last1 nd n x)) ∧ Below w.heap.size w w' := by
  obtain ⟨a, b, c⟩ := x
  have hb2 := (Below.refl w.heap.size w).alloc (Nat.le_refl _) (.cells #[.int .i64 a, .int .i64 b, .int .i64 c] 60)
  have q := (hb2.cell (p := ⟨B, 0, none⟩) (World.block_lt_of_cell? w _ hb)).trans hb
  have HB := Lib.hid hb2
  clear hb hb2
  by_cases h : a = nd
  · have e : last1 nd n ⟨a, b, c⟩ = mx n c := if_pos h
    rw [e]
    subst h
    clear e
    go_enter Try.func59, Try.ntmps59
    go_wp2
    · go_ret
      exact ⟨by rw [show mx n c = c from if_pos (by assumption)]; rfl, HB.out⟩
    · go_ret
      exact ⟨by rw [show mx n c = n from if_neg (by omega)]; rfl, HB.out⟩
  · have e : last1 nd n ⟨a, b, c⟩ = n := if_neg h
    rw [e]
    have h' : (a != nd) = true := bne_iff_ne.2 h
    clear h e
    go_enter Try.func59, Try.ntmps59
    go_wp2
    go_ret
    exact ⟨rfl, HB.out⟩
set_option maxRecDepth 100000 in
set_option maxHeartbeats 4000000 in
theorem cnt_fold (A : Option Addr) (c : Nat) (xs : List S60)  (k0 : Nat) (w : World) (hx : Kd.C k60 w A xs.length xs) (hc0 : xs.length ≤ c) (hxs : xs.length ≤ 2000000) (e0 : Int) (hchk : past_Check.f k0 xs = some e0) :
    Calls Try.prog 57 #[.slice A xs.length c, .func (.func 58) #[] #[]] w fun e w' => e = .returned (.int .i64 (if e0 = 0 then xs.foldl (cnt1) 0 else 0)) ∧ Below w.heap.size w w' := by
  have HX := Lib.hid (fun h0 => cells60 hx h0)
  have HCHK := Lib.hid (past_Check.calls k0 A c xs e0 w hx hc0 hchk)
  clear hchk
  by_cases he : e0 = 0
  · subst he
    rw [if_pos rfl]
    obtain ⟨N, hN⟩ : ∃ N, N = xs.length := ⟨_, rfl⟩
    rw [← hN] at hxs ⊢
    rw [← hN] at HCHK
    have HN := Lib.hid hN
    clear hx hN
    go_enter Try.func57, Try.ntmps57
    go_wp2_with (go_at_call 38; refine HCHK.out.mono ?_; rintro e w1 ⟨rfl, hbel⟩; have HB0 := Lib.hid hbel; clear hbel)
    go_loopw [5, 14] (fun acc i wr => ∃ k : Nat, k ≤ N ∧ i = .int .i64 k ∧ acc = .int .i64 ((xs.take k).foldl (cnt1) 0) ∧ Hid (Below w.heap.size w wr)) (fun _ i _ => N - (intOf i).toNat)
    case atStart => exact ⟨0, Nat.zero_le _, rfl, rfl, HB0⟩
    case round =>
      obtain ⟨k, hk, rfl, rfl, HW⟩ := hrel
      by_cases hlt : k < N
      · have hkl : k < xs.length := by rw [← HN.out]; exact hlt
        obtain ⟨b, off, rfl, hc⟩ := HX.out (by omega)
        obtain ⟨q0, q1, q2⟩ := hc k hkl
        obtain ⟨x, hx⟩ : ∃ x, x = rd_T60 xs (k : Int) := ⟨_, rfl⟩
        rw [← hx] at q0 q1 q2
        replace q0 := (HW.out.cell (World.block_lt_of_cell? w _ q0)).trans q0
        replace q1 := (HW.out.cell (World.block_lt_of_cell? w _ q1)).trans q1
        replace q2 := (HW.out.cell (World.block_lt_of_cell? w _ q2)).trans q2
        have hxx : xs[k] = x := by rw [hx]; unfold rd_T60; simp [List.getD_eq_getElem?_getD, hkl]
        obtain ⟨acc, hacc⟩ : ∃ acc, acc = (xs.take k).foldl (cnt1) 0 := ⟨_, rfl⟩
        rw [← hacc]
        have HT := Lib.hid (show (xs.take (k + 1)).foldl (cnt1) 0 = (cnt1) acc x by rw [List.take_succ_eq_append_getElem hkl, hxx, List.foldl_append, ← hacc]; rfl)
        have HW1 := Lib.hid (HW.out.alloc HW.out.size (.cells #[.int .i64 x.f0, .int .i64 x.f1, .int .i64 x.f2] 60))
        have HCALL := Lib.hid (cnt1_any acc x (wr.alloc (.cells #[.int .i64 x.f0, .int .i64 x.f1, .int .i64 x.f2] 60)))
        obtain ⟨acc1, hacc1⟩ : ∃ a, a = (cnt1) acc x := ⟨_, rfl⟩
        rw [← hacc1] at HT HCALL
        clear hc hx hxx hkl hacc hacc1
        go_wp2_with (go_at_call 58; refine HCALL.out.mono ?_; rintro e w2 ⟨rfl, hbel⟩; have HW2 := Lib.hid (HW1.out.trans (hbel.mono HW1.out.size)); clear hbel)
        go_roundw
        case rel => exact ⟨k + 1, by omega, by go_num, by rw [HT.out], HW2⟩
        case measure => simp [intOf]; omega
      · obtain rfl : k = N := by omega
        have HE := Lib.hid (show xs.take k = xs by rw [HN.out, List.take_length])
        go_wp2
        go_ret
        exact ⟨by rw [HE.out]; rfl, HW.out⟩
  · rw [if_neg he]
    have he' : (e0 != 0) = true := bne_iff_ne.2 he
    clear he hx
    go_enter Try.func57, Try.ntmps57
    go_wp2_with (go_at_call 38; refine HCHK.out.mono ?_; rintro e w1 ⟨rfl, hbel⟩; have HB0 := Lib.hid hbel; clear hbel)
    go_ret
    exact ⟨rfl, HB0.out⟩
set_option maxRecDepth 100000 in
set_option maxHeartbeats 4000000 in
theorem last_fold (A : Option Addr) (c : Nat) (xs : List S60) (nd : Int) (B : Nat) (k0 : Nat) (w : World) (hx : Kd.C k60 w A xs.length xs) (hc0 : xs.length ≤ c) (hxs : xs.length ≤ 2000000) (e0 : Int) (hchk : past_Check.f k0 xs = some e0) (hb : w.cell? ⟨B, 0, none⟩ = some (.int .i64 nd)) :
    Calls Try.prog 57 #[.slice A xs.length c, .func (.func 59) #[] #[.pointer (some ⟨B, 0, none⟩)]] w fun e w' => e = .returned (.int .i64 (if e0 = 0 then xs.foldl (last1 nd) 0 else 0)) ∧ Below w.heap.size w w' := by
  have HX := Lib.hid (fun h0 => cells60 hx h0)
  have HB1 := Lib.hid hb
  clear hb
  have HCHK := Lib.hid (past_Check.calls k0 A c xs e0 w hx hc0 hchk)
  clear hchk
  by_cases he : e0 = 0
  · subst he
    rw [if_pos rfl]
    obtain ⟨N, hN⟩ : ∃ N, N = xs.length := ⟨_, rfl⟩
    rw [← hN] at hxs ⊢
    rw [← hN] at HCHK
    have HN := Lib.hid hN
    clear hx hN
    go_enter Try.func57, Try.ntmps57
    go_wp2_with (go_at_call 38; refine HCHK.out.mono ?_; rintro e w1 ⟨rfl, hbel⟩; have HB0 := Lib.hid hbel; clear hbel)
    go_loopw [5, 14] (fun acc i wr => ∃ k : Nat, k ≤ N ∧ i = .int .i64 k ∧ acc = .int .i64 ((xs.take k).foldl (last1 nd) 0) ∧ Hid (Below w.heap.size w wr)) (fun _ i _ => N - (intOf i).toNat)
    case atStart => exact ⟨0, Nat.zero_le _, rfl, rfl, HB0⟩
    case round =>
      obtain ⟨k, hk, rfl, rfl, HW⟩ := hrel
      by_cases hlt : k < N
      · have hkl : k < xs.length := by rw [← HN.out]; exact hlt
        obtain ⟨b, off, rfl, hc⟩ := HX.out (by omega)
        obtain ⟨q0, q1, q2⟩ := hc k hkl
        obtain ⟨x, hx⟩ : ∃ x, x = rd_T60 xs (k : Int) := ⟨_, rfl⟩
        rw [← hx] at q0 q1 q2
        replace q0 := (HW.out.cell (World.block_lt_of_cell? w _ q0)).trans q0
        replace q1 := (HW.out.cell (World.block_lt_of_cell? w _ q1)).trans q1
        replace q2 := (HW.out.cell (World.block_lt_of_cell? w _ q2)).trans q2
        have hxx : xs[k] = x := by rw [hx]; unfold rd_T60; simp [List.getD_eq_getElem?_getD, hkl]
        obtain ⟨acc, hacc⟩ : ∃ acc, acc = (xs.take k).foldl (last1 nd) 0 := ⟨_, rfl⟩
        rw [← hacc]
        have HT := Lib.hid (show (xs.take (k + 1)).foldl (last1 nd) 0 = (last1 nd) acc x by rw [List.take_succ_eq_append_getElem hkl, hxx, List.foldl_append, ← hacc]; rfl)
        have HW1 := Lib.hid (HW.out.alloc HW.out.size (.cells #[.int .i64 x.f0, .int .i64 x.f1, .int .i64 x.f2] 60))
        have HCALL := Lib.hid (last1_any nd acc x B (wr.alloc (.cells #[.int .i64 x.f0, .int .i64 x.f1, .int .i64 x.f2] 60)) ((HW1.out.cell (World.block_lt_of_cell? w _ HB1.out)).trans HB1.out))
        obtain ⟨acc1, hacc1⟩ : ∃ a, a = (last1 nd) acc x := ⟨_, rfl⟩
        rw [← hacc1] at HT HCALL
        clear hc hx hxx hkl hacc hacc1
        go_wp2_with (go_at_call 59; refine HCALL.out.mono ?_; rintro e w2 ⟨rfl, hbel⟩; have HW2 := Lib.hid (HW1.out.trans (hbel.mono HW1.out.size)); clear hbel)
        go_roundw
        case rel => exact ⟨k + 1, by omega, by go_num, by rw [HT.out], HW2⟩
        case measure => simp [intOf]; omega
      · obtain rfl : k = N := by omega
        have HE := Lib.hid (show xs.take k = xs by rw [HN.out, List.take_length])
        go_wp2
        go_ret
        exact ⟨by rw [HE.out]; rfl, HW.out⟩
  · rw [if_neg he]
    have he' : (e0 != 0) = true := bne_iff_ne.2 he
    clear he hx
    go_enter Try.func57, Try.ntmps57
    go_wp2_with (go_at_call 38; refine HCHK.out.mono ?_; rintro e w1 ⟨rfl, hbel⟩; have HB0 := Lib.hid hbel; clear hbel)
    go_ret
    exact ⟨rfl, HB0.out⟩
def past_Count.f (k : Nat) (l0 : List S60) : Option Int := if l0.length ≤ 2000000 then (past_Check.f k l0).bind fun e => some (if e = 0 then l0.foldl cnt1 0 else 0) else none
theorem past_Count.mono : ∀ a0 k, LeO (past_Count.f k a0) (past_Count.f (k + 1) a0) := fun a0 k => by
  unfold past_Count.f
  exact LeO.ite (LeO.bind (past_Check.mono a0 k) (fun _ => LeO.refl _)) (LeO.refl _)
set_option maxHeartbeats 2000000 in
theorem past_Count.calls (k : Nat) (A0 : Option Addr) (c0 : Nat) (l0 : List (S60)) (r : Int) (w : World) (hr0 : Kd.C k60 w A0 l0.length l0) (hc0 : l0.length ≤ c0) (h : past_Count.f k l0 = some r) :
    Calls Try.prog 26 #[.slice A0 l0.length c0] w fun e w' => e = .returned (.int .i64 r) ∧ Below w.heap.size w w' := by
  unfold past_Count.f at h
  by_cases hl : l0.length ≤ 2000000
  rotate_left
  · rw [if_neg hl] at h; cases h
  rw [if_pos hl] at h
  obtain ⟨e0, he, h⟩ := Option.bind_eq_some_iff.mp h
  have HC := Lib.hid (cnt_fold A0 c0 l0 k w hr0 hc0 hl e0 he)
  obtain rfl := Option.some.inj h
  generalize (if e0 = 0 then l0.foldl cnt1 0 else 0) = r at HC ⊢
  clear h hr0 he
  go_enter Try.func26, Try.ntmps26
  go_wp2_with (go_at_call 57; refine HC.out.mono ?_; rintro e w1 ⟨rfl, hbel⟩; have HB1 := Lib.hid hbel; clear hbel)
  go_ret
  exact ⟨rfl, HB1.out⟩
def past_Last.f (k : Nat) (l0 : List S60) (a1 : Int) : Option Int := if l0.length ≤ 2000000 then (past_Check.f k l0).bind fun e => some (if e = 0 then l0.foldl (last1 a1) 0 else 0) else none
theorem past_Last.mono : ∀ a0 a1 k, LeO (past_Last.f k a0 a1) (past_Last.f (k + 1) a0 a1) := fun a0 a1 k => by
  unfold past_Last.f
  exact LeO.ite (LeO.bind (past_Check.mono a0 k) (fun _ => LeO.refl _)) (LeO.refl _)
set_option maxHeartbeats 2000000 in
theorem past_Last.calls (k : Nat) (A0 : Option Addr) (c0 : Nat) (l0 : List (S60)) (a1 : Int) (r : Int) (w : World) (hr0 : Kd.C k60 w A0 l0.length l0) (hc0 : l0.length ≤ c0) (h : past_Last.f k l0 a1 = some r) :
    Calls Try.prog 28 #[.slice A0 l0.length c0, .int .i64 a1] w fun e w' => e = .returned (.int .i64 r) ∧ Below w.heap.size w w' := by
  unfold past_Last.f at h
  by_cases hl : l0.length ≤ 2000000
  rotate_left
  · rw [if_neg hl] at h; cases h
  rw [if_pos hl] at h
  obtain ⟨e0, he, h⟩ := Option.bind_eq_some_iff.mp h
  have hb2 : Below w.heap.size w (w.alloc (.cells #[.int .i64 a1] 3)) := (Below.refl _ w).alloc (Nat.le_refl _) _
  have HC := Lib.hid (last_fold A0 c0 l0 a1 w.heap.size k (w.alloc (.cells #[.int .i64 a1] 3)) (Kd.C_below hr0 hb2) hc0 hl e0 he ((YtdelfhahbngcfaaW.PrintWords.blk_cell (blk_new w _) 0).trans rfl))
  obtain rfl := Option.some.inj h
  have HB := Lib.hid hb2
  generalize (if e0 = 0 then l0.foldl (last1 a1) 0 else 0) = r at HC ⊢
  clear h hr0 he hb2
  go_enter Try.func28, Try.ntmps28
  go_wp2_with (go_at_call 57; refine HC.out.mono ?_; rintro e w1 ⟨rfl, hbel⟩; have HB1 := Lib.hid (HB.out.trans (hbel.mono HB.out.size)); clear hbel)
  go_ret
  exact ⟨rfl, HB1.out⟩
end Go.Proofs.YtdelfhahbngcfaaX.P07
end
section
namespace Go.Proofs.Ytdelfhahbngcfaa
open Go.RowKit
set_option linter.unusedVariables false
set_option linter.unusedSimpArgs false
theorem ch_drewN (S : Nat → Prop) (w : World) : ∀ n, Ch S w (w.drewN n) := fun n => ⟨rfl, rfl, rfl, Nat.le_refl _, fun _ _ _ => rfl⟩
theorem ch_set {S : Nat → Prop} {w w' : World} (h : Ch S w w') (a : Addr) (v : Value) (hS : S a.block) : Ch S w (w'.setCell a v) :=
  h.trans (Ch.setCell w' a v) (fun i hi => .inl (by rw [hi]; exact hS))
theorem ch_one {B : Nat} {w w' : World} (h : Ch (fun j => j = B) w w') (j : Nat) (v : Value) : Ch (fun j => j = B) w (w'.setCell ⟨B, j, none⟩ v) := ch_set h ⟨B, j, none⟩ v rfl
structure Byt (w : World) (g : Nat) (e : TypeId) (c : Nat) (l : List UInt8) : Prop where
  ex : ∃ ys : List UInt8, ys.length = c ∧ ys.take l.length = l ∧ w.heap[g]? = some (.cells (u8s ys).toArray e (0, 0))
  big : c ≤ 9223372036854775807
theorem byt_fits {w : World} {g : Nat} {e : TypeId} {c : Nat} {l : List UInt8} (h : Byt w g e c l) : l.length ≤ c := by
  obtain ⟨ys, h1, h2, _⟩ := h.ex
  have := congrArg List.length h2
  rw [List.length_take] at this
  omega
theorem byt_row {w : World} {g : Nat} {e : TypeId} {c : Nat} {l : List UInt8} (h : Byt w g e c l) : Row w g e c 1 (u8s l) := by
  obtain ⟨ys, h1, h2, h3⟩ := h.ex
  refine ⟨⟨_, h3, by simpa using h1, ?_⟩, by simpa using byt_fits h, h.big⟩
  rw [List.toList_toArray, u8s_length, u8s_take, h2]
theorem byt_less {w : World} {g : Nat} {e : TypeId} {c : Nat} {l k : List UInt8} (h : Byt w g e c (l ++ k)) : Byt w g e c l := by
  obtain ⟨ys, h1, h2, h3⟩ := h.ex
  refine ⟨⟨ys, h1, ?_, h3⟩, h.big⟩
  have : (ys.take (l ++ k).length).take l.length = l := by rw [h2]; simp
  rw [List.take_take, Nat.min_eq_left (by simp)] at this
  exact this
theorem byt_nil {w : World} {g : Nat} {e : TypeId} {c : Nat} {l : List UInt8} (h : Byt w g e c l) : Byt w g e c [] := byt_less (l := []) h
section
variable {P : Program} {ops : Array Oper} {rest : List Oper} {o : Oper} {a : Act} {Q : Exit → Act → World → Prop}
theorem run_app_b (w : World) (t ty e : TypeId) (ht : P.underlying t = some (.slice e)) (hinfo : (P.info? e).map (fun i => (i.zero, i.size, i.bytes)) = some (some (.int .u8 0), 1, 1))
    (g c : Nat) (l : List UInt8) (hb : Byt w g e c l)
    (A : Option Addr) (m d : Nat) (k : List UInt8) (hr : Rd w A m d 1 (u8s k)) (hsz : l.length + m ≤ 1000000000) :
    ∃ g' c' w', (Builtin.append_ #[t, t] ty #[.slice (some ⟨g, 0, none⟩) l.length c, .slice A m d]).run P w = .ok (.slice (some ⟨g', 0, none⟩) (l.length + m) c') w' ∧
      Byt w' g' e c' (l ++ k) ∧ ((g' = g ∧ c' = c ∧ l.length + m ≤ c) ∨ (g' = w.heap.size ∧ c < l.length + m)) ∧ Ch (fun i => i = g) w w' := by
  obtain ⟨i, hi, hzz⟩ := Option.map_eq_some_iff.1 hinfo
  simp only [Prod.mk.injEq] at hzz
  obtain ⟨hz, hz1, hz2⟩ := hzz
  have hkl : k.length = m := by have := hr.len; simpa using this
  have hfit := byt_fits hb
  cases hA : A with
  | none =>
    obtain ⟨rfl, rfl, hk⟩ := hr.nils hA
    have hk0 : k = [] := List.eq_nil_of_length_eq_zero hkl
    subst hk0
    refine ⟨g, c, w, ?_, by simpa using hb, .inl ⟨rfl, rfl, by omega⟩, Ch.refl _ _⟩
    simp [Builtin.append_, run_underlying ht, sizeOf, typeInfo, hi, Builtin.lenOf, Builtin.firstCells, loadCells, loadCellsFrom, storeCells, hfit, Addr.add_lit]
  | some ad =>
    subst hA
    have hnews : ∀ j u, (u8s k)[j]? = some u → w.cell? (ad.add j) = some u := by
      intro j u hu
      obtain ⟨b, off, he, hc⟩ := hr.cells j u hu
      cases he
      have : (⟨b, off, none⟩ : Addr).add j = ⟨b, off + j, none⟩ := by unfold Addr.add; split <;> simp_all
      rw [this]; exact hc
    obtain ⟨ys, hy1, hy2, hy3⟩ := hb.ex
    by_cases hroom : l.length + m ≤ c
    · have hr' := run_append_room (P := P) w t ty e i ht hi g l.length c _ hy3 ad m d (u8s k) (by rw [u8s_length, hz1, hkl]; omega) hnews (u8s_one k) hroom (by simp [hz1]; omega)
      refine ⟨g, c, _, hr', ?_, .inl ⟨rfl, rfl, hroom⟩, ⟨rfl, rfl, rfl, by simp, fun i _ hn => setRow_other w g i _ (fun e => hn e)⟩⟩
      refine ⟨⟨l ++ k ++ ys.drop (l.length + m), by simp; omega, by rw [List.take_left' rfl], ?_⟩, hb.big⟩
      rw [setRow_heap w g _ _ e _ hy3]
      congr 2
      apply congrArg List.toArray
      simp only [hz1, Nat.mul_one, List.toList_toArray, u8s_take, u8s_drop, u8s_length, hkl, u8s_append, hy2]
    · have holds : ∀ j u, (u8s l)[j]? = some u → w.cell? ((⟨g, 0, none⟩ : Addr).add j) = some u := by
        intro j u hu
        rw [Addr.add_lit, Nat.zero_add]
        exact (byt_row hb).cell hu
      have hr' := run_append_grow (P := P) w t ty e i (.int .u8 0) ht hi hz ⟨g, 0, none⟩ l.length c (u8s l) (by rw [u8s_length, hz1]; omega) holds ad m d (u8s k) (by rw [u8s_length, hz1, hkl]; omega) hnews (by omega) (by omega) (growslice_fits (by omega) (by rw [hz2]; omega))
      have hge := grownCap_ge w (l.length + m) c e
      have hcm : grownCap w (l.length + m) c e ≤ maxLen := grownCap_le_maxLen w (l.length + m) c e (by unfold maxLen; omega)
      generalize grownCap w (l.length + m) c e = cap at hr' hge hcm
      refine ⟨w.heap.size, cap, _, hr', ?_, .inr ⟨rfl, by omega⟩, ⟨rfl, rfl, rfl, by simp, fun i hi _ => heap_alloc_old w.drew _ hi⟩⟩
      refine ⟨⟨l ++ k ++ List.replicate (cap - (l.length + m)) 0, by simp; omega, by rw [List.take_left' rfl], ?_⟩, by simpa only [maxLen] using hcm⟩
      rw [show w.heap.size = w.drew.heap.size from rfl, heap_alloc_new w.drew _]
      congr 2
      apply Array.ext'
      apply List.ext_getElem
      · simp [Builtin.zeroCells, Value.cells]
      · intro j h1 h2
        simp only [u8s_append, Array.toList_append, List.toList_toArray]
        simp only [List.getElem_append]
        split
        · rfl
        · simp [u8s, Builtin.zeroCells, Value.cells, Nat.mod_one]
theorem wpList_app_b (w : World) (hgd : o.guard = none) (s x : Operand) (t : TypeId)
    (ho : o.op = .call { callee := .builtin .append, args := #[s, x], argTypes := #[t, t] })
    (e : TypeId) (ht : P.underlying t = some (.slice e)) (hinfo : (P.info? e).map (fun i => (i.zero, i.size, i.bytes)) = some (some (.int .u8 0), 1, 1))
    (g n c : Nat) (l : List UInt8) (hs : a.eval s = .slice (some ⟨g, 0, none⟩) n c) (hb : Byt w g e c l) (hn : l.length = n)
    (A : Option Addr) (m d : Nat) (k : List UInt8) (hx : a.eval x = .slice A m d) (hr : Rd w A m d 1 (u8s k)) (hsz : n + m ≤ 1000000000)
    (h : ∀ g' c' w', Byt w' g' e c' (l ++ k) → ((g' = g ∧ c' = c ∧ n + m ≤ c) ∨ (g' = w.heap.size ∧ c < n + m)) → Ch (fun i => i = g) w w' → wpList P ops Q rest (a.put o.dst (.slice (some ⟨g', 0, none⟩) (n + m) c')) w') : wpList P ops Q (o :: rest) a w := by
  subst hn
  obtain ⟨g', c', w', hrun, h1, h2, h3⟩ := run_app_b (P := P) w t o.type e ht hinfo g c l hb A m d k hr hsz
  refine wpList_plain hgd fun K hK => ?_
  unfold Oper.wp execOp
  simp only [ho, resolve, invoke, builtin, Sem.run_bind, Sem.run_pure, Result.andThen_ok, List.map_toArray, List.map_cons, List.map_nil, hs, hx, hrun]
  exact hK _ _ (h g' c' w' h1 h2 h3)
end
end Go.Proofs.Ytdelfhahbngcfaa
end
section
namespace Go.Proofs.Ytdelfhahbngcfaa
open Go.RowKit
set_option linter.unusedVariables false
set_option linter.unusedSimpArgs false
theorem info5 : (Try.prog.info? 5).map (fun i => (i.zero, i.size, i.bytes)) = some (some (.int .u8 0), 1, 1) := by kernel_rfl
def eqB (l k : List UInt8) : Bool := l == k
theorem eqB_self (l : List UInt8) : eqB l l = true := by simp [eqB]
set_option maxHeartbeats 400000 in
theorem same_any (A B : Option Addr) (n c m d : Nat) (l k : List UInt8) (w : World) (h1 : Rd w A n c 1 (u8s l)) (h2 : Rd w B m d 1 (u8s k)) :
    Calls Try.prog 17 #[.slice A n c, .slice B m d] w fun e w' => e = .returned (.bool (eqB l k)) ∧ w = w' := by
  have e1 := h1.str (P := Try.prog) 23 5 9 Try.underlying23 Try.underlying5 Try.underlying9
  have e2 := h2.str (P := Try.prog) 23 5 9 Try.underlying23 Try.underlying5 Try.underlying9
  clear h1 h2
  go_enter Try.func17, Try.ntmps17
  go_wp2
  go_ret
  exact ⟨rfl, rfl⟩
def CopyQ (w : World) (n : Nat) (l : List UInt8) (e : Ending) (w' : World) : Prop := ∃ g c', e = .returned (.slice (some ⟨g, 0, none⟩) n c') ∧ w.heap.size ≤ g ∧ n ≤ c' ∧ Row w' g 5 c' 1 (u8s l) ∧ Below w.heap.size w w'
set_option maxHeartbeats 400000 in
theorem copy_any (A : Option Addr) (n c : Nat) (l : List UInt8) (w : World) (h1 : Rd w A n c 1 (u8s l)) (hn : n ≤ 1000000000) :
    Calls Try.prog 46 #[.slice A n c] w (CopyQ w n l) := by
  have HR := Lib.hid (h1.below ((Below.refl w.heap.size w).alloc (Nat.le_refl _) (.cells #[] 5)))
  have HO := Lib.hid (row_lit w #[] 5 0 1 rfl (by omega))
  clear h1
  go_enter Try.func46, Try.ntmps46
  go_wp2_with (at_builtin; refine wpList_app_row _ rfl _ _ 23 rfl w.heap.size 5 _ 1 1 Try.underlying23 info5 rfl (by decide) _ 0 _ [] rfl HO.out (Nat.le_refl _) rfl (Nat.le_refl _) A n c (u8s l) rfl HR.out (u8s_one l) (by simp [maxLen]; omega) (by omega) (by simp) ?_; intro g' c' w1 hrow hnc hbg hat hch)
  go_ret
  exact ⟨g', c', rfl, hbg, by omega, by simpa using hrow, ((Ch.alloc w _ No).trans hch (fun i hi => .inr (by omega))).below (Nat.le_refl _) (fun k hk => hk.elim)⟩
def lentTail : List UInt8 := [201, 17, 99]
def LentQ (w : World) (n : Nat) (l : List UInt8) (e : Ending) (w' : World) : Prop := ∃ g c', e = .returned (.slice (some ⟨g, 0, none⟩) n (n + 3)) ∧ w.heap.size ≤ g ∧ n + 3 ≤ c' ∧ Row w' g 5 c' 1 (u8s (l ++ lentTail)) ∧ Below w.heap.size w w'
set_option maxHeartbeats 400000 in
theorem lent_any (A : Option Addr) (n c : Nat) (l : List UInt8) (w : World) (h1 : Rd w A n c 1 (u8s l)) (hn : n ≤ 1000000000) :
    Calls Try.prog 12 #[.slice A n c] w (LentQ w n l) := by
  have hl : l.length = n := by have := h1.len; simpa using this
  have H1 := Lib.hid h1; clear h1
  have HL := Lib.hid hl; clear hl
  go_enter Try.func12, Try.ntmps12
  go_wp2_with (first | (go_at_call 46; refine (copy_any _ _ _ l _ H1.out hn).mono ?_; rintro e w1 ⟨g, c', rfl, hbg, hnc, hrow, hbel⟩) | (at_builtin; refine wpList_app_row _ rfl _ _ 23 rfl w.heap.size 5 _ 1 1 Try.underlying23 info5 rfl (by decide) g n c' (u8s l) rfl (hrow.ch (Ch.alloc w1 _ No) id) hbg (by simpa using HL.out) hnc _ 3 3 _ rfl (rd_lit w1 _ 5 3 1 rfl (by omega)) (by simp [Value.oneCell']) (by simp [maxLen]; omega) (by omega) (by have := hbel.size; simp; omega) ?_; intro g2 c2 w2 hrow2 hnc2 hbg2 hat2 hch2))
  go_ret
  exact ⟨g2, c2, rfl, hbg2, hnc2, by rw [u8s_append]; exact hrow2, ((hbel.alloc hbel.size _).trans (hch2.below (by have := hbel.size; simp; omega) (fun k hk => by omega)))⟩
set_option maxHeartbeats 400000 in
theorem kept_any (g c' : Nat) (A : Option Addr) (n c : Nat) (l : List UInt8) (w : World) (hrow : Row w g 5 c' 1 (u8s (l ++ lentTail))) (h1 : Rd w A n c 1 (u8s l)) (hn : n ≤ 1000000000) :
    Calls Try.prog 21 #[.slice (some ⟨g, 0, none⟩) n (n + 3), .slice A n c] w fun e w' => e = .returned (.bool true) ∧ Below w.heap.size w w' := by
  have hl : l.length = n := by have := h1.len; simpa using this
  have r0 := Lib.hid (hrow.rd 0 n (n + 3) (u8s l) (by rw [List.drop_zero, u8s_take]; simp [hl]) (by simp [hl]) (by omega) (by omega))
  have r3 := Lib.hid ((hrow.ch (Ch.alloc w (.cells #[.int .u8 201, .int .u8 17, .int .u8 99] 5) No) id).rd n 3 3 (u8s lentTail) (by rw [u8s_drop, u8s_take]; simp [← hl]; rfl) (by simp [hl, lentTail]) (by omega) (by omega))
  have H1 := Lib.hid h1; clear h1 hl hrow
  go_enter Try.func21, Try.ntmps21
  go_wp2_with fail
  refine (same_any _ _ _ _ _ _ l l _ r0.out H1.out).mono ?_; rintro e w1 ⟨rfl, rfl⟩; rw [eqB_self]
  go_wp2_with fail
  refine (same_any _ _ _ _ _ _ lentTail lentTail _ r3.out (rd_lit w _ 5 3 1 rfl (by omega))).mono ?_; rintro e w1 ⟨rfl, rfl⟩; rw [eqB_self]
  go_wp2
  go_ret
  exact ⟨rfl, (Below.refl _ _).alloc (Nat.le_refl _) _⟩
def Blk (w : World) (B : Nat) (t : TypeId) (cs : Array Value) : Prop := w.heap[B]? = some (.cells cs t (0, 0))
theorem blk_cell {w : World} {B : Nat} {t : TypeId} {cs : Array Value} (h : Blk w B t cs) (j : Nat) (u : Value) (hu : cs[j]? = some u) : w.cell? ⟨B, j, none⟩ = some u := by
  rw [cell_of_row w B j cs t (0, 0) h]; exact hu
theorem blk_thawed {w : World} {B : Nat} {t : TypeId} {cs : Array Value} (h : Blk w B t cs) (j : Nat) : w.frozen? ⟨B, j, none⟩ = false := by
  unfold Blk at h
  simp [World.frozen?, h]
theorem blk_set {w : World} {B : Nat} {t : TypeId} {cs : Array Value} (h : Blk w B t cs) (j : Nat) (u : Value) : Blk (w.setCell ⟨B, j, none⟩ u) B t (cs.setIfInBounds j u) := by
  unfold Blk at h ⊢
  simp [World.setCell, Array.getElem?_modify, h]
theorem blk_lt {w : World} {B : Nat} {t : TypeId} {cs : Array Value} (h : Blk w B t cs) : B < w.heap.size := (Array.getElem?_eq_some_iff.1 h).1
theorem blk_ch {S : Nat → Prop} {w w' : World} {B : Nat} {t : TypeId} {cs : Array Value} (h : Blk w B t cs) (hc : Ch S w w') (hS : ¬ S B) : Blk w' B t cs := (hc.block B (blk_lt h) hS).trans h
theorem blk_below {w w' : World} {B : Nat} {t : TypeId} {cs : Array Value} (h : Blk w B t cs) (hc : Below w.heap.size w w') : Blk w' B t cs := (hc.block B (blk_lt h)).trans h
theorem blk_new (w : World) (t : TypeId) (cs : Array Value) : Blk (w.alloc (.cells cs t)) w.heap.size t cs := heap_alloc_new w _
theorem byt_set {w : World} {g : Nat} {e : TypeId} {c : Nat} {ys : List UInt8} (h : Byt w g e c ys) (hl : ys.length = c) (j : Nat) (x : UInt8) (hj : j < c) : Byt (w.setCell ⟨g, j, none⟩ (.int .u8 (x.toNat : Int))) g e c (ys.set j x) := by
  obtain ⟨zs, h1, h2, h3⟩ := h.ex
  have hz : zs = ys := by rw [hl, ← h1, List.take_length] at h2; exact h2
  subst hz
  refine ⟨⟨zs.set j x, by simpa using h1, List.take_length, ?_⟩, h.big⟩
  simp [World.setCell, Array.getElem?_modify, h3]
  simp [u8s, List.map_set]
set_option maxHeartbeats 400000 in
theorem over_nil (w : World) : Calls Try.prog 19 #[.slice none 0 0] w fun e w' => e = .returned (.tuple #[]) ∧ w = w' := by
  go_enter Try.func19, Try.ntmps19
  go_wp2
  go_loop [3] (fun i => i = .int .i64 0) (fun _ => 0)
  case atStart => rfl
  case round =>
    subst hrel
    go_wp2
    exact bodyPost_end (results_none rfl _ _ _) rfl ⟨rfl, rfl⟩
end Go.Proofs.Ytdelfhahbngcfaa
end
section
namespace Go.Proofs.YtdelfhahbngcfaaX.P07
open Go.RowKit Go.Shelf Go.Proofs.Ytdelfhahbngcfaa Go.Proofs.YtdelfhahbngcfaaW.PrintWords Go.Proofs.YtdelfhahbngcfaaW.PrintLast Go.Proofs.YtdelfhahbngcfaaW.PrintMore
set_option linter.unusedVariables false
set_option linter.unusedSimpArgs false
attribute [local go_sem] Oper.semAt_some
abbrev kb : Kd Int := Kd.int .u8
def rd_LB (xs : List (List Int)) (i : Int) : List Int := xs.getD i.toNat ([] : List Int)
theorem at_LB {w : World} {A : Option Addr} {n : Nat} {xs : List (List Int)} (h : Kd.C (Kd.slice 5 kb) w A n xs) (i : Int) (h0 : 0 ≤ i) (h1 : i < n) : ∃ ad A0 c0, A = some ad ∧ w.cell? (ad.add i.toNat) = some (.slice A0 (rd_LB xs i).length c0) ∧ (rd_LB xs i).length ≤ c0 ∧ kb.C w A0 (rd_LB xs i).length (rd_LB xs i) := by
  obtain ⟨ad, c, e, _, hK, hc0⟩ := Kd.C_get h ([] : List Int) i h0 h1
  have hc : ∀ j u, c[j]? = some u → w.cell? (ad.add (i.toNat * 1 + j)) = some u := hc0
  obtain ⟨A0, c0, rfl, l0, g0⟩ := hK
  exact ⟨ad, A0, c0, e, by have hq := hc 0 _ rfl; rwa [Nat.mul_one, Nat.add_zero] at hq, l0, g0⟩
theorem own_zero {w : World} {base e sz g n cap : Nat} {xs : List Value} (h : w.ownsRow base e sz (.slice (some ⟨g, 0, none⟩) n cap) n xs) : w.ownsRow base e sz (.slice (some ⟨g, 0, none⟩) 0 cap) 0 [] := by
  rcases h.2 with ⟨h, _⟩ | ⟨g', cap', cur, h1, h2, h3, h4, h5, h6, h7⟩
  · cases h
  · cases h1
    exact ⟨by simp, .inr ⟨g, cap, cur, rfl, h2, h3, Nat.zero_le _, h5, h6, by simp⟩⟩
theorem RB_zero {w : World} {base g n cap : Nat} {xs : List Int} (h : Kd.R kb 5 w base (fun _ => True) (.slice (some ⟨g, 0, none⟩) n cap) xs) : Kd.R kb 5 w base (fun _ => True) (.slice (some ⟨g, 0, none⟩) 0 cap) [] := by
  obtain ⟨inner, ho⟩ := Kd.R_own h
  have hn : xs.length = n := by
    obtain ⟨A, c, e, _⟩ := Kd.R_reads h
    cases e; rfl
  subst hn
  exact ⟨fun _ _ => trivial, [], own_zero ho, by simp [Reps]⟩
theorem RB_some {w : World} {base n : Nat} {v : Value} {xs : List Int} (h : Kd.R kb 5 w base (fun _ => True) v xs) (hn : xs.length = n) (h0 : 0 < n) : ∃ g cap, v = .slice (some ⟨g, 0, none⟩) n cap ∧ n ≤ cap ∧ cap ≤ 9223372036854775807 := by
  obtain ⟨inner, ho⟩ := Kd.R_own h
  subst hn
  rcases ho.2 with ⟨_, h1⟩ | ⟨g, cap, cur, h1, h2, h3, h4, h5, h6, h7⟩
  · omega
  · exact ⟨g, cap, h1, h4, by simpa only [maxLen] using h5⟩
set_option maxRecDepth 100000 in
set_option maxHeartbeats 1000000 in
theorem grow_any (n : Nat) (w : World) (hn : n < 1000000) :
    Calls Try.prog 69 #[.slice none 0 0, .int .i64 (n : Int)] w fun e w' => ∃ v, e = .returned v ∧ Kd.R kb 5 w' w.heap.size (fun _ => True) v [] ∧ Below w.heap.size w w' := by
  by_cases h0 : n = 0
  · subst h0
    go_enter Try.func69, Try.ntmps69
    go_wp2
    go_ret
    exact ⟨_, rfl, Kd.R_nil _ _ _ _ _, Below.refl _ _⟩
  · have g0 : decide ((0 : Int) < (n : Int)) = true := by simp; omega
    have hR0 := Lib.hid (Kd.R_nil kb 5 w w.heap.size (fun _ => True))
    go_enter Try.func69, Try.ntmps69
    go_wp2_with (at_builtin; refine Kd.R_append_zeros kb (w0 := w) w.heap.size rfl (.tmp 20) (.tmp 21) 23 3 5 _ 1 rfl Try.underlying23 Try.underlying3 info5 rfl (by decide) (by decide) (.slice none 0 0) [] (0 : Int) (kx := .i64) (n : Int) (fun _ => True) rfl rfl (show kb.M _ _ _ (0 : Int) [.int .u8 0] from rfl) (fun _ _ => trivial) hR0.out (by omega) (Below.refl _ _) (Nat.le_refl _) (by simp; omega) ?_; intro v1 w1 ho hb hg hat; obtain ⟨g, cap, rfl, hc1, hc2⟩ := RB_some ho (n := n) (by simp) (by omega); have HO := Lib.hid (RB_zero ho); have HBB := Lib.hid hb; clear ho hb hg hat)
    go_ret
    exact ⟨_, rfl, HO.out, HBB.out⟩
theorem flat_take (l : List (List Int)) (k : Nat) (h : k < l.length) : (l.take (k + 1)).flatten = (l.take k).flatten ++ (rd_LB l (k : Int)) := by
  rw [List.take_succ_eq_append_getElem h, List.flatten_append]
  simp [rd_LB, List.getD_eq_getElem?_getD, h]
theorem flat_le (l : List (List Int)) (k : Nat) : (l.take k).flatten.length ≤ l.flatten.length := by
  conv => rhs; rw [← List.take_append_drop k l, List.flatten_append, List.length_append]
  omega
theorem addr_plain0 {w : World} {x : Addr} {v : Value} (h : w.cell? x = some v) : ∃ b off, x = ⟨b, off, none⟩ := by
  obtain ⟨b, off, spot⟩ := x
  cases spot with
  | none => exact ⟨b, off, rfl⟩
  | some s => simp [World.cell?] at h; split at h <;> simp_all
theorem rows_of_C {w : World} {A : Option Addr} {n : Nat} {l : List (List Int)} (h : Kd.C (Kd.slice 5 kb) w A n l) (h0 : 0 < n) : ∃ b off, A = some ⟨b, off, none⟩ ∧ ∀ k : Nat, k < n → ∃ A1 c1, w.cell? ⟨b, off + k, none⟩ = some (.slice A1 (rd_LB l k).length c1) ∧ (rd_LB l k).length ≤ c1 ∧ kb.C w A1 (rd_LB l k).length (rd_LB l k) := by
  obtain ⟨ad, A1, c1, rfl, hc, _⟩ := at_LB h 0 (by omega) (by omega)
  obtain ⟨b, off, rfl⟩ := addr_plain0 (x := ad) (by simpa [Addr.add] using hc)
  refine ⟨b, off, rfl, fun k hk => ?_⟩
  obtain ⟨ad, A1, c1, e, hc, hl, hC⟩ := at_LB h (k : Int) (by omega) (by omega)
  cases e
  have hadd : (⟨b, off, none⟩ : Addr).add k = ⟨b, off + k, none⟩ := by unfold Addr.add; split <;> simp_all
  simp only [Int.toNat_natCast, hadd] at hc
  exact ⟨A1, c1, hc, hl, hC⟩
theorem kb_flat {W : World} (x : Int) (cs : List Value) (base : Nat) (ok : Nat → Prop) (h : kb.K W x cs) : kb.M W base ok x cs := h
set_option maxRecDepth 100000 in
set_option maxHeartbeats 4000000 in
theorem concat_any (A0 : Option Addr) (c0 : Nat) (l0 : List (List (Int))) (w : World) (hr0 : Kd.C (Kd.slice 5 kb) w A0 l0.length l0) (hc0 : l0.length ≤ c0) (h1 : l0.length < 1000) (h2 : l0.flatten.length < 1000000) :
    Calls Try.prog 48 #[.slice A0 l0.length c0] w fun e w' => ∃ v0_ : Value, e = .returned (v0_) ∧ Kd.R kb 5 w' w.heap.size (fun _ => True) v0_ l0.flatten ∧ Below w.heap.size w w' := by
  have HEL := Lib.hid (show ∀ (k : Nat), k < l0.length → ∃ b off, A0 = some ⟨b, off, none⟩ ∧ ∀ W : World, Below w.heap.size w W → ∃ A1 c1, W.cell? ⟨b, off + k, none⟩ = some (.slice A1 (rd_LB l0 k).length c1) ∧ (rd_LB l0 k).length ≤ c1 ∧ kb.C W A1 (rd_LB l0 k).length (rd_LB l0 k) from fun k hk => by
    obtain ⟨b, off, rfl, hf⟩ := rows_of_C hr0 (by omega)
    obtain ⟨A1, c1, hc, hl, hC⟩ := hf k hk
    exact ⟨b, off, rfl, fun W hb => ⟨A1, c1, below_cell hb hc, hl, Kd.C_below hC hb⟩⟩)
  have HFL := Lib.hid (fun k => flat_le l0 k)
  have HTK := Lib.hid (fun k hk => flat_take l0 k hk)
  obtain ⟨N, hN⟩ : ∃ N, N = l0.length := ⟨_, rfl⟩
  rw [← hN] at HEL HTK hc0 h1 ⊢
  have HN := Lib.hid hN
  clear hr0 hN
  go_enter Try.func48, Try.ntmps48
  go_wp2
  go_loopw [3, 11] (fun s i wr => ∃ k m : Nat, k ≤ N ∧ i = .int .i64 k ∧ s = .int .i64 (m : Int) ∧ Hid (m = (l0.take k).flatten.length) ∧ Hid (w = wr)) (fun _ i _ => N - (intOf i).toNat)
  case atStart => exact ⟨0, 0, Nat.zero_le _, rfl, rfl, Lib.hid rfl, Lib.hid rfl⟩
  case round =>
    obtain ⟨k, m, hk, rfl, rfl, HMK, HW⟩ := hrel
    obtain rfl := HW.out
    have HFIN := Lib.hid HFL.out
    by_cases hlt : k < N
    · obtain ⟨b, off, rfl, hf⟩ := HEL.out k hlt
      obtain ⟨A1, c1, hc, hl, hC⟩ := hf w (Below.refl _ _)
      have hs2 := HFL.out (k + 1)
      have ht := HTK.out k hlt
      have hlen : (l0.take (k + 1)).flatten.length = (l0.take k).flatten.length + (rd_LB l0 k).length := by rw [ht, List.length_append]
      have HL := Lib.hid (show (l0.take (k + 1)).flatten.length = m + (rd_LB l0 k).length by rw [hlen, HMK.out])
      have hb1 : m + (rd_LB l0 k).length < 1000000 := by rw [← HL.out]; omega
      clear ht hlen hC hf hs2
      obtain ⟨q, hq⟩ : ∃ q, q = (rd_LB l0 k).length := ⟨_, rfl⟩
      rw [← hq] at hc hl hb1
      have HQ := Lib.hid hq; clear hq
      have hneg : decide ((m : Int) + (q : Int) < 0) = false := by simp; omega
      go_wp2
      go_roundw
      case rel => exact ⟨k + 1, m + q, by omega, by go_num, by go_num, Lib.hid (by rw [HL.out, HQ.out]), Lib.hid trivial⟩
      case measure => simp [intOf]; omega
    · obtain rfl : k = N := by omega
      have hall : (l0.take k).flatten = l0.flatten := by rw [HN.out, List.take_length]
      have hM : m = l0.flatten.length := by rw [HMK.out, hall]
      rw [← hM] at h2
      have HALL := Lib.hid hall; have HM := Lib.hid hM
      clear hall hM
      go_wp2_with (go_at_call 69; refine (grow_any m w h2).mono ?_; rintro e w1 ⟨v1, rfl, ho, hb⟩; have HO := Lib.hid ho; have HB := Lib.hid hb; clear ho hb)
      go_loopw [6, 27] (fun v i wr => ∃ j : Nat, j ≤ k ∧ i = .int .i64 j ∧ (∃ L, Hid (L = (l0.take j).flatten ∧ Kd.R kb 5 wr w.heap.size (fun _ => True) v L)) ∧ Hid (Below w.heap.size w wr)) (fun _ i _ => k - (intOf i).toNat)
      case atStart => exact ⟨0, Nat.zero_le _, rfl, ⟨_, Lib.hid ⟨rfl, HO.out⟩⟩, HB⟩
      case round =>
        clear HO HB
        obtain ⟨j, hj, rfl, ⟨L, HLO⟩, HB⟩ := hrel
        have HO := Lib.hid HLO.out.2
        by_cases hlj : j < k
        · obtain ⟨b, off, rfl, hf⟩ := HEL.out j hlj
          obtain ⟨A1, c1, hc, hl, hC⟩ := hf wr HB.out
          have ht := HTK.out j hlj
          have hs1 := HFIN.out (j + 1)
          have hb1 : L.length + (rd_LB l0 j).length < 1000000 := by rw [ht, List.length_append, ← HM.out] at hs1; rw [HLO.out.1]; omega
          have HC := Lib.hid hC; have HT := Lib.hid ht
          clear hf hC ht hs1
          go_wp2_with (at_builtin; refine Kd.R_append_rows kb (Rr := kb.K wr) (w0 := w) w.heap.size rfl (.tmp 31) (.tmp 32) 23 5 _ 1 rfl Try.underlying23 info5 rfl (by decide) (by decide) _ _ _ _ _ _ (fun _ => True) (fun _ => False) rfl rfl HO.out HC.out (fun x cs h => kb_flat x cs _ _ h) (fun _ h => h.elim) (fun _ _ => trivial) HB.out HB.out.size (by omega) ?_; intro v1 w1 ho hb hg hat; have HO1 := Lib.hid ho; have HB1 := Lib.hid hb; clear ho hb hg hat)
          go_roundw
          case rel => exact ⟨j + 1, by omega, by go_num, ⟨_, Lib.hid ⟨by rw [HT.out, HLO.out.1], HO1.out⟩⟩, HB1⟩
          case measure => simp [intOf]; omega
        · obtain rfl : j = k := by omega
          go_wp2
          go_ret
          exact ⟨_, rfl, by rw [← HALL.out, ← HLO.out.1]; exact HO.out, HB.out⟩
end Go.Proofs.YtdelfhahbngcfaaX.P07
end
section
namespace Go.Proofs.YtdelfhahbngcfaaX.P07
open Go.RowKit Go.Shelf Go.Proofs.Ytdelfhahbngcfaa Go.Proofs.YtdelfhahbngcfaaW.PrintWords Go.Proofs.YtdelfhahbngcfaaW.PrintLast Go.Proofs.YtdelfhahbngcfaaW.PrintMore
set_option linter.unusedVariables false
set_option linter.unusedSimpArgs false
attribute [local go_sem] Oper.semAt_some
section
variable {P : Program} {ops : Array Oper} {rest : List Oper} {o : Oper} {a : Act} {Q : Exit → Act → World → Prop}
theorem zero_cells (m : Nat) : (Builtin.zeroCells (Value.int .u8 0).cells m).toList = u8s (List.replicate m 0) := by
  apply List.ext_getElem
  · simp [Builtin.zeroCells, Value.cells]
  · intro j h1 h2
    simp [u8s, Builtin.zeroCells, Value.cells, Nat.mod_one]
theorem run_zeros_b (w : World) (t ti ty e : TypeId) (ht : P.underlying t = some (.slice e)) {k : IntKind} (hti : P.underlying ti = some (.int k)) (hinfo : (P.info? e).map (fun i => (i.zero, i.size, i.bytes)) = some (some (.int .u8 0), 1, 1)) (kx : IntKind) (m : Nat) (hm : 0 < m) (hmx : m ≤ 1000000000) :
    ∃ c w', (Builtin.append_ #[t, ti] ty #[.slice none 0 0, .int kx m]).run P w = .ok (.slice (some ⟨w.heap.size, 0, none⟩) m c) w' ∧ Byt w' w.heap.size e c (List.replicate m 0) ∧ Below w.heap.size w w' := by
  obtain ⟨i, hi, hzz⟩ := Option.map_eq_some_iff.1 hinfo
  simp only [Prod.mk.injEq] at hzz
  obtain ⟨hz, hz1, hz2⟩ := hzz
  have hw : IntKind.i64.wrap (m : Int) = m := by rw [IntKind.wrap_i64]; omega
  have hneg : ¬ ((m : Int) < 0) := by omega
  have hbig : ¬ (281474976710656 < (m : Int) * (i.bytes : Int)) := by rw [hz2]; omega
  have hn : ¬ (m ≤ 0) := by omega
  have h63' : ¬ (9223372036854775807 < (m : Int)) := by omega
  have hfit := growslice_fits (need := m) (old := 0) (by omega) (show m * i.bytes ≤ 140737488355328 by rw [hz2]; omega)
  have h48' : ¬ (281474976710656 < Builtin.nextslicecap m 0 * i.bytes) := by omega
  have hmz : ¬ (m * i.size = 0) := by rw [hz1]; omega
  have hge := grownCap_ge w m 0 e
  have hcm := grownCap_le_maxLen w m 0 e (by simp only [maxLen]; omega)
  have hrun : (Builtin.append_ #[t, ti] ty #[.slice none 0 0, .int kx m]).run P w = .ok (.slice (some ⟨w.heap.size, 0, none⟩) m (grownCap w m 0 e)) (w.drew.alloc (.cells (Builtin.zeroCells (Value.int .u8 0).cells m ++ Builtin.zeroCells (Value.int .u8 0).cells (grownCap w m 0 e - m)) e)) := by
    simp [Builtin.append_, run_underlying ht, run_underlying hti, sizeOf, typeInfo, zeroValue, hi, hz, asInt, asIntOf, hw, hneg, hbig, hn, h63', h48', Question.forced, Builtin.firstCells, newRow, grownCap, hmz]
    omega
  refine ⟨_, _, hrun, ⟨⟨List.replicate m 0 ++ List.replicate (grownCap w m 0 e - m) 0, by simp; omega, by rw [List.take_left' rfl], ?_⟩, by simpa only [maxLen] using hcm⟩, ⟨rfl, rfl, rfl, by simp, fun k hk => heap_alloc_old w.drew _ hk⟩⟩
  rw [show w.heap.size = w.drew.heap.size from rfl, heap_alloc_new w.drew _]
  congr 2
  apply Array.ext'
  rw [Array.toList_append, zero_cells, zero_cells, u8s_append]
theorem wpList_zeros_b {w : World} (hgd : o.guard = none) (s x : Operand) (t ti e : TypeId)
    (ho : o.op = .call { callee := .builtin .append, args := #[s, x], argTypes := #[t, ti] })
    (ht : P.underlying t = some (.slice e)) {k : IntKind} (hti : P.underlying ti = some (.int k)) (hinfo : (P.info? e).map (fun i => (i.zero, i.size, i.bytes)) = some (some (.int .u8 0), 1, 1))
    (kx : IntKind) (m : Nat) (hs : a.eval s = .slice none 0 0) (hx : a.eval x = .int kx m) (hm : 0 < m) (hmx : m ≤ 1000000000)
    (h : ∀ c w', Byt w' w.heap.size e c (List.replicate m 0) → Below w.heap.size w w' → wpList P ops Q rest (a.put o.dst (.slice (some ⟨w.heap.size, 0, none⟩) m c)) w') : wpList P ops Q (o :: rest) a w := by
  obtain ⟨c, w', hr1, h1, h2⟩ := run_zeros_b (P := P) w t ti o.type e ht hti hinfo kx m hm hmx
  refine wpList_plain hgd fun K hK => ?_
  unfold Oper.wp execOp
  simp only [ho, resolve, invoke, builtin, Sem.run_bind, Sem.run_pure, Result.andThen_ok, List.map_toArray, List.map_cons, List.map_nil, hs, hx, hr1]
  exact hK _ _ (h c w' h1 h2)
end
theorem byt_nil {w : World} {g : Nat} {e : TypeId} {c : Nat} {l : List UInt8} (h : Byt w g e c l) : Byt w g e c [] := by
  obtain ⟨ys, h1, _, h3⟩ := h.ex
  exact ⟨⟨ys, h1, rfl, h3⟩, h.big⟩
set_option maxRecDepth 100000 in
set_option maxHeartbeats 1000000 in
theorem grow_b (n : Nat) (w : World) (hn : n < 1000000) (h0 : 0 < n) :
    Calls Try.prog 69 #[.slice none 0 0, .int .i64 (n : Int)] w fun e w' => ∃ g c, e = .returned (.slice (some ⟨g, 0, none⟩) 0 c) ∧ w.heap.size ≤ g ∧ n ≤ c ∧ Byt w' g 5 c [] ∧ Below w.heap.size w w' := by
  have g0 : decide ((0 : Int) < (n : Int)) = true := by simp; omega
  go_enter Try.func69, Try.ntmps69
  go_wp2_with (at_builtin; refine wpList_zeros_b rfl (.tmp 20) (.tmp 21) 23 3 5 rfl Try.underlying23 Try.underlying3 info5 .i64 n rfl rfl h0 (by omega) ?_; intro c w1 hb hbel; have hfit := byt_fits hb; rw [List.length_replicate] at hfit; have HB := Lib.hid (byt_nil hb); have HBB := Lib.hid hbel; clear hb hbel)
  go_ret
  exact ⟨_, _, rfl, Nat.le_refl _, hfit, HB.out, HBB.out⟩
def rdB (l : List (List UInt8)) (k : Nat) : List UInt8 := l.getD k []
def RowsB (w : World) (A0 : Option Addr) (l0 : List (List UInt8)) : Prop :=
  ∀ k : Nat, k < l0.length → ∃ b off, A0 = some ⟨b, off, none⟩ ∧ ∀ W : World, Below w.heap.size w W → ∃ A1 c1, W.cell? ⟨b, off + k, none⟩ = some (.slice A1 (rdB l0 k).length c1) ∧ Rd W A1 (rdB l0 k).length c1 1 (u8s (rdB l0 k))
theorem flatB_take (l : List (List UInt8)) (k : Nat) (h : k < l.length) : (l.take (k + 1)).flatten = (l.take k).flatten ++ rdB l k := by
  rw [List.take_succ_eq_append_getElem h, List.flatten_append]
  simp [rdB, List.getD_eq_getElem?_getD, h]
theorem flatB_le (l : List (List UInt8)) (k : Nat) : (l.take k).flatten.length ≤ l.flatten.length := by
  conv => rhs; rw [← List.take_append_drop k l, List.flatten_append, List.length_append]
  omega
set_option maxRecDepth 100000 in
set_option maxHeartbeats 4000000 in
theorem concat_b (A0 : Option Addr) (c0 N : Nat) (l0 : List (List UInt8)) (w : World) (hN : N = l0.length) (hr0 : RowsB w A0 l0) (hc0 : N ≤ c0) (h1 : N < 1000) (h2 : l0.flatten.length < 1000000) (h3 : 0 < l0.flatten.length) :
    Calls Try.prog 48 #[.slice A0 N c0] w fun e w' => ∃ g c, e = .returned (.slice (some ⟨g, 0, none⟩) l0.flatten.length c) ∧ w.heap.size ≤ g ∧ Byt w' g 5 c l0.flatten ∧ Below w.heap.size w w' := by
  have HEL := Lib.hid (show ∀ (k : Nat), k < N → ∃ b off, A0 = some ⟨b, off, none⟩ ∧ ∀ W : World, Below w.heap.size w W → ∃ A1 c1, W.cell? ⟨b, off + k, none⟩ = some (.slice A1 (rdB l0 k).length c1) ∧ Rd W A1 (rdB l0 k).length c1 1 (u8s (rdB l0 k)) from fun k hk => hr0 k (by omega))
  have HFL := Lib.hid (fun k => flatB_le l0 k)
  have HTK := Lib.hid (fun k (hk : k < N) => flatB_take l0 k (by omega))
  have HN := Lib.hid hN
  clear hr0 hN
  go_enter Try.func48, Try.ntmps48
  go_wp2
  go_loopw [3, 11] (fun s i wr => ∃ k m : Nat, k ≤ N ∧ i = .int .i64 k ∧ s = .int .i64 (m : Int) ∧ Hid (m = (l0.take k).flatten.length) ∧ Hid (w = wr)) (fun _ i _ => N - (intOf i).toNat)
  case atStart => exact ⟨0, 0, Nat.zero_le _, rfl, rfl, Lib.hid rfl, Lib.hid rfl⟩
  case round =>
    obtain ⟨k, m, hk, rfl, rfl, HMK, HW⟩ := hrel
    obtain rfl := HW.out
    have HFIN := Lib.hid HFL.out
    by_cases hlt : k < N
    · obtain ⟨b, off, rfl, hf⟩ := HEL.out k hlt
      obtain ⟨A1, c1, hc, hC⟩ := hf w (Below.refl _ _)
      have hl := hC.cap
      have hs2 := HFL.out (k + 1)
      have ht := HTK.out k hlt
      have hlen : (l0.take (k + 1)).flatten.length = (l0.take k).flatten.length + (rdB l0 k).length := by rw [ht, List.length_append]
      have HL := Lib.hid (show (l0.take (k + 1)).flatten.length = m + (rdB l0 k).length by rw [hlen, HMK.out])
      have hb1 : m + (rdB l0 k).length < 1000000 := by rw [← HL.out]; omega
      clear ht hlen hC hf hs2
      obtain ⟨q, hq⟩ : ∃ q, q = (rdB l0 k).length := ⟨_, rfl⟩
      rw [← hq] at hc hl hb1
      have HQ := Lib.hid hq; clear hq
      have hneg : decide ((m : Int) + (q : Int) < 0) = false := by simp; omega
      go_wp2
      go_roundw
      case rel => exact ⟨k + 1, m + q, by omega, by go_num, by go_num, Lib.hid (by rw [HL.out, HQ.out]), Lib.hid trivial⟩
      case measure => simp [intOf]; omega
    · obtain rfl : k = N := by omega
      have hall : (l0.take k).flatten = l0.flatten := by rw [HN.out, List.take_length]
      have hM : m = l0.flatten.length := by rw [HMK.out, hall]
      rw [← hM] at h2 h3
      have HALL := Lib.hid hall; have HM := Lib.hid hM
      clear hall hM
      go_wp2_with (go_at_call 69; refine (grow_b m w h2 h3).mono ?_; rintro e w1 ⟨g1, c1, rfl, hg1, hc1, ho, hb⟩; have HO := Lib.hid ho; have HB := Lib.hid hb; have HG := Lib.hid hg1; clear ho hb hg1 hc1)
      go_loopw [6, 27] (fun v i wr => ∃ j : Nat, j ≤ k ∧ i = .int .i64 j ∧ (∃ g c n L, v = .slice (some ⟨g, 0, none⟩) n c ∧ Hid (n = L.length ∧ L = (l0.take j).flatten ∧ w.heap.size ≤ g ∧ Byt wr g 5 c L)) ∧ Hid (Below w.heap.size w wr)) (fun _ i _ => k - (intOf i).toNat)
      case atStart => exact ⟨0, Nat.zero_le _, rfl, ⟨_, _, _, _, rfl, Lib.hid ⟨rfl, rfl, HG.out, HO.out⟩⟩, HB⟩
      case round =>
        clear HO HB HG
        obtain ⟨j, hj, rfl, ⟨g, c, n, L, rfl, HLO⟩, HB⟩ := hrel
        by_cases hlj : j < k
        · obtain ⟨b, off, rfl, hf⟩ := HEL.out j hlj
          obtain ⟨A1, c1, hc, hC⟩ := hf wr HB.out
          have ht := HTK.out j hlj
          have hs1 := HFIN.out (j + 1)
          have hb1 : n + (rdB l0 j).length ≤ 1000000000 := by rw [ht, List.length_append, ← HM.out] at hs1; rw [HLO.out.1, HLO.out.2.1]; omega
          have HC := Lib.hid hC; have HT := Lib.hid ht
          have HO := Lib.hid HLO.out.2.2.2; have hn := HLO.out.1.symm
          clear hf hC ht hs1
          go_wp2_with (at_builtin; refine wpList_app_b _ rfl (.tmp 31) (.tmp 32) 23 rfl 5 Try.underlying23 info5 g n c L rfl HO.out hn A1 _ c1 (rdB l0 j) rfl HC.out hb1 ?_; intro g2 c2 w2 hbyt hat hch; have HO1 := Lib.hid hbyt; have HB1 := Lib.hid (show Below w.heap.size w w2 from ((Ch.of_below HB.out (fun i => w.heap.size ≤ i)).trans hch (fun i hi => .inl (by rw [hi]; exact HLO.out.2.2.1))).below (Nat.le_refl _) (fun _ h => h)); have HG1 := Lib.hid (show w.heap.size ≤ g2 by have := HLO.out.2.2.1; have := HB.out.size; rcases hat with ⟨e, _⟩ | ⟨e, _⟩ <;> omega); clear hbyt hat hch)
          go_roundw
          case rel => exact ⟨j + 1, by omega, by go_num, ⟨_, _, _, _, rfl, Lib.hid ⟨by rw [List.length_append, hn], by rw [HT.out, HLO.out.2.1], HG1.out, HO1.out⟩⟩, HB1⟩
          case measure => simp [intOf]; omega
        · obtain rfl : j = k := by omega
          go_wp2
          go_ret
          refine ⟨g, c, by rw [HLO.out.1, HLO.out.2.1, HALL.out]; rfl, HLO.out.2.2.1, by rw [← HALL.out, ← HLO.out.2.1]; exact HLO.out.2.2.2, HB.out⟩
end Go.Proofs.YtdelfhahbngcfaaX.P07
end
section
namespace Go.Proofs.YtdelfhahbngcfaaX.P07
open Go.Proofs.Ytdelfhahbngcfaa hiding blk_cell blk_new blk_lt blk_set blk_below
open Go.RowKit Go.Shelf Go.Proofs.YtdelfhahbngcfaaW.PrintWords Go.Proofs.YtdelfhahbngcfaaW.PrintLast Go.Proofs.YtdelfhahbngcfaaW.PrintMore
set_option linter.unusedVariables false
set_option linter.unusedSimpArgs false
attribute [local go_sem] Oper.semAt_some
def fourL (a : Int) : List Int := [(a / 16777216) % 256, (a / 65536) % 256, (a / 256) % 256, a % 256]
def oneB (x : S60) : List Int := [x.f0 % 256] ++ fourL x.f1 ++ fourL x.f2
def bytesL (l : List S60) : List Int := (fourL (l.length : Int)).drop 2 ++ l.flatMap oneB
theorem C4 {w : World} {G : Nat} {l0 l1 l2 l3 : List Int} {A0 A1 A2 A3 : Option Addr} {c0 c1 c2 c3 : Nat}
    (h0 : w.cell? ⟨G, 0, none⟩ = some (.slice A0 l0.length c0)) (h1 : w.cell? ⟨G, 1, none⟩ = some (.slice A1 l1.length c1)) (h2 : w.cell? ⟨G, 2, none⟩ = some (.slice A2 l2.length c2)) (h3 : w.cell? ⟨G, 3, none⟩ = some (.slice A3 l3.length c3))
    (k0 : l0.length ≤ c0 ∧ kb.C w A0 l0.length l0) (k1 : l1.length ≤ c1 ∧ kb.C w A1 l1.length l1) (k2 : l2.length ≤ c2 ∧ kb.C w A2 l2.length l2) (k3 : l3.length ≤ c3 ∧ kb.C w A3 l3.length l3) :
    Kd.C (Kd.slice 5 kb) w (some ⟨G, 0, none⟩) 4 [l0, l1, l2, l3] := by
  refine ⟨rfl, by decide, fun _ => ⟨⟨G, 0, none⟩, rfl, fun j p hp => ?_⟩⟩
  have one : ∀ (i : Nat) (A : Option Addr) (l : List Int) (c : Nat), w.cell? ⟨G, i, none⟩ = some (.slice A l.length c) → l.length ≤ c ∧ kb.C w A l.length l → ∃ cs, cs.length = (Kd.slice 5 kb).sz ∧ (Kd.slice 5 kb).K w l cs ∧ ∀ t u, cs[t]? = some u → w.cell? ((⟨G, 0, none⟩ : Addr).add (i * (Kd.slice 5 kb).sz + t)) = some u := fun i A l c hc hk =>
    ⟨[.slice A l.length c], rfl, ⟨A, c, rfl, hk.1, hk.2⟩, fun t u hu => by
      have ht : t = 0 := by
        have := (List.getElem?_eq_some_iff.1 hu).1
        simp at this; omega
      subst ht
      have e : u = .slice A l.length c := by simpa using hu.symm
      rw [e, show ((⟨G, 0, none⟩ : Addr).add (i * (Kd.slice 5 kb).sz + 0)) = ⟨G, i, none⟩ by
        have : i * (Kd.slice 5 kb).sz + 0 = i := Nat.mul_one i
        rw [this]; unfold Addr.add; split <;> simp_all]
      exact hc⟩
  match j, hp with
  | 0, hp => have e : p = l0 := by simpa using hp.symm
             subst e; exact one 0 A0 _ c0 h0 k0
  | 1, hp => have e : p = l1 := by simpa using hp.symm
             subst e; exact one 1 A1 _ c1 h1 k1
  | 2, hp => have e : p = l2 := by simpa using hp.symm
             subst e; exact one 2 A2 _ c2 h2 k2
  | 3, hp => have e : p = l3 := by simpa using hp.symm
             subst e; exact one 3 A3 _ c3 h3 k3
  | n + 4, hp => simp at hp
theorem concat4 (base G1 b1 b2 c0 : Nat) (A0 : Option Addr) (l0 : List Int) (x : S60) (vA vB : Value) (V w0 : World) (hw0 : Below w0.heap.size w0 V) (hbw : base ≤ V.heap.size) (h0 : l0.length ≤ c0 ∧ kb.C V A0 l0.length l0) (hG : V.heap[G1]? = some (.cells #[.int .u8 (x.f0 % 256)] 5))
    (hA : Kd.R kb 5 V b1 (fun _ => True) vA (fourL x.f1)) (hB : Kd.R kb 5 V b2 (fun _ => True) vB (fourL x.f2)) (hlen : l0.length < 990000) :
    Calls Try.prog 48 #[.slice (some ⟨V.heap.size, 0, none⟩) 4 4] (V.alloc (.cells #[.slice A0 l0.length c0, .slice (some ⟨G1, 0, none⟩) 1 1, vA, vB] 23)) fun e w' => ∃ v, e = .returned v ∧ Kd.R kb 5 w' base (fun _ => True) v (l0 ++ oneB x) ∧ Below V.heap.size V w' ∧ Below w0.heap.size w0 w' := by
  obtain ⟨A2, c2, rfl, k2, r2⟩ := Kd.R_reads hA
  obtain ⟨A3, c3, rfl, k3, r3⟩ := Kd.R_reads hB
  have hbl : Below V.heap.size V (V.alloc (.cells #[.slice A0 l0.length c0, .slice (some ⟨G1, 0, none⟩) 1 1, .slice A2 (fourL x.f1).length c2, .slice A3 (fourL x.f2).length c3] 23)) := (Below.refl _ V).alloc (Nat.le_refl _) _
  have hN := blk_new V (.cells #[.slice A0 l0.length c0, .slice (some ⟨G1, 0, none⟩) 1 1, .slice A2 (fourL x.f1).length c2, .slice A3 (fourL x.f2).length c3] 23)
  have r1 : kb.C V (some ⟨G1, 0, none⟩) 1 [x.f0 % 256] := ⟨rfl, by decide, fun _ => ⟨_, rfl, fun j p hp => by
    cases j with
    | zero =>
      have e : p = x.f0 % 256 := by simpa using hp.symm
      subst e
      refine ⟨[.int .u8 (x.f0 % 256)], rfl, rfl, fun t u hu => ?_⟩
      have ht : t = 0 := by have := (List.getElem?_eq_some_iff.1 hu).1; simp at this; omega
      subst ht
      have e2 : u = .int .u8 (x.f0 % 256) := by simpa using hu.symm
      rw [e2]
      exact (blk_cell hG 0).trans rfl
    | succ j => simp at hp⟩⟩
  have hC := C4 (l1 := [x.f0 % 256]) ((blk_cell hN 0).trans rfl) ((blk_cell hN 1).trans rfl) ((blk_cell hN 2).trans rfl) ((blk_cell hN 3).trans rfl) ⟨h0.1, Kd.C_below h0.2 hbl⟩ ⟨Nat.le_refl 1, Kd.C_below r1 hbl⟩ ⟨k2, Kd.C_below r2 hbl⟩ ⟨k3, Kd.C_below r3 hbl⟩
  refine (concat_any (some ⟨V.heap.size, 0, none⟩) 4 [l0, [x.f0 % 256], fourL x.f1, fourL x.f2] _ hC (Nat.le_refl 4) (by show 4 < 1000; decide) (by simp [fourL]; omega)).mono ?_
  rintro e w' ⟨v, rfl, ho, hb⟩
  refine ⟨v, rfl, ?_, hbl.trans (hb.mono hbl.size), hw0.trans ((hbl.trans (hb.mono hbl.size)).mono hw0.size)⟩
  have := Kd.R_lower ho (Nat.le_trans hbw hbl.size)
  simpa [oneB, List.append_assoc] using this
theorem blk_thru {W W' : World} {g : Nat} {o : Obj} (hb : Below W.heap.size W W') (h : W.heap[g]? = some o) : W'.heap[g]? = some o := (hb.block g (blk_lt h)).trans h
def past_Bytes.f (k : Nat) (l0 : List S60) : Option (List Int × Int) := if l0.length ≤ 100000 then (past_Check.f k l0).bind fun e => if e = 0 then some (bytesL l0, 0) else some ([], e) else none
theorem past_Bytes.mono : ∀ a0 k, LeO (past_Bytes.f k a0) (past_Bytes.f (k + 1) a0) := fun a0 k => by
  unfold past_Bytes.f
  exact LeO.ite (LeO.bind (past_Check.mono a0 k) (fun _ => LeO.refl _)) (LeO.refl _)
theorem bytes_len (l : List S60) : (l.flatMap oneB).length = l.length * 9 := by
  induction l with
  | nil => rfl
  | cons x r ih => rw [List.flatMap_cons, List.length_append, ih]; simp [oneB, fourL]; omega
set_option maxRecDepth 100000 in
set_option maxHeartbeats 8000000 in
theorem past_Bytes.calls (k : Nat) (A0 : Option Addr) (c0 : Nat) (l0 : List (S60)) (r1 : List Int) (r2 : Int) (w : World) (hr0 : Kd.C k60 w A0 l0.length l0) (hc0 : l0.length ≤ c0) (h : past_Bytes.f k l0 = some (r1, r2)) :
    Calls Try.prog 13 #[.slice A0 l0.length c0] w fun e w' => ∃ v0_ : Value, e = .returned (.tuple #[v0_, .int .i64 r2]) ∧ Kd.Q kb 5 w' w.heap.size (fun _ => True) v0_ r1 ∧ Below w.heap.size w w' := by
  unfold past_Bytes.f at h
  by_cases hn : l0.length ≤ 100000
  rotate_left
  · rw [if_neg hn] at h; cases h
  rw [if_pos hn] at h
  obtain ⟨e0, he, h⟩ := Option.bind_eq_some_iff.mp h
  have HX := Lib.hid (fun h0 => cells60 hr0 h0)
  have HCHK := Lib.hid (past_Check.calls k A0 c0 l0 e0 w hr0 hc0 he)
  obtain ⟨N, hN⟩ : ∃ N, N = l0.length := ⟨_, rfl⟩
  have HN := Lib.hid hN
  rw [← hN] at hn HCHK ⊢
  clear he hr0 hN
  by_cases h0 : e0 = 0
  rotate_left
  · rw [if_neg h0] at h
    obtain ⟨rfl, rfl⟩ := Prod.mk.inj (Option.some.inj h)
    have h0' : (e0 != 0) = true := bne_iff_ne.2 h0
    clear h h0
    go_enter Try.func13, Try.ntmps13
    go_wp2_with (go_at_call 38; refine HCHK.out.mono ?_; rintro e w1 ⟨rfl, hbel⟩; have HB := Lib.hid hbel; clear hbel)
    go_ret2
    exact ⟨_, rfl, Kd.Q_of_R (Kd.R_nil _ _ _ _ _), HB.out⟩
  subst h0
  rw [if_pos rfl] at h
  obtain ⟨rfl, rfl⟩ := Prod.mk.inj (Option.some.inj h)
  clear h
  go_enter Try.func13, Try.ntmps13
  go_wp2_with first | (go_at_call 38; refine HCHK.out.mono ?_; rintro e w1 ⟨rfl, hbel⟩; have HB := Lib.hid hbel; clear hbel) | (go_at_call 47; refine (past_four.calls (N : Int) (fourL (N : Int)) _ rfl).mono ?_; rintro e w2 ⟨v2, rfl, ho, hbel⟩; have HO := Lib.hid ho; have HB2 := Lib.hid hbel; clear ho hbel; obtain ⟨g2, c2, rfl, hc2, hm2⟩ := RB_some HO.out (n := 4) rfl (by decide))
  have HQ0 := Lib.hid (show Kd.Q kb 5 w2 w.heap.size (fun _ => True) (.slice (some ⟨g2, 2, none⟩) 2 (c2 - 2)) ((fourL (N : Int)).drop 2) ∧ Below w.heap.size w w2 from by
    refine ⟨?_, HB.out.trans (HB2.out.mono HB.out.size)⟩
    have := Kd.Q_drop (k := 2) (Kd.Q_of_R (Kd.R_lower HO.out HB.out.size)) (show 2 ≤ 4 by omega)
    rw [if_neg (by omega)] at this
    exact this)
  go_wp2
  go_loopw [5, 19] (fun v i wr => ∃ j : Nat, j ≤ N ∧ i = .int .i64 j ∧ Hid (Kd.Q kb 5 wr w.heap.size (fun _ => True) v ((fourL (N : Int)).drop 2 ++ (l0.take j).flatMap oneB) ∧ Below w.heap.size w wr)) (fun _ i _ => N - (intOf i).toNat)
  case atStart => exact ⟨0, Nat.zero_le _, rfl, Lib.hid ⟨by simpa using HQ0.out.1, HQ0.out.2⟩⟩
  case round =>
    clear HQ0 HO HB HB2
    obtain ⟨j, hj, rfl, HI⟩ := hrel
    by_cases hlt : j < N
    · have hkl : j < l0.length := by rw [← HN.out]; exact hlt
      obtain ⟨b, off, rfl, hc⟩ := HX.out (by omega)
      obtain ⟨q0, q1, q2⟩ := hc j hkl
      obtain ⟨x, hx⟩ : ∃ x, x = rd_T60 l0 (j : Int) := ⟨_, rfl⟩
      rw [← hx] at q0 q1 q2
      replace q0 := (HI.out.2.cell (World.block_lt_of_cell? w _ q0)).trans q0
      replace q1 := (HI.out.2.cell (World.block_lt_of_cell? w _ q1)).trans q1
      replace q2 := (HI.out.2.cell (World.block_lt_of_cell? w _ q2)).trans q2
      have hxx : l0[j] = x := by rw [hx]; unfold rd_T60; simp [List.getD_eq_getElem?_getD, hkl]
      obtain ⟨ol, hol⟩ : ∃ ol, ol = (fourL (N : Int)).drop 2 ++ (l0.take j).flatMap oneB := ⟨_, rfl⟩
      have HT := Lib.hid (show (fourL (N : Int)).drop 2 ++ (l0.take (j + 1)).flatMap oneB = ol ++ oneB x by rw [List.take_succ_eq_append_getElem hkl, hxx, List.flatMap_append, hol]; simp)
      have hlen : ol.length < 990000 := by rw [hol, List.length_append, bytes_len]; simp [fourL]; omega
      rw [← hol] at HI
      obtain ⟨Av, cv, rfl, hcv, hCv⟩ := Kd.Q_reads HI.out.1
      have hbT : Below wr.heap.size wr (wr.alloc (.cells #[.int .i64 x.f0, .int .i64 x.f1, .int .i64 x.f2] 60)) := (Below.refl _ wr).alloc (Nat.le_refl _) _
      have HS := Lib.hid (show ∀ W, Below (wr.alloc (.cells #[.int .i64 x.f0, .int .i64 x.f1, .int .i64 x.f2] 60)).heap.size (wr.alloc (.cells #[.int .i64 x.f0, .int .i64 x.f1, .int .i64 x.f2] 60)) W → W.cell? ⟨wr.heap.size, 0, none⟩ = some (.int .i64 x.f0) ∧ W.cell? ⟨wr.heap.size, 1, none⟩ = some (.int .i64 x.f1) ∧ W.cell? ⟨wr.heap.size, 2, none⟩ = some (.int .i64 x.f2) from fun W hW => by
        have := blk_thru hW (blk_new wr (.cells #[.int .i64 x.f0, .int .i64 x.f1, .int .i64 x.f2] 60))
        exact ⟨(blk_cell this 0).trans rfl, (blk_cell this 1).trans rfl, (blk_cell this 2).trans rfl⟩)
      have HOUT := Lib.hid (show ∀ W, Below (wr.alloc (.cells #[.int .i64 x.f0, .int .i64 x.f1, .int .i64 x.f2] 60)).heap.size (wr.alloc (.cells #[.int .i64 x.f0, .int .i64 x.f1, .int .i64 x.f2] 60)) W → w.heap.size ≤ W.heap.size ∧ (ol.length ≤ cv ∧ kb.C W Av ol.length ol) from fun W hW => ⟨by have := hW.size; have := hbT.size; have := HI.out.2.size; omega, hcv, Kd.C_below (Kd.C_below hCv hbT) hW⟩)
      have HBW := Lib.hid (show ∀ W, Below (wr.alloc (.cells #[.int .i64 x.f0, .int .i64 x.f1, .int .i64 x.f2] 60)).heap.size (wr.alloc (.cells #[.int .i64 x.f0, .int .i64 x.f1, .int .i64 x.f2] 60)) W → Below w.heap.size w W from fun W hW => HI.out.2.trans ((hbT.trans (hW.mono hbT.size)).mono HI.out.2.size))
      have e8 : IntKind.u8.wrap x.f0 = x.f0 % 256 := IntKind.wrap_u8 _
      have s0 := HS.out _ (Below.refl _ _)
      have HGA := Lib.hid (show ((wr.alloc (.cells #[.int .i64 x.f0, .int .i64 x.f1, .int .i64 x.f2] 60)).alloc (.cells #[.int .u8 (x.f0 % 256)] 5)).heap[wr.heap.size + 1]? = some (.cells #[.int .u8 (x.f0 % 256)] 5) from by
        have := blk_new (wr.alloc (.cells #[.int .i64 x.f0, .int .i64 x.f1, .int .i64 x.f2] 60)) (.cells #[.int .u8 (x.f0 % 256)] 5)
        rwa [show (wr.alloc (.cells #[.int .i64 x.f0, .int .i64 x.f1, .int .i64 x.f2] 60)).heap.size = wr.heap.size + 1 by simp] at this)
      clear hc hx hxx hkl hol hCv hbT
      go_wp2_with fail
      have hV0 : Below (wr.alloc (.cells #[.int .i64 x.f0, .int .i64 x.f1, .int .i64 x.f2] 60)).heap.size (wr.alloc (.cells #[.int .i64 x.f0, .int .i64 x.f1, .int .i64 x.f2] 60)) (wr.alloc (.cells #[.int .i64 x.f0, .int .i64 x.f1, .int .i64 x.f2] 60)).drew := below_drew1 (Below.refl _ _)
      refine wp_region_held_drew (S := (fun W => W.cell? ⟨wr.heap.size, 0, none⟩ = some (.int .i64 x.f0) ∧ W.cell? ⟨wr.heap.size, 1, none⟩ = some (.int .i64 x.f1) ∧ W.cell? ⟨wr.heap.size, 2, none⟩ = some (.int .i64 x.f2))) (by kernel_rfl) (HS.out _ hV0) (fun hHeld => ?_)
      refine wpAnyH_take (i := 0) (oi := { dst := some 23, op := Go.Op.move (Go.Operand.tmp 5), type := 23, pos := "past.go:213", after := #[], guard := none }) (v := .slice Av ol.length cv) rfl (by kernel_rfl) (by kernel_rfl) (by kernel_rfl) (fun _ _ _ h => h) (Or.inl ⟨by rfl, ?_⟩) (by assumption) ?_
      · intro W hSw
        go_simp
      simp only [Act.put, List.setIfInBounds_toArray, List.set_cons_zero, List.set_cons_succ]
      refine wpAnyH_take (i := 1) (oi := { dst := some 24, op := Go.Op.fieldAddr 60 (Go.Operand.tmp 7) 0, type := 0, pos := "past.go:213", after := #[], guard := none }) (v := .pointer (some ⟨wr.heap.size, 0, none⟩)) rfl (by kernel_rfl) (by kernel_rfl) (by kernel_rfl) (fun _ _ _ h => h) (Or.inl ⟨by rfl, ?_⟩) (by assumption) ?_
      · intro W hSw
        go_simp
      simp only [Act.put, List.setIfInBounds_toArray, List.set_cons_zero, List.set_cons_succ]
      refine wpAnyH_take (i := 2) (oi := { dst := some 25, op := Go.Op.load 3 (Go.Operand.tmp 24), type := 3, pos := "past.go:213", after := #[{ on := 1, ground := Go.Ground.data }], guard := none }) (v := .int .i64 x.f0) rfl (by kernel_rfl) (by kernel_rfl) (by kernel_rfl) (fun _ _ _ h => h) (Or.inl ⟨by rfl, ?_⟩) (by assumption) ?_
      · intro W hSw
        go_simp
      simp only [Act.put, List.setIfInBounds_toArray, List.set_cons_zero, List.set_cons_succ]
      refine wpAnyH_take (i := 3) (oi := { dst := some 26, op := Go.Op.convert 3 5 (Go.Operand.tmp 25), type := 5, pos := "past.go:213", after := #[{ on := 2, ground := Go.Ground.data }], guard := none }) (v := .int .u8 (x.f0 % 256)) rfl (by kernel_rfl) (by kernel_rfl) (by kernel_rfl) (fun _ _ _ h => h) (Or.inl ⟨by rfl, ?_⟩) (by assumption) ?_
      · intro W hSw
        go_simp
      simp only [Act.put, List.setIfInBounds_toArray, List.set_cons_zero, List.set_cons_succ]
      refine wpAnyH_take (i := 5) (oi := { dst := some 28, op := Go.Op.fieldAddr 60 (Go.Operand.tmp 7) 1, type := 0, pos := "past.go:213", after := #[], guard := none }) (v := .pointer (some ⟨wr.heap.size, 1, none⟩)) rfl (by kernel_rfl) (by kernel_rfl) (by kernel_rfl) (fun _ _ _ h => h) (Or.inl ⟨by rfl, ?_⟩) (by assumption) ?_
      · intro W hSw
        go_simp
      simp only [Act.put, List.setIfInBounds_toArray, List.set_cons_zero, List.set_cons_succ]
      refine wpAnyH_take (i := 6) (oi := { dst := some 29, op := Go.Op.load 3 (Go.Operand.tmp 28), type := 3, pos := "past.go:213", after := #[{ on := 5, ground := Go.Ground.data }], guard := none }) (v := .int .i64 x.f1) rfl (by kernel_rfl) (by kernel_rfl) (by kernel_rfl) (fun _ _ _ h => h) (Or.inl ⟨by rfl, ?_⟩) (by assumption) ?_
      · intro W hSw
        go_simp
      simp only [Act.put, List.setIfInBounds_toArray, List.set_cons_zero, List.set_cons_succ]
      refine wpAnyH_take (i := 8) (oi := { dst := some 31, op := Go.Op.fieldAddr 60 (Go.Operand.tmp 7) 2, type := 0, pos := "past.go:213", after := #[], guard := none }) (v := .pointer (some ⟨wr.heap.size, 2, none⟩)) rfl (by kernel_rfl) (by kernel_rfl) (by kernel_rfl) (fun _ _ _ h => h) (Or.inl ⟨by rfl, ?_⟩) (by assumption) ?_
      · intro W hSw
        go_simp
      simp only [Act.put, List.setIfInBounds_toArray, List.set_cons_zero, List.set_cons_succ]
      refine wpAnyH_take (i := 9) (oi := { dst := some 32, op := Go.Op.load 3 (Go.Operand.tmp 31), type := 3, pos := "past.go:213", after := #[{ on := 8, ground := Go.Ground.data }], guard := none }) (v := .int .i64 x.f2) rfl (by kernel_rfl) (by kernel_rfl) (by kernel_rfl) (fun _ _ _ h => h) (Or.inl ⟨by rfl, ?_⟩) (by assumption) ?_
      · intro W hSw
        go_simp
      simp only [Act.put, List.setIfInBounds_toArray, List.set_cons_zero, List.set_cons_succ]
      obtain ⟨W0, hW0⟩ : ∃ W, W = (wr.alloc (.cells #[.int .i64 x.f0, .int .i64 x.f1, .int .i64 x.f2] 60)).drew := ⟨_, rfl⟩
      rw [← hW0] at hHeld hV0 ⊢
      clear hW0
      refine wpAnyH_ready (rs := [4, 7]) (by kernel_rfl) (by simp) ?_
      refine AllReadyH.cons (o := { dst := some 27, op := Go.Op.buildSlice 23 1 #[(0, Go.Operand.tmp 26)], type := 23, pos := "past.go:213", after := #[{ on := 3, ground := Go.Ground.data }], guard := none }) rfl (fun K hK => ?_) (AllReadyH.cons (o := { dst := some 30, op := Go.Op.call { callee := Go.Callee.value (Go.Operand.func 47), args := #[Go.Operand.tmp 29], argTypes := #[3] }, type := 23, pos := "past.go:213", after := #[{ on := 6, ground := Go.Ground.data }], guard := none }) rfl (fun K hK => ?_) (AllReadyH.nil))
      · go_simp
        have bV1 : Below (wr.alloc (.cells #[.int .i64 x.f0, .int .i64 x.f1, .int .i64 x.f2] 60)).heap.size (wr.alloc (.cells #[.int .i64 x.f0, .int .i64 x.f1, .int .i64 x.f2] 60)) (W0.alloc (.cells #[.int .u8 (x.f0 % 256)] 5)) := below_alloc hV0 _
        refine hK.out _ _ (HS.out _ bV1) (fun hHeld => ?_)
        clear hK K
        try simp only [Act.put, List.setIfInBounds_toArray, List.set_cons_zero, List.set_cons_succ]
        have hG1 := blk_new W0 (.cells #[.int .u8 (x.f0 % 256)] 5)
        have hs1 : Below W0.heap.size W0 (W0.alloc (.cells #[.int .u8 (x.f0 % 256)] 5)) := below_alloc (Below.refl _ _) _
        obtain ⟨V1, hV1⟩ : ∃ V, V = W0.alloc (.cells #[.int .u8 (x.f0 % 256)] 5) := ⟨_, rfl⟩
        rw [← hV1] at hHeld bV1 hG1 hs1 ⊢
        clear hV1
        refine wpAnyH_ready (rs := [7]) (by kernel_rfl) (by simp) ?_
        refine AllReadyH.cons (o := { dst := some 30, op := Go.Op.call { callee := Go.Callee.value (Go.Operand.func 47), args := #[Go.Operand.tmp 29], argTypes := #[3] }, type := 23, pos := "past.go:213", after := #[{ on := 6, ground := Go.Ground.data }], guard := none }) rfl (fun K hK => ?_) (AllReadyH.nil)
        · go_simp
          refine (past_four.calls x.f1 (fourL x.f1) _ rfl).mono ?_
          rintro e V2 ⟨v2, rfl, ho2, hs2⟩
          obtain ⟨g2, c2, rfl, _, _⟩ := RB_some ho2 (n := 4) rfl (by decide)
          have bV2 : Below (wr.alloc (.cells #[.int .i64 x.f0, .int .i64 x.f1, .int .i64 x.f2] 60)).heap.size (wr.alloc (.cells #[.int .i64 x.f0, .int .i64 x.f1, .int .i64 x.f2] 60)) V2 := bV1.trans (hs2.mono bV1.size)
          go_wp2_with fail
          refine hK.out _ _ (HS.out _ bV2) (fun hHeld => ?_)
          clear hK K
          try simp only [Act.put, List.setIfInBounds_toArray, List.set_cons_zero, List.set_cons_succ]
          have hG2 := blk_thru hs2 hG1
          refine wpAnyH_ready (rs := [10]) (by kernel_rfl) (by simp) ?_
          refine AllReadyH.cons (o := { dst := some 33, op := Go.Op.call { callee := Go.Callee.value (Go.Operand.func 47), args := #[Go.Operand.tmp 32], argTypes := #[3] }, type := 23, pos := "past.go:213", after := #[{ on := 9, ground := Go.Ground.data }, { on := 7, ground := Go.Ground.chain }], guard := none }) rfl (fun K hK => ?_) (AllReadyH.nil)
          · go_simp
            refine (past_four.calls x.f2 (fourL x.f2) _ rfl).mono ?_
            rintro e V3 ⟨v3, rfl, ho3, hs3⟩
            obtain ⟨g3, c3, rfl, _, _⟩ := RB_some ho3 (n := 4) rfl (by decide)
            have bV3 : Below (wr.alloc (.cells #[.int .i64 x.f0, .int .i64 x.f1, .int .i64 x.f2] 60)).heap.size (wr.alloc (.cells #[.int .i64 x.f0, .int .i64 x.f1, .int .i64 x.f2] 60)) V3 := bV2.trans (hs3.mono bV2.size)
            go_wp2_with fail
            refine hK.out _ _ (HS.out _ bV3) (fun hHeld => ?_)
            clear hK K
            try simp only [Act.put, List.setIfInBounds_toArray, List.set_cons_zero, List.set_cons_succ]
            have hG3 := blk_thru hs3 hG2
            have hoA3 := Kd.R_below ho2 hs3
            refine wpAnyH_ready (rs := [11]) (by kernel_rfl) (by simp) ?_
            refine AllReadyH.cons (o := { dst := some 34, op := Go.Op.buildSlice 83 4 #[(0, Go.Operand.tmp 23), (1, Go.Operand.tmp 27), (2, Go.Operand.tmp 30), (3, Go.Operand.tmp 33)], type := 83, pos := "past.go:213", after := #[{ on := 0, ground := Go.Ground.data }, { on := 4, ground := Go.Ground.data }, { on := 7, ground := Go.Ground.data }, { on := 10, ground := Go.Ground.data }], guard := none }) rfl (fun K hK => ?_) AllReadyH.nil
            go_simp
            refine hK.out _ _ (HS.out _ (below_alloc bV3 _)) (fun hHeld => ?_)
            clear hK K
            try simp only [Act.put, List.setIfInBounds_toArray, List.set_cons_zero, List.set_cons_succ]
            refine wpAnyH_ready (rs := [12]) (by kernel_rfl) (by simp) ?_
            refine AllReadyH.cons (o := { dst := some 35, op := Go.Op.call { callee := Go.Callee.value (Go.Operand.func 48), args := #[Go.Operand.tmp 34], argTypes := #[83] }, type := 23, pos := "past.go:213", after := #[{ on := 11, ground := Go.Ground.data }, { on := 10, ground := Go.Ground.chain }], guard := none }) rfl (fun K hK => ?_) AllReadyH.nil
            go_simp
            refine (concat4 w.heap.size _ _ _ cv Av ol x _ _ V3 w (HBW.out _ bV3) (HOUT.out _ bV3).1 (HOUT.out _ bV3).2 hG3 hoA3 ho3 hlen).mono ?_
            rintro e w9 ⟨v9, rfl, ho9, hb9, hb10⟩
            go_wp2_with fail
            refine hK.out _ _ (HS.out _ (bV3.trans (hb9.mono bV3.size))) (fun hHeld => ?_)
            clear hK K
            try simp only [Act.put, List.setIfInBounds_toArray, List.set_cons_zero, List.set_cons_succ]
            refine wpAnyH_ready (rs := [13]) (by kernel_rfl) (by simp) ?_
            refine AllReadyH.cons (o := { dst := some 5, op := Go.Op.assign (Go.Operand.tmp 35), type := 23, pos := "past.go:213", after := #[{ on := 12, ground := Go.Ground.data }, { on := 12, ground := Go.Ground.chain }, { on := 0, ground := Go.Ground.phase }, { on := 1, ground := Go.Ground.phase }, { on := 2, ground := Go.Ground.phase }, { on := 3, ground := Go.Ground.phase }, { on := 4, ground := Go.Ground.phase }, { on := 5, ground := Go.Ground.phase }, { on := 6, ground := Go.Ground.phase }, { on := 7, ground := Go.Ground.phase }, { on := 8, ground := Go.Ground.phase }, { on := 9, ground := Go.Ground.phase }, { on := 10, ground := Go.Ground.phase }, { on := 11, ground := Go.Ground.phase }, { on := 12, ground := Go.Ground.phase }], guard := none }) rfl (fun K hK => ?_) AllReadyH.nil
            go_simp
            refine hK.out _ _ (HS.out _ (bV3.trans (hb9.mono bV3.size))) (fun hHeld => ?_)
            clear hK K
            try simp only [Act.put, List.setIfInBounds_toArray, List.set_cons_zero, List.set_cons_succ]
            refine wpAnyH_done (by kernel_rfl) ?_ _
            have HO9 := Lib.hid ho9
            have HB9 := Lib.hid hb10
            clear ho9 hb10 hb9
            go_wp2
            go_roundw
            case rel => exact ⟨j + 1, by omega, by go_num, Lib.hid ⟨by rw [HT.out]; exact Kd.Q_of_R HO9.out, HB9.out⟩⟩
            case measure => simp [intOf]; omega
      · go_simp
        refine (past_four.calls x.f1 (fourL x.f1) _ rfl).mono ?_
        rintro e V4 ⟨v4, rfl, ho4, hs4⟩
        obtain ⟨g4, c4, rfl, _, _⟩ := RB_some ho4 (n := 4) rfl (by decide)
        have bV4 : Below (wr.alloc (.cells #[.int .i64 x.f0, .int .i64 x.f1, .int .i64 x.f2] 60)).heap.size (wr.alloc (.cells #[.int .i64 x.f0, .int .i64 x.f1, .int .i64 x.f2] 60)) V4 := hV0.trans (hs4.mono hV0.size)
        go_wp2_with fail
        refine hK.out _ _ (HS.out _ bV4) (fun hHeld => ?_)
        clear hK K
        try simp only [Act.put, List.setIfInBounds_toArray, List.set_cons_zero, List.set_cons_succ]
        refine wpAnyH_ready (rs := [4, 10]) (by kernel_rfl) (by simp) ?_
        refine AllReadyH.cons (o := { dst := some 27, op := Go.Op.buildSlice 23 1 #[(0, Go.Operand.tmp 26)], type := 23, pos := "past.go:213", after := #[{ on := 3, ground := Go.Ground.data }], guard := none }) rfl (fun K hK => ?_) (AllReadyH.cons (o := { dst := some 33, op := Go.Op.call { callee := Go.Callee.value (Go.Operand.func 47), args := #[Go.Operand.tmp 32], argTypes := #[3] }, type := 23, pos := "past.go:213", after := #[{ on := 9, ground := Go.Ground.data }, { on := 7, ground := Go.Ground.chain }], guard := none }) rfl (fun K hK => ?_) (AllReadyH.nil))
        · go_simp
          have bV5 : Below (wr.alloc (.cells #[.int .i64 x.f0, .int .i64 x.f1, .int .i64 x.f2] 60)).heap.size (wr.alloc (.cells #[.int .i64 x.f0, .int .i64 x.f1, .int .i64 x.f2] 60)) (V4.alloc (.cells #[.int .u8 (x.f0 % 256)] 5)) := below_alloc bV4 _
          refine hK.out _ _ (HS.out _ bV5) (fun hHeld => ?_)
          clear hK K
          try simp only [Act.put, List.setIfInBounds_toArray, List.set_cons_zero, List.set_cons_succ]
          have hG5 := blk_new V4 (.cells #[.int .u8 (x.f0 % 256)] 5)
          have hs5 : Below V4.heap.size V4 (V4.alloc (.cells #[.int .u8 (x.f0 % 256)] 5)) := below_alloc (Below.refl _ _) _
          obtain ⟨V5, hV5⟩ : ∃ V, V = V4.alloc (.cells #[.int .u8 (x.f0 % 256)] 5) := ⟨_, rfl⟩
          rw [← hV5] at hHeld bV5 hG5 hs5 ⊢
          clear hV5
          have hoA5 := Kd.R_below ho4 hs5
          refine wpAnyH_ready (rs := [10]) (by kernel_rfl) (by simp) ?_
          refine AllReadyH.cons (o := { dst := some 33, op := Go.Op.call { callee := Go.Callee.value (Go.Operand.func 47), args := #[Go.Operand.tmp 32], argTypes := #[3] }, type := 23, pos := "past.go:213", after := #[{ on := 9, ground := Go.Ground.data }, { on := 7, ground := Go.Ground.chain }], guard := none }) rfl (fun K hK => ?_) (AllReadyH.nil)
          · go_simp
            refine (past_four.calls x.f2 (fourL x.f2) _ rfl).mono ?_
            rintro e V6 ⟨v6, rfl, ho6, hs6⟩
            obtain ⟨g6, c6, rfl, _, _⟩ := RB_some ho6 (n := 4) rfl (by decide)
            have bV6 : Below (wr.alloc (.cells #[.int .i64 x.f0, .int .i64 x.f1, .int .i64 x.f2] 60)).heap.size (wr.alloc (.cells #[.int .i64 x.f0, .int .i64 x.f1, .int .i64 x.f2] 60)) V6 := bV5.trans (hs6.mono bV5.size)
            go_wp2_with fail
            refine hK.out _ _ (HS.out _ bV6) (fun hHeld => ?_)
            clear hK K
            try simp only [Act.put, List.setIfInBounds_toArray, List.set_cons_zero, List.set_cons_succ]
            have hoA6 := Kd.R_below hoA5 hs6
            have hG6 := blk_thru hs6 hG5
            refine wpAnyH_ready (rs := [11]) (by kernel_rfl) (by simp) ?_
            refine AllReadyH.cons (o := { dst := some 34, op := Go.Op.buildSlice 83 4 #[(0, Go.Operand.tmp 23), (1, Go.Operand.tmp 27), (2, Go.Operand.tmp 30), (3, Go.Operand.tmp 33)], type := 83, pos := "past.go:213", after := #[{ on := 0, ground := Go.Ground.data }, { on := 4, ground := Go.Ground.data }, { on := 7, ground := Go.Ground.data }, { on := 10, ground := Go.Ground.data }], guard := none }) rfl (fun K hK => ?_) AllReadyH.nil
            go_simp
            refine hK.out _ _ (HS.out _ (below_alloc bV6 _)) (fun hHeld => ?_)
            clear hK K
            try simp only [Act.put, List.setIfInBounds_toArray, List.set_cons_zero, List.set_cons_succ]
            refine wpAnyH_ready (rs := [12]) (by kernel_rfl) (by simp) ?_
            refine AllReadyH.cons (o := { dst := some 35, op := Go.Op.call { callee := Go.Callee.value (Go.Operand.func 48), args := #[Go.Operand.tmp 34], argTypes := #[83] }, type := 23, pos := "past.go:213", after := #[{ on := 11, ground := Go.Ground.data }, { on := 10, ground := Go.Ground.chain }], guard := none }) rfl (fun K hK => ?_) AllReadyH.nil
            go_simp
            refine (concat4 w.heap.size _ _ _ cv Av ol x _ _ V6 w (HBW.out _ bV6) (HOUT.out _ bV6).1 (HOUT.out _ bV6).2 hG6 hoA6 ho6 hlen).mono ?_
            rintro e w9 ⟨v9, rfl, ho9, hb9, hb10⟩
            go_wp2_with fail
            refine hK.out _ _ (HS.out _ (bV6.trans (hb9.mono bV6.size))) (fun hHeld => ?_)
            clear hK K
            try simp only [Act.put, List.setIfInBounds_toArray, List.set_cons_zero, List.set_cons_succ]
            refine wpAnyH_ready (rs := [13]) (by kernel_rfl) (by simp) ?_
            refine AllReadyH.cons (o := { dst := some 5, op := Go.Op.assign (Go.Operand.tmp 35), type := 23, pos := "past.go:213", after := #[{ on := 12, ground := Go.Ground.data }, { on := 12, ground := Go.Ground.chain }, { on := 0, ground := Go.Ground.phase }, { on := 1, ground := Go.Ground.phase }, { on := 2, ground := Go.Ground.phase }, { on := 3, ground := Go.Ground.phase }, { on := 4, ground := Go.Ground.phase }, { on := 5, ground := Go.Ground.phase }, { on := 6, ground := Go.Ground.phase }, { on := 7, ground := Go.Ground.phase }, { on := 8, ground := Go.Ground.phase }, { on := 9, ground := Go.Ground.phase }, { on := 10, ground := Go.Ground.phase }, { on := 11, ground := Go.Ground.phase }, { on := 12, ground := Go.Ground.phase }], guard := none }) rfl (fun K hK => ?_) AllReadyH.nil
            go_simp
            refine hK.out _ _ (HS.out _ (bV6.trans (hb9.mono bV6.size))) (fun hHeld => ?_)
            clear hK K
            try simp only [Act.put, List.setIfInBounds_toArray, List.set_cons_zero, List.set_cons_succ]
            refine wpAnyH_done (by kernel_rfl) ?_ _
            have HO9 := Lib.hid ho9
            have HB9 := Lib.hid hb10
            clear ho9 hb10 hb9
            go_wp2
            go_roundw
            case rel => exact ⟨j + 1, by omega, by go_num, Lib.hid ⟨by rw [HT.out]; exact Kd.Q_of_R HO9.out, HB9.out⟩⟩
            case measure => simp [intOf]; omega
        · go_simp
          refine (past_four.calls x.f2 (fourL x.f2) _ rfl).mono ?_
          rintro e V7 ⟨v7, rfl, ho7, hs7⟩
          obtain ⟨g7, c7, rfl, _, _⟩ := RB_some ho7 (n := 4) rfl (by decide)
          have bV7 : Below (wr.alloc (.cells #[.int .i64 x.f0, .int .i64 x.f1, .int .i64 x.f2] 60)).heap.size (wr.alloc (.cells #[.int .i64 x.f0, .int .i64 x.f1, .int .i64 x.f2] 60)) V7 := bV4.trans (hs7.mono bV4.size)
          go_wp2_with fail
          refine hK.out _ _ (HS.out _ bV7) (fun hHeld => ?_)
          clear hK K
          try simp only [Act.put, List.setIfInBounds_toArray, List.set_cons_zero, List.set_cons_succ]
          have hoA7 := Kd.R_below ho4 hs7
          refine wpAnyH_ready (rs := [4]) (by kernel_rfl) (by simp) ?_
          refine AllReadyH.cons (o := { dst := some 27, op := Go.Op.buildSlice 23 1 #[(0, Go.Operand.tmp 26)], type := 23, pos := "past.go:213", after := #[{ on := 3, ground := Go.Ground.data }], guard := none }) rfl (fun K hK => ?_) (AllReadyH.nil)
          · go_simp
            have bV8 : Below (wr.alloc (.cells #[.int .i64 x.f0, .int .i64 x.f1, .int .i64 x.f2] 60)).heap.size (wr.alloc (.cells #[.int .i64 x.f0, .int .i64 x.f1, .int .i64 x.f2] 60)) (V7.alloc (.cells #[.int .u8 (x.f0 % 256)] 5)) := below_alloc bV7 _
            refine hK.out _ _ (HS.out _ bV8) (fun hHeld => ?_)
            clear hK K
            try simp only [Act.put, List.setIfInBounds_toArray, List.set_cons_zero, List.set_cons_succ]
            have hG8 := blk_new V7 (.cells #[.int .u8 (x.f0 % 256)] 5)
            have hs8 : Below V7.heap.size V7 (V7.alloc (.cells #[.int .u8 (x.f0 % 256)] 5)) := below_alloc (Below.refl _ _) _
            obtain ⟨V8, hV8⟩ : ∃ V, V = V7.alloc (.cells #[.int .u8 (x.f0 % 256)] 5) := ⟨_, rfl⟩
            rw [← hV8] at hHeld bV8 hG8 hs8 ⊢
            clear hV8
            have hoA8 := Kd.R_below hoA7 hs8
            have hoB8 := Kd.R_below ho7 hs8
            refine wpAnyH_ready (rs := [11]) (by kernel_rfl) (by simp) ?_
            refine AllReadyH.cons (o := { dst := some 34, op := Go.Op.buildSlice 83 4 #[(0, Go.Operand.tmp 23), (1, Go.Operand.tmp 27), (2, Go.Operand.tmp 30), (3, Go.Operand.tmp 33)], type := 83, pos := "past.go:213", after := #[{ on := 0, ground := Go.Ground.data }, { on := 4, ground := Go.Ground.data }, { on := 7, ground := Go.Ground.data }, { on := 10, ground := Go.Ground.data }], guard := none }) rfl (fun K hK => ?_) AllReadyH.nil
            go_simp
            refine hK.out _ _ (HS.out _ (below_alloc bV8 _)) (fun hHeld => ?_)
            clear hK K
            try simp only [Act.put, List.setIfInBounds_toArray, List.set_cons_zero, List.set_cons_succ]
            refine wpAnyH_ready (rs := [12]) (by kernel_rfl) (by simp) ?_
            refine AllReadyH.cons (o := { dst := some 35, op := Go.Op.call { callee := Go.Callee.value (Go.Operand.func 48), args := #[Go.Operand.tmp 34], argTypes := #[83] }, type := 23, pos := "past.go:213", after := #[{ on := 11, ground := Go.Ground.data }, { on := 10, ground := Go.Ground.chain }], guard := none }) rfl (fun K hK => ?_) AllReadyH.nil
            go_simp
            refine (concat4 w.heap.size _ _ _ cv Av ol x _ _ V8 w (HBW.out _ bV8) (HOUT.out _ bV8).1 (HOUT.out _ bV8).2 hG8 hoA8 hoB8 hlen).mono ?_
            rintro e w9 ⟨v9, rfl, ho9, hb9, hb10⟩
            go_wp2_with fail
            refine hK.out _ _ (HS.out _ (bV8.trans (hb9.mono bV8.size))) (fun hHeld => ?_)
            clear hK K
            try simp only [Act.put, List.setIfInBounds_toArray, List.set_cons_zero, List.set_cons_succ]
            refine wpAnyH_ready (rs := [13]) (by kernel_rfl) (by simp) ?_
            refine AllReadyH.cons (o := { dst := some 5, op := Go.Op.assign (Go.Operand.tmp 35), type := 23, pos := "past.go:213", after := #[{ on := 12, ground := Go.Ground.data }, { on := 12, ground := Go.Ground.chain }, { on := 0, ground := Go.Ground.phase }, { on := 1, ground := Go.Ground.phase }, { on := 2, ground := Go.Ground.phase }, { on := 3, ground := Go.Ground.phase }, { on := 4, ground := Go.Ground.phase }, { on := 5, ground := Go.Ground.phase }, { on := 6, ground := Go.Ground.phase }, { on := 7, ground := Go.Ground.phase }, { on := 8, ground := Go.Ground.phase }, { on := 9, ground := Go.Ground.phase }, { on := 10, ground := Go.Ground.phase }, { on := 11, ground := Go.Ground.phase }, { on := 12, ground := Go.Ground.phase }], guard := none }) rfl (fun K hK => ?_) AllReadyH.nil
            go_simp
            refine hK.out _ _ (HS.out _ (bV8.trans (hb9.mono bV8.size))) (fun hHeld => ?_)
            clear hK K
            try simp only [Act.put, List.setIfInBounds_toArray, List.set_cons_zero, List.set_cons_succ]
            refine wpAnyH_done (by kernel_rfl) ?_ _
            have HO9 := Lib.hid ho9
            have HB9 := Lib.hid hb10
            clear ho9 hb10 hb9
            go_wp2
            go_roundw
            case rel => exact ⟨j + 1, by omega, by go_num, Lib.hid ⟨by rw [HT.out]; exact Kd.Q_of_R HO9.out, HB9.out⟩⟩
            case measure => simp [intOf]; omega
    · obtain rfl : j = N := by omega
      have HE := Lib.hid (show (fourL (j : Int)).drop 2 ++ (l0.take j).flatMap oneB = bytesL l0 by rw [HN.out, List.take_length]; rfl)
      go_wp2
      go_ret2
      exact ⟨_, rfl, by rw [← HE.out]; exact HI.out.1, HI.out.2⟩
end Go.Proofs.YtdelfhahbngcfaaX.P07
end
section
namespace Go.Proofs.Ytdelfhahbngcfaa
open Go.RowKit
set_option linter.unusedVariables false
set_option linter.unusedSimpArgs false
theorem flat_get {α : Type} (F : α → List Value) (sz : Nat) : ∀ (l : List α), (∀ x ∈ l, (F x).length = sz) → ∀ j i, i < sz → (l.flatMap F)[j * sz + i]? = (l[j]?).bind fun x => (F x)[i]?
  | [], _, j, i, _ => by simp
  | x :: l, h, 0, i, hi => by
    have := h x (List.mem_cons_self ..)
    simp only [List.flatMap_cons, Nat.zero_mul, Nat.zero_add]
    rw [List.getElem?_append_left (by omega)]
    rfl
  | x :: l, h, j + 1, i, hi => by
    have hx := h x (List.mem_cons_self ..)
    simp only [List.flatMap_cons]
    rw [List.getElem?_append_right (by rw [hx, Nat.succ_mul]; omega), hx, show (j + 1) * sz + i - sz = j * sz + i by rw [Nat.succ_mul]; omega]
    exact flat_get F sz l (fun y hy => h y (List.mem_cons_of_mem _ hy)) j i hi
theorem flat_len {α : Type} (F : α → List Value) (sz : Nat) : ∀ (l : List α), (∀ x ∈ l, (F x).length = sz) → (l.flatMap F).length = l.length * sz
  | [], _ => by simp
  | x :: l, h => by
    rw [List.flatMap_cons, List.length_append, h x (List.mem_cons_self ..), flat_len F sz l (fun y hy => h y (List.mem_cons_of_mem _ hy)), List.length_cons, Nat.succ_mul]
    omega
section
variable {P : Program} {ops : Array Oper} {rest : List Oper} {o : Oper} {a : Act} {Q : Exit → Act → World → Prop}
theorem run_add2 (w : World) (t ty : TypeId)
    (base : Nat) (e : TypeId) (z : Value) (size bytes : Nat) (ht : P.underlying t = some (.slice e)) (hinfo : (P.info? e).map (fun i => (i.zero, i.size, i.bytes)) = some (some z, size, bytes)) (hzs : z.cells.size = size) (hsz : 0 < size)
    (v : Value) (n : Nat) (xs : List Value) (hown : w.ownsRow base e size v n xs)
    (cs : Array Value) (ec : TypeId) (hcs : cs.size = size) (h1 : ∀ u ∈ cs.toList, u.oneCell' = true)
    (h63 : n + 1 ≤ maxLen) (hbytes : (n + 1) * bytes ≤ 140737488355328) (hbase : base ≤ w.heap.size) :
    ∃ v' w', (Builtin.append_ #[t, t] ty #[v, .slice (some ⟨w.heap.size, 0, none⟩) 1 1]).run P (w.alloc (.cells cs ec)) = .ok v' w' ∧
      w'.ownsRow base e size v' (n + 1) (xs ++ cs.toList) ∧ v' ≠ .slice none 0 0 ∧ Ch (fun k => v.ownBlock = some k) w w' ∧ (v'.ownBlock = v.ownBlock ∨ v'.ownBlock = some (w.heap.size + 1)) := by
  obtain ⟨i0, hi, hzz⟩ := Option.map_eq_some_iff.1 hinfo
  simp only [Prod.mk.injEq] at hzz
  obtain ⟨hz0, hz1, hz2⟩ := hzz
  have hr := rd_lit w cs ec 1 size (by omega) (by omega)
  obtain ⟨v', w', hrun, h2, h3, h4, h5⟩ := run_append_own_at (P := P) (w.alloc (.cells cs ec)) base t ty e i0 z size bytes ht hi hz0 hz1 hz2 hzs hsz v n xs (own_ch hown (Ch.alloc w _ No) (fun _ _ => id)) ⟨w.heap.size, 0, none⟩ 1 1 cs.toList hr.len (fun j u hu => by
    obtain ⟨b, off, he, hc⟩ := hr.cells j u hu
    cases he
    rw [Addr.add_lit]; exact hc) h1 h63 hbytes (by simp; omega)
  refine ⟨v', w', hrun, h2, fun e => by have := h4.1 e; simp at this, (Ch.alloc w _ _).trans (Ch.of_grown h3) (fun i hi => .inl hi), ?_⟩
  simpa using h5
theorem wp_add2 (w : World) {K : Act → World → Prop} (s x : Operand) (t : TypeId)
    (ho : o.op = .call { callee := .builtin .append, args := #[s, x], argTypes := #[t, t] })
    (base : Nat) (e : TypeId) (z : Value) (size bytes : Nat) (ht : P.underlying t = some (.slice e)) (hinfo : (P.info? e).map (fun i => (i.zero, i.size, i.bytes)) = some (some z, size, bytes)) (hzs : z.cells.size = size) (hsz : 0 < size)
    (v : Value) (n : Nat) (xs : List Value) (hs : a.eval s = v) (hown : w.ownsRow base e size v n xs)
    (cs : Array Value) (ec : TypeId) (hx : a.eval x = .slice (some ⟨w.heap.size, 0, none⟩) 1 1) (hcs : cs.size = size) (h1 : ∀ u ∈ cs.toList, u.oneCell' = true)
    (h63 : n + 1 ≤ maxLen) (hbytes : (n + 1) * bytes ≤ 140737488355328) (hbase : base ≤ w.heap.size)
    (h : ∀ v' w', w'.ownsRow base e size v' (n + 1) (xs ++ cs.toList) → v' ≠ .slice none 0 0 → Ch (fun k => v.ownBlock = some k) w w' → (v'.ownBlock = v.ownBlock ∨ v'.ownBlock = some (w.heap.size + 1)) → K (a.put o.dst v') w') : Oper.wp P o a (w.alloc (.cells cs ec)) K Q := by
  obtain ⟨v', w', hrun, h2, h3, h4, h5⟩ := run_add2 (P := P) w t o.type base e z size bytes ht hinfo hzs hsz v n xs hown cs ec hcs h1 h63 hbytes hbase
  unfold Oper.wp execOp
  simp only [ho, resolve, invoke, builtin, Sem.run_bind, Sem.run_pure, Result.andThen_ok, List.map_toArray, List.map_cons, List.map_nil, hs, hx, hrun]
  exact h v' w' h2 h3 h4 h5
theorem step_add2 (w : World) {K : Act → World → Prop} {E : Prop} (hgd : o.guard = none) (s x : Operand) (t : TypeId)
    (ho : o.op = .call { callee := .builtin .append, args := #[s, x], argTypes := #[t, t] })
    (base : Nat) (e : TypeId) (z : Value) (size bytes : Nat) (ht : P.underlying t = some (.slice e)) (hinfo : (P.info? e).map (fun i => (i.zero, i.size, i.bytes)) = some (some z, size, bytes)) (hzs : z.cells.size = size) (hsz : 0 < size)
    (v : Value) (n : Nat) (xs : List Value) (hs : a.eval s = v) (hown : w.ownsRow base e size v n xs)
    (cs : Array Value) (ec : TypeId) (hx : a.eval x = .slice (some ⟨w.heap.size, 0, none⟩) 1 1) (hcs : cs.size = size) (h1 : ∀ u ∈ cs.toList, u.oneCell' = true)
    (h63 : n + 1 ≤ maxLen) (hbytes : (n + 1) * bytes ≤ 140737488355328) (hbase : base ≤ w.heap.size)
    (h : ∀ v' w', w'.ownsRow base e size v' (n + 1) (xs ++ cs.toList) → v' ≠ .slice none 0 0 → Ch (fun k => v.ownBlock = some k) w w' → (v'.ownBlock = v.ownBlock ∨ v'.ownBlock = some (w.heap.size + 1)) → K (a.put o.dst v') w') :
    if Region.wanted o (yielded ops a.tmps) = true then Oper.wp P o a (w.alloc (.cells cs ec)) K Q else E := by
  have hw : Region.wanted o (yielded ops a.tmps) = true := by simp [Region.wanted, hgd]
  rw [if_pos hw]
  exact wp_add2 w s x t ho base e z size bytes ht hinfo hzs hsz v n xs hs hown cs ec hx hcs h1 h63 hbytes hbase h
end
end Go.Proofs.Ytdelfhahbngcfaa
end
section
namespace Go.Proofs.Ytdelfhahbngcfaa
open Go
set_option linter.unusedVariables false
set_option linter.unusedSimpArgs false
def plainOps (ops : Array Oper) : Bool := ops.all fun o => match o.op with | .defer _ => false | _ => true
theorem plain_at {ops : Array Oper} (h : plainOps ops = true) {i : Nat} {o : Oper} (hi : ops[i]? = some o) (c : Go.Call) : o.op ≠ .defer c := by
  intro e
  have hlt : i < ops.size := (Array.getElem?_eq_some_iff.1 hi).1
  have := (Array.all_eq_true.1 h) i hlt
  rw [Array.getElem?_eq_getElem hlt] at hi
  cases hi
  rw [e] at this
  cases this
section
variable {P : Program} {ops : Array Oper} {Q : Exit → Act → World → Prop} {md : Region.Mode} {S : World → Prop}
theorem wpOp_round {l n i : Nat} {K : Act → World → Prop} {a : Act} {w : World} (hp : plainOps ops = true) (hQ : ¬ LetsOut Q) (h : wpOp P ops Q i K a w) : wpOpIn (Fence.wide.inRound l) n P ops Q i K a w := by
  unfold wpOp at h
  unfold wpOpIn
  cases ho : ops[i]? with
  | none => simpa [ho] using h
  | some o =>
    simp only [ho] at h ⊢
    split
    · rename_i hw
      simp only [hw, if_true] at h
      rcases h with h | ⟨_, h⟩
      case inr => exact absurd h hQ
      unfold Oper.wpIn
      refine ⟨fun _ _ => trivial, ?_⟩
      have hs : o.semAt (Fence.wide.inRound l).round a.eval = execOp a.eval o := by
        unfold Oper.semAt
        split
        · rename_i c _ hc
          exact absurd hc (plain_at hp ho c)
        · rfl
      rw [hs]
      unfold Oper.wp at h
      generalize (execOp a.eval o).run P w = r at *
      cases r with
      | ok x w' =>
        cases x <;> simp only [Oper.upon, Oper.uponIn] at h ⊢ <;> first
          | exact h
          | exact ⟨(fun h => by cases h), CallsIn.inRound l (callsIn_wide.2 h)⟩
          | (refine ⟨(fun h => by cases h), fun c cs hroom => ?_⟩
             obtain ⟨v, w2, r, s⟩ := h c cs
             exact ⟨v, w2, r, stepsIn_wide.2 s⟩)
      | halt x w' => cases x <;> simp only [Oper.upon, Oper.uponIn] at h ⊢ <;> exact h
    · rename_i hw
      simp only [hw] at h
      exact ⟨fun _ _ => trivial, h⟩
theorem wpAny_round {l n : Nat} (hp : plainOps ops = true) (hQ : ¬ LetsOut Q) : ∀ (fuel : Nat) (listed : Array Bool) (a : Act) (w : World), wpAny P md ops Q fuel listed a w → wpAnyIn (Fence.wide.inRound l) n P md ops Q fuel listed a w
  | 0, _, _, _, h => h
  | fuel + 1, _, _, _, h => ⟨h.1, fun i hi => wpOpIn_mono (fun a w hh => wpAny_round hp hQ fuel _ a w hh) (wpOp_round hp hQ (h.2 i hi))⟩
theorem wpIn_region_round {l n id : Nat} {a : Act} {w : World} (hm : P.follows .mixedOrders = true) (hp : plainOps ops = true) (hQ : ¬ LetsOut Q)
    (h : wpAnyH P .any ops Q S ops.size (Array.replicate ops.size false) a w.drew) : (Code.region id ops true).wpIn (Fence.wide.inRound l) n P Q a w :=
  wpIn_region_any hm (wpAny_round hp hQ _ _ _ _ (wpAny_of_held _ _ _ _ h))
end
end Go.Proofs.Ytdelfhahbngcfaa
end
