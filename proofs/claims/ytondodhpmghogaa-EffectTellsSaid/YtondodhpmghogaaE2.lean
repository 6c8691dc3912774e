/- Walk: Check of an effect. Conditions: none beyond a slice's length. -/
import Derived.Test.YtondodhpmghogaaE1
import Derived.Deep.RegionHeld3
namespace Go.Proofs.Ytondodhpmghogaa
open Go.RowKit
set_option linter.unusedVariables false
set_option linter.unusedSimpArgs false

set_option maxRecDepth 100000 in
set_option maxHeartbeats 2000000 in
theorem check_any (k m : Int) (A : Option Addr) (n c : Nat) (w : World) (hn : n ≤ 9223372036854775807) : Calls Try.prog 46 #[.agg #[.int .i64 k, .int .i64 m, .slice A n c]] w fun e w' => e = .returned (.int .i64 (chk k m n)) ∧ Below w.heap.size w w' := by
  obtain ⟨r, hr⟩ : ∃ r, r = chk k m n := ⟨_, rfl⟩
  rw [← hr]
  unfold chk at hr
  have hb1 := box_below w (.cells #[.int .i64 k, .int .i64 m, .slice A n c] 72)
  have hblk := blk_new w 72 #[.int .i64 k, .int .i64 m, .slice A n c]
  by_cases h1 : k < 1
  · have g1 : decide (k < 1) = true := decide_eq_true h1
    have hr2 : r = 2 := by rw [hr, if_neg (by unfold Fine; omega)]
    have HB := Lib.hid hb1; have HRR := Lib.hid hr2
    clear hr hb1 hblk hr2
    go_enter Try.func46, Try.ntmps46
    go_wp2_with fail
    go_ret
    exact ⟨by rw [HRR.out]; rfl, HB.out⟩
  have g1 : decide (k < 1) = false := decide_eq_false h1
  by_cases h3 : 3 < k
  · have g2 : decide (3 < k) = true := decide_eq_true h3
    have hr2 : r = 2 := by rw [hr, if_neg (by unfold Fine; omega)]
    have HB := Lib.hid hb1; have HRR := Lib.hid hr2
    clear hr hb1 hblk hr2
    go_enter Try.func46, Try.ntmps46
    go_wp2_with fail
    go_ret
    exact ⟨by rw [HRR.out]; rfl, HB.out⟩
  have g2 : decide (3 < k) = false := decide_eq_false h3
  have c0 := blk_cell hblk 0 _ rfl
  have c1 := blk_cell hblk 1 _ rfl
  have c2 := blk_cell hblk 2 _ rfl
  obtain ⟨w1, hw1⟩ : ∃ z, z = w.alloc (.cells #[.int .i64 k, .int .i64 m, .slice A n c] 72) := ⟨_, rfl⟩
  rw [← hw1] at hb1 hblk c0 c1 c2
  have HB1 := Lib.hid hb1; have HBLK := Lib.hid hblk
  clear hb1 hblk
  have hk : k = 1 ∨ k = 2 ∨ k = 3 := by omega
  clear h1 h3 g1 g2
  rcases hk with rfl | rfl | rfl
  · have hix : ∀ w, (Instr.index 92 (.agg rulesA) (.int .i64 1)).run Try.prog w = .ok (.agg #[.int .i64 511, .int .i64 1000]) w := fun _ => rfl
    have hR1 : w1.heap.size ≠ w.heap.size := by have := blk_lt HBLK.out; omega
    go_enter Try.func46, Try.ntmps46
    go_wp2_with fail
    rw [← hw1]
    clear hw1
    have c0a : (w1.drew.alloc (.cells #[.int .i64 0, .int .i64 0] 91)).cell? ⟨w.heap.size, 0, none⟩ = some (.int .i64 1) := below_cell (box_below w1.drew _) c0
    go_region_held3 (fun W => W.cell? ⟨w.heap.size, 0, none⟩ = some (.int .i64 1))
      (first | exact c0 | exact c0a | exact c0' | exact c0b | exact below_cell (box_below _ _) c0' | exact (cell_far _ _ _ _ (Ne.symm hR1)).trans ((cell_far _ _ _ _ (Ne.symm hR1)).trans c0'))
      (first | (go_at_call 73; refine (rules_any _).mono ?_; rintro e w2 ⟨rfl, hb2⟩; have hT : Blk w2 w1.heap.size 91 #[.int .i64 0, .int .i64 0] := blk_below (blk_new w1.drew 91 #[.int .i64 0, .int .i64 0]) hb2; have e0 := blk_cell hT 0 _ rfl; have e1 := blk_cell hT 1 _ rfl; have x0 := blk_thawed hT 0; have x1 := blk_thawed hT 1; have c0' := below_cell hb2 c0a) | (go_at_call 73; refine (rules_any _).mono ?_; rintro e w2 ⟨rfl, hb2⟩; have c0' := below_cell hb2 c0; have c0b := below_cell (box_below w2 (.cells #[.int .i64 0, .int .i64 0] 91)) c0'))
    all_goals
      first
        | (have hTT : Blk _ w1.heap.size 91 #[.int .i64 511, .int .i64 1000] := blk_set (blk_set hT 0 (.int .i64 511)) 1 (.int .i64 1000); have hBB := blk_ch (blk_ch (blk_below (blk_below (show Blk w1.drew w.heap.size 72 #[.int .i64 1, .int .i64 m, .slice A n c] from HBLK.out) (box_below w1.drew _)) hb2) (Ch.setCell w2 ⟨w1.heap.size, 0, none⟩ (.int .i64 511)) (Ne.symm hR1)) (Ch.setCell _ ⟨w1.heap.size, 1, none⟩ (.int .i64 1000)) (Ne.symm hR1); have hbl : Below w.heap.size w w2 := HB1.out.trans (((((Below.refl w1.heap.size w1).drew).alloc (Nat.le_refl _) _).trans (hb2.mono (by simp))).mono HB1.out.size); have bel := (ch_set (ch_set (Ch.of_below hbl (fun j => j = w1.heap.size)) ⟨w1.heap.size, 0, none⟩ (.int .i64 511) rfl) ⟨w1.heap.size, 1, none⟩ (.int .i64 1000) rfl).below (Nat.le_refl _) (fun j hj => by have := HB1.out.size; omega))
        | (have hTT := blk_new w2 91 #[.int .i64 511, .int .i64 1000]; have hBB := blk_below (blk_below (show Blk w1.drew w.heap.size 72 #[.int .i64 1, .int .i64 m, .slice A n c] from HBLK.out) hb2) (box_below w2 (.cells #[.int .i64 511, .int .i64 1000] 91)); have hbl : Below w.heap.size w w2 := HB1.out.trans ((((Below.refl w1.heap.size w1).drew).trans hb2).mono HB1.out.size); have bel := hbl.alloc hbl.size (.cells #[.int .i64 511, .int .i64 1000] 91))
      have b0 := blk_cell hTT 0 _ rfl
      have b1 := blk_cell hTT 1 _ rfl
      have a1 := blk_cell hBB 1 _ rfl
      have a2 := blk_cell hBB 2 _ rfl
      have BEL := Lib.hid bel
      clear bel hTT hBB
      by_cases h1 : m < 0
      · have g1 : decide (m < 0) = true := decide_eq_true h1
        have HRR := Lib.hid (show r = 2 by rw [hr, if_neg (by unfold Fine; omega)])
        clear hr
        go_wp2_with fail
        go_ret
        exact ⟨by rw [HRR.out]; rfl, BEL.out⟩
      · have g1 : decide (m < 0) = false := decide_eq_false h1
        by_cases h2 : (511 : Int) < m
        · have g2 : decide ((511 : Int) < m) = true := decide_eq_true h2
          have HRR := Lib.hid (show r = 2 by rw [hr, if_neg (by unfold Fine; omega)])
          clear hr
          go_wp2_with fail
          go_ret
          exact ⟨by rw [HRR.out]; rfl, BEL.out⟩
        · have g2 : decide ((511 : Int) < m) = false := decide_eq_false h2
          by_cases h3 : (1000 : Int) < (n : Int)
          · have g3 : decide ((1000 : Int) < (n : Int)) = true := decide_eq_true h3
            have HRR := Lib.hid (show r = 2 by rw [hr, if_neg (by unfold Fine; omega)])
            clear hr
            go_wp2_with fail
            go_ret
            exact ⟨by rw [HRR.out]; rfl, BEL.out⟩
          · have g3 : decide ((1000 : Int) < (n : Int)) = false := decide_eq_false h3
            have HRR := Lib.hid (show r = 0 by rw [hr, if_pos (by unfold Fine; omega)])
            clear hr
            go_wp2_with fail
            go_ret
            exact ⟨by rw [HRR.out]; rfl, BEL.out⟩
  · have hix : ∀ w, (Instr.index 92 (.agg rulesA) (.int .i64 2)).run Try.prog w = .ok (.agg #[.int .i64 511, .int .i64 0]) w := fun _ => rfl
    have hR1 : w1.heap.size ≠ w.heap.size := by have := blk_lt HBLK.out; omega
    go_enter Try.func46, Try.ntmps46
    go_wp2_with fail
    rw [← hw1]
    clear hw1
    have c0a : (w1.drew.alloc (.cells #[.int .i64 0, .int .i64 0] 91)).cell? ⟨w.heap.size, 0, none⟩ = some (.int .i64 2) := below_cell (box_below w1.drew _) c0
    go_region_held3 (fun W => W.cell? ⟨w.heap.size, 0, none⟩ = some (.int .i64 2))
      (first | exact c0 | exact c0a | exact c0' | exact c0b | exact below_cell (box_below _ _) c0' | exact (cell_far _ _ _ _ (Ne.symm hR1)).trans ((cell_far _ _ _ _ (Ne.symm hR1)).trans c0'))
      (first | (go_at_call 73; refine (rules_any _).mono ?_; rintro e w2 ⟨rfl, hb2⟩; have hT : Blk w2 w1.heap.size 91 #[.int .i64 0, .int .i64 0] := blk_below (blk_new w1.drew 91 #[.int .i64 0, .int .i64 0]) hb2; have e0 := blk_cell hT 0 _ rfl; have e1 := blk_cell hT 1 _ rfl; have x0 := blk_thawed hT 0; have x1 := blk_thawed hT 1; have c0' := below_cell hb2 c0a) | (go_at_call 73; refine (rules_any _).mono ?_; rintro e w2 ⟨rfl, hb2⟩; have c0' := below_cell hb2 c0; have c0b := below_cell (box_below w2 (.cells #[.int .i64 0, .int .i64 0] 91)) c0'))
    all_goals
      first
        | (have hTT : Blk _ w1.heap.size 91 #[.int .i64 511, .int .i64 0] := blk_set (blk_set hT 0 (.int .i64 511)) 1 (.int .i64 0); have hBB := blk_ch (blk_ch (blk_below (blk_below (show Blk w1.drew w.heap.size 72 #[.int .i64 2, .int .i64 m, .slice A n c] from HBLK.out) (box_below w1.drew _)) hb2) (Ch.setCell w2 ⟨w1.heap.size, 0, none⟩ (.int .i64 511)) (Ne.symm hR1)) (Ch.setCell _ ⟨w1.heap.size, 1, none⟩ (.int .i64 0)) (Ne.symm hR1); have hbl : Below w.heap.size w w2 := HB1.out.trans (((((Below.refl w1.heap.size w1).drew).alloc (Nat.le_refl _) _).trans (hb2.mono (by simp))).mono HB1.out.size); have bel := (ch_set (ch_set (Ch.of_below hbl (fun j => j = w1.heap.size)) ⟨w1.heap.size, 0, none⟩ (.int .i64 511) rfl) ⟨w1.heap.size, 1, none⟩ (.int .i64 0) rfl).below (Nat.le_refl _) (fun j hj => by have := HB1.out.size; omega))
        | (have hTT := blk_new w2 91 #[.int .i64 511, .int .i64 0]; have hBB := blk_below (blk_below (show Blk w1.drew w.heap.size 72 #[.int .i64 2, .int .i64 m, .slice A n c] from HBLK.out) hb2) (box_below w2 (.cells #[.int .i64 511, .int .i64 0] 91)); have hbl : Below w.heap.size w w2 := HB1.out.trans ((((Below.refl w1.heap.size w1).drew).trans hb2).mono HB1.out.size); have bel := hbl.alloc hbl.size (.cells #[.int .i64 511, .int .i64 0] 91))
      have b0 := blk_cell hTT 0 _ rfl
      have b1 := blk_cell hTT 1 _ rfl
      have a1 := blk_cell hBB 1 _ rfl
      have a2 := blk_cell hBB 2 _ rfl
      have BEL := Lib.hid bel
      clear bel hTT hBB
      by_cases h1 : m < 0
      · have g1 : decide (m < 0) = true := decide_eq_true h1
        have HRR := Lib.hid (show r = 2 by rw [hr, if_neg (by unfold Fine; omega)])
        clear hr
        go_wp2_with fail
        go_ret
        exact ⟨by rw [HRR.out]; rfl, BEL.out⟩
      · have g1 : decide (m < 0) = false := decide_eq_false h1
        by_cases h2 : (511 : Int) < m
        · have g2 : decide ((511 : Int) < m) = true := decide_eq_true h2
          have HRR := Lib.hid (show r = 2 by rw [hr, if_neg (by unfold Fine; omega)])
          clear hr
          go_wp2_with fail
          go_ret
          exact ⟨by rw [HRR.out]; rfl, BEL.out⟩
        · have g2 : decide ((511 : Int) < m) = false := decide_eq_false h2
          by_cases h3 : (0 : Int) < (n : Int)
          · have g3 : decide ((0 : Int) < (n : Int)) = true := decide_eq_true h3
            have HRR := Lib.hid (show r = 2 by rw [hr, if_neg (by unfold Fine; omega)])
            clear hr
            go_wp2_with fail
            go_ret
            exact ⟨by rw [HRR.out]; rfl, BEL.out⟩
          · have g3 : decide ((0 : Int) < (n : Int)) = false := decide_eq_false h3
            have HRR := Lib.hid (show r = 0 by rw [hr, if_pos (by unfold Fine; omega)])
            clear hr
            go_wp2_with fail
            go_ret
            exact ⟨by rw [HRR.out]; rfl, BEL.out⟩
  · have hix : ∀ w, (Instr.index 92 (.agg rulesA) (.int .i64 3)).run Try.prog w = .ok (.agg #[.int .i64 0, .int .i64 0]) w := fun _ => rfl
    have hR1 : w1.heap.size ≠ w.heap.size := by have := blk_lt HBLK.out; omega
    go_enter Try.func46, Try.ntmps46
    go_wp2_with fail
    rw [← hw1]
    clear hw1
    have c0a : (w1.drew.alloc (.cells #[.int .i64 0, .int .i64 0] 91)).cell? ⟨w.heap.size, 0, none⟩ = some (.int .i64 3) := below_cell (box_below w1.drew _) c0
    go_region_held3 (fun W => W.cell? ⟨w.heap.size, 0, none⟩ = some (.int .i64 3))
      (first | exact c0 | exact c0a | exact c0' | exact c0b | exact below_cell (box_below _ _) c0' | exact (cell_far _ _ _ _ (Ne.symm hR1)).trans ((cell_far _ _ _ _ (Ne.symm hR1)).trans c0'))
      (first | (go_at_call 73; refine (rules_any _).mono ?_; rintro e w2 ⟨rfl, hb2⟩; have hT : Blk w2 w1.heap.size 91 #[.int .i64 0, .int .i64 0] := blk_below (blk_new w1.drew 91 #[.int .i64 0, .int .i64 0]) hb2; have e0 := blk_cell hT 0 _ rfl; have e1 := blk_cell hT 1 _ rfl; have x0 := blk_thawed hT 0; have x1 := blk_thawed hT 1; have c0' := below_cell hb2 c0a) | (go_at_call 73; refine (rules_any _).mono ?_; rintro e w2 ⟨rfl, hb2⟩; have c0' := below_cell hb2 c0; have c0b := below_cell (box_below w2 (.cells #[.int .i64 0, .int .i64 0] 91)) c0'))
    all_goals
      first
        | (have hTT : Blk _ w1.heap.size 91 #[.int .i64 0, .int .i64 0] := blk_set (blk_set hT 0 (.int .i64 0)) 1 (.int .i64 0); have hBB := blk_ch (blk_ch (blk_below (blk_below (show Blk w1.drew w.heap.size 72 #[.int .i64 3, .int .i64 m, .slice A n c] from HBLK.out) (box_below w1.drew _)) hb2) (Ch.setCell w2 ⟨w1.heap.size, 0, none⟩ (.int .i64 0)) (Ne.symm hR1)) (Ch.setCell _ ⟨w1.heap.size, 1, none⟩ (.int .i64 0)) (Ne.symm hR1); have hbl : Below w.heap.size w w2 := HB1.out.trans (((((Below.refl w1.heap.size w1).drew).alloc (Nat.le_refl _) _).trans (hb2.mono (by simp))).mono HB1.out.size); have bel := (ch_set (ch_set (Ch.of_below hbl (fun j => j = w1.heap.size)) ⟨w1.heap.size, 0, none⟩ (.int .i64 0) rfl) ⟨w1.heap.size, 1, none⟩ (.int .i64 0) rfl).below (Nat.le_refl _) (fun j hj => by have := HB1.out.size; omega))
        | (have hTT := blk_new w2 91 #[.int .i64 0, .int .i64 0]; have hBB := blk_below (blk_below (show Blk w1.drew w.heap.size 72 #[.int .i64 3, .int .i64 m, .slice A n c] from HBLK.out) hb2) (box_below w2 (.cells #[.int .i64 0, .int .i64 0] 91)); have hbl : Below w.heap.size w w2 := HB1.out.trans ((((Below.refl w1.heap.size w1).drew).trans hb2).mono HB1.out.size); have bel := hbl.alloc hbl.size (.cells #[.int .i64 0, .int .i64 0] 91))
      have b0 := blk_cell hTT 0 _ rfl
      have b1 := blk_cell hTT 1 _ rfl
      have a1 := blk_cell hBB 1 _ rfl
      have a2 := blk_cell hBB 2 _ rfl
      have BEL := Lib.hid bel
      clear bel hTT hBB
      by_cases h1 : m < 0
      · have g1 : decide (m < 0) = true := decide_eq_true h1
        have HRR := Lib.hid (show r = 2 by rw [hr, if_neg (by unfold Fine; omega)])
        clear hr
        go_wp2_with fail
        go_ret
        exact ⟨by rw [HRR.out]; rfl, BEL.out⟩
      · have g1 : decide (m < 0) = false := decide_eq_false h1
        by_cases h2 : (0 : Int) < m
        · have g2 : decide ((0 : Int) < m) = true := decide_eq_true h2
          have HRR := Lib.hid (show r = 2 by rw [hr, if_neg (by unfold Fine; omega)])
          clear hr
          go_wp2_with fail
          go_ret
          exact ⟨by rw [HRR.out]; rfl, BEL.out⟩
        · have g2 : decide ((0 : Int) < m) = false := decide_eq_false h2
          by_cases h3 : (0 : Int) < (n : Int)
          · have g3 : decide ((0 : Int) < (n : Int)) = true := decide_eq_true h3
            have HRR := Lib.hid (show r = 2 by rw [hr, if_neg (by unfold Fine; omega)])
            clear hr
            go_wp2_with fail
            go_ret
            exact ⟨by rw [HRR.out]; rfl, BEL.out⟩
          · have g3 : decide ((0 : Int) < (n : Int)) = false := decide_eq_false h3
            have HRR := Lib.hid (show r = 0 by rw [hr, if_pos (by unfold Fine; omega)])
            clear hr
            go_wp2_with fail
            go_ret
            exact ⟨by rw [HRR.out]; rfl, BEL.out⟩
end Go.Proofs.Ytondodhpmghogaa
