/- Walks: which messages may be (Check, the program's and the reference's), a message's bytes. Conditions: none beyond a slice's length. -/
import Derived.Test.YtncahekankbalaaF3
namespace Go.Proofs.Ytncahekankbalaa
open Go.RowKit
set_option linter.unusedVariables false
set_option linter.unusedSimpArgs false

/-- may a message be -/
def MFine (k i s a : Int) (m : Nat) : Prop := (1 ≤ i ∧ i ≤ 1099511627776) ∧ ((k = 1 ∧ 1 ≤ s ∧ s ≤ 60000 ∧ 0 ≤ a ∧ a < s ∧ 1 ≤ m ∧ m ≤ 200 ∧ (m : Int) ≤ s - a) ∨ ((k = 2 ∨ k = 3) ∧ s = 0 ∧ a = 0 ∧ m = 0))
instance (k i s a : Int) (m : Nat) : Decidable (MFine k i s a m) := by unfold MFine; infer_instance
def chkM (k i s a : Int) (m : Nat) : Int := if MFine k i s a m then 0 else 2
theorem chkM_fine {k i s a : Int} {m : Nat} (h : chkM k i s a m = 0) : MFine k i s a m := by
  unfold chkM at h
  split at h
  · assumption
  · simp at h
theorem chkM_two {k i s a : Int} {m : Nat} (h : chkM k i s a m ≠ 0) : chkM k i s a m = 2 := by
  unfold chkM at h ⊢
  split at h
  · exact absurd rfl h
  · rename_i h1; rw [if_neg h1]
set_option maxRecDepth 100000 in
set_option maxHeartbeats 16000000 in
theorem mcheck_any (k i s a : Int) (A : Option Addr) (m c : Nat) (w : World) (hm : m ≤ 9223372036854775807) : Calls Try.prog 28 #[.agg #[.int .i64 k, .int .i64 i, .int .i64 s, .int .i64 a, .slice A m c]] w fun e w' => e = .returned (.int .i64 (chkM k i s a m)) ∧ Below w.heap.size w w' := by
  obtain ⟨r, hr⟩ : ∃ r, r = chkM k i s a m := ⟨_, rfl⟩
  rw [← hr]
  unfold chkM at hr
  by_cases c0 : k = 1
  · have g0_0 : (k == 1) = true := by simpa using c0
    by_cases c1 : 1 ≤ i
    · have g1_0 : decide (1 ≤ i) = true := decide_eq_true (by omega)
      by_cases c2 : i ≤ (1099511627776 : Int)
      · have g2_0 : decide (i ≤ (1099511627776 : Int)) = true := decide_eq_true (by omega)
        by_cases c3 : 1 ≤ s
        · have g3_0 : decide (1 ≤ s) = true := decide_eq_true (by omega)
          by_cases c4 : s ≤ (60000 : Int)
          · have g4_0 : decide (s ≤ (60000 : Int)) = true := decide_eq_true (by omega)
            by_cases c5 : (0 : Int) ≤ a
            · have g5_0 : decide ((0 : Int) ≤ a) = true := decide_eq_true (by omega)
              by_cases c6 : a < s
              · have g6_0 : decide (a < s) = true := decide_eq_true (by omega)
                by_cases c7 : (1 : Int) ≤ (m : Int)
                · have g7_0 : decide ((1 : Int) ≤ (m : Int)) = true := decide_eq_true (by omega)
                  by_cases c8 : (m : Int) ≤ min 200 (s - a)
                  · have g8_0 : decide ((m : Int) ≤ min 200 (wrap64 (s - a))) = true := decide_eq_true (by unfold wrap64; omega)
                    have HRR := Lib.hid (show r = 0 by rw [hr]; first | rw [if_pos (by unfold MFine; omega)] | rw [if_neg (by unfold MFine; omega)])
                    clear hr c0 c1 c2 c3 c4 c5 c6 c7 c8
                    go_enter Try.func28, Try.ntmps28
                    go_wp2_with fail
                    go_ret
                    exact ⟨by rw [HRR.out]; rfl, box_below w _⟩
                  · have g8_0 : decide ((m : Int) ≤ min 200 (wrap64 (s - a))) = false := decide_eq_false (by unfold wrap64; omega)
                    have HRR := Lib.hid (show r = 2 by rw [hr]; first | rw [if_pos (by unfold MFine; omega)] | rw [if_neg (by unfold MFine; omega)])
                    clear hr c0 c1 c2 c3 c4 c5 c6 c7 c8
                    go_enter Try.func28, Try.ntmps28
                    go_wp2_with fail
                    go_ret
                    exact ⟨by rw [HRR.out]; rfl, box_below w _⟩
                · have g7_0 : decide ((1 : Int) ≤ (m : Int)) = false := decide_eq_false (by omega)
                  have HRR := Lib.hid (show r = 2 by rw [hr]; first | rw [if_pos (by unfold MFine; omega)] | rw [if_neg (by unfold MFine; omega)])
                  clear hr c0 c1 c2 c3 c4 c5 c6 c7
                  go_enter Try.func28, Try.ntmps28
                  go_wp2_with fail
                  go_ret
                  exact ⟨by rw [HRR.out]; rfl, box_below w _⟩
              · have g6_0 : decide (a < s) = false := decide_eq_false (by omega)
                have HRR := Lib.hid (show r = 2 by rw [hr]; first | rw [if_pos (by unfold MFine; omega)] | rw [if_neg (by unfold MFine; omega)])
                clear hr c0 c1 c2 c3 c4 c5 c6
                go_enter Try.func28, Try.ntmps28
                go_wp2_with fail
                go_ret
                exact ⟨by rw [HRR.out]; rfl, box_below w _⟩
            · have g5_0 : decide ((0 : Int) ≤ a) = false := decide_eq_false (by omega)
              have HRR := Lib.hid (show r = 2 by rw [hr]; first | rw [if_pos (by unfold MFine; omega)] | rw [if_neg (by unfold MFine; omega)])
              clear hr c0 c1 c2 c3 c4 c5
              go_enter Try.func28, Try.ntmps28
              go_wp2_with fail
              go_ret
              exact ⟨by rw [HRR.out]; rfl, box_below w _⟩
          · have g4_0 : decide (s ≤ (60000 : Int)) = false := decide_eq_false (by omega)
            have HRR := Lib.hid (show r = 2 by rw [hr]; first | rw [if_pos (by unfold MFine; omega)] | rw [if_neg (by unfold MFine; omega)])
            clear hr c0 c1 c2 c3 c4
            go_enter Try.func28, Try.ntmps28
            go_wp2_with fail
            go_ret
            exact ⟨by rw [HRR.out]; rfl, box_below w _⟩
        · have g3_0 : decide (1 ≤ s) = false := decide_eq_false (by omega)
          have HRR := Lib.hid (show r = 2 by rw [hr]; first | rw [if_pos (by unfold MFine; omega)] | rw [if_neg (by unfold MFine; omega)])
          clear hr c0 c1 c2 c3
          go_enter Try.func28, Try.ntmps28
          go_wp2_with fail
          go_ret
          exact ⟨by rw [HRR.out]; rfl, box_below w _⟩
      · have g2_0 : decide (i ≤ (1099511627776 : Int)) = false := decide_eq_false (by omega)
        have HRR := Lib.hid (show r = 2 by rw [hr]; first | rw [if_pos (by unfold MFine; omega)] | rw [if_neg (by unfold MFine; omega)])
        clear hr c0 c1 c2
        go_enter Try.func28, Try.ntmps28
        go_wp2_with fail
        go_ret
        exact ⟨by rw [HRR.out]; rfl, box_below w _⟩
    · have g1_0 : decide (1 ≤ i) = false := decide_eq_false (by omega)
      have HRR := Lib.hid (show r = 2 by rw [hr]; first | rw [if_pos (by unfold MFine; omega)] | rw [if_neg (by unfold MFine; omega)])
      clear hr c0 c1
      go_enter Try.func28, Try.ntmps28
      go_wp2_with fail
      go_ret
      exact ⟨by rw [HRR.out]; rfl, box_below w _⟩
  · have g0_0 : (k == 1) = false := by simpa using c0
    by_cases c1 : k = 2
    · have g1_0 : (k == 2) = true := by simpa using c1
      by_cases c2 : 1 ≤ i
      · have g2_0 : decide (1 ≤ i) = true := decide_eq_true (by omega)
        by_cases c3 : i ≤ (1099511627776 : Int)
        · have g3_0 : decide (i ≤ (1099511627776 : Int)) = true := decide_eq_true (by omega)
          by_cases c4 : s = 0
          · have g4_0 : (s == 0) = true := by simpa using c4
            by_cases c5 : a = 0
            · have g5_0 : (a == 0) = true := by simpa using c5
              by_cases c6 : (m : Int) = 0
              · have g6_0 : ((m : Int) == 0) = true := by simpa using c6
                have HRR := Lib.hid (show r = 0 by rw [hr]; first | rw [if_pos (by unfold MFine; omega)] | rw [if_neg (by unfold MFine; omega)])
                clear hr c0 c1 c2 c3 c4 c5 c6
                go_enter Try.func28, Try.ntmps28
                go_wp2_with fail
                go_ret
                exact ⟨by rw [HRR.out]; rfl, box_below w _⟩
              · have g6_0 : ((m : Int) == 0) = false := by simpa using c6
                have HRR := Lib.hid (show r = 2 by rw [hr]; first | rw [if_pos (by unfold MFine; omega)] | rw [if_neg (by unfold MFine; omega)])
                clear hr c0 c1 c2 c3 c4 c5 c6
                go_enter Try.func28, Try.ntmps28
                go_wp2_with fail
                go_ret
                exact ⟨by rw [HRR.out]; rfl, box_below w _⟩
            · have g5_0 : (a == 0) = false := by simpa using c5
              have HRR := Lib.hid (show r = 2 by rw [hr]; first | rw [if_pos (by unfold MFine; omega)] | rw [if_neg (by unfold MFine; omega)])
              clear hr c0 c1 c2 c3 c4 c5
              go_enter Try.func28, Try.ntmps28
              go_wp2_with fail
              go_ret
              exact ⟨by rw [HRR.out]; rfl, box_below w _⟩
          · have g4_0 : (s == 0) = false := by simpa using c4
            have HRR := Lib.hid (show r = 2 by rw [hr]; first | rw [if_pos (by unfold MFine; omega)] | rw [if_neg (by unfold MFine; omega)])
            clear hr c0 c1 c2 c3 c4
            go_enter Try.func28, Try.ntmps28
            go_wp2_with fail
            go_ret
            exact ⟨by rw [HRR.out]; rfl, box_below w _⟩
        · have g3_0 : decide (i ≤ (1099511627776 : Int)) = false := decide_eq_false (by omega)
          have HRR := Lib.hid (show r = 2 by rw [hr]; first | rw [if_pos (by unfold MFine; omega)] | rw [if_neg (by unfold MFine; omega)])
          clear hr c0 c1 c2 c3
          go_enter Try.func28, Try.ntmps28
          go_wp2_with fail
          go_ret
          exact ⟨by rw [HRR.out]; rfl, box_below w _⟩
      · have g2_0 : decide (1 ≤ i) = false := decide_eq_false (by omega)
        have HRR := Lib.hid (show r = 2 by rw [hr]; first | rw [if_pos (by unfold MFine; omega)] | rw [if_neg (by unfold MFine; omega)])
        clear hr c0 c1 c2
        go_enter Try.func28, Try.ntmps28
        go_wp2_with fail
        go_ret
        exact ⟨by rw [HRR.out]; rfl, box_below w _⟩
    · have g1_0 : (k == 2) = false := by simpa using c1
      by_cases c2 : k = 3
      · have g2_0 : (k == 3) = true := by simpa using c2
        by_cases c3 : 1 ≤ i
        · have g3_0 : decide (1 ≤ i) = true := decide_eq_true (by omega)
          by_cases c4 : i ≤ (1099511627776 : Int)
          · have g4_0 : decide (i ≤ (1099511627776 : Int)) = true := decide_eq_true (by omega)
            by_cases c5 : s = 0
            · have g5_0 : (s == 0) = true := by simpa using c5
              by_cases c6 : a = 0
              · have g6_0 : (a == 0) = true := by simpa using c6
                by_cases c7 : (m : Int) = 0
                · have g7_0 : ((m : Int) == 0) = true := by simpa using c7
                  have HRR := Lib.hid (show r = 0 by rw [hr]; first | rw [if_pos (by unfold MFine; omega)] | rw [if_neg (by unfold MFine; omega)])
                  clear hr c0 c1 c2 c3 c4 c5 c6 c7
                  go_enter Try.func28, Try.ntmps28
                  go_wp2_with fail
                  go_ret
                  exact ⟨by rw [HRR.out]; rfl, box_below w _⟩
                · have g7_0 : ((m : Int) == 0) = false := by simpa using c7
                  have HRR := Lib.hid (show r = 2 by rw [hr]; first | rw [if_pos (by unfold MFine; omega)] | rw [if_neg (by unfold MFine; omega)])
                  clear hr c0 c1 c2 c3 c4 c5 c6 c7
                  go_enter Try.func28, Try.ntmps28
                  go_wp2_with fail
                  go_ret
                  exact ⟨by rw [HRR.out]; rfl, box_below w _⟩
              · have g6_0 : (a == 0) = false := by simpa using c6
                have HRR := Lib.hid (show r = 2 by rw [hr]; first | rw [if_pos (by unfold MFine; omega)] | rw [if_neg (by unfold MFine; omega)])
                clear hr c0 c1 c2 c3 c4 c5 c6
                go_enter Try.func28, Try.ntmps28
                go_wp2_with fail
                go_ret
                exact ⟨by rw [HRR.out]; rfl, box_below w _⟩
            · have g5_0 : (s == 0) = false := by simpa using c5
              have HRR := Lib.hid (show r = 2 by rw [hr]; first | rw [if_pos (by unfold MFine; omega)] | rw [if_neg (by unfold MFine; omega)])
              clear hr c0 c1 c2 c3 c4 c5
              go_enter Try.func28, Try.ntmps28
              go_wp2_with fail
              go_ret
              exact ⟨by rw [HRR.out]; rfl, box_below w _⟩
          · have g4_0 : decide (i ≤ (1099511627776 : Int)) = false := decide_eq_false (by omega)
            have HRR := Lib.hid (show r = 2 by rw [hr]; first | rw [if_pos (by unfold MFine; omega)] | rw [if_neg (by unfold MFine; omega)])
            clear hr c0 c1 c2 c3 c4
            go_enter Try.func28, Try.ntmps28
            go_wp2_with fail
            go_ret
            exact ⟨by rw [HRR.out]; rfl, box_below w _⟩
        · have g3_0 : decide (1 ≤ i) = false := decide_eq_false (by omega)
          have HRR := Lib.hid (show r = 2 by rw [hr]; first | rw [if_pos (by unfold MFine; omega)] | rw [if_neg (by unfold MFine; omega)])
          clear hr c0 c1 c2 c3
          go_enter Try.func28, Try.ntmps28
          go_wp2_with fail
          go_ret
          exact ⟨by rw [HRR.out]; rfl, box_below w _⟩
      · have g2_0 : (k == 3) = false := by simpa using c2
        by_cases c3 : 1 ≤ i
        · have g3_0 : decide (1 ≤ i) = true := decide_eq_true (by omega)
          by_cases c4 : i ≤ (1099511627776 : Int)
          · have g4_0 : decide (i ≤ (1099511627776 : Int)) = true := decide_eq_true (by omega)
            have HRR := Lib.hid (show r = 2 by rw [hr]; first | rw [if_pos (by unfold MFine; omega)] | rw [if_neg (by unfold MFine; omega)])
            clear hr c0 c1 c2 c3 c4
            go_enter Try.func28, Try.ntmps28
            go_wp2_with fail
            go_ret
            exact ⟨by rw [HRR.out]; rfl, box_below w _⟩
          · have g4_0 : decide (i ≤ (1099511627776 : Int)) = false := decide_eq_false (by omega)
            have HRR := Lib.hid (show r = 2 by rw [hr]; first | rw [if_pos (by unfold MFine; omega)] | rw [if_neg (by unfold MFine; omega)])
            clear hr c0 c1 c2 c3 c4
            go_enter Try.func28, Try.ntmps28
            go_wp2_with fail
            go_ret
            exact ⟨by rw [HRR.out]; rfl, box_below w _⟩
        · have g3_0 : decide (1 ≤ i) = false := decide_eq_false (by omega)
          have HRR := Lib.hid (show r = 2 by rw [hr]; first | rw [if_pos (by unfold MFine; omega)] | rw [if_neg (by unfold MFine; omega)])
          clear hr c0 c1 c2 c3
          go_enter Try.func28, Try.ntmps28
          go_wp2_with fail
          go_ret
          exact ⟨by rw [HRR.out]; rfl, box_below w _⟩
set_option maxRecDepth 100000 in
set_option maxHeartbeats 16000000 in
theorem rmcheck_any (k i s a : Int) (A : Option Addr) (m c : Nat) (w : World) (hm : m ≤ 9223372036854775807) : Calls Try.prog 29 #[.agg #[.int .i64 k, .int .i64 i, .int .i64 s, .int .i64 a, .slice A m c]] w fun e w' => e = .returned (.int .i64 (chkM k i s a m)) ∧ Below w.heap.size w w' := by
  obtain ⟨r, hr⟩ : ∃ r, r = chkM k i s a m := ⟨_, rfl⟩
  rw [← hr]
  unfold chkM at hr
  by_cases c0 : i < 1
  · have g0_0 : decide (i < 1) = true := decide_eq_true (by omega)
    have HRR := Lib.hid (show r = 2 by rw [hr]; first | rw [if_pos (by unfold MFine; omega)] | rw [if_neg (by unfold MFine; omega)])
    clear hr c0
    go_enter Try.func29, Try.ntmps29
    go_wp2_with fail
    go_ret
    exact ⟨by rw [HRR.out]; rfl, box_below w _⟩
  · have g0_0 : decide (i < 1) = false := decide_eq_false (by omega)
    by_cases c1 : (1099511627776 : Int) < i
    · have g1_0 : decide ((1099511627776 : Int) < i) = true := decide_eq_true (by omega)
      have HRR := Lib.hid (show r = 2 by rw [hr]; first | rw [if_pos (by unfold MFine; omega)] | rw [if_neg (by unfold MFine; omega)])
      clear hr c0 c1
      go_enter Try.func29, Try.ntmps29
      go_wp2_with fail
      go_ret
      exact ⟨by rw [HRR.out]; rfl, box_below w _⟩
    · have g1_0 : decide ((1099511627776 : Int) < i) = false := decide_eq_false (by omega)
      by_cases c2 : k = 2
      · have g2_0 : (k == 2) = true := by simpa using c2
        by_cases c3 : s ≠ 0
        · have g3_0 : (s != 0) = true := by simpa using c3
          have HRR := Lib.hid (show r = 2 by rw [hr]; first | rw [if_pos (by unfold MFine; omega)] | rw [if_neg (by unfold MFine; omega)])
          clear hr c0 c1 c2 c3
          go_enter Try.func29, Try.ntmps29
          go_wp2_with fail
          go_ret
          exact ⟨by rw [HRR.out]; rfl, box_below w _⟩
        · have g3_0 : (s != 0) = false := by simpa using c3
          by_cases c4 : a ≠ 0
          · have g4_0 : (a != 0) = true := by simpa using c4
            have HRR := Lib.hid (show r = 2 by rw [hr]; first | rw [if_pos (by unfold MFine; omega)] | rw [if_neg (by unfold MFine; omega)])
            clear hr c0 c1 c2 c3 c4
            go_enter Try.func29, Try.ntmps29
            go_wp2_with fail
            go_ret
            exact ⟨by rw [HRR.out]; rfl, box_below w _⟩
          · have g4_0 : (a != 0) = false := by simpa using c4
            by_cases c5 : (0 : Int) < (m : Int)
            · have g5_0 : decide (0 < m) = true := decide_eq_true (by omega)
              have HRR := Lib.hid (show r = 2 by rw [hr]; first | rw [if_pos (by unfold MFine; omega)] | rw [if_neg (by unfold MFine; omega)])
              clear hr c0 c1 c2 c3 c4 c5
              go_enter Try.func29, Try.ntmps29
              go_wp2_with fail
              go_ret
              exact ⟨by rw [HRR.out]; rfl, box_below w _⟩
            · have g5_0 : decide (0 < m) = false := decide_eq_false (by omega)
              have HRR := Lib.hid (show r = 0 by rw [hr]; first | rw [if_pos (by unfold MFine; omega)] | rw [if_neg (by unfold MFine; omega)])
              clear hr c0 c1 c2 c3 c4 c5
              go_enter Try.func29, Try.ntmps29
              go_wp2_with fail
              go_ret
              exact ⟨by rw [HRR.out]; rfl, box_below w _⟩
      · have g2_0 : (k == 2) = false := by simpa using c2
        by_cases c3 : k = 3
        · have g3_0 : (k == 3) = true := by simpa using c3
          by_cases c4 : s ≠ 0
          · have g4_0 : (s != 0) = true := by simpa using c4
            have HRR := Lib.hid (show r = 2 by rw [hr]; first | rw [if_pos (by unfold MFine; omega)] | rw [if_neg (by unfold MFine; omega)])
            clear hr c0 c1 c2 c3 c4
            go_enter Try.func29, Try.ntmps29
            go_wp2_with fail
            go_ret
            exact ⟨by rw [HRR.out]; rfl, box_below w _⟩
          · have g4_0 : (s != 0) = false := by simpa using c4
            by_cases c5 : a ≠ 0
            · have g5_0 : (a != 0) = true := by simpa using c5
              have HRR := Lib.hid (show r = 2 by rw [hr]; first | rw [if_pos (by unfold MFine; omega)] | rw [if_neg (by unfold MFine; omega)])
              clear hr c0 c1 c2 c3 c4 c5
              go_enter Try.func29, Try.ntmps29
              go_wp2_with fail
              go_ret
              exact ⟨by rw [HRR.out]; rfl, box_below w _⟩
            · have g5_0 : (a != 0) = false := by simpa using c5
              by_cases c6 : (0 : Int) < (m : Int)
              · have g6_0 : decide (0 < m) = true := decide_eq_true (by omega)
                have HRR := Lib.hid (show r = 2 by rw [hr]; first | rw [if_pos (by unfold MFine; omega)] | rw [if_neg (by unfold MFine; omega)])
                clear hr c0 c1 c2 c3 c4 c5 c6
                go_enter Try.func29, Try.ntmps29
                go_wp2_with fail
                go_ret
                exact ⟨by rw [HRR.out]; rfl, box_below w _⟩
              · have g6_0 : decide (0 < m) = false := decide_eq_false (by omega)
                have HRR := Lib.hid (show r = 0 by rw [hr]; first | rw [if_pos (by unfold MFine; omega)] | rw [if_neg (by unfold MFine; omega)])
                clear hr c0 c1 c2 c3 c4 c5 c6
                go_enter Try.func29, Try.ntmps29
                go_wp2_with fail
                go_ret
                exact ⟨by rw [HRR.out]; rfl, box_below w _⟩
        · have g3_0 : (k == 3) = false := by simpa using c3
          by_cases c4 : k ≠ 1
          · have g4_0 : (k != 1) = true := by simpa using c4
            have HRR := Lib.hid (show r = 2 by rw [hr]; first | rw [if_pos (by unfold MFine; omega)] | rw [if_neg (by unfold MFine; omega)])
            clear hr c0 c1 c2 c3 c4
            go_enter Try.func29, Try.ntmps29
            go_wp2_with fail
            go_ret
            exact ⟨by rw [HRR.out]; rfl, box_below w _⟩
          · have g4_0 : (k != 1) = false := by simpa using c4
            by_cases c5 : s < 1
            · have g5_0 : decide (s < 1) = true := decide_eq_true (by omega)
              have HRR := Lib.hid (show r = 2 by rw [hr]; first | rw [if_pos (by unfold MFine; omega)] | rw [if_neg (by unfold MFine; omega)])
              clear hr c0 c1 c2 c3 c4 c5
              go_enter Try.func29, Try.ntmps29
              go_wp2_with fail
              go_ret
              exact ⟨by rw [HRR.out]; rfl, box_below w _⟩
            · have g5_0 : decide (s < 1) = false := decide_eq_false (by omega)
              by_cases c6 : (60000 : Int) < s
              · have g6_0 : decide ((60000 : Int) < s) = true := decide_eq_true (by omega)
                have HRR := Lib.hid (show r = 2 by rw [hr]; first | rw [if_pos (by unfold MFine; omega)] | rw [if_neg (by unfold MFine; omega)])
                clear hr c0 c1 c2 c3 c4 c5 c6
                go_enter Try.func29, Try.ntmps29
                go_wp2_with fail
                go_ret
                exact ⟨by rw [HRR.out]; rfl, box_below w _⟩
              · have g6_0 : decide ((60000 : Int) < s) = false := decide_eq_false (by omega)
                by_cases c7 : a < 0
                · have g7_0 : decide (a < 0) = true := decide_eq_true (by omega)
                  have HRR := Lib.hid (show r = 2 by rw [hr]; first | rw [if_pos (by unfold MFine; omega)] | rw [if_neg (by unfold MFine; omega)])
                  clear hr c0 c1 c2 c3 c4 c5 c6 c7
                  go_enter Try.func29, Try.ntmps29
                  go_wp2_with fail
                  go_ret
                  exact ⟨by rw [HRR.out]; rfl, box_below w _⟩
                · have g7_0 : decide (a < 0) = false := decide_eq_false (by omega)
                  by_cases c8 : s ≤ a
                  · have g8_0 : decide (s ≤ a) = true := decide_eq_true (by omega)
                    have HRR := Lib.hid (show r = 2 by rw [hr]; first | rw [if_pos (by unfold MFine; omega)] | rw [if_neg (by unfold MFine; omega)])
                    clear hr c0 c1 c2 c3 c4 c5 c6 c7 c8
                    go_enter Try.func29, Try.ntmps29
                    go_wp2_with fail
                    go_ret
                    exact ⟨by rw [HRR.out]; rfl, box_below w _⟩
                  · have g8_0 : decide (s ≤ a) = false := decide_eq_false (by omega)
                    by_cases c9 : (m : Int) < 1
                    · have g9_0 : decide ((m : Int) < 1) = true := decide_eq_true (by omega)
                      have HRR := Lib.hid (show r = 2 by rw [hr]; first | rw [if_pos (by unfold MFine; omega)] | rw [if_neg (by unfold MFine; omega)])
                      clear hr c0 c1 c2 c3 c4 c5 c6 c7 c8 c9
                      go_enter Try.func29, Try.ntmps29
                      go_wp2_with fail
                      go_ret
                      exact ⟨by rw [HRR.out]; rfl, box_below w _⟩
                    · have g9_0 : decide ((m : Int) < 1) = false := decide_eq_false (by omega)
                      by_cases c10 : (200 : Int) < (m : Int)
                      · have g10_0 : decide ((200 : Int) < (m : Int)) = true := decide_eq_true (by omega)
                        have HRR := Lib.hid (show r = 2 by rw [hr]; first | rw [if_pos (by unfold MFine; omega)] | rw [if_neg (by unfold MFine; omega)])
                        clear hr c0 c1 c2 c3 c4 c5 c6 c7 c8 c9 c10
                        go_enter Try.func29, Try.ntmps29
                        go_wp2_with fail
                        go_ret
                        exact ⟨by rw [HRR.out]; rfl, box_below w _⟩
                      · have g10_0 : decide ((200 : Int) < (m : Int)) = false := decide_eq_false (by omega)
                        by_cases c11 : s - a < (m : Int)
                        · have g11_0 : decide (wrap64 (s - a) < (m : Int)) = true := decide_eq_true (by unfold wrap64; omega)
                          have HRR := Lib.hid (show r = 2 by rw [hr]; first | rw [if_pos (by unfold MFine; omega)] | rw [if_neg (by unfold MFine; omega)])
                          clear hr c0 c1 c2 c3 c4 c5 c6 c7 c8 c9 c10 c11
                          go_enter Try.func29, Try.ntmps29
                          go_wp2_with fail
                          go_ret
                          exact ⟨by rw [HRR.out]; rfl, box_below w _⟩
                        · have g11_0 : decide (wrap64 (s - a) < (m : Int)) = false := decide_eq_false (by unfold wrap64; omega)
                          have HRR := Lib.hid (show r = 0 by rw [hr]; first | rw [if_pos (by unfold MFine; omega)] | rw [if_neg (by unfold MFine; omega)])
                          clear hr c0 c1 c2 c3 c4 c5 c6 c7 c8 c9 c10 c11
                          go_enter Try.func29, Try.ntmps29
                          go_wp2_with fail
                          go_ret
                          exact ⟨by rw [HRR.out]; rfl, box_below w _⟩
end Go.Proofs.Ytncahekankbalaa
