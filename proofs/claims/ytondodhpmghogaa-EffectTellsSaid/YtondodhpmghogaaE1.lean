/- Walks: which effects may be: the rules, both Checks, Size. Conditions: none beyond a slice's length. -/
import Derived.Test.YtondodhpmghogaaL1
import Derived.Deep.RegionHeld3
namespace Go.Proofs.Ytondodhpmghogaa
open Go.RowKit
set_option linter.unusedVariables false
set_option linter.unusedSimpArgs false

def rulesA : Array Value := #[.int .i64 0, .int .i64 0, .int .i64 511, .int .i64 1000, .int .i64 511, .int .i64 0, .int .i64 0, .int .i64 0]
set_option maxRecDepth 100000 in
set_option maxHeartbeats 1000000 in
theorem rules_any (w : World) : Calls Try.prog 73 #[] w fun e w' => e = .returned (.agg rulesA) ∧ Below w.heap.size w w' := by
  go_enter Try.func73, Try.ntmps73
  go_wp2
  exact bodyPost_ret (results_cell_row rfl _ _ w.heap.size 92 _ (0, 0) _ rfl (heap_alloc_new w _) Try.underlying92 rfl (by kernel_rfl)) rfl ⟨rfl, box_below w _⟩
/-- may an effect of kind k, mode m, n bytes be? -/
def Fine (k m : Int) (n : Nat) : Prop := (k = 1 ∧ 0 ≤ m ∧ m ≤ 511 ∧ n ≤ 1000) ∨ (k = 2 ∧ 0 ≤ m ∧ m ≤ 511 ∧ n = 0) ∨ (k = 3 ∧ m = 0 ∧ n = 0)
instance (k m : Int) (n : Nat) : Decidable (Fine k m n) := by unfold Fine; infer_instance
def chk (k m : Int) (n : Nat) : Int := if Fine k m n then 0 else 2
set_option maxRecDepth 100000 in
set_option maxHeartbeats 4000000 in
theorem rcheck_any (k m : Int) (A : Option Addr) (n c : Nat) (w : World) : Calls Try.prog 47 #[.agg #[.int .i64 k, .int .i64 m, .slice A n c]] w fun e w' => e = .returned (.int .i64 (chk k m n)) ∧ Below w.heap.size w w' := by
  obtain ⟨r, hr⟩ : ∃ r, r = chk k m n := ⟨_, rfl⟩
  rw [← hr]
  unfold chk at hr
  have HB := Lib.hid (box_below w (.cells #[.int .i64 k, .int .i64 m, .slice A n c] 72))
  by_cases c0 : k = 1
  · have gc0 : (k == 1) = true := by simpa using c0
    by_cases c3 : (0 : Int) ≤ m
    · have gc3 : decide ((0 : Int) ≤ m) = true := decide_eq_true c3
      by_cases c4 : m ≤ 511
      · have gc4 : decide (m ≤ 511) = true := decide_eq_true c4
        by_cases c5 : (n : Int) ≤ 1000
        · have gc5 : decide ((n : Int) ≤ 1000) = true := decide_eq_true c5
          have HRR := Lib.hid (show r = 0 by rw [hr]; first | rw [if_pos (by unfold Fine; omega)] | rw [if_neg (by unfold Fine; omega)])
          clear hr
          go_enter Try.func47, Try.ntmps47
          go_wp2_with fail
          go_ret
          exact ⟨by rw [HRR.out]; rfl, box_below _ _⟩
        · have gc5 : decide ((n : Int) ≤ 1000) = false := decide_eq_false c5
          have HRR := Lib.hid (show r = 2 by rw [hr]; first | rw [if_pos (by unfold Fine; omega)] | rw [if_neg (by unfold Fine; omega)])
          clear hr
          go_enter Try.func47, Try.ntmps47
          go_wp2_with fail
          go_ret
          exact ⟨by rw [HRR.out]; rfl, box_below _ _⟩
      · have gc4 : decide (m ≤ 511) = false := decide_eq_false c4
        have HRR := Lib.hid (show r = 2 by rw [hr]; first | rw [if_pos (by unfold Fine; omega)] | rw [if_neg (by unfold Fine; omega)])
        clear hr
        go_enter Try.func47, Try.ntmps47
        go_wp2_with fail
        go_ret
        exact ⟨by rw [HRR.out]; rfl, box_below _ _⟩
    · have gc3 : decide ((0 : Int) ≤ m) = false := decide_eq_false c3
      have HRR := Lib.hid (show r = 2 by rw [hr]; first | rw [if_pos (by unfold Fine; omega)] | rw [if_neg (by unfold Fine; omega)])
      clear hr
      go_enter Try.func47, Try.ntmps47
      go_wp2_with fail
      go_ret
      exact ⟨by rw [HRR.out]; rfl, box_below _ _⟩
  · have gc0 : (k == 1) = false := by simpa using c0
    by_cases c1 : k = 2
    · have gc1 : (k == 2) = true := by simpa using c1
      by_cases c3 : (0 : Int) ≤ m
      · have gc3 : decide ((0 : Int) ≤ m) = true := decide_eq_true c3
        by_cases c4 : m ≤ 511
        · have gc4 : decide (m ≤ 511) = true := decide_eq_true c4
          by_cases c6 : (n : Int) = 0
          · have gc6 : ((n : Int) == 0) = true := by simpa using c6
            have HRR := Lib.hid (show r = 0 by rw [hr]; first | rw [if_pos (by unfold Fine; omega)] | rw [if_neg (by unfold Fine; omega)])
            clear hr
            go_enter Try.func47, Try.ntmps47
            go_wp2_with fail
            go_ret
            exact ⟨by rw [HRR.out]; rfl, box_below _ _⟩
          · have gc6 : ((n : Int) == 0) = false := by simpa using c6
            have HRR := Lib.hid (show r = 2 by rw [hr]; first | rw [if_pos (by unfold Fine; omega)] | rw [if_neg (by unfold Fine; omega)])
            clear hr
            go_enter Try.func47, Try.ntmps47
            go_wp2_with fail
            go_ret
            exact ⟨by rw [HRR.out]; rfl, box_below _ _⟩
        · have gc4 : decide (m ≤ 511) = false := decide_eq_false c4
          have HRR := Lib.hid (show r = 2 by rw [hr]; first | rw [if_pos (by unfold Fine; omega)] | rw [if_neg (by unfold Fine; omega)])
          clear hr
          go_enter Try.func47, Try.ntmps47
          go_wp2_with fail
          go_ret
          exact ⟨by rw [HRR.out]; rfl, box_below _ _⟩
      · have gc3 : decide ((0 : Int) ≤ m) = false := decide_eq_false c3
        have HRR := Lib.hid (show r = 2 by rw [hr]; first | rw [if_pos (by unfold Fine; omega)] | rw [if_neg (by unfold Fine; omega)])
        clear hr
        go_enter Try.func47, Try.ntmps47
        go_wp2_with fail
        go_ret
        exact ⟨by rw [HRR.out]; rfl, box_below _ _⟩
    · have gc1 : (k == 2) = false := by simpa using c1
      by_cases c2 : k = 3
      · have gc2 : (k == 3) = true := by simpa using c2
        by_cases c7 : m = 0
        · have gc7 : (m == 0) = true := by simpa using c7
          by_cases c8 : (n : Int) = 0
          · have gc8 : ((n : Int) == 0) = true := by simpa using c8
            have HRR := Lib.hid (show r = 0 by rw [hr]; first | rw [if_pos (by unfold Fine; omega)] | rw [if_neg (by unfold Fine; omega)])
            clear hr
            go_enter Try.func47, Try.ntmps47
            go_wp2_with fail
            go_ret
            exact ⟨by rw [HRR.out]; rfl, box_below _ _⟩
          · have gc8 : ((n : Int) == 0) = false := by simpa using c8
            have HRR := Lib.hid (show r = 2 by rw [hr]; first | rw [if_pos (by unfold Fine; omega)] | rw [if_neg (by unfold Fine; omega)])
            clear hr
            go_enter Try.func47, Try.ntmps47
            go_wp2_with fail
            go_ret
            exact ⟨by rw [HRR.out]; rfl, box_below _ _⟩
        · have gc7 : (m == 0) = false := by simpa using c7
          have HRR := Lib.hid (show r = 2 by rw [hr]; first | rw [if_pos (by unfold Fine; omega)] | rw [if_neg (by unfold Fine; omega)])
          clear hr
          go_enter Try.func47, Try.ntmps47
          go_wp2_with fail
          go_ret
          exact ⟨by rw [HRR.out]; rfl, box_below _ _⟩
      · have gc2 : (k == 3) = false := by simpa using c2
        have HRR := Lib.hid (show r = 2 by rw [hr]; first | rw [if_pos (by unfold Fine; omega)] | rw [if_neg (by unfold Fine; omega)])
        clear hr
        go_enter Try.func47, Try.ntmps47
        go_wp2_with fail
        go_ret
        exact ⟨by rw [HRR.out]; rfl, box_below _ _⟩
set_option maxRecDepth 100000 in
set_option maxHeartbeats 4000000 in
theorem size_any (k m : Int) (A : Option Addr) (n c : Nat) (w : World) (hn : n ≤ 1000000000) : Calls Try.prog 48 #[.agg #[.int .i64 k, .int .i64 m, .slice A n c]] w fun e w' => e = .returned (.int .i64 (16 + (n : Int))) ∧ Below w.heap.size w w' := by
  have hw : IntKind.i64.wrap (16 + (n : Int)) = 16 + n := by rw [IntKind.wrap_i64]; omega
  have HB := Lib.hid (box_below w (.cells #[.int .i64 k, .int .i64 m, .slice A n c] 72))
  go_enter Try.func48, Try.ntmps48
  go_wp2_with fail
  go_ret
  exact ⟨rfl, box_below _ _⟩
set_option maxRecDepth 100000 in
set_option maxHeartbeats 4000000 in
theorem rsize_any (k m : Int) (A : Option Addr) (n c : Nat) (w : World) (hn : n ≤ 1000000000) : Calls Try.prog 49 #[.agg #[.int .i64 k, .int .i64 m, .slice A n c]] w fun e w' => e = .returned (.int .i64 (16 + (n : Int))) ∧ Below w.heap.size w w' := by
  have hw : IntKind.i64.wrap (16 + (n : Int)) = 16 + n := by rw [IntKind.wrap_i64]; omega
  have HB := Lib.hid (box_below w (.cells #[.int .i64 k, .int .i64 m, .slice A n c] 72))
  go_enter Try.func49, Try.ntmps49
  go_wp2_with fail
  go_ret
  exact ⟨rfl, box_below _ _⟩
end Go.Proofs.Ytondodhpmghogaa
