/- Walks: CheckMessage (both). No conditions. -/
import Derived.Test.YtnlninmjmjffcaaTi
namespace Go.Proofs.Ytnlninmjmjffcaa
open Go.RowKit
set_option linter.unusedVariables false
set_option linter.unusedSimpArgs false

def okM (k i s a : Int) (n : Nat) : Prop := 1 ≤ i ∧ i ≤ 1099511627776 ∧ ((k = 1 ∧ 1 ≤ s ∧ s ≤ 60000 ∧ 0 ≤ a ∧ a < s ∧ 1 ≤ n ∧ n ≤ 200 ∧ (n : Int) ≤ s - a) ∨ ((k = 2 ∨ k = 3) ∧ s = 0 ∧ a = 0 ∧ n = 0))
instance (k i s a : Int) (n : Nat) : Decidable (okM k i s a n) := by unfold okM; infer_instance
def chkM (k i s a : Int) (n : Nat) : Int := if okM k i s a n then 0 else 2
theorem chk_ok {k i s a : Int} {n : Nat} (h : okM k i s a n) : chkM k i s a n = 0 := if_pos h
theorem chk_no {k i s a : Int} {n : Nat} (h : ¬ okM k i s a n) : chkM k i s a n = 2 := if_neg h

set_option maxHeartbeats 4000000 in
theorem check_any (k i s a : Int) (A : Option Addr) (n c : Nat) (w : World) (hn : n ≤ 9223372036854775807) :
    Calls Try.prog 49 #[.agg #[.int .i64 k, .int .i64 i, .int .i64 s, .int .i64 a, .slice A n c]] w fun e w' => e = .returned (.int .i64 (chkM k i s a n)) ∧ Below w.heap.size w w' := by
  go_enter Try.func49, Try.ntmps49
  go_wp2
  all_goals (go_ret; refine ⟨ret_int ?_, (Below.refl _ _).alloc (Nat.le_refl _) _⟩; (try simp only [beq_iff_eq, Bool.not_eq_true', Bool.not_eq_false', decide_eq_true_eq, decide_eq_false_iff_not, beq_eq_false_iff_ne, ne_eq] at *); first | exact (chk_ok (by unfold okM; omega)).symm | exact (chk_no (by unfold okM; omega)).symm)

set_option maxHeartbeats 4000000 in
theorem checkr_any (k i s a : Int) (A : Option Addr) (n c : Nat) (w : World) (hn : n ≤ 9223372036854775807) :
    Calls Try.prog 62 #[.agg #[.int .i64 k, .int .i64 i, .int .i64 s, .int .i64 a, .slice A n c]] w fun e w' => e = .returned (.int .i64 (chkM k i s a n)) ∧ Below w.heap.size w w' := by
  go_enter Try.func62, Try.ntmps62
  go_wp2
  all_goals (go_ret; refine ⟨ret_int ?_, (Below.refl _ _).alloc (Nat.le_refl _) _⟩; (try simp only [beq_iff_eq, Bool.not_eq_true', Bool.not_eq_false', decide_eq_true_eq, decide_eq_false_iff_not, beq_eq_false_iff_ne, ne_eq] at *); first | exact (chk_ok (by unfold okM; omega)).symm | exact (chk_no (by unfold okM; omega)).symm)

end Go.Proofs.Ytnlninmjmjffcaa
