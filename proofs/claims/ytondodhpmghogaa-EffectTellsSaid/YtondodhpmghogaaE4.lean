/- Walks: are two effects the same (the kit package, the reference); is one long. Conditions: the slices are read. -/
import Derived.Test.YtondodhpmghogaaE3
namespace Go.Proofs.Ytondodhpmghogaa
open Go.RowKit
set_option linter.unusedVariables false
set_option linter.unusedSimpArgs false

set_option maxRecDepth 100000 in
set_option maxHeartbeats 2000000 in
theorem elong_any (k m : Int) (A : Option Addr) (n c : Nat) (w : World) : Calls Try.prog 42 #[.agg #[.int .i64 k, .int .i64 m, .slice A n c]] w fun e w' => e = .returned (.bool (decide (1200 < n))) ∧ Below w.heap.size w w' := by
  by_cases h : 1200 < n
  · have g : decide ((1200 : Int) < (n : Int)) = true := decide_eq_true (by omega)
    go_enter Try.func42, Try.ntmps42
    go_wp2_with fail
    go_ret
    exact ⟨by simp [h], box_below _ _⟩
  · have g : decide ((1200 : Int) < (n : Int)) = false := decide_eq_false (by omega)
    go_enter Try.func42, Try.ntmps42
    go_wp2_with fail
    go_ret
    exact ⟨by simp [h], box_below _ _⟩
/-- the same effect? -/
def sameE (k m : Int) (l : List UInt8) (k2 m2 : Int) (l2 : List UInt8) : Bool := (k == k2) && ((m == m2) && eqB l l2)
set_option maxRecDepth 100000 in
set_option maxHeartbeats 2000000 in
theorem esame_any (k m : Int) {A : Option Addr} {n c : Nat} {l : List UInt8} (k2 m2 : Int) {A2 : Option Addr} {n2 c2 : Nat} {l2 : List UInt8} {w : World} (h1 : Rd w A n c 1 (u8s l)) (h2 : Rd w A2 n2 c2 1 (u8s l2)) : Calls Try.prog 56 #[.agg #[.int .i64 k, .int .i64 m, .slice A n c], .agg #[.int .i64 k2, .int .i64 m2, .slice A2 n2 c2]] w fun e w' => e = .returned (.bool (sameE k m l k2 m2 l2)) ∧ Below w.heap.size w w' := by
  have hb2 : Below w.heap.size w ((w.alloc (.cells #[.int .i64 k, .int .i64 m, .slice A n c] 72)).alloc (.cells #[.int .i64 k2, .int .i64 m2, .slice A2 n2 c2] 72)) := (box_below w _).alloc (by simp) _
  have HB := Lib.hid hb2
  have H1 := Lib.hid (h1.below hb2); have H2 := Lib.hid (h2.below hb2)
  clear hb2 h1 h2
  obtain ⟨r, hr⟩ : ∃ r, r = sameE k m l k2 m2 l2 := ⟨_, rfl⟩
  rw [← hr]
  unfold sameE at hr
  cases g1 : (k == k2) with
  | false =>
    rw [g1, Bool.false_and] at hr
    have HS := Lib.hid hr
    clear hr
    go_enter Try.func56, Try.ntmps56
    go_wp2_with fail
    go_ret
    exact ⟨by rw [HS.out]; rfl, HB.out⟩
  | true =>
    rw [g1, Bool.true_and] at hr
    cases g2 : (m == m2) with
    | false =>
      rw [g2, Bool.false_and] at hr
      have HS := Lib.hid hr
      clear hr
      go_enter Try.func56, Try.ntmps56
      go_wp2_with fail
      go_ret
      exact ⟨by rw [HS.out]; rfl, HB.out⟩
    | true =>
      rw [g2, Bool.true_and] at hr
      have HS := Lib.hid hr
      clear hr
      go_enter Try.func56, Try.ntmps56
      go_wp2_with fail
      refine (same_any _ _ _ _ _ _ _ _ _ H1.out H2.out).mono ?_
      rintro e w3 ⟨rfl, rfl⟩
      go_wp2
      go_ret
      exact ⟨by rw [HS.out]; rfl, HB.out⟩
set_option maxRecDepth 100000 in
set_option maxHeartbeats 2000000 in
theorem resame_any (k m : Int) {A : Option Addr} {n c : Nat} {l : List UInt8} (k2 m2 : Int) {A2 : Option Addr} {n2 c2 : Nat} {l2 : List UInt8} {w : World} (h1 : Rd w A n c 1 (u8s l)) (h2 : Rd w A2 n2 c2 1 (u8s l2)) : Calls Try.prog 51 #[.agg #[.int .i64 k, .int .i64 m, .slice A n c], .agg #[.int .i64 k2, .int .i64 m2, .slice A2 n2 c2]] w fun e w' => e = .returned (.bool (sameE k m l k2 m2 l2)) ∧ Below w.heap.size w w' := by
  have hb2 : Below w.heap.size w ((w.alloc (.cells #[.int .i64 k, .int .i64 m, .slice A n c] 72)).alloc (.cells #[.int .i64 k2, .int .i64 m2, .slice A2 n2 c2] 72)) := (box_below w _).alloc (by simp) _
  have HB := Lib.hid hb2
  have q1 := (h1.below hb2).str (P := Try.prog) 26 5 9 Try.underlying26 Try.underlying5 Try.underlying9
  have q2 := (h2.below hb2).str (P := Try.prog) 26 5 9 Try.underlying26 Try.underlying5 Try.underlying9
  clear hb2 h1 h2
  obtain ⟨r, hr⟩ : ∃ r, r = sameE k m l k2 m2 l2 := ⟨_, rfl⟩
  rw [← hr]
  unfold sameE at hr
  cases g1 : (k == k2) with
  | false =>
    rw [g1, Bool.false_and] at hr
    have HS := Lib.hid hr
    clear hr
    go_enter Try.func51, Try.ntmps51
    go_wp2_with fail
    go_ret
    exact ⟨by rw [HS.out]; rfl, HB.out⟩
  | true =>
    rw [g1, Bool.true_and] at hr
    cases g2 : (m == m2) with
    | false =>
      rw [g2, Bool.false_and] at hr
      have HS := Lib.hid hr
      clear hr
      go_enter Try.func51, Try.ntmps51
      go_wp2_with fail
      go_ret
      exact ⟨by rw [HS.out]; rfl, HB.out⟩
    | true =>
      rw [g2, Bool.true_and] at hr
      have HS := Lib.hid hr
      clear hr
      go_enter Try.func51, Try.ntmps51
      go_wp2_with fail
      go_ret
      exact ⟨by rw [HS.out]; rfl, HB.out⟩
end Go.Proofs.Ytondodhpmghogaa
