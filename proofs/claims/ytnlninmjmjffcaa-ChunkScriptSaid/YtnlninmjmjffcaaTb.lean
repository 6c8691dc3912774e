/- Walk: the examples of chapter 02 are answered. No conditions. -/
import Derived.Test.YtnlninmjmjffcaaTa
namespace Go.Proofs.Ytnlninmjmjffcaa
open Go.RowKit
set_option linter.unusedVariables false
set_option linter.unusedSimpArgs false

theorem step_range (s : Int) (c : UInt8) : 0 ≤ step s c ∧ step s c < 18446744073709551616 := by
  unfold step
  rw [IntKind.wrap_u64]
  omega
theorem fnv_range (s : Int) (h0 : 0 ≤ s) (h1 : s < 18446744073709551616) (l : List UInt8) : 0 ≤ fnv s l ∧ fnv s l < 18446744073709551616 := by
  induction l generalizing s with
  | nil => exact ⟨h0, h1⟩
  | cons c t ih => exact ih _ (step_range s c).1 (step_range s c).2
theorem fnv_foobar : fnv start [102, 111, 111, 98, 97, 114] = ((9625390261332436968 : Nat) : Int) := by decide +kernel
theorem fnv_none : fnv start [] = ((14695981039346656037 : Nat) : Int) := rfl
theorem hex_none : hexText 14695981039346656037 16 = [99, 98, 102, 50, 57, 99, 101, 52, 56, 52, 50, 50, 50, 51, 50, 53] := by decide +kernel
theorem hex_foobar : hexText 9625390261332436968 16 = [56, 53, 57, 52, 52, 49, 55, 49, 102, 55, 51, 57, 54, 55, 101, 56] := by decide +kernel

def AwakeQ (w : World) (e : Ending) (w' : World) : Prop := e = .returned (.bool true) ∧ Below w.heap.size w w'
theorem nil_rd (w : World) (sz : Nat) : Rd w none 0 0 sz [] := ⟨by simp, Nat.le_refl _, by omega, fun _ => rfl, fun j u hu => by simp at hu⟩

set_option maxRecDepth 100000 in
set_option maxHeartbeats 800000 in
theorem awake_any (w : World) : Calls Try.prog 15 #[] w (AwakeQ w) := by
  go_enter Try.func15, Try.ntmps15
  go_wp2_with fail
  refine (sum_any none 0 0 [] w (nil_rd w 1)).mono ?_; rintro e w1 ⟨rfl, hB1⟩
  rw [fnv_none]
  go_wp2_with fail
  refine (text_any 14695981039346656037 (by decide) w1).mono ?_; rintro e w2 ⟨rfl, hB2⟩
  rw [hex_none]
  have hcv := fun (w : World) (C : Array Value) (n c : Nat) => Lib.run_convert_bytes_const (P := Try.prog) w 22 5 C n c Try.underlying22 Try.underlying5
  go_wp2_with fail
  have hB12 := hB1.trans (hB2.mono hB1.size)
  have hB3 := hB12.alloc hB12.size (.cells #[.int .u8 102, .int .u8 111, .int .u8 111, .int .u8 98, .int .u8 97, .int .u8 114] 5 (6, 7))
  refine (sum_any _ 6 6 [102, 111, 111, 98, 97, 114] _ (rd_mark w2 _ 5 (6, 7) 6 1 rfl (by omega))).mono ?_; rintro e w3 ⟨rfl, hB4⟩
  rw [fnv_foobar]
  clear hcv
  have hB5 := hB3.trans (hB4.mono hB3.size)
  clear hB1 hB2 hB12 hB3 hB4
  go_wp2_with fail
  refine (text_any 9625390261332436968 (by decide) w3).mono ?_; rintro e w4 ⟨rfl, hB6⟩
  rw [hex_foobar]
  have hB7 := hB5.trans (hB6.mono hB5.size)
  go_wp2_with fail
  refine (mix_any none 0 0 [] w4 (nil_rd w4 1)).mono ?_; rintro e w5 ⟨rfl, hB8⟩
  rw [show mixf start [] = start from rfl]
  have hB9 := hB7.trans (hB8.mono hB7.size)
  go_wp2_with fail
  refine (start_any w5).mono ?_; rintro e w6 ⟨rfl, rfl⟩
  go_wp2
  go_ret
  exact ⟨rfl, hB9⟩

end Go.Proofs.Ytnlninmjmjffcaa
