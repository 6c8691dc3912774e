/- Walks: print.More, Sum, Start and the reference beside them. No conditions. -/
import Derived.Test.YtnlninmjmjffcaaT2
namespace Go.Proofs.Ytnlninmjmjffcaa
open Go.RowKit
set_option linter.unusedVariables false
set_option linter.unusedSimpArgs false


def start : Int := 14695981039346656037
set_option maxHeartbeats 400000 in
theorem start_any (w : World) : Calls Try.prog 21 #[] w fun e w' => e = .returned (.int .u64 start) ∧ w = w' := by
  go_enter Try.func21, Try.ntmps21
  go_wp2
  go_ret
  exact ⟨rfl, rfl⟩
set_option maxHeartbeats 400000 in
theorem startr_any (w : World) : Calls Try.prog 22 #[] w fun e w' => e = .returned (.int .u64 start) ∧ w = w' := by
  go_enter Try.func22, Try.ntmps22
  go_wp2
  go_ret
  exact ⟨rfl, rfl⟩

set_option maxHeartbeats 400000 in
theorem more_any (s : Int) (A : Option Addr) (n c : Nat) (xs : List UInt8) (w : World) (hr : Rd w A n c 1 (u8s xs)) :
    Calls Try.prog 19 #[.int .u64 s, .slice A n c] w fun e w' => e = .returned (.int .u64 (fnv s xs)) ∧ Below w.heap.size w w' := by
  have hb := (Below.refl w.heap.size w).alloc (Nat.le_refl _) (.cells #[.slice A n c] 22)
  have hr' := hr.below hb
  have hcell : (w.alloc (.cells #[.slice A n c] 22)).cell? ⟨w.heap.size, 0, none⟩ = some (.slice A n c) := (Boxed.new w 22 _).cell
  go_enter Try.func19, Try.ntmps19
  go_wp2_with fail
  refine (bvalues_any A n c _).mono ?_; rintro e w1 ⟨rfl, rfl⟩
  go_wp2_with fail
  refine (bfold_any s w.heap.size A n c xs _ hcell (by simp) hr').mono ?_; rintro e w1 ⟨rfl, hb2⟩
  go_wp2
  go_ret
  exact ⟨rfl, hb.trans (hb2.mono (by simp))⟩

set_option maxHeartbeats 400000 in
theorem sum_any (A : Option Addr) (n c : Nat) (xs : List UInt8) (w : World) (hr : Rd w A n c 1 (u8s xs)) :
    Calls Try.prog 17 #[.slice A n c] w fun e w' => e = .returned (.int .u64 (fnv start xs)) ∧ Below w.heap.size w w' := by
  go_enter Try.func17, Try.ntmps17
  go_wp2_with fail
  refine (start_any _).mono ?_; rintro e w1 ⟨rfl, rfl⟩
  go_wp2_with fail
  refine (more_any _ A n c xs w hr).mono ?_; rintro e w1 ⟨rfl, hb2⟩
  go_wp2
  go_ret
  exact ⟨rfl, hb2⟩

set_option maxHeartbeats 400000 in
theorem morer_any (s : Int) (A : Option Addr) (n c : Nat) (l : List UInt8) (w : World) (h1 : Rd w A n c 1 (u8s l)) :
    Calls Try.prog 20 #[.int .u64 s, .slice A n c] w fun e w' => e = .returned (.int .u64 (fnv s l)) ∧ w = w' := by
  have hn := h1.small
  have hl : l.length = n := by have := h1.len; simpa using this
  have HL := Lib.hid hl; clear hl
  have H1 := Lib.hid h1; clear h1
  go_enter Try.func20, Try.ntmps20
  go_wp2
  go_loop [0, 5] (fun t i => ∃ k : Nat, k ≤ n ∧ i = .int .i64 k ∧ t = .int .u64 (fnv s (l.take k))) (fun _ i => n - (intOf i).toNat)
  case atStart => exact ⟨0, Nat.zero_le _, rfl, rfl⟩
  case round =>
    obtain ⟨k, hk, rfl, rfl⟩ := hrel
    by_cases hlt : k < n
    · obtain ⟨b, off, rfl, hc⟩ := H1.out.cells k _ (u8s_get l k (by rw [HL.out]; exact hlt))
      go_wp2
      go_round
      case rel => exact ⟨k + 1, by omega, by go_num, by rw [u8s_snoc l k (by rw [HL.out]; exact hlt), fnv_snoc]; rfl⟩
      case measure => simp [intOf]; omega
    · have : k = n := by omega
      subst this
      go_wp2
      go_ret
      exact ⟨ret_int (by rw [List.take_of_length_le (by rw [HL.out]; exact Nat.le_refl _)]), rfl⟩

set_option maxHeartbeats 400000 in
theorem sumr_any (A : Option Addr) (n c : Nat) (xs : List UInt8) (w : World) (hr : Rd w A n c 1 (u8s xs)) :
    Calls Try.prog 18 #[.slice A n c] w fun e w' => e = .returned (.int .u64 (fnv start xs)) ∧ w = w' := by
  go_enter Try.func18, Try.ntmps18
  go_wp2_with fail
  refine (startr_any _).mono ?_; rintro e w1 ⟨rfl, rfl⟩
  go_wp2_with fail
  refine (morer_any _ A n c xs w hr).mono ?_; rintro e w1 ⟨rfl, rfl⟩
  go_wp2
  go_ret
  exact ⟨rfl, rfl⟩

end Go.Proofs.Ytnlninmjmjffcaa
