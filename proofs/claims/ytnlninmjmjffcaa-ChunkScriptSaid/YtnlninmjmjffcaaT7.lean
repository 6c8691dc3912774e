/- Walk: the reference text of a fingerprint. No conditions. -/
import Derived.Test.YtnlninmjmjffcaaT6
namespace Go.Proofs.Ytnlninmjmjffcaa
open Go.RowKit
set_option linter.unusedVariables false
set_option linter.unusedSimpArgs false

theorem ofInt_and15 (x : Int) : (BitVec.ofInt 64 x &&& BitVec.ofInt 64 15).toNat = (x % 16).toNat := by
  have h15 : (BitVec.ofInt 64 15).toNat = 15 := by decide
  rw [BitVec.toNat_and, h15, nat_mask4, BitVec.toNat_ofInt]
  have : ((2 ^ 64 : Nat) : Int) = 18446744073709551616 := rfl
  rw [this]
  omega
theorem i64_low4 (x : Int) : bits .and .i64 x 15 = x % 16 := by
  show IntKind.i64.wrap ((BitVec.ofInt 64 x &&& BitVec.ofInt 64 15).toNat : Int) = _
  rw [ofInt_and15, IntKind.wrap_i64]
  omega

theorem hexD_lo : ∀ d : Nat, d < 10 → u8s [hexD d] = [.int .u8 (48 + (d : Int))] := by
  intro d hd
  have : ∀ d, d < 10 → (hexD d).toNat = 48 + d := by decide
  simp only [u8s, List.map_cons, List.map_nil, this d hd]
  rfl
theorem hexD_hi : ∀ d : Nat, 10 ≤ d → d < 16 → u8s [hexD d] = [.int .u8 (97 + (d : Int) - 10)] := by
  intro d h1 hd
  have : ∀ d, d < 16 → 10 ≤ d → (hexD d).toNat = 97 + d - 10 := by decide
  simp only [u8s, List.map_cons, List.map_nil, this d hd h1]
  have : ((97 + d - 10 : Nat) : Int) = 97 + (d : Int) - 10 := by omega
  rw [this]

set_option maxRecDepth 100000 in
set_option maxHeartbeats 400000 in
theorem textr_any (n : Nat) (hn : n < 18446744073709551616) (w : World) : Calls Try.prog 31 #[.int .u64 n] w (TextQ w n) := by
  go_enter Try.func31, Try.ntmps31
  go_wp2
  go_loopw [3, 4, 5] (fun v i _ wr => ∃ k : Nat, k ≤ 16 ∧ i = .int .i64 (15 - (k : Int)) ∧ wr.ownsRow w.heap.size 5 1 v k (u8s (hexText n k)) ∧ Below w.heap.size w wr) (fun _ i _ _ => (intOf i + 1).toNat)
  case atStart => exact ⟨0, by omega, rfl, World.ownsRow_nil _ _ _ _, Below.refl _ _⟩
  case round =>
    obtain ⟨k, hk, rfl, hown, hB⟩ := hrel
    have HO := Lib.hid hown; clear hown
    by_cases hlt : k < 16
    · obtain ⟨d, hdd⟩ : ∃ d, d = n / 2 ^ (60 - 4 * k) % 16 := ⟨_, rfl⟩
      have hd16 : d < 16 := by rw [hdd]; omega
      have hd : bits .and .i64 (wrap64 ((n : Int) / 2 ^ (60 - 4 * k))) 15 = (d : Int) := by
        rw [i64_low4]
        have h1 : ((n : Int) / 2 ^ (60 - 4 * k)) = ((n / 2 ^ (60 - 4 * k) : Nat) : Int) := by simp
        rw [hdd, h1]
        unfold wrap64
        omega
      have hx : hexDig n k = hexD d := by rw [hdd]; rfl
      have e4 : 4 * (15 - k) = 60 - 4 * k := by omega
      have e5 : (4 * (15 - (k : Int))).toNat = 60 - 4 * k := by omega
      have HX := Lib.hid hx
      clear hdd hx
      have hlo := hexD_lo d
      have hhi := hexD_hi d
      have HLO := Lib.hid hlo
      have HHI := Lib.hid hhi
      clear hlo hhi
      go_wp2_with (at_builtin; refine wpList_add _ rfl _ _ 22 rfl w.heap.size 5 _ 1 1 Try.underlying22 info5 rfl (by decide) _ k _ rfl HO.out _ _ rfl rfl (by simp [Value.oneCell']) (by simp [maxLen]; omega) (by omega) hB.size ?_; intro v' w1 hown hnil hch hbel)
      all_goals go_roundw
      case rel => exact ⟨k + 1, by omega, by go_num, by rw [hexText_succ, HX.out, u8s_append, HLO.out (by omega)]; exact hown, hB.trans hbel⟩
      case measure => simp [intOf]; omega
      case rel => exact ⟨k + 1, by omega, by go_num, by rw [hexText_succ, HX.out, u8s_append, HHI.out (by omega) (by omega)]; exact hown, hB.trans hbel⟩
      case measure => simp [intOf]; omega
    · obtain rfl : k = 16 := by omega
      obtain ⟨A, c, rfl, hr, hA⟩ := own_form HO.out
      have e1 := hr.str (P := Try.prog) 22 5 9 Try.underlying22 Try.underlying5 Try.underlying9
      clear hr HO hA
      go_wp2
      go_ret
      exact ⟨rfl, hB⟩

end Go.Proofs.Ytnlninmjmjffcaa
