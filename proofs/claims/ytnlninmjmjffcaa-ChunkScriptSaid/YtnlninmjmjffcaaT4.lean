/- Walks: a number as eight bytes. No conditions. -/
import Derived.Test.YtnlninmjmjffcaaT3
namespace Go.Proofs.Ytnlninmjmjffcaa
open Go.RowKit
set_option linter.unusedVariables false
set_option linter.unusedSimpArgs false

/-- the first k of a number's eight bytes -/
def be (n : Int) (k : Nat) : List UInt8 := (List.range k).map fun j => UInt8.ofNat (n / 2 ^ (56 - 8 * j)).toNat
theorem be_succ (n : Int) (k : Nat) : be n (k + 1) = be n k ++ [UInt8.ofNat (n / 2 ^ (56 - 8 * k)).toNat] := by simp [be, List.range_succ]
theorem be_len (n : Int) (k : Nat) : (be n k).length = k := by simp [be]

theorem u8_of (x : Int) (h : 0 ≤ x) : ((UInt8.ofNat x.toNat).toNat : Int) = x % 256 := by
  have : (UInt8.ofNat x.toNat).toNat = x.toNat % 256 := by simp
  rw [this]; omega
theorem u8s_of (x : Int) (h : 0 ≤ x) : u8s [UInt8.ofNat x.toNat] = [.int .u8 (x % 256)] := by
  show [Value.int .u8 ((UInt8.ofNat x.toNat).toNat : Int)] = _
  rw [u8_of x h]
theorem ownsRow_alloc {w : World} {base n sz : Nat} {e : TypeId} {v : Value} {xs : List Value} (h : w.ownsRow base e sz v n xs) (o : Obj) : (w.alloc o).ownsRow base e sz v n xs := own_ch h (Ch.alloc w o No) (fun _ _ => id)
def WideQ (w : World) (n : Int) (e : Ending) (w' : World) : Prop := ∃ v, e = .returned v ∧ w'.ownsRow w.heap.size 5 1 v 8 (u8s (be n 8)) ∧ Below w.heap.size w w'
set_option maxHeartbeats 400000 in
set_option maxRecDepth 100000 in
theorem wide_any (n : Int) (h0 : 0 ≤ n) (w : World) : Calls Try.prog 56 #[.int .u64 n] w (WideQ w n) := by
  go_enter Try.func56, Try.ntmps56
  go_wp2
  go_loopw [3, 4] (fun v i wr => ∃ k : Nat, k ≤ 8 ∧ i = .int .i64 (56 - 8 * (k : Int)) ∧ wr.ownsRow w.heap.size 5 1 v k (u8s (be n k)) ∧ Below w.heap.size w wr) (fun _ i _ => (intOf i + 8).toNat)
  case atStart => exact ⟨0, by omega, rfl, World.ownsRow_nil _ _ _ _, Below.refl _ _⟩
  case round =>
    obtain ⟨k, hk, rfl, hown, hB⟩ := hrel
    by_cases hlt : k < 8
    · have HO := Lib.hid hown; clear hown
      have hx : 0 ≤ n / 2 ^ (56 - 8 * k) := Int.ediv_nonneg h0 (by exact_mod_cast Nat.zero_le _)
      have hu := Lib.hid (u8s_of _ hx)
      clear hx
      go_wp2_with (at_builtin; refine wpList_add _ rfl _ _ 22 rfl w.heap.size 5 _ 1 1 Try.underlying22 info5 rfl (by decide) _ k _ rfl HO.out _ _ rfl rfl (by simp [Value.oneCell']) (by simp [maxLen]; omega) (by omega) hB.size ?_; intro v' w1 hown hnil hch hbel)
      go_roundw
      case rel => exact ⟨k + 1, by omega, by go_num, by rw [be_succ, u8s_append, hu.out]; exact hown, hB.trans hbel⟩
      case measure => simp [intOf]; omega
    · obtain rfl : k = 8 := by omega
      have HO := Lib.hid hown; clear hown
      go_wp2
      go_ret
      exact ⟨_, rfl, HO.out, hB⟩

set_option maxHeartbeats 400000 in
theorem mix1_any (s n : Int) (h0 : 0 ≤ n) (w : World) : Calls Try.prog 55 #[.int .u64 s, .int .u64 n] w fun e w' => e = .returned (.int .u64 (fnv s (be n 8))) ∧ Below w.heap.size w w' := by
  go_enter Try.func55, Try.ntmps55
  go_wp2_with fail
  refine (wide_any n h0 w).mono ?_; rintro e w1 ⟨v, rfl, hown, hB⟩
  obtain ⟨A, c, rfl, hr, hA⟩ := own_form hown
  clear hown
  go_wp2_with fail
  refine (more_any s A 8 c _ w1 hr).mono ?_; rintro e w2 ⟨rfl, hB2⟩
  go_wp2
  go_ret
  exact ⟨rfl, hB.trans (hB2.mono hB.size)⟩
end Go.Proofs.Ytnlninmjmjffcaa
