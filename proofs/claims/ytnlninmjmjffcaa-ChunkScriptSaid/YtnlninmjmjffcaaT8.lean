/- Walks: slices.Index over bytes, and the value of a letter. No conditions. -/
import Derived.Test.YtnlninmjmjffcaaT7
namespace Go.Proofs.Ytnlninmjmjffcaa
open Go.RowKit
set_option linter.unusedVariables false
set_option linter.unusedSimpArgs false

def idxGo : List UInt8 → UInt8 → Nat → Int
  | [], _, _ => -1
  | c :: t, b, k => if (b.toNat : Int) = (c.toNat : Int) then (k : Int) else idxGo t b (k + 1)
theorem drop_cons (l : List UInt8) (k : Nat) (h : k < l.length) : l.drop k = (l[k]?.getD 0) :: l.drop (k + 1) := by
  rw [List.drop_eq_getElem_cons h]; simp [h]

set_option maxHeartbeats 400000 in
theorem index_any (A : Option Addr) (n c : Nat) (l : List UInt8) (b : UInt8) (w : World) (h1 : Rd w A n c 1 (u8s l)) :
    Calls Try.prog 57 #[.slice A n c, .int .u8 (b.toNat : Int)] w fun e w' => e = .returned (.int .i64 (idxGo l b 0)) ∧ w = w' := by
  have hn := h1.small
  have hl : l.length = n := by have := h1.len; simpa using this
  have HL := Lib.hid hl; clear hl
  have H1 := Lib.hid h1; clear h1
  go_enter Try.func57, Try.ntmps57
  go_wp2
  go_loop [5, 8] (fun _ i => ∃ k : Nat, k ≤ n ∧ i = .int .i64 k ∧ Hid (idxGo l b 0 = idxGo (l.drop k) b k)) (fun _ i => n - (intOf i).toNat)
  case atStart => exact ⟨0, Nat.zero_le _, rfl, rfl⟩
  case round =>
    obtain ⟨k, hk, rfl, hi⟩ := hrel
    by_cases hlt : k < n
    · obtain ⟨bb, off, rfl, hc⟩ := H1.out.cells k _ (u8s_get l k (by rw [HL.out]; exact hlt))
      have hd := Lib.hid (drop_cons l k (by rw [HL.out]; exact hlt))
      by_cases heq : (b.toNat : Int) = ((l[k]?.getD 0).toNat : Int)
      · have he : ((b.toNat : Int) == ((l[k]?.getD 0).toNat : Int)) = true := by simpa using heq
        have HE := Lib.hid heq; clear heq
        go_wp2
        go_ret
        exact ⟨ret_int (by rw [hi.out, hd.out, idxGo, if_pos HE.out]), rfl⟩
      · have he : ((b.toNat : Int) == ((l[k]?.getD 0).toNat : Int)) = false := by simpa using heq
        have HE := Lib.hid heq; clear heq
        go_wp2
        go_round
        case rel => exact ⟨k + 1, by omega, by go_num, by show _ = _; rw [hi.out, hd.out, idxGo, if_neg HE.out]⟩
        case measure => simp [intOf]; omega
    · have : k = n := by omega
      subst this
      go_wp2
      go_ret
      exact ⟨ret_int (by rw [hi.out, List.drop_of_length_le (by rw [HL.out]; exact Nat.le_refl _)]; rfl), rfl⟩

/-- what a letter is worth; -1: none -/
def dgt (c : UInt8) : Int := if 48 ≤ c.toNat ∧ c.toNat ≤ 57 then (c.toNat : Int) - 48 else if 97 ≤ c.toNat ∧ c.toNat ≤ 102 then 10 + ((c.toNat : Int) - 97) else -1

set_option maxHeartbeats 400000 in
theorem digit_any (b : UInt8) (w : World) :
    Calls Try.prog 58 #[.int .u8 (b.toNat : Int)] w fun e w' => e = .returned (.int .i64 (dgt b)) ∧ w = w' := by
  have hb := b.toNat_lt
  unfold dgt
  by_cases h1 : 48 ≤ b.toNat
  · by_cases h2 : b.toNat ≤ 57
    · rw [if_pos ⟨h1, h2⟩]
      go_enter Try.func58, Try.ntmps58
      go_wp2
      go_ret
      exact ⟨rfl, rfl⟩
    · rw [if_neg (by omega)]
      by_cases h3 : 97 ≤ b.toNat
      · by_cases h4 : b.toNat ≤ 102
        · rw [if_pos ⟨h3, h4⟩]
          go_enter Try.func58, Try.ntmps58
          go_wp2
          go_ret
          exact ⟨rfl, rfl⟩
        · rw [if_neg (by omega)]
          go_enter Try.func58, Try.ntmps58
          go_wp2
          go_ret
          exact ⟨rfl, rfl⟩
      · rw [if_neg (by omega)]
        go_enter Try.func58, Try.ntmps58
        go_wp2
        go_ret
        exact ⟨rfl, rfl⟩
  · rw [if_neg (by omega), if_neg (by omega)]
    go_enter Try.func58, Try.ntmps58
    go_wp2
    go_ret
    exact ⟨rfl, rfl⟩

def hexDigits : List UInt8 := [48, 49, 50, 51, 52, 53, 54, 55, 56, 57, 97, 98, 99, 100, 101, 102]
theorem idx_dgt : ∀ b : UInt8, idxGo hexDigits b 0 = dgt b := by
  have : ∀ n, n < 256 → idxGo hexDigits (UInt8.ofNat n) 0 = dgt (UInt8.ofNat n) := by decide +kernel
  intro b
  have h := this b.toNat b.toNat_lt
  simpa using h

end Go.Proofs.Ytnlninmjmjffcaa
