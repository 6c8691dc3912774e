/- Walks: PrintTexts and PrintBack return true. No conditions. -/
import Derived.Test.YtnlninmjmjffcaaTd
namespace Go.Proofs.Ytnlninmjmjffcaa
open Go.RowKit
set_option linter.unusedVariables false
set_option linter.unusedSimpArgs false

set_option maxRecDepth 100000 in
set_option maxHeartbeats 1000000 in
theorem texts_any (n : Nat) (hn : n < 18446744073709551616) (s : ByteArray) (w : World) (hs0 : s.size ≤ 9223372036854775807) : Calls Try.prog 5 #[.int .u64 n, .string s] w (AwakeQ w) := by
  by_cases hs : 100 < s.size
  · go_enter Try.func5, Try.ntmps5
    go_wp2_with fail
    refine (awake_any w).mono ?_; rintro e w1 ⟨rfl, hB⟩
    go_wp2
    go_ret
    exact ⟨rfl, hB⟩
  have hs' : s.size ≤ 100 := by omega
  clear hs
  obtain ⟨p, q, r, hp⟩ : ∃ p q r, parse s.data.toList = (p, q, r) := ⟨_, _, _, rfl⟩
  have HP := Lib.hid (show pVal (parse s.data.toList) = .tuple #[.int .u64 p, .agg #[.int .i64 q, .int .i64 r]] from by rw [hp]; rfl)
  clear hp
  go_enter Try.func5, Try.ntmps5
  go_wp2_with fail
  refine (Parse_28 s w (by omega)).mono ?_; rintro e w1 ⟨rfl, hB1⟩
  rw [HP.out]
  go_wp2_with fail
  obtain ⟨wa, hwa⟩ : ∃ x, x = w1.alloc (.cells #[.int .i64 q, .int .i64 r] 37) := ⟨_, rfl⟩
  have pa : Pair wa w1.heap.size (.int .i64 q) (.int .i64 r) := by rw [hwa]; exact pair_new _ _ _ _
  have hBa : Below w.heap.size w wa := by rw [hwa]; exact hB1.alloc hB1.size _
  rw [← hwa]
  clear hwa hB1
  refine (Parse_29 s wa (by omega)).mono ?_; rintro e w2 ⟨rfl, hB2⟩
  rw [HP.out]
  have hab : Below wa.heap.size wa (w2.alloc (.cells #[.int .i64 q, .int .i64 r] 37)) := hB2.alloc hB2.size _
  have pb : Pair (w2.alloc (.cells #[.int .i64 q, .int .i64 r] 37)) w2.heap.size (.int .i64 q) (.int .i64 r) := pair_new _ _ _ _
  have pa := pair_below pa hab
  have hBb := hBa.trans (hab.mono hBa.size)
  have a0 := pa.c0
  have a1 := pa.c1
  have b0 := pb.c0
  have b1 := pb.c1
  clear hB2 hab hBa pa pb
  go_wp2_with fail
  refine (text_any n hn _).mono ?_; rintro e w3 ⟨rfl, hB3⟩
  clear a0 a1 b0 b1
  have hB3 := hBb.trans (hB3.mono hBb.size)
  clear hBb
  go_wp2_with fail
  refine (textr_any n hn _).mono ?_; rintro e w4 ⟨rfl, hB4⟩
  have hB4 := hB3.trans (hB4.mono hB3.size)
  clear hB3
  go_wp2_with fail
  refine (awake_any w4).mono ?_; rintro e w5 ⟨rfl, hB5⟩
  have hB5 := hB4.trans (hB5.mono hB4.size)
  go_wp2
  go_ret
  exact ⟨rfl, hB5⟩

/-! ### a text is read as its fingerprint, and back -/
theorem dgt_hexD : ∀ d : Nat, d < 16 → dgt (hexD d) = (d : Int) := by decide +kernel
theorem hexD_dgt : ∀ c : UInt8, ¬ dgt c < 0 → hexD (dgt c).toNat = c := by
  have : ∀ n, n < 256 → ¬ dgt (UInt8.ofNat n) < 0 → hexD (dgt (UInt8.ofNat n)).toNat = UInt8.ofNat n := by decide +kernel
  intro c h
  have h2 := this c.toNat c.toNat_lt
  simp at h2
  exact h2 (by omega)

end Go.Proofs.Ytnlninmjmjffcaa
