/- Walks: a number as bytes; the writer's put. Conditions: the number below 2^63; what is put is short. -/
import Derived.Test.YtondodhpmghogaaC1
import Derived.Test.YtondodhpmghogaaW0
import Derived.Test.YtondodhpmghogaaWL
namespace Go.Proofs.Ytondodhpmghogaa
open Go.RowKit
set_option linter.unusedVariables false
set_option linter.unusedSimpArgs false

def FormQ (w : World) (n : Nat) (e : Ending) (w' : World) : Prop := ∃ g c', e = .returned (.slice (some ⟨g, 0, none⟩) (frm n).length c') ∧ w.heap.size ≤ g ∧ (frm n).length ≤ c' ∧ Row w' g 5 c' 1 (u8s (frm n)) ∧ Below w.heap.size w w'
set_option maxRecDepth 100000 in
set_option maxHeartbeats 4000000 in
theorem form_any (n : Nat) (hn : n < 9223372036854775808) (w : World) : Calls Try.prog 76 #[.int .i64 n] w (FormQ w n) := by
  have hlen := be_len n (by omega)
  have h8 := be_len8 n
  obtain ⟨m, hm⟩ : ∃ m, m = (be n).length := ⟨_, rfl⟩
  rw [← hm] at hlen h8
  have HM := Lib.hid hm
  have hq : IntKind.i64.wrap (((Lib.bitLen n : Nat) : Int) + 7) = (Lib.bitLen n : Int) + 7 := by rw [IntKind.wrap_i64]; omega
  clear hm
  go_enter Try.func76, Try.ntmps76
  go_wp2_with (go_at_call 83; refine (len64_any n _ (by omega) (by omega)).mono ?_; rintro e w1 ⟨rfl, rfl⟩)
  go_loopw [4, 5] (fun v i wr => ∃ j g c, j ≤ m ∧ i = .int .i64 ((m : Int) - j) ∧ v = .slice (some ⟨g, 0, none⟩) (1 + j) c ∧ w1.heap.size ≤ g ∧ 1 + j ≤ c ∧ Row wr g 5 c 1 (u8s (UInt8.ofNat m :: (be n).take j)) ∧ Below w1.heap.size w1 wr) (fun _ i _ => (intOf i).toNat)
  case atStart =>
    refine ⟨0, w1.heap.size, 1, by omega, ?_, rfl, Nat.le_refl _, by omega, ?_, (Below.refl _ _).alloc (Nat.le_refl _) _⟩
    · rw [hlen]; go_num
    · have e : (UInt8.ofNat m).toNat = m := by simp; omega
      have : u8s (UInt8.ofNat m :: (be n).take 0) = [.int .u8 (m : Int)] := by simp [u8s, e]
      rw [this, hlen]
      have := row_lit w1 #[.int .u8 (((Lib.bitLen n : Int) + 7) / 8)] 5 1 1 rfl (by decide)
      simpa using this
  case round =>
    obtain ⟨j, g, c, hj, rfl, rfl, hg, hc, hrow, hB⟩ := hrel
    by_cases hlt : j < m
    · have hxl : (UInt8.ofNat m :: (be n).take j).length = 1 + j := by have := HM.out; simp; omega
      have HOWN := Lib.hid (hrow.own (base := w1.heap.size) (n := 1 + j) hg (by rw [u8s_length, hxl, Nat.mul_one]) hc)
      have HG := Lib.hid (be_get n (by omega) j (by rw [← HM.out]; exact hlt))
      have HB := Lib.hid hB
      have hsz := hB.size
      clear hrow hB
      go_wp2_with (at_builtin; refine wpList_add _ rfl _ _ 26 rfl w1.heap.size 5 (.int .u8 0) 1 1 Try.underlying26 info5 rfl (by decide) _ (1 + j) _ rfl HOWN.out _ _ rfl rfl (by simp [Value.oneCell']) (by simp [maxLen]; omega) (by omega) hsz ?_; intro v' w' hown' hne hch hbel)
      obtain ⟨g', c', rfl, hbg, hnc', hrow'⟩ := own_row hown' hne
      go_wp2
      go_roundw
      case rel =>
        refine ⟨j + 1, g', c', by omega, by go_num, by rw [Nat.add_assoc], hbg, by omega, ?_, HB.out.trans hbel⟩
        have e1 : (n : Int) / 2 ^ (8 * ((Lib.bitLen n + 7) / 8 - j - 1)) % 256 = (((be n)[j]?.getD 0).toNat : Int) := by
          have hk : (be n).length - 1 - j = (Lib.bitLen n + 7) / 8 - j - 1 := by have := HM.out; omega
          rw [HG.out, hk]
          generalize (Lib.bitLen n + 7) / 8 - j - 1 = k
          have hp : (2 : Int) ^ (8 * k) = ((256 ^ k : Nat) : Int) := by rw [show (256 : Nat) = 2 ^ 8 from rfl, ← Nat.pow_mul]; simp
          rw [hp]; rfl
        have e2 : u8s (UInt8.ofNat m :: (be n).take (j + 1)) = u8s (UInt8.ofNat m :: (be n).take j) ++ [.int .u8 (((be n)[j]?.getD 0).toNat : Int)] := by
          rw [u8s_snoc (be n) j (by rw [← HM.out]; exact hlt), ← List.cons_append, u8s_append]; rfl
        rw [e2, ← e1]
        exact hrow'
      case measure => simp [intOf]; omega
    · obtain rfl : j = m := by omega
      go_wp2
      go_ret
      have e1 : frm n = UInt8.ofNat j :: (be n).take j := by
        have := HM.out
        unfold frm
        rw [← this, List.take_of_length_le (by omega)]
      have e2 : (frm n).length = 1 + j := by rw [frm_len, ← HM.out]; omega
      exact ⟨g, c, by rw [e2]; rfl, hg, by omega, by rw [e1]; exact hrow, hB⟩
end Go.Proofs.Ytondodhpmghogaa
