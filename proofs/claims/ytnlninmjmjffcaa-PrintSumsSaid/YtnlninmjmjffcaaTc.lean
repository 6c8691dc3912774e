/- Walk: PrintSums returns true at every input. No conditions. -/
import Derived.Test.YtnlninmjmjffcaaTb
import Derived.Deep.QuietTactic
import Derived.BigQuiet
namespace Go.Proofs.Ytnlninmjmjffcaa
open Go.RowKit
set_option linter.unusedVariables false
set_option linter.unusedSimpArgs false

theorem info23 : (Try.prog.info? 23).map (fun i => (i.zero, i.size, i.bytes)) = some (some (.int .u64 0), 1, 8) := by kernel_rfl

set_option maxRecDepth 100000 in
set_option maxHeartbeats 1000000 in
theorem sums_any (A B : Option Addr) (n c m d : Nat) (s : Int) (l : List UInt8) (xs : List UInt64) (w : World) (hl : Rd w A n c 1 (u8s l)) (hx : Rd w B m d 1 (q8s xs)) :
    Calls Try.prog 3 #[.slice A n c, .int .u64 s, .slice B m d] w (AwakeQ w) := by
  have hn := hl.small
  have hm := hx.small
  have HL := Lib.hid hl; clear hl
  have HX := Lib.hid hx; clear hx
  by_cases h1 : 3000 < n
  · go_enter Try.func3, Try.ntmps3
    go_wp2_with fail
    refine (awake_any w).mono ?_; rintro e w1 ⟨rfl, hB⟩
    go_wp2
    go_ret
    exact ⟨rfl, hB⟩
  by_cases h2 : 300 < m
  · have h1' : n ≤ 3000 := by omega
    go_enter Try.func3, Try.ntmps3
    go_wp2_with fail
    refine (awake_any w).mono ?_; rintro e w1 ⟨rfl, hB⟩
    go_wp2
    go_ret
    exact ⟨rfl, hB⟩
  have h1' : n ≤ 3000 := by omega
  have h2' : m ≤ 300 := by omega
  clear h1 h2
  go_enter Try.func3, Try.ntmps3
  go_wp2_with fail
  refine (lent_any A n c l w HL.out (by omega)).mono ?_; rintro e w1 ⟨g, c', rfl, hbg, hnc, hrow, hB1⟩
  have HR := Lib.hid hrow; clear hrow
  have hx1 := Lib.hid ((HX.out.below hB1).below ((Below.refl w1.heap.size w1).alloc (Nat.le_refl _) (.cells #[] 23)))
  have hri := Lib.hid (row_lit w1 #[] 23 0 1 rfl (by omega))
  go_wp2_with (first | fail | (at_builtin; refine wpList_app_row _ rfl _ _ 24 rfl w1.heap.size 23 _ 1 8 Try.underlying24 info23 rfl (by decide) _ 0 _ [] rfl hri.out (Nat.le_refl _) rfl (Nat.le_refl _) B m d (q8s xs) rfl hx1.out (q8s_one xs) (by simp [maxLen]; omega) (by omega) (by simp) ?_; intro g2 c2 w2 hrow2 hnc2 hbg2 hat2 hch2))
  have hc12 : Ch No w1 w2 := (Ch.alloc w1 _ No).trans hch2 (fun i hi => .inr (by omega))
  have hB12 : Below w1.heap.size w1 w2 := hc12.below (Nat.le_refl _) (fun k hk => hk.elim)
  have hlen : l.length = n := by have := HL.out.len; simpa using this
  have hlen2 : xs.length = m := by have := HX.out.len; simpa using this
  have HR2 := Lib.hid (HR.out.ch hc12 id)
  have hL2 := Lib.hid ((HL.out.below hB1).below hB12)
  have hX2 := Lib.hid ((HX.out.below hB1).below hB12)
  have hG2 := Lib.hid (HR2.out.rd 0 n (n + 3) (u8s l) (by rw [List.drop_zero, u8s_take]; simp [hlen]) (by simp [hlen]) (by omega) (by omega))
  have hQ2 := Lib.hid (hrow2.rd 0 m c2 (q8s xs) (by rw [List.drop_zero, List.nil_append, List.take_of_length_le (by simp [hlen2])]) (by simp [hlen2]) (by omega) hrow2.big)
  have hB2 := hB1.trans (hB12.mono hB1.size)
  clear HL HX HR hri hx1 hbg2 hat2 hch2 hc12 hB12 hB1 hlen hlen2 hrow2
  have hS := Lib.hid hB2.size
  refine (sum_any _ _ _ l w2 hG2.out).mono ?_; rintro e w3 ⟨rfl, hB3⟩
  go_wp2_with fail
  refine (sumr_any _ _ _ l w3 (hL2.out.below hB3)).mono ?_; rintro e w4 ⟨rfl, rfl⟩
  go_wp2_with fail
  refine (more_any _ _ _ _ l w3 (hG2.out.below hB3)).mono ?_; rintro e w4 ⟨rfl, hB4'⟩
  have hB4 := hB3.trans (hB4'.mono hB3.size)
  clear hB4' hB3
  go_wp2_with fail
  refine (morer_any _ _ _ _ l w4 (hL2.out.below hB4)).mono ?_; rintro e w5 ⟨rfl, rfl⟩
  go_wp2_with fail
  refine (start_any _).mono ?_; rintro e w5 ⟨rfl, rfl⟩
  go_wp2_with fail
  refine (startr_any _).mono ?_; rintro e w5 ⟨rfl, rfl⟩
  go_wp2_with fail
  refine (mix_any _ _ _ xs w4 (hQ2.out.below hB4)).mono ?_; rintro e w5 ⟨rfl, hB5'⟩
  have hB5 := hB4.trans (hB5'.mono hB4.size)
  clear hB5' hB4
  go_wp2_with fail
  refine (mixr_any _ _ _ xs w5 (by omega) (hX2.out.below hB5)).mono ?_; rintro e w6 ⟨rfl, hB6'⟩
  have hB6 := hB5.trans (hB6'.mono hB5.size)
  clear hB6' hB5
  go_wp2
  go_loopw [9, 10] (fun t i wr => ∃ k : Nat, k ≤ m ∧ i = .int .i64 k ∧ t = .bool true ∧ Below w2.heap.size w2 wr) (fun _ i _ => m - (intOf i).toNat)
  case atStart => exact ⟨0, Nat.zero_le _, rfl, rfl, hB6⟩
  case round =>
    clear hB6
    obtain ⟨k, hk, rfl, rfl, hBr⟩ := hrel
    by_cases hlt : k < m
    · have hlx : k < xs.length := by have := hX2.out.len; simp at this; omega
      obtain ⟨b, off, rfl, hc⟩ := (hX2.out.below hBr).cells k _ (q8s_get xs k hlx)
      obtain ⟨b2, off2, e2, hc2⟩ := (hQ2.out.below hBr).cells k _ (q8s_get xs k hlx)
      cases e2
      rw [Nat.zero_add] at hc2
      clear hlx
      have hk1 : (k : Int) < (m : Int) := by omega
      have hk2 : (0 : Int) ≤ (k : Int) := by omega
      go_wp2
      go_quiet (fail)
      go_wp2
      go_roundw
      case rel => exact ⟨k + 1, by omega, by go_num, rfl, ⟨hBr.os, hBr.tape, hBr.output, hBr.size, hBr.block⟩⟩
      case measure => simp [intOf]; omega
    · obtain rfl : k = m := by omega
      go_wp2_with fail
      refine (kept_any g c' A n c l wr (HR2.out.below hBr) (hL2.out.below hBr) (by omega)).mono ?_; rintro e w7 ⟨rfl, hB7'⟩
      have hB7 := hBr.trans (hB7'.mono hBr.size)
      clear hB7' hBr
      go_wp2_with fail
      refine (awake_any w7).mono ?_; rintro e w8 ⟨rfl, hB8⟩
      go_wp2
      go_ret
      exact ⟨rfl, hB2.trans ((hB7.trans (hB8.mono hB7.size)).mono hB2.size)⟩

end Go.Proofs.Ytnlninmjmjffcaa
