/- Walk: PrintKnown returns true. No conditions. -/
import Derived.Test.YtnlninmjmjffcaaTb
import Derived.Lib.SmallJoins
namespace Go.Proofs.Ytnlninmjmjffcaa
open Go.RowKit
set_option linter.unusedVariables false
set_option linter.unusedSimpArgs false

def rep (c : UInt8) (k : Nat) : ByteArray := ⟨(List.replicate k c).toArray⟩
theorem rep_size (c : UInt8) (k : Nat) : (rep c k).size = k := by show (List.replicate k c).toArray.size = k; simp
theorem rep_succ (c : UInt8) (k : Nat) : rep c k ++ (⟨#[c]⟩ : ByteArray) = rep c (k + 1) := by
  apply ByteArray.ext
  rw [ByteArray.data_append]
  simp [rep, List.replicate_succ', ← Array.toList_inj]
theorem fnv_a : fnv start [97] = ((12638187200555641996 : Nat) : Int) := by decide +kernel
theorem hex_a : hexText 12638187200555641996 16 = [97, 102, 54, 51, 100, 99, 52, 99, 56, 54, 48, 49, 101, 99, 56, 99] := by decide +kernel
theorem parse_none : parse [] = (0, 4, 0) := by decide +kernel
theorem parse_odd : parse (rep 71 16).data.toList = (0, 2, 0) := by decide +kernel
theorem parse_17 : parse (rep 48 17).data.toList = (0, 4, 16) := by decide +kernel

/-- two cells that stand from here on -/
structure Pair (w : World) (b : Nat) (x y : Value) : Prop where
  lt : b < w.heap.size
  c0 : w.cell? ⟨b, 0, none⟩ = some x
  c1 : w.cell? ⟨b, 1, none⟩ = some y
theorem pair_new (w : World) (x y : Value) (t : TypeId) : Pair (w.alloc (.cells #[x, y] t)) w.heap.size x y := ⟨by simp, by simp, by simp⟩
theorem pair_below {w w' : World} {b : Nat} {x y : Value} (h : Pair w b x y) (hB : Below w.heap.size w w') : Pair w' b x y :=
  ⟨Nat.lt_of_lt_of_le h.lt hB.size, below_cell hB h.c0, below_cell hB h.c1⟩

set_option maxRecDepth 100000 in
set_option maxHeartbeats 1000000 in
theorem known_any (w : World) : Calls Try.prog 6 #[] w (AwakeQ w) := by
  go_enter Try.func6, Try.ntmps6
  go_wp2
  go_loop [1, 2, 3] (fun o l i => ∃ (k : Nat) (so sl : ByteArray), k ≤ 17 ∧ i = .int .i64 k ∧ o = .string so ∧ l = .string sl ∧ Hid (so = rep 71 (min k 16)) ∧ Hid (sl = rep 48 k)) (fun _ _ i => 17 - (intOf i).toNat)
  case atStart => exact ⟨0, _, _, by omega, rfl, rfl, rfl, rfl, rfl⟩
  case round =>
    obtain ⟨k, so, sl, hk, rfl, rfl, rfl, hso, hsl⟩ := hrel
    have z1 : so.size ≤ 17 := by rw [hso.out, rep_size]; omega
    have z2 : sl.size ≤ 17 := by rw [hsl.out, rep_size]; omega
    by_cases hlt : k < 17
    · by_cases hlt2 : k < 16
      · go_wp2
        go_round
        case rel => exact ⟨k + 1, _, _, by omega, by go_num, rfl, rfl, (by show _ = _; rw [hso.out, show min k 16 = k from by omega, show min (k + 1) 16 = k + 1 from by omega]; exact rep_succ _ _), (by show _ = _; rw [hsl.out]; exact rep_succ _ _)⟩
        case measure => simp [intOf]; omega
      · go_wp2
        go_round
        case rel => exact ⟨k + 1, _, _, by omega, by go_num, rfl, rfl, (by show _ = _; rw [hso.out, show min k 16 = 16 from by omega, show min (k + 1) 16 = 16 from by omega]), (by show _ = _; rw [hsl.out]; exact rep_succ _ _)⟩
        case measure => simp [intOf]; omega
    · obtain rfl : k = 17 := by omega
      go_wp2_with fail
      refine (Parse_28 _ w (by decide)).mono ?_; rintro e w1 ⟨rfl, hB1⟩
      rw [show pVal (parse (⟨#[]⟩ : ByteArray).data.toList) = .tuple #[.int .u64 0, .agg #[.int .i64 4, .int .i64 0]] from by rw [show parse (⟨#[]⟩ : ByteArray).data.toList = (0, 4, 0) from parse_none]; rfl]
      go_wp2_with fail
      obtain ⟨wa, hwa⟩ : ∃ x, x = w1.alloc (.cells #[.int .i64 4, .int .i64 0] 37) := ⟨_, rfl⟩
      have pa : Pair wa w1.heap.size (.int .i64 4) (.int .i64 0) := by rw [hwa]; exact pair_new _ _ _ _
      have hBa : Below w.heap.size w wa := by rw [hwa]; exact hB1.alloc hB1.size _
      rw [← hwa]
      clear hwa hB1
      refine (Parse_28 _ wa (by omega)).mono ?_; rintro e w2 ⟨rfl, hB2⟩
      rw [show pVal (parse so.data.toList) = .tuple #[.int .u64 0, .agg #[.int .i64 2, .int .i64 0]] from by rw [hso.out, show min 17 16 = 16 from rfl, parse_odd]; rfl]
      go_wp2_with fail
      obtain ⟨wb, hwb⟩ : ∃ x, x = w2.alloc (.cells #[.int .i64 2, .int .i64 0] 37) := ⟨_, rfl⟩
      have hab : Below wa.heap.size wa wb := by rw [hwb]; exact hB2.alloc hB2.size _
      have pb : Pair wb w2.heap.size (.int .i64 2) (.int .i64 0) := by rw [hwb]; exact pair_new _ _ _ _
      rw [← hwb]
      clear hwb hB2
      refine (Parse_28 _ wb (by omega)).mono ?_; rintro e w3 ⟨rfl, hB3⟩
      rw [show pVal (parse sl.data.toList) = .tuple #[.int .u64 0, .agg #[.int .i64 4, .int .i64 16]] from by rw [hsl.out, parse_17]; rfl]
      have hcv := fun (w : World) (C : Array Value) (n c : Nat) => Lib.run_convert_bytes_const (P := Try.prog) w 22 5 C n c Try.underlying22 Try.underlying5
      go_wp2_with fail
      clear hcv
      obtain ⟨wc, hwc⟩ : ∃ x, x = w3.alloc (.cells #[.int .i64 4, .int .i64 16] 37) := ⟨_, rfl⟩
      have hbc : Below wb.heap.size wb wc := by rw [hwc]; exact hB3.alloc hB3.size _
      have pc : Pair wc w3.heap.size (.int .i64 4) (.int .i64 16) := by rw [hwc]; exact pair_new _ _ _ _
      have pb := pair_below pb hbc
      have pa := pair_below (pair_below pa hab) hbc
      have hBc := (hBa.trans (hab.mono hBa.size)).trans (hbc.mono (Nat.le_trans hBa.size hab.size))
      have hsz : wc.heap.size = w3.heap.size + 1 := by rw [hwc]; simp
      rw [← hwc]
      clear hab hbc hBa hB3 hwc
      have hcv : (convert 22 22 (.slice (some ⟨w3.heap.size + 1, 0, none⟩) 1 1)).run Try.prog (wc.alloc (.cells #[.int .u8 97] 5)) = .ok (.slice (some ⟨w3.heap.size + 1, 0, none⟩) 1 1) (wc.alloc (.cells #[.int .u8 97] 5 (1, 2))) :=
        Joins.run_convert_bytes_const_at wc 22 5 _ 1 1 _ hsz.symm Try.underlying22 Try.underlying5
      rw [hcv]
      clear hcv
      go_wp2_with fail
      have hBd := hBc.alloc hBc.size (.cells #[.int .u8 97] 5 (1, 2))
      have hcd := (Below.refl wc.heap.size wc).alloc (Nat.le_refl _) (.cells #[.int .u8 97] 5 (1, 2))
      rw [← hsz]
      refine (sum_any _ 1 1 [97] _ (rd_mark wc _ 5 (1, 2) 1 1 rfl (by omega))).mono ?_; rintro e w4 ⟨rfl, hB4⟩
      rw [fnv_a]
      have hc4 := hcd.trans (hB4.mono hcd.size)
      clear hB4 hBd hcd hsz
      go_wp2_with fail
      refine (text_any 12638187200555641996 (by decide) w4).mono ?_; rintro e w5 ⟨rfl, hB5⟩
      rw [hex_a]
      have hc5 := hc4.trans (hB5.mono hc4.size)
      clear hB5 hc4
      go_wp2_with fail
      have hc6 := hc5.alloc hc5.size (.cells #[.int .u64 97] 23)
      refine (mix_any _ 1 1 [97] _ (rd_lit w5 _ 23 1 1 rfl (by omega))).mono ?_; rintro e w6 ⟨rfl, hB6⟩
      rw [show mixf start [97] = fnv start [0, 0, 0, 0, 0, 0, 0, 97] from by decide +kernel]
      have hc7 := hc6.trans (hB6.mono hc6.size)
      clear hB6 hc6 hc5
      go_wp2_with fail
      have hc8 := hc7.alloc hc7.size (.cells #[.int .u8 0, .int .u8 0, .int .u8 0, .int .u8 0, .int .u8 0, .int .u8 0, .int .u8 0, .int .u8 97] 5)
      refine (sum_any _ 8 8 [0, 0, 0, 0, 0, 0, 0, 97] _ (rd_lit w6 _ 5 8 1 rfl (by omega))).mono ?_; rintro e w7 ⟨rfl, hB7⟩
      have hc9 := hc8.trans (hB7.mono hc8.size)
      clear hB7 hc8 hc7
      go_wp2_with fail
      refine (awake_any w7).mono ?_; rintro e w8 ⟨rfl, hB8⟩
      have hc10 := hc9.trans (hB8.mono hc9.size)
      clear hB8 hc9
      have pa := pair_below pa hc10
      have pb := pair_below pb hc10
      have pc := pair_below pc hc10
      have a0 := pa.c0
      have a1 := pa.c1
      have b0 := pb.c0
      have b1 := pb.c1
      have c0 := pc.c0
      have c1 := pc.c1
      clear pa pb pc
      go_wp2
      go_ret
      exact ⟨rfl, hBc.trans (hc10.mono hBc.size)⟩

end Go.Proofs.Ytnlninmjmjffcaa
