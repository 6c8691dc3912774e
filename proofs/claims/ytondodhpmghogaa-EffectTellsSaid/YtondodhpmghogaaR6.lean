/- Walk: Num of the reference's reader, a number that is told. Conditions: the reader as Open made it. -/
import Derived.Test.YtondodhpmghogaaR2
namespace Go.Proofs.Ytondodhpmghogaa
open Go.RowKit
set_option linter.unusedVariables false
set_option linter.unusedSimpArgs false

set_option maxRecDepth 100000 in
set_option maxHeartbeats 4000000 in
theorem rn_fine {w : World} {V : Nat} {b off : Nat} {n c : Nat} {s : Rdr} (h : RRd w V (some ⟨b, off, none⟩) n c s) (lo hi : Int) (he0 : s.e = 0) (m : Nat) (hm : m = (s.b[s.at_]?.getD 0).toNat) (h8 : m ≤ 8) (hsh : s.at_ + 1 + m ≤ s.b.length) (xs : List UInt8) (hxs : xs = (s.b.drop (s.at_ + 1)).take m) (U : Nat) (hU : U = valB xs) (hmp : 0 < m) (hy : s.b[s.at_ + 1]?.getD 0 ≠ 0) (hk : m = 8 → (s.b[s.at_ + 1]?.getD 0).toNat ≤ 63) (hv : U ≤ 4611686018427387903) (hv2 : ¬ (U : Int) < lo) (hv3 : ¬ hi < (U : Int)) (hF : Fit ⟨s.b, s.at_ + 1 + m, 0, s.p⟩) :
    Calls Try.prog 68 #[.pointer (some ⟨V, 0, none⟩), .int .i64 lo, .int .i64 hi] w (RRNumQ w V (some ⟨b, off, none⟩) n c ((U : Int), ⟨s.b, s.at_ + 1 + m, 0, s.p⟩)) := by
  have HV3_ := Lib.hid hv3
  clear hv3
  have HV2_ := Lib.hid hv2
  clear hv2
  have HV_ := Lib.hid hv
  clear hv
  have c0 : w.cell? ⟨V, 0, none⟩ = some (.slice (some ⟨b, off, none⟩) n c) := blk_cell h.blk 0 _ rfl
  have c1 : w.cell? ⟨V, 1, none⟩ = some (.int .i64 s.at_) := blk_cell h.blk 1 _ rfl
  have c2 : w.cell? ⟨V, 2, none⟩ = some (.int .i64 s.e) := blk_cell h.blk 2 _ rfl
  have c3 : w.cell? ⟨V, 3, none⟩ = some (.int .i64 s.p) := blk_cell h.blk 3 _ rfl
  have f1 : w.frozen? ⟨V, 1, none⟩ = false := blk_thawed h.blk 1
  have hl := rrd_len h
  have h2 := h.fit.big
  rw [hl] at h2
  have H := Lib.hid h
  rw [hl] at hsh
  have hlt : s.at_ < n := by omega
  have hI0 : (0 : Int) ≤ (s.at_ : Int) := by omega
  have hI1 : (s.at_ : Int) < (n : Int) := by omega
  have hge : ¬ ((n : Int) ≤ (s.at_ : Int)) := by omega
  have g1 : (s.e != 0) = false := by simpa using he0
  have hcell := (h.rd.cells s.at_ _ (u8s_get s.b s.at_ (by omega)))
  obtain ⟨b', off', e', hcell⟩ := hcell
  cases e'
  rw [← hm] at hcell
  have hwm : Go.RowKit.wrap64 (m : Int) = (m : Int) := wrap64_id _ (by omega) (by omega)
  have h8' : ¬ ((8 : Int) < (m : Int)) := by omega
  have g2 : decide ((8 : Int) < (m : Int)) = false := decide_eq_false h8'
  have hw1 : IntKind.i64.wrap ((n : Int) - s.at_) = (n : Int) - s.at_ := by rw [IntKind.wrap_i64]; omega
  have hw2 : IntKind.i64.wrap ((n : Int) - s.at_ - 1) = (n : Int) - s.at_ - 1 := by rw [IntKind.wrap_i64]; omega
  have hsh' : ¬ ((n : Int) - s.at_ - 1 < (m : Int)) := by omega
  have g3 : decide ((n : Int) - s.at_ - 1 < (m : Int)) = false := decide_eq_false hsh'
  have hw3 : IntKind.i64.wrap ((s.at_ : Int) + 1) = (s.at_ : Int) + 1 := by rw [IntKind.wrap_i64]; omega
  have hw4 : IntKind.i64.wrap ((s.at_ : Int) + 1 + m) = (s.at_ : Int) + 1 + m := by rw [IntKind.wrap_i64]; omega
  have hxl : xs.length = m := by rw [hxs, List.length_take, List.length_drop]; omega
  have hcy := h.rd.cells (s.at_ + 1) _ (u8s_get s.b (s.at_ + 1) (by omega))
  obtain ⟨b', off', e', hcy⟩ := hcy
  cases e'
  have hJ0 : (0 : Int) ≤ (s.at_ : Int) + 1 := by omega
  have hJ1 : (s.at_ : Int) + 1 < (n : Int) := by omega
  have hmp' : (0 : Int) < (m : Int) := by omega
  have hyn : (s.b[s.at_ + 1]?.getD 0).toNat ≠ 0 := fun e => hy (UInt8.toNat_inj.1 (by simpa using e))
  obtain ⟨Y, hY⟩ : ∃ Y, Y = (s.b[s.at_ + 1]?.getD 0).toNat := ⟨_, rfl⟩
  rw [← hY] at hcy hyn hk
  have hy0 : ((Y : Int) == 0) = false := by simp; omega
  have HY := Lib.hid hY
  clear hY hy hyn
  have HK_ := Lib.hid hk
  clear hk
  have g6 : decide ((U : Int) < lo) = false := decide_eq_false HV2_.out
  have g7 : decide (hi < (U : Int)) = false := decide_eq_false HV3_.out
  have HE0_ := Lib.hid he0
  have HXS := Lib.hid hxs; have HXL := Lib.hid hxl; have HU := Lib.hid hU; have HM := Lib.hid hm
  clear he0 hm hxs hxl hU
  have HF := Lib.hid hF
  clear hF h
  by_cases hm8 : m = 8
  · have g8 : ((m : Int) == 8) = true := by simp; omega
    have hk' : ¬ ((63 : Int) < (Y : Int)) := by have := HK_.out; omega
    have gk : decide ((63 : Int) < (Y : Int)) = false := decide_eq_false hk'
    clear hm8
    go_enter Try.func68, Try.ntmps68
    go_wp2_with fail
    go_quiet (fail)
    go_wp2_with fail
    go_quiet (fail)
    go_wp2_with fail
    go_quiet (fail)
    go_wp2_with fail
    go_quiet (fail)
    go_wp2_with fail
    go_quiet (fail)
    go_wp2_with fail
    go_loopw [8, 9] (fun v i wr => ∃ k j : Nat, wr = w.drewN k ∧ j ≤ m ∧ i = .int .i64 j ∧ v = .int .i64 ((valB (xs.take j) : Nat) : Int)) (fun _ i _ => m - (intOf i).toNat)
    case atStart => exact ⟨_, 0, drewN4 _ _ _ _ _, Nat.zero_le _, rfl, rfl⟩
    case round =>
      obtain ⟨k, j, rfl, hj, rfl, rfl⟩ := hrel
      by_cases hlt2 : j < m
      · have HSTEP := Lib.hid (valB_step xs j (by rw [HXL.out]; exact hlt2) (by rw [HXL.out]; omega)).1
        have hle := valB_take_le xs (j + 1)
        rw [HSTEP.out, ← HU.out] at hle
        have hcj := H.out.rd.cells (s.at_ + 1 + j) _ (u8s_get s.b (s.at_ + 1 + j) (by omega))
        obtain ⟨b', off', e', hcj⟩ := hcj
        cases e'
        rw [← hxj xs s.b s.at_ m j HXS.out hlt2] at hcj
        have hx256 : (xs[j]?.getD 0).toNat < 256 := UInt8.toNat_lt _
        generalize (xs[j]?.getD 0).toNat = x at hcj HSTEP hle hx256
        generalize valB (xs.take j) = W at HSTEP hle
        have hle2 := HV_.out
        have hp1 : IntKind.i64.wrap (256 * (W : Int)) = 256 * (W : Int) := by rw [IntKind.wrap_i64]; omega
        have hp2 : IntKind.i64.wrap (256 * (W : Int) + x) = 256 * (W : Int) + x := by rw [IntKind.wrap_i64]; omega
        have hp3 : IntKind.i64.wrap ((s.at_ : Int) + 1 + j) = (s.at_ : Int) + 1 + j := by rw [IntKind.wrap_i64]; omega
        have hi0 : (0 : Int) ≤ (s.at_ : Int) + 1 + j := by omega
        have hi1 : (s.at_ : Int) + 1 + j < (n : Int) := by omega
        have hi2 : (j : Int) < (m : Int) := by omega
        clear hle hle2
        go_wp2_with fail
        go_quiet (fail)
        go_wp2
        go_roundw
        case rel => exact ⟨_, j + 1, rfl, by omega, by go_num, by rw [HSTEP.out]; go_num⟩
        case measure => simp [intOf]; omega
      · obtain rfl : m = j := by omega
        rw [List.take_of_length_le (by rw [HXL.out]; exact Nat.le_refl _), ← HU.out]
        clear hlt2 hj
        have hcc := ch_set (ch_drewN (fun k => k = V) w k) ⟨V, 1, none⟩ (.int .i64 ((s.at_ : Int) + 1 + m)) rfl
        have hbl := blk_set (blk_ch H.out.blk (ch_drewN No w k) id) 1 (.int .i64 ((s.at_ : Int) + 1 + m))
        go_wp2_with fail
        go_ret
        refine ⟨rfl, rrd_set H.out _ _ rfl HF.out hcc ?_, hcc⟩
        have e9 : ((s.at_ + 1 + m : Nat) : Int) = (s.at_ : Int) + 1 + m := by omega
        rw [HE0_.out] at hbl
        simp only [e9]
        exact hbl
  · have g8 : ((m : Int) == 8) = false := by simp; omega
    clear hm8
    go_enter Try.func68, Try.ntmps68
    go_wp2_with fail
    go_quiet (fail)
    go_wp2_with fail
    go_quiet (fail)
    go_wp2_with fail
    go_quiet (fail)
    go_wp2_with fail
    go_quiet (fail)
    go_wp2_with fail
    go_quiet (fail)
    go_wp2_with fail
    go_loopw [8, 9] (fun v i wr => ∃ k j : Nat, wr = w.drewN k ∧ j ≤ m ∧ i = .int .i64 j ∧ v = .int .i64 ((valB (xs.take j) : Nat) : Int)) (fun _ i _ => m - (intOf i).toNat)
    case atStart => exact ⟨_, 0, drewN4 _ _ _ _ _, Nat.zero_le _, rfl, rfl⟩
    case round =>
      obtain ⟨k, j, rfl, hj, rfl, rfl⟩ := hrel
      by_cases hlt2 : j < m
      · have HSTEP := Lib.hid (valB_step xs j (by rw [HXL.out]; exact hlt2) (by rw [HXL.out]; omega)).1
        have hle := valB_take_le xs (j + 1)
        rw [HSTEP.out, ← HU.out] at hle
        have hcj := H.out.rd.cells (s.at_ + 1 + j) _ (u8s_get s.b (s.at_ + 1 + j) (by omega))
        obtain ⟨b', off', e', hcj⟩ := hcj
        cases e'
        rw [← hxj xs s.b s.at_ m j HXS.out hlt2] at hcj
        have hx256 : (xs[j]?.getD 0).toNat < 256 := UInt8.toNat_lt _
        generalize (xs[j]?.getD 0).toNat = x at hcj HSTEP hle hx256
        generalize valB (xs.take j) = W at HSTEP hle
        have hle2 := HV_.out
        have hp1 : IntKind.i64.wrap (256 * (W : Int)) = 256 * (W : Int) := by rw [IntKind.wrap_i64]; omega
        have hp2 : IntKind.i64.wrap (256 * (W : Int) + x) = 256 * (W : Int) + x := by rw [IntKind.wrap_i64]; omega
        have hp3 : IntKind.i64.wrap ((s.at_ : Int) + 1 + j) = (s.at_ : Int) + 1 + j := by rw [IntKind.wrap_i64]; omega
        have hi0 : (0 : Int) ≤ (s.at_ : Int) + 1 + j := by omega
        have hi1 : (s.at_ : Int) + 1 + j < (n : Int) := by omega
        have hi2 : (j : Int) < (m : Int) := by omega
        clear hle hle2
        go_wp2_with fail
        go_quiet (fail)
        go_wp2
        go_roundw
        case rel => exact ⟨_, j + 1, rfl, by omega, by go_num, by rw [HSTEP.out]; go_num⟩
        case measure => simp [intOf]; omega
      · obtain rfl : m = j := by omega
        rw [List.take_of_length_le (by rw [HXL.out]; exact Nat.le_refl _), ← HU.out]
        clear hlt2 hj
        have hcc := ch_set (ch_drewN (fun k => k = V) w k) ⟨V, 1, none⟩ (.int .i64 ((s.at_ : Int) + 1 + m)) rfl
        have hbl := blk_set (blk_ch H.out.blk (ch_drewN No w k) id) 1 (.int .i64 ((s.at_ : Int) + 1 + m))
        go_wp2_with fail
        go_ret
        refine ⟨rfl, rrd_set H.out _ _ rfl HF.out hcc ?_, hcc⟩
        have e9 : ((s.at_ + 1 + m : Nat) : Int) = (s.at_ : Int) + 1 + m := by omega
        rw [HE0_.out] at hbl
        simp only [e9]
        exact hbl
end Go.Proofs.Ytondodhpmghogaa
