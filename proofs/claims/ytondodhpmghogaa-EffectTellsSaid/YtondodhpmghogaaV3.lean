/- Walk: Num of the reader, where the number begins with a nought. Conditions: the reader is as Open made it. -/
import Derived.Test.YtondodhpmghogaaV2
namespace Go.Proofs.Ytondodhpmghogaa
open Go.RowKit
set_option linter.unusedVariables false
set_option linter.unusedSimpArgs false

set_option maxRecDepth 100000 in
set_option maxHeartbeats 4000000 in
theorem num_nought {w : World} {R : Nat} {b off : Nat} {n c : Nat} {s : Rdr} (h : RdB w R (some ⟨b, off, none⟩) n c s) (lo hi : Int) (he0 : s.e = 0) (m : Nat) (hm : m = (s.b[s.at_]?.getD 0).toNat) (h8 : m ≤ 8) (hsh : s.at_ + 1 + m ≤ s.b.length) (xs : List UInt8) (hxs : xs = (s.b.drop (s.at_ + 1)).take m) (V : Nat) (hV : V = valB xs) (hmp : 0 < m) (hy : s.b[s.at_ + 1]?.getD 0 = 0) (hF : Fit ⟨s.b, s.at_, 2, s.at_⟩) :
    Calls Try.prog 37 #[.pointer (some ⟨R, 0, none⟩), .int .i64 lo, .int .i64 hi] w (RNumQ w R (some ⟨b, off, none⟩) n c (0, ⟨s.b, s.at_, 2, s.at_⟩)) := by
  have c0 : w.cell? ⟨R, 0, none⟩ = some (.bool true) := blk_cell h.blk 0 _ rfl
  have c1 : w.cell? ⟨R, 1, none⟩ = some (.slice (some ⟨b, off, none⟩) n c) := blk_cell h.blk 1 _ rfl
  have c2 : w.cell? ⟨R, 2, none⟩ = some (.int .i64 s.at_) := blk_cell h.blk 2 _ rfl
  have c3 : w.cell? ⟨R, 3, none⟩ = some (.int .i64 s.e) := blk_cell h.blk 3 _ rfl
  have c4 : w.cell? ⟨R, 4, none⟩ = some (.int .i64 s.p) := blk_cell h.blk 4 _ rfl
  have f2 : w.frozen? ⟨R, 2, none⟩ = false := blk_thawed h.blk 2
  have f3 : w.frozen? ⟨R, 3, none⟩ = false := blk_thawed h.blk 3
  have f4 : w.frozen? ⟨R, 4, none⟩ = false := blk_thawed h.blk 4
  have hl := rdb_len h
  have h2 := h.fit.big
  have hc := h.rd.cap
  have hbig := h.rd.big
  rw [hl] at h2
  have H := Lib.hid h
  have hlt : s.at_ < n := by omega
  have hI0 : (0 : Int) ≤ (s.at_ : Int) := by omega
  have hI1 : (s.at_ : Int) < (n : Int) := by omega
  have hge : ¬ ((n : Int) ≤ (s.at_ : Int)) := by omega
  have g1 : (s.e != 0) = false := by simpa using he0
  have hcell := (h.rd.cells s.at_ _ (u8s_get s.b s.at_ (by omega)))
  obtain ⟨b', off', e', hcell⟩ := hcell
  cases e'
  rw [← hm] at hcell
  have hwm : Go.RowKit.wrap64 (m : Int) = (m : Int) := by unfold Go.RowKit.wrap64; omega
  have h8' : ¬ ((8 : Int) < (m : Int)) := by omega
  have g2 : decide ((8 : Int) < (m : Int)) = false := decide_eq_false h8'
  have hw1 : IntKind.i64.wrap ((n : Int) - s.at_) = (n : Int) - s.at_ := by rw [IntKind.wrap_i64]; omega
  have hw2 : IntKind.i64.wrap ((n : Int) - s.at_ - 1) = (n : Int) - s.at_ - 1 := by rw [IntKind.wrap_i64]; omega
  have g3 : decide ((n : Int) - s.at_ - 1 < (m : Int)) = false := by simp; omega
  have hw3 : IntKind.i64.wrap ((s.at_ : Int) + 1) = (s.at_ : Int) + 1 := by rw [IntKind.wrap_i64]; omega
  have hw4 : IntKind.i64.wrap ((s.at_ : Int) + 1 + m) = (s.at_ : Int) + 1 + m := by rw [IntKind.wrap_i64]; omega
  have hxl : xs.length = m := by rw [hxs, List.length_take, List.length_drop]; omega
  have hVb : V < 18446744073709551616 := by rw [hV]; exact valB_lt8 xs (by omega)
  have HXS := Lib.hid hxs; have HXL := Lib.hid hxl; have HV := Lib.hid hV; have HM := Lib.hid hm
  have HF := Lib.hid hF
  clear hxs hxl hV hm h hF
  have hcy := H.out.rd.cells (s.at_ + 1) _ (u8s_get s.b (s.at_ + 1) (by omega))
  obtain ⟨b', off', e', hcy⟩ := hcy
  cases e'
  have hJ0 : (0 : Int) ≤ (s.at_ : Int) + 1 := by omega
  have hJ1 : (s.at_ : Int) + 1 < (n : Int) := by omega
  have hmp' : (0 : Int) < (m : Int) := by omega
  rw [hy] at hcy
  have hcy : w.cell? ⟨b, off + (s.at_ + 1), none⟩ = some (.int .u8 0) := hcy
  have hca : c ≠ s.at_ + 1 := by omega
  go_enter Try.func37, Try.ntmps37
  go_wp2_with fail
  refine wp_scope_fwd 0 rfl ?_
  go_wp2_with (go_at_call 71; refine (none_any c0).mono ?_; rintro e w1 ⟨rfl, rfl⟩)
  go_quiet (fail)
  go_wp2
  go_quiet (fail)
  go_wp2
  go_quiet (fail)
  go_wp2
  go_quiet (fail)
  go_wp2
  go_quiet (fail)
  go_wp2
  go_loop [7, 12, 86] (fun v x i => ∃ j : Nat, j ≤ m ∧ i = .int .i64 j ∧ v = .int .u64 ((valB (xs.take j) : Nat) : Int)) (fun _ _ i => m - (intOf i).toNat)
  case atStart => exact ⟨0, Nat.zero_le _, rfl, rfl⟩
  case round =>
    obtain ⟨j, hj, rfl, rfl⟩ := hrel
    by_cases hlt2 : j < m
    · have HSTEP := Lib.hid (valB_step xs j (by rw [HXL.out]; exact hlt2) (by rw [HXL.out]; omega))
      have hcj := H.out.rd.cells (s.at_ + 1 + j) _ (u8s_get s.b (s.at_ + 1 + j) (by omega))
      obtain ⟨b', off', e', hcj⟩ := hcj
      cases e'
      rw [show off + (s.at_ + 1 + j) = off + (s.at_ + 1) + j by omega] at hcj
      rw [← hxj xs s.b s.at_ m j HXS.out hlt2] at hcj
      generalize hxv : (xs[j]?.getD 0).toNat = x at hcj HSTEP
      generalize hvv : valB (xs.take j) = W at HSTEP
      have hx256 : x < 256 := by rw [← hxv]; exact UInt8.toNat_lt _
      clear hxv hvv
      have hi0 : (0 : Int) ≤ (j : Int) := by omega
      have hi1 : (j : Int) < (m : Int) := by omega
      have HO := Lib.hid (shl_step W x HSTEP.out.2 hx256)
      go_wp2
      go_round
      case rel => exact ⟨_, _, _, ⟨j + 1, by omega, by go_num, by rw [HSTEP.out.1, HO.out]⟩, rfl, rfl, rfl⟩
      case measure => simp [intOf]; omega
    · obtain rfl : m = j := by omega
      rw [List.take_of_length_le (by rw [HXL.out]; exact Nat.le_refl _), ← HV.out]
      clear hlt2 hj
      go_wp2
      go_quiet (fail)
      go_wp2
      go_quiet (fail)
      go_wp2
      go_step3
      refine ⟨rfl, ?_⟩
      go_wp2
      simp only [Exit.jump]
      go_ret
      exact num_fault H.out _ _ _ HF.out
end Go.Proofs.Ytondodhpmghogaa
