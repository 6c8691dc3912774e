/- Walk: Num of the reader, where the number is nought. Conditions: the reader is as Open made it. -/
import Derived.Test.YtondodhpmghogaaV2
namespace Go.Proofs.Ytondodhpmghogaa
open Go.RowKit
set_option linter.unusedVariables false
set_option linter.unusedSimpArgs false

set_option maxRecDepth 100000 in
set_option maxHeartbeats 4000000 in
theorem num_zlow {w : World} {R : Nat} {b off : Nat} {n c : Nat} {s : Rdr} (h : RdB w R (some ⟨b, off, none⟩) n c s) (lo hi : Int) (he0 : s.e = 0) (hm : (s.b[s.at_]?.getD 0).toNat = 0) (hsh : s.at_ + 1 ≤ s.b.length) (hv2 : (0 : Int) < lo) (hF : Fit ⟨s.b, s.at_, 5, s.at_⟩) :
    Calls Try.prog 37 #[.pointer (some ⟨R, 0, none⟩), .int .i64 lo, .int .i64 hi] w (RNumQ w R (some ⟨b, off, none⟩) n c (0, ⟨s.b, s.at_, 5, s.at_⟩)) := by
  have HV2_ := Lib.hid hv2
  clear hv2
  have c0 : w.cell? ⟨R, 0, none⟩ = some (.bool true) := blk_cell h.blk 0 _ rfl
  have c1 : w.cell? ⟨R, 1, none⟩ = some (.slice (some ⟨b, off, none⟩) n c) := blk_cell h.blk 1 _ rfl
  have c2 : w.cell? ⟨R, 2, none⟩ = some (.int .i64 s.at_) := blk_cell h.blk 2 _ rfl
  have c3 : w.cell? ⟨R, 3, none⟩ = some (.int .i64 s.e) := blk_cell h.blk 3 _ rfl
  have c4 : w.cell? ⟨R, 4, none⟩ = some (.int .i64 s.p) := blk_cell h.blk 4 _ rfl
  have f2 : w.frozen? ⟨R, 2, none⟩ = false := blk_thawed h.blk 2
  have f3 : w.frozen? ⟨R, 3, none⟩ = false := blk_thawed h.blk 3
  have f4 : w.frozen? ⟨R, 4, none⟩ = false := blk_thawed h.blk 4
  have hl := rdb_len h
  have h2 := h.fit.big
  have hc := h.rd.cap
  have hbig := h.rd.big
  rw [hl] at h2
  have H := Lib.hid h
  have hlt : s.at_ < n := by omega
  have hI0 : (0 : Int) ≤ (s.at_ : Int) := by omega
  have hI1 : (s.at_ : Int) < (n : Int) := by omega
  have hge : ¬ ((n : Int) ≤ (s.at_ : Int)) := by omega
  have g1 : (s.e != 0) = false := by simpa using he0
  have hcell := (h.rd.cells s.at_ _ (u8s_get s.b s.at_ (by omega)))
  obtain ⟨b', off', e', hcell⟩ := hcell
  cases e'
  rw [hm] at hcell
  have hcell : w.cell? ⟨b, off + s.at_, none⟩ = some (.int .u8 0) := hcell
  have hw1 : IntKind.i64.wrap ((n : Int) - s.at_) = (n : Int) - s.at_ := by rw [IntKind.wrap_i64]; omega
  have hw2 : IntKind.i64.wrap ((n : Int) - s.at_ - 1) = (n : Int) - s.at_ - 1 := by rw [IntKind.wrap_i64]; omega
  have g3 : decide ((n : Int) - s.at_ - 1 < 0) = false := by simp; omega
  have hw3 : IntKind.i64.wrap ((s.at_ : Int) + 1) = (s.at_ : Int) + 1 := by rw [IntKind.wrap_i64]; omega
  have HF := Lib.hid hF
  clear hF h hm
  have g6 : decide ((0 : Int) < lo) = true := decide_eq_true HV2_.out
  by_cases hca : c = s.at_ + 1
  · subst hca
    go_enter Try.func37, Try.ntmps37
    go_wp2_with fail
    refine wp_scope_fwd 0 rfl ?_
    go_wp2_with (go_at_call 71; refine (none_any c0).mono ?_; rintro e w1 ⟨rfl, rfl⟩)
    go_quiet (fail)
    go_wp2
    go_quiet (fail)
    go_wp2
    go_quiet (fail)
    go_wp2
    go_quiet (fail)
    go_wp2
    go_quiet (fail)
    go_wp2
    go_loop [7, 12, 86] (fun v x i => i = .int .i64 0 ∧ v = .int .u64 0) (fun _ _ _ => 0)
    case atStart => exact ⟨rfl, rfl⟩
    case round =>
      obtain ⟨rfl, rfl⟩ := hrel
      go_wp2
      go_quiet (fail)
      go_wp2
      go_quiet (fail)
      go_wp2
      go_step3
      refine ⟨rfl, ?_⟩
      go_wp2
      simp only [Exit.jump]
      go_ret
      exact num_fault H.out _ _ _ HF.out
  · go_enter Try.func37, Try.ntmps37
    go_wp2_with fail
    refine wp_scope_fwd 0 rfl ?_
    go_wp2_with (go_at_call 71; refine (none_any c0).mono ?_; rintro e w1 ⟨rfl, rfl⟩)
    go_quiet (fail)
    go_wp2
    go_quiet (fail)
    go_wp2
    go_quiet (fail)
    go_wp2
    go_quiet (fail)
    go_wp2
    go_quiet (fail)
    go_wp2
    go_loop [7, 12, 86] (fun v x i => i = .int .i64 0 ∧ v = .int .u64 0) (fun _ _ _ => 0)
    case atStart => exact ⟨rfl, rfl⟩
    case round =>
      obtain ⟨rfl, rfl⟩ := hrel
      go_wp2
      go_quiet (fail)
      go_wp2
      go_quiet (fail)
      go_wp2
      go_step3
      refine ⟨rfl, ?_⟩
      go_wp2
      simp only [Exit.jump]
      go_ret
      exact num_fault H.out _ _ _ HF.out
set_option maxRecDepth 100000 in
set_option maxHeartbeats 4000000 in
theorem num_zhigh {w : World} {R : Nat} {b off : Nat} {n c : Nat} {s : Rdr} (h : RdB w R (some ⟨b, off, none⟩) n c s) (lo hi : Int) (he0 : s.e = 0) (hm : (s.b[s.at_]?.getD 0).toNat = 0) (hsh : s.at_ + 1 ≤ s.b.length) (hv2 : ¬ (0 : Int) < lo) (hv3 : hi < (0 : Int)) (hF : Fit ⟨s.b, s.at_, 5, s.at_⟩) :
    Calls Try.prog 37 #[.pointer (some ⟨R, 0, none⟩), .int .i64 lo, .int .i64 hi] w (RNumQ w R (some ⟨b, off, none⟩) n c (0, ⟨s.b, s.at_, 5, s.at_⟩)) := by
  have HV3_ := Lib.hid hv3
  clear hv3
  have HV2_ := Lib.hid hv2
  clear hv2
  have c0 : w.cell? ⟨R, 0, none⟩ = some (.bool true) := blk_cell h.blk 0 _ rfl
  have c1 : w.cell? ⟨R, 1, none⟩ = some (.slice (some ⟨b, off, none⟩) n c) := blk_cell h.blk 1 _ rfl
  have c2 : w.cell? ⟨R, 2, none⟩ = some (.int .i64 s.at_) := blk_cell h.blk 2 _ rfl
  have c3 : w.cell? ⟨R, 3, none⟩ = some (.int .i64 s.e) := blk_cell h.blk 3 _ rfl
  have c4 : w.cell? ⟨R, 4, none⟩ = some (.int .i64 s.p) := blk_cell h.blk 4 _ rfl
  have f2 : w.frozen? ⟨R, 2, none⟩ = false := blk_thawed h.blk 2
  have f3 : w.frozen? ⟨R, 3, none⟩ = false := blk_thawed h.blk 3
  have f4 : w.frozen? ⟨R, 4, none⟩ = false := blk_thawed h.blk 4
  have hl := rdb_len h
  have h2 := h.fit.big
  have hc := h.rd.cap
  have hbig := h.rd.big
  rw [hl] at h2
  have H := Lib.hid h
  have hlt : s.at_ < n := by omega
  have hI0 : (0 : Int) ≤ (s.at_ : Int) := by omega
  have hI1 : (s.at_ : Int) < (n : Int) := by omega
  have hge : ¬ ((n : Int) ≤ (s.at_ : Int)) := by omega
  have g1 : (s.e != 0) = false := by simpa using he0
  have hcell := (h.rd.cells s.at_ _ (u8s_get s.b s.at_ (by omega)))
  obtain ⟨b', off', e', hcell⟩ := hcell
  cases e'
  rw [hm] at hcell
  have hcell : w.cell? ⟨b, off + s.at_, none⟩ = some (.int .u8 0) := hcell
  have hw1 : IntKind.i64.wrap ((n : Int) - s.at_) = (n : Int) - s.at_ := by rw [IntKind.wrap_i64]; omega
  have hw2 : IntKind.i64.wrap ((n : Int) - s.at_ - 1) = (n : Int) - s.at_ - 1 := by rw [IntKind.wrap_i64]; omega
  have g3 : decide ((n : Int) - s.at_ - 1 < 0) = false := by simp; omega
  have hw3 : IntKind.i64.wrap ((s.at_ : Int) + 1) = (s.at_ : Int) + 1 := by rw [IntKind.wrap_i64]; omega
  have HF := Lib.hid hF
  clear hF h hm
  have g6 : decide ((0 : Int) < lo) = false := decide_eq_false HV2_.out
  have g7 : decide (hi < (0 : Int)) = true := decide_eq_true HV3_.out
  by_cases hca : c = s.at_ + 1
  · subst hca
    go_enter Try.func37, Try.ntmps37
    go_wp2_with fail
    refine wp_scope_fwd 0 rfl ?_
    go_wp2_with (go_at_call 71; refine (none_any c0).mono ?_; rintro e w1 ⟨rfl, rfl⟩)
    go_quiet (fail)
    go_wp2
    go_quiet (fail)
    go_wp2
    go_quiet (fail)
    go_wp2
    go_quiet (fail)
    go_wp2
    go_quiet (fail)
    go_wp2
    go_loop [7, 12, 86] (fun v x i => i = .int .i64 0 ∧ v = .int .u64 0) (fun _ _ _ => 0)
    case atStart => exact ⟨rfl, rfl⟩
    case round =>
      obtain ⟨rfl, rfl⟩ := hrel
      go_wp2
      go_quiet (fail)
      go_wp2
      go_quiet (fail)
      go_wp2
      go_step3
      refine ⟨rfl, ?_⟩
      go_wp2
      simp only [Exit.jump]
      go_ret
      exact num_fault H.out _ _ _ HF.out
  · go_enter Try.func37, Try.ntmps37
    go_wp2_with fail
    refine wp_scope_fwd 0 rfl ?_
    go_wp2_with (go_at_call 71; refine (none_any c0).mono ?_; rintro e w1 ⟨rfl, rfl⟩)
    go_quiet (fail)
    go_wp2
    go_quiet (fail)
    go_wp2
    go_quiet (fail)
    go_wp2
    go_quiet (fail)
    go_wp2
    go_quiet (fail)
    go_wp2
    go_loop [7, 12, 86] (fun v x i => i = .int .i64 0 ∧ v = .int .u64 0) (fun _ _ _ => 0)
    case atStart => exact ⟨rfl, rfl⟩
    case round =>
      obtain ⟨rfl, rfl⟩ := hrel
      go_wp2
      go_quiet (fail)
      go_wp2
      go_quiet (fail)
      go_wp2
      go_step3
      refine ⟨rfl, ?_⟩
      go_wp2
      simp only [Exit.jump]
      go_ret
      exact num_fault H.out _ _ _ HF.out
set_option maxRecDepth 100000 in
set_option maxHeartbeats 4000000 in
theorem num_zfine {w : World} {R : Nat} {b off : Nat} {n c : Nat} {s : Rdr} (h : RdB w R (some ⟨b, off, none⟩) n c s) (lo hi : Int) (he0 : s.e = 0) (hm : (s.b[s.at_]?.getD 0).toNat = 0) (hsh : s.at_ + 1 ≤ s.b.length) (hv2 : ¬ (0 : Int) < lo) (hv3 : ¬ hi < (0 : Int)) (hF : Fit ⟨s.b, s.at_ + 1, 0, s.p⟩) :
    Calls Try.prog 37 #[.pointer (some ⟨R, 0, none⟩), .int .i64 lo, .int .i64 hi] w (RNumQ w R (some ⟨b, off, none⟩) n c (0, ⟨s.b, s.at_ + 1, 0, s.p⟩)) := by
  have HV3_ := Lib.hid hv3
  clear hv3
  have HV2_ := Lib.hid hv2
  clear hv2
  have c0 : w.cell? ⟨R, 0, none⟩ = some (.bool true) := blk_cell h.blk 0 _ rfl
  have c1 : w.cell? ⟨R, 1, none⟩ = some (.slice (some ⟨b, off, none⟩) n c) := blk_cell h.blk 1 _ rfl
  have c2 : w.cell? ⟨R, 2, none⟩ = some (.int .i64 s.at_) := blk_cell h.blk 2 _ rfl
  have c3 : w.cell? ⟨R, 3, none⟩ = some (.int .i64 s.e) := blk_cell h.blk 3 _ rfl
  have c4 : w.cell? ⟨R, 4, none⟩ = some (.int .i64 s.p) := blk_cell h.blk 4 _ rfl
  have f2 : w.frozen? ⟨R, 2, none⟩ = false := blk_thawed h.blk 2
  have f3 : w.frozen? ⟨R, 3, none⟩ = false := blk_thawed h.blk 3
  have f4 : w.frozen? ⟨R, 4, none⟩ = false := blk_thawed h.blk 4
  have hl := rdb_len h
  have h2 := h.fit.big
  have hc := h.rd.cap
  have hbig := h.rd.big
  rw [hl] at h2
  have H := Lib.hid h
  have hlt : s.at_ < n := by omega
  have hI0 : (0 : Int) ≤ (s.at_ : Int) := by omega
  have hI1 : (s.at_ : Int) < (n : Int) := by omega
  have hge : ¬ ((n : Int) ≤ (s.at_ : Int)) := by omega
  have g1 : (s.e != 0) = false := by simpa using he0
  have hcell := (h.rd.cells s.at_ _ (u8s_get s.b s.at_ (by omega)))
  obtain ⟨b', off', e', hcell⟩ := hcell
  cases e'
  rw [hm] at hcell
  have hcell : w.cell? ⟨b, off + s.at_, none⟩ = some (.int .u8 0) := hcell
  have hw1 : IntKind.i64.wrap ((n : Int) - s.at_) = (n : Int) - s.at_ := by rw [IntKind.wrap_i64]; omega
  have hw2 : IntKind.i64.wrap ((n : Int) - s.at_ - 1) = (n : Int) - s.at_ - 1 := by rw [IntKind.wrap_i64]; omega
  have g3 : decide ((n : Int) - s.at_ - 1 < 0) = false := by simp; omega
  have hw3 : IntKind.i64.wrap ((s.at_ : Int) + 1) = (s.at_ : Int) + 1 := by rw [IntKind.wrap_i64]; omega
  have HF := Lib.hid hF
  clear hF h hm
  have g6 : decide ((0 : Int) < lo) = false := decide_eq_false HV2_.out
  have g7 : decide (hi < (0 : Int)) = false := decide_eq_false HV3_.out
  by_cases hca : c = s.at_ + 1
  · subst hca
    go_enter Try.func37, Try.ntmps37
    go_wp2_with fail
    refine wp_scope_fwd 0 rfl ?_
    go_wp2_with (go_at_call 71; refine (none_any c0).mono ?_; rintro e w1 ⟨rfl, rfl⟩)
    go_quiet (fail)
    go_wp2
    go_quiet (fail)
    go_wp2
    go_quiet (fail)
    go_wp2
    go_quiet (fail)
    go_wp2
    go_quiet (fail)
    go_wp2
    go_loop [7, 12, 86] (fun v x i => i = .int .i64 0 ∧ v = .int .u64 0) (fun _ _ _ => 0)
    case atStart => exact ⟨rfl, rfl⟩
    case round =>
      obtain ⟨rfl, rfl⟩ := hrel
      go_wp2
      go_quiet (fail)
      go_wp2
      simp only [Exit.jump]
      go_ret
      exact num_ok0 H.out _ he0 HF.out
  · go_enter Try.func37, Try.ntmps37
    go_wp2_with fail
    refine wp_scope_fwd 0 rfl ?_
    go_wp2_with (go_at_call 71; refine (none_any c0).mono ?_; rintro e w1 ⟨rfl, rfl⟩)
    go_quiet (fail)
    go_wp2
    go_quiet (fail)
    go_wp2
    go_quiet (fail)
    go_wp2
    go_quiet (fail)
    go_wp2
    go_quiet (fail)
    go_wp2
    go_loop [7, 12, 86] (fun v x i => i = .int .i64 0 ∧ v = .int .u64 0) (fun _ _ _ => 0)
    case atStart => exact ⟨rfl, rfl⟩
    case round =>
      obtain ⟨rfl, rfl⟩ := hrel
      go_wp2
      go_quiet (fail)
      go_wp2
      simp only [Exit.jump]
      go_ret
      exact num_ok0 H.out _ he0 HF.out
end Go.Proofs.Ytondodhpmghogaa
