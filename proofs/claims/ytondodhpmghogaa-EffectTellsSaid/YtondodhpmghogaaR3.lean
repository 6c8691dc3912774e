/- Walk: Num of the reference's reader, a leading nought, a number too great. Conditions: the reader as Open made it. -/
import Derived.Test.YtondodhpmghogaaR2
namespace Go.Proofs.Ytondodhpmghogaa
open Go.RowKit
set_option linter.unusedVariables false
set_option linter.unusedSimpArgs false

set_option maxRecDepth 100000 in
set_option maxHeartbeats 4000000 in
theorem rn_nought {w : World} {V : Nat} {b off : Nat} {n c : Nat} {s : Rdr} (h : RRd w V (some ⟨b, off, none⟩) n c s) (lo hi : Int) (he0 : s.e = 0) (m : Nat) (hm : m = (s.b[s.at_]?.getD 0).toNat) (h8 : m ≤ 8) (hsh : s.at_ + 1 + m ≤ s.b.length) (xs : List UInt8) (hxs : xs = (s.b.drop (s.at_ + 1)).take m) (U : Nat) (hU : U = valB xs) (hmp : 0 < m) (hy : s.b[s.at_ + 1]?.getD 0 = 0) (hF : Fit ⟨s.b, s.at_, 2, s.at_⟩) :
    Calls Try.prog 68 #[.pointer (some ⟨V, 0, none⟩), .int .i64 lo, .int .i64 hi] w (RRNumQ w V (some ⟨b, off, none⟩) n c (0, ⟨s.b, s.at_, 2, s.at_⟩)) := by
  have c0 : w.cell? ⟨V, 0, none⟩ = some (.slice (some ⟨b, off, none⟩) n c) := blk_cell h.blk 0 _ rfl
  have c1 : w.cell? ⟨V, 1, none⟩ = some (.int .i64 s.at_) := blk_cell h.blk 1 _ rfl
  have c2 : w.cell? ⟨V, 2, none⟩ = some (.int .i64 s.e) := blk_cell h.blk 2 _ rfl
  have c3 : w.cell? ⟨V, 3, none⟩ = some (.int .i64 s.p) := blk_cell h.blk 3 _ rfl
  have f1 : w.frozen? ⟨V, 1, none⟩ = false := blk_thawed h.blk 1
  have hl := rrd_len h
  have h2 := h.fit.big
  rw [hl] at h2
  have H := Lib.hid h
  rw [hl] at hsh
  have hlt : s.at_ < n := by omega
  have hI0 : (0 : Int) ≤ (s.at_ : Int) := by omega
  have hI1 : (s.at_ : Int) < (n : Int) := by omega
  have hge : ¬ ((n : Int) ≤ (s.at_ : Int)) := by omega
  have g1 : (s.e != 0) = false := by simpa using he0
  have hcell := (h.rd.cells s.at_ _ (u8s_get s.b s.at_ (by omega)))
  obtain ⟨b', off', e', hcell⟩ := hcell
  cases e'
  rw [← hm] at hcell
  have hwm : Go.RowKit.wrap64 (m : Int) = (m : Int) := wrap64_id _ (by omega) (by omega)
  have h8' : ¬ ((8 : Int) < (m : Int)) := by omega
  have g2 : decide ((8 : Int) < (m : Int)) = false := decide_eq_false h8'
  have hw1 : IntKind.i64.wrap ((n : Int) - s.at_) = (n : Int) - s.at_ := by rw [IntKind.wrap_i64]; omega
  have hw2 : IntKind.i64.wrap ((n : Int) - s.at_ - 1) = (n : Int) - s.at_ - 1 := by rw [IntKind.wrap_i64]; omega
  have hsh' : ¬ ((n : Int) - s.at_ - 1 < (m : Int)) := by omega
  have g3 : decide ((n : Int) - s.at_ - 1 < (m : Int)) = false := decide_eq_false hsh'
  have hw3 : IntKind.i64.wrap ((s.at_ : Int) + 1) = (s.at_ : Int) + 1 := by rw [IntKind.wrap_i64]; omega
  have hw4 : IntKind.i64.wrap ((s.at_ : Int) + 1 + m) = (s.at_ : Int) + 1 + m := by rw [IntKind.wrap_i64]; omega
  have hxl : xs.length = m := by rw [hxs, List.length_take, List.length_drop]; omega
  have hcy := h.rd.cells (s.at_ + 1) _ (u8s_get s.b (s.at_ + 1) (by omega))
  obtain ⟨b', off', e', hcy⟩ := hcy
  cases e'
  have hJ0 : (0 : Int) ≤ (s.at_ : Int) + 1 := by omega
  have hJ1 : (s.at_ : Int) + 1 < (n : Int) := by omega
  have hmp' : (0 : Int) < (m : Int) := by omega
  rw [hy] at hcy
  have hcy : w.cell? ⟨b, off + (s.at_ + 1), none⟩ = some (.int .u8 0) := hcy
  have HE0_ := Lib.hid he0
  have HXS := Lib.hid hxs; have HXL := Lib.hid hxl; have HU := Lib.hid hU; have HM := Lib.hid hm
  clear he0 hm hxs hxl hU
  have HF := Lib.hid hF
  clear hF h
  go_enter Try.func68, Try.ntmps68
  go_wp2_with fail
  go_quiet (fail)
  go_wp2_with fail
  go_quiet (fail)
  go_wp2_with fail
  go_quiet (fail)
  go_wp2_with fail
  go_quiet (fail)
  go_wp2_with fail
  refine (fail_any (rrd_ch H.out (ch_drewN No _ _) id (fun _ _ _ => id)) HE0_.out 2 s.at_ HF.out).mono ?_
  rintro e w2 hQ
  obtain ⟨he, hQ2⟩ := rrnumq_of (ch_drewN _ _ _) hQ
  cases he
  go_wp2
  go_ret
  exact ⟨rfl, hQ2⟩
set_option maxRecDepth 100000 in
set_option maxHeartbeats 4000000 in
theorem rn_top {w : World} {V : Nat} {b off : Nat} {n c : Nat} {s : Rdr} (h : RRd w V (some ⟨b, off, none⟩) n c s) (lo hi : Int) (he0 : s.e = 0) (m : Nat) (hm : m = (s.b[s.at_]?.getD 0).toNat) (h8 : m ≤ 8) (hm8 : m = 8) (hsh : s.at_ + 1 + m ≤ s.b.length) (xs : List UInt8) (hxs : xs = (s.b.drop (s.at_ + 1)).take m) (U : Nat) (hU : U = valB xs) (hy : s.b[s.at_ + 1]?.getD 0 ≠ 0) (hk : 63 < (s.b[s.at_ + 1]?.getD 0).toNat) (hF : Fit ⟨s.b, s.at_, 5, s.at_⟩) :
    Calls Try.prog 68 #[.pointer (some ⟨V, 0, none⟩), .int .i64 lo, .int .i64 hi] w (RRNumQ w V (some ⟨b, off, none⟩) n c (0, ⟨s.b, s.at_, 5, s.at_⟩)) := by
  have c0 : w.cell? ⟨V, 0, none⟩ = some (.slice (some ⟨b, off, none⟩) n c) := blk_cell h.blk 0 _ rfl
  have c1 : w.cell? ⟨V, 1, none⟩ = some (.int .i64 s.at_) := blk_cell h.blk 1 _ rfl
  have c2 : w.cell? ⟨V, 2, none⟩ = some (.int .i64 s.e) := blk_cell h.blk 2 _ rfl
  have c3 : w.cell? ⟨V, 3, none⟩ = some (.int .i64 s.p) := blk_cell h.blk 3 _ rfl
  have f1 : w.frozen? ⟨V, 1, none⟩ = false := blk_thawed h.blk 1
  have hl := rrd_len h
  have h2 := h.fit.big
  rw [hl] at h2
  have H := Lib.hid h
  rw [hl] at hsh
  have hlt : s.at_ < n := by omega
  have hI0 : (0 : Int) ≤ (s.at_ : Int) := by omega
  have hI1 : (s.at_ : Int) < (n : Int) := by omega
  have hge : ¬ ((n : Int) ≤ (s.at_ : Int)) := by omega
  have g1 : (s.e != 0) = false := by simpa using he0
  have hcell := (h.rd.cells s.at_ _ (u8s_get s.b s.at_ (by omega)))
  obtain ⟨b', off', e', hcell⟩ := hcell
  cases e'
  rw [← hm] at hcell
  have hwm : Go.RowKit.wrap64 (m : Int) = (m : Int) := wrap64_id _ (by omega) (by omega)
  have h8' : ¬ ((8 : Int) < (m : Int)) := by omega
  have g2 : decide ((8 : Int) < (m : Int)) = false := decide_eq_false h8'
  have hw1 : IntKind.i64.wrap ((n : Int) - s.at_) = (n : Int) - s.at_ := by rw [IntKind.wrap_i64]; omega
  have hw2 : IntKind.i64.wrap ((n : Int) - s.at_ - 1) = (n : Int) - s.at_ - 1 := by rw [IntKind.wrap_i64]; omega
  have hsh' : ¬ ((n : Int) - s.at_ - 1 < (m : Int)) := by omega
  have g3 : decide ((n : Int) - s.at_ - 1 < (m : Int)) = false := decide_eq_false hsh'
  have hw3 : IntKind.i64.wrap ((s.at_ : Int) + 1) = (s.at_ : Int) + 1 := by rw [IntKind.wrap_i64]; omega
  have hw4 : IntKind.i64.wrap ((s.at_ : Int) + 1 + m) = (s.at_ : Int) + 1 + m := by rw [IntKind.wrap_i64]; omega
  have hxl : xs.length = m := by rw [hxs, List.length_take, List.length_drop]; omega
  have hcy := h.rd.cells (s.at_ + 1) _ (u8s_get s.b (s.at_ + 1) (by omega))
  obtain ⟨b', off', e', hcy⟩ := hcy
  cases e'
  have hJ0 : (0 : Int) ≤ (s.at_ : Int) + 1 := by omega
  have hJ1 : (s.at_ : Int) + 1 < (n : Int) := by omega
  have hmp' : (0 : Int) < (m : Int) := by omega
  have hyn : (s.b[s.at_ + 1]?.getD 0).toNat ≠ 0 := fun e => hy (UInt8.toNat_inj.1 (by simpa using e))
  obtain ⟨Y, hY⟩ : ∃ Y, Y = (s.b[s.at_ + 1]?.getD 0).toNat := ⟨_, rfl⟩
  rw [← hY] at hcy hyn hk
  have hy0 : ((Y : Int) == 0) = false := by simp; omega
  have HY := Lib.hid hY
  clear hY hy hyn
  have hk' : (63 : Int) < (Y : Int) := by omega
  have gk : decide ((63 : Int) < (Y : Int)) = true := decide_eq_true hk'
  have g8 : ((m : Int) == 8) = true := by simp; omega
  have hmp : 0 < m := by omega
  clear hk hm8
  have HE0_ := Lib.hid he0
  have HXS := Lib.hid hxs; have HXL := Lib.hid hxl; have HU := Lib.hid hU; have HM := Lib.hid hm
  clear he0 hm hxs hxl hU
  have HF := Lib.hid hF
  clear hF h
  go_enter Try.func68, Try.ntmps68
  go_wp2_with fail
  go_quiet (fail)
  go_wp2_with fail
  go_quiet (fail)
  go_wp2_with fail
  go_quiet (fail)
  go_wp2_with fail
  go_quiet (fail)
  go_wp2_with fail
  go_quiet (fail)
  go_wp2_with fail
  refine (fail_any (rrd_ch H.out (ch_drewN No _ _) id (fun _ _ _ => id)) HE0_.out 5 s.at_ HF.out).mono ?_
  rintro e w2 hQ
  obtain ⟨he, hQ2⟩ := rrnumq_of (ch_drewN _ _ _) hQ
  cases he
  go_wp2
  go_ret
  exact ⟨rfl, hQ2⟩
end Go.Proofs.Ytondodhpmghogaa
