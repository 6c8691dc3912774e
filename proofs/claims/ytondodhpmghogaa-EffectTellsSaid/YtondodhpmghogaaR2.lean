/- Walk: Num of the reference's reader, the first faults. Conditions: the reader as Open made it. -/
import Derived.Test.YtondodhpmghogaaR1
namespace Go.Proofs.Ytondodhpmghogaa
open Go.RowKit
set_option linter.unusedVariables false
set_option linter.unusedSimpArgs false

theorem drewN4 (w : World) (a b c d : Nat) : (((w.drewN a).drewN b).drewN c).drewN d = w.drewN (a + b + c + d) := by simp
theorem valB_take_le (xs : List UInt8) (j : Nat) : valB (xs.take j) ≤ valB xs := by
  have h := valB_append (xs.take j) (xs.drop j)
  rw [List.take_append_drop] at h
  rw [h]
  have := Nat.pow_pos (n := (xs.drop j).length) (show 0 < 256 by decide)
  exact Nat.le_trans (Nat.le_mul_of_pos_right _ this) (Nat.le_add_right _ _)
theorem top_iff (xs : List UInt8) (h : xs.length = 8) : 4611686018427387903 < valB xs ↔ 63 < (xs[0]?.getD 0).toNat := by
  cases xs with
  | nil => simp at h
  | cons y t =>
    have ht : t.length = 7 := by simpa using h
    have h1 := valB_lt t
    rw [ht] at h1
    rw [valB_cons, ht]
    simp at h1 ⊢
    omega
theorem small7 (xs : List UInt8) (h : xs.length ≤ 7) : valB xs ≤ 4611686018427387903 :=
  Nat.le_of_lt (Nat.lt_of_lt_of_le (valB_lt xs) (Nat.le_trans (Nat.pow_le_pow_right (by decide) h) (by decide)))
set_option maxRecDepth 100000 in
set_option maxHeartbeats 4000000 in
theorem rn_err {w : World} {V : Nat} {A : Option Addr} {n c : Nat} {s : Rdr} (h : RRd w V A n c s) (lo hi : Int) (he : s.e ≠ 0) :
    Calls Try.prog 68 #[.pointer (some ⟨V, 0, none⟩), .int .i64 lo, .int .i64 hi] w (RRNumQ w V A n c (0, s)) := by
  have c0 : w.cell? ⟨V, 0, none⟩ = some (.slice A n c) := blk_cell h.blk 0 _ rfl
  have c1 : w.cell? ⟨V, 1, none⟩ = some (.int .i64 s.at_) := blk_cell h.blk 1 _ rfl
  have c2 : w.cell? ⟨V, 2, none⟩ = some (.int .i64 s.e) := blk_cell h.blk 2 _ rfl
  have c3 : w.cell? ⟨V, 3, none⟩ = some (.int .i64 s.p) := blk_cell h.blk 3 _ rfl
  have f1 : w.frozen? ⟨V, 1, none⟩ = false := blk_thawed h.blk 1
  have hl := rrd_len h
  have h2 := h.fit.big
  rw [hl] at h2
  have H := Lib.hid h
  have g1 : (s.e != 0) = true := by simpa using he
  clear h he
  go_enter Try.func68, Try.ntmps68
  go_wp2_with fail
  go_ret
  exact ⟨rfl, H.out, Ch.refl _ _⟩
set_option maxRecDepth 100000 in
set_option maxHeartbeats 4000000 in
theorem rn_end {w : World} {V : Nat} {A : Option Addr} {n c : Nat} {s : Rdr} (h : RRd w V A n c s) (lo hi : Int) (he0 : s.e = 0) (hend : s.b.length ≤ s.at_) (hF : Fit ⟨s.b, s.at_, 4, s.b.length⟩) :
    Calls Try.prog 68 #[.pointer (some ⟨V, 0, none⟩), .int .i64 lo, .int .i64 hi] w (RRNumQ w V A n c (0, ⟨s.b, s.at_, 4, s.b.length⟩)) := by
  have c0 : w.cell? ⟨V, 0, none⟩ = some (.slice A n c) := blk_cell h.blk 0 _ rfl
  have c1 : w.cell? ⟨V, 1, none⟩ = some (.int .i64 s.at_) := blk_cell h.blk 1 _ rfl
  have c2 : w.cell? ⟨V, 2, none⟩ = some (.int .i64 s.e) := blk_cell h.blk 2 _ rfl
  have c3 : w.cell? ⟨V, 3, none⟩ = some (.int .i64 s.p) := blk_cell h.blk 3 _ rfl
  have f1 : w.frozen? ⟨V, 1, none⟩ = false := blk_thawed h.blk 1
  have hl := rrd_len h
  have h2 := h.fit.big
  rw [hl] at h2
  have H := Lib.hid h
  have g1 : (s.e != 0) = false := by simpa using he0
  rw [hl] at hend hF ⊢
  have HF := Lib.hid hF
  clear hF h
  have HE0_ := Lib.hid he0
  clear he0
  go_enter Try.func68, Try.ntmps68
  go_wp2_with fail
  go_quiet (fail)
  go_wp2_with fail
  refine (fail_any (rrd_ch H.out (ch_drewN No _ _) id (fun _ _ _ => id)) HE0_.out 4 n HF.out).mono ?_
  rintro e w2 hQ
  obtain ⟨he, hQ2⟩ := rrnumq_of (ch_drewN _ _ _) hQ
  cases he
  go_wp2
  go_ret
  exact ⟨rfl, hQ2⟩
set_option maxRecDepth 100000 in
set_option maxHeartbeats 4000000 in
theorem rn_many {w : World} {V : Nat} {b off : Nat} {n c : Nat} {s : Rdr} (h : RRd w V (some ⟨b, off, none⟩) n c s) (lo hi : Int) (he0 : s.e = 0) (m : Nat) (hm : m = (s.b[s.at_]?.getD 0).toNat) (h8 : 8 < m) (hend : s.at_ < s.b.length) (hF : Fit ⟨s.b, s.at_, 2, s.at_⟩) :
    Calls Try.prog 68 #[.pointer (some ⟨V, 0, none⟩), .int .i64 lo, .int .i64 hi] w (RRNumQ w V (some ⟨b, off, none⟩) n c (0, ⟨s.b, s.at_, 2, s.at_⟩)) := by
  have c0 : w.cell? ⟨V, 0, none⟩ = some (.slice (some ⟨b, off, none⟩) n c) := blk_cell h.blk 0 _ rfl
  have c1 : w.cell? ⟨V, 1, none⟩ = some (.int .i64 s.at_) := blk_cell h.blk 1 _ rfl
  have c2 : w.cell? ⟨V, 2, none⟩ = some (.int .i64 s.e) := blk_cell h.blk 2 _ rfl
  have c3 : w.cell? ⟨V, 3, none⟩ = some (.int .i64 s.p) := blk_cell h.blk 3 _ rfl
  have f1 : w.frozen? ⟨V, 1, none⟩ = false := blk_thawed h.blk 1
  have hl := rrd_len h
  have h2 := h.fit.big
  rw [hl] at h2
  have H := Lib.hid h
  have hm256 : m < 256 := by rw [hm]; exact UInt8.toNat_lt _
  have hlt : s.at_ < n := by omega
  have hI0 : (0 : Int) ≤ (s.at_ : Int) := by omega
  have hI1 : (s.at_ : Int) < (n : Int) := by omega
  have hge : ¬ ((n : Int) ≤ (s.at_ : Int)) := by omega
  have g1 : (s.e != 0) = false := by simpa using he0
  have hcell := (h.rd.cells s.at_ _ (u8s_get s.b s.at_ (by omega)))
  obtain ⟨b', off', e', hcell⟩ := hcell
  cases e'
  rw [← hm] at hcell
  have hwm : Go.RowKit.wrap64 (m : Int) = (m : Int) := wrap64_id _ (by omega) (by omega)
  have h8' : (8 : Int) < (m : Int) := by omega
  have g2 : decide ((8 : Int) < (m : Int)) = true := decide_eq_true h8'
  have HE0_ := Lib.hid he0
  clear he0 hm
  have HF := Lib.hid hF
  clear hF h
  go_enter Try.func68, Try.ntmps68
  go_wp2_with fail
  go_quiet (fail)
  go_wp2_with fail
  go_quiet (fail)
  go_wp2_with fail
  refine (fail_any (rrd_ch H.out (ch_drewN No _ _) id (fun _ _ _ => id)) HE0_.out 2 s.at_ HF.out).mono ?_
  rintro e w2 hQ
  obtain ⟨he, hQ2⟩ := rrnumq_of (ch_drewN _ _ _) hQ
  cases he
  go_wp2
  go_ret
  exact ⟨rfl, hQ2⟩
set_option maxRecDepth 100000 in
set_option maxHeartbeats 4000000 in
theorem rn_short {w : World} {V : Nat} {b off : Nat} {n c : Nat} {s : Rdr} (h : RRd w V (some ⟨b, off, none⟩) n c s) (lo hi : Int) (he0 : s.e = 0) (m : Nat) (hm : m = (s.b[s.at_]?.getD 0).toNat) (h8 : m ≤ 8) (hend : s.at_ < s.b.length) (hsh : s.b.length < s.at_ + 1 + m) (hF : Fit ⟨s.b, s.at_, 4, s.b.length⟩) :
    Calls Try.prog 68 #[.pointer (some ⟨V, 0, none⟩), .int .i64 lo, .int .i64 hi] w (RRNumQ w V (some ⟨b, off, none⟩) n c (0, ⟨s.b, s.at_, 4, s.b.length⟩)) := by
  have c0 : w.cell? ⟨V, 0, none⟩ = some (.slice (some ⟨b, off, none⟩) n c) := blk_cell h.blk 0 _ rfl
  have c1 : w.cell? ⟨V, 1, none⟩ = some (.int .i64 s.at_) := blk_cell h.blk 1 _ rfl
  have c2 : w.cell? ⟨V, 2, none⟩ = some (.int .i64 s.e) := blk_cell h.blk 2 _ rfl
  have c3 : w.cell? ⟨V, 3, none⟩ = some (.int .i64 s.p) := blk_cell h.blk 3 _ rfl
  have f1 : w.frozen? ⟨V, 1, none⟩ = false := blk_thawed h.blk 1
  have hl := rrd_len h
  have h2 := h.fit.big
  rw [hl] at h2
  have H := Lib.hid h
  rw [hl] at hend hsh hF ⊢
  have hlt : s.at_ < n := by omega
  have hI0 : (0 : Int) ≤ (s.at_ : Int) := by omega
  have hI1 : (s.at_ : Int) < (n : Int) := by omega
  have hge : ¬ ((n : Int) ≤ (s.at_ : Int)) := by omega
  have g1 : (s.e != 0) = false := by simpa using he0
  have hcell := (h.rd.cells s.at_ _ (u8s_get s.b s.at_ (by omega)))
  obtain ⟨b', off', e', hcell⟩ := hcell
  cases e'
  rw [← hm] at hcell
  have hwm : Go.RowKit.wrap64 (m : Int) = (m : Int) := wrap64_id _ (by omega) (by omega)
  have h8' : ¬ ((8 : Int) < (m : Int)) := by omega
  have g2 : decide ((8 : Int) < (m : Int)) = false := decide_eq_false h8'
  have hw1 : IntKind.i64.wrap ((n : Int) - s.at_) = (n : Int) - s.at_ := by rw [IntKind.wrap_i64]; omega
  have hw2 : IntKind.i64.wrap ((n : Int) - s.at_ - 1) = (n : Int) - s.at_ - 1 := by rw [IntKind.wrap_i64]; omega
  have hsh' : (n : Int) - s.at_ - 1 < (m : Int) := by omega
  have g3 : decide ((n : Int) - s.at_ - 1 < (m : Int)) = true := decide_eq_true hsh'
  have HE0_ := Lib.hid he0
  clear he0 hm
  have HF := Lib.hid hF
  clear hF h
  go_enter Try.func68, Try.ntmps68
  go_wp2_with fail
  go_quiet (fail)
  go_wp2_with fail
  go_quiet (fail)
  go_wp2_with fail
  go_quiet (fail)
  go_wp2_with fail
  refine (fail_any (rrd_ch H.out (ch_drewN No _ _) id (fun _ _ _ => id)) HE0_.out 4 n HF.out).mono ?_
  rintro e w2 hQ
  obtain ⟨he, hQ2⟩ := rrnumq_of (ch_drewN _ _ _) hQ
  cases he
  go_wp2
  go_ret
  exact ⟨rfl, hQ2⟩
end Go.Proofs.Ytondodhpmghogaa
