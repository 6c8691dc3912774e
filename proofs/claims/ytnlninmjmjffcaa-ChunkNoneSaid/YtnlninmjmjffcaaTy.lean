/- Walk: what is none answers ErrNil (ChunkNone). No conditions. -/
import Derived.Test.YtnlninmjmjffcaaTv
namespace Go.Proofs.Ytnlninmjmjffcaa
open Go.RowKit
set_option linter.unusedVariables false
set_option linter.unusedSimpArgs false

def NoBox (w : World) (p : Option Addr) : Prop := p = none ∨ ∃ B, p = some ⟨B, 0, none⟩ ∧ w.cell? ⟨B, 0, none⟩ = some (.bool false)
theorem noBox_below {w w' : World} {p : Option Addr} (h : NoBox w p) (hb : Below w.heap.size w w') : NoBox w' p := h.imp id fun ⟨B, h1, h2⟩ => ⟨B, h1, below_cell hb h2⟩
theorem none_no {p : Option Addr} {w : World} (h : NoBox w p) : Calls Try.prog 61 #[.pointer p] w fun e w' => e = .returned (.bool true) ∧ w = w' := by
  rcases h with rfl | ⟨B, rfl, h⟩
  · exact none_nil w
  · exact none_off B w h
set_option maxHeartbeats 400000 in
theorem item_no {p : Option Addr} {w : World} (h : NoBox w p) : Calls Try.prog 46 #[.pointer p] w fun e w' => e = .returned (.int .i64 0) ∧ w = w' := by
  have H := Lib.hid h; clear h
  go_enter Try.func46, Try.ntmps46
  go_wp2_with fail
  refine (none_no H.out).mono ?_; rintro e w1 ⟨rfl, rfl⟩
  go_wp2
  go_ret
  exact ⟨rfl, rfl⟩
set_option maxHeartbeats 400000 in
theorem used_no {p : Option Addr} {w : World} (h : NoBox w p) : Calls Try.prog 47 #[.pointer p] w fun e w' => e = .returned (.int .i64 0) ∧ w = w' := by
  have H := Lib.hid h; clear h
  go_enter Try.func47, Try.ntmps47
  go_wp2_with fail
  refine (none_no H.out).mono ?_; rintro e w1 ⟨rfl, rfl⟩
  go_wp2
  go_ret
  exact ⟨rfl, rfl⟩
set_option maxHeartbeats 400000 in
theorem drop_no {p : Option Addr} {w : World} (h : NoBox w p) : Calls Try.prog 39 #[.pointer p] w fun e w' => e = .returned (.tuple #[]) ∧ w = w' := by
  have H := Lib.hid h; clear h
  go_enter Try.func39, Try.ntmps39
  go_wp2_with fail
  refine (none_no H.out).mono ?_; rintro e w1 ⟨rfl, rfl⟩
  go_wp2
  exact bodyPost_end (results_none rfl _ _ _) rfl ⟨rfl, rfl⟩
set_option maxRecDepth 100000 in
set_option maxHeartbeats 400000 in
theorem put_no {p : Option Addr} {w : World} (h : NoBox w p) (k i s a : Int) (M : Option Addr) (m d : Nat) : Calls Try.prog 42 #[.pointer p, .agg #[.int .i64 k, .int .i64 i, .int .i64 s, .int .i64 a, .slice M m d]] w fun e w' => e = .returned (.tuple #[.slice none 0 0, .int .i64 1]) ∧ Below w.heap.size w w' := by
  have hb : Below w.heap.size w (w.alloc (.cells #[.int .i64 k, .int .i64 i, .int .i64 s, .int .i64 a, .slice M m d] 50)) := (Below.refl _ w).alloc (Nat.le_refl _) _
  have H := Lib.hid (noBox_below h hb); clear h
  have HB := Lib.hid hb; clear hb
  go_enter Try.func42, Try.ntmps42
  go_wp2_with fail
  refine (none_no H.out).mono ?_; rintro e w1 ⟨rfl, rfl⟩
  go_wp2
  go_ret2
  exact ⟨rfl, HB.out⟩

set_option maxRecDepth 100000 in
set_option maxHeartbeats 4000000 in
theorem none11 (k0 i0 s0 a0 : Int) (M : Option Addr) (m d : Nat) (w : World) (hm : m ≤ d) (hd : d ≤ 9223372036854775807) : Calls Try.prog 11 #[.agg #[.int .i64 k0, .int .i64 i0, .int .i64 s0, .int .i64 a0, .slice M m d]] w (AwakeQ w) := by
  by_cases hbig : 400 < m
  · have hb : Below w.heap.size w (w.alloc (.cells #[.int .i64 k0, .int .i64 i0, .int .i64 s0, .int .i64 a0, .slice M m d] 50)) := (Below.refl _ w).alloc (Nat.le_refl _) _
    go_enter Try.func11, Try.ntmps11
    go_wp2_with fail
    refine (awake32 _).mono ?_; rintro e w1 ⟨rfl, hB⟩
    go_wp2
    go_ret
    exact ⟨rfl, hb.trans (hB.mono hb.size)⟩
  have g0 : decide (400 < (m : Int)) = false := by simp; omega
  have k1 := blk_new w 50 #[.int .i64 k0, .int .i64 i0, .int .i64 s0, .int .i64 a0, .slice M m d]
  have k2 := blk_new (w.alloc (.cells #[.int .i64 k0, .int .i64 i0, .int .i64 s0, .int .i64 a0, .slice M m d] 50)) 68 #[.bool false, .int .i64 0, .int .i64 0, .int .i64 0, .slice none 0 0]
  have k3 := blk_new ((w.alloc (.cells #[.int .i64 k0, .int .i64 i0, .int .i64 s0, .int .i64 a0, .slice M m d] 50)).alloc (.cells #[.bool false, .int .i64 0, .int .i64 0, .int .i64 0, .slice none 0 0] 68)) 53 #[.pointer none, .pointer (some ⟨w.heap.size + 1, 0, none⟩)]
  go_enter Try.func11, Try.ntmps11
  go_wp2_with fail
  obtain ⟨W0, hW0⟩ : ∃ x, x = (((w.alloc (.cells #[.int .i64 k0, .int .i64 i0, .int .i64 s0, .int .i64 a0, .slice M m d] 50)).alloc (.cells #[.bool false, .int .i64 0, .int .i64 0, .int .i64 0, .slice none 0 0] 68)).alloc (.cells #[.pointer none, .pointer (some ⟨w.heap.size + 1, 0, none⟩)] 53)) := ⟨_, rfl⟩
  have hb0 : Below w.heap.size w W0 := by rw [hW0]; exact (((Below.refl _ w).alloc (Nat.le_refl _) _).alloc (by simp) _).alloc (by simp; omega) _
  have j3 : Blk W0 (w.heap.size + 1 + 1) 53 #[.pointer none, .pointer (some ⟨w.heap.size + 1, 0, none⟩)] := by rw [hW0]; simpa using k3
  have j2 : Blk W0 (w.heap.size + 1) 68 #[.bool false, .int .i64 0, .int .i64 0, .int .i64 0, .slice none 0 0] := by rw [hW0]; exact blk_below (by simpa using k2) ((Below.refl _ _).alloc (Nat.le_refl _) _)
  have j1 : Blk W0 w.heap.size 50 #[.int .i64 k0, .int .i64 i0, .int .i64 s0, .int .i64 a0, .slice M m d] := by rw [hW0]; exact blk_below (blk_below k1 ((Below.refl _ _).alloc (Nat.le_refl _) _)) ((Below.refl _ _).alloc (Nat.le_refl _) _)
  clear k1 k2 k3
  rw [← hW0]
  clear hW0
  obtain ⟨B0, hB0⟩ : ∃ x, x = w.heap.size := ⟨_, rfl⟩
  obtain ⟨B1, hB1⟩ : ∃ x, x = w.heap.size + 1 := ⟨_, rfl⟩
  obtain ⟨B2, hB2⟩ : ∃ x, x = w.heap.size + 1 + 1 := ⟨_, rfl⟩
  rw [← hB2] at j3 ⊢; rw [← hB1] at j2 j3 ⊢; rw [← hB0] at j1 hb0 ⊢
  have HB0 := Lib.hid hB0
  clear hB1 hB2 hB0
  have HJ : Hid (Blk W0 B2 53 #[.pointer none, .pointer (some ⟨B1, 0, none⟩)] ∧ Blk W0 B1 68 #[.bool false, .int .i64 0, .int .i64 0, .int .i64 0, .slice none 0 0] ∧ Blk W0 B0 50 #[.int .i64 k0, .int .i64 i0, .int .i64 s0, .int .i64 a0, .slice M m d] ∧ Below B0 w W0) := Lib.hid ⟨j3, j2, j1, hb0⟩
  clear j1 j2 j3 hb0
  go_loopw [4] (fun i wr => ∃ k : Nat, k ≤ 2 ∧ i = .int .i64 k ∧ Hid (Blk wr B2 53 #[.pointer none, .pointer (some ⟨B1, 0, none⟩)] ∧ Blk wr B1 68 #[.bool false, .int .i64 0, .int .i64 0, .int .i64 0, .slice none 0 0] ∧ Blk wr B0 50 #[.int .i64 k0, .int .i64 i0, .int .i64 s0, .int .i64 a0, .slice M m d] ∧ Below B0 w wr)) (fun i _ => 2 - (intOf i).toNat)
  case atStart => exact ⟨0, Nat.zero_le _, rfl, HJ⟩
  case round =>
    clear HJ
    obtain ⟨k, hk, rfl, HJ⟩ := hrel
    by_cases hlt : k < 2
    · obtain ⟨p, hp, hno⟩ : ∃ p, wr.cell? ⟨B2, k, none⟩ = some (.pointer p) ∧ NoBox wr p := by
        rcases Nat.lt_or_ge k 1 with h | h
        · obtain rfl : k = 0 := by omega
          exact ⟨none, blk_cell HJ.out.1 0 _ rfl, .inl rfl⟩
        · obtain rfl : k = 1 := by omega
          exact ⟨_, blk_cell HJ.out.1 1 _ rfl, .inr ⟨B1, rfl, blk_cell HJ.out.2.1 0 _ rfl⟩⟩
      have HNO := Lib.hid hno; clear hno
      have c0 := blk_cell HJ.out.2.2.1 0 _ rfl
      have c1 := blk_cell HJ.out.2.2.1 1 _ rfl
      have c2 := blk_cell HJ.out.2.2.1 2 _ rfl
      have c3 := blk_cell HJ.out.2.2.1 3 _ rfl
      have c4 := blk_cell HJ.out.2.2.1 4 _ rfl
      go_wp2_with fail
      go_region_held3 (fun W => (W.cell? ⟨B0, 0, none⟩ = some (.int .i64 k0) ∧ W.cell? ⟨B0, 1, none⟩ = some (.int .i64 i0) ∧ W.cell? ⟨B0, 2, none⟩ = some (.int .i64 s0) ∧ W.cell? ⟨B0, 3, none⟩ = some (.int .i64 a0) ∧ W.cell? ⟨B0, 4, none⟩ = some (.slice M m d)) ∧ W.cell? ⟨B2, k, none⟩ = some (.pointer p))
        (first | exact ⟨⟨c0, c1, c2, c3, c4⟩, hp⟩ | exact ⟨⟨below_cell hb1 c0, below_cell hb1 c1, below_cell hb1 c2, below_cell hb1 c3, below_cell hb1 c4⟩, below_cell hb1 hp⟩)
        (first | (go_at_call 42; refine (put_no (noBox_below HNO.out ((Ch.drew wr No).below (Nat.le_refl _) (fun _ h => h.elim))) k0 i0 s0 a0 M m d).mono ?_; rintro e w1 ⟨rfl, hb1⟩))
      all_goals
        have hbb : Below wr.heap.size wr w1 := ((Ch.drew wr No).below (Nat.le_refl _) (fun _ h => h.elim)).trans hb1
        have hBw := HB0.out
        have hp1 := below_cell hbb hp
        have HNO1 := Lib.hid (noBox_below HNO.out hbb)
        have HJ1 : Hid (Blk w1 B2 53 #[.pointer none, .pointer (some ⟨B1, 0, none⟩)] ∧ Blk w1 B1 68 #[.bool false, .int .i64 0, .int .i64 0, .int .i64 0, .slice none 0 0] ∧ Blk w1 B0 50 #[.int .i64 k0, .int .i64 i0, .int .i64 s0, .int .i64 a0, .slice M m d] ∧ Below B0 w w1) := Lib.hid ⟨blk_below HJ.out.1 hbb, blk_below HJ.out.2.1 hbb, blk_below HJ.out.2.2.1 hbb, HJ.out.2.2.2.trans (hbb.mono (by have := HJ.out.2.2.2.size; omega))⟩
        clear hbb hb1 hBw HJ HNO c0 c1 c2 c3 c4
        go_wp2_with fail
        refine (drop_no HNO1.out).mono ?_; rintro e w2 ⟨rfl, rfl⟩
        go_wp2_with fail
        refine (item_no HNO1.out).mono ?_; rintro e w2 ⟨rfl, rfl⟩
        go_wp2_with fail
        refine (used_no HNO1.out).mono ?_; rintro e w2 ⟨rfl, rfl⟩
        go_wp2
        go_roundw
        case rel => exact ⟨k + 1, by omega, by go_num, HJ1⟩
        case measure => simp [intOf]; omega
    · obtain rfl : k = 2 := by omega
      go_wp2_with fail
      have hBw := HB0.out
      refine (awake32 _).mono ?_; rintro e w6 ⟨rfl, hB6⟩
      have HB6 := Lib.hid (HJ.out.2.2.2.trans (hB6.mono (by have := HJ.out.2.2.2.size; omega)))
      go_wp2
      go_ret
      exact ⟨rfl, HB0.out ▸ HB6.out⟩

end Go.Proofs.Ytnlninmjmjffcaa
