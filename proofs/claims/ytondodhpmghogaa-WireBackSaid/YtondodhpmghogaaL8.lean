/- Walk: the chapter's examples of faults; the law of the examples. No conditions. -/
import Derived.Test.YtondodhpmghogaaL6
namespace Go.Proofs.Ytondodhpmghogaa
open Go.RowKit
set_option linter.unusedVariables false
set_option linter.unusedSimpArgs false

/-- is that the fault of something that is read first? -/
def failsR (l : List UInt8) (x : Ask) (e p : Int) : Bool := ((askS ⟨l, 0, 0, 0⟩ x).e == e && (askS ⟨l, 0, 0, 0⟩ x).p == p) && (((askS ⟨l, 0, 0, 0⟩ x).at_ : Int) == 0)
set_option maxRecDepth 100000 in
set_option maxHeartbeats 4000000 in
theorem fails_any {A : Option Addr} {n c : Nat} {l : List UInt8} {w : World} (hr : Rd w A n c 1 (u8s l)) (hn : n ≤ 1000000000) (x : Ask) (e p : Int) (hyes : failsR l x e p = true) :
    Calls Try.prog 25 #[.slice A n c, .agg x.cells.toArray, .int .i64 e, .int .i64 p] w fun E w' => E = .returned (.bool true) ∧ Below w.heap.size w w' := by
  have hl : l.length = n := by have := hr.len; simpa using this
  obtain ⟨k, lo, hi⟩ := x
  obtain ⟨t, ht⟩ : ∃ t, t = askS ⟨l, 0, 0, 0⟩ ⟨k, lo, hi⟩ := ⟨_, rfl⟩
  unfold failsR at hyes
  rw [← ht] at hyes
  simp only [Bool.and_eq_true, beq_iff_eq] at hyes
  obtain ⟨⟨he, hp⟩, hat⟩ := hyes
  have hbx := box_below w (.cells #[.int .i64 k, .int .i64 lo, .int .i64 hi] 44)
  have hblk := blk_new w 44 #[.int .i64 k, .int .i64 lo, .int .i64 hi]
  have HR := Lib.hid (hr.below hbx); have HBX := Lib.hid hbx; have HBLK := Lib.hid hblk; have HT := Lib.hid ht; have HE := Lib.hid (And.intro he (And.intro hp hat)); have HL := Lib.hid hl
  clear hr hbx hblk ht he hp hat hl
  show Calls Try.prog 25 #[.slice A n c, .agg #[.int .i64 k, .int .i64 lo, .int .i64 hi], .int .i64 e, .int .i64 p] w _
  go_enter Try.func25, Try.ntmps25
  go_wp2_with fail
  refine (open_any HR.out hn).mono ?_
  rintro E w1 ⟨R, A1, n1, c1, rfl, hrb, hR, hA, hb1⟩
  have hn1 : n1 = n := by have h9 : l.length = n1 := rdb_len hrb; have := HL.out; omega
  have hblk1 := blk_below HBLK.out hb1
  have d0 := blk_cell hblk1 0 _ rfl
  have d1 := blk_cell hblk1 1 _ rfl
  have d2 := blk_cell hblk1 2 _ rfl
  have HRB := Lib.hid hrb; have HB1 := Lib.hid (HBX.out.trans (hb1.mono (by simp)))
  have hRw : w.heap.size ≤ R := by rw [World.size_alloc] at hR; omega
  clear hrb hb1 hblk1 hA hR
  by_cases h0 : k = 0
  · have g1 : (k == 0) = true := by simpa using h0
    have hq : t = (rnum ⟨l, 0, 0, 0⟩ lo hi).2 := by rw [HT.out]; unfold askS; rw [if_pos h0]
    have HQ := Lib.hid hq
    clear h0 hq
    go_wp2_with fail
    refine (num_any HRB.out lo hi).mono ?_
    rintro E w2 ⟨rfl, hb2, hch2⟩
    rw [← HQ.out] at hb2
    have HB2 := Lib.hid (((Ch.of_below HB1.out (fun k => k = R)).trans hch2 (fun i hi => .inl hi)).below (Nat.le_refl _) (fun k hk => by omega)); have HRB2 := Lib.hid hb2
    clear hb2 hch2
    go_wp2_with fail
    refine (fault_any HRB2.out).mono ?_
    rw [HE.out.1, HE.out.2.1]
    rintro E w3 ⟨rfl, hb3⟩
    have HRB3 := Lib.hid (rdb_ch HRB2.out (Ch.of_below hb3 No) id (fun _ _ => id)); have HB3 := Lib.hid (HB2.out.trans (hb3.mono HB2.out.size))
    clear hb3
    go_wp2_with fail
    refine (rat_any HRB3.out).mono ?_
    rw [HE.out.2.2]
    rintro E w4 ⟨rfl, rfl⟩
    go_wp2
    go_ret
    exact ⟨rfl, HB3.out⟩
  have g1 : (k == 0) = false := by simpa using h0
  have hq : t = (rraw ⟨l, 0, 0, 0⟩ hi).2 := by rw [HT.out]; unfold askS; rw [if_neg h0]
  have HQ := Lib.hid hq
  clear h0 hq
  by_cases h1 : k = 1
  · have g2 : (k == 1) = true := by simpa using h1
    clear h1
    go_wp2_with fail
    refine (text_any HRB.out (by omega) hi).mono ?_
    rintro E w2 ⟨rfl, hb2, hch2⟩
    rw [← HQ.out] at hb2
    have HB2 := Lib.hid (((Ch.of_below HB1.out (fun k => k = R)).trans hch2 (fun i hi => .inl hi)).below (Nat.le_refl _) (fun k hk => by omega)); have HRB2 := Lib.hid hb2
    clear hb2 hch2
    go_wp2_with fail
    refine (fault_any HRB2.out).mono ?_
    rw [HE.out.1, HE.out.2.1]
    rintro E w3 ⟨rfl, hb3⟩
    have HRB3 := Lib.hid (rdb_ch HRB2.out (Ch.of_below hb3 No) id (fun _ _ => id)); have HB3 := Lib.hid (HB2.out.trans (hb3.mono HB2.out.size))
    clear hb3
    go_wp2_with fail
    refine (rat_any HRB3.out).mono ?_
    rw [HE.out.2.2]
    rintro E w4 ⟨rfl, rfl⟩
    go_wp2
    go_ret
    exact ⟨rfl, HB3.out⟩
  have g2 : (k == 1) = false := by simpa using h1
  clear h1
  go_wp2_with fail
  refine (raw_any HRB.out (by omega) hi).mono ?_
  rintro E w2 ⟨A2, n2, c2, rfl, _, hb2, hch2⟩
  rw [← HQ.out] at hb2
  have HB2 := Lib.hid (((Ch.of_below HB1.out (fun k => k = R)).trans hch2 (fun i hi => .inl hi)).below (Nat.le_refl _) (fun k hk => by omega)); have HRB2 := Lib.hid hb2
  clear hb2 hch2
  go_wp2_with fail
  refine (fault_any HRB2.out).mono ?_
  rw [HE.out.1, HE.out.2.1]
  rintro E w3 ⟨rfl, hb3⟩
  have HRB3 := Lib.hid (rdb_ch HRB2.out (Ch.of_below hb3 No) id (fun _ _ => id)); have HB3 := Lib.hid (HB2.out.trans (hb3.mono HB2.out.size))
  clear hb3
  go_wp2_with fail
  refine (rat_any HRB3.out).mono ?_
  rw [HE.out.2.2]
  rintro E w4 ⟨rfl, rfl⟩
  go_wp2
  go_ret
  exact ⟨rfl, HB3.out⟩

theorem kn_a : actW ([], 0) ⟨0, -1, ⟨#[]⟩, none, 0, 0, []⟩ = ([], 5) := by kernel_rfl
theorem kn_b : actW ([], 0) ⟨0, 4611686018427387904, ⟨#[]⟩, none, 0, 0, []⟩ = ([], 5) := by kernel_rfl
theorem kn_c (A : Option Addr) (m d : Nat) (l : List UInt8) (h : 1048576 ≤ l.length) : actW ([], 0) ⟨2, 0, ⟨#[]⟩, A, m, d, l⟩ = ([], 3) := by
  show (if (2 : Int) = 0 then wnum [] 0 0 else if (2 : Int) = 1 then wraw [] 0 (⟨#[]⟩ : ByteArray).data.toList else wraw [] 0 l) = _
  rw [if_neg (by decide), if_neg (by decide)]
  unfold wraw wput
  rw [if_neg (by decide), if_pos (by rw [List.length_append, frm_len]; simp; omega)]
theorem kn_d : saysR ⟨0, 256, ⟨#[]⟩, none, 0, 0, []⟩ [2, 1, 0] = true := by kernel_rfl
theorem kn_1 : failsR [1] ⟨0, 0, 9⟩ 4 1 = true := by kernel_rfl
theorem kn_2 : failsR [9] ⟨0, 0, 9⟩ 2 0 = true := by kernel_rfl
theorem kn_3 : failsR [1, 0] ⟨0, 0, 9⟩ 2 0 = true := by kernel_rfl
theorem kn_4 : failsR [1, 5] ⟨0, 6, 9⟩ 5 0 = true := by kernel_rfl
theorem kn_5 : failsR [1, 2, 97] ⟨1, 0, 9⟩ 4 3 = true := by kernel_rfl
theorem kn_6 : failsR [1, 2, 97] ⟨1, 0, 1⟩ 3 0 = true := by kernel_rfl
set_option maxRecDepth 100000 in
set_option maxHeartbeats 8000000 in
theorem known_any (w : World) : Calls Try.prog 4 #[] w fun e w' => e = .returned (.bool true) ∧ Below w.heap.size w w' := by
  obtain ⟨w0, hw0⟩ : ∃ x, x = w := ⟨_, rfl⟩
  rw [← hw0]
  have HB0 := Lib.hid (Below.refl w0.heap.size w0)
  clear hw0
  obtain ⟨cs, hmk, lz, hlz, hrow⟩ : ∃ cs, (∀ W, (Instr.makeSlice 26 (.int .i64 1048576) (.int .i64 1048576)).run Try.prog W = .ok (.slice (some ⟨W.heap.size, 0, none⟩) 1048576 1048576) (W.alloc (.cells cs 5))) ∧ ∃ lz : List UInt8, lz.length = 1048576 ∧ ∀ W : World, Row (W.alloc (.cells cs 5)) W.heap.size 5 1048576 1 (u8s lz) :=
    ⟨madeB 1048576, fun W => run_madeB 26 5 Try.underlying26 info5 1048576 (by decide) W, List.replicate 1048576 0, List.length_replicate, fun W => row_madeB W 5 1048576 (by decide)⟩
  have HROW := Lib.hid hrow; have HLZ := Lib.hid hlz
  clear hrow hlz
  go_enter Try.func4, Try.ntmps4
  have hin : AcIn (w0.alloc (.cells #[.int .i64 0, .int .i64 (-1), .string ⟨#[]⟩, .slice none 0 0] 34)) w0.heap.size 0 ⟨0, -1, ⟨#[]⟩, none, 0, 0, []⟩ := ⟨blk_cell (blk_new w0 _ _) 0 _ rfl, blk_cell (blk_new w0 _ _) 1 _ rfl, blk_cell (blk_new w0 _ _) 2 _ rfl, blk_cell (blk_new w0 _ _) 3 _ rfl⟩
  have HIN := Lib.hid hin
  clear hin
  go_wp2_with fail
  refine (told_any HIN.out (acOk_none _ _ _ _ (by decide) (by decide))).mono ?_
  rw [kn_a]
  rintro e w1 ⟨A1, n1, c1, rfl, _, hb⟩
  have HB1 := Lib.hid (HB0.out.trans (((box_below w0 _).trans (hb.mono (by simp))).mono HB0.out.size))
  clear hb HIN
  have hin : AcIn (w1.alloc (.cells #[.int .i64 0, .int .i64 4611686018427387904, .string ⟨#[]⟩, .slice none 0 0] 34)) w1.heap.size 0 ⟨0, 4611686018427387904, ⟨#[]⟩, none, 0, 0, []⟩ := ⟨blk_cell (blk_new w1 _ _) 0 _ rfl, blk_cell (blk_new w1 _ _) 1 _ rfl, blk_cell (blk_new w1 _ _) 2 _ rfl, blk_cell (blk_new w1 _ _) 3 _ rfl⟩
  have HIN := Lib.hid hin
  clear hin
  go_wp2_with fail
  refine (told_any HIN.out (acOk_none _ _ _ _ (by decide) (by decide))).mono ?_
  rw [kn_b]
  rintro e w2 ⟨A2, n2, c2, rfl, _, hb⟩
  have HB2 := Lib.hid (HB1.out.trans (((box_below w1 _).trans (hb.mono (by simp))).mono HB1.out.size))
  clear hb HIN
  obtain ⟨v2, hv2⟩ : ∃ x, x = w2.alloc (.cells cs 5) := ⟨_, rfl⟩
  have hrd2 : Rd v2 (some ⟨w2.heap.size, 0, none⟩) 1048576 1048576 1 (u8s lz) := by rw [hv2]; exact row_u8_rd (HROW.out w2) HLZ.out (Nat.le_refl _)
  have hbv : Below w2.heap.size w2 v2 := by rw [hv2]; exact box_below _ _
  have hmk2 : (Instr.makeSlice 26 (.int .i64 1048576) (.int .i64 1048576)).run Try.prog w2 = .ok (.slice (some ⟨w2.heap.size, 0, none⟩) 1048576 1048576) v2 := by rw [hv2]; exact hmk w2
  clear hmk hv2
  obtain ⟨g2, hg2⟩ : ∃ g, g = w2.heap.size := ⟨_, rfl⟩
  rw [← hg2] at hrd2 hmk2
  have HG2 := Lib.hid hg2
  clear hg2
  have HRD2 := Lib.hid hrd2
  have HBv2 := Lib.hid (HB2.out.trans (hbv.mono HB2.out.size))
  clear hrd2 hbv
  have hin : AcIn (v2.alloc (.cells #[.int .i64 2, .int .i64 0, .string ⟨#[]⟩, .slice (some ⟨g2, 0, none⟩) 1048576 1048576] 34)) v2.heap.size 0 ⟨2, 0, ⟨#[]⟩, some ⟨g2, 0, none⟩, 1048576, 1048576, lz⟩ := ⟨blk_cell (blk_new v2 _ _) 0 _ rfl, blk_cell (blk_new v2 _ _) 1 _ rfl, blk_cell (blk_new v2 _ _) 2 _ rfl, blk_cell (blk_new v2 _ _) 3 _ rfl⟩
  have HIN := Lib.hid hin
  clear hin
  go_wp2_with fail
  refine (told_any HIN.out ⟨show (0 : Int) ≤ _ by decide, show (0 : Nat) ≤ _ by decide, show (1048576 : Nat) ≤ _ by decide, HRD2.out.below (box_below _ _)⟩).mono ?_
  rw [kn_c _ _ _ _ (by rw [HLZ.out]; exact Nat.le_refl _)]
  rintro e w3 ⟨A3, n3, c3, rfl, _, hb⟩
  have HB3 := Lib.hid (HBv2.out.trans (((box_below v2 _).trans (hb.mono (by simp))).mono HBv2.out.size))
  clear hb HIN hmk2 HRD2 HBv2 HG2 HROW HLZ
  have hrd := rd_bytes w3 [2, 1, 0] #[.int .u8 2, .int .u8 1, .int .u8 0] 3 rfl rfl (by decide)
  have HRD := Lib.hid hrd
  clear hrd
  go_wp2_with fail
  refine (says_any ⟨0, 256, ⟨#[]⟩, none, 0, 0, []⟩ (acOk_none _ _ _ _ (by decide) (by decide)) HRD.out).mono ?_
  rw [kn_d]
  rintro e w4 ⟨rfl, hb⟩
  have HB4 := Lib.hid (HB3.out.trans (((box_below w3 _).trans (hb.mono (by simp))).mono HB3.out.size))
  clear hb HRD
  have hrd := rd_bytes w4 [1] #[.int .u8 1] 1 rfl rfl (by decide)
  have HRD := Lib.hid hrd
  clear hrd
  go_wp2_with fail
  refine (fails_any HRD.out (by decide) ⟨0, 0, 9⟩ 4 1 kn_1).mono ?_
  rintro e w5 ⟨rfl, hb⟩
  have HB5 := Lib.hid (HB4.out.trans (((box_below w4 _).trans (hb.mono (by simp))).mono HB4.out.size))
  clear hb HRD
  have hrd := rd_bytes w5 [9] #[.int .u8 9] 1 rfl rfl (by decide)
  have HRD := Lib.hid hrd
  clear hrd
  go_wp2_with fail
  refine (fails_any HRD.out (by decide) ⟨0, 0, 9⟩ 2 0 kn_2).mono ?_
  rintro e w6 ⟨rfl, hb⟩
  have HB6 := Lib.hid (HB5.out.trans (((box_below w5 _).trans (hb.mono (by simp))).mono HB5.out.size))
  clear hb HRD
  have hrd := rd_bytes w6 [1, 0] #[.int .u8 1, .int .u8 0] 2 rfl rfl (by decide)
  have HRD := Lib.hid hrd
  clear hrd
  go_wp2_with fail
  refine (fails_any HRD.out (by decide) ⟨0, 0, 9⟩ 2 0 kn_3).mono ?_
  rintro e w7 ⟨rfl, hb⟩
  have HB7 := Lib.hid (HB6.out.trans (((box_below w6 _).trans (hb.mono (by simp))).mono HB6.out.size))
  clear hb HRD
  have hrd := rd_bytes w7 [1, 5] #[.int .u8 1, .int .u8 5] 2 rfl rfl (by decide)
  have HRD := Lib.hid hrd
  clear hrd
  go_wp2_with fail
  refine (fails_any HRD.out (by decide) ⟨0, 6, 9⟩ 5 0 kn_4).mono ?_
  rintro e w8 ⟨rfl, hb⟩
  have HB8 := Lib.hid (HB7.out.trans (((box_below w7 _).trans (hb.mono (by simp))).mono HB7.out.size))
  clear hb HRD
  go_wp2_with fail
  refine (awake_any _).mono ?_
  rintro e w9 ⟨rfl, hb⟩
  have HB9 := Lib.hid (HB8.out.trans (hb.mono HB8.out.size))
  clear hb
  have hrd := rd_bytes w9 [1, 2, 97] #[.int .u8 1, .int .u8 2, .int .u8 97] 3 rfl rfl (by decide)
  have HRD := Lib.hid hrd
  clear hrd
  go_wp2_with fail
  refine (fails_any HRD.out (by decide) ⟨1, 0, 9⟩ 4 3 kn_5).mono ?_
  rintro e w10 ⟨rfl, hb⟩
  have HB10 := Lib.hid (HB9.out.trans (((box_below w9 _).trans (hb.mono (by simp))).mono HB9.out.size))
  clear hb HRD
  have hrd := rd_bytes w10 [1, 2, 97] #[.int .u8 1, .int .u8 2, .int .u8 97] 3 rfl rfl (by decide)
  have HRD := Lib.hid hrd
  clear hrd
  go_wp2_with fail
  refine (fails_any HRD.out (by decide) ⟨1, 0, 1⟩ 3 0 kn_6).mono ?_
  rintro e w11 ⟨rfl, hb⟩
  have HB11 := Lib.hid (HB10.out.trans (((box_below w10 _).trans (hb.mono (by simp))).mono HB10.out.size))
  clear hb HRD
  go_wp2
  go_ret
  exact ⟨rfl, HB11.out⟩
end Go.Proofs.Ytondodhpmghogaa
