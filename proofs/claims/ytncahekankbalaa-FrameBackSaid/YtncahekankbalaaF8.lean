/- Walks: the chapter's part, and its examples (awake). No conditions. -/
import Derived.Test.YtncahekankbalaaF4
import Derived.Test.YtncahekankbalaaF7
namespace Go.Proofs.Ytncahekankbalaa
open Go.RowKit
set_option linter.unusedVariables false
set_option linter.unusedSimpArgs false

theorem getP_app (x : List UInt8) : getP (x ++ sum8 x) = getX x := by
  have h8 := sum8_len x
  unfold getP
  rw [List.length_append, h8, if_neg (by omega), Nat.add_sub_cancel, List.take_left' rfl, List.drop_left' rfl, if_pos rfl]
def PartQ (w : World) (e : Ending) (w' : World) : Prop := ∃ g, e = .returned (.agg #[.int .i64 1, .int .i64 5, .int .i64 3, .int .i64 1, .slice (some ⟨g, 0, none⟩) 2 2]) ∧ Rd w' (some ⟨g, 0, none⟩) 2 2 1 (u8s [7, 8]) ∧ w.heap.size ≤ g ∧ Below w.heap.size w w'
set_option maxRecDepth 100000 in
set_option maxHeartbeats 1000000 in
theorem part_any (w : World) : Calls Try.prog 30 #[] w (PartQ w) := by
  obtain ⟨b1, b2, b3⟩ := two_new w #[.int .i64 1, .int .i64 5, .int .i64 3, .int .i64 1, .slice (some ⟨w.heap.size + 1, 0, none⟩) 2 2] 43 #[.int .u8 7, .int .u8 8] 5
  have hr := rd_bytes (w.alloc (.cells #[.int .i64 1, .int .i64 5, .int .i64 3, .int .i64 1, .slice (some ⟨w.heap.size + 1, 0, none⟩) 2 2] 43)) [7, 8] #[.int .u8 7, .int .u8 8] 2 rfl rfl (by decide)
  rw [World.size_alloc] at hr
  have H1 := Lib.hid b1; have HR := Lib.hid hr; have HB3 := Lib.hid b3
  clear b1 b2 b3 hr
  go_enter Try.func30, Try.ntmps30
  go_wp2
  exact bodyPost_ret (results_cell_row rfl _ _ w.heap.size 43 _ (0, 0) _ rfl H1.out Try.underlying43 rfl (by kernel_rfl)) rfl ⟨w.heap.size + 1, rfl, HR.out, by omega, HB3.out⟩
theorem fx_1 : msgB 1 5 3 1 [7, 8] = ([1, 1, 1, 5, 1, 3, 1, 1, 1, 2, 7, 8], 0) := by kernel_rfl
theorem fx_2 : msgB 3 5 0 0 [] = ([1, 3, 1, 5], 0) := by kernel_rfl
theorem fx_3 : chkP 5 0 0 0 0 = 0 := by kernel_rfl
theorem fx_4 : getX (pktX 5 0 0 0 []) = ⟨5, 0, 0, 0, [], 0, 0⟩ := by kernel_rfl
theorem fx_5 : (pktX 5 0 0 0 []).length = 6 := by kernel_rfl
theorem fx_6 : pktB 5 0 0 0 [] = (pktX 5 0 0 0 [] ++ sum8 (pktX 5 0 0 0 []), 0) := by
  unfold pktB
  rw [show chkP 5 0 0 0 ([] : List UInt8).length = 0 from fx_3, if_pos rfl]
set_option maxRecDepth 100000 in
set_option maxHeartbeats 8000000 in
theorem fawake_any (w0 : World) : Calls Try.prog 8 #[] w0 fun e w' => e = .returned (.bool true) ∧ Below w0.heap.size w0 w' := by
  obtain ⟨C, hC⟩ : ∃ z, z = pktX 5 0 0 0 [] ++ sum8 (pktX 5 0 0 0 []) := ⟨_, rfl⟩
  have hCl : C.length = 14 := by rw [hC, List.length_append, sum8_len, fx_5]
  have HCB := Lib.hid (show pktB 5 0 0 0 [] = (C, 0) by rw [hC]; exact fx_6)
  have HCG := Lib.hid (show getP C = ⟨5, 0, 0, 0, [], 0, 0⟩ by rw [hC, getP_app, fx_4])
  have HCL := Lib.hid hCl
  clear hC hCl
  go_enter Try.func8, Try.ntmps8
  go_wp2_with fail
  refine (part_any _).mono ?_
  rintro e w1 ⟨g, rfl, hr, _, hb⟩
  have HB1 := Lib.hid hb; have HR1 := Lib.hid hr
  clear hb hr
  go_wp2_with fail
  refine (mput_any 1 5 3 1 HR1.out (by decide)).mono ?_
  rw [fx_1]
  rintro e w2 ⟨A2, n2, c2, he, hh, hb⟩
  cases he
  have HB2 := Lib.hid (HB1.out.trans (hb.mono HB1.out.size)); have HA := Lib.hid (held_rd hh)
  clear hb hh HR1
  go_wp2_with fail
  refine (mput_any 3 5 0 0 (l := []) (nil_rd _ 1) (by decide)).mono ?_
  rw [fx_2]
  rintro e w3 ⟨A3, n3, c3, he, hh, hb⟩
  cases he
  have HB3 := Lib.hid (HB2.out.trans (hb.mono HB2.out.size)); have HA := Lib.hid (HA.out.below hb); have HD := Lib.hid (held_rd hh)
  clear hb hh
  go_wp2_with fail
  refine (pput_any 5 0 0 0 (l := []) (nil_rd _ 1) (by decide)).mono ?_
  rw [HCB.out]
  rintro e w4 ⟨A4, n4, c4, he, hh, hb⟩
  cases he
  have hn4 : n4 = 14 := by have h1 : C.length = n4 := held_len hh; rw [← h1]; exact HCL.out
  subst hn4
  have HB4 := Lib.hid (HB3.out.trans (hb.mono HB3.out.size)); have HA := Lib.hid (HA.out.below hb); have HD := Lib.hid (HD.out.below hb); have HG := Lib.hid (held_rd hh)
  clear hb hh
  go_wp2_with fail
  refine (pget_any (b := C) HG.out (by decide)).mono ?_
  rw [HCG.out]
  rintro e w5 ⟨A5, n5, c5, he, hh, hb⟩
  cases he
  have hn5 : n5 = 0 := by have h1 : ([] : List UInt8).length = n5 := held_len hh; rw [← h1]; rfl
  subst hn5
  have HB5 := Lib.hid (HB4.out.trans (hb.mono HB4.out.size)); have HA := Lib.hid (HA.out.below hb); have HD := Lib.hid (HD.out.below hb)
  clear hb hh HG
  obtain ⟨T, hT⟩ : ∃ z, z = w5.heap.size := ⟨_, rfl⟩
  obtain ⟨V, hV⟩ : ∃ z, z = ((w5.alloc (.cells #[.int .i64 5, .int .i64 0, .int .i64 0, .int .i64 0, .slice A5 0 c5] 24)).alloc (.cells #[.int .i64 0, .int .i64 0] 32)).alloc (.cells #[.int .u8 1, .int .u8 1, .int .u8 1, .int .u8 5, .int .u8 1, .int .u8 3, .int .u8 1, .int .u8 1, .int .u8 1, .int .u8 2, .int .u8 7, .int .u8 8] 5) := ⟨_, rfl⟩
  obtain ⟨b1, b2, b3⟩ := two_new w5 #[.int .i64 5, .int .i64 0, .int .i64 0, .int .i64 0, .slice A5 0 c5] 24 #[.int .i64 0, .int .i64 0] 32
  have hrx := rd_bytes ((w5.alloc (.cells #[.int .i64 5, .int .i64 0, .int .i64 0, .int .i64 0, .slice A5 0 c5] 24)).alloc (.cells #[.int .i64 0, .int .i64 0] 32)) [1, 1, 1, 5, 1, 3, 1, 1, 1, 2, 7, 8] #[.int .u8 1, .int .u8 1, .int .u8 1, .int .u8 5, .int .u8 1, .int .u8 3, .int .u8 1, .int .u8 1, .int .u8 1, .int .u8 2, .int .u8 7, .int .u8 8] 12 rfl rfl (by decide)
  have hbx := box_below ((w5.alloc (.cells #[.int .i64 5, .int .i64 0, .int .i64 0, .int .i64 0, .slice A5 0 c5] 24)).alloc (.cells #[.int .i64 0, .int .i64 0] 32)) (.cells #[.int .u8 1, .int .u8 1, .int .u8 1, .int .u8 5, .int .u8 1, .int .u8 3, .int .u8 1, .int .u8 1, .int .u8 1, .int .u8 2, .int .u8 7, .int .u8 8] 5)
  have hp := blk_below b1 hbx
  have hf := blk_below b2 hbx
  have hbb := b3.trans (hbx.mono b3.size)
  have hsz : ((w5.alloc (.cells #[.int .i64 5, .int .i64 0, .int .i64 0, .int .i64 0, .slice A5 0 c5] 24)).alloc (.cells #[.int .i64 0, .int .i64 0] 32)).heap.size = T + 2 := by rw [hT]; simp
  rw [← hV, ← hT] at hp hf
  rw [← hV] at hrx hbb
  rw [hsz] at hrx
  have HP := Lib.hid hp; have HF := Lib.hid hf; have HBV := Lib.hid (HB5.out.trans (hbb.mono HB5.out.size)); have HA := Lib.hid (HA.out.below hbb); have HD := Lib.hid (HD.out.below hbb); have HX := Lib.hid hrx
  clear b1 b2 b3 hrx hbx hp hf hbb hsz
  go_wp2_with fail
  rw [← hV, ← hT]
  clear hV hT
  refine (same_any _ _ _ _ _ _ _ _ _ HA.out HX.out).mono ?_
  rw [eqB_self]
  rintro e wx ⟨rfl, rfl⟩
  have hr2 := rd_bytes V [1, 3, 1, 5] #[.int .u8 1, .int .u8 3, .int .u8 1, .int .u8 5] 4 rfl rfl (by decide)
  have hb2 := box_below V (.cells #[.int .u8 1, .int .u8 3, .int .u8 1, .int .u8 5] 5)
  have HR2 := Lib.hid hr2; have HD := Lib.hid (HD.out.below hb2); have HBW := Lib.hid (HBV.out.trans (hb2.mono HBV.out.size))
  have hp2 := blk_below HP.out hb2
  have hf2 := blk_below HF.out hb2
  have p0 := blk_cell hp2 0 _ rfl
  have p4 := blk_cell hp2 4 _ rfl
  have f0 := blk_cell hf2 0 _ rfl
  clear hr2 hb2 hp2 hf2
  go_wp2_with fail
  refine (same_any _ _ _ _ _ _ _ _ _ HD.out HR2.out).mono ?_
  rw [eqB_self]
  rintro e wx ⟨rfl, rfl⟩
  go_wp2
  go_ret
  exact ⟨rfl, HBW.out⟩
end Go.Proofs.Ytncahekankbalaa
