/- Walk: what is known of the frames (FrameKnown). No conditions. -/
import Derived.Test.YtncahekankbalaaFq
namespace Go.Proofs.Ytncahekankbalaa
open Go.RowKit
set_option linter.unusedVariables false
set_option linter.unusedSimpArgs false
theorem below_box {w w1 w2 : World} {o : Obj} (h : Below w.heap.size w w1) (hb : Below (w1.alloc o).heap.size (w1.alloc o) w2) : Below w.heap.size w w2 :=
  (h.trans ((box_below w1 o).mono h.size)).trans (hb.mono (h.trans ((box_below w1 o).mono h.size)).size)
theorem kn_1 : chkM 1 5 3 1 0 = 2 := by kernel_rfl
theorem kn_2 : chkM 3 5 1 0 0 = 2 := by kernel_rfl
theorem kn_3 : chkP 0 0 0 0 0 = 2 := by kernel_rfl
theorem kn_4 : chkP 1 0 0 0 1 = 2 := by kernel_rfl
theorem kn_5 : getP [] = ⟨0, 0, 0, 0, [], 11, 0⟩ := by kernel_rfl
theorem kn_6 : getM [] = ⟨0, 0, 0, 0, [], 4, 0⟩ := by kernel_rfl
theorem kn_7 : pktX 5 0 0 0 [] = [1, 5, 0, 0, 0, 0] := by kernel_rfl
theorem kn_8 (x : List UInt8) (hx : x = [1, 5, 0, 0, 0, 0]) : getP ((x ++ sum8 x).set 1 4) = ⟨0, 0, 0, 0, [], 11, 0⟩ := by
  refine getP_bad x 1 (by rw [hx]; simp) 4 ?_
  subst hx
  simp
set_option maxRecDepth 100000 in
set_option maxHeartbeats 4000000 in
theorem known_any (w : World) : Calls Try.prog 6 #[] w fun e w' => e = .returned (.bool true) ∧ Below w.heap.size w w' := by
  obtain ⟨C, hC⟩ : ∃ z, z = pktX 5 0 0 0 [] ++ sum8 (pktX 5 0 0 0 []) := ⟨_, rfl⟩
  have hCl : C.length = 14 := by rw [hC, List.length_append, sum8_len, fx_5]
  have HCB := Lib.hid (show pktB 5 0 0 0 [] = (C, 0) by rw [hC]; exact fx_6)
  have HC1 := Lib.hid (show (u8s C)[1]? = some (.int .u8 5) by rw [hC, kn_7]; rfl)
  have HCG := Lib.hid (show getP (C.set 1 4) = ⟨0, 0, 0, 0, [], 11, 0⟩ by rw [hC]; exact kn_8 _ kn_7)
  have HCL := Lib.hid hCl
  clear hC hCl
  go_enter Try.func6, Try.ntmps6
  go_wp2_with fail
  refine (part_any _).mono ?_
  rintro e w1 ⟨g, rfl, hr, _, hb⟩
  have HB1 := Lib.hid hb
  clear hb hr
  go_wp2_with fail
  refine (mcheck_any 1 5 3 1 none 0 0 _ (by decide)).mono ?_
  rw [kn_1]
  rintro e w2 ⟨rfl, hb⟩
  have HB2 := Lib.hid (below_box HB1.out hb)
  clear hb
  go_wp2_with fail
  refine (mcheck_any 3 5 1 0 none 0 0 _ (by decide)).mono ?_
  rw [kn_2]
  rintro e w3 ⟨rfl, hb⟩
  have HB3 := Lib.hid (HB2.out.trans (hb.mono HB2.out.size))
  clear hb
  go_wp2_with fail
  refine (pcheck_any 0 0 0 0 none 0 0 _ (by decide)).mono ?_
  rw [kn_3]
  rintro e w4 ⟨rfl, hb⟩
  have HB4 := Lib.hid (HB3.out.trans (hb.mono HB3.out.size))
  clear hb
  go_wp2_with fail
  refine (pcheck_any 1 0 0 0 _ 1 1 _ (by decide)).mono ?_
  rw [kn_4]
  rintro e w5 ⟨rfl, hb⟩
  have HB5 := Lib.hid (below_box HB4.out hb)
  clear hb
  go_wp2_with fail
  refine (pput_any 5 0 0 0 (l := []) (nil_rd _ 1) (by decide)).mono ?_
  rw [HCB.out]
  rintro e w6 ⟨A6, n6, c6, he, hh, hb⟩
  cases he
  have hn6 : n6 = 14 := by have h1 : C.length = n6 := held_len hh; rw [← h1]; exact HCL.out
  subst hn6
  rcases hh with ⟨_, h0, _⟩ | ⟨g6, rfl, hby, _, hge⟩
  · omega
  have hrow := byt_row hby
  have hcn : 14 ≤ c6 := by have := byt_fits hby; have := HCL.out; omega
  have HB6 := Lib.hid (HB5.out.trans (hb.mono HB5.out.size))
  have hz5 := HB5.out.size
  have hcl := hrow.cell HC1.out
  have hfz := hrow.thawed 1
  have hset := Lib.hid (hrow.set 1 (.int .u8 4) (by rw [u8s_length, HCL.out]; omega))
  obtain ⟨w7, hw7⟩ : ∃ x, x = w6.setCell ⟨g6, 1, none⟩ (.int .u8 4) := ⟨_, rfl⟩
  have hch := (Ch.setCell w6 ⟨g6, 1, none⟩ (.int .u8 4)).below (B := w.heap.size) HB6.out.size (fun k hk => by have hk : k = g6 := hk; omega)
  rw [← hw7] at hch hset
  have HB7 := Lib.hid (HB6.out.trans hch)
  have hr7 : Rd w7 (some ⟨g6, 0, none⟩) 14 c6 1 (u8s (C.set 1 4)) := hset.out.rd 0 14 c6 (u8s (C.set 1 4)) (by
    rw [List.drop_zero, Nat.mul_one, List.take_of_length_le (by simp [HCL.out])]
    simp [u8s, List.map_set]) (by simp [HCL.out]) hcn hset.out.big
  have HR7 := Lib.hid hr7
  have hx : bits .xor .u8 5 1 = 4 := by kernel_rfl
  have hc6 : (1 : Int) < (c6 : Int) := by omega
  clear hset hr7 hrow hby hge hb hch
  go_wp2_with fail
  rw [← hw7]
  clear hw7 hcl hfz hx
  refine (pget_any HR7.out (by decide)).mono ?_
  rw [HCG.out]
  rintro e w8 ⟨A8, n8, c8, he, hh, hb⟩
  cases he
  have hn8 : n8 = 0 := by have h1 : ([] : List UInt8).length = n8 := held_len hh; rw [← h1]; rfl
  subst hn8
  have HB8 := Lib.hid (HB7.out.trans (hb.mono HB7.out.size))
  clear hb hh
  obtain ⟨T1, hT⟩ : ∃ z, z = w8.heap.size := ⟨_, rfl⟩
  obtain ⟨w9, hV⟩ : ∃ z, z = (w8.alloc (.cells #[.int .i64 0, .int .i64 0, .int .i64 0, .int .i64 0, .slice A8 0 c8] 24)).alloc (.cells #[.int .i64 11, .int .i64 0] 32) := ⟨_, rfl⟩
  obtain ⟨b1, b2, b3⟩ := two_new w8 #[.int .i64 0, .int .i64 0, .int .i64 0, .int .i64 0, .slice A8 0 c8] 24 #[.int .i64 11, .int .i64 0] 32
  rw [← hV, ← hT] at b2
  rw [← hV] at b3
  have HF1 := Lib.hid b2; have HB9 := Lib.hid (HB8.out.trans (b3.mono HB8.out.size))
  clear b1 b2 b3
  go_wp2_with fail
  rw [← hV, ← hT]
  clear hV hT
  refine (pget_any (b := []) (nil_rd _ 1) (by decide)).mono ?_
  rw [kn_5]
  rintro e w10 ⟨A10, n10, c10, he, hh, hb⟩
  cases he
  have hn8 : n10 = 0 := by have h1 : ([] : List UInt8).length = n10 := held_len hh; rw [← h1]; rfl
  subst hn8
  have HB10 := Lib.hid (HB9.out.trans (hb.mono HB9.out.size))
  have HF1 := Lib.hid (blk_below HF1.out hb)
  clear hb hh
  obtain ⟨T2, hT⟩ : ∃ z, z = w10.heap.size := ⟨_, rfl⟩
  obtain ⟨w11, hV⟩ : ∃ z, z = (w10.alloc (.cells #[.int .i64 0, .int .i64 0, .int .i64 0, .int .i64 0, .slice A10 0 c10] 24)).alloc (.cells #[.int .i64 11, .int .i64 0] 32) := ⟨_, rfl⟩
  obtain ⟨b1, b2, b3⟩ := two_new w10 #[.int .i64 0, .int .i64 0, .int .i64 0, .int .i64 0, .slice A10 0 c10] 24 #[.int .i64 11, .int .i64 0] 32
  rw [← hV, ← hT] at b2
  rw [← hV] at b3
  have HF2 := Lib.hid b2; have HB11 := Lib.hid (HB10.out.trans (b3.mono HB10.out.size))
  have HF1 := Lib.hid (blk_below HF1.out b3)
  clear b1 b2 b3
  go_wp2_with fail
  rw [← hV, ← hT]
  clear hV hT
  refine (mget_any (b := []) (nil_rd _ 1) (by decide)).mono ?_
  rw [kn_6]
  rintro e w12 ⟨A12, n12, c12, he, hh, hb⟩
  cases he
  have hn8 : n12 = 0 := by have h1 : ([] : List UInt8).length = n12 := held_len hh; rw [← h1]; rfl
  subst hn8
  have HB12 := Lib.hid (HB11.out.trans (hb.mono HB11.out.size))
  have HF1 := Lib.hid (blk_below HF1.out hb)
  have HF2 := Lib.hid (blk_below HF2.out hb)
  clear hb hh
  obtain ⟨T3, hT⟩ : ∃ z, z = w12.heap.size := ⟨_, rfl⟩
  obtain ⟨w13, hV⟩ : ∃ z, z = (w12.alloc (.cells #[.int .i64 0, .int .i64 0, .int .i64 0, .int .i64 0, .slice A12 0 c12] 43)).alloc (.cells #[.int .i64 4, .int .i64 0] 32) := ⟨_, rfl⟩
  obtain ⟨b1, b2, b3⟩ := two_new w12 #[.int .i64 0, .int .i64 0, .int .i64 0, .int .i64 0, .slice A12 0 c12] 43 #[.int .i64 4, .int .i64 0] 32
  rw [← hV, ← hT] at b2
  rw [← hV] at b3
  have HF3 := Lib.hid b2; have HB13 := Lib.hid (HB12.out.trans (b3.mono HB12.out.size))
  have HF1 := Lib.hid (blk_below HF1.out b3)
  have HF2 := Lib.hid (blk_below HF2.out b3)
  clear b1 b2 b3
  go_wp2_with fail
  rw [← hV, ← hT]
  clear hV hT
  refine (fawake_any _).mono ?_
  rintro e w14 ⟨rfl, hb⟩
  have HB14 := Lib.hid (HB13.out.trans (hb.mono HB13.out.size))
  have HG1 := Lib.hid (blk_below HF1.out hb)
  have u1a := blk_cell HG1.out 0 _ rfl
  have u1b := blk_cell HG1.out 1 _ rfl
  have HG2 := Lib.hid (blk_below HF2.out hb)
  have u2a := blk_cell HG2.out 0 _ rfl
  have u2b := blk_cell HG2.out 1 _ rfl
  have HG3 := Lib.hid (blk_below HF3.out hb)
  have u3a := blk_cell HG3.out 0 _ rfl
  have u3b := blk_cell HG3.out 1 _ rfl
  clear hb
  go_wp2
  go_ret
  exact ⟨rfl, HB14.out⟩
end Go.Proofs.Ytncahekankbalaa
