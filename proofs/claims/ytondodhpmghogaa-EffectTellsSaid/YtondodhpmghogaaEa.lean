/- Walk: the chapter's examples (EffectKnown). No conditions. -/
import Derived.Test.YtondodhpmghogaaE8
namespace Go.Proofs.Ytondodhpmghogaa
open Go.RowKit
set_option linter.unusedVariables false
set_option linter.unusedSimpArgs false

set_option maxRecDepth 100000 in
set_option maxHeartbeats 4000000 in
theorem efails_any {A0 : Option Addr} {n0 c0 : Nat} {l : List UInt8} {w : World} (hr : Rd w A0 n0 c0 1 (u8s l)) (hn : n0 ≤ 100000000) (e p : Int) (he : effR l = ⟨0, 0, [], e, p⟩) :
    Calls Try.prog 59 #[.slice A0 n0 c0, .int .i64 e, .int .i64 p] w fun E w' => E = .returned (.bool true) ∧ Below w.heap.size w w' := by
  have HR := Lib.hid hr; have HE := Lib.hid he
  clear hr he
  go_enter Try.func59, Try.ntmps59
  go_wp2_with fail
  refine (eread_any HR.out hn).mono ?_
  rw [HE.out]
  rintro x w1 ⟨A, n, c, hx, hh, hb1⟩
  cases hx
  have HB1 := Lib.hid hb1; have HH := Lib.hid (held_rd hh)
  clear hb1 hh
  obtain ⟨V, hV⟩ : ∃ z, z = (w1.alloc (.cells #[.int .i64 0, .int .i64 0, .slice A n c] 72)).alloc (.cells #[.int .i64 e, .int .i64 p] 54) := ⟨_, rfl⟩
  have hbV : Below w1.heap.size w1 V := by rw [hV]; exact (box_below w1 _).alloc (by simp) _
  have HBV := Lib.hid (HB1.out.trans (hbV.mono HB1.out.size)); have HHV := Lib.hid (HH.out.below hbV)
  clear hbV
  go_wp2_with fail
  rw [← hV]
  clear hV
  refine (esame_any 0 0 0 0 (l := []) (l2 := []) HHV.out (nil_rd _ 1)).mono ?_
  rw [show sameE 0 0 [] 0 0 [] = true by kernel_rfl]
  rintro x w2 ⟨rfl, hb2⟩
  go_wp2
  go_ret
  exact ⟨rfl, HBV.out.trans (hb2.mono HBV.out.size)⟩
theorem ek_b : effB 3 0 [] = ([1, 3, 0, 0], 0) := by kernel_rfl
theorem ek_1 : effR [1, 4, 0, 0] = ⟨0, 0, [], 5, 0⟩ := by kernel_rfl
theorem ek_2 : effR [1, 3, 1, 1, 0] = ⟨0, 0, [], 2, 0⟩ := by kernel_rfl
theorem ek_3 : effR [] = ⟨0, 0, [], 4, 0⟩ := by kernel_rfl
set_option maxRecDepth 100000 in
set_option maxHeartbeats 8000000 in
theorem eknown_any (w0 : World) : Calls Try.prog 11 #[] w0 fun e w' => e = .returned (.bool true) ∧ Below w0.heap.size w0 w' := by
  have HB0 := Lib.hid (Below.refl w0.heap.size w0)
  go_enter Try.func11, Try.ntmps11
  go_wp2_with fail
  refine (of_any _ _).mono ?_
  rintro e w1 ⟨rfl, hb⟩
  have hbb := hb
  have HB1 := Lib.hid (HB0.out.trans (hbb.mono HB0.out.size))
  clear hb hbb
  go_wp2_with fail
  refine (ebytes_any 3 0 (by decide) (by decide) (l := []) (nil_rd _ 1) (by decide)).mono ?_
  rw [ek_b]
  rintro e w2 ⟨A1, n1, c1, he, hh2, hb2⟩
  cases he
  have HB2 := Lib.hid (HB1.out.trans (hb2.mono HB1.out.size))
  have hrd2 := held_rd hh2
  have HH := Lib.hid (show Rd w2 A1 n1 c1 1 (u8s [1, 3, 0, 0]) by simpa using hrd2)
  clear hb2 hh2 hrd2
  go_wp2_with fail
  refine (check_any 2 0 _ 1 1 _ (by decide)).mono ?_
  rw [show chk 2 0 1 = 2 by kernel_rfl]
  rintro e w3 ⟨rfl, hb⟩
  have hbb := (box_below w2 _).trans (hb.mono (by simp))
  have HB3 := Lib.hid (HB2.out.trans (hbb.mono HB2.out.size))
  have HH := Lib.hid (HH.out.below hbb)
  clear hb hbb
  go_wp2_with fail
  refine (check_any 3 1 _ 0 0 _ (by decide)).mono ?_
  rw [show chk 3 1 0 = 2 by kernel_rfl]
  rintro e w4 ⟨rfl, hb⟩
  have hbb := hb
  have HB4 := Lib.hid (HB3.out.trans (hbb.mono HB3.out.size))
  have HH := Lib.hid (HH.out.below hbb)
  clear hb hbb
  go_wp2_with fail
  refine (file_any 512 _ _ _ _).mono ?_
  rintro e w5 ⟨rfl, hb⟩
  have hbb := hb
  have HB5 := Lib.hid (HB4.out.trans (hbb.mono HB4.out.size))
  have HH := Lib.hid (HH.out.below hbb)
  clear hb hbb
  go_wp2_with fail
  refine (check_any 1 512 _ 0 0 _ (by decide)).mono ?_
  rw [show chk 1 512 0 = 2 by kernel_rfl]
  rintro e w6 ⟨rfl, hb⟩
  have hbb := hb
  have HB6 := Lib.hid (HB5.out.trans (hbb.mono HB5.out.size))
  have HH := Lib.hid (HH.out.below hbb)
  clear hb hbb
  go_wp2_with fail
  refine (check_any 0 0 _ 0 0 _ (by decide)).mono ?_
  rw [show chk 0 0 0 = 2 by kernel_rfl]
  rintro e w7 ⟨rfl, hb⟩
  have hbb := hb
  have HB7 := Lib.hid (HB6.out.trans (hbb.mono HB6.out.size))
  have HH := Lib.hid (HH.out.below hbb)
  clear hb hbb
  obtain ⟨w8, hW⟩ : ∃ z, z = w7.alloc (.cells #[.int .u8 1, .int .u8 3, .int .u8 0, .int .u8 0] 5) := ⟨_, rfl⟩
  have hbb : Below w7.heap.size w7 w8 := by rw [hW]; exact box_below _ _
  have HB8 := Lib.hid (HB7.out.trans (hbb.mono HB7.out.size))
  have hr1 := HH.out.below hbb
  have hr2 : Rd w8 (some ⟨w7.heap.size, 0, none⟩) 4 4 1 (u8s [1, 3, 0, 0]) := by rw [hW]; exact (rd_bytes w7 [1, 3, 0, 0] #[.int .u8 1, .int .u8 3, .int .u8 0, .int .u8 0] 4 rfl rfl (by decide))
  have HR1 := Lib.hid hr1; have HR2 := Lib.hid hr2
  clear hbb hr1 hr2 HH
  go_wp2_with fail
  rw [← hW]
  clear hW
  refine (same_any _ _ _ _ _ _ _ _ _ HR1.out HR2.out).mono ?_
  rw [eqB_self]
  rintro e wx ⟨rfl, rfl⟩
  clear HR1 HR2
  go_wp2_with fail
  refine (efails_any (rd_bytes w8 [1, 4, 0, 0] #[.int .u8 1, .int .u8 4, .int .u8 0, .int .u8 0] 4 rfl rfl (by decide)) (by decide) 5 0 ek_1).mono ?_
  rintro e w9 ⟨rfl, hb⟩
  have hbb := (box_below w8 _).trans (hb.mono (by simp))
  have HB9 := Lib.hid (HB8.out.trans (hbb.mono HB8.out.size))
  clear hb hbb
  go_wp2_with fail
  refine (efails_any (rd_bytes w9 [1, 3, 1, 1, 0] #[.int .u8 1, .int .u8 3, .int .u8 1, .int .u8 1, .int .u8 0] 5 rfl rfl (by decide)) (by decide) 2 0 ek_2).mono ?_
  rintro e w10 ⟨rfl, hb⟩
  have hbb := (box_below w9 _).trans (hb.mono (by simp))
  have HB10 := Lib.hid (HB9.out.trans (hbb.mono HB9.out.size))
  clear hb hbb
  go_wp2_with fail
  refine (efails_any (l := []) (nil_rd _ 1) (by decide) 4 0 ek_3).mono ?_
  rintro e w11 ⟨rfl, hb⟩
  have hbb := hb
  have HB11 := Lib.hid (HB10.out.trans (hbb.mono HB10.out.size))
  clear hb hbb
  go_wp2_with fail
  refine (eawake_any _).mono ?_
  rintro e w12 ⟨rfl, hb⟩
  have hbb := hb
  have HB12 := Lib.hid (HB11.out.trans (hbb.mono HB11.out.size))
  clear hb hbb
  go_wp2_with fail
  refine (file_any 1 _ _ _ _).mono ?_
  rintro e w13 ⟨rfl, hb⟩
  have hbb := hb
  have HB13 := Lib.hid (HB12.out.trans (hbb.mono HB12.out.size))
  clear hb hbb
  go_wp2_with fail
  refine (file_any 2 _ _ _ _).mono ?_
  rintro e w14 ⟨rfl, hb⟩
  have hbb := hb
  have HB14 := Lib.hid (HB13.out.trans (hbb.mono HB13.out.size))
  clear hb hbb
  go_wp2_with fail
  refine (eless_any 1 1 1 2 (l := []) (l2 := []) (nil_rd _ 1) (nil_rd _ 1)).mono ?_
  rw [show lessE 1 1 [] 1 2 [] = true by kernel_rfl]
  rintro e w15 ⟨rfl, hb⟩
  have hbb := hb
  have HB15 := Lib.hid (HB14.out.trans (hbb.mono HB14.out.size))
  clear hb hbb
  have HA := Lib.hid (rd_bytes w15 [7] #[.int .u8 7] 1 rfl rfl (by decide))
  have HAB := Lib.hid (box_below w15 (.cells #[.int .u8 7] 5))
  go_wp2_with fail
  refine (file_any 1 _ _ _ _).mono ?_
  rintro e w16 ⟨rfl, hb⟩
  have HA1 := Lib.hid (HA.out.below hb)
  have hbb := (box_below w15 _).trans (hb.mono (by simp))
  have HB16 := Lib.hid (HB15.out.trans (hbb.mono HB15.out.size))
  clear hb hbb
  go_wp2_with fail
  refine (file_any 1 _ _ _ _).mono ?_
  rintro e w17 ⟨rfl, hb⟩
  have HA2 := Lib.hid ((HA1.out.below (box_below w16 (.cells #[.int .u8 7, .int .u8 8] 5))).below hb)
  have HC2 := Lib.hid ((rd_bytes w16 [7, 8] #[.int .u8 7, .int .u8 8] 2 rfl rfl (by decide)).below hb)
  have hbb := (box_below w16 _).trans (hb.mono (by simp))
  have HB17 := Lib.hid (HB16.out.trans (hbb.mono HB16.out.size))
  clear hb hbb
  go_wp2_with fail
  refine (eless_any 1 1 1 1 HA2.out HC2.out).mono ?_
  rw [show lessE 1 1 [7] 1 1 [7, 8] = true by kernel_rfl]
  rintro e w18 ⟨rfl, hb⟩
  have hbb := hb
  have HB18 := Lib.hid (HB17.out.trans (hbb.mono HB17.out.size))
  clear hb hbb
  go_wp2_with fail
  refine (of_any _ _).mono ?_
  rintro e w19 ⟨rfl, hb⟩
  have hbb := hb
  have HB19 := Lib.hid (HB18.out.trans (hbb.mono HB18.out.size))
  clear hb hbb
  go_wp2_with fail
  refine (of_any _ _).mono ?_
  rintro e w20 ⟨rfl, hb⟩
  have hbb := hb
  have HB20 := Lib.hid (HB19.out.trans (hbb.mono HB19.out.size))
  clear hb hbb
  go_wp2_with fail
  refine (eless_any 2 0 2 0 (l := []) (l2 := []) (nil_rd _ 1) (nil_rd _ 1)).mono ?_
  rw [show lessE 2 0 [] 2 0 [] = false by kernel_rfl]
  rintro e w21 ⟨rfl, hb⟩
  have hbb := hb
  have HB21 := Lib.hid (HB20.out.trans (hbb.mono HB20.out.size))
  clear hb hbb
  go_wp2
  go_ret
  exact ⟨rfl, HB21.out⟩
end Go.Proofs.Ytondodhpmghogaa
