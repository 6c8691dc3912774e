/- Walk: packets and messages that are put are got back, and what is got is put as it stood (FrameBack). Conditions: the arguments are as they come in. -/
import Derived.Test.YtncahekankbalaaFg
namespace Go.Proofs.Ytncahekankbalaa
open Go.RowKit
set_option linter.unusedVariables false
set_option linter.unusedSimpArgs false
set_option maxRecDepth 100000 in
set_option maxHeartbeats 16000000 in
theorem back_ny (f t n a : Int) (A : Option Addr) (m c : Nat) (l : List UInt8) (k i s b : Int) (A2 : Option Addr) (m2 c2 : Nat) (l2 : List UInt8) (A3 : Option Addr) (n3 c3 : Nat) (l3 : List UInt8) (w : World) (hr : Rd w A m c 1 (u8s l)) (hr2 : Rd w A2 m2 c2 1 (u8s l2)) (hr3 : Rd w A3 n3 c3 1 (u8s l3)) (g1 : decide ((600 : Int) < (m : Int)) = false) (g2 : decide ((600 : Int) < (m2 : Int)) = false) (g3 : decide ((700 : Int) < (n3 : Int)) = false) (h1 : chkP f t n a m ≠ 0) (h2 : chkM k i s b m2 = 0) :
    Calls Try.prog 7 #[.agg #[.int .i64 f, .int .i64 t, .int .i64 n, .int .i64 a, .slice A m c], .agg #[.int .i64 k, .int .i64 i, .int .i64 s, .int .i64 b, .slice A2 m2 c2], .slice A3 n3 c3] w fun e w' => e = .returned (.bool true) ∧ Below w.heap.size w w' := by
  have hm := hr.small
  have hm2 := hr2.small
  have hl : l.length = m := by have := hr.len; simpa using this
  have hl2 : l2.length = m2 := by have := hr2.len; simpa using this
  obtain ⟨B, hB⟩ : ∃ z, z = w.heap.size := ⟨_, rfl⟩
  obtain ⟨V, hV⟩ : ∃ z, z = (w.alloc (.cells #[.int .i64 f, .int .i64 t, .int .i64 n, .int .i64 a, .slice A m c] 24)).alloc (.cells #[.int .i64 k, .int .i64 i, .int .i64 s, .int .i64 b, .slice A2 m2 c2] 43) := ⟨_, rfl⟩
  obtain ⟨b1, b2, b3⟩ := two_new w #[.int .i64 f, .int .i64 t, .int .i64 n, .int .i64 a, .slice A m c] 24 #[.int .i64 k, .int .i64 i, .int .i64 s, .int .i64 b, .slice A2 m2 c2] 43
  rw [← hV, ← hB] at b1 b2
  rw [← hV] at b3
  have HP := Lib.hid b1; have HM := Lib.hid b2; have HB := Lib.hid b3; have HR := Lib.hid (hr.below b3); have HQ := Lib.hid (hr2.below b3); have HL3 := Lib.hid (hr3.below b3)
  have HLL := Lib.hid hl; have HLL2 := Lib.hid hl2
  clear b1 b2 b3 hr hr2 hr3 hl hl2
  have hn3 : n3 ≤ 700 := by have := of_decide_eq_false g3; omega
  have HYP := Lib.hid (show pktB f t n a l = ([], 2) by unfold pktB; rw [HLL.out, if_neg h1])
  have HC1 := Lib.hid (chkP_two h1)
  have HRM := Lib.hid (show getM (msgX k i s b l2) = ⟨k, i, s, b, l2, 0, 0⟩ from msg_read (by rw [HLL2.out]; exact h2))
  have HYN := Lib.hid (show (msgX k i s b l2).length ≤ 240 from msgX_short (by rw [HLL2.out]; exact h2))
  have HYM := Lib.hid (show msgB k i s b l2 = (msgX k i s b l2, 0) by unfold msgB; rw [HLL2.out, if_pos h2])
  have HC2 := Lib.hid h2
  clear h1 h2
  obtain ⟨S2, hS2⟩ : ∃ z, z = msgX k i s b l2 := ⟨_, rfl⟩
  rw [← hS2] at HRM HYN HYM
  clear hS2
  go_enter Try.func7, Try.ntmps7
  go_wp2_with fail
  rw [← hV, ← hB]
  clear hV hB
  refine (known_any _).mono ?_
  rintro e w0 ⟨rfl, hb⟩
  replace HB := Lib.hid (HB.out.trans (hb.mono HB.out.size))
  replace HP := Lib.hid (blk_below HP.out hb)
  replace HM := Lib.hid (blk_below HM.out hb)
  replace HR := Lib.hid (HR.out.below hb)
  replace HQ := Lib.hid (HQ.out.below hb)
  replace HL3 := Lib.hid (HL3.out.below hb)
  clear hb
  have p0 := blk_cell HP.out 0 _ rfl
  have q0 := blk_cell HM.out 0 _ rfl
  have p1 := blk_cell HP.out 1 _ rfl
  have q1 := blk_cell HM.out 1 _ rfl
  have p2 := blk_cell HP.out 2 _ rfl
  have q2 := blk_cell HM.out 2 _ rfl
  have p3 := blk_cell HP.out 3 _ rfl
  have q3 := blk_cell HM.out 3 _ rfl
  have p4 := blk_cell HP.out 4 _ rfl
  have q4 := blk_cell HM.out 4 _ rfl
  go_wp2_with fail
  refine (pput_any f t n a HR.out hm).mono ?_
  rw [HYP.out]
  rintro e w1 ⟨D1, k1, f1, he, hh, hb⟩
  cases he
  have hk1 := held_len hh
  replace HB := Lib.hid (HB.out.trans (hb.mono HB.out.size))
  replace HP := Lib.hid (blk_below HP.out hb)
  replace HM := Lib.hid (blk_below HM.out hb)
  replace HR := Lib.hid (HR.out.below hb)
  replace HQ := Lib.hid (HQ.out.below hb)
  replace HL3 := Lib.hid (HL3.out.below hb)
  have HS1 := Lib.hid (held_rd hh)
  clear hb hh p0 p1 p2 p3 p4 q0 q1 q2 q3 q4
  have p0 := blk_cell HP.out 0 _ rfl
  have q0 := blk_cell HM.out 0 _ rfl
  have p1 := blk_cell HP.out 1 _ rfl
  have q1 := blk_cell HM.out 1 _ rfl
  have p2 := blk_cell HP.out 2 _ rfl
  have q2 := blk_cell HM.out 2 _ rfl
  have p3 := blk_cell HP.out 3 _ rfl
  have q3 := blk_cell HM.out 3 _ rfl
  have p4 := blk_cell HP.out 4 _ rfl
  have q4 := blk_cell HM.out 4 _ rfl
  clear hk1
  go_wp2_with fail
  clear p0 q0 p1 q1 p2 q2 p3 q3 p4 q4
  refine (mput_any k i s b HQ.out hm2).mono ?_
  rw [HYM.out]
  rintro e w2 ⟨D2, k2, f2, he, hh, hb⟩
  cases he
  have hk2 := held_len hh
  replace HB := Lib.hid (HB.out.trans (hb.mono HB.out.size))
  replace HP := Lib.hid (blk_below HP.out hb)
  replace HM := Lib.hid (blk_below HM.out hb)
  replace HR := Lib.hid (HR.out.below hb)
  replace HQ := Lib.hid (HQ.out.below hb)
  replace HL3 := Lib.hid (HL3.out.below hb)
  replace HS1 := Lib.hid (HS1.out.below hb)
  have HS2 := Lib.hid (held_rd hh)
  clear hb hh
  have p0 := blk_cell HP.out 0 _ rfl
  have q0 := blk_cell HM.out 0 _ rfl
  have p1 := blk_cell HP.out 1 _ rfl
  have q1 := blk_cell HM.out 1 _ rfl
  have p2 := blk_cell HP.out 2 _ rfl
  have q2 := blk_cell HM.out 2 _ rfl
  have p3 := blk_cell HP.out 3 _ rfl
  have q3 := blk_cell HM.out 3 _ rfl
  have p4 := blk_cell HP.out 4 _ rfl
  have q4 := blk_cell HM.out 4 _ rfl
  have HCK := Lib.hid (show chkP 1 0 1 0 k2 = 0 from chk_carry k2 (by rw [← hk2]; exact HYN.out))
  have hk2 : k2 ≤ 240 := by rw [← hk2]; exact HYN.out
  have gk2 : decide ((240 : Int) < (k2 : Int)) = false := decide_eq_false (by omega)
  go_wp2_with fail
  clear p0 q0 p1 q1 p2 q2 p3 q3 p4 q4
  refine (pcheck_any f t n a A m c _ hm).mono ?_
  rw [HC1.out]
  rintro e w3 ⟨rfl, hb⟩
  replace HB := Lib.hid (HB.out.trans (hb.mono HB.out.size))
  replace HP := Lib.hid (blk_below HP.out hb)
  replace HM := Lib.hid (blk_below HM.out hb)
  replace HR := Lib.hid (HR.out.below hb)
  replace HQ := Lib.hid (HQ.out.below hb)
  replace HL3 := Lib.hid (HL3.out.below hb)
  replace HS1 := Lib.hid (HS1.out.below hb)
  replace HS2 := Lib.hid (HS2.out.below hb)
  clear hb
  have p0 := blk_cell HP.out 0 _ rfl
  have q0 := blk_cell HM.out 0 _ rfl
  have p1 := blk_cell HP.out 1 _ rfl
  have q1 := blk_cell HM.out 1 _ rfl
  have p2 := blk_cell HP.out 2 _ rfl
  have q2 := blk_cell HM.out 2 _ rfl
  have p3 := blk_cell HP.out 3 _ rfl
  have q3 := blk_cell HM.out 3 _ rfl
  have p4 := blk_cell HP.out 4 _ rfl
  have q4 := blk_cell HM.out 4 _ rfl
  go_wp2_with fail
  clear p0 q0 p1 q1 p2 q2 p3 q3 p4 q4
  refine (mcheck_any k i s b A2 m2 c2 _ hm2).mono ?_
  rw [HC2.out]
  rintro e w4 ⟨rfl, hb⟩
  replace HB := Lib.hid (HB.out.trans (hb.mono HB.out.size))
  replace HP := Lib.hid (blk_below HP.out hb)
  replace HM := Lib.hid (blk_below HM.out hb)
  replace HR := Lib.hid (HR.out.below hb)
  replace HQ := Lib.hid (HQ.out.below hb)
  replace HL3 := Lib.hid (HL3.out.below hb)
  replace HS1 := Lib.hid (HS1.out.below hb)
  replace HS2 := Lib.hid (HS2.out.below hb)
  clear hb
  go_wp2_with fail
  refine (mget_any HS2.out (by omega)).mono ?_
  rw [HRM.out]
  rintro e w5 ⟨A7, n7, c7, he, hh, hb⟩
  cases he
  replace HB := Lib.hid (HB.out.trans (hb.mono HB.out.size))
  replace HP := Lib.hid (blk_below HP.out hb)
  replace HM := Lib.hid (blk_below HM.out hb)
  replace HR := Lib.hid (HR.out.below hb)
  replace HQ := Lib.hid (HQ.out.below hb)
  replace HL3 := Lib.hid (HL3.out.below hb)
  replace HS2 := Lib.hid (HS2.out.below hb)
  have HG := Lib.hid (held_rd hh)
  clear hb hh
  obtain ⟨w6, hw⟩ : ∃ z, z = (w5.alloc (.cells #[.int .i64 k, .int .i64 i, .int .i64 s, .int .i64 b, .slice A7 n7 c7] 43)).alloc (.cells #[.int .i64 0, .int .i64 0] 32) := ⟨_, rfl⟩
  obtain ⟨b1, b2, b3⟩ := two_new w5 #[.int .i64 k, .int .i64 i, .int .i64 s, .int .i64 b, .slice A7 n7 c7] 43 #[.int .i64 0, .int .i64 0] 32
  have g0 := blk_cell b1 0 _ rfl
  have p0 := below_cell b3 (blk_cell HP.out 0 _ rfl)
  have q0 := below_cell b3 (blk_cell HM.out 0 _ rfl)
  have g1 := blk_cell b1 1 _ rfl
  have p1 := below_cell b3 (blk_cell HP.out 1 _ rfl)
  have q1 := below_cell b3 (blk_cell HM.out 1 _ rfl)
  have g2 := blk_cell b1 2 _ rfl
  have p2 := below_cell b3 (blk_cell HP.out 2 _ rfl)
  have q2 := below_cell b3 (blk_cell HM.out 2 _ rfl)
  have g3 := blk_cell b1 3 _ rfl
  have p3 := below_cell b3 (blk_cell HP.out 3 _ rfl)
  have q3 := below_cell b3 (blk_cell HM.out 3 _ rfl)
  have g4 := blk_cell b1 4 _ rfl
  have p4 := below_cell b3 (blk_cell HP.out 4 _ rfl)
  have q4 := below_cell b3 (blk_cell HM.out 4 _ rfl)
  have h0 := blk_cell b2 0 _ rfl
  have h1 := blk_cell b2 1 _ rfl
  have d3 := b3
  rw [← hw] at d3
  replace HB := Lib.hid (HB.out.trans (d3.mono HB.out.size))
  replace HP := Lib.hid (blk_below HP.out d3)
  replace HM := Lib.hid (blk_below HM.out d3)
  replace HR := Lib.hid (HR.out.below d3)
  replace HQ := Lib.hid (HQ.out.below d3)
  replace HL3 := Lib.hid (HL3.out.below d3)
  replace HS2 := Lib.hid (HS2.out.below d3)
  replace HG := Lib.hid (HG.out.below d3)
  clear b1 b2 b3 d3
  go_wp2_with fail
  rw [← hw]
  clear hw g0 p0 q0 g1 p1 q1 g2 p2 q2 g3 p3 q3 g4 p4 q4 h0 h1
  refine (msame_any k i s b k i s b HG.out HQ.out).mono ?_
  rw [sameM_self]
  rintro e w7 ⟨rfl, hb⟩
  replace HB := Lib.hid (HB.out.trans (hb.mono HB.out.size))
  replace HP := Lib.hid (blk_below HP.out hb)
  replace HM := Lib.hid (blk_below HM.out hb)
  replace HR := Lib.hid (HR.out.below hb)
  replace HQ := Lib.hid (HQ.out.below hb)
  replace HL3 := Lib.hid (HL3.out.below hb)
  replace HS2 := Lib.hid (HS2.out.below hb)
  clear hb
  go_wp2_with fail
  refine (pcheck_any 1 0 1 0 D2 k2 f2 _ (by omega)).mono ?_
  rw [HCK.out]
  rintro e w8 ⟨rfl, hb⟩
  replace HB := Lib.hid (HB.out.trans (hb.mono HB.out.size))
  replace HP := Lib.hid (blk_below HP.out hb)
  replace HM := Lib.hid (blk_below HM.out hb)
  replace HR := Lib.hid (HR.out.below hb)
  replace HQ := Lib.hid (HQ.out.below hb)
  replace HL3 := Lib.hid (HL3.out.below hb)
  replace HS2 := Lib.hid (HS2.out.below hb)
  clear hb
  go_wp2_with fail
  refine (pget_any HL3.out (by omega)).mono ?_
  obtain ⟨r, hr⟩ : ∃ z, z = getP l3 := ⟨_, rfl⟩
  rw [← hr]
  have HRR := Lib.hid hr
  clear hr
  rintro e w9 ⟨A8, n8, c8, rfl, hh, hb⟩
  replace HB := Lib.hid (HB.out.trans (hb.mono HB.out.size))
  replace HP := Lib.hid (blk_below HP.out hb)
  replace HM := Lib.hid (blk_below HM.out hb)
  replace HR := Lib.hid (HR.out.below hb)
  replace HQ := Lib.hid (HQ.out.below hb)
  replace HL3 := Lib.hid (HL3.out.below hb)
  have HG := Lib.hid (held_rd hh)
  clear hb hh
  obtain ⟨w10, hw⟩ : ∃ z, z = (w9.alloc (.cells #[.int .i64 r.f, .int .i64 r.t, .int .i64 r.n, .int .i64 r.a, .slice A8 n8 c8] 24)).alloc (.cells #[.int .i64 r.e, .int .i64 r.p] 32) := ⟨_, rfl⟩
  obtain ⟨b1, b2, b3⟩ := two_new w9 #[.int .i64 r.f, .int .i64 r.t, .int .i64 r.n, .int .i64 r.a, .slice A8 n8 c8] 24 #[.int .i64 r.e, .int .i64 r.p] 32
  have g0 := blk_cell b1 0 _ rfl
  have p0 := below_cell b3 (blk_cell HP.out 0 _ rfl)
  have q0 := below_cell b3 (blk_cell HM.out 0 _ rfl)
  have g1 := blk_cell b1 1 _ rfl
  have p1 := below_cell b3 (blk_cell HP.out 1 _ rfl)
  have q1 := below_cell b3 (blk_cell HM.out 1 _ rfl)
  have g2 := blk_cell b1 2 _ rfl
  have p2 := below_cell b3 (blk_cell HP.out 2 _ rfl)
  have q2 := below_cell b3 (blk_cell HM.out 2 _ rfl)
  have g3 := blk_cell b1 3 _ rfl
  have p3 := below_cell b3 (blk_cell HP.out 3 _ rfl)
  have q3 := below_cell b3 (blk_cell HM.out 3 _ rfl)
  have g4 := blk_cell b1 4 _ rfl
  have p4 := below_cell b3 (blk_cell HP.out 4 _ rfl)
  have q4 := below_cell b3 (blk_cell HM.out 4 _ rfl)
  have h0 := blk_cell b2 0 _ rfl
  have h1 := blk_cell b2 1 _ rfl
  have d3 := b3
  rw [← hw] at d3
  replace HB := Lib.hid (HB.out.trans (d3.mono HB.out.size))
  replace HP := Lib.hid (blk_below HP.out d3)
  replace HM := Lib.hid (blk_below HM.out d3)
  replace HR := Lib.hid (HR.out.below d3)
  replace HQ := Lib.hid (HQ.out.below d3)
  replace HL3 := Lib.hid (HL3.out.below d3)
  replace HG := Lib.hid (HG.out.below d3)
  clear b1 b2 b3 d3
  by_cases hr0 : r.e = 0
  · have gr : (r.e == 0) = true := by simpa using hr0
    have HE := Lib.hid (show pktB r.f r.t r.n r.a r.l = (l3, 0) by rw [HRR.out]; exact getP_back (by rw [← HRR.out]; exact hr0))
    clear hr0
    go_wp2_with fail
    rw [← hw]
    clear hw g0 p0 q0 g1 p1 q1 g2 p2 q2 g3 p3 q3 g4 p4 q4 h0 h1
    refine (pput_any r.f r.t r.n r.a HG.out HG.out.small).mono ?_
    rw [HE.out]
    rintro e w11 ⟨D8, k8, f8, he, hh, hb⟩
    cases he
    have HD := Lib.hid (held_rd hh)
    replace HB := Lib.hid (HB.out.trans (hb.mono HB.out.size))
    replace HP := Lib.hid (blk_below HP.out hb)
    replace HM := Lib.hid (blk_below HM.out hb)
    replace HR := Lib.hid (HR.out.below hb)
    replace HQ := Lib.hid (HQ.out.below hb)
    replace HL3 := Lib.hid (HL3.out.below hb)
    clear hb hh gr
    go_wp2_with fail
    refine (same_any _ _ _ _ _ _ _ _ _ HD.out HL3.out).mono ?_
    rw [eqB_self]
    rintro e wx ⟨rfl, rfl⟩
    go_wp2_with fail
    refine (mget_any HL3.out (by omega)).mono ?_
    obtain ⟨x, hx⟩ : ∃ z, z = getM l3 := ⟨_, rfl⟩
    rw [← hx]
    have HX := Lib.hid hx
    clear hx
    rintro e w12 ⟨A9, n9, c9, rfl, hh, hb⟩
    replace HB := Lib.hid (HB.out.trans (hb.mono HB.out.size))
    replace HP := Lib.hid (blk_below HP.out hb)
    replace HM := Lib.hid (blk_below HM.out hb)
    replace HR := Lib.hid (HR.out.below hb)
    replace HQ := Lib.hid (HQ.out.below hb)
    replace HL3 := Lib.hid (HL3.out.below hb)
    have HG := Lib.hid (held_rd hh)
    clear hb hh
    obtain ⟨w13, hw⟩ : ∃ z, z = (w12.alloc (.cells #[.int .i64 x.k, .int .i64 x.i, .int .i64 x.s, .int .i64 x.a, .slice A9 n9 c9] 43)).alloc (.cells #[.int .i64 x.e, .int .i64 x.p] 32) := ⟨_, rfl⟩
    obtain ⟨b1, b2, b3⟩ := two_new w12 #[.int .i64 x.k, .int .i64 x.i, .int .i64 x.s, .int .i64 x.a, .slice A9 n9 c9] 43 #[.int .i64 x.e, .int .i64 x.p] 32
    have g0 := blk_cell b1 0 _ rfl
    have p0 := below_cell b3 (blk_cell HP.out 0 _ rfl)
    have q0 := below_cell b3 (blk_cell HM.out 0 _ rfl)
    have g1 := blk_cell b1 1 _ rfl
    have p1 := below_cell b3 (blk_cell HP.out 1 _ rfl)
    have q1 := below_cell b3 (blk_cell HM.out 1 _ rfl)
    have g2 := blk_cell b1 2 _ rfl
    have p2 := below_cell b3 (blk_cell HP.out 2 _ rfl)
    have q2 := below_cell b3 (blk_cell HM.out 2 _ rfl)
    have g3 := blk_cell b1 3 _ rfl
    have p3 := below_cell b3 (blk_cell HP.out 3 _ rfl)
    have q3 := below_cell b3 (blk_cell HM.out 3 _ rfl)
    have g4 := blk_cell b1 4 _ rfl
    have p4 := below_cell b3 (blk_cell HP.out 4 _ rfl)
    have q4 := below_cell b3 (blk_cell HM.out 4 _ rfl)
    have h0 := blk_cell b2 0 _ rfl
    have h1 := blk_cell b2 1 _ rfl
    have d3 := b3
    rw [← hw] at d3
    replace HB := Lib.hid (HB.out.trans (d3.mono HB.out.size))
    replace HP := Lib.hid (blk_below HP.out d3)
    replace HM := Lib.hid (blk_below HM.out d3)
    replace HR := Lib.hid (HR.out.below d3)
    replace HQ := Lib.hid (HQ.out.below d3)
    replace HL3 := Lib.hid (HL3.out.below d3)
    replace HG := Lib.hid (HG.out.below d3)
    clear b1 b2 b3 d3
    by_cases hx0 : x.e = 0
    · have gx : (x.e != 0) = false := by simpa using hx0
      have HE := Lib.hid (show msgB x.k x.i x.s x.a x.l = (l3, 0) by rw [HX.out]; exact getM_back (by rw [← HX.out]; exact hx0))
      clear hx0
      go_wp2_with fail
      rw [← hw]
      clear hw g0 p0 q0 g1 p1 q1 g2 p2 q2 g3 p3 q3 g4 p4 q4 h0 h1
      refine (mput_any x.k x.i x.s x.a HG.out HG.out.small).mono ?_
      rw [HE.out]
      rintro e wy ⟨D9, k9, f9, he, hh, hb⟩
      cases he
      have HD := Lib.hid (held_rd hh)
      replace HB := Lib.hid (HB.out.trans (hb.mono HB.out.size))
      replace HL3 := Lib.hid (HL3.out.below hb)
      clear hb hh gx
      go_wp2_with fail
      refine (same_any _ _ _ _ _ _ _ _ _ HD.out HL3.out).mono ?_
      rw [eqB_self]
      rintro e wz ⟨rfl, rfl⟩
      go_wp2
      go_ret
      exact ⟨rfl, HB.out⟩
    · have gx : (x.e != 0) = true := by simpa using hx0
      have gk : (x.k == 0) = true := by
        rw [beq_iff_eq, HX.out]; exact getM_none (by rw [← HX.out]; exact hx0)
      clear hx0
      go_wp2_with fail
      go_ret
      exact ⟨rfl, by first | exact HB.out | (rw [← hw]; exact HB.out)⟩
  · have gr : (r.e == 0) = false := by simpa using hr0
    clear hr0
    go_wp2_with fail
    rw [← hw]
    clear hw g0 p0 q0 g1 p1 q1 g2 p2 q2 g3 p3 q3 g4 p4 q4 h0 h1
    refine (mget_any HL3.out (by omega)).mono ?_
    obtain ⟨x, hx⟩ : ∃ z, z = getM l3 := ⟨_, rfl⟩
    rw [← hx]
    have HX := Lib.hid hx
    clear hx
    rintro e w14 ⟨A9, n9, c9, rfl, hh, hb⟩
    replace HB := Lib.hid (HB.out.trans (hb.mono HB.out.size))
    replace HP := Lib.hid (blk_below HP.out hb)
    replace HM := Lib.hid (blk_below HM.out hb)
    replace HR := Lib.hid (HR.out.below hb)
    replace HQ := Lib.hid (HQ.out.below hb)
    replace HL3 := Lib.hid (HL3.out.below hb)
    have HG := Lib.hid (held_rd hh)
    clear hb hh
    obtain ⟨w15, hw⟩ : ∃ z, z = (w14.alloc (.cells #[.int .i64 x.k, .int .i64 x.i, .int .i64 x.s, .int .i64 x.a, .slice A9 n9 c9] 43)).alloc (.cells #[.int .i64 x.e, .int .i64 x.p] 32) := ⟨_, rfl⟩
    obtain ⟨b1, b2, b3⟩ := two_new w14 #[.int .i64 x.k, .int .i64 x.i, .int .i64 x.s, .int .i64 x.a, .slice A9 n9 c9] 43 #[.int .i64 x.e, .int .i64 x.p] 32
    have g0 := blk_cell b1 0 _ rfl
    have p0 := below_cell b3 (blk_cell HP.out 0 _ rfl)
    have q0 := below_cell b3 (blk_cell HM.out 0 _ rfl)
    have g1 := blk_cell b1 1 _ rfl
    have p1 := below_cell b3 (blk_cell HP.out 1 _ rfl)
    have q1 := below_cell b3 (blk_cell HM.out 1 _ rfl)
    have g2 := blk_cell b1 2 _ rfl
    have p2 := below_cell b3 (blk_cell HP.out 2 _ rfl)
    have q2 := below_cell b3 (blk_cell HM.out 2 _ rfl)
    have g3 := blk_cell b1 3 _ rfl
    have p3 := below_cell b3 (blk_cell HP.out 3 _ rfl)
    have q3 := below_cell b3 (blk_cell HM.out 3 _ rfl)
    have g4 := blk_cell b1 4 _ rfl
    have p4 := below_cell b3 (blk_cell HP.out 4 _ rfl)
    have q4 := below_cell b3 (blk_cell HM.out 4 _ rfl)
    have h0 := blk_cell b2 0 _ rfl
    have h1 := blk_cell b2 1 _ rfl
    have d3 := b3
    rw [← hw] at d3
    replace HB := Lib.hid (HB.out.trans (d3.mono HB.out.size))
    replace HP := Lib.hid (blk_below HP.out d3)
    replace HM := Lib.hid (blk_below HM.out d3)
    replace HR := Lib.hid (HR.out.below d3)
    replace HQ := Lib.hid (HQ.out.below d3)
    replace HL3 := Lib.hid (HL3.out.below d3)
    replace HG := Lib.hid (HG.out.below d3)
    clear b1 b2 b3 d3
    by_cases hx0 : x.e = 0
    · have gx : (x.e != 0) = false := by simpa using hx0
      have HE := Lib.hid (show msgB x.k x.i x.s x.a x.l = (l3, 0) by rw [HX.out]; exact getM_back (by rw [← HX.out]; exact hx0))
      clear hx0
      go_wp2_with fail
      rw [← hw]
      clear hw g0 p0 q0 g1 p1 q1 g2 p2 q2 g3 p3 q3 g4 p4 q4 h0 h1
      refine (mput_any x.k x.i x.s x.a HG.out HG.out.small).mono ?_
      rw [HE.out]
      rintro e wy ⟨D9, k9, f9, he, hh, hb⟩
      cases he
      have HD := Lib.hid (held_rd hh)
      replace HB := Lib.hid (HB.out.trans (hb.mono HB.out.size))
      replace HL3 := Lib.hid (HL3.out.below hb)
      clear hb hh gx
      go_wp2_with fail
      refine (same_any _ _ _ _ _ _ _ _ _ HD.out HL3.out).mono ?_
      rw [eqB_self]
      rintro e wz ⟨rfl, rfl⟩
      go_wp2
      go_ret
      exact ⟨rfl, HB.out⟩
    · have gx : (x.e != 0) = true := by simpa using hx0
      have gk : (x.k == 0) = true := by
        rw [beq_iff_eq, HX.out]; exact getM_none (by rw [← HX.out]; exact hx0)
      clear hx0
      go_wp2_with fail
      go_ret
      exact ⟨rfl, by first | exact HB.out | (rw [← hw]; exact HB.out)⟩
end Go.Proofs.Ytncahekankbalaa
