/- Walk: packets and messages that are put are got back, and what is got is put as it stood (FrameBack). Conditions: the arguments are as they come in. -/
import Derived.Test.YtncahekankbalaaFh1
import Derived.Test.YtncahekankbalaaFh2
import Derived.Test.YtncahekankbalaaFh3
import Derived.Test.YtncahekankbalaaFh4
namespace Go.Proofs.Ytncahekankbalaa
open Go.RowKit
set_option linter.unusedVariables false
set_option linter.unusedSimpArgs false
set_option maxRecDepth 100000 in
set_option maxHeartbeats 16000000 in
theorem back_law (f t n a : Int) (A : Option Addr) (m c : Nat) (l : List UInt8) (k i s b : Int) (A2 : Option Addr) (m2 c2 : Nat) (l2 : List UInt8) (A3 : Option Addr) (n3 c3 : Nat) (l3 : List UInt8) (w : World) (hr : Rd w A m c 1 (u8s l)) (hr2 : Rd w A2 m2 c2 1 (u8s l2)) (hr3 : Rd w A3 n3 c3 1 (u8s l3)) :
    Calls Try.prog 7 #[.agg #[.int .i64 f, .int .i64 t, .int .i64 n, .int .i64 a, .slice A m c], .agg #[.int .i64 k, .int .i64 i, .int .i64 s, .int .i64 b, .slice A2 m2 c2], .slice A3 n3 c3] w fun e w' => e = .returned (.bool true) ∧ Below w.heap.size w w' := by
  have hr0 := hr
  have hr20 := hr2
  have hr30 := hr3
  have hm := hr.small
  have hm2 := hr2.small
  have hl : l.length = m := by have := hr.len; simpa using this
  have hl2 : l2.length = m2 := by have := hr2.len; simpa using this
  obtain ⟨B, hB⟩ : ∃ z, z = w.heap.size := ⟨_, rfl⟩
  obtain ⟨V, hV⟩ : ∃ z, z = (w.alloc (.cells #[.int .i64 f, .int .i64 t, .int .i64 n, .int .i64 a, .slice A m c] 24)).alloc (.cells #[.int .i64 k, .int .i64 i, .int .i64 s, .int .i64 b, .slice A2 m2 c2] 43) := ⟨_, rfl⟩
  obtain ⟨b1, b2, b3⟩ := two_new w #[.int .i64 f, .int .i64 t, .int .i64 n, .int .i64 a, .slice A m c] 24 #[.int .i64 k, .int .i64 i, .int .i64 s, .int .i64 b, .slice A2 m2 c2] 43
  rw [← hV, ← hB] at b1 b2
  rw [← hV] at b3
  have HP := Lib.hid b1; have HM := Lib.hid b2; have HB := Lib.hid b3; have HR := Lib.hid (hr.below b3); have HQ := Lib.hid (hr2.below b3); have HL3 := Lib.hid (hr3.below b3)
  have HLL := Lib.hid hl; have HLL2 := Lib.hid hl2
  clear b1 b2 b3 hr hr2 hr3 hl hl2
  by_cases d1 : 600 < m
  · have g1 : decide ((600 : Int) < (m : Int)) = true := decide_eq_true (by omega)
    clear d1
    go_enter Try.func7, Try.ntmps7
    go_wp2_with fail
    rw [← hV, ← hB]
    clear hV hB
    refine (known_any _).mono ?_
    rintro e w0 ⟨rfl, hb⟩
    replace HB := Lib.hid (HB.out.trans (hb.mono HB.out.size))
    replace HP := Lib.hid (blk_below HP.out hb)
    replace HM := Lib.hid (blk_below HM.out hb)
    replace HR := Lib.hid (HR.out.below hb)
    replace HQ := Lib.hid (HQ.out.below hb)
    replace HL3 := Lib.hid (HL3.out.below hb)
    clear hb
    have p0 := blk_cell HP.out 0 _ rfl
    have q0 := blk_cell HM.out 0 _ rfl
    have p1 := blk_cell HP.out 1 _ rfl
    have q1 := blk_cell HM.out 1 _ rfl
    have p2 := blk_cell HP.out 2 _ rfl
    have q2 := blk_cell HM.out 2 _ rfl
    have p3 := blk_cell HP.out 3 _ rfl
    have q3 := blk_cell HM.out 3 _ rfl
    have p4 := blk_cell HP.out 4 _ rfl
    have q4 := blk_cell HM.out 4 _ rfl
    go_wp2_with fail
    go_ret
    exact ⟨rfl, HB.out⟩
  have g1 : decide ((600 : Int) < (m : Int)) = false := decide_eq_false (by omega)
  by_cases d2 : 600 < m2
  · have g2 : decide ((600 : Int) < (m2 : Int)) = true := decide_eq_true (by omega)
    clear d1 d2
    go_enter Try.func7, Try.ntmps7
    go_wp2_with fail
    rw [← hV, ← hB]
    clear hV hB
    refine (known_any _).mono ?_
    rintro e w0 ⟨rfl, hb⟩
    replace HB := Lib.hid (HB.out.trans (hb.mono HB.out.size))
    replace HP := Lib.hid (blk_below HP.out hb)
    replace HM := Lib.hid (blk_below HM.out hb)
    replace HR := Lib.hid (HR.out.below hb)
    replace HQ := Lib.hid (HQ.out.below hb)
    replace HL3 := Lib.hid (HL3.out.below hb)
    clear hb
    have p0 := blk_cell HP.out 0 _ rfl
    have q0 := blk_cell HM.out 0 _ rfl
    have p1 := blk_cell HP.out 1 _ rfl
    have q1 := blk_cell HM.out 1 _ rfl
    have p2 := blk_cell HP.out 2 _ rfl
    have q2 := blk_cell HM.out 2 _ rfl
    have p3 := blk_cell HP.out 3 _ rfl
    have q3 := blk_cell HM.out 3 _ rfl
    have p4 := blk_cell HP.out 4 _ rfl
    have q4 := blk_cell HM.out 4 _ rfl
    go_wp2_with fail
    go_ret
    exact ⟨rfl, HB.out⟩
  have g2 : decide ((600 : Int) < (m2 : Int)) = false := decide_eq_false (by omega)
  by_cases d3 : 700 < n3
  · have g3 : decide ((700 : Int) < (n3 : Int)) = true := decide_eq_true (by omega)
    clear d1 d2 d3
    go_enter Try.func7, Try.ntmps7
    go_wp2_with fail
    rw [← hV, ← hB]
    clear hV hB
    refine (known_any _).mono ?_
    rintro e w0 ⟨rfl, hb⟩
    replace HB := Lib.hid (HB.out.trans (hb.mono HB.out.size))
    replace HP := Lib.hid (blk_below HP.out hb)
    replace HM := Lib.hid (blk_below HM.out hb)
    replace HR := Lib.hid (HR.out.below hb)
    replace HQ := Lib.hid (HQ.out.below hb)
    replace HL3 := Lib.hid (HL3.out.below hb)
    clear hb
    have p0 := blk_cell HP.out 0 _ rfl
    have q0 := blk_cell HM.out 0 _ rfl
    have p1 := blk_cell HP.out 1 _ rfl
    have q1 := blk_cell HM.out 1 _ rfl
    have p2 := blk_cell HP.out 2 _ rfl
    have q2 := blk_cell HM.out 2 _ rfl
    have p3 := blk_cell HP.out 3 _ rfl
    have q3 := blk_cell HM.out 3 _ rfl
    have p4 := blk_cell HP.out 4 _ rfl
    have q4 := blk_cell HM.out 4 _ rfl
    go_wp2_with fail
    go_ret
    exact ⟨rfl, HB.out⟩
  have g3 : decide ((700 : Int) < (n3 : Int)) = false := decide_eq_false (by omega)
  clear hV hB HP HM HB HR HQ HL3
  by_cases h1 : chkP f t n a m = 0
  · by_cases h2 : chkM k i s b m2 = 0
    · exact back_yy f t n a A m c l k i s b A2 m2 c2 l2 A3 n3 c3 l3 w hr0 hr20 hr30 g1 g2 g3 h1 h2
    · exact back_yn f t n a A m c l k i s b A2 m2 c2 l2 A3 n3 c3 l3 w hr0 hr20 hr30 g1 g2 g3 h1 h2
  · by_cases h2 : chkM k i s b m2 = 0
    · exact back_ny f t n a A m c l k i s b A2 m2 c2 l2 A3 n3 c3 l3 w hr0 hr20 hr30 g1 g2 g3 h1 h2
    · exact back_nn f t n a A m c l k i s b A2 m2 c2 l2 A3 n3 c3 l3 w hr0 hr20 hr30 g1 g2 g3 h1 h2
end Go.Proofs.Ytncahekankbalaa
