/- Walk: the law of what is none. Conditions: the arguments are as they come in. -/
import Derived.Test.YtondodhpmghogaaL9
namespace Go.Proofs.Ytondodhpmghogaa
open Go.RowKit
set_option linter.unusedVariables false
set_option linter.unusedSimpArgs false

theorem blk_alloc {w : World} {B : Nat} {t : TypeId} {cs : Array Value} (h : Blk w B t cs) (o : Obj) : Blk (w.alloc o) B t cs := blk_below h (box_below w o)
/-- what the law's loop stands on: the two arguments, the row of writers, the row of readers, the fault -/
structure NoneI (w : World) (X Y P Q G B1 B2 : Nat) (x : Ac) (y : Ask) : Prop where
  bx : Blk w X 34 #[.int .i64 x.k, .int .i64 x.n, .string x.s, .slice x.M x.m x.d]
  by_ : Blk w Y 44 #[.int .i64 y.k, .int .i64 y.lo, .int .i64 y.hi]
  bp : Blk w P 23 #[.pointer none, .pointer (some ⟨B1, 0, none⟩)]
  bq : Blk w Q 47 #[.pointer none, .pointer (some ⟨B2, 0, none⟩)]
  bg : Blk w G 54 #[.int .i64 1, .int .i64 0]
  c1 : w.cell? ⟨B1, 0, none⟩ = some (.bool false)
  c2 : w.cell? ⟨B2, 0, none⟩ = some (.bool false)
theorem noneI_below {w w' : World} {X Y P Q G B1 B2 : Nat} {x : Ac} {y : Ask} (h : NoneI w X Y P Q G B1 B2 x y) (hb : Below w.heap.size w w') : NoneI w' X Y P Q G B1 B2 x y :=
  ⟨blk_below h.bx hb, blk_below h.by_ hb, blk_below h.bp hb, blk_below h.bq hb, blk_below h.bg hb, below_cell hb h.c1, below_cell hb h.c2⟩
set_option maxRecDepth 100000 in
set_option maxHeartbeats 8000000 in
theorem none_law (x : Ac) (y : Ask) (w : World) (hr : Rd w x.M x.m x.d 1 (u8s x.l) ∧ x.n ≤ 9223372036854775807) : Calls Try.prog 6 #[.agg x.cells.toArray, .agg y.cells.toArray] w fun e w' => e = .returned (.bool true) ∧ Below w.heap.size w w' := by
  obtain ⟨k, n, s, M, m, d, l⟩ := x
  obtain ⟨k2, lo, hi⟩ := y
  obtain ⟨hr, hn⟩ := hr
  simp only at hr hn
  show Calls Try.prog 6 #[.agg #[.int .i64 k, .int .i64 n, .string s, .slice M m d], .agg #[.int .i64 k2, .int .i64 lo, .int .i64 hi]] w _
  obtain ⟨w3, hw3⟩ : ∃ z, z = ((w.alloc (.cells #[.int .i64 k, .int .i64 n, .string s, .slice M m d] 34)).alloc (.cells #[.int .i64 k2, .int .i64 lo, .int .i64 hi] 44)).alloc (.cells #[.int .i64 k, .int .i64 n, .string s, .slice M m d] 34) := ⟨_, rfl⟩
  have hb3 : Below w.heap.size w w3 := by rw [hw3]; exact (((Below.refl w.heap.size w).alloc (Nat.le_refl _) _).alloc (by simp) _).alloc (by simp; omega) _
  have hbX : Blk w3 w.heap.size 34 #[.int .i64 k, .int .i64 n, .string s, .slice M m d] := by rw [hw3]; exact blk_alloc (blk_alloc (blk_new _ _ _) _) _
  have hbY : Blk w3 (w.heap.size + 1) 44 #[.int .i64 k2, .int .i64 lo, .int .i64 hi] := by
    rw [hw3]
    have := blk_alloc (blk_new (w.alloc (.cells #[.int .i64 k, .int .i64 n, .string s, .slice M m d] 34)) 44 #[.int .i64 k2, .int .i64 lo, .int .i64 hi]) (.cells #[.int .i64 k, .int .i64 n, .string s, .slice M m d] 34)
    rwa [World.size_alloc] at this
  have hbL : Blk w3 (w.heap.size + 1 + 1) 34 #[.int .i64 k, .int .i64 n, .string s, .slice M m d] := by
    rw [hw3]
    have := blk_new ((w.alloc (.cells #[.int .i64 k, .int .i64 n, .string s, .slice M m d] 34)).alloc (.cells #[.int .i64 k2, .int .i64 lo, .int .i64 hi] 44)) 34 #[.int .i64 k, .int .i64 n, .string s, .slice M m d]
    rwa [World.size_alloc, World.size_alloc] at this
  have hac : Acs w3 (some ⟨w.heap.size + 1 + 1, 0, none⟩) 1 1 (fun _ => ⟨k, n, s, M, m, d, l⟩) := ⟨Nat.le_refl _, by decide, fun i hi => by
    obtain rfl : i = 0 := by omega
    exact ⟨_, 0, rfl, ⟨blk_cell hbL 0 _ rfl, blk_cell hbL 1 _ rfl, blk_cell hbL 2 _ rfl, blk_cell hbL 3 _ rfl⟩, hr.below hb3, hn⟩⟩
  have HR := Lib.hid hr; have HAC := Lib.hid hac; have HB3 := Lib.hid hb3; have HX := Lib.hid hbX; have HY := Lib.hid hbY
  clear hr hac hb3 hbX hbY hbL
  go_enter Try.func6, Try.ntmps6
  go_wp2_with fail
  rw [← hw3]
  clear hw3
  refine (long_any _ _ _ _ w3 HAC.out).mono ?_
  rintro e w4 ⟨⟨b, rfl, hbF⟩, rfl⟩
  cases b with
  | true =>
    go_wp2_with fail
    refine (awake_any _).mono ?_
    rintro e w4 ⟨rfl, hb4⟩
    go_wp2
    go_ret
    exact ⟨rfl, HB3.out.trans (hb4.mono HB3.out.size)⟩
  | false =>
    have hsm := (hbF rfl).2 0 (by decide)
    simp only at hsm
    have HSM := Lib.hid hsm
    clear hbF hsm
    obtain ⟨W8, hW8⟩ : ∃ z, z = (((((w3.alloc (.cells #[.bool false, .slice none 0 0, .int .i64 0] 60)).alloc (.cells #[.pointer none, .pointer (some ⟨w3.heap.size, 0, none⟩)] 23)).alloc (.cells #[.bool false, .slice none 0 0, .int .i64 0, .int .i64 0, .int .i64 0] 63)).alloc (.cells #[.pointer none, .pointer (some ⟨w3.heap.size + 1 + 1, 0, none⟩)] 47)).alloc (.cells #[.int .i64 1, .int .i64 0] 54)) := ⟨_, rfl⟩
    have hI : NoneI W8 w.heap.size (w.heap.size + 1) (w3.heap.size + 1) (w3.heap.size + 1 + 1 + 1) (w3.heap.size + 1 + 1 + 1 + 1) w3.heap.size (w3.heap.size + 1 + 1) ⟨k, n, s, M, m, d, l⟩ ⟨k2, lo, hi⟩ := by
      rw [hW8]
      refine ⟨blk_alloc (blk_alloc (blk_alloc (blk_alloc (blk_alloc HX.out _) _) _) _) _, blk_alloc (blk_alloc (blk_alloc (blk_alloc (blk_alloc HY.out _) _) _) _) _, ?_, ?_, ?_, ?_, ?_⟩
      · have := blk_alloc (blk_alloc (blk_alloc (blk_new (w3.alloc (.cells #[.bool false, .slice none 0 0, .int .i64 0] 60)) 23 #[.pointer none, .pointer (some ⟨w3.heap.size, 0, none⟩)]) (.cells #[.bool false, .slice none 0 0, .int .i64 0, .int .i64 0, .int .i64 0] 63)) (.cells #[.pointer none, .pointer (some ⟨w3.heap.size + 1 + 1, 0, none⟩)] 47)) (.cells #[.int .i64 1, .int .i64 0] 54)
        simpa only [World.size_alloc] using this
      · have := blk_alloc (blk_new (((w3.alloc (.cells #[.bool false, .slice none 0 0, .int .i64 0] 60)).alloc (.cells #[.pointer none, .pointer (some ⟨w3.heap.size, 0, none⟩)] 23)).alloc (.cells #[.bool false, .slice none 0 0, .int .i64 0, .int .i64 0, .int .i64 0] 63)) 47 #[.pointer none, .pointer (some ⟨w3.heap.size + 1 + 1, 0, none⟩)]) (.cells #[.int .i64 1, .int .i64 0] 54)
        simpa only [World.size_alloc] using this
      · have := blk_new ((((w3.alloc (.cells #[.bool false, .slice none 0 0, .int .i64 0] 60)).alloc (.cells #[.pointer none, .pointer (some ⟨w3.heap.size, 0, none⟩)] 23)).alloc (.cells #[.bool false, .slice none 0 0, .int .i64 0, .int .i64 0, .int .i64 0] 63)).alloc (.cells #[.pointer none, .pointer (some ⟨w3.heap.size + 1 + 1, 0, none⟩)] 47)) 54 #[.int .i64 1, .int .i64 0]
        simpa only [World.size_alloc] using this
      · exact blk_cell (blk_alloc (blk_alloc (blk_alloc (blk_alloc (blk_new w3 60 #[.bool false, .slice none 0 0, .int .i64 0]) _) _) _) _) 0 _ rfl
      · have := blk_alloc (blk_alloc (blk_new ((w3.alloc (.cells #[.bool false, .slice none 0 0, .int .i64 0] 60)).alloc (.cells #[.pointer none, .pointer (some ⟨w3.heap.size, 0, none⟩)] 23)) 63 #[.bool false, .slice none 0 0, .int .i64 0, .int .i64 0, .int .i64 0]) (.cells #[.pointer none, .pointer (some ⟨w3.heap.size + 1 + 1, 0, none⟩)] 47)) (.cells #[.int .i64 1, .int .i64 0] 54)
        have h2 := blk_cell this 0 (.bool false) rfl
        simpa only [World.size_alloc] using h2
    have hb8 : Below w.heap.size w W8 := by
      have h1 := HB3.out.size
      rw [hW8]
      exact ((((HB3.out.alloc h1 _).alloc (by simp; omega) _).alloc (by simp; omega) _).alloc (by simp; omega) _).alloc (by simp; omega) _
    have HI := Lib.hid hI; have HB8 := Lib.hid hb8
    clear hI hb8
    go_wp2_with fail
    rw [← hW8]
    clear hW8
    generalize w3.heap.size + 1 + 1 + 1 + 1 = G at HI ⊢
    generalize w3.heap.size + 1 + 1 + 1 = Q at HI ⊢
    generalize w3.heap.size + 1 + 1 = B2 at HI ⊢
    generalize w3.heap.size + 1 = P at HI ⊢
    generalize w3.heap.size = B1 at HI ⊢
    clear HX HY HAC HB3
    go_loopw [8] (fun i wr => ∃ j : Nat, j ≤ 2 ∧ i = .int .i64 j ∧ NoneI wr w.heap.size (w.heap.size + 1) P Q G B1 B2 ⟨k, n, s, M, m, d, l⟩ ⟨k2, lo, hi⟩ ∧ Below w.heap.size w wr) (fun i _ => 2 - (intOf i).toNat)
    case atStart => exact ⟨0, by decide, rfl, HI.out, HB8.out⟩
    case round =>
      obtain ⟨j, hj, rfl, hi0, hbr⟩ := hrel
      by_cases hlt : j < 2
      · obtain ⟨pw, hpw, hnw⟩ : ∃ pw, wr.cell? ⟨P, j, none⟩ = some (.pointer pw) ∧ NoW wr pw := by
          rcases (show j = 0 ∨ j = 1 by omega) with rfl | rfl
          · exact ⟨none, blk_cell hi0.bp 0 _ rfl, .inl rfl⟩
          · exact ⟨_, blk_cell hi0.bp 1 _ rfl, .inr ⟨_, rfl, hi0.c1⟩⟩
        obtain ⟨pr, hpr, hnr⟩ : ∃ pr, wr.cell? ⟨Q, j, none⟩ = some (.pointer pr) ∧ NoW wr pr := by
          rcases (show j = 0 ∨ j = 1 by omega) with rfl | rfl
          · exact ⟨none, blk_cell hi0.bq 0 _ rfl, .inl rfl⟩
          · exact ⟨_, blk_cell hi0.bq 1 _ rfl, .inr ⟨_, rfl, hi0.c2⟩⟩
        have x0 := blk_cell hi0.bx 0 _ rfl
        have x1 := blk_cell hi0.bx 1 _ rfl
        have x2 := blk_cell hi0.bx 2 _ rfl
        have x3 := blk_cell hi0.bx 3 _ rfl
        have HIR := Lib.hid hi0; have HBR := Lib.hid hbr; have HNW := Lib.hid hnw; have HNR := Lib.hid hnr
        have HPR := Lib.hid hpr
        have HOK := Lib.hid (show AcOk wr ⟨k, n, s, M, m, d, l⟩ from ⟨hn, by show s.size ≤ 100000000; have := HSM.out.1; omega, by show m ≤ 100000000; have := HSM.out.2; omega, HR.out.below hbr⟩)
        clear hi0 hbr hnw hnr hpr
        have hj0 : (0 : Int) ≤ (j : Int) := by omega
        have hj1 : (j : Int) < 2 := by omega
        go_wp2_with fail
        go_region_held3 (fun W => W.cell? ⟨P, j, none⟩ = some (.pointer pw) ∧ W.cell? ⟨w.heap.size, 0, none⟩ = some (.int .i64 k) ∧ W.cell? ⟨w.heap.size, 1, none⟩ = some (.int .i64 n) ∧ W.cell? ⟨w.heap.size, 2, none⟩ = some (.string s) ∧ W.cell? ⟨w.heap.size, 3, none⟩ = some (.slice M m d))
          (first | exact ⟨hpw, x0, x1, x2, x3⟩ | exact ⟨below_cell hb5 hpw, below_cell hb5 x0, below_cell hb5 x1, below_cell hb5 x2, below_cell hb5 x3⟩)
          (first | (go_at_call 17; refine (write_no (noW_drew HNW.out) ⟨k, n, s, M, m, d, l⟩ ⟨HOK.out.n, HOK.out.s, HOK.out.m, HOK.out.rd.ch (Ch.drew _ No) (fun _ _ => id)⟩).mono ?_; rintro e w5 ⟨rfl, hb5'⟩; have hb5 : Below wr.heap.size wr w5 := ((Ch.drew wr No).below (Nat.le_refl _) (fun _ h => h.elim)).trans hb5'))
        have HI5 := Lib.hid (noneI_below HIR.out hb5); have HB5 := Lib.hid (HBR.out.trans (hb5.mono HBR.out.size)); have HNW5 := Lib.hid (noW_below HNW.out hb5); have HNR5 := Lib.hid (noW_below HNR.out hb5)
        have hpw5 := below_cell hb5 hpw
        have hpr5 := below_cell hb5 HPR.out
        clear x0 x1 x2 x3 hpw hb5 hb5'
        try clear hS
        go_wp2_with fail
        refine (wout_no HNW5.out).mono ?_
        rintro e w6 ⟨rfl, rfl⟩
        have y1 := blk_cell HI5.out.by_ 1 _ rfl
        have y2 := blk_cell HI5.out.by_ 2 _ rfl
        clear hpw5
        go_wp2_with fail
        go_quiet ((go_at_call 37; exact Calls.quiet_of_same (num_no (noW_drewN HNR5.out _) lo hi)))
        have HI7 := Lib.hid (noneI_below HI5.out (below_drewN (Below.refl w6.heap.size w6) nq)); have HB7 := Lib.hid (below_drewN HB5.out nq); have HNR7 := Lib.hid (noW_drewN HNR5.out nq)
        have hpr7 : (w6.drewN nq).cell? ⟨Q, j, none⟩ = some (.pointer pr) := hpr5
        clear y1 y2 hpr5
        generalize w6.drewN nq = w7 at HI7 HB7 HNR7 hpr7 ⊢
        have y2 := blk_cell HI7.out.by_ 2 _ rfl
        go_wp2_with fail
        go_quiet ((go_at_call 38; exact Calls.quiet_of_same (text_no (noW_drewN HNR7.out _) hi)))
        have HI8 := Lib.hid (noneI_below HI7.out (below_drewN (Below.refl w7.heap.size w7) nq)); have HB8 := Lib.hid (below_drewN HB7.out nq); have HNR8 := Lib.hid (noW_drewN HNR7.out nq)
        have hpr8 : (w7.drewN nq).cell? ⟨Q, j, none⟩ = some (.pointer pr) := hpr7
        clear y2 hpr7
        generalize w7.drewN nq = w8 at HI8 HB8 HNR8 hpr8 ⊢
        have y2 := blk_cell HI8.out.by_ 2 _ rfl
        go_wp2_with fail
        go_quiet ((go_at_call 39; exact Calls.quiet_of_same (raw_no (noW_drewN HNR8.out _) hi)))
        have HI9 := Lib.hid (noneI_below HI8.out (below_drewN (Below.refl w8.heap.size w8) nq)); have HB9 := Lib.hid (below_drewN HB8.out nq); have HNR9 := Lib.hid (noW_drewN HNR8.out nq)
        have hpr9 : (w8.drewN nq).cell? ⟨Q, j, none⟩ = some (.pointer pr) := hpr8
        clear y2 hpr8
        generalize w8.drewN nq = w9 at HI9 HB9 HNR9 hpr9 ⊢
        have y2 := blk_cell HI9.out.by_ 2 _ rfl
        go_wp2_with fail
        clear y2
        have z0 := blk_cell HI9.out.bg 0 _ rfl
        have z1 := blk_cell HI9.out.bg 1 _ rfl
        go_region_held3 (fun W => W.cell? ⟨Q, j, none⟩ = some (.pointer pr) ∧ W.cell? ⟨G, 0, none⟩ = some (.int .i64 1) ∧ W.cell? ⟨G, 1, none⟩ = some (.int .i64 0))
          (first | exact ⟨hpr9, z0, z1⟩ | exact ⟨below_cell hba hpr9, below_cell hba z0, below_cell hba z1⟩ | exact ⟨below_cell hbb hpr9, below_cell hbb z0, below_cell hbb z1⟩)
          (first | (go_at_call 30; refine (at_no (noW_drew HNR9.out)).mono ?_; rintro e wx ⟨rfl, rfl⟩) | (go_at_call 31; refine (left_no (noW_drew HNR9.out)).mono ?_; rintro e wx ⟨rfl, rfl⟩) | (go_at_call 33; refine (fault_no (noW_drew HNR9.out)).mono ?_; rintro e wa ⟨rfl, hba'⟩; have hba : Below w9.heap.size w9 wa := ((Ch.drew w9 No).below (Nat.le_refl _) (fun _ h => h.elim)).trans hba') | (go_at_call 34; refine (end_no (noW_below HNR9.out hba)).mono ?_; rintro e wb ⟨rfl, hbb'⟩; have hbb : Below w9.heap.size w9 wb := hba.trans (hbb'.mono hba.size)))
        go_wp2_with fail
        go_roundw
        case rel => exact ⟨j + 1, by omega, by go_num, noneI_below HI9.out hbb, HB9.out.trans (hbb.mono HB9.out.size)⟩
        case measure => simp [intOf]; omega
      · obtain rfl : j = 2 := by omega
        go_wp2_with fail
        refine (awake_any _).mono ?_
        rintro e w4 ⟨rfl, hb4⟩
        go_wp2
        go_ret
        exact ⟨rfl, hbr.trans (hb4.mono hbr.size)⟩
end Go.Proofs.Ytondodhpmghogaa
