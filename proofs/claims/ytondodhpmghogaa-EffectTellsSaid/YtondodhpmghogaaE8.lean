/- Walks: the statements' own effects, and the chapter's examples (awake). No conditions. -/
import Derived.Test.YtondodhpmghogaaE7
import Derived.Test.YtondodhpmghogaaL3
namespace Go.Proofs.Ytondodhpmghogaa
open Go.RowKit
set_option linter.unusedVariables false
set_option linter.unusedSimpArgs false

set_option maxRecDepth 100000 in
set_option maxHeartbeats 1000000 in
theorem of_any (k : Int) (w : World) : Calls Try.prog 57 #[.int .i64 k] w fun e w' => e = .returned (.agg #[.int .i64 k, .int .i64 0, .slice none 0 0]) ∧ Below w.heap.size w w' := by
  go_enter Try.func57, Try.ntmps57
  go_wp2
  exact bodyPost_ret (results_cell_row rfl _ _ w.heap.size 72 _ (0, 0) _ rfl (heap_alloc_new w _) Try.underlying72 rfl (by kernel_rfl)) rfl ⟨rfl, box_below w _⟩
set_option maxRecDepth 100000 in
set_option maxHeartbeats 1000000 in
theorem file_any (m : Int) (A : Option Addr) (n c : Nat) (w : World) : Calls Try.prog 58 #[.int .i64 m, .slice A n c] w fun e w' => e = .returned (.agg #[.int .i64 1, .int .i64 m, .slice A n c]) ∧ Below w.heap.size w w' := by
  go_enter Try.func58, Try.ntmps58
  go_wp2
  exact bodyPost_ret (results_cell_row rfl _ _ w.heap.size 72 _ (0, 0) _ rfl (heap_alloc_new w _) Try.underlying72 rfl (by kernel_rfl)) rfl ⟨rfl, box_below w _⟩
theorem keep5 {w w1 : World} (hb : Below w.heap.size w w1) {a b c d e : Addr} {va vb vc vd ve : Value} (h : w.cell? a = some va ∧ w.cell? b = some vb ∧ w.cell? c = some vc ∧ w.cell? d = some vd ∧ w.cell? e = some ve) :
    w1.cell? a = some va ∧ w1.cell? b = some vb ∧ w1.cell? c = some vc ∧ w1.cell? d = some vd ∧ w1.cell? e = some ve :=
  ⟨below_cell hb h.1, below_cell hb h.2.1, below_cell hb h.2.2.1, below_cell hb h.2.2.2.1, below_cell hb h.2.2.2.2⟩
theorem ex_b : effB 1 420 [7, 8] = ([1, 1, 2, 1, 164, 1, 2, 7, 8], 0) := by kernel_rfl
theorem ex_r : effR [1, 3, 0, 0] = ⟨3, 0, [], 0, 0⟩ := by kernel_rfl
theorem ex_s : sameE 3 0 [] 3 0 [] = true := by kernel_rfl
theorem ex_l : lessE 2 0 [] 3 0 [] = true := by kernel_rfl
set_option maxRecDepth 100000 in
set_option maxHeartbeats 4000000 in
theorem eawake_any (w : World) : Calls Try.prog 43 #[] w fun e w' => e = .returned (.bool true) ∧ Below w.heap.size w w' := by
  have hr := rd_bytes w [7, 8] #[.int .u8 7, .int .u8 8] 2 rfl rfl (by decide)
  have hb0 := box_below w (.cells #[.int .u8 7, .int .u8 8] 5)
  have HR := Lib.hid hr; have HB0 := Lib.hid hb0
  clear hr hb0
  go_enter Try.func43, Try.ntmps43
  go_wp2_with fail
  refine (file_any _ _ _ _ _).mono ?_
  rintro e w1 ⟨rfl, hb1⟩
  have HR1 := Lib.hid (HR.out.below hb1); have HB1 := Lib.hid (HB0.out.trans (hb1.mono HB0.out.size))
  clear hb1 HR
  go_wp2_with fail
  refine (ebytes_any 1 420 (by decide) (by decide) HR1.out (by decide)).mono ?_
  rw [ex_b]
  rintro e w2 ⟨A1, n1, c1, he, hh2, hb2⟩
  cases he
  have HB2 := Lib.hid (HB1.out.trans (hb2.mono HB1.out.size))
  have hrd2 := held_rd hh2
  have HH2 := Lib.hid (show Rd w2 A1 n1 c1 1 (u8s [1, 1, 2, 1, 164, 1, 2, 7, 8]) by simpa using hrd2)
  clear hb2 hh2 hrd2 HR1
  go_wp2_with fail
  refine (eread_any (rd_bytes w2 [1, 3, 0, 0] #[.int .u8 1, .int .u8 3, .int .u8 0, .int .u8 0] 4 rfl rfl (by decide)) (by decide)).mono ?_
  rw [ex_r]
  rintro e w3 ⟨A, n, c, he, hh3, hb3⟩
  cases he
  have hb23 := (box_below w2 (.cells #[.int .u8 1, .int .u8 3, .int .u8 0, .int .u8 0] 5)).trans (hb3.mono (by simp))
  have HB3 := Lib.hid (HB2.out.trans (hb23.mono HB2.out.size)); have HH3 := Lib.hid (HH2.out.below hb23)
  have HE3 := Lib.hid (show Rd w3 A n c 1 (u8s []) from held_rd hh3)
  clear hb3 hb23 hh3 HH2
  obtain ⟨T, hT⟩ : ∃ z, z = w3.heap.size := ⟨_, rfl⟩
  obtain ⟨V, hV⟩ : ∃ z, z = (w3.alloc (.cells #[.int .i64 3, .int .i64 0, .slice A n c] 72)).alloc (.cells #[.int .i64 0, .int .i64 0] 54) := ⟨_, rfl⟩
  have hbV : Below w3.heap.size w3 V := by rw [hV]; exact (box_below w3 _).alloc (by simp) _
  have hX : Blk V T 72 #[.int .i64 3, .int .i64 0, .slice A n c] := by rw [hV, hT]; exact blk_below (blk_new _ _ _) (box_below _ _)
  have hY : Blk V (T + 1) 54 #[.int .i64 0, .int .i64 0] := by
    rw [hV, hT]
    have := blk_new (w3.alloc (.cells #[.int .i64 3, .int .i64 0, .slice A n c] 72)) 54 #[.int .i64 0, .int .i64 0]
    rwa [World.size_alloc] at this
  have s0 : V.drew.cell? ⟨T, 0, none⟩ = some (.int .i64 3) ∧ V.drew.cell? ⟨T, 1, none⟩ = some (.int .i64 0) ∧ V.drew.cell? ⟨T, 2, none⟩ = some (.slice A n c) ∧ V.drew.cell? ⟨T + 1, 0, none⟩ = some (.int .i64 0) ∧ V.drew.cell? ⟨T + 1, 1, none⟩ = some (.int .i64 0) :=
    ⟨blk_cell hX 0 _ rfl, blk_cell hX 1 _ rfl, blk_cell hX 2 _ rfl, blk_cell hY 0 _ rfl, blk_cell hY 1 _ rfl⟩
  have HBV := Lib.hid (HB3.out.trans (hbV.mono HB3.out.size)); have HE := Lib.hid (HE3.out.below hbV); have HH := Lib.hid (HH3.out.below hbV)
  have hb9 := box_below V (.cells #[.int .u8 1, .int .u8 1, .int .u8 2, .int .u8 1, .int .u8 164, .int .u8 1, .int .u8 2, .int .u8 7, .int .u8 8] 5)
  have ra := (HH.out.below hb9).ch (Ch.drew _ No) (fun _ _ => id)
  have rb := (rd_bytes V [1, 1, 2, 1, 164, 1, 2, 7, 8] #[.int .u8 1, .int .u8 1, .int .u8 2, .int .u8 1, .int .u8 164, .int .u8 1, .int .u8 2, .int .u8 7, .int .u8 8] 9 rfl rfl (by decide)).ch (Ch.drew _ No) (fun _ _ => id)
  have s1 := keep5 hb9 (show _ from s0)
  clear hbV hX hY HE3 HH3
  have hbV9 : Below V.heap.size V ((V.alloc (.cells #[.int .u8 1, .int .u8 1, .int .u8 2, .int .u8 1, .int .u8 164, .int .u8 1, .int .u8 2, .int .u8 7, .int .u8 8] 5)).alloc (.cells #[.int .u8 7, .int .u8 8] 5)) := hb9.alloc (by simp) _
  have s2 := keep5 hbV9 (show _ from s0)
  have HBV9 := Lib.hid hbV9
  clear hbV9 hb9
  go_wp2_with fail
  rw [← hV, ← hT]
  clear hV hT
  go_region_held3 (fun W => W.cell? ⟨T, 0, none⟩ = some (.int .i64 3) ∧ W.cell? ⟨T, 1, none⟩ = some (.int .i64 0) ∧ W.cell? ⟨T, 2, none⟩ = some (.slice A n c) ∧ W.cell? ⟨T + 1, 0, none⟩ = some (.int .i64 0) ∧ W.cell? ⟨T + 1, 1, none⟩ = some (.int .i64 0))
    (first | exact sa | exact s9 | exact s8 | exact s7 | exact s6 | exact s5 | exact s4 | exact s2 | exact s1 | exact s0)
    (first | (go_at_call 21; ((with_reducible refine (same_any _ _ _ _ _ _ _ _ _ ra rb).mono ?_); rw [eqB_self]; rintro e wx ⟨rfl, rfl⟩)) | (go_at_call 58; ((with_reducible refine (file_any _ _ _ _ _).mono ?_); rintro e V4 ⟨rfl, hb4'⟩; have hb4 : Below V.heap.size V V4 := HBV9.out.trans (Below.trans (Below.refl _ _).drew (hb4'.mono HBV9.out.size)); have s4 := keep5 hb4 (show _ from s0))) | (go_at_call 48; ((with_reducible refine (size_any _ _ _ _ _ _ (by decide)).mono ?_); rintro e V5 ⟨rfl, hb5'⟩; have hb5 := hb4.trans (hb5'.mono hb4.size); have s5 := keep5 hb5 (show _ from s0))) | (go_at_call 57; ((with_reducible refine (of_any _ _).mono ?_); rintro e V9 ⟨rfl, hb9'⟩; have hb9 := hb8.trans (hb9'.mono hb8.size); have s9 := keep5 hb9 (show _ from s0))) | (go_at_call 57; ((with_reducible refine (of_any _ _).mono ?_); rintro e V8 ⟨rfl, hb8'⟩; have hb8 := hb7.trans (hb8'.mono hb7.size); have s8 := keep5 hb8 (show _ from s0))) | (go_at_call 57; ((with_reducible refine (of_any _ _).mono ?_); rintro e V6 ⟨rfl, hb6'⟩; have hb6 := hb5.trans (hb6'.mono hb5.size); have s6 := keep5 hb6 (show _ from s0))) | (go_at_call 50; ((with_reducible refine (esam_any 3 0 3 0 (l := []) (l2 := []) (HE.out.below hb6) (nil_rd _ 1)).mono ?_); rw [ex_s]; rintro e V7 ⟨rfl, hb7'⟩; have hb7 := hb6.trans (hb7'.mono hb6.size); have s7 := keep5 hb7 (show _ from s0))) | (go_at_call 52; ((with_reducible refine (eless_any 2 0 3 0 (l := []) (l2 := []) (nil_rd _ 1) (nil_rd _ 1)).mono ?_); rw [ex_l]; rintro e Va ⟨rfl, hba'⟩; have hba := hb9.trans (hba'.mono hb9.size); have sa := keep5 hba (show _ from s0))))
  all_goals
    go_wp2
    go_ret
    exact ⟨rfl, HBV.out.trans (hba.mono HBV.out.size)⟩
end Go.Proofs.Ytondodhpmghogaa
