/- Walk: the chapter's examples are answered as it says. No conditions. -/
import Derived.Test.YtnlninmjmjffcaaTv
namespace Go.Proofs.Ytnlninmjmjffcaa
open Go.RowKit
set_option linter.unusedVariables false
set_option linter.unusedSimpArgs false

set_option maxRecDepth 100000 in
set_option maxHeartbeats 4000000 in
theorem known12 (w : World) : Calls Try.prog 12 #[] w (AwakeQ w) := by
  go_enter Try.func12, Try.ntmps12
  go_wp2_with fail
  refine (some_any 401 (by omega) w).mono ?_; rintro e w1 ⟨rfl, hb1, hB1⟩
  go_wp2_with fail
  refine (cut_any 7 _ 401 401 (bytesTo 401) w1 (byt_rd hb1 (bytesTo_len _))).mono ?_; rintro e w2 hq
  rcases hq with (⟨h, _⟩ | ⟨_, _, h, _⟩) | ⟨_, _, _, _, v, gs, rfl, hP, hB2⟩
  · rw [bytesTo_len] at h; omega
  · rw [bytesTo_len] at h; omega
  rw [bytesTo_len, show npc 401 = 3 from rfl] at hP
  obtain ⟨b, hb⟩ : ∃ b, b = bytesTo 401 := ⟨_, rfl⟩
  have hbl : b.length = 401 := by rw [hb, bytesTo_len]
  rw [← hb] at hP
  obtain ⟨g, cv, rfl, _, _, _⟩ := own_row hP.own (own_some hP.own (by omega))
  have hPB := partsB_mk hP
  have hB : Below w.heap.size w w2 := hB1.trans (hB2.mono hB1.size)
  have HB2 := Lib.hid hB.size
  have HPP0 := Lib.hid (show putS 500 0 0 [] 1 7 401 0 (piece b 0) = ([], 0, 7, 401, b.take (200 * 1)) by have := put_piece0 (q := 500) (it := 0) (sz := 0) (x := []) (item := 7) (b := b) (by omega) (by omega) (by omega) (by rw [hbl]; decide); rw [hbl] at this; exact this)
  have HPP1 := Lib.hid (show putS 500 7 401 (b.take (200 * 1)) 1 7 401 0 (piece b 0) = ([], 0, 7, 401, b.take (200 * 1)) by have := put_piece0 (q := 500) (it := 7) (sz := 401) (x := b.take (200 * 1)) (item := 7) (b := b) (by omega) (by omega) (by omega) (by rw [hbl]; decide); rw [hbl] at this; exact this)
  have HPPN := Lib.hid (show putS 500 0 0 [] 1 7 401 200 (piece b 1) = ([], 9, 0, 0, []) by have := put_none (q := 500) (item := 7) (b := b) (k := 1) (by omega) (by omega) (by omega) (by rw [hbl]; decide) (by omega); rw [hbl] at this; exact this)
  have HPPF := Lib.hid (show putS 100 0 0 [] 1 7 401 0 (piece b 0) = ([], 8, 0, 0, []) by have := put_piece0 (q := 100) (it := 0) (sz := 0) (x := []) (item := 7) (b := b) (by omega) (by omega) (by omega) (by rw [hbl]; decide); rw [hbl] at this; exact this)
  have HPP2 := Lib.hid (show putS 500 7 401 (b.take (200 * 1)) 1 7 401 400 (piece b 2) = ([], 9, 7, 401, b.take (200 * 1)) by
    have ho := okM_piece (item := 7) (n := 401) (k := 2) (by omega) (by omega) (by omega) (by decide)
    unfold putS
    rw [piece_len, hbl, if_neg (fun h => h ⟨ho, rfl⟩), if_neg (by omega), if_pos (by rw [List.length_take, hbl]; right; right; decide)])
  have HPPG := Lib.hid (show putS 500 7 401 (b.take (200 * 1)) 3 7 0 0 [] = ([], 2, 7, 401, b.take (200 * 1)) by unfold putS; rw [if_pos (fun h => by omega)])
  have HB := Lib.hid hB; have HP := Lib.hid hPB; have HE := Lib.hid hb; have HL := Lib.hid hbl
  clear hB hP hPB hb hbl hb1 hB1 hB2
  go_wp2_with fail
  refine (new_any 500 w2).mono ?_; rintro e w3 hq
  rcases hq with ⟨h, _⟩ | ⟨_, _, rfl, hbx, hB3⟩
  · omega
  have HB3 := Lib.hid (HB.out.trans (hB3.mono HB.out.size))
  have HP3 := Lib.hid (partsB_below HP.out hB3)
  have HX3 := Lib.hid hbx
  have hx3 := blk_lt hbx
  clear hbx hB3 HP HB
  go_wp2_with fail
  refine (new_any 100 w3).mono ?_; rintro e w4 hq
  rcases hq with ⟨h, _⟩ | ⟨_, _, rfl, hbx, hB4⟩
  · omega
  have HB4 := Lib.hid (HB3.out.trans (hB4.mono HB3.out.size))
  have HP4 := Lib.hid (partsB_below HP3.out hB4)
  have HX4 := Lib.hid (boxS_new (blk_below HX3.out hB4) w4.heap.size)
  have HY4 := Lib.hid hbx
  have hsz4 : w4.heap.size ≤ w4.heap.size := Nat.le_refl _
  have hz34 := hB4.size
  have hz4 := blk_lt hbx
  have hzw := HB2.out
  clear hbx hB4 HP3 HB3 HX3
  obtain ⟨g4, cc4, ⟨m40, m41, m42, m43, m44⟩, hr4, _, hl4⟩ := partsB_at HP4.out 1 (by omega) HL.out (at' := 200) rfl (m := 200) rfl
  simp only [Nat.zero_mul, Nat.reduceMul, Nat.reduceAdd, Nat.zero_add, Nat.one_mul] at m40 m41 m42 m43 m44
  have HR4 := Lib.hid hr4
  clear hr4
  go_wp2_with fail
  have hput := putB (k := 1) (i := 7) (s := 401) (a := 200) (M := some ⟨g4, 0, none⟩) (m := 200) (d := cc4) HX4.out hsz4 (l := piece b 1) HR4.out (fun b hb => by cases hb; show g4 ≠ _; omega)
  rw [show putS 500 0 0 [] 1 7 401 200 (piece b 1) = ([], 9, 0, 0, []) from HPPN.out] at hput
  refine hput.mono ?_; rintro e w5 ⟨R4, k4, d4, rfl, hx, hh, hc, -, -⟩
  have HX5 := Lib.hid hx
  have HY5 := Lib.hid (blk_ch HY4.out hc (fun h => by omega))
  have HP5 := Lib.hid (partsB_ch HP4.out hc (fun k _ h hk => by omega))
  have HB5 := Lib.hid (HB4.out.trans (hc.below (B := w.heap.size) (by have := HB4.out.size; omega) (fun k hk => by omega)))
  have hsz5 : w4.heap.size ≤ w5.heap.size := Nat.le_trans hsz4 hc.size
  clear hput hx hh hc HX4 HY4 HP4 HB4 HR4 m40 m41 m42 m43 m44
  obtain ⟨g5, cc5, ⟨m50, m51, m52, m53, m54⟩, hr5, _, hl5⟩ := partsB_at HP5.out 0 (by omega) HL.out (at' := 0) rfl (m := 200) rfl
  simp only [Nat.zero_mul, Nat.reduceMul, Nat.reduceAdd, Nat.zero_add, Nat.one_mul] at m50 m51 m52 m53 m54
  have HR5 := Lib.hid hr5
  clear hr5
  go_wp2_with fail
  have hput := putB (k := 1) (i := 7) (s := 401) (a := 0) (M := some ⟨g5, 0, none⟩) (m := 200) (d := cc5) HX5.out hsz5 (l := piece b 0) HR5.out (fun b hb => by cases hb; show g5 ≠ _; omega)
  rw [show putS 500 0 0 [] 1 7 401 0 (piece b 0) = ([], 0, 7, 401, b.take (200 * 1)) from HPP0.out] at hput
  refine hput.mono ?_; rintro e w6 ⟨R5, k5, d5, rfl, hx, hh, hc, -, -⟩
  have HX6 := Lib.hid hx
  have HY6 := Lib.hid (blk_ch HY5.out hc (fun h => by omega))
  have HP6 := Lib.hid (partsB_ch HP5.out hc (fun k _ h hk => by omega))
  have HB6 := Lib.hid (HB5.out.trans (hc.below (B := w.heap.size) (by have := HB5.out.size; omega) (fun k hk => by omega)))
  have hsz6 : w4.heap.size ≤ w6.heap.size := Nat.le_trans hsz5 hc.size
  clear hput hx hh hc HX5 HY5 HP5 HB5 HR5 m50 m51 m52 m53 m54
  obtain ⟨g6, cc6, ⟨m60, m61, m62, m63, m64⟩, hr6, _, hl6⟩ := partsB_at HP6.out 0 (by omega) HL.out (at' := 0) rfl (m := 200) rfl
  simp only [Nat.zero_mul, Nat.reduceMul, Nat.reduceAdd, Nat.zero_add, Nat.one_mul] at m60 m61 m62 m63 m64
  have HR6 := Lib.hid hr6
  clear hr6
  go_wp2_with fail
  have hput := putB (k := 1) (i := 7) (s := 401) (a := 0) (M := some ⟨g6, 0, none⟩) (m := 200) (d := cc6) HX6.out hsz6 (l := piece b 0) HR6.out (fun b hb => by cases hb; show g6 ≠ _; omega)
  rw [show putS 500 7 401 (b.take (200 * 1)) 1 7 401 0 (piece b 0) = ([], 0, 7, 401, b.take (200 * 1)) from HPP1.out] at hput
  refine hput.mono ?_; rintro e w7 ⟨R6, k6, d6, rfl, hx, hh, hc, -, -⟩
  have HX7 := Lib.hid hx
  have HY7 := Lib.hid (blk_ch HY6.out hc (fun h => by omega))
  have HP7 := Lib.hid (partsB_ch HP6.out hc (fun k _ h hk => by omega))
  have HB7 := Lib.hid (HB6.out.trans (hc.below (B := w.heap.size) (by have := HB6.out.size; omega) (fun k hk => by omega)))
  have hsz7 : w4.heap.size ≤ w7.heap.size := Nat.le_trans hsz6 hc.size
  clear hput hx hh hc HX6 HY6 HP6 HB6 HR6 m60 m61 m62 m63 m64
  obtain ⟨g7, cc7, ⟨m70, m71, m72, m73, m74⟩, hr7, _, hl7⟩ := partsB_at HP7.out 2 (by omega) HL.out (at' := 400) rfl (m := 1) rfl
  simp only [Nat.zero_mul, Nat.reduceMul, Nat.reduceAdd, Nat.zero_add, Nat.one_mul] at m70 m71 m72 m73 m74
  have HR7 := Lib.hid hr7
  clear hr7
  go_wp2_with fail
  have hput := putB (k := 1) (i := 7) (s := 401) (a := 400) (M := some ⟨g7, 0, none⟩) (m := 1) (d := cc7) HX7.out hsz7 (l := piece b 2) HR7.out (fun b hb => by cases hb; show g7 ≠ _; omega)
  rw [show putS 500 7 401 (b.take (200 * 1)) 1 7 401 400 (piece b 2) = ([], 9, 7, 401, b.take (200 * 1)) from HPP2.out] at hput
  refine hput.mono ?_; rintro e w8 ⟨R7, k7, d7, rfl, hx, hh, hc, -, -⟩
  have HX8 := Lib.hid hx
  have HY8 := Lib.hid (blk_ch HY7.out hc (fun h => by omega))
  have HP8 := Lib.hid (partsB_ch HP7.out hc (fun k _ h hk => by omega))
  have HB8 := Lib.hid (HB7.out.trans (hc.below (B := w.heap.size) (by have := HB7.out.size; omega) (fun k hk => by omega)))
  have hsz8 : w4.heap.size ≤ w8.heap.size := Nat.le_trans hsz7 hc.size
  clear hput hx hh hc HX7 HY7 HP7 HB7 HR7 m70 m71 m72 m73 m74
  obtain ⟨g8, cc8, ⟨m80, m81, m82, m83, m84⟩, hr8, _, hl8⟩ := partsB_at HP8.out 0 (by omega) HL.out (at' := 0) rfl (m := 200) rfl
  simp only [Nat.zero_mul, Nat.reduceMul, Nat.reduceAdd, Nat.zero_add, Nat.one_mul] at m80 m81 m82 m83 m84
  have HR8 := Lib.hid hr8
  clear hr8
  go_wp2_with fail
  have hput := putB (mid := w8.heap.size) (k := 1) (i := 7) (s := 401) (a := 0) (M := some ⟨g8, 0, none⟩) (m := 200) (d := cc8) (boxS_new HY8.out w8.heap.size) (Nat.le_refl _) (l := piece b 0) HR8.out (fun b hb => by cases hb; show g8 ≠ _; omega)
  rw [show putS 100 0 0 [] 1 7 401 0 (piece b 0) = ([], 8, 0, 0, []) from HPPF.out] at hput
  refine hput.mono ?_; rintro e w9 ⟨R8, k8, d8, rfl, hx, hh, hc, -, -⟩
  have HY9 := Lib.hid hx
  have HX9 := Lib.hid (boxS_ch HX8.out hc (fun h => by omega) (fun j h1 h2 h => by omega))
  have HP9 := Lib.hid (partsB_ch HP8.out hc (fun k _ h hk => by omega))
  have HB9 := Lib.hid (HB8.out.trans (hc.below (B := w.heap.size) (by have := HB8.out.size; omega) (fun k hk => by omega)))
  have hsz9 : w4.heap.size ≤ w9.heap.size := Nat.le_trans hsz8 hc.size
  clear hput hx hh hc HY8 HX8 HP8 HB8 HR8 m80 m81 m82 m83 m84
  go_wp2_with fail
  refine (some_any 1 (by omega) w9).mono ?_; rintro e w10 ⟨rfl, hb, hB⟩
  have HX10 := Lib.hid (boxS_below HX9.out hB)
  have HR10 := Lib.hid (byt_rd hb (bytesTo_len 1))
  have HB10 := Lib.hid (HB9.out.trans (hB.mono HB9.out.size))
  have hs10 := hB.size
  clear hb hB HX9 HB9 HY9 HP9
  go_wp2_with fail
  refine (cut_any 0 _ 1 1 (bytesTo 1) w10 HR10.out).mono ?_; rintro e w11 hq
  rcases hq with (⟨_, rfl, hB⟩ | ⟨h, _⟩) | ⟨h, _⟩
  rotate_left
  · omega
  · omega
  have HX11 := Lib.hid (boxS_below HX10.out hB)
  have HB11 := Lib.hid (HB10.out.trans (hB.mono HB10.out.size))
  have hs11 := hB.size
  clear hB HX10 HB10 HR10
  go_wp2_with fail
  refine (cut_any 1 none 0 0 [] w11 (nil_rd w11 1)).mono ?_; rintro e w12 hq
  rcases hq with (⟨_, rfl, hB⟩ | ⟨_, _, h, _⟩) | ⟨_, _, h, _⟩
  rotate_left
  · simp at h
  · simp at h
  have HX12 := Lib.hid (boxS_below HX11.out hB)
  have HB12 := Lib.hid (HB11.out.trans (hB.mono HB11.out.size))
  have hs12 := hB.size
  clear hB HX11 HB11
  go_wp2_with fail
  refine (some_any 60001 (by omega) w12).mono ?_; rintro e w13 ⟨rfl, hb, hB⟩
  obtain ⟨bb, hbb⟩ : ∃ b, b = bytesTo 60001 := ⟨_, rfl⟩
  have hbl := bytesTo_len 60001
  rw [← hbb] at hb hbl
  clear hbb
  have HX13 := Lib.hid (boxS_below HX12.out hB)
  have HR13 := Lib.hid (byt_rd hb hbl)
  have HB13 := Lib.hid (HB12.out.trans (hB.mono HB12.out.size))
  have hs13 := hB.size
  clear hb hB HX12 HB12
  go_wp2_with fail
  refine (cut_any 1 _ 60001 60001 bb w13 HR13.out).mono ?_; rintro e w14 hq
  rcases hq with (⟨h, _⟩ | ⟨_, _, h, rfl, hB⟩) | ⟨_, _, _, h, _⟩
  · omega
  rotate_left
  · omega
  have HX14 := Lib.hid (boxS_below HX13.out hB)
  have HB14 := Lib.hid (HB13.out.trans (hB.mono HB13.out.size))
  have hs14 := hB.size
  clear hB HX13 HB13 HR13 h hbl
  go_wp2_with fail
  have hput := putB (k := 3) (i := 7) (s := 0) (a := 0) (M := none) (m := 0) (d := 0) HX14.out (by omega) (l := []) (nil_rd w14 1) (fun b hb => by cases hb)
  rw [show putS 500 7 401 (b.take (200 * 1)) 3 7 0 0 [] = ([], 2, 7, 401, b.take (200 * 1)) from HPPG.out] at hput
  refine hput.mono ?_; rintro e w15 ⟨R15, k15, d15, rfl, hx, hh, hc, -, -⟩
  have HB15 := Lib.hid (HB14.out.trans (hc.below (B := w.heap.size) (by have := HB14.out.size; omega) (fun k hk => by omega)))
  clear hput hx hh hc HX14 HB14
  go_wp2_with fail
  refine (awake32 w15).mono ?_; rintro e w16 ⟨rfl, hB⟩
  have HB16 := Lib.hid (HB15.out.trans (hB.mono HB15.out.size))
  clear hB HB15
  go_wp2
  go_ret
  exact ⟨rfl, HB16.out⟩

end Go.Proofs.Ytnlninmjmjffcaa
