/- Walk: which bytes messages are, and which message bytes are (FrameMessages). Conditions: the arguments are as they come in. -/
import Derived.Test.YtncahekankbalaaFe
import Derived.Test.YtncahekankbalaaFa
import Derived.Test.YtncahekankbalaaF9
import Derived.Test.YtncahekankbalaaFp
namespace Go.Proofs.Ytncahekankbalaa
open Go.RowKit
set_option linter.unusedVariables false
set_option linter.unusedSimpArgs false
theorem sameM_self (k i s a : Int) (l : List UInt8) : sameM k i s a l k i s a l = true := by unfold sameM eqB; simp
set_option maxRecDepth 100000 in
set_option maxHeartbeats 16000000 in
theorem messages_law (k i s a : Int) (A : Option Addr) (m c : Nat) (l : List UInt8) (A2 : Option Addr) (n2 c2 : Nat) (l2 : List UInt8) (w : World) (hr : Rd w A m c 1 (u8s l)) (hr2 : Rd w A2 n2 c2 1 (u8s l2)) :
    Calls Try.prog 5 #[.agg #[.int .i64 k, .int .i64 i, .int .i64 s, .int .i64 a, .slice A m c], .slice A2 n2 c2] w fun e w' => e = .returned (.bool true) ∧ Below w.heap.size w w' := by
  have hl : l.length = m := by have := hr.len; simpa using this
  have hl2 : l2.length = n2 := by have := hr2.len; simpa using this
  have hm := hr.small
  have hm2 := hr2.small
  obtain ⟨B, hB⟩ : ∃ z, z = w.heap.size := ⟨_, rfl⟩
  obtain ⟨V, hV⟩ : ∃ z, z = w.alloc (.cells #[.int .i64 k, .int .i64 i, .int .i64 s, .int .i64 a, .slice A m c] 43) := ⟨_, rfl⟩
  have HBL := Lib.hid (show Blk V B 43 #[.int .i64 k, .int .i64 i, .int .i64 s, .int .i64 a, .slice A m c] by rw [hV, hB]; exact blk_new _ _ _)
  have HB0 := Lib.hid (show Below w.heap.size w V by rw [hV]; exact box_below _ _)
  have HR := Lib.hid hr; have HR2 := Lib.hid hr2; have HL := Lib.hid hl; have HL2 := Lib.hid hl2; have HBW := Lib.hid hB
  have x4 : (w.alloc (.cells #[.int .i64 k, .int .i64 i, .int .i64 s, .int .i64 a, .slice A m c] 43)).cell? ⟨w.heap.size, 4, none⟩ = some (.slice A m c) := by rw [← hV, ← hB]; exact blk_cell HBL.out 4 _ rfl
  clear hr hr2 hl hl2
  by_cases g1 : 400 < m
  · have G1 : decide ((400 : Int) < (m : Int)) = true := decide_eq_true (by omega)
    clear g1
    go_enter Try.func5, Try.ntmps5
    go_wp2_with fail
    rw [← hV, ← hB]
    clear hV hB x4
    refine (fawake_any _).mono ?_
    rintro e we ⟨rfl, hb⟩
    go_wp2
    go_ret
    exact ⟨rfl, HB0.out.trans (hb.mono HB0.out.size)⟩
  have G1 : decide ((400 : Int) < (m : Int)) = false := decide_eq_false (by omega)
  by_cases g2 : 500 < n2
  · have G2 : decide ((500 : Int) < (n2 : Int)) = true := decide_eq_true (by omega)
    clear g1 g2
    go_enter Try.func5, Try.ntmps5
    go_wp2_with fail
    rw [← hV, ← hB]
    clear hV hB x4
    refine (fawake_any _).mono ?_
    rintro e we ⟨rfl, hb⟩
    go_wp2
    go_ret
    exact ⟨rfl, HB0.out.trans (hb.mono HB0.out.size)⟩
  have G2 : decide ((500 : Int) < (n2 : Int)) = false := decide_eq_false (by omega)
  have hm6 : m ≤ 400 := by omega
  have hn7 : n2 ≤ 500 := by omega
  clear g1 g2
  have e0 : (w.alloc (.cells #[.int .i64 k, .int .i64 i, .int .i64 s, .int .i64 a, .slice A m c] 43)).cell? ⟨w.heap.size, 0, none⟩ = some (.int .i64 k) := by rw [← hV, ← hB]; exact blk_cell HBL.out 0 _ rfl
  have e1 : (w.alloc (.cells #[.int .i64 k, .int .i64 i, .int .i64 s, .int .i64 a, .slice A m c] 43)).cell? ⟨w.heap.size, 1, none⟩ = some (.int .i64 i) := by rw [← hV, ← hB]; exact blk_cell HBL.out 1 _ rfl
  have e2 : (w.alloc (.cells #[.int .i64 k, .int .i64 i, .int .i64 s, .int .i64 a, .slice A m c] 43)).cell? ⟨w.heap.size, 2, none⟩ = some (.int .i64 s) := by rw [← hV, ← hB]; exact blk_cell HBL.out 2 _ rfl
  have e3 : (w.alloc (.cells #[.int .i64 k, .int .i64 i, .int .i64 s, .int .i64 a, .slice A m c] 43)).cell? ⟨w.heap.size, 3, none⟩ = some (.int .i64 a) := by rw [← hV, ← hB]; exact blk_cell HBL.out 3 _ rfl
  have e4 : (w.alloc (.cells #[.int .i64 k, .int .i64 i, .int .i64 s, .int .i64 a, .slice A m c] 43)).cell? ⟨w.heap.size, 4, none⟩ = some (.slice A m c) := by rw [← hV, ← hB]; exact blk_cell HBL.out 4 _ rfl
  go_enter Try.func5, Try.ntmps5
  go_wp2_with fail
  rw [← hV, ← hB]
  clear hV hB x4 e0 e1 e2 e3 e4
  refine (mcopy_any k i s a (HR.out.below HB0.out) (by omega)).mono ?_
  rintro e w1 ⟨g0, d0, rfl, hg0, hby0, hml, hb⟩
  have HB1 := Lib.hid (HB0.out.trans (hb.mono HB0.out.size)); have HBL1 := Lib.hid (blk_below HBL.out hb); have HBY1 := Lib.hid hby0
  have hg0l := byt_lt hby0
  have hBV := blk_lt HBL.out
  have hgB : B < g0 := by omega
  clear hb hby0 hml
  go_wp2_with fail
  refine (lent_any _ _ _ l2 _ (HR2.out.below HB1.out) (by omega)).mono ?_
  rintro e w2 ⟨g1, d1, rfl, hg1, hd1, hrow, hb⟩
  have HB2 := Lib.hid (HB1.out.trans (hb.mono HB1.out.size)); have HBL2 := Lib.hid (blk_below HBL1.out hb); have HBY2 := Lib.hid (byt_below HBY1.out hb); have HROW2 := Lib.hid hrow
  have hg1l := hrow.lt
  have hz12 := hb.size
  obtain ⟨X, hX⟩ : ∃ z, z = w2.heap.size := ⟨_, rfl⟩
  obtain ⟨w3, hw3⟩ : ∃ z, z = w2.alloc (.cells #[.int .i64 k, .int .i64 i, .int .i64 s, .int .i64 a, .slice (some ⟨g0, 0, none⟩) m d0] 43) := ⟨_, rfl⟩
  have hb3 : Below w2.heap.size w2 w3 := by rw [hw3]; exact box_below _ _
  have HX3 := Lib.hid (show Blk w3 X 43 #[.int .i64 k, .int .i64 i, .int .i64 s, .int .i64 a, .slice (some ⟨g0, 0, none⟩) m d0] by rw [hw3, hX]; exact blk_new _ _ _)
  have HB3 := Lib.hid (HB2.out.trans (hb3.mono HB2.out.size)); have HBL3 := Lib.hid (blk_below HBL2.out hb3); have HBY3 := Lib.hid (byt_below HBY2.out hb3); have HROW3 := Lib.hid (HROW2.out.below hb3)
  have hXw3 := blk_lt HX3.out
  clear hb hb3 hrow
  go_wp2_with fail
  rw [← hw3, ← hX]
  clear hw3
  have hX2 : g0 < X ∧ g1 < X ∧ B < X := by omega
  clear hX
  obtain ⟨y, hy⟩ : ∃ z, z = msgB k i s a l := ⟨_, rfl⟩
  have HY := Lib.hid hy
  clear hy
  refine (mput_any k i s a (held_rd (base := 0) (.inr ⟨g0, rfl, HBY3.out, HL.out, Nat.zero_le _⟩)) hm).mono ?_
  rw [← HY.out]
  rintro e w4 ⟨D1, k1, f1, rfl, hh, hb⟩
  have HB4 := Lib.hid (HB3.out.trans (hb.mono HB3.out.size)); have HBL4 := Lib.hid (blk_below HBL3.out hb); have HBY4 := Lib.hid (byt_below HBY3.out hb); have HROW4 := Lib.hid (HROW3.out.below hb); have HX4 := Lib.hid (blk_below HX3.out hb); have HD4 := Lib.hid hh
  have HDL := Lib.hid (show ∀ a, D1 = some a → X < a.block ∧ a.block < w4.heap.size from fun a ha => by have := held_lt hh a ha; omega)
  have hz4 := hb.size
  clear hb hh
  have b0 := blk_cell HBL4.out 0 _ rfl
  have b1 := blk_cell HBL4.out 1 _ rfl
  have b2 := blk_cell HBL4.out 2 _ rfl
  have b3 := blk_cell HBL4.out 3 _ rfl
  have b4 := blk_cell HBL4.out 4 _ rfl
  go_wp2_with fail
  refine (rmput_any k i s a (HR.out.below HB4.out) hm).mono ?_
  rw [← HY.out]
  rintro e w5 ⟨D2, k2, f2, rfl, hh, hb⟩
  have HB5 := Lib.hid (HB4.out.trans (hb.mono HB4.out.size)); have HBL5 := Lib.hid (blk_below HBL4.out hb); have HBY5 := Lib.hid (byt_below HBY4.out hb); have HROW5 := Lib.hid (HROW4.out.below hb); have HX5 := Lib.hid (blk_below HX4.out hb); have HD5 := Lib.hid (held_ch HD4.out (Ch.of_below hb No) (fun _ _ => id)); have HE5 := Lib.hid (held_rd hh)
  have hz5 := hb.size
  have hrl : Rd w5 (some ⟨g1, 0, none⟩) n2 (n2 + 3) 1 (u8s l2) := HROW5.out.rd 0 n2 (n2 + 3) (u8s l2) (by rw [List.drop_zero, u8s_take, Nat.mul_one, ← HL2.out]; simp) (by rw [u8s_length, List.length_append, HL2.out]; omega) (by omega) (by have := HROW5.out.big; omega)
  have HRL := Lib.hid hrl
  clear hb hh hrl b0 b1 b2 b3 b4
  go_wp2_with fail
  obtain ⟨r, hr⟩ : ∃ z, z = getM l2 := ⟨_, rfl⟩
  have HRR := Lib.hid hr
  clear hr
  refine (mget_any HRL.out (by omega)).mono ?_
  rw [← HRR.out]
  rintro e w6 ⟨A6, k6, f6, rfl, hh, hb⟩
  have HB6 := Lib.hid (HB5.out.trans (hb.mono HB5.out.size)); have HC6 := Lib.hid hb; have HG6 := Lib.hid hh
  have hz6 := hb.size
  obtain ⟨U, hU⟩ : ∃ z, z = w6.heap.size := ⟨_, rfl⟩
  obtain ⟨w7, hw7⟩ : ∃ z, z = (w6.alloc (.cells #[.int .i64 r.k, .int .i64 r.i, .int .i64 r.s, .int .i64 r.a, .slice A6 k6 f6] 43)).alloc (.cells #[.int .i64 r.e, .int .i64 r.p] 32) := ⟨_, rfl⟩
  obtain ⟨u1, u2, u3⟩ := two_new w6 #[.int .i64 r.k, .int .i64 r.i, .int .i64 r.s, .int .i64 r.a, .slice A6 k6 f6] 43 #[.int .i64 r.e, .int .i64 r.p] 32
  rw [← hw7, ← hU] at u1 u2
  rw [← hw7] at u3
  have HU7 := Lib.hid u1; have HV7 := Lib.hid u2; have HB7 := Lib.hid (HB6.out.trans (u3.mono HB6.out.size)); have HC7 := Lib.hid (HC6.out.trans (u3.mono HC6.out.size))
  have HGL := Lib.hid (show ∀ a, A6 = some a → w5.heap.size ≤ a.block ∧ a.block < U from fun a ha => by have := held_lt hh a ha; omega)
  have HG7 := Lib.hid (held_ch hh (Ch.of_below u3 No) (fun _ _ => id))
  have hU6 : w6.heap.size ≤ U := by omega
  have hUw7 := blk_lt u1
  clear hb hh u1 u2 u3
  go_wp2_with fail
  rw [← hw7, ← hU]
  clear hw7 hU
  refine (rmget_any (HR2.out.below HB7.out) (by omega)).mono ?_
  rw [← HRR.out]
  rintro e w8 ⟨A8, k8, f8, rfl, hh, hb⟩
  obtain ⟨T, hT⟩ : ∃ z, z = w8.heap.size := ⟨_, rfl⟩
  obtain ⟨w9, hw9⟩ : ∃ z, z = (w8.alloc (.cells #[.int .i64 r.k, .int .i64 r.i, .int .i64 r.s, .int .i64 r.a, .slice A8 k8 f8] 43)).alloc (.cells #[.int .i64 r.e, .int .i64 r.p] 32) := ⟨_, rfl⟩
  obtain ⟨u1, u2, u3⟩ := two_new w8 #[.int .i64 r.k, .int .i64 r.i, .int .i64 r.s, .int .i64 r.a, .slice A8 k8 f8] 43 #[.int .i64 r.e, .int .i64 r.p] 32
  rw [← hw9, ← hT] at u1 u2
  rw [← hw9] at u3
  have HT9 := Lib.hid u1; have HS9 := Lib.hid u2; have hb79 := hb.trans (u3.mono hb.size)
  have HB9 := Lib.hid (HB7.out.trans (hb79.mono HB7.out.size)); have HC9 := Lib.hid (HC7.out.trans (hb79.mono HC7.out.size))
  have HU9 := Lib.hid (blk_below HU7.out hb79); have HV9 := Lib.hid (blk_below HV7.out hb79); have HG9 := Lib.hid (held_ch HG7.out (Ch.of_below hb79 No) (fun _ _ => id)); have HE9 := Lib.hid (HE5.out.below HC9.out); have HF9 := Lib.hid (hh.below u3)
  have HBL9 := Lib.hid (blk_below HBL5.out HC9.out); have HBY9 := Lib.hid (byt_below HBY5.out HC9.out); have HROW9 := Lib.hid (HROW5.out.below HC9.out); have HX9 := Lib.hid (blk_below HX5.out HC9.out); have HD9 := Lib.hid (held_ch HD5.out (Ch.of_below HC9.out No) (fun _ _ => id))
  have hz79 := hb79.size
  have hTw9 := blk_lt u1
  clear hb hh u1 u2 u3 hb79 HU7 HV7 HG7 HC6 HC7 HG6 HBL3 HBL4 HBY3 HBY4 HROW3 HROW4 HX3 HX4 HD4
  have s0 : w9.drew.cell? ⟨U, 0, none⟩ = some (.int .i64 r.k) ∧ w9.drew.cell? ⟨U, 1, none⟩ = some (.int .i64 r.i) ∧ w9.drew.cell? ⟨U, 2, none⟩ = some (.int .i64 r.s) ∧ w9.drew.cell? ⟨U, 3, none⟩ = some (.int .i64 r.a) ∧ w9.drew.cell? ⟨U, 4, none⟩ = some (.slice A6 k6 f6) ∧ w9.drew.cell? ⟨T, 0, none⟩ = some (.int .i64 r.k) ∧ w9.drew.cell? ⟨T, 1, none⟩ = some (.int .i64 r.i) ∧ w9.drew.cell? ⟨T, 2, none⟩ = some (.int .i64 r.s) ∧ w9.drew.cell? ⟨T, 3, none⟩ = some (.int .i64 r.a) ∧ w9.drew.cell? ⟨T, 4, none⟩ = some (.slice A8 k8 f8) ∧ w9.drew.cell? ⟨X, 0, none⟩ = some (.int .i64 k) ∧ w9.drew.cell? ⟨X, 1, none⟩ = some (.int .i64 i) ∧ w9.drew.cell? ⟨X, 2, none⟩ = some (.int .i64 s) ∧ w9.drew.cell? ⟨X, 3, none⟩ = some (.int .i64 a) ∧ w9.drew.cell? ⟨X, 4, none⟩ = some (.slice (some ⟨g0, 0, none⟩) m d0) ∧ w9.drew.cell? ⟨B, 0, none⟩ = some (.int .i64 k) ∧ w9.drew.cell? ⟨B, 1, none⟩ = some (.int .i64 i) ∧ w9.drew.cell? ⟨B, 2, none⟩ = some (.int .i64 s) ∧ w9.drew.cell? ⟨B, 3, none⟩ = some (.int .i64 a) ∧ w9.drew.cell? ⟨B, 4, none⟩ = some (.slice A m c) ∧ w9.drew.cell? ⟨U + 1, 0, none⟩ = some (.int .i64 r.e) ∧ w9.drew.cell? ⟨U + 1, 1, none⟩ = some (.int .i64 r.p) ∧ w9.drew.cell? ⟨T + 1, 0, none⟩ = some (.int .i64 r.e) ∧ w9.drew.cell? ⟨T + 1, 1, none⟩ = some (.int .i64 r.p) := ⟨blk_cell HU9.out 0 _ rfl, blk_cell HU9.out 1 _ rfl, blk_cell HU9.out 2 _ rfl, blk_cell HU9.out 3 _ rfl, blk_cell HU9.out 4 _ rfl, blk_cell HT9.out 0 _ rfl, blk_cell HT9.out 1 _ rfl, blk_cell HT9.out 2 _ rfl, blk_cell HT9.out 3 _ rfl, blk_cell HT9.out 4 _ rfl, blk_cell HX9.out 0 _ rfl, blk_cell HX9.out 1 _ rfl, blk_cell HX9.out 2 _ rfl, blk_cell HX9.out 3 _ rfl, blk_cell HX9.out 4 _ rfl, blk_cell HBL9.out 0 _ rfl, blk_cell HBL9.out 1 _ rfl, blk_cell HBL9.out 2 _ rfl, blk_cell HBL9.out 3 _ rfl, blk_cell HBL9.out 4 _ rfl, blk_cell HV9.out 0 _ rfl, blk_cell HV9.out 1 _ rfl, blk_cell HS9.out 0 _ rfl, blk_cell HS9.out 1 _ rfl⟩
  have qa := (held_rd HD9.out).ch (Ch.drew w9 No) (fun _ _ => id)
  have qb := HE9.out.ch (Ch.drew w9 No) (fun _ _ => id)
  have qc := (held_rd HG9.out).ch (Ch.drew w9 No) (fun _ _ => id)
  have qd := HF9.out.ch (Ch.drew w9 No) (fun _ _ => id)
  go_wp2_with fail
  rw [← hw9, ← hT]
  clear hw9 hT
  go_region_held3 (fun W => W.cell? ⟨U, 0, none⟩ = some (.int .i64 r.k) ∧ W.cell? ⟨U, 1, none⟩ = some (.int .i64 r.i) ∧ W.cell? ⟨U, 2, none⟩ = some (.int .i64 r.s) ∧ W.cell? ⟨U, 3, none⟩ = some (.int .i64 r.a) ∧ W.cell? ⟨U, 4, none⟩ = some (.slice A6 k6 f6) ∧ W.cell? ⟨T, 0, none⟩ = some (.int .i64 r.k) ∧ W.cell? ⟨T, 1, none⟩ = some (.int .i64 r.i) ∧ W.cell? ⟨T, 2, none⟩ = some (.int .i64 r.s) ∧ W.cell? ⟨T, 3, none⟩ = some (.int .i64 r.a) ∧ W.cell? ⟨T, 4, none⟩ = some (.slice A8 k8 f8) ∧ W.cell? ⟨X, 0, none⟩ = some (.int .i64 k) ∧ W.cell? ⟨X, 1, none⟩ = some (.int .i64 i) ∧ W.cell? ⟨X, 2, none⟩ = some (.int .i64 s) ∧ W.cell? ⟨X, 3, none⟩ = some (.int .i64 a) ∧ W.cell? ⟨X, 4, none⟩ = some (.slice (some ⟨g0, 0, none⟩) m d0) ∧ W.cell? ⟨B, 0, none⟩ = some (.int .i64 k) ∧ W.cell? ⟨B, 1, none⟩ = some (.int .i64 i) ∧ W.cell? ⟨B, 2, none⟩ = some (.int .i64 s) ∧ W.cell? ⟨B, 3, none⟩ = some (.int .i64 a) ∧ W.cell? ⟨B, 4, none⟩ = some (.slice A m c) ∧ W.cell? ⟨U + 1, 0, none⟩ = some (.int .i64 r.e) ∧ W.cell? ⟨U + 1, 1, none⟩ = some (.int .i64 r.p) ∧ W.cell? ⟨T + 1, 0, none⟩ = some (.int .i64 r.e) ∧ W.cell? ⟨T + 1, 1, none⟩ = some (.int .i64 r.p)) (first | exact sc | exact sb | exact sa | exact s0) (first | (go_at_call 15; ((with_reducible refine (same_any _ _ _ _ _ _ _ _ _ qa qb).mono ?_); rw [eqB_self]; rintro e wx ⟨rfl, rfl⟩)) | (go_at_call 27; ((with_reducible refine (msame_any r.k r.i r.s r.a r.k r.i r.s r.a qc qd).mono ?_); rw [sameM_self]; rintro e Wa ⟨rfl, hba⟩; have sa := keep24 hba s0)) | (go_at_call 28; ((with_reducible refine (mcheck_any k i s a _ m _ _ hm).mono ?_); rintro e Wb ⟨rfl, hbb'⟩; have hbb := hba.trans (hbb'.mono hba.size); have sb := keep24 hbb s0)) | (go_at_call 29; ((with_reducible refine (rmcheck_any k i s a _ m _ _ hm).mono ?_); rintro e Wc ⟨rfl, hbc'⟩; have hbc := hbb.trans (hbc'.mono hbb.size); have sc := keep24 hbc s0)))
  all_goals
    have hbw : Below w9.heap.size w9 Wc := ((Ch.drew w9 No).below (Nat.le_refl _) (fun _ h => h.elim)).trans hbc
    have HBc := Lib.hid (HB9.out.trans (hbw.mono HB9.out.size)); have HUc := Lib.hid (blk_below HU9.out hbw); have HGc := Lib.hid (held_ch HG9.out (Ch.of_below hbw No) (fun _ _ => id)); have HDc := Lib.hid (held_ch HD9.out (Ch.of_below hbw No) (fun _ _ => id))
    have HBLc := Lib.hid (blk_below HBL9.out hbw); have HBYc := Lib.hid (byt_below HBY9.out hbw); have HROWc := Lib.hid (HROW9.out.below hbw); have HXc := Lib.hid (blk_below HX9.out hbw)
    have hzc := hbw.size
    have hBB := HBW.out
    have HBB := Lib.hid hBB
    clear hBB hbw s0 sa sb sc qa qb qc qd hba hbb' hbb hbc' hbc HU9 HT9 HV9 HS9 HG9 HD9 HBL9 HBY9 HROW9 HX9
    go_wp2_with fail
    refine (over_held2 HDc.out).mono ?_
    rintro e wd ⟨rfl, hc⟩
    have nD : ∀ j, j ≤ X ∨ w4.heap.size ≤ j → ¬ (∃ a, D1 = some a ∧ a.block = j) := fun j hj ⟨a, ha, e⟩ => by have := HDL.out a ha; omega
    have HBd := Lib.hid (((Ch.of_below HBc.out (fun k => X < k)).trans (hc.mono (S' := fun k => X < k) (fun i _ ⟨a, ha, e⟩ => by have := HDL.out a ha; omega)) (fun i hi => .inl hi)).below (Nat.le_refl _) (fun j hj => by have := HBB.out; have hj : X < j := hj; omega))
    have hUd := blk_ch HUc.out hc (nD U (by omega))
    have HUd := Lib.hid hUd; have HGd := Lib.hid (held_ch HGc.out hc (fun a ha => nD _ (by have := HGL.out a ha; omega)))
    have HBLd := Lib.hid (blk_ch HBLc.out hc (nD B (by omega))); have HBYd := Lib.hid (byt_ch HBYc.out hc (nD g0 (by omega))); have HROWd := Lib.hid (HROWc.out.ch hc (nD g1 (by omega))); have HXd := Lib.hid (blk_ch HXc.out hc (nD X (by omega)))
    have c4 := blk_cell hUd 4 _ rfl
    clear hc hUd
    go_wp2_with fail
    refine (over_held2 HGd.out).mono ?_
    rintro e wf ⟨rfl, hc⟩
    have nG : ∀ j, j ≤ X → ¬ (∃ a, A6 = some a ∧ a.block = j) := fun j hj ⟨a, ha, e⟩ => by have := HGL.out a ha; omega
    have HBf := Lib.hid (((Ch.of_below HBd.out (fun k => X < k)).trans (hc.mono (S' := fun k => X < k) (fun i _ ⟨a, ha, e⟩ => by have := HGL.out a ha; omega)) (fun i hi => .inl hi)).below (Nat.le_refl _) (fun j hj => by have := HBB.out; have hj : X < j := hj; omega))
    have hBLf := blk_ch HBLd.out hc (nG B (by omega))
    have hXf := blk_ch HXd.out hc (nG X (by omega))
    have HBYf := Lib.hid (byt_ch HBYd.out hc (nG g0 (by omega))); have HROWf := Lib.hid (HROWd.out.ch hc (nG g1 (by omega)))
    have b0 := blk_cell hBLf 0 _ rfl
    have b1 := blk_cell hBLf 1 _ rfl
    have b2 := blk_cell hBLf 2 _ rfl
    have b3 := blk_cell hBLf 3 _ rfl
    have b4 := blk_cell hBLf 4 _ rfl
    have x0 := blk_cell hXf 0 _ rfl
    have x1 := blk_cell hXf 1 _ rfl
    have x2 := blk_cell hXf 2 _ rfl
    have x3 := blk_cell hXf 3 _ rfl
    have x4 := blk_cell hXf 4 _ rfl
    clear hc hBLf hXf c4
    go_wp2_with fail
    refine (msame_any k i s a k i s a (held_rd (base := 0) (.inr ⟨g0, rfl, HBYf.out, HL.out, Nat.zero_le _⟩)) (HR.out.below HBf.out)).mono ?_
    rw [sameM_self]
    rintro e wg ⟨rfl, hb⟩
    have HBg := Lib.hid (HBf.out.trans (hb.mono HBf.out.size)); have HROWg := Lib.hid (HROWf.out.below hb)
    clear hb b0 b1 b2 b3 b4 x0 x1 x2 x3 x4
    go_wp2_with fail
    refine (kept_any _ _ _ _ _ _ _ HROWg.out (HR2.out.below HBg.out) (by omega)).mono ?_
    rintro e wh ⟨rfl, hb⟩
    have HBh := Lib.hid (HBg.out.trans (hb.mono HBg.out.size))
    clear hb
    go_wp2_with fail
    refine (fawake_any _).mono ?_
    rintro e wi ⟨rfl, hb⟩
    go_wp2
    go_ret
    exact ⟨rfl, HBh.out.trans (hb.mono HBh.out.size)⟩
end Go.Proofs.Ytncahekankbalaa
