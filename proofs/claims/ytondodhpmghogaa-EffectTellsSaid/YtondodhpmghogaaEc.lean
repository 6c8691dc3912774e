/- Walk: Less is an order (EffectOrder). Conditions: the arguments are as they come in. -/
import Derived.Test.YtondodhpmghogaaEb
import Derived.Test.YtondodhpmghogaaE9
namespace Go.Proofs.Ytondodhpmghogaa
open Go.RowKit
set_option linter.unusedVariables false
set_option linter.unusedSimpArgs false

theorem keep6 {w w1 : World} (hb : Below w.heap.size w w1) {a b c d e f : Addr} {va vb vc vd ve vf : Value} (h : w.cell? a = some va ∧ w.cell? b = some vb ∧ w.cell? c = some vc ∧ w.cell? d = some vd ∧ w.cell? e = some ve ∧ w.cell? f = some vf) :
    w1.cell? a = some va ∧ w1.cell? b = some vb ∧ w1.cell? c = some vc ∧ w1.cell? d = some vd ∧ w1.cell? e = some ve ∧ w1.cell? f = some vf :=
  ⟨below_cell hb h.1, below_cell hb h.2.1, below_cell hb h.2.2.1, below_cell hb h.2.2.2.1, below_cell hb h.2.2.2.2.1, below_cell hb h.2.2.2.2.2⟩
/-- three effects in boxes -/
structure Three (w W : World) (B k1 : Nat) (a b c : Array Value) : Prop where
  b1 : Blk W B k1 a
  b2 : Blk W (B + 1) k1 b
  b3 : Blk W (B + 2) k1 c
  bel : Below w.heap.size w W
theorem three_below {w W W' : World} {B k1 : Nat} {a b c : Array Value} (h : Three w W B k1 a b c) (hb : Below W.heap.size W W') : Three w W' B k1 a b c := ⟨blk_below h.b1 hb, blk_below h.b2 hb, blk_below h.b3 hb, h.bel.trans (hb.mono h.bel.size)⟩
theorem three_new (w : World) (k1 : Nat) (a b c : Array Value) : Three w (((w.alloc (.cells a k1)).alloc (.cells b k1)).alloc (.cells c k1)) w.heap.size k1 a b c := by
  have h1 := box_below w (.cells a k1)
  have h2 := box_below (w.alloc (.cells a k1)) (.cells b k1)
  have h3 := box_below ((w.alloc (.cells a k1)).alloc (.cells b k1)) (.cells c k1)
  refine ⟨blk_below (blk_below (blk_new _ _ _) h2) h3, blk_below ?_ h3, ?_, (h1.trans (h2.mono h1.size)).trans (h3.mono (by simp; omega))⟩
  · have := blk_new (w.alloc (.cells a k1)) k1 b
    rwa [World.size_alloc] at this
  · have := blk_new ((w.alloc (.cells a k1)).alloc (.cells b k1)) k1 c
    rwa [World.size_alloc, World.size_alloc] at this
set_option maxRecDepth 100000 in
set_option maxHeartbeats 16000000 in
theorem eorder_law (k1 m1 : Int) (A1 : Option Addr) (n1 c1 : Nat) (l1 : List UInt8) (k2 m2 : Int) (A2 : Option Addr) (n2 c2 : Nat) (l2 : List UInt8) (k3 m3 : Int) (A3 : Option Addr) (n3 c3 : Nat) (l3 : List UInt8) (w : World)
    (h1 : Rd w A1 n1 c1 1 (u8s l1) ∧ k1 ≤ 9223372036854775807 ∧ m1 ≤ 9223372036854775807) (h2 : Rd w A2 n2 c2 1 (u8s l2) ∧ k2 ≤ 9223372036854775807 ∧ m2 ≤ 9223372036854775807) (h3 : Rd w A3 n3 c3 1 (u8s l3)) :
    Calls Try.prog 13 #[.agg #[.int .i64 k1, .int .i64 m1, .slice A1 n1 c1], .agg #[.int .i64 k2, .int .i64 m2, .slice A2 n2 c2], .agg #[.int .i64 k3, .int .i64 m3, .slice A3 n3 c3]] w fun e w' => e = .returned (.bool true) ∧ Below w.heap.size w w' := by
  obtain ⟨r1, hk1, hm1⟩ := h1
  obtain ⟨r2, hk2, hm2⟩ := h2
  have e1 : l1.length = n1 := by have := r1.len; simpa using this
  have e2 : l2.length = n2 := by have := r2.len; simpa using this
  have H1 := Lib.hid r1; have H2 := Lib.hid r2; have H3 := Lib.hid h3; have E1 := Lib.hid e1; have E2 := Lib.hid e2
  have HB := Lib.hid (show (k1 ≤ 9223372036854775807 ∧ m1 ≤ 9223372036854775807) ∧ (k2 ≤ 9223372036854775807 ∧ m2 ≤ 9223372036854775807) from ⟨⟨hk1, hm1⟩, hk2, hm2⟩)
  obtain ⟨B, hB⟩ : ∃ z, z = w.heap.size := ⟨_, rfl⟩
  obtain ⟨V, hV⟩ : ∃ z, z = ((w.alloc (.cells #[.int .i64 k1, .int .i64 m1, .slice A1 n1 c1] 72)).alloc (.cells #[.int .i64 k2, .int .i64 m2, .slice A2 n2 c2] 72)).alloc (.cells #[.int .i64 k3, .int .i64 m3, .slice A3 n3 c3] 72) := ⟨_, rfl⟩
  have HT := Lib.hid (show Three w V B 72 #[.int .i64 k1, .int .i64 m1, .slice A1 n1 c1] #[.int .i64 k2, .int .i64 m2, .slice A2 n2 c2] #[.int .i64 k3, .int .i64 m3, .slice A3 n3 c3] by rw [hV, hB]; exact three_new _ _ _ _ _)
  clear r1 r2 h3 e1 e2 hk1 hk2 hm1 hm2
  by_cases g1 : 1200 < n1
  · have G1 := Lib.hid (decide_eq_true g1)
    clear g1
    go_enter Try.func13, Try.ntmps13
    go_wp2_with fail
    rw [← hV, ← hB]
    clear hV hB
    refine (eawake_any _).mono ?_
    rintro e w1 ⟨rfl, hb⟩
    have HT1 := Lib.hid (three_below HT.out hb)
    clear hb
    have x10 := blk_cell HT1.out.b1 0 _ rfl
    have x11 := blk_cell HT1.out.b1 1 _ rfl
    have x12 := blk_cell HT1.out.b1 2 _ rfl
    have x20 := blk_cell HT1.out.b2 0 _ rfl
    have x21 := blk_cell HT1.out.b2 1 _ rfl
    have x22 := blk_cell HT1.out.b2 2 _ rfl
    have x30 := blk_cell HT1.out.b3 0 _ rfl
    have x31 := blk_cell HT1.out.b3 1 _ rfl
    have x32 := blk_cell HT1.out.b3 2 _ rfl
    go_wp2_with fail
    refine (elong_any _ _ _ _ _ _).mono ?_
    rw [G1.out]
    rintro e w2 ⟨rfl, hb⟩
    have HT2 := Lib.hid (three_below HT1.out hb)
    clear hb
    clear x10 x11 x12 x20 x21 x22 x30 x31 x32
    go_wp2
    go_ret
    exact ⟨rfl, HT2.out.bel⟩
  have G1 := Lib.hid (decide_eq_false g1)
  by_cases g2 : 1200 < n2
  · have G2 := Lib.hid (decide_eq_true g2)
    clear g2
    go_enter Try.func13, Try.ntmps13
    go_wp2_with fail
    rw [← hV, ← hB]
    clear hV hB
    refine (eawake_any _).mono ?_
    rintro e w1 ⟨rfl, hb⟩
    have HT1 := Lib.hid (three_below HT.out hb)
    clear hb
    have x10 := blk_cell HT1.out.b1 0 _ rfl
    have x11 := blk_cell HT1.out.b1 1 _ rfl
    have x12 := blk_cell HT1.out.b1 2 _ rfl
    have x20 := blk_cell HT1.out.b2 0 _ rfl
    have x21 := blk_cell HT1.out.b2 1 _ rfl
    have x22 := blk_cell HT1.out.b2 2 _ rfl
    have x30 := blk_cell HT1.out.b3 0 _ rfl
    have x31 := blk_cell HT1.out.b3 1 _ rfl
    have x32 := blk_cell HT1.out.b3 2 _ rfl
    go_wp2_with fail
    refine (elong_any _ _ _ _ _ _).mono ?_
    rw [G1.out]
    rintro e w2 ⟨rfl, hb⟩
    have HT2 := Lib.hid (three_below HT1.out hb)
    clear hb
    clear x10 x11 x12 x20 x21 x22 x30 x31 x32
    have x10 := blk_cell HT2.out.b1 0 _ rfl
    have x11 := blk_cell HT2.out.b1 1 _ rfl
    have x12 := blk_cell HT2.out.b1 2 _ rfl
    have x20 := blk_cell HT2.out.b2 0 _ rfl
    have x21 := blk_cell HT2.out.b2 1 _ rfl
    have x22 := blk_cell HT2.out.b2 2 _ rfl
    have x30 := blk_cell HT2.out.b3 0 _ rfl
    have x31 := blk_cell HT2.out.b3 1 _ rfl
    have x32 := blk_cell HT2.out.b3 2 _ rfl
    go_wp2_with fail
    refine (elong_any _ _ _ _ _ _).mono ?_
    rw [G2.out]
    rintro e w3 ⟨rfl, hb⟩
    have HT3 := Lib.hid (three_below HT2.out hb)
    clear hb
    clear x10 x11 x12 x20 x21 x22 x30 x31 x32
    go_wp2
    go_ret
    exact ⟨rfl, HT3.out.bel⟩
  have G2 := Lib.hid (decide_eq_false g2)
  by_cases g3 : 1200 < n3
  · have G3 := Lib.hid (decide_eq_true g3)
    clear g3
    go_enter Try.func13, Try.ntmps13
    go_wp2_with fail
    rw [← hV, ← hB]
    clear hV hB
    refine (eawake_any _).mono ?_
    rintro e w1 ⟨rfl, hb⟩
    have HT1 := Lib.hid (three_below HT.out hb)
    clear hb
    have x10 := blk_cell HT1.out.b1 0 _ rfl
    have x11 := blk_cell HT1.out.b1 1 _ rfl
    have x12 := blk_cell HT1.out.b1 2 _ rfl
    have x20 := blk_cell HT1.out.b2 0 _ rfl
    have x21 := blk_cell HT1.out.b2 1 _ rfl
    have x22 := blk_cell HT1.out.b2 2 _ rfl
    have x30 := blk_cell HT1.out.b3 0 _ rfl
    have x31 := blk_cell HT1.out.b3 1 _ rfl
    have x32 := blk_cell HT1.out.b3 2 _ rfl
    go_wp2_with fail
    refine (elong_any _ _ _ _ _ _).mono ?_
    rw [G1.out]
    rintro e w2 ⟨rfl, hb⟩
    have HT2 := Lib.hid (three_below HT1.out hb)
    clear hb
    clear x10 x11 x12 x20 x21 x22 x30 x31 x32
    have x10 := blk_cell HT2.out.b1 0 _ rfl
    have x11 := blk_cell HT2.out.b1 1 _ rfl
    have x12 := blk_cell HT2.out.b1 2 _ rfl
    have x20 := blk_cell HT2.out.b2 0 _ rfl
    have x21 := blk_cell HT2.out.b2 1 _ rfl
    have x22 := blk_cell HT2.out.b2 2 _ rfl
    have x30 := blk_cell HT2.out.b3 0 _ rfl
    have x31 := blk_cell HT2.out.b3 1 _ rfl
    have x32 := blk_cell HT2.out.b3 2 _ rfl
    go_wp2_with fail
    refine (elong_any _ _ _ _ _ _).mono ?_
    rw [G2.out]
    rintro e w3 ⟨rfl, hb⟩
    have HT3 := Lib.hid (three_below HT2.out hb)
    clear hb
    clear x10 x11 x12 x20 x21 x22 x30 x31 x32
    have x10 := blk_cell HT3.out.b1 0 _ rfl
    have x11 := blk_cell HT3.out.b1 1 _ rfl
    have x12 := blk_cell HT3.out.b1 2 _ rfl
    have x20 := blk_cell HT3.out.b2 0 _ rfl
    have x21 := blk_cell HT3.out.b2 1 _ rfl
    have x22 := blk_cell HT3.out.b2 2 _ rfl
    have x30 := blk_cell HT3.out.b3 0 _ rfl
    have x31 := blk_cell HT3.out.b3 1 _ rfl
    have x32 := blk_cell HT3.out.b3 2 _ rfl
    go_wp2_with fail
    refine (elong_any _ _ _ _ _ _).mono ?_
    rw [G3.out]
    rintro e w4 ⟨rfl, hb⟩
    have HT4 := Lib.hid (three_below HT3.out hb)
    clear hb
    clear x10 x11 x12 x20 x21 x22 x30 x31 x32
    go_wp2
    go_ret
    exact ⟨rfl, HT4.out.bel⟩
  have G3 := Lib.hid (decide_eq_false g3)
  have gn1 : n1 ≤ 1200 := by omega
  have gn2 : n2 ≤ 1200 := by omega
  clear g1 g2 g3
  go_enter Try.func13, Try.ntmps13
  go_wp2_with fail
  rw [← hV, ← hB]
  clear hV hB
  refine (eawake_any _).mono ?_
  rintro e w1 ⟨rfl, hb⟩
  have HT1 := Lib.hid (three_below HT.out hb)
  clear hb
  have x10 := blk_cell HT1.out.b1 0 _ rfl
  have x11 := blk_cell HT1.out.b1 1 _ rfl
  have x12 := blk_cell HT1.out.b1 2 _ rfl
  have x20 := blk_cell HT1.out.b2 0 _ rfl
  have x21 := blk_cell HT1.out.b2 1 _ rfl
  have x22 := blk_cell HT1.out.b2 2 _ rfl
  have x30 := blk_cell HT1.out.b3 0 _ rfl
  have x31 := blk_cell HT1.out.b3 1 _ rfl
  have x32 := blk_cell HT1.out.b3 2 _ rfl
  go_wp2_with fail
  refine (elong_any _ _ _ _ _ _).mono ?_
  rw [G1.out]
  rintro e w2 ⟨rfl, hb⟩
  have HT2 := Lib.hid (three_below HT1.out hb)
  clear hb
  clear x10 x11 x12 x20 x21 x22 x30 x31 x32
  have x10 := blk_cell HT2.out.b1 0 _ rfl
  have x11 := blk_cell HT2.out.b1 1 _ rfl
  have x12 := blk_cell HT2.out.b1 2 _ rfl
  have x20 := blk_cell HT2.out.b2 0 _ rfl
  have x21 := blk_cell HT2.out.b2 1 _ rfl
  have x22 := blk_cell HT2.out.b2 2 _ rfl
  have x30 := blk_cell HT2.out.b3 0 _ rfl
  have x31 := blk_cell HT2.out.b3 1 _ rfl
  have x32 := blk_cell HT2.out.b3 2 _ rfl
  go_wp2_with fail
  refine (elong_any _ _ _ _ _ _).mono ?_
  rw [G2.out]
  rintro e w3 ⟨rfl, hb⟩
  have HT3 := Lib.hid (three_below HT2.out hb)
  clear hb
  clear x10 x11 x12 x20 x21 x22 x30 x31 x32
  have x10 := blk_cell HT3.out.b1 0 _ rfl
  have x11 := blk_cell HT3.out.b1 1 _ rfl
  have x12 := blk_cell HT3.out.b1 2 _ rfl
  have x20 := blk_cell HT3.out.b2 0 _ rfl
  have x21 := blk_cell HT3.out.b2 1 _ rfl
  have x22 := blk_cell HT3.out.b2 2 _ rfl
  have x30 := blk_cell HT3.out.b3 0 _ rfl
  have x31 := blk_cell HT3.out.b3 1 _ rfl
  have x32 := blk_cell HT3.out.b3 2 _ rfl
  go_wp2_with fail
  refine (elong_any _ _ _ _ _ _).mono ?_
  rw [G3.out]
  rintro e w4 ⟨rfl, hb⟩
  have HT4 := Lib.hid (three_below HT3.out hb)
  clear hb
  clear x10 x11 x12 x20 x21 x22 x30 x31 x32
  obtain ⟨x, hx⟩ : ∃ z, z = lessE k1 m1 l1 k2 m2 l2 := ⟨_, rfl⟩
  obtain ⟨y, hy⟩ : ∃ z, z = lessE k2 m2 l2 k1 m1 l1 := ⟨_, rfl⟩
  obtain ⟨s, hs⟩ : ∃ z, z = sameE k1 m1 l1 k2 m2 l2 := ⟨_, rfl⟩
  obtain ⟨s', hs'⟩ : ∃ z, z = sameE k2 m2 l2 k1 m1 l1 := ⟨_, rfl⟩
  have htri := tri k1 m1 l1 k2 m2 l2
  rw [← hx, ← hy, ← hs, ← hs'] at htri
  have HX := Lib.hid hx; have HY := Lib.hid hy; have HS := Lib.hid hs; have HS2 := Lib.hid hs'; have HTRI := Lib.hid htri
  clear hx hy hs hs' htri
  have q1 := (H1.out.below HT4.out.bel).ch (Ch.drew w4 No) (fun _ _ => id)
  have q2 := (H2.out.below HT4.out.bel).ch (Ch.drew w4 No) (fun _ _ => id)
  have s0 : w4.drew.cell? ⟨B, 0, none⟩ = some (.int .i64 k1) ∧ w4.drew.cell? ⟨B, 1, none⟩ = some (.int .i64 m1) ∧ w4.drew.cell? ⟨B, 2, none⟩ = some (.slice A1 n1 c1) ∧ w4.drew.cell? ⟨B + 1, 0, none⟩ = some (.int .i64 k2) ∧ w4.drew.cell? ⟨B + 1, 1, none⟩ = some (.int .i64 m2) ∧ w4.drew.cell? ⟨B + 1, 2, none⟩ = some (.slice A2 n2 c2) := ⟨blk_cell HT4.out.b1 0 _ rfl, blk_cell HT4.out.b1 1 _ rfl, blk_cell HT4.out.b1 2 _ rfl, blk_cell HT4.out.b2 0 _ rfl, blk_cell HT4.out.b2 1 _ rfl, blk_cell HT4.out.b2 2 _ rfl⟩
  have HZ := Lib.hid HT4.out.bel.size
  go_wp2_with fail
  go_region_held3 (fun W => W.cell? ⟨B, 0, none⟩ = some (.int .i64 k1) ∧ W.cell? ⟨B, 1, none⟩ = some (.int .i64 m1) ∧ W.cell? ⟨B, 2, none⟩ = some (.slice A1 n1 c1) ∧ W.cell? ⟨B + 1, 0, none⟩ = some (.int .i64 k2) ∧ W.cell? ⟨B + 1, 1, none⟩ = some (.int .i64 m2) ∧ W.cell? ⟨B + 1, 2, none⟩ = some (.slice A2 n2 c2)) (first | exact sc | exact sb | exact sa | exact s0) (first | (go_at_call 52; ((with_reducible refine (eless_any k2 m2 k1 m1 (q2.below hba) (q1.below hba)).mono ?_); rw [← HY.out]; rintro e Wb ⟨rfl, hbb'⟩; have hbb := hba.trans (hbb'.mono hba.size); have sb := keep6 hbb s0)) | (go_at_call 52; ((with_reducible refine (eless_any k1 m1 k2 m2 q1 q2).mono ?_); rw [← HX.out]; rintro e Wa ⟨rfl, hba⟩; have sa := keep6 hba s0)) | (go_at_call 50; ((with_reducible refine (esam_any k1 m1 k2 m2 (q1.below hbb) (q2.below hbb)).mono ?_); rw [← HS.out]; rintro e Wc ⟨rfl, hbc'⟩; have hbc := hbb.trans (hbc'.mono hbb.size); have sc := keep6 hbc s0)))
  all_goals
    have HT5 := Lib.hid (three_below HT4.out (show Below w4.heap.size w4 Wc from (Ch.drew w4 No).below (Nat.le_refl _) (fun _ h => h.elim) |>.trans hbc))
    clear s0 sa sb sc q1 q2 hba hbb hbc hbb' hbc'
    rcases HTRI.out with ⟨hx, hy, hs, hs'⟩ | ⟨hx, hy, hs, hs'⟩ | ⟨hx, hy, hs, hs'⟩
    · subst hx
      subst hy; subst hs; subst hs'
      have HSV := Lib.hid HS.out.symm
      have x10 := blk_cell HT5.out.b1 0 _ rfl
      have x11 := blk_cell HT5.out.b1 1 _ rfl
      have x12 := blk_cell HT5.out.b1 2 _ rfl
      have x20 := blk_cell HT5.out.b2 0 _ rfl
      have x21 := blk_cell HT5.out.b2 1 _ rfl
      have x22 := blk_cell HT5.out.b2 2 _ rfl
      have x30 := blk_cell HT5.out.b3 0 _ rfl
      have x31 := blk_cell HT5.out.b3 1 _ rfl
      have x32 := blk_cell HT5.out.b3 2 _ rfl
      go_wp2_with fail
      refine (esam_any k2 m2 k1 m1 (H2.out.below HT5.out.bel) (H1.out.below HT5.out.bel)).mono ?_
      rw [← HS2.out]
      rintro e w6 ⟨rfl, hb⟩
      have HT6 := Lib.hid (three_below HT5.out hb)
      clear hb
      clear x10 x11 x12 x20 x21 x22 x30 x31 x32
      have x10 := blk_cell HT6.out.b1 0 _ rfl
      have x11 := blk_cell HT6.out.b1 1 _ rfl
      have x12 := blk_cell HT6.out.b1 2 _ rfl
      have x20 := blk_cell HT6.out.b2 0 _ rfl
      have x21 := blk_cell HT6.out.b2 1 _ rfl
      have x22 := blk_cell HT6.out.b2 2 _ rfl
      have x30 := blk_cell HT6.out.b3 0 _ rfl
      have x31 := blk_cell HT6.out.b3 1 _ rfl
      have x32 := blk_cell HT6.out.b3 2 _ rfl
      go_wp2_with fail
      refine (esam_any k1 m1 k1 m1 (H1.out.below HT6.out.bel) (H1.out.below HT6.out.bel)).mono ?_
      rw [(less_irr k1 m1 l1).2]
      rintro e w7 ⟨rfl, hb⟩
      have HT7 := Lib.hid (three_below HT6.out hb)
      clear hb
      clear x10 x11 x12 x20 x21 x22 x30 x31 x32
      have x10 := blk_cell HT7.out.b1 0 _ rfl
      have x11 := blk_cell HT7.out.b1 1 _ rfl
      have x12 := blk_cell HT7.out.b1 2 _ rfl
      have x20 := blk_cell HT7.out.b2 0 _ rfl
      have x21 := blk_cell HT7.out.b2 1 _ rfl
      have x22 := blk_cell HT7.out.b2 2 _ rfl
      have x30 := blk_cell HT7.out.b3 0 _ rfl
      have x31 := blk_cell HT7.out.b3 1 _ rfl
      have x32 := blk_cell HT7.out.b3 2 _ rfl
      go_wp2_with fail
      refine (eless_any k1 m1 k1 m1 (H1.out.below HT7.out.bel) (H1.out.below HT7.out.bel)).mono ?_
      rw [(less_irr k1 m1 l1).1]
      rintro e w8 ⟨rfl, hb⟩
      have HT8 := Lib.hid (three_below HT7.out hb)
      clear hb
      clear x10 x11 x12 x20 x21 x22 x30 x31 x32
      cases hbc : lessE k2 m2 l2 k3 m3 l3
      · have HBC := Lib.hid hbc
        clear hbc
        have x10 := blk_cell HT8.out.b1 0 _ rfl
        have x11 := blk_cell HT8.out.b1 1 _ rfl
        have x12 := blk_cell HT8.out.b1 2 _ rfl
        have x20 := blk_cell HT8.out.b2 0 _ rfl
        have x21 := blk_cell HT8.out.b2 1 _ rfl
        have x22 := blk_cell HT8.out.b2 2 _ rfl
        have x30 := blk_cell HT8.out.b3 0 _ rfl
        have x31 := blk_cell HT8.out.b3 1 _ rfl
        have x32 := blk_cell HT8.out.b3 2 _ rfl
        go_wp2_with fail
        refine (eless_any k2 m2 k3 m3 (H2.out.below HT8.out.bel) (H3.out.below HT8.out.bel)).mono ?_
        rw [HBC.out]
        rintro e w9 ⟨rfl, hb⟩
        have HT9 := Lib.hid (three_below HT8.out hb)
        clear hb
        clear x10 x11 x12 x20 x21 x22 x30 x31 x32
        by_cases ca : chk k1 m1 l1.length = 0
        · obtain ⟨z1, hz1, _, _⟩ := effB_ok k1 m1 l1 ca
          have Z1 := Lib.hid hz1
          clear hz1
          by_cases cb : chk k2 m2 l2.length = 0
          · obtain ⟨z2, hz2, _, _⟩ := effB_ok k2 m2 l2 cb
            have Z2 := Lib.hid hz2
            clear hz2
            have hinj := effB_inj k1 m1 l1 k2 m2 l2 ca cb
            rw [HSV.out, Z1.out, Z2.out] at hinj
            have HI := Lib.hid hinj
            clear hinj ca cb
            have x10 := blk_cell HT9.out.b1 0 _ rfl
            have x11 := blk_cell HT9.out.b1 1 _ rfl
            have x12 := blk_cell HT9.out.b1 2 _ rfl
            have x20 := blk_cell HT9.out.b2 0 _ rfl
            have x21 := blk_cell HT9.out.b2 1 _ rfl
            have x22 := blk_cell HT9.out.b2 2 _ rfl
            have x30 := blk_cell HT9.out.b3 0 _ rfl
            have x31 := blk_cell HT9.out.b3 1 _ rfl
            have x32 := blk_cell HT9.out.b3 2 _ rfl
            go_wp2_with fail
            refine (ebytes_any k1 m1 HB.out.1.1 HB.out.1.2 (H1.out.below HT9.out.bel) (by omega)).mono ?_
            rw [Z1.out]
            rintro e w10 ⟨D1, d1, f1, he, hh, hb⟩
            cases he
            have HT10 := Lib.hid (three_below HT9.out hb); have HD1 := Lib.hid (held_rd hh)
            clear hb hh
            clear x10 x11 x12 x20 x21 x22 x30 x31 x32
            have x10 := blk_cell HT10.out.b1 0 _ rfl
            have x11 := blk_cell HT10.out.b1 1 _ rfl
            have x12 := blk_cell HT10.out.b1 2 _ rfl
            have x20 := blk_cell HT10.out.b2 0 _ rfl
            have x21 := blk_cell HT10.out.b2 1 _ rfl
            have x22 := blk_cell HT10.out.b2 2 _ rfl
            have x30 := blk_cell HT10.out.b3 0 _ rfl
            have x31 := blk_cell HT10.out.b3 1 _ rfl
            have x32 := blk_cell HT10.out.b3 2 _ rfl
            go_wp2_with fail
            refine (ebytes_any k2 m2 HB.out.2.1 HB.out.2.2 (H2.out.below HT10.out.bel) (by omega)).mono ?_
            rw [Z2.out]
            rintro e w11 ⟨D2, d2, f2, he, hh, hb⟩
            cases he
            have HT11 := Lib.hid (three_below HT10.out hb); have HD1 := Lib.hid (HD1.out.below hb); have HD2 := Lib.hid (held_rd hh)
            clear hb hh
            clear x10 x11 x12 x20 x21 x22 x30 x31 x32
            go_wp2_with fail
            refine (same_any _ _ _ _ _ _ z1 z2 _ (by simpa using HD1.out) (by simpa using HD2.out)).mono ?_
            rw [HI.out]
            rintro e wx ⟨rfl, rfl⟩
            go_wp2
            go_ret
            exact ⟨rfl, HT11.out.bel⟩
          · have Z2 := Lib.hid (effB_bad k2 m2 l2 cb).1
            clear ca cb
            have x10 := blk_cell HT9.out.b1 0 _ rfl
            have x11 := blk_cell HT9.out.b1 1 _ rfl
            have x12 := blk_cell HT9.out.b1 2 _ rfl
            have x20 := blk_cell HT9.out.b2 0 _ rfl
            have x21 := blk_cell HT9.out.b2 1 _ rfl
            have x22 := blk_cell HT9.out.b2 2 _ rfl
            have x30 := blk_cell HT9.out.b3 0 _ rfl
            have x31 := blk_cell HT9.out.b3 1 _ rfl
            have x32 := blk_cell HT9.out.b3 2 _ rfl
            go_wp2_with fail
            refine (ebytes_any k1 m1 HB.out.1.1 HB.out.1.2 (H1.out.below HT9.out.bel) (by omega)).mono ?_
            rw [Z1.out]
            rintro e w10 ⟨D1, d1, f1, he, hh, hb⟩
            cases he
            have HT10 := Lib.hid (three_below HT9.out hb); have HD1 := Lib.hid (held_rd hh)
            clear hb hh
            clear x10 x11 x12 x20 x21 x22 x30 x31 x32
            have x10 := blk_cell HT10.out.b1 0 _ rfl
            have x11 := blk_cell HT10.out.b1 1 _ rfl
            have x12 := blk_cell HT10.out.b1 2 _ rfl
            have x20 := blk_cell HT10.out.b2 0 _ rfl
            have x21 := blk_cell HT10.out.b2 1 _ rfl
            have x22 := blk_cell HT10.out.b2 2 _ rfl
            have x30 := blk_cell HT10.out.b3 0 _ rfl
            have x31 := blk_cell HT10.out.b3 1 _ rfl
            have x32 := blk_cell HT10.out.b3 2 _ rfl
            go_wp2_with fail
            refine (ebytes_any k2 m2 HB.out.2.1 HB.out.2.2 (H2.out.below HT10.out.bel) (by omega)).mono ?_
            rw [Z2.out]
            rintro e w11 ⟨D2, d2, f2, he, hh, hb⟩
            cases he
            have HT11 := Lib.hid (three_below HT10.out hb); have HD2 := Lib.hid (held_rd hh)
            clear hb hh
            clear x10 x11 x12 x20 x21 x22 x30 x31 x32
            go_wp2
            go_ret
            exact ⟨rfl, HT11.out.bel⟩
        · have Z1 := Lib.hid (effB_bad k1 m1 l1 ca).1
          clear ca
          obtain ⟨z2, hz2⟩ : ∃ z, z = effB k2 m2 l2 := ⟨_, rfl⟩
          have Z2 := Lib.hid hz2.symm
          clear hz2
          have x10 := blk_cell HT9.out.b1 0 _ rfl
          have x11 := blk_cell HT9.out.b1 1 _ rfl
          have x12 := blk_cell HT9.out.b1 2 _ rfl
          have x20 := blk_cell HT9.out.b2 0 _ rfl
          have x21 := blk_cell HT9.out.b2 1 _ rfl
          have x22 := blk_cell HT9.out.b2 2 _ rfl
          have x30 := blk_cell HT9.out.b3 0 _ rfl
          have x31 := blk_cell HT9.out.b3 1 _ rfl
          have x32 := blk_cell HT9.out.b3 2 _ rfl
          go_wp2_with fail
          refine (ebytes_any k1 m1 HB.out.1.1 HB.out.1.2 (H1.out.below HT9.out.bel) (by omega)).mono ?_
          rw [Z1.out]
          rintro e w10 ⟨D1, d1, f1, he, hh, hb⟩
          cases he
          have HT10 := Lib.hid (three_below HT9.out hb); have HD1 := Lib.hid (held_rd hh)
          clear hb hh
          clear x10 x11 x12 x20 x21 x22 x30 x31 x32
          have x10 := blk_cell HT10.out.b1 0 _ rfl
          have x11 := blk_cell HT10.out.b1 1 _ rfl
          have x12 := blk_cell HT10.out.b1 2 _ rfl
          have x20 := blk_cell HT10.out.b2 0 _ rfl
          have x21 := blk_cell HT10.out.b2 1 _ rfl
          have x22 := blk_cell HT10.out.b2 2 _ rfl
          have x30 := blk_cell HT10.out.b3 0 _ rfl
          have x31 := blk_cell HT10.out.b3 1 _ rfl
          have x32 := blk_cell HT10.out.b3 2 _ rfl
          go_wp2_with fail
          refine (ebytes_any k2 m2 HB.out.2.1 HB.out.2.2 (H2.out.below HT10.out.bel) (by omega)).mono ?_
          rw [Z2.out]
          rintro e w11 ⟨D2, d2, f2, he, hh, hb⟩
          cases he
          have HT11 := Lib.hid (three_below HT10.out hb); have HD2 := Lib.hid (held_rd hh)
          clear hb hh
          clear x10 x11 x12 x20 x21 x22 x30 x31 x32
          go_wp2
          go_ret
          exact ⟨rfl, HT11.out.bel⟩
      · have HBC := Lib.hid hbc
        have HAC := Lib.hid (less_trans HX.out.symm hbc)
        clear hbc
        have x10 := blk_cell HT8.out.b1 0 _ rfl
        have x11 := blk_cell HT8.out.b1 1 _ rfl
        have x12 := blk_cell HT8.out.b1 2 _ rfl
        have x20 := blk_cell HT8.out.b2 0 _ rfl
        have x21 := blk_cell HT8.out.b2 1 _ rfl
        have x22 := blk_cell HT8.out.b2 2 _ rfl
        have x30 := blk_cell HT8.out.b3 0 _ rfl
        have x31 := blk_cell HT8.out.b3 1 _ rfl
        have x32 := blk_cell HT8.out.b3 2 _ rfl
        go_wp2_with fail
        refine (eless_any k2 m2 k3 m3 (H2.out.below HT8.out.bel) (H3.out.below HT8.out.bel)).mono ?_
        rw [HBC.out]
        rintro e w9 ⟨rfl, hb⟩
        have HT9 := Lib.hid (three_below HT8.out hb)
        clear hb
        clear x10 x11 x12 x20 x21 x22 x30 x31 x32
        have x10 := blk_cell HT9.out.b1 0 _ rfl
        have x11 := blk_cell HT9.out.b1 1 _ rfl
        have x12 := blk_cell HT9.out.b1 2 _ rfl
        have x20 := blk_cell HT9.out.b2 0 _ rfl
        have x21 := blk_cell HT9.out.b2 1 _ rfl
        have x22 := blk_cell HT9.out.b2 2 _ rfl
        have x30 := blk_cell HT9.out.b3 0 _ rfl
        have x31 := blk_cell HT9.out.b3 1 _ rfl
        have x32 := blk_cell HT9.out.b3 2 _ rfl
        go_wp2_with fail
        refine (eless_any k1 m1 k3 m3 (H1.out.below HT9.out.bel) (H3.out.below HT9.out.bel)).mono ?_
        rw [HAC.out]
        rintro e w10 ⟨rfl, hb⟩
        have HT10 := Lib.hid (three_below HT9.out hb)
        clear hb
        clear x10 x11 x12 x20 x21 x22 x30 x31 x32
        by_cases ca : chk k1 m1 l1.length = 0
        · obtain ⟨z1, hz1, _, _⟩ := effB_ok k1 m1 l1 ca
          have Z1 := Lib.hid hz1
          clear hz1
          by_cases cb : chk k2 m2 l2.length = 0
          · obtain ⟨z2, hz2, _, _⟩ := effB_ok k2 m2 l2 cb
            have Z2 := Lib.hid hz2
            clear hz2
            have hinj := effB_inj k1 m1 l1 k2 m2 l2 ca cb
            rw [HSV.out, Z1.out, Z2.out] at hinj
            have HI := Lib.hid hinj
            clear hinj ca cb
            have x10 := blk_cell HT10.out.b1 0 _ rfl
            have x11 := blk_cell HT10.out.b1 1 _ rfl
            have x12 := blk_cell HT10.out.b1 2 _ rfl
            have x20 := blk_cell HT10.out.b2 0 _ rfl
            have x21 := blk_cell HT10.out.b2 1 _ rfl
            have x22 := blk_cell HT10.out.b2 2 _ rfl
            have x30 := blk_cell HT10.out.b3 0 _ rfl
            have x31 := blk_cell HT10.out.b3 1 _ rfl
            have x32 := blk_cell HT10.out.b3 2 _ rfl
            go_wp2_with fail
            refine (ebytes_any k1 m1 HB.out.1.1 HB.out.1.2 (H1.out.below HT10.out.bel) (by omega)).mono ?_
            rw [Z1.out]
            rintro e w11 ⟨D1, d1, f1, he, hh, hb⟩
            cases he
            have HT11 := Lib.hid (three_below HT10.out hb); have HD1 := Lib.hid (held_rd hh)
            clear hb hh
            clear x10 x11 x12 x20 x21 x22 x30 x31 x32
            have x10 := blk_cell HT11.out.b1 0 _ rfl
            have x11 := blk_cell HT11.out.b1 1 _ rfl
            have x12 := blk_cell HT11.out.b1 2 _ rfl
            have x20 := blk_cell HT11.out.b2 0 _ rfl
            have x21 := blk_cell HT11.out.b2 1 _ rfl
            have x22 := blk_cell HT11.out.b2 2 _ rfl
            have x30 := blk_cell HT11.out.b3 0 _ rfl
            have x31 := blk_cell HT11.out.b3 1 _ rfl
            have x32 := blk_cell HT11.out.b3 2 _ rfl
            go_wp2_with fail
            refine (ebytes_any k2 m2 HB.out.2.1 HB.out.2.2 (H2.out.below HT11.out.bel) (by omega)).mono ?_
            rw [Z2.out]
            rintro e w12 ⟨D2, d2, f2, he, hh, hb⟩
            cases he
            have HT12 := Lib.hid (three_below HT11.out hb); have HD1 := Lib.hid (HD1.out.below hb); have HD2 := Lib.hid (held_rd hh)
            clear hb hh
            clear x10 x11 x12 x20 x21 x22 x30 x31 x32
            go_wp2_with fail
            refine (same_any _ _ _ _ _ _ z1 z2 _ (by simpa using HD1.out) (by simpa using HD2.out)).mono ?_
            rw [HI.out]
            rintro e wx ⟨rfl, rfl⟩
            go_wp2
            go_ret
            exact ⟨rfl, HT12.out.bel⟩
          · have Z2 := Lib.hid (effB_bad k2 m2 l2 cb).1
            clear ca cb
            have x10 := blk_cell HT10.out.b1 0 _ rfl
            have x11 := blk_cell HT10.out.b1 1 _ rfl
            have x12 := blk_cell HT10.out.b1 2 _ rfl
            have x20 := blk_cell HT10.out.b2 0 _ rfl
            have x21 := blk_cell HT10.out.b2 1 _ rfl
            have x22 := blk_cell HT10.out.b2 2 _ rfl
            have x30 := blk_cell HT10.out.b3 0 _ rfl
            have x31 := blk_cell HT10.out.b3 1 _ rfl
            have x32 := blk_cell HT10.out.b3 2 _ rfl
            go_wp2_with fail
            refine (ebytes_any k1 m1 HB.out.1.1 HB.out.1.2 (H1.out.below HT10.out.bel) (by omega)).mono ?_
            rw [Z1.out]
            rintro e w11 ⟨D1, d1, f1, he, hh, hb⟩
            cases he
            have HT11 := Lib.hid (three_below HT10.out hb); have HD1 := Lib.hid (held_rd hh)
            clear hb hh
            clear x10 x11 x12 x20 x21 x22 x30 x31 x32
            have x10 := blk_cell HT11.out.b1 0 _ rfl
            have x11 := blk_cell HT11.out.b1 1 _ rfl
            have x12 := blk_cell HT11.out.b1 2 _ rfl
            have x20 := blk_cell HT11.out.b2 0 _ rfl
            have x21 := blk_cell HT11.out.b2 1 _ rfl
            have x22 := blk_cell HT11.out.b2 2 _ rfl
            have x30 := blk_cell HT11.out.b3 0 _ rfl
            have x31 := blk_cell HT11.out.b3 1 _ rfl
            have x32 := blk_cell HT11.out.b3 2 _ rfl
            go_wp2_with fail
            refine (ebytes_any k2 m2 HB.out.2.1 HB.out.2.2 (H2.out.below HT11.out.bel) (by omega)).mono ?_
            rw [Z2.out]
            rintro e w12 ⟨D2, d2, f2, he, hh, hb⟩
            cases he
            have HT12 := Lib.hid (three_below HT11.out hb); have HD2 := Lib.hid (held_rd hh)
            clear hb hh
            clear x10 x11 x12 x20 x21 x22 x30 x31 x32
            go_wp2
            go_ret
            exact ⟨rfl, HT12.out.bel⟩
        · have Z1 := Lib.hid (effB_bad k1 m1 l1 ca).1
          clear ca
          obtain ⟨z2, hz2⟩ : ∃ z, z = effB k2 m2 l2 := ⟨_, rfl⟩
          have Z2 := Lib.hid hz2.symm
          clear hz2
          have x10 := blk_cell HT10.out.b1 0 _ rfl
          have x11 := blk_cell HT10.out.b1 1 _ rfl
          have x12 := blk_cell HT10.out.b1 2 _ rfl
          have x20 := blk_cell HT10.out.b2 0 _ rfl
          have x21 := blk_cell HT10.out.b2 1 _ rfl
          have x22 := blk_cell HT10.out.b2 2 _ rfl
          have x30 := blk_cell HT10.out.b3 0 _ rfl
          have x31 := blk_cell HT10.out.b3 1 _ rfl
          have x32 := blk_cell HT10.out.b3 2 _ rfl
          go_wp2_with fail
          refine (ebytes_any k1 m1 HB.out.1.1 HB.out.1.2 (H1.out.below HT10.out.bel) (by omega)).mono ?_
          rw [Z1.out]
          rintro e w11 ⟨D1, d1, f1, he, hh, hb⟩
          cases he
          have HT11 := Lib.hid (three_below HT10.out hb); have HD1 := Lib.hid (held_rd hh)
          clear hb hh
          clear x10 x11 x12 x20 x21 x22 x30 x31 x32
          have x10 := blk_cell HT11.out.b1 0 _ rfl
          have x11 := blk_cell HT11.out.b1 1 _ rfl
          have x12 := blk_cell HT11.out.b1 2 _ rfl
          have x20 := blk_cell HT11.out.b2 0 _ rfl
          have x21 := blk_cell HT11.out.b2 1 _ rfl
          have x22 := blk_cell HT11.out.b2 2 _ rfl
          have x30 := blk_cell HT11.out.b3 0 _ rfl
          have x31 := blk_cell HT11.out.b3 1 _ rfl
          have x32 := blk_cell HT11.out.b3 2 _ rfl
          go_wp2_with fail
          refine (ebytes_any k2 m2 HB.out.2.1 HB.out.2.2 (H2.out.below HT11.out.bel) (by omega)).mono ?_
          rw [Z2.out]
          rintro e w12 ⟨D2, d2, f2, he, hh, hb⟩
          cases he
          have HT12 := Lib.hid (three_below HT11.out hb); have HD2 := Lib.hid (held_rd hh)
          clear hb hh
          clear x10 x11 x12 x20 x21 x22 x30 x31 x32
          go_wp2
          go_ret
          exact ⟨rfl, HT12.out.bel⟩
    · subst hx
      subst hy; subst hs; subst hs'
      have HSV := Lib.hid HS.out.symm
      have x10 := blk_cell HT5.out.b1 0 _ rfl
      have x11 := blk_cell HT5.out.b1 1 _ rfl
      have x12 := blk_cell HT5.out.b1 2 _ rfl
      have x20 := blk_cell HT5.out.b2 0 _ rfl
      have x21 := blk_cell HT5.out.b2 1 _ rfl
      have x22 := blk_cell HT5.out.b2 2 _ rfl
      have x30 := blk_cell HT5.out.b3 0 _ rfl
      have x31 := blk_cell HT5.out.b3 1 _ rfl
      have x32 := blk_cell HT5.out.b3 2 _ rfl
      go_wp2_with fail
      refine (esam_any k2 m2 k1 m1 (H2.out.below HT5.out.bel) (H1.out.below HT5.out.bel)).mono ?_
      rw [← HS2.out]
      rintro e w6 ⟨rfl, hb⟩
      have HT6 := Lib.hid (three_below HT5.out hb)
      clear hb
      clear x10 x11 x12 x20 x21 x22 x30 x31 x32
      have x10 := blk_cell HT6.out.b1 0 _ rfl
      have x11 := blk_cell HT6.out.b1 1 _ rfl
      have x12 := blk_cell HT6.out.b1 2 _ rfl
      have x20 := blk_cell HT6.out.b2 0 _ rfl
      have x21 := blk_cell HT6.out.b2 1 _ rfl
      have x22 := blk_cell HT6.out.b2 2 _ rfl
      have x30 := blk_cell HT6.out.b3 0 _ rfl
      have x31 := blk_cell HT6.out.b3 1 _ rfl
      have x32 := blk_cell HT6.out.b3 2 _ rfl
      go_wp2_with fail
      refine (esam_any k1 m1 k1 m1 (H1.out.below HT6.out.bel) (H1.out.below HT6.out.bel)).mono ?_
      rw [(less_irr k1 m1 l1).2]
      rintro e w7 ⟨rfl, hb⟩
      have HT7 := Lib.hid (three_below HT6.out hb)
      clear hb
      clear x10 x11 x12 x20 x21 x22 x30 x31 x32
      have x10 := blk_cell HT7.out.b1 0 _ rfl
      have x11 := blk_cell HT7.out.b1 1 _ rfl
      have x12 := blk_cell HT7.out.b1 2 _ rfl
      have x20 := blk_cell HT7.out.b2 0 _ rfl
      have x21 := blk_cell HT7.out.b2 1 _ rfl
      have x22 := blk_cell HT7.out.b2 2 _ rfl
      have x30 := blk_cell HT7.out.b3 0 _ rfl
      have x31 := blk_cell HT7.out.b3 1 _ rfl
      have x32 := blk_cell HT7.out.b3 2 _ rfl
      go_wp2_with fail
      refine (eless_any k1 m1 k1 m1 (H1.out.below HT7.out.bel) (H1.out.below HT7.out.bel)).mono ?_
      rw [(less_irr k1 m1 l1).1]
      rintro e w8 ⟨rfl, hb⟩
      have HT8 := Lib.hid (three_below HT7.out hb)
      clear hb
      clear x10 x11 x12 x20 x21 x22 x30 x31 x32
      by_cases ca : chk k1 m1 l1.length = 0
      · obtain ⟨z1, hz1, _, _⟩ := effB_ok k1 m1 l1 ca
        have Z1 := Lib.hid hz1
        clear hz1
        by_cases cb : chk k2 m2 l2.length = 0
        · obtain ⟨z2, hz2, _, _⟩ := effB_ok k2 m2 l2 cb
          have Z2 := Lib.hid hz2
          clear hz2
          have hinj := effB_inj k1 m1 l1 k2 m2 l2 ca cb
          rw [HSV.out, Z1.out, Z2.out] at hinj
          have HI := Lib.hid hinj
          clear hinj ca cb
          have x10 := blk_cell HT8.out.b1 0 _ rfl
          have x11 := blk_cell HT8.out.b1 1 _ rfl
          have x12 := blk_cell HT8.out.b1 2 _ rfl
          have x20 := blk_cell HT8.out.b2 0 _ rfl
          have x21 := blk_cell HT8.out.b2 1 _ rfl
          have x22 := blk_cell HT8.out.b2 2 _ rfl
          have x30 := blk_cell HT8.out.b3 0 _ rfl
          have x31 := blk_cell HT8.out.b3 1 _ rfl
          have x32 := blk_cell HT8.out.b3 2 _ rfl
          go_wp2_with fail
          refine (ebytes_any k1 m1 HB.out.1.1 HB.out.1.2 (H1.out.below HT8.out.bel) (by omega)).mono ?_
          rw [Z1.out]
          rintro e w9 ⟨D1, d1, f1, he, hh, hb⟩
          cases he
          have HT9 := Lib.hid (three_below HT8.out hb); have HD1 := Lib.hid (held_rd hh)
          clear hb hh
          clear x10 x11 x12 x20 x21 x22 x30 x31 x32
          have x10 := blk_cell HT9.out.b1 0 _ rfl
          have x11 := blk_cell HT9.out.b1 1 _ rfl
          have x12 := blk_cell HT9.out.b1 2 _ rfl
          have x20 := blk_cell HT9.out.b2 0 _ rfl
          have x21 := blk_cell HT9.out.b2 1 _ rfl
          have x22 := blk_cell HT9.out.b2 2 _ rfl
          have x30 := blk_cell HT9.out.b3 0 _ rfl
          have x31 := blk_cell HT9.out.b3 1 _ rfl
          have x32 := blk_cell HT9.out.b3 2 _ rfl
          go_wp2_with fail
          refine (ebytes_any k2 m2 HB.out.2.1 HB.out.2.2 (H2.out.below HT9.out.bel) (by omega)).mono ?_
          rw [Z2.out]
          rintro e w10 ⟨D2, d2, f2, he, hh, hb⟩
          cases he
          have HT10 := Lib.hid (three_below HT9.out hb); have HD1 := Lib.hid (HD1.out.below hb); have HD2 := Lib.hid (held_rd hh)
          clear hb hh
          clear x10 x11 x12 x20 x21 x22 x30 x31 x32
          go_wp2_with fail
          refine (same_any _ _ _ _ _ _ z1 z2 _ (by simpa using HD1.out) (by simpa using HD2.out)).mono ?_
          rw [HI.out]
          rintro e wx ⟨rfl, rfl⟩
          go_wp2
          go_ret
          exact ⟨rfl, HT10.out.bel⟩
        · have Z2 := Lib.hid (effB_bad k2 m2 l2 cb).1
          clear ca cb
          have x10 := blk_cell HT8.out.b1 0 _ rfl
          have x11 := blk_cell HT8.out.b1 1 _ rfl
          have x12 := blk_cell HT8.out.b1 2 _ rfl
          have x20 := blk_cell HT8.out.b2 0 _ rfl
          have x21 := blk_cell HT8.out.b2 1 _ rfl
          have x22 := blk_cell HT8.out.b2 2 _ rfl
          have x30 := blk_cell HT8.out.b3 0 _ rfl
          have x31 := blk_cell HT8.out.b3 1 _ rfl
          have x32 := blk_cell HT8.out.b3 2 _ rfl
          go_wp2_with fail
          refine (ebytes_any k1 m1 HB.out.1.1 HB.out.1.2 (H1.out.below HT8.out.bel) (by omega)).mono ?_
          rw [Z1.out]
          rintro e w9 ⟨D1, d1, f1, he, hh, hb⟩
          cases he
          have HT9 := Lib.hid (three_below HT8.out hb); have HD1 := Lib.hid (held_rd hh)
          clear hb hh
          clear x10 x11 x12 x20 x21 x22 x30 x31 x32
          have x10 := blk_cell HT9.out.b1 0 _ rfl
          have x11 := blk_cell HT9.out.b1 1 _ rfl
          have x12 := blk_cell HT9.out.b1 2 _ rfl
          have x20 := blk_cell HT9.out.b2 0 _ rfl
          have x21 := blk_cell HT9.out.b2 1 _ rfl
          have x22 := blk_cell HT9.out.b2 2 _ rfl
          have x30 := blk_cell HT9.out.b3 0 _ rfl
          have x31 := blk_cell HT9.out.b3 1 _ rfl
          have x32 := blk_cell HT9.out.b3 2 _ rfl
          go_wp2_with fail
          refine (ebytes_any k2 m2 HB.out.2.1 HB.out.2.2 (H2.out.below HT9.out.bel) (by omega)).mono ?_
          rw [Z2.out]
          rintro e w10 ⟨D2, d2, f2, he, hh, hb⟩
          cases he
          have HT10 := Lib.hid (three_below HT9.out hb); have HD2 := Lib.hid (held_rd hh)
          clear hb hh
          clear x10 x11 x12 x20 x21 x22 x30 x31 x32
          go_wp2
          go_ret
          exact ⟨rfl, HT10.out.bel⟩
      · have Z1 := Lib.hid (effB_bad k1 m1 l1 ca).1
        clear ca
        obtain ⟨z2, hz2⟩ : ∃ z, z = effB k2 m2 l2 := ⟨_, rfl⟩
        have Z2 := Lib.hid hz2.symm
        clear hz2
        have x10 := blk_cell HT8.out.b1 0 _ rfl
        have x11 := blk_cell HT8.out.b1 1 _ rfl
        have x12 := blk_cell HT8.out.b1 2 _ rfl
        have x20 := blk_cell HT8.out.b2 0 _ rfl
        have x21 := blk_cell HT8.out.b2 1 _ rfl
        have x22 := blk_cell HT8.out.b2 2 _ rfl
        have x30 := blk_cell HT8.out.b3 0 _ rfl
        have x31 := blk_cell HT8.out.b3 1 _ rfl
        have x32 := blk_cell HT8.out.b3 2 _ rfl
        go_wp2_with fail
        refine (ebytes_any k1 m1 HB.out.1.1 HB.out.1.2 (H1.out.below HT8.out.bel) (by omega)).mono ?_
        rw [Z1.out]
        rintro e w9 ⟨D1, d1, f1, he, hh, hb⟩
        cases he
        have HT9 := Lib.hid (three_below HT8.out hb); have HD1 := Lib.hid (held_rd hh)
        clear hb hh
        clear x10 x11 x12 x20 x21 x22 x30 x31 x32
        have x10 := blk_cell HT9.out.b1 0 _ rfl
        have x11 := blk_cell HT9.out.b1 1 _ rfl
        have x12 := blk_cell HT9.out.b1 2 _ rfl
        have x20 := blk_cell HT9.out.b2 0 _ rfl
        have x21 := blk_cell HT9.out.b2 1 _ rfl
        have x22 := blk_cell HT9.out.b2 2 _ rfl
        have x30 := blk_cell HT9.out.b3 0 _ rfl
        have x31 := blk_cell HT9.out.b3 1 _ rfl
        have x32 := blk_cell HT9.out.b3 2 _ rfl
        go_wp2_with fail
        refine (ebytes_any k2 m2 HB.out.2.1 HB.out.2.2 (H2.out.below HT9.out.bel) (by omega)).mono ?_
        rw [Z2.out]
        rintro e w10 ⟨D2, d2, f2, he, hh, hb⟩
        cases he
        have HT10 := Lib.hid (three_below HT9.out hb); have HD2 := Lib.hid (held_rd hh)
        clear hb hh
        clear x10 x11 x12 x20 x21 x22 x30 x31 x32
        go_wp2
        go_ret
        exact ⟨rfl, HT10.out.bel⟩
    · subst hx
      subst hy; subst hs; subst hs'
      have HSV := Lib.hid HS.out.symm
      have x10 := blk_cell HT5.out.b1 0 _ rfl
      have x11 := blk_cell HT5.out.b1 1 _ rfl
      have x12 := blk_cell HT5.out.b1 2 _ rfl
      have x20 := blk_cell HT5.out.b2 0 _ rfl
      have x21 := blk_cell HT5.out.b2 1 _ rfl
      have x22 := blk_cell HT5.out.b2 2 _ rfl
      have x30 := blk_cell HT5.out.b3 0 _ rfl
      have x31 := blk_cell HT5.out.b3 1 _ rfl
      have x32 := blk_cell HT5.out.b3 2 _ rfl
      go_wp2_with fail
      refine (esam_any k2 m2 k1 m1 (H2.out.below HT5.out.bel) (H1.out.below HT5.out.bel)).mono ?_
      rw [← HS2.out]
      rintro e w6 ⟨rfl, hb⟩
      have HT6 := Lib.hid (three_below HT5.out hb)
      clear hb
      clear x10 x11 x12 x20 x21 x22 x30 x31 x32
      have x10 := blk_cell HT6.out.b1 0 _ rfl
      have x11 := blk_cell HT6.out.b1 1 _ rfl
      have x12 := blk_cell HT6.out.b1 2 _ rfl
      have x20 := blk_cell HT6.out.b2 0 _ rfl
      have x21 := blk_cell HT6.out.b2 1 _ rfl
      have x22 := blk_cell HT6.out.b2 2 _ rfl
      have x30 := blk_cell HT6.out.b3 0 _ rfl
      have x31 := blk_cell HT6.out.b3 1 _ rfl
      have x32 := blk_cell HT6.out.b3 2 _ rfl
      go_wp2_with fail
      refine (esam_any k1 m1 k1 m1 (H1.out.below HT6.out.bel) (H1.out.below HT6.out.bel)).mono ?_
      rw [(less_irr k1 m1 l1).2]
      rintro e w7 ⟨rfl, hb⟩
      have HT7 := Lib.hid (three_below HT6.out hb)
      clear hb
      clear x10 x11 x12 x20 x21 x22 x30 x31 x32
      have x10 := blk_cell HT7.out.b1 0 _ rfl
      have x11 := blk_cell HT7.out.b1 1 _ rfl
      have x12 := blk_cell HT7.out.b1 2 _ rfl
      have x20 := blk_cell HT7.out.b2 0 _ rfl
      have x21 := blk_cell HT7.out.b2 1 _ rfl
      have x22 := blk_cell HT7.out.b2 2 _ rfl
      have x30 := blk_cell HT7.out.b3 0 _ rfl
      have x31 := blk_cell HT7.out.b3 1 _ rfl
      have x32 := blk_cell HT7.out.b3 2 _ rfl
      go_wp2_with fail
      refine (eless_any k1 m1 k1 m1 (H1.out.below HT7.out.bel) (H1.out.below HT7.out.bel)).mono ?_
      rw [(less_irr k1 m1 l1).1]
      rintro e w8 ⟨rfl, hb⟩
      have HT8 := Lib.hid (three_below HT7.out hb)
      clear hb
      clear x10 x11 x12 x20 x21 x22 x30 x31 x32
      by_cases ca : chk k1 m1 l1.length = 0
      · obtain ⟨z1, hz1, _, _⟩ := effB_ok k1 m1 l1 ca
        have Z1 := Lib.hid hz1
        clear hz1
        by_cases cb : chk k2 m2 l2.length = 0
        · obtain ⟨z2, hz2, _, _⟩ := effB_ok k2 m2 l2 cb
          have Z2 := Lib.hid hz2
          clear hz2
          have hinj := effB_inj k1 m1 l1 k2 m2 l2 ca cb
          rw [HSV.out, Z1.out, Z2.out] at hinj
          have HI := Lib.hid hinj
          clear hinj ca cb
          have x10 := blk_cell HT8.out.b1 0 _ rfl
          have x11 := blk_cell HT8.out.b1 1 _ rfl
          have x12 := blk_cell HT8.out.b1 2 _ rfl
          have x20 := blk_cell HT8.out.b2 0 _ rfl
          have x21 := blk_cell HT8.out.b2 1 _ rfl
          have x22 := blk_cell HT8.out.b2 2 _ rfl
          have x30 := blk_cell HT8.out.b3 0 _ rfl
          have x31 := blk_cell HT8.out.b3 1 _ rfl
          have x32 := blk_cell HT8.out.b3 2 _ rfl
          go_wp2_with fail
          refine (ebytes_any k1 m1 HB.out.1.1 HB.out.1.2 (H1.out.below HT8.out.bel) (by omega)).mono ?_
          rw [Z1.out]
          rintro e w9 ⟨D1, d1, f1, he, hh, hb⟩
          cases he
          have HT9 := Lib.hid (three_below HT8.out hb); have HD1 := Lib.hid (held_rd hh)
          clear hb hh
          clear x10 x11 x12 x20 x21 x22 x30 x31 x32
          have x10 := blk_cell HT9.out.b1 0 _ rfl
          have x11 := blk_cell HT9.out.b1 1 _ rfl
          have x12 := blk_cell HT9.out.b1 2 _ rfl
          have x20 := blk_cell HT9.out.b2 0 _ rfl
          have x21 := blk_cell HT9.out.b2 1 _ rfl
          have x22 := blk_cell HT9.out.b2 2 _ rfl
          have x30 := blk_cell HT9.out.b3 0 _ rfl
          have x31 := blk_cell HT9.out.b3 1 _ rfl
          have x32 := blk_cell HT9.out.b3 2 _ rfl
          go_wp2_with fail
          refine (ebytes_any k2 m2 HB.out.2.1 HB.out.2.2 (H2.out.below HT9.out.bel) (by omega)).mono ?_
          rw [Z2.out]
          rintro e w10 ⟨D2, d2, f2, he, hh, hb⟩
          cases he
          have HT10 := Lib.hid (three_below HT9.out hb); have HD1 := Lib.hid (HD1.out.below hb); have HD2 := Lib.hid (held_rd hh)
          clear hb hh
          clear x10 x11 x12 x20 x21 x22 x30 x31 x32
          go_wp2_with fail
          refine (same_any _ _ _ _ _ _ z1 z2 _ (by simpa using HD1.out) (by simpa using HD2.out)).mono ?_
          rw [HI.out]
          rintro e wx ⟨rfl, rfl⟩
          go_wp2
          go_ret
          exact ⟨rfl, HT10.out.bel⟩
        · have Z2 := Lib.hid (effB_bad k2 m2 l2 cb).1
          clear ca cb
          have x10 := blk_cell HT8.out.b1 0 _ rfl
          have x11 := blk_cell HT8.out.b1 1 _ rfl
          have x12 := blk_cell HT8.out.b1 2 _ rfl
          have x20 := blk_cell HT8.out.b2 0 _ rfl
          have x21 := blk_cell HT8.out.b2 1 _ rfl
          have x22 := blk_cell HT8.out.b2 2 _ rfl
          have x30 := blk_cell HT8.out.b3 0 _ rfl
          have x31 := blk_cell HT8.out.b3 1 _ rfl
          have x32 := blk_cell HT8.out.b3 2 _ rfl
          go_wp2_with fail
          refine (ebytes_any k1 m1 HB.out.1.1 HB.out.1.2 (H1.out.below HT8.out.bel) (by omega)).mono ?_
          rw [Z1.out]
          rintro e w9 ⟨D1, d1, f1, he, hh, hb⟩
          cases he
          have HT9 := Lib.hid (three_below HT8.out hb); have HD1 := Lib.hid (held_rd hh)
          clear hb hh
          clear x10 x11 x12 x20 x21 x22 x30 x31 x32
          have x10 := blk_cell HT9.out.b1 0 _ rfl
          have x11 := blk_cell HT9.out.b1 1 _ rfl
          have x12 := blk_cell HT9.out.b1 2 _ rfl
          have x20 := blk_cell HT9.out.b2 0 _ rfl
          have x21 := blk_cell HT9.out.b2 1 _ rfl
          have x22 := blk_cell HT9.out.b2 2 _ rfl
          have x30 := blk_cell HT9.out.b3 0 _ rfl
          have x31 := blk_cell HT9.out.b3 1 _ rfl
          have x32 := blk_cell HT9.out.b3 2 _ rfl
          go_wp2_with fail
          refine (ebytes_any k2 m2 HB.out.2.1 HB.out.2.2 (H2.out.below HT9.out.bel) (by omega)).mono ?_
          rw [Z2.out]
          rintro e w10 ⟨D2, d2, f2, he, hh, hb⟩
          cases he
          have HT10 := Lib.hid (three_below HT9.out hb); have HD2 := Lib.hid (held_rd hh)
          clear hb hh
          clear x10 x11 x12 x20 x21 x22 x30 x31 x32
          go_wp2
          go_ret
          exact ⟨rfl, HT10.out.bel⟩
      · have Z1 := Lib.hid (effB_bad k1 m1 l1 ca).1
        clear ca
        obtain ⟨z2, hz2⟩ : ∃ z, z = effB k2 m2 l2 := ⟨_, rfl⟩
        have Z2 := Lib.hid hz2.symm
        clear hz2
        have x10 := blk_cell HT8.out.b1 0 _ rfl
        have x11 := blk_cell HT8.out.b1 1 _ rfl
        have x12 := blk_cell HT8.out.b1 2 _ rfl
        have x20 := blk_cell HT8.out.b2 0 _ rfl
        have x21 := blk_cell HT8.out.b2 1 _ rfl
        have x22 := blk_cell HT8.out.b2 2 _ rfl
        have x30 := blk_cell HT8.out.b3 0 _ rfl
        have x31 := blk_cell HT8.out.b3 1 _ rfl
        have x32 := blk_cell HT8.out.b3 2 _ rfl
        go_wp2_with fail
        refine (ebytes_any k1 m1 HB.out.1.1 HB.out.1.2 (H1.out.below HT8.out.bel) (by omega)).mono ?_
        rw [Z1.out]
        rintro e w9 ⟨D1, d1, f1, he, hh, hb⟩
        cases he
        have HT9 := Lib.hid (three_below HT8.out hb); have HD1 := Lib.hid (held_rd hh)
        clear hb hh
        clear x10 x11 x12 x20 x21 x22 x30 x31 x32
        have x10 := blk_cell HT9.out.b1 0 _ rfl
        have x11 := blk_cell HT9.out.b1 1 _ rfl
        have x12 := blk_cell HT9.out.b1 2 _ rfl
        have x20 := blk_cell HT9.out.b2 0 _ rfl
        have x21 := blk_cell HT9.out.b2 1 _ rfl
        have x22 := blk_cell HT9.out.b2 2 _ rfl
        have x30 := blk_cell HT9.out.b3 0 _ rfl
        have x31 := blk_cell HT9.out.b3 1 _ rfl
        have x32 := blk_cell HT9.out.b3 2 _ rfl
        go_wp2_with fail
        refine (ebytes_any k2 m2 HB.out.2.1 HB.out.2.2 (H2.out.below HT9.out.bel) (by omega)).mono ?_
        rw [Z2.out]
        rintro e w10 ⟨D2, d2, f2, he, hh, hb⟩
        cases he
        have HT10 := Lib.hid (three_below HT9.out hb); have HD2 := Lib.hid (held_rd hh)
        clear hb hh
        clear x10 x11 x12 x20 x21 x22 x30 x31 x32
        go_wp2
        go_ret
        exact ⟨rfl, HT10.out.bel⟩
end Go.Proofs.Ytondodhpmghogaa
