/- Walk: what effects are told as (EffectTells). Conditions: the arguments are as they come in. -/
import Derived.Test.YtondodhpmghogaaEd
namespace Go.Proofs.Ytondodhpmghogaa
open Go.RowKit
set_option linter.unusedVariables false
set_option linter.unusedSimpArgs false

theorem keep12 {w w1 : World} (hb : Below w.heap.size w w1) {pa pb pc pd pe pf pg ph pi pj pk pl : Addr} {va vb vc vd ve vf vg vh vi vj vk vl : Value} (h : w.cell? pa = some va ∧ w.cell? pb = some vb ∧ w.cell? pc = some vc ∧ w.cell? pd = some vd ∧ w.cell? pe = some ve ∧ w.cell? pf = some vf ∧ w.cell? pg = some vg ∧ w.cell? ph = some vh ∧ w.cell? pi = some vi ∧ w.cell? pj = some vj ∧ w.cell? pk = some vk ∧ w.cell? pl = some vl) :
    w1.cell? pa = some va ∧ w1.cell? pb = some vb ∧ w1.cell? pc = some vc ∧ w1.cell? pd = some vd ∧ w1.cell? pe = some ve ∧ w1.cell? pf = some vf ∧ w1.cell? pg = some vg ∧ w1.cell? ph = some vh ∧ w1.cell? pi = some vi ∧ w1.cell? pj = some vj ∧ w1.cell? pk = some vk ∧ w1.cell? pl = some vl :=
  ⟨below_cell hb h.1, below_cell hb h.2.1, below_cell hb h.2.2.1, below_cell hb h.2.2.2.1, below_cell hb h.2.2.2.2.1, below_cell hb h.2.2.2.2.2.1, below_cell hb h.2.2.2.2.2.2.1, below_cell hb h.2.2.2.2.2.2.2.1, below_cell hb h.2.2.2.2.2.2.2.2.1, below_cell hb h.2.2.2.2.2.2.2.2.2.1, below_cell hb h.2.2.2.2.2.2.2.2.2.2.1, below_cell hb h.2.2.2.2.2.2.2.2.2.2.2⟩
/-- four effects in boxes -/
structure T4 (w W : World) (B P Q t : Nat) (a b c d : Array Value) : Prop where
  b1 : Blk W B t a
  b2 : Blk W (B + 1) t b
  p : Blk W P t c
  q : Blk W Q t d
  bel : Below w.heap.size w W
theorem t4_below {w W W' : World} {B P Q t : Nat} {a b c d : Array Value} (h : T4 w W B P Q t a b c d) (hb : Below W.heap.size W W') : T4 w W' B P Q t a b c d := ⟨blk_below h.b1 hb, blk_below h.b2 hb, blk_below h.p hb, blk_below h.q hb, h.bel.trans (hb.mono h.bel.size)⟩
set_option maxRecDepth 100000 in
set_option maxHeartbeats 16000000 in
/-- from where both are copied -/
theorem etells_law (k1 m1 : Int) (A1 : Option Addr) (n1 c1 : Nat) (l1 : List UInt8) (k2 m2 : Int) (A2 : Option Addr) (n2 c2 : Nat) (l2 : List UInt8) (w : World)
    (h1 : Rd w A1 n1 c1 1 (u8s l1) ∧ k1 ≤ 9223372036854775807 ∧ m1 ≤ 9223372036854775807) (h2 : Rd w A2 n2 c2 1 (u8s l2) ∧ k2 ≤ 9223372036854775807 ∧ m2 ≤ 9223372036854775807) :
    Calls Try.prog 9 #[.agg #[.int .i64 k1, .int .i64 m1, .slice A1 n1 c1], .agg #[.int .i64 k2, .int .i64 m2, .slice A2 n2 c2]] w fun e w' => e = .returned (.bool true) ∧ Below w.heap.size w w' := by
  obtain ⟨r1, hk1, hm1⟩ := h1
  obtain ⟨r2, hk2, hm2⟩ := h2
  have e1 : l1.length = n1 := by have := r1.len; simpa using this
  have e2 : l2.length = n2 := by have := r2.len; simpa using this
  have H1 := Lib.hid r1; have H2 := Lib.hid r2; have E1 := Lib.hid e1; have E2 := Lib.hid e2
  have HK := Lib.hid (And.intro hk1 hm1)
  obtain ⟨B, hB⟩ : ∃ z, z = w.heap.size := ⟨_, rfl⟩
  have HBW := Lib.hid hB
  obtain ⟨V, hV⟩ : ∃ z, z = (w.alloc (.cells #[.int .i64 k1, .int .i64 m1, .slice A1 n1 c1] 72)).alloc (.cells #[.int .i64 k2, .int .i64 m2, .slice A2 n2 c2] 72) := ⟨_, rfl⟩
  obtain ⟨b1, b2, b3⟩ := two_new w #[.int .i64 k1, .int .i64 m1, .slice A1 n1 c1] 72 #[.int .i64 k2, .int .i64 m2, .slice A2 n2 c2] 72
  rw [← hV, ← hB] at b1 b2
  rw [← hV] at b3
  have HA0 := Lib.hid b1; have HC0 := Lib.hid b2; have HB0 := Lib.hid b3
  clear r1 r2 e1 e2 hk1 hk2 hm1 hm2 b1 b2 b3
  by_cases g1 : 1200 < n1
  · have G1 := Lib.hid (decide_eq_true g1)
    clear g1
    go_enter Try.func9, Try.ntmps9
    have x10 : ((w.alloc (.cells #[.int .i64 k1, .int .i64 m1, .slice A1 n1 c1] 72)).alloc (.cells #[.int .i64 k2, .int .i64 m2, .slice A2 n2 c2] 72)).cell? ⟨w.heap.size, 0, none⟩ = some (.int .i64 k1) := by rw [← hV, ← hB]; exact blk_cell HA0.out 0 _ rfl
    have x11 : ((w.alloc (.cells #[.int .i64 k1, .int .i64 m1, .slice A1 n1 c1] 72)).alloc (.cells #[.int .i64 k2, .int .i64 m2, .slice A2 n2 c2] 72)).cell? ⟨w.heap.size, 1, none⟩ = some (.int .i64 m1) := by rw [← hV, ← hB]; exact blk_cell HA0.out 1 _ rfl
    have x12 : ((w.alloc (.cells #[.int .i64 k1, .int .i64 m1, .slice A1 n1 c1] 72)).alloc (.cells #[.int .i64 k2, .int .i64 m2, .slice A2 n2 c2] 72)).cell? ⟨w.heap.size, 2, none⟩ = some (.slice A1 n1 c1) := by rw [← hV, ← hB]; exact blk_cell HA0.out 2 _ rfl
    have x20 : ((w.alloc (.cells #[.int .i64 k1, .int .i64 m1, .slice A1 n1 c1] 72)).alloc (.cells #[.int .i64 k2, .int .i64 m2, .slice A2 n2 c2] 72)).cell? ⟨w.heap.size + 1, 0, none⟩ = some (.int .i64 k2) := by rw [← hV, ← hB]; exact blk_cell HC0.out 0 _ rfl
    have x21 : ((w.alloc (.cells #[.int .i64 k1, .int .i64 m1, .slice A1 n1 c1] 72)).alloc (.cells #[.int .i64 k2, .int .i64 m2, .slice A2 n2 c2] 72)).cell? ⟨w.heap.size + 1, 1, none⟩ = some (.int .i64 m2) := by rw [← hV, ← hB]; exact blk_cell HC0.out 1 _ rfl
    have x22 : ((w.alloc (.cells #[.int .i64 k1, .int .i64 m1, .slice A1 n1 c1] 72)).alloc (.cells #[.int .i64 k2, .int .i64 m2, .slice A2 n2 c2] 72)).cell? ⟨w.heap.size + 1, 2, none⟩ = some (.slice A2 n2 c2) := by rw [← hV, ← hB]; exact blk_cell HC0.out 2 _ rfl
    go_wp2_with fail
    rw [← hV, ← hB]
    clear hV hB
    refine (elong_any _ _ _ _ _ _).mono ?_
    rw [G1.out]
    rintro e w1 ⟨rfl, hb⟩
    have HB1 := Lib.hid (HB0.out.trans (hb.mono HB0.out.size)); have HA1 := Lib.hid (blk_below HA0.out hb); have HC1 := Lib.hid (blk_below HC0.out hb)
    clear hb
    clear x10 x11 x12 x20 x21 x22
    go_wp2_with fail
    refine (eawake_any _).mono ?_
    rintro e we ⟨rfl, hb⟩
    go_wp2
    go_ret
    exact ⟨rfl, HB1.out.trans (hb.mono HB1.out.size)⟩
  have G1 := Lib.hid (decide_eq_false g1)
  by_cases g2 : 1200 < n2
  · have G2 := Lib.hid (decide_eq_true g2)
    clear g2
    go_enter Try.func9, Try.ntmps9
    have x10 : ((w.alloc (.cells #[.int .i64 k1, .int .i64 m1, .slice A1 n1 c1] 72)).alloc (.cells #[.int .i64 k2, .int .i64 m2, .slice A2 n2 c2] 72)).cell? ⟨w.heap.size, 0, none⟩ = some (.int .i64 k1) := by rw [← hV, ← hB]; exact blk_cell HA0.out 0 _ rfl
    have x11 : ((w.alloc (.cells #[.int .i64 k1, .int .i64 m1, .slice A1 n1 c1] 72)).alloc (.cells #[.int .i64 k2, .int .i64 m2, .slice A2 n2 c2] 72)).cell? ⟨w.heap.size, 1, none⟩ = some (.int .i64 m1) := by rw [← hV, ← hB]; exact blk_cell HA0.out 1 _ rfl
    have x12 : ((w.alloc (.cells #[.int .i64 k1, .int .i64 m1, .slice A1 n1 c1] 72)).alloc (.cells #[.int .i64 k2, .int .i64 m2, .slice A2 n2 c2] 72)).cell? ⟨w.heap.size, 2, none⟩ = some (.slice A1 n1 c1) := by rw [← hV, ← hB]; exact blk_cell HA0.out 2 _ rfl
    have x20 : ((w.alloc (.cells #[.int .i64 k1, .int .i64 m1, .slice A1 n1 c1] 72)).alloc (.cells #[.int .i64 k2, .int .i64 m2, .slice A2 n2 c2] 72)).cell? ⟨w.heap.size + 1, 0, none⟩ = some (.int .i64 k2) := by rw [← hV, ← hB]; exact blk_cell HC0.out 0 _ rfl
    have x21 : ((w.alloc (.cells #[.int .i64 k1, .int .i64 m1, .slice A1 n1 c1] 72)).alloc (.cells #[.int .i64 k2, .int .i64 m2, .slice A2 n2 c2] 72)).cell? ⟨w.heap.size + 1, 1, none⟩ = some (.int .i64 m2) := by rw [← hV, ← hB]; exact blk_cell HC0.out 1 _ rfl
    have x22 : ((w.alloc (.cells #[.int .i64 k1, .int .i64 m1, .slice A1 n1 c1] 72)).alloc (.cells #[.int .i64 k2, .int .i64 m2, .slice A2 n2 c2] 72)).cell? ⟨w.heap.size + 1, 2, none⟩ = some (.slice A2 n2 c2) := by rw [← hV, ← hB]; exact blk_cell HC0.out 2 _ rfl
    go_wp2_with fail
    rw [← hV, ← hB]
    clear hV hB
    refine (elong_any _ _ _ _ _ _).mono ?_
    rw [G1.out]
    rintro e w1 ⟨rfl, hb⟩
    have HB1 := Lib.hid (HB0.out.trans (hb.mono HB0.out.size)); have HA1 := Lib.hid (blk_below HA0.out hb); have HC1 := Lib.hid (blk_below HC0.out hb)
    clear hb
    clear x10 x11 x12 x20 x21 x22
    have x10 := blk_cell HA1.out 0 _ rfl
    have x11 := blk_cell HA1.out 1 _ rfl
    have x12 := blk_cell HA1.out 2 _ rfl
    have x20 := blk_cell HC1.out 0 _ rfl
    have x21 := blk_cell HC1.out 1 _ rfl
    have x22 := blk_cell HC1.out 2 _ rfl
    go_wp2_with fail
    refine (elong_any _ _ _ _ _ _).mono ?_
    rw [G2.out]
    rintro e w2 ⟨rfl, hb⟩
    have HB2 := Lib.hid (HB1.out.trans (hb.mono HB1.out.size)); have HA2 := Lib.hid (blk_below HA1.out hb); have HC2 := Lib.hid (blk_below HC1.out hb)
    clear hb
    clear x10 x11 x12 x20 x21 x22
    go_wp2_with fail
    refine (eawake_any _).mono ?_
    rintro e we ⟨rfl, hb⟩
    go_wp2
    go_ret
    exact ⟨rfl, HB2.out.trans (hb.mono HB2.out.size)⟩
  have G2 := Lib.hid (decide_eq_false g2)
  have gn1 : n1 ≤ 1200 := by omega
  have gn2 : n2 ≤ 1200 := by omega
  clear g1 g2
  go_enter Try.func9, Try.ntmps9
  have x10 : ((w.alloc (.cells #[.int .i64 k1, .int .i64 m1, .slice A1 n1 c1] 72)).alloc (.cells #[.int .i64 k2, .int .i64 m2, .slice A2 n2 c2] 72)).cell? ⟨w.heap.size, 0, none⟩ = some (.int .i64 k1) := by rw [← hV, ← hB]; exact blk_cell HA0.out 0 _ rfl
  have x11 : ((w.alloc (.cells #[.int .i64 k1, .int .i64 m1, .slice A1 n1 c1] 72)).alloc (.cells #[.int .i64 k2, .int .i64 m2, .slice A2 n2 c2] 72)).cell? ⟨w.heap.size, 1, none⟩ = some (.int .i64 m1) := by rw [← hV, ← hB]; exact blk_cell HA0.out 1 _ rfl
  have x12 : ((w.alloc (.cells #[.int .i64 k1, .int .i64 m1, .slice A1 n1 c1] 72)).alloc (.cells #[.int .i64 k2, .int .i64 m2, .slice A2 n2 c2] 72)).cell? ⟨w.heap.size, 2, none⟩ = some (.slice A1 n1 c1) := by rw [← hV, ← hB]; exact blk_cell HA0.out 2 _ rfl
  have x20 : ((w.alloc (.cells #[.int .i64 k1, .int .i64 m1, .slice A1 n1 c1] 72)).alloc (.cells #[.int .i64 k2, .int .i64 m2, .slice A2 n2 c2] 72)).cell? ⟨w.heap.size + 1, 0, none⟩ = some (.int .i64 k2) := by rw [← hV, ← hB]; exact blk_cell HC0.out 0 _ rfl
  have x21 : ((w.alloc (.cells #[.int .i64 k1, .int .i64 m1, .slice A1 n1 c1] 72)).alloc (.cells #[.int .i64 k2, .int .i64 m2, .slice A2 n2 c2] 72)).cell? ⟨w.heap.size + 1, 1, none⟩ = some (.int .i64 m2) := by rw [← hV, ← hB]; exact blk_cell HC0.out 1 _ rfl
  have x22 : ((w.alloc (.cells #[.int .i64 k1, .int .i64 m1, .slice A1 n1 c1] 72)).alloc (.cells #[.int .i64 k2, .int .i64 m2, .slice A2 n2 c2] 72)).cell? ⟨w.heap.size + 1, 2, none⟩ = some (.slice A2 n2 c2) := by rw [← hV, ← hB]; exact blk_cell HC0.out 2 _ rfl
  go_wp2_with fail
  rw [← hV, ← hB]
  clear hV hB
  refine (elong_any _ _ _ _ _ _).mono ?_
  rw [G1.out]
  rintro e w1 ⟨rfl, hb⟩
  have HB1 := Lib.hid (HB0.out.trans (hb.mono HB0.out.size)); have HA1 := Lib.hid (blk_below HA0.out hb); have HC1 := Lib.hid (blk_below HC0.out hb)
  clear hb
  clear x10 x11 x12 x20 x21 x22
  have x10 := blk_cell HA1.out 0 _ rfl
  have x11 := blk_cell HA1.out 1 _ rfl
  have x12 := blk_cell HA1.out 2 _ rfl
  have x20 := blk_cell HC1.out 0 _ rfl
  have x21 := blk_cell HC1.out 1 _ rfl
  have x22 := blk_cell HC1.out 2 _ rfl
  go_wp2_with fail
  refine (elong_any _ _ _ _ _ _).mono ?_
  rw [G2.out]
  rintro e w2 ⟨rfl, hb⟩
  have HB2 := Lib.hid (HB1.out.trans (hb.mono HB1.out.size)); have HA2 := Lib.hid (blk_below HA1.out hb); have HC2 := Lib.hid (blk_below HC1.out hb)
  clear hb
  clear x10 x11 x12 x20 x21 x22
  have hz2 := HB2.out.size
  have hblt := blk_lt HC2.out
  have s0 : w2.cell? ⟨B, 0, none⟩ = some (.int .i64 k1) ∧ w2.cell? ⟨B, 1, none⟩ = some (.int .i64 m1) ∧ w2.cell? ⟨B, 2, none⟩ = some (.slice A1 n1 c1) ∧ w2.cell? ⟨B + 1, 0, none⟩ = some (.int .i64 k2) ∧ w2.cell? ⟨B + 1, 1, none⟩ = some (.int .i64 m2) ∧ w2.cell? ⟨B + 1, 2, none⟩ = some (.slice A2 n2 c2) := ⟨blk_cell HA2.out 0 _ rfl, blk_cell HA2.out 1 _ rfl, blk_cell HA2.out 2 _ rfl, blk_cell HC2.out 0 _ rfl, blk_cell HC2.out 1 _ rfl, blk_cell HC2.out 2 _ rfl⟩
  go_wp2_with fail
  go_region_held3 (fun W => W.cell? ⟨B, 0, none⟩ = some (.int .i64 k1) ∧ W.cell? ⟨B, 1, none⟩ = some (.int .i64 m1) ∧ W.cell? ⟨B, 2, none⟩ = some (.slice A1 n1 c1) ∧ W.cell? ⟨B + 1, 0, none⟩ = some (.int .i64 k2) ∧ W.cell? ⟨B + 1, 1, none⟩ = some (.int .i64 m2) ∧ W.cell? ⟨B + 1, 2, none⟩ = some (.slice A2 n2 c2)) (first | exact s0 | exact keep6 (box_below w2 _) s0 | exact keep6 ((box_below w2 _).alloc (by simp) _) s0) (fail)
  · clear s0
    obtain ⟨P, hP⟩ : ∃ z, z = w2.heap.size := ⟨_, rfl⟩
    obtain ⟨Q, hQ⟩ : ∃ z, z = w2.heap.size + 1 := ⟨_, rfl⟩
    obtain ⟨w3, hw3⟩ : ∃ z, z = ((w2.alloc (.cells #[.int .i64 k1, .int .i64 m1, .slice A1 n1 c1] 72)).alloc (.cells #[.int .i64 k2, .int .i64 m2, .slice A2 n2 c2] 72)).drew := ⟨_, rfl⟩
    obtain ⟨b1, b2, b3⟩ := two_new w2 #[.int .i64 k1, .int .i64 m1, .slice A1 n1 c1] 72 #[.int .i64 k2, .int .i64 m2, .slice A2 n2 c2] 72
    have hT3 : T4 w w3 B P Q 72 #[.int .i64 k1, .int .i64 m1, .slice A1 n1 c1] #[.int .i64 k2, .int .i64 m2, .slice A2 n2 c2] #[.int .i64 k1, .int .i64 m1, .slice A1 n1 c1] #[.int .i64 k2, .int .i64 m2, .slice A2 n2 c2] := by
      rw [hw3]
      have b4 := b3.trans ((Ch.drew _ No).below (by have := b3.size; exact this) (fun _ h => h.elim))
      exact ⟨blk_below HA2.out b4, blk_below HC2.out b4, (by rw [hP]; exact b1), (by rw [hQ]; exact b2), HB2.out.trans (b4.mono HB2.out.size)⟩
    have hPQ : P ≠ Q := by omega
    have hBP : B + 1 < P := by omega
    have hBQ : B + 1 < Q := by omega
    have hP3 : P < w3.heap.size := blk_lt hT3.p
    have hQ3 : Q < w3.heap.size := blk_lt hT3.q
    have hBw : w.heap.size ≤ B := by have := HBW.out; omega
    clear b1 b2 b3
    go_wp2_with fail
    rw [← hw3, ← hQ, ← hP]
    clear hw3 hP hQ
    have HT3 := Lib.hid hT3
    have hPQ' : Q ≠ P := Ne.symm hPQ
    have q1 := (H1.out.below HT3.out.bel).ch (Ch.drew w3 No) (fun _ _ => id)
    have q2 := (H2.out.below HT3.out.bel).ch (Ch.drew w3 No) (fun _ _ => id)
    have s0 : w3.drew.cell? ⟨B, 2, none⟩ = some (.slice A1 n1 c1) ∧ w3.drew.cell? ⟨B + 1, 2, none⟩ = some (.slice A2 n2 c2) := ⟨blk_cell HT3.out.b1 2 _ rfl, blk_cell HT3.out.b2 2 _ rfl⟩
    clear hT3
    go_region_held3 (fun W => W.cell? ⟨B, 2, none⟩ = some (.slice A1 n1 c1) ∧ W.cell? ⟨B + 1, 2, none⟩ = some (.slice A2 n2 c2)) (first | exact s7 | exact s6 | exact s5 | exact s4 | exact s0) (first | (go_at_call 26; ((with_reducible refine (lent_any _ _ _ l2 _ (q2.below hb4) (by omega)).mono ?_); rintro e w5 ⟨g2, d2, rfl, hg2, hd2, hrow2, hb5⟩; have HROW2 := Lib.hid hrow2; have hb45 := hb4.trans (hb5.mono hb4.size); have HB45 := Lib.hid hb45; have HROW1' := Lib.hid (HROW1.out.below hb5); have s5 : w5.cell? ⟨B, 2, none⟩ = some (.slice A1 n1 c1) ∧ w5.cell? ⟨B + 1, 2, none⟩ = some (.slice A2 n2 c2) := ⟨below_cell hb5 s4.1, below_cell hb5 s4.2⟩; have hP5 := blk_below (show Blk w3.drew P 72 _ from HT3.out.p) hb45; have hQ5 := blk_below (show Blk w3.drew Q 72 _ from HT3.out.q) hb45; have cP := blk_cell hP5 2 _ rfl; have fP := blk_thawed hP5 2; have cQ := blk_cell hQ5 2 _ rfl; have fQ := blk_thawed hQ5 2; have s6 : (w5.setCell ⟨P, 2, none⟩ (.slice (some ⟨g1, 0, none⟩) n1 (n1 + 3))).cell? ⟨B, 2, none⟩ = some (.slice A1 n1 c1) ∧ (w5.setCell ⟨P, 2, none⟩ (.slice (some ⟨g1, 0, none⟩) n1 (n1 + 3))).cell? ⟨B + 1, 2, none⟩ = some (.slice A2 n2 c2) := ⟨(cell_far w5 ⟨P, 2, none⟩ ⟨B, 2, none⟩ _ (show B ≠ P by omega)).trans s5.1, (cell_far w5 ⟨P, 2, none⟩ ⟨B + 1, 2, none⟩ _ (show B + 1 ≠ P by omega)).trans s5.2⟩; have s7 : ((w5.setCell ⟨P, 2, none⟩ (.slice (some ⟨g1, 0, none⟩) n1 (n1 + 3))).setCell ⟨Q, 2, none⟩ (.slice (some ⟨g2, 0, none⟩) n2 (n2 + 3))).cell? ⟨B, 2, none⟩ = some (.slice A1 n1 c1) ∧ ((w5.setCell ⟨P, 2, none⟩ (.slice (some ⟨g1, 0, none⟩) n1 (n1 + 3))).setCell ⟨Q, 2, none⟩ (.slice (some ⟨g2, 0, none⟩) n2 (n2 + 3))).cell? ⟨B + 1, 2, none⟩ = some (.slice A2 n2 c2) := ⟨(cell_far _ ⟨Q, 2, none⟩ ⟨B, 2, none⟩ _ (show B ≠ Q by omega)).trans s6.1, (cell_far _ ⟨Q, 2, none⟩ ⟨B + 1, 2, none⟩ _ (show B + 1 ≠ Q by omega)).trans s6.2⟩)) | (go_at_call 26; ((with_reducible refine (lent_any _ _ _ l1 _ q1 (by omega)).mono ?_); rintro e w4 ⟨g1, d1, rfl, hg1, hd1, hrow1, hb4⟩; have HROW1 := Lib.hid hrow1; have s4 : w4.cell? ⟨B, 2, none⟩ = some (.slice A1 n1 c1) ∧ w4.cell? ⟨B + 1, 2, none⟩ = some (.slice A2 n2 c2) := ⟨below_cell hb4 s0.1, below_cell hb4 s0.2⟩)))
    all_goals
      have hg1' : w3.heap.size ≤ g1 := hg1
      have hg14 : g1 < w4.heap.size := HROW1.out.lt
      have hz35 : w3.heap.size ≤ w5.heap.size := HB45.out.size
      have hz45 : w4.heap.size ≤ w5.heap.size := hb5.size
      have hg25 : g2 < w5.heap.size := HROW2.out.lt
      obtain ⟨w6, hw6⟩ : ∃ z, z = (w5.setCell ⟨P, 2, none⟩ (.slice (some ⟨g1, 0, none⟩) n1 (n1 + 3))).setCell ⟨Q, 2, none⟩ (.slice (some ⟨g2, 0, none⟩) n2 (n2 + 3)) := ⟨_, rfl⟩
      have hc6 : Ch (fun j => j = P ∨ j = Q) w5 w6 := by rw [hw6]; exact ch_set (ch_set (Ch.refl _ w5) ⟨P, 2, none⟩ _ (.inl rfl)) ⟨Q, 2, none⟩ _ (.inr rfl)
      have HT6 := Lib.hid (show T4 w w6 B P Q 72 #[.int .i64 k1, .int .i64 m1, .slice A1 n1 c1] #[.int .i64 k2, .int .i64 m2, .slice A2 n2 c2] #[.int .i64 k1, .int .i64 m1, .slice (some ⟨g1, 0, none⟩) n1 (n1 + 3)] #[.int .i64 k2, .int .i64 m2, .slice (some ⟨g2, 0, none⟩) n2 (n2 + 3)] from ⟨blk_ch (blk_below (show Blk w3.drew B 72 _ from HT3.out.b1) HB45.out) hc6 (by omega), blk_ch (blk_below (show Blk w3.drew (B + 1) 72 _ from HT3.out.b2) HB45.out) hc6 (by omega), by rw [hw6]; exact blk_ch (blk_set hP5 2 _) (Ch.setCell _ ⟨Q, 2, none⟩ _) hPQ, by rw [hw6]; exact blk_set (blk_ch hQ5 (Ch.setCell _ ⟨P, 2, none⟩ _) hPQ') 2 _, ((Ch.of_below (HT3.out.bel.trans ((show Below w3.heap.size w3 w5 from ((Ch.drew w3 No).below (Nat.le_refl _) (fun _ h => h.elim)).trans HB45.out).mono HT3.out.bel.size)) (fun j => j = P ∨ j = Q)).trans hc6 (fun i hi => .inl hi)).below (Nat.le_refl _) (fun j hj => by omega)⟩)
      have HR1 := Lib.hid (HROW1'.out.ch hc6 (by omega)); have HR2 := Lib.hid (HROW2.out.ch hc6 (by omega))
      have hz6 : w5.heap.size ≤ w6.heap.size := hc6.size
      clear hb4 hb5 hb45 hrow1 hrow2 HROW1 HROW2 HROW1' HB45 hP5 hQ5 cP fP cQ fQ s0 s4 s5 s6 s7 q1 q2 hc6 hg1 hg2 HT3
      have R1 := Lib.hid (show ∀ W, Below w6.heap.size w6 W → Rd W (some ⟨g1, 0, none⟩) n1 (n1 + 3) 1 (u8s l1) from fun W hW => ((HR1.out.below hW).rd 0 n1 (n1 + 3) (u8s l1) (by rw [List.drop_zero, u8s_take, Nat.mul_one, ← E1.out]; simp) (by rw [u8s_length, List.length_append, E1.out]; omega) (by omega) (by have := HR1.out.big; omega)))
      have R2 := Lib.hid (show ∀ W, Below w6.heap.size w6 W → Rd W (some ⟨g2, 0, none⟩) n2 (n2 + 3) 1 (u8s l2) from fun W hW => ((HR2.out.below hW).rd 0 n2 (n2 + 3) (u8s l2) (by rw [List.drop_zero, u8s_take, Nat.mul_one, ← E2.out]; simp) (by rw [u8s_length, List.length_append, E2.out]; omega) (by omega) (by have := HR2.out.big; omega)))
      have zp0 : ((w5.setCell ⟨P, 2, none⟩ (.slice (some ⟨g1, 0, none⟩) n1 (n1 + 3))).setCell ⟨Q, 2, none⟩ (.slice (some ⟨g2, 0, none⟩) n2 (n2 + 3))).cell? ⟨P, 0, none⟩ = some (.int .i64 k1) := by rw [← hw6]; exact blk_cell HT6.out.p 0 _ rfl
      have zp1 : ((w5.setCell ⟨P, 2, none⟩ (.slice (some ⟨g1, 0, none⟩) n1 (n1 + 3))).setCell ⟨Q, 2, none⟩ (.slice (some ⟨g2, 0, none⟩) n2 (n2 + 3))).cell? ⟨P, 1, none⟩ = some (.int .i64 m1) := by rw [← hw6]; exact blk_cell HT6.out.p 1 _ rfl
      have zp2 : ((w5.setCell ⟨P, 2, none⟩ (.slice (some ⟨g1, 0, none⟩) n1 (n1 + 3))).setCell ⟨Q, 2, none⟩ (.slice (some ⟨g2, 0, none⟩) n2 (n2 + 3))).cell? ⟨P, 2, none⟩ = some (.slice (some ⟨g1, 0, none⟩) n1 (n1 + 3)) := by rw [← hw6]; exact blk_cell HT6.out.p 2 _ rfl
      obtain ⟨y, hy⟩ : ∃ z, z = effB k1 m1 l1 := ⟨_, rfl⟩
      have HY := Lib.hid hy
      clear hy
      go_wp2_with fail
      rw [← hw6]
      clear hw6 zp0 zp1 zp2
      refine (ebytes_any k1 m1 HK.out.1 HK.out.2 (R1.out w6 (Below.refl _ _)) (by omega)).mono ?_
      rw [← HY.out]
      rintro e w7 ⟨D1, a1, f1, rfl, hh, hb⟩
      have HX7 := Lib.hid hb; have HT7 := Lib.hid (t4_below HT6.out hb); have HD7 := Lib.hid hh
      have xb0 := blk_cell HT7.out.b1 0 _ rfl
      have xb1 := blk_cell HT7.out.b1 1 _ rfl
      have xb2 := blk_cell HT7.out.b1 2 _ rfl
      clear hb hh
      go_wp2_with fail
      refine (rebytes_any k1 m1 HK.out.1 HK.out.2 (H1.out.below HT7.out.bel) (by omega)).mono ?_
      rw [← HY.out]
      rintro e w8 ⟨D2, a2, f2, rfl, hrd, hfr, hb⟩
      have HX8 := Lib.hid (HX7.out.trans (hb.mono HX7.out.size)); have HT8 := Lib.hid (t4_below HT7.out hb); have HD8 := Lib.hid (held_ch HD7.out (Ch.of_below hb No) (fun _ _ => id))
      have qa := (held_rd HD8.out).ch (Ch.drew w8 No) (fun _ _ => id)
      have qb := hrd.ch (Ch.drew w8 No) (fun _ _ => id)
      have s0 : w8.drew.cell? ⟨B, 0, none⟩ = some (.int .i64 k1) ∧ w8.drew.cell? ⟨B, 1, none⟩ = some (.int .i64 m1) ∧ w8.drew.cell? ⟨B, 2, none⟩ = some (.slice A1 n1 c1) ∧ w8.drew.cell? ⟨B + 1, 0, none⟩ = some (.int .i64 k2) ∧ w8.drew.cell? ⟨B + 1, 1, none⟩ = some (.int .i64 m2) ∧ w8.drew.cell? ⟨B + 1, 2, none⟩ = some (.slice A2 n2 c2) ∧ w8.drew.cell? ⟨P, 0, none⟩ = some (.int .i64 k1) ∧ w8.drew.cell? ⟨P, 1, none⟩ = some (.int .i64 m1) ∧ w8.drew.cell? ⟨P, 2, none⟩ = some (.slice (some ⟨g1, 0, none⟩) n1 (n1 + 3)) ∧ w8.drew.cell? ⟨Q, 0, none⟩ = some (.int .i64 k2) ∧ w8.drew.cell? ⟨Q, 1, none⟩ = some (.int .i64 m2) ∧ w8.drew.cell? ⟨Q, 2, none⟩ = some (.slice (some ⟨g2, 0, none⟩) n2 (n2 + 3)) := ⟨blk_cell HT8.out.b1 0 _ rfl, blk_cell HT8.out.b1 1 _ rfl, blk_cell HT8.out.b1 2 _ rfl, blk_cell HT8.out.b2 0 _ rfl, blk_cell HT8.out.b2 1 _ rfl, blk_cell HT8.out.b2 2 _ rfl, blk_cell HT8.out.p 0 _ rfl, blk_cell HT8.out.p 1 _ rfl, blk_cell HT8.out.p 2 _ rfl, blk_cell HT8.out.q 0 _ rfl, blk_cell HT8.out.q 1 _ rfl, blk_cell HT8.out.q 2 _ rfl⟩
      clear hb hrd hfr xb0 xb1 xb2 HX7 HT7 HD7
      go_wp2_with fail
      go_region_held3 (fun W => W.cell? ⟨B, 0, none⟩ = some (.int .i64 k1) ∧ W.cell? ⟨B, 1, none⟩ = some (.int .i64 m1) ∧ W.cell? ⟨B, 2, none⟩ = some (.slice A1 n1 c1) ∧ W.cell? ⟨B + 1, 0, none⟩ = some (.int .i64 k2) ∧ W.cell? ⟨B + 1, 1, none⟩ = some (.int .i64 m2) ∧ W.cell? ⟨B + 1, 2, none⟩ = some (.slice A2 n2 c2) ∧ W.cell? ⟨P, 0, none⟩ = some (.int .i64 k1) ∧ W.cell? ⟨P, 1, none⟩ = some (.int .i64 m1) ∧ W.cell? ⟨P, 2, none⟩ = some (.slice (some ⟨g1, 0, none⟩) n1 (n1 + 3)) ∧ W.cell? ⟨Q, 0, none⟩ = some (.int .i64 k2) ∧ W.cell? ⟨Q, 1, none⟩ = some (.int .i64 m2) ∧ W.cell? ⟨Q, 2, none⟩ = some (.slice (some ⟨g2, 0, none⟩) n2 (n2 + 3))) (first | exact sd | exact sc | exact sb | exact sa | exact s0) (first | (go_at_call 21; ((with_reducible refine (same_any _ _ _ _ _ _ _ _ _ qa qb).mono ?_); rw [eqB_self]; rintro e wx ⟨rfl, rfl⟩)) | (go_at_call 46; ((with_reducible refine (check_any k1 m1 _ n1 _ _ (by omega)).mono ?_); rintro e Wa ⟨rfl, hba⟩; have sa := keep12 hba s0)) | (go_at_call 47; ((with_reducible refine (rcheck_any k1 m1 _ n1 _ _).mono ?_); rintro e Wb ⟨rfl, hbb'⟩; have hbb := hba.trans (hbb'.mono hba.size); have sb := keep12 hbb s0)) | (go_at_call 48; ((with_reducible refine (size_any k1 m1 _ n1 _ _ (by omega)).mono ?_); rintro e Wc ⟨rfl, hbc'⟩; have hbc := hbb.trans (hbc'.mono hbb.size); have sc := keep12 hbc s0)) | (go_at_call 49; ((with_reducible refine (rsize_any k1 m1 _ n1 _ _ (by omega)).mono ?_); rintro e Wd ⟨rfl, hbd'⟩; have hbd := hbc.trans (hbd'.mono hbc.size); have sd := keep12 hbd s0)))
      all_goals
        have hb9 : Below w8.heap.size w8 Wd := ((Ch.drew w8 No).below (Nat.le_refl _) (fun _ h => h.elim)).trans hbd
        have HX9 := Lib.hid (HX8.out.trans (hb9.mono HX8.out.size)); have HT9 := Lib.hid (t4_below HT8.out hb9); have HD9 := Lib.hid (held_ch HD8.out (Ch.of_below hb9 No) (fun _ _ => id))
        clear hb9 hba hbb' hbb hbc' hbc hbd' hbd sa sb sc sd s0 qa qb HX8 HT8 HD8
        have s0 : Wd.drew.cell? ⟨B, 0, none⟩ = some (.int .i64 k1) ∧ Wd.drew.cell? ⟨B, 1, none⟩ = some (.int .i64 m1) ∧ Wd.drew.cell? ⟨B, 2, none⟩ = some (.slice A1 n1 c1) ∧ Wd.drew.cell? ⟨B + 1, 0, none⟩ = some (.int .i64 k2) ∧ Wd.drew.cell? ⟨B + 1, 1, none⟩ = some (.int .i64 m2) ∧ Wd.drew.cell? ⟨B + 1, 2, none⟩ = some (.slice A2 n2 c2) ∧ Wd.drew.cell? ⟨P, 0, none⟩ = some (.int .i64 k1) ∧ Wd.drew.cell? ⟨P, 1, none⟩ = some (.int .i64 m1) ∧ Wd.drew.cell? ⟨P, 2, none⟩ = some (.slice (some ⟨g1, 0, none⟩) n1 (n1 + 3)) ∧ Wd.drew.cell? ⟨Q, 0, none⟩ = some (.int .i64 k2) ∧ Wd.drew.cell? ⟨Q, 1, none⟩ = some (.int .i64 m2) ∧ Wd.drew.cell? ⟨Q, 2, none⟩ = some (.slice (some ⟨g2, 0, none⟩) n2 (n2 + 3)) := ⟨blk_cell HT9.out.b1 0 _ rfl, blk_cell HT9.out.b1 1 _ rfl, blk_cell HT9.out.b1 2 _ rfl, blk_cell HT9.out.b2 0 _ rfl, blk_cell HT9.out.b2 1 _ rfl, blk_cell HT9.out.b2 2 _ rfl, blk_cell HT9.out.p 0 _ rfl, blk_cell HT9.out.p 1 _ rfl, blk_cell HT9.out.p 2 _ rfl, blk_cell HT9.out.q 0 _ rfl, blk_cell HT9.out.q 1 _ rfl, blk_cell HT9.out.q 2 _ rfl⟩
        have hX0 := HX9.out.drew
        have hT0 := HT9.out.bel.drew
        have HX0 := Lib.hid hX0; have HT0 := Lib.hid hT0
        clear hX0 hT0
        go_wp2_with fail
        go_region_held3 (fun W => W.cell? ⟨B, 0, none⟩ = some (.int .i64 k1) ∧ W.cell? ⟨B, 1, none⟩ = some (.int .i64 m1) ∧ W.cell? ⟨B, 2, none⟩ = some (.slice A1 n1 c1) ∧ W.cell? ⟨B + 1, 0, none⟩ = some (.int .i64 k2) ∧ W.cell? ⟨B + 1, 1, none⟩ = some (.int .i64 m2) ∧ W.cell? ⟨B + 1, 2, none⟩ = some (.slice A2 n2 c2) ∧ W.cell? ⟨P, 0, none⟩ = some (.int .i64 k1) ∧ W.cell? ⟨P, 1, none⟩ = some (.int .i64 m1) ∧ W.cell? ⟨P, 2, none⟩ = some (.slice (some ⟨g1, 0, none⟩) n1 (n1 + 3)) ∧ W.cell? ⟨Q, 0, none⟩ = some (.int .i64 k2) ∧ W.cell? ⟨Q, 1, none⟩ = some (.int .i64 m2) ∧ W.cell? ⟨Q, 2, none⟩ = some (.slice (some ⟨g2, 0, none⟩) n2 (n2 + 3))) (first | exact sd | exact sc | exact sb | exact sa | exact s0) (first | (go_at_call 50; ((with_reducible refine (esam_any k1 m1 k2 m2 (R1.out _ HX0.out) (R2.out _ HX0.out)).mono ?_); rintro e Wa ⟨rfl, hba⟩; have sa := keep12 hba s0)) | (go_at_call 51; ((with_reducible refine (resame_any k1 m1 k2 m2 ((H1.out.below HT0.out).below hba) ((H2.out.below HT0.out).below hba)).mono ?_); rintro e Wb ⟨rfl, hbb'⟩; have hbb := hba.trans (hbb'.mono hba.size); have sb := keep12 hbb s0)) | (go_at_call 52; ((with_reducible refine (eless_any k1 m1 k2 m2 (R1.out _ (HX0.out.trans (hbb.mono HX0.out.size))) (R2.out _ (HX0.out.trans (hbb.mono HX0.out.size)))).mono ?_); rintro e Wc ⟨rfl, hbc'⟩; have hbc := hbb.trans (hbc'.mono hbb.size); have sc := keep12 hbc s0)) | (go_at_call 53; ((with_reducible refine (reless_any k1 m1 k2 m2 ((H1.out.below HT0.out).below hbc) ((H2.out.below HT0.out).below hbc)).mono ?_); rintro e We ⟨rfl, hbd'⟩; have hbd := hbc.trans (hbd'.mono hbc.size); have sd := keep12 hbd s0)))
        all_goals
          have hb10 : Below Wd.heap.size Wd We := ((Ch.drew Wd No).below (Nat.le_refl _) (fun _ h => h.elim)).trans hbd
          have HX10 := Lib.hid (HX9.out.trans (hb10.mono HX9.out.size)); have HT10 := Lib.hid (t4_below HT9.out hb10); have HD10 := Lib.hid (held_ch HD9.out (Ch.of_below hb10 No) (fun _ _ => id))
          clear hb10 hba hbb' hbb hbc' hbc hbd' hbd sa sb sc sd s0 HX9 HT9 HD9 HX0 HT0
          go_wp2_with fail
          refine (over_held HD10.out).mono ?_
          rintro e wf ⟨rfl, hc⟩
          have HTf := Lib.hid (show T4 w wf B P Q 72 #[.int .i64 k1, .int .i64 m1, .slice A1 n1 c1] #[.int .i64 k2, .int .i64 m2, .slice A2 n2 c2] #[.int .i64 k1, .int .i64 m1, .slice (some ⟨g1, 0, none⟩) n1 (n1 + 3)] #[.int .i64 k2, .int .i64 m2, .slice (some ⟨g2, 0, none⟩) n2 (n2 + 3)] from ⟨blk_ch HT10.out.b1 hc (by omega), blk_ch HT10.out.b2 hc (by omega), blk_ch HT10.out.p hc (by omega), blk_ch HT10.out.q hc (by omega), ((Ch.of_below HT10.out.bel (fun k => w6.heap.size ≤ k)).trans hc (fun i hi => .inl hi)).below (Nat.le_refl _) (fun j hj => by omega)⟩)
          have HRf1 := Lib.hid ((HR1.out.below HX10.out).ch hc (by omega)); have HRf2 := Lib.hid ((HR2.out.below HX10.out).ch hc (by omega))
          have yp := blk_cell HTf.out.p 2 _ rfl
          have yb := blk_cell HTf.out.b1 2 _ rfl
          clear hc
          go_wp2_with fail
          refine (kept_any _ _ _ _ _ _ _ HRf1.out (H1.out.below HTf.out.bel) (by omega)).mono ?_
          rintro e wg ⟨rfl, hb⟩
          have HTg := Lib.hid (t4_below HTf.out hb); have HRg2 := Lib.hid (HRf2.out.below hb)
          clear hb yp yb
          have yp := blk_cell HTg.out.q 2 _ rfl
          have yb := blk_cell HTg.out.b2 2 _ rfl
          go_wp2_with fail
          refine (kept_any _ _ _ _ _ _ _ HRg2.out (H2.out.below HTg.out.bel) (by omega)).mono ?_
          rintro e wh ⟨rfl, hb⟩
          have HTh := Lib.hid (HTg.out.bel.trans (hb.mono HTg.out.bel.size))
          clear hb yp yb
          go_wp2_with fail
          refine (eawake_any _).mono ?_
          rintro e wi ⟨rfl, hb⟩
          go_wp2
          go_ret
          exact ⟨rfl, HTh.out.trans (hb.mono HTh.out.size)⟩
  · clear s0
    obtain ⟨P, hP⟩ : ∃ z, z = w2.heap.size + 1 := ⟨_, rfl⟩
    obtain ⟨Q, hQ⟩ : ∃ z, z = w2.heap.size := ⟨_, rfl⟩
    obtain ⟨w3, hw3⟩ : ∃ z, z = ((w2.alloc (.cells #[.int .i64 k2, .int .i64 m2, .slice A2 n2 c2] 72)).alloc (.cells #[.int .i64 k1, .int .i64 m1, .slice A1 n1 c1] 72)).drew := ⟨_, rfl⟩
    obtain ⟨b1, b2, b3⟩ := two_new w2 #[.int .i64 k2, .int .i64 m2, .slice A2 n2 c2] 72 #[.int .i64 k1, .int .i64 m1, .slice A1 n1 c1] 72
    have hT3 : T4 w w3 B P Q 72 #[.int .i64 k1, .int .i64 m1, .slice A1 n1 c1] #[.int .i64 k2, .int .i64 m2, .slice A2 n2 c2] #[.int .i64 k1, .int .i64 m1, .slice A1 n1 c1] #[.int .i64 k2, .int .i64 m2, .slice A2 n2 c2] := by
      rw [hw3]
      have b4 := b3.trans ((Ch.drew _ No).below (by have := b3.size; exact this) (fun _ h => h.elim))
      exact ⟨blk_below HA2.out b4, blk_below HC2.out b4, (by rw [hP]; exact b2), (by rw [hQ]; exact b1), HB2.out.trans (b4.mono HB2.out.size)⟩
    have hPQ : P ≠ Q := by omega
    have hBP : B + 1 < P := by omega
    have hBQ : B + 1 < Q := by omega
    have hP3 : P < w3.heap.size := blk_lt hT3.p
    have hQ3 : Q < w3.heap.size := blk_lt hT3.q
    have hBw : w.heap.size ≤ B := by have := HBW.out; omega
    clear b1 b2 b3
    go_wp2_with fail
    rw [← hw3, ← hP, ← hQ]
    clear hw3 hP hQ
    have HT3 := Lib.hid hT3
    have hPQ' : Q ≠ P := Ne.symm hPQ
    have q1 := (H1.out.below HT3.out.bel).ch (Ch.drew w3 No) (fun _ _ => id)
    have q2 := (H2.out.below HT3.out.bel).ch (Ch.drew w3 No) (fun _ _ => id)
    have s0 : w3.drew.cell? ⟨B, 2, none⟩ = some (.slice A1 n1 c1) ∧ w3.drew.cell? ⟨B + 1, 2, none⟩ = some (.slice A2 n2 c2) := ⟨blk_cell HT3.out.b1 2 _ rfl, blk_cell HT3.out.b2 2 _ rfl⟩
    clear hT3
    go_region_held3 (fun W => W.cell? ⟨B, 2, none⟩ = some (.slice A1 n1 c1) ∧ W.cell? ⟨B + 1, 2, none⟩ = some (.slice A2 n2 c2)) (first | exact s7 | exact s6 | exact s5 | exact s4 | exact s0) (first | (go_at_call 26; ((with_reducible refine (lent_any _ _ _ l2 _ (q2.below hb4) (by omega)).mono ?_); rintro e w5 ⟨g2, d2, rfl, hg2, hd2, hrow2, hb5⟩; have HROW2 := Lib.hid hrow2; have hb45 := hb4.trans (hb5.mono hb4.size); have HB45 := Lib.hid hb45; have HROW1' := Lib.hid (HROW1.out.below hb5); have s5 : w5.cell? ⟨B, 2, none⟩ = some (.slice A1 n1 c1) ∧ w5.cell? ⟨B + 1, 2, none⟩ = some (.slice A2 n2 c2) := ⟨below_cell hb5 s4.1, below_cell hb5 s4.2⟩; have hP5 := blk_below (show Blk w3.drew P 72 _ from HT3.out.p) hb45; have hQ5 := blk_below (show Blk w3.drew Q 72 _ from HT3.out.q) hb45; have cP := blk_cell hP5 2 _ rfl; have fP := blk_thawed hP5 2; have cQ := blk_cell hQ5 2 _ rfl; have fQ := blk_thawed hQ5 2; have s6 : (w5.setCell ⟨P, 2, none⟩ (.slice (some ⟨g1, 0, none⟩) n1 (n1 + 3))).cell? ⟨B, 2, none⟩ = some (.slice A1 n1 c1) ∧ (w5.setCell ⟨P, 2, none⟩ (.slice (some ⟨g1, 0, none⟩) n1 (n1 + 3))).cell? ⟨B + 1, 2, none⟩ = some (.slice A2 n2 c2) := ⟨(cell_far w5 ⟨P, 2, none⟩ ⟨B, 2, none⟩ _ (show B ≠ P by omega)).trans s5.1, (cell_far w5 ⟨P, 2, none⟩ ⟨B + 1, 2, none⟩ _ (show B + 1 ≠ P by omega)).trans s5.2⟩; have s7 : ((w5.setCell ⟨P, 2, none⟩ (.slice (some ⟨g1, 0, none⟩) n1 (n1 + 3))).setCell ⟨Q, 2, none⟩ (.slice (some ⟨g2, 0, none⟩) n2 (n2 + 3))).cell? ⟨B, 2, none⟩ = some (.slice A1 n1 c1) ∧ ((w5.setCell ⟨P, 2, none⟩ (.slice (some ⟨g1, 0, none⟩) n1 (n1 + 3))).setCell ⟨Q, 2, none⟩ (.slice (some ⟨g2, 0, none⟩) n2 (n2 + 3))).cell? ⟨B + 1, 2, none⟩ = some (.slice A2 n2 c2) := ⟨(cell_far _ ⟨Q, 2, none⟩ ⟨B, 2, none⟩ _ (show B ≠ Q by omega)).trans s6.1, (cell_far _ ⟨Q, 2, none⟩ ⟨B + 1, 2, none⟩ _ (show B + 1 ≠ Q by omega)).trans s6.2⟩)) | (go_at_call 26; ((with_reducible refine (lent_any _ _ _ l1 _ q1 (by omega)).mono ?_); rintro e w4 ⟨g1, d1, rfl, hg1, hd1, hrow1, hb4⟩; have HROW1 := Lib.hid hrow1; have s4 : w4.cell? ⟨B, 2, none⟩ = some (.slice A1 n1 c1) ∧ w4.cell? ⟨B + 1, 2, none⟩ = some (.slice A2 n2 c2) := ⟨below_cell hb4 s0.1, below_cell hb4 s0.2⟩)))
    all_goals
      have hg1' : w3.heap.size ≤ g1 := hg1
      have hg14 : g1 < w4.heap.size := HROW1.out.lt
      have hz35 : w3.heap.size ≤ w5.heap.size := HB45.out.size
      have hz45 : w4.heap.size ≤ w5.heap.size := hb5.size
      have hg25 : g2 < w5.heap.size := HROW2.out.lt
      obtain ⟨w6, hw6⟩ : ∃ z, z = (w5.setCell ⟨P, 2, none⟩ (.slice (some ⟨g1, 0, none⟩) n1 (n1 + 3))).setCell ⟨Q, 2, none⟩ (.slice (some ⟨g2, 0, none⟩) n2 (n2 + 3)) := ⟨_, rfl⟩
      have hc6 : Ch (fun j => j = P ∨ j = Q) w5 w6 := by rw [hw6]; exact ch_set (ch_set (Ch.refl _ w5) ⟨P, 2, none⟩ _ (.inl rfl)) ⟨Q, 2, none⟩ _ (.inr rfl)
      have HT6 := Lib.hid (show T4 w w6 B P Q 72 #[.int .i64 k1, .int .i64 m1, .slice A1 n1 c1] #[.int .i64 k2, .int .i64 m2, .slice A2 n2 c2] #[.int .i64 k1, .int .i64 m1, .slice (some ⟨g1, 0, none⟩) n1 (n1 + 3)] #[.int .i64 k2, .int .i64 m2, .slice (some ⟨g2, 0, none⟩) n2 (n2 + 3)] from ⟨blk_ch (blk_below (show Blk w3.drew B 72 _ from HT3.out.b1) HB45.out) hc6 (by omega), blk_ch (blk_below (show Blk w3.drew (B + 1) 72 _ from HT3.out.b2) HB45.out) hc6 (by omega), by rw [hw6]; exact blk_ch (blk_set hP5 2 _) (Ch.setCell _ ⟨Q, 2, none⟩ _) hPQ, by rw [hw6]; exact blk_set (blk_ch hQ5 (Ch.setCell _ ⟨P, 2, none⟩ _) hPQ') 2 _, ((Ch.of_below (HT3.out.bel.trans ((show Below w3.heap.size w3 w5 from ((Ch.drew w3 No).below (Nat.le_refl _) (fun _ h => h.elim)).trans HB45.out).mono HT3.out.bel.size)) (fun j => j = P ∨ j = Q)).trans hc6 (fun i hi => .inl hi)).below (Nat.le_refl _) (fun j hj => by omega)⟩)
      have HR1 := Lib.hid (HROW1'.out.ch hc6 (by omega)); have HR2 := Lib.hid (HROW2.out.ch hc6 (by omega))
      have hz6 : w5.heap.size ≤ w6.heap.size := hc6.size
      clear hb4 hb5 hb45 hrow1 hrow2 HROW1 HROW2 HROW1' HB45 hP5 hQ5 cP fP cQ fQ s0 s4 s5 s6 s7 q1 q2 hc6 hg1 hg2 HT3
      have R1 := Lib.hid (show ∀ W, Below w6.heap.size w6 W → Rd W (some ⟨g1, 0, none⟩) n1 (n1 + 3) 1 (u8s l1) from fun W hW => ((HR1.out.below hW).rd 0 n1 (n1 + 3) (u8s l1) (by rw [List.drop_zero, u8s_take, Nat.mul_one, ← E1.out]; simp) (by rw [u8s_length, List.length_append, E1.out]; omega) (by omega) (by have := HR1.out.big; omega)))
      have R2 := Lib.hid (show ∀ W, Below w6.heap.size w6 W → Rd W (some ⟨g2, 0, none⟩) n2 (n2 + 3) 1 (u8s l2) from fun W hW => ((HR2.out.below hW).rd 0 n2 (n2 + 3) (u8s l2) (by rw [List.drop_zero, u8s_take, Nat.mul_one, ← E2.out]; simp) (by rw [u8s_length, List.length_append, E2.out]; omega) (by omega) (by have := HR2.out.big; omega)))
      have zp0 : ((w5.setCell ⟨P, 2, none⟩ (.slice (some ⟨g1, 0, none⟩) n1 (n1 + 3))).setCell ⟨Q, 2, none⟩ (.slice (some ⟨g2, 0, none⟩) n2 (n2 + 3))).cell? ⟨P, 0, none⟩ = some (.int .i64 k1) := by rw [← hw6]; exact blk_cell HT6.out.p 0 _ rfl
      have zp1 : ((w5.setCell ⟨P, 2, none⟩ (.slice (some ⟨g1, 0, none⟩) n1 (n1 + 3))).setCell ⟨Q, 2, none⟩ (.slice (some ⟨g2, 0, none⟩) n2 (n2 + 3))).cell? ⟨P, 1, none⟩ = some (.int .i64 m1) := by rw [← hw6]; exact blk_cell HT6.out.p 1 _ rfl
      have zp2 : ((w5.setCell ⟨P, 2, none⟩ (.slice (some ⟨g1, 0, none⟩) n1 (n1 + 3))).setCell ⟨Q, 2, none⟩ (.slice (some ⟨g2, 0, none⟩) n2 (n2 + 3))).cell? ⟨P, 2, none⟩ = some (.slice (some ⟨g1, 0, none⟩) n1 (n1 + 3)) := by rw [← hw6]; exact blk_cell HT6.out.p 2 _ rfl
      obtain ⟨y, hy⟩ : ∃ z, z = effB k1 m1 l1 := ⟨_, rfl⟩
      have HY := Lib.hid hy
      clear hy
      go_wp2_with fail
      rw [← hw6]
      clear hw6 zp0 zp1 zp2
      refine (ebytes_any k1 m1 HK.out.1 HK.out.2 (R1.out w6 (Below.refl _ _)) (by omega)).mono ?_
      rw [← HY.out]
      rintro e w7 ⟨D1, a1, f1, rfl, hh, hb⟩
      have HX7 := Lib.hid hb; have HT7 := Lib.hid (t4_below HT6.out hb); have HD7 := Lib.hid hh
      have xb0 := blk_cell HT7.out.b1 0 _ rfl
      have xb1 := blk_cell HT7.out.b1 1 _ rfl
      have xb2 := blk_cell HT7.out.b1 2 _ rfl
      clear hb hh
      go_wp2_with fail
      refine (rebytes_any k1 m1 HK.out.1 HK.out.2 (H1.out.below HT7.out.bel) (by omega)).mono ?_
      rw [← HY.out]
      rintro e w8 ⟨D2, a2, f2, rfl, hrd, hfr, hb⟩
      have HX8 := Lib.hid (HX7.out.trans (hb.mono HX7.out.size)); have HT8 := Lib.hid (t4_below HT7.out hb); have HD8 := Lib.hid (held_ch HD7.out (Ch.of_below hb No) (fun _ _ => id))
      have qa := (held_rd HD8.out).ch (Ch.drew w8 No) (fun _ _ => id)
      have qb := hrd.ch (Ch.drew w8 No) (fun _ _ => id)
      have s0 : w8.drew.cell? ⟨B, 0, none⟩ = some (.int .i64 k1) ∧ w8.drew.cell? ⟨B, 1, none⟩ = some (.int .i64 m1) ∧ w8.drew.cell? ⟨B, 2, none⟩ = some (.slice A1 n1 c1) ∧ w8.drew.cell? ⟨B + 1, 0, none⟩ = some (.int .i64 k2) ∧ w8.drew.cell? ⟨B + 1, 1, none⟩ = some (.int .i64 m2) ∧ w8.drew.cell? ⟨B + 1, 2, none⟩ = some (.slice A2 n2 c2) ∧ w8.drew.cell? ⟨P, 0, none⟩ = some (.int .i64 k1) ∧ w8.drew.cell? ⟨P, 1, none⟩ = some (.int .i64 m1) ∧ w8.drew.cell? ⟨P, 2, none⟩ = some (.slice (some ⟨g1, 0, none⟩) n1 (n1 + 3)) ∧ w8.drew.cell? ⟨Q, 0, none⟩ = some (.int .i64 k2) ∧ w8.drew.cell? ⟨Q, 1, none⟩ = some (.int .i64 m2) ∧ w8.drew.cell? ⟨Q, 2, none⟩ = some (.slice (some ⟨g2, 0, none⟩) n2 (n2 + 3)) := ⟨blk_cell HT8.out.b1 0 _ rfl, blk_cell HT8.out.b1 1 _ rfl, blk_cell HT8.out.b1 2 _ rfl, blk_cell HT8.out.b2 0 _ rfl, blk_cell HT8.out.b2 1 _ rfl, blk_cell HT8.out.b2 2 _ rfl, blk_cell HT8.out.p 0 _ rfl, blk_cell HT8.out.p 1 _ rfl, blk_cell HT8.out.p 2 _ rfl, blk_cell HT8.out.q 0 _ rfl, blk_cell HT8.out.q 1 _ rfl, blk_cell HT8.out.q 2 _ rfl⟩
      clear hb hrd hfr xb0 xb1 xb2 HX7 HT7 HD7
      go_wp2_with fail
      go_region_held3 (fun W => W.cell? ⟨B, 0, none⟩ = some (.int .i64 k1) ∧ W.cell? ⟨B, 1, none⟩ = some (.int .i64 m1) ∧ W.cell? ⟨B, 2, none⟩ = some (.slice A1 n1 c1) ∧ W.cell? ⟨B + 1, 0, none⟩ = some (.int .i64 k2) ∧ W.cell? ⟨B + 1, 1, none⟩ = some (.int .i64 m2) ∧ W.cell? ⟨B + 1, 2, none⟩ = some (.slice A2 n2 c2) ∧ W.cell? ⟨P, 0, none⟩ = some (.int .i64 k1) ∧ W.cell? ⟨P, 1, none⟩ = some (.int .i64 m1) ∧ W.cell? ⟨P, 2, none⟩ = some (.slice (some ⟨g1, 0, none⟩) n1 (n1 + 3)) ∧ W.cell? ⟨Q, 0, none⟩ = some (.int .i64 k2) ∧ W.cell? ⟨Q, 1, none⟩ = some (.int .i64 m2) ∧ W.cell? ⟨Q, 2, none⟩ = some (.slice (some ⟨g2, 0, none⟩) n2 (n2 + 3))) (first | exact sd | exact sc | exact sb | exact sa | exact s0) (first | (go_at_call 21; ((with_reducible refine (same_any _ _ _ _ _ _ _ _ _ qa qb).mono ?_); rw [eqB_self]; rintro e wx ⟨rfl, rfl⟩)) | (go_at_call 46; ((with_reducible refine (check_any k1 m1 _ n1 _ _ (by omega)).mono ?_); rintro e Wa ⟨rfl, hba⟩; have sa := keep12 hba s0)) | (go_at_call 47; ((with_reducible refine (rcheck_any k1 m1 _ n1 _ _).mono ?_); rintro e Wb ⟨rfl, hbb'⟩; have hbb := hba.trans (hbb'.mono hba.size); have sb := keep12 hbb s0)) | (go_at_call 48; ((with_reducible refine (size_any k1 m1 _ n1 _ _ (by omega)).mono ?_); rintro e Wc ⟨rfl, hbc'⟩; have hbc := hbb.trans (hbc'.mono hbb.size); have sc := keep12 hbc s0)) | (go_at_call 49; ((with_reducible refine (rsize_any k1 m1 _ n1 _ _ (by omega)).mono ?_); rintro e Wd ⟨rfl, hbd'⟩; have hbd := hbc.trans (hbd'.mono hbc.size); have sd := keep12 hbd s0)))
      all_goals
        have hb9 : Below w8.heap.size w8 Wd := ((Ch.drew w8 No).below (Nat.le_refl _) (fun _ h => h.elim)).trans hbd
        have HX9 := Lib.hid (HX8.out.trans (hb9.mono HX8.out.size)); have HT9 := Lib.hid (t4_below HT8.out hb9); have HD9 := Lib.hid (held_ch HD8.out (Ch.of_below hb9 No) (fun _ _ => id))
        clear hb9 hba hbb' hbb hbc' hbc hbd' hbd sa sb sc sd s0 qa qb HX8 HT8 HD8
        have s0 : Wd.drew.cell? ⟨B, 0, none⟩ = some (.int .i64 k1) ∧ Wd.drew.cell? ⟨B, 1, none⟩ = some (.int .i64 m1) ∧ Wd.drew.cell? ⟨B, 2, none⟩ = some (.slice A1 n1 c1) ∧ Wd.drew.cell? ⟨B + 1, 0, none⟩ = some (.int .i64 k2) ∧ Wd.drew.cell? ⟨B + 1, 1, none⟩ = some (.int .i64 m2) ∧ Wd.drew.cell? ⟨B + 1, 2, none⟩ = some (.slice A2 n2 c2) ∧ Wd.drew.cell? ⟨P, 0, none⟩ = some (.int .i64 k1) ∧ Wd.drew.cell? ⟨P, 1, none⟩ = some (.int .i64 m1) ∧ Wd.drew.cell? ⟨P, 2, none⟩ = some (.slice (some ⟨g1, 0, none⟩) n1 (n1 + 3)) ∧ Wd.drew.cell? ⟨Q, 0, none⟩ = some (.int .i64 k2) ∧ Wd.drew.cell? ⟨Q, 1, none⟩ = some (.int .i64 m2) ∧ Wd.drew.cell? ⟨Q, 2, none⟩ = some (.slice (some ⟨g2, 0, none⟩) n2 (n2 + 3)) := ⟨blk_cell HT9.out.b1 0 _ rfl, blk_cell HT9.out.b1 1 _ rfl, blk_cell HT9.out.b1 2 _ rfl, blk_cell HT9.out.b2 0 _ rfl, blk_cell HT9.out.b2 1 _ rfl, blk_cell HT9.out.b2 2 _ rfl, blk_cell HT9.out.p 0 _ rfl, blk_cell HT9.out.p 1 _ rfl, blk_cell HT9.out.p 2 _ rfl, blk_cell HT9.out.q 0 _ rfl, blk_cell HT9.out.q 1 _ rfl, blk_cell HT9.out.q 2 _ rfl⟩
        have hX0 := HX9.out.drew
        have hT0 := HT9.out.bel.drew
        have HX0 := Lib.hid hX0; have HT0 := Lib.hid hT0
        clear hX0 hT0
        go_wp2_with fail
        go_region_held3 (fun W => W.cell? ⟨B, 0, none⟩ = some (.int .i64 k1) ∧ W.cell? ⟨B, 1, none⟩ = some (.int .i64 m1) ∧ W.cell? ⟨B, 2, none⟩ = some (.slice A1 n1 c1) ∧ W.cell? ⟨B + 1, 0, none⟩ = some (.int .i64 k2) ∧ W.cell? ⟨B + 1, 1, none⟩ = some (.int .i64 m2) ∧ W.cell? ⟨B + 1, 2, none⟩ = some (.slice A2 n2 c2) ∧ W.cell? ⟨P, 0, none⟩ = some (.int .i64 k1) ∧ W.cell? ⟨P, 1, none⟩ = some (.int .i64 m1) ∧ W.cell? ⟨P, 2, none⟩ = some (.slice (some ⟨g1, 0, none⟩) n1 (n1 + 3)) ∧ W.cell? ⟨Q, 0, none⟩ = some (.int .i64 k2) ∧ W.cell? ⟨Q, 1, none⟩ = some (.int .i64 m2) ∧ W.cell? ⟨Q, 2, none⟩ = some (.slice (some ⟨g2, 0, none⟩) n2 (n2 + 3))) (first | exact sd | exact sc | exact sb | exact sa | exact s0) (first | (go_at_call 50; ((with_reducible refine (esam_any k1 m1 k2 m2 (R1.out _ HX0.out) (R2.out _ HX0.out)).mono ?_); rintro e Wa ⟨rfl, hba⟩; have sa := keep12 hba s0)) | (go_at_call 51; ((with_reducible refine (resame_any k1 m1 k2 m2 ((H1.out.below HT0.out).below hba) ((H2.out.below HT0.out).below hba)).mono ?_); rintro e Wb ⟨rfl, hbb'⟩; have hbb := hba.trans (hbb'.mono hba.size); have sb := keep12 hbb s0)) | (go_at_call 52; ((with_reducible refine (eless_any k1 m1 k2 m2 (R1.out _ (HX0.out.trans (hbb.mono HX0.out.size))) (R2.out _ (HX0.out.trans (hbb.mono HX0.out.size)))).mono ?_); rintro e Wc ⟨rfl, hbc'⟩; have hbc := hbb.trans (hbc'.mono hbb.size); have sc := keep12 hbc s0)) | (go_at_call 53; ((with_reducible refine (reless_any k1 m1 k2 m2 ((H1.out.below HT0.out).below hbc) ((H2.out.below HT0.out).below hbc)).mono ?_); rintro e We ⟨rfl, hbd'⟩; have hbd := hbc.trans (hbd'.mono hbc.size); have sd := keep12 hbd s0)))
        all_goals
          have hb10 : Below Wd.heap.size Wd We := ((Ch.drew Wd No).below (Nat.le_refl _) (fun _ h => h.elim)).trans hbd
          have HX10 := Lib.hid (HX9.out.trans (hb10.mono HX9.out.size)); have HT10 := Lib.hid (t4_below HT9.out hb10); have HD10 := Lib.hid (held_ch HD9.out (Ch.of_below hb10 No) (fun _ _ => id))
          clear hb10 hba hbb' hbb hbc' hbc hbd' hbd sa sb sc sd s0 HX9 HT9 HD9 HX0 HT0
          go_wp2_with fail
          refine (over_held HD10.out).mono ?_
          rintro e wf ⟨rfl, hc⟩
          have HTf := Lib.hid (show T4 w wf B P Q 72 #[.int .i64 k1, .int .i64 m1, .slice A1 n1 c1] #[.int .i64 k2, .int .i64 m2, .slice A2 n2 c2] #[.int .i64 k1, .int .i64 m1, .slice (some ⟨g1, 0, none⟩) n1 (n1 + 3)] #[.int .i64 k2, .int .i64 m2, .slice (some ⟨g2, 0, none⟩) n2 (n2 + 3)] from ⟨blk_ch HT10.out.b1 hc (by omega), blk_ch HT10.out.b2 hc (by omega), blk_ch HT10.out.p hc (by omega), blk_ch HT10.out.q hc (by omega), ((Ch.of_below HT10.out.bel (fun k => w6.heap.size ≤ k)).trans hc (fun i hi => .inl hi)).below (Nat.le_refl _) (fun j hj => by omega)⟩)
          have HRf1 := Lib.hid ((HR1.out.below HX10.out).ch hc (by omega)); have HRf2 := Lib.hid ((HR2.out.below HX10.out).ch hc (by omega))
          have yp := blk_cell HTf.out.p 2 _ rfl
          have yb := blk_cell HTf.out.b1 2 _ rfl
          clear hc
          go_wp2_with fail
          refine (kept_any _ _ _ _ _ _ _ HRf1.out (H1.out.below HTf.out.bel) (by omega)).mono ?_
          rintro e wg ⟨rfl, hb⟩
          have HTg := Lib.hid (t4_below HTf.out hb); have HRg2 := Lib.hid (HRf2.out.below hb)
          clear hb yp yb
          have yp := blk_cell HTg.out.q 2 _ rfl
          have yb := blk_cell HTg.out.b2 2 _ rfl
          go_wp2_with fail
          refine (kept_any _ _ _ _ _ _ _ HRg2.out (H2.out.below HTg.out.bel) (by omega)).mono ?_
          rintro e wh ⟨rfl, hb⟩
          have HTh := Lib.hid (HTg.out.bel.trans (hb.mono HTg.out.bel.size))
          clear hb yp yb
          go_wp2_with fail
          refine (eawake_any _).mono ?_
          rintro e wi ⟨rfl, hb⟩
          go_wp2
          go_ret
          exact ⟨rfl, HTh.out.trans (hb.mono HTh.out.size)⟩
end Go.Proofs.Ytondodhpmghogaa
