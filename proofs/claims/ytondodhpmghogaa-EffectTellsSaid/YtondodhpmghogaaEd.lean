/- Walk: an effect's bytes are read as it, and back (EffectBack). Conditions: the arguments are as they come in. -/
import Derived.Test.YtondodhpmghogaaEc
import Derived.Test.YtondodhpmghogaaEa
namespace Go.Proofs.Ytondodhpmghogaa
open Go.RowKit
set_option linter.unusedVariables false
set_option linter.unusedSimpArgs false

theorem two_new (w : World) (a : Array Value) (s : Nat) (b : Array Value) (t : Nat) : Blk ((w.alloc (.cells a s)).alloc (.cells b t)) w.heap.size s a ∧ Blk ((w.alloc (.cells a s)).alloc (.cells b t)) (w.heap.size + 1) t b ∧ Below w.heap.size w ((w.alloc (.cells a s)).alloc (.cells b t)) := by
  have h1 := box_below w (.cells a s)
  have h2 := box_below (w.alloc (.cells a s)) (.cells b t)
  refine ⟨blk_below (blk_new _ _ _) h2, ?_, h1.trans (h2.mono (by simp))⟩
  have := blk_new (w.alloc (.cells a s)) t b
  rwa [World.size_alloc] at this
set_option maxRecDepth 100000 in
set_option maxHeartbeats 4000000 in
/-- the first half: the effect's bytes, and what they are read as -/
theorem eback_law (k m : Int) (A : Option Addr) (n c : Nat) (l : List UInt8) (A2 : Option Addr) (n2 c2 : Nat) (l2 : List UInt8) (w : World)
    (h : Rd w A n c 1 (u8s l) ∧ k ≤ 9223372036854775807 ∧ m ≤ 9223372036854775807) (h2 : Rd w A2 n2 c2 1 (u8s l2)) :
    Calls Try.prog 12 #[.agg #[.int .i64 k, .int .i64 m, .slice A n c], .slice A2 n2 c2] w fun e w' => e = .returned (.bool true) ∧ Below w.heap.size w w' := by
  obtain ⟨r, hk, hm⟩ := h
  have e1 : l.length = n := by have := r.len; simpa using this
  have e2 : l2.length = n2 := by have := h2.len; simpa using this
  have g63 := h2.small
  have g62 := r.small
  have H1 := Lib.hid r; have H2 := Lib.hid h2; have E1 := Lib.hid e1; have E2 := Lib.hid e2; have HK := Lib.hid (And.intro hk hm)
  obtain ⟨B, hB⟩ : ∃ z, z = w.heap.size := ⟨_, rfl⟩
  obtain ⟨V, hV⟩ : ∃ z, z = w.alloc (.cells #[.int .i64 k, .int .i64 m, .slice A n c] 72) := ⟨_, rfl⟩
  have HBL0 := Lib.hid (show Blk V B 72 #[.int .i64 k, .int .i64 m, .slice A n c] by rw [hV, hB]; exact blk_new _ _ _)
  have HB0 := Lib.hid (show Below w.heap.size w V by rw [hV]; exact box_below _ _)
  clear r h2 e1 e2 hk hm
  by_cases g1 : 1200 < n
  · have G1 := Lib.hid (decide_eq_true g1)
    clear g1
    go_enter Try.func12, Try.ntmps12
    go_wp2_with fail
    rw [← hV, ← hB]
    clear hV hB
    refine (eknown_any _).mono ?_
    rintro e w1 ⟨rfl, hb⟩
    have HB1 := Lib.hid (HB0.out.trans (hb.mono HB0.out.size)); have HBL1 := Lib.hid (blk_below HBL0.out hb)
    clear hb
    have x0 := blk_cell HBL1.out 0 _ rfl
    have x1 := blk_cell HBL1.out 1 _ rfl
    have x2 := blk_cell HBL1.out 2 _ rfl
    go_wp2_with fail
    refine (elong_any _ _ _ _ _ _).mono ?_
    rw [G1.out]
    rintro e w2 ⟨rfl, hb⟩
    have HB2 := Lib.hid (HB1.out.trans (hb.mono HB1.out.size)); have HBL2 := Lib.hid (blk_below HBL1.out hb)
    clear hb x0 x1 x2
    go_wp2
    go_ret
    exact ⟨rfl, HB2.out⟩
  have hn : n ≤ 1200 := by omega
  have G1 := Lib.hid (decide_eq_false g1)
  clear g1
  by_cases g2 : 2000 < n2
  · have G2 : decide ((2000 : Int) < (n2 : Int)) = true := decide_eq_true (by omega)
    clear g2
    go_enter Try.func12, Try.ntmps12
    go_wp2_with fail
    rw [← hV, ← hB]
    clear hV hB
    refine (eknown_any _).mono ?_
    rintro e w1 ⟨rfl, hb⟩
    have HB1 := Lib.hid (HB0.out.trans (hb.mono HB0.out.size)); have HBL1 := Lib.hid (blk_below HBL0.out hb)
    clear hb
    have x0 := blk_cell HBL1.out 0 _ rfl
    have x1 := blk_cell HBL1.out 1 _ rfl
    have x2 := blk_cell HBL1.out 2 _ rfl
    go_wp2_with fail
    refine (elong_any _ _ _ _ _ _).mono ?_
    rw [G1.out]
    rintro e w2 ⟨rfl, hb⟩
    have HB2 := Lib.hid (HB1.out.trans (hb.mono HB1.out.size)); have HBL2 := Lib.hid (blk_below HBL1.out hb)
    clear hb x0 x1 x2
    go_wp2
    go_ret
    exact ⟨rfl, HB2.out⟩
  have hn2 : n2 ≤ 2000 := by omega
  have G2 : decide ((2000 : Int) < (n2 : Int)) = false := decide_eq_false (by omega)
  clear g2
  obtain ⟨q, hq⟩ : ∃ z, z = effR l2 := ⟨_, rfl⟩
  have HQ := Lib.hid hq
  clear hq
  by_cases hc : chk k m l.length = 0
  · obtain ⟨z, hz, hrz, hzl⟩ := effB_ok k m l hc
    have Z := Lib.hid hz; have ZR := Lib.hid hrz; have HC := Lib.hid (show chk k m n = 0 by rw [← E1.out]; exact hc)
    clear hz hrz hc
    go_enter Try.func12, Try.ntmps12
    go_wp2_with fail
    rw [← hV, ← hB]
    clear hV hB
    refine (eknown_any _).mono ?_
    rintro e w1 ⟨rfl, hb⟩
    have HB1 := Lib.hid (HB0.out.trans (hb.mono HB0.out.size)); have HBL1 := Lib.hid (blk_below HBL0.out hb)
    clear hb
    have x0 := blk_cell HBL1.out 0 _ rfl
    have x1 := blk_cell HBL1.out 1 _ rfl
    have x2 := blk_cell HBL1.out 2 _ rfl
    go_wp2_with fail
    refine (elong_any _ _ _ _ _ _).mono ?_
    rw [G1.out]
    rintro e w2 ⟨rfl, hb⟩
    have HB2 := Lib.hid (HB1.out.trans (hb.mono HB1.out.size)); have HBL2 := Lib.hid (blk_below HBL1.out hb)
    clear hb x0 x1 x2
    have x0 := blk_cell HBL2.out 0 _ rfl
    have x1 := blk_cell HBL2.out 1 _ rfl
    have x2 := blk_cell HBL2.out 2 _ rfl
    go_wp2_with fail
    refine (ebytes_any k m HK.out.1 HK.out.2 (H1.out.below HB2.out) (by omega)).mono ?_
    rw [Z.out]
    rintro e w3 ⟨D, d, f, he, hh, hb⟩
    cases he
    have HB3 := Lib.hid (HB2.out.trans (hb.mono HB2.out.size)); have HD3 := Lib.hid (show Rd w3 D d f 1 (u8s z) by simpa using held_rd hh); have HBL3 := Lib.hid (blk_below HBL2.out hb)
    have hdl : z.length = d := by have := HD3.out.len; simpa using this
    have hd9 : d ≤ 2000 := by omega
    clear hb hh hdl x0 x1 x2
    have x0 := blk_cell HBL3.out 0 _ rfl
    have x1 := blk_cell HBL3.out 1 _ rfl
    have x2 := blk_cell HBL3.out 2 _ rfl
    go_wp2_with fail
    refine (check_any k m A n c _ (by omega)).mono ?_
    rw [HC.out]
    rintro e w4 ⟨rfl, hb⟩
    have HB4 := Lib.hid (HB3.out.trans (hb.mono HB3.out.size)); have HBL4 := Lib.hid (blk_below HBL3.out hb); have HD4 := Lib.hid (HD3.out.below hb)
    clear hb x0 x1 x2
    go_wp2_with fail
    refine (eread_any HD4.out (by omega)).mono ?_
    rw [ZR.out]
    rintro e w5 ⟨D5, d5, f5, he, hh, hb⟩
    cases he
    have HB5 := Lib.hid (HB4.out.trans (hb.mono HB4.out.size)); have HBL5 := Lib.hid (blk_below HBL4.out hb); have HD5 := Lib.hid (show Rd w5 D5 d5 f5 1 (u8s l) from held_rd hh)
    clear hb hh
    obtain ⟨X, hX⟩ : ∃ z, z = w5.heap.size := ⟨_, rfl⟩
    obtain ⟨w6, hw6⟩ : ∃ z, z = (w5.alloc (.cells #[.int .i64 k, .int .i64 m, .slice D5 d5 f5] 72)).alloc (.cells #[.int .i64 0, .int .i64 0] 54) := ⟨_, rfl⟩
    obtain ⟨b1, b2, b3⟩ := two_new w5 #[.int .i64 k, .int .i64 m, .slice D5 d5 f5] 72 #[.int .i64 0, .int .i64 0] 54
    have ec0 := blk_cell (blk_below HBL5.out b3) 0 _ rfl
    have ec1 := blk_cell (blk_below HBL5.out b3) 1 _ rfl
    have ec2 := blk_cell (blk_below HBL5.out b3) 2 _ rfl
    rw [← hw6, ← hX] at b1
    rw [← hw6] at b3
    have HX6 := Lib.hid b1; have HB6 := Lib.hid (HB5.out.trans (b3.mono HB5.out.size)); have HBL6 := Lib.hid (blk_below HBL5.out b3); have HD6 := Lib.hid (HD5.out.below b3)
    clear b1 b2 b3
    go_wp2_with fail
    rw [← hw6, ← hX]
    clear hw6 hX ec0 ec1 ec2
    refine (esame_any k m k m HD6.out (H1.out.below HB6.out)).mono ?_
    rw [sameE_self]
    rintro e w7 ⟨rfl, hb⟩
    have HB7 := Lib.hid (HB6.out.trans (hb.mono HB6.out.size)); have hx7 := blk_below HX6.out hb; have hbl7 := blk_below HBL6.out hb; have HD7 := Lib.hid (HD6.out.below hb)
    have ec0 := blk_cell hbl7 0 _ rfl
    have ec1 := blk_cell hbl7 1 _ rfl
    have ec2 := blk_cell hbl7 2 _ rfl
    have xc0 := blk_cell hx7 0 _ rfl
    have xc1 := blk_cell hx7 1 _ rfl
    have xc2 := blk_cell hx7 2 _ rfl
    clear hb hx7 hbl7
    go_wp2_with fail
    refine (esam_any k m k m HD7.out (H1.out.below HB7.out)).mono ?_
    rw [sameE_self]
    rintro e w8 ⟨rfl, hb⟩
    have HB8 := Lib.hid (HB7.out.trans (hb.mono HB7.out.size))
    clear hb ec0 ec1 ec2 xc0 xc1 xc2
    go_wp2_with fail
    refine (eread_any (H2.out.below HB8.out) (by omega)).mono ?_
    rw [← HQ.out]
    rintro e wa ⟨Da, da, fa, rfl, hh, hb⟩
    have HBa := Lib.hid (HB8.out.trans (hb.mono HB8.out.size)); have HDa := Lib.hid (held_rd hh)
    clear hb hh
    obtain ⟨Y, hY⟩ : ∃ z, z = wa.heap.size := ⟨_, rfl⟩
    obtain ⟨wb, hwb⟩ : ∃ z, z = (wa.alloc (.cells #[.int .i64 q.k, .int .i64 q.m, .slice Da da fa] 72)).alloc (.cells #[.int .i64 q.e, .int .i64 q.p] 54) := ⟨_, rfl⟩
    obtain ⟨b1, b2, b3⟩ := two_new wa #[.int .i64 q.k, .int .i64 q.m, .slice Da da fa] 72 #[.int .i64 q.e, .int .i64 q.p] 54
    rw [← hwb, ← hY] at b1 b2
    rw [← hwb] at b3
    have HYb := Lib.hid b1; have HFb := Lib.hid b2; have HBb := Lib.hid (HBa.out.trans (b3.mono HBa.out.size)); have HDb := Lib.hid (HDa.out.below b3)
    clear b1 b2 b3
    by_cases hqe : q.e = 0
    · have gq : (q.e != 0) = false := by simpa using hqe
      obtain ⟨a1, a2, a3⟩ := effR_back l2 (by rw [← HQ.out]; exact hqe)
      rw [← HQ.out] at a1 a2 a3
      have hF := chk_fine a1
      have HW := Lib.hid (show q.k ≤ 9223372036854775807 ∧ q.m ≤ 9223372036854775807 by unfold Fine at hF; omega)
      have hql : q.l.length = da := by have := HDb.out.len; simpa using this
      have hqn : da ≤ 1000 := by unfold Fine at hF; omega
      have HA2 := Lib.hid a2
      clear hqe a1 a2 a3 hF hql
      go_wp2_with fail
      rw [← hwb]
      clear hwb
      refine (ebytes_any q.k q.m HW.out.1 HW.out.2 HDb.out (by omega)).mono ?_
      rw [HA2.out]
      rintro e wc ⟨Dc, dc, fc, he, hh, hb⟩
      cases he
      have HBc := Lib.hid (HBb.out.trans (hb.mono HBb.out.size)); have HDc := Lib.hid (show Rd wc Dc dc fc 1 (u8s l2) by simpa using held_rd hh)
      clear hb hh
      go_wp2_with fail
      refine (same_any _ _ _ _ _ _ _ _ _ HDc.out (H2.out.below HBc.out)).mono ?_
      rw [eqB_self]
      rintro e wd ⟨rfl, rfl⟩
      go_wp2
      go_ret
      exact ⟨rfl, HBc.out⟩
    · have gq : (q.e != 0) = true := by simpa using hqe
      have hz : q.k = 0 ∧ q.m = 0 ∧ q.l = [] := by
        rcases effR_cases l2 with ⟨_, h1⟩ | ⟨h0, _⟩
        · rw [← HQ.out] at h1; exact h1
        · rw [← HQ.out] at h0; exact absurd h0 hqe
      have HSZ := Lib.hid (show sameE q.k q.m q.l 0 0 [] = true by rw [hz.1, hz.2.1, hz.2.2]; exact sameE_self 0 0 [])
      have hpl := effR_place l2 (by rw [E2.out]; omega)
      rw [← HQ.out, E2.out] at hpl
      have gp0 : decide ((0 : Int) ≤ q.p) = true := decide_eq_true hpl.1
      have gp1 : decide (q.p ≤ (n2 : Int)) = true := decide_eq_true hpl.2
      clear hqe hz hpl
      go_wp2_with fail
      rw [← hwb, ← hY]
      clear hwb hY
      refine (esame_any q.k q.m 0 0 (l2 := []) HDb.out (nil_rd _ 1)).mono ?_
      rw [HSZ.out]
      rintro e wc ⟨rfl, hb⟩
      have HBc := Lib.hid (HBb.out.trans (hb.mono HBb.out.size))
      have hf := blk_below HFb.out hb
      have f1 := blk_cell hf 1 _ rfl
      clear hb hf
      go_wp2_with fail
      go_ret
      exact ⟨rfl, HBc.out⟩
  · have Z := Lib.hid (effB_bad k m l hc).1
    have HC := Lib.hid (show chk k m n = 2 by rw [← E1.out]; exact (effB_bad k m l hc).2)
    clear hc
    go_enter Try.func12, Try.ntmps12
    go_wp2_with fail
    rw [← hV, ← hB]
    clear hV hB
    refine (eknown_any _).mono ?_
    rintro e w1 ⟨rfl, hb⟩
    have HB1 := Lib.hid (HB0.out.trans (hb.mono HB0.out.size)); have HBL1 := Lib.hid (blk_below HBL0.out hb)
    clear hb
    have x0 := blk_cell HBL1.out 0 _ rfl
    have x1 := blk_cell HBL1.out 1 _ rfl
    have x2 := blk_cell HBL1.out 2 _ rfl
    go_wp2_with fail
    refine (elong_any _ _ _ _ _ _).mono ?_
    rw [G1.out]
    rintro e w2 ⟨rfl, hb⟩
    have HB2 := Lib.hid (HB1.out.trans (hb.mono HB1.out.size)); have HBL2 := Lib.hid (blk_below HBL1.out hb)
    clear hb x0 x1 x2
    have x0 := blk_cell HBL2.out 0 _ rfl
    have x1 := blk_cell HBL2.out 1 _ rfl
    have x2 := blk_cell HBL2.out 2 _ rfl
    go_wp2_with fail
    refine (ebytes_any k m HK.out.1 HK.out.2 (H1.out.below HB2.out) (by omega)).mono ?_
    rw [Z.out]
    rintro e w3 ⟨D, d, f, he, hh, hb⟩
    cases he
    have HB3 := Lib.hid (HB2.out.trans (hb.mono HB2.out.size)); have hdl := held_len hh; have HBL3 := Lib.hid (blk_below HBL2.out hb)
    have hd0 : d = 0 := by simpa using hdl.symm
    subst hd0
    clear hb hh hdl x0 x1 x2
    have x0 := blk_cell HBL3.out 0 _ rfl
    have x1 := blk_cell HBL3.out 1 _ rfl
    have x2 := blk_cell HBL3.out 2 _ rfl
    go_wp2_with fail
    refine (check_any k m A n c _ (by omega)).mono ?_
    rw [HC.out]
    rintro e w4 ⟨rfl, hb⟩
    have HB4 := Lib.hid (HB3.out.trans (hb.mono HB3.out.size))
    clear hb x0 x1 x2
    go_wp2_with fail
    refine (eread_any (H2.out.below HB4.out) (by omega)).mono ?_
    rw [← HQ.out]
    rintro e wa ⟨Da, da, fa, rfl, hh, hb⟩
    have HBa := Lib.hid (HB4.out.trans (hb.mono HB4.out.size)); have HDa := Lib.hid (held_rd hh)
    clear hb hh
    obtain ⟨Y, hY⟩ : ∃ z, z = wa.heap.size := ⟨_, rfl⟩
    obtain ⟨wb, hwb⟩ : ∃ z, z = (wa.alloc (.cells #[.int .i64 q.k, .int .i64 q.m, .slice Da da fa] 72)).alloc (.cells #[.int .i64 q.e, .int .i64 q.p] 54) := ⟨_, rfl⟩
    obtain ⟨b1, b2, b3⟩ := two_new wa #[.int .i64 q.k, .int .i64 q.m, .slice Da da fa] 72 #[.int .i64 q.e, .int .i64 q.p] 54
    rw [← hwb, ← hY] at b1 b2
    rw [← hwb] at b3
    have HYb := Lib.hid b1; have HFb := Lib.hid b2; have HBb := Lib.hid (HBa.out.trans (b3.mono HBa.out.size)); have HDb := Lib.hid (HDa.out.below b3)
    clear b1 b2 b3
    by_cases hqe : q.e = 0
    · have gq : (q.e != 0) = false := by simpa using hqe
      obtain ⟨a1, a2, a3⟩ := effR_back l2 (by rw [← HQ.out]; exact hqe)
      rw [← HQ.out] at a1 a2 a3
      have hF := chk_fine a1
      have HW := Lib.hid (show q.k ≤ 9223372036854775807 ∧ q.m ≤ 9223372036854775807 by unfold Fine at hF; omega)
      have hql : q.l.length = da := by have := HDb.out.len; simpa using this
      have hqn : da ≤ 1000 := by unfold Fine at hF; omega
      have HA2 := Lib.hid a2
      clear hqe a1 a2 a3 hF hql
      go_wp2_with fail
      rw [← hwb]
      clear hwb
      refine (ebytes_any q.k q.m HW.out.1 HW.out.2 HDb.out (by omega)).mono ?_
      rw [HA2.out]
      rintro e wc ⟨Dc, dc, fc, he, hh, hb⟩
      cases he
      have HBc := Lib.hid (HBb.out.trans (hb.mono HBb.out.size)); have HDc := Lib.hid (show Rd wc Dc dc fc 1 (u8s l2) by simpa using held_rd hh)
      clear hb hh
      go_wp2_with fail
      refine (same_any _ _ _ _ _ _ _ _ _ HDc.out (H2.out.below HBc.out)).mono ?_
      rw [eqB_self]
      rintro e wd ⟨rfl, rfl⟩
      go_wp2
      go_ret
      exact ⟨rfl, HBc.out⟩
    · have gq : (q.e != 0) = true := by simpa using hqe
      have hz : q.k = 0 ∧ q.m = 0 ∧ q.l = [] := by
        rcases effR_cases l2 with ⟨_, h1⟩ | ⟨h0, _⟩
        · rw [← HQ.out] at h1; exact h1
        · rw [← HQ.out] at h0; exact absurd h0 hqe
      have HSZ := Lib.hid (show sameE q.k q.m q.l 0 0 [] = true by rw [hz.1, hz.2.1, hz.2.2]; exact sameE_self 0 0 [])
      have hpl := effR_place l2 (by rw [E2.out]; omega)
      rw [← HQ.out, E2.out] at hpl
      have gp0 : decide ((0 : Int) ≤ q.p) = true := decide_eq_true hpl.1
      have gp1 : decide (q.p ≤ (n2 : Int)) = true := decide_eq_true hpl.2
      clear hqe hz hpl
      go_wp2_with fail
      rw [← hwb, ← hY]
      clear hwb hY
      refine (esame_any q.k q.m 0 0 (l2 := []) HDb.out (nil_rd _ 1)).mono ?_
      rw [HSZ.out]
      rintro e wc ⟨rfl, hb⟩
      have HBc := Lib.hid (HBb.out.trans (hb.mono HBb.out.size))
      have hf := blk_below HFb.out hb
      have f1 := blk_cell hf 1 _ rfl
      clear hb hf
      go_wp2_with fail
      go_ret
      exact ⟨rfl, HBc.out⟩
end Go.Proofs.Ytondodhpmghogaa
