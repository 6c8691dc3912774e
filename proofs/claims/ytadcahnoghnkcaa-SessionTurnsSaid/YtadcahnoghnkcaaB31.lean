/- Walk of hand: a packet in the air is handed over, or lost (to the first end). Conditions: the world is as turns make it. -/
import Derived.Test.YtadcahnoghnkcaaB30
namespace Go.Proofs.Ytadcahnoghnkcaa
open Go.RowKit
set_option linter.unusedVariables false
set_option linter.unusedSimpArgs false
attribute [local go_sem] Oper.semAt_some

set_option maxRecDepth 100000 in
set_option maxHeartbeats 8000000 in
theorem hand0_any {w : World} {B : Nat} {T : Nat → Nat} {M : Nat} {x : Ws} {W : Wd} (h : WdI w B T M x W) (hM : M ≤ 500000) (hair : W.air.length ≤ 200) (hep : ∀ i, (W.e i).ep ≠ 0) (htk : ∀ i, (W.took i).length ≤ 100000) (u : Tu) (k : Nat) (hk : k < W.air.length) (hpick : pick u.wh (W.air.length : Int) = (k : Int)) {pk : Pk} (hpk : W.air[k]? = some (pk, false)) (hpl : pk.l.length ≤ 1000000) :
    Calls Try.prog 72 #[.pointer (some ⟨B, 0, none⟩), .agg #[.int .i64 u.k, .int .i64 u.wh, .bool u.o, .slice u.M u.m u.d]] w (StepQ w B T (M + 8) x.P (W.hand u.k k)) := by
  have hfl : x.fs.length = W.air.length := by rw [← h.airl, List.length_map]
  obtain ⟨g, c, hva, hnc, hc63⟩ := flies_some h.air (by omega)
  have hwi := wdi_cell h
  have HT1 := agr_ext T w.heap.size (fun _ => 0)
  obtain ⟨T1, hT1⟩ : ∃ T1, T1 = ext T w.heap.size (fun _ => 0) := ⟨_, rfl⟩
  have hz1 : ∀ k, w.heap.size ≤ k → T1 k = 0 := fun k hk => by rw [hT1]; exact ext_new _ _ _ hk
  rw [← hT1] at HT1
  have hb1 : Below w.heap.size w (w.alloc (.cells u.cells.toArray 50)) := (Below.refl _ w).alloc (Nat.le_refl _) _
  have hX := blk_new w 50 u.cells.toArray
  obtain ⟨W1, hW1⟩ : ∃ W1, W1 = w.alloc (.cells u.cells.toArray 50) := ⟨_, rfl⟩
  rw [← hW1] at hb1 hX
  have h1 := h.below hb1 HT1
  have a2 : W1.cell? ⟨B, 2, none⟩ = some (.slice (some ⟨g, 0, none⟩) x.fs.length c) := by rw [← hva]; exact (wdi_cell h1).2.1
  have b0 : W1.cell? ⟨w.heap.size, 0, none⟩ = some (.int .i64 u.k) := blk_cell hX 0 _ rfl
  have b1 : W1.cell? ⟨w.heap.size, 1, none⟩ = some (.int .i64 u.wh) := blk_cell hX 1 _ rfl
  have H1 := Lib.hid h1; have HB1 := Lib.hid hb1; have HX1 := Lib.hid hX; have HW1 := Lib.hid hW1; have HZ1 := Lib.hid hz1; have HTT := Lib.hid HT1; have HVA := Lib.hid hva; have HFL := Lib.hid hfl; have HPK := Lib.hid hpk; have HEP := Lib.hid hep; have HTK := Lib.hid htk
  have HWL := Lib.hid (blk_lt h.mem)
  obtain ⟨N, hN⟩ : ∃ N, N = x.fs.length := ⟨_, rfl⟩
  rw [← hN] at a2 hnc hfl
  rw [← hfl] at hpick hk hair
  have HN := Lib.hid hN
  have HPL := Lib.hid hpl
  have HC63 := Lib.hid hc63; have HPI := Lib.hid hpick; have HMM := Lib.hid hM; have HK := Lib.hid hk; have HNC := Lib.hid hnc; have HAIR := Lib.hid hair
  have hN0 : 0 < N := by omega
  clear hc63 hpick hM hk hnc hair hfl
  clear h hwi HT1 hT1 hz1 hb1 hX hW1 h1 hva hpk hN hpl hep htk
  have r2 : (w.alloc (.cells #[.int .i64 u.k, .int .i64 u.wh, .bool u.o, .slice u.M u.m u.d] 50)).cell? ⟨B, 2, none⟩ = some (.slice (some ⟨g, 0, none⟩) N c) := by rw [show w.alloc (.cells #[.int .i64 u.k, .int .i64 u.wh, .bool u.o, .slice u.M u.m u.d] 50) = W1 from HW1.out.symm]; exact a2
  have g0 : ((N : Int) == 0) = false := by simp; omega
  have HN0 := Lib.hid hN0
  clear hN0
  go_enter Try.func72, Try.ntmps72
  go_wp2_with fail
  rw [show w.alloc (.cells #[.int .i64 u.k, .int .i64 u.wh, .bool u.o, .slice u.M u.m u.d] 50) = W1 from HW1.out.symm]
  obtain ⟨X, hX⟩ : ∃ X, X = w.heap.size := ⟨_, rfl⟩
  have HXX := Lib.hid hX
  rw [← hX] at b0 b1 HX1 ⊢
  clear hX r2
  go_quiet ((go_at_call 36; exact Calls.quiet_of_same ((pick_any u.wh (N : Int) _ (by have := HAIR.out; omega)).mono fun e w' h => ⟨h.1, h.2.symm⟩)))
  rw [HPI.out]
  have hc2 := ch_drewN No W1 nq
  have h2 := H1.out.keep hc2 (fun _ _ => id) (agr_refl _ _)
  have hX2 := blk_ch HX1.out hc2 id
  have hb2 : Below w.heap.size w (W1.drewN nq) := HB1.out.trans (hc2.below HB1.out.size (fun _ h => h.elim))
  obtain ⟨W2, hW2⟩ : ∃ V, V = W1.drewN nq := ⟨_, rfl⟩
  rw [← hW2] at h2 hX2 hb2 ⊢
  clear hc2 hW2 H1 HX1 HB1 a2 b0 b1 HW1
  have hf2 : Flies W2 T1 5 (.slice (some ⟨g, 0, none⟩) x.fs.length c) x.fs := by rw [← HVA.out]; exact h2.air
  obtain ⟨p, hp, c0, c1, c2, c3, c4, c5, hh⟩ := flies_get hf2 (k := k) (by rw [← HN.out]; exact HK.out)
  obtain ⟨⟨pk', aw⟩, A, n, cc⟩ := p
  have hpe : (pk', aw) = (pk, false) := by
    have h3 := HPK.out
    rw [← h2.airl, List.getElem?_map, hp] at h3
    exact Option.some.inj h3
  injection hpe with hp1 hp2
  subst hp1
  subst hp2
  obtain ⟨fr, to, nu, ac, l⟩ := pk'
  simp only at c0 c1 c2 c3 c4 c5 hh
  have HH := Lib.hid hh
  have H2 := Lib.hid h2; have HX2 := Lib.hid hX2; have HB2 := Lib.hid hb2
  have HBOD := Lib.hid (show ∀ b, A = some b → T1 b.block = 1 from fun b hb => h2.air.bod _ (List.mem_of_getElem? hp) b hb)
  have d0 : W2.cell? ⟨X, 0, none⟩ = some (.int .i64 u.k) := blk_cell hX2 0 _ rfl
  have e2 : W2.cell? ⟨B, 2, none⟩ = some (.slice (some ⟨g, 0, none⟩) N c) := by rw [HN.out, ← HVA.out]; exact (wdi_cell h2).2.1
  have hk := HK.out
  have hair := HAIR.out
  clear hh h2 hX2 hb2 hf2 hp
  have hal : Below W2.heap.size W2 (W2.alloc (.cells (flCells ((⟨fr, to, nu, ac, l⟩, false), A, n, cc)).toArray 81)) := (Below.refl _ _).alloc (Nat.le_refl _) _
  have rd0 : (W2.alloc (.cells #[.int .i64 fr, .int .i64 to, .int .i64 nu, .int .i64 ac, .slice A n cc, .bool false] 81)).cell? ⟨X, 0, none⟩ = some (.int .i64 u.k) := below_cell hal d0
  have hF0 := blk_new W2 81 (flCells ((⟨fr, to, nu, ac, l⟩, false), A, n, cc)).toArray
  obtain ⟨W3, hW3⟩ : ∃ V, V = W2.alloc (.cells (flCells ((⟨fr, to, nu, ac, l⟩, false), A, n, cc)).toArray 81) := ⟨_, rfl⟩
  rw [← hW3] at hal hF0
  have HS3 : Hid (HS w W3 B T T1 M x W X W2.heap.size u.cells.toArray (flCells ((⟨fr, to, nu, ac, l⟩, false), A, n, cc)).toArray) := Lib.hid ⟨H2.out.below hal (agr_refl _ _), Ch.of_below (HB2.out.trans (hal.mono HB2.out.size)) _, HTT.out, blk_below HX2.out hal, HZ1.out _ (by have := HXX.out; omega), hF0, HZ1.out _ HB2.out.size⟩
  have HH3 := Lib.hid (held_ch HH.out (Ch.of_below hal No) (fun _ _ => id))
  have HW3 := Lib.hid hW3
  clear hal hF0 hW3 H2 HX2 HB2 HH HZ1 HTT
  by_cases hk4 : u.k = 4
  · have g4 : (u.k == 4) = true := by simpa using hk4
    have hk5 : u.k ≠ 5 := by omega
    have g5 : (u.k == 5) = false := by simpa using hk5
    have HK4 := Lib.hid hk4
    clear hk4
    go_wp2_with fail
    rw [show W2.alloc (.cells #[.int .i64 fr, .int .i64 to, .int .i64 nu, .int .i64 ac, .slice A n cc, .bool false] 81) = W3 from HW3.out.symm]
    obtain ⟨F, hF⟩ : ∃ F, F = W2.heap.size := ⟨_, rfl⟩
    rw [← hF] at HS3 ⊢
    clear hF HW3 rd0 c0 c1 c2 c3 c4 c5 e2 d0
    have d0 : W3.cell? ⟨X, 0, none⟩ = some (.int .i64 u.k) := blk_cell HS3.out.bx 0 _ rfl
    have f0 : W3.cell? ⟨F, 0, none⟩ = some (.int .i64 fr) := blk_cell HS3.out.bf 0 _ rfl
    have f1 : W3.cell? ⟨F, 1, none⟩ = some (.int .i64 to) := blk_cell HS3.out.bf 1 _ rfl
    have f2 : W3.cell? ⟨F, 2, none⟩ = some (.int .i64 nu) := blk_cell HS3.out.bf 2 _ rfl
    have f3 : W3.cell? ⟨F, 3, none⟩ = some (.int .i64 ac) := blk_cell HS3.out.bf 3 _ rfl
    have f4 : W3.cell? ⟨F, 4, none⟩ = some (.slice A n cc) := blk_cell HS3.out.bf 4 _ rfl
    have f5 : W3.cell? ⟨F, 5, none⟩ = some (.bool false) := blk_cell HS3.out.bf 5 _ rfl
    have hTc := agr_ext T1 W3.heap.size (fun _ => 0)
    obtain ⟨Tc, hTcd⟩ : ∃ T', T' = ext T1 W3.heap.size (fun _ => 0) := ⟨_, rfl⟩
    have HZC := Lib.hid (show ∀ q, W3.heap.size ≤ q → Tc q = 0 from fun q hq => by rw [hTcd]; exact ext_new _ _ _ hq)
    rw [← hTcd] at hTc
    have hSA := ((HS3.out.wd.ends false).retag hTc).keep (Ch.drew W3 No) (fun _ _ => id) (agr_refl _ _)
    have HSA := Lib.hid (show SesA W3.drew (x.P false) Tc (tg false) M (W.e false) from hSA)
    have HRD := Lib.hid ((held_rd HH3.out).ch (Ch.drew W3 No) (fun _ _ => id))
    have HLN := Lib.hid (held_len HH3.out)
    have s0 : W3.cell? ⟨B, 0, none⟩ = some (.pointer (some ⟨x.P false, 0, none⟩)) := (wdi_cell HS3.out.wd).1 false
    have HM5 := Lib.hid (show M ≤ 1000000 from by have := HMM.out; omega)
    have HTB := Lib.hid (show Tc B ≠ tg false from by rw [hTc _ (blk_lt HS3.out.wd.mem), HS3.out.wd.tag]; decide)
    have HTF := Lib.hid (show Tc F ≠ tg false from by rw [hTc _ (blk_lt HS3.out.bf), HS3.out.bft]; decide)
    have HTC := Lib.hid hTc
    clear hTc hSA hTcd
    go_region_held3 (fun V => V.cell? ⟨B, 0, none⟩ = some (.pointer (some ⟨x.P false, 0, none⟩)) ∧ V.cell? ⟨F, 0, none⟩ = some (.int .i64 fr) ∧ V.cell? ⟨F, 1, none⟩ = some (.int .i64 to) ∧ V.cell? ⟨F, 2, none⟩ = some (.int .i64 nu) ∧ V.cell? ⟨F, 3, none⟩ = some (.int .i64 ac) ∧ V.cell? ⟨F, 4, none⟩ = some (.slice A n cc))
      (first | exact ⟨s0, f0, f1, f2, f3, f4⟩ | exact S1.out | exact S2.out)
      (first
        | (go_at_call 79; refine (copypack_any ⟨fr, to, nu, ac, l⟩ A n cc _ HRD.out (by have := HPL.out; have := HLN.out; omega)).mono ?_; rintro e Va ⟨ga, ca, rfl, hga, hby, hbe⟩; have S1 := Lib.hid (And.intro (below_cell hbe s0) (And.intro (below_cell hbe f0) (And.intro (below_cell hbe f1) (And.intro (below_cell hbe f2) (And.intro (below_cell hbe f3) (below_cell hbe f4)))))); have HBE := Lib.hid hbe; have HBY := Lib.hid hby; have HGA := Lib.hid hga; clear hbe hby hga)
        | (go_at_call 18; refine (recvA (HSA.out.below HBE.out (agr_refl _ _)) (HEP.out false) HM5.out ⟨fr, to, nu, ac, l⟩ (some ⟨ga, 0, none⟩) n ca (byt_rd HBY.out HLN.out) (fun b hb => by cases hb; have h9 : Tc ga = 0 := HZC.out ga HGA.out; show Tc ga ≠ _; rw [h9]; decide)).mono ?_; rintro e Vb ⟨rfl, T3, hT3, hSB, hcB⟩; have S2 := Lib.hid (And.intro (ch_cell hcB S1.out.1 HTB.out) (And.intro (ch_cell hcB S1.out.2.1 HTF.out) (And.intro (ch_cell hcB S1.out.2.2.1 HTF.out) (And.intro (ch_cell hcB S1.out.2.2.2.1 HTF.out) (And.intro (ch_cell hcB S1.out.2.2.2.2.1 HTF.out) (ch_cell hcB S1.out.2.2.2.2.2 HTF.out))))))))
    have HS7 := Lib.hid (hs_recv HS3.out false HTC.out ((Ch.drew W3 No).trans (Ch.of_below HBE.out No) (fun _ h => h.elim)) hT3 hSB (Nat.le_add_right M 8) hcB)
    clear hT3 hSB hcB S1 S2 HBE HBY HGA s0 f0 f1 f2 f3 f4 f5 d0 HSA HRD HLN HTB HTF HTC HZC HS3 HH3
    go_wp2_with fail
    have EPA : ((W.e false).recv ⟨fr, to, nu, ac, l⟩).ep ≠ 0 := by rw [recv_ep]; exact HEP.out false
    have hLT := (HS7.out.wd.took false)
    obtain ⟨At, ct, hvt, hrt, _⟩ := own_form hLT.own
    obtain ⟨nt, hnt⟩ : ∃ q, q = (x.lt false).length := ⟨_, rfl⟩
    rw [← hnt] at hvt hrt
    have hnt5 : nt ≤ 100000 := by
      have h9 := congrArg List.length (HS7.out.wd.tookl false)
      rw [List.length_map, ← hnt] at h9
      have h8 := HTK.out false
      have h7 : nt = (W.took false).length := h9
      omega
    have hin5 : (((W.e false).recv ⟨fr, to, nu, ac, l⟩)).inn.length ≤ 600000 := by
      have h9 := HS7.out.wd.ends false
      obtain ⟨s9, l9, h9⟩ := h9
      have h8 := h9.inM
      have h7 := HMM.out
      have h6 : (((W.e false).recv ⟨fr, to, nu, ac, l⟩)).inn.length ≤ M + 8 := h8
      omega
    have s0 : Vb.cell? ⟨B, 0, none⟩ = some (.pointer (some ⟨x.P false, 0, none⟩)) := (wdi_cell HS7.out.wd).1 false
    have t0 : Vb.cell? ⟨B, 5, none⟩ = some (.slice At nt ct) := by rw [← hvt]; exact (wdi_cell HS7.out.wd).2.2.2.1 false
    have HSE := Lib.hid (show SesA Vb.drew (x.P false) T3 (tg false) (M + 8) (((W.e false).recv ⟨fr, to, nu, ac, l⟩)) from ((HS7.out.wd.ends false).keep (Ch.drew Vb No) (fun _ _ => id) (agr_refl _ _)))
    have HEA := Lib.hid (show (((W.e false).recv ⟨fr, to, nu, ac, l⟩)).ep ≠ 0 from EPA)
    have HPB := Lib.hid (show B ≠ x.P false from fun e => by have h9 := HS7.out.wd.tag; rw [e, (HS7.out.wd.ends false).tag] at h9; cases h9)
    have HLW := Lib.hid (show (x.lt false).length = nt from hnt.symm)
    have HVT := Lib.hid hvt; have HNT := Lib.hid hnt; have HN5 := Lib.hid hnt5; have HI5 := Lib.hid hin5
    have HOT := Lib.hid (show Vb.drew.ownsRow 0 27 1 (.slice At nt ct) nt ((x.lt false).map slc) from by rw [← hvt, hnt]; exact own_ch hLT.own (Ch.drew Vb No) (fun _ _ => id))
    have HRW := Lib.hid (show ∀ q, (Value.slice At nt ct).ownBlock = some q → q ≠ x.P false ∧ q ≠ B from fun q hq => by
      rw [← hvt] at hq
      have h9 := hLT.row q hq
      refine ⟨fun e => ?_, fun e => ?_⟩
      · rw [e, (HS7.out.wd.ends false).tag] at h9; cases h9
      · rw [e, HS7.out.wd.tag] at h9; cases h9)
    clear hLT hvt hrt hnt hnt5 hin5
    refine wp_region_held_drew (S := (fun V => V.cell? ⟨B, 0, none⟩ = some (.pointer (some ⟨x.P false, 0, none⟩)))) (by kernel_rfl) (show Vb.drew.cell? _ = _ from s0) (fun hHeld => ?_)
    refine wpAnyH_take (i := 0) (oi := { dst := some 65, op := Go.Op.move (Go.Operand.tmp 0), type := 41, pos := "outright.go:154", after := #[], guard := none }) (v := .pointer (some ⟨B, 0, none⟩)) rfl (by kernel_rfl) (by kernel_rfl) (by kernel_rfl) (fun _ _ _ h => h) (Or.inl ⟨by rfl, ?_⟩) (by assumption) ?_
    · intro W hSw
      go_simp
      try with_reducible rfl
    simp only [Act.put, List.setIfInBounds_toArray, List.set_cons_zero, List.set_cons_succ]
    refine wpAnyH_take (i := 1) (oi := { dst := some 66, op := Go.Op.move (Go.Operand.tmp 6), type := 3, pos := "outright.go:154", after := #[], guard := none }) (v := .int .i64 0) rfl (by kernel_rfl) (by kernel_rfl) (by kernel_rfl) (fun _ _ _ h => h) (Or.inl ⟨by rfl, ?_⟩) (by assumption) ?_
    · intro W hSw
      go_simp
      try with_reducible rfl
    simp only [Act.put, List.setIfInBounds_toArray, List.set_cons_zero, List.set_cons_succ]
    refine wpAnyH_take (i := 2) (oi := { dst := some 67, op := Go.Op.move (Go.Operand.tmp 0), type := 41, pos := "outright.go:154", after := #[], guard := none }) (v := .pointer (some ⟨B, 0, none⟩)) rfl (by kernel_rfl) (by kernel_rfl) (by kernel_rfl) (fun _ _ _ h => h) (Or.inl ⟨by rfl, ?_⟩) (by assumption) ?_
    · intro W hSw
      go_simp
      try with_reducible rfl
    simp only [Act.put, List.setIfInBounds_toArray, List.set_cons_zero, List.set_cons_succ]
    refine wpAnyH_take (i := 3) (oi := { dst := some 68, op := Go.Op.move (Go.Operand.tmp 6), type := 3, pos := "outright.go:154", after := #[], guard := none }) (v := .int .i64 0) rfl (by kernel_rfl) (by kernel_rfl) (by kernel_rfl) (fun _ _ _ h => h) (Or.inl ⟨by rfl, ?_⟩) (by assumption) ?_
    · intro W hSw
      go_simp
      try with_reducible rfl
    simp only [Act.put, List.setIfInBounds_toArray, List.set_cons_zero, List.set_cons_succ]
    refine wpAnyH_take (i := 4) (oi := { dst := some 69, op := Go.Op.nilCheck (Go.Operand.tmp 67), type := 0, pos := "outright.go:154", after := #[{ on := 2, ground := Go.Ground.data }], guard := none }) (v := .pointer (some ⟨B, 0, none⟩)) rfl (by kernel_rfl) (by kernel_rfl) (by kernel_rfl) (fun _ _ _ h => h) (Or.inl ⟨by rfl, ?_⟩) (by assumption) ?_
    · intro W hSw
      go_simp
      try with_reducible rfl
    simp only [Act.put, List.setIfInBounds_toArray, List.set_cons_zero, List.set_cons_succ]
    refine wpAnyH_take (i := 5) (oi := { dst := some 70, op := Go.Op.fieldAddr 47 (Go.Operand.tmp 69) 3, type := 0, pos := "outright.go:154", after := #[{ on := 4, ground := Go.Ground.data }], guard := none }) (v := .pointer (some ⟨B, 5, none⟩)) rfl (by kernel_rfl) (by kernel_rfl) (by kernel_rfl) (fun _ _ _ h => h) (Or.inl ⟨by rfl, ?_⟩) (by assumption) ?_
    · intro W hSw
      go_simp
      try with_reducible rfl
    simp only [Act.put, List.setIfInBounds_toArray, List.set_cons_zero, List.set_cons_succ]
    refine wpAnyH_take (i := 6) (oi := { dst := some 71, op := Go.Op.indexAddr 45 (Go.Operand.tmp 70) (Go.Operand.tmp 68), type := 0, pos := "outright.go:154", after := #[{ on := 5, ground := Go.Ground.data }, { on := 3, ground := Go.Ground.data }], guard := none }) (v := .pointer (some ⟨B, 5, none⟩)) rfl (by kernel_rfl) (by kernel_rfl) (by kernel_rfl) (fun _ _ _ h => h) (Or.inl ⟨by rfl, ?_⟩) (by assumption) ?_
    · intro W hSw
      go_simp
      try with_reducible rfl
    simp only [Act.put, List.setIfInBounds_toArray, List.set_cons_zero, List.set_cons_succ]
    refine wpAnyH_take (i := 8) (oi := { dst := some 73, op := Go.Op.move (Go.Operand.tmp 0), type := 41, pos := "outright.go:154", after := #[], guard := none }) (v := .pointer (some ⟨B, 0, none⟩)) rfl (by kernel_rfl) (by kernel_rfl) (by kernel_rfl) (fun _ _ _ h => h) (Or.inl ⟨by rfl, ?_⟩) (by assumption) ?_
    · intro W hSw
      go_simp
      try with_reducible rfl
    simp only [Act.put, List.setIfInBounds_toArray, List.set_cons_zero, List.set_cons_succ]
    refine wpAnyH_take (i := 9) (oi := { dst := some 74, op := Go.Op.move (Go.Operand.tmp 6), type := 3, pos := "outright.go:154", after := #[], guard := none }) (v := .int .i64 0) rfl (by kernel_rfl) (by kernel_rfl) (by kernel_rfl) (fun _ _ _ h => h) (Or.inl ⟨by rfl, ?_⟩) (by assumption) ?_
    · intro W hSw
      go_simp
      try with_reducible rfl
    simp only [Act.put, List.setIfInBounds_toArray, List.set_cons_zero, List.set_cons_succ]
    refine wpAnyH_take (i := 10) (oi := { dst := some 75, op := Go.Op.nilCheck (Go.Operand.tmp 73), type := 0, pos := "outright.go:154", after := #[{ on := 8, ground := Go.Ground.data }], guard := none }) (v := .pointer (some ⟨B, 0, none⟩)) rfl (by kernel_rfl) (by kernel_rfl) (by kernel_rfl) (fun _ _ _ h => h) (Or.inl ⟨by rfl, ?_⟩) (by assumption) ?_
    · intro W hSw
      go_simp
      try with_reducible rfl
    simp only [Act.put, List.setIfInBounds_toArray, List.set_cons_zero, List.set_cons_succ]
    refine wpAnyH_take (i := 11) (oi := { dst := some 76, op := Go.Op.fieldAddr 47 (Go.Operand.tmp 75) 0, type := 0, pos := "outright.go:154", after := #[{ on := 10, ground := Go.Ground.data }], guard := none }) (v := .pointer (some ⟨B, 0, none⟩)) rfl (by kernel_rfl) (by kernel_rfl) (by kernel_rfl) (fun _ _ _ h => h) (Or.inl ⟨by rfl, ?_⟩) (by assumption) ?_
    · intro W hSw
      go_simp
      try with_reducible rfl
    simp only [Act.put, List.setIfInBounds_toArray, List.set_cons_zero, List.set_cons_succ]
    refine wpAnyH_take (i := 12) (oi := { dst := some 77, op := Go.Op.indexAddr 42 (Go.Operand.tmp 76) (Go.Operand.tmp 74), type := 0, pos := "outright.go:154", after := #[{ on := 11, ground := Go.Ground.data }, { on := 9, ground := Go.Ground.data }], guard := none }) (v := .pointer (some ⟨B, 0, none⟩)) rfl (by kernel_rfl) (by kernel_rfl) (by kernel_rfl) (fun _ _ _ h => h) (Or.inl ⟨by rfl, ?_⟩) (by assumption) ?_
    · intro W hSw
      go_simp
      try with_reducible rfl
    simp only [Act.put, List.setIfInBounds_toArray, List.set_cons_zero, List.set_cons_succ]
    refine wpAnyH_take (i := 13) (oi := { dst := some 78, op := Go.Op.load 22 (Go.Operand.tmp 77), type := 22, pos := "outright.go:154", after := #[{ on := 12, ground := Go.Ground.data }], guard := none }) (v := .pointer (some ⟨x.P false, 0, none⟩)) rfl (by kernel_rfl) (by kernel_rfl) (by kernel_rfl) (fun _ _ _ h => h) (Or.inl ⟨by rfl, ?_⟩) (by assumption) ?_
    · intro W hSw
      go_simp
      try with_reducible rfl
    simp only [Act.put, List.setIfInBounds_toArray, List.set_cons_zero, List.set_cons_succ]
    refine wpAnyH_take (i := 16) (oi := { dst := some 81, op := Go.Op.nilCheck (Go.Operand.tmp 65), type := 0, pos := "outright.go:154", after := #[{ on := 0, ground := Go.Ground.data }], guard := none }) (v := .pointer (some ⟨B, 0, none⟩)) rfl (by kernel_rfl) (by kernel_rfl) (by kernel_rfl) (fun _ _ _ h => h) (Or.inl ⟨by rfl, ?_⟩) (by assumption) ?_
    · intro W hSw
      go_simp
      try with_reducible rfl
    simp only [Act.put, List.setIfInBounds_toArray, List.set_cons_zero, List.set_cons_succ]
    refine wpAnyH_take (i := 17) (oi := { dst := some 82, op := Go.Op.fieldAddr 47 (Go.Operand.tmp 81) 3, type := 0, pos := "outright.go:154", after := #[{ on := 16, ground := Go.Ground.data }], guard := none }) (v := .pointer (some ⟨B, 5, none⟩)) rfl (by kernel_rfl) (by kernel_rfl) (by kernel_rfl) (fun _ _ _ h => h) (Or.inl ⟨by rfl, ?_⟩) (by assumption) ?_
    · intro W hSw
      go_simp
      try with_reducible rfl
    simp only [Act.put, List.setIfInBounds_toArray, List.set_cons_zero, List.set_cons_succ]
    refine wpAnyH_ready (rs := [7, 14]) (by kernel_rfl) (by simp) ?_
    refine AllReadyH.cons (o := { dst := some 72, op := Go.Op.load 44 (Go.Operand.tmp 71), type := 44, pos := "outright.go:154", after := #[{ on := 6, ground := Go.Ground.data }], guard := none }) rfl (fun K hK => ?_) (AllReadyH.cons (o := { dst := some 79, op := Go.Op.call { callee := Go.Callee.value (Go.Operand.func 27), args := #[Go.Operand.tmp 78], argTypes := #[22] }, type := 44, pos := "outright.go:154", after := #[{ on := 13, ground := Go.Ground.data }], guard := none }) rfl (fun K hK => ?_) (AllReadyH.nil))
    · go_simp
      refine hK.out _ _ ((show Vb.drew.cell? _ = _ from s0)) (fun hHeld => ?_)
      clear hK K
      try simp only [Act.put, List.setIfInBounds_toArray, List.set_cons_zero, List.set_cons_succ]
      refine wpAnyH_ready (rs := [14]) (by kernel_rfl) (by simp) ?_
      refine AllReadyH.cons (o := { dst := some 79, op := Go.Op.call { callee := Go.Callee.value (Go.Operand.func 27), args := #[Go.Operand.tmp 78], argTypes := #[22] }, type := 44, pos := "outright.go:154", after := #[{ on := 13, ground := Go.Ground.data }], guard := none }) rfl (fun K hK => ?_) (AllReadyH.nil)
      go_simp
      refine (takeA HSE.out HEA.out).mono ?_
      rintro e Vc ⟨vt, ks, rfl, hTA, hTL, hTm, hTr, hTb, hTc⟩
      obtain ⟨Av, cv, rfl, hTv, -⟩ := own_form hTL.own
      have s1 := ch_cell hTc (show Vb.drew.cell? _ = _ from s0) HPB.out
      have t1 := ch_cell hTc (show Vb.drew.cell? _ = _ from t0) HPB.out
      have HTA := Lib.hid hTA; have HTL := Lib.hid hTL; have HTM := Lib.hid hTm; have HTB := Lib.hid hTb; have HTV := Lib.hid hTv
      have HOT1 := Lib.hid (own_ch HOT.out hTc (fun q hq => (HRW.out q hq).1))
      have HTC := Lib.hid ((Ch.drew Vb (fun q => q = x.P false)).trans hTc (fun i hi => .inl hi))
      have hks : ks.length ≤ 600000 := by have h9 := congrArg List.length HTM.out; rw [List.length_map] at h9; have := HI5.out; omega
      obtain ⟨mk, hmk⟩ : ∃ q, q = ks.length := ⟨_, rfl⟩
      rw [← hmk] at HTV hks ⊢
      have HMK := Lib.hid hmk; have HKS := Lib.hid hks
      clear hTA hTL hTm hTr hTb hTc hTv hmk hks
      refine hK.out _ _ (s1) (fun hHeld => ?_)
      clear hK K
      try simp only [Act.put, List.setIfInBounds_toArray, List.set_cons_zero, List.set_cons_succ]
      refine wpAnyH_ready (rs := [15]) (by kernel_rfl) (by simp) ?_
      refine AllReadyH.cons (o := { dst := some 80, op := Go.Op.call { callee := Go.Callee.builtin Go.Builtin.append, args := #[Go.Operand.tmp 72, Go.Operand.tmp 79], argTypes := #[44, 44] }, type := 44, pos := "outright.go:154", after := #[{ on := 7, ground := Go.Ground.data }, { on := 14, ground := Go.Ground.data }, { on := 14, ground := Go.Ground.chain }], guard := none }) rfl (fun K hK => ?_) (AllReadyH.nil)
      refine step_app_own Vc rfl (.tmp 72) (.tmp 79) 44 rfl 0 27 _ 1 24 Try.underlying44 info27 rfl (by decide) (.slice At nt ct) nt ((x.lt false).map slc) (by rfl) HOT1.out Av mk cv (ks.map slc) (by rfl) HTV.out (slc_one _) (by have := HN5.out; have := HKS.out; simp [maxLen]; omega) (by have := HN5.out; have := HKS.out; omega) (Nat.zero_le _) ?_
      intro v2 Vd hown2 hch2 hat2
      obtain ⟨A2, c2, rfl, -, -⟩ := own_form hown2
      have hBd := blk_ch (blk_ch HS7.out.wd.mem HTC.out HPB.out) hch2 (fun e => (HRW.out _ e).2 rfl)
      have s2 : Vd.cell? ⟨B, 0, none⟩ = some (.pointer (some ⟨x.P false, 0, none⟩)) := blk_cell hBd 0 _ rfl
      have t2 : Vd.cell? ⟨B, 5, none⟩ = some (.slice At nt ct) := by rw [← HVT.out]; exact blk_cell hBd 5 _ rfl
      have z2 := blk_thawed hBd 5
      have S3 := Lib.hid (show (Vd.setCell ⟨B, 5, none⟩ (.slice A2 (nt + mk) c2)).cell? ⟨B, 0, none⟩ = some (.pointer (some ⟨x.P false, 0, none⟩)) from blk_cell (blk_set hBd 5 (.slice A2 (nt + mk) c2)) 0 _ rfl)
      have HO2 := Lib.hid hown2; have HC2 := Lib.hid hch2; have HA2 := Lib.hid hat2
      clear hBd hown2 hch2 hat2
      refine hK.out _ _ (s2) (fun hHeld => ?_)
      clear hK K
      try simp only [Act.put, List.setIfInBounds_toArray, List.set_cons_zero, List.set_cons_succ]
      refine wpAnyH_take (i := 18) (oi := { dst := some 83, op := Go.Op.indexAddr 45 (Go.Operand.tmp 82) (Go.Operand.tmp 66), type := 0, pos := "outright.go:154", after := #[{ on := 17, ground := Go.Ground.data }, { on := 1, ground := Go.Ground.data }, { on := 0, ground := Go.Ground.phase }, { on := 1, ground := Go.Ground.phase }, { on := 2, ground := Go.Ground.phase }, { on := 3, ground := Go.Ground.phase }, { on := 4, ground := Go.Ground.phase }, { on := 5, ground := Go.Ground.phase }, { on := 6, ground := Go.Ground.phase }, { on := 7, ground := Go.Ground.phase }, { on := 8, ground := Go.Ground.phase }, { on := 9, ground := Go.Ground.phase }, { on := 10, ground := Go.Ground.phase }, { on := 11, ground := Go.Ground.phase }, { on := 12, ground := Go.Ground.phase }, { on := 13, ground := Go.Ground.phase }, { on := 14, ground := Go.Ground.phase }, { on := 15, ground := Go.Ground.phase }], guard := none }) (v := .pointer (some ⟨B, 5, none⟩)) rfl (by kernel_rfl) (by kernel_rfl) (by kernel_rfl) (fun _ _ _ h => h) (Or.inl ⟨by rfl, ?_⟩) (by assumption) ?_
      · intro W hSw
        go_simp
        try with_reducible rfl
      simp only [Act.put, List.setIfInBounds_toArray, List.set_cons_zero, List.set_cons_succ]
      refine wpAnyH_ready (rs := [19]) (by kernel_rfl) (by simp) ?_
      refine AllReadyH.cons (o := { dst := none, op := Go.Op.store 44 (Go.Operand.tmp 83) (Go.Operand.tmp 80), type := 0, pos := "outright.go:154", after := #[{ on := 18, ground := Go.Ground.data }, { on := 15, ground := Go.Ground.data }, { on := 15, ground := Go.Ground.chain }, { on := 0, ground := Go.Ground.phase }, { on := 1, ground := Go.Ground.phase }, { on := 2, ground := Go.Ground.phase }, { on := 3, ground := Go.Ground.phase }, { on := 4, ground := Go.Ground.phase }, { on := 5, ground := Go.Ground.phase }, { on := 6, ground := Go.Ground.phase }, { on := 7, ground := Go.Ground.phase }, { on := 8, ground := Go.Ground.phase }, { on := 9, ground := Go.Ground.phase }, { on := 10, ground := Go.Ground.phase }, { on := 11, ground := Go.Ground.phase }, { on := 12, ground := Go.Ground.phase }, { on := 13, ground := Go.Ground.phase }, { on := 14, ground := Go.Ground.phase }, { on := 15, ground := Go.Ground.phase }], guard := none }) rfl (fun K hK => ?_) (AllReadyH.nil)
      go_simp
      refine hK.out _ _ (S3.out) (fun hHeld => ?_)
      clear hK K
      try simp only [Act.put, List.setIfInBounds_toArray, List.set_cons_zero, List.set_cons_succ]
      refine wpAnyH_done (by kernel_rfl) ?_ _
      clear hHeld
      have HFIN := Lib.hid (hs_last (W := W) (a := ((W.e false).recv ⟨fr, to, nu, ac, l⟩)) HS7.out HTA.out HTC.out HTM.out HMK.out HNT.out (fun p hp => ⟨(HTL.out.each p hp).1, HTB.out p hp⟩) HO2.out (by rw [HVT.out]; exact HC2.out) (by rw [HVT.out]; exact HA2.out) (wd_hand HPK.out (by rw [if_pos hk5]) (by rw [if_neg (fun h => h HK4.out)])) rfl)
      clear S3 HO2 HC2 HA2 s1 t1 s2 t2 z2
      go_wp2
      exact bodyPost_end (results_none rfl _ _ _) rfl HFIN.out
    · go_simp
      refine (takeA HSE.out HEA.out).mono ?_
      rintro e Vc ⟨vt, ks, rfl, hTA, hTL, hTm, hTr, hTb, hTc⟩
      obtain ⟨Av, cv, rfl, hTv, -⟩ := own_form hTL.own
      have s1 := ch_cell hTc (show Vb.drew.cell? _ = _ from s0) HPB.out
      have t1 := ch_cell hTc (show Vb.drew.cell? _ = _ from t0) HPB.out
      have HTA := Lib.hid hTA; have HTL := Lib.hid hTL; have HTM := Lib.hid hTm; have HTB := Lib.hid hTb; have HTV := Lib.hid hTv
      have HOT1 := Lib.hid (own_ch HOT.out hTc (fun q hq => (HRW.out q hq).1))
      have HTC := Lib.hid ((Ch.drew Vb (fun q => q = x.P false)).trans hTc (fun i hi => .inl hi))
      have hks : ks.length ≤ 600000 := by have h9 := congrArg List.length HTM.out; rw [List.length_map] at h9; have := HI5.out; omega
      obtain ⟨mk, hmk⟩ : ∃ q, q = ks.length := ⟨_, rfl⟩
      rw [← hmk] at HTV hks ⊢
      have HMK := Lib.hid hmk; have HKS := Lib.hid hks
      clear hTA hTL hTm hTr hTb hTc hTv hmk hks
      refine hK.out _ _ (s1) (fun hHeld => ?_)
      clear hK K
      try simp only [Act.put, List.setIfInBounds_toArray, List.set_cons_zero, List.set_cons_succ]
      refine wpAnyH_ready (rs := [7]) (by kernel_rfl) (by simp) ?_
      refine AllReadyH.cons (o := { dst := some 72, op := Go.Op.load 44 (Go.Operand.tmp 71), type := 44, pos := "outright.go:154", after := #[{ on := 6, ground := Go.Ground.data }], guard := none }) rfl (fun K hK => ?_) (AllReadyH.nil)
      go_simp
      refine hK.out _ _ (s1) (fun hHeld => ?_)
      clear hK K
      try simp only [Act.put, List.setIfInBounds_toArray, List.set_cons_zero, List.set_cons_succ]
      refine wpAnyH_ready (rs := [15]) (by kernel_rfl) (by simp) ?_
      refine AllReadyH.cons (o := { dst := some 80, op := Go.Op.call { callee := Go.Callee.builtin Go.Builtin.append, args := #[Go.Operand.tmp 72, Go.Operand.tmp 79], argTypes := #[44, 44] }, type := 44, pos := "outright.go:154", after := #[{ on := 7, ground := Go.Ground.data }, { on := 14, ground := Go.Ground.data }, { on := 14, ground := Go.Ground.chain }], guard := none }) rfl (fun K hK => ?_) (AllReadyH.nil)
      refine step_app_own Vc rfl (.tmp 72) (.tmp 79) 44 rfl 0 27 _ 1 24 Try.underlying44 info27 rfl (by decide) (.slice At nt ct) nt ((x.lt false).map slc) (by rfl) HOT1.out Av mk cv (ks.map slc) (by rfl) HTV.out (slc_one _) (by have := HN5.out; have := HKS.out; simp [maxLen]; omega) (by have := HN5.out; have := HKS.out; omega) (Nat.zero_le _) ?_
      intro v2 Vd hown2 hch2 hat2
      obtain ⟨A2, c2, rfl, -, -⟩ := own_form hown2
      have hBd := blk_ch (blk_ch HS7.out.wd.mem HTC.out HPB.out) hch2 (fun e => (HRW.out _ e).2 rfl)
      have s2 : Vd.cell? ⟨B, 0, none⟩ = some (.pointer (some ⟨x.P false, 0, none⟩)) := blk_cell hBd 0 _ rfl
      have t2 : Vd.cell? ⟨B, 5, none⟩ = some (.slice At nt ct) := by rw [← HVT.out]; exact blk_cell hBd 5 _ rfl
      have z2 := blk_thawed hBd 5
      have S3 := Lib.hid (show (Vd.setCell ⟨B, 5, none⟩ (.slice A2 (nt + mk) c2)).cell? ⟨B, 0, none⟩ = some (.pointer (some ⟨x.P false, 0, none⟩)) from blk_cell (blk_set hBd 5 (.slice A2 (nt + mk) c2)) 0 _ rfl)
      have HO2 := Lib.hid hown2; have HC2 := Lib.hid hch2; have HA2 := Lib.hid hat2
      clear hBd hown2 hch2 hat2
      refine hK.out _ _ (s2) (fun hHeld => ?_)
      clear hK K
      try simp only [Act.put, List.setIfInBounds_toArray, List.set_cons_zero, List.set_cons_succ]
      refine wpAnyH_take (i := 18) (oi := { dst := some 83, op := Go.Op.indexAddr 45 (Go.Operand.tmp 82) (Go.Operand.tmp 66), type := 0, pos := "outright.go:154", after := #[{ on := 17, ground := Go.Ground.data }, { on := 1, ground := Go.Ground.data }, { on := 0, ground := Go.Ground.phase }, { on := 1, ground := Go.Ground.phase }, { on := 2, ground := Go.Ground.phase }, { on := 3, ground := Go.Ground.phase }, { on := 4, ground := Go.Ground.phase }, { on := 5, ground := Go.Ground.phase }, { on := 6, ground := Go.Ground.phase }, { on := 7, ground := Go.Ground.phase }, { on := 8, ground := Go.Ground.phase }, { on := 9, ground := Go.Ground.phase }, { on := 10, ground := Go.Ground.phase }, { on := 11, ground := Go.Ground.phase }, { on := 12, ground := Go.Ground.phase }, { on := 13, ground := Go.Ground.phase }, { on := 14, ground := Go.Ground.phase }, { on := 15, ground := Go.Ground.phase }], guard := none }) (v := .pointer (some ⟨B, 5, none⟩)) rfl (by kernel_rfl) (by kernel_rfl) (by kernel_rfl) (fun _ _ _ h => h) (Or.inl ⟨by rfl, ?_⟩) (by assumption) ?_
      · intro W hSw
        go_simp
        try with_reducible rfl
      simp only [Act.put, List.setIfInBounds_toArray, List.set_cons_zero, List.set_cons_succ]
      refine wpAnyH_ready (rs := [19]) (by kernel_rfl) (by simp) ?_
      refine AllReadyH.cons (o := { dst := none, op := Go.Op.store 44 (Go.Operand.tmp 83) (Go.Operand.tmp 80), type := 0, pos := "outright.go:154", after := #[{ on := 18, ground := Go.Ground.data }, { on := 15, ground := Go.Ground.data }, { on := 15, ground := Go.Ground.chain }, { on := 0, ground := Go.Ground.phase }, { on := 1, ground := Go.Ground.phase }, { on := 2, ground := Go.Ground.phase }, { on := 3, ground := Go.Ground.phase }, { on := 4, ground := Go.Ground.phase }, { on := 5, ground := Go.Ground.phase }, { on := 6, ground := Go.Ground.phase }, { on := 7, ground := Go.Ground.phase }, { on := 8, ground := Go.Ground.phase }, { on := 9, ground := Go.Ground.phase }, { on := 10, ground := Go.Ground.phase }, { on := 11, ground := Go.Ground.phase }, { on := 12, ground := Go.Ground.phase }, { on := 13, ground := Go.Ground.phase }, { on := 14, ground := Go.Ground.phase }, { on := 15, ground := Go.Ground.phase }], guard := none }) rfl (fun K hK => ?_) (AllReadyH.nil)
      go_simp
      refine hK.out _ _ (S3.out) (fun hHeld => ?_)
      clear hK K
      try simp only [Act.put, List.setIfInBounds_toArray, List.set_cons_zero, List.set_cons_succ]
      refine wpAnyH_done (by kernel_rfl) ?_ _
      clear hHeld
      have HFIN := Lib.hid (hs_last (W := W) (a := ((W.e false).recv ⟨fr, to, nu, ac, l⟩)) HS7.out HTA.out HTC.out HTM.out HMK.out HNT.out (fun p hp => ⟨(HTL.out.each p hp).1, HTB.out p hp⟩) HO2.out (by rw [HVT.out]; exact HC2.out) (by rw [HVT.out]; exact HA2.out) (wd_hand HPK.out (by rw [if_pos hk5]) (by rw [if_neg (fun h => h HK4.out)])) rfl)
      clear S3 HO2 HC2 HA2 s1 t1 s2 t2 z2
      go_wp2
      exact bodyPost_end (results_none rfl _ _ _) rfl HFIN.out
  have g4 : (u.k == 4) = false := by simpa using hk4
  go_wp2_with fail
  rw [show W2.alloc (.cells #[.int .i64 fr, .int .i64 to, .int .i64 nu, .int .i64 ac, .slice A n cc, .bool false] 81) = W3 from HW3.out.symm]
  obtain ⟨F, hF⟩ : ∃ F, F = W2.heap.size := ⟨_, rfl⟩
  rw [← hF] at HS3 ⊢
  clear hF HW3 rd0 c0 c1 c2 c3 c4 c5 e2 d0
  have d0 : W3.cell? ⟨X, 0, none⟩ = some (.int .i64 u.k) := blk_cell HS3.out.bx 0 _ rfl
  have f0 : W3.cell? ⟨F, 0, none⟩ = some (.int .i64 fr) := blk_cell HS3.out.bf 0 _ rfl
  have f1 : W3.cell? ⟨F, 1, none⟩ = some (.int .i64 to) := blk_cell HS3.out.bf 1 _ rfl
  have f2 : W3.cell? ⟨F, 2, none⟩ = some (.int .i64 nu) := blk_cell HS3.out.bf 2 _ rfl
  have f3 : W3.cell? ⟨F, 3, none⟩ = some (.int .i64 ac) := blk_cell HS3.out.bf 3 _ rfl
  have f4 : W3.cell? ⟨F, 4, none⟩ = some (.slice A n cc) := blk_cell HS3.out.bf 4 _ rfl
  have f5 : W3.cell? ⟨F, 5, none⟩ = some (.bool false) := blk_cell HS3.out.bf 5 _ rfl
  have q0 : W3.cell? ⟨B, 2, none⟩ = some (.slice (some ⟨g, 0, none⟩) N c) := by rw [HN.out, ← HVA.out]; exact (wdi_cell HS3.out.wd).2.1
  have q1 : (W3.alloc (.cells #[] 81)).cell? ⟨B, 2, none⟩ = some (.slice (some ⟨g, 0, none⟩) N c) := below_cell ((Below.refl W3.heap.size W3).alloc (Nat.le_refl _) _) q0
  have hw1 : IntKind.i64.wrap ((k : Int) + 1) = (k : Int) + 1 := by rw [IntKind.wrap_i64]; omega
  have hz0 : (W3.alloc (.cells #[] 81)).drew.ownsRow W3.heap.size 81 6 (.slice (some ⟨W3.heap.size, 0, none⟩) 0 0) 0 [] := (row_lit W3 #[] 81 0 6 rfl (by decide)).own (Nat.le_refl _) rfl (Nat.le_refl _)
  have hz1 : Ch No W3 (W3.alloc (.cells #[] 81)).drew := (Ch.alloc W3 (.cells #[] 81) No).trans (Ch.drew _ No) (fun _ h => h.elim)
  have q2 := wdi_cell HS3.out.wd
  have qz := q2.2.2.2.2 2
  clear q2
  have hrd : Rd W3 (some ⟨g, 0, none⟩) N c 6 (x.fs.flatMap flCells) := by
    obtain ⟨A', c', e', hr', _⟩ := own_form HS3.out.wd.air.own
    rw [HVA.out] at e'
    cases e'
    rw [HN.out]
    exact hr'
  obtain ⟨A2, hA2⟩ : ∃ A2 : Option Addr, A2 = if c = k + 1 then (some ⟨g, 0, none⟩) else Option.map (fun z : Addr => z.add ((k + 1) * 6)) (some ⟨g, 0, none⟩) := ⟨_, rfl⟩
  have hcut1 : ∀ V : World, (Instr.slice 43 (.slice (some ⟨g, 0, none⟩) N c) none (some (.int .i64 (k : Int))) none).run Try.prog V = .ok (.slice (some ⟨g, 0, none⟩) k c) V := by
    intro V
    obtain ⟨i0, hi0, hzz⟩ := Option.map_eq_some_iff.1 info81
    exact head_run 43 81 .i64 Try.underlying43 hi0 _ N c k (by omega) HNC.out V
  have hcut2 : ∀ V : World, (Instr.slice 43 (.slice (some ⟨g, 0, none⟩) N c) (some (.int .i64 ((k : Int) + 1))) none none).run Try.prog V = .ok (.slice A2 (N - (k + 1)) (c - (k + 1))) V := by
    intro V
    obtain ⟨i0, hi0, hzz⟩ := Option.map_eq_some_iff.1 info81
    simp only [Prod.mk.injEq] at hzz
    have h9 := tail_run (P := Try.prog) 43 81 .i64 Try.underlying43 hi0 (some ⟨g, 0, none⟩) N c (k + 1) (by omega) V
    rw [hzz.2.1, ← hA2] at h9
    exact h9
  have HR1 := Lib.hid (show Rd W3 (some ⟨g, 0, none⟩) k c 6 ((x.fs.take k).flatMap flCells) from by rw [← fl_take]; exact rd_head hrd k (by omega))
  have HR2 := Lib.hid (show Rd W3 A2 (N - (k + 1)) (c - (k + 1)) 6 ((x.fs.drop (k + 1)).flatMap flCells) from by rw [← fl_drop, hA2]; exact rd_tail hrd (k + 1) (by omega))
  have HA2 := Lib.hid hA2
  have HWZ : Hid (W3.heap.size = W3.heap.size) := Lib.hid rfl
  have HTL := Lib.hid (show (x.fs.take k).length = k from by rw [List.length_take, ← HN.out]; omega)
  have HDL := Lib.hid (show (x.fs.drop (k + 1)).length = N - (k + 1) from by rw [List.length_drop, ← HN.out])
  have hkN : k + 1 ≤ N := by omega
  have hNc : N ≤ c := HNC.out
  clear hA2 hrd f0 f1 f2 f3 f4 f5
  apply join4 (fun (v1 : Value) (A3 : Option Addr) (c3 : Nat) (V3 : World) => V3.ownsRow W3.heap.size 81 6 (.slice A3 (k + (N - (k + 1))) c3) (k + (N - (k + 1))) ((x.fs.take k).flatMap flCells ++ (x.fs.drop (k + 1)).flatMap flCells) ∧ Ch No W3 V3)
  · intro HC
    go_region_law (first
      | (refine step_app_own (W3.alloc (.cells #[] 81)).drew rfl (.tmp 32) (.tmp 38) 43 rfl W3.heap.size 81 _ 6 64 Try.underlying43 info81 rfl (by decide) (.slice (some ⟨W3.heap.size, 0, none⟩) 0 0) 0 [] (by simp [Act.eval, Act.put]) hz0 (some ⟨g, 0, none⟩) k c ((x.fs.take k).flatMap flCells) (by simp [Act.eval, Act.put]) (HR1.out.ch hz1 (fun _ _ => id)) (fl_one _) (by simp [maxLen]; omega) (by omega) (by simp) ?_; intro v1 V2 hown1 hch1 hat1; have hc1 : Ch No W3 V2 := hz1.trans hch1 (fun i hi => .inr (by have e' : W3.heap.size = i := Option.some.inj hi; omega)); have q3 : V2.cell? ⟨B, 2, none⟩ = some (.slice (some ⟨g, 0, none⟩) N c) := below_cell (ch_below hc1) q0)
      | (refine step_app_own V2 rfl (.tmp 39) (.tmp 46) 43 rfl W3.heap.size 81 _ 6 64 Try.underlying43 info81 rfl (by decide) v1 (0 + k) ([] ++ (x.fs.take k).flatMap flCells) (by simp [Act.eval, Act.put]) hown1 A2 (N - (k + 1)) (c - (k + 1)) ((x.fs.drop (k + 1)).flatMap flCells) (by simp [Act.eval, Act.put]) (HR2.out.ch hc1 (fun _ _ => id)) (fl_one _) (by simp [maxLen]; omega) (by omega) hc1.size ?_; intro v2 V3 hown2 hch2 hat2; obtain ⟨A3, c3, rfl, -, -⟩ := own_form hown2; have hc2 : Ch No W3 V3 := hc1.trans hch2 (fun i hi => .inr ((hown1.lt i hi).1)); have q4 : V3.cell? ⟨B, 2, none⟩ = some (.slice (some ⟨g, 0, none⟩) N c) := below_cell (ch_below hc2) q0; have q5 : V3.frozen? ⟨B, 2, none⟩ = false := below_thawed (ch_below hc2) q0 qz))
    all_goals
      refine HC v1 A3 c3 V3 ⟨?_, hc2⟩
      simpa using hown2
  intro v1 A3 c3 V3 hJ
  obtain ⟨hown2, hc2⟩ := hJ
  obtain ⟨T2, x2, hxP, hT2, hS5⟩ := hs_air HS3.out (k := k) (by rw [← HN.out]; exact HK.out) (by rw [List.length_append, HTL.out, HDL.out]) hown2 hc2
  have HH5 := Lib.hid (held_ch (held_ch HH3.out hc2 (fun _ _ => id)) (Ch.setCell V3 ⟨B, 2, none⟩ (.slice A3 (k + (N - (k + 1))) c3)) (fun b hb e => by
    have h8 := (held_lt HH3.out b hb).2
    have h9 := HBOD.out b hb
    have h7 := HS3.out.wd.tag
    have e' : b.block = B := e
    rw [e', h7] at h9
    cases h9))
  obtain ⟨V5, hV5⟩ : ∃ V, V = V3.setCell ⟨B, 2, none⟩ (.slice A3 (k + (N - (k + 1))) c3) := ⟨_, rfl⟩
  rw [← hV5] at hS5 HH5 ⊢
  have HS5 := Lib.hid hS5
  have HXP := Lib.hid hxP
  clear hown2 hc2 hT2 hS5 hxP hV5 HS3 HH3 HTL HDL HR1 HR2 HA2 HWZ q0 q1 qz hcut1 hcut2 hw1 hz0 hz1 hkN hNc d0
  by_cases hk5 : u.k = 5
  · have g5 : (u.k == 5) = true := by simpa using hk5
    have HK5 := Lib.hid hk5
    clear hk5
    have d0 : V5.cell? ⟨X, 0, none⟩ = some (.int .i64 u.k) := blk_cell HS5.out.bx 0 _ rfl
    have f0 : V5.cell? ⟨F, 0, none⟩ = some (.int .i64 fr) := blk_cell HS5.out.bf 0 _ rfl
    have f1 : V5.cell? ⟨F, 1, none⟩ = some (.int .i64 to) := blk_cell HS5.out.bf 1 _ rfl
    have f2 : V5.cell? ⟨F, 2, none⟩ = some (.int .i64 nu) := blk_cell HS5.out.bf 2 _ rfl
    have f3 : V5.cell? ⟨F, 3, none⟩ = some (.int .i64 ac) := blk_cell HS5.out.bf 3 _ rfl
    have f4 : V5.cell? ⟨F, 4, none⟩ = some (.slice A n cc) := blk_cell HS5.out.bf 4 _ rfl
    have f5 : V5.cell? ⟨F, 5, none⟩ = some (.bool false) := blk_cell HS5.out.bf 5 _ rfl
    have HS7 := Lib.hid (hs_same HS5.out false (Nat.le_add_right M 8))
    clear HS5
    have EPA : (W.e false).ep ≠ 0 := HEP.out false
    go_wp2_with fail
    have hLT := (HS7.out.wd.took false)
    obtain ⟨At, ct, hvt, hrt, _⟩ := own_form hLT.own
    obtain ⟨nt, hnt⟩ : ∃ q, q = (x2.lt false).length := ⟨_, rfl⟩
    rw [← hnt] at hvt hrt
    have hnt5 : nt ≤ 100000 := by
      have h9 := congrArg List.length (HS7.out.wd.tookl false)
      rw [List.length_map, ← hnt] at h9
      have h8 := HTK.out false
      have h7 : nt = (W.took false).length := h9
      omega
    have hin5 : (W.e false).inn.length ≤ 600000 := by
      have h9 := HS7.out.wd.ends false
      obtain ⟨s9, l9, h9⟩ := h9
      have h8 := h9.inM
      have h7 := HMM.out
      have h6 : (W.e false).inn.length ≤ M + 8 := h8
      omega
    have s0 : V5.cell? ⟨B, 0, none⟩ = some (.pointer (some ⟨x2.P false, 0, none⟩)) := (wdi_cell HS7.out.wd).1 false
    have t0 : V5.cell? ⟨B, 5, none⟩ = some (.slice At nt ct) := by rw [← hvt]; exact (wdi_cell HS7.out.wd).2.2.2.1 false
    have HSE := Lib.hid (show SesA V5.drew (x2.P false) T2 (tg false) (M + 8) (W.e false) from ((HS7.out.wd.ends false).keep (Ch.drew V5 No) (fun _ _ => id) (agr_refl _ _)))
    have HEA := Lib.hid (show (W.e false).ep ≠ 0 from EPA)
    have HPB := Lib.hid (show B ≠ x2.P false from fun e => by have h9 := HS7.out.wd.tag; rw [e, (HS7.out.wd.ends false).tag] at h9; cases h9)
    have HLW := Lib.hid (show (x2.lt false).length = nt from hnt.symm)
    have HVT := Lib.hid hvt; have HNT := Lib.hid hnt; have HN5 := Lib.hid hnt5; have HI5 := Lib.hid hin5
    have HOT := Lib.hid (show V5.drew.ownsRow 0 27 1 (.slice At nt ct) nt ((x2.lt false).map slc) from by rw [← hvt, hnt]; exact own_ch hLT.own (Ch.drew V5 No) (fun _ _ => id))
    have HRW := Lib.hid (show ∀ q, (Value.slice At nt ct).ownBlock = some q → q ≠ x2.P false ∧ q ≠ B from fun q hq => by
      rw [← hvt] at hq
      have h9 := hLT.row q hq
      refine ⟨fun e => ?_, fun e => ?_⟩
      · rw [e, (HS7.out.wd.ends false).tag] at h9; cases h9
      · rw [e, HS7.out.wd.tag] at h9; cases h9)
    clear hLT hvt hrt hnt hnt5 hin5
    refine wp_region_held_drew (S := (fun V => V.cell? ⟨B, 0, none⟩ = some (.pointer (some ⟨x2.P false, 0, none⟩)))) (by kernel_rfl) (show V5.drew.cell? _ = _ from s0) (fun hHeld => ?_)
    refine wpAnyH_take (i := 0) (oi := { dst := some 65, op := Go.Op.move (Go.Operand.tmp 0), type := 41, pos := "outright.go:154", after := #[], guard := none }) (v := .pointer (some ⟨B, 0, none⟩)) rfl (by kernel_rfl) (by kernel_rfl) (by kernel_rfl) (fun _ _ _ h => h) (Or.inl ⟨by rfl, ?_⟩) (by assumption) ?_
    · intro W hSw
      go_simp
      try with_reducible rfl
    simp only [Act.put, List.setIfInBounds_toArray, List.set_cons_zero, List.set_cons_succ]
    refine wpAnyH_take (i := 1) (oi := { dst := some 66, op := Go.Op.move (Go.Operand.tmp 6), type := 3, pos := "outright.go:154", after := #[], guard := none }) (v := .int .i64 0) rfl (by kernel_rfl) (by kernel_rfl) (by kernel_rfl) (fun _ _ _ h => h) (Or.inl ⟨by rfl, ?_⟩) (by assumption) ?_
    · intro W hSw
      go_simp
      try with_reducible rfl
    simp only [Act.put, List.setIfInBounds_toArray, List.set_cons_zero, List.set_cons_succ]
    refine wpAnyH_take (i := 2) (oi := { dst := some 67, op := Go.Op.move (Go.Operand.tmp 0), type := 41, pos := "outright.go:154", after := #[], guard := none }) (v := .pointer (some ⟨B, 0, none⟩)) rfl (by kernel_rfl) (by kernel_rfl) (by kernel_rfl) (fun _ _ _ h => h) (Or.inl ⟨by rfl, ?_⟩) (by assumption) ?_
    · intro W hSw
      go_simp
      try with_reducible rfl
    simp only [Act.put, List.setIfInBounds_toArray, List.set_cons_zero, List.set_cons_succ]
    refine wpAnyH_take (i := 3) (oi := { dst := some 68, op := Go.Op.move (Go.Operand.tmp 6), type := 3, pos := "outright.go:154", after := #[], guard := none }) (v := .int .i64 0) rfl (by kernel_rfl) (by kernel_rfl) (by kernel_rfl) (fun _ _ _ h => h) (Or.inl ⟨by rfl, ?_⟩) (by assumption) ?_
    · intro W hSw
      go_simp
      try with_reducible rfl
    simp only [Act.put, List.setIfInBounds_toArray, List.set_cons_zero, List.set_cons_succ]
    refine wpAnyH_take (i := 4) (oi := { dst := some 69, op := Go.Op.nilCheck (Go.Operand.tmp 67), type := 0, pos := "outright.go:154", after := #[{ on := 2, ground := Go.Ground.data }], guard := none }) (v := .pointer (some ⟨B, 0, none⟩)) rfl (by kernel_rfl) (by kernel_rfl) (by kernel_rfl) (fun _ _ _ h => h) (Or.inl ⟨by rfl, ?_⟩) (by assumption) ?_
    · intro W hSw
      go_simp
      try with_reducible rfl
    simp only [Act.put, List.setIfInBounds_toArray, List.set_cons_zero, List.set_cons_succ]
    refine wpAnyH_take (i := 5) (oi := { dst := some 70, op := Go.Op.fieldAddr 47 (Go.Operand.tmp 69) 3, type := 0, pos := "outright.go:154", after := #[{ on := 4, ground := Go.Ground.data }], guard := none }) (v := .pointer (some ⟨B, 5, none⟩)) rfl (by kernel_rfl) (by kernel_rfl) (by kernel_rfl) (fun _ _ _ h => h) (Or.inl ⟨by rfl, ?_⟩) (by assumption) ?_
    · intro W hSw
      go_simp
      try with_reducible rfl
    simp only [Act.put, List.setIfInBounds_toArray, List.set_cons_zero, List.set_cons_succ]
    refine wpAnyH_take (i := 6) (oi := { dst := some 71, op := Go.Op.indexAddr 45 (Go.Operand.tmp 70) (Go.Operand.tmp 68), type := 0, pos := "outright.go:154", after := #[{ on := 5, ground := Go.Ground.data }, { on := 3, ground := Go.Ground.data }], guard := none }) (v := .pointer (some ⟨B, 5, none⟩)) rfl (by kernel_rfl) (by kernel_rfl) (by kernel_rfl) (fun _ _ _ h => h) (Or.inl ⟨by rfl, ?_⟩) (by assumption) ?_
    · intro W hSw
      go_simp
      try with_reducible rfl
    simp only [Act.put, List.setIfInBounds_toArray, List.set_cons_zero, List.set_cons_succ]
    refine wpAnyH_take (i := 8) (oi := { dst := some 73, op := Go.Op.move (Go.Operand.tmp 0), type := 41, pos := "outright.go:154", after := #[], guard := none }) (v := .pointer (some ⟨B, 0, none⟩)) rfl (by kernel_rfl) (by kernel_rfl) (by kernel_rfl) (fun _ _ _ h => h) (Or.inl ⟨by rfl, ?_⟩) (by assumption) ?_
    · intro W hSw
      go_simp
      try with_reducible rfl
    simp only [Act.put, List.setIfInBounds_toArray, List.set_cons_zero, List.set_cons_succ]
    refine wpAnyH_take (i := 9) (oi := { dst := some 74, op := Go.Op.move (Go.Operand.tmp 6), type := 3, pos := "outright.go:154", after := #[], guard := none }) (v := .int .i64 0) rfl (by kernel_rfl) (by kernel_rfl) (by kernel_rfl) (fun _ _ _ h => h) (Or.inl ⟨by rfl, ?_⟩) (by assumption) ?_
    · intro W hSw
      go_simp
      try with_reducible rfl
    simp only [Act.put, List.setIfInBounds_toArray, List.set_cons_zero, List.set_cons_succ]
    refine wpAnyH_take (i := 10) (oi := { dst := some 75, op := Go.Op.nilCheck (Go.Operand.tmp 73), type := 0, pos := "outright.go:154", after := #[{ on := 8, ground := Go.Ground.data }], guard := none }) (v := .pointer (some ⟨B, 0, none⟩)) rfl (by kernel_rfl) (by kernel_rfl) (by kernel_rfl) (fun _ _ _ h => h) (Or.inl ⟨by rfl, ?_⟩) (by assumption) ?_
    · intro W hSw
      go_simp
      try with_reducible rfl
    simp only [Act.put, List.setIfInBounds_toArray, List.set_cons_zero, List.set_cons_succ]
    refine wpAnyH_take (i := 11) (oi := { dst := some 76, op := Go.Op.fieldAddr 47 (Go.Operand.tmp 75) 0, type := 0, pos := "outright.go:154", after := #[{ on := 10, ground := Go.Ground.data }], guard := none }) (v := .pointer (some ⟨B, 0, none⟩)) rfl (by kernel_rfl) (by kernel_rfl) (by kernel_rfl) (fun _ _ _ h => h) (Or.inl ⟨by rfl, ?_⟩) (by assumption) ?_
    · intro W hSw
      go_simp
      try with_reducible rfl
    simp only [Act.put, List.setIfInBounds_toArray, List.set_cons_zero, List.set_cons_succ]
    refine wpAnyH_take (i := 12) (oi := { dst := some 77, op := Go.Op.indexAddr 42 (Go.Operand.tmp 76) (Go.Operand.tmp 74), type := 0, pos := "outright.go:154", after := #[{ on := 11, ground := Go.Ground.data }, { on := 9, ground := Go.Ground.data }], guard := none }) (v := .pointer (some ⟨B, 0, none⟩)) rfl (by kernel_rfl) (by kernel_rfl) (by kernel_rfl) (fun _ _ _ h => h) (Or.inl ⟨by rfl, ?_⟩) (by assumption) ?_
    · intro W hSw
      go_simp
      try with_reducible rfl
    simp only [Act.put, List.setIfInBounds_toArray, List.set_cons_zero, List.set_cons_succ]
    refine wpAnyH_take (i := 13) (oi := { dst := some 78, op := Go.Op.load 22 (Go.Operand.tmp 77), type := 22, pos := "outright.go:154", after := #[{ on := 12, ground := Go.Ground.data }], guard := none }) (v := .pointer (some ⟨x2.P false, 0, none⟩)) rfl (by kernel_rfl) (by kernel_rfl) (by kernel_rfl) (fun _ _ _ h => h) (Or.inl ⟨by rfl, ?_⟩) (by assumption) ?_
    · intro W hSw
      go_simp
      try with_reducible rfl
    simp only [Act.put, List.setIfInBounds_toArray, List.set_cons_zero, List.set_cons_succ]
    refine wpAnyH_take (i := 16) (oi := { dst := some 81, op := Go.Op.nilCheck (Go.Operand.tmp 65), type := 0, pos := "outright.go:154", after := #[{ on := 0, ground := Go.Ground.data }], guard := none }) (v := .pointer (some ⟨B, 0, none⟩)) rfl (by kernel_rfl) (by kernel_rfl) (by kernel_rfl) (fun _ _ _ h => h) (Or.inl ⟨by rfl, ?_⟩) (by assumption) ?_
    · intro W hSw
      go_simp
      try with_reducible rfl
    simp only [Act.put, List.setIfInBounds_toArray, List.set_cons_zero, List.set_cons_succ]
    refine wpAnyH_take (i := 17) (oi := { dst := some 82, op := Go.Op.fieldAddr 47 (Go.Operand.tmp 81) 3, type := 0, pos := "outright.go:154", after := #[{ on := 16, ground := Go.Ground.data }], guard := none }) (v := .pointer (some ⟨B, 5, none⟩)) rfl (by kernel_rfl) (by kernel_rfl) (by kernel_rfl) (fun _ _ _ h => h) (Or.inl ⟨by rfl, ?_⟩) (by assumption) ?_
    · intro W hSw
      go_simp
      try with_reducible rfl
    simp only [Act.put, List.setIfInBounds_toArray, List.set_cons_zero, List.set_cons_succ]
    refine wpAnyH_ready (rs := [7, 14]) (by kernel_rfl) (by simp) ?_
    refine AllReadyH.cons (o := { dst := some 72, op := Go.Op.load 44 (Go.Operand.tmp 71), type := 44, pos := "outright.go:154", after := #[{ on := 6, ground := Go.Ground.data }], guard := none }) rfl (fun K hK => ?_) (AllReadyH.cons (o := { dst := some 79, op := Go.Op.call { callee := Go.Callee.value (Go.Operand.func 27), args := #[Go.Operand.tmp 78], argTypes := #[22] }, type := 44, pos := "outright.go:154", after := #[{ on := 13, ground := Go.Ground.data }], guard := none }) rfl (fun K hK => ?_) (AllReadyH.nil))
    · go_simp
      refine hK.out _ _ ((show V5.drew.cell? _ = _ from s0)) (fun hHeld => ?_)
      clear hK K
      try simp only [Act.put, List.setIfInBounds_toArray, List.set_cons_zero, List.set_cons_succ]
      refine wpAnyH_ready (rs := [14]) (by kernel_rfl) (by simp) ?_
      refine AllReadyH.cons (o := { dst := some 79, op := Go.Op.call { callee := Go.Callee.value (Go.Operand.func 27), args := #[Go.Operand.tmp 78], argTypes := #[22] }, type := 44, pos := "outright.go:154", after := #[{ on := 13, ground := Go.Ground.data }], guard := none }) rfl (fun K hK => ?_) (AllReadyH.nil)
      go_simp
      refine (takeA HSE.out HEA.out).mono ?_
      rintro e Vc ⟨vt, ks, rfl, hTA, hTL, hTm, hTr, hTb, hTc⟩
      obtain ⟨Av, cv, rfl, hTv, -⟩ := own_form hTL.own
      have s1 := ch_cell hTc (show V5.drew.cell? _ = _ from s0) HPB.out
      have t1 := ch_cell hTc (show V5.drew.cell? _ = _ from t0) HPB.out
      have HTA := Lib.hid hTA; have HTL := Lib.hid hTL; have HTM := Lib.hid hTm; have HTB := Lib.hid hTb; have HTV := Lib.hid hTv
      have HOT1 := Lib.hid (own_ch HOT.out hTc (fun q hq => (HRW.out q hq).1))
      have HTC := Lib.hid ((Ch.drew V5 (fun q => q = x2.P false)).trans hTc (fun i hi => .inl hi))
      have hks : ks.length ≤ 600000 := by have h9 := congrArg List.length HTM.out; rw [List.length_map] at h9; have := HI5.out; omega
      obtain ⟨mk, hmk⟩ : ∃ q, q = ks.length := ⟨_, rfl⟩
      rw [← hmk] at HTV hks ⊢
      have HMK := Lib.hid hmk; have HKS := Lib.hid hks
      clear hTA hTL hTm hTr hTb hTc hTv hmk hks
      refine hK.out _ _ (s1) (fun hHeld => ?_)
      clear hK K
      try simp only [Act.put, List.setIfInBounds_toArray, List.set_cons_zero, List.set_cons_succ]
      refine wpAnyH_ready (rs := [15]) (by kernel_rfl) (by simp) ?_
      refine AllReadyH.cons (o := { dst := some 80, op := Go.Op.call { callee := Go.Callee.builtin Go.Builtin.append, args := #[Go.Operand.tmp 72, Go.Operand.tmp 79], argTypes := #[44, 44] }, type := 44, pos := "outright.go:154", after := #[{ on := 7, ground := Go.Ground.data }, { on := 14, ground := Go.Ground.data }, { on := 14, ground := Go.Ground.chain }], guard := none }) rfl (fun K hK => ?_) (AllReadyH.nil)
      refine step_app_own Vc rfl (.tmp 72) (.tmp 79) 44 rfl 0 27 _ 1 24 Try.underlying44 info27 rfl (by decide) (.slice At nt ct) nt ((x2.lt false).map slc) (by rfl) HOT1.out Av mk cv (ks.map slc) (by rfl) HTV.out (slc_one _) (by have := HN5.out; have := HKS.out; simp [maxLen]; omega) (by have := HN5.out; have := HKS.out; omega) (Nat.zero_le _) ?_
      intro v2 Vd hown2 hch2 hat2
      obtain ⟨A2, c2, rfl, -, -⟩ := own_form hown2
      have hBd := blk_ch (blk_ch HS7.out.wd.mem HTC.out HPB.out) hch2 (fun e => (HRW.out _ e).2 rfl)
      have s2 : Vd.cell? ⟨B, 0, none⟩ = some (.pointer (some ⟨x2.P false, 0, none⟩)) := blk_cell hBd 0 _ rfl
      have t2 : Vd.cell? ⟨B, 5, none⟩ = some (.slice At nt ct) := by rw [← HVT.out]; exact blk_cell hBd 5 _ rfl
      have z2 := blk_thawed hBd 5
      have S3 := Lib.hid (show (Vd.setCell ⟨B, 5, none⟩ (.slice A2 (nt + mk) c2)).cell? ⟨B, 0, none⟩ = some (.pointer (some ⟨x2.P false, 0, none⟩)) from blk_cell (blk_set hBd 5 (.slice A2 (nt + mk) c2)) 0 _ rfl)
      have HO2 := Lib.hid hown2; have HC2 := Lib.hid hch2; have HA2 := Lib.hid hat2
      clear hBd hown2 hch2 hat2
      refine hK.out _ _ (s2) (fun hHeld => ?_)
      clear hK K
      try simp only [Act.put, List.setIfInBounds_toArray, List.set_cons_zero, List.set_cons_succ]
      refine wpAnyH_take (i := 18) (oi := { dst := some 83, op := Go.Op.indexAddr 45 (Go.Operand.tmp 82) (Go.Operand.tmp 66), type := 0, pos := "outright.go:154", after := #[{ on := 17, ground := Go.Ground.data }, { on := 1, ground := Go.Ground.data }, { on := 0, ground := Go.Ground.phase }, { on := 1, ground := Go.Ground.phase }, { on := 2, ground := Go.Ground.phase }, { on := 3, ground := Go.Ground.phase }, { on := 4, ground := Go.Ground.phase }, { on := 5, ground := Go.Ground.phase }, { on := 6, ground := Go.Ground.phase }, { on := 7, ground := Go.Ground.phase }, { on := 8, ground := Go.Ground.phase }, { on := 9, ground := Go.Ground.phase }, { on := 10, ground := Go.Ground.phase }, { on := 11, ground := Go.Ground.phase }, { on := 12, ground := Go.Ground.phase }, { on := 13, ground := Go.Ground.phase }, { on := 14, ground := Go.Ground.phase }, { on := 15, ground := Go.Ground.phase }], guard := none }) (v := .pointer (some ⟨B, 5, none⟩)) rfl (by kernel_rfl) (by kernel_rfl) (by kernel_rfl) (fun _ _ _ h => h) (Or.inl ⟨by rfl, ?_⟩) (by assumption) ?_
      · intro W hSw
        go_simp
        try with_reducible rfl
      simp only [Act.put, List.setIfInBounds_toArray, List.set_cons_zero, List.set_cons_succ]
      refine wpAnyH_ready (rs := [19]) (by kernel_rfl) (by simp) ?_
      refine AllReadyH.cons (o := { dst := none, op := Go.Op.store 44 (Go.Operand.tmp 83) (Go.Operand.tmp 80), type := 0, pos := "outright.go:154", after := #[{ on := 18, ground := Go.Ground.data }, { on := 15, ground := Go.Ground.data }, { on := 15, ground := Go.Ground.chain }, { on := 0, ground := Go.Ground.phase }, { on := 1, ground := Go.Ground.phase }, { on := 2, ground := Go.Ground.phase }, { on := 3, ground := Go.Ground.phase }, { on := 4, ground := Go.Ground.phase }, { on := 5, ground := Go.Ground.phase }, { on := 6, ground := Go.Ground.phase }, { on := 7, ground := Go.Ground.phase }, { on := 8, ground := Go.Ground.phase }, { on := 9, ground := Go.Ground.phase }, { on := 10, ground := Go.Ground.phase }, { on := 11, ground := Go.Ground.phase }, { on := 12, ground := Go.Ground.phase }, { on := 13, ground := Go.Ground.phase }, { on := 14, ground := Go.Ground.phase }, { on := 15, ground := Go.Ground.phase }], guard := none }) rfl (fun K hK => ?_) (AllReadyH.nil)
      go_simp
      refine hK.out _ _ (S3.out) (fun hHeld => ?_)
      clear hK K
      try simp only [Act.put, List.setIfInBounds_toArray, List.set_cons_zero, List.set_cons_succ]
      refine wpAnyH_done (by kernel_rfl) ?_ _
      clear hHeld
      have HFIN := Lib.hid (hs_last (W := { W with air := W.air.eraseIdx k }) (a := W.e false) HS7.out HTA.out HTC.out HTM.out HMK.out HNT.out (fun p hp => ⟨(HTL.out.each p hp).1, HTB.out p hp⟩) HO2.out (by rw [HVT.out]; exact HC2.out) (by rw [HVT.out]; exact HA2.out) (wd_hand HPK.out (by rw [if_neg (fun h => h HK5.out)]) (by rw [if_pos hk4])) HXP.out)
      clear S3 HO2 HC2 HA2 s1 t1 s2 t2 z2
      go_wp2
      exact bodyPost_end (results_none rfl _ _ _) rfl HFIN.out
    · go_simp
      refine (takeA HSE.out HEA.out).mono ?_
      rintro e Vc ⟨vt, ks, rfl, hTA, hTL, hTm, hTr, hTb, hTc⟩
      obtain ⟨Av, cv, rfl, hTv, -⟩ := own_form hTL.own
      have s1 := ch_cell hTc (show V5.drew.cell? _ = _ from s0) HPB.out
      have t1 := ch_cell hTc (show V5.drew.cell? _ = _ from t0) HPB.out
      have HTA := Lib.hid hTA; have HTL := Lib.hid hTL; have HTM := Lib.hid hTm; have HTB := Lib.hid hTb; have HTV := Lib.hid hTv
      have HOT1 := Lib.hid (own_ch HOT.out hTc (fun q hq => (HRW.out q hq).1))
      have HTC := Lib.hid ((Ch.drew V5 (fun q => q = x2.P false)).trans hTc (fun i hi => .inl hi))
      have hks : ks.length ≤ 600000 := by have h9 := congrArg List.length HTM.out; rw [List.length_map] at h9; have := HI5.out; omega
      obtain ⟨mk, hmk⟩ : ∃ q, q = ks.length := ⟨_, rfl⟩
      rw [← hmk] at HTV hks ⊢
      have HMK := Lib.hid hmk; have HKS := Lib.hid hks
      clear hTA hTL hTm hTr hTb hTc hTv hmk hks
      refine hK.out _ _ (s1) (fun hHeld => ?_)
      clear hK K
      try simp only [Act.put, List.setIfInBounds_toArray, List.set_cons_zero, List.set_cons_succ]
      refine wpAnyH_ready (rs := [7]) (by kernel_rfl) (by simp) ?_
      refine AllReadyH.cons (o := { dst := some 72, op := Go.Op.load 44 (Go.Operand.tmp 71), type := 44, pos := "outright.go:154", after := #[{ on := 6, ground := Go.Ground.data }], guard := none }) rfl (fun K hK => ?_) (AllReadyH.nil)
      go_simp
      refine hK.out _ _ (s1) (fun hHeld => ?_)
      clear hK K
      try simp only [Act.put, List.setIfInBounds_toArray, List.set_cons_zero, List.set_cons_succ]
      refine wpAnyH_ready (rs := [15]) (by kernel_rfl) (by simp) ?_
      refine AllReadyH.cons (o := { dst := some 80, op := Go.Op.call { callee := Go.Callee.builtin Go.Builtin.append, args := #[Go.Operand.tmp 72, Go.Operand.tmp 79], argTypes := #[44, 44] }, type := 44, pos := "outright.go:154", after := #[{ on := 7, ground := Go.Ground.data }, { on := 14, ground := Go.Ground.data }, { on := 14, ground := Go.Ground.chain }], guard := none }) rfl (fun K hK => ?_) (AllReadyH.nil)
      refine step_app_own Vc rfl (.tmp 72) (.tmp 79) 44 rfl 0 27 _ 1 24 Try.underlying44 info27 rfl (by decide) (.slice At nt ct) nt ((x2.lt false).map slc) (by rfl) HOT1.out Av mk cv (ks.map slc) (by rfl) HTV.out (slc_one _) (by have := HN5.out; have := HKS.out; simp [maxLen]; omega) (by have := HN5.out; have := HKS.out; omega) (Nat.zero_le _) ?_
      intro v2 Vd hown2 hch2 hat2
      obtain ⟨A2, c2, rfl, -, -⟩ := own_form hown2
      have hBd := blk_ch (blk_ch HS7.out.wd.mem HTC.out HPB.out) hch2 (fun e => (HRW.out _ e).2 rfl)
      have s2 : Vd.cell? ⟨B, 0, none⟩ = some (.pointer (some ⟨x2.P false, 0, none⟩)) := blk_cell hBd 0 _ rfl
      have t2 : Vd.cell? ⟨B, 5, none⟩ = some (.slice At nt ct) := by rw [← HVT.out]; exact blk_cell hBd 5 _ rfl
      have z2 := blk_thawed hBd 5
      have S3 := Lib.hid (show (Vd.setCell ⟨B, 5, none⟩ (.slice A2 (nt + mk) c2)).cell? ⟨B, 0, none⟩ = some (.pointer (some ⟨x2.P false, 0, none⟩)) from blk_cell (blk_set hBd 5 (.slice A2 (nt + mk) c2)) 0 _ rfl)
      have HO2 := Lib.hid hown2; have HC2 := Lib.hid hch2; have HA2 := Lib.hid hat2
      clear hBd hown2 hch2 hat2
      refine hK.out _ _ (s2) (fun hHeld => ?_)
      clear hK K
      try simp only [Act.put, List.setIfInBounds_toArray, List.set_cons_zero, List.set_cons_succ]
      refine wpAnyH_take (i := 18) (oi := { dst := some 83, op := Go.Op.indexAddr 45 (Go.Operand.tmp 82) (Go.Operand.tmp 66), type := 0, pos := "outright.go:154", after := #[{ on := 17, ground := Go.Ground.data }, { on := 1, ground := Go.Ground.data }, { on := 0, ground := Go.Ground.phase }, { on := 1, ground := Go.Ground.phase }, { on := 2, ground := Go.Ground.phase }, { on := 3, ground := Go.Ground.phase }, { on := 4, ground := Go.Ground.phase }, { on := 5, ground := Go.Ground.phase }, { on := 6, ground := Go.Ground.phase }, { on := 7, ground := Go.Ground.phase }, { on := 8, ground := Go.Ground.phase }, { on := 9, ground := Go.Ground.phase }, { on := 10, ground := Go.Ground.phase }, { on := 11, ground := Go.Ground.phase }, { on := 12, ground := Go.Ground.phase }, { on := 13, ground := Go.Ground.phase }, { on := 14, ground := Go.Ground.phase }, { on := 15, ground := Go.Ground.phase }], guard := none }) (v := .pointer (some ⟨B, 5, none⟩)) rfl (by kernel_rfl) (by kernel_rfl) (by kernel_rfl) (fun _ _ _ h => h) (Or.inl ⟨by rfl, ?_⟩) (by assumption) ?_
      · intro W hSw
        go_simp
        try with_reducible rfl
      simp only [Act.put, List.setIfInBounds_toArray, List.set_cons_zero, List.set_cons_succ]
      refine wpAnyH_ready (rs := [19]) (by kernel_rfl) (by simp) ?_
      refine AllReadyH.cons (o := { dst := none, op := Go.Op.store 44 (Go.Operand.tmp 83) (Go.Operand.tmp 80), type := 0, pos := "outright.go:154", after := #[{ on := 18, ground := Go.Ground.data }, { on := 15, ground := Go.Ground.data }, { on := 15, ground := Go.Ground.chain }, { on := 0, ground := Go.Ground.phase }, { on := 1, ground := Go.Ground.phase }, { on := 2, ground := Go.Ground.phase }, { on := 3, ground := Go.Ground.phase }, { on := 4, ground := Go.Ground.phase }, { on := 5, ground := Go.Ground.phase }, { on := 6, ground := Go.Ground.phase }, { on := 7, ground := Go.Ground.phase }, { on := 8, ground := Go.Ground.phase }, { on := 9, ground := Go.Ground.phase }, { on := 10, ground := Go.Ground.phase }, { on := 11, ground := Go.Ground.phase }, { on := 12, ground := Go.Ground.phase }, { on := 13, ground := Go.Ground.phase }, { on := 14, ground := Go.Ground.phase }, { on := 15, ground := Go.Ground.phase }], guard := none }) rfl (fun K hK => ?_) (AllReadyH.nil)
      go_simp
      refine hK.out _ _ (S3.out) (fun hHeld => ?_)
      clear hK K
      try simp only [Act.put, List.setIfInBounds_toArray, List.set_cons_zero, List.set_cons_succ]
      refine wpAnyH_done (by kernel_rfl) ?_ _
      clear hHeld
      have HFIN := Lib.hid (hs_last (W := { W with air := W.air.eraseIdx k }) (a := W.e false) HS7.out HTA.out HTC.out HTM.out HMK.out HNT.out (fun p hp => ⟨(HTL.out.each p hp).1, HTB.out p hp⟩) HO2.out (by rw [HVT.out]; exact HC2.out) (by rw [HVT.out]; exact HA2.out) (wd_hand HPK.out (by rw [if_neg (fun h => h HK5.out)]) (by rw [if_pos hk4])) HXP.out)
      clear S3 HO2 HC2 HA2 s1 t1 s2 t2 z2
      go_wp2
      exact bodyPost_end (results_none rfl _ _ _) rfl HFIN.out
  have g5 : (u.k == 5) = false := by simpa using hk5
  have d0 : V5.cell? ⟨X, 0, none⟩ = some (.int .i64 u.k) := blk_cell HS5.out.bx 0 _ rfl
  have f0 : V5.cell? ⟨F, 0, none⟩ = some (.int .i64 fr) := blk_cell HS5.out.bf 0 _ rfl
  have f1 : V5.cell? ⟨F, 1, none⟩ = some (.int .i64 to) := blk_cell HS5.out.bf 1 _ rfl
  have f2 : V5.cell? ⟨F, 2, none⟩ = some (.int .i64 nu) := blk_cell HS5.out.bf 2 _ rfl
  have f3 : V5.cell? ⟨F, 3, none⟩ = some (.int .i64 ac) := blk_cell HS5.out.bf 3 _ rfl
  have f4 : V5.cell? ⟨F, 4, none⟩ = some (.slice A n cc) := blk_cell HS5.out.bf 4 _ rfl
  have f5 : V5.cell? ⟨F, 5, none⟩ = some (.bool false) := blk_cell HS5.out.bf 5 _ rfl
  go_wp2_with fail
  have hTc := agr_ext T2 V5.heap.size (fun _ => 0)
  obtain ⟨Tc, hTcd⟩ : ∃ T', T' = ext T2 V5.heap.size (fun _ => 0) := ⟨_, rfl⟩
  have HZC := Lib.hid (show ∀ q, V5.heap.size ≤ q → Tc q = 0 from fun q hq => by rw [hTcd]; exact ext_new _ _ _ hq)
  rw [← hTcd] at hTc
  have hSA := ((HS5.out.wd.ends false).retag hTc).keep (Ch.drew V5 No) (fun _ _ => id) (agr_refl _ _)
  have HSA := Lib.hid (show SesA V5.drew (x2.P false) Tc (tg false) M (W.e false) from hSA)
  have HRD := Lib.hid ((held_rd HH5.out).ch (Ch.drew V5 No) (fun _ _ => id))
  have HLN := Lib.hid (held_len HH5.out)
  have s0 : V5.cell? ⟨B, 0, none⟩ = some (.pointer (some ⟨x2.P false, 0, none⟩)) := (wdi_cell HS5.out.wd).1 false
  have HM5 := Lib.hid (show M ≤ 1000000 from by have := HMM.out; omega)
  have HTB := Lib.hid (show Tc B ≠ tg false from by rw [hTc _ (blk_lt HS5.out.wd.mem), HS5.out.wd.tag]; decide)
  have HTF := Lib.hid (show Tc F ≠ tg false from by rw [hTc _ (blk_lt HS5.out.bf), HS5.out.bft]; decide)
  have HTC := Lib.hid hTc
  clear hTc hSA hTcd
  go_region_held3 (fun V => V.cell? ⟨B, 0, none⟩ = some (.pointer (some ⟨x2.P false, 0, none⟩)) ∧ V.cell? ⟨F, 0, none⟩ = some (.int .i64 fr) ∧ V.cell? ⟨F, 1, none⟩ = some (.int .i64 to) ∧ V.cell? ⟨F, 2, none⟩ = some (.int .i64 nu) ∧ V.cell? ⟨F, 3, none⟩ = some (.int .i64 ac) ∧ V.cell? ⟨F, 4, none⟩ = some (.slice A n cc))
    (first | exact ⟨s0, f0, f1, f2, f3, f4⟩ | exact S1.out | exact S2.out)
    (first
      | (go_at_call 79; refine (copypack_any ⟨fr, to, nu, ac, l⟩ A n cc _ HRD.out (by have := HPL.out; have := HLN.out; omega)).mono ?_; rintro e Va ⟨ga, ca, rfl, hga, hby, hbe⟩; have S1 := Lib.hid (And.intro (below_cell hbe s0) (And.intro (below_cell hbe f0) (And.intro (below_cell hbe f1) (And.intro (below_cell hbe f2) (And.intro (below_cell hbe f3) (below_cell hbe f4)))))); have HBE := Lib.hid hbe; have HBY := Lib.hid hby; have HGA := Lib.hid hga; clear hbe hby hga)
      | (go_at_call 18; refine (recvA (HSA.out.below HBE.out (agr_refl _ _)) (HEP.out false) HM5.out ⟨fr, to, nu, ac, l⟩ (some ⟨ga, 0, none⟩) n ca (byt_rd HBY.out HLN.out) (fun b hb => by cases hb; have h9 : Tc ga = 0 := HZC.out ga HGA.out; show Tc ga ≠ _; rw [h9]; decide)).mono ?_; rintro e Vb ⟨rfl, T3, hT3, hSB, hcB⟩; have S2 := Lib.hid (And.intro (ch_cell hcB S1.out.1 HTB.out) (And.intro (ch_cell hcB S1.out.2.1 HTF.out) (And.intro (ch_cell hcB S1.out.2.2.1 HTF.out) (And.intro (ch_cell hcB S1.out.2.2.2.1 HTF.out) (And.intro (ch_cell hcB S1.out.2.2.2.2.1 HTF.out) (ch_cell hcB S1.out.2.2.2.2.2 HTF.out))))))))
  have HS7 := Lib.hid (hs_recv HS5.out false HTC.out ((Ch.drew V5 No).trans (Ch.of_below HBE.out No) (fun _ h => h.elim)) hT3 hSB (Nat.le_add_right M 8) hcB)
  clear hT3 hSB hcB S1 S2 HBE HBY HGA s0 f0 f1 f2 f3 f4 f5 d0 HSA HRD HLN HTB HTF HTC HZC HS5 HH5
  go_wp2_with fail
  have EPA : ((W.e false).recv ⟨fr, to, nu, ac, l⟩).ep ≠ 0 := by rw [recv_ep]; exact HEP.out false
  have hLT := (HS7.out.wd.took false)
  obtain ⟨At, ct, hvt, hrt, _⟩ := own_form hLT.own
  obtain ⟨nt, hnt⟩ : ∃ q, q = (x2.lt false).length := ⟨_, rfl⟩
  rw [← hnt] at hvt hrt
  have hnt5 : nt ≤ 100000 := by
    have h9 := congrArg List.length (HS7.out.wd.tookl false)
    rw [List.length_map, ← hnt] at h9
    have h8 := HTK.out false
    have h7 : nt = (W.took false).length := h9
    omega
  have hin5 : (((W.e false).recv ⟨fr, to, nu, ac, l⟩)).inn.length ≤ 600000 := by
    have h9 := HS7.out.wd.ends false
    obtain ⟨s9, l9, h9⟩ := h9
    have h8 := h9.inM
    have h7 := HMM.out
    have h6 : (((W.e false).recv ⟨fr, to, nu, ac, l⟩)).inn.length ≤ M + 8 := h8
    omega
  have s0 : Vb.cell? ⟨B, 0, none⟩ = some (.pointer (some ⟨x2.P false, 0, none⟩)) := (wdi_cell HS7.out.wd).1 false
  have t0 : Vb.cell? ⟨B, 5, none⟩ = some (.slice At nt ct) := by rw [← hvt]; exact (wdi_cell HS7.out.wd).2.2.2.1 false
  have HSE := Lib.hid (show SesA Vb.drew (x2.P false) T3 (tg false) (M + 8) (((W.e false).recv ⟨fr, to, nu, ac, l⟩)) from ((HS7.out.wd.ends false).keep (Ch.drew Vb No) (fun _ _ => id) (agr_refl _ _)))
  have HEA := Lib.hid (show (((W.e false).recv ⟨fr, to, nu, ac, l⟩)).ep ≠ 0 from EPA)
  have HPB := Lib.hid (show B ≠ x2.P false from fun e => by have h9 := HS7.out.wd.tag; rw [e, (HS7.out.wd.ends false).tag] at h9; cases h9)
  have HLW := Lib.hid (show (x2.lt false).length = nt from hnt.symm)
  have HVT := Lib.hid hvt; have HNT := Lib.hid hnt; have HN5 := Lib.hid hnt5; have HI5 := Lib.hid hin5
  have HOT := Lib.hid (show Vb.drew.ownsRow 0 27 1 (.slice At nt ct) nt ((x2.lt false).map slc) from by rw [← hvt, hnt]; exact own_ch hLT.own (Ch.drew Vb No) (fun _ _ => id))
  have HRW := Lib.hid (show ∀ q, (Value.slice At nt ct).ownBlock = some q → q ≠ x2.P false ∧ q ≠ B from fun q hq => by
    rw [← hvt] at hq
    have h9 := hLT.row q hq
    refine ⟨fun e => ?_, fun e => ?_⟩
    · rw [e, (HS7.out.wd.ends false).tag] at h9; cases h9
    · rw [e, HS7.out.wd.tag] at h9; cases h9)
  clear hLT hvt hrt hnt hnt5 hin5
  refine wp_region_held_drew (S := (fun V => V.cell? ⟨B, 0, none⟩ = some (.pointer (some ⟨x2.P false, 0, none⟩)))) (by kernel_rfl) (show Vb.drew.cell? _ = _ from s0) (fun hHeld => ?_)
  refine wpAnyH_take (i := 0) (oi := { dst := some 65, op := Go.Op.move (Go.Operand.tmp 0), type := 41, pos := "outright.go:154", after := #[], guard := none }) (v := .pointer (some ⟨B, 0, none⟩)) rfl (by kernel_rfl) (by kernel_rfl) (by kernel_rfl) (fun _ _ _ h => h) (Or.inl ⟨by rfl, ?_⟩) (by assumption) ?_
  · intro W hSw
    go_simp
    try with_reducible rfl
  simp only [Act.put, List.setIfInBounds_toArray, List.set_cons_zero, List.set_cons_succ]
  refine wpAnyH_take (i := 1) (oi := { dst := some 66, op := Go.Op.move (Go.Operand.tmp 6), type := 3, pos := "outright.go:154", after := #[], guard := none }) (v := .int .i64 0) rfl (by kernel_rfl) (by kernel_rfl) (by kernel_rfl) (fun _ _ _ h => h) (Or.inl ⟨by rfl, ?_⟩) (by assumption) ?_
  · intro W hSw
    go_simp
    try with_reducible rfl
  simp only [Act.put, List.setIfInBounds_toArray, List.set_cons_zero, List.set_cons_succ]
  refine wpAnyH_take (i := 2) (oi := { dst := some 67, op := Go.Op.move (Go.Operand.tmp 0), type := 41, pos := "outright.go:154", after := #[], guard := none }) (v := .pointer (some ⟨B, 0, none⟩)) rfl (by kernel_rfl) (by kernel_rfl) (by kernel_rfl) (fun _ _ _ h => h) (Or.inl ⟨by rfl, ?_⟩) (by assumption) ?_
  · intro W hSw
    go_simp
    try with_reducible rfl
  simp only [Act.put, List.setIfInBounds_toArray, List.set_cons_zero, List.set_cons_succ]
  refine wpAnyH_take (i := 3) (oi := { dst := some 68, op := Go.Op.move (Go.Operand.tmp 6), type := 3, pos := "outright.go:154", after := #[], guard := none }) (v := .int .i64 0) rfl (by kernel_rfl) (by kernel_rfl) (by kernel_rfl) (fun _ _ _ h => h) (Or.inl ⟨by rfl, ?_⟩) (by assumption) ?_
  · intro W hSw
    go_simp
    try with_reducible rfl
  simp only [Act.put, List.setIfInBounds_toArray, List.set_cons_zero, List.set_cons_succ]
  refine wpAnyH_take (i := 4) (oi := { dst := some 69, op := Go.Op.nilCheck (Go.Operand.tmp 67), type := 0, pos := "outright.go:154", after := #[{ on := 2, ground := Go.Ground.data }], guard := none }) (v := .pointer (some ⟨B, 0, none⟩)) rfl (by kernel_rfl) (by kernel_rfl) (by kernel_rfl) (fun _ _ _ h => h) (Or.inl ⟨by rfl, ?_⟩) (by assumption) ?_
  · intro W hSw
    go_simp
    try with_reducible rfl
  simp only [Act.put, List.setIfInBounds_toArray, List.set_cons_zero, List.set_cons_succ]
  refine wpAnyH_take (i := 5) (oi := { dst := some 70, op := Go.Op.fieldAddr 47 (Go.Operand.tmp 69) 3, type := 0, pos := "outright.go:154", after := #[{ on := 4, ground := Go.Ground.data }], guard := none }) (v := .pointer (some ⟨B, 5, none⟩)) rfl (by kernel_rfl) (by kernel_rfl) (by kernel_rfl) (fun _ _ _ h => h) (Or.inl ⟨by rfl, ?_⟩) (by assumption) ?_
  · intro W hSw
    go_simp
    try with_reducible rfl
  simp only [Act.put, List.setIfInBounds_toArray, List.set_cons_zero, List.set_cons_succ]
  refine wpAnyH_take (i := 6) (oi := { dst := some 71, op := Go.Op.indexAddr 45 (Go.Operand.tmp 70) (Go.Operand.tmp 68), type := 0, pos := "outright.go:154", after := #[{ on := 5, ground := Go.Ground.data }, { on := 3, ground := Go.Ground.data }], guard := none }) (v := .pointer (some ⟨B, 5, none⟩)) rfl (by kernel_rfl) (by kernel_rfl) (by kernel_rfl) (fun _ _ _ h => h) (Or.inl ⟨by rfl, ?_⟩) (by assumption) ?_
  · intro W hSw
    go_simp
    try with_reducible rfl
  simp only [Act.put, List.setIfInBounds_toArray, List.set_cons_zero, List.set_cons_succ]
  refine wpAnyH_take (i := 8) (oi := { dst := some 73, op := Go.Op.move (Go.Operand.tmp 0), type := 41, pos := "outright.go:154", after := #[], guard := none }) (v := .pointer (some ⟨B, 0, none⟩)) rfl (by kernel_rfl) (by kernel_rfl) (by kernel_rfl) (fun _ _ _ h => h) (Or.inl ⟨by rfl, ?_⟩) (by assumption) ?_
  · intro W hSw
    go_simp
    try with_reducible rfl
  simp only [Act.put, List.setIfInBounds_toArray, List.set_cons_zero, List.set_cons_succ]
  refine wpAnyH_take (i := 9) (oi := { dst := some 74, op := Go.Op.move (Go.Operand.tmp 6), type := 3, pos := "outright.go:154", after := #[], guard := none }) (v := .int .i64 0) rfl (by kernel_rfl) (by kernel_rfl) (by kernel_rfl) (fun _ _ _ h => h) (Or.inl ⟨by rfl, ?_⟩) (by assumption) ?_
  · intro W hSw
    go_simp
    try with_reducible rfl
  simp only [Act.put, List.setIfInBounds_toArray, List.set_cons_zero, List.set_cons_succ]
  refine wpAnyH_take (i := 10) (oi := { dst := some 75, op := Go.Op.nilCheck (Go.Operand.tmp 73), type := 0, pos := "outright.go:154", after := #[{ on := 8, ground := Go.Ground.data }], guard := none }) (v := .pointer (some ⟨B, 0, none⟩)) rfl (by kernel_rfl) (by kernel_rfl) (by kernel_rfl) (fun _ _ _ h => h) (Or.inl ⟨by rfl, ?_⟩) (by assumption) ?_
  · intro W hSw
    go_simp
    try with_reducible rfl
  simp only [Act.put, List.setIfInBounds_toArray, List.set_cons_zero, List.set_cons_succ]
  refine wpAnyH_take (i := 11) (oi := { dst := some 76, op := Go.Op.fieldAddr 47 (Go.Operand.tmp 75) 0, type := 0, pos := "outright.go:154", after := #[{ on := 10, ground := Go.Ground.data }], guard := none }) (v := .pointer (some ⟨B, 0, none⟩)) rfl (by kernel_rfl) (by kernel_rfl) (by kernel_rfl) (fun _ _ _ h => h) (Or.inl ⟨by rfl, ?_⟩) (by assumption) ?_
  · intro W hSw
    go_simp
    try with_reducible rfl
  simp only [Act.put, List.setIfInBounds_toArray, List.set_cons_zero, List.set_cons_succ]
  refine wpAnyH_take (i := 12) (oi := { dst := some 77, op := Go.Op.indexAddr 42 (Go.Operand.tmp 76) (Go.Operand.tmp 74), type := 0, pos := "outright.go:154", after := #[{ on := 11, ground := Go.Ground.data }, { on := 9, ground := Go.Ground.data }], guard := none }) (v := .pointer (some ⟨B, 0, none⟩)) rfl (by kernel_rfl) (by kernel_rfl) (by kernel_rfl) (fun _ _ _ h => h) (Or.inl ⟨by rfl, ?_⟩) (by assumption) ?_
  · intro W hSw
    go_simp
    try with_reducible rfl
  simp only [Act.put, List.setIfInBounds_toArray, List.set_cons_zero, List.set_cons_succ]
  refine wpAnyH_take (i := 13) (oi := { dst := some 78, op := Go.Op.load 22 (Go.Operand.tmp 77), type := 22, pos := "outright.go:154", after := #[{ on := 12, ground := Go.Ground.data }], guard := none }) (v := .pointer (some ⟨x2.P false, 0, none⟩)) rfl (by kernel_rfl) (by kernel_rfl) (by kernel_rfl) (fun _ _ _ h => h) (Or.inl ⟨by rfl, ?_⟩) (by assumption) ?_
  · intro W hSw
    go_simp
    try with_reducible rfl
  simp only [Act.put, List.setIfInBounds_toArray, List.set_cons_zero, List.set_cons_succ]
  refine wpAnyH_take (i := 16) (oi := { dst := some 81, op := Go.Op.nilCheck (Go.Operand.tmp 65), type := 0, pos := "outright.go:154", after := #[{ on := 0, ground := Go.Ground.data }], guard := none }) (v := .pointer (some ⟨B, 0, none⟩)) rfl (by kernel_rfl) (by kernel_rfl) (by kernel_rfl) (fun _ _ _ h => h) (Or.inl ⟨by rfl, ?_⟩) (by assumption) ?_
  · intro W hSw
    go_simp
    try with_reducible rfl
  simp only [Act.put, List.setIfInBounds_toArray, List.set_cons_zero, List.set_cons_succ]
  refine wpAnyH_take (i := 17) (oi := { dst := some 82, op := Go.Op.fieldAddr 47 (Go.Operand.tmp 81) 3, type := 0, pos := "outright.go:154", after := #[{ on := 16, ground := Go.Ground.data }], guard := none }) (v := .pointer (some ⟨B, 5, none⟩)) rfl (by kernel_rfl) (by kernel_rfl) (by kernel_rfl) (fun _ _ _ h => h) (Or.inl ⟨by rfl, ?_⟩) (by assumption) ?_
  · intro W hSw
    go_simp
    try with_reducible rfl
  simp only [Act.put, List.setIfInBounds_toArray, List.set_cons_zero, List.set_cons_succ]
  refine wpAnyH_ready (rs := [7, 14]) (by kernel_rfl) (by simp) ?_
  refine AllReadyH.cons (o := { dst := some 72, op := Go.Op.load 44 (Go.Operand.tmp 71), type := 44, pos := "outright.go:154", after := #[{ on := 6, ground := Go.Ground.data }], guard := none }) rfl (fun K hK => ?_) (AllReadyH.cons (o := { dst := some 79, op := Go.Op.call { callee := Go.Callee.value (Go.Operand.func 27), args := #[Go.Operand.tmp 78], argTypes := #[22] }, type := 44, pos := "outright.go:154", after := #[{ on := 13, ground := Go.Ground.data }], guard := none }) rfl (fun K hK => ?_) (AllReadyH.nil))
  · go_simp
    refine hK.out _ _ ((show Vb.drew.cell? _ = _ from s0)) (fun hHeld => ?_)
    clear hK K
    try simp only [Act.put, List.setIfInBounds_toArray, List.set_cons_zero, List.set_cons_succ]
    refine wpAnyH_ready (rs := [14]) (by kernel_rfl) (by simp) ?_
    refine AllReadyH.cons (o := { dst := some 79, op := Go.Op.call { callee := Go.Callee.value (Go.Operand.func 27), args := #[Go.Operand.tmp 78], argTypes := #[22] }, type := 44, pos := "outright.go:154", after := #[{ on := 13, ground := Go.Ground.data }], guard := none }) rfl (fun K hK => ?_) (AllReadyH.nil)
    go_simp
    refine (takeA HSE.out HEA.out).mono ?_
    rintro e Vc ⟨vt, ks, rfl, hTA, hTL, hTm, hTr, hTb, hTc⟩
    obtain ⟨Av, cv, rfl, hTv, -⟩ := own_form hTL.own
    have s1 := ch_cell hTc (show Vb.drew.cell? _ = _ from s0) HPB.out
    have t1 := ch_cell hTc (show Vb.drew.cell? _ = _ from t0) HPB.out
    have HTA := Lib.hid hTA; have HTL := Lib.hid hTL; have HTM := Lib.hid hTm; have HTB := Lib.hid hTb; have HTV := Lib.hid hTv
    have HOT1 := Lib.hid (own_ch HOT.out hTc (fun q hq => (HRW.out q hq).1))
    have HTC := Lib.hid ((Ch.drew Vb (fun q => q = x2.P false)).trans hTc (fun i hi => .inl hi))
    have hks : ks.length ≤ 600000 := by have h9 := congrArg List.length HTM.out; rw [List.length_map] at h9; have := HI5.out; omega
    obtain ⟨mk, hmk⟩ : ∃ q, q = ks.length := ⟨_, rfl⟩
    rw [← hmk] at HTV hks ⊢
    have HMK := Lib.hid hmk; have HKS := Lib.hid hks
    clear hTA hTL hTm hTr hTb hTc hTv hmk hks
    refine hK.out _ _ (s1) (fun hHeld => ?_)
    clear hK K
    try simp only [Act.put, List.setIfInBounds_toArray, List.set_cons_zero, List.set_cons_succ]
    refine wpAnyH_ready (rs := [15]) (by kernel_rfl) (by simp) ?_
    refine AllReadyH.cons (o := { dst := some 80, op := Go.Op.call { callee := Go.Callee.builtin Go.Builtin.append, args := #[Go.Operand.tmp 72, Go.Operand.tmp 79], argTypes := #[44, 44] }, type := 44, pos := "outright.go:154", after := #[{ on := 7, ground := Go.Ground.data }, { on := 14, ground := Go.Ground.data }, { on := 14, ground := Go.Ground.chain }], guard := none }) rfl (fun K hK => ?_) (AllReadyH.nil)
    refine step_app_own Vc rfl (.tmp 72) (.tmp 79) 44 rfl 0 27 _ 1 24 Try.underlying44 info27 rfl (by decide) (.slice At nt ct) nt ((x2.lt false).map slc) (by rfl) HOT1.out Av mk cv (ks.map slc) (by rfl) HTV.out (slc_one _) (by have := HN5.out; have := HKS.out; simp [maxLen]; omega) (by have := HN5.out; have := HKS.out; omega) (Nat.zero_le _) ?_
    intro v2 Vd hown2 hch2 hat2
    obtain ⟨A2, c2, rfl, -, -⟩ := own_form hown2
    have hBd := blk_ch (blk_ch HS7.out.wd.mem HTC.out HPB.out) hch2 (fun e => (HRW.out _ e).2 rfl)
    have s2 : Vd.cell? ⟨B, 0, none⟩ = some (.pointer (some ⟨x2.P false, 0, none⟩)) := blk_cell hBd 0 _ rfl
    have t2 : Vd.cell? ⟨B, 5, none⟩ = some (.slice At nt ct) := by rw [← HVT.out]; exact blk_cell hBd 5 _ rfl
    have z2 := blk_thawed hBd 5
    have S3 := Lib.hid (show (Vd.setCell ⟨B, 5, none⟩ (.slice A2 (nt + mk) c2)).cell? ⟨B, 0, none⟩ = some (.pointer (some ⟨x2.P false, 0, none⟩)) from blk_cell (blk_set hBd 5 (.slice A2 (nt + mk) c2)) 0 _ rfl)
    have HO2 := Lib.hid hown2; have HC2 := Lib.hid hch2; have HA2 := Lib.hid hat2
    clear hBd hown2 hch2 hat2
    refine hK.out _ _ (s2) (fun hHeld => ?_)
    clear hK K
    try simp only [Act.put, List.setIfInBounds_toArray, List.set_cons_zero, List.set_cons_succ]
    refine wpAnyH_take (i := 18) (oi := { dst := some 83, op := Go.Op.indexAddr 45 (Go.Operand.tmp 82) (Go.Operand.tmp 66), type := 0, pos := "outright.go:154", after := #[{ on := 17, ground := Go.Ground.data }, { on := 1, ground := Go.Ground.data }, { on := 0, ground := Go.Ground.phase }, { on := 1, ground := Go.Ground.phase }, { on := 2, ground := Go.Ground.phase }, { on := 3, ground := Go.Ground.phase }, { on := 4, ground := Go.Ground.phase }, { on := 5, ground := Go.Ground.phase }, { on := 6, ground := Go.Ground.phase }, { on := 7, ground := Go.Ground.phase }, { on := 8, ground := Go.Ground.phase }, { on := 9, ground := Go.Ground.phase }, { on := 10, ground := Go.Ground.phase }, { on := 11, ground := Go.Ground.phase }, { on := 12, ground := Go.Ground.phase }, { on := 13, ground := Go.Ground.phase }, { on := 14, ground := Go.Ground.phase }, { on := 15, ground := Go.Ground.phase }], guard := none }) (v := .pointer (some ⟨B, 5, none⟩)) rfl (by kernel_rfl) (by kernel_rfl) (by kernel_rfl) (fun _ _ _ h => h) (Or.inl ⟨by rfl, ?_⟩) (by assumption) ?_
    · intro W hSw
      go_simp
      try with_reducible rfl
    simp only [Act.put, List.setIfInBounds_toArray, List.set_cons_zero, List.set_cons_succ]
    refine wpAnyH_ready (rs := [19]) (by kernel_rfl) (by simp) ?_
    refine AllReadyH.cons (o := { dst := none, op := Go.Op.store 44 (Go.Operand.tmp 83) (Go.Operand.tmp 80), type := 0, pos := "outright.go:154", after := #[{ on := 18, ground := Go.Ground.data }, { on := 15, ground := Go.Ground.data }, { on := 15, ground := Go.Ground.chain }, { on := 0, ground := Go.Ground.phase }, { on := 1, ground := Go.Ground.phase }, { on := 2, ground := Go.Ground.phase }, { on := 3, ground := Go.Ground.phase }, { on := 4, ground := Go.Ground.phase }, { on := 5, ground := Go.Ground.phase }, { on := 6, ground := Go.Ground.phase }, { on := 7, ground := Go.Ground.phase }, { on := 8, ground := Go.Ground.phase }, { on := 9, ground := Go.Ground.phase }, { on := 10, ground := Go.Ground.phase }, { on := 11, ground := Go.Ground.phase }, { on := 12, ground := Go.Ground.phase }, { on := 13, ground := Go.Ground.phase }, { on := 14, ground := Go.Ground.phase }, { on := 15, ground := Go.Ground.phase }], guard := none }) rfl (fun K hK => ?_) (AllReadyH.nil)
    go_simp
    refine hK.out _ _ (S3.out) (fun hHeld => ?_)
    clear hK K
    try simp only [Act.put, List.setIfInBounds_toArray, List.set_cons_zero, List.set_cons_succ]
    refine wpAnyH_done (by kernel_rfl) ?_ _
    clear hHeld
    have HFIN := Lib.hid (hs_last (W := { W with air := W.air.eraseIdx k }) (a := ((W.e false).recv ⟨fr, to, nu, ac, l⟩)) HS7.out HTA.out HTC.out HTM.out HMK.out HNT.out (fun p hp => ⟨(HTL.out.each p hp).1, HTB.out p hp⟩) HO2.out (by rw [HVT.out]; exact HC2.out) (by rw [HVT.out]; exact HA2.out) (wd_hand HPK.out (by rw [if_pos hk5]) (by rw [if_pos hk4])) HXP.out)
    clear S3 HO2 HC2 HA2 s1 t1 s2 t2 z2
    go_wp2
    exact bodyPost_end (results_none rfl _ _ _) rfl HFIN.out
  · go_simp
    refine (takeA HSE.out HEA.out).mono ?_
    rintro e Vc ⟨vt, ks, rfl, hTA, hTL, hTm, hTr, hTb, hTc⟩
    obtain ⟨Av, cv, rfl, hTv, -⟩ := own_form hTL.own
    have s1 := ch_cell hTc (show Vb.drew.cell? _ = _ from s0) HPB.out
    have t1 := ch_cell hTc (show Vb.drew.cell? _ = _ from t0) HPB.out
    have HTA := Lib.hid hTA; have HTL := Lib.hid hTL; have HTM := Lib.hid hTm; have HTB := Lib.hid hTb; have HTV := Lib.hid hTv
    have HOT1 := Lib.hid (own_ch HOT.out hTc (fun q hq => (HRW.out q hq).1))
    have HTC := Lib.hid ((Ch.drew Vb (fun q => q = x2.P false)).trans hTc (fun i hi => .inl hi))
    have hks : ks.length ≤ 600000 := by have h9 := congrArg List.length HTM.out; rw [List.length_map] at h9; have := HI5.out; omega
    obtain ⟨mk, hmk⟩ : ∃ q, q = ks.length := ⟨_, rfl⟩
    rw [← hmk] at HTV hks ⊢
    have HMK := Lib.hid hmk; have HKS := Lib.hid hks
    clear hTA hTL hTm hTr hTb hTc hTv hmk hks
    refine hK.out _ _ (s1) (fun hHeld => ?_)
    clear hK K
    try simp only [Act.put, List.setIfInBounds_toArray, List.set_cons_zero, List.set_cons_succ]
    refine wpAnyH_ready (rs := [7]) (by kernel_rfl) (by simp) ?_
    refine AllReadyH.cons (o := { dst := some 72, op := Go.Op.load 44 (Go.Operand.tmp 71), type := 44, pos := "outright.go:154", after := #[{ on := 6, ground := Go.Ground.data }], guard := none }) rfl (fun K hK => ?_) (AllReadyH.nil)
    go_simp
    refine hK.out _ _ (s1) (fun hHeld => ?_)
    clear hK K
    try simp only [Act.put, List.setIfInBounds_toArray, List.set_cons_zero, List.set_cons_succ]
    refine wpAnyH_ready (rs := [15]) (by kernel_rfl) (by simp) ?_
    refine AllReadyH.cons (o := { dst := some 80, op := Go.Op.call { callee := Go.Callee.builtin Go.Builtin.append, args := #[Go.Operand.tmp 72, Go.Operand.tmp 79], argTypes := #[44, 44] }, type := 44, pos := "outright.go:154", after := #[{ on := 7, ground := Go.Ground.data }, { on := 14, ground := Go.Ground.data }, { on := 14, ground := Go.Ground.chain }], guard := none }) rfl (fun K hK => ?_) (AllReadyH.nil)
    refine step_app_own Vc rfl (.tmp 72) (.tmp 79) 44 rfl 0 27 _ 1 24 Try.underlying44 info27 rfl (by decide) (.slice At nt ct) nt ((x2.lt false).map slc) (by rfl) HOT1.out Av mk cv (ks.map slc) (by rfl) HTV.out (slc_one _) (by have := HN5.out; have := HKS.out; simp [maxLen]; omega) (by have := HN5.out; have := HKS.out; omega) (Nat.zero_le _) ?_
    intro v2 Vd hown2 hch2 hat2
    obtain ⟨A2, c2, rfl, -, -⟩ := own_form hown2
    have hBd := blk_ch (blk_ch HS7.out.wd.mem HTC.out HPB.out) hch2 (fun e => (HRW.out _ e).2 rfl)
    have s2 : Vd.cell? ⟨B, 0, none⟩ = some (.pointer (some ⟨x2.P false, 0, none⟩)) := blk_cell hBd 0 _ rfl
    have t2 : Vd.cell? ⟨B, 5, none⟩ = some (.slice At nt ct) := by rw [← HVT.out]; exact blk_cell hBd 5 _ rfl
    have z2 := blk_thawed hBd 5
    have S3 := Lib.hid (show (Vd.setCell ⟨B, 5, none⟩ (.slice A2 (nt + mk) c2)).cell? ⟨B, 0, none⟩ = some (.pointer (some ⟨x2.P false, 0, none⟩)) from blk_cell (blk_set hBd 5 (.slice A2 (nt + mk) c2)) 0 _ rfl)
    have HO2 := Lib.hid hown2; have HC2 := Lib.hid hch2; have HA2 := Lib.hid hat2
    clear hBd hown2 hch2 hat2
    refine hK.out _ _ (s2) (fun hHeld => ?_)
    clear hK K
    try simp only [Act.put, List.setIfInBounds_toArray, List.set_cons_zero, List.set_cons_succ]
    refine wpAnyH_take (i := 18) (oi := { dst := some 83, op := Go.Op.indexAddr 45 (Go.Operand.tmp 82) (Go.Operand.tmp 66), type := 0, pos := "outright.go:154", after := #[{ on := 17, ground := Go.Ground.data }, { on := 1, ground := Go.Ground.data }, { on := 0, ground := Go.Ground.phase }, { on := 1, ground := Go.Ground.phase }, { on := 2, ground := Go.Ground.phase }, { on := 3, ground := Go.Ground.phase }, { on := 4, ground := Go.Ground.phase }, { on := 5, ground := Go.Ground.phase }, { on := 6, ground := Go.Ground.phase }, { on := 7, ground := Go.Ground.phase }, { on := 8, ground := Go.Ground.phase }, { on := 9, ground := Go.Ground.phase }, { on := 10, ground := Go.Ground.phase }, { on := 11, ground := Go.Ground.phase }, { on := 12, ground := Go.Ground.phase }, { on := 13, ground := Go.Ground.phase }, { on := 14, ground := Go.Ground.phase }, { on := 15, ground := Go.Ground.phase }], guard := none }) (v := .pointer (some ⟨B, 5, none⟩)) rfl (by kernel_rfl) (by kernel_rfl) (by kernel_rfl) (fun _ _ _ h => h) (Or.inl ⟨by rfl, ?_⟩) (by assumption) ?_
    · intro W hSw
      go_simp
      try with_reducible rfl
    simp only [Act.put, List.setIfInBounds_toArray, List.set_cons_zero, List.set_cons_succ]
    refine wpAnyH_ready (rs := [19]) (by kernel_rfl) (by simp) ?_
    refine AllReadyH.cons (o := { dst := none, op := Go.Op.store 44 (Go.Operand.tmp 83) (Go.Operand.tmp 80), type := 0, pos := "outright.go:154", after := #[{ on := 18, ground := Go.Ground.data }, { on := 15, ground := Go.Ground.data }, { on := 15, ground := Go.Ground.chain }, { on := 0, ground := Go.Ground.phase }, { on := 1, ground := Go.Ground.phase }, { on := 2, ground := Go.Ground.phase }, { on := 3, ground := Go.Ground.phase }, { on := 4, ground := Go.Ground.phase }, { on := 5, ground := Go.Ground.phase }, { on := 6, ground := Go.Ground.phase }, { on := 7, ground := Go.Ground.phase }, { on := 8, ground := Go.Ground.phase }, { on := 9, ground := Go.Ground.phase }, { on := 10, ground := Go.Ground.phase }, { on := 11, ground := Go.Ground.phase }, { on := 12, ground := Go.Ground.phase }, { on := 13, ground := Go.Ground.phase }, { on := 14, ground := Go.Ground.phase }, { on := 15, ground := Go.Ground.phase }], guard := none }) rfl (fun K hK => ?_) (AllReadyH.nil)
    go_simp
    refine hK.out _ _ (S3.out) (fun hHeld => ?_)
    clear hK K
    try simp only [Act.put, List.setIfInBounds_toArray, List.set_cons_zero, List.set_cons_succ]
    refine wpAnyH_done (by kernel_rfl) ?_ _
    clear hHeld
    have HFIN := Lib.hid (hs_last (W := { W with air := W.air.eraseIdx k }) (a := ((W.e false).recv ⟨fr, to, nu, ac, l⟩)) HS7.out HTA.out HTC.out HTM.out HMK.out HNT.out (fun p hp => ⟨(HTL.out.each p hp).1, HTB.out p hp⟩) HO2.out (by rw [HVT.out]; exact HC2.out) (by rw [HVT.out]; exact HA2.out) (wd_hand HPK.out (by rw [if_pos hk5]) (by rw [if_pos hk4])) HXP.out)
    clear S3 HO2 HC2 HA2 s1 t1 s2 t2 z2
    go_wp2
    exact bodyPost_end (results_none rfl _ _ _) rfl HFIN.out
end Go.Proofs.Ytadcahnoghnkcaa
