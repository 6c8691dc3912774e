/- Walk: a session's Receive, of a packet that may be. Conditions: the session is as New makes it; its list of what came is its own. -/
import Derived.Test.YtadcahnoghnkcaaB6
namespace Go.Proofs.Ytadcahnoghnkcaa
open Go.RowKit
set_option linter.unusedVariables false
set_option linter.unusedSimpArgs false

set_option maxRecDepth 100000 in
set_option maxHeartbeats 8000000 in
theorem srecv_good {B : Nat} {s : Ses} {w : World} (h : SesB w B s) (h0 : s.ep ≠ 0) (fr to nu ac : Int) (A : Option Addr) (n c : Nat) (l : List UInt8) (hr : Rd w A n c 1 (u8s l)) (hgood : ¬ Bad s fr to nu ac n) (hAB : ∀ a, A = some a → a.block ≠ B)
    (bas m : Nat) (xs : List Value) (hown : w.ownsRow bas 27 1 s.inn m xs) (hne : s.inn.ownBlock ≠ some B) (hbas : bas ≤ w.heap.size) (hm : m ≤ 1000000) (hba : s.ba ≤ 1000000000) (hma : s.ma ≤ 8) (hca0 : 0 ≤ s.ca) (hca : s.ca ≤ 1000000000) (htu0 : 0 ≤ s.tu) (htu : s.tu ≤ 1000000000) :
    Calls Try.prog 18 #[.pointer (some ⟨B, 0, none⟩), .agg #[.int .i64 fr, .int .i64 to, .int .i64 nu, .int .i64 ac, .slice A n c]] w (RecvQ w B s fr to nu ac n l bas m xs) := by
  have hn63 := hr.small
  have hg := hgood
  unfold Bad at hg
  have g1 : decide (fr < 1) = false := by simp; omega
  have g2 : decide (1099511627776 < fr) = false := by simp; omega
  have g3 : decide (fr < s.pe) = false := by simp; omega
  have g4 : decide (to < 0) = false := by simp; omega
  have g5 : decide (nu < 0) = false := by simp; omega
  have g6 : decide (ac < 0) = false := by simp; omega
  have g7 : decide (1099511627776 < nu) = false := by simp; omega
  have g8 : decide (400 < (n : Int)) = false := by simp; omega
  have hn6 : n ≤ 1000000 := by omega
  have hb : Below w.heap.size w (w.alloc (.cells #[.int .i64 fr, .int .i64 to, .int .i64 nu, .int .i64 ac, .slice A n c] 33)) := (Below.refl _ w).alloc (Nat.le_refl _) _
  have hT := blk_new w 33 #[.int .i64 fr, .int .i64 to, .int .i64 nu, .int .i64 ac, .slice A n c]
  have hBT : B < w.heap.size := blk_lt h
  have hB := sesB_below h hb
  have hR := hr.below hb
  have hO := own_ch hown (Ch.of_below hb No) (fun _ _ => id)
  have hC := Ch.of_below hb (fun k => k = B)
  have HOB := Lib.hid (show ∀ k, s.inn.ownBlock = some k → bas ≤ k ∧ k < w.heap.size ∧ k ≠ B from fun k hk => ⟨(hown.lt k hk).1, (hown.lt k hk).2, fun e => hne (e ▸ hk)⟩)
  clear h hr hown hb hne
  obtain ⟨T, hTT⟩ : ∃ T, T = w.heap.size := ⟨_, rfl⟩
  have HTT := Lib.hid hTT
  have HSP := Lib.hid (show ∀ s1, s1 = (if s.pe < fr then s.turned fr else s) → recvS s fr to nu ac n = (if to ≠ s.ep then ({ s1 with ow := true }, false) else if nu = 0 then (s1.acked ac, false) else if nu = (s1.acked ac).ca + 1 then ({ (s1.acked ac) with ow := true, ca := nu }, true) else ({ (s1.acked ac) with ow := true }, false)) from fun s1 h1 => by rw [h1]; unfold recvS; rw [if_neg hgood])
  have cp := ses_pe hB
  have ct0 := blk_cell hT 0 _ rfl
  have HS1 := Lib.hid hB
  have HT1 := Lib.hid hT; have HR1 := Lib.hid hR; have HO1 := Lib.hid hO; have HC1 := Lib.hid hC
  have hBT' : B < T := by omega
  clear hB hT hR hO hC hg hgood
  go_enter Try.func18, Try.ntmps18
  go_wp2_with fail
  go_quiet ((go_at_call 64; exact Calls.quiet_of_same ((snone_any (sesB_ch HS1.out (ch_drewN No _ _) id) h0).mono fun e w' h => ⟨h.1, h.2.symm⟩)))
  have HS2 := Lib.hid (sesB_ch HS1.out (ch_drewN No (w.alloc (.cells #[.int .i64 fr, .int .i64 to, .int .i64 nu, .int .i64 ac, .slice A n c] 33)) nq) id)
  have HT2 := Lib.hid (blk_ch HT1.out (ch_drewN No (w.alloc (.cells #[.int .i64 fr, .int .i64 to, .int .i64 nu, .int .i64 ac, .slice A n c] 33)) nq) id)
  have HR2 := Lib.hid (HR1.out.ch (ch_drewN No (w.alloc (.cells #[.int .i64 fr, .int .i64 to, .int .i64 nu, .int .i64 ac, .slice A n c] 33)) nq) (fun _ _ => id))
  have HO2 := Lib.hid (own_ch HO1.out (ch_drewN No (w.alloc (.cells #[.int .i64 fr, .int .i64 to, .int .i64 nu, .int .i64 ac, .slice A n c] 33)) nq) (fun _ _ => id))
  have HC2 := Lib.hid (ch_thenno HC1.out (ch_drewN No (w.alloc (.cells #[.int .i64 fr, .int .i64 to, .int .i64 nu, .int .i64 ac, .slice A n c] 33)) nq))
  obtain ⟨W2, hW2⟩ : ∃ x, x = (w.alloc (.cells #[.int .i64 fr, .int .i64 to, .int .i64 nu, .int .i64 ac, .slice A n c] 33)).drewN nq := ⟨_, rfl⟩
  rw [← hW2] at HS2 HT2 HR2 HO2 HC2 ⊢
  clear hW2 HS1 HT1 HR1 HO1 HC1
  rw [← HTT.out] at HT2 ⊢
  clear hTT cp ct0 g1 g2 g3 g4 g5 g6 g7 g8
  have k0 : W2.cell? ⟨T, 0, none⟩ = some (.int .i64 fr) := blk_cell HT2.out 0 _ rfl
  have p0 := ses_pe HS2.out
  by_cases hfr : s.pe < fr
  · have gfr : decide (s.pe < fr) = true := by simpa using hfr
    go_wp2_with fail
    go_quiet (fail)
    have HS3 := Lib.hid (sesB_ch HS2.out (ch_drewN No W2 nq) id)
    have HT3 := Lib.hid (blk_ch HT2.out (ch_drewN No W2 nq) id)
    have HR3 := Lib.hid (HR2.out.ch (ch_drewN No W2 nq) (fun _ _ => id))
    have HO3 := Lib.hid (own_ch HO2.out (ch_drewN No W2 nq) (fun _ _ => id))
    have HC3 := Lib.hid (ch_thenno HC2.out (ch_drewN No W2 nq))
    obtain ⟨W3, hW3⟩ : ∃ x, x = W2.drewN nq := ⟨_, rfl⟩
    rw [← hW3] at HS3 HT3 HR3 HO3 HC3 ⊢
    clear hW3 HS2 HT2 HR2 HO2 HC2
    clear k0 p0
    have k0 : W3.cell? ⟨T, 0, none⟩ = some (.int .i64 fr) := blk_cell HT3.out 0 _ rfl
    go_wp2_with fail
    refine (sturn_any HS3.out fr htu0 htu).mono ?_; rintro e W4 ⟨rfl, hs4, hc4⟩
    obtain ⟨s1, hs1⟩ : ∃ s1, s1 = s.turned fr := ⟨_, rfl⟩
    rw [← hs1] at hs4
    have HS1E := Lib.hid (show s1 = (if s.pe < fr then s.turned fr else s) by rw [if_pos hfr]; exact hs1)
    have hs1e : s1.ep = s.ep := by rw [hs1]; rfl
    have hs1b : s1.ba ≤ 1000000000 ∧ s1.ma ≤ 8 ∧ 0 ≤ s1.ca ∧ s1.ca ≤ 1000000000 ∧ s1.inn = s.inn := by rw [hs1]; exact ⟨by simp [Ses.turned], by simp [Ses.turned], by simp [Ses.turned], by simp [Ses.turned], rfl⟩
    have HS4 := Lib.hid hs4
    have HT4 := Lib.hid (blk_ch HT3.out hc4 (fun e => by omega))
    have HR4 := Lib.hid (HR3.out.keep (fun a ha hl => hc4.block a.block hl (fun e => hAB a ha e)))
    have HO4 := Lib.hid (own_ch HO3.out hc4 (fun k hk e => (HOB.out k hk).2.2 e))
    have HC4 := Lib.hid (HC3.out.trans hc4 (fun i hi => .inl hi))
    clear hs4 hc4 hs1 k0 HS3 HT3 HR3 HO3 HC3
    have k1 : W4.cell? ⟨T, 1, none⟩ = some (.int .i64 to) := blk_cell HT4.out 1 _ rfl
    have e0 := ses_ep HS4.out
    rw [hs1e] at e0
    by_cases hto : to = s.ep
    rotate_left
    · have gto : (to != s.ep) = true := by simpa using hto
      go_wp2_with fail
      go_quiet (fail)
      have HS5 := Lib.hid (sesB_ch HS4.out (ch_drewN No W4 nq) id)
      have HT5 := Lib.hid (blk_ch HT4.out (ch_drewN No W4 nq) id)
      have HR5 := Lib.hid (HR4.out.ch (ch_drewN No W4 nq) (fun _ _ => id))
      have HO5 := Lib.hid (own_ch HO4.out (ch_drewN No W4 nq) (fun _ _ => id))
      have HC5 := Lib.hid (ch_thenno HC4.out (ch_drewN No W4 nq))
      obtain ⟨W5, hW5⟩ : ∃ x, x = W4.drewN nq := ⟨_, rfl⟩
      rw [← hW5] at HS5 HT5 HR5 HO5 HC5 ⊢
      clear hW5 HS4 HT4 HR4 HO4 HC4
      clear k1 e0
      go_wp2_with fail
      refine (bstore_any B 29 true _ _ (ses_ow HS5.out) (ses_fz HS5.out 29)).mono ?_; rintro e V ⟨rfl, hV⟩
      have hsV : SesB V B { s1 with ow := true } := by rw [hV]; exact blk_set (show Blk W5.drew B 75 _ from HS5.out) 29 (.int .u32 (bit true))
      have hcV : Ch (fun k => k = B) w V := by rw [hV]; exact ch_one (ch_thendrew HC5.out) 29 _
      have hoV : V.ownsRow bas 27 1 s.inn m xs := by rw [hV]; exact own_ch (own_ch HO5.out (Ch.drew _ No) (fun _ _ => id)) (Ch.setCell _ ⟨B, 29, none⟩ _) (fun k hk e => (HOB.out k hk).2.2 e)
      clear hV
      go_wp2
      refine bodyPost_ret (results_none rfl _ _ _) rfl ⟨rfl, hcV.mono (fun _ _ hi => .inl hi), .inl ?_⟩
      rw [HSP.out s1 HS1E.out, if_pos hto]
      exact ⟨rfl, hsV, hoV⟩
    have gto : (to != s.ep) = false := by simpa using hto
    have HTO := Lib.hid hto
    clear hto
    go_wp2_with fail
    go_quiet (fail)
    have HS5 := Lib.hid (sesB_ch HS4.out (ch_drewN No W4 nq) id)
    have HT5 := Lib.hid (blk_ch HT4.out (ch_drewN No W4 nq) id)
    have HR5 := Lib.hid (HR4.out.ch (ch_drewN No W4 nq) (fun _ _ => id))
    have HO5 := Lib.hid (own_ch HO4.out (ch_drewN No W4 nq) (fun _ _ => id))
    have HC5 := Lib.hid (ch_thenno HC4.out (ch_drewN No W4 nq))
    obtain ⟨W5, hW5⟩ : ∃ x, x = W4.drewN nq := ⟨_, rfl⟩
    rw [← hW5] at HS5 HT5 HR5 HO5 HC5 ⊢
    clear hW5 HS4 HT4 HR4 HO4 HC4
    clear k1 e0
    have k3 : W5.cell? ⟨T, 3, none⟩ = some (.int .i64 ac) := blk_cell HT5.out 3 _ rfl
    have b0 := ses_ba HS5.out
    have b1 := ses_ma HS5.out
    by_cases hk1 : (s1.ba : Int) ≤ ac
    rotate_left
    · have gk1 : decide ((s1.ba : Int) ≤ ac) = false := by simp; omega
      have HAK := Lib.hid (show s1.acked ac = s1 by unfold Ses.acked; rw [if_neg (fun h => hk1 h.1)])
      go_wp2_with fail
      go_quiet (fail)
      have HS6 := Lib.hid (sesB_ch HS5.out (ch_drewN No W5 nq) id)
      have HT6 := Lib.hid (blk_ch HT5.out (ch_drewN No W5 nq) id)
      have HR6 := Lib.hid (HR5.out.ch (ch_drewN No W5 nq) (fun _ _ => id))
      have HO6 := Lib.hid (own_ch HO5.out (ch_drewN No W5 nq) (fun _ _ => id))
      have HC6 := Lib.hid (ch_thenno HC5.out (ch_drewN No W5 nq))
      obtain ⟨W6, hW6⟩ : ∃ x, x = W5.drewN nq := ⟨_, rfl⟩
      rw [← hW6] at HS6 HT6 HR6 HO6 HC6 ⊢
      clear hW6 HS5 HT5 HR5 HO5 HC5
      clear k3 b0 b1
      obtain ⟨s2, hs2⟩ : ∃ x, x = s1.acked ac := ⟨_, rfl⟩
      have h2c : s2.ca = s1.ca := by rw [hs2]; unfold Ses.acked; split <;> rfl
      have h2i : s2.inn = s1.inn := by rw [hs2]; unfold Ses.acked; split <;> rfl
      have HS2E := Lib.hid hs2
      rw [← HAK.out, ← hs2] at HS6
      clear hs2
      have k2 : W6.cell? ⟨T, 2, none⟩ = some (.int .i64 nu) := blk_cell HT6.out 2 _ rfl
      by_cases hnu : nu = 0
      · have gnu : (nu == 0) = true := by simpa using hnu
        have HRES := Lib.hid (show recvS s fr to nu ac n = (s2, false) by rw [HSP.out s1 HS1E.out, if_neg (fun h => h HTO.out), if_pos hnu, ← HS2E.out])
        go_wp2
        exact bodyPost_ret (results_none rfl _ _ _) rfl ⟨rfl, HC6.out.mono (fun _ _ hi => .inl hi), .inl (by rw [HRES.out]; exact ⟨rfl, HS6.out, HO6.out⟩)⟩
      have gnu : (nu == 0) = false := by simpa using hnu
      have HNU := Lib.hid hnu
      go_wp2_with fail
      refine (bstore_any B 29 true _ _ (ses_ow HS6.out) (ses_fz HS6.out 29)).mono ?_; rintro e V1 ⟨rfl, hV⟩
      have HS21 : Hid (SesB V1 B { s2 with ow := true }) := Lib.hid (by rw [hV]; exact blk_set (show Blk W6.drew B 75 _ from HS6.out) 29 (.int .u32 (bit true)))
      have hcV : Ch (fun k => k = B) W6 V1 := by rw [hV]; exact (Ch.drew _ _).trans (Ch.setCell _ ⟨B, 29, none⟩ _) (fun i hi => .inl hi)
      have HC21 := Lib.hid (HC6.out.trans hcV (fun i hi => .inl hi))
      have HO21 := Lib.hid (own_ch HO6.out hcV (fun k hk e => (HOB.out k hk).2.2 e))
      have HT21 := Lib.hid (blk_ch HT6.out hcV (fun e => by omega))
      have HR21 := Lib.hid (HR6.out.ch hcV (fun a ha e => hAB a ha e))
      clear hV hcV HS6 HC6 HO6 HT6 HR6 k2
      go_wp2_with fail
      have ca21 := ses_ca HS21.out
      simp only [h2c] at ca21
      refine (iload_any B 28 s1.ca _ ca21).mono ?_; rintro e V2 ⟨rfl, rfl⟩
      have k2 : V1.cell? ⟨T, 2, none⟩ = some (.int .i64 nu) := blk_cell HT21.out 2 _ rfl
      have hcb := hs1b.2.2
      by_cases hcn : nu = s1.ca + 1
      rotate_left
      · have gcn : (nu == s1.ca + 1) = false := by simpa using hcn
        have HRES := Lib.hid (show recvS s fr to nu ac n = ({ s2 with ow := true }, false) by rw [HSP.out s1 HS1E.out, if_neg (fun h => h HTO.out), if_neg HNU.out, ← HS2E.out, h2c, if_neg hcn])
        go_wp2
        exact bodyPost_end (results_none rfl _ _ _) rfl ⟨rfl, HC21.out.mono (fun _ _ hi => .inl hi), .inl (by rw [HRES.out]; exact ⟨rfl, HS21.out, HO21.out⟩)⟩
      have gcn : (nu == s1.ca + 1) = true := by simpa using hcn
      have HCN := Lib.hid hcn
      have HRES := Lib.hid (show recvS s fr to nu ac n = ({ s2 with ow := true, ca := nu }, true) by rw [HSP.out s1 HS1E.out, if_neg (fun h => h HTO.out), if_neg HNU.out, ← HS2E.out, h2c, if_pos hcn])
      clear hcn
      go_wp2_with fail
      refine (cas_any B 28 s1.ca (s1.ca + 1) V1 ca21 (ses_fz HS21.out 28)).mono ?_; rintro e V3 ⟨rfl, hV⟩
      have HS22 : Hid (SesB V3 B { s2 with ow := true, ca := nu }) := Lib.hid (by rw [hV, HCN.out]; exact blk_set HS21.out 28 (.int .i64 (s1.ca + 1)))
      have hcV : Ch (fun k => k = B) V1 V3 := by rw [hV]; exact Ch.setCell _ ⟨B, 28, none⟩ _
      have HC22 := Lib.hid (HC21.out.trans hcV (fun i hi => .inl hi))
      have HO22 := Lib.hid (own_ch HO21.out hcV (fun k hk e => (HOB.out k hk).2.2 e))
      have HT22 := Lib.hid (blk_ch HT21.out hcV (fun e => by omega))
      have HR22 := Lib.hid (HR21.out.ch hcV (fun a ha e => hAB a ha e))
      have hsz3 : w.heap.size ≤ V3.heap.size := HC22.out.size
      have k4 : V3.cell? ⟨T, 4, none⟩ = some (.slice A n c) := blk_cell HT22.out 4 _ rfl
      have x0 := ses_in HS22.out
      simp only [h2i, hs1b.2.2.2.2] at x0
      have HS22D := Lib.hid (show SesB V3.drew B { s2 with ow := true, ca := nu } from HS22.out)
      clear hV hcV ca21 HS21 HC21 HO21 HT21 HR21 k2
      go_wp2_with fail
      have sS0 : V3.drew.cell? ⟨T, 4, none⟩ = some (.slice A n c) := k4
      refine wp_region_held_drew (S := fun W => W.cell? ⟨T, 4, none⟩ = some (.slice A n c)) (by kernel_rfl) sS0 (fun hHeld => ?_)
      refine wpAnyH_take (i := 0) (v := .pointer (some ⟨B, 0, none⟩)) rfl (by kernel_rfl) (by kernel_rfl) (by kernel_rfl) (fun _ _ _ h => h) (Or.inl ⟨by rfl, ?_⟩) (by assumption) ?_
      · intro W hSw
        go_simp
      simp only [Act.put, List.setIfInBounds_toArray, List.set_cons_zero, List.set_cons_succ]
      refine wpAnyH_take (i := 1) (v := .pointer (some ⟨B, 0, none⟩)) rfl (by kernel_rfl) (by kernel_rfl) (by kernel_rfl) (fun _ _ _ h => h) (Or.inl ⟨by rfl, ?_⟩) (by assumption) ?_
      · intro W hSw
        go_simp
      simp only [Act.put, List.setIfInBounds_toArray, List.set_cons_zero, List.set_cons_succ]
      refine wpAnyH_take (i := 2) (v := .pointer (some ⟨B, 0, none⟩)) rfl (by kernel_rfl) (by kernel_rfl) (by kernel_rfl) (fun _ _ _ h => h) (Or.inl ⟨by rfl, ?_⟩) (by assumption) ?_
      · intro W hSw
        go_simp
      simp only [Act.put, List.setIfInBounds_toArray, List.set_cons_zero, List.set_cons_succ]
      refine wpAnyH_take (i := 3) (v := .pointer (some ⟨B, 30, none⟩)) rfl (by kernel_rfl) (by kernel_rfl) (by kernel_rfl) (fun _ _ _ h => h) (Or.inl ⟨by rfl, ?_⟩) (by assumption) ?_
      · intro W hSw
        go_simp
      simp only [Act.put, List.setIfInBounds_toArray, List.set_cons_zero, List.set_cons_succ]
      refine wpAnyH_take (i := 5) (v := .pointer (some ⟨T, 4, none⟩)) rfl (by kernel_rfl) (by kernel_rfl) (by kernel_rfl) (fun _ _ _ h => h) (Or.inl ⟨by rfl, ?_⟩) (by assumption) ?_
      · intro W hSw
        go_simp
      simp only [Act.put, List.setIfInBounds_toArray, List.set_cons_zero, List.set_cons_succ]
      refine wpAnyH_take (i := 6) (v := .slice A n c) rfl (by kernel_rfl) (by kernel_rfl) (by kernel_rfl) (fun _ _ _ h => h) (Or.inl ⟨by rfl, ?_⟩) (by assumption) ?_
      · intro W hSw
        go_simp
      simp only [Act.put, List.setIfInBounds_toArray, List.set_cons_zero, List.set_cons_succ]
      refine wpAnyH_ready (rs := [4, 7]) (by kernel_rfl) (by simp) ?_
      refine AllReadyH.cons rfl (fun K hK => ?_) (AllReadyH.cons rfl (fun K hK => ?_) AllReadyH.nil)
      · go_simp
        refine hK.out _ _ sS0 (fun hHeld => ?_)
        clear hK K
        try simp only [Act.put, List.setIfInBounds_toArray, List.set_cons_zero, List.set_cons_succ]
        refine wpAnyH_ready (rs := [7]) (by kernel_rfl) (by simp) ?_
        refine AllReadyH.cons rfl (fun K hK => ?_) AllReadyH.nil
        go_simp
        refine (clone_held A n c l _ (HR22.out.ch (Ch.drew _ No) (fun _ _ => id)) hn6).mono ?_; rintro e V4 ⟨A', c', rfl, hh4, hb4⟩
        have sS4 := below_cell hb4 sS0
        have sS5 : (V4.alloc (.cells #[.slice A' n c'] 27)).cell? ⟨T, 4, none⟩ = some (.slice A n c) := below_cell ((Below.refl V4.heap.size V4).alloc (Nat.le_refl _) _) sS4
        have x4 : V4.cell? ⟨B, 30, none⟩ = some s.inn := below_cell hb4 x0
        have x5 : (V4.alloc (.cells #[.slice A' n c'] 27)).cell? ⟨B, 30, none⟩ = some s.inn := below_cell ((Below.refl V4.heap.size V4).alloc (Nat.le_refl _) _) x4
        have hs4 : V3.heap.size ≤ V4.heap.size := hb4.size
        have hh4 := Lib.hid hh4
        have hb4 := Lib.hid hb4
        refine hK.out _ _ sS4 (fun hHeld => ?_)
        clear hK K
        try simp only [Act.put, List.setIfInBounds_toArray, List.set_cons_zero, List.set_cons_succ]
        refine wpAnyH_ready (rs := [8]) (by kernel_rfl) (by simp) ?_
        refine AllReadyH.cons rfl (fun K hK => ?_) AllReadyH.nil
        go_simp
        refine hK.out _ _ sS5 (fun hHeld => ?_)
        clear hK K
        try simp only [Act.put, List.setIfInBounds_toArray, List.set_cons_zero, List.set_cons_succ]
        refine wpAnyH_ready (rs := [9]) (by kernel_rfl) (by simp) ?_
        refine AllReadyH.cons rfl (fun K hK => ?_) AllReadyH.nil
        refine step_add2 V4 rfl (.tmp 149) (.tmp 153) 44 rfl bas 27 _ 1 24 Try.underlying44 info27 rfl (by decide) s.inn m xs (by rfl) (own_ch (own_ch HO22.out (Ch.drew _ No) (fun _ _ => id)) (Ch.of_below hb4.out No) (fun _ _ => id)) #[.slice A' n c'] 27 (by rfl) rfl (by simp [Value.oneCell']) (by simp [maxLen]; omega) (by omega) (by omega) ?_
        intro v2 V6 hown2 hnn2 hch2 hat2
        obtain ⟨A2, c2, rfl, -, -⟩ := own_form hown2
        have hs6 := sesB_ch (sesB_below HS22D.out hb4.out) hch2 (fun e => (HOB.out B e).2.2 rfl)
        have hT6 := blk_ch (blk_below (show Blk V3.drew T 33 _ from HT22.out) hb4.out) hch2 (fun e => by have := (HOB.out T e).2.1; have := HTT.out; omega)
        have x6 := ses_in hs6
        have f6 := ses_fz hs6 30
        have sS6 : V6.cell? ⟨T, 4, none⟩ = some (.slice A n c) := blk_cell hT6 4 _ rfl
        have sS7 : (V6.setCell ⟨B, 30, none⟩ (.slice A2 (m + 1) c2)).cell? ⟨T, 4, none⟩ = some (.slice A n c) := (cell_far V6 ⟨B, 30, none⟩ ⟨T, 4, none⟩ (.slice A2 (m + 1) c2) (by show T ≠ B; omega)).trans sS6
        have HS6 := Lib.hid hs6; have HOWN2 := Lib.hid hown2; have HCH2 := Lib.hid hch2; have HAT2 := Lib.hid hat2
        clear hs6 hT6 hown2 hch2 hat2 hnn2
        refine hK.out _ _ sS6 (fun hHeld => ?_)
        clear hK K
        try simp only [Act.put, List.setIfInBounds_toArray, List.set_cons_zero, List.set_cons_succ]
        refine wpAnyH_take (i := 10) (v := .pointer (some ⟨B, 0, none⟩)) rfl (by kernel_rfl) (by kernel_rfl) (by kernel_rfl) (fun _ _ _ h => h) (Or.inl ⟨by rfl, ?_⟩) (by assumption) ?_
        · intro W hSw
          go_simp
        simp only [Act.put, List.setIfInBounds_toArray, List.set_cons_zero, List.set_cons_succ]
        refine wpAnyH_take (i := 11) (v := .pointer (some ⟨B, 30, none⟩)) rfl (by kernel_rfl) (by kernel_rfl) (by kernel_rfl) (fun _ _ _ h => h) (Or.inl ⟨by rfl, ?_⟩) (by assumption) ?_
        · intro W hSw
          go_simp
        simp only [Act.put, List.setIfInBounds_toArray, List.set_cons_zero, List.set_cons_succ]
        refine wpAnyH_ready (rs := [12]) (by kernel_rfl) (by simp) ?_
        refine AllReadyH.cons rfl (fun K hK => ?_) AllReadyH.nil
        go_simp
        refine hK.out _ _ sS7 (fun hHeld => ?_)
        clear hK K
        try simp only [Act.put, List.setIfInBounds_toArray, List.set_cons_zero, List.set_cons_succ]
        refine wpAnyH_done (by kernel_rfl) ?_ _
        go_wp2
        refine bodyPost_end (results_none rfl _ _ _) rfl ⟨rfl, ?_, .inr ⟨by rw [HRES.out], .slice A2 (m + 1) c2, A', c', ?_, ?_, ?_, ?_, ?_⟩⟩
        · exact (((HC22.out.mono (S' := fun k => k = B ∨ s.inn.ownBlock = some k) (fun _ _ h => .inl h)).trans ((Ch.drew V3 No).trans (Ch.of_below hb4.out No) (fun _ h => h.elim)) (fun _ h => h.elim)).trans HCH2.out (fun i hi => .inl (.inr hi))).trans (Ch.setCell V6 ⟨B, 30, none⟩ _) (fun i hi => .inl (.inl hi))
        · rw [HRES.out]; exact blk_set HS6.out 30 (.slice A2 (m + 1) c2)
        · exact own_ch HOWN2.out (Ch.setCell V6 ⟨B, 30, none⟩ _) (fun k hk e => by
            rcases HAT2.out with h | h
            · exact (HOB.out k (h ▸ hk)).2.2 e
            · rw [h] at hk; cases hk; have e' : V4.heap.size + 1 = B := e; omega)
        · exact held_base (held_ch (held_ch hh4.out HCH2.out (fun a ha e => by have := (HOB.out _ e).2.1; have := (held_lt hh4.out a ha).1; have h1 : V3.drew.heap.size = V3.heap.size := rfl; omega)) (Ch.setCell V6 ⟨B, 30, none⟩ _) (fun a ha e => by have e' : a.block = B := e; have := (held_lt hh4.out a ha).1; have h1 : V3.drew.heap.size = V3.heap.size := rfl; omega)) (fun a ha => by have := (held_lt hh4.out a ha).1; have h1 : V3.drew.heap.size = V3.heap.size := rfl; omega)
        · exact HAT2.out.imp id (fun h => ⟨_, h, by omega⟩)
        · intro a ha e
          rcases HAT2.out with h | h
          · have := (HOB.out _ (h ▸ e)).2.1; have := (held_lt hh4.out a ha).1; have h1 : V3.drew.heap.size = V3.heap.size := rfl; omega
          · rw [h] at e; have e' : V4.heap.size + 1 = a.block := by injection e
            have := (held_lt hh4.out a ha).2; omega
      · go_simp
        refine (clone_held A n c l _ (HR22.out.ch (Ch.drew _ No) (fun _ _ => id)) hn6).mono ?_; rintro e V4 ⟨A', c', rfl, hh4, hb4⟩
        have sS4 := below_cell hb4 sS0
        have sS5 : (V4.alloc (.cells #[.slice A' n c'] 27)).cell? ⟨T, 4, none⟩ = some (.slice A n c) := below_cell ((Below.refl V4.heap.size V4).alloc (Nat.le_refl _) _) sS4
        have x4 : V4.cell? ⟨B, 30, none⟩ = some s.inn := below_cell hb4 x0
        have x5 : (V4.alloc (.cells #[.slice A' n c'] 27)).cell? ⟨B, 30, none⟩ = some s.inn := below_cell ((Below.refl V4.heap.size V4).alloc (Nat.le_refl _) _) x4
        have hs4 : V3.heap.size ≤ V4.heap.size := hb4.size
        have hh4 := Lib.hid hh4
        have hb4 := Lib.hid hb4
        refine hK.out _ _ sS4 (fun hHeld => ?_)
        clear hK K
        try simp only [Act.put, List.setIfInBounds_toArray, List.set_cons_zero, List.set_cons_succ]
        refine wpAnyH_ready (rs := [4, 8]) (by kernel_rfl) (by simp) ?_
        refine AllReadyH.cons rfl (fun K hK => ?_) (AllReadyH.cons rfl (fun K hK => ?_) AllReadyH.nil)
        · go_simp
          refine hK.out _ _ sS4 (fun hHeld => ?_)
          clear hK K
          try simp only [Act.put, List.setIfInBounds_toArray, List.set_cons_zero, List.set_cons_succ]
          refine wpAnyH_ready (rs := [8]) (by kernel_rfl) (by simp) ?_
          refine AllReadyH.cons rfl (fun K hK => ?_) AllReadyH.nil
          go_simp
          refine hK.out _ _ sS5 (fun hHeld => ?_)
          clear hK K
          try simp only [Act.put, List.setIfInBounds_toArray, List.set_cons_zero, List.set_cons_succ]
          refine wpAnyH_ready (rs := [9]) (by kernel_rfl) (by simp) ?_
          refine AllReadyH.cons rfl (fun K hK => ?_) AllReadyH.nil
          refine step_add2 V4 rfl (.tmp 149) (.tmp 153) 44 rfl bas 27 _ 1 24 Try.underlying44 info27 rfl (by decide) s.inn m xs (by rfl) (own_ch (own_ch HO22.out (Ch.drew _ No) (fun _ _ => id)) (Ch.of_below hb4.out No) (fun _ _ => id)) #[.slice A' n c'] 27 (by rfl) rfl (by simp [Value.oneCell']) (by simp [maxLen]; omega) (by omega) (by omega) ?_
          intro v2 V6 hown2 hnn2 hch2 hat2
          obtain ⟨A2, c2, rfl, -, -⟩ := own_form hown2
          have hs6 := sesB_ch (sesB_below HS22D.out hb4.out) hch2 (fun e => (HOB.out B e).2.2 rfl)
          have hT6 := blk_ch (blk_below (show Blk V3.drew T 33 _ from HT22.out) hb4.out) hch2 (fun e => by have := (HOB.out T e).2.1; have := HTT.out; omega)
          have x6 := ses_in hs6
          have f6 := ses_fz hs6 30
          have sS6 : V6.cell? ⟨T, 4, none⟩ = some (.slice A n c) := blk_cell hT6 4 _ rfl
          have sS7 : (V6.setCell ⟨B, 30, none⟩ (.slice A2 (m + 1) c2)).cell? ⟨T, 4, none⟩ = some (.slice A n c) := (cell_far V6 ⟨B, 30, none⟩ ⟨T, 4, none⟩ (.slice A2 (m + 1) c2) (by show T ≠ B; omega)).trans sS6
          have HS6 := Lib.hid hs6; have HOWN2 := Lib.hid hown2; have HCH2 := Lib.hid hch2; have HAT2 := Lib.hid hat2
          clear hs6 hT6 hown2 hch2 hat2 hnn2
          refine hK.out _ _ sS6 (fun hHeld => ?_)
          clear hK K
          try simp only [Act.put, List.setIfInBounds_toArray, List.set_cons_zero, List.set_cons_succ]
          refine wpAnyH_take (i := 10) (v := .pointer (some ⟨B, 0, none⟩)) rfl (by kernel_rfl) (by kernel_rfl) (by kernel_rfl) (fun _ _ _ h => h) (Or.inl ⟨by rfl, ?_⟩) (by assumption) ?_
          · intro W hSw
            go_simp
          simp only [Act.put, List.setIfInBounds_toArray, List.set_cons_zero, List.set_cons_succ]
          refine wpAnyH_take (i := 11) (v := .pointer (some ⟨B, 30, none⟩)) rfl (by kernel_rfl) (by kernel_rfl) (by kernel_rfl) (fun _ _ _ h => h) (Or.inl ⟨by rfl, ?_⟩) (by assumption) ?_
          · intro W hSw
            go_simp
          simp only [Act.put, List.setIfInBounds_toArray, List.set_cons_zero, List.set_cons_succ]
          refine wpAnyH_ready (rs := [12]) (by kernel_rfl) (by simp) ?_
          refine AllReadyH.cons rfl (fun K hK => ?_) AllReadyH.nil
          go_simp
          refine hK.out _ _ sS7 (fun hHeld => ?_)
          clear hK K
          try simp only [Act.put, List.setIfInBounds_toArray, List.set_cons_zero, List.set_cons_succ]
          refine wpAnyH_done (by kernel_rfl) ?_ _
          go_wp2
          refine bodyPost_end (results_none rfl _ _ _) rfl ⟨rfl, ?_, .inr ⟨by rw [HRES.out], .slice A2 (m + 1) c2, A', c', ?_, ?_, ?_, ?_, ?_⟩⟩
          · exact (((HC22.out.mono (S' := fun k => k = B ∨ s.inn.ownBlock = some k) (fun _ _ h => .inl h)).trans ((Ch.drew V3 No).trans (Ch.of_below hb4.out No) (fun _ h => h.elim)) (fun _ h => h.elim)).trans HCH2.out (fun i hi => .inl (.inr hi))).trans (Ch.setCell V6 ⟨B, 30, none⟩ _) (fun i hi => .inl (.inl hi))
          · rw [HRES.out]; exact blk_set HS6.out 30 (.slice A2 (m + 1) c2)
          · exact own_ch HOWN2.out (Ch.setCell V6 ⟨B, 30, none⟩ _) (fun k hk e => by
              rcases HAT2.out with h | h
              · exact (HOB.out k (h ▸ hk)).2.2 e
              · rw [h] at hk; cases hk; have e' : V4.heap.size + 1 = B := e; omega)
          · exact held_base (held_ch (held_ch hh4.out HCH2.out (fun a ha e => by have := (HOB.out _ e).2.1; have := (held_lt hh4.out a ha).1; have h1 : V3.drew.heap.size = V3.heap.size := rfl; omega)) (Ch.setCell V6 ⟨B, 30, none⟩ _) (fun a ha e => by have e' : a.block = B := e; have := (held_lt hh4.out a ha).1; have h1 : V3.drew.heap.size = V3.heap.size := rfl; omega)) (fun a ha => by have := (held_lt hh4.out a ha).1; have h1 : V3.drew.heap.size = V3.heap.size := rfl; omega)
          · exact HAT2.out.imp id (fun h => ⟨_, h, by omega⟩)
          · intro a ha e
            rcases HAT2.out with h | h
            · have := (HOB.out _ (h ▸ e)).2.1; have := (held_lt hh4.out a ha).1; have h1 : V3.drew.heap.size = V3.heap.size := rfl; omega
            · rw [h] at e; have e' : V4.heap.size + 1 = a.block := by injection e
              have := (held_lt hh4.out a ha).2; omega
        · go_simp
          refine hK.out _ _ sS5 (fun hHeld => ?_)
          clear hK K
          try simp only [Act.put, List.setIfInBounds_toArray, List.set_cons_zero, List.set_cons_succ]
          refine wpAnyH_ready (rs := [4]) (by kernel_rfl) (by simp) ?_
          refine AllReadyH.cons rfl (fun K hK => ?_) AllReadyH.nil
          go_simp
          refine hK.out _ _ sS5 (fun hHeld => ?_)
          clear hK K
          try simp only [Act.put, List.setIfInBounds_toArray, List.set_cons_zero, List.set_cons_succ]
          refine wpAnyH_ready (rs := [9]) (by kernel_rfl) (by simp) ?_
          refine AllReadyH.cons rfl (fun K hK => ?_) AllReadyH.nil
          refine step_add2 V4 rfl (.tmp 149) (.tmp 153) 44 rfl bas 27 _ 1 24 Try.underlying44 info27 rfl (by decide) s.inn m xs (by rfl) (own_ch (own_ch HO22.out (Ch.drew _ No) (fun _ _ => id)) (Ch.of_below hb4.out No) (fun _ _ => id)) #[.slice A' n c'] 27 (by rfl) rfl (by simp [Value.oneCell']) (by simp [maxLen]; omega) (by omega) (by omega) ?_
          intro v2 V6 hown2 hnn2 hch2 hat2
          obtain ⟨A2, c2, rfl, -, -⟩ := own_form hown2
          have hs6 := sesB_ch (sesB_below HS22D.out hb4.out) hch2 (fun e => (HOB.out B e).2.2 rfl)
          have hT6 := blk_ch (blk_below (show Blk V3.drew T 33 _ from HT22.out) hb4.out) hch2 (fun e => by have := (HOB.out T e).2.1; have := HTT.out; omega)
          have x6 := ses_in hs6
          have f6 := ses_fz hs6 30
          have sS6 : V6.cell? ⟨T, 4, none⟩ = some (.slice A n c) := blk_cell hT6 4 _ rfl
          have sS7 : (V6.setCell ⟨B, 30, none⟩ (.slice A2 (m + 1) c2)).cell? ⟨T, 4, none⟩ = some (.slice A n c) := (cell_far V6 ⟨B, 30, none⟩ ⟨T, 4, none⟩ (.slice A2 (m + 1) c2) (by show T ≠ B; omega)).trans sS6
          have HS6 := Lib.hid hs6; have HOWN2 := Lib.hid hown2; have HCH2 := Lib.hid hch2; have HAT2 := Lib.hid hat2
          clear hs6 hT6 hown2 hch2 hat2 hnn2
          refine hK.out _ _ sS6 (fun hHeld => ?_)
          clear hK K
          try simp only [Act.put, List.setIfInBounds_toArray, List.set_cons_zero, List.set_cons_succ]
          refine wpAnyH_take (i := 10) (v := .pointer (some ⟨B, 0, none⟩)) rfl (by kernel_rfl) (by kernel_rfl) (by kernel_rfl) (fun _ _ _ h => h) (Or.inl ⟨by rfl, ?_⟩) (by assumption) ?_
          · intro W hSw
            go_simp
          simp only [Act.put, List.setIfInBounds_toArray, List.set_cons_zero, List.set_cons_succ]
          refine wpAnyH_take (i := 11) (v := .pointer (some ⟨B, 30, none⟩)) rfl (by kernel_rfl) (by kernel_rfl) (by kernel_rfl) (fun _ _ _ h => h) (Or.inl ⟨by rfl, ?_⟩) (by assumption) ?_
          · intro W hSw
            go_simp
          simp only [Act.put, List.setIfInBounds_toArray, List.set_cons_zero, List.set_cons_succ]
          refine wpAnyH_ready (rs := [12]) (by kernel_rfl) (by simp) ?_
          refine AllReadyH.cons rfl (fun K hK => ?_) AllReadyH.nil
          go_simp
          refine hK.out _ _ sS7 (fun hHeld => ?_)
          clear hK K
          try simp only [Act.put, List.setIfInBounds_toArray, List.set_cons_zero, List.set_cons_succ]
          refine wpAnyH_done (by kernel_rfl) ?_ _
          go_wp2
          refine bodyPost_end (results_none rfl _ _ _) rfl ⟨rfl, ?_, .inr ⟨by rw [HRES.out], .slice A2 (m + 1) c2, A', c', ?_, ?_, ?_, ?_, ?_⟩⟩
          · exact (((HC22.out.mono (S' := fun k => k = B ∨ s.inn.ownBlock = some k) (fun _ _ h => .inl h)).trans ((Ch.drew V3 No).trans (Ch.of_below hb4.out No) (fun _ h => h.elim)) (fun _ h => h.elim)).trans HCH2.out (fun i hi => .inl (.inr hi))).trans (Ch.setCell V6 ⟨B, 30, none⟩ _) (fun i hi => .inl (.inl hi))
          · rw [HRES.out]; exact blk_set HS6.out 30 (.slice A2 (m + 1) c2)
          · exact own_ch HOWN2.out (Ch.setCell V6 ⟨B, 30, none⟩ _) (fun k hk e => by
              rcases HAT2.out with h | h
              · exact (HOB.out k (h ▸ hk)).2.2 e
              · rw [h] at hk; cases hk; have e' : V4.heap.size + 1 = B := e; omega)
          · exact held_base (held_ch (held_ch hh4.out HCH2.out (fun a ha e => by have := (HOB.out _ e).2.1; have := (held_lt hh4.out a ha).1; have h1 : V3.drew.heap.size = V3.heap.size := rfl; omega)) (Ch.setCell V6 ⟨B, 30, none⟩ _) (fun a ha e => by have e' : a.block = B := e; have := (held_lt hh4.out a ha).1; have h1 : V3.drew.heap.size = V3.heap.size := rfl; omega)) (fun a ha => by have := (held_lt hh4.out a ha).1; have h1 : V3.drew.heap.size = V3.heap.size := rfl; omega)
          · exact HAT2.out.imp id (fun h => ⟨_, h, by omega⟩)
          · intro a ha e
            rcases HAT2.out with h | h
            · have := (HOB.out _ (h ▸ e)).2.1; have := (held_lt hh4.out a ha).1; have h1 : V3.drew.heap.size = V3.heap.size := rfl; omega
            · rw [h] at e; have e' : V4.heap.size + 1 = a.block := by injection e
              have := (held_lt hh4.out a ha).2; omega
    have gk1 : decide ((s1.ba : Int) ≤ ac) = true := by simpa using hk1
    by_cases hk2 : ac < (s1.ba : Int) + (s1.ma : Int)
    rotate_left
    · have gk2 : decide (ac < (s1.ba : Int) + (s1.ma : Int)) = false := by simp; omega
      have HAK := Lib.hid (show s1.acked ac = s1 by unfold Ses.acked; rw [if_neg (fun h => hk2 h.2)])
      go_wp2_with fail
      go_quiet (fail)
      have HS6 := Lib.hid (sesB_ch HS5.out (ch_drewN No W5 nq) id)
      have HT6 := Lib.hid (blk_ch HT5.out (ch_drewN No W5 nq) id)
      have HR6 := Lib.hid (HR5.out.ch (ch_drewN No W5 nq) (fun _ _ => id))
      have HO6 := Lib.hid (own_ch HO5.out (ch_drewN No W5 nq) (fun _ _ => id))
      have HC6 := Lib.hid (ch_thenno HC5.out (ch_drewN No W5 nq))
      obtain ⟨W6, hW6⟩ : ∃ x, x = W5.drewN nq := ⟨_, rfl⟩
      rw [← hW6] at HS6 HT6 HR6 HO6 HC6 ⊢
      clear hW6 HS5 HT5 HR5 HO5 HC5
      clear k3 b0 b1
      obtain ⟨s2, hs2⟩ : ∃ x, x = s1.acked ac := ⟨_, rfl⟩
      have h2c : s2.ca = s1.ca := by rw [hs2]; unfold Ses.acked; split <;> rfl
      have h2i : s2.inn = s1.inn := by rw [hs2]; unfold Ses.acked; split <;> rfl
      have HS2E := Lib.hid hs2
      rw [← HAK.out, ← hs2] at HS6
      clear hs2
      have k2 : W6.cell? ⟨T, 2, none⟩ = some (.int .i64 nu) := blk_cell HT6.out 2 _ rfl
      by_cases hnu : nu = 0
      · have gnu : (nu == 0) = true := by simpa using hnu
        have HRES := Lib.hid (show recvS s fr to nu ac n = (s2, false) by rw [HSP.out s1 HS1E.out, if_neg (fun h => h HTO.out), if_pos hnu, ← HS2E.out])
        go_wp2
        exact bodyPost_ret (results_none rfl _ _ _) rfl ⟨rfl, HC6.out.mono (fun _ _ hi => .inl hi), .inl (by rw [HRES.out]; exact ⟨rfl, HS6.out, HO6.out⟩)⟩
      have gnu : (nu == 0) = false := by simpa using hnu
      have HNU := Lib.hid hnu
      go_wp2_with fail
      refine (bstore_any B 29 true _ _ (ses_ow HS6.out) (ses_fz HS6.out 29)).mono ?_; rintro e V1 ⟨rfl, hV⟩
      have HS21 : Hid (SesB V1 B { s2 with ow := true }) := Lib.hid (by rw [hV]; exact blk_set (show Blk W6.drew B 75 _ from HS6.out) 29 (.int .u32 (bit true)))
      have hcV : Ch (fun k => k = B) W6 V1 := by rw [hV]; exact (Ch.drew _ _).trans (Ch.setCell _ ⟨B, 29, none⟩ _) (fun i hi => .inl hi)
      have HC21 := Lib.hid (HC6.out.trans hcV (fun i hi => .inl hi))
      have HO21 := Lib.hid (own_ch HO6.out hcV (fun k hk e => (HOB.out k hk).2.2 e))
      have HT21 := Lib.hid (blk_ch HT6.out hcV (fun e => by omega))
      have HR21 := Lib.hid (HR6.out.ch hcV (fun a ha e => hAB a ha e))
      clear hV hcV HS6 HC6 HO6 HT6 HR6 k2
      go_wp2_with fail
      have ca21 := ses_ca HS21.out
      simp only [h2c] at ca21
      refine (iload_any B 28 s1.ca _ ca21).mono ?_; rintro e V2 ⟨rfl, rfl⟩
      have k2 : V1.cell? ⟨T, 2, none⟩ = some (.int .i64 nu) := blk_cell HT21.out 2 _ rfl
      have hcb := hs1b.2.2
      by_cases hcn : nu = s1.ca + 1
      rotate_left
      · have gcn : (nu == s1.ca + 1) = false := by simpa using hcn
        have HRES := Lib.hid (show recvS s fr to nu ac n = ({ s2 with ow := true }, false) by rw [HSP.out s1 HS1E.out, if_neg (fun h => h HTO.out), if_neg HNU.out, ← HS2E.out, h2c, if_neg hcn])
        go_wp2
        exact bodyPost_end (results_none rfl _ _ _) rfl ⟨rfl, HC21.out.mono (fun _ _ hi => .inl hi), .inl (by rw [HRES.out]; exact ⟨rfl, HS21.out, HO21.out⟩)⟩
      have gcn : (nu == s1.ca + 1) = true := by simpa using hcn
      have HCN := Lib.hid hcn
      have HRES := Lib.hid (show recvS s fr to nu ac n = ({ s2 with ow := true, ca := nu }, true) by rw [HSP.out s1 HS1E.out, if_neg (fun h => h HTO.out), if_neg HNU.out, ← HS2E.out, h2c, if_pos hcn])
      clear hcn
      go_wp2_with fail
      refine (cas_any B 28 s1.ca (s1.ca + 1) V1 ca21 (ses_fz HS21.out 28)).mono ?_; rintro e V3 ⟨rfl, hV⟩
      have HS22 : Hid (SesB V3 B { s2 with ow := true, ca := nu }) := Lib.hid (by rw [hV, HCN.out]; exact blk_set HS21.out 28 (.int .i64 (s1.ca + 1)))
      have hcV : Ch (fun k => k = B) V1 V3 := by rw [hV]; exact Ch.setCell _ ⟨B, 28, none⟩ _
      have HC22 := Lib.hid (HC21.out.trans hcV (fun i hi => .inl hi))
      have HO22 := Lib.hid (own_ch HO21.out hcV (fun k hk e => (HOB.out k hk).2.2 e))
      have HT22 := Lib.hid (blk_ch HT21.out hcV (fun e => by omega))
      have HR22 := Lib.hid (HR21.out.ch hcV (fun a ha e => hAB a ha e))
      have hsz3 : w.heap.size ≤ V3.heap.size := HC22.out.size
      have k4 : V3.cell? ⟨T, 4, none⟩ = some (.slice A n c) := blk_cell HT22.out 4 _ rfl
      have x0 := ses_in HS22.out
      simp only [h2i, hs1b.2.2.2.2] at x0
      have HS22D := Lib.hid (show SesB V3.drew B { s2 with ow := true, ca := nu } from HS22.out)
      clear hV hcV ca21 HS21 HC21 HO21 HT21 HR21 k2
      go_wp2_with fail
      have sS0 : V3.drew.cell? ⟨T, 4, none⟩ = some (.slice A n c) := k4
      refine wp_region_held_drew (S := fun W => W.cell? ⟨T, 4, none⟩ = some (.slice A n c)) (by kernel_rfl) sS0 (fun hHeld => ?_)
      refine wpAnyH_take (i := 0) (v := .pointer (some ⟨B, 0, none⟩)) rfl (by kernel_rfl) (by kernel_rfl) (by kernel_rfl) (fun _ _ _ h => h) (Or.inl ⟨by rfl, ?_⟩) (by assumption) ?_
      · intro W hSw
        go_simp
      simp only [Act.put, List.setIfInBounds_toArray, List.set_cons_zero, List.set_cons_succ]
      refine wpAnyH_take (i := 1) (v := .pointer (some ⟨B, 0, none⟩)) rfl (by kernel_rfl) (by kernel_rfl) (by kernel_rfl) (fun _ _ _ h => h) (Or.inl ⟨by rfl, ?_⟩) (by assumption) ?_
      · intro W hSw
        go_simp
      simp only [Act.put, List.setIfInBounds_toArray, List.set_cons_zero, List.set_cons_succ]
      refine wpAnyH_take (i := 2) (v := .pointer (some ⟨B, 0, none⟩)) rfl (by kernel_rfl) (by kernel_rfl) (by kernel_rfl) (fun _ _ _ h => h) (Or.inl ⟨by rfl, ?_⟩) (by assumption) ?_
      · intro W hSw
        go_simp
      simp only [Act.put, List.setIfInBounds_toArray, List.set_cons_zero, List.set_cons_succ]
      refine wpAnyH_take (i := 3) (v := .pointer (some ⟨B, 30, none⟩)) rfl (by kernel_rfl) (by kernel_rfl) (by kernel_rfl) (fun _ _ _ h => h) (Or.inl ⟨by rfl, ?_⟩) (by assumption) ?_
      · intro W hSw
        go_simp
      simp only [Act.put, List.setIfInBounds_toArray, List.set_cons_zero, List.set_cons_succ]
      refine wpAnyH_take (i := 5) (v := .pointer (some ⟨T, 4, none⟩)) rfl (by kernel_rfl) (by kernel_rfl) (by kernel_rfl) (fun _ _ _ h => h) (Or.inl ⟨by rfl, ?_⟩) (by assumption) ?_
      · intro W hSw
        go_simp
      simp only [Act.put, List.setIfInBounds_toArray, List.set_cons_zero, List.set_cons_succ]
      refine wpAnyH_take (i := 6) (v := .slice A n c) rfl (by kernel_rfl) (by kernel_rfl) (by kernel_rfl) (fun _ _ _ h => h) (Or.inl ⟨by rfl, ?_⟩) (by assumption) ?_
      · intro W hSw
        go_simp
      simp only [Act.put, List.setIfInBounds_toArray, List.set_cons_zero, List.set_cons_succ]
      refine wpAnyH_ready (rs := [4, 7]) (by kernel_rfl) (by simp) ?_
      refine AllReadyH.cons rfl (fun K hK => ?_) (AllReadyH.cons rfl (fun K hK => ?_) AllReadyH.nil)
      · go_simp
        refine hK.out _ _ sS0 (fun hHeld => ?_)
        clear hK K
        try simp only [Act.put, List.setIfInBounds_toArray, List.set_cons_zero, List.set_cons_succ]
        refine wpAnyH_ready (rs := [7]) (by kernel_rfl) (by simp) ?_
        refine AllReadyH.cons rfl (fun K hK => ?_) AllReadyH.nil
        go_simp
        refine (clone_held A n c l _ (HR22.out.ch (Ch.drew _ No) (fun _ _ => id)) hn6).mono ?_; rintro e V4 ⟨A', c', rfl, hh4, hb4⟩
        have sS4 := below_cell hb4 sS0
        have sS5 : (V4.alloc (.cells #[.slice A' n c'] 27)).cell? ⟨T, 4, none⟩ = some (.slice A n c) := below_cell ((Below.refl V4.heap.size V4).alloc (Nat.le_refl _) _) sS4
        have x4 : V4.cell? ⟨B, 30, none⟩ = some s.inn := below_cell hb4 x0
        have x5 : (V4.alloc (.cells #[.slice A' n c'] 27)).cell? ⟨B, 30, none⟩ = some s.inn := below_cell ((Below.refl V4.heap.size V4).alloc (Nat.le_refl _) _) x4
        have hs4 : V3.heap.size ≤ V4.heap.size := hb4.size
        have hh4 := Lib.hid hh4
        have hb4 := Lib.hid hb4
        refine hK.out _ _ sS4 (fun hHeld => ?_)
        clear hK K
        try simp only [Act.put, List.setIfInBounds_toArray, List.set_cons_zero, List.set_cons_succ]
        refine wpAnyH_ready (rs := [8]) (by kernel_rfl) (by simp) ?_
        refine AllReadyH.cons rfl (fun K hK => ?_) AllReadyH.nil
        go_simp
        refine hK.out _ _ sS5 (fun hHeld => ?_)
        clear hK K
        try simp only [Act.put, List.setIfInBounds_toArray, List.set_cons_zero, List.set_cons_succ]
        refine wpAnyH_ready (rs := [9]) (by kernel_rfl) (by simp) ?_
        refine AllReadyH.cons rfl (fun K hK => ?_) AllReadyH.nil
        refine step_add2 V4 rfl (.tmp 149) (.tmp 153) 44 rfl bas 27 _ 1 24 Try.underlying44 info27 rfl (by decide) s.inn m xs (by rfl) (own_ch (own_ch HO22.out (Ch.drew _ No) (fun _ _ => id)) (Ch.of_below hb4.out No) (fun _ _ => id)) #[.slice A' n c'] 27 (by rfl) rfl (by simp [Value.oneCell']) (by simp [maxLen]; omega) (by omega) (by omega) ?_
        intro v2 V6 hown2 hnn2 hch2 hat2
        obtain ⟨A2, c2, rfl, -, -⟩ := own_form hown2
        have hs6 := sesB_ch (sesB_below HS22D.out hb4.out) hch2 (fun e => (HOB.out B e).2.2 rfl)
        have hT6 := blk_ch (blk_below (show Blk V3.drew T 33 _ from HT22.out) hb4.out) hch2 (fun e => by have := (HOB.out T e).2.1; have := HTT.out; omega)
        have x6 := ses_in hs6
        have f6 := ses_fz hs6 30
        have sS6 : V6.cell? ⟨T, 4, none⟩ = some (.slice A n c) := blk_cell hT6 4 _ rfl
        have sS7 : (V6.setCell ⟨B, 30, none⟩ (.slice A2 (m + 1) c2)).cell? ⟨T, 4, none⟩ = some (.slice A n c) := (cell_far V6 ⟨B, 30, none⟩ ⟨T, 4, none⟩ (.slice A2 (m + 1) c2) (by show T ≠ B; omega)).trans sS6
        have HS6 := Lib.hid hs6; have HOWN2 := Lib.hid hown2; have HCH2 := Lib.hid hch2; have HAT2 := Lib.hid hat2
        clear hs6 hT6 hown2 hch2 hat2 hnn2
        refine hK.out _ _ sS6 (fun hHeld => ?_)
        clear hK K
        try simp only [Act.put, List.setIfInBounds_toArray, List.set_cons_zero, List.set_cons_succ]
        refine wpAnyH_take (i := 10) (v := .pointer (some ⟨B, 0, none⟩)) rfl (by kernel_rfl) (by kernel_rfl) (by kernel_rfl) (fun _ _ _ h => h) (Or.inl ⟨by rfl, ?_⟩) (by assumption) ?_
        · intro W hSw
          go_simp
        simp only [Act.put, List.setIfInBounds_toArray, List.set_cons_zero, List.set_cons_succ]
        refine wpAnyH_take (i := 11) (v := .pointer (some ⟨B, 30, none⟩)) rfl (by kernel_rfl) (by kernel_rfl) (by kernel_rfl) (fun _ _ _ h => h) (Or.inl ⟨by rfl, ?_⟩) (by assumption) ?_
        · intro W hSw
          go_simp
        simp only [Act.put, List.setIfInBounds_toArray, List.set_cons_zero, List.set_cons_succ]
        refine wpAnyH_ready (rs := [12]) (by kernel_rfl) (by simp) ?_
        refine AllReadyH.cons rfl (fun K hK => ?_) AllReadyH.nil
        go_simp
        refine hK.out _ _ sS7 (fun hHeld => ?_)
        clear hK K
        try simp only [Act.put, List.setIfInBounds_toArray, List.set_cons_zero, List.set_cons_succ]
        refine wpAnyH_done (by kernel_rfl) ?_ _
        go_wp2
        refine bodyPost_end (results_none rfl _ _ _) rfl ⟨rfl, ?_, .inr ⟨by rw [HRES.out], .slice A2 (m + 1) c2, A', c', ?_, ?_, ?_, ?_, ?_⟩⟩
        · exact (((HC22.out.mono (S' := fun k => k = B ∨ s.inn.ownBlock = some k) (fun _ _ h => .inl h)).trans ((Ch.drew V3 No).trans (Ch.of_below hb4.out No) (fun _ h => h.elim)) (fun _ h => h.elim)).trans HCH2.out (fun i hi => .inl (.inr hi))).trans (Ch.setCell V6 ⟨B, 30, none⟩ _) (fun i hi => .inl (.inl hi))
        · rw [HRES.out]; exact blk_set HS6.out 30 (.slice A2 (m + 1) c2)
        · exact own_ch HOWN2.out (Ch.setCell V6 ⟨B, 30, none⟩ _) (fun k hk e => by
            rcases HAT2.out with h | h
            · exact (HOB.out k (h ▸ hk)).2.2 e
            · rw [h] at hk; cases hk; have e' : V4.heap.size + 1 = B := e; omega)
        · exact held_base (held_ch (held_ch hh4.out HCH2.out (fun a ha e => by have := (HOB.out _ e).2.1; have := (held_lt hh4.out a ha).1; have h1 : V3.drew.heap.size = V3.heap.size := rfl; omega)) (Ch.setCell V6 ⟨B, 30, none⟩ _) (fun a ha e => by have e' : a.block = B := e; have := (held_lt hh4.out a ha).1; have h1 : V3.drew.heap.size = V3.heap.size := rfl; omega)) (fun a ha => by have := (held_lt hh4.out a ha).1; have h1 : V3.drew.heap.size = V3.heap.size := rfl; omega)
        · exact HAT2.out.imp id (fun h => ⟨_, h, by omega⟩)
        · intro a ha e
          rcases HAT2.out with h | h
          · have := (HOB.out _ (h ▸ e)).2.1; have := (held_lt hh4.out a ha).1; have h1 : V3.drew.heap.size = V3.heap.size := rfl; omega
          · rw [h] at e; have e' : V4.heap.size + 1 = a.block := by injection e
            have := (held_lt hh4.out a ha).2; omega
      · go_simp
        refine (clone_held A n c l _ (HR22.out.ch (Ch.drew _ No) (fun _ _ => id)) hn6).mono ?_; rintro e V4 ⟨A', c', rfl, hh4, hb4⟩
        have sS4 := below_cell hb4 sS0
        have sS5 : (V4.alloc (.cells #[.slice A' n c'] 27)).cell? ⟨T, 4, none⟩ = some (.slice A n c) := below_cell ((Below.refl V4.heap.size V4).alloc (Nat.le_refl _) _) sS4
        have x4 : V4.cell? ⟨B, 30, none⟩ = some s.inn := below_cell hb4 x0
        have x5 : (V4.alloc (.cells #[.slice A' n c'] 27)).cell? ⟨B, 30, none⟩ = some s.inn := below_cell ((Below.refl V4.heap.size V4).alloc (Nat.le_refl _) _) x4
        have hs4 : V3.heap.size ≤ V4.heap.size := hb4.size
        have hh4 := Lib.hid hh4
        have hb4 := Lib.hid hb4
        refine hK.out _ _ sS4 (fun hHeld => ?_)
        clear hK K
        try simp only [Act.put, List.setIfInBounds_toArray, List.set_cons_zero, List.set_cons_succ]
        refine wpAnyH_ready (rs := [4, 8]) (by kernel_rfl) (by simp) ?_
        refine AllReadyH.cons rfl (fun K hK => ?_) (AllReadyH.cons rfl (fun K hK => ?_) AllReadyH.nil)
        · go_simp
          refine hK.out _ _ sS4 (fun hHeld => ?_)
          clear hK K
          try simp only [Act.put, List.setIfInBounds_toArray, List.set_cons_zero, List.set_cons_succ]
          refine wpAnyH_ready (rs := [8]) (by kernel_rfl) (by simp) ?_
          refine AllReadyH.cons rfl (fun K hK => ?_) AllReadyH.nil
          go_simp
          refine hK.out _ _ sS5 (fun hHeld => ?_)
          clear hK K
          try simp only [Act.put, List.setIfInBounds_toArray, List.set_cons_zero, List.set_cons_succ]
          refine wpAnyH_ready (rs := [9]) (by kernel_rfl) (by simp) ?_
          refine AllReadyH.cons rfl (fun K hK => ?_) AllReadyH.nil
          refine step_add2 V4 rfl (.tmp 149) (.tmp 153) 44 rfl bas 27 _ 1 24 Try.underlying44 info27 rfl (by decide) s.inn m xs (by rfl) (own_ch (own_ch HO22.out (Ch.drew _ No) (fun _ _ => id)) (Ch.of_below hb4.out No) (fun _ _ => id)) #[.slice A' n c'] 27 (by rfl) rfl (by simp [Value.oneCell']) (by simp [maxLen]; omega) (by omega) (by omega) ?_
          intro v2 V6 hown2 hnn2 hch2 hat2
          obtain ⟨A2, c2, rfl, -, -⟩ := own_form hown2
          have hs6 := sesB_ch (sesB_below HS22D.out hb4.out) hch2 (fun e => (HOB.out B e).2.2 rfl)
          have hT6 := blk_ch (blk_below (show Blk V3.drew T 33 _ from HT22.out) hb4.out) hch2 (fun e => by have := (HOB.out T e).2.1; have := HTT.out; omega)
          have x6 := ses_in hs6
          have f6 := ses_fz hs6 30
          have sS6 : V6.cell? ⟨T, 4, none⟩ = some (.slice A n c) := blk_cell hT6 4 _ rfl
          have sS7 : (V6.setCell ⟨B, 30, none⟩ (.slice A2 (m + 1) c2)).cell? ⟨T, 4, none⟩ = some (.slice A n c) := (cell_far V6 ⟨B, 30, none⟩ ⟨T, 4, none⟩ (.slice A2 (m + 1) c2) (by show T ≠ B; omega)).trans sS6
          have HS6 := Lib.hid hs6; have HOWN2 := Lib.hid hown2; have HCH2 := Lib.hid hch2; have HAT2 := Lib.hid hat2
          clear hs6 hT6 hown2 hch2 hat2 hnn2
          refine hK.out _ _ sS6 (fun hHeld => ?_)
          clear hK K
          try simp only [Act.put, List.setIfInBounds_toArray, List.set_cons_zero, List.set_cons_succ]
          refine wpAnyH_take (i := 10) (v := .pointer (some ⟨B, 0, none⟩)) rfl (by kernel_rfl) (by kernel_rfl) (by kernel_rfl) (fun _ _ _ h => h) (Or.inl ⟨by rfl, ?_⟩) (by assumption) ?_
          · intro W hSw
            go_simp
          simp only [Act.put, List.setIfInBounds_toArray, List.set_cons_zero, List.set_cons_succ]
          refine wpAnyH_take (i := 11) (v := .pointer (some ⟨B, 30, none⟩)) rfl (by kernel_rfl) (by kernel_rfl) (by kernel_rfl) (fun _ _ _ h => h) (Or.inl ⟨by rfl, ?_⟩) (by assumption) ?_
          · intro W hSw
            go_simp
          simp only [Act.put, List.setIfInBounds_toArray, List.set_cons_zero, List.set_cons_succ]
          refine wpAnyH_ready (rs := [12]) (by kernel_rfl) (by simp) ?_
          refine AllReadyH.cons rfl (fun K hK => ?_) AllReadyH.nil
          go_simp
          refine hK.out _ _ sS7 (fun hHeld => ?_)
          clear hK K
          try simp only [Act.put, List.setIfInBounds_toArray, List.set_cons_zero, List.set_cons_succ]
          refine wpAnyH_done (by kernel_rfl) ?_ _
          go_wp2
          refine bodyPost_end (results_none rfl _ _ _) rfl ⟨rfl, ?_, .inr ⟨by rw [HRES.out], .slice A2 (m + 1) c2, A', c', ?_, ?_, ?_, ?_, ?_⟩⟩
          · exact (((HC22.out.mono (S' := fun k => k = B ∨ s.inn.ownBlock = some k) (fun _ _ h => .inl h)).trans ((Ch.drew V3 No).trans (Ch.of_below hb4.out No) (fun _ h => h.elim)) (fun _ h => h.elim)).trans HCH2.out (fun i hi => .inl (.inr hi))).trans (Ch.setCell V6 ⟨B, 30, none⟩ _) (fun i hi => .inl (.inl hi))
          · rw [HRES.out]; exact blk_set HS6.out 30 (.slice A2 (m + 1) c2)
          · exact own_ch HOWN2.out (Ch.setCell V6 ⟨B, 30, none⟩ _) (fun k hk e => by
              rcases HAT2.out with h | h
              · exact (HOB.out k (h ▸ hk)).2.2 e
              · rw [h] at hk; cases hk; have e' : V4.heap.size + 1 = B := e; omega)
          · exact held_base (held_ch (held_ch hh4.out HCH2.out (fun a ha e => by have := (HOB.out _ e).2.1; have := (held_lt hh4.out a ha).1; have h1 : V3.drew.heap.size = V3.heap.size := rfl; omega)) (Ch.setCell V6 ⟨B, 30, none⟩ _) (fun a ha e => by have e' : a.block = B := e; have := (held_lt hh4.out a ha).1; have h1 : V3.drew.heap.size = V3.heap.size := rfl; omega)) (fun a ha => by have := (held_lt hh4.out a ha).1; have h1 : V3.drew.heap.size = V3.heap.size := rfl; omega)
          · exact HAT2.out.imp id (fun h => ⟨_, h, by omega⟩)
          · intro a ha e
            rcases HAT2.out with h | h
            · have := (HOB.out _ (h ▸ e)).2.1; have := (held_lt hh4.out a ha).1; have h1 : V3.drew.heap.size = V3.heap.size := rfl; omega
            · rw [h] at e; have e' : V4.heap.size + 1 = a.block := by injection e
              have := (held_lt hh4.out a ha).2; omega
        · go_simp
          refine hK.out _ _ sS5 (fun hHeld => ?_)
          clear hK K
          try simp only [Act.put, List.setIfInBounds_toArray, List.set_cons_zero, List.set_cons_succ]
          refine wpAnyH_ready (rs := [4]) (by kernel_rfl) (by simp) ?_
          refine AllReadyH.cons rfl (fun K hK => ?_) AllReadyH.nil
          go_simp
          refine hK.out _ _ sS5 (fun hHeld => ?_)
          clear hK K
          try simp only [Act.put, List.setIfInBounds_toArray, List.set_cons_zero, List.set_cons_succ]
          refine wpAnyH_ready (rs := [9]) (by kernel_rfl) (by simp) ?_
          refine AllReadyH.cons rfl (fun K hK => ?_) AllReadyH.nil
          refine step_add2 V4 rfl (.tmp 149) (.tmp 153) 44 rfl bas 27 _ 1 24 Try.underlying44 info27 rfl (by decide) s.inn m xs (by rfl) (own_ch (own_ch HO22.out (Ch.drew _ No) (fun _ _ => id)) (Ch.of_below hb4.out No) (fun _ _ => id)) #[.slice A' n c'] 27 (by rfl) rfl (by simp [Value.oneCell']) (by simp [maxLen]; omega) (by omega) (by omega) ?_
          intro v2 V6 hown2 hnn2 hch2 hat2
          obtain ⟨A2, c2, rfl, -, -⟩ := own_form hown2
          have hs6 := sesB_ch (sesB_below HS22D.out hb4.out) hch2 (fun e => (HOB.out B e).2.2 rfl)
          have hT6 := blk_ch (blk_below (show Blk V3.drew T 33 _ from HT22.out) hb4.out) hch2 (fun e => by have := (HOB.out T e).2.1; have := HTT.out; omega)
          have x6 := ses_in hs6
          have f6 := ses_fz hs6 30
          have sS6 : V6.cell? ⟨T, 4, none⟩ = some (.slice A n c) := blk_cell hT6 4 _ rfl
          have sS7 : (V6.setCell ⟨B, 30, none⟩ (.slice A2 (m + 1) c2)).cell? ⟨T, 4, none⟩ = some (.slice A n c) := (cell_far V6 ⟨B, 30, none⟩ ⟨T, 4, none⟩ (.slice A2 (m + 1) c2) (by show T ≠ B; omega)).trans sS6
          have HS6 := Lib.hid hs6; have HOWN2 := Lib.hid hown2; have HCH2 := Lib.hid hch2; have HAT2 := Lib.hid hat2
          clear hs6 hT6 hown2 hch2 hat2 hnn2
          refine hK.out _ _ sS6 (fun hHeld => ?_)
          clear hK K
          try simp only [Act.put, List.setIfInBounds_toArray, List.set_cons_zero, List.set_cons_succ]
          refine wpAnyH_take (i := 10) (v := .pointer (some ⟨B, 0, none⟩)) rfl (by kernel_rfl) (by kernel_rfl) (by kernel_rfl) (fun _ _ _ h => h) (Or.inl ⟨by rfl, ?_⟩) (by assumption) ?_
          · intro W hSw
            go_simp
          simp only [Act.put, List.setIfInBounds_toArray, List.set_cons_zero, List.set_cons_succ]
          refine wpAnyH_take (i := 11) (v := .pointer (some ⟨B, 30, none⟩)) rfl (by kernel_rfl) (by kernel_rfl) (by kernel_rfl) (fun _ _ _ h => h) (Or.inl ⟨by rfl, ?_⟩) (by assumption) ?_
          · intro W hSw
            go_simp
          simp only [Act.put, List.setIfInBounds_toArray, List.set_cons_zero, List.set_cons_succ]
          refine wpAnyH_ready (rs := [12]) (by kernel_rfl) (by simp) ?_
          refine AllReadyH.cons rfl (fun K hK => ?_) AllReadyH.nil
          go_simp
          refine hK.out _ _ sS7 (fun hHeld => ?_)
          clear hK K
          try simp only [Act.put, List.setIfInBounds_toArray, List.set_cons_zero, List.set_cons_succ]
          refine wpAnyH_done (by kernel_rfl) ?_ _
          go_wp2
          refine bodyPost_end (results_none rfl _ _ _) rfl ⟨rfl, ?_, .inr ⟨by rw [HRES.out], .slice A2 (m + 1) c2, A', c', ?_, ?_, ?_, ?_, ?_⟩⟩
          · exact (((HC22.out.mono (S' := fun k => k = B ∨ s.inn.ownBlock = some k) (fun _ _ h => .inl h)).trans ((Ch.drew V3 No).trans (Ch.of_below hb4.out No) (fun _ h => h.elim)) (fun _ h => h.elim)).trans HCH2.out (fun i hi => .inl (.inr hi))).trans (Ch.setCell V6 ⟨B, 30, none⟩ _) (fun i hi => .inl (.inl hi))
          · rw [HRES.out]; exact blk_set HS6.out 30 (.slice A2 (m + 1) c2)
          · exact own_ch HOWN2.out (Ch.setCell V6 ⟨B, 30, none⟩ _) (fun k hk e => by
              rcases HAT2.out with h | h
              · exact (HOB.out k (h ▸ hk)).2.2 e
              · rw [h] at hk; cases hk; have e' : V4.heap.size + 1 = B := e; omega)
          · exact held_base (held_ch (held_ch hh4.out HCH2.out (fun a ha e => by have := (HOB.out _ e).2.1; have := (held_lt hh4.out a ha).1; have h1 : V3.drew.heap.size = V3.heap.size := rfl; omega)) (Ch.setCell V6 ⟨B, 30, none⟩ _) (fun a ha e => by have e' : a.block = B := e; have := (held_lt hh4.out a ha).1; have h1 : V3.drew.heap.size = V3.heap.size := rfl; omega)) (fun a ha => by have := (held_lt hh4.out a ha).1; have h1 : V3.drew.heap.size = V3.heap.size := rfl; omega)
          · exact HAT2.out.imp id (fun h => ⟨_, h, by omega⟩)
          · intro a ha e
            rcases HAT2.out with h | h
            · have := (HOB.out _ (h ▸ e)).2.1; have := (held_lt hh4.out a ha).1; have h1 : V3.drew.heap.size = V3.heap.size := rfl; omega
            · rw [h] at e; have e' : V4.heap.size + 1 = a.block := by injection e
              have := (held_lt hh4.out a ha).2; omega
    have gk2 : decide (ac < (s1.ba : Int) + (s1.ma : Int)) = true := by simpa using hk2
    obtain ⟨a', ha'⟩ : ∃ a' : Nat, (a' : Int) = ac + 1 := ⟨ac.toNat + 1, by omega⟩
    have HAK := Lib.hid (show s1.acked ac = { s1 with ba := a', ma := s1.ba + s1.ma - a' } by unfold Ses.acked; rw [if_pos ⟨hk1, hk2⟩, show ac.toNat + 1 = a' by omega])
    go_wp2_with fail
    go_quiet (fail)
    have HS6 := Lib.hid (sesB_ch HS5.out (ch_drewN No W5 nq) id)
    have HT6 := Lib.hid (blk_ch HT5.out (ch_drewN No W5 nq) id)
    have HR6 := Lib.hid (HR5.out.ch (ch_drewN No W5 nq) (fun _ _ => id))
    have HO6 := Lib.hid (own_ch HO5.out (ch_drewN No W5 nq) (fun _ _ => id))
    have HC6 := Lib.hid (ch_thenno HC5.out (ch_drewN No W5 nq))
    obtain ⟨W6, hW6⟩ : ∃ x, x = W5.drewN nq := ⟨_, rfl⟩
    rw [← hW6] at HS6 HT6 HR6 HO6 HC6 ⊢
    clear hW6 HS5 HT5 HR5 HO5 HC5
    clear k3 b0 b1
    have k3 : W6.cell? ⟨T, 3, none⟩ = some (.int .i64 ac) := blk_cell HT6.out 3 _ rfl
    have b0 := ses_ba HS6.out
    have b1 := ses_ma HS6.out
    go_wp2_with fail
    go_quiet (fail)
    have HS7 := Lib.hid (sesB_ch HS6.out (ch_drewN No W6 nq) id)
    have HT7 := Lib.hid (blk_ch HT6.out (ch_drewN No W6 nq) id)
    have HR7 := Lib.hid (HR6.out.ch (ch_drewN No W6 nq) (fun _ _ => id))
    have HO7 := Lib.hid (own_ch HO6.out (ch_drewN No W6 nq) (fun _ _ => id))
    have HC7 := Lib.hid (ch_thenno HC6.out (ch_drewN No W6 nq))
    obtain ⟨W7, hW7⟩ : ∃ x, x = W6.drewN nq := ⟨_, rfl⟩
    rw [← hW7] at HS7 HT7 HR7 HO7 HC7 ⊢
    clear hW7 HS6 HT6 HR6 HO6 HC6
    clear k3 b0 b1
    have b0 := ses_ba HS7.out
    have b1 := ses_ma HS7.out
    have f26 := ses_fz HS7.out 26
    have f27 := ses_fz HS7.out 27
    have k2 : W7.cell? ⟨T, 2, none⟩ = some (.int .i64 nu) := blk_cell HT7.out 2 _ rfl
    have hsX : SesB ((W7.setCell ⟨B, 26, none⟩ (.int .i64 ((s1.ba : Int) + (ac - (s1.ba : Int) + 1)))).setCell ⟨B, 27, none⟩ (.int .i64 ((s1.ma : Int) - (ac - (s1.ba : Int) + 1)))) B (s1.acked ac) := by
      rw [HAK.out, show (s1.ba : Int) + (ac - (s1.ba : Int) + 1) = (a' : Int) by omega, show (s1.ma : Int) - (ac - (s1.ba : Int) + 1) = ((s1.ba + s1.ma - a' : Nat) : Int) by omega]
      exact blk_set (blk_set HS7.out 26 (.int .i64 (a' : Int))) 27 (.int .i64 ((s1.ba + s1.ma - a' : Nat) : Int))
    have hcX : Ch (fun k => k = B) W7 ((W7.setCell ⟨B, 26, none⟩ (.int .i64 ((s1.ba : Int) + (ac - (s1.ba : Int) + 1)))).setCell ⟨B, 27, none⟩ (.int .i64 ((s1.ma : Int) - (ac - (s1.ba : Int) + 1)))) := (Ch.setCell _ ⟨B, 26, none⟩ _).trans (Ch.setCell _ ⟨B, 27, none⟩ _) (fun i hi => .inl hi)
    have kX : ((W7.setCell ⟨B, 26, none⟩ (.int .i64 ((s1.ba : Int) + (ac - (s1.ba : Int) + 1)))).setCell ⟨B, 27, none⟩ (.int .i64 ((s1.ma : Int) - (ac - (s1.ba : Int) + 1)))).cell? ⟨T, 2, none⟩ = some (.int .i64 nu) := blk_cell (blk_ch HT7.out hcX (fun e => by omega)) 2 _ rfl
    have HS20 := Lib.hid hsX
    have HC20 := Lib.hid (HC7.out.trans hcX (fun i hi => .inl hi))
    have HO20 := Lib.hid (own_ch HO7.out hcX (fun k hk e => (HOB.out k hk).2.2 e))
    have HT20 := Lib.hid (blk_ch HT7.out hcX (fun e => by omega))
    have HR20 := Lib.hid (HR7.out.ch hcX (fun a ha e => hAB a ha e))
    clear hsX hcX
    obtain ⟨s2, hs2⟩ : ∃ x, x = s1.acked ac := ⟨_, rfl⟩
    have h2c : s2.ca = s1.ca := by rw [hs2]; unfold Ses.acked; split <;> rfl
    have h2i : s2.inn = s1.inn := by rw [hs2]; unfold Ses.acked; split <;> rfl
    have HS2E := Lib.hid hs2
    rw [← hs2] at HS20
    clear hs2
    by_cases hnu : nu = 0
    · have gnu : (nu == 0) = true := by simpa using hnu
      have HRES := Lib.hid (show recvS s fr to nu ac n = (s2, false) by rw [HSP.out s1 HS1E.out, if_neg (fun h => h HTO.out), if_pos hnu, ← HS2E.out])
      go_wp2
      exact bodyPost_ret (results_none rfl _ _ _) rfl ⟨rfl, HC20.out.mono (fun _ _ hi => .inl hi), .inl (by rw [HRES.out]; exact ⟨rfl, HS20.out, HO20.out⟩)⟩
    have gnu : (nu == 0) = false := by simpa using hnu
    have HNU := Lib.hid hnu
    go_wp2_with fail
    obtain ⟨W20, hW20⟩ : ∃ x, x = ((W7.setCell ⟨B, 26, none⟩ (.int .i64 ((s1.ba : Int) + (ac - (s1.ba : Int) + 1)))).setCell ⟨B, 27, none⟩ (.int .i64 ((s1.ma : Int) - (ac - (s1.ba : Int) + 1)))) := ⟨_, rfl⟩
    rw [← hW20] at HS20 HC20 HO20 HT20 HR20 ⊢
    clear hW20 kX
    refine (bstore_any B 29 true _ _ (ses_ow HS20.out) (ses_fz HS20.out 29)).mono ?_; rintro e V1 ⟨rfl, hV⟩
    have HS21 : Hid (SesB V1 B { s2 with ow := true }) := Lib.hid (by rw [hV]; exact blk_set (show Blk W20.drew B 75 _ from HS20.out) 29 (.int .u32 (bit true)))
    have hcV : Ch (fun k => k = B) W20 V1 := by rw [hV]; exact (Ch.drew _ _).trans (Ch.setCell _ ⟨B, 29, none⟩ _) (fun i hi => .inl hi)
    have HC21 := Lib.hid (HC20.out.trans hcV (fun i hi => .inl hi))
    have HO21 := Lib.hid (own_ch HO20.out hcV (fun k hk e => (HOB.out k hk).2.2 e))
    have HT21 := Lib.hid (blk_ch HT20.out hcV (fun e => by omega))
    have HR21 := Lib.hid (HR20.out.ch hcV (fun a ha e => hAB a ha e))
    clear hV hcV HS20 HC20 HO20 HT20 HR20 k2
    go_wp2_with fail
    have ca21 := ses_ca HS21.out
    simp only [h2c] at ca21
    refine (iload_any B 28 s1.ca _ ca21).mono ?_; rintro e V2 ⟨rfl, rfl⟩
    have k2 : V1.cell? ⟨T, 2, none⟩ = some (.int .i64 nu) := blk_cell HT21.out 2 _ rfl
    have hcb := hs1b.2.2
    by_cases hcn : nu = s1.ca + 1
    rotate_left
    · have gcn : (nu == s1.ca + 1) = false := by simpa using hcn
      have HRES := Lib.hid (show recvS s fr to nu ac n = ({ s2 with ow := true }, false) by rw [HSP.out s1 HS1E.out, if_neg (fun h => h HTO.out), if_neg HNU.out, ← HS2E.out, h2c, if_neg hcn])
      go_wp2
      exact bodyPost_end (results_none rfl _ _ _) rfl ⟨rfl, HC21.out.mono (fun _ _ hi => .inl hi), .inl (by rw [HRES.out]; exact ⟨rfl, HS21.out, HO21.out⟩)⟩
    have gcn : (nu == s1.ca + 1) = true := by simpa using hcn
    have HCN := Lib.hid hcn
    have HRES := Lib.hid (show recvS s fr to nu ac n = ({ s2 with ow := true, ca := nu }, true) by rw [HSP.out s1 HS1E.out, if_neg (fun h => h HTO.out), if_neg HNU.out, ← HS2E.out, h2c, if_pos hcn])
    clear hcn
    go_wp2_with fail
    refine (cas_any B 28 s1.ca (s1.ca + 1) V1 ca21 (ses_fz HS21.out 28)).mono ?_; rintro e V3 ⟨rfl, hV⟩
    have HS22 : Hid (SesB V3 B { s2 with ow := true, ca := nu }) := Lib.hid (by rw [hV, HCN.out]; exact blk_set HS21.out 28 (.int .i64 (s1.ca + 1)))
    have hcV : Ch (fun k => k = B) V1 V3 := by rw [hV]; exact Ch.setCell _ ⟨B, 28, none⟩ _
    have HC22 := Lib.hid (HC21.out.trans hcV (fun i hi => .inl hi))
    have HO22 := Lib.hid (own_ch HO21.out hcV (fun k hk e => (HOB.out k hk).2.2 e))
    have HT22 := Lib.hid (blk_ch HT21.out hcV (fun e => by omega))
    have HR22 := Lib.hid (HR21.out.ch hcV (fun a ha e => hAB a ha e))
    have hsz3 : w.heap.size ≤ V3.heap.size := HC22.out.size
    have k4 : V3.cell? ⟨T, 4, none⟩ = some (.slice A n c) := blk_cell HT22.out 4 _ rfl
    have x0 := ses_in HS22.out
    simp only [h2i, hs1b.2.2.2.2] at x0
    have HS22D := Lib.hid (show SesB V3.drew B { s2 with ow := true, ca := nu } from HS22.out)
    clear hV hcV ca21 HS21 HC21 HO21 HT21 HR21 k2
    go_wp2_with fail
    have sS0 : V3.drew.cell? ⟨T, 4, none⟩ = some (.slice A n c) := k4
    refine wp_region_held_drew (S := fun W => W.cell? ⟨T, 4, none⟩ = some (.slice A n c)) (by kernel_rfl) sS0 (fun hHeld => ?_)
    refine wpAnyH_take (i := 0) (v := .pointer (some ⟨B, 0, none⟩)) rfl (by kernel_rfl) (by kernel_rfl) (by kernel_rfl) (fun _ _ _ h => h) (Or.inl ⟨by rfl, ?_⟩) (by assumption) ?_
    · intro W hSw
      go_simp
    simp only [Act.put, List.setIfInBounds_toArray, List.set_cons_zero, List.set_cons_succ]
    refine wpAnyH_take (i := 1) (v := .pointer (some ⟨B, 0, none⟩)) rfl (by kernel_rfl) (by kernel_rfl) (by kernel_rfl) (fun _ _ _ h => h) (Or.inl ⟨by rfl, ?_⟩) (by assumption) ?_
    · intro W hSw
      go_simp
    simp only [Act.put, List.setIfInBounds_toArray, List.set_cons_zero, List.set_cons_succ]
    refine wpAnyH_take (i := 2) (v := .pointer (some ⟨B, 0, none⟩)) rfl (by kernel_rfl) (by kernel_rfl) (by kernel_rfl) (fun _ _ _ h => h) (Or.inl ⟨by rfl, ?_⟩) (by assumption) ?_
    · intro W hSw
      go_simp
    simp only [Act.put, List.setIfInBounds_toArray, List.set_cons_zero, List.set_cons_succ]
    refine wpAnyH_take (i := 3) (v := .pointer (some ⟨B, 30, none⟩)) rfl (by kernel_rfl) (by kernel_rfl) (by kernel_rfl) (fun _ _ _ h => h) (Or.inl ⟨by rfl, ?_⟩) (by assumption) ?_
    · intro W hSw
      go_simp
    simp only [Act.put, List.setIfInBounds_toArray, List.set_cons_zero, List.set_cons_succ]
    refine wpAnyH_take (i := 5) (v := .pointer (some ⟨T, 4, none⟩)) rfl (by kernel_rfl) (by kernel_rfl) (by kernel_rfl) (fun _ _ _ h => h) (Or.inl ⟨by rfl, ?_⟩) (by assumption) ?_
    · intro W hSw
      go_simp
    simp only [Act.put, List.setIfInBounds_toArray, List.set_cons_zero, List.set_cons_succ]
    refine wpAnyH_take (i := 6) (v := .slice A n c) rfl (by kernel_rfl) (by kernel_rfl) (by kernel_rfl) (fun _ _ _ h => h) (Or.inl ⟨by rfl, ?_⟩) (by assumption) ?_
    · intro W hSw
      go_simp
    simp only [Act.put, List.setIfInBounds_toArray, List.set_cons_zero, List.set_cons_succ]
    refine wpAnyH_ready (rs := [4, 7]) (by kernel_rfl) (by simp) ?_
    refine AllReadyH.cons rfl (fun K hK => ?_) (AllReadyH.cons rfl (fun K hK => ?_) AllReadyH.nil)
    · go_simp
      refine hK.out _ _ sS0 (fun hHeld => ?_)
      clear hK K
      try simp only [Act.put, List.setIfInBounds_toArray, List.set_cons_zero, List.set_cons_succ]
      refine wpAnyH_ready (rs := [7]) (by kernel_rfl) (by simp) ?_
      refine AllReadyH.cons rfl (fun K hK => ?_) AllReadyH.nil
      go_simp
      refine (clone_held A n c l _ (HR22.out.ch (Ch.drew _ No) (fun _ _ => id)) hn6).mono ?_; rintro e V4 ⟨A', c', rfl, hh4, hb4⟩
      have sS4 := below_cell hb4 sS0
      have sS5 : (V4.alloc (.cells #[.slice A' n c'] 27)).cell? ⟨T, 4, none⟩ = some (.slice A n c) := below_cell ((Below.refl V4.heap.size V4).alloc (Nat.le_refl _) _) sS4
      have x4 : V4.cell? ⟨B, 30, none⟩ = some s.inn := below_cell hb4 x0
      have x5 : (V4.alloc (.cells #[.slice A' n c'] 27)).cell? ⟨B, 30, none⟩ = some s.inn := below_cell ((Below.refl V4.heap.size V4).alloc (Nat.le_refl _) _) x4
      have hs4 : V3.heap.size ≤ V4.heap.size := hb4.size
      have hh4 := Lib.hid hh4
      have hb4 := Lib.hid hb4
      refine hK.out _ _ sS4 (fun hHeld => ?_)
      clear hK K
      try simp only [Act.put, List.setIfInBounds_toArray, List.set_cons_zero, List.set_cons_succ]
      refine wpAnyH_ready (rs := [8]) (by kernel_rfl) (by simp) ?_
      refine AllReadyH.cons rfl (fun K hK => ?_) AllReadyH.nil
      go_simp
      refine hK.out _ _ sS5 (fun hHeld => ?_)
      clear hK K
      try simp only [Act.put, List.setIfInBounds_toArray, List.set_cons_zero, List.set_cons_succ]
      refine wpAnyH_ready (rs := [9]) (by kernel_rfl) (by simp) ?_
      refine AllReadyH.cons rfl (fun K hK => ?_) AllReadyH.nil
      refine step_add2 V4 rfl (.tmp 149) (.tmp 153) 44 rfl bas 27 _ 1 24 Try.underlying44 info27 rfl (by decide) s.inn m xs (by rfl) (own_ch (own_ch HO22.out (Ch.drew _ No) (fun _ _ => id)) (Ch.of_below hb4.out No) (fun _ _ => id)) #[.slice A' n c'] 27 (by rfl) rfl (by simp [Value.oneCell']) (by simp [maxLen]; omega) (by omega) (by omega) ?_
      intro v2 V6 hown2 hnn2 hch2 hat2
      obtain ⟨A2, c2, rfl, -, -⟩ := own_form hown2
      have hs6 := sesB_ch (sesB_below HS22D.out hb4.out) hch2 (fun e => (HOB.out B e).2.2 rfl)
      have hT6 := blk_ch (blk_below (show Blk V3.drew T 33 _ from HT22.out) hb4.out) hch2 (fun e => by have := (HOB.out T e).2.1; have := HTT.out; omega)
      have x6 := ses_in hs6
      have f6 := ses_fz hs6 30
      have sS6 : V6.cell? ⟨T, 4, none⟩ = some (.slice A n c) := blk_cell hT6 4 _ rfl
      have sS7 : (V6.setCell ⟨B, 30, none⟩ (.slice A2 (m + 1) c2)).cell? ⟨T, 4, none⟩ = some (.slice A n c) := (cell_far V6 ⟨B, 30, none⟩ ⟨T, 4, none⟩ (.slice A2 (m + 1) c2) (by show T ≠ B; omega)).trans sS6
      have HS6 := Lib.hid hs6; have HOWN2 := Lib.hid hown2; have HCH2 := Lib.hid hch2; have HAT2 := Lib.hid hat2
      clear hs6 hT6 hown2 hch2 hat2 hnn2
      refine hK.out _ _ sS6 (fun hHeld => ?_)
      clear hK K
      try simp only [Act.put, List.setIfInBounds_toArray, List.set_cons_zero, List.set_cons_succ]
      refine wpAnyH_take (i := 10) (v := .pointer (some ⟨B, 0, none⟩)) rfl (by kernel_rfl) (by kernel_rfl) (by kernel_rfl) (fun _ _ _ h => h) (Or.inl ⟨by rfl, ?_⟩) (by assumption) ?_
      · intro W hSw
        go_simp
      simp only [Act.put, List.setIfInBounds_toArray, List.set_cons_zero, List.set_cons_succ]
      refine wpAnyH_take (i := 11) (v := .pointer (some ⟨B, 30, none⟩)) rfl (by kernel_rfl) (by kernel_rfl) (by kernel_rfl) (fun _ _ _ h => h) (Or.inl ⟨by rfl, ?_⟩) (by assumption) ?_
      · intro W hSw
        go_simp
      simp only [Act.put, List.setIfInBounds_toArray, List.set_cons_zero, List.set_cons_succ]
      refine wpAnyH_ready (rs := [12]) (by kernel_rfl) (by simp) ?_
      refine AllReadyH.cons rfl (fun K hK => ?_) AllReadyH.nil
      go_simp
      refine hK.out _ _ sS7 (fun hHeld => ?_)
      clear hK K
      try simp only [Act.put, List.setIfInBounds_toArray, List.set_cons_zero, List.set_cons_succ]
      refine wpAnyH_done (by kernel_rfl) ?_ _
      go_wp2
      refine bodyPost_end (results_none rfl _ _ _) rfl ⟨rfl, ?_, .inr ⟨by rw [HRES.out], .slice A2 (m + 1) c2, A', c', ?_, ?_, ?_, ?_, ?_⟩⟩
      · exact (((HC22.out.mono (S' := fun k => k = B ∨ s.inn.ownBlock = some k) (fun _ _ h => .inl h)).trans ((Ch.drew V3 No).trans (Ch.of_below hb4.out No) (fun _ h => h.elim)) (fun _ h => h.elim)).trans HCH2.out (fun i hi => .inl (.inr hi))).trans (Ch.setCell V6 ⟨B, 30, none⟩ _) (fun i hi => .inl (.inl hi))
      · rw [HRES.out]; exact blk_set HS6.out 30 (.slice A2 (m + 1) c2)
      · exact own_ch HOWN2.out (Ch.setCell V6 ⟨B, 30, none⟩ _) (fun k hk e => by
          rcases HAT2.out with h | h
          · exact (HOB.out k (h ▸ hk)).2.2 e
          · rw [h] at hk; cases hk; have e' : V4.heap.size + 1 = B := e; omega)
      · exact held_base (held_ch (held_ch hh4.out HCH2.out (fun a ha e => by have := (HOB.out _ e).2.1; have := (held_lt hh4.out a ha).1; have h1 : V3.drew.heap.size = V3.heap.size := rfl; omega)) (Ch.setCell V6 ⟨B, 30, none⟩ _) (fun a ha e => by have e' : a.block = B := e; have := (held_lt hh4.out a ha).1; have h1 : V3.drew.heap.size = V3.heap.size := rfl; omega)) (fun a ha => by have := (held_lt hh4.out a ha).1; have h1 : V3.drew.heap.size = V3.heap.size := rfl; omega)
      · exact HAT2.out.imp id (fun h => ⟨_, h, by omega⟩)
      · intro a ha e
        rcases HAT2.out with h | h
        · have := (HOB.out _ (h ▸ e)).2.1; have := (held_lt hh4.out a ha).1; have h1 : V3.drew.heap.size = V3.heap.size := rfl; omega
        · rw [h] at e; have e' : V4.heap.size + 1 = a.block := by injection e
          have := (held_lt hh4.out a ha).2; omega
    · go_simp
      refine (clone_held A n c l _ (HR22.out.ch (Ch.drew _ No) (fun _ _ => id)) hn6).mono ?_; rintro e V4 ⟨A', c', rfl, hh4, hb4⟩
      have sS4 := below_cell hb4 sS0
      have sS5 : (V4.alloc (.cells #[.slice A' n c'] 27)).cell? ⟨T, 4, none⟩ = some (.slice A n c) := below_cell ((Below.refl V4.heap.size V4).alloc (Nat.le_refl _) _) sS4
      have x4 : V4.cell? ⟨B, 30, none⟩ = some s.inn := below_cell hb4 x0
      have x5 : (V4.alloc (.cells #[.slice A' n c'] 27)).cell? ⟨B, 30, none⟩ = some s.inn := below_cell ((Below.refl V4.heap.size V4).alloc (Nat.le_refl _) _) x4
      have hs4 : V3.heap.size ≤ V4.heap.size := hb4.size
      have hh4 := Lib.hid hh4
      have hb4 := Lib.hid hb4
      refine hK.out _ _ sS4 (fun hHeld => ?_)
      clear hK K
      try simp only [Act.put, List.setIfInBounds_toArray, List.set_cons_zero, List.set_cons_succ]
      refine wpAnyH_ready (rs := [4, 8]) (by kernel_rfl) (by simp) ?_
      refine AllReadyH.cons rfl (fun K hK => ?_) (AllReadyH.cons rfl (fun K hK => ?_) AllReadyH.nil)
      · go_simp
        refine hK.out _ _ sS4 (fun hHeld => ?_)
        clear hK K
        try simp only [Act.put, List.setIfInBounds_toArray, List.set_cons_zero, List.set_cons_succ]
        refine wpAnyH_ready (rs := [8]) (by kernel_rfl) (by simp) ?_
        refine AllReadyH.cons rfl (fun K hK => ?_) AllReadyH.nil
        go_simp
        refine hK.out _ _ sS5 (fun hHeld => ?_)
        clear hK K
        try simp only [Act.put, List.setIfInBounds_toArray, List.set_cons_zero, List.set_cons_succ]
        refine wpAnyH_ready (rs := [9]) (by kernel_rfl) (by simp) ?_
        refine AllReadyH.cons rfl (fun K hK => ?_) AllReadyH.nil
        refine step_add2 V4 rfl (.tmp 149) (.tmp 153) 44 rfl bas 27 _ 1 24 Try.underlying44 info27 rfl (by decide) s.inn m xs (by rfl) (own_ch (own_ch HO22.out (Ch.drew _ No) (fun _ _ => id)) (Ch.of_below hb4.out No) (fun _ _ => id)) #[.slice A' n c'] 27 (by rfl) rfl (by simp [Value.oneCell']) (by simp [maxLen]; omega) (by omega) (by omega) ?_
        intro v2 V6 hown2 hnn2 hch2 hat2
        obtain ⟨A2, c2, rfl, -, -⟩ := own_form hown2
        have hs6 := sesB_ch (sesB_below HS22D.out hb4.out) hch2 (fun e => (HOB.out B e).2.2 rfl)
        have hT6 := blk_ch (blk_below (show Blk V3.drew T 33 _ from HT22.out) hb4.out) hch2 (fun e => by have := (HOB.out T e).2.1; have := HTT.out; omega)
        have x6 := ses_in hs6
        have f6 := ses_fz hs6 30
        have sS6 : V6.cell? ⟨T, 4, none⟩ = some (.slice A n c) := blk_cell hT6 4 _ rfl
        have sS7 : (V6.setCell ⟨B, 30, none⟩ (.slice A2 (m + 1) c2)).cell? ⟨T, 4, none⟩ = some (.slice A n c) := (cell_far V6 ⟨B, 30, none⟩ ⟨T, 4, none⟩ (.slice A2 (m + 1) c2) (by show T ≠ B; omega)).trans sS6
        have HS6 := Lib.hid hs6; have HOWN2 := Lib.hid hown2; have HCH2 := Lib.hid hch2; have HAT2 := Lib.hid hat2
        clear hs6 hT6 hown2 hch2 hat2 hnn2
        refine hK.out _ _ sS6 (fun hHeld => ?_)
        clear hK K
        try simp only [Act.put, List.setIfInBounds_toArray, List.set_cons_zero, List.set_cons_succ]
        refine wpAnyH_take (i := 10) (v := .pointer (some ⟨B, 0, none⟩)) rfl (by kernel_rfl) (by kernel_rfl) (by kernel_rfl) (fun _ _ _ h => h) (Or.inl ⟨by rfl, ?_⟩) (by assumption) ?_
        · intro W hSw
          go_simp
        simp only [Act.put, List.setIfInBounds_toArray, List.set_cons_zero, List.set_cons_succ]
        refine wpAnyH_take (i := 11) (v := .pointer (some ⟨B, 30, none⟩)) rfl (by kernel_rfl) (by kernel_rfl) (by kernel_rfl) (fun _ _ _ h => h) (Or.inl ⟨by rfl, ?_⟩) (by assumption) ?_
        · intro W hSw
          go_simp
        simp only [Act.put, List.setIfInBounds_toArray, List.set_cons_zero, List.set_cons_succ]
        refine wpAnyH_ready (rs := [12]) (by kernel_rfl) (by simp) ?_
        refine AllReadyH.cons rfl (fun K hK => ?_) AllReadyH.nil
        go_simp
        refine hK.out _ _ sS7 (fun hHeld => ?_)
        clear hK K
        try simp only [Act.put, List.setIfInBounds_toArray, List.set_cons_zero, List.set_cons_succ]
        refine wpAnyH_done (by kernel_rfl) ?_ _
        go_wp2
        refine bodyPost_end (results_none rfl _ _ _) rfl ⟨rfl, ?_, .inr ⟨by rw [HRES.out], .slice A2 (m + 1) c2, A', c', ?_, ?_, ?_, ?_, ?_⟩⟩
        · exact (((HC22.out.mono (S' := fun k => k = B ∨ s.inn.ownBlock = some k) (fun _ _ h => .inl h)).trans ((Ch.drew V3 No).trans (Ch.of_below hb4.out No) (fun _ h => h.elim)) (fun _ h => h.elim)).trans HCH2.out (fun i hi => .inl (.inr hi))).trans (Ch.setCell V6 ⟨B, 30, none⟩ _) (fun i hi => .inl (.inl hi))
        · rw [HRES.out]; exact blk_set HS6.out 30 (.slice A2 (m + 1) c2)
        · exact own_ch HOWN2.out (Ch.setCell V6 ⟨B, 30, none⟩ _) (fun k hk e => by
            rcases HAT2.out with h | h
            · exact (HOB.out k (h ▸ hk)).2.2 e
            · rw [h] at hk; cases hk; have e' : V4.heap.size + 1 = B := e; omega)
        · exact held_base (held_ch (held_ch hh4.out HCH2.out (fun a ha e => by have := (HOB.out _ e).2.1; have := (held_lt hh4.out a ha).1; have h1 : V3.drew.heap.size = V3.heap.size := rfl; omega)) (Ch.setCell V6 ⟨B, 30, none⟩ _) (fun a ha e => by have e' : a.block = B := e; have := (held_lt hh4.out a ha).1; have h1 : V3.drew.heap.size = V3.heap.size := rfl; omega)) (fun a ha => by have := (held_lt hh4.out a ha).1; have h1 : V3.drew.heap.size = V3.heap.size := rfl; omega)
        · exact HAT2.out.imp id (fun h => ⟨_, h, by omega⟩)
        · intro a ha e
          rcases HAT2.out with h | h
          · have := (HOB.out _ (h ▸ e)).2.1; have := (held_lt hh4.out a ha).1; have h1 : V3.drew.heap.size = V3.heap.size := rfl; omega
          · rw [h] at e; have e' : V4.heap.size + 1 = a.block := by injection e
            have := (held_lt hh4.out a ha).2; omega
      · go_simp
        refine hK.out _ _ sS5 (fun hHeld => ?_)
        clear hK K
        try simp only [Act.put, List.setIfInBounds_toArray, List.set_cons_zero, List.set_cons_succ]
        refine wpAnyH_ready (rs := [4]) (by kernel_rfl) (by simp) ?_
        refine AllReadyH.cons rfl (fun K hK => ?_) AllReadyH.nil
        go_simp
        refine hK.out _ _ sS5 (fun hHeld => ?_)
        clear hK K
        try simp only [Act.put, List.setIfInBounds_toArray, List.set_cons_zero, List.set_cons_succ]
        refine wpAnyH_ready (rs := [9]) (by kernel_rfl) (by simp) ?_
        refine AllReadyH.cons rfl (fun K hK => ?_) AllReadyH.nil
        refine step_add2 V4 rfl (.tmp 149) (.tmp 153) 44 rfl bas 27 _ 1 24 Try.underlying44 info27 rfl (by decide) s.inn m xs (by rfl) (own_ch (own_ch HO22.out (Ch.drew _ No) (fun _ _ => id)) (Ch.of_below hb4.out No) (fun _ _ => id)) #[.slice A' n c'] 27 (by rfl) rfl (by simp [Value.oneCell']) (by simp [maxLen]; omega) (by omega) (by omega) ?_
        intro v2 V6 hown2 hnn2 hch2 hat2
        obtain ⟨A2, c2, rfl, -, -⟩ := own_form hown2
        have hs6 := sesB_ch (sesB_below HS22D.out hb4.out) hch2 (fun e => (HOB.out B e).2.2 rfl)
        have hT6 := blk_ch (blk_below (show Blk V3.drew T 33 _ from HT22.out) hb4.out) hch2 (fun e => by have := (HOB.out T e).2.1; have := HTT.out; omega)
        have x6 := ses_in hs6
        have f6 := ses_fz hs6 30
        have sS6 : V6.cell? ⟨T, 4, none⟩ = some (.slice A n c) := blk_cell hT6 4 _ rfl
        have sS7 : (V6.setCell ⟨B, 30, none⟩ (.slice A2 (m + 1) c2)).cell? ⟨T, 4, none⟩ = some (.slice A n c) := (cell_far V6 ⟨B, 30, none⟩ ⟨T, 4, none⟩ (.slice A2 (m + 1) c2) (by show T ≠ B; omega)).trans sS6
        have HS6 := Lib.hid hs6; have HOWN2 := Lib.hid hown2; have HCH2 := Lib.hid hch2; have HAT2 := Lib.hid hat2
        clear hs6 hT6 hown2 hch2 hat2 hnn2
        refine hK.out _ _ sS6 (fun hHeld => ?_)
        clear hK K
        try simp only [Act.put, List.setIfInBounds_toArray, List.set_cons_zero, List.set_cons_succ]
        refine wpAnyH_take (i := 10) (v := .pointer (some ⟨B, 0, none⟩)) rfl (by kernel_rfl) (by kernel_rfl) (by kernel_rfl) (fun _ _ _ h => h) (Or.inl ⟨by rfl, ?_⟩) (by assumption) ?_
        · intro W hSw
          go_simp
        simp only [Act.put, List.setIfInBounds_toArray, List.set_cons_zero, List.set_cons_succ]
        refine wpAnyH_take (i := 11) (v := .pointer (some ⟨B, 30, none⟩)) rfl (by kernel_rfl) (by kernel_rfl) (by kernel_rfl) (fun _ _ _ h => h) (Or.inl ⟨by rfl, ?_⟩) (by assumption) ?_
        · intro W hSw
          go_simp
        simp only [Act.put, List.setIfInBounds_toArray, List.set_cons_zero, List.set_cons_succ]
        refine wpAnyH_ready (rs := [12]) (by kernel_rfl) (by simp) ?_
        refine AllReadyH.cons rfl (fun K hK => ?_) AllReadyH.nil
        go_simp
        refine hK.out _ _ sS7 (fun hHeld => ?_)
        clear hK K
        try simp only [Act.put, List.setIfInBounds_toArray, List.set_cons_zero, List.set_cons_succ]
        refine wpAnyH_done (by kernel_rfl) ?_ _
        go_wp2
        refine bodyPost_end (results_none rfl _ _ _) rfl ⟨rfl, ?_, .inr ⟨by rw [HRES.out], .slice A2 (m + 1) c2, A', c', ?_, ?_, ?_, ?_, ?_⟩⟩
        · exact (((HC22.out.mono (S' := fun k => k = B ∨ s.inn.ownBlock = some k) (fun _ _ h => .inl h)).trans ((Ch.drew V3 No).trans (Ch.of_below hb4.out No) (fun _ h => h.elim)) (fun _ h => h.elim)).trans HCH2.out (fun i hi => .inl (.inr hi))).trans (Ch.setCell V6 ⟨B, 30, none⟩ _) (fun i hi => .inl (.inl hi))
        · rw [HRES.out]; exact blk_set HS6.out 30 (.slice A2 (m + 1) c2)
        · exact own_ch HOWN2.out (Ch.setCell V6 ⟨B, 30, none⟩ _) (fun k hk e => by
            rcases HAT2.out with h | h
            · exact (HOB.out k (h ▸ hk)).2.2 e
            · rw [h] at hk; cases hk; have e' : V4.heap.size + 1 = B := e; omega)
        · exact held_base (held_ch (held_ch hh4.out HCH2.out (fun a ha e => by have := (HOB.out _ e).2.1; have := (held_lt hh4.out a ha).1; have h1 : V3.drew.heap.size = V3.heap.size := rfl; omega)) (Ch.setCell V6 ⟨B, 30, none⟩ _) (fun a ha e => by have e' : a.block = B := e; have := (held_lt hh4.out a ha).1; have h1 : V3.drew.heap.size = V3.heap.size := rfl; omega)) (fun a ha => by have := (held_lt hh4.out a ha).1; have h1 : V3.drew.heap.size = V3.heap.size := rfl; omega)
        · exact HAT2.out.imp id (fun h => ⟨_, h, by omega⟩)
        · intro a ha e
          rcases HAT2.out with h | h
          · have := (HOB.out _ (h ▸ e)).2.1; have := (held_lt hh4.out a ha).1; have h1 : V3.drew.heap.size = V3.heap.size := rfl; omega
          · rw [h] at e; have e' : V4.heap.size + 1 = a.block := by injection e
            have := (held_lt hh4.out a ha).2; omega
  · have gfr : decide (s.pe < fr) = false := by simpa using hfr
    go_wp2_with fail
    go_quiet (fail)
    have HS3 := Lib.hid (sesB_ch HS2.out (ch_drewN No W2 nq) id)
    have HT3 := Lib.hid (blk_ch HT2.out (ch_drewN No W2 nq) id)
    have HR3 := Lib.hid (HR2.out.ch (ch_drewN No W2 nq) (fun _ _ => id))
    have HO3 := Lib.hid (own_ch HO2.out (ch_drewN No W2 nq) (fun _ _ => id))
    have HC3 := Lib.hid (ch_thenno HC2.out (ch_drewN No W2 nq))
    obtain ⟨W3, hW3⟩ : ∃ x, x = W2.drewN nq := ⟨_, rfl⟩
    rw [← hW3] at HS3 HT3 HR3 HO3 HC3 ⊢
    clear hW3 HS2 HT2 HR2 HO2 HC2
    clear k0 p0
    obtain ⟨s1, hs1⟩ : ∃ s1, s1 = s := ⟨_, rfl⟩
    rw [← hs1] at HS3
    have HS1E := Lib.hid (show s1 = (if s.pe < fr then s.turned fr else s) by rw [if_neg (show ¬ s.pe < fr by omega)]; exact hs1)
    have hs1e : s1.ep = s.ep := by rw [hs1]
    have hs1b : s1.ba ≤ 1000000000 ∧ s1.ma ≤ 8 ∧ 0 ≤ s1.ca ∧ s1.ca ≤ 1000000000 ∧ s1.inn = s.inn := by rw [hs1]; exact ⟨hba, hma, hca0, hca, rfl⟩
    clear hs1
    have k1 : W3.cell? ⟨T, 1, none⟩ = some (.int .i64 to) := blk_cell HT3.out 1 _ rfl
    have e0 := ses_ep HS3.out
    rw [hs1e] at e0
    by_cases hto : to = s.ep
    rotate_left
    · have gto : (to != s.ep) = true := by simpa using hto
      go_wp2_with fail
      go_quiet (fail)
      have HS4 := Lib.hid (sesB_ch HS3.out (ch_drewN No W3 nq) id)
      have HT4 := Lib.hid (blk_ch HT3.out (ch_drewN No W3 nq) id)
      have HR4 := Lib.hid (HR3.out.ch (ch_drewN No W3 nq) (fun _ _ => id))
      have HO4 := Lib.hid (own_ch HO3.out (ch_drewN No W3 nq) (fun _ _ => id))
      have HC4 := Lib.hid (ch_thenno HC3.out (ch_drewN No W3 nq))
      obtain ⟨W4, hW4⟩ : ∃ x, x = W3.drewN nq := ⟨_, rfl⟩
      rw [← hW4] at HS4 HT4 HR4 HO4 HC4 ⊢
      clear hW4 HS3 HT3 HR3 HO3 HC3
      clear k1 e0
      go_wp2_with fail
      refine (bstore_any B 29 true _ _ (ses_ow HS4.out) (ses_fz HS4.out 29)).mono ?_; rintro e V ⟨rfl, hV⟩
      have hsV : SesB V B { s1 with ow := true } := by rw [hV]; exact blk_set (show Blk W4.drew B 75 _ from HS4.out) 29 (.int .u32 (bit true))
      have hcV : Ch (fun k => k = B) w V := by rw [hV]; exact ch_one (ch_thendrew HC4.out) 29 _
      have hoV : V.ownsRow bas 27 1 s.inn m xs := by rw [hV]; exact own_ch (own_ch HO4.out (Ch.drew _ No) (fun _ _ => id)) (Ch.setCell _ ⟨B, 29, none⟩ _) (fun k hk e => (HOB.out k hk).2.2 e)
      clear hV
      go_wp2
      refine bodyPost_ret (results_none rfl _ _ _) rfl ⟨rfl, hcV.mono (fun _ _ hi => .inl hi), .inl ?_⟩
      rw [HSP.out s1 HS1E.out, if_pos hto]
      exact ⟨rfl, hsV, hoV⟩
    have gto : (to != s.ep) = false := by simpa using hto
    have HTO := Lib.hid hto
    clear hto
    go_wp2_with fail
    go_quiet (fail)
    have HS4 := Lib.hid (sesB_ch HS3.out (ch_drewN No W3 nq) id)
    have HT4 := Lib.hid (blk_ch HT3.out (ch_drewN No W3 nq) id)
    have HR4 := Lib.hid (HR3.out.ch (ch_drewN No W3 nq) (fun _ _ => id))
    have HO4 := Lib.hid (own_ch HO3.out (ch_drewN No W3 nq) (fun _ _ => id))
    have HC4 := Lib.hid (ch_thenno HC3.out (ch_drewN No W3 nq))
    obtain ⟨W4, hW4⟩ : ∃ x, x = W3.drewN nq := ⟨_, rfl⟩
    rw [← hW4] at HS4 HT4 HR4 HO4 HC4 ⊢
    clear hW4 HS3 HT3 HR3 HO3 HC3
    clear k1 e0
    have k3 : W4.cell? ⟨T, 3, none⟩ = some (.int .i64 ac) := blk_cell HT4.out 3 _ rfl
    have b0 := ses_ba HS4.out
    have b1 := ses_ma HS4.out
    by_cases hk1 : (s1.ba : Int) ≤ ac
    rotate_left
    · have gk1 : decide ((s1.ba : Int) ≤ ac) = false := by simp; omega
      have HAK := Lib.hid (show s1.acked ac = s1 by unfold Ses.acked; rw [if_neg (fun h => hk1 h.1)])
      go_wp2_with fail
      go_quiet (fail)
      have HS5 := Lib.hid (sesB_ch HS4.out (ch_drewN No W4 nq) id)
      have HT5 := Lib.hid (blk_ch HT4.out (ch_drewN No W4 nq) id)
      have HR5 := Lib.hid (HR4.out.ch (ch_drewN No W4 nq) (fun _ _ => id))
      have HO5 := Lib.hid (own_ch HO4.out (ch_drewN No W4 nq) (fun _ _ => id))
      have HC5 := Lib.hid (ch_thenno HC4.out (ch_drewN No W4 nq))
      obtain ⟨W5, hW5⟩ : ∃ x, x = W4.drewN nq := ⟨_, rfl⟩
      rw [← hW5] at HS5 HT5 HR5 HO5 HC5 ⊢
      clear hW5 HS4 HT4 HR4 HO4 HC4
      clear k3 b0 b1
      obtain ⟨s2, hs2⟩ : ∃ x, x = s1.acked ac := ⟨_, rfl⟩
      have h2c : s2.ca = s1.ca := by rw [hs2]; unfold Ses.acked; split <;> rfl
      have h2i : s2.inn = s1.inn := by rw [hs2]; unfold Ses.acked; split <;> rfl
      have HS2E := Lib.hid hs2
      rw [← HAK.out, ← hs2] at HS5
      clear hs2
      have k2 : W5.cell? ⟨T, 2, none⟩ = some (.int .i64 nu) := blk_cell HT5.out 2 _ rfl
      by_cases hnu : nu = 0
      · have gnu : (nu == 0) = true := by simpa using hnu
        have HRES := Lib.hid (show recvS s fr to nu ac n = (s2, false) by rw [HSP.out s1 HS1E.out, if_neg (fun h => h HTO.out), if_pos hnu, ← HS2E.out])
        go_wp2
        exact bodyPost_ret (results_none rfl _ _ _) rfl ⟨rfl, HC5.out.mono (fun _ _ hi => .inl hi), .inl (by rw [HRES.out]; exact ⟨rfl, HS5.out, HO5.out⟩)⟩
      have gnu : (nu == 0) = false := by simpa using hnu
      have HNU := Lib.hid hnu
      go_wp2_with fail
      refine (bstore_any B 29 true _ _ (ses_ow HS5.out) (ses_fz HS5.out 29)).mono ?_; rintro e V1 ⟨rfl, hV⟩
      have HS21 : Hid (SesB V1 B { s2 with ow := true }) := Lib.hid (by rw [hV]; exact blk_set (show Blk W5.drew B 75 _ from HS5.out) 29 (.int .u32 (bit true)))
      have hcV : Ch (fun k => k = B) W5 V1 := by rw [hV]; exact (Ch.drew _ _).trans (Ch.setCell _ ⟨B, 29, none⟩ _) (fun i hi => .inl hi)
      have HC21 := Lib.hid (HC5.out.trans hcV (fun i hi => .inl hi))
      have HO21 := Lib.hid (own_ch HO5.out hcV (fun k hk e => (HOB.out k hk).2.2 e))
      have HT21 := Lib.hid (blk_ch HT5.out hcV (fun e => by omega))
      have HR21 := Lib.hid (HR5.out.ch hcV (fun a ha e => hAB a ha e))
      clear hV hcV HS5 HC5 HO5 HT5 HR5 k2
      go_wp2_with fail
      have ca21 := ses_ca HS21.out
      simp only [h2c] at ca21
      refine (iload_any B 28 s1.ca _ ca21).mono ?_; rintro e V2 ⟨rfl, rfl⟩
      have k2 : V1.cell? ⟨T, 2, none⟩ = some (.int .i64 nu) := blk_cell HT21.out 2 _ rfl
      have hcb := hs1b.2.2
      by_cases hcn : nu = s1.ca + 1
      rotate_left
      · have gcn : (nu == s1.ca + 1) = false := by simpa using hcn
        have HRES := Lib.hid (show recvS s fr to nu ac n = ({ s2 with ow := true }, false) by rw [HSP.out s1 HS1E.out, if_neg (fun h => h HTO.out), if_neg HNU.out, ← HS2E.out, h2c, if_neg hcn])
        go_wp2
        exact bodyPost_end (results_none rfl _ _ _) rfl ⟨rfl, HC21.out.mono (fun _ _ hi => .inl hi), .inl (by rw [HRES.out]; exact ⟨rfl, HS21.out, HO21.out⟩)⟩
      have gcn : (nu == s1.ca + 1) = true := by simpa using hcn
      have HCN := Lib.hid hcn
      have HRES := Lib.hid (show recvS s fr to nu ac n = ({ s2 with ow := true, ca := nu }, true) by rw [HSP.out s1 HS1E.out, if_neg (fun h => h HTO.out), if_neg HNU.out, ← HS2E.out, h2c, if_pos hcn])
      clear hcn
      go_wp2_with fail
      refine (cas_any B 28 s1.ca (s1.ca + 1) V1 ca21 (ses_fz HS21.out 28)).mono ?_; rintro e V3 ⟨rfl, hV⟩
      have HS22 : Hid (SesB V3 B { s2 with ow := true, ca := nu }) := Lib.hid (by rw [hV, HCN.out]; exact blk_set HS21.out 28 (.int .i64 (s1.ca + 1)))
      have hcV : Ch (fun k => k = B) V1 V3 := by rw [hV]; exact Ch.setCell _ ⟨B, 28, none⟩ _
      have HC22 := Lib.hid (HC21.out.trans hcV (fun i hi => .inl hi))
      have HO22 := Lib.hid (own_ch HO21.out hcV (fun k hk e => (HOB.out k hk).2.2 e))
      have HT22 := Lib.hid (blk_ch HT21.out hcV (fun e => by omega))
      have HR22 := Lib.hid (HR21.out.ch hcV (fun a ha e => hAB a ha e))
      have hsz3 : w.heap.size ≤ V3.heap.size := HC22.out.size
      have k4 : V3.cell? ⟨T, 4, none⟩ = some (.slice A n c) := blk_cell HT22.out 4 _ rfl
      have x0 := ses_in HS22.out
      simp only [h2i, hs1b.2.2.2.2] at x0
      have HS22D := Lib.hid (show SesB V3.drew B { s2 with ow := true, ca := nu } from HS22.out)
      clear hV hcV ca21 HS21 HC21 HO21 HT21 HR21 k2
      go_wp2_with fail
      have sS0 : V3.drew.cell? ⟨T, 4, none⟩ = some (.slice A n c) := k4
      refine wp_region_held_drew (S := fun W => W.cell? ⟨T, 4, none⟩ = some (.slice A n c)) (by kernel_rfl) sS0 (fun hHeld => ?_)
      refine wpAnyH_take (i := 0) (v := .pointer (some ⟨B, 0, none⟩)) rfl (by kernel_rfl) (by kernel_rfl) (by kernel_rfl) (fun _ _ _ h => h) (Or.inl ⟨by rfl, ?_⟩) (by assumption) ?_
      · intro W hSw
        go_simp
      simp only [Act.put, List.setIfInBounds_toArray, List.set_cons_zero, List.set_cons_succ]
      refine wpAnyH_take (i := 1) (v := .pointer (some ⟨B, 0, none⟩)) rfl (by kernel_rfl) (by kernel_rfl) (by kernel_rfl) (fun _ _ _ h => h) (Or.inl ⟨by rfl, ?_⟩) (by assumption) ?_
      · intro W hSw
        go_simp
      simp only [Act.put, List.setIfInBounds_toArray, List.set_cons_zero, List.set_cons_succ]
      refine wpAnyH_take (i := 2) (v := .pointer (some ⟨B, 0, none⟩)) rfl (by kernel_rfl) (by kernel_rfl) (by kernel_rfl) (fun _ _ _ h => h) (Or.inl ⟨by rfl, ?_⟩) (by assumption) ?_
      · intro W hSw
        go_simp
      simp only [Act.put, List.setIfInBounds_toArray, List.set_cons_zero, List.set_cons_succ]
      refine wpAnyH_take (i := 3) (v := .pointer (some ⟨B, 30, none⟩)) rfl (by kernel_rfl) (by kernel_rfl) (by kernel_rfl) (fun _ _ _ h => h) (Or.inl ⟨by rfl, ?_⟩) (by assumption) ?_
      · intro W hSw
        go_simp
      simp only [Act.put, List.setIfInBounds_toArray, List.set_cons_zero, List.set_cons_succ]
      refine wpAnyH_take (i := 5) (v := .pointer (some ⟨T, 4, none⟩)) rfl (by kernel_rfl) (by kernel_rfl) (by kernel_rfl) (fun _ _ _ h => h) (Or.inl ⟨by rfl, ?_⟩) (by assumption) ?_
      · intro W hSw
        go_simp
      simp only [Act.put, List.setIfInBounds_toArray, List.set_cons_zero, List.set_cons_succ]
      refine wpAnyH_take (i := 6) (v := .slice A n c) rfl (by kernel_rfl) (by kernel_rfl) (by kernel_rfl) (fun _ _ _ h => h) (Or.inl ⟨by rfl, ?_⟩) (by assumption) ?_
      · intro W hSw
        go_simp
      simp only [Act.put, List.setIfInBounds_toArray, List.set_cons_zero, List.set_cons_succ]
      refine wpAnyH_ready (rs := [4, 7]) (by kernel_rfl) (by simp) ?_
      refine AllReadyH.cons rfl (fun K hK => ?_) (AllReadyH.cons rfl (fun K hK => ?_) AllReadyH.nil)
      · go_simp
        refine hK.out _ _ sS0 (fun hHeld => ?_)
        clear hK K
        try simp only [Act.put, List.setIfInBounds_toArray, List.set_cons_zero, List.set_cons_succ]
        refine wpAnyH_ready (rs := [7]) (by kernel_rfl) (by simp) ?_
        refine AllReadyH.cons rfl (fun K hK => ?_) AllReadyH.nil
        go_simp
        refine (clone_held A n c l _ (HR22.out.ch (Ch.drew _ No) (fun _ _ => id)) hn6).mono ?_; rintro e V4 ⟨A', c', rfl, hh4, hb4⟩
        have sS4 := below_cell hb4 sS0
        have sS5 : (V4.alloc (.cells #[.slice A' n c'] 27)).cell? ⟨T, 4, none⟩ = some (.slice A n c) := below_cell ((Below.refl V4.heap.size V4).alloc (Nat.le_refl _) _) sS4
        have x4 : V4.cell? ⟨B, 30, none⟩ = some s.inn := below_cell hb4 x0
        have x5 : (V4.alloc (.cells #[.slice A' n c'] 27)).cell? ⟨B, 30, none⟩ = some s.inn := below_cell ((Below.refl V4.heap.size V4).alloc (Nat.le_refl _) _) x4
        have hs4 : V3.heap.size ≤ V4.heap.size := hb4.size
        have hh4 := Lib.hid hh4
        have hb4 := Lib.hid hb4
        refine hK.out _ _ sS4 (fun hHeld => ?_)
        clear hK K
        try simp only [Act.put, List.setIfInBounds_toArray, List.set_cons_zero, List.set_cons_succ]
        refine wpAnyH_ready (rs := [8]) (by kernel_rfl) (by simp) ?_
        refine AllReadyH.cons rfl (fun K hK => ?_) AllReadyH.nil
        go_simp
        refine hK.out _ _ sS5 (fun hHeld => ?_)
        clear hK K
        try simp only [Act.put, List.setIfInBounds_toArray, List.set_cons_zero, List.set_cons_succ]
        refine wpAnyH_ready (rs := [9]) (by kernel_rfl) (by simp) ?_
        refine AllReadyH.cons rfl (fun K hK => ?_) AllReadyH.nil
        refine step_add2 V4 rfl (.tmp 149) (.tmp 153) 44 rfl bas 27 _ 1 24 Try.underlying44 info27 rfl (by decide) s.inn m xs (by rfl) (own_ch (own_ch HO22.out (Ch.drew _ No) (fun _ _ => id)) (Ch.of_below hb4.out No) (fun _ _ => id)) #[.slice A' n c'] 27 (by rfl) rfl (by simp [Value.oneCell']) (by simp [maxLen]; omega) (by omega) (by omega) ?_
        intro v2 V6 hown2 hnn2 hch2 hat2
        obtain ⟨A2, c2, rfl, -, -⟩ := own_form hown2
        have hs6 := sesB_ch (sesB_below HS22D.out hb4.out) hch2 (fun e => (HOB.out B e).2.2 rfl)
        have hT6 := blk_ch (blk_below (show Blk V3.drew T 33 _ from HT22.out) hb4.out) hch2 (fun e => by have := (HOB.out T e).2.1; have := HTT.out; omega)
        have x6 := ses_in hs6
        have f6 := ses_fz hs6 30
        have sS6 : V6.cell? ⟨T, 4, none⟩ = some (.slice A n c) := blk_cell hT6 4 _ rfl
        have sS7 : (V6.setCell ⟨B, 30, none⟩ (.slice A2 (m + 1) c2)).cell? ⟨T, 4, none⟩ = some (.slice A n c) := (cell_far V6 ⟨B, 30, none⟩ ⟨T, 4, none⟩ (.slice A2 (m + 1) c2) (by show T ≠ B; omega)).trans sS6
        have HS6 := Lib.hid hs6; have HOWN2 := Lib.hid hown2; have HCH2 := Lib.hid hch2; have HAT2 := Lib.hid hat2
        clear hs6 hT6 hown2 hch2 hat2 hnn2
        refine hK.out _ _ sS6 (fun hHeld => ?_)
        clear hK K
        try simp only [Act.put, List.setIfInBounds_toArray, List.set_cons_zero, List.set_cons_succ]
        refine wpAnyH_take (i := 10) (v := .pointer (some ⟨B, 0, none⟩)) rfl (by kernel_rfl) (by kernel_rfl) (by kernel_rfl) (fun _ _ _ h => h) (Or.inl ⟨by rfl, ?_⟩) (by assumption) ?_
        · intro W hSw
          go_simp
        simp only [Act.put, List.setIfInBounds_toArray, List.set_cons_zero, List.set_cons_succ]
        refine wpAnyH_take (i := 11) (v := .pointer (some ⟨B, 30, none⟩)) rfl (by kernel_rfl) (by kernel_rfl) (by kernel_rfl) (fun _ _ _ h => h) (Or.inl ⟨by rfl, ?_⟩) (by assumption) ?_
        · intro W hSw
          go_simp
        simp only [Act.put, List.setIfInBounds_toArray, List.set_cons_zero, List.set_cons_succ]
        refine wpAnyH_ready (rs := [12]) (by kernel_rfl) (by simp) ?_
        refine AllReadyH.cons rfl (fun K hK => ?_) AllReadyH.nil
        go_simp
        refine hK.out _ _ sS7 (fun hHeld => ?_)
        clear hK K
        try simp only [Act.put, List.setIfInBounds_toArray, List.set_cons_zero, List.set_cons_succ]
        refine wpAnyH_done (by kernel_rfl) ?_ _
        go_wp2
        refine bodyPost_end (results_none rfl _ _ _) rfl ⟨rfl, ?_, .inr ⟨by rw [HRES.out], .slice A2 (m + 1) c2, A', c', ?_, ?_, ?_, ?_, ?_⟩⟩
        · exact (((HC22.out.mono (S' := fun k => k = B ∨ s.inn.ownBlock = some k) (fun _ _ h => .inl h)).trans ((Ch.drew V3 No).trans (Ch.of_below hb4.out No) (fun _ h => h.elim)) (fun _ h => h.elim)).trans HCH2.out (fun i hi => .inl (.inr hi))).trans (Ch.setCell V6 ⟨B, 30, none⟩ _) (fun i hi => .inl (.inl hi))
        · rw [HRES.out]; exact blk_set HS6.out 30 (.slice A2 (m + 1) c2)
        · exact own_ch HOWN2.out (Ch.setCell V6 ⟨B, 30, none⟩ _) (fun k hk e => by
            rcases HAT2.out with h | h
            · exact (HOB.out k (h ▸ hk)).2.2 e
            · rw [h] at hk; cases hk; have e' : V4.heap.size + 1 = B := e; omega)
        · exact held_base (held_ch (held_ch hh4.out HCH2.out (fun a ha e => by have := (HOB.out _ e).2.1; have := (held_lt hh4.out a ha).1; have h1 : V3.drew.heap.size = V3.heap.size := rfl; omega)) (Ch.setCell V6 ⟨B, 30, none⟩ _) (fun a ha e => by have e' : a.block = B := e; have := (held_lt hh4.out a ha).1; have h1 : V3.drew.heap.size = V3.heap.size := rfl; omega)) (fun a ha => by have := (held_lt hh4.out a ha).1; have h1 : V3.drew.heap.size = V3.heap.size := rfl; omega)
        · exact HAT2.out.imp id (fun h => ⟨_, h, by omega⟩)
        · intro a ha e
          rcases HAT2.out with h | h
          · have := (HOB.out _ (h ▸ e)).2.1; have := (held_lt hh4.out a ha).1; have h1 : V3.drew.heap.size = V3.heap.size := rfl; omega
          · rw [h] at e; have e' : V4.heap.size + 1 = a.block := by injection e
            have := (held_lt hh4.out a ha).2; omega
      · go_simp
        refine (clone_held A n c l _ (HR22.out.ch (Ch.drew _ No) (fun _ _ => id)) hn6).mono ?_; rintro e V4 ⟨A', c', rfl, hh4, hb4⟩
        have sS4 := below_cell hb4 sS0
        have sS5 : (V4.alloc (.cells #[.slice A' n c'] 27)).cell? ⟨T, 4, none⟩ = some (.slice A n c) := below_cell ((Below.refl V4.heap.size V4).alloc (Nat.le_refl _) _) sS4
        have x4 : V4.cell? ⟨B, 30, none⟩ = some s.inn := below_cell hb4 x0
        have x5 : (V4.alloc (.cells #[.slice A' n c'] 27)).cell? ⟨B, 30, none⟩ = some s.inn := below_cell ((Below.refl V4.heap.size V4).alloc (Nat.le_refl _) _) x4
        have hs4 : V3.heap.size ≤ V4.heap.size := hb4.size
        have hh4 := Lib.hid hh4
        have hb4 := Lib.hid hb4
        refine hK.out _ _ sS4 (fun hHeld => ?_)
        clear hK K
        try simp only [Act.put, List.setIfInBounds_toArray, List.set_cons_zero, List.set_cons_succ]
        refine wpAnyH_ready (rs := [4, 8]) (by kernel_rfl) (by simp) ?_
        refine AllReadyH.cons rfl (fun K hK => ?_) (AllReadyH.cons rfl (fun K hK => ?_) AllReadyH.nil)
        · go_simp
          refine hK.out _ _ sS4 (fun hHeld => ?_)
          clear hK K
          try simp only [Act.put, List.setIfInBounds_toArray, List.set_cons_zero, List.set_cons_succ]
          refine wpAnyH_ready (rs := [8]) (by kernel_rfl) (by simp) ?_
          refine AllReadyH.cons rfl (fun K hK => ?_) AllReadyH.nil
          go_simp
          refine hK.out _ _ sS5 (fun hHeld => ?_)
          clear hK K
          try simp only [Act.put, List.setIfInBounds_toArray, List.set_cons_zero, List.set_cons_succ]
          refine wpAnyH_ready (rs := [9]) (by kernel_rfl) (by simp) ?_
          refine AllReadyH.cons rfl (fun K hK => ?_) AllReadyH.nil
          refine step_add2 V4 rfl (.tmp 149) (.tmp 153) 44 rfl bas 27 _ 1 24 Try.underlying44 info27 rfl (by decide) s.inn m xs (by rfl) (own_ch (own_ch HO22.out (Ch.drew _ No) (fun _ _ => id)) (Ch.of_below hb4.out No) (fun _ _ => id)) #[.slice A' n c'] 27 (by rfl) rfl (by simp [Value.oneCell']) (by simp [maxLen]; omega) (by omega) (by omega) ?_
          intro v2 V6 hown2 hnn2 hch2 hat2
          obtain ⟨A2, c2, rfl, -, -⟩ := own_form hown2
          have hs6 := sesB_ch (sesB_below HS22D.out hb4.out) hch2 (fun e => (HOB.out B e).2.2 rfl)
          have hT6 := blk_ch (blk_below (show Blk V3.drew T 33 _ from HT22.out) hb4.out) hch2 (fun e => by have := (HOB.out T e).2.1; have := HTT.out; omega)
          have x6 := ses_in hs6
          have f6 := ses_fz hs6 30
          have sS6 : V6.cell? ⟨T, 4, none⟩ = some (.slice A n c) := blk_cell hT6 4 _ rfl
          have sS7 : (V6.setCell ⟨B, 30, none⟩ (.slice A2 (m + 1) c2)).cell? ⟨T, 4, none⟩ = some (.slice A n c) := (cell_far V6 ⟨B, 30, none⟩ ⟨T, 4, none⟩ (.slice A2 (m + 1) c2) (by show T ≠ B; omega)).trans sS6
          have HS6 := Lib.hid hs6; have HOWN2 := Lib.hid hown2; have HCH2 := Lib.hid hch2; have HAT2 := Lib.hid hat2
          clear hs6 hT6 hown2 hch2 hat2 hnn2
          refine hK.out _ _ sS6 (fun hHeld => ?_)
          clear hK K
          try simp only [Act.put, List.setIfInBounds_toArray, List.set_cons_zero, List.set_cons_succ]
          refine wpAnyH_take (i := 10) (v := .pointer (some ⟨B, 0, none⟩)) rfl (by kernel_rfl) (by kernel_rfl) (by kernel_rfl) (fun _ _ _ h => h) (Or.inl ⟨by rfl, ?_⟩) (by assumption) ?_
          · intro W hSw
            go_simp
          simp only [Act.put, List.setIfInBounds_toArray, List.set_cons_zero, List.set_cons_succ]
          refine wpAnyH_take (i := 11) (v := .pointer (some ⟨B, 30, none⟩)) rfl (by kernel_rfl) (by kernel_rfl) (by kernel_rfl) (fun _ _ _ h => h) (Or.inl ⟨by rfl, ?_⟩) (by assumption) ?_
          · intro W hSw
            go_simp
          simp only [Act.put, List.setIfInBounds_toArray, List.set_cons_zero, List.set_cons_succ]
          refine wpAnyH_ready (rs := [12]) (by kernel_rfl) (by simp) ?_
          refine AllReadyH.cons rfl (fun K hK => ?_) AllReadyH.nil
          go_simp
          refine hK.out _ _ sS7 (fun hHeld => ?_)
          clear hK K
          try simp only [Act.put, List.setIfInBounds_toArray, List.set_cons_zero, List.set_cons_succ]
          refine wpAnyH_done (by kernel_rfl) ?_ _
          go_wp2
          refine bodyPost_end (results_none rfl _ _ _) rfl ⟨rfl, ?_, .inr ⟨by rw [HRES.out], .slice A2 (m + 1) c2, A', c', ?_, ?_, ?_, ?_, ?_⟩⟩
          · exact (((HC22.out.mono (S' := fun k => k = B ∨ s.inn.ownBlock = some k) (fun _ _ h => .inl h)).trans ((Ch.drew V3 No).trans (Ch.of_below hb4.out No) (fun _ h => h.elim)) (fun _ h => h.elim)).trans HCH2.out (fun i hi => .inl (.inr hi))).trans (Ch.setCell V6 ⟨B, 30, none⟩ _) (fun i hi => .inl (.inl hi))
          · rw [HRES.out]; exact blk_set HS6.out 30 (.slice A2 (m + 1) c2)
          · exact own_ch HOWN2.out (Ch.setCell V6 ⟨B, 30, none⟩ _) (fun k hk e => by
              rcases HAT2.out with h | h
              · exact (HOB.out k (h ▸ hk)).2.2 e
              · rw [h] at hk; cases hk; have e' : V4.heap.size + 1 = B := e; omega)
          · exact held_base (held_ch (held_ch hh4.out HCH2.out (fun a ha e => by have := (HOB.out _ e).2.1; have := (held_lt hh4.out a ha).1; have h1 : V3.drew.heap.size = V3.heap.size := rfl; omega)) (Ch.setCell V6 ⟨B, 30, none⟩ _) (fun a ha e => by have e' : a.block = B := e; have := (held_lt hh4.out a ha).1; have h1 : V3.drew.heap.size = V3.heap.size := rfl; omega)) (fun a ha => by have := (held_lt hh4.out a ha).1; have h1 : V3.drew.heap.size = V3.heap.size := rfl; omega)
          · exact HAT2.out.imp id (fun h => ⟨_, h, by omega⟩)
          · intro a ha e
            rcases HAT2.out with h | h
            · have := (HOB.out _ (h ▸ e)).2.1; have := (held_lt hh4.out a ha).1; have h1 : V3.drew.heap.size = V3.heap.size := rfl; omega
            · rw [h] at e; have e' : V4.heap.size + 1 = a.block := by injection e
              have := (held_lt hh4.out a ha).2; omega
        · go_simp
          refine hK.out _ _ sS5 (fun hHeld => ?_)
          clear hK K
          try simp only [Act.put, List.setIfInBounds_toArray, List.set_cons_zero, List.set_cons_succ]
          refine wpAnyH_ready (rs := [4]) (by kernel_rfl) (by simp) ?_
          refine AllReadyH.cons rfl (fun K hK => ?_) AllReadyH.nil
          go_simp
          refine hK.out _ _ sS5 (fun hHeld => ?_)
          clear hK K
          try simp only [Act.put, List.setIfInBounds_toArray, List.set_cons_zero, List.set_cons_succ]
          refine wpAnyH_ready (rs := [9]) (by kernel_rfl) (by simp) ?_
          refine AllReadyH.cons rfl (fun K hK => ?_) AllReadyH.nil
          refine step_add2 V4 rfl (.tmp 149) (.tmp 153) 44 rfl bas 27 _ 1 24 Try.underlying44 info27 rfl (by decide) s.inn m xs (by rfl) (own_ch (own_ch HO22.out (Ch.drew _ No) (fun _ _ => id)) (Ch.of_below hb4.out No) (fun _ _ => id)) #[.slice A' n c'] 27 (by rfl) rfl (by simp [Value.oneCell']) (by simp [maxLen]; omega) (by omega) (by omega) ?_
          intro v2 V6 hown2 hnn2 hch2 hat2
          obtain ⟨A2, c2, rfl, -, -⟩ := own_form hown2
          have hs6 := sesB_ch (sesB_below HS22D.out hb4.out) hch2 (fun e => (HOB.out B e).2.2 rfl)
          have hT6 := blk_ch (blk_below (show Blk V3.drew T 33 _ from HT22.out) hb4.out) hch2 (fun e => by have := (HOB.out T e).2.1; have := HTT.out; omega)
          have x6 := ses_in hs6
          have f6 := ses_fz hs6 30
          have sS6 : V6.cell? ⟨T, 4, none⟩ = some (.slice A n c) := blk_cell hT6 4 _ rfl
          have sS7 : (V6.setCell ⟨B, 30, none⟩ (.slice A2 (m + 1) c2)).cell? ⟨T, 4, none⟩ = some (.slice A n c) := (cell_far V6 ⟨B, 30, none⟩ ⟨T, 4, none⟩ (.slice A2 (m + 1) c2) (by show T ≠ B; omega)).trans sS6
          have HS6 := Lib.hid hs6; have HOWN2 := Lib.hid hown2; have HCH2 := Lib.hid hch2; have HAT2 := Lib.hid hat2
          clear hs6 hT6 hown2 hch2 hat2 hnn2
          refine hK.out _ _ sS6 (fun hHeld => ?_)
          clear hK K
          try simp only [Act.put, List.setIfInBounds_toArray, List.set_cons_zero, List.set_cons_succ]
          refine wpAnyH_take (i := 10) (v := .pointer (some ⟨B, 0, none⟩)) rfl (by kernel_rfl) (by kernel_rfl) (by kernel_rfl) (fun _ _ _ h => h) (Or.inl ⟨by rfl, ?_⟩) (by assumption) ?_
          · intro W hSw
            go_simp
          simp only [Act.put, List.setIfInBounds_toArray, List.set_cons_zero, List.set_cons_succ]
          refine wpAnyH_take (i := 11) (v := .pointer (some ⟨B, 30, none⟩)) rfl (by kernel_rfl) (by kernel_rfl) (by kernel_rfl) (fun _ _ _ h => h) (Or.inl ⟨by rfl, ?_⟩) (by assumption) ?_
          · intro W hSw
            go_simp
          simp only [Act.put, List.setIfInBounds_toArray, List.set_cons_zero, List.set_cons_succ]
          refine wpAnyH_ready (rs := [12]) (by kernel_rfl) (by simp) ?_
          refine AllReadyH.cons rfl (fun K hK => ?_) AllReadyH.nil
          go_simp
          refine hK.out _ _ sS7 (fun hHeld => ?_)
          clear hK K
          try simp only [Act.put, List.setIfInBounds_toArray, List.set_cons_zero, List.set_cons_succ]
          refine wpAnyH_done (by kernel_rfl) ?_ _
          go_wp2
          refine bodyPost_end (results_none rfl _ _ _) rfl ⟨rfl, ?_, .inr ⟨by rw [HRES.out], .slice A2 (m + 1) c2, A', c', ?_, ?_, ?_, ?_, ?_⟩⟩
          · exact (((HC22.out.mono (S' := fun k => k = B ∨ s.inn.ownBlock = some k) (fun _ _ h => .inl h)).trans ((Ch.drew V3 No).trans (Ch.of_below hb4.out No) (fun _ h => h.elim)) (fun _ h => h.elim)).trans HCH2.out (fun i hi => .inl (.inr hi))).trans (Ch.setCell V6 ⟨B, 30, none⟩ _) (fun i hi => .inl (.inl hi))
          · rw [HRES.out]; exact blk_set HS6.out 30 (.slice A2 (m + 1) c2)
          · exact own_ch HOWN2.out (Ch.setCell V6 ⟨B, 30, none⟩ _) (fun k hk e => by
              rcases HAT2.out with h | h
              · exact (HOB.out k (h ▸ hk)).2.2 e
              · rw [h] at hk; cases hk; have e' : V4.heap.size + 1 = B := e; omega)
          · exact held_base (held_ch (held_ch hh4.out HCH2.out (fun a ha e => by have := (HOB.out _ e).2.1; have := (held_lt hh4.out a ha).1; have h1 : V3.drew.heap.size = V3.heap.size := rfl; omega)) (Ch.setCell V6 ⟨B, 30, none⟩ _) (fun a ha e => by have e' : a.block = B := e; have := (held_lt hh4.out a ha).1; have h1 : V3.drew.heap.size = V3.heap.size := rfl; omega)) (fun a ha => by have := (held_lt hh4.out a ha).1; have h1 : V3.drew.heap.size = V3.heap.size := rfl; omega)
          · exact HAT2.out.imp id (fun h => ⟨_, h, by omega⟩)
          · intro a ha e
            rcases HAT2.out with h | h
            · have := (HOB.out _ (h ▸ e)).2.1; have := (held_lt hh4.out a ha).1; have h1 : V3.drew.heap.size = V3.heap.size := rfl; omega
            · rw [h] at e; have e' : V4.heap.size + 1 = a.block := by injection e
              have := (held_lt hh4.out a ha).2; omega
    have gk1 : decide ((s1.ba : Int) ≤ ac) = true := by simpa using hk1
    by_cases hk2 : ac < (s1.ba : Int) + (s1.ma : Int)
    rotate_left
    · have gk2 : decide (ac < (s1.ba : Int) + (s1.ma : Int)) = false := by simp; omega
      have HAK := Lib.hid (show s1.acked ac = s1 by unfold Ses.acked; rw [if_neg (fun h => hk2 h.2)])
      go_wp2_with fail
      go_quiet (fail)
      have HS5 := Lib.hid (sesB_ch HS4.out (ch_drewN No W4 nq) id)
      have HT5 := Lib.hid (blk_ch HT4.out (ch_drewN No W4 nq) id)
      have HR5 := Lib.hid (HR4.out.ch (ch_drewN No W4 nq) (fun _ _ => id))
      have HO5 := Lib.hid (own_ch HO4.out (ch_drewN No W4 nq) (fun _ _ => id))
      have HC5 := Lib.hid (ch_thenno HC4.out (ch_drewN No W4 nq))
      obtain ⟨W5, hW5⟩ : ∃ x, x = W4.drewN nq := ⟨_, rfl⟩
      rw [← hW5] at HS5 HT5 HR5 HO5 HC5 ⊢
      clear hW5 HS4 HT4 HR4 HO4 HC4
      clear k3 b0 b1
      obtain ⟨s2, hs2⟩ : ∃ x, x = s1.acked ac := ⟨_, rfl⟩
      have h2c : s2.ca = s1.ca := by rw [hs2]; unfold Ses.acked; split <;> rfl
      have h2i : s2.inn = s1.inn := by rw [hs2]; unfold Ses.acked; split <;> rfl
      have HS2E := Lib.hid hs2
      rw [← HAK.out, ← hs2] at HS5
      clear hs2
      have k2 : W5.cell? ⟨T, 2, none⟩ = some (.int .i64 nu) := blk_cell HT5.out 2 _ rfl
      by_cases hnu : nu = 0
      · have gnu : (nu == 0) = true := by simpa using hnu
        have HRES := Lib.hid (show recvS s fr to nu ac n = (s2, false) by rw [HSP.out s1 HS1E.out, if_neg (fun h => h HTO.out), if_pos hnu, ← HS2E.out])
        go_wp2
        exact bodyPost_ret (results_none rfl _ _ _) rfl ⟨rfl, HC5.out.mono (fun _ _ hi => .inl hi), .inl (by rw [HRES.out]; exact ⟨rfl, HS5.out, HO5.out⟩)⟩
      have gnu : (nu == 0) = false := by simpa using hnu
      have HNU := Lib.hid hnu
      go_wp2_with fail
      refine (bstore_any B 29 true _ _ (ses_ow HS5.out) (ses_fz HS5.out 29)).mono ?_; rintro e V1 ⟨rfl, hV⟩
      have HS21 : Hid (SesB V1 B { s2 with ow := true }) := Lib.hid (by rw [hV]; exact blk_set (show Blk W5.drew B 75 _ from HS5.out) 29 (.int .u32 (bit true)))
      have hcV : Ch (fun k => k = B) W5 V1 := by rw [hV]; exact (Ch.drew _ _).trans (Ch.setCell _ ⟨B, 29, none⟩ _) (fun i hi => .inl hi)
      have HC21 := Lib.hid (HC5.out.trans hcV (fun i hi => .inl hi))
      have HO21 := Lib.hid (own_ch HO5.out hcV (fun k hk e => (HOB.out k hk).2.2 e))
      have HT21 := Lib.hid (blk_ch HT5.out hcV (fun e => by omega))
      have HR21 := Lib.hid (HR5.out.ch hcV (fun a ha e => hAB a ha e))
      clear hV hcV HS5 HC5 HO5 HT5 HR5 k2
      go_wp2_with fail
      have ca21 := ses_ca HS21.out
      simp only [h2c] at ca21
      refine (iload_any B 28 s1.ca _ ca21).mono ?_; rintro e V2 ⟨rfl, rfl⟩
      have k2 : V1.cell? ⟨T, 2, none⟩ = some (.int .i64 nu) := blk_cell HT21.out 2 _ rfl
      have hcb := hs1b.2.2
      by_cases hcn : nu = s1.ca + 1
      rotate_left
      · have gcn : (nu == s1.ca + 1) = false := by simpa using hcn
        have HRES := Lib.hid (show recvS s fr to nu ac n = ({ s2 with ow := true }, false) by rw [HSP.out s1 HS1E.out, if_neg (fun h => h HTO.out), if_neg HNU.out, ← HS2E.out, h2c, if_neg hcn])
        go_wp2
        exact bodyPost_end (results_none rfl _ _ _) rfl ⟨rfl, HC21.out.mono (fun _ _ hi => .inl hi), .inl (by rw [HRES.out]; exact ⟨rfl, HS21.out, HO21.out⟩)⟩
      have gcn : (nu == s1.ca + 1) = true := by simpa using hcn
      have HCN := Lib.hid hcn
      have HRES := Lib.hid (show recvS s fr to nu ac n = ({ s2 with ow := true, ca := nu }, true) by rw [HSP.out s1 HS1E.out, if_neg (fun h => h HTO.out), if_neg HNU.out, ← HS2E.out, h2c, if_pos hcn])
      clear hcn
      go_wp2_with fail
      refine (cas_any B 28 s1.ca (s1.ca + 1) V1 ca21 (ses_fz HS21.out 28)).mono ?_; rintro e V3 ⟨rfl, hV⟩
      have HS22 : Hid (SesB V3 B { s2 with ow := true, ca := nu }) := Lib.hid (by rw [hV, HCN.out]; exact blk_set HS21.out 28 (.int .i64 (s1.ca + 1)))
      have hcV : Ch (fun k => k = B) V1 V3 := by rw [hV]; exact Ch.setCell _ ⟨B, 28, none⟩ _
      have HC22 := Lib.hid (HC21.out.trans hcV (fun i hi => .inl hi))
      have HO22 := Lib.hid (own_ch HO21.out hcV (fun k hk e => (HOB.out k hk).2.2 e))
      have HT22 := Lib.hid (blk_ch HT21.out hcV (fun e => by omega))
      have HR22 := Lib.hid (HR21.out.ch hcV (fun a ha e => hAB a ha e))
      have hsz3 : w.heap.size ≤ V3.heap.size := HC22.out.size
      have k4 : V3.cell? ⟨T, 4, none⟩ = some (.slice A n c) := blk_cell HT22.out 4 _ rfl
      have x0 := ses_in HS22.out
      simp only [h2i, hs1b.2.2.2.2] at x0
      have HS22D := Lib.hid (show SesB V3.drew B { s2 with ow := true, ca := nu } from HS22.out)
      clear hV hcV ca21 HS21 HC21 HO21 HT21 HR21 k2
      go_wp2_with fail
      have sS0 : V3.drew.cell? ⟨T, 4, none⟩ = some (.slice A n c) := k4
      refine wp_region_held_drew (S := fun W => W.cell? ⟨T, 4, none⟩ = some (.slice A n c)) (by kernel_rfl) sS0 (fun hHeld => ?_)
      refine wpAnyH_take (i := 0) (v := .pointer (some ⟨B, 0, none⟩)) rfl (by kernel_rfl) (by kernel_rfl) (by kernel_rfl) (fun _ _ _ h => h) (Or.inl ⟨by rfl, ?_⟩) (by assumption) ?_
      · intro W hSw
        go_simp
      simp only [Act.put, List.setIfInBounds_toArray, List.set_cons_zero, List.set_cons_succ]
      refine wpAnyH_take (i := 1) (v := .pointer (some ⟨B, 0, none⟩)) rfl (by kernel_rfl) (by kernel_rfl) (by kernel_rfl) (fun _ _ _ h => h) (Or.inl ⟨by rfl, ?_⟩) (by assumption) ?_
      · intro W hSw
        go_simp
      simp only [Act.put, List.setIfInBounds_toArray, List.set_cons_zero, List.set_cons_succ]
      refine wpAnyH_take (i := 2) (v := .pointer (some ⟨B, 0, none⟩)) rfl (by kernel_rfl) (by kernel_rfl) (by kernel_rfl) (fun _ _ _ h => h) (Or.inl ⟨by rfl, ?_⟩) (by assumption) ?_
      · intro W hSw
        go_simp
      simp only [Act.put, List.setIfInBounds_toArray, List.set_cons_zero, List.set_cons_succ]
      refine wpAnyH_take (i := 3) (v := .pointer (some ⟨B, 30, none⟩)) rfl (by kernel_rfl) (by kernel_rfl) (by kernel_rfl) (fun _ _ _ h => h) (Or.inl ⟨by rfl, ?_⟩) (by assumption) ?_
      · intro W hSw
        go_simp
      simp only [Act.put, List.setIfInBounds_toArray, List.set_cons_zero, List.set_cons_succ]
      refine wpAnyH_take (i := 5) (v := .pointer (some ⟨T, 4, none⟩)) rfl (by kernel_rfl) (by kernel_rfl) (by kernel_rfl) (fun _ _ _ h => h) (Or.inl ⟨by rfl, ?_⟩) (by assumption) ?_
      · intro W hSw
        go_simp
      simp only [Act.put, List.setIfInBounds_toArray, List.set_cons_zero, List.set_cons_succ]
      refine wpAnyH_take (i := 6) (v := .slice A n c) rfl (by kernel_rfl) (by kernel_rfl) (by kernel_rfl) (fun _ _ _ h => h) (Or.inl ⟨by rfl, ?_⟩) (by assumption) ?_
      · intro W hSw
        go_simp
      simp only [Act.put, List.setIfInBounds_toArray, List.set_cons_zero, List.set_cons_succ]
      refine wpAnyH_ready (rs := [4, 7]) (by kernel_rfl) (by simp) ?_
      refine AllReadyH.cons rfl (fun K hK => ?_) (AllReadyH.cons rfl (fun K hK => ?_) AllReadyH.nil)
      · go_simp
        refine hK.out _ _ sS0 (fun hHeld => ?_)
        clear hK K
        try simp only [Act.put, List.setIfInBounds_toArray, List.set_cons_zero, List.set_cons_succ]
        refine wpAnyH_ready (rs := [7]) (by kernel_rfl) (by simp) ?_
        refine AllReadyH.cons rfl (fun K hK => ?_) AllReadyH.nil
        go_simp
        refine (clone_held A n c l _ (HR22.out.ch (Ch.drew _ No) (fun _ _ => id)) hn6).mono ?_; rintro e V4 ⟨A', c', rfl, hh4, hb4⟩
        have sS4 := below_cell hb4 sS0
        have sS5 : (V4.alloc (.cells #[.slice A' n c'] 27)).cell? ⟨T, 4, none⟩ = some (.slice A n c) := below_cell ((Below.refl V4.heap.size V4).alloc (Nat.le_refl _) _) sS4
        have x4 : V4.cell? ⟨B, 30, none⟩ = some s.inn := below_cell hb4 x0
        have x5 : (V4.alloc (.cells #[.slice A' n c'] 27)).cell? ⟨B, 30, none⟩ = some s.inn := below_cell ((Below.refl V4.heap.size V4).alloc (Nat.le_refl _) _) x4
        have hs4 : V3.heap.size ≤ V4.heap.size := hb4.size
        have hh4 := Lib.hid hh4
        have hb4 := Lib.hid hb4
        refine hK.out _ _ sS4 (fun hHeld => ?_)
        clear hK K
        try simp only [Act.put, List.setIfInBounds_toArray, List.set_cons_zero, List.set_cons_succ]
        refine wpAnyH_ready (rs := [8]) (by kernel_rfl) (by simp) ?_
        refine AllReadyH.cons rfl (fun K hK => ?_) AllReadyH.nil
        go_simp
        refine hK.out _ _ sS5 (fun hHeld => ?_)
        clear hK K
        try simp only [Act.put, List.setIfInBounds_toArray, List.set_cons_zero, List.set_cons_succ]
        refine wpAnyH_ready (rs := [9]) (by kernel_rfl) (by simp) ?_
        refine AllReadyH.cons rfl (fun K hK => ?_) AllReadyH.nil
        refine step_add2 V4 rfl (.tmp 149) (.tmp 153) 44 rfl bas 27 _ 1 24 Try.underlying44 info27 rfl (by decide) s.inn m xs (by rfl) (own_ch (own_ch HO22.out (Ch.drew _ No) (fun _ _ => id)) (Ch.of_below hb4.out No) (fun _ _ => id)) #[.slice A' n c'] 27 (by rfl) rfl (by simp [Value.oneCell']) (by simp [maxLen]; omega) (by omega) (by omega) ?_
        intro v2 V6 hown2 hnn2 hch2 hat2
        obtain ⟨A2, c2, rfl, -, -⟩ := own_form hown2
        have hs6 := sesB_ch (sesB_below HS22D.out hb4.out) hch2 (fun e => (HOB.out B e).2.2 rfl)
        have hT6 := blk_ch (blk_below (show Blk V3.drew T 33 _ from HT22.out) hb4.out) hch2 (fun e => by have := (HOB.out T e).2.1; have := HTT.out; omega)
        have x6 := ses_in hs6
        have f6 := ses_fz hs6 30
        have sS6 : V6.cell? ⟨T, 4, none⟩ = some (.slice A n c) := blk_cell hT6 4 _ rfl
        have sS7 : (V6.setCell ⟨B, 30, none⟩ (.slice A2 (m + 1) c2)).cell? ⟨T, 4, none⟩ = some (.slice A n c) := (cell_far V6 ⟨B, 30, none⟩ ⟨T, 4, none⟩ (.slice A2 (m + 1) c2) (by show T ≠ B; omega)).trans sS6
        have HS6 := Lib.hid hs6; have HOWN2 := Lib.hid hown2; have HCH2 := Lib.hid hch2; have HAT2 := Lib.hid hat2
        clear hs6 hT6 hown2 hch2 hat2 hnn2
        refine hK.out _ _ sS6 (fun hHeld => ?_)
        clear hK K
        try simp only [Act.put, List.setIfInBounds_toArray, List.set_cons_zero, List.set_cons_succ]
        refine wpAnyH_take (i := 10) (v := .pointer (some ⟨B, 0, none⟩)) rfl (by kernel_rfl) (by kernel_rfl) (by kernel_rfl) (fun _ _ _ h => h) (Or.inl ⟨by rfl, ?_⟩) (by assumption) ?_
        · intro W hSw
          go_simp
        simp only [Act.put, List.setIfInBounds_toArray, List.set_cons_zero, List.set_cons_succ]
        refine wpAnyH_take (i := 11) (v := .pointer (some ⟨B, 30, none⟩)) rfl (by kernel_rfl) (by kernel_rfl) (by kernel_rfl) (fun _ _ _ h => h) (Or.inl ⟨by rfl, ?_⟩) (by assumption) ?_
        · intro W hSw
          go_simp
        simp only [Act.put, List.setIfInBounds_toArray, List.set_cons_zero, List.set_cons_succ]
        refine wpAnyH_ready (rs := [12]) (by kernel_rfl) (by simp) ?_
        refine AllReadyH.cons rfl (fun K hK => ?_) AllReadyH.nil
        go_simp
        refine hK.out _ _ sS7 (fun hHeld => ?_)
        clear hK K
        try simp only [Act.put, List.setIfInBounds_toArray, List.set_cons_zero, List.set_cons_succ]
        refine wpAnyH_done (by kernel_rfl) ?_ _
        go_wp2
        refine bodyPost_end (results_none rfl _ _ _) rfl ⟨rfl, ?_, .inr ⟨by rw [HRES.out], .slice A2 (m + 1) c2, A', c', ?_, ?_, ?_, ?_, ?_⟩⟩
        · exact (((HC22.out.mono (S' := fun k => k = B ∨ s.inn.ownBlock = some k) (fun _ _ h => .inl h)).trans ((Ch.drew V3 No).trans (Ch.of_below hb4.out No) (fun _ h => h.elim)) (fun _ h => h.elim)).trans HCH2.out (fun i hi => .inl (.inr hi))).trans (Ch.setCell V6 ⟨B, 30, none⟩ _) (fun i hi => .inl (.inl hi))
        · rw [HRES.out]; exact blk_set HS6.out 30 (.slice A2 (m + 1) c2)
        · exact own_ch HOWN2.out (Ch.setCell V6 ⟨B, 30, none⟩ _) (fun k hk e => by
            rcases HAT2.out with h | h
            · exact (HOB.out k (h ▸ hk)).2.2 e
            · rw [h] at hk; cases hk; have e' : V4.heap.size + 1 = B := e; omega)
        · exact held_base (held_ch (held_ch hh4.out HCH2.out (fun a ha e => by have := (HOB.out _ e).2.1; have := (held_lt hh4.out a ha).1; have h1 : V3.drew.heap.size = V3.heap.size := rfl; omega)) (Ch.setCell V6 ⟨B, 30, none⟩ _) (fun a ha e => by have e' : a.block = B := e; have := (held_lt hh4.out a ha).1; have h1 : V3.drew.heap.size = V3.heap.size := rfl; omega)) (fun a ha => by have := (held_lt hh4.out a ha).1; have h1 : V3.drew.heap.size = V3.heap.size := rfl; omega)
        · exact HAT2.out.imp id (fun h => ⟨_, h, by omega⟩)
        · intro a ha e
          rcases HAT2.out with h | h
          · have := (HOB.out _ (h ▸ e)).2.1; have := (held_lt hh4.out a ha).1; have h1 : V3.drew.heap.size = V3.heap.size := rfl; omega
          · rw [h] at e; have e' : V4.heap.size + 1 = a.block := by injection e
            have := (held_lt hh4.out a ha).2; omega
      · go_simp
        refine (clone_held A n c l _ (HR22.out.ch (Ch.drew _ No) (fun _ _ => id)) hn6).mono ?_; rintro e V4 ⟨A', c', rfl, hh4, hb4⟩
        have sS4 := below_cell hb4 sS0
        have sS5 : (V4.alloc (.cells #[.slice A' n c'] 27)).cell? ⟨T, 4, none⟩ = some (.slice A n c) := below_cell ((Below.refl V4.heap.size V4).alloc (Nat.le_refl _) _) sS4
        have x4 : V4.cell? ⟨B, 30, none⟩ = some s.inn := below_cell hb4 x0
        have x5 : (V4.alloc (.cells #[.slice A' n c'] 27)).cell? ⟨B, 30, none⟩ = some s.inn := below_cell ((Below.refl V4.heap.size V4).alloc (Nat.le_refl _) _) x4
        have hs4 : V3.heap.size ≤ V4.heap.size := hb4.size
        have hh4 := Lib.hid hh4
        have hb4 := Lib.hid hb4
        refine hK.out _ _ sS4 (fun hHeld => ?_)
        clear hK K
        try simp only [Act.put, List.setIfInBounds_toArray, List.set_cons_zero, List.set_cons_succ]
        refine wpAnyH_ready (rs := [4, 8]) (by kernel_rfl) (by simp) ?_
        refine AllReadyH.cons rfl (fun K hK => ?_) (AllReadyH.cons rfl (fun K hK => ?_) AllReadyH.nil)
        · go_simp
          refine hK.out _ _ sS4 (fun hHeld => ?_)
          clear hK K
          try simp only [Act.put, List.setIfInBounds_toArray, List.set_cons_zero, List.set_cons_succ]
          refine wpAnyH_ready (rs := [8]) (by kernel_rfl) (by simp) ?_
          refine AllReadyH.cons rfl (fun K hK => ?_) AllReadyH.nil
          go_simp
          refine hK.out _ _ sS5 (fun hHeld => ?_)
          clear hK K
          try simp only [Act.put, List.setIfInBounds_toArray, List.set_cons_zero, List.set_cons_succ]
          refine wpAnyH_ready (rs := [9]) (by kernel_rfl) (by simp) ?_
          refine AllReadyH.cons rfl (fun K hK => ?_) AllReadyH.nil
          refine step_add2 V4 rfl (.tmp 149) (.tmp 153) 44 rfl bas 27 _ 1 24 Try.underlying44 info27 rfl (by decide) s.inn m xs (by rfl) (own_ch (own_ch HO22.out (Ch.drew _ No) (fun _ _ => id)) (Ch.of_below hb4.out No) (fun _ _ => id)) #[.slice A' n c'] 27 (by rfl) rfl (by simp [Value.oneCell']) (by simp [maxLen]; omega) (by omega) (by omega) ?_
          intro v2 V6 hown2 hnn2 hch2 hat2
          obtain ⟨A2, c2, rfl, -, -⟩ := own_form hown2
          have hs6 := sesB_ch (sesB_below HS22D.out hb4.out) hch2 (fun e => (HOB.out B e).2.2 rfl)
          have hT6 := blk_ch (blk_below (show Blk V3.drew T 33 _ from HT22.out) hb4.out) hch2 (fun e => by have := (HOB.out T e).2.1; have := HTT.out; omega)
          have x6 := ses_in hs6
          have f6 := ses_fz hs6 30
          have sS6 : V6.cell? ⟨T, 4, none⟩ = some (.slice A n c) := blk_cell hT6 4 _ rfl
          have sS7 : (V6.setCell ⟨B, 30, none⟩ (.slice A2 (m + 1) c2)).cell? ⟨T, 4, none⟩ = some (.slice A n c) := (cell_far V6 ⟨B, 30, none⟩ ⟨T, 4, none⟩ (.slice A2 (m + 1) c2) (by show T ≠ B; omega)).trans sS6
          have HS6 := Lib.hid hs6; have HOWN2 := Lib.hid hown2; have HCH2 := Lib.hid hch2; have HAT2 := Lib.hid hat2
          clear hs6 hT6 hown2 hch2 hat2 hnn2
          refine hK.out _ _ sS6 (fun hHeld => ?_)
          clear hK K
          try simp only [Act.put, List.setIfInBounds_toArray, List.set_cons_zero, List.set_cons_succ]
          refine wpAnyH_take (i := 10) (v := .pointer (some ⟨B, 0, none⟩)) rfl (by kernel_rfl) (by kernel_rfl) (by kernel_rfl) (fun _ _ _ h => h) (Or.inl ⟨by rfl, ?_⟩) (by assumption) ?_
          · intro W hSw
            go_simp
          simp only [Act.put, List.setIfInBounds_toArray, List.set_cons_zero, List.set_cons_succ]
          refine wpAnyH_take (i := 11) (v := .pointer (some ⟨B, 30, none⟩)) rfl (by kernel_rfl) (by kernel_rfl) (by kernel_rfl) (fun _ _ _ h => h) (Or.inl ⟨by rfl, ?_⟩) (by assumption) ?_
          · intro W hSw
            go_simp
          simp only [Act.put, List.setIfInBounds_toArray, List.set_cons_zero, List.set_cons_succ]
          refine wpAnyH_ready (rs := [12]) (by kernel_rfl) (by simp) ?_
          refine AllReadyH.cons rfl (fun K hK => ?_) AllReadyH.nil
          go_simp
          refine hK.out _ _ sS7 (fun hHeld => ?_)
          clear hK K
          try simp only [Act.put, List.setIfInBounds_toArray, List.set_cons_zero, List.set_cons_succ]
          refine wpAnyH_done (by kernel_rfl) ?_ _
          go_wp2
          refine bodyPost_end (results_none rfl _ _ _) rfl ⟨rfl, ?_, .inr ⟨by rw [HRES.out], .slice A2 (m + 1) c2, A', c', ?_, ?_, ?_, ?_, ?_⟩⟩
          · exact (((HC22.out.mono (S' := fun k => k = B ∨ s.inn.ownBlock = some k) (fun _ _ h => .inl h)).trans ((Ch.drew V3 No).trans (Ch.of_below hb4.out No) (fun _ h => h.elim)) (fun _ h => h.elim)).trans HCH2.out (fun i hi => .inl (.inr hi))).trans (Ch.setCell V6 ⟨B, 30, none⟩ _) (fun i hi => .inl (.inl hi))
          · rw [HRES.out]; exact blk_set HS6.out 30 (.slice A2 (m + 1) c2)
          · exact own_ch HOWN2.out (Ch.setCell V6 ⟨B, 30, none⟩ _) (fun k hk e => by
              rcases HAT2.out with h | h
              · exact (HOB.out k (h ▸ hk)).2.2 e
              · rw [h] at hk; cases hk; have e' : V4.heap.size + 1 = B := e; omega)
          · exact held_base (held_ch (held_ch hh4.out HCH2.out (fun a ha e => by have := (HOB.out _ e).2.1; have := (held_lt hh4.out a ha).1; have h1 : V3.drew.heap.size = V3.heap.size := rfl; omega)) (Ch.setCell V6 ⟨B, 30, none⟩ _) (fun a ha e => by have e' : a.block = B := e; have := (held_lt hh4.out a ha).1; have h1 : V3.drew.heap.size = V3.heap.size := rfl; omega)) (fun a ha => by have := (held_lt hh4.out a ha).1; have h1 : V3.drew.heap.size = V3.heap.size := rfl; omega)
          · exact HAT2.out.imp id (fun h => ⟨_, h, by omega⟩)
          · intro a ha e
            rcases HAT2.out with h | h
            · have := (HOB.out _ (h ▸ e)).2.1; have := (held_lt hh4.out a ha).1; have h1 : V3.drew.heap.size = V3.heap.size := rfl; omega
            · rw [h] at e; have e' : V4.heap.size + 1 = a.block := by injection e
              have := (held_lt hh4.out a ha).2; omega
        · go_simp
          refine hK.out _ _ sS5 (fun hHeld => ?_)
          clear hK K
          try simp only [Act.put, List.setIfInBounds_toArray, List.set_cons_zero, List.set_cons_succ]
          refine wpAnyH_ready (rs := [4]) (by kernel_rfl) (by simp) ?_
          refine AllReadyH.cons rfl (fun K hK => ?_) AllReadyH.nil
          go_simp
          refine hK.out _ _ sS5 (fun hHeld => ?_)
          clear hK K
          try simp only [Act.put, List.setIfInBounds_toArray, List.set_cons_zero, List.set_cons_succ]
          refine wpAnyH_ready (rs := [9]) (by kernel_rfl) (by simp) ?_
          refine AllReadyH.cons rfl (fun K hK => ?_) AllReadyH.nil
          refine step_add2 V4 rfl (.tmp 149) (.tmp 153) 44 rfl bas 27 _ 1 24 Try.underlying44 info27 rfl (by decide) s.inn m xs (by rfl) (own_ch (own_ch HO22.out (Ch.drew _ No) (fun _ _ => id)) (Ch.of_below hb4.out No) (fun _ _ => id)) #[.slice A' n c'] 27 (by rfl) rfl (by simp [Value.oneCell']) (by simp [maxLen]; omega) (by omega) (by omega) ?_
          intro v2 V6 hown2 hnn2 hch2 hat2
          obtain ⟨A2, c2, rfl, -, -⟩ := own_form hown2
          have hs6 := sesB_ch (sesB_below HS22D.out hb4.out) hch2 (fun e => (HOB.out B e).2.2 rfl)
          have hT6 := blk_ch (blk_below (show Blk V3.drew T 33 _ from HT22.out) hb4.out) hch2 (fun e => by have := (HOB.out T e).2.1; have := HTT.out; omega)
          have x6 := ses_in hs6
          have f6 := ses_fz hs6 30
          have sS6 : V6.cell? ⟨T, 4, none⟩ = some (.slice A n c) := blk_cell hT6 4 _ rfl
          have sS7 : (V6.setCell ⟨B, 30, none⟩ (.slice A2 (m + 1) c2)).cell? ⟨T, 4, none⟩ = some (.slice A n c) := (cell_far V6 ⟨B, 30, none⟩ ⟨T, 4, none⟩ (.slice A2 (m + 1) c2) (by show T ≠ B; omega)).trans sS6
          have HS6 := Lib.hid hs6; have HOWN2 := Lib.hid hown2; have HCH2 := Lib.hid hch2; have HAT2 := Lib.hid hat2
          clear hs6 hT6 hown2 hch2 hat2 hnn2
          refine hK.out _ _ sS6 (fun hHeld => ?_)
          clear hK K
          try simp only [Act.put, List.setIfInBounds_toArray, List.set_cons_zero, List.set_cons_succ]
          refine wpAnyH_take (i := 10) (v := .pointer (some ⟨B, 0, none⟩)) rfl (by kernel_rfl) (by kernel_rfl) (by kernel_rfl) (fun _ _ _ h => h) (Or.inl ⟨by rfl, ?_⟩) (by assumption) ?_
          · intro W hSw
            go_simp
          simp only [Act.put, List.setIfInBounds_toArray, List.set_cons_zero, List.set_cons_succ]
          refine wpAnyH_take (i := 11) (v := .pointer (some ⟨B, 30, none⟩)) rfl (by kernel_rfl) (by kernel_rfl) (by kernel_rfl) (fun _ _ _ h => h) (Or.inl ⟨by rfl, ?_⟩) (by assumption) ?_
          · intro W hSw
            go_simp
          simp only [Act.put, List.setIfInBounds_toArray, List.set_cons_zero, List.set_cons_succ]
          refine wpAnyH_ready (rs := [12]) (by kernel_rfl) (by simp) ?_
          refine AllReadyH.cons rfl (fun K hK => ?_) AllReadyH.nil
          go_simp
          refine hK.out _ _ sS7 (fun hHeld => ?_)
          clear hK K
          try simp only [Act.put, List.setIfInBounds_toArray, List.set_cons_zero, List.set_cons_succ]
          refine wpAnyH_done (by kernel_rfl) ?_ _
          go_wp2
          refine bodyPost_end (results_none rfl _ _ _) rfl ⟨rfl, ?_, .inr ⟨by rw [HRES.out], .slice A2 (m + 1) c2, A', c', ?_, ?_, ?_, ?_, ?_⟩⟩
          · exact (((HC22.out.mono (S' := fun k => k = B ∨ s.inn.ownBlock = some k) (fun _ _ h => .inl h)).trans ((Ch.drew V3 No).trans (Ch.of_below hb4.out No) (fun _ h => h.elim)) (fun _ h => h.elim)).trans HCH2.out (fun i hi => .inl (.inr hi))).trans (Ch.setCell V6 ⟨B, 30, none⟩ _) (fun i hi => .inl (.inl hi))
          · rw [HRES.out]; exact blk_set HS6.out 30 (.slice A2 (m + 1) c2)
          · exact own_ch HOWN2.out (Ch.setCell V6 ⟨B, 30, none⟩ _) (fun k hk e => by
              rcases HAT2.out with h | h
              · exact (HOB.out k (h ▸ hk)).2.2 e
              · rw [h] at hk; cases hk; have e' : V4.heap.size + 1 = B := e; omega)
          · exact held_base (held_ch (held_ch hh4.out HCH2.out (fun a ha e => by have := (HOB.out _ e).2.1; have := (held_lt hh4.out a ha).1; have h1 : V3.drew.heap.size = V3.heap.size := rfl; omega)) (Ch.setCell V6 ⟨B, 30, none⟩ _) (fun a ha e => by have e' : a.block = B := e; have := (held_lt hh4.out a ha).1; have h1 : V3.drew.heap.size = V3.heap.size := rfl; omega)) (fun a ha => by have := (held_lt hh4.out a ha).1; have h1 : V3.drew.heap.size = V3.heap.size := rfl; omega)
          · exact HAT2.out.imp id (fun h => ⟨_, h, by omega⟩)
          · intro a ha e
            rcases HAT2.out with h | h
            · have := (HOB.out _ (h ▸ e)).2.1; have := (held_lt hh4.out a ha).1; have h1 : V3.drew.heap.size = V3.heap.size := rfl; omega
            · rw [h] at e; have e' : V4.heap.size + 1 = a.block := by injection e
              have := (held_lt hh4.out a ha).2; omega
    have gk2 : decide (ac < (s1.ba : Int) + (s1.ma : Int)) = true := by simpa using hk2
    obtain ⟨a', ha'⟩ : ∃ a' : Nat, (a' : Int) = ac + 1 := ⟨ac.toNat + 1, by omega⟩
    have HAK := Lib.hid (show s1.acked ac = { s1 with ba := a', ma := s1.ba + s1.ma - a' } by unfold Ses.acked; rw [if_pos ⟨hk1, hk2⟩, show ac.toNat + 1 = a' by omega])
    go_wp2_with fail
    go_quiet (fail)
    have HS5 := Lib.hid (sesB_ch HS4.out (ch_drewN No W4 nq) id)
    have HT5 := Lib.hid (blk_ch HT4.out (ch_drewN No W4 nq) id)
    have HR5 := Lib.hid (HR4.out.ch (ch_drewN No W4 nq) (fun _ _ => id))
    have HO5 := Lib.hid (own_ch HO4.out (ch_drewN No W4 nq) (fun _ _ => id))
    have HC5 := Lib.hid (ch_thenno HC4.out (ch_drewN No W4 nq))
    obtain ⟨W5, hW5⟩ : ∃ x, x = W4.drewN nq := ⟨_, rfl⟩
    rw [← hW5] at HS5 HT5 HR5 HO5 HC5 ⊢
    clear hW5 HS4 HT4 HR4 HO4 HC4
    clear k3 b0 b1
    have k3 : W5.cell? ⟨T, 3, none⟩ = some (.int .i64 ac) := blk_cell HT5.out 3 _ rfl
    have b0 := ses_ba HS5.out
    have b1 := ses_ma HS5.out
    go_wp2_with fail
    go_quiet (fail)
    have HS6 := Lib.hid (sesB_ch HS5.out (ch_drewN No W5 nq) id)
    have HT6 := Lib.hid (blk_ch HT5.out (ch_drewN No W5 nq) id)
    have HR6 := Lib.hid (HR5.out.ch (ch_drewN No W5 nq) (fun _ _ => id))
    have HO6 := Lib.hid (own_ch HO5.out (ch_drewN No W5 nq) (fun _ _ => id))
    have HC6 := Lib.hid (ch_thenno HC5.out (ch_drewN No W5 nq))
    obtain ⟨W6, hW6⟩ : ∃ x, x = W5.drewN nq := ⟨_, rfl⟩
    rw [← hW6] at HS6 HT6 HR6 HO6 HC6 ⊢
    clear hW6 HS5 HT5 HR5 HO5 HC5
    clear k3 b0 b1
    have b0 := ses_ba HS6.out
    have b1 := ses_ma HS6.out
    have f26 := ses_fz HS6.out 26
    have f27 := ses_fz HS6.out 27
    have k2 : W6.cell? ⟨T, 2, none⟩ = some (.int .i64 nu) := blk_cell HT6.out 2 _ rfl
    have hsX : SesB ((W6.setCell ⟨B, 26, none⟩ (.int .i64 ((s1.ba : Int) + (ac - (s1.ba : Int) + 1)))).setCell ⟨B, 27, none⟩ (.int .i64 ((s1.ma : Int) - (ac - (s1.ba : Int) + 1)))) B (s1.acked ac) := by
      rw [HAK.out, show (s1.ba : Int) + (ac - (s1.ba : Int) + 1) = (a' : Int) by omega, show (s1.ma : Int) - (ac - (s1.ba : Int) + 1) = ((s1.ba + s1.ma - a' : Nat) : Int) by omega]
      exact blk_set (blk_set HS6.out 26 (.int .i64 (a' : Int))) 27 (.int .i64 ((s1.ba + s1.ma - a' : Nat) : Int))
    have hcX : Ch (fun k => k = B) W6 ((W6.setCell ⟨B, 26, none⟩ (.int .i64 ((s1.ba : Int) + (ac - (s1.ba : Int) + 1)))).setCell ⟨B, 27, none⟩ (.int .i64 ((s1.ma : Int) - (ac - (s1.ba : Int) + 1)))) := (Ch.setCell _ ⟨B, 26, none⟩ _).trans (Ch.setCell _ ⟨B, 27, none⟩ _) (fun i hi => .inl hi)
    have kX : ((W6.setCell ⟨B, 26, none⟩ (.int .i64 ((s1.ba : Int) + (ac - (s1.ba : Int) + 1)))).setCell ⟨B, 27, none⟩ (.int .i64 ((s1.ma : Int) - (ac - (s1.ba : Int) + 1)))).cell? ⟨T, 2, none⟩ = some (.int .i64 nu) := blk_cell (blk_ch HT6.out hcX (fun e => by omega)) 2 _ rfl
    have HS20 := Lib.hid hsX
    have HC20 := Lib.hid (HC6.out.trans hcX (fun i hi => .inl hi))
    have HO20 := Lib.hid (own_ch HO6.out hcX (fun k hk e => (HOB.out k hk).2.2 e))
    have HT20 := Lib.hid (blk_ch HT6.out hcX (fun e => by omega))
    have HR20 := Lib.hid (HR6.out.ch hcX (fun a ha e => hAB a ha e))
    clear hsX hcX
    obtain ⟨s2, hs2⟩ : ∃ x, x = s1.acked ac := ⟨_, rfl⟩
    have h2c : s2.ca = s1.ca := by rw [hs2]; unfold Ses.acked; split <;> rfl
    have h2i : s2.inn = s1.inn := by rw [hs2]; unfold Ses.acked; split <;> rfl
    have HS2E := Lib.hid hs2
    rw [← hs2] at HS20
    clear hs2
    by_cases hnu : nu = 0
    · have gnu : (nu == 0) = true := by simpa using hnu
      have HRES := Lib.hid (show recvS s fr to nu ac n = (s2, false) by rw [HSP.out s1 HS1E.out, if_neg (fun h => h HTO.out), if_pos hnu, ← HS2E.out])
      go_wp2
      exact bodyPost_ret (results_none rfl _ _ _) rfl ⟨rfl, HC20.out.mono (fun _ _ hi => .inl hi), .inl (by rw [HRES.out]; exact ⟨rfl, HS20.out, HO20.out⟩)⟩
    have gnu : (nu == 0) = false := by simpa using hnu
    have HNU := Lib.hid hnu
    go_wp2_with fail
    obtain ⟨W20, hW20⟩ : ∃ x, x = ((W6.setCell ⟨B, 26, none⟩ (.int .i64 ((s1.ba : Int) + (ac - (s1.ba : Int) + 1)))).setCell ⟨B, 27, none⟩ (.int .i64 ((s1.ma : Int) - (ac - (s1.ba : Int) + 1)))) := ⟨_, rfl⟩
    rw [← hW20] at HS20 HC20 HO20 HT20 HR20 ⊢
    clear hW20 kX
    refine (bstore_any B 29 true _ _ (ses_ow HS20.out) (ses_fz HS20.out 29)).mono ?_; rintro e V1 ⟨rfl, hV⟩
    have HS21 : Hid (SesB V1 B { s2 with ow := true }) := Lib.hid (by rw [hV]; exact blk_set (show Blk W20.drew B 75 _ from HS20.out) 29 (.int .u32 (bit true)))
    have hcV : Ch (fun k => k = B) W20 V1 := by rw [hV]; exact (Ch.drew _ _).trans (Ch.setCell _ ⟨B, 29, none⟩ _) (fun i hi => .inl hi)
    have HC21 := Lib.hid (HC20.out.trans hcV (fun i hi => .inl hi))
    have HO21 := Lib.hid (own_ch HO20.out hcV (fun k hk e => (HOB.out k hk).2.2 e))
    have HT21 := Lib.hid (blk_ch HT20.out hcV (fun e => by omega))
    have HR21 := Lib.hid (HR20.out.ch hcV (fun a ha e => hAB a ha e))
    clear hV hcV HS20 HC20 HO20 HT20 HR20 k2
    go_wp2_with fail
    have ca21 := ses_ca HS21.out
    simp only [h2c] at ca21
    refine (iload_any B 28 s1.ca _ ca21).mono ?_; rintro e V2 ⟨rfl, rfl⟩
    have k2 : V1.cell? ⟨T, 2, none⟩ = some (.int .i64 nu) := blk_cell HT21.out 2 _ rfl
    have hcb := hs1b.2.2
    by_cases hcn : nu = s1.ca + 1
    rotate_left
    · have gcn : (nu == s1.ca + 1) = false := by simpa using hcn
      have HRES := Lib.hid (show recvS s fr to nu ac n = ({ s2 with ow := true }, false) by rw [HSP.out s1 HS1E.out, if_neg (fun h => h HTO.out), if_neg HNU.out, ← HS2E.out, h2c, if_neg hcn])
      go_wp2
      exact bodyPost_end (results_none rfl _ _ _) rfl ⟨rfl, HC21.out.mono (fun _ _ hi => .inl hi), .inl (by rw [HRES.out]; exact ⟨rfl, HS21.out, HO21.out⟩)⟩
    have gcn : (nu == s1.ca + 1) = true := by simpa using hcn
    have HCN := Lib.hid hcn
    have HRES := Lib.hid (show recvS s fr to nu ac n = ({ s2 with ow := true, ca := nu }, true) by rw [HSP.out s1 HS1E.out, if_neg (fun h => h HTO.out), if_neg HNU.out, ← HS2E.out, h2c, if_pos hcn])
    clear hcn
    go_wp2_with fail
    refine (cas_any B 28 s1.ca (s1.ca + 1) V1 ca21 (ses_fz HS21.out 28)).mono ?_; rintro e V3 ⟨rfl, hV⟩
    have HS22 : Hid (SesB V3 B { s2 with ow := true, ca := nu }) := Lib.hid (by rw [hV, HCN.out]; exact blk_set HS21.out 28 (.int .i64 (s1.ca + 1)))
    have hcV : Ch (fun k => k = B) V1 V3 := by rw [hV]; exact Ch.setCell _ ⟨B, 28, none⟩ _
    have HC22 := Lib.hid (HC21.out.trans hcV (fun i hi => .inl hi))
    have HO22 := Lib.hid (own_ch HO21.out hcV (fun k hk e => (HOB.out k hk).2.2 e))
    have HT22 := Lib.hid (blk_ch HT21.out hcV (fun e => by omega))
    have HR22 := Lib.hid (HR21.out.ch hcV (fun a ha e => hAB a ha e))
    have hsz3 : w.heap.size ≤ V3.heap.size := HC22.out.size
    have k4 : V3.cell? ⟨T, 4, none⟩ = some (.slice A n c) := blk_cell HT22.out 4 _ rfl
    have x0 := ses_in HS22.out
    simp only [h2i, hs1b.2.2.2.2] at x0
    have HS22D := Lib.hid (show SesB V3.drew B { s2 with ow := true, ca := nu } from HS22.out)
    clear hV hcV ca21 HS21 HC21 HO21 HT21 HR21 k2
    go_wp2_with fail
    have sS0 : V3.drew.cell? ⟨T, 4, none⟩ = some (.slice A n c) := k4
    refine wp_region_held_drew (S := fun W => W.cell? ⟨T, 4, none⟩ = some (.slice A n c)) (by kernel_rfl) sS0 (fun hHeld => ?_)
    refine wpAnyH_take (i := 0) (v := .pointer (some ⟨B, 0, none⟩)) rfl (by kernel_rfl) (by kernel_rfl) (by kernel_rfl) (fun _ _ _ h => h) (Or.inl ⟨by rfl, ?_⟩) (by assumption) ?_
    · intro W hSw
      go_simp
    simp only [Act.put, List.setIfInBounds_toArray, List.set_cons_zero, List.set_cons_succ]
    refine wpAnyH_take (i := 1) (v := .pointer (some ⟨B, 0, none⟩)) rfl (by kernel_rfl) (by kernel_rfl) (by kernel_rfl) (fun _ _ _ h => h) (Or.inl ⟨by rfl, ?_⟩) (by assumption) ?_
    · intro W hSw
      go_simp
    simp only [Act.put, List.setIfInBounds_toArray, List.set_cons_zero, List.set_cons_succ]
    refine wpAnyH_take (i := 2) (v := .pointer (some ⟨B, 0, none⟩)) rfl (by kernel_rfl) (by kernel_rfl) (by kernel_rfl) (fun _ _ _ h => h) (Or.inl ⟨by rfl, ?_⟩) (by assumption) ?_
    · intro W hSw
      go_simp
    simp only [Act.put, List.setIfInBounds_toArray, List.set_cons_zero, List.set_cons_succ]
    refine wpAnyH_take (i := 3) (v := .pointer (some ⟨B, 30, none⟩)) rfl (by kernel_rfl) (by kernel_rfl) (by kernel_rfl) (fun _ _ _ h => h) (Or.inl ⟨by rfl, ?_⟩) (by assumption) ?_
    · intro W hSw
      go_simp
    simp only [Act.put, List.setIfInBounds_toArray, List.set_cons_zero, List.set_cons_succ]
    refine wpAnyH_take (i := 5) (v := .pointer (some ⟨T, 4, none⟩)) rfl (by kernel_rfl) (by kernel_rfl) (by kernel_rfl) (fun _ _ _ h => h) (Or.inl ⟨by rfl, ?_⟩) (by assumption) ?_
    · intro W hSw
      go_simp
    simp only [Act.put, List.setIfInBounds_toArray, List.set_cons_zero, List.set_cons_succ]
    refine wpAnyH_take (i := 6) (v := .slice A n c) rfl (by kernel_rfl) (by kernel_rfl) (by kernel_rfl) (fun _ _ _ h => h) (Or.inl ⟨by rfl, ?_⟩) (by assumption) ?_
    · intro W hSw
      go_simp
    simp only [Act.put, List.setIfInBounds_toArray, List.set_cons_zero, List.set_cons_succ]
    refine wpAnyH_ready (rs := [4, 7]) (by kernel_rfl) (by simp) ?_
    refine AllReadyH.cons rfl (fun K hK => ?_) (AllReadyH.cons rfl (fun K hK => ?_) AllReadyH.nil)
    · go_simp
      refine hK.out _ _ sS0 (fun hHeld => ?_)
      clear hK K
      try simp only [Act.put, List.setIfInBounds_toArray, List.set_cons_zero, List.set_cons_succ]
      refine wpAnyH_ready (rs := [7]) (by kernel_rfl) (by simp) ?_
      refine AllReadyH.cons rfl (fun K hK => ?_) AllReadyH.nil
      go_simp
      refine (clone_held A n c l _ (HR22.out.ch (Ch.drew _ No) (fun _ _ => id)) hn6).mono ?_; rintro e V4 ⟨A', c', rfl, hh4, hb4⟩
      have sS4 := below_cell hb4 sS0
      have sS5 : (V4.alloc (.cells #[.slice A' n c'] 27)).cell? ⟨T, 4, none⟩ = some (.slice A n c) := below_cell ((Below.refl V4.heap.size V4).alloc (Nat.le_refl _) _) sS4
      have x4 : V4.cell? ⟨B, 30, none⟩ = some s.inn := below_cell hb4 x0
      have x5 : (V4.alloc (.cells #[.slice A' n c'] 27)).cell? ⟨B, 30, none⟩ = some s.inn := below_cell ((Below.refl V4.heap.size V4).alloc (Nat.le_refl _) _) x4
      have hs4 : V3.heap.size ≤ V4.heap.size := hb4.size
      have hh4 := Lib.hid hh4
      have hb4 := Lib.hid hb4
      refine hK.out _ _ sS4 (fun hHeld => ?_)
      clear hK K
      try simp only [Act.put, List.setIfInBounds_toArray, List.set_cons_zero, List.set_cons_succ]
      refine wpAnyH_ready (rs := [8]) (by kernel_rfl) (by simp) ?_
      refine AllReadyH.cons rfl (fun K hK => ?_) AllReadyH.nil
      go_simp
      refine hK.out _ _ sS5 (fun hHeld => ?_)
      clear hK K
      try simp only [Act.put, List.setIfInBounds_toArray, List.set_cons_zero, List.set_cons_succ]
      refine wpAnyH_ready (rs := [9]) (by kernel_rfl) (by simp) ?_
      refine AllReadyH.cons rfl (fun K hK => ?_) AllReadyH.nil
      refine step_add2 V4 rfl (.tmp 149) (.tmp 153) 44 rfl bas 27 _ 1 24 Try.underlying44 info27 rfl (by decide) s.inn m xs (by rfl) (own_ch (own_ch HO22.out (Ch.drew _ No) (fun _ _ => id)) (Ch.of_below hb4.out No) (fun _ _ => id)) #[.slice A' n c'] 27 (by rfl) rfl (by simp [Value.oneCell']) (by simp [maxLen]; omega) (by omega) (by omega) ?_
      intro v2 V6 hown2 hnn2 hch2 hat2
      obtain ⟨A2, c2, rfl, -, -⟩ := own_form hown2
      have hs6 := sesB_ch (sesB_below HS22D.out hb4.out) hch2 (fun e => (HOB.out B e).2.2 rfl)
      have hT6 := blk_ch (blk_below (show Blk V3.drew T 33 _ from HT22.out) hb4.out) hch2 (fun e => by have := (HOB.out T e).2.1; have := HTT.out; omega)
      have x6 := ses_in hs6
      have f6 := ses_fz hs6 30
      have sS6 : V6.cell? ⟨T, 4, none⟩ = some (.slice A n c) := blk_cell hT6 4 _ rfl
      have sS7 : (V6.setCell ⟨B, 30, none⟩ (.slice A2 (m + 1) c2)).cell? ⟨T, 4, none⟩ = some (.slice A n c) := (cell_far V6 ⟨B, 30, none⟩ ⟨T, 4, none⟩ (.slice A2 (m + 1) c2) (by show T ≠ B; omega)).trans sS6
      have HS6 := Lib.hid hs6; have HOWN2 := Lib.hid hown2; have HCH2 := Lib.hid hch2; have HAT2 := Lib.hid hat2
      clear hs6 hT6 hown2 hch2 hat2 hnn2
      refine hK.out _ _ sS6 (fun hHeld => ?_)
      clear hK K
      try simp only [Act.put, List.setIfInBounds_toArray, List.set_cons_zero, List.set_cons_succ]
      refine wpAnyH_take (i := 10) (v := .pointer (some ⟨B, 0, none⟩)) rfl (by kernel_rfl) (by kernel_rfl) (by kernel_rfl) (fun _ _ _ h => h) (Or.inl ⟨by rfl, ?_⟩) (by assumption) ?_
      · intro W hSw
        go_simp
      simp only [Act.put, List.setIfInBounds_toArray, List.set_cons_zero, List.set_cons_succ]
      refine wpAnyH_take (i := 11) (v := .pointer (some ⟨B, 30, none⟩)) rfl (by kernel_rfl) (by kernel_rfl) (by kernel_rfl) (fun _ _ _ h => h) (Or.inl ⟨by rfl, ?_⟩) (by assumption) ?_
      · intro W hSw
        go_simp
      simp only [Act.put, List.setIfInBounds_toArray, List.set_cons_zero, List.set_cons_succ]
      refine wpAnyH_ready (rs := [12]) (by kernel_rfl) (by simp) ?_
      refine AllReadyH.cons rfl (fun K hK => ?_) AllReadyH.nil
      go_simp
      refine hK.out _ _ sS7 (fun hHeld => ?_)
      clear hK K
      try simp only [Act.put, List.setIfInBounds_toArray, List.set_cons_zero, List.set_cons_succ]
      refine wpAnyH_done (by kernel_rfl) ?_ _
      go_wp2
      refine bodyPost_end (results_none rfl _ _ _) rfl ⟨rfl, ?_, .inr ⟨by rw [HRES.out], .slice A2 (m + 1) c2, A', c', ?_, ?_, ?_, ?_, ?_⟩⟩
      · exact (((HC22.out.mono (S' := fun k => k = B ∨ s.inn.ownBlock = some k) (fun _ _ h => .inl h)).trans ((Ch.drew V3 No).trans (Ch.of_below hb4.out No) (fun _ h => h.elim)) (fun _ h => h.elim)).trans HCH2.out (fun i hi => .inl (.inr hi))).trans (Ch.setCell V6 ⟨B, 30, none⟩ _) (fun i hi => .inl (.inl hi))
      · rw [HRES.out]; exact blk_set HS6.out 30 (.slice A2 (m + 1) c2)
      · exact own_ch HOWN2.out (Ch.setCell V6 ⟨B, 30, none⟩ _) (fun k hk e => by
          rcases HAT2.out with h | h
          · exact (HOB.out k (h ▸ hk)).2.2 e
          · rw [h] at hk; cases hk; have e' : V4.heap.size + 1 = B := e; omega)
      · exact held_base (held_ch (held_ch hh4.out HCH2.out (fun a ha e => by have := (HOB.out _ e).2.1; have := (held_lt hh4.out a ha).1; have h1 : V3.drew.heap.size = V3.heap.size := rfl; omega)) (Ch.setCell V6 ⟨B, 30, none⟩ _) (fun a ha e => by have e' : a.block = B := e; have := (held_lt hh4.out a ha).1; have h1 : V3.drew.heap.size = V3.heap.size := rfl; omega)) (fun a ha => by have := (held_lt hh4.out a ha).1; have h1 : V3.drew.heap.size = V3.heap.size := rfl; omega)
      · exact HAT2.out.imp id (fun h => ⟨_, h, by omega⟩)
      · intro a ha e
        rcases HAT2.out with h | h
        · have := (HOB.out _ (h ▸ e)).2.1; have := (held_lt hh4.out a ha).1; have h1 : V3.drew.heap.size = V3.heap.size := rfl; omega
        · rw [h] at e; have e' : V4.heap.size + 1 = a.block := by injection e
          have := (held_lt hh4.out a ha).2; omega
    · go_simp
      refine (clone_held A n c l _ (HR22.out.ch (Ch.drew _ No) (fun _ _ => id)) hn6).mono ?_; rintro e V4 ⟨A', c', rfl, hh4, hb4⟩
      have sS4 := below_cell hb4 sS0
      have sS5 : (V4.alloc (.cells #[.slice A' n c'] 27)).cell? ⟨T, 4, none⟩ = some (.slice A n c) := below_cell ((Below.refl V4.heap.size V4).alloc (Nat.le_refl _) _) sS4
      have x4 : V4.cell? ⟨B, 30, none⟩ = some s.inn := below_cell hb4 x0
      have x5 : (V4.alloc (.cells #[.slice A' n c'] 27)).cell? ⟨B, 30, none⟩ = some s.inn := below_cell ((Below.refl V4.heap.size V4).alloc (Nat.le_refl _) _) x4
      have hs4 : V3.heap.size ≤ V4.heap.size := hb4.size
      have hh4 := Lib.hid hh4
      have hb4 := Lib.hid hb4
      refine hK.out _ _ sS4 (fun hHeld => ?_)
      clear hK K
      try simp only [Act.put, List.setIfInBounds_toArray, List.set_cons_zero, List.set_cons_succ]
      refine wpAnyH_ready (rs := [4, 8]) (by kernel_rfl) (by simp) ?_
      refine AllReadyH.cons rfl (fun K hK => ?_) (AllReadyH.cons rfl (fun K hK => ?_) AllReadyH.nil)
      · go_simp
        refine hK.out _ _ sS4 (fun hHeld => ?_)
        clear hK K
        try simp only [Act.put, List.setIfInBounds_toArray, List.set_cons_zero, List.set_cons_succ]
        refine wpAnyH_ready (rs := [8]) (by kernel_rfl) (by simp) ?_
        refine AllReadyH.cons rfl (fun K hK => ?_) AllReadyH.nil
        go_simp
        refine hK.out _ _ sS5 (fun hHeld => ?_)
        clear hK K
        try simp only [Act.put, List.setIfInBounds_toArray, List.set_cons_zero, List.set_cons_succ]
        refine wpAnyH_ready (rs := [9]) (by kernel_rfl) (by simp) ?_
        refine AllReadyH.cons rfl (fun K hK => ?_) AllReadyH.nil
        refine step_add2 V4 rfl (.tmp 149) (.tmp 153) 44 rfl bas 27 _ 1 24 Try.underlying44 info27 rfl (by decide) s.inn m xs (by rfl) (own_ch (own_ch HO22.out (Ch.drew _ No) (fun _ _ => id)) (Ch.of_below hb4.out No) (fun _ _ => id)) #[.slice A' n c'] 27 (by rfl) rfl (by simp [Value.oneCell']) (by simp [maxLen]; omega) (by omega) (by omega) ?_
        intro v2 V6 hown2 hnn2 hch2 hat2
        obtain ⟨A2, c2, rfl, -, -⟩ := own_form hown2
        have hs6 := sesB_ch (sesB_below HS22D.out hb4.out) hch2 (fun e => (HOB.out B e).2.2 rfl)
        have hT6 := blk_ch (blk_below (show Blk V3.drew T 33 _ from HT22.out) hb4.out) hch2 (fun e => by have := (HOB.out T e).2.1; have := HTT.out; omega)
        have x6 := ses_in hs6
        have f6 := ses_fz hs6 30
        have sS6 : V6.cell? ⟨T, 4, none⟩ = some (.slice A n c) := blk_cell hT6 4 _ rfl
        have sS7 : (V6.setCell ⟨B, 30, none⟩ (.slice A2 (m + 1) c2)).cell? ⟨T, 4, none⟩ = some (.slice A n c) := (cell_far V6 ⟨B, 30, none⟩ ⟨T, 4, none⟩ (.slice A2 (m + 1) c2) (by show T ≠ B; omega)).trans sS6
        have HS6 := Lib.hid hs6; have HOWN2 := Lib.hid hown2; have HCH2 := Lib.hid hch2; have HAT2 := Lib.hid hat2
        clear hs6 hT6 hown2 hch2 hat2 hnn2
        refine hK.out _ _ sS6 (fun hHeld => ?_)
        clear hK K
        try simp only [Act.put, List.setIfInBounds_toArray, List.set_cons_zero, List.set_cons_succ]
        refine wpAnyH_take (i := 10) (v := .pointer (some ⟨B, 0, none⟩)) rfl (by kernel_rfl) (by kernel_rfl) (by kernel_rfl) (fun _ _ _ h => h) (Or.inl ⟨by rfl, ?_⟩) (by assumption) ?_
        · intro W hSw
          go_simp
        simp only [Act.put, List.setIfInBounds_toArray, List.set_cons_zero, List.set_cons_succ]
        refine wpAnyH_take (i := 11) (v := .pointer (some ⟨B, 30, none⟩)) rfl (by kernel_rfl) (by kernel_rfl) (by kernel_rfl) (fun _ _ _ h => h) (Or.inl ⟨by rfl, ?_⟩) (by assumption) ?_
        · intro W hSw
          go_simp
        simp only [Act.put, List.setIfInBounds_toArray, List.set_cons_zero, List.set_cons_succ]
        refine wpAnyH_ready (rs := [12]) (by kernel_rfl) (by simp) ?_
        refine AllReadyH.cons rfl (fun K hK => ?_) AllReadyH.nil
        go_simp
        refine hK.out _ _ sS7 (fun hHeld => ?_)
        clear hK K
        try simp only [Act.put, List.setIfInBounds_toArray, List.set_cons_zero, List.set_cons_succ]
        refine wpAnyH_done (by kernel_rfl) ?_ _
        go_wp2
        refine bodyPost_end (results_none rfl _ _ _) rfl ⟨rfl, ?_, .inr ⟨by rw [HRES.out], .slice A2 (m + 1) c2, A', c', ?_, ?_, ?_, ?_, ?_⟩⟩
        · exact (((HC22.out.mono (S' := fun k => k = B ∨ s.inn.ownBlock = some k) (fun _ _ h => .inl h)).trans ((Ch.drew V3 No).trans (Ch.of_below hb4.out No) (fun _ h => h.elim)) (fun _ h => h.elim)).trans HCH2.out (fun i hi => .inl (.inr hi))).trans (Ch.setCell V6 ⟨B, 30, none⟩ _) (fun i hi => .inl (.inl hi))
        · rw [HRES.out]; exact blk_set HS6.out 30 (.slice A2 (m + 1) c2)
        · exact own_ch HOWN2.out (Ch.setCell V6 ⟨B, 30, none⟩ _) (fun k hk e => by
            rcases HAT2.out with h | h
            · exact (HOB.out k (h ▸ hk)).2.2 e
            · rw [h] at hk; cases hk; have e' : V4.heap.size + 1 = B := e; omega)
        · exact held_base (held_ch (held_ch hh4.out HCH2.out (fun a ha e => by have := (HOB.out _ e).2.1; have := (held_lt hh4.out a ha).1; have h1 : V3.drew.heap.size = V3.heap.size := rfl; omega)) (Ch.setCell V6 ⟨B, 30, none⟩ _) (fun a ha e => by have e' : a.block = B := e; have := (held_lt hh4.out a ha).1; have h1 : V3.drew.heap.size = V3.heap.size := rfl; omega)) (fun a ha => by have := (held_lt hh4.out a ha).1; have h1 : V3.drew.heap.size = V3.heap.size := rfl; omega)
        · exact HAT2.out.imp id (fun h => ⟨_, h, by omega⟩)
        · intro a ha e
          rcases HAT2.out with h | h
          · have := (HOB.out _ (h ▸ e)).2.1; have := (held_lt hh4.out a ha).1; have h1 : V3.drew.heap.size = V3.heap.size := rfl; omega
          · rw [h] at e; have e' : V4.heap.size + 1 = a.block := by injection e
            have := (held_lt hh4.out a ha).2; omega
      · go_simp
        refine hK.out _ _ sS5 (fun hHeld => ?_)
        clear hK K
        try simp only [Act.put, List.setIfInBounds_toArray, List.set_cons_zero, List.set_cons_succ]
        refine wpAnyH_ready (rs := [4]) (by kernel_rfl) (by simp) ?_
        refine AllReadyH.cons rfl (fun K hK => ?_) AllReadyH.nil
        go_simp
        refine hK.out _ _ sS5 (fun hHeld => ?_)
        clear hK K
        try simp only [Act.put, List.setIfInBounds_toArray, List.set_cons_zero, List.set_cons_succ]
        refine wpAnyH_ready (rs := [9]) (by kernel_rfl) (by simp) ?_
        refine AllReadyH.cons rfl (fun K hK => ?_) AllReadyH.nil
        refine step_add2 V4 rfl (.tmp 149) (.tmp 153) 44 rfl bas 27 _ 1 24 Try.underlying44 info27 rfl (by decide) s.inn m xs (by rfl) (own_ch (own_ch HO22.out (Ch.drew _ No) (fun _ _ => id)) (Ch.of_below hb4.out No) (fun _ _ => id)) #[.slice A' n c'] 27 (by rfl) rfl (by simp [Value.oneCell']) (by simp [maxLen]; omega) (by omega) (by omega) ?_
        intro v2 V6 hown2 hnn2 hch2 hat2
        obtain ⟨A2, c2, rfl, -, -⟩ := own_form hown2
        have hs6 := sesB_ch (sesB_below HS22D.out hb4.out) hch2 (fun e => (HOB.out B e).2.2 rfl)
        have hT6 := blk_ch (blk_below (show Blk V3.drew T 33 _ from HT22.out) hb4.out) hch2 (fun e => by have := (HOB.out T e).2.1; have := HTT.out; omega)
        have x6 := ses_in hs6
        have f6 := ses_fz hs6 30
        have sS6 : V6.cell? ⟨T, 4, none⟩ = some (.slice A n c) := blk_cell hT6 4 _ rfl
        have sS7 : (V6.setCell ⟨B, 30, none⟩ (.slice A2 (m + 1) c2)).cell? ⟨T, 4, none⟩ = some (.slice A n c) := (cell_far V6 ⟨B, 30, none⟩ ⟨T, 4, none⟩ (.slice A2 (m + 1) c2) (by show T ≠ B; omega)).trans sS6
        have HS6 := Lib.hid hs6; have HOWN2 := Lib.hid hown2; have HCH2 := Lib.hid hch2; have HAT2 := Lib.hid hat2
        clear hs6 hT6 hown2 hch2 hat2 hnn2
        refine hK.out _ _ sS6 (fun hHeld => ?_)
        clear hK K
        try simp only [Act.put, List.setIfInBounds_toArray, List.set_cons_zero, List.set_cons_succ]
        refine wpAnyH_take (i := 10) (v := .pointer (some ⟨B, 0, none⟩)) rfl (by kernel_rfl) (by kernel_rfl) (by kernel_rfl) (fun _ _ _ h => h) (Or.inl ⟨by rfl, ?_⟩) (by assumption) ?_
        · intro W hSw
          go_simp
        simp only [Act.put, List.setIfInBounds_toArray, List.set_cons_zero, List.set_cons_succ]
        refine wpAnyH_take (i := 11) (v := .pointer (some ⟨B, 30, none⟩)) rfl (by kernel_rfl) (by kernel_rfl) (by kernel_rfl) (fun _ _ _ h => h) (Or.inl ⟨by rfl, ?_⟩) (by assumption) ?_
        · intro W hSw
          go_simp
        simp only [Act.put, List.setIfInBounds_toArray, List.set_cons_zero, List.set_cons_succ]
        refine wpAnyH_ready (rs := [12]) (by kernel_rfl) (by simp) ?_
        refine AllReadyH.cons rfl (fun K hK => ?_) AllReadyH.nil
        go_simp
        refine hK.out _ _ sS7 (fun hHeld => ?_)
        clear hK K
        try simp only [Act.put, List.setIfInBounds_toArray, List.set_cons_zero, List.set_cons_succ]
        refine wpAnyH_done (by kernel_rfl) ?_ _
        go_wp2
        refine bodyPost_end (results_none rfl _ _ _) rfl ⟨rfl, ?_, .inr ⟨by rw [HRES.out], .slice A2 (m + 1) c2, A', c', ?_, ?_, ?_, ?_, ?_⟩⟩
        · exact (((HC22.out.mono (S' := fun k => k = B ∨ s.inn.ownBlock = some k) (fun _ _ h => .inl h)).trans ((Ch.drew V3 No).trans (Ch.of_below hb4.out No) (fun _ h => h.elim)) (fun _ h => h.elim)).trans HCH2.out (fun i hi => .inl (.inr hi))).trans (Ch.setCell V6 ⟨B, 30, none⟩ _) (fun i hi => .inl (.inl hi))
        · rw [HRES.out]; exact blk_set HS6.out 30 (.slice A2 (m + 1) c2)
        · exact own_ch HOWN2.out (Ch.setCell V6 ⟨B, 30, none⟩ _) (fun k hk e => by
            rcases HAT2.out with h | h
            · exact (HOB.out k (h ▸ hk)).2.2 e
            · rw [h] at hk; cases hk; have e' : V4.heap.size + 1 = B := e; omega)
        · exact held_base (held_ch (held_ch hh4.out HCH2.out (fun a ha e => by have := (HOB.out _ e).2.1; have := (held_lt hh4.out a ha).1; have h1 : V3.drew.heap.size = V3.heap.size := rfl; omega)) (Ch.setCell V6 ⟨B, 30, none⟩ _) (fun a ha e => by have e' : a.block = B := e; have := (held_lt hh4.out a ha).1; have h1 : V3.drew.heap.size = V3.heap.size := rfl; omega)) (fun a ha => by have := (held_lt hh4.out a ha).1; have h1 : V3.drew.heap.size = V3.heap.size := rfl; omega)
        · exact HAT2.out.imp id (fun h => ⟨_, h, by omega⟩)
        · intro a ha e
          rcases HAT2.out with h | h
          · have := (HOB.out _ (h ▸ e)).2.1; have := (held_lt hh4.out a ha).1; have h1 : V3.drew.heap.size = V3.heap.size := rfl; omega
          · rw [h] at e; have e' : V4.heap.size + 1 = a.block := by injection e
            have := (held_lt hh4.out a ha).2; omega

end Go.Proofs.Ytadcahnoghnkcaa
