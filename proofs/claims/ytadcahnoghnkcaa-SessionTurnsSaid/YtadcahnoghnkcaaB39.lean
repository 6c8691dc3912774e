/- Walk of SessionOrder: what an end takes is the beginning of what the other one was sent to send. No conditions. -/
import Derived.Test.YtadcahnoghnkcaaB38
namespace Go.Proofs.Ytadcahnoghnkcaa
open Go.RowKit
set_option linter.unusedVariables false
set_option linter.unusedSimpArgs false
attribute [local go_sem] Oper.semAt_some

/-- where the turns begin -/
theorem runI_start {w w3 : World} {Ba Bb : Nat} {one other : Int} (hb : Below w.heap.size w w3) (hBa : w.heap.size ≤ Ba) (hBb : w.heap.size ≤ Bb) (hne : Ba ≠ Bb) (ha : SesB w3 Ba (sesM one other true)) (hc : SesB w3 Bb (sesM other one false)) (F : Nat → Tu) :
    RunI w (w3.alloc (.cells (ws0 Ba Bb).cells.toArray 47)) (w3.alloc (.cells (ws0 Ba Bb).cells.toArray 47)) w3.heap.size (mark0 Ba Bb w3.heap.size) (ws0 Ba Bb).P (wd0 one other) F 0 ∧ w.heap.size ≤ (w3.alloc (.cells (ws0 Ba Bb).cells.toArray 47)).heap.size ∧ ∀ q, q < w.heap.size → mark0 Ba Bb w3.heap.size q = 0 := by
  have hal : Below w3.heap.size w3 (w3.alloc (.cells (ws0 Ba Bb).cells.toArray 47)) := (Below.refl _ _).alloc (Nat.le_refl _) _
  have hla := blk_lt ha
  have hlb := blk_lt hc
  have hz := hb.size
  refine ⟨⟨hb.trans (hal.mono hb.size), mark0 Ba Bb w3.heap.size, ws0 Ba Bb, rfl, agr_refl _ _, wdi0 (sesB_below ha hal) (sesB_below hc hal) (blk_new w3 47 _) hne (by omega) (by omega)⟩, Nat.le_trans hz hal.size, fun q hq => ?_⟩
  unfold mark0
  rw [if_neg (by omega), if_neg (by omega), if_neg (by omega)]
/-- one turn more -/
theorem turn_runs {w w0 wr : World} {Bw : Nat} {T0 : Nat → Nat} {P : Bool → Nat} {one other : Int} {F : Nat → Tu} {k : Nat} (h : RunI w w0 wr Bw T0 P (wd0 one other) F k) (hone : one ≠ 0) (hoth : other ≠ 0) (hk : k ≤ 1000) (hz : w0.heap.size ≤ wr.heap.size) (hw : w.heap.size ≤ w0.heap.size) (hlow : ∀ q, q < w.heap.size → T0 q = 0) (hr : Rd w (F k).M (F k).m (F k).d 1 (u8s (F k).l)) (hm : (F k).m ≤ 400) :
    Calls Try.prog 25 #[.pointer (some ⟨Bw, 0, none⟩), .agg #[.int .i64 (F k).k, .int .i64 (F k).wh, .bool (F k).o, .slice (F k).M (F k).m (F k).d]] wr fun e w2 => e = .returned (.tuple #[]) ∧ RunI w w0 w2 Bw T0 P (wd0 one other) F (k + 1) ∧ wr.heap.size ≤ w2.heap.size := by
  obtain ⟨T, x, hx, hA, hwd⟩ := h.ex
  have hg := good_runs (good0 one other) F k
  have hF := good_fit hg (fun i => by cases i <;> assumption) (by omega)
  refine (turn_any hwd (by omega) hF (F k) (hr.below h.bel) hm (fun b hb h0 => ?_)).mono fun e w2 hq => ⟨hq.1, runI_next h hx hA hz hw (fun q hq => by rw [hlow q hq]; omega) hq⟩
  have h1 := rd_in hr b hb h0
  exact ⟨by rw [hA _ (by omega)]; exact hlow _ h1, by omega⟩
/-- the beginnings, as the walk asks them -/
theorem runs_begins {w w0 wr : World} {Bw : Nat} {T0 : Nat → Nat} {P : Bool → Nat} {one other : Int} {F : Nat → Tu} {k : Nat} (h : RunI w w0 wr Bw T0 P (wd0 one other) F k) (hk : k ≤ 1000) :
    ∃ x : Ws, (wr.cell? ⟨Bw, 3, none⟩ = some (x.vs false) ∧ wr.cell? ⟨Bw, 4, none⟩ = some (x.vs true) ∧ wr.cell? ⟨Bw, 5, none⟩ = some (x.vt false) ∧ wr.cell? ⟨Bw, 6, none⟩ = some (x.vt true)) ∧
      (∀ V, Ch No wr V → Calls Try.prog 37 #[x.vs false, x.vt true] V fun e w' => e = .returned (.bool true) ∧ Ch No V w') ∧ (∀ V, Ch No wr V → Calls Try.prog 37 #[x.vs true, x.vt false] V fun e w' => e = .returned (.bool true) ∧ Ch No V w') := by
  obtain ⟨T, x, hx, hA, hwd⟩ := h.ex
  have hg := good_runs (good0 one other) F k
  have hcl := wdi_cell hwd
  have key : ∀ i V, Ch No wr V → Calls Try.prog 37 #[x.vs i, x.vt (!i)] V fun e w' => e = .returned (.bool true) ∧ Ch No V w' := by
    intro i V hV
    have h1 := ((hwd.sent i).keep hV (fun _ _ => id) (agr_refl _ _)).lists (by have := ix_lt i; omega)
    have h2 := ((hwd.took (!i)).keep hV (fun _ _ => id) (agr_refl _ _)).lists (by have := ix_lt (!i); omega)
    refine begins_any h1 h2 ?_ ?_
    · have h3 := inv_begins hg.inv i
      rw [hwd.tookl, hwd.sentl]
      have h4 : (x.lt (!i)).length = ((runs F (wd0 one other) k).took (!i)).length := by rw [← hwd.tookl, List.length_map]
      rw [h4]
      exact h3
    · have h3 := hg.inv.n i
      rw [← hwd.sentl, List.length_map] at h3
      omega
  exact ⟨x, ⟨hcl.2.2.1 false, hcl.2.2.1 true, hcl.2.2.2.1 false, hcl.2.2.2.1 true⟩, key false, key true⟩
theorem runs_end {w w0 wr : World} {Bw : Nat} {T0 : Nat → Nat} {Ba Bb : Nat} {one other : Int} {F : Nat → Tu} {k : Nat} (h : RunI w w0 wr Bw T0 (ws0 Ba Bb).P (wd0 one other) F k) (hone : one ≠ 0) (hoth : other ≠ 0) :
    Calls Try.prog 35 #[.pointer (some ⟨Ba, 0, none⟩)] wr (fun e w' => e = .returned (.int .i64 1) ∧ wr = w') ∧ Calls Try.prog 35 #[.pointer (some ⟨Bb, 0, none⟩)] wr (fun e w' => e = .returned (.int .i64 1) ∧ wr = w') := by
  obtain ⟨T, x, hx, hA, hwd⟩ := h.ex
  have hg := good_runs (good0 one other) F k
  have key : ∀ i, Calls Try.prog 35 #[.pointer (some ⟨(ws0 Ba Bb).P i, 0, none⟩)] wr (fun e w' => e = .returned (.int .i64 1) ∧ wr = w') := by
    intro i
    have h1 := turnsA (hwd.ends i) (by rw [hg.inv.ep]; cases i <;> assumption)
    rw [hx, hg.inv.tu] at h1
    exact h1
  exact ⟨key false, key true⟩
set_option maxRecDepth 100000 in
set_option maxHeartbeats 8000000 in
theorem order_any (one other : Int) (A : Option Addr) (n c : Nat) (F : Nat → Tu) (w : World) (h : Tus w A n c F) : Calls Try.prog 7 #[.int .i64 one, .int .i64 other, .slice A n c] w (AwakeQ w) := by
  have hnc := h.1
  have H := Lib.hid h; have HC63 := Lib.hid h.2.1
  obtain ⟨p1, hp1⟩ : ∃ p, p = pick one 1099511627776 := ⟨_, rfl⟩
  obtain ⟨p2, hp2⟩ : ∃ p, p = pick other 1099511627776 := ⟨_, rfl⟩
  have hr1 := pick_range one 1099511627776 (by omega)
  have hr2 := pick_range other 1099511627776 (by omega)
  rw [← hp1] at hr1
  rw [← hp2] at hr2
  have w1e : IntKind.i64.wrap (1 + p1) = 1 + p1 := by rw [IntKind.wrap_i64]; omega
  have w2e : IntKind.i64.wrap (1 + p2) = 1 + p2 := by rw [IntKind.wrap_i64]; omega
  have HP1 := Lib.hid hp1; have HP2 := Lib.hid hp2; have HR1 := Lib.hid hr1; have HR2 := Lib.hid hr2
  clear h hp1 hp2 hr1 hr2
  go_enter Try.func7, Try.ntmps7
  go_wp2_with fail
  refine (known3 w).mono ?_; rintro e w1 ⟨rfl, hb1⟩
  have HB1 := Lib.hid hb1
  clear hb1
  go_wp2_with fail
  refine (pick_any one 1099511627776 w1 (by omega)).mono ?_; rintro e w2 ⟨rfl, rfl⟩
  rw [← HP1.out]
  go_wp2_with fail
  refine (pick_any other 1099511627776 w1 (by omega)).mono ?_; rintro e w2 ⟨rfl, rfl⟩
  rw [← HP2.out]
  go_wp2_with fail
  obtain ⟨o1, ho1⟩ : ∃ o, o = 1 + p1 := ⟨_, rfl⟩
  obtain ⟨o2, ho2⟩ : ∃ o, o = 1 + p2 := ⟨_, rfl⟩
  rw [← ho1, ← ho2]
  have HO1 := Lib.hid (show 1 ≤ o1 ∧ o1 ≤ 1099511627776 from by have := HR1.out; omega)
  have HO2 := Lib.hid (show 1 ≤ o2 ∧ o2 ≤ 1099511627776 from by have := HR2.out; omega)
  clear ho1 ho2 w1e w2e HP1 HP2 HR1 HR2
  refine (met_any o1 o2 w1 HO1.out.1 HO1.out.2 HO2.out.1 HO2.out.2).mono ?_; rintro e w3 ⟨Ba, Bb, rfl, hBa, hBb, hne, hsa, hsb, hbm⟩
  have HB3 := Lib.hid (HB1.out.trans (hbm.mono HB1.out.size))
  have HSA := Lib.hid hsa; have HSB := Lib.hid hsb; have HBA := Lib.hid (Nat.le_trans HB1.out.size hBa); have HBB := Lib.hid (Nat.le_trans HB1.out.size hBb); have HNE := Lib.hid hne
  clear hBa hBb hne hsa hsb hbm HB1
  go_wp2_with fail
  refine (longs_any A n c F w3 (tus_below H.out HB3.out)).mono ?_; rintro e w4 ⟨⟨b, rfl, hl⟩, rfl⟩
  cases b
  case true =>
    clear hl
    go_wp2
    go_ret
    exact ⟨rfl, HB3.out⟩
  case false =>
    have HLN := Lib.hid (hl rfl)
    have hn120 := (hl rfl).1
    clear hl
    have HST := Lib.hid (runI_start HB3.out HBA.out HBB.out HNE.out HSA.out HSB.out F)
    have hal : Below w3.heap.size w3 (w3.alloc (.cells (ws0 Ba Bb).cells.toArray 47)) := (Below.refl _ _).alloc (Nat.le_refl _) _
    obtain ⟨w0, hw0⟩ : ∃ V, V = w3.alloc (.cells (ws0 Ba Bb).cells.toArray 47) := ⟨_, rfl⟩
    rw [← hw0] at HST hal
    have HW0 := Lib.hid hw0
    clear hw0 hal HSA HSB HBA HBB HNE
    go_wp2_with fail
    rw [show w3.alloc (.cells #[.pointer (some ⟨Ba, 0, none⟩), .pointer (some ⟨Bb, 0, none⟩), .slice none 0 0, .slice none 0 0, .slice none 0 0, .slice none 0 0, .slice none 0 0] 47) = w0 from HW0.out.symm]
    obtain ⟨Bw, hBw⟩ : ∃ q, q = w3.heap.size := ⟨_, rfl⟩
    rw [← hBw] at HST ⊢
    clear hBw HW0
    go_loopw [11] (fun i wr => ∃ k : Nat, k ≤ n ∧ i = .int .i64 k ∧ Hid (RunI w w0 wr Bw (mark0 Ba Bb Bw) (ws0 Ba Bb).P (wd0 o1 o2) F k ∧ w0.heap.size ≤ wr.heap.size)) (fun i _ => n - (intOf i).toNat)
    case atStart => exact ⟨0, Nat.zero_le _, rfl, Lib.hid ⟨HST.out.1, Nat.le_refl _⟩⟩
    case round =>
      obtain ⟨k, hk, rfl, HI⟩ := hrel
      by_cases hlt : k < n
      · have glt : decide ((k : Int) < (n : Int)) = true := by simp; omega
        have hcal := turn_runs HI.out.1 (by have := HO1.out; omega) (by have := HO2.out; omega) (by omega) HI.out.2 HST.out.2.1 HST.out.2.2 (by obtain ⟨b, off, _, hin⟩ := H.out.2.2 k hlt; exact hin.2.2.2.2) (HLN.out.2 k hlt)
        obtain ⟨b5, off, rfl, hmi⟩ := (tus_below H.out HI.out.1.bel).2.2 k hlt
        obtain ⟨y, hy⟩ : ∃ y, y = F k := ⟨_, rfl⟩
        rw [← hy] at hmi hcal
        obtain ⟨k1, i1, u1, M1, m1, d1, l1⟩ := y
        obtain ⟨c0, c1, c2, c3, hrd⟩ := hmi
        simp only at c0 c1 c2 c3 hcal
        have HCL := Lib.hid hcal
        have hc63 := HC63.out
        clear hcal hrd hy
        go_wp2_with fail
        refine HCL.out.mono ?_; rintro e w5 ⟨rfl, hR, hz⟩
        have HI2 := Lib.hid (And.intro hR (Nat.le_trans HI.out.2 hz))
        obtain ⟨x, ⟨q3, q4, q5, q6⟩, hbg1, hbg2⟩ := runs_begins hR (by omega)
        have HG1 := Lib.hid hbg1; have HG2 := Lib.hid hbg2
        clear hR hz HI HCL hbg1 hbg2 c0 c1 c2 c3 hc63
        go_wp2_with fail
        go_region_held3 (fun V => V.cell? ⟨Bw, 3, none⟩ = some (x.vs false) ∧ V.cell? ⟨Bw, 4, none⟩ = some (x.vs true) ∧ V.cell? ⟨Bw, 5, none⟩ = some (x.vt false) ∧ V.cell? ⟨Bw, 6, none⟩ = some (x.vt true))
          (first | exact ⟨q3, q4, q5, q6⟩ | exact S1.out | exact S2.out)
          (first
            | (go_at_call 37; refine (HG2.out Va HC1.out).mono ?_; rintro e Vb ⟨rfl, hc2⟩; have S2 := Lib.hid (And.intro (ch_cell hc2 S1.out.1 id) (And.intro (ch_cell hc2 S1.out.2.1 id) (And.intro (ch_cell hc2 S1.out.2.2.1 id) (ch_cell hc2 S1.out.2.2.2 id)))); have HC2 := Lib.hid (ch_thenno HC1.out hc2); clear hc2)
            | (go_at_call 37; refine (HG1.out _ (Ch.drew w5 No)).mono ?_; rintro e Va ⟨rfl, hc1⟩; have S1 := Lib.hid (And.intro (ch_cell hc1 (show w5.drew.cell? _ = _ from q3) id) (And.intro (ch_cell hc1 (show w5.drew.cell? _ = _ from q4) id) (And.intro (ch_cell hc1 (show w5.drew.cell? _ = _ from q5) id) (ch_cell hc1 (show w5.drew.cell? _ = _ from q6) id)))); have HC1 := Lib.hid (ch_thenno (Ch.drew w5 No) hc1); clear hc1))
        have HI3 : Hid (RunI w w0 Vb Bw (mark0 Ba Bb Bw) (ws0 Ba Bb).P (wd0 o1 o2) F (k + 1) ∧ w0.heap.size ≤ Vb.heap.size) := Lib.hid (by
          obtain ⟨⟨hbl, T, x', hx, hA, hwd⟩, hz⟩ := HI2.out
          exact ⟨⟨hbl.trans (HC2.out.below hbl.size (fun _ h => h.elim)), T, x', hx, hA, hwd.keep HC2.out (fun _ _ => id) (agr_refl _ _)⟩, Nat.le_trans hz HC2.out.size⟩)
        clear HI2 S1 S2 HC1 HC2 HG1 HG2 q3 q4 q5 q6
        go_wp2
        go_roundw
        case rel => exact ⟨k + 1, by omega, by go_num, HI3⟩
        case measure => simp [intOf]; omega
      · have glt : decide ((k : Int) < (n : Int)) = false := by simp; omega
        have HE := Lib.hid (runs_end HI.out.1 (show o1 ≠ 0 by have := HO1.out; omega) (show o2 ≠ 0 by have := HO2.out; omega))
        have HBL := Lib.hid HI.out.1.bel
        clear HI
        go_wp2_with fail
        refine HE.out.1.mono ?_; rintro e w6 ⟨rfl, rfl⟩
        go_wp2_with fail
        refine HE.out.2.mono ?_; rintro e w6 ⟨rfl, rfl⟩
        go_wp2
        go_ret
        exact ⟨rfl, HBL.out⟩
end Go.Proofs.Ytadcahnoghnkcaa
