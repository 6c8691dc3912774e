/- Walk of SessionFair: once nothing is lost any more, all comes in one round. No conditions. -/
import Derived.Test.YtadcahnoghnkcaaB42
namespace Go.Proofs.Ytadcahnoghnkcaa
open Go.RowKit
set_option linter.unusedVariables false
set_option linter.unusedSimpArgs false
attribute [local go_sem] Oper.semAt_some

theorem join6 {α β γ δ ε ζ : Type} {G : α → β → γ → δ → ε → ζ → Prop} {C : Prop} (Ok : α → β → γ → δ → ε → ζ → Prop) (h1 : (∀ a b c d e f, Ok a b c d e f → G a b c d e f) → C) (h2 : ∀ a b c d e f, Ok a b c d e f → G a b c d e f) : C := h1 h2
def tickE (W : Wd) (k : Nat) : Bool → Ab := fun i => tickN k (W.e i)
def handE (e : Bool → Ab) : Nat → (Bool → Ab)
  | 0 => e
  | k + 1 => handB (handB (handE e k) false) true
theorem handE_ep (e : Bool → Ab) (k : Nat) (i : Bool) : (handE e k i).ep = (e i).ep := by
  induction k with
  | zero => rfl
  | succ k ih => exact (handB_ep _ _ _).trans ((handB_ep _ _ _).trans ih)
theorem tickE_step (W : Wd) (k : Nat) : bset (bset (tickE W k) false (tickE W k false).tick) true (bset (tickE W k) false (tickE W k false).tick true).tick = tickE W (k + 1) := by
  funext i
  cases i
  · exact (bset_off' (bset (tickE W k) false (tickE W k false).tick) false _).trans (bset_at _ _ _)
  · exact (bset_at _ _ _).trans (congrArg Ab.tick (bset_off (tickE W k) false _))
/-- a world, somewhere -/
def FQ (w V : World) (Bw Ba Bb M : Nat) (W : Wd) : Prop := ∃ T x, x.P = (ws0 Ba Bb).P ∧ FS w V Bw T M x W
theorem fq_tick0 {w V : World} {Bw Ba Bb M : Nat} {W : Wd} (h : FQ w V Bw Ba Bb M W) (hep : ∀ i, (W.e i).ep ≠ 0) (hM : M ≤ 900000) : Calls Try.prog 26 #[.pointer (some ⟨Ba, 0, none⟩)] V fun e V' => e = .returned (.tuple #[]) ∧ FQ w V' Bw Ba Bb (M + 1) { W with e := bset W.e false (W.e false).tick } := by
  obtain ⟨T, x, hx, hF⟩ := h
  have := tick_call hF false (hep false) hM
  rw [hx] at this
  exact this.mono fun e V' ⟨he, hf⟩ => ⟨he, T, x, hx, hf⟩
theorem fq_tick1 {w V : World} {Bw Ba Bb M : Nat} {W : Wd} (h : FQ w V Bw Ba Bb M W) (hep : ∀ i, (W.e i).ep ≠ 0) (hM : M ≤ 900000) : Calls Try.prog 26 #[.pointer (some ⟨Bb, 0, none⟩)] V fun e V' => e = .returned (.tuple #[]) ∧ FQ w V' Bw Ba Bb (M + 1) { W with e := bset W.e true (W.e true).tick } := by
  obtain ⟨T, x, hx, hF⟩ := h
  have := tick_call hF true (hep true) hM
  rw [hx] at this
  exact this.mono fun e V' ⟨he, hf⟩ => ⟨he, T, x, hx, hf⟩
theorem fq_hands0 {w V : World} {Bw Ba Bb M : Nat} {W : Wd} (h : FQ w V Bw Ba Bb M W) (hep : ∀ i, (W.e i).ep ≠ 0) (hM : M ≤ 900000) : Calls Try.prog 20 #[.pointer (some ⟨Ba, 0, none⟩), .pointer (some ⟨Bb, 0, none⟩), .bool false] V fun e V' => e = .returned (.tuple #[]) ∧ FQ w V' Bw Ba Bb (M + 64) { W with e := handB W.e false } := by
  obtain ⟨T, x, hx, hF⟩ := h
  have := hands_call hF false hep hM
  rw [hx] at this
  exact this.mono fun e V' ⟨he, T', hf⟩ => ⟨he, T', x, hx, hf⟩
theorem fq_hands1 {w V : World} {Bw Ba Bb M : Nat} {W : Wd} (h : FQ w V Bw Ba Bb M W) (hep : ∀ i, (W.e i).ep ≠ 0) (hM : M ≤ 900000) : Calls Try.prog 20 #[.pointer (some ⟨Bb, 0, none⟩), .pointer (some ⟨Ba, 0, none⟩), .bool false] V fun e V' => e = .returned (.tuple #[]) ∧ FQ w V' Bw Ba Bb (M + 64) { W with e := handB W.e true } := by
  obtain ⟨T, x, hx, hF⟩ := h
  have := hands_call hF true hep hM
  rw [hx] at this
  exact this.mono fun e V' ⟨he, T', hf⟩ => ⟨he, T', x, hx, hf⟩

set_option maxRecDepth 100000 in
set_option maxHeartbeats 8000000 in
theorem fair_any (A : Option Addr) (n c : Nat) (F : Nat → Tu) (w : World) (h : Tus w A n c F) : Calls Try.prog 4 #[.slice A n c] w (AwakeQ w) := by
  have hnc := h.1
  have H := Lib.hid h; have HC63 := Lib.hid h.2.1
  clear h
  go_enter Try.func4, Try.ntmps4
  go_wp2_with fail
  refine (awake21 w).mono ?_; rintro e w1 ⟨rfl, hb1⟩
  have HB1 := Lib.hid hb1
  clear hb1
  go_wp2_with fail
  refine (met_any 3 4 w1 (by omega) (by omega) (by omega) (by omega)).mono ?_; rintro e w3 ⟨Ba, Bb, rfl, hBa, hBb, hne, hsa, hsb, hbm⟩
  have HB3 := Lib.hid (HB1.out.trans (hbm.mono HB1.out.size))
  have HSA := Lib.hid hsa; have HSB := Lib.hid hsb; have HBA := Lib.hid (Nat.le_trans HB1.out.size hBa); have HBB := Lib.hid (Nat.le_trans HB1.out.size hBb); have HNE := Lib.hid hne
  clear hBa hBb hne hsa hsb hbm HB1
  go_wp2_with fail
  refine (longs_any A n c F w3 (tus_below H.out HB3.out)).mono ?_; rintro e w4 ⟨⟨b, rfl, hl⟩, rfl⟩
  cases b
  case true =>
    clear hl
    go_wp2
    go_ret
    exact ⟨rfl, HB3.out⟩
  case false =>
    have HLN := Lib.hid (hl rfl)
    have hn120 := (hl rfl).1
    clear hl
    have HST := Lib.hid (runI_start HB3.out HBA.out HBB.out HNE.out HSA.out HSB.out F)
    have hal : Below w3.heap.size w3 (w3.alloc (.cells (ws0 Ba Bb).cells.toArray 47)) := (Below.refl _ _).alloc (Nat.le_refl _) _
    obtain ⟨w0, hw0⟩ : ∃ V, V = w3.alloc (.cells (ws0 Ba Bb).cells.toArray 47) := ⟨_, rfl⟩
    rw [← hw0] at HST hal
    have HW0 := Lib.hid hw0
    clear hw0 hal HSA HSB HBA HBB HNE
    go_wp2_with fail
    rw [show w3.alloc (.cells #[.pointer (some ⟨Ba, 0, none⟩), .pointer (some ⟨Bb, 0, none⟩), .slice none 0 0, .slice none 0 0, .slice none 0 0, .slice none 0 0, .slice none 0 0] 47) = w0 from HW0.out.symm]
    obtain ⟨Bw, hBw⟩ : ∃ q, q = w3.heap.size := ⟨_, rfl⟩
    rw [← hBw] at HST ⊢
    clear hBw HW0
    go_loopw [7] (fun i wr => ∃ k : Nat, k ≤ n ∧ i = .int .i64 k ∧ Hid (RunI w w0 wr Bw (mark0 Ba Bb Bw) (ws0 Ba Bb).P (wd0 3 4) F k ∧ w0.heap.size ≤ wr.heap.size)) (fun i _ => n - (intOf i).toNat)
    case atStart => exact ⟨0, Nat.zero_le _, rfl, Lib.hid ⟨HST.out.1, Nat.le_refl _⟩⟩
    case round =>
      obtain ⟨k, hk, rfl, HI⟩ := hrel
      by_cases hlt : k < n
      · have glt : decide ((k : Int) < (n : Int)) = true := by simp; omega
        have hcal := turn_runs HI.out.1 (by omega) (by omega) (by omega) HI.out.2 HST.out.2.1 HST.out.2.2 (by obtain ⟨b, off, _, hin⟩ := H.out.2.2 k hlt; exact hin.2.2.2.2) (HLN.out.2 k hlt)
        obtain ⟨b5, off, rfl, hmi⟩ := (tus_below H.out HI.out.1.bel).2.2 k hlt
        obtain ⟨y, hy⟩ : ∃ y, y = F k := ⟨_, rfl⟩
        rw [← hy] at hmi hcal
        obtain ⟨k1, i1, u1, M1, m1, d1, l1⟩ := y
        obtain ⟨c0, c1, c2, c3, hrd⟩ := hmi
        simp only at c0 c1 c2 c3 hcal
        have HCL := Lib.hid hcal
        have hc63 := HC63.out
        clear hcal hrd hy
        go_wp2_with fail
        refine HCL.out.mono ?_; rintro e w5 ⟨rfl, hR, hz⟩
        have HI2 := Lib.hid (And.intro hR (Nat.le_trans HI.out.2 hz))
        clear hR hz HI HCL c0 c1 c2 c3 hc63
        go_wp2
        go_roundw
        case rel => exact ⟨k + 1, by omega, by go_num, HI2⟩
        case measure => simp [intOf]; omega
      · have glt : decide ((k : Int) < (n : Int)) = false := by simp; omega
        obtain rfl : k = n := by omega
        have hFQ : FQ w wr Bw Ba Bb (1 + 8 * k) (runs F (wd0 3 4) k) := fs_runs HI.out.1 HST.out.2.1 HST.out.2.2
        have hg := good_runs (good0 3 4) F k
        obtain ⟨W, hW⟩ : ∃ W, W = runs F (wd0 3 4) k := ⟨_, rfl⟩
        rw [← hW] at hFQ hg
        have HG := Lib.hid hg
        obtain ⟨M, hM⟩ : ∃ M, M = 1 + 8 * k := ⟨_, rfl⟩
        rw [← hM] at hFQ
        have HMM0 := Lib.hid (show M ≤ 1000 from by omega)
        have HQ0 : Hid (FQ w wr Bw Ba Bb (M + 2 * 0) { W with e := tickE W 0 }) := Lib.hid hFQ
        clear hFQ hg hW HI HST HLN H HC63 glt hM hlt hk
        go_wp2_with fail
        go_loopw [8] (fun i wr => ∃ k : Nat, k ≤ 4 ∧ i = .int .i64 k ∧ Hid (FQ w wr Bw Ba Bb (M + 2 * k) { W with e := tickE W k })) (fun i _ => 4 - (intOf i).toNat)
        case atStart => exact ⟨0, by omega, rfl, HQ0⟩
        case round =>
          clear HQ0
          obtain ⟨k, hk, rfl, HI⟩ := hrel
          have HEP0 := Lib.hid (show ∀ i, (tickE W k i).ep ≠ 0 from fun i => by rw [show (tickE W k i).ep = (W.e i).ep from tickN_ep k _, HG.out.inv.ep]; cases i <;> decide)
          by_cases hlt : k < 4
          · have glt : decide ((k : Int) < 4) = true := by simp; omega
            go_wp2_with fail
            refine (fq_tick0 HI.out HEP0.out (by have := HMM0.out; omega)).mono ?_; rintro e V1 ⟨rfl, hf1⟩
            have HF1 := Lib.hid hf1
            clear hf1 HI
            go_wp2_with fail
            refine (fq_tick1 HF1.out (fun i => by cases i; exact HEP0.out false; exact HEP0.out true) (by have := HMM0.out; omega)).mono ?_; rintro e V2 ⟨rfl, hf2⟩
            have HF2 : Hid (FQ w V2 Bw Ba Bb (M + 2 * (k + 1)) { W with e := tickE W (k + 1) }) := Lib.hid (by rw [← tickE_step W k]; exact hf2)
            clear hf2 HF1
            go_wp2
            go_roundw
            case rel => exact ⟨k + 1, by omega, by go_num, HF2⟩
            case measure => simp [intOf]; omega
          · have glt : decide ((k : Int) < 4) = false := by simp; omega
            have HK4 := Lib.hid (show k = 4 from by omega)
            have HQ1 : Hid (FQ w wr Bw Ba Bb (M + 8 + 128 * 0) { W with e := handE (tickE W 4) 0 }) := Lib.hid (by have h9 := HI.out; rw [HK4.out] at h9; exact h9)
            clear HI HEP0 hlt hk
            go_wp2_with fail
            clear glt
            go_loopw [9] (fun i wr => ∃ k : Nat, k ≤ 2 ∧ i = .int .i64 k ∧ Hid (FQ w wr Bw Ba Bb (M + 8 + 128 * k) { W with e := handE (tickE W 4) k })) (fun i _ => 2 - (intOf i).toNat)
            case atStart => exact ⟨0, by omega, rfl, HQ1⟩
            case round =>
              clear HQ1
              obtain ⟨k, hk, rfl, HI⟩ := hrel
              have HEP0 := Lib.hid (show ∀ i, (handE (tickE W 4) k i).ep ≠ 0 from fun i => by rw [handE_ep, show (tickE W 4 i).ep = (W.e i).ep from tickN_ep 4 _, HG.out.inv.ep]; cases i <;> decide)
              by_cases hlt : k < 2
              · have glt : decide ((k : Int) < 2) = true := by simp; omega
                go_wp2_with fail
                refine (fq_hands0 HI.out HEP0.out (by have := HMM0.out; omega)).mono ?_; rintro e V1 ⟨rfl, hf1⟩
                have HF1 := Lib.hid hf1
                clear hf1 HI
                go_wp2_with fail
                refine (fq_hands1 HF1.out (fun i => by rw [show (({ W with e := handB (handE (tickE W 4) k) false } : Wd).e i).ep = (handE (tickE W 4) k i).ep from handB_ep _ _ _]; exact HEP0.out i) (by have := HMM0.out; omega)).mono ?_; rintro e V2 ⟨rfl, hf2⟩
                have HF2 : Hid (FQ w V2 Bw Ba Bb (M + 8 + 128 * (k + 1)) { W with e := handE (tickE W 4) (k + 1) }) := Lib.hid hf2
                clear hf2 HF1
                go_wp2
                go_roundw
                case rel => exact ⟨k + 1, by omega, by go_num, HF2⟩
                case measure => simp [intOf]; omega
              · have glt : decide ((k : Int) < 2) = false := by simp; omega
                have HK2 := Lib.hid (show k = 2 from by omega)
                obtain ⟨T, x, hx, hF⟩ := HI.out
                rw [HK2.out] at hF
                obtain ⟨M2, hM2⟩ : ∃ q, q = M + 8 + 128 * 2 := ⟨_, rfl⟩
                rw [← hM2] at hF
                have HMM := Lib.hid (show M2 ≤ 10000 from by have := HMM0.out; omega)
                have HF0 := Lib.hid hF; have HP0 := Lib.hid hx; have HEP := Lib.hid (show ∀ i, (handE (tickE W 4) 2 i).ep ≠ 0 from by have h9 := HEP0.out; rw [HK2.out] at h9; exact h9)
                have HFT := Lib.hid (good_fit HG.out (fun i => by cases i <;> decide) (by omega))
                have HTK := Lib.hid (show ∀ i, (W.took i).length ≤ 100000 from HFT.out.took)
                have hend : (handE (tickE W 4) 2 false).q = [] ∧ (handE (tickE W 4) 2 true).q = [] ∧ W.took true ++ (handE (tickE W 4) 2 true).inn = W.sent false ∧ W.took false ++ (handE (tickE W 4) 2 false).inn = W.sent true := fair_end HG.out (by omega) (by omega) (by omega)
                obtain ⟨E, hE⟩ : ∃ E, E = handE (tickE W 4) 2 := ⟨_, rfl⟩
                rw [← hE] at hend HF0 HEP
                have HEND := Lib.hid hend
                clear hend hE
                clear hF hx hM2 HI HG HEP0 hlt hk HMM0
                go_wp2_with fail
                clear glt
                have hLT := (HF0.out.wd.took false)
                obtain ⟨At, ct, hvt, hrt, _⟩ := own_form hLT.own
                obtain ⟨nt, hnt⟩ : ∃ q, q = (x.lt false).length := ⟨_, rfl⟩
                rw [← hnt] at hvt hrt
                have hnt5 : nt ≤ 100000 := by
                  have h9 := congrArg List.length (HF0.out.wd.tookl false)
                  rw [List.length_map, ← hnt] at h9
                  have h8 := HTK.out false
                  have h7 : nt = (({ W with e := E } : Wd).took false).length := h9
                  have h6 : (({ W with e := E } : Wd).took false).length ≤ 100000 := h8
                  omega
                have hin5 : (({ W with e := E } : Wd).e false).inn.length ≤ 600000 := by
                  obtain ⟨s9, l9, h9⟩ := HF0.out.wd.ends false
                  have h8 := h9.inM
                  have h7 := HMM.out
                  omega
                have t0 : wr.cell? ⟨Bw, 5, none⟩ = some (.slice At nt ct) := by rw [← hvt]; exact (wdi_cell HF0.out.wd).2.2.2.1 false
                have HPD := Lib.hid (show x.P false = Ba from by rw [HP0.out]; rfl)
                have HSE := Lib.hid (show SesA wr.drew Ba T (tg false) (M2) (({ W with e := E } : Wd).e false) from by rw [← HPD.out]; exact ((HF0.out.wd.ends false).keep (Ch.drew wr No) (fun _ _ => id) (agr_refl _ _)))
                have HPB := Lib.hid (show Bw ≠ Ba from fun e => by have h9 := HF0.out.wd.tag; rw [e, ← HPD.out, (HF0.out.wd.ends false).tag] at h9; cases h9)
                have HVT := Lib.hid hvt; have HNT := Lib.hid hnt; have HN5 := Lib.hid hnt5; have HI5 := Lib.hid hin5
                have HOT := Lib.hid (show wr.drew.ownsRow 0 27 1 (.slice At nt ct) nt ((x.lt false).map slc) from by rw [← hvt, hnt]; exact own_ch hLT.own (Ch.drew wr No) (fun _ _ => id))
                have HRW := Lib.hid (show ∀ q, (Value.slice At nt ct).ownBlock = some q → q ≠ Ba ∧ q ≠ Bw from fun q hq => by
                  rw [← hvt] at hq
                  have h9 := hLT.row q hq
                  refine ⟨fun e => ?_, fun e => ?_⟩
                  · rw [e, ← HPD.out, (HF0.out.wd.ends false).tag] at h9; cases h9
                  · rw [e, HF0.out.wd.tag] at h9; cases h9)
                clear hLT hvt hrt hnt hnt5 hin5
                apply join6 (fun (Av : Option Addr) (cv mk : Nat) (A2 : Option Addr) (c2 : Nat) (Vd : World) => ∃ T' x', x'.P = x.P ∧ FS w (Vd.setCell ⟨Bw, 5, none⟩ (.slice A2 (nt + mk) c2)) Bw T' (M2) x' ({ W with e := bset E false (E false).take, took := bset W.took false (W.took false ++ (E false).inn) }))
                · intro HC
                  refine wp_region_held_drew (S := (fun _ => True)) (by kernel_rfl) (trivial) (fun hHeld => ?_)
                  refine wpAnyH_take (i := 0) (oi := { dst := some 69, op := Go.Op.move (Go.Operand.tmp 6), type := 41, pos := "outright.go:198", after := #[], guard := none }) (v := .pointer (some ⟨Bw, 0, none⟩)) rfl (by kernel_rfl) (by kernel_rfl) (by kernel_rfl) (fun _ _ _ h => h) (Or.inl ⟨by rfl, ?_⟩) (by assumption) ?_
                  · intro W hSw
                    go_simp
                    try with_reducible rfl
                  simp only [Act.put, List.setIfInBounds_toArray, List.set_cons_zero, List.set_cons_succ]
                  refine wpAnyH_take (i := 1) (oi := { dst := some 70, op := Go.Op.move (Go.Operand.tmp 6), type := 41, pos := "outright.go:198", after := #[], guard := none }) (v := .pointer (some ⟨Bw, 0, none⟩)) rfl (by kernel_rfl) (by kernel_rfl) (by kernel_rfl) (fun _ _ _ h => h) (Or.inl ⟨by rfl, ?_⟩) (by assumption) ?_
                  · intro W hSw
                    go_simp
                    try with_reducible rfl
                  simp only [Act.put, List.setIfInBounds_toArray, List.set_cons_zero, List.set_cons_succ]
                  refine wpAnyH_take (i := 2) (oi := { dst := some 71, op := Go.Op.nilCheck (Go.Operand.tmp 70), type := 0, pos := "outright.go:198", after := #[{ on := 1, ground := Go.Ground.data }], guard := none }) (v := .pointer (some ⟨Bw, 0, none⟩)) rfl (by kernel_rfl) (by kernel_rfl) (by kernel_rfl) (fun _ _ _ h => h) (Or.inl ⟨by rfl, ?_⟩) (by assumption) ?_
                  · intro W hSw
                    go_simp
                    try with_reducible rfl
                  simp only [Act.put, List.setIfInBounds_toArray, List.set_cons_zero, List.set_cons_succ]
                  refine wpAnyH_take (i := 3) (oi := { dst := some 72, op := Go.Op.fieldAddr 47 (Go.Operand.tmp 71) 3, type := 0, pos := "outright.go:198", after := #[{ on := 2, ground := Go.Ground.data }], guard := none }) (v := .pointer (some ⟨Bw, 5, none⟩)) rfl (by kernel_rfl) (by kernel_rfl) (by kernel_rfl) (fun _ _ _ h => h) (Or.inl ⟨by rfl, ?_⟩) (by assumption) ?_
                  · intro W hSw
                    go_simp
                    try with_reducible rfl
                  simp only [Act.put, List.setIfInBounds_toArray, List.set_cons_zero, List.set_cons_succ]
                  refine wpAnyH_take (i := 4) (oi := { dst := some 73, op := Go.Op.indexAddr 45 (Go.Operand.tmp 72) (Go.Operand.const (Go.Value.int Go.IntKind.i64 0)), type := 0, pos := "outright.go:198", after := #[{ on := 3, ground := Go.Ground.data }], guard := none }) (v := .pointer (some ⟨Bw, 5, none⟩)) rfl (by kernel_rfl) (by kernel_rfl) (by kernel_rfl) (fun _ _ _ h => h) (Or.inl ⟨by rfl, ?_⟩) (by assumption) ?_
                  · intro W hSw
                    go_simp
                    try with_reducible rfl
                  simp only [Act.put, List.setIfInBounds_toArray, List.set_cons_zero, List.set_cons_succ]
                  refine wpAnyH_take (i := 6) (oi := { dst := some 75, op := Go.Op.move (Go.Operand.tmp 4), type := 22, pos := "outright.go:198", after := #[], guard := none }) (v := .pointer (some ⟨Ba, 0, none⟩)) rfl (by kernel_rfl) (by kernel_rfl) (by kernel_rfl) (fun _ _ _ h => h) (Or.inl ⟨by rfl, ?_⟩) (by assumption) ?_
                  · intro W hSw
                    go_simp
                    try with_reducible rfl
                  simp only [Act.put, List.setIfInBounds_toArray, List.set_cons_zero, List.set_cons_succ]
                  refine wpAnyH_take (i := 9) (oi := { dst := some 78, op := Go.Op.nilCheck (Go.Operand.tmp 69), type := 0, pos := "outright.go:198", after := #[{ on := 0, ground := Go.Ground.data }], guard := none }) (v := .pointer (some ⟨Bw, 0, none⟩)) rfl (by kernel_rfl) (by kernel_rfl) (by kernel_rfl) (fun _ _ _ h => h) (Or.inl ⟨by rfl, ?_⟩) (by assumption) ?_
                  · intro W hSw
                    go_simp
                    try with_reducible rfl
                  simp only [Act.put, List.setIfInBounds_toArray, List.set_cons_zero, List.set_cons_succ]
                  refine wpAnyH_take (i := 10) (oi := { dst := some 79, op := Go.Op.fieldAddr 47 (Go.Operand.tmp 78) 3, type := 0, pos := "outright.go:198", after := #[{ on := 9, ground := Go.Ground.data }], guard := none }) (v := .pointer (some ⟨Bw, 5, none⟩)) rfl (by kernel_rfl) (by kernel_rfl) (by kernel_rfl) (fun _ _ _ h => h) (Or.inl ⟨by rfl, ?_⟩) (by assumption) ?_
                  · intro W hSw
                    go_simp
                    try with_reducible rfl
                  simp only [Act.put, List.setIfInBounds_toArray, List.set_cons_zero, List.set_cons_succ]
                  refine wpAnyH_ready (rs := [5, 7]) (by kernel_rfl) (by simp) ?_
                  refine AllReadyH.cons (o := { dst := some 74, op := Go.Op.load 44 (Go.Operand.tmp 73), type := 44, pos := "outright.go:198", after := #[{ on := 4, ground := Go.Ground.data }], guard := none }) rfl (fun K hK => ?_) (AllReadyH.cons (o := { dst := some 76, op := Go.Op.call { callee := Go.Callee.value (Go.Operand.func 27), args := #[Go.Operand.tmp 75], argTypes := #[22] }, type := 44, pos := "outright.go:198", after := #[{ on := 6, ground := Go.Ground.data }], guard := none }) rfl (fun K hK => ?_) (AllReadyH.nil))
                  · go_simp
                    refine hK.out _ _ (trivial) (fun hHeld => ?_)
                    clear hK K
                    try simp only [Act.put, List.setIfInBounds_toArray, List.set_cons_zero, List.set_cons_succ]
                    refine wpAnyH_ready (rs := [7]) (by kernel_rfl) (by simp) ?_
                    refine AllReadyH.cons (o := { dst := some 76, op := Go.Op.call { callee := Go.Callee.value (Go.Operand.func 27), args := #[Go.Operand.tmp 75], argTypes := #[22] }, type := 44, pos := "outright.go:198", after := #[{ on := 6, ground := Go.Ground.data }], guard := none }) rfl (fun K hK => ?_) (AllReadyH.nil)
                    go_simp
                    refine (takeA HSE.out (HEP.out false)).mono ?_
                    rintro e Vc ⟨vt, ks, rfl, hTA, hTL, hTm, hTr, hTb, hTc⟩
                    obtain ⟨Av, cv, rfl, hTv, -⟩ := own_form hTL.own
                    have t1 := ch_cell hTc (show wr.drew.cell? _ = _ from t0) HPB.out
                    have HTA := Lib.hid hTA; have HTL := Lib.hid hTL; have HTM := Lib.hid hTm; have HTB := Lib.hid hTb; have HTV := Lib.hid hTv
                    have HOT1 := Lib.hid (own_ch HOT.out hTc (fun q hq => (HRW.out q hq).1))
                    have HTC := Lib.hid ((Ch.drew wr (fun q => q = Ba)).trans hTc (fun i hi => .inl hi))
                    have hks : ks.length ≤ 600000 := by have h9 := congrArg List.length HTM.out; rw [List.length_map] at h9; have := HI5.out; omega
                    obtain ⟨mk, hmk⟩ : ∃ q, q = ks.length := ⟨_, rfl⟩
                    rw [← hmk] at HTV hks ⊢
                    have HMK := Lib.hid hmk; have HKS := Lib.hid hks
                    clear hTA hTL hTm hTr hTb hTc hTv hmk hks
                    refine hK.out _ _ (trivial) (fun hHeld => ?_)
                    clear hK K
                    try simp only [Act.put, List.setIfInBounds_toArray, List.set_cons_zero, List.set_cons_succ]
                    refine wpAnyH_ready (rs := [8]) (by kernel_rfl) (by simp) ?_
                    refine AllReadyH.cons (o := { dst := some 77, op := Go.Op.call { callee := Go.Callee.builtin Go.Builtin.append, args := #[Go.Operand.tmp 74, Go.Operand.tmp 76], argTypes := #[44, 44] }, type := 44, pos := "outright.go:198", after := #[{ on := 5, ground := Go.Ground.data }, { on := 7, ground := Go.Ground.data }, { on := 7, ground := Go.Ground.chain }], guard := none }) rfl (fun K hK => ?_) (AllReadyH.nil)
                    refine step_app_own Vc rfl (.tmp 74) (.tmp 76) 44 rfl 0 27 _ 1 24 Try.underlying44 info27 rfl (by decide) (.slice At nt ct) nt ((x.lt false).map slc) (by rfl) HOT1.out Av mk cv (ks.map slc) (by rfl) HTV.out (slc_one _) (by have := HN5.out; have := HKS.out; simp [maxLen]; omega) (by have := HN5.out; have := HKS.out; omega) (Nat.zero_le _) ?_
                    intro v2 Vd hown2 hch2 hat2
                    obtain ⟨A2, c2, rfl, -, -⟩ := own_form hown2
                    have hBd := blk_ch (blk_ch HF0.out.wd.mem HTC.out HPB.out) hch2 (fun e => (HRW.out _ e).2 rfl)
                    have t2 : Vd.cell? ⟨Bw, 5, none⟩ = some (.slice At nt ct) := by rw [← HVT.out]; exact blk_cell hBd 5 _ rfl
                    have z2 := blk_thawed hBd 5
                    have HO2 := Lib.hid hown2; have HC2 := Lib.hid hch2; have HA2 := Lib.hid hat2
                    clear hBd hown2 hch2 hat2
                    refine hK.out _ _ (trivial) (fun hHeld => ?_)
                    clear hK K
                    try simp only [Act.put, List.setIfInBounds_toArray, List.set_cons_zero, List.set_cons_succ]
                    refine wpAnyH_take (i := 11) (oi := { dst := some 80, op := Go.Op.indexAddr 45 (Go.Operand.tmp 79) (Go.Operand.const (Go.Value.int Go.IntKind.i64 0)), type := 0, pos := "outright.go:198", after := #[{ on := 10, ground := Go.Ground.data }, { on := 0, ground := Go.Ground.phase }, { on := 1, ground := Go.Ground.phase }, { on := 2, ground := Go.Ground.phase }, { on := 3, ground := Go.Ground.phase }, { on := 4, ground := Go.Ground.phase }, { on := 5, ground := Go.Ground.phase }, { on := 6, ground := Go.Ground.phase }, { on := 7, ground := Go.Ground.phase }, { on := 8, ground := Go.Ground.phase }], guard := none }) (v := .pointer (some ⟨Bw, 5, none⟩)) rfl (by kernel_rfl) (by kernel_rfl) (by kernel_rfl) (fun _ _ _ h => h) (Or.inl ⟨by rfl, ?_⟩) (by assumption) ?_
                    · intro W hSw
                      go_simp
                      try with_reducible rfl
                    simp only [Act.put, List.setIfInBounds_toArray, List.set_cons_zero, List.set_cons_succ]
                    refine wpAnyH_ready (rs := [12]) (by kernel_rfl) (by simp) ?_
                    refine AllReadyH.cons (o := { dst := none, op := Go.Op.store 44 (Go.Operand.tmp 80) (Go.Operand.tmp 77), type := 0, pos := "outright.go:198", after := #[{ on := 11, ground := Go.Ground.data }, { on := 8, ground := Go.Ground.data }, { on := 8, ground := Go.Ground.chain }, { on := 0, ground := Go.Ground.phase }, { on := 1, ground := Go.Ground.phase }, { on := 2, ground := Go.Ground.phase }, { on := 3, ground := Go.Ground.phase }, { on := 4, ground := Go.Ground.phase }, { on := 5, ground := Go.Ground.phase }, { on := 6, ground := Go.Ground.phase }, { on := 7, ground := Go.Ground.phase }, { on := 8, ground := Go.Ground.phase }], guard := none }) rfl (fun K hK => ?_) (AllReadyH.nil)
                    go_simp
                    refine hK.out _ _ (trivial) (fun hHeld => ?_)
                    clear hK K
                    try simp only [Act.put, List.setIfInBounds_toArray, List.set_cons_zero, List.set_cons_succ]
                    refine wpAnyH_done (by kernel_rfl) ?_ _
                    clear hHeld
                    exact HC Av cv mk A2 c2 Vd (fs_took (W := { W with e := E }) HF0.out false (by rw [HPD.out]; exact HTA.out) (by rw [HPD.out]; exact HTC.out) HTM.out HMK.out HNT.out (fun p hp => ⟨(HTL.out.each p hp).1, HTB.out p hp⟩) HO2.out (by rw [HVT.out]; exact HC2.out) (by rw [HVT.out]; exact HA2.out))
                  · go_simp
                    refine (takeA HSE.out (HEP.out false)).mono ?_
                    rintro e Vc ⟨vt, ks, rfl, hTA, hTL, hTm, hTr, hTb, hTc⟩
                    obtain ⟨Av, cv, rfl, hTv, -⟩ := own_form hTL.own
                    have t1 := ch_cell hTc (show wr.drew.cell? _ = _ from t0) HPB.out
                    have HTA := Lib.hid hTA; have HTL := Lib.hid hTL; have HTM := Lib.hid hTm; have HTB := Lib.hid hTb; have HTV := Lib.hid hTv
                    have HOT1 := Lib.hid (own_ch HOT.out hTc (fun q hq => (HRW.out q hq).1))
                    have HTC := Lib.hid ((Ch.drew wr (fun q => q = Ba)).trans hTc (fun i hi => .inl hi))
                    have hks : ks.length ≤ 600000 := by have h9 := congrArg List.length HTM.out; rw [List.length_map] at h9; have := HI5.out; omega
                    obtain ⟨mk, hmk⟩ : ∃ q, q = ks.length := ⟨_, rfl⟩
                    rw [← hmk] at HTV hks ⊢
                    have HMK := Lib.hid hmk; have HKS := Lib.hid hks
                    clear hTA hTL hTm hTr hTb hTc hTv hmk hks
                    refine hK.out _ _ (trivial) (fun hHeld => ?_)
                    clear hK K
                    try simp only [Act.put, List.setIfInBounds_toArray, List.set_cons_zero, List.set_cons_succ]
                    refine wpAnyH_ready (rs := [5]) (by kernel_rfl) (by simp) ?_
                    refine AllReadyH.cons (o := { dst := some 74, op := Go.Op.load 44 (Go.Operand.tmp 73), type := 44, pos := "outright.go:198", after := #[{ on := 4, ground := Go.Ground.data }], guard := none }) rfl (fun K hK => ?_) (AllReadyH.nil)
                    go_simp
                    refine hK.out _ _ (trivial) (fun hHeld => ?_)
                    clear hK K
                    try simp only [Act.put, List.setIfInBounds_toArray, List.set_cons_zero, List.set_cons_succ]
                    refine wpAnyH_ready (rs := [8]) (by kernel_rfl) (by simp) ?_
                    refine AllReadyH.cons (o := { dst := some 77, op := Go.Op.call { callee := Go.Callee.builtin Go.Builtin.append, args := #[Go.Operand.tmp 74, Go.Operand.tmp 76], argTypes := #[44, 44] }, type := 44, pos := "outright.go:198", after := #[{ on := 5, ground := Go.Ground.data }, { on := 7, ground := Go.Ground.data }, { on := 7, ground := Go.Ground.chain }], guard := none }) rfl (fun K hK => ?_) (AllReadyH.nil)
                    refine step_app_own Vc rfl (.tmp 74) (.tmp 76) 44 rfl 0 27 _ 1 24 Try.underlying44 info27 rfl (by decide) (.slice At nt ct) nt ((x.lt false).map slc) (by rfl) HOT1.out Av mk cv (ks.map slc) (by rfl) HTV.out (slc_one _) (by have := HN5.out; have := HKS.out; simp [maxLen]; omega) (by have := HN5.out; have := HKS.out; omega) (Nat.zero_le _) ?_
                    intro v2 Vd hown2 hch2 hat2
                    obtain ⟨A2, c2, rfl, -, -⟩ := own_form hown2
                    have hBd := blk_ch (blk_ch HF0.out.wd.mem HTC.out HPB.out) hch2 (fun e => (HRW.out _ e).2 rfl)
                    have t2 : Vd.cell? ⟨Bw, 5, none⟩ = some (.slice At nt ct) := by rw [← HVT.out]; exact blk_cell hBd 5 _ rfl
                    have z2 := blk_thawed hBd 5
                    have HO2 := Lib.hid hown2; have HC2 := Lib.hid hch2; have HA2 := Lib.hid hat2
                    clear hBd hown2 hch2 hat2
                    refine hK.out _ _ (trivial) (fun hHeld => ?_)
                    clear hK K
                    try simp only [Act.put, List.setIfInBounds_toArray, List.set_cons_zero, List.set_cons_succ]
                    refine wpAnyH_take (i := 11) (oi := { dst := some 80, op := Go.Op.indexAddr 45 (Go.Operand.tmp 79) (Go.Operand.const (Go.Value.int Go.IntKind.i64 0)), type := 0, pos := "outright.go:198", after := #[{ on := 10, ground := Go.Ground.data }, { on := 0, ground := Go.Ground.phase }, { on := 1, ground := Go.Ground.phase }, { on := 2, ground := Go.Ground.phase }, { on := 3, ground := Go.Ground.phase }, { on := 4, ground := Go.Ground.phase }, { on := 5, ground := Go.Ground.phase }, { on := 6, ground := Go.Ground.phase }, { on := 7, ground := Go.Ground.phase }, { on := 8, ground := Go.Ground.phase }], guard := none }) (v := .pointer (some ⟨Bw, 5, none⟩)) rfl (by kernel_rfl) (by kernel_rfl) (by kernel_rfl) (fun _ _ _ h => h) (Or.inl ⟨by rfl, ?_⟩) (by assumption) ?_
                    · intro W hSw
                      go_simp
                      try with_reducible rfl
                    simp only [Act.put, List.setIfInBounds_toArray, List.set_cons_zero, List.set_cons_succ]
                    refine wpAnyH_ready (rs := [12]) (by kernel_rfl) (by simp) ?_
                    refine AllReadyH.cons (o := { dst := none, op := Go.Op.store 44 (Go.Operand.tmp 80) (Go.Operand.tmp 77), type := 0, pos := "outright.go:198", after := #[{ on := 11, ground := Go.Ground.data }, { on := 8, ground := Go.Ground.data }, { on := 8, ground := Go.Ground.chain }, { on := 0, ground := Go.Ground.phase }, { on := 1, ground := Go.Ground.phase }, { on := 2, ground := Go.Ground.phase }, { on := 3, ground := Go.Ground.phase }, { on := 4, ground := Go.Ground.phase }, { on := 5, ground := Go.Ground.phase }, { on := 6, ground := Go.Ground.phase }, { on := 7, ground := Go.Ground.phase }, { on := 8, ground := Go.Ground.phase }], guard := none }) rfl (fun K hK => ?_) (AllReadyH.nil)
                    go_simp
                    refine hK.out _ _ (trivial) (fun hHeld => ?_)
                    clear hK K
                    try simp only [Act.put, List.setIfInBounds_toArray, List.set_cons_zero, List.set_cons_succ]
                    refine wpAnyH_done (by kernel_rfl) ?_ _
                    clear hHeld
                    exact HC Av cv mk A2 c2 Vd (fs_took (W := { W with e := E }) HF0.out false (by rw [HPD.out]; exact HTA.out) (by rw [HPD.out]; exact HTC.out) HTM.out HMK.out HNT.out (fun p hp => ⟨(HTL.out.each p hp).1, HTB.out p hp⟩) HO2.out (by rw [HVT.out]; exact HC2.out) (by rw [HVT.out]; exact HA2.out))
                intro Av cv mk A2 c2 Vd hJ
                obtain ⟨TA, xA, hx', hF'⟩ := hJ
                obtain ⟨VA, hVN⟩ : ∃ V, V = Vd.setCell ⟨Bw, 5, none⟩ (.slice A2 (nt + mk) c2) := ⟨_, rfl⟩
                rw [← hVN] at hF' ⊢
                have HFA := Lib.hid hF'; have HPA := Lib.hid (hx'.trans HP0.out)
                clear hx' hF' hVN t0 HSE HPB HVT HNT HN5 HI5 HOT HRW HF0 HP0 HPD
                go_wp2_with fail
                have htk2 : ∀ i, (({ W with e := bset E false (E false).take, took := bset W.took false (W.took false ++ (E false).inn) } : Wd).took i).length ≤ 100000 := fun i => by
                  cases i
                  · show (bset W.took false (W.took false ++ (E false).inn) false).length ≤ 100000
                    rw [bset_at, HEND.out.2.2.2]
                    exact HFT.out.sent true
                  · exact HTK.out true
                have hep2 : ∀ i, (({ W with e := bset E false (E false).take, took := bset W.took false (W.took false ++ (E false).inn) } : Wd).e i).ep ≠ 0 := fun i => by
                  cases i
                  · exact HEP.out false
                  · exact HEP.out true
                clear HTK HEP
                have HTK := Lib.hid htk2; have HEP := Lib.hid hep2
                clear htk2 hep2
                have hLT := (HFA.out.wd.took true)
                obtain ⟨At, ct, hvt, hrt, _⟩ := own_form hLT.own
                obtain ⟨nt, hnt⟩ : ∃ q, q = (xA.lt true).length := ⟨_, rfl⟩
                rw [← hnt] at hvt hrt
                have hnt5 : nt ≤ 100000 := by
                  have h9 := congrArg List.length (HFA.out.wd.tookl true)
                  rw [List.length_map, ← hnt] at h9
                  have h8 := HTK.out true
                  have h7 : nt = (({ W with e := bset E false (E false).take, took := bset W.took false (W.took false ++ (E false).inn) } : Wd).took true).length := h9
                  have h6 : (({ W with e := bset E false (E false).take, took := bset W.took false (W.took false ++ (E false).inn) } : Wd).took true).length ≤ 100000 := h8
                  omega
                have hin5 : (({ W with e := bset E false (E false).take, took := bset W.took false (W.took false ++ (E false).inn) } : Wd).e true).inn.length ≤ 600000 := by
                  obtain ⟨s9, l9, h9⟩ := HFA.out.wd.ends true
                  have h8 := h9.inM
                  have h7 := HMM.out
                  omega
                have t0 : VA.cell? ⟨Bw, 6, none⟩ = some (.slice At nt ct) := by rw [← hvt]; exact (wdi_cell HFA.out.wd).2.2.2.1 true
                have HPD := Lib.hid (show xA.P true = Bb from by rw [HPA.out]; rfl)
                have HSE := Lib.hid (show SesA VA.drew Bb TA (tg true) (M2) (({ W with e := bset E false (E false).take, took := bset W.took false (W.took false ++ (E false).inn) } : Wd).e true) from by rw [← HPD.out]; exact ((HFA.out.wd.ends true).keep (Ch.drew VA No) (fun _ _ => id) (agr_refl _ _)))
                have HPB := Lib.hid (show Bw ≠ Bb from fun e => by have h9 := HFA.out.wd.tag; rw [e, ← HPD.out, (HFA.out.wd.ends true).tag] at h9; cases h9)
                have HVT := Lib.hid hvt; have HNT := Lib.hid hnt; have HN5 := Lib.hid hnt5; have HI5 := Lib.hid hin5
                have HOT := Lib.hid (show VA.drew.ownsRow 0 27 1 (.slice At nt ct) nt ((xA.lt true).map slc) from by rw [← hvt, hnt]; exact own_ch hLT.own (Ch.drew VA No) (fun _ _ => id))
                have HRW := Lib.hid (show ∀ q, (Value.slice At nt ct).ownBlock = some q → q ≠ Bb ∧ q ≠ Bw from fun q hq => by
                  rw [← hvt] at hq
                  have h9 := hLT.row q hq
                  refine ⟨fun e => ?_, fun e => ?_⟩
                  · rw [e, ← HPD.out, (HFA.out.wd.ends true).tag] at h9; cases h9
                  · rw [e, HFA.out.wd.tag] at h9; cases h9)
                clear hLT hvt hrt hnt hnt5 hin5
                apply join6 (fun (Av : Option Addr) (cv mk : Nat) (A2 : Option Addr) (c2 : Nat) (Vd : World) => ∃ T' x', x'.P = xA.P ∧ FS w (Vd.setCell ⟨Bw, 6, none⟩ (.slice A2 (nt + mk) c2)) Bw T' (M2) x' ({ W with e := bset (bset E false (E false).take) true (E true).take, took := bset (bset W.took false (W.took false ++ (E false).inn)) true (W.took true ++ (E true).inn) }))
                · intro HC
                  refine wp_region_held_drew (S := (fun _ => True)) (by kernel_rfl) (trivial) (fun hHeld => ?_)
                  refine wpAnyH_take (i := 0) (oi := { dst := some 81, op := Go.Op.move (Go.Operand.tmp 6), type := 41, pos := "outright.go:199", after := #[], guard := none }) (v := .pointer (some ⟨Bw, 0, none⟩)) rfl (by kernel_rfl) (by kernel_rfl) (by kernel_rfl) (fun _ _ _ h => h) (Or.inl ⟨by rfl, ?_⟩) (by assumption) ?_
                  · intro W hSw
                    go_simp
                    try with_reducible rfl
                  simp only [Act.put, List.setIfInBounds_toArray, List.set_cons_zero, List.set_cons_succ]
                  refine wpAnyH_take (i := 1) (oi := { dst := some 82, op := Go.Op.move (Go.Operand.tmp 6), type := 41, pos := "outright.go:199", after := #[], guard := none }) (v := .pointer (some ⟨Bw, 0, none⟩)) rfl (by kernel_rfl) (by kernel_rfl) (by kernel_rfl) (fun _ _ _ h => h) (Or.inl ⟨by rfl, ?_⟩) (by assumption) ?_
                  · intro W hSw
                    go_simp
                    try with_reducible rfl
                  simp only [Act.put, List.setIfInBounds_toArray, List.set_cons_zero, List.set_cons_succ]
                  refine wpAnyH_take (i := 2) (oi := { dst := some 83, op := Go.Op.nilCheck (Go.Operand.tmp 82), type := 0, pos := "outright.go:199", after := #[{ on := 1, ground := Go.Ground.data }], guard := none }) (v := .pointer (some ⟨Bw, 0, none⟩)) rfl (by kernel_rfl) (by kernel_rfl) (by kernel_rfl) (fun _ _ _ h => h) (Or.inl ⟨by rfl, ?_⟩) (by assumption) ?_
                  · intro W hSw
                    go_simp
                    try with_reducible rfl
                  simp only [Act.put, List.setIfInBounds_toArray, List.set_cons_zero, List.set_cons_succ]
                  refine wpAnyH_take (i := 3) (oi := { dst := some 84, op := Go.Op.fieldAddr 47 (Go.Operand.tmp 83) 3, type := 0, pos := "outright.go:199", after := #[{ on := 2, ground := Go.Ground.data }], guard := none }) (v := .pointer (some ⟨Bw, 5, none⟩)) rfl (by kernel_rfl) (by kernel_rfl) (by kernel_rfl) (fun _ _ _ h => h) (Or.inl ⟨by rfl, ?_⟩) (by assumption) ?_
                  · intro W hSw
                    go_simp
                    try with_reducible rfl
                  simp only [Act.put, List.setIfInBounds_toArray, List.set_cons_zero, List.set_cons_succ]
                  refine wpAnyH_take (i := 4) (oi := { dst := some 85, op := Go.Op.indexAddr 45 (Go.Operand.tmp 84) (Go.Operand.const (Go.Value.int Go.IntKind.i64 1)), type := 0, pos := "outright.go:199", after := #[{ on := 3, ground := Go.Ground.data }], guard := none }) (v := .pointer (some ⟨Bw, 6, none⟩)) rfl (by kernel_rfl) (by kernel_rfl) (by kernel_rfl) (fun _ _ _ h => h) (Or.inl ⟨by rfl, ?_⟩) (by assumption) ?_
                  · intro W hSw
                    go_simp
                    try with_reducible rfl
                  simp only [Act.put, List.setIfInBounds_toArray, List.set_cons_zero, List.set_cons_succ]
                  refine wpAnyH_take (i := 6) (oi := { dst := some 87, op := Go.Op.move (Go.Operand.tmp 5), type := 22, pos := "outright.go:199", after := #[], guard := none }) (v := .pointer (some ⟨Bb, 0, none⟩)) rfl (by kernel_rfl) (by kernel_rfl) (by kernel_rfl) (fun _ _ _ h => h) (Or.inl ⟨by rfl, ?_⟩) (by assumption) ?_
                  · intro W hSw
                    go_simp
                    try with_reducible rfl
                  simp only [Act.put, List.setIfInBounds_toArray, List.set_cons_zero, List.set_cons_succ]
                  refine wpAnyH_take (i := 9) (oi := { dst := some 90, op := Go.Op.nilCheck (Go.Operand.tmp 81), type := 0, pos := "outright.go:199", after := #[{ on := 0, ground := Go.Ground.data }], guard := none }) (v := .pointer (some ⟨Bw, 0, none⟩)) rfl (by kernel_rfl) (by kernel_rfl) (by kernel_rfl) (fun _ _ _ h => h) (Or.inl ⟨by rfl, ?_⟩) (by assumption) ?_
                  · intro W hSw
                    go_simp
                    try with_reducible rfl
                  simp only [Act.put, List.setIfInBounds_toArray, List.set_cons_zero, List.set_cons_succ]
                  refine wpAnyH_take (i := 10) (oi := { dst := some 91, op := Go.Op.fieldAddr 47 (Go.Operand.tmp 90) 3, type := 0, pos := "outright.go:199", after := #[{ on := 9, ground := Go.Ground.data }], guard := none }) (v := .pointer (some ⟨Bw, 5, none⟩)) rfl (by kernel_rfl) (by kernel_rfl) (by kernel_rfl) (fun _ _ _ h => h) (Or.inl ⟨by rfl, ?_⟩) (by assumption) ?_
                  · intro W hSw
                    go_simp
                    try with_reducible rfl
                  simp only [Act.put, List.setIfInBounds_toArray, List.set_cons_zero, List.set_cons_succ]
                  refine wpAnyH_ready (rs := [5, 7]) (by kernel_rfl) (by simp) ?_
                  refine AllReadyH.cons (o := { dst := some 86, op := Go.Op.load 44 (Go.Operand.tmp 85), type := 44, pos := "outright.go:199", after := #[{ on := 4, ground := Go.Ground.data }], guard := none }) rfl (fun K hK => ?_) (AllReadyH.cons (o := { dst := some 88, op := Go.Op.call { callee := Go.Callee.value (Go.Operand.func 27), args := #[Go.Operand.tmp 87], argTypes := #[22] }, type := 44, pos := "outright.go:199", after := #[{ on := 6, ground := Go.Ground.data }], guard := none }) rfl (fun K hK => ?_) (AllReadyH.nil))
                  · go_simp
                    refine hK.out _ _ (trivial) (fun hHeld => ?_)
                    clear hK K
                    try simp only [Act.put, List.setIfInBounds_toArray, List.set_cons_zero, List.set_cons_succ]
                    refine wpAnyH_ready (rs := [7]) (by kernel_rfl) (by simp) ?_
                    refine AllReadyH.cons (o := { dst := some 88, op := Go.Op.call { callee := Go.Callee.value (Go.Operand.func 27), args := #[Go.Operand.tmp 87], argTypes := #[22] }, type := 44, pos := "outright.go:199", after := #[{ on := 6, ground := Go.Ground.data }], guard := none }) rfl (fun K hK => ?_) (AllReadyH.nil)
                    go_simp
                    refine (takeA HSE.out (HEP.out true)).mono ?_
                    rintro e Vc ⟨vt, ks, rfl, hTA, hTL, hTm, hTr, hTb, hTc⟩
                    obtain ⟨Av, cv, rfl, hTv, -⟩ := own_form hTL.own
                    have t1 := ch_cell hTc (show VA.drew.cell? _ = _ from t0) HPB.out
                    have HTA := Lib.hid hTA; have HTL := Lib.hid hTL; have HTM := Lib.hid hTm; have HTB := Lib.hid hTb; have HTV := Lib.hid hTv
                    have HOT1 := Lib.hid (own_ch HOT.out hTc (fun q hq => (HRW.out q hq).1))
                    have HTC := Lib.hid ((Ch.drew VA (fun q => q = Bb)).trans hTc (fun i hi => .inl hi))
                    have hks : ks.length ≤ 600000 := by have h9 := congrArg List.length HTM.out; rw [List.length_map] at h9; have := HI5.out; omega
                    obtain ⟨mk, hmk⟩ : ∃ q, q = ks.length := ⟨_, rfl⟩
                    rw [← hmk] at HTV hks ⊢
                    have HMK := Lib.hid hmk; have HKS := Lib.hid hks
                    clear hTA hTL hTm hTr hTb hTc hTv hmk hks
                    refine hK.out _ _ (trivial) (fun hHeld => ?_)
                    clear hK K
                    try simp only [Act.put, List.setIfInBounds_toArray, List.set_cons_zero, List.set_cons_succ]
                    refine wpAnyH_ready (rs := [8]) (by kernel_rfl) (by simp) ?_
                    refine AllReadyH.cons (o := { dst := some 89, op := Go.Op.call { callee := Go.Callee.builtin Go.Builtin.append, args := #[Go.Operand.tmp 86, Go.Operand.tmp 88], argTypes := #[44, 44] }, type := 44, pos := "outright.go:199", after := #[{ on := 5, ground := Go.Ground.data }, { on := 7, ground := Go.Ground.data }, { on := 7, ground := Go.Ground.chain }], guard := none }) rfl (fun K hK => ?_) (AllReadyH.nil)
                    refine step_app_own Vc rfl (.tmp 86) (.tmp 88) 44 rfl 0 27 _ 1 24 Try.underlying44 info27 rfl (by decide) (.slice At nt ct) nt ((xA.lt true).map slc) (by rfl) HOT1.out Av mk cv (ks.map slc) (by rfl) HTV.out (slc_one _) (by have := HN5.out; have := HKS.out; simp [maxLen]; omega) (by have := HN5.out; have := HKS.out; omega) (Nat.zero_le _) ?_
                    intro v2 Vd hown2 hch2 hat2
                    obtain ⟨A2, c2, rfl, -, -⟩ := own_form hown2
                    have hBd := blk_ch (blk_ch HFA.out.wd.mem HTC.out HPB.out) hch2 (fun e => (HRW.out _ e).2 rfl)
                    have t2 : Vd.cell? ⟨Bw, 6, none⟩ = some (.slice At nt ct) := by rw [← HVT.out]; exact blk_cell hBd 6 _ rfl
                    have z2 := blk_thawed hBd 6
                    have HO2 := Lib.hid hown2; have HC2 := Lib.hid hch2; have HA2 := Lib.hid hat2
                    clear hBd hown2 hch2 hat2
                    refine hK.out _ _ (trivial) (fun hHeld => ?_)
                    clear hK K
                    try simp only [Act.put, List.setIfInBounds_toArray, List.set_cons_zero, List.set_cons_succ]
                    refine wpAnyH_take (i := 11) (oi := { dst := some 92, op := Go.Op.indexAddr 45 (Go.Operand.tmp 91) (Go.Operand.const (Go.Value.int Go.IntKind.i64 1)), type := 0, pos := "outright.go:199", after := #[{ on := 10, ground := Go.Ground.data }, { on := 0, ground := Go.Ground.phase }, { on := 1, ground := Go.Ground.phase }, { on := 2, ground := Go.Ground.phase }, { on := 3, ground := Go.Ground.phase }, { on := 4, ground := Go.Ground.phase }, { on := 5, ground := Go.Ground.phase }, { on := 6, ground := Go.Ground.phase }, { on := 7, ground := Go.Ground.phase }, { on := 8, ground := Go.Ground.phase }], guard := none }) (v := .pointer (some ⟨Bw, 6, none⟩)) rfl (by kernel_rfl) (by kernel_rfl) (by kernel_rfl) (fun _ _ _ h => h) (Or.inl ⟨by rfl, ?_⟩) (by assumption) ?_
                    · intro W hSw
                      go_simp
                      try with_reducible rfl
                    simp only [Act.put, List.setIfInBounds_toArray, List.set_cons_zero, List.set_cons_succ]
                    refine wpAnyH_ready (rs := [12]) (by kernel_rfl) (by simp) ?_
                    refine AllReadyH.cons (o := { dst := none, op := Go.Op.store 44 (Go.Operand.tmp 92) (Go.Operand.tmp 89), type := 0, pos := "outright.go:199", after := #[{ on := 11, ground := Go.Ground.data }, { on := 8, ground := Go.Ground.data }, { on := 8, ground := Go.Ground.chain }, { on := 0, ground := Go.Ground.phase }, { on := 1, ground := Go.Ground.phase }, { on := 2, ground := Go.Ground.phase }, { on := 3, ground := Go.Ground.phase }, { on := 4, ground := Go.Ground.phase }, { on := 5, ground := Go.Ground.phase }, { on := 6, ground := Go.Ground.phase }, { on := 7, ground := Go.Ground.phase }, { on := 8, ground := Go.Ground.phase }], guard := none }) rfl (fun K hK => ?_) (AllReadyH.nil)
                    go_simp
                    refine hK.out _ _ (trivial) (fun hHeld => ?_)
                    clear hK K
                    try simp only [Act.put, List.setIfInBounds_toArray, List.set_cons_zero, List.set_cons_succ]
                    refine wpAnyH_done (by kernel_rfl) ?_ _
                    clear hHeld
                    exact HC Av cv mk A2 c2 Vd (fs_took (W := { W with e := bset E false (E false).take, took := bset W.took false (W.took false ++ (E false).inn) }) HFA.out true (by rw [HPD.out]; exact HTA.out) (by rw [HPD.out]; exact HTC.out) HTM.out HMK.out HNT.out (fun p hp => ⟨(HTL.out.each p hp).1, HTB.out p hp⟩) HO2.out (by rw [HVT.out]; exact HC2.out) (by rw [HVT.out]; exact HA2.out))
                  · go_simp
                    refine (takeA HSE.out (HEP.out true)).mono ?_
                    rintro e Vc ⟨vt, ks, rfl, hTA, hTL, hTm, hTr, hTb, hTc⟩
                    obtain ⟨Av, cv, rfl, hTv, -⟩ := own_form hTL.own
                    have t1 := ch_cell hTc (show VA.drew.cell? _ = _ from t0) HPB.out
                    have HTA := Lib.hid hTA; have HTL := Lib.hid hTL; have HTM := Lib.hid hTm; have HTB := Lib.hid hTb; have HTV := Lib.hid hTv
                    have HOT1 := Lib.hid (own_ch HOT.out hTc (fun q hq => (HRW.out q hq).1))
                    have HTC := Lib.hid ((Ch.drew VA (fun q => q = Bb)).trans hTc (fun i hi => .inl hi))
                    have hks : ks.length ≤ 600000 := by have h9 := congrArg List.length HTM.out; rw [List.length_map] at h9; have := HI5.out; omega
                    obtain ⟨mk, hmk⟩ : ∃ q, q = ks.length := ⟨_, rfl⟩
                    rw [← hmk] at HTV hks ⊢
                    have HMK := Lib.hid hmk; have HKS := Lib.hid hks
                    clear hTA hTL hTm hTr hTb hTc hTv hmk hks
                    refine hK.out _ _ (trivial) (fun hHeld => ?_)
                    clear hK K
                    try simp only [Act.put, List.setIfInBounds_toArray, List.set_cons_zero, List.set_cons_succ]
                    refine wpAnyH_ready (rs := [5]) (by kernel_rfl) (by simp) ?_
                    refine AllReadyH.cons (o := { dst := some 86, op := Go.Op.load 44 (Go.Operand.tmp 85), type := 44, pos := "outright.go:199", after := #[{ on := 4, ground := Go.Ground.data }], guard := none }) rfl (fun K hK => ?_) (AllReadyH.nil)
                    go_simp
                    refine hK.out _ _ (trivial) (fun hHeld => ?_)
                    clear hK K
                    try simp only [Act.put, List.setIfInBounds_toArray, List.set_cons_zero, List.set_cons_succ]
                    refine wpAnyH_ready (rs := [8]) (by kernel_rfl) (by simp) ?_
                    refine AllReadyH.cons (o := { dst := some 89, op := Go.Op.call { callee := Go.Callee.builtin Go.Builtin.append, args := #[Go.Operand.tmp 86, Go.Operand.tmp 88], argTypes := #[44, 44] }, type := 44, pos := "outright.go:199", after := #[{ on := 5, ground := Go.Ground.data }, { on := 7, ground := Go.Ground.data }, { on := 7, ground := Go.Ground.chain }], guard := none }) rfl (fun K hK => ?_) (AllReadyH.nil)
                    refine step_app_own Vc rfl (.tmp 86) (.tmp 88) 44 rfl 0 27 _ 1 24 Try.underlying44 info27 rfl (by decide) (.slice At nt ct) nt ((xA.lt true).map slc) (by rfl) HOT1.out Av mk cv (ks.map slc) (by rfl) HTV.out (slc_one _) (by have := HN5.out; have := HKS.out; simp [maxLen]; omega) (by have := HN5.out; have := HKS.out; omega) (Nat.zero_le _) ?_
                    intro v2 Vd hown2 hch2 hat2
                    obtain ⟨A2, c2, rfl, -, -⟩ := own_form hown2
                    have hBd := blk_ch (blk_ch HFA.out.wd.mem HTC.out HPB.out) hch2 (fun e => (HRW.out _ e).2 rfl)
                    have t2 : Vd.cell? ⟨Bw, 6, none⟩ = some (.slice At nt ct) := by rw [← HVT.out]; exact blk_cell hBd 6 _ rfl
                    have z2 := blk_thawed hBd 6
                    have HO2 := Lib.hid hown2; have HC2 := Lib.hid hch2; have HA2 := Lib.hid hat2
                    clear hBd hown2 hch2 hat2
                    refine hK.out _ _ (trivial) (fun hHeld => ?_)
                    clear hK K
                    try simp only [Act.put, List.setIfInBounds_toArray, List.set_cons_zero, List.set_cons_succ]
                    refine wpAnyH_take (i := 11) (oi := { dst := some 92, op := Go.Op.indexAddr 45 (Go.Operand.tmp 91) (Go.Operand.const (Go.Value.int Go.IntKind.i64 1)), type := 0, pos := "outright.go:199", after := #[{ on := 10, ground := Go.Ground.data }, { on := 0, ground := Go.Ground.phase }, { on := 1, ground := Go.Ground.phase }, { on := 2, ground := Go.Ground.phase }, { on := 3, ground := Go.Ground.phase }, { on := 4, ground := Go.Ground.phase }, { on := 5, ground := Go.Ground.phase }, { on := 6, ground := Go.Ground.phase }, { on := 7, ground := Go.Ground.phase }, { on := 8, ground := Go.Ground.phase }], guard := none }) (v := .pointer (some ⟨Bw, 6, none⟩)) rfl (by kernel_rfl) (by kernel_rfl) (by kernel_rfl) (fun _ _ _ h => h) (Or.inl ⟨by rfl, ?_⟩) (by assumption) ?_
                    · intro W hSw
                      go_simp
                      try with_reducible rfl
                    simp only [Act.put, List.setIfInBounds_toArray, List.set_cons_zero, List.set_cons_succ]
                    refine wpAnyH_ready (rs := [12]) (by kernel_rfl) (by simp) ?_
                    refine AllReadyH.cons (o := { dst := none, op := Go.Op.store 44 (Go.Operand.tmp 92) (Go.Operand.tmp 89), type := 0, pos := "outright.go:199", after := #[{ on := 11, ground := Go.Ground.data }, { on := 8, ground := Go.Ground.data }, { on := 8, ground := Go.Ground.chain }, { on := 0, ground := Go.Ground.phase }, { on := 1, ground := Go.Ground.phase }, { on := 2, ground := Go.Ground.phase }, { on := 3, ground := Go.Ground.phase }, { on := 4, ground := Go.Ground.phase }, { on := 5, ground := Go.Ground.phase }, { on := 6, ground := Go.Ground.phase }, { on := 7, ground := Go.Ground.phase }, { on := 8, ground := Go.Ground.phase }], guard := none }) rfl (fun K hK => ?_) (AllReadyH.nil)
                    go_simp
                    refine hK.out _ _ (trivial) (fun hHeld => ?_)
                    clear hK K
                    try simp only [Act.put, List.setIfInBounds_toArray, List.set_cons_zero, List.set_cons_succ]
                    refine wpAnyH_done (by kernel_rfl) ?_ _
                    clear hHeld
                    exact HC Av cv mk A2 c2 Vd (fs_took (W := { W with e := bset E false (E false).take, took := bset W.took false (W.took false ++ (E false).inn) }) HFA.out true (by rw [HPD.out]; exact HTA.out) (by rw [HPD.out]; exact HTC.out) HTM.out HMK.out HNT.out (fun p hp => ⟨(HTL.out.each p hp).1, HTB.out p hp⟩) HO2.out (by rw [HVT.out]; exact HC2.out) (by rw [HVT.out]; exact HA2.out))
                intro Av cv mk A2 c2 Vd hJ
                obtain ⟨TB, xB, hx', hF'⟩ := hJ
                obtain ⟨VB, hVN⟩ : ∃ V, V = Vd.setCell ⟨Bw, 6, none⟩ (.slice A2 (nt + mk) c2) := ⟨_, rfl⟩
                rw [← hVN] at hF' ⊢
                have HFB := Lib.hid hF'; have HPB2 := Lib.hid (hx'.trans HPA.out)
                clear hx' hF' hVN t0 HSE HPB HVT HNT HN5 HI5 HOT HRW HFA HPA HPD
                go_wp2_with fail
                have hcl := wdi_cell HFB.out.wd
                have q3 := hcl.2.2.1 false
                have q4 := hcl.2.2.1 true
                have q5 := hcl.2.2.2.1 false
                have q6 := hcl.2.2.2.1 true
                clear hcl
                have HG1 := Lib.hid (show ∀ V, Ch No VB V → Calls Try.prog 28 #[xB.vs false, xB.vt true] V fun e w' => e = .returned (.bool true) ∧ Ch No V w' from fun V hV => by
                  have h1 := ((HFB.out.wd.sent false).keep hV (fun _ _ => id) (agr_refl _ _)).lists (by decide)
                  have h2 := ((HFB.out.wd.took true).keep hV (fun _ _ => id) (agr_refl _ _)).lists (by decide)
                  refine sameLs_any h1 h2 ?_ ?_
                  · rw [HFB.out.wd.sentl, HFB.out.wd.tookl]
                    show W.sent false = bset (bset W.took false (W.took false ++ (E false).inn)) true (W.took true ++ (E true).inn) true
                    rw [bset_at]
                    exact HEND.out.2.2.1.symm
                  · have h3 := HFT.out.sent false
                    have h4 := congrArg List.length (HFB.out.wd.sentl false)
                    rw [List.length_map] at h4
                    exact h4 ▸ h3)
                have HG2 := Lib.hid (show ∀ V, Ch No VB V → Calls Try.prog 28 #[xB.vs true, xB.vt false] V fun e w' => e = .returned (.bool true) ∧ Ch No V w' from fun V hV => by
                  have h1 := ((HFB.out.wd.sent true).keep hV (fun _ _ => id) (agr_refl _ _)).lists (by decide)
                  have h2 := ((HFB.out.wd.took false).keep hV (fun _ _ => id) (agr_refl _ _)).lists (by decide)
                  refine sameLs_any h1 h2 ?_ ?_
                  · rw [HFB.out.wd.sentl, HFB.out.wd.tookl]
                    show W.sent true = bset (bset W.took false (W.took false ++ (E false).inn)) true (W.took true ++ (E true).inn) false
                    rw [show bset (bset W.took false (W.took false ++ (E false).inn)) true (W.took true ++ (E true).inn) false = W.took false ++ (E false).inn from (bset_off' _ false _).trans (bset_at _ _ _)]
                    exact HEND.out.2.2.2.symm
                  · have h3 := HFT.out.sent true
                    have h4 := congrArg List.length (HFB.out.wd.sentl true)
                    rw [List.length_map] at h4
                    exact h4 ▸ h3)
                have HW0 := Lib.hid (show ∀ V, Ch No VB V → Calls Try.prog 22 #[.pointer (some ⟨Ba, 0, none⟩)] V fun e w' => e = .returned (.int .i64 0) ∧ V = w' from fun V hV => by
                  have h1 := waitA ((HFB.out.wd.ends false).keep hV (fun _ _ => id) (agr_refl _ _)) (HEP.out false)
                  rw [HPB2.out] at h1
                  have h2 : (({ W with e := bset (bset E false (E false).take) true (E true).take, took := bset (bset W.took false (W.took false ++ (E false).inn)) true (W.took true ++ (E true).inn) } : Wd).e false).q.length = 0 := by show (E false).q.length = 0; rw [HEND.out.1]; rfl
                  rw [h2] at h1
                  exact h1)
                have HW1 := Lib.hid (show ∀ V, Ch No VB V → Calls Try.prog 22 #[.pointer (some ⟨Bb, 0, none⟩)] V fun e w' => e = .returned (.int .i64 0) ∧ V = w' from fun V hV => by
                  have h1 := waitA ((HFB.out.wd.ends true).keep hV (fun _ _ => id) (agr_refl _ _)) (HEP.out true)
                  rw [HPB2.out] at h1
                  have h2 : (({ W with e := bset (bset E false (E false).take) true (E true).take, took := bset (bset W.took false (W.took false ++ (E false).inn)) true (W.took true ++ (E true).inn) } : Wd).e true).q.length = 0 := by show (E true).q.length = 0; rw [HEND.out.2.1]; rfl
                  rw [h2] at h1
                  exact h1)
                have HBL := Lib.hid HFB.out.bel
                clear HFB HPB2 HEND HFT HTK HEP HMM
                go_region_held3 (fun V => V.cell? ⟨Bw, 3, none⟩ = some (xB.vs false) ∧ V.cell? ⟨Bw, 4, none⟩ = some (xB.vs true) ∧ V.cell? ⟨Bw, 5, none⟩ = some (xB.vt false) ∧ V.cell? ⟨Bw, 6, none⟩ = some (xB.vt true))
                  (first | exact ⟨q3, q4, q5, q6⟩ | exact S1.out | exact S2.out)
                  (first
                    | (go_at_call 22; refine (HW0.out _ HC2.out).mono ?_; rintro e V9 ⟨rfl, rfl⟩)
                    | (go_at_call 22; refine (HW1.out _ HC2.out).mono ?_; rintro e V9 ⟨rfl, rfl⟩)
                    | (go_at_call 28; refine (HG2.out Va HC1.out).mono ?_; rintro e Vb ⟨rfl, hc2⟩; have S2 := Lib.hid (And.intro (ch_cell hc2 S1.out.1 id) (And.intro (ch_cell hc2 S1.out.2.1 id) (And.intro (ch_cell hc2 S1.out.2.2.1 id) (ch_cell hc2 S1.out.2.2.2 id)))); have HC2 := Lib.hid (ch_thenno HC1.out hc2); clear hc2)
                    | (go_at_call 28; refine (HG1.out _ (Ch.drew VB No)).mono ?_; rintro e Va ⟨rfl, hc1⟩; have S1 := Lib.hid (And.intro (ch_cell hc1 (show VB.drew.cell? _ = _ from q3) id) (And.intro (ch_cell hc1 (show VB.drew.cell? _ = _ from q4) id) (And.intro (ch_cell hc1 (show VB.drew.cell? _ = _ from q5) id) (ch_cell hc1 (show VB.drew.cell? _ = _ from q6) id)))); have HC1 := Lib.hid (ch_thenno (Ch.drew VB No) hc1); clear hc1))
                have HFIN := Lib.hid (HBL.out.trans (HC2.out.below HBL.out.size (fun _ h => h.elim)))
                clear S1 S2 HC1 HC2 HG1 HG2 q3 q4 q5 q6
                go_wp2
                go_ret
                exact ⟨rfl, HFIN.out⟩
end Go.Proofs.Ytadcahnoghnkcaa
