/- Walk of SessionTurns: an end that begins anew meets the other one, and nothing old comes. No conditions. -/
import Derived.Test.YtadcahnoghnkcaaB43
import Derived.Test.YtadcahnoghnkcaaB44
namespace Go.Proofs.Ytadcahnoghnkcaa
open Go.RowKit
set_option linter.unusedVariables false
set_option linter.unusedSimpArgs false
attribute [local go_sem] Oper.semAt_some

set_option maxRecDepth 100000 in
set_option maxHeartbeats 8000000 in
theorem turns_any (A : Option Addr) (n c : Nat) (F : Nat → Tu) (Ab1 : Option Addr) (nb cb : Nat) (l : List UInt8) (w : World) (h : Tus w A n c F) (hrb : Rd w Ab1 nb cb 1 (u8s l)) : Calls Try.prog 8 #[.slice A n c, .slice Ab1 nb cb] w (AwakeQ w) := by
  have hnc := h.1
  have H := Lib.hid h; have HC63 := Lib.hid h.2.1; have HRB := Lib.hid hrb
  have hnb63 := hrb.small
  have HLB := Lib.hid (show l.length = nb from by have := hrb.len; simpa using this)
  have HNB := Lib.hid hnb63
  clear h hrb hnb63
  go_enter Try.func8, Try.ntmps8
  go_wp2_with fail
  refine (awake21 w).mono ?_; rintro e w1 ⟨rfl, hb1⟩
  have HB1 := Lib.hid hb1
  clear hb1
  go_wp2_with fail
  refine (met_any 3 4 w1 (by omega) (by omega) (by omega) (by omega)).mono ?_; rintro e w3 ⟨Ba, Bb, rfl, hBa, hBb, hne, hsa, hsb, hbm⟩
  have HB3 := Lib.hid (HB1.out.trans (hbm.mono HB1.out.size))
  have HSA := Lib.hid hsa; have HSB := Lib.hid hsb; have HBA := Lib.hid (Nat.le_trans HB1.out.size hBa); have HBB := Lib.hid (Nat.le_trans HB1.out.size hBb); have HNE := Lib.hid hne
  clear hBa hBb hne hsa hsb hbm HB1
  go_wp2_with fail
  refine (longs_any A n c F w3 (tus_below H.out HB3.out)).mono ?_; rintro e w4 ⟨⟨b, rfl, hl⟩, rfl⟩
  cases b
  case true =>
    clear hl
    go_wp2
    go_ret
    exact ⟨rfl, HB3.out⟩
  case false =>
    have HLN := Lib.hid (hl rfl)
    have hn120 := (hl rfl).1
    clear hl
    by_cases hb4 : 400 < nb
    · have gb4 : decide ((400 : Int) < (nb : Int)) = true := by simp; omega
      clear hb4
      go_wp2
      go_ret
      exact ⟨rfl, HB3.out⟩
    have gb4 : decide ((400 : Int) < (nb : Int)) = false := by simp; omega
    have HB4 := Lib.hid hb4
    clear hb4
    have HST := Lib.hid (runI_start HB3.out HBA.out HBB.out HNE.out HSA.out HSB.out F)
    have hal : Below w3.heap.size w3 (w3.alloc (.cells (ws0 Ba Bb).cells.toArray 47)) := (Below.refl _ _).alloc (Nat.le_refl _) _
    obtain ⟨w0, hw0⟩ : ∃ V, V = w3.alloc (.cells (ws0 Ba Bb).cells.toArray 47) := ⟨_, rfl⟩
    rw [← hw0] at HST hal
    have HW0 := Lib.hid hw0
    clear hw0 hal HSA HSB HBA HBB HNE
    go_wp2_with fail
    rw [show w3.alloc (.cells #[.pointer (some ⟨Ba, 0, none⟩), .pointer (some ⟨Bb, 0, none⟩), .slice none 0 0, .slice none 0 0, .slice none 0 0, .slice none 0 0, .slice none 0 0] 47) = w0 from HW0.out.symm]
    obtain ⟨Bw, hBw⟩ : ∃ q, q = w3.heap.size := ⟨_, rfl⟩
    rw [← hBw] at HST ⊢
    clear hBw HW0
    go_loopw [9] (fun i wr => ∃ k : Nat, k ≤ n ∧ i = .int .i64 k ∧ Hid (RunI w w0 wr Bw (mark0 Ba Bb Bw) (ws0 Ba Bb).P (wd0 3 4) F k ∧ w0.heap.size ≤ wr.heap.size)) (fun i _ => n - (intOf i).toNat)
    case atStart => exact ⟨0, Nat.zero_le _, rfl, Lib.hid ⟨HST.out.1, Nat.le_refl _⟩⟩
    case round =>
      obtain ⟨k, hk, rfl, HI⟩ := hrel
      by_cases hlt : k < n
      · have glt : decide ((k : Int) < (n : Int)) = true := by simp; omega
        have hcal := turn_runs HI.out.1 (by omega) (by omega) (by omega) HI.out.2 HST.out.2.1 HST.out.2.2 (by obtain ⟨b, off, _, hin⟩ := H.out.2.2 k hlt; exact hin.2.2.2.2) (HLN.out.2 k hlt)
        obtain ⟨b5, off, rfl, hmi⟩ := (tus_below H.out HI.out.1.bel).2.2 k hlt
        obtain ⟨y, hy⟩ : ∃ y, y = F k := ⟨_, rfl⟩
        rw [← hy] at hmi hcal
        obtain ⟨k1, i1, u1, M1, m1, d1, l1⟩ := y
        obtain ⟨c0, c1, c2, c3, hrd⟩ := hmi
        simp only at c0 c1 c2 c3 hcal
        have HCL := Lib.hid hcal
        have hc63 := HC63.out
        clear hcal hrd hy
        go_wp2_with fail
        refine HCL.out.mono ?_; rintro e w5 ⟨rfl, hR, hz⟩
        have HI2 := Lib.hid (And.intro hR (Nat.le_trans HI.out.2 hz))
        clear hR hz HI HCL c0 c1 c2 c3 hc63
        go_wp2
        go_roundw
        case rel => exact ⟨k + 1, by omega, by go_num, HI2⟩
        case measure => simp [intOf]; omega
      · have glt : decide ((k : Int) < (n : Int)) = false := by simp; omega
        obtain rfl : k = n := by omega
        have hFQ : FQ w wr Bw Ba Bb (1 + 8 * k) (runs F (wd0 3 4) k) := fs_runs HI.out.1 HST.out.2.1 HST.out.2.2
        have hg := good_runs (good0 3 4) F k
        obtain ⟨W, hW⟩ : ∃ W, W = runs F (wd0 3 4) k := ⟨_, rfl⟩
        rw [← hW] at hFQ hg
        have HG := Lib.hid hg
        obtain ⟨M, hM⟩ : ∃ M, M = 1 + 8 * k := ⟨_, rfl⟩
        rw [← hM] at hFQ
        have HMM0 := Lib.hid (show M ≤ 1000 from by omega)
        have HMM0 := Lib.hid (show M ≤ 1000 from by omega)
        have HFQ := Lib.hid hFQ
        have HM1 := Lib.hid (show 1 ≤ M from by omega)
        clear hFQ hg hW HI HST HLN H HC63 hM hlt hk
        go_wp2_with fail
        clear glt
        refine (snew_any 9 wr).mono ?_; rintro e V0 hq
        rcases hq with ⟨h, _⟩ | ⟨_, _, rfl, hs1, hB1⟩
        · omega
        obtain ⟨T, x, hx, hF⟩ := HFQ.out
        have hzs := zs_new hF hs1 hB1 HM1.out
        rw [hx] at hzs
        obtain ⟨Bz, hBz⟩ : ∃ q, q = wr.heap.size := ⟨_, rfl⟩
        rw [← hBz] at hzs ⊢
        have hfl : x.fs.map (·.1) = W.air := hF.wd.airl
        have hnl : x.fs.length = W.air.length := by rw [← hfl, List.length_map]
        obtain ⟨Aa, ca, hva, hra, _⟩ := own_form hF.wd.air.own
        have hzs2 : ZQ w V0 Bw Bz Bb M x zNew (W.e true) := hzs
        obtain ⟨N, hN⟩ : ∃ q, q = x.fs.length := ⟨_, rfl⟩
        rw [← hN] at hva hra hnl
        have hN2 : N ≤ 200 := by have := HG.out.air; omega
        have hcap := hra.cap
        have HVA := Lib.hid hva; have HNN := Lib.hid hN; have HFL := Lib.hid hfl; have HBIG := Lib.hid hra.big
        have HFN : Hid (∀ k, k < N → ∃ p d A1 n1 d1 gk, Aa = some ⟨gk, 0, none⟩ ∧ x.fs[k]? = some ((p, d), A1, n1, d1) ∧ Fly (W.e (!d)) (W.e d) (W.sent (!d)) p ∧ ∀ V az ay MM, ZQ w V Bw Bz Bb MM x az ay → V.cell? ⟨gk, k * 6, none⟩ = some (.int .i64 p.fr) ∧ V.cell? ⟨gk, k * 6 + 1, none⟩ = some (.int .i64 p.to) ∧ V.cell? ⟨gk, k * 6 + 2, none⟩ = some (.int .i64 p.nu) ∧ V.cell? ⟨gk, k * 6 + 3, none⟩ = some (.int .i64 p.ac) ∧ V.cell? ⟨gk, k * 6 + 4, none⟩ = some (.slice A1 n1 d1) ∧ V.cell? ⟨gk, k * 6 + 5, none⟩ = some (.bool d)) := Lib.hid (by
          intro k hk
          obtain ⟨gk, cg, hvg, _, _⟩ := flies_some hF.wd.air (by rw [← HNN.out]; omega)
          rw [HVA.out] at hvg
          injection hvg with hv1 hv2 hv3
          obtain ⟨q, hq⟩ : ∃ q, x.fs[k]? = some q := ⟨x.fs[k]'(by rw [← HNN.out]; exact hk), by simp⟩
          obtain ⟨⟨p, d⟩, A1, n1, d1⟩ := q
          refine ⟨p, d, A1, n1, d1, gk, hv1, hq, HG.out.inv.air (p, d) (by rw [← HFL.out]; exact List.mem_map.2 ⟨_, List.mem_of_getElem? hq, rfl⟩), ?_⟩
          rintro V az ay MM ⟨T9, hz9⟩
          have hf9 := hz9.air
          rw [HVA.out, hv1] at hf9
          obtain ⟨q', hq', c0, c1, c2, c3, c4, c5, _⟩ := flies_get hf9 (k := k) (by rw [← HNN.out]; exact hk)
          rw [hq] at hq'
          injection hq' with hq'
          subst hq'
          exact ⟨c0, c1, c2, c3, c4, c5⟩)
        have HCA : Hid (∀ V az ay MM, ZQ w V Bw Bz Bb MM x az ay → V.cell? ⟨Bw, 1, none⟩ = some (.pointer (some ⟨x.P true, 0, none⟩)) ∧ V.cell? ⟨Bw, 2, none⟩ = some (.slice Aa N ca)) := Lib.hid (by
          rintro V az ay MM ⟨T9, hz9⟩
          exact ⟨blk_cell hz9.mem 1 _ rfl, by rw [← HVA.out]; exact blk_cell hz9.mem 2 _ rfl⟩)
        have HZ0 : Hid (∃ az, Zok az ∧ ZQ w V0 Bw Bz Bb (M + 8 * 0) x az (W.e true)) := Lib.hid ⟨zNew, .inl rfl, hzs2⟩
        have HYE := Lib.hid (show (W.e true).ep = 4 ∧ (W.e true).pe = 3 ∧ (W.e true).tu = 1 from ⟨HG.out.inv.ep true, by rw [(HG.out.inv.lane true).pe]; exact HG.out.inv.ep false, HG.out.inv.tu true⟩)
        have HXE := Lib.hid (show (W.e false).ep = 3 from HG.out.inv.ep false)
        clear hs1 hB1 hF hx hzs hzs2 hva hra hN hfl hBz hnl HFQ
        go_wp2_with fail
        go_loopw [12] (fun i V => ∃ k : Nat, k ≤ N ∧ i = .int .i64 k ∧ Hid (∃ az, Zok az ∧ ZQ w V Bw Bz Bb (M + 8 * k) x az (W.e true))) (fun i _ => N - (intOf i).toNat)
        case atStart => exact ⟨0, Nat.zero_le _, rfl, HZ0⟩
        case round =>
          clear HZ0
          rename_i wk _
          obtain ⟨k, hk, rfl, HI⟩ := hrel
          obtain ⟨az, hzo, hzq⟩ := HI.out
          have a2 := (HCA.out _ _ _ _ hzq).2
          have HZO := Lib.hid hzo; have HZQ := Lib.hid hzq
          have HZE := Lib.hid (show az.ep ≠ 0 from by rcases hzo with e | e <;> rw [e] <;> decide)
          have hbig := HBIG.out
          clear hzo hzq HI
          by_cases hlt : k < N
          · have glt : decide ((k : Int) < (N : Int)) = true := by simp; omega
            obtain ⟨p, d, A1, n1, d1, gk, rfl, hf, hfly, hcs⟩ := HFN.out k hlt
            obtain ⟨c0, c1, c2, c3, c4, c5⟩ := hcs _ _ _ _ HZQ.out
            have HRC := Lib.hid (zq_recvz HZQ.out HZE.out (by have := HMM0.out; omega) hf)
            have HFY := Lib.hid hfly
            clear hf hfly hcs
            cases d
            · go_wp2_with fail
              clear c0 c1 c2 c3 c4 c5
              refine HRC.out.mono ?_; rintro e V5 ⟨rfl, hz5⟩
              have HN5 : Hid (∃ az, Zok az ∧ ZQ w V5 Bw Bz Bb (M + 8 * (k + 1)) x az (W.e true)) := Lib.hid ⟨_, zok_recv HZO.out (HFY.out.fr.trans HYE.out.1) (HFY.out.to.trans HXE.out), hz5⟩
              clear hz5 HRC HZQ a2 hbig
              go_wp2
              go_roundw
              case rel => exact ⟨k + 1, by omega, by go_num, HN5⟩
              case measure => simp [intOf]; omega
            · have HN5 := Lib.hid (show ∃ az, Zok az ∧ ZQ w _ Bw Bz Bb (M + 8 * (k + 1)) x az (W.e true) from ⟨_, HZO.out, zq_up HZQ.out (by omega)⟩)
              go_wp2
              go_roundw
              case rel => exact ⟨k + 1, by omega, by go_num, HN5⟩
              case measure => simp [intOf]; omega
          · have glt : decide ((k : Int) < (N : Int)) = false := by simp; omega
            have HZM := Lib.hid (zq_up HZQ.out (show M + 8 * k ≤ 2600 from by have := HMM0.out; omega))
            clear HZQ
            go_wp2_with fail
            clear glt a2 hbig hlt
            refine (zq_takey HZM.out (by rw [HYE.out.1]; decide)).mono ?_; rintro e V6 ⟨vy, ly, rfl, hz6, -, -⟩
            have HS0 : Hid (∃ z y, StK 0 z y ∧ ZQ w V6 Bw Bz Bb (2600 + 128 * 0) x z y) := Lib.hid ⟨az, (W.e true).take, .inl ⟨rfl, HZO.out, HYE.out.1, HYE.out.2.1, HYE.out.2.2, rfl⟩, hz6⟩
            clear hz6 HZM HZO HZE hk
            go_wp2_with fail
            go_loopw [13] (fun i V => ∃ k : Nat, k ≤ 2 ∧ i = .int .i64 k ∧ Hid (∃ z y, StK k z y ∧ ZQ w V Bw Bz Bb (2600 + 128 * k) x z y)) (fun i _ => 2 - (intOf i).toNat)
            case atStart => exact ⟨0, by omega, rfl, HS0⟩
            case round =>
              clear HS0
              obtain ⟨k, hk, rfl, HI⟩ := hrel
              obtain ⟨z, y, hst, hzq⟩ := HI.out
              have HE := Lib.hid (show z.ep ≠ 0 ∧ y.ep ≠ 0 from by
                rcases hst with ⟨_, hz, h1, _⟩ | ⟨_, ⟨b, e1⟩, e2⟩ | ⟨_, e1, e2⟩
                · refine ⟨?_, by rw [h1]; decide⟩
                  rcases hz with e | e <;> rw [e] <;> decide
                · rw [e1, e2]; exact ⟨by show (9 : Int) ≠ 0; decide, by show (4 : Int) ≠ 0; decide⟩
                · rw [e1, e2]; exact ⟨by show (9 : Int) ≠ 0; decide, by show (4 : Int) ≠ 0; decide⟩)
              have HST := Lib.hid hst; have HZQ := Lib.hid hzq
              clear hst hzq HI
              by_cases hlt : k < 2
              · have glt : decide ((k : Int) < 2) = true := by simp; omega
                go_wp2_with fail
                refine (zq_handszy HZQ.out HE.out.1 HE.out.2 (by omega)).mono ?_; rintro e V1 ⟨rfl, hz1⟩
                have HZ1 := Lib.hid hz1
                clear hz1 HZQ
                go_wp2_with fail
                refine (zq_handsyz HZ1.out HE.out.1 (by rw [foldl_ep]; exact HE.out.2) (by omega)).mono ?_; rintro e V2 ⟨rfl, hz2⟩
                have HN2 : Hid (∃ z y, StK (k + 1) z y ∧ ZQ w V2 Bw Bz Bb (2600 + 128 * (k + 1)) x z y) := Lib.hid ⟨_, _, stK_step HST.out hlt, hz2⟩
                clear hz2 HZ1 HST HE
                go_wp2
                go_roundw
                case rel => exact ⟨k + 1, by omega, by go_num, HN2⟩
                case measure => simp [intOf]; omega
              · have glt : decide ((k : Int) < 2) = false := by simp; omega
                have HK2 := Lib.hid (show k = 2 from by omega)
                have hst2 := HST.out
                rw [HK2.out] at hst2
                obtain ⟨e1, e2⟩ := stK_end hst2
                have HQ0 : Hid (ZQ w wr Bw Bz Bb (3000 + 8 * 0) x (zMet false) (yMet false)) := Lib.hid (by have h9 := HZQ.out; rw [e1, e2] at h9; exact zq_up h9 (by have := HK2.out; omega))
                clear hst2 e1 e2 HST HZQ HE hlt hk
                go_wp2_with fail
                clear glt
                go_loopw [14] (fun i V => ∃ k : Nat, k ≤ N ∧ i = .int .i64 k ∧ Hid (ZQ w V Bw Bz Bb (3000 + 8 * k) x (zMet false) (yMet false))) (fun i _ => N - (intOf i).toNat)
                case atStart => exact ⟨0, Nat.zero_le _, rfl, HQ0⟩
                case round =>
                  clear HQ0
                  obtain ⟨k, hk, rfl, HZQ⟩ := hrel
                  have a2 := (HCA.out _ _ _ _ HZQ.out).2
                  have hbig := HBIG.out
                  by_cases hlt : k < N
                  · have glt : decide ((k : Int) < (N : Int)) = true := by simp; omega
                    obtain ⟨p, d, A1, n1, d1, gk, rfl, hf, hfly, hcs⟩ := HFN.out k hlt
                    obtain ⟨c0, c1, c2, c3, c4, c5⟩ := hcs _ _ _ _ HZQ.out
                    have HRC := Lib.hid (zq_recvy HZQ.out (by show (4 : Int) ≠ 0; decide) (by omega) hf)
                    have HFY := Lib.hid hfly
                    clear hf hfly hcs
                    cases d
                    · have HN5 := Lib.hid (zq_up HZQ.out (show 3000 + 8 * k ≤ 3000 + 8 * (k + 1) from by omega))
                      go_wp2
                      go_roundw
                      case rel => exact ⟨k + 1, by omega, by go_num, HN5⟩
                      case measure => simp [intOf]; omega
                    · go_wp2_with fail
                      clear c0 c1 c2 c3 c4 c5
                      refine HRC.out.mono ?_; rintro e V5 ⟨rfl, hz5⟩
                      rw [old_recv (HFY.out.fr.trans HXE.out) rfl] at hz5
                      have HN5 := Lib.hid hz5
                      clear hz5 HRC HZQ a2 hbig
                      go_wp2
                      go_roundw
                      case rel => exact ⟨k + 1, by omega, by go_num, HN5⟩
                      case measure => simp [intOf]; omega
                  · have glt : decide ((k : Int) < (N : Int)) = false := by simp; omega
                    have HZM := Lib.hid (zq_up HZQ.out (show 3000 + 8 * k ≤ 5000 from by omega))
                    have HAS := Lib.hid (zq_asks HZM.out (by show (9 : Int) ≠ 0; decide) (by show (4 : Int) ≠ 0; decide))
                    clear HZQ
                    go_wp2_with fail
                    clear glt a2 hbig hlt
                    refine HAS.out.1.mono ?_; rintro e V7 ⟨rfl, rfl⟩
                    rw [show (zMet false).pe = 4 from rfl]
                    go_wp2_with fail
                    refine HAS.out.2.1.mono ?_; rintro e V7 ⟨rfl, rfl⟩
                    rw [show (yMet false).pe = 9 from rfl]
                    go_wp2_with fail
                    refine HAS.out.2.2.1.mono ?_; rintro e V7 ⟨rfl, rfl⟩
                    rw [show (yMet false).tu = 2 from rfl]
                    go_wp2_with fail
                    refine HAS.out.2.2.2.mono ?_; rintro e V7 ⟨rfl, rfl⟩
                    rw [show (((yMet false).q.length : Nat) : Int) = 0 from rfl]
                    go_wp2_with fail
                    refine (zq_takez HZM.out (by show (9 : Int) ≠ 0; decide)).mono ?_; rintro e V7 ⟨v7, l7, rfl, hz7, hl7, hm7⟩
                    obtain ⟨A7, c7, rfl⟩ := lists_zero hl7 hm7
                    have HZ7 := Lib.hid (show ZQ w V7 Bw Bz Bb 5000 x (zMet false) (yMet false) from hz7)
                    clear hz7 hl7 hm7 HZM HAS
                    go_wp2_with fail
                    refine (zq_takey HZ7.out (by show (4 : Int) ≠ 0; decide)).mono ?_; rintro e V8 ⟨v8, l8, rfl, hz8, hl8, hm8⟩
                    obtain ⟨A8, c8, rfl⟩ := lists_zero hl8 hm8
                    have HZ8 := Lib.hid (show ZQ w V8 Bw Bz Bb 5000 x (zMet false) (yMet false) from hz8)
                    clear hz8 hl8 hm8 HZ7
                    go_wp2_with fail
                    have HL4 := Lib.hid (show l.length ≤ 400 from by have := HB4.out; have := HLB.out; omega)
                    refine (zq_send HZ8.out (by show (9 : Int) ≠ 0; decide) (by omega) Ab1 nb cb l (HRB.out.below (zq_bel HZ8.out))).mono ?_; rintro e V9 ⟨rfl, hz9⟩
                    rw [zsent l HL4.out] at hz9
                    rw [zsent l HL4.out]
                    have HZ9 := Lib.hid hz9
                    clear hz9 HZ8
                    go_wp2_with fail
                    refine (zq_handszy HZ9.out (by show (9 : Int) ≠ 0; decide) (by show (4 : Int) ≠ 0; decide) (by omega)).mono ?_; rintro e Va ⟨rfl, hza⟩
                    have HZA := Lib.hid hza
                    clear hza HZ9
                    go_wp2_with fail
                    refine (zq_takey HZA.out (by rw [foldl_ep]; show (4 : Int) ≠ 0; decide)).mono ?_; rintro e Vb ⟨vb, lb, rfl, hzb, hlb, hmb⟩
                    rw [zgot l HL4.out] at hmb
                    obtain ⟨q, rfl⟩ : ∃ q, lb = [q] := by
                      match lb, hmb with
                      | [q], _ => exact ⟨q, rfl⟩
                    obtain ⟨l', A9, n9, d9⟩ := q
                    have hll : l' = l := by simpa using hmb
                    subst hll
                    obtain ⟨g9, c9, rfl, _, hc9, _⟩ := own_row hlb.own (own_some hlb.own (by simp))
                    have hbb := zq_bel hzb
                    have hal : Below Vb.heap.size Vb (Vb.alloc (.cells #[.slice Ab1 nb cb] 27)) := (Below.refl _ _).alloc (Nat.le_refl _) _
                    have HBW := Lib.hid (hbb.trans (hal.mono hbb.size))
                    have HSL := Lib.hid (sameLs_rd (lists_keep hlb (Ch.of_below hal No) (fun _ _ => id) (fun _ _ _ _ => id)) hc9 (blk_cell (blk_new Vb 27 #[.slice Ab1 nb cb]) 0 _ rfl) ((HRB.out.below hbb).below hal) (Nat.le_refl 1))
                    clear hmb hlb hc9 hbb hal hzb HZA
                    go_wp2_with fail
                    refine HSL.out.mono ?_; rintro e Vc ⟨rfl, hcc⟩
                    have HFIN := Lib.hid (HBW.out.trans (hcc.below HBW.out.size (fun _ h => h.elim)))
                    clear hcc HSL
                    go_wp2
                    go_ret
                    exact ⟨rfl, HFIN.out⟩
end Go.Proofs.Ytadcahnoghnkcaa
