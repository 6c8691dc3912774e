/- Walk: what is written is read as it was (WireBack). Conditions: the acts are as they come in. -/
import Derived.Test.YtondodhpmghogaaB2
import Derived.Test.YtondodhpmghogaaL5
import Derived.Test.YtondodhpmghogaaL8
namespace Go.Proofs.Ytondodhpmghogaa
open Go.RowKit
set_option linter.unusedVariables false
set_option linter.unusedSimpArgs false

/-- the acts of a list that is not long, in whatever world behind w: what the loops of this law read -/
structure Hand (w : World) (A : Option Addr) (n : Nat) (F : Nat → Ac) : Prop where
  le : n ≤ 60
  at_ : ∀ k, k < n → ∃ b off, A = some ⟨b, off, none⟩ ∧ (∀ w', Below w.heap.size w w' → AcIn w' b (off + k * 4) (F k) ∧ AcOk w' (F k)) ∧ (∀ a, (F k).M = some a → 0 < (F k).m → a.block < w.heap.size) ∧ Right (rightA (F k))
theorem hand_of {w : World} {A : Option Addr} {n c : Nat} {F : Nat → Ac} (h : Acs w A n c F) (hn : n ≤ 60) (hs : ∀ i, i < n → (F i).s.size ≤ 300 ∧ (F i).m ≤ 300) : Hand w A n F := by
  refine ⟨hn, fun k hk => ?_⟩
  obtain ⟨b, off, h1, h2, h3, h4⟩ := h.at_ k hk
  obtain ⟨h5, h6⟩ := hs k hk
  have hl : (F k).l.length = (F k).m := by have := h3.len; simpa using this
  have hb := World.block_lt_of_cell? w _ h2.1
  have far : ∀ w' : World, Below w.heap.size w w' → ∀ j v, w.cell? ⟨b, j, none⟩ = some v → w'.cell? ⟨b, j, none⟩ = some v := fun w' hw j v hv => (hw.cell (p := ⟨b, j, none⟩) hb).trans hv
  refine ⟨b, off, h1, fun w' hw => ⟨⟨far w' hw _ _ h2.1, far w' hw _ _ h2.2.1, far w' hw _ _ h2.2.2.1, far w' hw _ _ h2.2.2.2⟩, ⟨h4, by omega, by omega, h3.below hw⟩⟩, fun a ha h0 => rd_in h3 a ha h0, rightA_right _ h5 (by omega)⟩
set_option maxRecDepth 100000 in
set_option maxHeartbeats 8000000 in
theorem back_law (A : Option Addr) (n c : Nat) (F : Nat → Ac) (w : World) (h : Acs w A n c F) : Calls Try.prog 7 #[.slice A n c] w fun e w' => e = .returned (.bool true) ∧ Below w.heap.size w w' := by
  have hnc := h.le
  have hc63 := h.big
  have H := Lib.hid h; clear h
  go_enter Try.func7, Try.ntmps7
  go_wp2_with fail
  refine (known_any w).mono ?_
  rintro e w1 ⟨rfl, hb1⟩
  have HB1 := Lib.hid hb1
  clear hb1
  go_wp2_with fail
  refine (long_any A n c F w1 (acs_below H.out HB1.out)).mono ?_
  rintro e w2 ⟨⟨b, rfl, hbF⟩, rfl⟩
  cases b with
  | true =>
    go_wp2
    go_ret
    exact ⟨rfl, HB1.out⟩
  | false =>
    have hh := hand_of H.out (hbF rfl).1 (hbF rfl).2
    have hn60 := hh.le
    have HH := Lib.hid hh
    clear hbF hh
    go_wp2_with fail
    refine (new_any w1).mono ?_
    rintro e w3 ⟨B, rfl, hB, hwr, hb3⟩
    have HB3 := Lib.hid (HB1.out.trans (hb3.mono HB1.out.size)); have HWR := Lib.hid hwr
    have hBw : w.heap.size ≤ B := by have := HB1.out.size; omega
    clear hb3 hwr hB
    obtain ⟨G, hG⟩ : ∃ G : Nat → Ac, G = fun i => rightA (F i) := ⟨_, rfl⟩
    have HG := Lib.hid hG
    have hlen := encs_len G n (fun i hi => by obtain ⟨_, _, _, _, _, hr⟩ := HH.out.at_ i hi; rw [hG]; exact hr)
    have HLEN := Lib.hid hlen
    clear hG hlen
    go_wp2_with fail
    go_loopw [5] (fun i wr => ∃ (k : Nat) (v : Value), k ≤ n ∧ i = .int .i64 k ∧ Wr wr B v (encs G k) 0 ∧ Below w.heap.size w wr) (fun i _ => n - (intOf i).toNat)
    case atStart => exact ⟨0, _, Nat.zero_le _, rfl, HWR.out, HB3.out⟩
    case round =>
      clear HWR HB3
      obtain ⟨k, v, hk, rfl, hwr, hbr⟩ := hrel
      have HWR := Lib.hid hwr; have HBR := Lib.hid hbr
      clear hwr hbr
      have hlk := HLEN.out k hk
      by_cases hlt : k < n
      · obtain ⟨b5, off, rfl, hw, hMl, hright⟩ := HH.out.at_ k hlt
        obtain ⟨y, hy⟩ : ∃ y, y = F k := ⟨_, rfl⟩
        have hGk : G k = rightA y := by rw [HG.out, hy]
        rw [← hy] at hw hMl hright
        clear hy
        have hin := (hw _ HBR.out).1
        have HOKF := Lib.hid (fun w' hb => rightA_ok (hw w' hb).2)
        have HMM := Lib.hid (show ∀ a, (rightA y).M = some a → 0 < (rightA y).m → a.block < w.heap.size by rw [(rightA_same y).2.2.1, (rightA_same y).2.2.2.1]; exact hMl)
        have hstep : actW (encs G k, 0) (rightA y) = (encs G (k + 1), 0) := by
          have henc := (enc_len _ hright).1
          rw [actW_enc _ _ hright (by omega)]
          show _ = (encs G k ++ enc (G k), 0)
          rw [hGk]
        have HST := Lib.hid hstep
        clear hw hMl hright hGk hstep
        obtain ⟨k1, n1, s1, M1, m1, d1, l1⟩ := y
        obtain ⟨c0, c1, c2, c3⟩ := hin
        simp only at c0 c1 c2 c3
        obtain ⟨x, hx⟩ : ∃ x, x = rightA ⟨k1, n1, s1, M1, m1, d1, l1⟩ := ⟨_, rfl⟩
        rw [← hx] at HOKF HMM HST
        have HXX := Lib.hid hx
        clear hx
        have hk0 : (0 : Int) ≤ (k : Int) := by omega
        have hk1 : (k : Int) < (n : Int) := by omega
        go_wp2_with fail
        refine (right_any ⟨k1, n1, s1, M1, m1, d1, l1⟩ wr).mono ?_
        rw [← HXX.out]
        rintro e w4 ⟨rfl, hb4⟩
        have HB4 := Lib.hid (HBR.out.trans (hb4.mono HBR.out.size))
        have hz4 := hb4.size
        have HW4 := Lib.hid (wr_ch HWR.out (Ch.of_below hb4 No) id (fun _ _ => id))
        clear hb4 c0 c1 c2 c3
        go_wp2_with fail
        refine (write_any (p := (encs G k, 0)) HW4.out (by show (encs G k).length ≤ _; omega) x (HOKF.out _ HB4.out) (fun a ha h0 => by have h1 := HMM.out a ha h0; exact ⟨by omega, fun q hq => by have := wr_own HW4.out hq; omega⟩)).mono ?_
        rw [HST.out]
        rintro e w5 ⟨rfl, v5, hwr5, hch5, ho5⟩
        have hb5 : Below w.heap.size w w5 := ((Ch.of_below HB4.out (fun j => j = B ∨ v.ownBlock = some j)).trans hch5 (fun i hi => .inl hi)).below (Nat.le_refl _) (fun j hj => by rcases hj with e | e; omega; have := wr_own HW4.out e; omega)
        clear hch5 ho5
        go_wp2
        go_roundw
        case rel => exact ⟨k + 1, v5, by omega, by go_num, hwr5, hb5⟩
        case measure => simp [intOf]; omega
      · obtain rfl : n = k := by omega
        go_wp2_with fail
        refine (wout_any HWR.out (by omega)).mono ?_
        rintro e w4 ⟨A5, n5, c5, rfl, hh5, hb4⟩
        rw [if_pos rfl] at hh5
        have hl5 := held_len hh5
        have hH5 := held_lt hh5
        have HHD := Lib.hid (held_rd hh5); have HB4 := Lib.hid (HBR.out.trans (hb4.mono HBR.out.size)); have HAL := Lib.hid hH5
        have hz1 := HBR.out.size
        have hz2 := hb4.size
        have hn5 : n5 ≤ 18540 := by omega
        clear hh5 hb4 hH5
        go_wp2_with fail
        refine (open_any HHD.out (by omega)).mono ?_
        rintro e w5 ⟨R, A6, n6, c6, rfl, hrb, hR, hA6, hb5⟩
        have hn6 : n6 = n5 := by have h9 : (encs G n).length = n6 := rdb_len hrb; omega
        have HB5 := Lib.hid (HB4.out.trans (hb5.mono HB4.out.size)); have HRB := Lib.hid hrb; have HRD := Lib.hid (HHD.out.below hb5)
        have hRw : w.heap.size ≤ R := by omega
        have HAR := Lib.hid (show ∀ a, A5 = some a → 0 < n5 → a.block ≠ R from fun a ha h0 => by have := HAL.out a ha; omega)
        clear hrb hb5 hA6
        go_wp2_with fail
        clear HWR
        go_loopw [9] (fun i wr => ∃ k : Nat, k ≤ n ∧ i = .int .i64 k ∧ RdB wr R A6 n6 c6 ⟨encs G n, (encs G k).length, 0, 0⟩ ∧ Rd wr A5 n5 c5 1 (u8s (encs G n)) ∧ Below w.heap.size w wr) (fun i _ => n - (intOf i).toNat)
        case atStart => exact ⟨0, Nat.zero_le _, rfl, HRB.out, HRD.out, HB5.out⟩
        case round =>
          clear HRB HB5 HRD HBR HHD
          obtain ⟨k, hk, rfl, hrb, hrd, hbr⟩ := hrel
          have HRB := Lib.hid hrb; have HBR := Lib.hid hbr; have HRD := Lib.hid hrd
          clear hrb hbr hrd
          by_cases hlt : k < n
          · obtain ⟨b5, off, rfl, hw, hMl, hright⟩ := HH.out.at_ k hlt
            obtain ⟨y, hy⟩ : ∃ y, y = F k := ⟨_, rfl⟩
            have hGk : G k = rightA y := by rw [HG.out, hy]
            rw [← hy] at hw hMl hright
            clear hy
            have hin := (hw _ HBR.out).1
            have HOKF := Lib.hid (fun w' hb => rightA_ok (hw w' hb).2)
            have HMM := Lib.hid (show ∀ a, (rightA y).M = some a → 0 < (rightA y).m → a.block < w.heap.size by rw [(rightA_same y).2.2.1, (rightA_same y).2.2.2.1]; exact hMl)
            have hstep : backR ⟨encs G n, (encs G k).length, 0, 0⟩ (rightA y) = (true, ⟨encs G n, (encs G (k + 1)).length, 0, 0⟩) := by
              obtain ⟨post, hp⟩ := encs_split G n (n - (k + 1)) k (by omega)
              have := backR_ok (encs G k) post (rightA y) hright
              rw [← hGk, ← hp] at this
              rw [← hGk, this]
              show _ = (true, Rdr.mk (encs G n) (encs G k ++ enc (G k)).length 0 0)
              rw [List.length_append]
            have HST := Lib.hid hstep
            clear hw hMl hright hGk hstep
            obtain ⟨k1, n1, s1, M1, m1, d1, l1⟩ := y
            obtain ⟨c0, c1, c2, c3⟩ := hin
            simp only at c0 c1 c2 c3
            obtain ⟨x, hx⟩ : ∃ x, x = rightA ⟨k1, n1, s1, M1, m1, d1, l1⟩ := ⟨_, rfl⟩
            rw [← hx] at HOKF HMM HST
            have HXX := Lib.hid hx
            clear hx
            have hk0 : (0 : Int) ≤ (k : Int) := by omega
            have hk1 : (k : Int) < (n : Int) := by omega
            go_wp2_with fail
            refine (right_any ⟨k1, n1, s1, M1, m1, d1, l1⟩ wr).mono ?_
            rw [← HXX.out]
            rintro e w4 ⟨rfl, hb4⟩
            have HB4 := Lib.hid (HBR.out.trans (hb4.mono HBR.out.size))
            have hz4 := hb4.size
            have HRB4 := Lib.hid (rdb_ch HRB.out (Ch.of_below hb4 No) id (fun _ _ => id)); have HRD4 := Lib.hid (HRD.out.below hb4)
            clear hb4 c0 c1 c2 c3
            go_wp2_with fail
            refine (back_any HRB4.out (by omega) x (HOKF.out _ HB4.out) (fun a ha h0 => by have h1 := HMM.out a ha h0; omega)).mono ?_
            rw [HST.out]
            rintro e w5 ⟨bb, rfl, hbb, hrb5, hch5⟩
            obtain rfl : bb = true := hbb rfl
            have HB5 := Lib.hid (((Ch.of_below HB4.out (fun j => j = R)).trans hch5 (fun i hi => .inl hi)).below (Nat.le_refl _) (fun j hj => by omega))
            have HRB5 := Lib.hid hrb5; have HRD5 := Lib.hid (HRD4.out.ch0 hch5 (fun a ha h0 e => HAR.out a ha h0 e))
            clear hch5 hrb5 hbb
            go_wp2_with fail
            refine (fault_any HRB5.out).mono ?_
            rintro e w6 ⟨he6, hb6⟩
            have he6 : e = .returned (.agg #[.int .i64 0, .int .i64 0]) := he6
            subst he6
            have hrb6 := rdb_ch HRB5.out (Ch.of_below hb6 No) id (fun _ _ => id)
            have hrd6 := HRD5.out.below hb6
            have hb66 := HB5.out.trans (hb6.mono HB5.out.size)
            clear hb6
            have hfd : ∀ w, (Instr.field 54 (.agg #[.int .i64 0, .int .i64 0]) 0).run Try.prog w = .ok (.int .i64 0) w := fun _ => rfl
            go_wp2
            go_roundw
            case rel => exact ⟨k + 1, by omega, by go_num, hrb6, hrd6, hb66⟩
            case measure => simp [intOf]; omega
          · obtain rfl : n = k := by omega
            have hend : rend ⟨encs G n, (encs G n).length, 0, 0⟩ = (0, 0) := by unfold rend; simp
            have hlef : (((⟨encs G n, (encs G n).length, 0, 0⟩ : Rdr).b.length : Int) - (⟨encs G n, (encs G n).length, 0, 0⟩ : Rdr).at_) = 0 := by simp
            go_wp2_with fail
            refine (end_any HRB.out).mono ?_
            rw [hend]
            rintro e w6 ⟨rfl, hb6⟩
            have HRB6 := Lib.hid (rdb_ch HRB.out (Ch.of_below hb6 No) id (fun _ _ => id)); have HRD6 := Lib.hid (HRD.out.below hb6); have HB6 := Lib.hid (HBR.out.trans (hb6.mono HBR.out.size))
            clear hb6 hend
            go_wp2_with fail
            refine (rleft_any HRB6.out).mono ?_
            rw [hlef]
            rintro e w7 ⟨rfl, hch7⟩
            have HRD7 := Lib.hid (HRD6.out.ch hch7 (fun _ _ => id)); have HB7 := Lib.hid (HB6.out.trans (hch7.below HB6.out.size (fun _ h => False.elim h)))
            have hz7 := HB7.out.size
            clear hch7 hlef
            by_cases h0 : n = 0
            · have h50 : n5 = 0 := by rw [h0] at hl5; simpa [encs] using hl5.symm
              subst h0
              subst h50
              go_wp2
              go_ret
              exact ⟨rfl, HB7.out⟩
            · have h5p : 0 < n5 := by
                obtain ⟨_, _, _, _, _, hr2⟩ := HH.out.at_ (n - 1) (by omega)
                have h3 := (enc_len _ hr2).2
                have h4 : G (n - 1) = rightA (F (n - 1)) := by rw [HG.out]
                obtain ⟨m1, rfl⟩ : ∃ m1, n = m1 + 1 := ⟨n - 1, by omega⟩
                have : (encs G (m1 + 1)).length = (encs G m1).length + (enc (G m1)).length := by show (encs G m1 ++ enc (G m1)).length = _; rw [List.length_append]
                simp only [Nat.add_sub_cancel] at h4 h3
                rw [h4] at this
                omega
              have g5 : ((n5 : Int) == 0) = false := by simp; omega
              have hwm : IntKind.i64.wrap ((n5 : Int) - 1) = (n5 : Int) - 1 := by rw [IntKind.wrap_i64]; omega
              have hs1 : (0 : Int) ≤ (n5 : Int) - 1 := by omega
              have hs2 : (n5 : Int) - 1 ≤ (c5 : Int) := by have := HRD7.out.cap; omega
              have hs3 : ((n5 : Int) - 1).toNat = n5 - 1 := by omega
              have hcut : Rd w7 A5 (n5 - 1) c5 1 (u8s (encs G n).dropLast) := by
                have := HRD7.out.cut 0 (n5 - 1) (by omega) (u8s (encs G n).dropLast) (by rw [Nat.zero_mul, List.drop_zero, Nat.mul_one, u8s_take, List.dropLast_eq_take, hl5])
                cases A5 with
                | none => simpa using this
                | some a => simpa [Addr.add] using this
              have HCUT := Lib.hid hcut
              clear hcut
              go_wp2_with fail
              refine (open_any HCUT.out (by omega)).mono ?_
              rintro e w8 ⟨R2, A7, n7, c7, rfl, hrb, hR2, hA7, hb8⟩
              have hdl : (encs G n).dropLast.length = n5 - 1 := by rw [List.length_dropLast, hl5]
              have hn7 : n7 ≤ 18540 := by have h9 : (encs G n).dropLast.length = n7 := rdb_len hrb; omega
              have HB8 := Lib.hid (HB7.out.trans (hb8.mono HB7.out.size)); have HRB8 := Lib.hid hrb
              have hRw2 : w.heap.size ≤ R2 := by omega
              clear hrb hb8 hA7
              go_wp2_with fail
              go_loopw [11] (fun i wr => ∃ k : Nat, k ≤ n ∧ i = .int .i64 k ∧ RdB wr R2 A7 n7 c7 (if k = n then ⟨(encs G n).dropLast, (encs G (n - 1)).length, 4, (encs G n).dropLast.length⟩ else ⟨(encs G n).dropLast, (encs G k).length, 0, 0⟩) ∧ Below w.heap.size w wr) (fun i _ => n - (intOf i).toNat)
              case atStart => exact ⟨0, Nat.zero_le _, rfl, by rw [if_neg (fun e => h0 e.symm)]; exact HRB8.out, HB8.out⟩
              case round =>
                clear HRB HRB6 HRD HRD6 HRD7 HBR HRB8 HB8 HB7 HB6
                obtain ⟨k, hk, rfl, hrb, hbr⟩ := hrel
                by_cases hlt : k < n
                · rw [if_neg (by omega)] at hrb
                  have HRB := Lib.hid hrb; have HBR := Lib.hid hbr
                  clear hrb hbr
                  obtain ⟨b5, off, rfl, hw, hMl, hright⟩ := HH.out.at_ k hlt
                  obtain ⟨y, hy⟩ : ∃ y, y = F k := ⟨_, rfl⟩
                  have hGk : G k = rightA y := by rw [HG.out, hy]
                  rw [← hy] at hw hMl hright
                  clear hy
                  have hin := (hw _ HBR.out).1
                  have HOKF := Lib.hid (fun w' hb => rightA_ok (hw w' hb).2)
                  have HMM := Lib.hid (show ∀ a, (rightA y).M = some a → 0 < (rightA y).m → a.block < w.heap.size by rw [(rightA_same y).2.2.1, (rightA_same y).2.2.2.1]; exact hMl)
                  have hstep : (backR ⟨(encs G n).dropLast, (encs G k).length, 0, 0⟩ (rightA y)).2 = if k + 1 = n then ⟨(encs G n).dropLast, (encs G (n - 1)).length, 4, (encs G n).dropLast.length⟩ else ⟨(encs G n).dropLast, (encs G (k + 1)).length, 0, 0⟩ := by
                    obtain ⟨post, hp⟩ := encs_split G n (n - (k + 1)) k (by omega)
                    by_cases hl : k + 1 = n
                    · rw [if_pos hl]
                      have hn1 : n - 1 = k := by omega
                      rw [hn1]
                      have hen : encs G n = encs G k ++ enc (rightA y) := by rw [← hl]; show encs G k ++ enc (G k) = _; rw [hGk]
                      have hne : encs G k ++ enc (rightA y) ≠ [] := by
                        have := (enc_len _ hright).2
                        intro e
                        have h10 := congrArg List.length e
                        rw [List.length_append, List.length_nil] at h10
                        omega
                      have hd : (encs G n).dropLast ++ [((encs G k ++ enc (rightA y)).getLast?).getD 0] = encs G k ++ enc (rightA y) := by
                        rw [hen]
                        have := List.dropLast_concat_getLast hne
                        rw [List.getLast?_eq_some_getLast hne]
                        exact this
                      exact backR_cut (encs G k) (rightA y) hright _ hd
                    · rw [if_neg hl]
                      have hpost : post ≠ [] := by
                        intro e
                        subst e
                        have h1 := encs_split G n (n - (k + 2)) (k + 1) (by omega)
                        obtain ⟨post2, hp2⟩ := h1
                        have e1 : encs G (k + 1) = encs G k ++ enc (G k) := rfl
                        rw [e1] at hp2
                        have h2 := congrArg List.length (hp.symm.trans hp2)
                        obtain ⟨_, _, _, _, _, hr2⟩ := HH.out.at_ (k + 1) (by omega)
                        have h3 := (enc_len _ hr2).2
                        have h4 : G (k + 1) = rightA (F (k + 1)) := by rw [HG.out]
                        rw [h4] at h2
                        simp only [List.length_append, List.length_nil] at h2
                        omega
                      have hd : (encs G n).dropLast = encs G k ++ (enc (G k) ++ post.dropLast) := by
                        rw [hp, ← List.append_assoc, List.dropLast_append_of_ne_nil hpost, List.append_assoc]
                      rw [hd, ← hGk]
                      have := backR_ok (encs G k) post.dropLast (rightA y) hright
                      rw [← hGk] at this
                      rw [this]
                      show (Rdr.mk _ _ 0 0) = Rdr.mk _ (encs G k ++ enc (G k)).length 0 0
                      rw [List.length_append]
                  have HST := Lib.hid hstep
                  clear hw hMl hright hGk hstep
                  obtain ⟨k1, n1, s1, M1, m1, d1, l1⟩ := y
                  obtain ⟨c0, c1, c2, c3⟩ := hin
                  simp only at c0 c1 c2 c3
                  obtain ⟨x, hx⟩ : ∃ x, x = rightA ⟨k1, n1, s1, M1, m1, d1, l1⟩ := ⟨_, rfl⟩
                  rw [← hx] at HOKF HMM HST
                  have HXX := Lib.hid hx
                  clear hx
                  have hk0 : (0 : Int) ≤ (k : Int) := by omega
                  have hk1 : (k : Int) < (n : Int) := by omega
                  go_wp2_with fail
                  refine (right_any ⟨k1, n1, s1, M1, m1, d1, l1⟩ wr).mono ?_
                  rw [← HXX.out]
                  rintro e w4 ⟨rfl, hb4⟩
                  have HB4 := Lib.hid (HBR.out.trans (hb4.mono HBR.out.size))
                  have hz4 := hb4.size
                  have HRB4 := Lib.hid (rdb_ch HRB.out (Ch.of_below hb4 No) id (fun _ _ => id))
                  clear hb4 c0 c1 c2 c3
                  go_wp2_with fail
                  refine (back_any HRB4.out (by omega) x (HOKF.out _ HB4.out) (fun a ha h0 => by have h1 := HMM.out a ha h0; omega)).mono ?_
                  rintro e w5 ⟨bb, rfl, hbb, hrb5, hch5⟩
                  rw [HST.out] at hrb5
                  have HB5 := Lib.hid (((Ch.of_below HB4.out (fun j => j = R2)).trans hch5 (fun i hi => .inl hi)).below (Nat.le_refl _) (fun j hj => by omega))
                  clear hch5 hbb
                  go_wp2
                  go_roundw
                  case rel => exact ⟨k + 1, by omega, by go_num, by
                    by_cases hl : k + 1 = n
                    · rw [if_pos hl] at hrb5; rw [if_pos hl]; exact hrb5
                    · rw [if_neg hl] at hrb5; rw [if_neg hl]; exact hrb5, HB5.out⟩
                  case measure => simp [intOf]; omega
                · obtain rfl : n = k := by omega
                  rw [if_pos rfl] at hrb
                  have HRB := Lib.hid hrb; have HBR := Lib.hid hbr
                  clear hrb hbr
                  go_wp2_with fail
                  refine (fault_any HRB.out).mono ?_
                  rintro e w9 ⟨he9, hb9⟩
                  have hd2 : (((encs G n).dropLast.length : Nat) : Int) = (n5 : Int) - 1 := by omega
                  have he9 : e = .returned (.agg #[.int .i64 4, .int .i64 ((encs G n).dropLast.length : Int)]) := he9
                  rw [hd2] at he9
                  subst he9
                  go_wp2
                  go_ret
                  exact ⟨rfl, HBR.out.trans (hb9.mono HBR.out.size)⟩
end Go.Proofs.Ytondodhpmghogaa
