/- A function that the print does not take: who is live. Conditions: fewer than a million nodes. -/
import Derived.Test.YtadcahnoghnkcaaG1
import Derived.Test.YtadcahnoghnkcaaP27M2
namespace Go.Proofs.YtadcahnoghnkcaaX.P27
open Go.RowKit Go.Proofs.Ytadcahnoghnkcaa Go.Proofs.YtadcahnoghnkcaaW.PrintWords Go.Proofs.YtadcahnoghnkcaaW.PrintLast Go.Proofs.YtadcahnoghnkcaaW.PrintMore
set_option linter.unusedVariables false
set_option linter.unusedSimpArgs false
/-- is a node dead -/
def deadB (l : List S109) (x : Int) : Bool := (rd_T109 l (x - 1)).f2
def liveL (l : List S109) : Nat → List Int
  | 0 => []
  | k + 1 => if (chn l (l.length + 1) ((k : Int) + 1)).any (deadB l) then liveL l k else liveL l k ++ [(k : Int) + 1]
def topo_Live.f (k : Nat) (l0 : List S109) : Option (List Int) := (topo_Check.f k l0).bind fun e => if e = 0 then (if l0.length < 1000000 then some (liveL l0 l0.length) else none) else some []
theorem topo_Live.mono : ∀ a0 k, LeO (topo_Live.f k a0) (topo_Live.f (k + 1) a0) := fun a0 k => by
  unfold topo_Live.f
  exact LeO.bind (topo_Check.mono a0 k) (fun _ => LeO.refl _)
theorem chn_in (l : List S109) : ∀ k a, ∀ x ∈ chn l k a, 1 ≤ x ∧ x ≤ (l.length : Int)
  | 0, _, x, h => by cases h
  | k + 1, a, x, h => by
    unfold chn at h
    split at h
    · rename_i hc
      rcases List.mem_cons.1 h with rfl | h
      · exact hc
      · exact chn_in l k _ x h
    · cases h
theorem ints_of_C {w : World} {A : Option Addr} {n : Nat} {l : List Int} (h : Kd.C (Kd.int .i64) w A n l) (h0 : 0 < n) : ∃ b off, A = some ⟨b, off, none⟩ ∧ ∀ k : Nat, k < n → w.cell? ⟨b, off + k, none⟩ = some (.int .i64 (l[k]?.getD 0)) := by
  obtain ⟨ad, c, rfl, hl, hK, hc⟩ := Kd.C_get h 0 0 (by omega) (by omega)
  have hc1 : c = [.int .i64 (l.getD (0 : Int).toNat 0)] := hK
  obtain ⟨b, off, rfl⟩ := addr_plain0 (x := ad) (by have := hc 0 _ (by rw [hc1]; rfl); simpa [Addr.add] using this)
  refine ⟨b, off, rfl, fun k hk => ?_⟩
  obtain ⟨ad, c, e, hl, hK, hc⟩ := Kd.C_get h 0 (k : Int) (by omega) (by omega)
  cases e
  have hc1 : c = [.int .i64 (l.getD (k : Int).toNat 0)] := hK
  have := hc 0 _ (by rw [hc1]; rfl)
  have hadd : (⟨b, off, none⟩ : Addr).add k = ⟨b, off + k, none⟩ := by unfold Addr.add; split <;> simp_all
  simpa [hadd, List.getD_eq_getElem?_getD, Kd.int, Kd.scalar] using this
set_option maxHeartbeats 1000000 in
theorem live1_any (A0 : Option Addr) (c0 B : Nat) (l0 : List S109) (x : Int) (w : World) (h1 : 1 ≤ x) (h2 : x ≤ (l0.length : Int)) (hn : l0.length < 1000000) (hb : w.cell? ⟨B, 0, none⟩ = some (.slice A0 l0.length c0)) (hr : Kd.C k109 w A0 l0.length l0) :
    Calls Try.prog 85 #[.int .i64 x, .pointer (some ⟨B, 0, none⟩)] w fun e w' => e = .returned (.bool (deadB l0 x)) ∧ w = w' := by
  obtain ⟨b, off, rfl, hc⟩ := cells109 hr (by omega)
  obtain ⟨i, hi⟩ : ∃ i : Nat, x = (i : Int) + 1 := ⟨(x - 1).toNat, by omega⟩
  obtain ⟨_, _, q⟩ := hc i (by omega)
  have hd : deadB l0 x = (rd_T109 l0 (i : Int)).f2 := by unfold deadB; rw [hi]; congr 2; omega
  rw [hd]
  obtain ⟨d, hdd⟩ : ∃ d, d = (rd_T109 l0 (i : Int)).f2 := ⟨_, rfl⟩
  rw [← hdd] at q ⊢
  have hx0 : 0 ≤ x - 1 := by omega
  have hx1 : x - 1 < (l0.length : Int) := by omega
  have e1 : (x - 1).toNat = i := by omega
  have HI := Lib.hid hi
  clear hi hd hdd hc hr
  go_enter Try.func85, Try.ntmps85
  go_wp2
  go_ret
  exact ⟨rfl, rfl⟩
set_option maxRecDepth 100000 in
set_option maxHeartbeats 4000000 in
theorem idx_any (A0 A : Option Addr) (c0 c B : Nat) (l0 : List S109) (xs : List Int) (w : World) (hn : l0.length < 1000000) (hb : w.cell? ⟨B, 0, none⟩ = some (.slice A0 l0.length c0)) (hr : Kd.C k109 w A0 l0.length l0)
    (hx : Kd.C (Kd.int .i64) w A xs.length xs) (hxs : xs.length ≤ 2000000) (hall : ∀ x ∈ xs, 1 ≤ x ∧ x ≤ (l0.length : Int)) :
    Calls Try.prog 97 #[.slice A xs.length c, .func (.func 85) #[] #[.pointer (some ⟨B, 0, none⟩)]] w fun e w' => ∃ i : Int, e = .returned (.int .i64 i) ∧ decide (0 ≤ i) = xs.any (deadB l0) ∧ w = w' := by
  have HB := Lib.hid hb; have HR := Lib.hid hr
  have HX := Lib.hid (fun h0 => ints_of_C hx h0)
  have HALL := Lib.hid hall
  obtain ⟨N, hN⟩ : ∃ N, N = xs.length := ⟨_, rfl⟩
  rw [← hN] at hxs HX ⊢
  have HN := Lib.hid hN
  clear hb hr hx hall hN
  go_enter Try.func97, Try.ntmps97
  go_wp2
  go_loop [8] (fun i => ∃ k : Nat, k ≤ N ∧ i = .int .i64 k ∧ Hid ((xs.take k).any (deadB l0) = false)) (fun i => N - (intOf i).toNat)
  case atStart => exact ⟨0, Nat.zero_le _, rfl, Lib.hid rfl⟩
  case round =>
    obtain ⟨k, hk, rfl, HF⟩ := hrel
    by_cases hlt : k < N
    · obtain ⟨b, off, rfl, hc⟩ := HX.out (by omega)
      have hck := hc k hlt
      obtain ⟨x, hx⟩ : ∃ x, x = xs[k]?.getD 0 := ⟨_, rfl⟩
      rw [← hx] at hck
      have hkl : k < xs.length := by rw [← HN.out]; exact hlt
      have hxe : xs[k]? = some x := by rw [hx]; simp [hkl]
      have hin := HALL.out x (List.mem_of_getElem? hxe)
      have hxx : xs[k] = x := by rw [List.getElem?_eq_getElem hkl] at hxe; exact Option.some.inj hxe
      have HT := Lib.hid (show xs.take (k + 1) = xs.take k ++ [x] by rw [List.take_succ_eq_append_getElem hkl, hxx])
      have HXE := Lib.hid hxe
      have HCALL := Lib.hid (live1_any A0 c0 B l0 x w hin.1 hin.2 hn HB.out HR.out)
      clear hc hx hxe hxx hin hkl
      cases hd : deadB l0 x with
      | true =>
        rw [hd] at HCALL
        have HANY := Lib.hid (show xs.any (deadB l0) = true from List.any_eq_true.2 ⟨x, List.mem_of_getElem? HXE.out, hd⟩)
        clear hd
        go_wp2_with (go_at_call 85; refine HCALL.out.mono ?_; rintro e w1 ⟨rfl, rfl⟩)
        go_ret
        exact ⟨_, rfl, by rw [HANY.out]; simp, rfl⟩
      | false =>
        rw [hd] at HCALL
        have HF2 := Lib.hid (show (xs.take (k + 1)).any (deadB l0) = false by rw [HT.out, List.any_append, HF.out]; simp [hd])
        clear hd
        go_wp2_with (go_at_call 85; refine HCALL.out.mono ?_; rintro e w1 ⟨rfl, rfl⟩)
        go_round
        case rel => exact ⟨k + 1, by omega, by go_num, HF2⟩
        case measure => simp [intOf]; omega
    · obtain rfl : k = N := by omega
      have HA := Lib.hid (show xs.any (deadB l0) = false by have := HF.out; rw [HN.out, List.take_length] at this; exact this)
      go_wp2
      go_ret
      exact ⟨_, rfl, by rw [HA.out]; decide, rfl⟩
theorem contains_any (A0 A : Option Addr) (c0 c B : Nat) (l0 : List S109) (xs : List Int) (w : World) (hn : l0.length < 1000000) (hb : w.cell? ⟨B, 0, none⟩ = some (.slice A0 l0.length c0)) (hr : Kd.C k109 w A0 l0.length l0)
    (hx : Kd.C (Kd.int .i64) w A xs.length xs) (hxs : xs.length ≤ 2000000) (hall : ∀ x ∈ xs, 1 ≤ x ∧ x ≤ (l0.length : Int)) :
    Calls Try.prog 86 #[.slice A xs.length c, .func (.func 85) #[] #[.pointer (some ⟨B, 0, none⟩)]] w fun e w' => e = .returned (.bool (xs.any (deadB l0))) ∧ w = w' := by
  have H := Lib.hid (idx_any A0 A c0 c B l0 xs w hn hb hr hx hxs hall)
  clear hb hr hx hall
  go_enter Try.func86, Try.ntmps86
  go_wp2_with (go_at_call 97; refine H.out.mono ?_; rintro e w1 ⟨i, rfl, hi, rfl⟩; have HI := Lib.hid hi; clear hi)
  go_ret
  exact ⟨ret_bool HI.out, rfl⟩
theorem live_len (l : List S109) : ∀ k, (liveL l k).length ≤ k
  | 0 => Nat.le_refl _
  | k + 1 => by
    have := live_len l k
    unfold liveL
    split
    · omega
    · simp; omega
theorem box_below {W w1 : World} {B : Nat} {t : TypeId} {u : Value} (hb : Below W.heap.size W w1) (h : Boxed W B t u) : Boxed w1 B t u := (hb.block B h.lt).trans h
theorem box_app {W w1 : World} {base B : Nat} {v u : Value} {xs : List Int} (hg : W.grownBy w1 v.ownBlock) (hr : Kd.R (Kd.int .i64) 3 W base (fun _ => True) v xs) (hc : Boxed W B 83 u) : Boxed w1 B 83 u :=
  hc.kept hg (Kd.R_ne hr hc (by decide))
set_option maxRecDepth 100000 in
set_option maxHeartbeats 4000000 in
theorem topo_Live.calls (k : Nat) (A0 : Option Addr) (c0 : Nat) (l0 : List (S109)) (r : List Int) (w : World) (hr0 : Kd.C k109 w A0 l0.length l0) (hc0 : l0.length ≤ c0) (h : topo_Live.f k l0 = some r) :
    Calls Try.prog 44 #[.slice A0 l0.length c0] w fun e w' => ∃ v0_ : Value, e = .returned (v0_) ∧ Kd.R (Kd.int .i64) 3 w' w.heap.size (fun _ => True) v0_ r ∧ Below w.heap.size w w' := by
  unfold topo_Live.f at h
  obtain ⟨t, ht, h⟩ := Option.bind_eq_some_iff.1 h
  have hb0 : Below w.heap.size w (w.alloc (.cells #[.slice A0 l0.length c0] 83)) := (Below.refl _ w).alloc (Nat.le_refl _) _
  have hx := Lib.hid (Boxed.new w 83 (.slice A0 l0.length c0))
  have hc := hx.out.cell
  have HCK := Lib.hid (topo_Check.calls k A0 c0 l0 t _ (Kd.C_below hr0 hb0) hc0 ht)
  have HR := Lib.hid hr0; have HB0 := Lib.hid hb0
  by_cases h0 : t = 0
  · rw [if_pos h0] at h
    split at h
    case isFalse => cases h
    rename_i hn
    cases h
    subst h0
    clear hr0 hb0 ht
    go_enter Try.func44, Try.ntmps44
    go_wp2_with (go_at_call 55; refine HCK.out.mono ?_; rintro e w1 ⟨rfl, hb1⟩; have HB1 := Lib.hid (HB0.out.trans (hb1.mono HB0.out.size)); have hx1 := Lib.hid (box_below hb1 hx.out); have hc1 := hx1.out.cell; clear hb1 hc)
    obtain ⟨N, hN⟩ : ∃ N, N = l0.length := ⟨_, rfl⟩
    have HC1 := hx1; have HN := Lib.hid hN
    have HALL := Lib.hid (fun k : Nat => chn_in l0 (l0.length + 1) ((k : Int) + 1))
    have HLEN := Lib.hid (fun k : Nat => chn_len l0 (l0.length + 1) ((k : Int) + 1))
    have HWAY := Lib.hid (fun (k : Nat) W (h : Kd.C k109 W A0 l0.length l0) => way1 A0 c0 l0 ((k : Int) + 1) W h hc0 hn)
    clear hc1 HCK
    have hNn : N < 1000000 := by omega
    obtain ⟨B, hB⟩ : ∃ B, B = w.heap.size := ⟨_, rfl⟩
    have HBD := Lib.hid hB
    rw [← hN] at hc0 hn ⊢
    clear hN hB
    go_loopw [3, 11] (fun v i wr => ∃ k : Nat, k ≤ N ∧ i = .int .i64 k ∧ (∃ L, Hid (L = liveL l0 k ∧ Kd.R (Kd.int .i64) 3 wr w.heap.size (fun _ => True) v L)) ∧ Hid (Below w.heap.size w wr) ∧ Hid (Boxed wr w.heap.size 83 (.slice A0 N c0))) (fun _ i _ => N - (intOf i).toNat)
    case atStart => exact ⟨0, Nat.zero_le _, rfl, ⟨_, Lib.hid ⟨rfl, Kd.R_nil _ _ _ _ _⟩⟩, HB1, Lib.hid (by rw [HN.out]; exact HC1.out)⟩
    case round =>
      clear HB1 HC1
      obtain ⟨k, hk, rfl, ⟨L, HL⟩, HB, HC⟩ := hrel
      by_cases hlt : k < N
      · have hc1 := HC.out.cell
        obtain ⟨ch, hch⟩ : ∃ ch, ch = chn l0 (l0.length + 1) ((k : Int) + 1) := ⟨_, rfl⟩
        have HCH := Lib.hid hch
        have HW := Lib.hid (HWAY.out k wr (Kd.C_below HR.out HB.out))
        have HAL := Lib.hid (show ∀ x ∈ ch, 1 ≤ x ∧ x ≤ (l0.length : Int) by rw [hch]; exact HALL.out k)
        have hcl : ch.length ≤ 1000001 := by rw [hch]; have := HLEN.out k; have := HN.out; omega
        rw [← hch, ← HN.out] at HW
        have HLL := Lib.hid (show L.length ≤ k by rw [HL.out.1]; exact live_len l0 k)
        clear hch
        have hlk : L.length ≤ k := HLL.out
        cases hd : ch.any (deadB l0) with
        | true =>
          have HNX := Lib.hid (show L = liveL l0 (k + 1) by rw [HL.out.1]; conv => rhs; unfold liveL; rw [← HCH.out, hd, if_pos rfl])
          have HD := Lib.hid hd; clear hd
          go_wp2_with (first | (go_at_call 82; refine HW.out.mono ?_; rintro e w2 ⟨v2, rfl, ho, hb⟩; obtain ⟨A2, c2, rfl, hl2, hC2⟩ := Kd.R_reads ho; have HB2 := Lib.hid (HB.out.trans (hb.mono HB.out.size)); have HCON := Lib.hid (contains_any A0 A2 c0 c2 w.heap.size l0 ch w2 (by rw [← HN.out]; exact hn) (by rw [← HN.out]; exact below_cell hb hc1) (Kd.C_below HR.out HB2.out) hC2 (by omega) HAL.out); have HO2 := Lib.hid (Kd.R_below HL.out.2 hb); have HX2 := Lib.hid (box_below hb HC.out); have hc2 := HX2.out.cell; clear ho hb hl2 hC2 hc1) | (go_at_call 86; refine HCON.out.mono ?_; rintro e w3 ⟨rfl, rfl⟩; rw [HD.out]))
          go_roundw
          case rel => exact ⟨k + 1, by omega, by go_num, ⟨L, Lib.hid ⟨HNX.out, HO2.out⟩⟩, HB2, HX2⟩
          case measure => simp [intOf]; omega
        | false =>
          have HNX := Lib.hid (show L ++ [(k : Int) + 1] = liveL l0 (k + 1) by rw [HL.out.1]; conv => rhs; unfold liveL; rw [← HCH.out, hd, if_neg (by simp)])
          have HD := Lib.hid hd; clear hd
          go_wp2_with (first | (go_at_call 82; refine HW.out.mono ?_; rintro e w2 ⟨v2, rfl, ho, hb⟩; obtain ⟨A2, c2, rfl, hl2, hC2⟩ := Kd.R_reads ho; have HB2 := Lib.hid (HB.out.trans (hb.mono HB.out.size)); have HCON := Lib.hid (contains_any A0 A2 c0 c2 w.heap.size l0 ch w2 (by rw [← HN.out]; exact hn) (by rw [← HN.out]; exact below_cell hb hc1) (Kd.C_below HR.out HB2.out) hC2 (by omega) HAL.out); have HO2 := Lib.hid (Kd.R_below HL.out.2 hb); have HX2 := Lib.hid (box_below hb HC.out); have hc2 := HX2.out.cell; clear ho hb hl2 hC2 hc1) | (go_at_call 86; refine HCON.out.mono ?_; rintro e w3 ⟨rfl, rfl⟩; rw [HD.out]) | (at_builtin; refine Kd.R_append (Kd.int .i64) (w0 := w) w.heap.size rfl (.tmp 22) (.tmp 25) 84 3 (.int .i64 0) 8 rfl Try.underlying84 info3 rfl (by decide) (by omega) _ L ((k : Int) + 1) [.int .i64 ((k : Int) + 1)] (fun _ => True) (fun _ => False) rfl rfl rfl (fun _ hk => hk.elim) (fun _ _ => trivial) HO2.out HB2.out HB2.out.size (by omega) ?_; intro v1 w4 ho hb hg hat; have HO4 := Lib.hid ho; have HB4 := Lib.hid hb; have HC4 := Lib.hid (box_app hg HO2.out HX2.out); clear ho hb hg hat))
          go_roundw
          case rel => exact ⟨k + 1, by omega, by go_num, ⟨_, Lib.hid ⟨HNX.out, HO4.out⟩⟩, HB4, HC4⟩
          case measure => simp [intOf]; omega
      · obtain rfl : k = N := by omega
        have HR2 := Lib.hid (show Kd.R (Kd.int .i64) 3 wr w.heap.size (fun _ => True) u3 (liveL l0 k) by rw [← HL.out.1]; exact HL.out.2)
        go_wp2
        go_ret
        exact ⟨_, rfl, by rw [← HN.out]; exact HR2.out, HB.out⟩
  · rw [if_neg h0] at h
    cases h
    have g0 : (t == 0) = false := by simpa using h0
    have g1 : (t != 0) = true := by simpa using h0
    clear hr0 hb0 ht h0
    go_enter Try.func44, Try.ntmps44
    go_wp2_with (go_at_call 55; refine HCK.out.mono ?_; rintro e w1 ⟨rfl, hb1⟩; have HB1 := Lib.hid (HB0.out.trans (hb1.mono HB0.out.size)); clear hb1 hc)
    go_ret
    exact ⟨_, rfl, Kd.R_nil _ _ _ _ _, HB1.out⟩
end Go.Proofs.YtadcahnoghnkcaaX.P27
