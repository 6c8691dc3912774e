/- Walk: the chapter's examples are answered as it says (SessionKnown). No conditions. -/
import Derived.Test.YtadcahnoghnkcaaB13
namespace Go.Proofs.Ytadcahnoghnkcaa
open Go.RowKit
set_option linter.unusedVariables false
set_option linter.unusedSimpArgs false

def OutO (w : World) (B : Nat) (s : Ses) (p : Pk) (e : Ending) (w' : World) : Prop :=
  ∃ g cv A n c, e = .returned (.slice (some ⟨g, 0, none⟩) 1 cv) ∧ SesB w' B { s with r := outR s s.ma, ow := false } ∧ Packs w' w.heap.size (.slice (some ⟨g, 0, none⟩) 1 cv) [(p, A, n, c)] ∧ Ch (fun k => k = B) w w'
theorem sout_one {B : Nat} {s : Ses} {w : World} (h : SesB w B s) (h0 : s.ep ≠ 0) (hm : s.ma ≤ 8) (hb : s.ba ≤ 1000000000) (bd : Nat → List UInt8)
    (hbd : ∀ k, k < s.ma → Rd w (s.r ((s.ba + k) % 8)).A (s.r ((s.ba + k) % 8)).n (s.r ((s.ba + k) % 8)).c 1 (u8s (bd k)) ∧ (s.r ((s.ba + k) % 8)).n ≤ 1000000 ∧ ∀ a, (s.r ((s.ba + k) % 8)).A = some a → a.block ≠ B)
    (p : Pk) (hp : outAll s bd = [p]) : Calls Try.prog 16 #[.pointer (some ⟨B, 0, none⟩)] w (OutO w B s p) := by
  refine (sout_any h h0 hm hb bd hbd).mono ?_
  rintro e w' ⟨v, ps, rfl, hs, hpk, hmap, hc⟩
  rw [hp] at hmap
  have hlen : ps.length = 1 := by have := congrArg List.length hmap; simpa using this
  obtain ⟨q, rfl⟩ : ∃ q, ps = [q] := by
    match ps, hlen with
    | [q], _ => exact ⟨q, rfl⟩
  obtain ⟨p', A, n, c⟩ := q
  have hpp : p' = p := by simpa using hmap
  subst hpp
  obtain ⟨g, cv, rfl, _, _, _⟩ := own_row hpk.own (own_some hpk.own (by simp))
  exact ⟨g, cv, A, n, c, rfl, hs, hpk, hc⟩
theorem pk_cells {w : World} {base g cv n c : Nat} {p : Pk} {A : Option Addr} (h : Packs w base (.slice (some ⟨g, 0, none⟩) 1 cv) [(p, A, n, c)]) :
    w.cell? ⟨g, 0, none⟩ = some (.int .i64 p.fr) ∧ w.cell? ⟨g, 1, none⟩ = some (.int .i64 p.to) ∧ w.cell? ⟨g, 2, none⟩ = some (.int .i64 p.nu) ∧ w.cell? ⟨g, 3, none⟩ = some (.int .i64 p.ac) ∧
      w.cell? ⟨g, 4, none⟩ = some (.slice A n c) ∧ Rd w A n c 1 (u8s p.l) ∧ n = p.l.length ∧ ∀ a, A = some a → base ≤ a.block := by
  obtain ⟨q', hq', k0, k1, k2, k3, k4, hk⟩ := packs_get h (k := 0) (by simp)
  simp only [List.getElem?_cons_zero, Option.some.injEq] at hq'
  subst hq'
  simp only [Nat.zero_mul, Nat.zero_add] at k0 k1 k2 k3 k4 hk
  exact ⟨k0, k1, k2, k3, k4, held_rd hk, (held_len hk).symm, fun a ha => (held_lt hk a ha).1⟩

set_option maxRecDepth 100000 in
set_option maxHeartbeats 4000000 in
theorem known3 (w : World) : Calls Try.prog 3 #[] w (AwakeQ w) := by
  have hmk : ∀ W, (Instr.makeSlice 27 (.int .i64 401) (.int .i64 401)).run Try.prog W = .ok (.slice (some ⟨W.heap.size, 0, none⟩) 401 401) (W.alloc (.cells (madeB 401) 5)) := run_madeB 27 5 Try.underlying27 info5 401 (by omega)
  have HMK := Lib.hid hmk
  clear hmk
  go_enter Try.func3, Try.ntmps3
  go_wp2_with fail
  refine (snew_any 5 w).mono ?_; rintro e w1 hq
  rcases hq with ⟨h, _⟩ | ⟨_, _, rfl, hs1, hB1⟩
  · omega
  have HS1 := Lib.hid hs1; have HB1 := Lib.hid hB1
  have hz1 := blk_lt hs1
  clear hs1 hB1
  go_wp2_with fail
  refine (snew_any 7 w1).mono ?_; rintro e w2 hq
  rcases hq with ⟨h, _⟩ | ⟨_, _, rfl, hs2, hB2⟩
  · omega
  obtain ⟨Ba, hBa⟩ : ∃ x, x = w.heap.size := ⟨_, rfl⟩
  obtain ⟨Bb, hBb⟩ : ∃ x, x = w1.heap.size := ⟨_, rfl⟩
  have hne : Ba ≠ Bb := by omega
  have hbb : w.heap.size ≤ Bb := by omega
  have hba : w.heap.size ≤ Ba := by omega
  have ha2 := sesB_below HS1.out hB2
  rw [← hBa] at ha2
  rw [← hBb] at hs2
  have hlb := blk_lt hs2
  have hla := blk_lt ha2
  have HA2 := Lib.hid ha2; have HS2 := Lib.hid hs2
  have HB2 := Lib.hid (HB1.out.trans (hB2.mono HB1.out.size))
  rw [← hBb, ← hBa]
  clear ha2 hs2 hB2 HS1 HB1 hz1 hBb hBa
  go_wp2_with fail
  refine (snew_any 0 w2).mono ?_; rintro e w3 hq
  rcases hq with ⟨_, rfl, rfl⟩ | ⟨h, _⟩
  rotate_left
  · omega
  have hal : Below w3.heap.size w3 (w3.alloc (.cells #[.int .u8 9] 5)) := (Below.refl _ _).alloc (Nat.le_refl _) _
  have hh := held_rd (held_lit w3 [9] (by decide))
  go_wp2_with fail
  obtain ⟨W4, hW4⟩ : ∃ x, x = w3.alloc (.cells #[.int .u8 9] 5) := ⟨_, rfl⟩
  rw [← hW4] at hal ⊢
  have hh4 : Rd W4 (some ⟨w3.heap.size, 0, none⟩) 1 1 1 (u8s [9]) := by rw [hW4]; exact hh
  have HA4 := Lib.hid (sesB_below HA2.out hal); have HS4 := Lib.hid (sesB_below HS2.out hal)
  have HB4 := Lib.hid (HB2.out.trans (hal.mono HB2.out.size))
  have hz4 := hal.size
  clear hal hh hW4 HA2 HS2 HB2
  refine (ssend_any HA4.out (show (5 : Int) ≠ 0 by omega) _ 1 1 [9] hh4 (by simp [ses0, sesI]) (by simp [ses0, sesI])).mono ?_
  rintro e w5 hq
  have hq' : e = .returned (.int .i64 9) ∧ W4 = w5 := by
    rcases hq with ⟨h, _⟩ | ⟨_, _, h, h2⟩ | ⟨_, h, _⟩ | ⟨_, h, _⟩
    · omega
    · exact ⟨h, h2⟩
    · exact absurd rfl h
    · exact absurd rfl h
  obtain ⟨rfl, rfl⟩ := hq'
  clear hq hh4
  go_wp2_with fail
  refine (sout_one HA4.out (show (5 : Int) ≠ 0 by omega) (by simp [ses0, sesI]) (by simp [ses0, sesI]) (fun _ => []) (fun k hk => absurd hk (Nat.not_lt_zero k)) _ (out_ses0 5 _)).mono ?_
  rintro e w5 ⟨g5, cv5, A5, n5, c5, rfl, hs, hpk, hc⟩
  have HA5 := Lib.hid (show SesB w5 Ba (sesI 5 false) from hs)
  have HS5 := Lib.hid (sesB_ch HS4.out hc (fun e => hne e.symm))
  have HP5 := Lib.hid hpk
  have HB5 := Lib.hid (HB4.out.trans (hc.below (B := w.heap.size) HB4.out.size (fun k hk => by omega)))
  have hz5 := hc.size
  clear hs hpk hc HA4 HS4 HB4
  go_wp2_with fail
  refine (is_any HP5.out none 0 0 (held_nil _ _)).mono ?_; rintro e w6 ⟨rfl, hb⟩
  have HA6 := Lib.hid (sesB_below HA5.out hb); have HS6 := Lib.hid (sesB_below HS5.out hb); have HP6 := Lib.hid (packs_below HP5.out hb)
  have HB6 := Lib.hid (HB5.out.trans (hb.mono HB5.out.size))
  have hz6 := hb.size
  clear hb HA5 HS5 HP5 HB5
  obtain ⟨k0, k1, k2, k3, k4, hkr, hkn, hka⟩ := pk_cells HP6.out
  simp only [List.length_nil] at hkn
  subst hkn
  have HKR := Lib.hid hkr
  have hAq : ∀ a, A5 = some a → a.block ≠ Bb := fun a ha => by have := hka a ha; omega
  clear hkr hka
  simp only at k0 k1 k2 k3 k4
  go_wp2_with fail
  have hrv : recvS (ses0 7) 5 0 0 0 0 = (sesM 7 5 true, false) := recv_first 7 5 true (by omega) (by omega) (by omega)
  refine (srecv_plain HS6.out (show (7 : Int) ≠ 0 by omega) rfl (by simp [ses0, sesI]) (by simp [ses0, sesI]) (by simp [ses0, sesI]) (by simp [ses0, sesI]) (by simp [ses0, sesI]) (by simp [ses0, sesI]) 5 0 0 0 A5 0 c5 [] HKR.out hAq).mono ?_
  rintro e w7 ⟨rfl, hc, hq⟩
  rw [hrv] at hq
  rcases hq with ⟨_, hs⟩ | ⟨h, _⟩
  rotate_left
  · cases h
  have HS7 := Lib.hid hs
  have HA7 := Lib.hid (sesB_ch HA6.out hc hne)
  have HB7 := Lib.hid (HB6.out.trans (hc.below (B := w.heap.size) HB6.out.size (fun k hk => by omega)))
  have hz7 := hc.size
  clear hs hc hrv k0 k1 k2 k3 k4 HKR HP6 HA6 HS6 HB6 hAq
  go_wp2_with fail
  refine (sout_one HS7.out (show (7 : Int) ≠ 0 by omega) (by simp [sesM]) (by simp [sesM]) (fun _ => []) (fun k hk => absurd hk (Nat.not_lt_zero k)) _ (out_sesM 7 5 _)).mono ?_
  rintro e w8 ⟨g8, cv8, A8, n8, c8, rfl, hs, hpk, hc⟩
  have HS8 := Lib.hid (show SesB w8 Bb (sesM 7 5 false) from hs)
  have HA8 := Lib.hid (sesB_ch HA7.out hc hne)
  have HP8 := Lib.hid hpk
  have HB8 := Lib.hid (HB7.out.trans (hc.below (B := w.heap.size) HB7.out.size (fun k hk => by omega)))
  have hz8 := hc.size
  clear hs hpk hc HA7 HS7 HB7
  go_wp2_with fail
  refine (is_any HP8.out none 0 0 (held_nil _ _)).mono ?_; rintro e w9 ⟨rfl, hb⟩
  have HA9 := Lib.hid (sesB_below HA8.out hb); have HS9 := Lib.hid (sesB_below HS8.out hb); have HP9 := Lib.hid (packs_below HP8.out hb)
  have HB9 := Lib.hid (HB8.out.trans (hb.mono HB8.out.size))
  have hz9 := hb.size
  clear hb HA8 HS8 HP8 HB8
  obtain ⟨k0, k1, k2, k3, k4, hkr, hkn, hka⟩ := pk_cells HP9.out
  simp only [List.length_nil] at hkn
  subst hkn
  have HKR := Lib.hid hkr
  have hAq : ∀ a, A8 = some a → a.block ≠ Ba := fun a ha => by have := hka a ha; omega
  clear hkr hka
  simp only at k0 k1 k2 k3 k4
  go_wp2_with fail
  have hrv : recvS (sesI 5 false) 7 5 0 0 0 = (sesM 5 7 true, false) := recv_second 5 7 false (by omega) (by omega) (by omega)
  refine (srecv_plain HA9.out (show (5 : Int) ≠ 0 by omega) rfl (by simp [sesI]) (by simp [sesI]) (by simp [sesI]) (by simp [sesI]) (by simp [sesI]) (by simp [sesI]) 7 5 0 0 A8 0 c8 [] HKR.out hAq).mono ?_
  rintro e w10 ⟨rfl, hc, hq⟩
  rw [hrv] at hq
  rcases hq with ⟨_, hs⟩ | ⟨h, _⟩
  rotate_left
  · cases h
  have HA10 := Lib.hid hs
  have HS10 := Lib.hid (sesB_ch HS9.out hc (fun e => hne e.symm))
  have HB10 := Lib.hid (HB9.out.trans (hc.below (B := w.heap.size) HB9.out.size (fun k hk => by omega)))
  have hz10 := hc.size
  clear hs hc hrv k0 k1 k2 k3 k4 HKR HP9 HA9 HS9 HB9 hAq
  go_wp2_with fail
  refine (speer_any HA10.out (show (5 : Int) ≠ 0 by omega)).mono ?_; rintro e w11 ⟨rfl, rfl⟩
  rw [show (sesM 5 7 true).pe = 7 from rfl]
  have hal : Below w10.heap.size w10 (w10.alloc (.cells #[.int .u8 9] 5)) := (Below.refl _ _).alloc (Nat.le_refl _) _
  have hh := held_rd (held_lit w10 [9] (by decide))
  go_wp2_with fail
  obtain ⟨W11, hW11⟩ : ∃ x, x = w10.alloc (.cells #[.int .u8 9] 5) := ⟨_, rfl⟩
  rw [← hW11] at hal ⊢
  have hh11 : Rd W11 (some ⟨w10.heap.size, 0, none⟩) 1 1 1 (u8s [9]) := by rw [hW11]; exact hh
  have HA11 := Lib.hid (sesB_below HA10.out hal); have HS11 := Lib.hid (sesB_below HS10.out hal)
  have HB11 := Lib.hid (HB10.out.trans (hal.mono HB10.out.size))
  have hz11 := hal.size
  clear hal hh hW11 HA10 HS10 HB10
  refine (ssend_any HA11.out (show (5 : Int) ≠ 0 by omega) _ 1 1 [9] hh11 (by simp [sesM]) (by simp [sesM])).mono ?_
  rintro e w12 hq
  rcases hq with ⟨h, _⟩ | ⟨_, h, _⟩ | ⟨_, _, h, _⟩ | ⟨_, _, _, rfl, A', c', hs, hh, hc⟩
  · omega
  · have h' : (7 : Int) = 0 := h; omega
  · have h' : (0 : Nat) = 8 := h; omega
  have HA12 := Lib.hid (show SesB w12 Ba (sesQ 5 7 A' 1 c' false true) from hs)
  have HS12 := Lib.hid (sesB_ch HS11.out hc (fun e => hne e.symm))
  have HH12 := Lib.hid hh
  have HB12 := Lib.hid (HB11.out.trans (hc.below (B := w.heap.size) HB11.out.size (fun k hk => by omega)))
  have hz12 := hc.size
  have hA'a : ∀ a, A' = some a → a.block ≠ Ba ∧ a.block ≠ Bb := fun a ha => by have := (held_lt hh a ha).1; constructor <;> omega
  clear hs hh hc hh11 HA11 HS11 HB11
  have hmk := HMK.out w12
  have hal : Below w12.heap.size w12 (w12.alloc (.cells (madeB 401) 5)) := (Below.refl _ _).alloc (Nat.le_refl _) _
  have hbt := byt_made w12 5 401 (by omega)
  go_wp2_with fail
  obtain ⟨W13, hW13⟩ : ∃ x, x = w12.alloc (.cells (madeB 401) 5) := ⟨_, rfl⟩
  rw [← hW13] at hal hbt ⊢
  have HA13 := Lib.hid (sesB_below HA12.out hal); have HS13 := Lib.hid (sesB_below HS12.out hal); have HH13 := Lib.hid (held_ch HH12.out (Ch.of_below hal No) (fun _ _ => id))
  have HB13 := Lib.hid (HB12.out.trans (hal.mono HB12.out.size))
  have hz13 := hal.size
  have HR13 := Lib.hid (byt_rd hbt (List.length_replicate))
  clear hal hbt hmk hW13 HA12 HS12 HH12 HB12
  refine (ssend_any HA13.out (show (5 : Int) ≠ 0 by omega) _ 401 401 _ HR13.out (by simp [sesQ]) (by simp [sesQ])).mono ?_
  rintro e w14 hq
  have hq' : e = .returned (.int .i64 3) ∧ W13 = w14 := by
    rcases hq with ⟨_, h, h2⟩ | ⟨h, _⟩ | ⟨h, _⟩ | ⟨h, _⟩
    · exact ⟨h, h2⟩
    · omega
    · omega
    · omega
  obtain ⟨rfl, rfl⟩ := hq'
  clear hq HR13
  go_wp2_with fail
  have hrv : recvS (sesM 7 5 false) 5 7 1 0 1 = ({ sesM 7 5 false with ow := true, ca := 1 }, true) := by
    have h := recv_body (sesM 7 5 false) 5 1 1 rfl rfl (show (1 : Int) ≤ 7 by omega) (by omega) (by omega) (by omega) (by omega) (by omega)
    rw [if_pos (show (1 : Int) = (sesM 7 5 false).ca + 1 from rfl)] at h
    exact h
  refine (hands_one HA13.out HS13.out hne (show (5 : Int) ≠ 0 by omega) (by simp [sesQ]) (by simp [sesQ]) (fun _ => [9]) (fun k hk => by
    obtain rfl : k = 0 := by have h' : k < 1 := hk; omega
    exact ⟨held_rd HH13.out, show 1 ≤ 1000000 by omega, fun a ha => (hA'a a ha).1⟩) ⟨5, 7, 1, 0, [9]⟩ (out_sesQ 5 7 A' 1 c' true _) (show (7 : Int) ≠ 0 by omega) rfl (by simp [sesM]) (by simp [sesM]) (by simp [sesM]) (by simp [sesM]) (by simp [sesM]) (by simp [sesM])).mono ?_
  rintro e w15 ⟨rfl, ha15, hc15, hq⟩
  have ha15' : SesB w15 Ba (sesQ 5 7 A' 1 c' true false) := by
    have h' : SesB w15 Ba { sesQ 5 7 A' 1 c' false true with r := outR (sesQ 5 7 A' 1 c' false true) 1, ow := false } := ha15
    rw [ring_sesQ] at h'
    exact h'
  obtain ⟨v15, hb15⟩ : ∃ v15, SesB w15 Bb { sesM 7 5 false with ow := true, ca := 1, inn := v15 } := by
    rcases hq with ⟨h, _⟩ | ⟨_, v', _, _, h, _⟩
    · have h' : (recvS (sesM 7 5 false) 5 7 1 0 1).2 = false := h
      rw [hrv] at h'
      cases h'
    · have h' : SesB w15 Bb { (recvS (sesM 7 5 false) 5 7 1 0 1).1 with inn := v' } := h
      rw [hrv] at h'
      exact ⟨v', h'⟩
  have HA15 := Lib.hid ha15'; have HS15 := Lib.hid hb15
  have HB15 := Lib.hid (HB13.out.trans (hc15.below (B := w.heap.size) HB13.out.size (fun k hk => by omega)))
  have hz15 := hc15.size
  clear ha15 ha15' hb15 hc15 hq hrv HA13 HS13 HH13 HB13
  go_wp2_with fail
  refine (sout_one HS15.out (show (7 : Int) ≠ 0 by omega) (by simp [sesM]) (by simp [sesM]) (fun _ => []) (fun k hk => absurd hk (Nat.not_lt_zero k)) ⟨7, 5, 0, 1, []⟩ (by unfold outAll; rw [if_pos ⟨rfl, .inl rfl⟩]; rfl)).mono ?_
  rintro e w16 ⟨g16, cv16, A16, n16, c16, rfl, _, hpk, hc⟩
  have HA16 := Lib.hid (sesB_ch HA15.out hc hne)
  have HP16 := Lib.hid hpk
  have HB16 := Lib.hid (HB15.out.trans (hc.below (B := w.heap.size) HB15.out.size (fun k hk => by omega)))
  have hz16 := hc.size
  clear hpk hc HA15 HS15 HB15
  go_wp2_with fail
  refine (is_any HP16.out none 0 0 (held_nil _ _)).mono ?_; rintro e w17 ⟨rfl, hb⟩
  have HA17 := Lib.hid (sesB_below HA16.out hb); have HP17 := Lib.hid (packs_below HP16.out hb)
  have HB17 := Lib.hid (HB16.out.trans (hb.mono HB16.out.size))
  have hz17 := hb.size
  clear hb HA16 HP16 HB16
  obtain ⟨k0, k1, k2, k3, k4, hkr, hkn, hka⟩ := pk_cells HP17.out
  simp only [List.length_nil] at hkn
  subst hkn
  have HKR := Lib.hid hkr
  have hAq : ∀ a, A16 = some a → a.block ≠ Ba := fun a ha => by have := hka a ha; omega
  clear hkr hka
  simp only at k0 k1 k2 k3 k4
  go_wp2_with fail
  have hrv : ∃ s', recvS (sesQ 5 7 A' 1 c' true false) 7 5 0 1 0 = (s', false) ∧ s'.ep = 5 ∧ s'.ma = 0 := by
    have hack : (sesQ 5 7 A' 1 c' true false).acked 1 = { sesQ 5 7 A' 1 c' true false with ba := 2, ma := 0 } := by
      unfold Ses.acked
      rw [if_pos ⟨show ((1 : Nat) : Int) ≤ 1 by omega, show (1 : Int) < ((1 : Nat) : Int) + ((1 : Nat) : Int) by omega⟩]
      rfl
    refine ⟨{ sesQ 5 7 A' 1 c' true false with ba := 2, ma := 0 }, ?_, rfl, rfl⟩
    unfold recvS
    rw [if_neg (by unfold Bad sesQ; simp only; omega), if_neg (fun h => h rfl), if_pos rfl, if_neg (show ¬ (sesQ 5 7 A' 1 c' true false).pe < 7 from fun h => by have h' : (7 : Int) < 7 := h; omega), hack]
  obtain ⟨s', hrv, hs5, hs0⟩ := hrv
  refine (srecv_plain HA17.out (show (5 : Int) ≠ 0 by omega) rfl (by simp [sesQ]) (by simp [sesQ]) (by simp [sesQ]) (by simp [sesQ]) (by simp [sesQ]) (by simp [sesQ]) 7 5 0 1 A16 0 c16 [] HKR.out hAq).mono ?_
  rintro e w18 ⟨rfl, hc, hq⟩
  rw [hrv] at hq
  rcases hq with ⟨_, hs⟩ | ⟨h, _⟩
  rotate_left
  · cases h
  have HA18 := Lib.hid hs
  have HB18 := Lib.hid (HB17.out.trans (hc.below (B := w.heap.size) HB17.out.size (fun k hk => by omega)))
  have hz18 := hc.size
  clear hs hc hrv k0 k1 k2 k3 k4 HKR HP17 HA17 HB17 hAq
  go_wp2_with fail
  refine (awake21 w18).mono ?_; rintro e w19 ⟨rfl, hb⟩
  have HA19 := Lib.hid (sesB_below HA18.out hb)
  have HB19 := Lib.hid (HB18.out.trans (hb.mono HB18.out.size))
  clear hb HA18 HB18
  go_wp2_with fail
  refine (swait_any HA19.out (show s'.ep ≠ 0 by rw [hs5]; omega)).mono ?_; rintro e w20 ⟨rfl, rfl⟩
  rw [hs0]
  go_wp2
  go_ret
  exact ⟨rfl, HB19.out⟩
end Go.Proofs.Ytadcahnoghnkcaa
