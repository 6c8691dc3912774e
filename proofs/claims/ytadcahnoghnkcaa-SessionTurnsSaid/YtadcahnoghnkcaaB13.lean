/- Walk: some of chapter 18's examples (awake). No conditions. -/
import Derived.Test.YtadcahnoghnkcaaB12
namespace Go.Proofs.Ytadcahnoghnkcaa
open Go.RowKit
set_option linter.unusedVariables false
set_option linter.unusedSimpArgs false

def AwakeQ (w : World) (e : Ending) (w' : World) : Prop := e = .returned (.bool true) ∧ Below w.heap.size w w'
theorem lists_one (w : World) (base : Nat) (p : List UInt8 × Option Addr × Nat × Nat) (h : Held w base p.2.1 p.2.2.1 p.2.2.2 p.1) (hb : base ≤ w.heap.size) : Lists (w.alloc (.cells #[slc p] 27)) base (.slice (some ⟨w.heap.size, 0, none⟩) 1 1) [p] := by
  refine ⟨?_, fun q hq => ?_⟩
  · exact (row_lit w #[slc p] 27 1 1 rfl (by decide)).own (base := base) (n := 1) hb rfl (Nat.le_refl _)
  · rw [List.mem_singleton] at hq
    subst hq
    exact ⟨held_ch h (Ch.alloc _ _ No) (fun _ _ => id), fun a ha e => by have := (held_lt h a ha).2; have e' : w.heap.size = a.block := by injection e
                                                                         omega⟩
theorem held_lit (w : World) (l : List UInt8) (h : l.length ≤ 9223372036854775807) : Held (w.alloc (.cells (u8s l).toArray 5)) w.heap.size (some ⟨w.heap.size, 0, none⟩) l.length l.length l := .inr ⟨_, rfl, byt_lit w l 5 h, rfl, Nat.le_refl _⟩
/-- a session with one body in its queue -/
def sesQ (ep pe : Int) (A : Option Addr) (n c : Nat) (o : Bool) (ow : Bool) : Ses := ⟨ep, pe, upd (fun _ => ⟨none, 0, 0, false, 0⟩) 1 ⟨A, n, c, o, 0⟩, 1, 1, 0, ow, .slice none 0 0, 1⟩
theorem out_sesQ (ep pe : Int) (A : Option Addr) (n c : Nat) (ow : Bool) (bd : Nat → List UInt8) : outAll (sesQ ep pe A n c false ow) bd = [⟨ep, pe, 1, 0, bd 0⟩] := by
  have h : outL (sesQ ep pe A n c false ow) bd (sesQ ep pe A n c false ow).ma = [⟨ep, pe, 1, 0, bd 0⟩] := rfl
  unfold outAll
  rw [h, if_neg (fun h => by simp at h)]
theorem ring_sesQ (ep pe : Int) (A : Option Addr) (n c : Nat) (ow : Bool) : outR (sesQ ep pe A n c false ow) 1 = (sesQ ep pe A n c true ow).r := by
  show upd (upd (fun _ => ⟨none, 0, 0, false, 0⟩) 1 ⟨A, n, c, false, 0⟩) 1 ⟨A, n, c, true, 0⟩ = _
  rw [upd_upd]
  rfl
theorem out_again (ep pe : Int) (A : Option Addr) (n c : Nat) (bd : Nat → List UInt8) (h : pe ≠ 0) : outAll (sesQ ep pe A n c true false) bd = [] := by
  have h1 : outL (sesQ ep pe A n c true false) bd (sesQ ep pe A n c true false).ma = [] := rfl
  unfold outAll
  rw [h1, if_neg (fun h2 => h2.2.elim (fun h3 => by cases h3) h)]
theorem recv_body (s : Ses) (fr nu : Int) (n : Nat) (hpe : s.pe = fr) (hba : s.ba = 1) (hep : 1 ≤ s.ep) (h1 : 1 ≤ fr) (h2 : fr ≤ 1099511627776) (hn : n ≤ 400) (hu : 1 ≤ nu) (hu2 : nu ≤ 1099511627776) :
    recvS s fr s.ep nu 0 n = if nu = s.ca + 1 then ({ s with ow := true, ca := nu }, true) else ({ s with ow := true }, false) := by
  have hack : s.acked 0 = s := by unfold Ses.acked; rw [if_neg (fun h => by have h1 := h.1; rw [hba] at h1; omega)]
  unfold recvS
  rw [if_neg (by unfold Bad; omega), if_neg (fun h => h rfl), if_neg (show ¬ nu = 0 by omega), if_neg (show ¬ s.pe < fr by omega), hack]

set_option maxRecDepth 100000 in
set_option maxHeartbeats 4000000 in
theorem awake21 (w : World) : Calls Try.prog 21 #[] w (AwakeQ w) := by
  go_enter Try.func21, Try.ntmps21
  go_wp2_with fail
  refine (met_any 5 7 w (by omega) (by omega) (by omega) (by omega)).mono ?_; rintro e w1 ⟨Ba, Bb, rfl, hBa, hBb, hne, hs1, hs2, hB1⟩
  have hla := blk_lt hs1
  have hlb := blk_lt hs2
  have hal : Below w1.heap.size w1 (w1.alloc (.cells #[.int .u8 9] 5)) := (Below.refl _ _).alloc (Nat.le_refl _) _
  have HA1 := Lib.hid (sesB_below hs1 hal); have HS1 := Lib.hid (sesB_below hs2 hal)
  have HB1 := Lib.hid (hB1.trans (hal.mono hB1.size))
  have HR1 := Lib.hid (held_rd (held_lit w1 [9] (by decide)))
  have hz1 : (w1.alloc (.cells #[.int .u8 9] 5)).heap.size = w1.heap.size + 1 := by simp
  clear hs1 hs2 hB1 hal
  go_wp2_with fail
  obtain ⟨W1, hW1⟩ : ∃ x, x = w1.alloc (.cells #[.int .u8 9] 5) := ⟨_, rfl⟩
  rw [← hW1] at HA1 HS1 HB1 hz1 ⊢
  have HR2 : Hid (Rd W1 (some ⟨w1.heap.size, 0, none⟩) 1 1 1 (u8s [9])) := Lib.hid (by rw [hW1]; exact HR1.out)
  clear HR1 hW1
  refine (ssend_any HA1.out (show (5 : Int) ≠ 0 by omega) _ 1 1 [9] HR2.out (by simp [sesM]) (by simp [sesM])).mono ?_
  rintro e w2 hq
  rcases hq with ⟨h, _⟩ | ⟨_, h, _⟩ | ⟨_, _, h, _⟩ | ⟨_, _, _, rfl, A', c', hs, hh, hc⟩
  · omega
  · have h' : (7 : Int) = 0 := h; omega
  · have h' : (0 : Nat) = 8 := h; omega
  have HA2 := Lib.hid (show SesB w2 Ba (sesQ 5 7 A' 1 c' false true) from hs)
  have HS2 := Lib.hid (sesB_ch HS1.out hc (fun e => hne e.symm))
  have HH2 := Lib.hid hh
  have HB2 := Lib.hid (HB1.out.trans (hc.below (B := w.heap.size) HB1.out.size (fun k hk => by omega)))
  have hz2 := hc.size
  clear hs hh hc HA1 HS1 HB1 HR2
  go_wp2_with fail
  refine (swait_any HA2.out (show (5 : Int) ≠ 0 by omega)).mono ?_; rintro e w3 ⟨rfl, rfl⟩
  rw [show (((sesQ 5 7 A' 1 c' false true).ma : Nat) : Int) = 1 from rfl]
  go_wp2_with fail
  have hA'a : ∀ a, A' = some a → a.block ≠ Ba := fun a ha => by have := (held_lt HH2.out a ha).1; omega
  refine (sout_any HA2.out (show (5 : Int) ≠ 0 by omega) (by simp [sesQ]) (by simp [sesQ]) (fun _ => [9]) (fun k hk => by
    obtain rfl : k = 0 := by have h' : k < 1 := hk; omega
    exact ⟨held_rd HH2.out, show 1 ≤ 1000000 by omega, hA'a⟩)).mono ?_
  rintro e w4 ⟨v, ps, rfl, hs4, hpk, hmap, hc4⟩
  rw [out_sesQ] at hmap
  have hlen : ps.length = 1 := by have := congrArg List.length hmap; simpa using this
  obtain ⟨q, rfl⟩ : ∃ q, ps = [q] := by
    match ps, hlen with
    | [q], _ => exact ⟨q, rfl⟩
  obtain ⟨p', q⟩ := q
  have hpp : p' = ⟨5, 7, 1, 0, [9]⟩ := by simpa using hmap
  subst hpp
  have hs4' : SesB w4 Ba (sesQ 5 7 A' 1 c' true false) := by
    have h' : SesB w4 Ba { sesQ 5 7 A' 1 c' false true with r := outR (sesQ 5 7 A' 1 c' false true) 1, ow := false } := hs4
    rw [ring_sesQ] at h'
    exact h'
  have HA4 := Lib.hid hs4'
  have HS4 := Lib.hid (sesB_ch HS2.out hc4 (fun e => hne e.symm))
  have HH4 := Lib.hid (held_ch HH2.out hc4 (fun a ha e => hA'a a ha e))
  have HB4 := Lib.hid (HB2.out.trans (hc4.below (B := w.heap.size) HB2.out.size (fun k hk => by omega)))
  have HPK := Lib.hid hpk
  have hz4 := hc4.size
  clear hs4 hs4' hpk hc4 hmap HA2 HS2 HH2 HB2
  have hal : Below w4.heap.size w4 (w4.alloc (.cells #[.int .u8 9] 5)) := (Below.refl _ _).alloc (Nat.le_refl _) _
  have hh9 := held_lit w4 [9] (by decide)
  go_wp2_with fail
  obtain ⟨W5, hW5⟩ : ∃ x, x = w4.alloc (.cells #[.int .u8 9] 5) := ⟨_, rfl⟩
  rw [← hW5] at hal ⊢
  have hh9' : Held W5 w4.heap.size (some ⟨w4.heap.size, 0, none⟩) 1 1 [9] := by rw [hW5]; exact hh9
  have HH9 := Lib.hid (held_base (mid := 0) hh9' (fun _ _ => Nat.zero_le _))
  have HPK5 := Lib.hid (packs_below HPK.out hal)
  have HA5 := Lib.hid (sesB_below HA4.out hal); have HS5 := Lib.hid (sesB_below HS4.out hal); have HH5 := Lib.hid (held_ch HH4.out (Ch.of_below hal No) (fun _ _ => id))
  have HB5 := Lib.hid (HB4.out.trans (hal.mono HB4.out.size))
  have hz5 := hal.size
  clear hh9 hh9' hW5 hal HPK HA4 HS4 HH4 HB4
  refine (is_any HPK5.out _ 1 1 HH9.out).mono ?_; rintro e w6 ⟨rfl, hb6⟩
  have HPK6 := Lib.hid (packs_below HPK5.out hb6)
  have HA6 := Lib.hid (sesB_below HA5.out hb6); have HS6 := Lib.hid (sesB_below HS5.out hb6); have HH6 := Lib.hid (held_ch HH5.out (Ch.of_below hb6 No) (fun _ _ => id))
  have HB6 := Lib.hid (HB5.out.trans (hb6.mono HB5.out.size))
  have hz6 := hb6.size
  clear hb6 HPK5 HA5 HS5 HH5 HB5 HH9
  go_wp2_with fail
  refine (sout_any HA6.out (show (5 : Int) ≠ 0 by omega) (by simp [sesQ]) (by simp [sesQ]) (fun _ => [9]) (fun k hk => by
    obtain rfl : k = 0 := by have h' : k < 1 := hk; omega
    exact ⟨held_rd HH6.out, show 1 ≤ 1000000 by omega, hA'a⟩)).mono ?_
  rintro e w7 ⟨v7, ps7, rfl, _, hpk7, hmap7, hc7⟩
  rw [out_again _ _ _ _ _ _ (by omega)] at hmap7
  obtain rfl : ps7 = [] := by simpa using hmap7
  obtain ⟨A7, c7, rfl, _⟩ := own_form hpk7.own
  have HPK7 := Lib.hid (packs_ch HPK6.out hc7 (fun k h1 _ e => by omega))
  have HS7 := Lib.hid (sesB_ch HS6.out hc7 (fun e => hne e.symm))
  have HB7 := Lib.hid (HB6.out.trans (hc7.below (B := w.heap.size) HB6.out.size (fun k hk => by omega)))
  have hz7 := hc7.size
  clear hpk7 hmap7 hc7 HPK6 HA6 HS6 HH6 HB6
  obtain ⟨g, cv, rfl, _, _, _⟩ := own_row HPK7.out.own (own_some HPK7.out.own (by simp))
  obtain ⟨q', hq', k0, k1, k2, k3, k4, hk⟩ := packs_get HPK7.out (k := 0) (by simp)
  simp only [List.getElem?_cons_zero, Option.some.injEq] at hq'
  subst hq'
  obtain ⟨Aq, nq, cq⟩ := q
  simp only [Nat.zero_mul, Nat.zero_add] at k0 k1 k2 k3 k4 hk
  have HK7 := Lib.hid (held_rd hk)
  have hAq : ∀ a, Aq = some a → a.block ≠ Bb := fun a ha => by have := (held_lt hk a ha).1; omega
  have hnq : nq = 1 := (held_len hk).symm
  subst hnq
  clear hk
  go_wp2_with fail
  have hrv : recvS (sesM 7 5 false) 5 7 1 0 1 = ({ sesM 7 5 false with ow := true, ca := 1 }, true) := by
    have h := recv_body (sesM 7 5 false) 5 1 1 rfl rfl (show (1 : Int) ≤ 7 by omega) (by omega) (by omega) (by omega) (by omega) (by omega)
    rw [if_pos (show (1 : Int) = (sesM 7 5 false).ca + 1 from rfl)] at h
    exact h
  refine (srecv_plain HS7.out (show (7 : Int) ≠ 0 by omega) rfl (by simp [sesM]) (by simp [sesM]) (by simp [sesM]) (by simp [sesM]) (by simp [sesM]) (by simp [sesM]) 5 7 1 0 Aq 1 cq [9] HK7.out hAq).mono ?_
  rintro e w8 ⟨rfl, hc8, hq8⟩
  rw [hrv] at hq8
  rcases hq8 with ⟨h, _⟩ | ⟨_, v8, A8, c8, hs8, hl8⟩
  · cases h
  have HS8 := Lib.hid hs8; have HL8 := Lib.hid hl8
  have HPK8 := Lib.hid (packs_ch HPK7.out hc8 (fun k h1 _ e => by omega))
  have HB8 := Lib.hid (HB7.out.trans (hc8.below (B := w.heap.size) HB7.out.size (fun k hk => by omega)))
  have hz8 := hc8.size
  clear hs8 hl8 hc8 hrv k0 k1 k2 k3 k4 HPK7 HS7 HB7 HK7
  go_wp2_with fail
  refine (stake_any HS8.out (show (7 : Int) ≠ 0 by omega)).mono ?_; rintro e w9 ⟨rfl, hs9, hc9⟩
  rw [show ({ ({ sesM 7 5 false with ow := true, ca := 1 } : Ses) with inn := v8 } : Ses).inn = v8 from rfl]
  have HS9 := Lib.hid (show SesB w9 Bb { sesM 7 5 false with ow := true, ca := 1 } from hs9)
  have HL9 := Lib.hid (lists_ch HL8.out hc9 (fun k h1 _ e => by omega))
  have HPK9 := Lib.hid (packs_ch HPK8.out hc9 (fun k h1 _ e => by omega))
  have HB9 := Lib.hid (HB8.out.trans (hc9.below (B := w.heap.size) HB8.out.size (fun k hk => by omega)))
  have hz9 := hc9.size
  clear hs9 hc9 HS8 HL8 HPK8 HB8
  obtain ⟨q', hq', k0, k1, k2, k3, k4, hk⟩ := packs_get HPK9.out (k := 0) (by simp)
  simp only [List.getElem?_cons_zero, Option.some.injEq] at hq'
  subst hq'
  simp only [Nat.zero_mul, Nat.zero_add] at k0 k1 k2 k3 k4 hk
  have HK9 := Lib.hid (held_rd hk)
  clear hk
  go_wp2_with fail
  have hrv : recvS { sesM 7 5 false with ow := true, ca := 1 } 5 7 1 0 1 = ({ sesM 7 5 false with ow := true, ca := 1 }, false) := by
    have h := recv_body { sesM 7 5 false with ow := true, ca := 1 } 5 1 1 rfl rfl (show (1 : Int) ≤ 7 by omega) (by omega) (by omega) (by omega) (by omega) (by omega)
    rw [if_neg (show ¬ (1 : Int) = (1 : Int) + 1 by omega)] at h
    exact h
  refine (srecv_plain HS9.out (show (7 : Int) ≠ 0 by omega) rfl (by simp [sesM]) (by simp [sesM]) (by simp) (by simp) (by simp [sesM]) (by simp [sesM]) 5 7 1 0 Aq 1 cq [9] HK9.out hAq).mono ?_
  rintro e w10 ⟨rfl, hc10, hq10⟩
  rw [hrv] at hq10
  rcases hq10 with ⟨_, hs10⟩ | ⟨h, _⟩
  rotate_left
  · cases h
  have HS10 := Lib.hid hs10
  have HL10 := Lib.hid (lists_ch HL9.out hc10 (fun k h1 _ e => by omega))
  have HB10 := Lib.hid (HB9.out.trans (hc10.below (B := w.heap.size) HB9.out.size (fun k hk => by omega)))
  have hz10 := hc10.size
  clear hs10 hc10 hrv k0 k1 k2 k3 k4 HPK9 HS9 HB9 HK9 HL9
  have hh := held_lit w10 [9] (by decide)
  have hal : Below w10.heap.size w10 ((w10.alloc (.cells #[.int .u8 9] 5)).alloc (.cells #[.slice (some ⟨w10.heap.size, 0, none⟩) 1 1] 27)) := ((Below.refl _ _).alloc (Nat.le_refl _) _).alloc (by simp) _
  have hz11 : (w10.alloc (.cells #[.int .u8 9] 5)).heap.size = w10.heap.size + 1 := by simp
  have hl11 := lists_one (w10.alloc (.cells #[.int .u8 9] 5)) w10.heap.size ([9], some ⟨w10.heap.size, 0, none⟩, 1, 1) hh (by omega)
  rw [hz11] at hl11
  have HL11 := Lib.hid hl11
  have HL12 := Lib.hid (lists_ch HL10.out (Ch.of_below hal No) (fun _ _ _ => id))
  have HS12 := Lib.hid (sesB_below HS10.out hal)
  have HB12 := Lib.hid (HB10.out.trans (hal.mono HB10.out.size))
  clear hh hal hl11 HL10 HS10 HB10
  go_wp2_with fail
  refine (sameLs_any HL12.out HL11.out rfl (by simp)).mono ?_; rintro e w13 ⟨rfl, hc13⟩
  have HS13 := Lib.hid (sesB_ch HS12.out hc13 id)
  have HB13 := Lib.hid (HB12.out.trans (hc13.below HB12.out.size (fun _ h => h.elim)))
  have hz13 := hc13.size
  clear hc13 HS12 HB12 HL11 HL12
  go_wp2_with fail
  refine (stake_any HS13.out (show (7 : Int) ≠ 0 by omega)).mono ?_; rintro e w14 ⟨rfl, _, hc14⟩
  rw [show ({ sesM 7 5 false with ow := true, ca := 1 } : Ses).inn = .slice none 0 0 from rfl]
  have HB14 := Lib.hid (HB13.out.trans (hc14.below (B := w.heap.size) HB13.out.size (fun k hk => by omega)))
  clear hc14
  go_wp2
  go_ret
  exact ⟨rfl, HB14.out⟩
end Go.Proofs.Ytadcahnoghnkcaa
