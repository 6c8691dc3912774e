/- Walk: Raw and Text of the reference's reader. Conditions: the reader as Open made it; at most 10^9 bytes. -/
import Derived.Test.YtondodhpmghogaaR7
import Derived.Deep.RegionHeld3
import Derived.Deep.RegionLaw
namespace Go.Proofs.Ytondodhpmghogaa
open Go.RowKit
set_option linter.unusedVariables false
set_option linter.unusedSimpArgs false

def RRRawQ (w : World) (V : Nat) (A : Option Addr) (n c : Nat) (r : List UInt8 × Rdr) (e : Ending) (w' : World) : Prop := ∃ A' n' c', e = .returned (.slice A' n' c') ∧ Rd w' A' n' c' 1 (u8s r.1) ∧ (∀ a, A' = some a → w.heap.size ≤ a.block) ∧ RRd w' V A n c r.2 ∧ Ch (fun k => k = V) w w'
set_option maxRecDepth 100000 in
set_option maxHeartbeats 4000000 in
theorem rrraw_any {w : World} {V : Nat} {A : Option Addr} {n c : Nat} {s : Rdr} (h : RRd w V A n c s) (hn9 : n ≤ 1000000000) (m : Int) : Calls Try.prog 70 #[.pointer (some ⟨V, 0, none⟩), .int .i64 m] w (RRRawQ w V A n c (rraw s m)) := by
  have c1 : w.cell? ⟨V, 1, none⟩ = some (.int .i64 s.at_) := blk_cell h.blk 1 _ rfl
  have H := Lib.hid h
  have hqb := rnum_b s 0 4611686018427387903
  have hqr := rnum_range s 0 4611686018427387903
  have hqf := rnum_fit s 0 4611686018427387903 h.fit
  have hl := rrd_len h
  have hfit := rraw_fit s m h.fit
  have hraw : rraw s m = rrawB s.at_ m (rnum s 0 4611686018427387903) := by
    unfold rraw
    by_cases he : s.e ≠ 0
    · rw [if_pos he]
      have : rnum s 0 4611686018427387903 = (0, s) := by unfold rnum; rw [if_pos he]
      rw [this]; unfold rrawB; simp [he]
    · rw [if_neg he]
  rw [hraw] at hfit ⊢
  have hfrom := h.fit.le
  have hpl := h.fit.pl
  generalize hq : rnum s 0 4611686018427387903 = q at *
  obtain ⟨v, t⟩ := q
  simp only at hqb hqr hqf
  obtain ⟨U, rfl⟩ : ∃ U : Nat, v = U := ⟨v.toNat, by omega⟩
  have HQ := Lib.hid hq
  have hlt : t.b.length = n := by rw [hqb]; exact hl
  rw [hl] at hfrom
  have hfin := hqf.le
  rw [hlt] at hfin
  have HT := Lib.hid hqb
  clear h hq hqb hraw
  obtain ⟨r, hrr⟩ : ∃ r, r = rrawB s.at_ m ((U : Int), t) := ⟨_, rfl⟩
  rw [← hrr] at hfit ⊢
  have HF := Lib.hid hfit
  unfold rrawB at hrr
  simp only at hrr
  have HQF := Lib.hid hqf
  clear hfit hqf hpl
  by_cases he1 : t.e ≠ 0
  · rw [if_pos he1] at hrr
    have HRR := Lib.hid hrr
    have g2 : (t.e != 0) = true := by simpa using he1
    have g3 : (t.e == 0) = false := by simpa using he1
    clear hrr
    go_enter Try.func70, Try.ntmps70
    go_wp2_with fail
    refine (rn_any H.out 0 4611686018427387903).mono ?_
    rw [HQ.out]
    rintro e w2 ⟨rfl, hb2, hch2⟩
    have d0 : w2.cell? ⟨V, 0, none⟩ = some (.slice A n c) := blk_cell hb2.blk 0 _ rfl
    have d1 : w2.cell? ⟨V, 1, none⟩ = some (.int .i64 t.at_) := blk_cell hb2.blk 1 _ rfl
    have d2 : w2.cell? ⟨V, 2, none⟩ = some (.int .i64 t.e) := blk_cell hb2.blk 2 _ rfl
    have d3 : w2.cell? ⟨V, 3, none⟩ = some (.int .i64 t.p) := blk_cell hb2.blk 3 _ rfl
    have f1 : w2.frozen? ⟨V, 1, none⟩ = false := blk_thawed hb2.blk 1
    have HB2 := Lib.hid hb2; have HC2 := Lib.hid hch2
    clear hb2 hch2
    go_wp2_with fail
    go_quiet (fail)
    go_wp2_with fail
    go_ret
    have hrr := HRR.out
    subst hrr
    have hcc := ch_set (ch_drewN (fun k => k = V) w2 nq) ⟨V, 1, none⟩ (.int .i64 s.at_) rfl
    exact ⟨none, 0, 0, rfl, nil_rd _ _, (fun a ha => by cases ha), rrd_set HB2.out _ _ rfl HF.out hcc (blk_set (blk_ch HB2.out.blk (ch_drewN No w2 nq) id) 1 (.int .i64 s.at_)), HC2.out.trans hcc (fun i hi => .inl hi)⟩
  rw [if_neg he1] at hrr
  have he10 : t.e = 0 := Decidable.not_not.1 he1
  have g2 : (t.e != 0) = false := by simpa using he10
  have g3 : (t.e == 0) = true := by simpa using he10
  have HE := Lib.hid he10
  clear he1 he10
  by_cases hm : m < (U : Int)
  · rw [if_pos hm] at hrr
    have HRR := Lib.hid hrr
    have g4 : decide (m < (U : Int)) = true := decide_eq_true hm
    have hff : Fit ⟨t.b, t.at_, 3, s.at_⟩ := ⟨HQF.out.le, HQF.out.big, by rw [hlt]; simp; omega⟩
    have HFF := Lib.hid hff
    clear hrr hff
    go_enter Try.func70, Try.ntmps70
    go_wp2_with fail
    refine (rn_any H.out 0 4611686018427387903).mono ?_
    rw [HQ.out]
    rintro e w2 ⟨rfl, hb2, hch2⟩
    have d0 : w2.cell? ⟨V, 0, none⟩ = some (.slice A n c) := blk_cell hb2.blk 0 _ rfl
    have d1 : w2.cell? ⟨V, 1, none⟩ = some (.int .i64 t.at_) := blk_cell hb2.blk 1 _ rfl
    have d2 : w2.cell? ⟨V, 2, none⟩ = some (.int .i64 t.e) := blk_cell hb2.blk 2 _ rfl
    have d3 : w2.cell? ⟨V, 3, none⟩ = some (.int .i64 t.p) := blk_cell hb2.blk 3 _ rfl
    have f1 : w2.frozen? ⟨V, 1, none⟩ = false := blk_thawed hb2.blk 1
    have HB2 := Lib.hid hb2; have HC2 := Lib.hid hch2
    clear hb2 hch2
    go_wp2_with fail
    refine (fail_any HB2.out HE.out 3 s.at_ HFF.out).mono ?_
    rintro e w3 ⟨he3, hb3, hch3⟩
    cases he3
    have k0 : w3.cell? ⟨V, 0, none⟩ = some (.slice A n c) := blk_cell hb3.blk 0 _ rfl
    have k1 : w3.cell? ⟨V, 1, none⟩ = some (.int .i64 t.at_) := blk_cell hb3.blk 1 _ rfl
    have k2 : w3.cell? ⟨V, 2, none⟩ = some (.int .i64 3) := blk_cell hb3.blk 2 _ rfl
    have k3 : w3.frozen? ⟨V, 1, none⟩ = false := blk_thawed hb3.blk 1
    have HB3 := Lib.hid hb3; have HC3 := Lib.hid hch3
    clear hb3 hch3
    go_wp2_with fail
    go_quiet (fail)
    go_wp2_with fail
    go_ret
    have hrr := HRR.out
    subst hrr
    have hcc := ch_set (ch_drewN (fun k => k = V) w3 nq) ⟨V, 1, none⟩ (.int .i64 s.at_) rfl
    exact ⟨none, 0, 0, rfl, nil_rd _ _, (fun a ha => by cases ha), rrd_set HB3.out _ _ rfl HF.out hcc (blk_set (blk_ch HB3.out.blk (ch_drewN No w3 nq) id) 1 (.int .i64 s.at_)), (HC2.out.trans HC3.out (fun i hi => .inl hi)).trans hcc (fun i hi => .inl hi)⟩
  rw [if_neg hm] at hrr
  have g4 : decide (m < (U : Int)) = false := decide_eq_false hm
  have HMU := Lib.hid hm
  clear hm
  have hw1 : IntKind.i64.wrap ((n : Int) - t.at_) = (n : Int) - t.at_ := by rw [IntKind.wrap_i64]; omega
  by_cases hsh : (t.b.length : Int) < t.at_ + U
  · rw [if_pos hsh] at hrr
    rw [hlt] at hrr hsh
    have hsh' : (n : Int) - t.at_ < (U : Int) := by omega
    have g5 : decide ((n : Int) - t.at_ < (U : Int)) = true := decide_eq_true hsh'
    have hff : Fit ⟨t.b, t.at_, 4, n⟩ := ⟨HQF.out.le, HQF.out.big, by rw [hlt]; simp⟩
    have HFF := Lib.hid hff
    have HRR := Lib.hid hrr
    clear hrr hsh hff
    go_enter Try.func70, Try.ntmps70
    go_wp2_with fail
    refine (rn_any H.out 0 4611686018427387903).mono ?_
    rw [HQ.out]
    rintro e w2 ⟨rfl, hb2, hch2⟩
    have d0 : w2.cell? ⟨V, 0, none⟩ = some (.slice A n c) := blk_cell hb2.blk 0 _ rfl
    have d1 : w2.cell? ⟨V, 1, none⟩ = some (.int .i64 t.at_) := blk_cell hb2.blk 1 _ rfl
    have d2 : w2.cell? ⟨V, 2, none⟩ = some (.int .i64 t.e) := blk_cell hb2.blk 2 _ rfl
    have d3 : w2.cell? ⟨V, 3, none⟩ = some (.int .i64 t.p) := blk_cell hb2.blk 3 _ rfl
    have f1 : w2.frozen? ⟨V, 1, none⟩ = false := blk_thawed hb2.blk 1
    have HB2 := Lib.hid hb2; have HC2 := Lib.hid hch2
    clear hb2 hch2
    go_wp2_with fail
    go_quiet (fail)
    go_wp2_with fail
    refine (fail_any (rrd_ch HB2.out (ch_drewN No _ _) id (fun _ _ _ => id)) HE.out 4 n HFF.out).mono ?_
    rintro e w3 ⟨he3, hb3, hch3⟩
    cases he3
    have k0 : w3.cell? ⟨V, 0, none⟩ = some (.slice A n c) := blk_cell hb3.blk 0 _ rfl
    have k1 : w3.cell? ⟨V, 1, none⟩ = some (.int .i64 t.at_) := blk_cell hb3.blk 1 _ rfl
    have k2 : w3.cell? ⟨V, 2, none⟩ = some (.int .i64 4) := blk_cell hb3.blk 2 _ rfl
    have k3 : w3.frozen? ⟨V, 1, none⟩ = false := blk_thawed hb3.blk 1
    have HB3 := Lib.hid hb3; have HC3 := Lib.hid hch3
    clear hb3 hch3
    go_wp2_with fail
    go_ret
    have hrr := HRR.out
    subst hrr
    have hcc := ch_set (Ch.refl (fun k => k = V) w3) ⟨V, 1, none⟩ (.int .i64 s.at_) rfl
    exact ⟨none, 0, 0, rfl, nil_rd _ _, (fun a ha => by cases ha), rrd_set HB3.out _ _ rfl HF.out hcc (blk_set HB3.out.blk 1 (.int .i64 s.at_)), ((HC2.out.trans (ch_drewN No _ _) (fun _ h => False.elim h)).trans HC3.out (fun i hi => .inl hi)).trans hcc (fun i hi => .inl hi)⟩
  rw [if_neg hsh] at hrr
  rw [hlt] at hsh
  have hsh' : ¬ ((n : Int) - t.at_ < (U : Int)) := by omega
  have g5 : decide ((n : Int) - t.at_ < (U : Int)) = false := decide_eq_false hsh'
  have HRR := Lib.hid hrr
  have hb1 : IntKind.i64.wrap ((t.at_ : Int) + U) = (t.at_ : Int) + U := by rw [IntKind.wrap_i64]; omega
  have hb2' : IntKind.i64.wrap ((t.at_ : Int) + U - U) = (t.at_ : Int) := by rw [IntKind.wrap_i64]; omega
  have hlV : t.at_ + U ≤ n := by omega
  clear hrr hsh hsh'
  obtain ⟨lo, hlo⟩ : ∃ lo, lo = t.at_ := ⟨_, rfl⟩
  rw [← hlo] at hb1 hb2' g5 hw1 hfin hlV
  have HLO := Lib.hid hlo
  clear hlo
  have hcap := H.out.rd.cap
  cases hA : A with
  | none =>
    subst hA
    have HN := Lib.hid (show n = 0 ∧ c = 0 from ⟨(H.out.rd.nils rfl).1, (H.out.rd.nils rfl).2.1⟩)
    have hs9 : (n : Int) ≤ c := by omega
    go_enter Try.func70, Try.ntmps70
    go_wp2_with fail
    refine (rn_any H.out 0 4611686018427387903).mono ?_
    rw [HQ.out]
    rintro e w2 ⟨rfl, hb2, hch2⟩
    have d0 : w2.cell? ⟨V, 0, none⟩ = some (.slice none n c) := blk_cell hb2.blk 0 _ rfl
    have d1 : w2.cell? ⟨V, 1, none⟩ = some (.int .i64 lo) := by rw [HLO.out]; exact blk_cell hb2.blk 1 _ rfl
    have d2 : w2.cell? ⟨V, 2, none⟩ = some (.int .i64 t.e) := blk_cell hb2.blk 2 _ rfl
    have d3 : w2.cell? ⟨V, 3, none⟩ = some (.int .i64 t.p) := blk_cell hb2.blk 3 _ rfl
    have f1 : w2.frozen? ⟨V, 1, none⟩ = false := blk_thawed hb2.blk 1
    have hcut : Rd w2 none U (c - lo) 1 (u8s ((t.b.drop lo).take U)) := by
      have hV0 : U = 0 := by have := HN.out; omega
      have hc0 : c - lo = 0 := by have := HN.out; omega
      rw [hV0, hc0]; exact ⟨by simp, Nat.le_refl _, by omega, fun _ => rfl, fun j u hu => by simp [u8s] at hu⟩
    have hfar : ∀ x, (none : Option Addr) = some x → 0 < U → ¬ x.block = V := fun x hx _ => by cases hx
    have hbk := fun k => blk_set (blk_ch hb2.blk (ch_drewN No w2 k) id) 1 (.int .i64 ((lo : Int) + U))
    have hcutk := fun k => hcut.ch0 (ch_set (ch_drewN (fun k => k = V) w2 k) ⟨V, 1, none⟩ (.int .i64 ((lo : Int) + U)) rfl) hfar
    have hD := fun k => ch_set (ch_drewN (fun k => k = V) w2 k) ⟨V, 1, none⟩ (.int .i64 ((lo : Int) + U)) rfl
    have HBK := Lib.hid hbk; have HCUT := Lib.hid hcutk; have HD := Lib.hid hD
    have hVlt := rrd_lt hb2
    have HB2 := Lib.hid hb2; have HC2 := Lib.hid hch2
    clear hb2 hch2
    clear hcut hcutk hbk hfar hD
    have hs1 : (0 : Int) ≤ (lo : Int) := by omega
    have hs2 : (lo : Int) ≤ (lo : Int) + U := by omega
    have hs3 : (lo : Int) + U ≤ (c : Int) := by omega
    have hs4 : (0 : Int) ≤ (lo : Int) + U := by omega
    have hs5 : IntKind.i64.wrap (lo : Int) = (lo : Int) := by rw [IntKind.wrap_i64]; omega
    have hs6 : max ((lo : Int) + U) 0 = (lo : Int) + U := by omega
    have hs7 : ((lo : Int) + U).toNat = lo + U := by omega
    go_wp2_with fail
    go_quiet (fail)
    go_wp2_with fail
    have hBK := HBK.out nq; have hCUT := HCUT.out nq; have hDD := HD.out nq
    have hVlt5 : V < ((w2.drewN nq).setCell ⟨V, 1, none⟩ (.int .i64 ((lo : Int) + U))).heap.size := by simp; omega
    have hz5 : w2.heap.size = ((w2.drewN nq).setCell ⟨V, 1, none⟩ (.int .i64 ((lo : Int) + U))).heap.size := by simp
    obtain ⟨w5, hw5⟩ : ∃ x, x = (w2.drewN nq).setCell ⟨V, 1, none⟩ (.int .i64 ((lo : Int) + U)) := ⟨_, rfl⟩
    rw [← hw5] at hBK hCUT hDD hz5 hVlt5 ⊢
    clear hw5
    have hBK6 := blk_ch (blk_ch hBK (Ch.drew w5 No) id) (Ch.alloc w5.drew (.cells #[] 5) No) id
    have e0 := blk_cell hBK 0 _ rfl
    have e1 := blk_cell hBK 1 _ rfl
    have k0 := blk_cell hBK6 0 _ rfl
    have k1 := blk_cell hBK6 1 _ rfl
    have HB5 := Lib.hid hBK; have HC5 := Lib.hid hCUT; have HD5 := Lib.hid hDD; have HB6 := Lib.hid hBK6
    clear hBK hBK6 hCUT hDD
    go_region_held3 (fun W => W.cell? ⟨V, 0, none⟩ = some (.slice none n c) ∧ W.cell? ⟨V, 1, none⟩ = some (.int .i64 ((lo : Int) + U)))
      (first | exact ⟨e0, e1⟩ | exact ⟨k0, k1⟩ | exact ⟨x0, x1⟩)
      (first | (refine step_app_b _ rfl (.tmp 73) (.tmp 88) 26 rfl 5 Try.underlying26 info5 w5.heap.size 0 0 [] (by simp [Act.eval, Act.put]) (byt_none w5.drew 5) rfl none U (c - lo) ((t.b.drop lo).take U) (by simp [Act.eval, Act.put]) ((HC5.out.ch (Ch.drew _ No) (fun _ _ => id)).ch (Ch.alloc _ _ No) (fun _ _ => id)) (by omega) ?_; intro g1 c1' w6 hb6 hat6 hch6; have hbk7 := blk_ch HB6.out hch6 (Nat.ne_of_lt hVlt5); have x0 := blk_cell hbk7 0 _ rfl; have x1 := blk_cell hbk7 1 _ rfl))
    all_goals
      go_wp2
      go_ret
      have hr1 : r = ((t.b.drop lo).take U, ⟨t.b, lo + U, t.e, t.p⟩) := by rw [HRR.out, HLO.out]; simp
      subst hr1
      have hge : w5.heap.size ≤ g1 := by
        rcases hat6 with ⟨h, _⟩ | ⟨h, _⟩
        · omega
        · rw [h]; simp
      have hc56 : Ch No w5 w6 := ((Ch.drew w5 No).trans (Ch.alloc _ _ No) (fun _ h => h.elim)).trans hch6 (fun i hi => .inr (by omega))
      have hlen : ((t.b.drop lo).take U).length = U := by rw [List.length_take, List.length_drop, hlt]; omega
      have hcc : Ch (fun k => k = V) w2 w6 := HD5.out.trans hc56 (fun _ h => False.elim h)
      have hsz := HC2.out.size
      refine ⟨some ⟨g1, 0, none⟩, U, c1', rfl, byt_rd (by simpa using hb6) hlen, (fun a ha => by cases ha; simp; omega), rrd_set HB2.out _ _ rfl HF.out hcc ?_, HC2.out.trans hcc (fun i hi => .inl hi)⟩
      have e9 : ((lo + U : Nat) : Int) = (lo : Int) + U := by omega
      simp only [e9]
      exact blk_ch HB5.out hc56 id
  | some a =>
    subst hA
    by_cases hca : c = lo
    · obtain rfl : lo = c := hca.symm
      have HV0 := Lib.hid (show U = 0 by omega)
      go_enter Try.func70, Try.ntmps70
      go_wp2_with fail
      refine (rn_any H.out 0 4611686018427387903).mono ?_
      rw [HQ.out]
      rintro e w2 ⟨rfl, hb2, hch2⟩
      have d0 : w2.cell? ⟨V, 0, none⟩ = some (.slice (some a) n lo) := blk_cell hb2.blk 0 _ rfl
      have d1 : w2.cell? ⟨V, 1, none⟩ = some (.int .i64 lo) := by rw [HLO.out]; exact blk_cell hb2.blk 1 _ rfl
      have d2 : w2.cell? ⟨V, 2, none⟩ = some (.int .i64 t.e) := blk_cell hb2.blk 2 _ rfl
      have d3 : w2.cell? ⟨V, 3, none⟩ = some (.int .i64 t.p) := blk_cell hb2.blk 3 _ rfl
      have f1 : w2.frozen? ⟨V, 1, none⟩ = false := blk_thawed hb2.blk 1
      have hcut : Rd w2 (some a) U 0 1 (u8s ((t.b.drop lo).take U)) := by
        have hV0 : U = 0 := HV0.out
        rw [hV0]; exact ⟨by simp, Nat.le_refl _, by omega, (fun e => by cases e), fun j u hu => by simp [u8s] at hu⟩
      have hfar : ∀ x, some a = some x → 0 < U → ¬ x.block = V := fun x hx h0 => hb2.far x hx (by omega)
      have hbk := fun k => blk_set (blk_ch hb2.blk (ch_drewN No w2 k) id) 1 (.int .i64 ((lo : Int) + U))
      have hcutk := fun k => hcut.ch0 (ch_set (ch_drewN (fun k => k = V) w2 k) ⟨V, 1, none⟩ (.int .i64 ((lo : Int) + U)) rfl) hfar
      have hD := fun k => ch_set (ch_drewN (fun k => k = V) w2 k) ⟨V, 1, none⟩ (.int .i64 ((lo : Int) + U)) rfl
      have HBK := Lib.hid hbk; have HCUT := Lib.hid hcutk; have HD := Lib.hid hD
      have hVlt := rrd_lt hb2
      have HB2 := Lib.hid hb2; have HC2 := Lib.hid hch2
      clear hb2 hch2
      clear hcut hcutk hbk hfar hD
      have hs1 : (0 : Int) ≤ (lo : Int) := by omega
      have hs2 : (lo : Int) ≤ (lo : Int) + U := by omega
      have hs3 : (lo : Int) + U ≤ (lo : Int) := by omega
      have hs4 : (0 : Int) ≤ (lo : Int) + U := by omega
      have hs5 : IntKind.i64.wrap (lo : Int) = (lo : Int) := by rw [IntKind.wrap_i64]; omega
      have hs6 : max ((lo : Int) + U) 0 = (lo : Int) + U := by omega
      have hs7 : ((lo : Int) + U).toNat = lo + U := by omega
      go_wp2_with fail
      go_quiet (fail)
      go_wp2_with fail
      have hBK := HBK.out nq; have hCUT := HCUT.out nq; have hDD := HD.out nq
      have hVlt5 : V < ((w2.drewN nq).setCell ⟨V, 1, none⟩ (.int .i64 ((lo : Int) + U))).heap.size := by simp; omega
      have hz5 : w2.heap.size = ((w2.drewN nq).setCell ⟨V, 1, none⟩ (.int .i64 ((lo : Int) + U))).heap.size := by simp
      obtain ⟨w5, hw5⟩ : ∃ x, x = (w2.drewN nq).setCell ⟨V, 1, none⟩ (.int .i64 ((lo : Int) + U)) := ⟨_, rfl⟩
      rw [← hw5] at hBK hCUT hDD hz5 hVlt5 ⊢
      clear hw5
      have hBK6 := blk_ch (blk_ch hBK (Ch.drew w5 No) id) (Ch.alloc w5.drew (.cells #[] 5) No) id
      have e0 := blk_cell hBK 0 _ rfl
      have e1 := blk_cell hBK 1 _ rfl
      have k0 := blk_cell hBK6 0 _ rfl
      have k1 := blk_cell hBK6 1 _ rfl
      have HB5 := Lib.hid hBK; have HC5 := Lib.hid hCUT; have HD5 := Lib.hid hDD; have HB6 := Lib.hid hBK6
      clear hBK hBK6 hCUT hDD
      go_region_held3 (fun W => W.cell? ⟨V, 0, none⟩ = some (.slice (some a) n lo) ∧ W.cell? ⟨V, 1, none⟩ = some (.int .i64 ((lo : Int) + U)))
        (first | exact ⟨e0, e1⟩ | exact ⟨k0, k1⟩ | exact ⟨x0, x1⟩)
        (first | (refine step_app_b _ rfl (.tmp 73) (.tmp 88) 26 rfl 5 Try.underlying26 info5 w5.heap.size 0 0 [] (by simp [Act.eval, Act.put]) (byt_none w5.drew 5) rfl (some a) U (0) ((t.b.drop lo).take U) (by simp [Act.eval, Act.put]) ((HC5.out.ch (Ch.drew _ No) (fun _ _ => id)).ch (Ch.alloc _ _ No) (fun _ _ => id)) (by omega) ?_; intro g1 c1' w6 hb6 hat6 hch6; have hbk7 := blk_ch HB6.out hch6 (Nat.ne_of_lt hVlt5); have x0 := blk_cell hbk7 0 _ rfl; have x1 := blk_cell hbk7 1 _ rfl))
      all_goals
        go_wp2
        go_ret
        have hr1 : r = ((t.b.drop lo).take U, ⟨t.b, lo + U, t.e, t.p⟩) := by rw [HRR.out, HLO.out]; simp
        subst hr1
        have hge : w5.heap.size ≤ g1 := by
          rcases hat6 with ⟨h, _⟩ | ⟨h, _⟩
          · omega
          · rw [h]; simp
        have hc56 : Ch No w5 w6 := ((Ch.drew w5 No).trans (Ch.alloc _ _ No) (fun _ h => h.elim)).trans hch6 (fun i hi => .inr (by omega))
        have hlen : ((t.b.drop lo).take U).length = U := by rw [List.length_take, List.length_drop, hlt]; omega
        have hcc : Ch (fun k => k = V) w2 w6 := HD5.out.trans hc56 (fun _ h => False.elim h)
        have hsz := HC2.out.size
        refine ⟨some ⟨g1, 0, none⟩, U, c1', rfl, byt_rd (by simpa using hb6) hlen, (fun a ha => by cases ha; simp; omega), rrd_set HB2.out _ _ rfl HF.out hcc ?_, HC2.out.trans hcc (fun i hi => .inl hi)⟩
        have e9 : ((lo + U : Nat) : Int) = (lo : Int) + U := by omega
        simp only [e9]
        exact blk_ch HB5.out hc56 id
    · go_enter Try.func70, Try.ntmps70
      go_wp2_with fail
      refine (rn_any H.out 0 4611686018427387903).mono ?_
      rw [HQ.out]
      rintro e w2 ⟨rfl, hb2, hch2⟩
      have d0 : w2.cell? ⟨V, 0, none⟩ = some (.slice (some a) n c) := blk_cell hb2.blk 0 _ rfl
      have d1 : w2.cell? ⟨V, 1, none⟩ = some (.int .i64 lo) := by rw [HLO.out]; exact blk_cell hb2.blk 1 _ rfl
      have d2 : w2.cell? ⟨V, 2, none⟩ = some (.int .i64 t.e) := blk_cell hb2.blk 2 _ rfl
      have d3 : w2.cell? ⟨V, 3, none⟩ = some (.int .i64 t.p) := blk_cell hb2.blk 3 _ rfl
      have f1 : w2.frozen? ⟨V, 1, none⟩ = false := blk_thawed hb2.blk 1
      have hcut : Rd w2 (some (a.add lo)) U (c - lo) 1 (u8s ((t.b.drop lo).take U)) := by
        have := hb2.rd.cut lo U hlV _ rfl
        simpa [u8s_take, u8s_drop] using this
      have hfar : ∀ x, some (a.add lo) = some x → 0 < U → ¬ x.block = V := fun x hx h0 e => by cases hx; exact hb2.far a rfl (by omega) ((by unfold Addr.add; split <;> rfl : (a.add lo).block = a.block) ▸ e)
      have hbk := fun k => blk_set (blk_ch hb2.blk (ch_drewN No w2 k) id) 1 (.int .i64 ((lo : Int) + U))
      have hcutk := fun k => hcut.ch0 (ch_set (ch_drewN (fun k => k = V) w2 k) ⟨V, 1, none⟩ (.int .i64 ((lo : Int) + U)) rfl) hfar
      have hD := fun k => ch_set (ch_drewN (fun k => k = V) w2 k) ⟨V, 1, none⟩ (.int .i64 ((lo : Int) + U)) rfl
      have HBK := Lib.hid hbk; have HCUT := Lib.hid hcutk; have HD := Lib.hid hD
      have hVlt := rrd_lt hb2
      have HB2 := Lib.hid hb2; have HC2 := Lib.hid hch2
      clear hb2 hch2
      clear hcut hcutk hbk hfar hD
      have hs1 : (0 : Int) ≤ (lo : Int) := by omega
      have hs2 : (lo : Int) ≤ (lo : Int) + U := by omega
      have hs3 : (lo : Int) + U ≤ (c : Int) := by omega
      have hs4 : (0 : Int) ≤ (lo : Int) + U := by omega
      have hs5 : IntKind.i64.wrap (lo : Int) = (lo : Int) := by rw [IntKind.wrap_i64]; omega
      have hs6 : max ((lo : Int) + U) 0 = (lo : Int) + U := by omega
      have hs7 : ((lo : Int) + U).toNat = lo + U := by omega
      go_wp2_with fail
      go_quiet (fail)
      go_wp2_with fail
      have hBK := HBK.out nq; have hCUT := HCUT.out nq; have hDD := HD.out nq
      have hVlt5 : V < ((w2.drewN nq).setCell ⟨V, 1, none⟩ (.int .i64 ((lo : Int) + U))).heap.size := by simp; omega
      have hz5 : w2.heap.size = ((w2.drewN nq).setCell ⟨V, 1, none⟩ (.int .i64 ((lo : Int) + U))).heap.size := by simp
      obtain ⟨w5, hw5⟩ : ∃ x, x = (w2.drewN nq).setCell ⟨V, 1, none⟩ (.int .i64 ((lo : Int) + U)) := ⟨_, rfl⟩
      rw [← hw5] at hBK hCUT hDD hz5 hVlt5 ⊢
      clear hw5
      have hBK6 := blk_ch (blk_ch hBK (Ch.drew w5 No) id) (Ch.alloc w5.drew (.cells #[] 5) No) id
      have e0 := blk_cell hBK 0 _ rfl
      have e1 := blk_cell hBK 1 _ rfl
      have k0 := blk_cell hBK6 0 _ rfl
      have k1 := blk_cell hBK6 1 _ rfl
      have HB5 := Lib.hid hBK; have HC5 := Lib.hid hCUT; have HD5 := Lib.hid hDD; have HB6 := Lib.hid hBK6
      clear hBK hBK6 hCUT hDD
      go_region_held3 (fun W => W.cell? ⟨V, 0, none⟩ = some (.slice (some a) n c) ∧ W.cell? ⟨V, 1, none⟩ = some (.int .i64 ((lo : Int) + U)))
        (first | exact ⟨e0, e1⟩ | exact ⟨k0, k1⟩ | exact ⟨x0, x1⟩)
        (first | (refine step_app_b _ rfl (.tmp 73) (.tmp 88) 26 rfl 5 Try.underlying26 info5 w5.heap.size 0 0 [] (by simp [Act.eval, Act.put]) (byt_none w5.drew 5) rfl (some (a.add lo)) U (c - lo) ((t.b.drop lo).take U) (by simp [Act.eval, Act.put]) ((HC5.out.ch (Ch.drew _ No) (fun _ _ => id)).ch (Ch.alloc _ _ No) (fun _ _ => id)) (by omega) ?_; intro g1 c1' w6 hb6 hat6 hch6; have hbk7 := blk_ch HB6.out hch6 (Nat.ne_of_lt hVlt5); have x0 := blk_cell hbk7 0 _ rfl; have x1 := blk_cell hbk7 1 _ rfl))
      all_goals
        go_wp2
        go_ret
        have hr1 : r = ((t.b.drop lo).take U, ⟨t.b, lo + U, t.e, t.p⟩) := by rw [HRR.out, HLO.out]; simp
        subst hr1
        have hge : w5.heap.size ≤ g1 := by
          rcases hat6 with ⟨h, _⟩ | ⟨h, _⟩
          · omega
          · rw [h]; simp
        have hc56 : Ch No w5 w6 := ((Ch.drew w5 No).trans (Ch.alloc _ _ No) (fun _ h => h.elim)).trans hch6 (fun i hi => .inr (by omega))
        have hlen : ((t.b.drop lo).take U).length = U := by rw [List.length_take, List.length_drop, hlt]; omega
        have hcc : Ch (fun k => k = V) w2 w6 := HD5.out.trans hc56 (fun _ h => False.elim h)
        have hsz := HC2.out.size
        refine ⟨some ⟨g1, 0, none⟩, U, c1', rfl, byt_rd (by simpa using hb6) hlen, (fun a ha => by cases ha; simp; omega), rrd_set HB2.out _ _ rfl HF.out hcc ?_, HC2.out.trans hcc (fun i hi => .inl hi)⟩
        have e9 : ((lo + U : Nat) : Int) = (lo : Int) + U := by omega
        simp only [e9]
        exact blk_ch HB5.out hc56 id

def RRTextQ (w : World) (V : Nat) (A : Option Addr) (n c : Nat) (r : List UInt8 × Rdr) (e : Ending) (w' : World) : Prop := e = .returned (.string ⟨r.1.toArray⟩) ∧ RRd w' V A n c r.2 ∧ Ch (fun k => k = V) w w'
set_option maxRecDepth 100000 in
set_option maxHeartbeats 4000000 in
theorem rrtext_any {w : World} {V : Nat} {A : Option Addr} {n c : Nat} {s : Rdr} (h : RRd w V A n c s) (hn9 : n ≤ 1000000000) (m : Int) : Calls Try.prog 69 #[.pointer (some ⟨V, 0, none⟩), .int .i64 m] w (RRTextQ w V A n c (rraw s m)) := by
  have H := Lib.hid h
  clear h
  generalize hr : rraw s m = r
  have HR := Lib.hid hr
  clear hr
  go_enter Try.func69, Try.ntmps69
  go_wp2_with fail
  refine (rrraw_any H.out hn9 m).mono ?_
  rw [HR.out]
  rintro e w1 ⟨A', n', c', rfl, hh, hfar, hb, hch⟩
  have e1 := hh.str (P := Try.prog) 26 5 9 Try.underlying26 Try.underlying5 Try.underlying9
  have HB := Lib.hid hb; have HC := Lib.hid hch
  clear hh hb hch hfar
  go_wp2
  go_ret
  exact ⟨rfl, HB.out, HC.out⟩
end Go.Proofs.Ytondodhpmghogaa
