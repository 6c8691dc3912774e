/- Walk: Raw of the reader. Conditions: the reader is as Open made it; at most 10^9 bytes. -/
import Derived.Test.YtondodhpmghogaaV7
import Derived.Deep.RegionHeld3
namespace Go.Proofs.Ytondodhpmghogaa
open Go.RowKit
set_option linter.unusedVariables false
set_option linter.unusedSimpArgs false

def RRawQ (w : World) (R : Nat) (A : Option Addr) (n c : Nat) (r : List UInt8 × Rdr) (e : Ending) (w' : World) : Prop := ∃ A' n' c', e = .returned (.slice A' n' c') ∧ Held w' w.heap.size A' n' c' r.1 ∧ RdB w' R A n c r.2 ∧ Ch (fun k => k = R) w w'
theorem held_in {w w' : World} {B : Nat} {A : Option Addr} {n c : Nat} {x : List UInt8} (h : Held w' w.heap.size A n c x) (hb : B ≤ w.heap.size) : Held w' B A n c x := by
  rcases h with h | ⟨g, rfl, h1, h2, h3⟩
  · exact .inl h
  · exact .inr ⟨g, rfl, h1, h2, by omega⟩
set_option maxRecDepth 100000 in
set_option maxHeartbeats 4000000 in
theorem raw_any {w : World} {R : Nat} {A : Option Addr} {n c : Nat} {s : Rdr} (h : RdB w R A n c s) (hn9 : n ≤ 1000000000) (m : Int) : Calls Try.prog 39 #[.pointer (some ⟨R, 0, none⟩), .int .i64 m] w (RRawQ w R A n c (rraw s m)) := by
  have c0 : w.cell? ⟨R, 0, none⟩ = some (.bool true) := blk_cell h.blk 0 _ rfl
  have c2 : w.cell? ⟨R, 2, none⟩ = some (.int .i64 s.at_) := blk_cell h.blk 2 _ rfl
  have c3 : w.cell? ⟨R, 3, none⟩ = some (.int .i64 s.e) := blk_cell h.blk 3 _ rfl
  have H := Lib.hid h
  by_cases he : s.e ≠ 0
  · have g1 : (s.e != 0) = true := by simpa using he
    have hr : rraw s m = ([], s) := by unfold rraw; rw [if_pos he]
    rw [hr]
    clear hr h
    go_enter Try.func39, Try.ntmps39
    go_wp2_with (first | (go_at_call 71; refine (none_any c0).mono ?_; rintro e w1 ⟨rfl, rfl⟩))
    go_ret
    exact ⟨none, 0, 0, rfl, held_nil _ _, H.out, Ch.refl _ _⟩
  have he0 : s.e = 0 := Decidable.not_not.1 he
  have g1 : (s.e != 0) = false := by simpa using he0
  have hr : rraw s m = rrawB s.at_ m (rnum s 0 4611686018427387903) := by unfold rraw; rw [if_neg he]
  have hfit := rraw_fit s m h.fit
  rw [hr] at hfit ⊢
  have hqb := rnum_b s 0 4611686018427387903
  have hqr := rnum_range s 0 4611686018427387903
  have hl := rdb_len h
  clear he hr
  generalize hq : rnum s 0 4611686018427387903 = q at *
  obtain ⟨v, t⟩ := q
  simp only at hqb hqr
  obtain ⟨V, rfl⟩ : ∃ V : Nat, v = V := ⟨v.toNat, by omega⟩
  have HQ := Lib.hid hq
  have hfrom := h.fit.le
  rw [hl] at hfrom
  have hlt : t.b.length = n := by rw [hqb]; exact hl
  clear h hq hqb
  obtain ⟨r, hrr⟩ : ∃ r, r = rrawB s.at_ m ((V : Int), t) := ⟨_, rfl⟩
  rw [← hrr] at hfit ⊢
  have HF := Lib.hid hfit
  unfold rrawB at hrr
  simp only at hrr
  clear hfit
  by_cases he1 : t.e ≠ 0
  · rw [if_pos he1] at hrr
    have HRR := Lib.hid hrr
    have g2 : (t.e != 0) = true := by simpa using he1
    clear hrr
    go_enter Try.func39, Try.ntmps39
    go_wp2_with (first | (go_at_call 71; refine (none_any c0).mono ?_; rintro e w1 ⟨rfl, rfl⟩))
    refine (num_any H.out 0 4611686018427387903).mono ?_
    rw [HQ.out]
    rintro e w2 ⟨rfl, hb2, hch2⟩
    have d2 : w2.cell? ⟨R, 2, none⟩ = some (.int .i64 t.at_) := blk_cell hb2.blk 2 _ rfl
    have d3 : w2.cell? ⟨R, 3, none⟩ = some (.int .i64 t.e) := blk_cell hb2.blk 3 _ rfl
    have f2 : w2.frozen? ⟨R, 2, none⟩ = false := blk_thawed hb2.blk 2
    have HB2 := Lib.hid hb2; have HC2 := Lib.hid hch2
    clear hb2 hch2
    go_wp2_with fail
    go_ret
    have hrr := HRR.out
    subst hrr
    exact ⟨none, 0, 0, rfl, held_nil _ _, rdb_set HB2.out _ _ rfl HF.out (Ch.setCell w2 ⟨R, 2, none⟩ _) (blk_set HB2.out.blk 2 (.int .i64 s.at_)), ch_set HC2.out ⟨R, 2, none⟩ _ rfl⟩
  rw [if_neg he1] at hrr
  have he10 : t.e = 0 := Decidable.not_not.1 he1
  have g2 : (t.e != 0) = false := by simpa using he10
  clear he1
  by_cases hm : m < (V : Int)
  · rw [if_pos hm] at hrr
    have HRR := Lib.hid hrr
    have g3 : decide (m < (V : Int)) = true := decide_eq_true hm
    clear hrr
    go_enter Try.func39, Try.ntmps39
    go_wp2_with (first | (go_at_call 71; refine (none_any c0).mono ?_; rintro e w1 ⟨rfl, rfl⟩))
    refine (num_any H.out 0 4611686018427387903).mono ?_
    rw [HQ.out]
    rintro e w2 ⟨rfl, hb2, hch2⟩
    have d2 : w2.cell? ⟨R, 2, none⟩ = some (.int .i64 t.at_) := blk_cell hb2.blk 2 _ rfl
    have d3 : w2.cell? ⟨R, 3, none⟩ = some (.int .i64 t.e) := blk_cell hb2.blk 3 _ rfl
    have d4 : w2.cell? ⟨R, 4, none⟩ = some (.int .i64 t.p) := blk_cell hb2.blk 4 _ rfl
    have f2 : w2.frozen? ⟨R, 2, none⟩ = false := blk_thawed hb2.blk 2
    have f3 : w2.frozen? ⟨R, 3, none⟩ = false := blk_thawed hb2.blk 3
    have f4 : w2.frozen? ⟨R, 4, none⟩ = false := blk_thawed hb2.blk 4
    have HB2 := Lib.hid hb2; have HC2 := Lib.hid hch2
    clear hb2 hch2
    go_wp2_with fail
    go_ret
    have hrr := HRR.out
    subst hrr
    exact ⟨none, 0, 0, rfl, held_nil _ _, rdb_set HB2.out _ _ rfl HF.out (ch_set (ch_set (ch_set (Ch.refl (fun k => k = R) w2) ⟨R, 3, none⟩ (.int .i64 3) rfl) ⟨R, 4, none⟩ (.int .i64 s.at_) rfl) ⟨R, 2, none⟩ (.int .i64 s.at_) rfl) (blk_set (blk_set (blk_set HB2.out.blk 3 (.int .i64 3)) 4 (.int .i64 s.at_)) 2 (.int .i64 s.at_)), ch_set (ch_set (ch_set HC2.out ⟨R, 3, none⟩ _ rfl) ⟨R, 4, none⟩ _ rfl) ⟨R, 2, none⟩ _ rfl⟩
  rw [if_neg hm] at hrr
  have g3 : decide (m < (V : Int)) = false := decide_eq_false hm
  clear hm
  have hfin := (rnum_fit s 0 4611686018427387903 H.out.fit).le
  rw [HQ.out] at hfin
  simp only at hfin
  rw [hlt] at hfin
  have hw1 : IntKind.i64.wrap ((n : Int) - t.at_) = (n : Int) - t.at_ := by rw [IntKind.wrap_i64]; omega
  by_cases hsh : (t.b.length : Int) < t.at_ + V
  · rw [if_pos hsh] at hrr
    rw [hlt] at hrr hsh
    have hsh' : (n : Int) - t.at_ < (V : Int) := by omega
    have g4 : decide ((n : Int) - t.at_ < (V : Int)) = true := decide_eq_true hsh'
    have HRR := Lib.hid hrr
    clear hrr hsh hsh'
    go_enter Try.func39, Try.ntmps39
    go_wp2_with (first | (go_at_call 71; refine (none_any c0).mono ?_; rintro e w1 ⟨rfl, rfl⟩))
    refine (num_any H.out 0 4611686018427387903).mono ?_
    rw [HQ.out]
    rintro e w2 ⟨rfl, hb2, hch2⟩
    have d1 : w2.cell? ⟨R, 1, none⟩ = some (.slice A n c) := blk_cell hb2.blk 1 _ rfl
    have d2 : w2.cell? ⟨R, 2, none⟩ = some (.int .i64 t.at_) := blk_cell hb2.blk 2 _ rfl
    have d3 : w2.cell? ⟨R, 3, none⟩ = some (.int .i64 t.e) := blk_cell hb2.blk 3 _ rfl
    have d4 : w2.cell? ⟨R, 4, none⟩ = some (.int .i64 t.p) := blk_cell hb2.blk 4 _ rfl
    have f2 : w2.frozen? ⟨R, 2, none⟩ = false := blk_thawed hb2.blk 2
    have f3 : w2.frozen? ⟨R, 3, none⟩ = false := blk_thawed hb2.blk 3
    have f4 : w2.frozen? ⟨R, 4, none⟩ = false := blk_thawed hb2.blk 4
    have HB2 := Lib.hid hb2; have HC2 := Lib.hid hch2
    clear hb2 hch2
    go_wp2_with fail
    go_quiet (fail)
    go_wp2_with fail
    go_ret
    have hrr := HRR.out
    subst hrr
    exact ⟨none, 0, 0, rfl, held_nil _ _, rdb_set HB2.out _ _ rfl HF.out (ch_set (ch_set (ch_set (ch_drewN (fun k => k = R) _ _) ⟨R, 3, none⟩ (.int .i64 4) rfl) ⟨R, 4, none⟩ (.int .i64 n) rfl) ⟨R, 2, none⟩ (.int .i64 s.at_) rfl) (blk_set (blk_set (blk_set (blk_ch HB2.out.blk (ch_drewN No _ _) id) 3 (.int .i64 4)) 4 (.int .i64 n)) 2 (.int .i64 s.at_)), ch_set (ch_set (ch_set (HC2.out.trans (ch_drewN No _ _) (fun _ h => h.elim)) ⟨R, 3, none⟩ _ rfl) ⟨R, 4, none⟩ _ rfl) ⟨R, 2, none⟩ _ rfl⟩
  rw [if_neg hsh] at hrr
  rw [hlt] at hsh
  have hsh' : ¬ ((n : Int) - t.at_ < (V : Int)) := by omega
  have g4 : decide ((n : Int) - t.at_ < (V : Int)) = false := decide_eq_false hsh'
  have HRR := Lib.hid hrr
  have hb1 : IntKind.i64.wrap ((t.at_ : Int) + V) = (t.at_ : Int) + V := by rw [IntKind.wrap_i64]; omega
  have hb2' : IntKind.i64.wrap ((t.at_ : Int) + V - V) = (t.at_ : Int) := by rw [IntKind.wrap_i64]; omega
  have hlV : t.at_ + V ≤ n := by omega
  clear hrr hsh hsh'
  obtain ⟨lo, hlo⟩ : ∃ lo, lo = t.at_ := ⟨_, rfl⟩
  rw [← hlo] at hb1 hb2' g4 hw1 hfin hlV
  have HLO := Lib.hid hlo
  clear hlo
  have hcap := H.out.rd.cap
  cases hA : A with
  | none =>
    subst hA
    have HN := Lib.hid (show n = 0 ∧ c = 0 from ⟨(H.out.rd.nils rfl).1, (H.out.rd.nils rfl).2.1⟩)
    have hs9 : (n : Int) ≤ c := by omega
    go_enter Try.func39, Try.ntmps39
    go_wp2_with (first | (go_at_call 71; refine (none_any c0).mono ?_; rintro e w1 ⟨rfl, rfl⟩))
    refine (num_any H.out 0 4611686018427387903).mono ?_
    rw [HQ.out]
    rintro e w2 ⟨rfl, hb2, hch2⟩
    have d1 : w2.cell? ⟨R, 1, none⟩ = some (.slice none n c) := blk_cell hb2.blk 1 _ rfl
    have d2 : w2.cell? ⟨R, 2, none⟩ = some (.int .i64 lo) := by rw [HLO.out]; exact blk_cell hb2.blk 2 _ rfl
    have d3 : w2.cell? ⟨R, 3, none⟩ = some (.int .i64 t.e) := blk_cell hb2.blk 3 _ rfl
    have f2 : w2.frozen? ⟨R, 2, none⟩ = false := blk_thawed hb2.blk 2
    have hcut : Rd w2 none V (c - lo) 1 (u8s ((t.b.drop lo).take V)) := by
      have hV0 : V = 0 := by have := HN.out; omega
      have hc0 : c - lo = 0 := by have := HN.out; omega
      rw [hV0, hc0]; exact ⟨by simp, Nat.le_refl _, by omega, fun _ => rfl, fun j u hu => by simp [u8s] at hu⟩
    have hfar : ∀ x, (none : Option Addr) = some x → ¬ x.block = R := fun x hx => by cases hx
    have hbk : ∀ k, Blk ((w2.drewN k).setCell ⟨R, 2, none⟩ (.int .i64 ((lo : Int) + V))) R 63 #[.bool true, .slice none n c, .int .i64 ((lo : Int) + V), .int .i64 t.e, .int .i64 t.p] := fun k => blk_set (blk_ch hb2.blk (ch_drewN No _ k) id) 2 _
    have HBK := Lib.hid hbk
    have HCUT := Lib.hid (fun k => hcut.ch (ch_set (ch_drewN (fun k => k = R) w2 k) ⟨R, 2, none⟩ (.int .i64 ((lo : Int) + V)) rfl) hfar)
    have HB2 := Lib.hid hb2; have HC2 := Lib.hid hch2
    clear hb2 hch2 hcut hbk hfar
    go_wp2_with fail
    go_quiet (fail)
    have hs1 : (0 : Int) ≤ (lo : Int) := by omega
    have hs2 : (lo : Int) ≤ (lo : Int) + V := by omega
    have hs3 : (lo : Int) + V ≤ (c : Int) := by omega
    have hs4 : (0 : Int) ≤ (lo : Int) + V := by omega
    have hs5 : IntKind.i64.wrap (lo : Int) = (lo : Int) := by rw [IntKind.wrap_i64]; omega
    have hs6 : max ((lo : Int) + V) 0 = (lo : Int) + V := by omega
    have hs7 : ((lo : Int) + V).toNat = lo + V := by omega
    go_wp2_with fail
    have e1 := blk_cell (HBK.out nq) 1 _ rfl
    have e2 := blk_cell (HBK.out nq) 2 _ rfl
    go_region_held3 (fun W => W.cell? ⟨R, 1, none⟩ = some (.slice none n c) ∧ W.cell? ⟨R, 2, none⟩ = some (.int .i64 ((lo : Int) + V)))
      (first | exact ⟨e1, e2⟩ | exact ⟨below_cell hb6 e1, below_cell hb6 e2⟩)
      (first | (go_at_call 66; refine (clone_held _ _ _ _ _ ((HCUT.out nq).ch (Ch.drew _ No) (fun _ _ => id)) (by omega)).mono ?_; rintro e w6 ⟨A6, c6, rfl, hh6, hb6⟩))
    go_wp2
    go_ret
    have hr1 : r = ((t.b.drop lo).take V, ⟨t.b, lo + V, t.e, t.p⟩) := by rw [HRR.out, HLO.out]; simp
    have hD : Ch (fun k => k = R) w2 (((w2.drewN nq).setCell ⟨R, 2, none⟩ (.int .i64 ((lo : Int) + V))).drew) := (ch_set (ch_drewN (fun k => k = R) w2 nq) ⟨R, 2, none⟩ _ rfl).trans (Ch.drew _ No) (fun _ h => False.elim h)
    have hcc : Ch (fun k => k = R) w2 w6 := hD.trans (Ch.of_below hb6 No) (fun _ h => False.elim h)
    have hbl := blk_ch (blk_ch (HBK.out nq) (Ch.drew _ No) id) (Ch.of_below hb6 No) id
    have hsz := HC2.out.size
    have hsz2 := hD.size
    clear e1 e2
    subst hr1
    refine ⟨A6, _, c6, rfl, held_in (by simpa using hh6) (by omega), rdb_set HB2.out _ _ rfl HF.out hcc ?_, HC2.out.trans hcc (fun i hi => .inl hi)⟩
    have e9 : ((lo + V : Nat) : Int) = (lo : Int) + V := by omega
    simp only [e9]
    exact hbl
  | some a =>
    subst hA
    by_cases hca : c = lo
    · obtain rfl : lo = c := hca.symm
      have HV0 := Lib.hid (show V = 0 by omega)
      go_enter Try.func39, Try.ntmps39
      go_wp2_with (first | (go_at_call 71; refine (none_any c0).mono ?_; rintro e w1 ⟨rfl, rfl⟩))
      refine (num_any H.out 0 4611686018427387903).mono ?_
      rw [HQ.out]
      rintro e w2 ⟨rfl, hb2, hch2⟩
      have d1 : w2.cell? ⟨R, 1, none⟩ = some (.slice (some a) n lo) := blk_cell hb2.blk 1 _ rfl
      have d2 : w2.cell? ⟨R, 2, none⟩ = some (.int .i64 lo) := by rw [HLO.out]; exact blk_cell hb2.blk 2 _ rfl
      have d3 : w2.cell? ⟨R, 3, none⟩ = some (.int .i64 t.e) := blk_cell hb2.blk 3 _ rfl
      have f2 : w2.frozen? ⟨R, 2, none⟩ = false := blk_thawed hb2.blk 2
      have hcut : Rd w2 (some a) V 0 1 (u8s ((t.b.drop lo).take V)) := by
        have hV0 : V = 0 := HV0.out
        rw [hV0]; exact ⟨by simp, Nat.le_refl _, by omega, (fun e => by cases e), fun j u hu => by simp [u8s] at hu⟩
      have hfar : ∀ x, some a = some x → ¬ x.block = R := hb2.far
      have hbk : ∀ k, Blk ((w2.drewN k).setCell ⟨R, 2, none⟩ (.int .i64 ((lo : Int) + V))) R 63 #[.bool true, .slice (some a) n lo, .int .i64 ((lo : Int) + V), .int .i64 t.e, .int .i64 t.p] := fun k => blk_set (blk_ch hb2.blk (ch_drewN No _ k) id) 2 _
      have HBK := Lib.hid hbk
      have HCUT := Lib.hid (fun k => hcut.ch (ch_set (ch_drewN (fun k => k = R) w2 k) ⟨R, 2, none⟩ (.int .i64 ((lo : Int) + V)) rfl) hfar)
      have HB2 := Lib.hid hb2; have HC2 := Lib.hid hch2
      clear hb2 hch2 hcut hbk hfar
      go_wp2_with fail
      go_quiet (fail)
      have hs1 : (0 : Int) ≤ (lo : Int) := by omega
      have hs2 : (lo : Int) ≤ (lo : Int) + V := by omega
      have hs3 : (lo : Int) + V ≤ (lo : Int) := by omega
      have hs4 : (0 : Int) ≤ (lo : Int) + V := by omega
      have hs5 : IntKind.i64.wrap (lo : Int) = (lo : Int) := by rw [IntKind.wrap_i64]; omega
      have hs6 : max ((lo : Int) + V) 0 = (lo : Int) + V := by omega
      have hs7 : ((lo : Int) + V).toNat = lo + V := by omega
      go_wp2_with fail
      have e1 := blk_cell (HBK.out nq) 1 _ rfl
      have e2 := blk_cell (HBK.out nq) 2 _ rfl
      go_region_held3 (fun W => W.cell? ⟨R, 1, none⟩ = some (.slice (some a) n lo) ∧ W.cell? ⟨R, 2, none⟩ = some (.int .i64 ((lo : Int) + V)))
        (first | exact ⟨e1, e2⟩ | exact ⟨below_cell hb6 e1, below_cell hb6 e2⟩)
        (first | (go_at_call 66; refine (clone_held _ _ _ _ _ ((HCUT.out nq).ch (Ch.drew _ No) (fun _ _ => id)) (by omega)).mono ?_; rintro e w6 ⟨A6, c6, rfl, hh6, hb6⟩))
      go_wp2
      go_ret
      have hr1 : r = ((t.b.drop lo).take V, ⟨t.b, lo + V, t.e, t.p⟩) := by rw [HRR.out, HLO.out]; simp
      have hD : Ch (fun k => k = R) w2 (((w2.drewN nq).setCell ⟨R, 2, none⟩ (.int .i64 ((lo : Int) + V))).drew) := (ch_set (ch_drewN (fun k => k = R) w2 nq) ⟨R, 2, none⟩ _ rfl).trans (Ch.drew _ No) (fun _ h => False.elim h)
      have hcc : Ch (fun k => k = R) w2 w6 := hD.trans (Ch.of_below hb6 No) (fun _ h => False.elim h)
      have hbl := blk_ch (blk_ch (HBK.out nq) (Ch.drew _ No) id) (Ch.of_below hb6 No) id
      have hsz := HC2.out.size
      have hsz2 := hD.size
      clear e1 e2
      subst hr1
      refine ⟨A6, _, c6, rfl, held_in (by simpa using hh6) (by omega), rdb_set HB2.out _ _ rfl HF.out hcc ?_, HC2.out.trans hcc (fun i hi => .inl hi)⟩
      have e9 : ((lo + V : Nat) : Int) = (lo : Int) + V := by omega
      simp only [e9]
      exact hbl
    · go_enter Try.func39, Try.ntmps39
      go_wp2_with (first | (go_at_call 71; refine (none_any c0).mono ?_; rintro e w1 ⟨rfl, rfl⟩))
      refine (num_any H.out 0 4611686018427387903).mono ?_
      rw [HQ.out]
      rintro e w2 ⟨rfl, hb2, hch2⟩
      have d1 : w2.cell? ⟨R, 1, none⟩ = some (.slice (some a) n c) := blk_cell hb2.blk 1 _ rfl
      have d2 : w2.cell? ⟨R, 2, none⟩ = some (.int .i64 lo) := by rw [HLO.out]; exact blk_cell hb2.blk 2 _ rfl
      have d3 : w2.cell? ⟨R, 3, none⟩ = some (.int .i64 t.e) := blk_cell hb2.blk 3 _ rfl
      have f2 : w2.frozen? ⟨R, 2, none⟩ = false := blk_thawed hb2.blk 2
      have hcut : Rd w2 (some (a.add lo)) V (c - lo) 1 (u8s ((t.b.drop lo).take V)) := by
        have := hb2.rd.cut lo V hlV _ rfl
        simpa [u8s_take, u8s_drop] using this
      have hfar : ∀ x, some (a.add lo) = some x → ¬ x.block = R := fun x hx e => by cases hx; exact hb2.far a rfl ((by unfold Addr.add; split <;> rfl : (a.add lo).block = a.block) ▸ e)
      have hbk : ∀ k, Blk ((w2.drewN k).setCell ⟨R, 2, none⟩ (.int .i64 ((lo : Int) + V))) R 63 #[.bool true, .slice (some a) n c, .int .i64 ((lo : Int) + V), .int .i64 t.e, .int .i64 t.p] := fun k => blk_set (blk_ch hb2.blk (ch_drewN No _ k) id) 2 _
      have HBK := Lib.hid hbk
      have HCUT := Lib.hid (fun k => hcut.ch (ch_set (ch_drewN (fun k => k = R) w2 k) ⟨R, 2, none⟩ (.int .i64 ((lo : Int) + V)) rfl) hfar)
      have HB2 := Lib.hid hb2; have HC2 := Lib.hid hch2
      clear hb2 hch2 hcut hbk hfar
      go_wp2_with fail
      go_quiet (fail)
      have hs1 : (0 : Int) ≤ (lo : Int) := by omega
      have hs2 : (lo : Int) ≤ (lo : Int) + V := by omega
      have hs3 : (lo : Int) + V ≤ (c : Int) := by omega
      have hs4 : (0 : Int) ≤ (lo : Int) + V := by omega
      have hs5 : IntKind.i64.wrap (lo : Int) = (lo : Int) := by rw [IntKind.wrap_i64]; omega
      have hs6 : max ((lo : Int) + V) 0 = (lo : Int) + V := by omega
      have hs7 : ((lo : Int) + V).toNat = lo + V := by omega
      go_wp2_with fail
      have e1 := blk_cell (HBK.out nq) 1 _ rfl
      have e2 := blk_cell (HBK.out nq) 2 _ rfl
      go_region_held3 (fun W => W.cell? ⟨R, 1, none⟩ = some (.slice (some a) n c) ∧ W.cell? ⟨R, 2, none⟩ = some (.int .i64 ((lo : Int) + V)))
        (first | exact ⟨e1, e2⟩ | exact ⟨below_cell hb6 e1, below_cell hb6 e2⟩)
        (first | (go_at_call 66; refine (clone_held _ _ _ _ _ ((HCUT.out nq).ch (Ch.drew _ No) (fun _ _ => id)) (by omega)).mono ?_; rintro e w6 ⟨A6, c6, rfl, hh6, hb6⟩))
      go_wp2
      go_ret
      have hr1 : r = ((t.b.drop lo).take V, ⟨t.b, lo + V, t.e, t.p⟩) := by rw [HRR.out, HLO.out]; simp
      have hD : Ch (fun k => k = R) w2 (((w2.drewN nq).setCell ⟨R, 2, none⟩ (.int .i64 ((lo : Int) + V))).drew) := (ch_set (ch_drewN (fun k => k = R) w2 nq) ⟨R, 2, none⟩ _ rfl).trans (Ch.drew _ No) (fun _ h => False.elim h)
      have hcc : Ch (fun k => k = R) w2 w6 := hD.trans (Ch.of_below hb6 No) (fun _ h => False.elim h)
      have hbl := blk_ch (blk_ch (HBK.out nq) (Ch.drew _ No) id) (Ch.of_below hb6 No) id
      have hsz := HC2.out.size
      have hsz2 := hD.size
      clear e1 e2
      subst hr1
      refine ⟨A6, _, c6, rfl, held_in (by simpa using hh6) (by omega), rdb_set HB2.out _ _ rfl HF.out hcc ?_, HC2.out.trans hcc (fun i hi => .inl hi)⟩
      have e9 : ((lo + V : Nat) : Int) = (lo : Int) + V := by omega
      simp only [e9]
      exact hbl
end Go.Proofs.Ytondodhpmghogaa
