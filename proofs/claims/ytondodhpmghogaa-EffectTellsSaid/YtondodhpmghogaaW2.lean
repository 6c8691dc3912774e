/- Walk: the writer's put. Conditions: the writer is as New made it; what is put is short and lies apart from it. -/
import Derived.Test.YtondodhpmghogaaW1
namespace Go.Proofs.Ytondodhpmghogaa
open Go.RowKit
set_option linter.unusedVariables false
set_option linter.unusedSimpArgs false

theorem Rd.ch0 {S : Nat → Prop} {w w' : World} {A : Option Addr} {n c sz : Nat} {xs : List Value} (h : Rd w A n c sz xs) (hc : Ch S w w') (hS : ∀ a, A = some a → 0 < n → ¬ S a.block) : Rd w' A n c sz xs := by
  by_cases hn : n = 0
  · subst hn
    have hx : xs = [] := List.eq_nil_of_length_eq_zero (by simpa using h.len)
    exact ⟨h.len, h.cap, h.big, h.nil, fun j u hu => by rw [hx] at hu; simp at hu⟩
  · exact h.ch hc (fun a ha => hS a ha (by omega))
/-- block B is a writer that New made: it has written b; its error is e -/
structure Wr (w : World) (B : Nat) (v : Value) (b : List UInt8) (e : Int) : Prop where
  blk : Blk w B 60 #[.bool true, v, .int .i64 e]
  own : w.ownsRow (B + 1) 5 1 v b.length (u8s b)
theorem wr_lt {w : World} {B : Nat} {v : Value} {b : List UInt8} {e : Int} (h : Wr w B v b e) : B < w.heap.size := blk_lt h.blk
theorem wr_own {w : World} {B : Nat} {v : Value} {b : List UInt8} {e : Int} (h : Wr w B v b e) {k : Nat} (hk : v.ownBlock = some k) : B < k ∧ k < w.heap.size := by
  have := h.own.lt k hk; exact ⟨by omega, by omega⟩
theorem wr_ch {S : Nat → Prop} {w w' : World} {B : Nat} {v : Value} {b : List UInt8} {e : Int} (h : Wr w B v b e) (hc : Ch S w w') (h1 : ¬ S B) (h2 : ∀ k, v.ownBlock = some k → ¬ S k) : Wr w' B v b e := ⟨blk_ch h.blk hc h1, own_ch h.own hc h2⟩
theorem wr_form {w : World} {B : Nat} {v : Value} {b : List UInt8} {e : Int} (h : Wr w B v b e) : ∃ A c, v = .slice A b.length c ∧ Rd w A b.length c 1 (u8s b) ∧ (∀ a, A = some a → B + 1 ≤ a.block ∧ a.block < w.heap.size) := own_form h.own
/-- the parts that are put -/
abbrev Pt := Option Addr × Nat × Nat × List UInt8
structure Pts (w : World) (p : Nat) (ps : List Pt) : Prop where
  cell : ∀ j x, ps[j]? = some x → w.cell? ⟨p, j, none⟩ = some (.slice x.1 x.2.1 x.2.2.1)
  rd : ∀ x ∈ ps, Rd w x.1 x.2.1 x.2.2.1 1 (u8s x.2.2.2)
  lt : p < w.heap.size
theorem pts_ch {S : Nat → Prop} {w w' : World} {p : Nat} {ps : List Pt} (h : Pts w p ps) (hc : Ch S w w') (h1 : ¬ S p) (h2 : ∀ x ∈ ps, ∀ a, x.1 = some a → 0 < x.2.1 → ¬ S a.block) : Pts w' p ps :=
  ⟨fun j x hx => (World.cell?_of_block (a := ⟨p, j, none⟩) (hc.block p h.lt h1)).trans (h.cell j x hx), fun x hx => (h.rd x hx).ch0 hc (h2 x hx), Nat.lt_of_lt_of_le h.lt hc.size⟩
def ptAll (ps : List Pt) : List UInt8 := ps.flatMap (·.2.2.2)
theorem ptAll_snoc (ps : List Pt) (k : Nat) (x : Pt) (h : ps[k]? = some x) : ptAll (ps.take (k + 1)) = ptAll (ps.take k) ++ x.2.2.2 := by
  have hk : k < ps.length := by
    rcases Nat.lt_or_ge k ps.length with h' | h'
    · exact h'
    · rw [List.getElem?_eq_none h'] at h; cases h
  rw [List.take_succ_eq_append_getElem hk]
  have : ps[k] = x := by simpa [hk] using h
  simp [ptAll, this]
theorem ptAll_le (ps : List Pt) (k : Nat) : (ptAll (ps.take k)).length ≤ (ptAll ps).length := by
  have : ptAll ps = ptAll (ps.take k) ++ ptAll (ps.drop k) := by
    unfold ptAll; rw [← List.flatMap_append, List.take_append_drop]
  rw [this]; simp
def PutQ (w : World) (B : Nat) (v : Value) (r : List UInt8 × Int) (e : Ending) (w' : World) : Prop :=
  e = .returned (.tuple #[]) ∧ ∃ v', Wr w' B v' r.1 r.2 ∧ Ch (fun k => k = B ∨ v.ownBlock = some k) w w' ∧ (v'.ownBlock = v.ownBlock ∨ ∃ x, v'.ownBlock = some x ∧ w.heap.size ≤ x)
theorem cell_pt {w : World} {p : Nat} {ps : List Pt} (h : Pts w p ps) {k : Nat} (hk : k < ps.length) : ∃ x, ps[k]? = some x ∧ x ∈ ps ∧ w.cell? ⟨p, k, none⟩ = some (.slice x.1 x.2.1 x.2.2.1) ∧ Rd w x.1 x.2.1 x.2.2.1 1 (u8s x.2.2.2) :=
  ⟨ps[k], by simp [hk], List.getElem_mem hk, h.cell k _ (by simp [hk]), h.rd _ (List.getElem_mem hk)⟩
set_option maxRecDepth 100000 in
set_option maxHeartbeats 4000000 in
theorem put_any {w : World} {B : Nat} {v : Value} {b : List UInt8} {e : Int} (h : Wr w B v b e) (hb : b.length ≤ 1048576) {p : Nat} {ps : List Pt} (hp : Pts w p ps)
    (hB : p ≠ B ∧ ∀ x ∈ ps, ∀ a, x.1 = some a → 0 < x.2.1 → a.block ≠ B) (ho : ∀ k, v.ownBlock = some k → p ≠ k ∧ ∀ x ∈ ps, ∀ a, x.1 = some a → 0 < x.2.1 → a.block ≠ k) (m : Nat) (hm : ps.length = m) (hm8 : m ≤ 1000) (hbig : (ptAll ps).length ≤ 1000000000) :
    Calls Try.prog 75 #[.pointer (some ⟨B, 0, none⟩), .slice (some ⟨p, 0, none⟩) m m] w (PutQ w B v (wput b e (ptAll ps))) := by
  have c0 : w.cell? ⟨B, 0, none⟩ = some (.bool true) := blk_cell h.blk 0 _ rfl
  have c2 : w.cell? ⟨B, 2, none⟩ = some (.int .i64 e) := blk_cell h.blk 2 _ rfl
  by_cases he : e ≠ 0
  · have g1 : (e == 0) = false := by simpa using he
    have g2 : (e != 0) = true := by simpa using he
    go_enter Try.func75, Try.ntmps75
    go_wp2
    refine bodyPost_ret (results_none rfl _ _ _) rfl ⟨rfl, v, ?_, Ch.refl _ _, .inl rfl⟩
    unfold wput; rw [if_pos he]; exact h
  obtain rfl : e = 0 := Decidable.not_not.1 he
  clear he
  obtain ⟨A, c, rfl, hr, hA⟩ := wr_form h
  have c1 : w.cell? ⟨B, 1, none⟩ = some (.slice A b.length c) := blk_cell h.blk 1 _ rfl
  have H := Lib.hid h; have HP := Lib.hid hp; have HM := Lib.hid hm; have HO := Lib.hid ho; have HB := Lib.hid hB; have HBG := Lib.hid hbig
  obtain ⟨t, ht⟩ : ∃ t, t = (ptAll ps).length := ⟨_, rfl⟩
  have HT := Lib.hid ht
  have ht9 : t ≤ 1000000000 := by omega
  obtain ⟨r, hrr⟩ : ∃ r, r = wput b 0 (ptAll ps) := ⟨_, rfl⟩
  rw [← hrr]
  have hr0 : r = if 1048576 < b.length + t then (b, 3) else (b ++ ptAll ps, 0) := by rw [hrr]; unfold wput; rw [ht]; simp
  have HRR := Lib.hid hr0
  clear h hp hm ho hB hr hA ht hbig hrr hr0
  go_enter Try.func75, Try.ntmps75
  go_wp2_with fail
  go_loop [4, 32] (fun n i => ∃ k : Nat, k ≤ m ∧ i = .int .i64 k ∧ n = .int .i64 ((b.length + (ptAll (ps.take k)).length : Nat) : Int)) (fun _ i => m - (intOf i).toNat)
  case atStart => exact ⟨0, Nat.zero_le _, rfl, by simp [ptAll]⟩
  case round =>
    obtain ⟨k, hk, rfl, rfl⟩ := hrel
    by_cases hlt : k < m
    · obtain ⟨x, hx, hxm, hc, hxr⟩ := cell_pt HP.out (k := k) (by rw [HM.out]; exact hlt)
      have hx2 : x.2.2.2.length = x.2.1 := by have := hxr.len; simpa using this
      have hle := ptAll_le ps (k + 1)
      rw [ptAll_snoc ps k x hx, List.length_append, hx2, ← HT.out] at hle
      have hw : IntKind.i64.wrap (((b.length + (ptAll (ps.take k)).length : Nat) : Int) + (x.2.1 : Int)) = ((b.length + (ptAll (ps.take k)).length : Nat) : Int) + (x.2.1 : Int) := by rw [IntKind.wrap_i64]; omega
      obtain ⟨xA, xn, xc, xl⟩ := x
      simp only at hc hx2 hw hle
      have HX := Lib.hid hx
      clear hx hxm hxr
      generalize hL : (ptAll (ps.take k)).length = L at hw hle
      go_wp2_with fail
      go_round
      case rel =>
        refine ⟨k + 1, by omega, by go_num, ?_⟩
        rw [ptAll_snoc ps k _ HX.out, List.length_append, hL]
        simp only [hx2]
        congr 1; omega
      case measure => simp [intOf]; omega
    · obtain rfl : k = m := by omega
      have hall : ptAll (ps.take k) = ptAll ps := by rw [List.take_of_length_le (by rw [HM.out]; exact Nat.le_refl _)]
      rw [hall, ← HT.out]
      clear hall hlt hk
      have f2 : w.frozen? ⟨B, 2, none⟩ = false := blk_thawed H.out.blk 2
      by_cases hov : 1048576 < b.length + t
      · have hr1 : r = (b, 3) := by rw [HRR.out, if_pos hov]
        have hbk := Lib.hid (blk_set H.out.blk 2 (.int .i64 3))
        have g1 : decide ((1048576 : Int) < ((b.length + t : Nat) : Int)) = true := by simp; omega
        go_wp2_with fail
        refine bodyPost_ret (results_none rfl _ _ _) rfl ⟨rfl, .slice A b.length c, (by subst hr1; exact ⟨hbk.out, own_ch H.out.own (Ch.setCell w ⟨B, 2, none⟩ (.int .i64 3)) (fun k hk e => by have := wr_own H.out hk; have e' : k = B := e; omega)⟩), (Ch.setCell w ⟨B, 2, none⟩ _).mono (fun i _ hi => .inl hi), .inl rfl⟩
      · have hr1 : r = (b ++ ptAll ps, 0) := by rw [HRR.out, if_neg hov]
        have g1 : decide ((1048576 : Int) < ((b.length + t : Nat) : Int)) = false := by simp; omega
        go_wp2_with fail
        go_loopw [48] (fun i wr => ∃ (k' : Nat) (v' : Value), k' ≤ k ∧ i = .int .i64 k' ∧ Wr wr B v' (b ++ ptAll (ps.take k')) 0 ∧ Ch (fun j => j = B ∨ (Value.slice A b.length c).ownBlock = some j) w wr ∧ (v'.ownBlock = (Value.slice A b.length c).ownBlock ∨ ∃ x, v'.ownBlock = some x ∧ w.heap.size ≤ x)) (fun i _ => k - (intOf i).toNat)
        case atStart =>
          exact ⟨0, _, Nat.zero_le _, rfl, by simpa [ptAll] using H.out, Ch.refl _ _, .inl rfl⟩
        case round =>
          obtain ⟨k', v', hk', rfl, hwr, hC, hat⟩ := hrel
          have hbw : B < w.heap.size := wr_lt H.out
          by_cases hlt : k' < k
          · obtain ⟨x, hx, hxm, hc, hxr⟩ := cell_pt (pts_ch HP.out hC (by rintro (e | e); exact HB.out.1 e; exact (HO.out p e).1 rfl) (fun x hx a ha h0 => by rintro (e | e); exact HB.out.2 x hx a ha h0 e; exact (HO.out _ e).2 x hx a ha h0 rfl)) (k := k') (by rw [HM.out]; exact hlt)
            have hx2 : x.2.2.2.length = x.2.1 := by have := hxr.len; simpa using this
            have hle := ptAll_le ps (k' + 1)
            rw [ptAll_snoc ps k' x hx, List.length_append, hx2, ← HT.out] at hle
            obtain ⟨A1, cc1, rfl, hr1, hA1⟩ := wr_form hwr
            have d0 : wr.cell? ⟨B, 1, none⟩ = some (.slice A1 (b ++ ptAll (ps.take k')).length cc1) := blk_cell hwr.blk 1 _ rfl
            have hbb : (b ++ ptAll (ps.take k')).length + x.2.1 ≤ 1048576 := by rw [List.length_append]; omega
            generalize hBBe : b ++ ptAll (ps.take k') = bb at *
            obtain ⟨L, hL⟩ : ∃ L, L = bb.length := ⟨_, rfl⟩
            rw [← hL] at d0 hbb hwr hat
            obtain ⟨xA, xn, xc, xl⟩ := x
            simp only at hc hx2 hbb hxr
            have HX := Lib.hid hx; have HC := Lib.hid hC; have HAT := Lib.hid hat; have HW := Lib.hid hwr; have HR := Lib.hid hxr; have HL := Lib.hid hL; have HBE := Lib.hid hBBe
            have hsz := hC.size
            have HOWN := Lib.hid (show wr.ownsRow (B + 1) 5 1 (.slice A1 L cc1) L (u8s bb) by rw [hL]; have := hwr.own; rw [← hL] at this ⊢; exact this)
            have HBO := Lib.hid (show ∀ k, (Value.slice A1 L cc1).ownBlock = some k → k ≠ B from fun k hk e => by have := wr_own hwr hk; omega)
            clear hx hxm hxr hwr hC hat hle hr1 hA1 hL hBBe
            go_wp2_with (at_builtin; refine wpList_app wr rfl _ _ 26 rfl (B + 1) 5 (.int .u8 0) 1 1 Try.underlying26 info5 rfl (by decide) (.slice A1 L cc1) L (u8s bb) rfl HOWN.out xA xn xc (u8s xl) rfl HR.out (u8s_one xl) (by simp [maxLen]; omega) (by omega) (by omega) ?_; intro v2 w2 hown2 hg2 hnil2 hat2; have hch2 := Ch.of_grown hg2; have hbk2 := blk_ch HW.out.blk hch2 (fun e => HBO.out B e rfl); have f1 := blk_thawed hbk2 1; have d2 := blk_cell hbk2 1 (.slice A1 L cc1) rfl; obtain ⟨A2, cc2, rfl, hr2, hA2⟩ := own_form hown2)
            go_roundw
            case rel =>
              have hbk3 := blk_set hbk2 1 (.slice A2 (L + xn) cc2)
              have e3 : b ++ ptAll (ps.take (k' + 1)) = bb ++ xl := by rw [ptAll_snoc ps k' _ HX.out, ← List.append_assoc, HBE.out]
              refine ⟨k' + 1, .slice A2 (L + xn) cc2, by omega, by go_num, ?_, ?_, ?_⟩
              · rw [e3]
                refine ⟨hbk3, own_ch ?_ (Ch.setCell w2 ⟨B, 1, none⟩ _) (fun k hk e => ?_)⟩
                · rw [List.length_append, ← HL.out, hx2, u8s_append]; exact hown2
                · have e' : k = B := e
                  have := hown2.lt k hk; omega
              · refine ch_set (HC.out.trans hch2 (fun i hi => ?_)) ⟨B, 1, none⟩ _ (.inl rfl)
                rcases HAT.out with h | ⟨x, h, hx⟩
                · exact .inl (.inr (h.symm.trans hi))
                · rw [h] at hi; cases hi; exact .inr hx
              · rcases hat2 with h | h
                · rw [h]; exact HAT.out
                · exact .inr ⟨_, h, hsz⟩
            case measure => simp [intOf]; omega
          · obtain rfl : k' = k := by omega
            have hall : ptAll (ps.take k') = ptAll ps := by rw [List.take_of_length_le (by rw [HM.out]; exact Nat.le_refl _)]
            rw [hall] at hwr
            go_wp2
            exact bodyPost_end (results_none rfl _ _ _) rfl ⟨rfl, v', by subst hr1; exact hwr, hC, hat⟩
end Go.Proofs.Ytondodhpmghogaa
