/- Plain laws of topologies: a sound topology stays sound as it grows, dies and moves, and a node that was moved can be moved back. No program in sight. -/
import Derived.Test.YtadcahnoghnkcaaGc
namespace Go.Proofs.YtadcahnoghnkcaaX.P27
open Go.RowKit Go.Proofs.YtadcahnoghnkcaaW.PrintWords Go.Proofs.YtadcahnoghnkcaaW.PrintLast Go.Proofs.YtadcahnoghnkcaaW.PrintMore
set_option linter.unusedVariables false
set_option linter.unusedSimpArgs false

def nd (l : List S109) (a : Int) : S109 := rd_T109 l (a - 1)
theorem nd_set (l : List S109) (n a : Int) (x : S109) (hn : 1 ≤ n) (hn2 : n ≤ (l.length : Int)) (ha : 1 ≤ a) : nd (l.set (n - 1).toNat x) a = if a = n then x else nd l a := by
  unfold nd rd_T109
  rw [List.getD_eq_getElem?_getD, List.getD_eq_getElem?_getD, List.getElem?_set]
  by_cases h : a = n
  · subst h
    rw [if_pos rfl, if_pos rfl, if_pos (by omega)]; rfl
  · rw [if_neg (by omega), if_neg h]
theorem nd_app (l : List S109) (a : Int) (x : S109) (ha : 1 ≤ a) (ha2 : a ≤ (l.length : Int)) : nd (l ++ [x]) a = nd l a := by
  unfold nd rd_T109
  rw [List.getD_eq_getElem?_getD, List.getD_eq_getElem?_getD, List.getElem?_append_left (by omega)]
theorem nd_new (l : List S109) (x : S109) : nd (l ++ [x]) ((l.length : Int) + 1) = x := by
  unfold nd rd_T109
  rw [List.getD_eq_getElem?_getD, show ((l.length : Int) + 1 - 1).toNat = l.length by omega]
  simp
/-- how many steps it is to the root -/
def Rch (l : List S109) : Nat → Int → Prop
  | 0, a => a = 1
  | d + 1, a => a ≠ 1 ∧ 1 ≤ a ∧ a ≤ (l.length : Int) ∧ Rch l d (nd l a).f1
theorem rch_uni (l : List S109) : ∀ {d e : Nat} {a : Int}, Rch l d a → Rch l e a → d = e
  | 0, 0, _, _, _ => rfl
  | 0, e + 1, _, h, g => absurd h g.1
  | d + 1, 0, _, h, g => absurd g h.1
  | d + 1, e + 1, _, h, g => by rw [rch_uni l h.2.2.2 g.2.2.2]
theorem rch_in (l : List S109) (h1 : 1 ≤ l.length) : ∀ {d : Nat} {a : Int}, Rch l d a → 1 ≤ a ∧ a ≤ (l.length : Int)
  | 0, a, h => by have h : a = 1 := h; omega
  | d + 1, a, h => ⟨h.2.1, h.2.2.1⟩
theorem rd_one (a : Int) : rd [a] ((([a] : List Int).length : Int) - 1) = a := rfl
theorem rd_more (a : Int) (L : List Int) (h : L ≠ []) : rd (a :: L) (((a :: L).length : Int) - 1) = rd L ((L.length : Int) - 1) := by
  have : 0 < L.length := List.length_pos_iff.2 h
  unfold rd
  rw [show (((a :: L).length : Int) - 1).toNat = ((L.length : Int) - 1).toNat + 1 by simp only [List.length_cons]; omega]
  rfl
theorem chn_cons (l : List S109) (k : Nat) (a : Int) (h : 1 ≤ a ∧ a ≤ (l.length : Int)) : chn l (k + 1) a = a :: chn l k (nd l a).f1 := by
  conv => lhs; unfold chn
  rw [if_pos h]; rfl
theorem chn_out (l : List S109) (k : Nat) (a : Int) (h : ¬ (1 ≤ a ∧ a ≤ (l.length : Int))) : chn l k a = [] := by
  cases k with
  | zero => rfl
  | succ k => unfold chn; rw [if_neg h]
theorem last_iff (l : List S109) (h1 : 1 ≤ l.length) (hr : (nd l 1).f1 = 0) : ∀ (k : Nat) (a : Int), 1 ≤ a → a ≤ (l.length : Int) → (rd (chn l (k + 1) a) (((chn l (k + 1) a).length : Int) - 1) = 1 ↔ ∃ d, d ≤ k ∧ Rch l d a)
  | 0, a, ha, ha2 => by
    rw [chn_cons l 0 a ⟨ha, ha2⟩, show chn l 0 (nd l a).f1 = [] from rfl, rd_one]
    exact ⟨fun h => ⟨0, Nat.le_refl _, h⟩, fun ⟨d, hd, h⟩ => by obtain rfl : d = 0 := by omega
                                                                exact h⟩
  | k + 1, a, ha, ha2 => by
    rw [chn_cons l (k + 1) a ⟨ha, ha2⟩]
    by_cases e1 : a = 1
    · subst e1
      rw [hr, chn_out l (k + 1) 0 (by omega), rd_one]
      exact ⟨fun h => ⟨0, by omega, rfl⟩, fun _ => rfl⟩
    by_cases hp : 1 ≤ (nd l a).f1 ∧ (nd l a).f1 ≤ (l.length : Int)
    · have ih := last_iff l h1 hr k (nd l a).f1 hp.1 hp.2
      rw [rd_more _ _ (by rw [chn_cons l k _ hp]; exact List.cons_ne_nil _ _), ih]
      constructor
      · rintro ⟨d, hd, h⟩
        exact ⟨d + 1, by omega, e1, ha, ha2, h⟩
      · rintro ⟨d, hd, h⟩
        cases d with
        | zero => exact absurd h e1
        | succ d => exact ⟨d, by omega, h.2.2.2⟩
    · rw [chn_out l (k + 1) _ hp, rd_one]
      constructor
      · exact fun h => absurd h e1
      · rintro ⟨d, hd, h⟩
        cases d with
        | zero => exact h
        | succ d => exact absurd (rch_in l h1 h.2.2.2) hp
theorem pig : ∀ (N : Nat) (L : List Int), L.Nodup → (∀ x ∈ L, 1 ≤ x ∧ x ≤ (N : Int)) → L.length ≤ N
  | 0, L, _, h => by
    cases L with
    | nil => exact Nat.le_refl _
    | cons x L => have := h x (by simp); omega
  | N + 1, L, hn, h => by
    have := pig N (L.erase ((N + 1 : Nat) : Int)) (hn.erase _) (fun x hx => by
      have h2 := (List.Nodup.mem_erase_iff hn).1 hx
      have h3 := h x h2.2
      have h4 := h2.1
      omega)
    have h5 : L.length - 1 ≤ (L.erase ((N + 1 : Nat) : Int)).length := by
      rw [List.length_erase]
      split <;> omega
    omega
theorem chn_rank (l : List S109) : ∀ (k d : Nat) (a : Int), Rch l d a → (nd l 1).f1 = 0 → ∀ x ∈ chn l k a, ∃ e, e ≤ d ∧ Rch l e x
  | 0, d, a, h, hr, x, hx => by cases hx
  | k + 1, d, a, h, hr, x, hx => by
    by_cases ha : 1 ≤ a ∧ a ≤ (l.length : Int)
    · rw [chn_cons l k a ha] at hx
      rcases List.mem_cons.1 hx with rfl | hx
      · exact ⟨d, Nat.le_refl _, h⟩
      · cases d with
        | zero =>
          have h : a = 1 := h
          subst h
          rw [hr, chn_out l k 0 (by omega)] at hx
          cases hx
        | succ d =>
          obtain ⟨e, he, h2⟩ := chn_rank l k d _ h.2.2.2 hr x hx
          exact ⟨e, by omega, h2⟩
    · rw [chn_out l (k + 1) a ha] at hx
      cases hx
theorem chn_nodup (l : List S109) : ∀ (k d : Nat) (a : Int), Rch l d a → (nd l 1).f1 = 0 → (chn l k a).Nodup
  | 0, d, a, h, hr => List.nodup_nil
  | k + 1, d, a, h, hr => by
    by_cases ha : 1 ≤ a ∧ a ≤ (l.length : Int)
    · rw [chn_cons l k a ha]
      cases d with
      | zero =>
        have h : a = 1 := h
        subst h
        rw [hr, chn_out l k 0 (by omega)]
        simp
      | succ d =>
        refine List.nodup_cons.2 ⟨fun hx => ?_, chn_nodup l k d _ h.2.2.2 hr⟩
        obtain ⟨e, he, h2⟩ := chn_rank l k d _ h.2.2.2 hr a hx
        have := rch_uni l h h2
        omega
    · rw [chn_out l (k + 1) a ha]
      exact List.nodup_nil
theorem chn_ins (l : List S109) : ∀ (k : Nat) (a : Int), ∀ x ∈ chn l k a, 1 ≤ x ∧ x ≤ (l.length : Int)
  | 0, a, x, hx => by cases hx
  | k + 1, a, x, hx => by
    by_cases ha : 1 ≤ a ∧ a ≤ (l.length : Int)
    · rw [chn_cons l k a ha] at hx
      rcases List.mem_cons.1 hx with rfl | hx
      · exact ha
      · exact chn_ins l k _ x hx
    · rw [chn_out l (k + 1) a ha] at hx
      cases hx
theorem chn_full (l : List S109) (h1 : 1 ≤ l.length) : ∀ (k d : Nat) (a : Int), Rch l d a → d < k → d + 1 ≤ (chn l k a).length
  | 0, d, a, h, hd => by omega
  | k + 1, 0, a, h, hd => by
    rw [chn_cons l k a (rch_in l h1 h)]
    simp
  | k + 1, d + 1, a, h, hd => by
    rw [chn_cons l k a (rch_in l h1 h)]
    have := chn_full l h1 k d _ h.2.2.2 (by omega)
    simp only [List.length_cons]
    omega
theorem rch_lt (l : List S109) (h1 : 1 ≤ l.length) (hr : (nd l 1).f1 = 0) {d : Nat} {a : Int} (h : Rch l d a) : d < l.length := by
  have h2 := pig l.length (chn l (d + 1) a) (chn_nodup l (d + 1) d a h hr) (chn_ins l (d + 1) a)
  have h3 := chn_full l h1 (d + 1) d a h (by omega)
  omega

/-- a sound topology -/
structure Ok (l : List S109) : Prop where
  some' : 1 ≤ l.length
  few : l.length ≤ 200
  root : nd l 1 = ⟨1, 0, false⟩
  kind : ∀ a, 2 ≤ a → a ≤ (l.length : Int) → (nd l a).f0 = 2 ∨ (nd l a).f0 = 3
  above : ∀ a, 2 ≤ a → a ≤ (l.length : Int) → 1 ≤ (nd l a).f1 ∧ (nd l a).f1 ≤ (l.length : Int)
  bare : ∀ a, 2 ≤ a → a ≤ (l.length : Int) → (nd l (nd l a).f1).f0 ≠ 3
  reach : ∀ a, 2 ≤ a → a ≤ (l.length : Int) → ∃ d, Rch l d a
theorem from_iff (l : List S109) : ∀ (d i : Nat), badFrom l d i = 0 ↔ ∀ j, i ≤ j → j < i + d → bad l j = false
  | 0, i => ⟨fun _ j h1 h2 => by omega, fun _ => rfl⟩
  | d + 1, i => by
    unfold badFrom
    cases hb : bad l i with
    | true =>
      rw [if_pos rfl]
      exact ⟨fun h => by omega, fun h => by have := h i (by omega) (by omega); rw [hb] at this; cases this⟩
    | false =>
      rw [if_neg (by simp), from_iff l d (i + 1)]
      constructor
      · intro h j h1 h2
        by_cases e : j = i
        · rw [e]; exact hb
        · exact h j (by omega) (by omega)
      · exact fun h j h1 h2 => h j (by omega) (by omega)
theorem chk_range (l : List S109) (h : chkV l = 0) : 1 ≤ l.length ∧ l.length ≤ 200 := by
  unfold chkV at h
  by_cases c : l.length < 1 ∨ 200 < l.length
  · rw [if_pos c] at h; omega
  · omega
theorem bad_iff (l : List S109) (h1 : 1 ≤ l.length) (hr : (nd l 1).f1 = 0) (j : Nat) (hj : j < l.length) : bad l j = false ↔
    ((nd l ((j : Int) + 1)).f0 = 2 ∨ (nd l ((j : Int) + 1)).f0 = 3) ∧ (1 ≤ (nd l ((j : Int) + 1)).f1 ∧ (nd l ((j : Int) + 1)).f1 ≤ (l.length : Int)) ∧ (nd l (nd l ((j : Int) + 1)).f1).f0 ≠ 3 ∧ ∃ d, Rch l d ((j : Int) + 1) := by
  have e : rd_T109 l (j : Int) = nd l ((j : Int) + 1) := by unfold nd; rw [show (j : Int) + 1 - 1 = (j : Int) by omega]
  have hl := last_iff l h1 hr l.length ((j : Int) + 1) (by omega) (by omega)
  have hl2 : (∃ d, d ≤ l.length ∧ Rch l d ((j : Int) + 1)) ↔ ∃ d, Rch l d ((j : Int) + 1) :=
    ⟨fun ⟨d, _, h⟩ => ⟨d, h⟩, fun ⟨d, h⟩ => ⟨d, by have := rch_lt l h1 hr h; omega, h⟩⟩
  rw [← hl2, ← hl]
  unfold bad
  rw [e]
  rw [show rd_T109 l ((nd l ((j : Int) + 1)).f1 - 1) = nd l (nd l ((j : Int) + 1)).f1 from rfl]
  simp only [Bool.or_eq_false_iff, Bool.and_eq_false_iff, bne_eq_false_iff_eq, Bool.not_eq_false', decide_eq_true_eq, beq_eq_false_iff_ne]
  constructor
  · exact fun ⟨⟨⟨a, b⟩, c⟩, d⟩ => ⟨a, b, c, d⟩
  · exact fun ⟨a, b, c, d⟩ => ⟨⟨⟨a, b⟩, c⟩, d⟩
theorem root_iff (l : List S109) : rootB l = false ↔ nd l 1 = ⟨1, 0, false⟩ := by
  unfold rootB
  rw [show rd_T109 l 0 = nd l 1 from rfl]
  cases nd l 1 with
  | mk a b c =>
    simp only [Bool.or_eq_false_iff, Bool.not_eq_false', beq_iff_eq, S109.mk.injEq]
theorem chk_ok (l : List S109) : chkV l = 0 ↔ Ok l := by
  constructor
  · intro h
    obtain ⟨h1, h2⟩ := chk_range l h
    unfold chkV at h
    rw [if_neg (by omega)] at h
    cases hb : rootB l with
    | true => rw [hb, if_pos rfl] at h; omega
    | false =>
      rw [hb, if_neg (by simp)] at h
      have hroot := (root_iff l).1 hb
      have hr : (nd l 1).f1 = 0 := by rw [hroot]
      have hall := (from_iff l _ _).1 h
      have each : ∀ a, 2 ≤ a → a ≤ (l.length : Int) → ((nd l a).f0 = 2 ∨ (nd l a).f0 = 3) ∧ (1 ≤ (nd l a).f1 ∧ (nd l a).f1 ≤ (l.length : Int)) ∧ (nd l (nd l a).f1).f0 ≠ 3 ∧ ∃ d, Rch l d a := by
        intro a ha ha2
        have := (bad_iff l h1 hr (a - 1).toNat (by omega)).1 (hall _ (by omega) (by omega))
        rw [show (((a - 1).toNat : Nat) : Int) + 1 = a by omega] at this
        exact this
      exact ⟨h1, h2, hroot, fun a x y => (each a x y).1, fun a x y => (each a x y).2.1, fun a x y => (each a x y).2.2.1, fun a x y => (each a x y).2.2.2⟩
  · intro h
    have hr : (nd l 1).f1 = 0 := by rw [h.root]
    unfold chkV
    have h1 := h.some'
    have h2 := h.few
    rw [if_neg (by omega), (root_iff l).2 h.root, if_neg (by simp)]
    refine (from_iff l _ _).2 fun j hj hj2 => (bad_iff l h1 hr j (by omega)).2 ?_
    exact ⟨h.kind _ (by omega) (by omega), h.above _ (by omega) (by omega), h.bare _ (by omega) (by omega), h.reach _ (by omega) (by omega)⟩
theorem Ok.any {l : List S109} (h : Ok l) (a : Int) (h1 : 1 ≤ a) (h2 : a ≤ (l.length : Int)) : ∃ d, Rch l d a := by
  by_cases e : a = 1
  · exact ⟨0, e⟩
  · exact h.reach a (by omega) h2

theorem ok_new : Ok [⟨1, 0, false⟩] := by
  refine ⟨by decide, by decide, rfl, ?_, ?_, ?_, ?_⟩ <;> (intro a h1 h2; simp only [List.length_cons, List.length_nil] at h2; omega)
theorem ok_enr (l : List S109) (h : Ok l) (kd up : Int) (hk : kd = 2 ∨ kd = 3) (hu : 1 ≤ up ∧ up ≤ (l.length : Int)) (h3 : (nd l up).f0 ≠ 3) (hl : l.length < 200) : Ok (l ++ [⟨kd, up, false⟩]) := by
  have h1 := h.some'
  have len : ((l ++ [(⟨kd, up, false⟩ : S109)]).length : Int) = (l.length : Int) + 1 := by simp
  have keep : ∀ (d : Nat) (a : Int), Rch l d a → Rch (l ++ [⟨kd, up, false⟩]) d a := by
    intro d
    induction d with
    | zero => exact fun a h => h
    | succ d ih =>
      intro a g
      refine ⟨g.1, g.2.1, by have := g.2.2.1; omega, ?_⟩
      rw [nd_app l a _ g.2.1 g.2.2.1]
      exact ih _ g.2.2.2
  refine ⟨by simp, by simp; omega, by rw [nd_app l 1 _ (by omega) (by omega)]; exact h.root, ?_, ?_, ?_, ?_⟩
  · intro a ha ha2
    by_cases e : a = (l.length : Int) + 1
    · rw [e, nd_new]; exact hk
    · rw [nd_app l a _ (by omega) (by omega)]; exact h.kind a ha (by omega)
  · intro a ha ha2
    by_cases e : a = (l.length : Int) + 1
    · rw [e, nd_new]; exact ⟨hu.1, by simp only []; omega⟩
    · rw [nd_app l a _ (by omega) (by omega)]; have := h.above a ha (by omega); exact ⟨this.1, by omega⟩
  · intro a ha ha2
    by_cases e : a = (l.length : Int) + 1
    · rw [e, nd_new, nd_app l _ _ hu.1 hu.2]; exact h3
    · have := h.above a ha (by omega)
      rw [nd_app l a _ (by omega) (by omega), nd_app l _ _ this.1 this.2]; exact h.bare a ha (by omega)
  · intro a ha ha2
    by_cases e : a = (l.length : Int) + 1
    · obtain ⟨d, hd⟩ := h.any up hu.1 hu.2
      refine ⟨d + 1, by omega, by omega, by omega, ?_⟩
      rw [e, nd_new]
      exact keep d up hd
    · obtain ⟨d, hd⟩ := h.reach a ha (by omega)
      exact ⟨d, keep d a hd⟩
theorem ok_kill (l : List S109) (h : Ok l) (n : Int) (hn : 1 ≤ n ∧ n ≤ (l.length : Int)) (hn1 : n ≠ 1) (b : Bool) : Ok (l.set (n - 1).toNat ⟨(nd l n).f0, (nd l n).f1, b⟩) := by
  have h1 := h.some'
  have h2 := h.few
  have len : (l.set (n - 1).toNat (⟨(nd l n).f0, (nd l n).f1, b⟩ : S109)).length = l.length := by simp
  have f0 : ∀ a, 1 ≤ a → (nd (l.set (n - 1).toNat ⟨(nd l n).f0, (nd l n).f1, b⟩) a).f0 = (nd l a).f0 := fun a ha => by
    rw [nd_set l n a _ hn.1 hn.2 ha]; split
    · rename_i e; rw [e]
    · rfl
  have f1 : ∀ a, 1 ≤ a → (nd (l.set (n - 1).toNat ⟨(nd l n).f0, (nd l n).f1, b⟩) a).f1 = (nd l a).f1 := fun a ha => by
    rw [nd_set l n a _ hn.1 hn.2 ha]; split
    · rename_i e; rw [e]
    · rfl
  have keep : ∀ (d : Nat) (a : Int), Rch l d a → Rch (l.set (n - 1).toNat ⟨(nd l n).f0, (nd l n).f1, b⟩) d a := by
    intro d
    induction d with
    | zero => exact fun a h => h
    | succ d ih =>
      intro a g
      refine ⟨g.1, g.2.1, by have := g.2.2.1; omega, ?_⟩
      rw [f1 a g.2.1]
      exact ih _ g.2.2.2
  refine ⟨by omega, by omega, ?_, ?_, ?_, ?_, ?_⟩
  · rw [nd_set l n 1 _ hn.1 hn.2 (by omega), if_neg (Ne.symm hn1)]; exact h.root
  · intro a ha ha2
    rw [f0 a (by omega)]; exact h.kind a ha (by omega)
  · intro a ha ha2
    rw [f1 a (by omega), len]; exact h.above a ha (by omega)
  · intro a ha ha2
    have := h.above a ha (by omega)
    rw [f1 a (by omega), f0 _ this.1]; exact h.bare a ha (by omega)
  · intro a ha ha2
    obtain ⟨d, hd⟩ := h.reach a ha (by omega)
    exact ⟨d, keep d a hd⟩
/-- a chain that a change does not touch -/
theorem chn_keep (l : List S109) (n : Int) (hn : 1 ≤ n ∧ n ≤ (l.length : Int)) (x : S109) : ∀ (k : Nat) (a : Int), n ∉ chn l k a → chn (l.set (n - 1).toNat x) k a = chn l k a
  | 0, a, _ => rfl
  | k + 1, a, h => by
    by_cases ha : 1 ≤ a ∧ a ≤ (l.length : Int)
    · rw [chn_cons l k a ha] at h ⊢
      rw [chn_cons _ k a (by simpa using ha)]
      simp only [List.mem_cons, not_or] at h
      rw [nd_set l n a x hn.1 hn.2 ha.1, if_neg (Ne.symm h.1), chn_keep l n hn x k _ h.2]
    · rw [chn_out l _ a ha, chn_out _ _ a (by simpa using ha)]
theorem ok_move (l : List S109) (h : Ok l) (n up : Int) (hn : 1 ≤ n ∧ n ≤ (l.length : Int)) (hu : 1 ≤ up ∧ up ≤ (l.length : Int)) (hn1 : n ≠ 1) (h3 : (nd l up).f0 ≠ 3) (hc : n ∉ chn l (l.length + 1) up) (b : Bool) :
    Ok (l.set (n - 1).toNat ⟨(nd l n).f0, up, b⟩) := by
  have h1 := h.some'
  have h2 := h.few
  have hr : (nd l 1).f1 = 0 := by rw [h.root]
  have len : (l.set (n - 1).toNat (⟨(nd l n).f0, up, b⟩ : S109)).length = l.length := by simp
  have f0 : ∀ a, 1 ≤ a → (nd (l.set (n - 1).toNat ⟨(nd l n).f0, up, b⟩) a).f0 = (nd l a).f0 := fun a ha => by
    rw [nd_set l n a _ hn.1 hn.2 ha]; split
    · rename_i e; rw [e]
    · rfl
  have f1 : ∀ a, 1 ≤ a → (nd (l.set (n - 1).toNat ⟨(nd l n).f0, up, b⟩) a).f1 = if a = n then up else (nd l a).f1 := fun a ha => by
    rw [nd_set l n a _ hn.1 hn.2 ha]; split <;> rfl
  obtain ⟨du, hdu⟩ := h.any up hu.1 hu.2
  have hlt := rch_lt l h1 hr hdu
  have keepu : ∀ (d : Nat) (k : Nat) (a : Int), Rch l d a → d < k → n ∉ chn l k a → Rch (l.set (n - 1).toNat ⟨(nd l n).f0, up, b⟩) d a := by
    intro d
    induction d with
    | zero => exact fun k a h _ _ => h
    | succ d ih =>
      intro k a g hk hc
      cases k with
      | zero => omega
      | succ k =>
        rw [chn_cons l k a ⟨g.2.1, g.2.2.1⟩] at hc
        simp only [List.mem_cons, not_or] at hc
        refine ⟨g.1, g.2.1, by have := g.2.2.1; omega, ?_⟩
        rw [f1 a g.2.1, if_neg (Ne.symm hc.1)]
        exact ih k _ g.2.2.2 (by omega) hc.2
  have hdu2 := keepu du (l.length + 1) up hdu (by omega) hc
  have keep : ∀ (d : Nat) (a : Int), Rch l d a → ∃ e, Rch (l.set (n - 1).toNat ⟨(nd l n).f0, up, b⟩) e a := by
    intro d
    induction d with
    | zero => exact fun a h => ⟨0, h⟩
    | succ d ih =>
      intro a g
      by_cases e : a = n
      · refine ⟨du + 1, g.1, g.2.1, by have := g.2.2.1; omega, ?_⟩
        rw [f1 a g.2.1, if_pos e]; exact hdu2
      · obtain ⟨e', he'⟩ := ih _ g.2.2.2
        refine ⟨e' + 1, g.1, g.2.1, by have := g.2.2.1; omega, ?_⟩
        rw [f1 a g.2.1, if_neg e]; exact he'
  refine ⟨by omega, by omega, ?_, ?_, ?_, ?_, ?_⟩
  · rw [nd_set l n 1 _ hn.1 hn.2 (by omega), if_neg (Ne.symm hn1)]; exact h.root
  · intro a ha ha2
    rw [f0 a (by omega)]; exact h.kind a ha (by omega)
  · intro a ha ha2
    rw [f1 a (by omega), len]; split
    · exact hu
    · exact h.above a ha (by omega)
  · intro a ha ha2
    rw [f1 a (by omega)]; split
    · rw [f0 up hu.1]; exact h3
    · have := h.above a ha (by omega)
      rw [f0 _ this.1]; exact h.bare a ha (by omega)
  · intro a ha ha2
    obtain ⟨d, hd⟩ := h.reach a ha (by omega)
    exact keep d a hd
/-- a node is not above the one that it hangs from -/
theorem not_above (l : List S109) (h : Ok l) (n : Int) (hn : 2 ≤ n ∧ n ≤ (l.length : Int)) (k : Nat) : n ∉ chn l k (nd l n).f1 := by
  intro hx
  obtain ⟨d, hd⟩ := h.reach n hn.1 hn.2
  cases d with
  | zero => have hd : n = 1 := hd; omega
  | succ d =>
    obtain ⟨e, he, h2⟩ := chn_rank l k d _ hd.2.2.2 (by rw [h.root]) n hx
    have := rch_uni l hd h2
    omega
end Go.Proofs.YtadcahnoghnkcaaX.P27
