/- Plain law: whatever is done, a topology stays sound; numbers and kinds stay, and who is dead; who is live, and how high, as the way up tells. No conditions. -/
import Derived.Test.YtadcahnoghnkcaaGf
import Derived.Test.YtadcahnoghnkcaaG6
import Derived.Test.YtadcahnoghnkcaaP27t12
namespace Go.Proofs.YtadcahnoghnkcaaX.P27
open Go.RowKit Go.Proofs.YtadcahnoghnkcaaW.PrintWords Go.Proofs.YtadcahnoghnkcaaW.PrintLast Go.Proofs.YtadcahnoghnkcaaW.PrintMore
set_option linter.unusedVariables false
set_option linter.unusedSimpArgs false

/-- a sound topology that came of another -/
structure Gr (l l' : List S109) : Prop where
  ok : Ok l'
  top : l'.length ≤ l.length + 1
  low : l.length ≤ l'.length
  keep : ∀ a, 1 ≤ a → a ≤ (l.length : Int) → (nd l' a).f0 = (nd l a).f0 ∧ ((nd l a).f2 = true → (nd l' a).f2 = true)
theorem gr_refl (l : List S109) (h : Ok l) : Gr l l := ⟨h, Nat.le_succ _, Nat.le_refl _, fun _ _ _ => ⟨rfl, fun x => x⟩⟩
theorem gr_set (l : List S109) (n : Int) (hn : 1 ≤ n ∧ n ≤ (l.length : Int)) (x : S109) (h : Ok (l.set (n - 1).toNat x)) (h0 : x.f0 = (nd l n).f0) (h2 : (nd l n).f2 = true → x.f2 = true) : Gr l (l.set (n - 1).toNat x) := by
  refine ⟨h, by simp, by simp, fun a ha ha2 => ?_⟩
  rw [nd_set l n a x hn.1 hn.2 ha]
  split
  · rename_i e; rw [e]; exact ⟨h0, h2⟩
  · exact ⟨rfl, fun x => x⟩
theorem enr_gr (l : List S109) (h : Ok l) (kd up : Int) (h0 : (enrV l kd up).2.2 = 0) : Gr l (enrV l kd up).1 := by
  have g := enr_ok l h kd up h0
  by_cases c : chkV l = 0 ∧ thereP l up ∧ (kd = 2 ∨ kd = 3)
  · have hv : enrV l kd up = (if (rd_T109 l (up - 1)).f0 = 3 then ([], 0, 15) else if (rd_T109 l (up - 1)).f2 = true then ([], 0, 14) else if 200 ≤ l.length then ([], 0, 8) else (l ++ [⟨kd, up, false⟩], (l.length : Int) + 1, 0)) := if_pos c
    by_cases h3 : (rd_T109 l (up - 1)).f0 = 3
    · rw [hv.trans (if_pos h3)] at h0; exact absurd h0 (by decide)
    replace hv := hv.trans (if_neg h3)
    by_cases hd : (rd_T109 l (up - 1)).f2 = true
    · rw [hv.trans (if_pos hd)] at h0; exact absurd h0 (by decide)
    replace hv := hv.trans (if_neg hd)
    by_cases hn : 200 ≤ l.length
    · rw [hv.trans (if_pos hn)] at h0; exact absurd h0 (by decide)
    rw [hv.trans (if_neg hn)] at g ⊢
    refine ⟨g.1, g.2, by simp, fun a ha ha2 => ?_⟩
    rw [nd_app l a _ ha ha2]
    exact ⟨rfl, fun x => x⟩
  · have hv : enrV l kd up = ([], 0, 2) := if_neg c
    rw [hv] at h0; exact absurd h0 (by decide)
theorem kill_gr (l : List S109) (h : Ok l) (n : Int) (h0 : (killV l n).2 = 0) : Gr l (killV l n).1 := by
  have g := kill_ok l h n h0
  by_cases c : chkV l = 0 ∧ thereP l n ∧ n ≠ 1
  · have hv : killV l n = (if (rd_T109 l (n - 1)).f2 = true then ([], 14) else (l.set (n - 1).toNat ⟨(rd_T109 l (n - 1)).f0, (rd_T109 l (n - 1)).f1, true⟩, 0)) := if_pos c
    by_cases hd : (rd_T109 l (n - 1)).f2 = true
    · rw [hv.trans (if_pos hd)] at h0; exact absurd h0 (by decide)
    rw [hv.trans (if_neg hd)] at g ⊢
    exact gr_set l n c.2.1 _ g.1 rfl (fun _ => rfl)
  · have hv : killV l n = ([], 2) := if_neg c
    rw [hv] at h0; exact absurd h0 (by decide)
theorem move_gr (l : List S109) (h : Ok l) (n up : Int) (h0 : (moveV l n up).2 = 0) : Gr l (moveV l n up).1 := by
  have g := moved_ok l h n up h0
  by_cases c : chkV l = 0 ∧ thereP l n ∧ thereP l up ∧ n ≠ 1
  · by_cases m : mayV l n up
    · rw [move_may l h n up c.2.1 c.2.2.1 c.2.2.2 m] at g ⊢
      exact gr_set l n c.2.1 _ g.1 rfl (fun x => x)
    · exact absurd h0 (move_not l n up (fun x => m x.2)).1
  · have hv : moveV l n up = ([], 2) := if_neg c
    rw [hv] at h0; exact absurd h0 (by decide)
theorem does_gr (l : List S109) (h : Ok l) (a b c d : Int) : ∃ r : List S109 × Int, Ev (fun k => tributarylaw27_does.f k l a b c d) r ∧ Gr l r.1 := by
  have hl : l.length < 1000 := by have := h.few; omega
  have one : ∀ fl : Bool, ∃ r : List S109 × Int, Ev (fun k => tributarylaw27_does.j0 k l a fl a b c d) r ∧ Gr l r.1 := by
    intro fl
    by_cases hf : fl = true
    · by_cases e : (enrV l b d).2.2 = 0
      · exact ⟨((enrV l b d).1, (enrV l b d).2.2), Ev.step (fun _ => rfl) (ev_pos hf (Ev.bind (enr_ev l hl b d) (ev_pos e (Ev.now _)))), enr_gr l h b d e⟩
      · exact ⟨(l, (enrV l b d).2.2), Ev.step (fun _ => rfl) (ev_pos hf (Ev.bind (enr_ev l hl b d) (ev_neg e (Ev.now _)))), gr_refl l h⟩
    by_cases e2 : a = 2
    · by_cases e : (killV l c).2 = 0
      · exact ⟨((killV l c).1, (killV l c).2), Ev.step (fun _ => rfl) (ev_neg hf (ev_pos e2 (Ev.bind (kill_ev l hl c) (ev_pos e (Ev.now _))))), kill_gr l h c e⟩
      · exact ⟨(l, (killV l c).2), Ev.step (fun _ => rfl) (ev_neg hf (ev_pos e2 (Ev.bind (kill_ev l hl c) (ev_neg e (Ev.now _))))), gr_refl l h⟩
    by_cases e3 : a = 3
    · by_cases e : (moveV l c d).2 = 0
      · exact ⟨((moveV l c d).1, (moveV l c d).2), Ev.step (fun _ => rfl) (ev_neg hf (ev_neg e2 (ev_pos e3 (Ev.bind (move_ev l hl c d) (ev_pos e (Ev.now _)))))), move_gr l h c d e⟩
      · exact ⟨(l, (moveV l c d).2), Ev.step (fun _ => rfl) (ev_neg hf (ev_neg e2 (ev_pos e3 (Ev.bind (move_ev l hl c d) (ev_neg e (Ev.now _)))))), gr_refl l h⟩
    · exact ⟨(l, 0), Ev.step (fun _ => rfl) (ev_neg hf (ev_neg e2 (ev_neg e3 (Ev.now _)))), gr_refl l h⟩
  by_cases e0 : a = 0
  · obtain ⟨r, h1, h2⟩ := one (a == 0)
    exact ⟨r, ev_pos e0 h1, h2⟩
  · obtain ⟨r, h1, h2⟩ := one (a == 1)
    exact ⟨r, ev_neg e0 h1, h2⟩

theorem mem_live (l : List S109) (x : Int) : ∀ k, x ∈ liveL l k ↔ 1 ≤ x ∧ x ≤ (k : Int) ∧ (chn l (l.length + 1) x).any (deadB l) = false
  | 0 => by
    unfold liveL
    constructor
    · intro h; cases h
    · intro h; have := h.1; have := h.2.1; omega
  | k + 1 => by
    unfold liveL
    have ih := mem_live l x k
    cases hd : (chn l (l.length + 1) ((k : Int) + 1)).any (deadB l) with
    | true =>
      rw [if_pos rfl, ih]
      constructor
      · exact fun h => ⟨h.1, by have := h.2.1; omega, h.2.2⟩
      · intro h
        refine ⟨h.1, ?_, h.2.2⟩
        by_cases e : x = (k : Int) + 1
        · rw [e, hd] at h; exact absurd h.2.2 (by decide)
        · have := h.2.1; omega
    | false =>
      rw [if_neg (by decide), List.mem_append, ih, List.mem_singleton]
      constructor
      · rintro (h | h)
        · exact ⟨h.1, by have := h.2.1; omega, h.2.2⟩
        · rw [h]; exact ⟨by omega, by omega, hd⟩
      · intro h
        by_cases e : x = (k : Int) + 1
        · exact .inr e
        · exact .inl ⟨h.1, by have := h.2.1; omega, h.2.2⟩
theorem mem_und (l : List S109) (a x : Int) : ∀ d i, x ∈ undFrom l a d i ↔ (i : Int) + 1 ≤ x ∧ x ≤ (i : Int) + (d : Int) ∧ (nd l x).f1 = a
  | 0, i => by
    unfold undFrom
    constructor
    · intro h; cases h
    · intro h; have := h.1; have := h.2.1; omega
  | d + 1, i => by
    unfold undFrom
    have ih := mem_und l a x d (i + 1)
    have e : rd_T109 l (i : Int) = nd l ((i : Int) + 1) := by unfold nd; rw [show (i : Int) + 1 - 1 = (i : Int) by omega]
    rw [e]
    by_cases hp : (nd l ((i : Int) + 1)).f1 = a
    · rw [if_pos hp, List.mem_cons, ih]
      constructor
      · rintro (h | h)
        · rw [h]; exact ⟨by omega, by omega, hp⟩
        · exact ⟨by have := h.1; omega, by have := h.2.1; omega, h.2.2⟩
      · intro h
        by_cases e2 : x = (i : Int) + 1
        · exact .inl e2
        · exact .inr ⟨by have := h.1; omega, by have := h.2.1; omega, h.2.2⟩
    · rw [if_neg hp, ih]
      constructor
      · exact fun h => ⟨by have := h.1; omega, by have := h.2.1; omega, h.2.2⟩
      · intro h
        by_cases e2 : x = (i : Int) + 1
        · rw [e2] at h; exact absurd h.2.2 hp
        · exact ⟨by have := h.1; omega, by have := h.2.1; omega, h.2.2⟩
theorem chn_next (l : List S109) : ∀ (k : Nat) (a : Int) (j : Nat), j + 1 < (chn l k a).length → rd (chn l k a) ((j : Int) + 1) = (nd l (rd (chn l k a) (j : Int))).f1
  | 0, a, j, h => by
    have : (chn l 0 a).length = 0 := rfl
    omega
  | k + 1, a, j, h => by
    by_cases ha : 1 ≤ a ∧ a ≤ (l.length : Int)
    · rw [chn_cons l k a ha] at h ⊢
      have h1 : rd (a :: chn l k (nd l a).f1) ((j : Int) + 1) = rd (chn l k (nd l a).f1) (j : Int) := by
        unfold rd
        rw [show ((j : Int) + 1).toNat = (j : Int).toNat + 1 by omega]; rfl
      rw [h1]
      cases j with
      | zero =>
        have hl : 0 < (chn l k (nd l a).f1).length := by simp only [List.length_cons] at h; omega
        cases k with
        | zero => exact absurd hl (by simp [chn])
        | succ k =>
          by_cases hb : 1 ≤ (nd l a).f1 ∧ (nd l a).f1 ≤ (l.length : Int)
          · rw [chn_cons l k _ hb]; rfl
          · rw [chn_out l _ _ hb] at hl; exact absurd hl (by simp)
      | succ j =>
        have h2 : rd (a :: chn l k (nd l a).f1) (((j + 1 : Nat) : Int)) = rd (chn l k (nd l a).f1) (j : Int) := by
          unfold rd
          rw [show (((j + 1 : Nat) : Int)).toNat = (j : Int).toNat + 1 by omega]; rfl
        rw [h2]
        have := chn_next l k (nd l a).f1 j (by simp only [List.length_cons] at h; omega)
        rw [← this]
        rw [show (((j + 1 : Nat) : Int)) = (j : Int) + 1 by omega]
    · rw [chn_out l (k + 1) a ha] at h
      exact absurd h (by simp)
theorem rd_mem (L : List Int) (j : Nat) (h : j < L.length) : rd L (j : Int) ∈ L := by
  unfold rd
  rw [List.getD_eq_getElem?_getD, show ((j : Int)).toNat = j by omega, List.getElem?_eq_getElem h]
  exact List.getElem_mem h
theorem take_any (L : List Int) (p : Int → Bool) (j : Nat) (h : j < L.length) : (L.take (j + 1)).any p = ((L.take j).any p || p (rd L (j : Int))) := by
  rw [List.take_add_one, List.any_append, List.getElem?_eq_getElem h]
  unfold rd
  rw [List.getD_eq_getElem?_getD, show ((j : Int)).toNat = j by omega, List.getElem?_eq_getElem h]
  simp
theorem way_loop (l : List S109) (h : Ok l) (live : List Int) (high n : Int) (hn : 1 ≤ n ∧ n ≤ (l.length : Int)) (hlv : live.length < 1000) (out : Bool)
    (fin : Ev (fun k => (tributarylaw27_has.f k live n).bind fun t250 => (if (t250 == (chn l (l.length + 1) n).any (deadB l)) = true then (some false) else (if (chn l (l.length + 1) n).any (deadB l) = true then (tributarylaw27_TopoStays.l2 k true l live high (wrap64 (n + 1))) else (tributarylaw27_TopoStays.l2 k true l live (mx high (wrap64 (((chn l (l.length + 1) n).length : Int) - 1))) (wrap64 (n + 1)))))) out) :
    ∀ (d j : Nat), d + j = (chn l (l.length + 1) n).length → Ev (fun k => tributarylaw27_TopoStays.l3 k true l live high n (chn l (l.length + 1) n) (((chn l (l.length + 1) n).take j).any (deadB l)) (j : Int)) out
  | 0, j, hj => by
    have e : (chn l (l.length + 1) n).take j = chn l (l.length + 1) n := List.take_of_length_le (by omega)
    rw [e]
    exact Ev.step (fun _ => rfl) (ev_neg (by omega) fin)
  | d + 1, j, hj => by
    have hf := h.few
    have hcl := chn_len l (l.length + 1) n
    have hjl : j < (chn l (l.length + 1) n).length := by omega
    have ih := way_loop l h live high n hn hlv out fin d (j + 1) (by omega)
    have hin := chn_ins l (l.length + 1) n _ (rd_mem _ j hjl)
    have j6 : Ev (fun k => tributarylaw27_TopoStays.j6 k true l live high n (chn l (l.length + 1) n) (((chn l (l.length + 1) n).take (j + 1)).any (deadB l)) (j : Int)) out := by
      refine Ev.step (fun _ => rfl) ?_
      rw [show ((j + 1 : Nat) : Int) = (j : Int) + 1 by omega] at ih
      by_cases h0 : (j : Int) > 0
      · refine ev_pos h0 (ev_pos (by omega) (ev_pos (by omega) (Ev.bind (under_ev l (by omega) _) ?_)))
        rw [w64 (x := (j : Int) - 1) (by omega) (by omega)]
        refine ev_pos (by omega) (ev_pos (by omega) (Ev.bind (has_ev _ (by have := und_len l (rd (chn l (l.length + 1) n) (j : Int)) l.length 0; omega) _) (ev_pos ?_ ?_)))
        · have hp := chn_next l (l.length + 1) n (j - 1) (by omega)
          rw [show ((j - 1 : Nat) : Int) = (j : Int) - 1 by omega, show (j : Int) - 1 + 1 = (j : Int) by omega] at hp
          have hin2 := chn_ins l (l.length + 1) n _ (rd_mem _ (j - 1) (by omega))
          rw [show ((j - 1 : Nat) : Int) = (j : Int) - 1 by omega] at hin2
          exact decide_eq_true ((mem_und l _ _ l.length 0).2 ⟨by omega, by omega, hp.symm⟩)
        · rw [w64 (x := (j : Int) + 1) (by omega) (by omega)]; exact ih
      · refine ev_neg h0 ?_
        rw [w64 (x := (j : Int) + 1) (by omega) (by omega)]; exact ih
    have ta := take_any (chn l (l.length + 1) n) (deadB l) j hjl
    refine Ev.step (fun _ => rfl) (ev_pos (by omega) ?_)
    by_cases hd : ((chn l (l.length + 1) n).take j).any (deadB l) = true
    · refine ev_pos hd ?_
      rw [ta, hd, Bool.true_or] at j6
      exact j6
    · refine ev_neg hd (ev_pos (by omega) ?_)
      rw [w64 (x := rd (chn l (l.length + 1) n) (j : Int) - 1) (by omega) (by omega)]
      refine ev_pos (by omega) (ev_pos (by omega) ?_)
      rw [ta, Bool.eq_false_iff.2 hd, Bool.false_or] at j6
      exact j6
theorem hgt_snoc (l : List S109) (x : Int) : ∀ (L : List Int) (m : Int), hgt l (L ++ [x]) m = mx (hgt l L m) (((chn l (l.length + 1) x).length : Int) - 1)
  | [], m => rfl
  | y :: L, m => hgt_snoc l x L _
theorem stays2 (l : List S109) (h : Ok l) : ∀ (d n : Nat), d + n = l.length → Ev (fun k => tributarylaw27_TopoStays.l2 k true l (liveV l) (hgt l (liveL l n) 0) ((n : Int) + 1)) true
  | 0, n, hn => by
    have hf := h.few
    have hlv : liveV l = liveL l l.length := if_pos ((chk_ok l).2 h)
    have en : n = l.length := by omega
    refine (show ∀ aw : Bool, aw = true → Ev (fun k => tributarylaw27_TopoStays.l2 k aw l (liveV l) (hgt l (liveL l n) 0) ((n : Int) + 1)) true from fun aw haw => ?_) true rfl
    refine Ev.step (fun _ => rfl) (ev_neg (by omega) (ev_pos haw (Ev.bind (height_ev l (by omega)) ?_)))
    rw [hlv, en]
    exact Ev.congr (f := fun _ => some true) (fun _ => by simp) (Ev.now _)
  | d + 1, n, hn => by
    have hf := h.few
    have h1 := h.some'
    have hlv : liveV l = liveL l l.length := if_pos ((chk_ok l).2 h)
    have hll := liveV_len l
    have hr : (nd l 1).f1 = 0 := by rw [h.root]
    have hcl := chn_len l (l.length + 1) ((n : Int) + 1)
    have hc0 := chn_cons l l.length ((n : Int) + 1) (by omega)
    have hlast := (last_iff l h1 hr l.length ((n : Int) + 1) (by omega) (by omega)).2 (by
      obtain ⟨e, he⟩ := h.any ((n : Int) + 1) (by omega) (by omega)
      exact ⟨e, Nat.le_of_lt (rch_lt l h1 hr he), he⟩)
    have hpos : 0 < (chn l (l.length + 1) ((n : Int) + 1)).length := by rw [hc0]; simp
    have ih := stays2 l h d (n + 1) (by omega)
    rw [show (((n + 1 : Nat) : Int)) + 1 = (n : Int) + 1 + 1 by omega] at ih
    refine Ev.step (fun _ => rfl) (ev_pos (by omega) (Ev.bind (way_ev l (by omega) ((n : Int) + 1)) ?_))
    rw [show wayV l ((n : Int) + 1) = (chn l (l.length + 1) ((n : Int) + 1), 0) from if_pos ⟨(chk_ok l).2 h, by omega, by omega⟩]
    refine ev_pos rfl (ev_neg (by simp only []; omega) (ev_pos (by simp only []; omega) (ev_pos (by simp only []; rw [hc0]; rfl) ?_)))
    simp only []
    rw [w64 (x := ((chn l (l.length + 1) ((n : Int) + 1)).length : Int) - 1) (by omega) (by omega)]
    refine ev_pos (by omega) (ev_pos (by omega) ?_)
    refine (show ∀ b : Bool, b = false → Ev (fun k => tributarylaw27_TopoStays.j4 k true l (liveV l) (hgt l (liveL l n) 0) ((n : Int) + 1) (chn l (l.length + 1) ((n : Int) + 1)) b) true from fun b hb => ?_) _ (by rw [hlast]; rfl)
    refine Ev.step (fun _ => rfl) (ev_neg (by simp [hb]) ?_)
    refine way_loop l h (liveV l) _ ((n : Int) + 1) (by omega) (by omega) true ?_ (chn l (l.length + 1) ((n : Int) + 1)).length 0 (by omega)
    have hm := mem_live l ((n : Int) + 1) l.length
    refine Ev.bind (has_ev _ (by omega) _) ?_
    rw [w64 (x := (n : Int) + 1 + 1) (by omega) (by omega), w64 (x := ((chn l (l.length + 1) ((n : Int) + 1)).length : Int) - 1) (by omega) (by omega)]
    cases hd : (chn l (l.length + 1) ((n : Int) + 1)).any (deadB l) with
    | true =>
      have hni : ¬ ((n : Int) + 1 ∈ liveV l) := by rw [hlv, hm, hd]; exact fun x => by cases x.2.2
      rw [show liveL l (n + 1) = liveL l n from if_pos hd] at ih
      rw [decide_eq_false hni]
      refine Ev.congr (fun _ => ?_) ih
      rfl
    | false =>
      have hi : (n : Int) + 1 ∈ liveV l := by rw [hlv, hm]; exact ⟨by omega, by omega, hd⟩
      rw [show liveL l (n + 1) = liveL l n ++ [(n : Int) + 1] from if_neg (by rw [hd]; decide), hgt_snoc] at ih
      rw [decide_eq_true hi]
      refine Ev.congr (fun _ => ?_) ih
      rfl
theorem stays1 (acts : List S107) (x5 : Int) (l x : List S109) (g : Gr l x) (hf : l.length < 1000) (nx : Ev (fun k => tributarylaw27_TopoStays.l0 k acts true x (wrap64 (x5 + 1))) true) :
    ∀ (d j : Nat), d + j = l.length → Ev (fun k => tributarylaw27_TopoStays.l1 k acts true l x5 x (j : Int)) true
  | 0, j, hj => Ev.step (fun _ => rfl) (ev_neg (by omega) nx)
  | d + 1, j, hj => by
    have low := g.low
    have ih := stays1 acts x5 l x g hf nx d (j + 1) (by omega)
    rw [show ((j + 1 : Nat) : Int) = (j : Int) + 1 by omega] at ih
    have e : ∀ m : List S109, rd_T109 m (j : Int) = nd m ((j : Int) + 1) := fun m => by unfold nd; rw [show (j : Int) + 1 - 1 = (j : Int) by omega]
    have kp := g.keep ((j : Int) + 1) (by omega) (by omega)
    refine Ev.step (fun _ => rfl) (ev_pos (by omega) (ev_pos (by omega) (ev_pos (by omega) ?_)))
    rw [e l, e x, w64 (x := (j : Int) + 1) (by omega) (by omega)]
    refine ev_pos kp.1 ?_
    by_cases hd : (nd l ((j : Int) + 1)).f2 = true
    · exact ev_pos hd (ev_pos (kp.2 hd) ih)
    · exact ev_neg hd ih
theorem stays0 (acts : List S107) (ha : acts.length ≤ 60) : ∀ (d j : Nat), d + j = acts.length → ∀ l : List S109, Ok l → l.length ≤ j + 1 → Ev (fun k => tributarylaw27_TopoStays.l0 k acts true l (j : Int)) true
  | 0, j, hj, l, h, hl => by
    have h1 := h.some'
    refine Ev.step (fun _ => rfl) (ev_neg (by omega) (Ev.bind (live_ev l (by omega)) ?_))
    exact stays2 l h l.length 0 (by omega)
  | d + 1, j, hj, l, h, hl => by
    obtain ⟨r, h1, g⟩ := does_gr l h (rd_T107 acts (j : Int)).f0 (rd_T107 acts (j : Int)).f1 (rd_T107 acts (j : Int)).f2 (rd_T107 acts (j : Int)).f3
    have top := g.top
    have low := g.low
    refine Ev.step (fun _ => rfl) (ev_pos (by omega) (ev_pos (by omega) (Ev.bind h1 (Ev.bind (check_ev r.1 (by omega)) ?_))))
    rw [(chk_ok r.1).2 g.ok]
    refine ev_pos rfl ?_
    refine (show ∀ b : Bool, b = false → Ev (fun k => tributarylaw27_TopoStays.j1 k acts true l (j : Int) r.1 b) true from fun b hb => ?_) _ (decide_eq_false (by omega))
    refine Ev.step (fun _ => rfl) (ev_neg (by simp [hb]) ?_)
    refine stays1 acts (j : Int) l r.1 g (by omega) ?_ l.length 0 (by omega)
    rw [w64 (x := (j : Int) + 1) (by omega) (by omega)]
    exact stays0 acts ha d (j + 1) (by omega) r.1 g.ok (by omega)
theorem stays (acts : List S107) : ∃ k, tributarylaw27_TopoStays.f k acts = some true := by
  obtain ⟨k0, hk0⟩ := known
  refine Ev.rounds (Ev.bind (Ev.of (k := k0) tributarylaw27_TopoKnown.mono hk0) ?_)
  by_cases h : (acts.length : Int) > 60
  · exact ev_pos h (Ev.now _)
  · exact ev_neg h (ev_eq rfl (stays0 acts (by omega) acts.length 0 (by omega) _ ok_new (by simp)))
end Go.Proofs.YtadcahnoghnkcaaX.P27
