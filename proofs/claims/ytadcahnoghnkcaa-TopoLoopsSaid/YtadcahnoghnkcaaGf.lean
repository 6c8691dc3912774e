/- Plain law: no move puts a node below itself, and what was moved can be moved back. No conditions. -/
import Derived.Test.YtadcahnoghnkcaaGe
import Derived.Test.YtadcahnoghnkcaaP27x39
namespace Go.Proofs.YtadcahnoghnkcaaX.P27
open Go.RowKit Go.Proofs.YtadcahnoghnkcaaW.PrintWords Go.Proofs.YtadcahnoghnkcaaW.PrintLast Go.Proofs.YtadcahnoghnkcaaW.PrintMore
set_option linter.unusedVariables false
set_option linter.unusedSimpArgs false

theorem enr_ok (l : List S109) (h : Ok l) (kd up : Int) (h0 : (enrV l kd up).2.2 = 0) : Ok (enrV l kd up).1 ∧ (enrV l kd up).1.length ≤ l.length + 1 := by
  by_cases c : chkV l = 0 ∧ thereP l up ∧ (kd = 2 ∨ kd = 3)
  · have hv : enrV l kd up = (if (rd_T109 l (up - 1)).f0 = 3 then ([], 0, 15) else if (rd_T109 l (up - 1)).f2 = true then ([], 0, 14) else if 200 ≤ l.length then ([], 0, 8) else (l ++ [⟨kd, up, false⟩], (l.length : Int) + 1, 0)) := if_pos c
    by_cases h3 : (rd_T109 l (up - 1)).f0 = 3
    · rw [hv.trans (if_pos h3)] at h0; exact absurd h0 (by decide)
    replace hv := hv.trans (if_neg h3)
    by_cases hd : (rd_T109 l (up - 1)).f2 = true
    · rw [hv.trans (if_pos hd)] at h0; exact absurd h0 (by decide)
    replace hv := hv.trans (if_neg hd)
    by_cases hn : 200 ≤ l.length
    · rw [hv.trans (if_pos hn)] at h0; exact absurd h0 (by decide)
    rw [hv.trans (if_neg hn)]
    exact ⟨ok_enr l h kd up c.2.2 c.2.1 h3 (by omega), by simp⟩
  · have hv : enrV l kd up = ([], 0, 2) := if_neg c
    rw [hv] at h0; exact absurd h0 (by decide)
theorem kill_ok (l : List S109) (h : Ok l) (n : Int) (h0 : (killV l n).2 = 0) : Ok (killV l n).1 ∧ (killV l n).1.length ≤ l.length + 1 := by
  by_cases c : chkV l = 0 ∧ thereP l n ∧ n ≠ 1
  · have hv : killV l n = (if (rd_T109 l (n - 1)).f2 = true then ([], 14) else (l.set (n - 1).toNat ⟨(rd_T109 l (n - 1)).f0, (rd_T109 l (n - 1)).f1, true⟩, 0)) := if_pos c
    by_cases hd : (rd_T109 l (n - 1)).f2 = true
    · rw [hv.trans (if_pos hd)] at h0; exact absurd h0 (by decide)
    rw [hv.trans (if_neg hd)]
    exact ⟨ok_kill l h n c.2.1 c.2.2 true, by simp⟩
  · have hv : killV l n = ([], 2) := if_neg c
    rw [hv] at h0; exact absurd h0 (by decide)
/-- may a node be moved -/
def mayV (l : List S109) (n up : Int) : Prop := (nd l n).f2 = false ∧ (nd l up).f2 = false ∧ (nd l up).f0 ≠ 3 ∧ n ∉ chn l (l.length + 1) up
theorem move_may (l : List S109) (h : Ok l) (n up : Int) (hn : 1 ≤ n ∧ n ≤ (l.length : Int)) (hu : 1 ≤ up ∧ up ≤ (l.length : Int)) (hn1 : n ≠ 1) (m : mayV l n up) :
    moveV l n up = (l.set (n - 1).toNat ⟨(nd l n).f0, up, (nd l n).f2⟩, 0) := by
  obtain ⟨m1, m2, m3, m4⟩ := m
  have hv : moveV l n up = (if (rd_T109 l (n - 1)).f2 = true ∨ (rd_T109 l (up - 1)).f2 = true then ([], 14) else if (rd_T109 l (up - 1)).f0 = 3 then ([], 15) else if n ∈ chn l (l.length + 1) up then ([], 13) else
      (l.set (n - 1).toNat ⟨(rd_T109 l (n - 1)).f0, up, (rd_T109 l (n - 1)).f2⟩, 0)) := if_pos ⟨(chk_ok l).2 h, hn, hu, hn1⟩
  rw [hv.trans (if_neg (fun c => c.elim (fun c => by rw [show (rd_T109 l (n - 1)).f2 = (nd l n).f2 from rfl, m1] at c; cases c) (fun c => by rw [show (rd_T109 l (up - 1)).f2 = (nd l up).f2 from rfl, m2] at c; cases c)))]
  exact (if_neg m3).trans (if_neg m4)
theorem move_not (l : List S109) (n up : Int) (m : ¬ (n ≠ 1 ∧ mayV l n up)) : (moveV l n up).2 ≠ 0 ∧ (moveV l n up).1 = [] := by
  by_cases c : chkV l = 0 ∧ thereP l n ∧ thereP l up ∧ n ≠ 1
  · have hv : moveV l n up = (if (rd_T109 l (n - 1)).f2 = true ∨ (rd_T109 l (up - 1)).f2 = true then ([], 14) else if (rd_T109 l (up - 1)).f0 = 3 then ([], 15) else if n ∈ chn l (l.length + 1) up then ([], 13) else
      (l.set (n - 1).toNat ⟨(rd_T109 l (n - 1)).f0, up, (rd_T109 l (n - 1)).f2⟩, 0)) := if_pos c
    by_cases hd : (rd_T109 l (n - 1)).f2 = true ∨ (rd_T109 l (up - 1)).f2 = true
    · rw [hv.trans (if_pos hd)]; exact ⟨by decide, rfl⟩
    replace hv := hv.trans (if_neg hd)
    by_cases h3 : (rd_T109 l (up - 1)).f0 = 3
    · rw [hv.trans (if_pos h3)]; exact ⟨by decide, rfl⟩
    replace hv := hv.trans (if_neg h3)
    by_cases hi : n ∈ chn l (l.length + 1) up
    · rw [hv.trans (if_pos hi)]; exact ⟨by decide, rfl⟩
    refine absurd ⟨c.2.2.2, ?_, ?_, h3, hi⟩ m
    · cases e : (nd l n).f2 with
      | false => rfl
      | true => exact absurd (.inl e) hd
    · cases e : (nd l up).f2 with
      | false => rfl
      | true => exact absurd (.inr e) hd
  · have hv : moveV l n up = ([], 2) := if_neg c
    rw [hv]; exact ⟨by decide, rfl⟩
theorem move_dead (l : List S109) (h : Ok l) (n up : Int) (hn : 1 ≤ n ∧ n ≤ (l.length : Int)) (hu : 1 ≤ up ∧ up ≤ (l.length : Int)) (hn1 : n ≠ 1) (hd : (nd l up).f2 = true) : moveV l n up = ([], 14) := by
  have hv : moveV l n up = (if (rd_T109 l (n - 1)).f2 = true ∨ (rd_T109 l (up - 1)).f2 = true then ([], 14) else if (rd_T109 l (up - 1)).f0 = 3 then ([], 15) else if n ∈ chn l (l.length + 1) up then ([], 13) else
      (l.set (n - 1).toNat ⟨(rd_T109 l (n - 1)).f0, up, (rd_T109 l (n - 1)).f2⟩, 0)) := if_pos ⟨(chk_ok l).2 h, hn, hu, hn1⟩
  exact hv.trans (if_pos (.inr hd))
theorem moved_ok (l : List S109) (h : Ok l) (n up : Int) (h0 : (moveV l n up).2 = 0) : Ok (moveV l n up).1 ∧ (moveV l n up).1.length ≤ l.length + 1 := by
  by_cases c : chkV l = 0 ∧ thereP l n ∧ thereP l up ∧ n ≠ 1
  · by_cases m : mayV l n up
    · rw [move_may l h n up c.2.1 c.2.2.1 c.2.2.2 m]
      exact ⟨ok_move l h n up c.2.1 c.2.2.1 c.2.2.2 m.2.2.1 m.2.2.2 _, by simp⟩
    · exact absurd h0 (move_not l n up (fun x => m x.2)).1
  · have hv : moveV l n up = ([], 2) := if_neg c
    rw [hv] at h0; exact absurd h0 (by decide)
theorem does_ev (l : List S109) (h : Ok l) (a b c d : Int) : ∃ r : List S109 × Int, Ev (fun k => tributarylaw27_does.f k l a b c d) r ∧ Ok r.1 ∧ r.1.length ≤ l.length + 1 := by
  have hl : l.length < 1000 := by have := h.few; omega
  have one : ∀ fl : Bool, ∃ r : List S109 × Int, Ev (fun k => tributarylaw27_does.j0 k l a fl a b c d) r ∧ Ok r.1 ∧ r.1.length ≤ l.length + 1 := by
    intro fl
    by_cases hf : fl = true
    · by_cases e : (enrV l b d).2.2 = 0
      · exact ⟨((enrV l b d).1, (enrV l b d).2.2), Ev.step (fun _ => rfl) (ev_pos hf (Ev.bind (enr_ev l hl b d) (ev_pos e (Ev.now _)))), enr_ok l h b d e⟩
      · exact ⟨(l, (enrV l b d).2.2), Ev.step (fun _ => rfl) (ev_pos hf (Ev.bind (enr_ev l hl b d) (ev_neg e (Ev.now _)))), h, Nat.le_succ _⟩
    by_cases e2 : a = 2
    · by_cases e : (killV l c).2 = 0
      · exact ⟨((killV l c).1, (killV l c).2), Ev.step (fun _ => rfl) (ev_neg hf (ev_pos e2 (Ev.bind (kill_ev l hl c) (ev_pos e (Ev.now _))))), kill_ok l h c e⟩
      · exact ⟨(l, (killV l c).2), Ev.step (fun _ => rfl) (ev_neg hf (ev_pos e2 (Ev.bind (kill_ev l hl c) (ev_neg e (Ev.now _))))), h, Nat.le_succ _⟩
    by_cases e3 : a = 3
    · by_cases e : (moveV l c d).2 = 0
      · exact ⟨((moveV l c d).1, (moveV l c d).2), Ev.step (fun _ => rfl) (ev_neg hf (ev_neg e2 (ev_pos e3 (Ev.bind (move_ev l hl c d) (ev_pos e (Ev.now _)))))), moved_ok l h c d e⟩
      · exact ⟨(l, (moveV l c d).2), Ev.step (fun _ => rfl) (ev_neg hf (ev_neg e2 (ev_pos e3 (Ev.bind (move_ev l hl c d) (ev_neg e (Ev.now _)))))), h, Nat.le_succ _⟩
    · exact ⟨(l, 0), Ev.step (fun _ => rfl) (ev_neg hf (ev_neg e2 (ev_neg e3 (Ev.now _)))), h, Nat.le_succ _⟩
  by_cases e0 : a = 0
  · obtain ⟨r, h1, h2⟩ := one (a == 0)
    exact ⟨r, ev_pos e0 h1, h2⟩
  · obtain ⟨r, h1, h2⟩ := one (a == 1)
    exact ⟨r, ev_neg e0 h1, h2⟩
theorem has_ev0 (xs : List Int) (hx : xs.length < 100000) (a : Int) : ∀ (d j : Nat), d + j = xs.length → Ev (fun k => tributarylaw27_has.l0 k xs a (j : Int)) (decide (a ∈ xs.drop j))
  | 0, j, hj => by
    rw [List.drop_of_length_le (by omega)]
    exact Ev.step (fun _ => rfl) (ev_neg (by omega) (Ev.now _))
  | d + 1, j, hj => by
    have hjl : j < xs.length := by omega
    have hr : rd xs (j : Int) = xs[j] := by unfold rd; simp [List.getD_eq_getElem?_getD, hjl]
    rw [List.drop_eq_getElem_cons hjl]
    have ih := has_ev0 xs hx a d (j + 1) (by omega)
    refine Ev.step (fun _ => rfl) (ev_pos (by omega) (ev_pos (by omega) ?_))
    by_cases h : xs[j] = a
    · rw [show decide (a ∈ xs[j] :: xs.drop (j + 1)) = true by simp [h]]
      exact ev_pos (by rw [hr]; exact h) (Ev.now _)
    · refine ev_neg (by rw [hr]; exact h) ?_
      rw [w64 (x := (j : Int) + 1) (by omega) (by omega)]
      have : decide (a ∈ xs[j] :: xs.drop (j + 1)) = decide (a ∈ xs.drop (j + 1)) := by
        apply decide_eq_decide.2
        rw [List.mem_cons]
        exact ⟨fun h1 => h1.resolve_left (fun e => h e.symm), fun h1 => .inr h1⟩
      rw [this]
      exact ih
theorem has_ev (xs : List Int) (hx : xs.length < 100000) (a : Int) : Ev (fun k => tributarylaw27_has.f k xs a) (decide (a ∈ xs)) := by
  have := has_ev0 xs hx a xs.length 0 (by omega)
  rw [List.drop_zero] at this
  exact this
theorem pick_eq (a n : Int) (h1 : 1 ≤ n) (h2 : n ≤ 1000) : ∃ r, tributarykit_Pick.f a n = some r ∧ 0 ≤ r ∧ r < n := by
  have hb : -n < Int.tmod a n ∧ Int.tmod a n < n := by
    constructor
    · exact Int.lt_of_lt_of_le (Int.neg_lt_neg (by omega : n - 1 < n)) (by
        rcases Int.le_total 0 a with h | h
        · have := Int.tmod_nonneg n h; omega
        · have h3 := Int.tmod_lt_of_pos (-a) (show 0 < n by omega)
          rw [Int.neg_tmod] at h3
          omega)
    · exact Int.tmod_lt_of_pos a (by omega)
  refine ⟨Int.tmod (Int.tmod a n + n) n, ?_, Int.tmod_nonneg n (by omega), Int.tmod_lt_of_pos _ (by omega)⟩
  unfold tributarykit_Pick.f
  rw [if_neg (by omega), if_neg (by omega), w64 (by omega) (by omega)]
theorem back_ev (l : List S109) (h : Ok l) (n up : Int) (hn : 1 ≤ n ∧ n ≤ (l.length : Int)) (hu : 1 ≤ up ∧ up ≤ (l.length : Int)) (want : Bool) (hw : want = true ↔ n ≠ 1 ∧ mayV l n up) :
    Ev (fun k => tributarylaw27_TopoLoops.j1 k n true l (moveV l n up).1 (moveV l n up).2 want) true := by
  have hf := h.few
  refine (show ∀ aw : Bool, aw = true → Ev (fun k => tributarylaw27_TopoLoops.j1 k n aw l (moveV l n up).1 (moveV l n up).2 want) true from fun aw haw => ?_) true rfl
  by_cases hwt : want = true
  rotate_left
  · have m := move_not l n up (fun x => hwt (hw.2 x))
    have hwt' : want = false := by cases want <;> simp_all
    refine Ev.step (fun _ => rfl) (ev_neg (by rw [hwt']; simp [m.1]) (ev_neg hwt (ev_pos haw ?_)))
    rw [m.2]
    exact Ev.now _
  · have _ := 0
    obtain ⟨hn1, m⟩ := hw.1 hwt
    have ab := h.above n (by omega) hn.2
    have br := h.bare n (by omega) hn.2
    have nab := not_above l h n ⟨by omega, hn.2⟩ (l.length + 1)
    have hmv := move_may l h n up hn hu hn1 m
    have hok := ok_move l h n up hn hu hn1 m.2.2.1 m.2.2.2 (nd l n).f2
    obtain ⟨l2, hl2⟩ : ∃ l2, l2 = l.set (n - 1).toNat (⟨(nd l n).f0, up, (nd l n).f2⟩ : S109) := ⟨_, rfl⟩
    have len2 : l2.length = l.length := by rw [hl2]; simp
    rw [hmv]
    rw [← hl2] at hok ⊢
    have f0 : ∀ a, 1 ≤ a → (nd l2 a).f0 = (nd l a).f0 := fun a ha => by
      rw [hl2, nd_set l n a _ hn.1 hn.2 ha]; split
      · rename_i e; rw [e]
      · rfl
    have f2 : ∀ a, 1 ≤ a → (nd l2 a).f2 = (nd l a).f2 := fun a ha => by
      rw [hl2, nd_set l n a _ hn.1 hn.2 ha]; split
      · rename_i e; rw [e]
      · rfl
    have hp : rd_T109 l (n - 1) = nd l n := rfl
    have w1 : wrap64 (n - 1) = n - 1 := w64 (by omega) (by omega)
    have w2 : wrap64 ((nd l n).f1 - 1) = (nd l n).f1 - 1 := w64 (by omega) (by omega)
    refine Ev.step (fun _ => rfl) (ev_neg (by rw [hwt]; simp) (ev_pos hwt ?_))
    rw [w1]
    refine ev_pos (by omega) (ev_pos (by omega) ?_)
    rw [hp, w2]
    refine Ev.bind (move_ev l2 (by omega) n (nd l n).f1) ?_
    cases hd : (nd l (nd l n).f1).f2 with
    | true =>
      rw [move_dead l2 hok n _ (by rw [len2]; exact hn) (by rw [len2]; exact ab) hn1 (by rw [f2 _ ab.1]; exact hd)]
      exact ev_pos (by omega) (ev_pos (by omega) (ev_pos hd (ev_pos haw (Ev.now _))))
    | false =>
      have m2 : mayV l2 n (nd l n).f1 := by
        refine ⟨by rw [f2 n hn.1]; exact m.1, by rw [f2 _ ab.1]; exact hd, by rw [f0 _ ab.1]; exact br, ?_⟩
        rw [len2, hl2, chn_keep l n hn _ _ _ nab]
        exact nab
      have hb : l2.set (n - 1).toNat ⟨(nd l2 n).f0, (nd l n).f1, (nd l2 n).f2⟩ = l := by
        rw [f0 n hn.1, f2 n hn.1, hl2, List.set_set]
        apply List.ext_getElem?
        intro i
        rw [List.getElem?_set]
        by_cases e : (n - 1).toNat = i
        · rw [if_pos e, if_pos (by omega), ← e]
          have : nd l n = l[(n - 1).toNat]'(by omega) := by unfold nd rd_T109; rw [List.getD_eq_getElem?_getD, List.getElem?_eq_getElem (by omega)]; rfl
          rw [List.getElem?_eq_getElem (by omega), ← this]
        · rw [if_neg e]
      rw [move_may l2 hok n _ (by rw [len2]; exact hn) (by rw [len2]; exact ab) hn1 m2, hb]
      refine ev_pos (by omega) (ev_pos (by omega) (ev_neg (fun c => by rw [show (rd_T109 l ((nd l n).f1 - 1)).f2 = (nd l (nd l n).f1).f2 from rfl, hd] at c; cases c) (ev_pos haw (ev_pos rfl (Ev.bind (mems_ev l (by omega)) (ev_pos rfl (Ev.bind (check_ev l2 (by omega)) ?_)))))))
      rw [(chk_ok l2).2 hok]
      exact Ev.now _
theorem loops0 (acts : List S107) (ha : acts.length ≤ 60) (x1 x2 : Int) : ∀ (d j : Nat), d + j = acts.length → ∀ l : List S109, Ok l → l.length ≤ j + 1 → Ev (fun k => tributarylaw27_TopoLoops.l0 k acts x1 x2 true l (j : Int)) true
  | 0, j, hj, l, h, hl => by
    have h1 := h.some'
    have hc := (chk_ok l).2 h
    obtain ⟨r1, e1, b1, c1⟩ := pick_eq x1 (l.length : Int) (by omega) (by omega)
    obtain ⟨r2, e2, b2, c2⟩ := pick_eq x2 (l.length : Int) (by omega) (by omega)
    refine Ev.step (fun _ => rfl) (ev_neg (by omega) (ev_eq e1 (ev_eq e2 ?_)))
    rw [w64 (x := 1 + r1) (by omega) (by omega), w64 (x := 1 + r2) (by omega) (by omega)]
    have hn : 1 ≤ 1 + r1 ∧ 1 + r1 ≤ (l.length : Int) := by omega
    have hu : 1 ≤ 1 + r2 ∧ 1 + r2 ≤ (l.length : Int) := by omega
    generalize 1 + r1 = n at hn ⊢
    generalize 1 + r2 = up at hu ⊢
    refine Ev.bind (move_ev l (by omega) n up) (Ev.bind (way_ev l (by omega) up) ?_)
    rw [show wayV l up = (chn l (l.length + 1) up, 0) from if_pos ⟨hc, hu.1, hu.2⟩]
    refine ev_pos rfl ?_
    by_cases hn1 : n = 1
    · exact ev_pos hn1 (back_ev l h n up hn hu false ⟨fun x => (by cases x), fun x => absurd hn1 x.1⟩)
    rw [w64 (x := n - 1) (by omega) (by omega), w64 (x := up - 1) (by omega) (by omega)]
    refine ev_neg hn1 (ev_pos (by omega) (ev_pos (by omega) ?_))
    by_cases hd : (rd_T109 l (n - 1)).f2 = true
    · exact ev_pos hd (back_ev l h n up hn hu false ⟨fun x => (by cases x), fun x => by have := x.2.1; rw [show (nd l n).f2 = true from hd] at this; cases this⟩)
    refine ev_neg hd (ev_pos (by omega) (ev_pos (by omega) ?_))
    by_cases hd2 : (rd_T109 l (up - 1)).f2 = true
    · exact ev_pos hd2 (back_ev l h n up hn hu false ⟨fun x => (by cases x), fun x => by have := x.2.2.1; rw [show (nd l up).f2 = true from hd2] at this; cases this⟩)
    refine ev_neg hd2 ?_
    by_cases h3 : (rd_T109 l (up - 1)).f0 = 3
    · exact ev_pos h3 (back_ev l h n up hn hu false ⟨fun x => (by cases x), fun x => absurd h3 x.2.2.2.1⟩)
    refine ev_neg h3 (Ev.bind (has_ev _ (by have := chn_len l (l.length + 1) up; simp only []; omega) n) ?_)
    refine back_ev l h n up hn hu _ ?_
    simp only [Bool.not_eq_true', decide_eq_false_iff_not]
    constructor
    · intro hni
      refine ⟨hn1, ?_, ?_, h3, hni⟩
      · cases e : (nd l n).f2 with
        | false => rfl
        | true => exact absurd e hd
      · cases e : (nd l up).f2 with
        | false => rfl
        | true => exact absurd e hd2
    · exact fun x => x.2.2.2.2
  | d + 1, j, hj, l, h, hl => by
    obtain ⟨r, h1, h2, h3⟩ := does_ev l h (rd_T107 acts (j : Int)).f0 (rd_T107 acts (j : Int)).f1 (rd_T107 acts (j : Int)).f2 (rd_T107 acts (j : Int)).f3
    refine Ev.step (fun _ => rfl) (ev_pos (by omega) (ev_pos (by omega) (Ev.bind h1 ?_)))
    rw [w64 (x := (j : Int) + 1) (by omega) (by omega)]
    exact loops0 acts ha x1 x2 d (j + 1) (by omega) r.1 h2 (by omega)
theorem loops (acts : List S107) (x1 x2 : Int) : ∃ k, tributarylaw27_TopoLoops.f k acts x1 x2 = some true := by
  refine Ev.rounds (Ev.bind awake_ev ?_)
  by_cases h : (acts.length : Int) > 60
  · exact ev_pos h (Ev.now _)
  · exact ev_neg h (ev_eq rfl (loops0 acts (by omega) x1 x2 acts.length 0 (by omega) _ ok_new (by simp)))
end Go.Proofs.YtadcahnoghnkcaaX.P27
