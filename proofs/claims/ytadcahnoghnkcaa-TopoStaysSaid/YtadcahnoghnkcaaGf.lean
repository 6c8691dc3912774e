/- Plain law: what an act does to a sound topology. No conditions. -/
import Derived.Test.YtadcahnoghnkcaaGe
import Derived.Test.YtadcahnoghnkcaaP27M7
namespace Go.Proofs.YtadcahnoghnkcaaX.P27
open Go.RowKit Go.Proofs.YtadcahnoghnkcaaW.PrintWords Go.Proofs.YtadcahnoghnkcaaW.PrintLast Go.Proofs.YtadcahnoghnkcaaW.PrintMore
set_option linter.unusedVariables false
set_option linter.unusedSimpArgs false

theorem enr_ok (l : List S109) (h : Ok l) (kd up : Int) (h0 : (enrV l kd up).2.2 = 0) : Ok (enrV l kd up).1 ∧ (enrV l kd up).1.length ≤ l.length + 1 := by
  by_cases c : chkV l = 0 ∧ thereP l up ∧ (kd = 2 ∨ kd = 3)
  · have hv : enrV l kd up = (if (rd_T109 l (up - 1)).f0 = 3 then ([], 0, 15) else if (rd_T109 l (up - 1)).f2 = true then ([], 0, 14) else if 200 ≤ l.length then ([], 0, 8) else (l ++ [⟨kd, up, false⟩], (l.length : Int) + 1, 0)) := if_pos c
    by_cases h3 : (rd_T109 l (up - 1)).f0 = 3
    · rw [hv.trans (if_pos h3)] at h0; exact absurd h0 (by decide)
    replace hv := hv.trans (if_neg h3)
    by_cases hd : (rd_T109 l (up - 1)).f2 = true
    · rw [hv.trans (if_pos hd)] at h0; exact absurd h0 (by decide)
    replace hv := hv.trans (if_neg hd)
    by_cases hn : 200 ≤ l.length
    · rw [hv.trans (if_pos hn)] at h0; exact absurd h0 (by decide)
    rw [hv.trans (if_neg hn)]
    exact ⟨ok_enr l h kd up c.2.2 c.2.1 h3 (by omega), by simp⟩
  · have hv : enrV l kd up = ([], 0, 2) := if_neg c
    rw [hv] at h0; exact absurd h0 (by decide)
theorem kill_ok (l : List S109) (h : Ok l) (n : Int) (h0 : (killV l n).2 = 0) : Ok (killV l n).1 ∧ (killV l n).1.length ≤ l.length + 1 := by
  by_cases c : chkV l = 0 ∧ thereP l n ∧ n ≠ 1
  · have hv : killV l n = (if (rd_T109 l (n - 1)).f2 = true then ([], 14) else (l.set (n - 1).toNat ⟨(rd_T109 l (n - 1)).f0, (rd_T109 l (n - 1)).f1, true⟩, 0)) := if_pos c
    by_cases hd : (rd_T109 l (n - 1)).f2 = true
    · rw [hv.trans (if_pos hd)] at h0; exact absurd h0 (by decide)
    rw [hv.trans (if_neg hd)]
    exact ⟨ok_kill l h n c.2.1 c.2.2 true, by simp⟩
  · have hv : killV l n = ([], 2) := if_neg c
    rw [hv] at h0; exact absurd h0 (by decide)
/-- may a node be moved -/
def mayV (l : List S109) (n up : Int) : Prop := (nd l n).f2 = false ∧ (nd l up).f2 = false ∧ (nd l up).f0 ≠ 3 ∧ n ∉ chn l (l.length + 1) up
theorem move_may (l : List S109) (h : Ok l) (n up : Int) (hn : 1 ≤ n ∧ n ≤ (l.length : Int)) (hu : 1 ≤ up ∧ up ≤ (l.length : Int)) (hn1 : n ≠ 1) (m : mayV l n up) :
    moveV l n up = (l.set (n - 1).toNat ⟨(nd l n).f0, up, (nd l n).f2⟩, 0) := by
  obtain ⟨m1, m2, m3, m4⟩ := m
  have hv : moveV l n up = (if (rd_T109 l (n - 1)).f2 = true ∨ (rd_T109 l (up - 1)).f2 = true then ([], 14) else if (rd_T109 l (up - 1)).f0 = 3 then ([], 15) else if n ∈ chn l (l.length + 1) up then ([], 13) else
      (l.set (n - 1).toNat ⟨(rd_T109 l (n - 1)).f0, up, (rd_T109 l (n - 1)).f2⟩, 0)) := if_pos ⟨(chk_ok l).2 h, hn, hu, hn1⟩
  rw [hv.trans (if_neg (fun c => c.elim (fun c => by rw [show (rd_T109 l (n - 1)).f2 = (nd l n).f2 from rfl, m1] at c; cases c) (fun c => by rw [show (rd_T109 l (up - 1)).f2 = (nd l up).f2 from rfl, m2] at c; cases c)))]
  exact (if_neg m3).trans (if_neg m4)
theorem move_not (l : List S109) (n up : Int) (m : ¬ (n ≠ 1 ∧ mayV l n up)) : (moveV l n up).2 ≠ 0 ∧ (moveV l n up).1 = [] := by
  by_cases c : chkV l = 0 ∧ thereP l n ∧ thereP l up ∧ n ≠ 1
  · have hv : moveV l n up = (if (rd_T109 l (n - 1)).f2 = true ∨ (rd_T109 l (up - 1)).f2 = true then ([], 14) else if (rd_T109 l (up - 1)).f0 = 3 then ([], 15) else if n ∈ chn l (l.length + 1) up then ([], 13) else
      (l.set (n - 1).toNat ⟨(rd_T109 l (n - 1)).f0, up, (rd_T109 l (n - 1)).f2⟩, 0)) := if_pos c
    by_cases hd : (rd_T109 l (n - 1)).f2 = true ∨ (rd_T109 l (up - 1)).f2 = true
    · rw [hv.trans (if_pos hd)]; exact ⟨by decide, rfl⟩
    replace hv := hv.trans (if_neg hd)
    by_cases h3 : (rd_T109 l (up - 1)).f0 = 3
    · rw [hv.trans (if_pos h3)]; exact ⟨by decide, rfl⟩
    replace hv := hv.trans (if_neg h3)
    by_cases hi : n ∈ chn l (l.length + 1) up
    · rw [hv.trans (if_pos hi)]; exact ⟨by decide, rfl⟩
    refine absurd ⟨c.2.2.2, ?_, ?_, h3, hi⟩ m
    · cases e : (nd l n).f2 with
      | false => rfl
      | true => exact absurd (.inl e) hd
    · cases e : (nd l up).f2 with
      | false => rfl
      | true => exact absurd (.inr e) hd
  · have hv : moveV l n up = ([], 2) := if_neg c
    rw [hv]; exact ⟨by decide, rfl⟩
theorem move_dead (l : List S109) (h : Ok l) (n up : Int) (hn : 1 ≤ n ∧ n ≤ (l.length : Int)) (hu : 1 ≤ up ∧ up ≤ (l.length : Int)) (hn1 : n ≠ 1) (hd : (nd l up).f2 = true) : moveV l n up = ([], 14) := by
  have hv : moveV l n up = (if (rd_T109 l (n - 1)).f2 = true ∨ (rd_T109 l (up - 1)).f2 = true then ([], 14) else if (rd_T109 l (up - 1)).f0 = 3 then ([], 15) else if n ∈ chn l (l.length + 1) up then ([], 13) else
      (l.set (n - 1).toNat ⟨(rd_T109 l (n - 1)).f0, up, (rd_T109 l (n - 1)).f2⟩, 0)) := if_pos ⟨(chk_ok l).2 h, hn, hu, hn1⟩
  exact hv.trans (if_pos (.inr hd))
theorem moved_ok (l : List S109) (h : Ok l) (n up : Int) (h0 : (moveV l n up).2 = 0) : Ok (moveV l n up).1 ∧ (moveV l n up).1.length ≤ l.length + 1 := by
  by_cases c : chkV l = 0 ∧ thereP l n ∧ thereP l up ∧ n ≠ 1
  · by_cases m : mayV l n up
    · rw [move_may l h n up c.2.1 c.2.2.1 c.2.2.2 m]
      exact ⟨ok_move l h n up c.2.1 c.2.2.1 c.2.2.2 m.2.2.1 m.2.2.2 _, by simp⟩
    · exact absurd h0 (move_not l n up (fun x => m x.2)).1
  · have hv : moveV l n up = ([], 2) := if_neg c
    rw [hv] at h0; exact absurd h0 (by decide)
theorem does_ev (l : List S109) (h : Ok l) (a b c d : Int) : ∃ r : List S109 × Int, Ev (fun k => tributarylaw27_does.f k l a b c d) r ∧ Ok r.1 ∧ r.1.length ≤ l.length + 1 := by
  have hl : l.length < 1000 := by have := h.few; omega
  have one : ∀ fl : Bool, ∃ r : List S109 × Int, Ev (fun k => tributarylaw27_does.j0 k l a fl a b c d) r ∧ Ok r.1 ∧ r.1.length ≤ l.length + 1 := by
    intro fl
    by_cases hf : fl = true
    · by_cases e : (enrV l b d).2.2 = 0
      · exact ⟨((enrV l b d).1, (enrV l b d).2.2), Ev.step (fun _ => rfl) (ev_pos hf (Ev.bind (enr_ev l hl b d) (ev_pos e (Ev.now _)))), enr_ok l h b d e⟩
      · exact ⟨(l, (enrV l b d).2.2), Ev.step (fun _ => rfl) (ev_pos hf (Ev.bind (enr_ev l hl b d) (ev_neg e (Ev.now _)))), h, Nat.le_succ _⟩
    by_cases e2 : a = 2
    · by_cases e : (killV l c).2 = 0
      · exact ⟨((killV l c).1, (killV l c).2), Ev.step (fun _ => rfl) (ev_neg hf (ev_pos e2 (Ev.bind (kill_ev l hl c) (ev_pos e (Ev.now _))))), kill_ok l h c e⟩
      · exact ⟨(l, (killV l c).2), Ev.step (fun _ => rfl) (ev_neg hf (ev_pos e2 (Ev.bind (kill_ev l hl c) (ev_neg e (Ev.now _))))), h, Nat.le_succ _⟩
    by_cases e3 : a = 3
    · by_cases e : (moveV l c d).2 = 0
      · exact ⟨((moveV l c d).1, (moveV l c d).2), Ev.step (fun _ => rfl) (ev_neg hf (ev_neg e2 (ev_pos e3 (Ev.bind (move_ev l hl c d) (ev_pos e (Ev.now _)))))), moved_ok l h c d e⟩
      · exact ⟨(l, (moveV l c d).2), Ev.step (fun _ => rfl) (ev_neg hf (ev_neg e2 (ev_pos e3 (Ev.bind (move_ev l hl c d) (ev_neg e (Ev.now _)))))), h, Nat.le_succ _⟩
    · exact ⟨(l, 0), Ev.step (fun _ => rfl) (ev_neg hf (ev_neg e2 (ev_neg e3 (Ev.now _)))), h, Nat.le_succ _⟩
  by_cases e0 : a = 0
  · obtain ⟨r, h1, h2⟩ := one (a == 0)
    exact ⟨r, ev_pos e0 h1, h2⟩
  · obtain ⟨r, h1, h2⟩ := one (a == 1)
    exact ⟨r, ev_neg e0 h1, h2⟩
theorem has_ev0 (xs : List Int) (hx : xs.length < 100000) (a : Int) : ∀ (d j : Nat), d + j = xs.length → Ev (fun k => tributarylaw27_has.l0 k xs a (j : Int)) (decide (a ∈ xs.drop j))
  | 0, j, hj => by
    rw [List.drop_of_length_le (by omega)]
    exact Ev.step (fun _ => rfl) (ev_neg (by omega) (Ev.now _))
  | d + 1, j, hj => by
    have hjl : j < xs.length := by omega
    have hr : rd xs (j : Int) = xs[j] := by unfold rd; simp [List.getD_eq_getElem?_getD, hjl]
    rw [List.drop_eq_getElem_cons hjl]
    have ih := has_ev0 xs hx a d (j + 1) (by omega)
    refine Ev.step (fun _ => rfl) (ev_pos (by omega) (ev_pos (by omega) ?_))
    by_cases h : xs[j] = a
    · rw [show decide (a ∈ xs[j] :: xs.drop (j + 1)) = true by simp [h]]
      exact ev_pos (by rw [hr]; exact h) (Ev.now _)
    · refine ev_neg (by rw [hr]; exact h) ?_
      rw [w64 (x := (j : Int) + 1) (by omega) (by omega)]
      have : decide (a ∈ xs[j] :: xs.drop (j + 1)) = decide (a ∈ xs.drop (j + 1)) := by
        apply decide_eq_decide.2
        rw [List.mem_cons]
        exact ⟨fun h1 => h1.resolve_left (fun e => h e.symm), fun h1 => .inr h1⟩
      rw [this]
      exact ih
theorem has_ev (xs : List Int) (hx : xs.length < 100000) (a : Int) : Ev (fun k => tributarylaw27_has.f k xs a) (decide (a ∈ xs)) := by
  have := has_ev0 xs hx a xs.length 0 (by omega)
  rw [List.drop_zero] at this
  exact this
theorem pick_eq (a n : Int) (h1 : 1 ≤ n) (h2 : n ≤ 1000) : ∃ r, tributarykit_Pick.f a n = some r ∧ 0 ≤ r ∧ r < n := by
  have hb : -n < Int.tmod a n ∧ Int.tmod a n < n := by
    constructor
    · exact Int.lt_of_lt_of_le (Int.neg_lt_neg (by omega : n - 1 < n)) (by
        rcases Int.le_total 0 a with h | h
        · have := Int.tmod_nonneg n h; omega
        · have h3 := Int.tmod_lt_of_pos (-a) (show 0 < n by omega)
          rw [Int.neg_tmod] at h3
          omega)
    · exact Int.tmod_lt_of_pos a (by omega)
  refine ⟨Int.tmod (Int.tmod a n + n) n, ?_, Int.tmod_nonneg n (by omega), Int.tmod_lt_of_pos _ (by omega)⟩
  unfold tributarykit_Pick.f
  rw [if_neg (by omega), if_neg (by omega), w64 (by omega) (by omega)]
end Go.Proofs.YtadcahnoghnkcaaX.P27
