/- Plain law: what changes a topology is as the document tells. No conditions. -/
import Derived.Test.YtadcahnoghnkcaaGc
import Derived.Test.YtadcahnoghnkcaaP27M6
import Derived.Test.YtadcahnoghnkcaaP27x33
namespace Go.Proofs.YtadcahnoghnkcaaX.P27
open Go.RowKit Go.Proofs.YtadcahnoghnkcaaW.PrintWords Go.Proofs.YtadcahnoghnkcaaW.PrintLast Go.Proofs.YtadcahnoghnkcaaW.PrintMore
set_option linter.unusedVariables false
set_option linter.unusedSimpArgs false

theorem renr_ev (l : List S109) (hl : l.length < 1000) (kd up : Int) : Ev (fun k => tributaryref27_Enrol.f k l kd up) (enrV l kd up) := by
  have jt : enrV l kd up = ([], 0, 2) → Ev (fun k => tributaryref27_Enrol.j0 k l kd up true) (enrV l kd up) := fun h => by
    rw [h]; exact Ev.step (f := fun _ => some ([], 0, 2)) (fun _ => rfl) (Ev.now _)
  refine Ev.bind (rcheck_ev l hl) ?_
  by_cases h0 : chkV l = 0
  · refine ev_pos h0 (ev_eq (rthere_eq l up) ?_)
    by_cases hc : thereP l up
    · refine ev_pos (by simpa [thereP] using hc) ?_
      have hc' : 1 ≤ up ∧ up ≤ (l.length : Int) := hc
      have jf : (kd = 2 ∨ kd = 3) → Ev (fun k => tributaryref27_Enrol.j0 k l kd up false) (enrV l kd up) := fun hk => by
        have hv : enrV l kd up = (if (rd_T109 l (up - 1)).f0 = 3 then ([], 0, 15) else if (rd_T109 l (up - 1)).f2 = true then ([], 0, 14) else if 200 ≤ l.length then ([], 0, 8) else (l ++ [⟨kd, up, false⟩], (l.length : Int) + 1, 0)) := if_pos ⟨h0, hc, hk⟩
        refine (show ∀ b : Bool, b = false → Ev (fun k => tributaryref27_Enrol.j0 k l kd up b) _ from fun b hb => ?_) false rfl
        refine Ev.step (fun _ => rfl) (ev_neg (by simp [hb]) ?_)
        rw [w64 (by omega) (by omega)]
        refine ev_pos (by omega) (ev_pos (by omega) ?_)
        by_cases h3 : (rd_T109 l (up - 1)).f0 = 3
        · rw [show enrV l kd up = ([], 0, 15) from hv.trans (if_pos h3)]; exact ev_pos h3 (Ev.now _)
        replace hv := hv.trans (if_neg h3)
        refine ev_neg h3 ?_
        by_cases hd : (rd_T109 l (up - 1)).f2 = true
        · rw [show enrV l kd up = ([], 0, 14) from hv.trans (if_pos hd)]; exact ev_pos hd (Ev.now _)
        replace hv := hv.trans (if_neg hd)
        refine ev_neg hd ?_
        by_cases hn : 200 ≤ l.length
        · rw [show enrV l kd up = ([], 0, 8) from hv.trans (if_pos hn)]; exact ev_pos (by omega) (Ev.now _)
        replace hv := hv.trans (if_neg hn)
        rw [hv]
        refine ev_neg (by omega) (ev_some (ev_pos (by simp; omega) (ev_some (ev_pos (by simp; omega) (ev_some ?_)))))
        refine Ev.congr (f := fun _ => some (l ++ [(⟨kd, up, false⟩ : S109)], (l.length : Int) + 1, 0)) (fun _ => ?_) (Ev.now _)
        simp
      by_cases h2 : kd = 2
      · exact ev_pos h2 (jf (.inl h2))
      · refine ev_neg h2 ?_
        by_cases h3 : kd = 3
        · rw [show (kd != 3) = false by simp [h3]]; exact jf (.inr h3)
        · rw [show (kd != 3) = true by simp [h3]]; exact jt (if_neg (fun h => by omega))
    · exact ev_neg (by simpa [thereP] using hc) (jt (if_neg (fun h => hc h.2.1)))
  · exact ev_neg h0 (jt (if_neg (fun h => h0 h.1)))
theorem rkill_ev (l : List S109) (hl : l.length < 1000) (n : Int) : Ev (fun k => tributaryref27_Kill.f k l n) (killV l n) := by
  have jt : killV l n = ([], 2) → Ev (fun k => tributaryref27_Kill.j0 k l n true) (killV l n) := fun h => by
    rw [h]; exact Ev.step (f := fun _ => some ([], 2)) (fun _ => rfl) (Ev.now _)
  refine Ev.bind (rcheck_ev l hl) ?_
  by_cases h0 : chkV l = 0
  · refine ev_pos h0 (ev_eq (rthere_eq l n) ?_)
    by_cases hc : thereP l n
    · refine ev_pos (by simpa [thereP] using hc) ?_
      have hc' : 1 ≤ n ∧ n ≤ (l.length : Int) := hc
      by_cases h1 : n = 1
      · rw [show (n == 1) = true by simp [h1]]; exact jt (if_neg (fun h => h.2.2 h1))
      · rw [show (n == 1) = false by simp [h1]]
        have hv : killV l n = (if (rd_T109 l (n - 1)).f2 = true then ([], 14) else (l.set (n - 1).toNat ⟨(rd_T109 l (n - 1)).f0, (rd_T109 l (n - 1)).f1, true⟩, 0)) := if_pos ⟨h0, hc, h1⟩
        refine (show ∀ b : Bool, b = false → Ev (fun k => tributaryref27_Kill.j0 k l n b) _ from fun b hb => ?_) false rfl
        refine Ev.step (fun _ => rfl) (ev_neg (by simp [hb]) ?_)
        rw [w64 (by omega) (by omega)]
        refine ev_pos (by omega) (ev_pos (by omega) ?_)
        by_cases hd : (rd_T109 l (n - 1)).f2 = true
        · rw [show killV l n = ([], 14) from hv.trans (if_pos hd)]; exact ev_pos hd (Ev.now _)
        rw [hv.trans (if_neg hd)]
        refine ev_neg hd (ev_some (ev_pos (by simp; omega) (ev_some ?_)))
        rw [List.nil_append]
        exact ev_pos (by omega) (Ev.now _)
    · exact ev_neg (by simpa [thereP] using hc) (jt (if_neg (fun h => hc h.2.1)))
  · exact ev_neg h0 (jt (if_neg (fun h => h0 h.1)))
theorem rmove_ev (l : List S109) (hl : l.length < 1000) (n up : Int) : Ev (fun k => tributaryref27_Move.f k l n up) (moveV l n up) := by
  have jt : moveV l n up = ([], 2) → Ev (fun k => tributaryref27_Move.j0 k l n up true) (moveV l n up) := fun h => by
    rw [h]; exact Ev.step (f := fun _ => some ([], 2)) (fun _ => rfl) (Ev.now _)
  refine Ev.bind (rcheck_ev l hl) ?_
  by_cases h0 : chkV l = 0
  rotate_left
  · exact ev_neg h0 (jt (if_neg (fun h => h0 h.1)))
  refine ev_pos h0 (ev_eq (rthere_eq l n) ?_)
  by_cases hc : thereP l n
  rotate_left
  · exact ev_neg (by simpa [thereP] using hc) (jt (if_neg (fun h => hc h.2.1)))
  refine ev_pos (by simpa [thereP] using hc) (ev_eq (rthere_eq l up) ?_)
  by_cases hu : thereP l up
  rotate_left
  · exact ev_neg (by simpa [thereP] using hu) (jt (if_neg (fun h => hu h.2.2.1)))
  refine ev_pos (by simpa [thereP] using hu) ?_
  have hc' : 1 ≤ n ∧ n ≤ (l.length : Int) := hc
  have hu' : 1 ≤ up ∧ up ≤ (l.length : Int) := hu
  by_cases h1 : n = 1
  · rw [show (n == 1) = true by simp [h1]]; exact jt (if_neg (fun h => h.2.2.2 h1))
  rw [show (n == 1) = false by simp [h1]]
  have hv : moveV l n up = (if (rd_T109 l (n - 1)).f2 = true ∨ (rd_T109 l (up - 1)).f2 = true then ([], 14) else if (rd_T109 l (up - 1)).f0 = 3 then ([], 15) else if n ∈ chn l (l.length + 1) up then ([], 13) else
      (l.set (n - 1).toNat ⟨(rd_T109 l (n - 1)).f0, up, (rd_T109 l (n - 1)).f2⟩, 0)) := if_pos ⟨h0, hc, hu, h1⟩
  have j1t : ((rd_T109 l (n - 1)).f2 = true ∨ (rd_T109 l (up - 1)).f2 = true) → Ev (fun k => tributaryref27_Move.j1 k l n up true) (moveV l n up) := fun h => by
    rw [show moveV l n up = ([], 14) from hv.trans (if_pos h)]
    exact Ev.step (f := fun _ => some ([], 14)) (fun _ => rfl) (Ev.now _)
  refine (show ∀ b : Bool, b = false → Ev (fun k => tributaryref27_Move.j0 k l n up b) _ from fun b hb => ?_) false rfl
  refine Ev.step (fun _ => rfl) (ev_neg (by simp [hb]) ?_)
  rw [w64 (x := n - 1) (by omega) (by omega), w64 (x := up - 1) (by omega) (by omega)]
  refine ev_pos (by omega) (ev_pos (by omega) ?_)
  by_cases hd : (rd_T109 l (n - 1)).f2 = true
  · exact ev_pos hd (j1t (.inl hd))
  refine ev_neg hd (ev_pos (by omega) (ev_pos (by omega) ?_))
  cases hd2 : (rd_T109 l (up - 1)).f2 with
  | true => exact j1t (.inr hd2)
  | false =>
    replace hv := hv.trans (if_neg (by simp [hd, hd2]))
    refine (show ∀ b : Bool, b = false → Ev (fun k => tributaryref27_Move.j1 k l n up b) _ from fun b hb => ?_) false rfl
    refine Ev.step (fun _ => rfl) (ev_neg (by simp [hb]) ?_)
    rw [w64 (x := up - 1) (by omega) (by omega)]
    refine ev_pos (by omega) (ev_pos (by omega) ?_)
    by_cases h3 : (rd_T109 l (up - 1)).f0 = 3
    · rw [show moveV l n up = ([], 15) from hv.trans (if_pos h3)]; exact ev_pos h3 (Ev.now _)
    replace hv := hv.trans (if_neg h3)
    refine ev_neg h3 (Ev.bind (up_ev l hl up) ?_)
    have hcl := chn_len l (l.length + 1) up
    have lp : ∀ (d j : Nat), d + j = (chn l (l.length + 1) up).length → n ∉ (chn l (l.length + 1) up).take j → Ev (fun k => tributaryref27_Move.l0 k l n up (chn l (l.length + 1) up) (j : Int)) (moveV l n up) := by
      intro d
      induction d with
      | zero =>
        intro j hj hni
        rw [List.take_of_length_le (by omega)] at hni
        replace hv := hv.trans (if_neg hni)
        rw [hv]
        refine Ev.step (fun _ => rfl) (ev_neg (by omega) (ev_some (ev_pos (by simp; omega) (ev_some ?_))))
        rw [List.nil_append, w64 (x := n - 1) (by omega) (by omega)]
        exact ev_pos (by omega) (ev_pos (by omega) (Ev.now _))
      | succ d ih =>
        intro j hj hni
        have hjl : j < (chn l (l.length + 1) up).length := by omega
        have hr : rd (chn l (l.length + 1) up) (j : Int) = (chn l (l.length + 1) up)[j] := by unfold rd; simp [List.getD_eq_getElem?_getD, hjl]
        refine Ev.step (fun _ => rfl) (ev_pos (by omega) (ev_pos (by omega) ?_))
        by_cases h : (chn l (l.length + 1) up)[j] = n
        · rw [show moveV l n up = ([], 13) from hv.trans (if_pos (by rw [← h]; exact List.getElem_mem hjl))]
          exact ev_pos (by rw [hr]; exact h) (Ev.now _)
        · refine ev_neg (by rw [hr]; exact h) ?_
          rw [w64 (x := (j : Int) + 1) (by omega) (by omega)]
          refine ih (j + 1) (by omega) ?_
          rw [List.take_add_one, List.getElem?_eq_getElem hjl]
          simp only [List.mem_append, Option.toList_some, List.mem_singleton]
          exact fun hh => hh.elim hni (fun e => h e.symm)
    exact lp (chn l (l.length + 1) up).length 0 (by omega) (by simp)
theorem enr_len (l : List S109) (kd up : Int) : (enrV l kd up).1.length ≤ l.length + 1 := by
  unfold enrV
  repeat' split
  all_goals simp
theorem kill_len (l : List S109) (n : Int) : (killV l n).1.length ≤ l.length := by
  unfold killV
  repeat' split
  all_goals simp
theorem move_len (l : List S109) (n up : Int) : (moveV l n up).1.length ≤ l.length := by
  unfold moveV
  repeat' split
  all_goals simp
theorem changes (l : List S109) (n up kd : Int) : ∃ k, tributarylaw27_TopoChanges.f k l n up kd = some true := by
  refine Ev.rounds ?_
  by_cases h : (l.length : Int) > 210
  · exact ev_pos h (Ev.bind awake_ev (Ev.now _))
  have hl : l.length < 1000 := by omega
  have he := enr_len l kd up
  have hk := kill_len l n
  have hm := move_len l n up
  refine ev_neg h (ev_some (ev_pos (by simp; omega) (ev_some ?_)))
  rw [List.nil_append]
  refine Ev.bind (enr_ev l hl kd up) (Ev.bind (renr_ev l hl kd up) (Ev.bind (kill_ev l hl n) (Ev.bind (rkill_ev l hl n) (Ev.bind (move_ev l hl n up) (Ev.bind (rmove_ev l hl n up) ?_)))))
  refine Ev.bind (mems_ev _ (by omega)) (ev_pos rfl (ev_pos rfl (ev_pos rfl (Ev.bind (mems_ev _ (by omega)) (ev_pos rfl (ev_pos rfl (Ev.bind (mems_ev _ (by omega)) (ev_pos rfl (ev_pos rfl (Ev.bind (check_ev l hl) (Ev.bind (rcheck_ev l hl) ?_)))))))))))
  refine Ev.step (fun _ => rfl) (ev_eq rfl (ev_eq rfl (ev_eq rfl (ev_pos (by simp) (Ev.bind (mems_ev l (by omega)) (ev_pos rfl (ev_eq rfl (ev_eq rfl ?_))))))))
  exact Ev.bind (mems_ev _ (by decide)) (ev_pos rfl (Ev.bind awake_ev (Ev.now _)))
end Go.Proofs.YtadcahnoghnkcaaX.P27
