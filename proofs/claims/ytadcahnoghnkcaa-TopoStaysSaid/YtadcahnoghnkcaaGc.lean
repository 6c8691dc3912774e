/- Plain laws of topologies that change: what the printed functions come to, with rounds enough. No program in sight. -/
import Derived.Test.YtadcahnoghnkcaaGa1
import Derived.Test.YtadcahnoghnkcaaP27M5
namespace Go.Proofs.YtadcahnoghnkcaaX.P27
open Go.RowKit Go.Proofs.YtadcahnoghnkcaaW.PrintWords Go.Proofs.YtadcahnoghnkcaaW.PrintLast Go.Proofs.YtadcahnoghnkcaaW.PrintMore
set_option linter.unusedVariables false
set_option linter.unusedSimpArgs false

def thereP (l : List S109) (a : Int) : Prop := 1 ≤ a ∧ a ≤ (l.length : Int)
instance (l : List S109) (a : Int) : Decidable (thereP l a) := by unfold thereP; infer_instance
/-- what Enrol tells -/
def enrV (l : List S109) (kd up : Int) : List S109 × Int × Int :=
  if chkV l = 0 ∧ thereP l up ∧ (kd = 2 ∨ kd = 3) then
    (if (rd_T109 l (up - 1)).f0 = 3 then ([], 0, 15) else if (rd_T109 l (up - 1)).f2 = true then ([], 0, 14) else if 200 ≤ l.length then ([], 0, 8) else (l ++ [⟨kd, up, false⟩], (l.length : Int) + 1, 0))
  else ([], 0, 2)
theorem enr_ev (l : List S109) (hl : l.length < 1000) (kd up : Int) : Ev (fun k => topo_Enrol.f k l kd up) (enrV l kd up) := by
  have jt : enrV l kd up = ([], 0, 2) → Ev (fun k => topo_Enrol.j0 k l kd up true) (enrV l kd up) := fun h => by
    rw [h]; exact Ev.step (f := fun _ => some ([], 0, 2)) (fun _ => rfl) (Ev.now _)
  refine Ev.bind (check_ev l hl) ?_
  by_cases h0 : chkV l = 0
  · refine ev_pos h0 (ev_eq (there_eq l up) ?_)
    by_cases hc : thereP l up
    · refine ev_pos (by simpa [thereP] using hc) ?_
      have hc' : 1 ≤ up ∧ up ≤ (l.length : Int) := hc
      have jf : (kd = 2 ∨ kd = 3) → Ev (fun k => topo_Enrol.j0 k l kd up false) (enrV l kd up) := fun hk => by
        have hv : enrV l kd up = (if (rd_T109 l (up - 1)).f0 = 3 then ([], 0, 15) else if (rd_T109 l (up - 1)).f2 = true then ([], 0, 14) else if 200 ≤ l.length then ([], 0, 8) else (l ++ [⟨kd, up, false⟩], (l.length : Int) + 1, 0)) := if_pos ⟨h0, hc, hk⟩
        refine (show ∀ b : Bool, b = false → Ev (fun k => topo_Enrol.j0 k l kd up b) _ from fun b hb => ?_) false rfl
        refine Ev.step (fun _ => rfl) (ev_neg (by simp [hb]) ?_)
        rw [w64 (by omega) (by omega)]
        refine ev_pos (by omega) (ev_pos (by omega) ?_)
        by_cases h3 : (rd_T109 l (up - 1)).f0 = 3
        · rw [show enrV l kd up = ([], 0, 15) from hv.trans (if_pos h3)]; exact ev_pos h3 (Ev.now _)
        replace hv := hv.trans (if_neg h3)
        refine ev_neg h3 ?_
        by_cases hd : (rd_T109 l (up - 1)).f2 = true
        · rw [show enrV l kd up = ([], 0, 14) from hv.trans (if_pos hd)]; exact ev_pos hd (Ev.now _)
        replace hv := hv.trans (if_neg hd)
        refine ev_neg hd ?_
        by_cases hn : 200 ≤ l.length
        · rw [show enrV l kd up = ([], 0, 8) from hv.trans (if_pos hn)]; exact ev_pos (by omega) (Ev.now _)
        replace hv := hv.trans (if_neg hn)
        rw [hv]
        refine ev_neg (by omega) (ev_eq (b := l ++ [⟨kd, up, false⟩]) ?_ ?_)
        · unfold api_Member_87.f
          rw [if_pos (by simp), if_pos (by simp; omega)]
          simp
        · refine Ev.congr (f := fun _ => some (l ++ [(⟨kd, up, false⟩ : S109)], (l.length : Int) + 1, 0)) (fun _ => ?_) (Ev.now _)
          simp
      by_cases h2 : kd = 2
      · exact ev_pos h2 (jf (.inl h2))
      · refine ev_neg h2 ?_
        by_cases h3 : kd = 3
        · rw [show (kd != 3) = false by simp [h3]]; exact jf (.inr h3)
        · rw [show (kd != 3) = true by simp [h3]]; exact jt (if_neg (fun h => by omega))
    · exact ev_neg (by simpa [thereP] using hc) (jt (if_neg (fun h => hc h.2.1)))
  · exact ev_neg h0 (jt (if_neg (fun h => h0 h.1)))
theorem clone88 (l : List S109) (hl : l.length < 1000) : api_Member_88.f l = some l := by
  unfold api_Member_88.f
  rw [if_pos (by omega)]
/-- what Kill tells -/
def killV (l : List S109) (n : Int) : List S109 × Int :=
  if chkV l = 0 ∧ thereP l n ∧ n ≠ 1 then
    (if (rd_T109 l (n - 1)).f2 = true then ([], 14) else (l.set (n - 1).toNat ⟨(rd_T109 l (n - 1)).f0, (rd_T109 l (n - 1)).f1, true⟩, 0))
  else ([], 2)
theorem kill_ev (l : List S109) (hl : l.length < 1000) (n : Int) : Ev (fun k => topo_Kill.f k l n) (killV l n) := by
  have jt : killV l n = ([], 2) → Ev (fun k => topo_Kill.j0 k l n true) (killV l n) := fun h => by
    rw [h]; exact Ev.step (f := fun _ => some ([], 2)) (fun _ => rfl) (Ev.now _)
  refine Ev.bind (check_ev l hl) ?_
  by_cases h0 : chkV l = 0
  · refine ev_pos h0 (ev_eq (there_eq l n) ?_)
    by_cases hc : thereP l n
    · refine ev_pos (by simpa [thereP] using hc) ?_
      have hc' : 1 ≤ n ∧ n ≤ (l.length : Int) := hc
      by_cases h1 : n = 1
      · rw [show (n == 1) = true by simp [h1]]; exact jt (if_neg (fun h => h.2.2 h1))
      · rw [show (n == 1) = false by simp [h1]]
        have hv : killV l n = (if (rd_T109 l (n - 1)).f2 = true then ([], 14) else (l.set (n - 1).toNat ⟨(rd_T109 l (n - 1)).f0, (rd_T109 l (n - 1)).f1, true⟩, 0)) := if_pos ⟨h0, hc, h1⟩
        refine (show ∀ b : Bool, b = false → Ev (fun k => topo_Kill.j0 k l n b) _ from fun b hb => ?_) false rfl
        refine Ev.step (fun _ => rfl) (ev_neg (by simp [hb]) ?_)
        rw [w64 (by omega) (by omega)]
        refine ev_pos (by omega) (ev_pos (by omega) ?_)
        by_cases hd : (rd_T109 l (n - 1)).f2 = true
        · rw [show killV l n = ([], 14) from hv.trans (if_pos hd)]; exact ev_pos hd (Ev.now _)
        rw [hv.trans (if_neg hd)]
        refine ev_neg hd (ev_eq (clone88 l hl) ?_)
        exact ev_pos (by omega) (Ev.now _)
    · exact ev_neg (by simpa [thereP] using hc) (jt (if_neg (fun h => hc h.2.1)))
  · exact ev_neg h0 (jt (if_neg (fun h => h0 h.1)))
/-- what Move tells -/
def moveV (l : List S109) (n up : Int) : List S109 × Int :=
  if chkV l = 0 ∧ thereP l n ∧ thereP l up ∧ n ≠ 1 then
    (if (rd_T109 l (n - 1)).f2 = true ∨ (rd_T109 l (up - 1)).f2 = true then ([], 14) else if (rd_T109 l (up - 1)).f0 = 3 then ([], 15) else if n ∈ chn l (l.length + 1) up then ([], 13) else
      (l.set (n - 1).toNat ⟨(rd_T109 l (n - 1)).f0, up, (rd_T109 l (n - 1)).f2⟩, 0))
  else ([], 2)
theorem idx_step (xs : List Int) (hx : xs.length < 100000) (a : Int) (j : Nat) (hjl : j < xs.length) (k : Nat) : slices_Index_int_int.l0 (k + 1) xs a (xs.length : Int) (j : Int) = if rd xs (j : Int) = a then some (j : Int) else slices_Index_int_int.l0 k xs a (xs.length : Int) (((j + 1 : Nat)) : Int) := by
  have e : ∀ (p : Prop) [Decidable p] (h : p) (u v : Option Int), (if p then u else v) = u := fun p _ h u v => if_pos h
  conv => lhs; unfold slices_Index_int_int.l0
  rw [e _ (by omega), e _ (by omega), e _ (by omega), w64 (x := (j : Int) + 1) (by omega) (by omega)]
  by_cases h : rd xs (j : Int) = a
  · rw [if_pos h, if_pos h.symm]
  · rw [if_neg h, if_neg (fun e => h e.symm)]; congr 1
theorem index_ev0 (xs : List Int) (hx : xs.length < 100000) (a : Int) : ∀ (d j : Nat), d + j = xs.length → Ev (fun k => (slices_Index_int_int.l0 k xs a (xs.length : Int) (j : Int)).bind fun t => some (decide (t ≥ 0))) (decide (a ∈ xs.drop j))
  | 0, j, hj => by
    rw [List.drop_of_length_le (by omega)]
    refine Ev.bind (a := -1) (Ev.step (fun _ => rfl) (ev_neg (by omega) (Ev.now _))) ?_
    exact Ev.now _
  | d + 1, j, hj => by
    have hjl : j < xs.length := by omega
    have hr : rd xs (j : Int) = xs[j] := by unfold rd; simp [List.getD_eq_getElem?_getD, hjl]
    rw [List.drop_eq_getElem_cons hjl]
    have ih := index_ev0 xs hx a d (j + 1) (by omega)
    refine Ev.step (fun _ => rfl) ?_
    refine Ev.congr (f := fun k => if rd xs (j : Int) = a then some (decide ((j : Int) ≥ 0)) else (slices_Index_int_int.l0 k xs a (xs.length : Int) (((j + 1 : Nat)) : Int)).bind fun t => some (decide (t ≥ 0))) (fun k => ?_) ?_
    · show (slices_Index_int_int.l0 (k + 1) xs a (xs.length : Int) (j : Int)).bind _ = _
      rw [idx_step xs hx a j hjl]
      by_cases h : rd xs (j : Int) = a
      · rw [if_pos h, if_pos h]; rfl
      · rw [if_neg h, if_neg h]
    · by_cases h : xs[j] = a
      · refine ev_pos (by rw [hr]; exact h) ?_
        refine Ev.congr (f := fun _ => some true) (fun _ => by simp) ?_
        simpa [h] using Ev.now true
      · refine ev_neg (by rw [hr]; exact h) ?_
        have : decide (a ∈ xs[j] :: xs.drop (j + 1)) = decide (a ∈ xs.drop (j + 1)) := by
          apply decide_eq_decide.2
          rw [List.mem_cons]
          exact ⟨fun h1 => h1.resolve_left (fun e => h e.symm), fun h1 => .inr h1⟩
        rw [this]
        exact ih
theorem contains_ev (xs : List Int) (hx : xs.length < 100000) (a : Int) : Ev (fun k => slices_Contains_int_int.f k xs a) (decide (a ∈ xs)) := by
  have := index_ev0 xs hx a xs.length 0 (by omega)
  rw [List.drop_zero] at this
  exact this
theorem move_ev (l : List S109) (hl : l.length < 1000) (n up : Int) : Ev (fun k => topo_Move.f k l n up) (moveV l n up) := by
  have jt : moveV l n up = ([], 2) → Ev (fun k => topo_Move.j0 k l n up true) (moveV l n up) := fun h => by
    rw [h]; exact Ev.step (f := fun _ => some ([], 2)) (fun _ => rfl) (Ev.now _)
  refine Ev.bind (check_ev l hl) ?_
  by_cases h0 : chkV l = 0
  rotate_left
  · exact ev_neg h0 (jt (if_neg (fun h => h0 h.1)))
  refine ev_pos h0 (ev_eq (there_eq l n) ?_)
  by_cases hc : thereP l n
  rotate_left
  · exact ev_neg (by simpa [thereP] using hc) (jt (if_neg (fun h => hc h.2.1)))
  refine ev_pos (by simpa [thereP] using hc) (ev_eq (there_eq l up) ?_)
  by_cases hu : thereP l up
  rotate_left
  · exact ev_neg (by simpa [thereP] using hu) (jt (if_neg (fun h => hu h.2.2.1)))
  refine ev_pos (by simpa [thereP] using hu) ?_
  have hc' : 1 ≤ n ∧ n ≤ (l.length : Int) := hc
  have hu' : 1 ≤ up ∧ up ≤ (l.length : Int) := hu
  by_cases h1 : n = 1
  · rw [show (n == 1) = true by simp [h1]]; exact jt (if_neg (fun h => h.2.2.2 h1))
  rw [show (n == 1) = false by simp [h1]]
  have hv : moveV l n up = (if (rd_T109 l (n - 1)).f2 = true ∨ (rd_T109 l (up - 1)).f2 = true then ([], 14) else if (rd_T109 l (up - 1)).f0 = 3 then ([], 15) else if n ∈ chn l (l.length + 1) up then ([], 13) else
      (l.set (n - 1).toNat ⟨(rd_T109 l (n - 1)).f0, up, (rd_T109 l (n - 1)).f2⟩, 0)) := if_pos ⟨h0, hc, hu, h1⟩
  have j1t : ((rd_T109 l (n - 1)).f2 = true ∨ (rd_T109 l (up - 1)).f2 = true) → Ev (fun k => topo_Move.j1 k l n up true) (moveV l n up) := fun h => by
    rw [show moveV l n up = ([], 14) from hv.trans (if_pos h)]
    exact Ev.step (f := fun _ => some ([], 14)) (fun _ => rfl) (Ev.now _)
  refine (show ∀ b : Bool, b = false → Ev (fun k => topo_Move.j0 k l n up b) _ from fun b hb => ?_) false rfl
  refine Ev.step (fun _ => rfl) (ev_neg (by simp [hb]) ?_)
  rw [w64 (x := n - 1) (by omega) (by omega), w64 (x := up - 1) (by omega) (by omega)]
  refine ev_pos (by omega) (ev_pos (by omega) ?_)
  by_cases hd : (rd_T109 l (n - 1)).f2 = true
  · exact ev_pos hd (j1t (.inl hd))
  refine ev_neg hd (ev_pos (by omega) (ev_pos (by omega) ?_))
  cases hd2 : (rd_T109 l (up - 1)).f2 with
  | true => exact j1t (.inr hd2)
  | false =>
    replace hv := hv.trans (if_neg (by simp [hd, hd2]))
    refine (show ∀ b : Bool, b = false → Ev (fun k => topo_Move.j1 k l n up b) _ from fun b hb => ?_) false rfl
    refine Ev.step (fun _ => rfl) (ev_neg (by simp [hb]) ?_)
    rw [w64 (x := n - 1) (by omega) (by omega), w64 (x := up - 1) (by omega) (by omega)]
    refine ev_pos (by omega) (ev_pos (by omega) ?_)
    by_cases h3 : (rd_T109 l (up - 1)).f0 = 3
    · rw [show moveV l n up = ([], 15) from hv.trans (if_pos h3)]; exact ev_pos h3 (Ev.now _)
    replace hv := hv.trans (if_neg h3)
    refine ev_neg h3 (ev_eq (way_eq l up hl) (Ev.bind (contains_ev _ (by have := chn_len l (l.length + 1) up; omega) n) ?_))
    by_cases hin : n ∈ chn l (l.length + 1) up
    · rw [show moveV l n up = ([], 13) from hv.trans (if_pos hin)]; exact ev_pos (by simpa using hin) (Ev.now _)
    rw [hv.trans (if_neg hin)]
    refine ev_neg (by simpa using hin) (ev_eq (clone88 l hl) ?_)
    exact ev_pos (by omega) (ev_pos (by omega) (Ev.now _))
end Go.Proofs.YtadcahnoghnkcaaX.P27
