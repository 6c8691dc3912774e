/- Plain laws of topologies: what the printed functions of the program come to, with rounds enough. No program in sight. -/
import Derived.Test.YtadcahnoghnkcaaP27M3
namespace Go.Proofs.YtadcahnoghnkcaaX.P27
open Go.RowKit Go.Proofs.YtadcahnoghnkcaaW.PrintWords Go.Proofs.YtadcahnoghnkcaaW.PrintLast Go.Proofs.YtadcahnoghnkcaaW.PrintMore
set_option linter.unusedVariables false
set_option linter.unusedSimpArgs false

section
variable {α β : Type} {g f : Nat → Option α} {r : α}
theorem ev_pos {c : Prop} [Decidable c] (hc : c) (h : Ev g r) : Ev (fun k => if c then g k else f k) r := Ev.congr (fun _ => if_pos hc) h
theorem ev_neg {c : Prop} [Decidable c] (hc : ¬ c) (h : Ev f r) : Ev (fun k => if c then g k else f k) r := Ev.congr (fun _ => if_neg hc) h
theorem ev_some {a : β} {f : Nat → β → Option α} (h : Ev (fun k => f k a) r) : Ev (fun k => (some a).bind (f k)) r := Ev.congr (fun _ => rfl) h
theorem ev_eq {a : Option β} {b : β} (ha : a = some b) {f : Nat → β → Option α} (h : Ev (fun k => f k b) r) : Ev (fun k => a.bind (f k)) r := by
  subst ha; exact ev_some h
end
theorem w64 {x : Int} (h0 : -1000000000 ≤ x) (h1 : x ≤ 1000000000) : wrap64 x = x := by unfold wrap64; omega

theorem awake_ev : Ev (fun k => tributarylaw27_awake.f k) true := Ev.of (k := 40) tributarylaw27_awake.mono (by decide +kernel)
theorem there_eq (l : List S109) (a : Int) : topo_there.f l a = some (decide (1 ≤ a ∧ a ≤ (l.length : Int))) := by
  unfold topo_there.f
  by_cases h : a ≥ 1
  · rw [if_pos h]
    by_cases h2 : a ≤ (l.length : Int) <;> simp [h2, show (1 : Int) ≤ a from h]
  · rw [if_neg h]
    simp [show ¬ (1 : Int) ≤ a from h]
theorem way_eq (l : List S109) (a : Int) (hl : l.length < 1000) : topo_way.f l a = some (chn l (l.length + 1) a) := by unfold topo_way.f; rw [if_pos (by omega)]

/-- may a node not be -/
def bad (l : List S109) (i : Nat) : Bool :=
  ((rd_T109 l i).f0 != 2 && (rd_T109 l i).f0 != 3) || !decide (1 ≤ (rd_T109 l i).f1 ∧ (rd_T109 l i).f1 ≤ (l.length : Int)) || (rd_T109 l ((rd_T109 l i).f1 - 1)).f0 == 3 ||
    (rd (chn l (l.length + 1) ((i : Int) + 1)) (((chn l (l.length + 1) ((i : Int) + 1)).length : Int) - 1) != 1)
def badFrom (l : List S109) : Nat → Nat → Int
  | 0, _ => 0
  | d + 1, i => if bad l i then 2 else badFrom l d (i + 1)
def rootB (l : List S109) : Bool := !(((rd_T109 l 0).f0) == 1) || (!(((rd_T109 l 0).f1) == 0) || (((rd_T109 l 0).f2)))
/-- what Check tells -/
def chkV (l : List S109) : Int := if l.length < 1 ∨ 200 < l.length then 2 else if rootB l then 2 else badFrom l (l.length - 1) 1
theorem chn_pos (l : List S109) (i : Nat) (h : i < l.length) (k : Nat) : 0 < (chn l (k + 1) ((i : Int) + 1)).length := by
  unfold chn
  rw [if_pos (by omega)]
  simp
theorem rd_drop (l : List S109) (j : Nat) : rd_T109 (l.drop 1) (j : Int) = rd_T109 l ((j : Int) + 1) := by
  unfold rd_T109
  rw [show ((j : Int)).toNat = j by omega, show ((j : Int) + 1).toNat = j + 1 by omega]
  simp [List.getD_eq_getElem?_getD, Nat.add_comm]
theorem check_ev0 (l : List S109) (hl : l.length < 1000) : ∀ (d j : Nat), d + j + 1 = l.length → Ev (fun k => topo_Check.l0 k l (l.drop 1) ((l.drop 1).length : Int) (j : Int)) (badFrom l d (j + 1))
  | 0, j, hj => Ev.step (fun _ => rfl) (ev_neg (by simp; omega) (Ev.now 0))
  | d + 1, j, hj => by
    have ih := check_ev0 l hl d (j + 1) (by omega)
    have hp := chn_pos l (j + 1) (by omega) l.length
    have hch := chn_len l (l.length + 1) (((j + 1 : Nat) : Int) + 1)
    have hcast : (((j + 1 : Nat) : Int) + 1) = (j : Int) + 2 := by omega
    have hcast1 : ((j + 1 : Nat) : Int) = (j : Int) + 1 := by omega
    have hbad : bad l (j + 1) = (((rd_T109 l ((j : Int) + 1)).f0 != 2 && (rd_T109 l ((j : Int) + 1)).f0 != 3) || !decide (1 ≤ (rd_T109 l ((j : Int) + 1)).f1 ∧ (rd_T109 l ((j : Int) + 1)).f1 ≤ (l.length : Int)) || (rd_T109 l ((rd_T109 l ((j : Int) + 1)).f1 - 1)).f0 == 3 ||
      (rd (chn l (l.length + 1) ((j : Int) + 2)) (((chn l (l.length + 1) ((j : Int) + 2)).length : Int) - 1) != 1)) := by
      unfold bad; rw [hcast, hcast1]
    rw [hcast] at hp hch
    obtain ⟨x, hx⟩ : ∃ x, x = rd_T109 l ((j : Int) + 1) := ⟨_, rfl⟩
    rw [← hx] at hbad
    have key3 : 1 ≤ x.f1 ∧ x.f1 ≤ (l.length : Int) → (x.f0 = 2 ∨ x.f0 = 3) → Ev (fun k => topo_Check.j3 k l (j : Int) (l.drop 1) ((l.drop 1).length : Int) (j : Int) false x.f0 x.f1 x.f2) (badFrom l (d + 1) (j + 1)) := by
      intro hc h23
      have h23' : (x.f0 != 2 && x.f0 != 3) = false := by rcases h23 with h | h <;> simp [h]
      refine Ev.step (f := fun k => if 0 ≤ (wrap64 (x.f1 - 1)) then (if (wrap64 (x.f1 - 1)) < (l.length : Int) then (if ((rd_T109 l (wrap64 (x.f1 - 1))).f0) = 3 then (some 2) else ((topo_way.f l (wrap64 ((j : Int) + 2))).bind fun t110 => (if 0 ≤ (wrap64 ((t110.length : Int) - 1)) then (if (wrap64 ((t110.length : Int) - 1)) < (t110.length : Int) then (if (rd t110 (wrap64 ((t110.length : Int) - 1))) = 1 then (topo_Check.l0 k l (l.drop 1) ((l.drop 1).length : Int) (wrap64 ((j : Int) + 1))) else (some 2)) else (none)) else (none)))) else (none)) else (none)) (fun _ => rfl) ?_
      rw [w64 (by omega) (by omega), w64 (by omega) (by omega)]
      refine ev_pos (by omega) (ev_pos (by omega) ?_)
      unfold badFrom
      rw [hbad, h23', decide_eq_true hc]
      by_cases h3 : (rd_T109 l (x.f1 - 1)).f0 = 3
      · refine ev_pos h3 ?_
        rw [h3]
        simpa using Ev.now 2
      · refine ev_neg h3 (ev_eq (way_eq l _ hl) ?_)
        rw [w64 (by omega) (by omega)]
        refine ev_pos (by omega) (ev_pos (by omega) ?_)
        by_cases h1 : rd (chn l (l.length + 1) ((j : Int) + 2)) (((chn l (l.length + 1) ((j : Int) + 2)).length : Int) - 1) = 1
        · refine ev_pos h1 ?_
          rw [w64 (by omega) (by omega), h1]
          simpa [h3] using ih
        · refine ev_neg h1 ?_
          simpa [h1, h3] using Ev.now 2
    have key3t : ((x.f0 != 2 && x.f0 != 3) || !decide (1 ≤ x.f1 ∧ x.f1 ≤ (l.length : Int))) = true → Ev (fun k => topo_Check.j3 k l (j : Int) (l.drop 1) ((l.drop 1).length : Int) (j : Int) true x.f0 x.f1 x.f2) (badFrom l (d + 1) (j + 1)) := by
      intro h
      refine Ev.step (f := fun _ => some 2) (fun _ => rfl) ?_
      unfold badFrom
      rw [hbad, h]
      simpa using Ev.now 2
    have key2 : (x.f0 = 2 ∨ x.f0 = 3) → Ev (fun k => topo_Check.j2 k l (j : Int) (l.drop 1) ((l.drop 1).length : Int) (j : Int) false x.f0 x.f1 x.f2) (badFrom l (d + 1) (j + 1)) := by
      intro h23
      refine Ev.step (f := fun k => (topo_there.f l x.f1).bind fun t => topo_Check.j3 k l (j : Int) (l.drop 1) ((l.drop 1).length : Int) (j : Int) (!t) x.f0 x.f1 x.f2) (fun _ => rfl) (ev_eq (there_eq _ _) ?_)
      by_cases hc : 1 ≤ x.f1 ∧ x.f1 ≤ (l.length : Int)
      · rw [decide_eq_true hc]
        exact key3 hc h23
      · rw [decide_eq_false hc]
        exact key3t (by rw [decide_eq_false hc]; simp)
    refine Ev.step (fun _ => rfl) (ev_pos (by simp; omega) (ev_pos (by omega) (ev_pos (by simp; omega) ?_)))
    rw [rd_drop, ← hx]
    by_cases h2 : x.f0 = 2
    · exact ev_pos h2 (key2 (.inl h2))
    · refine ev_neg h2 ?_
      by_cases h3 : x.f0 = 3
      · have : (x.f0 != 3) = false := by simp [h3]
        rw [this]
        exact key2 (.inr h3)
      · have h33 : (x.f0 != 3) = true := by simp [h3]
        rw [h33]
        refine Ev.step (f := fun k => topo_Check.j3 k l (j : Int) (l.drop 1) ((l.drop 1).length : Int) (j : Int) true x.f0 x.f1 x.f2) (fun _ => rfl) (key3t ?_)
        simp [h2, h3]
theorem check_ev (l : List S109) (hl : l.length < 1000) : Ev (fun k => topo_Check.f k l) (chkV l) := by
  unfold chkV
  by_cases h1 : l.length < 1
  · rw [if_pos (.inl h1)]
    exact ev_pos (by omega) (Ev.step (f := fun _ => some 2) (fun _ => rfl) (Ev.now 2))
  by_cases h2 : 200 < l.length
  · rw [if_pos (.inr h2)]
    exact ev_neg (by omega) (ev_pos (by omega) (Ev.step (f := fun _ => some 2) (fun _ => rfl) (Ev.now 2)))
  rw [if_neg (by omega)]
  refine ev_neg (by omega) (ev_neg (by omega) (ev_pos (by omega) (Ev.step (fun _ => rfl) ?_)))
  cases hr : rootB l with
  | true => exact ev_pos hr (Ev.now 2)
  | false => exact ev_neg (by unfold rootB at hr; rw [hr]; simp) (ev_pos (by omega) (ev_some (check_ev0 l hl (l.length - 1) 0 (by omega))))

/-- what Way tells -/
def wayV (l : List S109) (a : Int) : List Int × Int := if chkV l = 0 ∧ 1 ≤ a ∧ a ≤ (l.length : Int) then (chn l (l.length + 1) a, 0) else ([], 2)
theorem way_ev (l : List S109) (hl : l.length < 1000) (a : Int) : Ev (fun k => topo_Way.f k l a) (wayV l a) := by
  refine Ev.bind (check_ev l hl) ?_
  by_cases h0 : chkV l = 0
  · refine ev_pos h0 (ev_eq (there_eq l a) ?_)
    by_cases hc : 1 ≤ a ∧ a ≤ (l.length : Int)
    · have hv : wayV l a = (chn l (l.length + 1) a, 0) := if_pos ⟨h0, hc⟩
      rw [hv]
      exact ev_pos (by simpa using hc) (ev_eq (way_eq l a hl) (Ev.now _))
    · have hv : wayV l a = ([], 2) := if_neg (fun h => hc h.2)
      rw [hv]
      exact ev_neg (by simpa using hc) (Ev.now _)
  · have hv : wayV l a = ([], 2) := if_neg (fun h => h0 h.1)
    rw [hv]
    exact ev_neg h0 (Ev.now _)
theorem ints_ev0 (l : List Int) (hl : l.length < 1000000) : ∀ (d j : Nat), d + j = l.length → Ev (fun k => tributarykit_SameInts.l0 k l l (j : Int)) true
  | 0, j, hj => Ev.step (fun _ => rfl) (ev_neg (by omega) (Ev.now true))
  | d + 1, j, hj => by
    refine Ev.step (fun _ => rfl) (ev_pos (by omega) (ev_pos (by omega) (ev_pos (by omega) (ev_pos rfl ?_))))
    rw [w64 (by omega) (by omega)]
    exact ints_ev0 l hl d (j + 1) (by omega)
theorem ints_ev (l : List Int) (hl : l.length < 1000000) : Ev (fun k => tributarykit_SameInts.f k l l) true := ev_pos rfl (ints_ev0 l hl l.length 0 (by omega))
/-- who is right under a node, of those from i on -/
def undFrom (l : List S109) (a : Int) : Nat → Nat → List Int
  | 0, _ => []
  | d + 1, i => if (rd_T109 l i).f1 = a then ((i : Int) + 1) :: undFrom l a d (i + 1) else undFrom l a d (i + 1)
theorem und_len (l : List S109) (a : Int) : ∀ d i, (undFrom l a d i).length ≤ d
  | 0, _ => Nat.le_refl _
  | d + 1, i => by
    have := und_len l a d (i + 1)
    unfold undFrom
    split
    · simp; omega
    · omega
theorem under_ev0 (l : List S109) (hl : l.length < 1000) (a : Int) : ∀ (d j : Nat), d + j = l.length → ∀ acc : List Int, acc.length ≤ j → Ev (fun k => topo_Under.l0 k l a acc (l.length : Int) (j : Int)) (acc ++ undFrom l a d j)
  | 0, j, hj, acc, _ => Ev.step (fun _ => rfl) (ev_neg (by omega) (by simpa [undFrom] using Ev.now acc))
  | d + 1, j, hj, acc, ha => by
    refine Ev.step (fun _ => rfl) (ev_pos (by omega) (ev_pos (by omega) (ev_pos (by omega) ?_)))
    rw [w64 (by omega) (by omega)]
    unfold undFrom
    by_cases h : (rd_T109 l j).f1 = a
    · rw [if_pos h]
      refine ev_pos h (ev_pos (by omega) ?_)
      have := under_ev0 l hl a d (j + 1) (by omega) (acc ++ [(j : Int) + 1]) (by simp; omega)
      rw [List.append_assoc] at this
      exact this
    · rw [if_neg h]
      exact ev_neg h (under_ev0 l hl a d (j + 1) (by omega) acc (by omega))
theorem under_ev (l : List S109) (hl : l.length < 1000) (a : Int) : Ev (fun k => topo_Under.f k l a) (undFrom l a l.length 0) := by
  have := under_ev0 l hl a l.length 0 (by omega) [] (by simp)
  rw [List.nil_append] at this
  exact this
/-- who is live, as Live tells -/
def liveV (l : List S109) : List Int := if chkV l = 0 then liveL l l.length else []
theorem live_ev (l : List S109) (hl : l.length < 1000) : Ev (fun k => topo_Live.f k l) (liveV l) := by
  refine Ev.bind (check_ev l hl) ?_
  by_cases h0 : chkV l = 0
  · have hv : liveV l = liveL l l.length := if_pos h0
    rw [hv]
    exact ev_pos h0 (ev_pos (by omega) (Ev.now _))
  · have hv : liveV l = [] := if_neg h0
    rw [hv]
    exact ev_neg h0 (Ev.now _)
/-- the greatest height of some nodes -/
def hgt (l : List S109) : List Int → Int → Int
  | [], m => m
  | n :: t, m => hgt l t (mx m (((chn l (l.length + 1) n).length : Int) - 1))
theorem height_ev0 (l : List S109) (hl : l.length < 1000) (lv : List Int) (hlv : lv.length < 1000) : ∀ (d j : Nat), d + j = lv.length → ∀ m, Ev (fun k => topo_Height.l0 k l m lv (lv.length : Int) (j : Int)) (hgt l (lv.drop j) m)
  | 0, j, hj, m => by
    rw [List.drop_of_length_le (by omega)]
    exact Ev.step (fun _ => rfl) (ev_neg (by omega) (Ev.now m))
  | d + 1, j, hj, m => by
    have hjl : j < lv.length := by omega
    have hr : rd lv (j : Int) = lv[j] := by unfold rd; simp [List.getD_eq_getElem?_getD, hjl]
    have hch := chn_len l (l.length + 1) lv[j]
    rw [List.drop_eq_getElem_cons hjl]
    refine Ev.step (fun _ => rfl) (ev_pos (by omega) (ev_pos (by omega) (ev_pos (by omega) (ev_eq (way_eq l _ hl) ?_))))
    rw [hr, w64 (by omega) (by omega), w64 (by omega) (by omega)]
    exact height_ev0 l hl lv hlv d (j + 1) (by omega) _
theorem liveV_len (l : List S109) : (liveV l).length ≤ l.length := by
  unfold liveV
  split
  · exact live_len l _
  · simp
theorem height_ev (l : List S109) (hl : l.length < 1000) : Ev (fun k => topo_Height.f k l) (hgt l (liveV l) 0) := by
  refine Ev.bind (live_ev l hl) ?_
  have := height_ev0 l hl (liveV l) (by have := liveV_len l; omega) (liveV l).length 0 (by omega) 0
  rw [List.drop_zero] at this
  exact this
theorem wayV_len (l : List S109) (a : Int) : (wayV l a).1.length ≤ l.length + 1 := by
  unfold wayV
  split
  · exact chn_len l _ _
  · simp

end Go.Proofs.YtadcahnoghnkcaaX.P27
