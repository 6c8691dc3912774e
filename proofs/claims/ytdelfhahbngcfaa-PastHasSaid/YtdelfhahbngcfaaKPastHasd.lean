/- Words, walks and plain laws for the row, packed: each text in a section of its own. Conditions stand with each theorem. -/
import Derived.LoopIn
import Derived.LoopNIn
import Derived.OrdersHeld
import Derived.OrdersIn
import Derived.OwnWalkIn
import Derived.RangeFuncBound
import Derived.RangeFuncBox
import Derived.RangeFuncCalls
import Derived.RangeFuncLeaves
import Derived.RangeFuncNested
import Derived.TacticsInMore
import Derived.WalkLawsBesides
import Derived.WalkSpells
import Derived.Sort.QuietIn
import Derived.Deep.DrawnRows
import Derived.Laws.Bits64b
import Derived.Test.YtdelfhahbngcfaaKPastHasa
import Derived.Test.YtdelfhahbngcfaaKPastHasb
import Derived.Test.YtdelfhahbngcfaaKPastHasc
section
namespace Go.Proofs.YtdelfhahbngcfaaX.P07
open Go.RowKit Go.Proofs.YtdelfhahbngcfaaW.PrintWords Go.Proofs.YtdelfhahbngcfaaW.PrintLast Go.Proofs.YtdelfhahbngcfaaW.PrintMore
attribute [local go_sem] max2_int min2_int max_two min_two max_three min_three max_four min_four   -- for this text's walks alone
set_option linter.unusedVariables false
set_option linter.unusedSimpArgs false
section
def tributarylaw07_awake.f (k : Nat)  : Option (Bool) := (tributarylaw07_at.f 1 3).bind fun bt151 => ((tributarylaw07_at.f 1 1).bind fun bt153 => ((tributarylaw07_at.f 1 2).bind fun bt155 => ((tributarylaw07_at.f 2 5).bind fun bt157 => ((past_Of.f (([(⟨bt151.1, bt151.2⟩ : S41), (⟨bt153.1, bt153.2⟩ : S41), (⟨bt155.1, bt155.2⟩ : S41), (⟨bt157.1, bt157.2⟩ : S41)] : List (S41)))).bind fun bt162 => ((tributarylaw07_of.f k (([1, 1, 258] : List Int))).bind fun t169 => ((past_Bytes.f k t169).bind fun bt172 => ((tributarylaw07_is.f k bt162.1 bt162.2 (([1, 1, 3, 2, 5, 5] : List Int))).bind fun t179 => (if t179 = true then ((past_Count.f k bt162.1).bind fun t180 => (if t180 = 4 then ((past_Last.f k bt162.1 1).bind fun t181 => (if t181 = 3 then ((tributarylaw07_at.f 1 2).bind fun bt182 => ((past_Has.f k bt162.1 bt182.1 bt182.2).bind fun t184 => (if t184 = true then (if bt172.2 = 0 then ((tributarykit_SameBytes.f bt172.1 (([0, 1, 1, 0, 0, 0, 1, 0, 0, 1, 2] : List Int))).bind fun t188 => (some t188)) else (some false)) else (some false)))) else (some false))) else (some false))) else (some false)))))))))
theorem tributarylaw07_awake.mono : ∀ k, LeO (tributarylaw07_awake.f k ) (tributarylaw07_awake.f (k + 1) ) := by
  intro  k
  unfold tributarylaw07_awake.f
  repeat' first
      | (with_reducible exact past_Bytes.mono _ _)
      | (with_reducible exact past_Count.mono _ _)
      | (with_reducible exact past_Has.mono _ _ _ _)
      | (with_reducible exact past_Last.mono _ _ _)
      | (with_reducible exact tributarylaw07_is.mono _ _ _ _)
      | (with_reducible exact tributarylaw07_of.mono _ _)
      | (with_reducible exact LeO.refl _)
      | (with_reducible exact LeO.none _)
      | (with_reducible refine LeO.ite ?_ ?_)
      | (with_reducible refine LeO.bind ?_ (fun _ => ?_))
      | exact past_Bytes.mono _ _
      | exact past_Count.mono _ _
      | exact past_Has.mono _ _ _ _
      | exact past_Last.mono _ _ _
      | exact tributarylaw07_is.mono _ _ _ _
      | exact tributarylaw07_of.mono _ _
      | exact LeO.none _
      | refine LeO.ite ?_ ?_
      | refine LeO.bind ?_ (fun _ => ?_)
set_option maxHeartbeats 8000000 in
set_option maxRecDepth 100000 in
theorem tributarylaw07_awake.calls (k : Nat)  (r : Bool) (w : World) (h : tributarylaw07_awake.f k  = some r) :
    Calls Try.prog 10 #[] w fun e w' => e = .returned (.bool r) ∧ Below w.heap.size w w' := by
  have HB := Aside0.mk (Below.refl w.heap.size w)
  have H : ((tributarylaw07_at.f 1 3).bind fun bt151 => ((tributarylaw07_at.f 1 1).bind fun bt153 => ((tributarylaw07_at.f 1 2).bind fun bt155 => ((tributarylaw07_at.f 2 5).bind fun bt157 => ((past_Of.f (([(⟨bt151.1, bt151.2⟩ : S41), (⟨bt153.1, bt153.2⟩ : S41), (⟨bt155.1, bt155.2⟩ : S41), (⟨bt157.1, bt157.2⟩ : S41)] : List (S41)))).bind fun bt162 => ((tributarylaw07_of.f k (([1, 1, 258] : List Int))).bind fun t169 => ((past_Bytes.f k t169).bind fun bt172 => ((tributarylaw07_is.f k bt162.1 bt162.2 (([1, 1, 3, 2, 5, 5] : List Int))).bind fun t179 => (if t179 = true then ((past_Count.f k bt162.1).bind fun t180 => (if t180 = 4 then ((past_Last.f k bt162.1 1).bind fun t181 => (if t181 = 3 then ((tributarylaw07_at.f 1 2).bind fun bt182 => ((past_Has.f k bt162.1 bt182.1 bt182.2).bind fun t184 => (if t184 = true then (if bt172.2 = 0 then ((tributarykit_SameBytes.f bt172.1 (([0, 1, 1, 0, 0, 0, 1, 0, 0, 1, 2] : List Int))).bind fun t188 => (some t188)) else (some false)) else (some false)))) else (some false))) else (some false))) else (some false)))))))))) = some r := h
  clear h
  replace H := Option.bind_eq_some_iff.mp H
  obtain ⟨⟨t151, t152⟩, A10, H⟩ := H
  replace H : ((tributarylaw07_at.f 1 1).bind fun bt153 => ((tributarylaw07_at.f 1 2).bind fun bt155 => ((tributarylaw07_at.f 2 5).bind fun bt157 => ((past_Of.f (([(⟨t151, t152⟩ : S41), (⟨bt153.1, bt153.2⟩ : S41), (⟨bt155.1, bt155.2⟩ : S41), (⟨bt157.1, bt157.2⟩ : S41)] : List (S41)))).bind fun bt162 => ((tributarylaw07_of.f k (([1, 1, 258] : List Int))).bind fun t169 => ((past_Bytes.f k t169).bind fun bt172 => ((tributarylaw07_is.f k bt162.1 bt162.2 (([1, 1, 3, 2, 5, 5] : List Int))).bind fun t179 => (if t179 = true then ((past_Count.f k bt162.1).bind fun t180 => (if t180 = 4 then ((past_Last.f k bt162.1 1).bind fun t181 => (if t181 = 3 then ((tributarylaw07_at.f 1 2).bind fun bt182 => ((past_Has.f k bt162.1 bt182.1 bt182.2).bind fun t184 => (if t184 = true then (if bt172.2 = 0 then ((tributarykit_SameBytes.f bt172.1 (([0, 1, 1, 0, 0, 0, 1, 0, 0, 1, 2] : List Int))).bind fun t188 => (some t188)) else (some false)) else (some false)))) else (some false))) else (some false))) else (some false))))))))) = some r := H
  have A1 := Aside0.mk A10
  clear A10
  replace H := Option.bind_eq_some_iff.mp H
  obtain ⟨⟨t153, t154⟩, A20, H⟩ := H
  replace H : ((tributarylaw07_at.f 1 2).bind fun bt155 => ((tributarylaw07_at.f 2 5).bind fun bt157 => ((past_Of.f (([(⟨t151, t152⟩ : S41), (⟨t153, t154⟩ : S41), (⟨bt155.1, bt155.2⟩ : S41), (⟨bt157.1, bt157.2⟩ : S41)] : List (S41)))).bind fun bt162 => ((tributarylaw07_of.f k (([1, 1, 258] : List Int))).bind fun t169 => ((past_Bytes.f k t169).bind fun bt172 => ((tributarylaw07_is.f k bt162.1 bt162.2 (([1, 1, 3, 2, 5, 5] : List Int))).bind fun t179 => (if t179 = true then ((past_Count.f k bt162.1).bind fun t180 => (if t180 = 4 then ((past_Last.f k bt162.1 1).bind fun t181 => (if t181 = 3 then ((tributarylaw07_at.f 1 2).bind fun bt182 => ((past_Has.f k bt162.1 bt182.1 bt182.2).bind fun t184 => (if t184 = true then (if bt172.2 = 0 then ((tributarykit_SameBytes.f bt172.1 (([0, 1, 1, 0, 0, 0, 1, 0, 0, 1, 2] : List Int))).bind fun t188 => (some t188)) else (some false)) else (some false)))) else (some false))) else (some false))) else (some false)))))))) = some r := H
  have A2 := Aside0.mk A20
  clear A20
  replace H := Option.bind_eq_some_iff.mp H
  obtain ⟨⟨t155, t156⟩, A30, H⟩ := H
  replace H : ((tributarylaw07_at.f 2 5).bind fun bt157 => ((past_Of.f (([(⟨t151, t152⟩ : S41), (⟨t153, t154⟩ : S41), (⟨t155, t156⟩ : S41), (⟨bt157.1, bt157.2⟩ : S41)] : List (S41)))).bind fun bt162 => ((tributarylaw07_of.f k (([1, 1, 258] : List Int))).bind fun t169 => ((past_Bytes.f k t169).bind fun bt172 => ((tributarylaw07_is.f k bt162.1 bt162.2 (([1, 1, 3, 2, 5, 5] : List Int))).bind fun t179 => (if t179 = true then ((past_Count.f k bt162.1).bind fun t180 => (if t180 = 4 then ((past_Last.f k bt162.1 1).bind fun t181 => (if t181 = 3 then ((tributarylaw07_at.f 1 2).bind fun bt182 => ((past_Has.f k bt162.1 bt182.1 bt182.2).bind fun t184 => (if t184 = true then (if bt172.2 = 0 then ((tributarykit_SameBytes.f bt172.1 (([0, 1, 1, 0, 0, 0, 1, 0, 0, 1, 2] : List Int))).bind fun t188 => (some t188)) else (some false)) else (some false)))) else (some false))) else (some false))) else (some false))))))) = some r := H
  have A3 := Aside0.mk A30
  clear A30
  replace H := Option.bind_eq_some_iff.mp H
  obtain ⟨⟨t157, t158⟩, A40, H⟩ := H
  replace H : ((past_Of.f (([(⟨t151, t152⟩ : S41), (⟨t153, t154⟩ : S41), (⟨t155, t156⟩ : S41), (⟨t157, t158⟩ : S41)] : List (S41)))).bind fun bt162 => ((tributarylaw07_of.f k (([1, 1, 258] : List Int))).bind fun t169 => ((past_Bytes.f k t169).bind fun bt172 => ((tributarylaw07_is.f k bt162.1 bt162.2 (([1, 1, 3, 2, 5, 5] : List Int))).bind fun t179 => (if t179 = true then ((past_Count.f k bt162.1).bind fun t180 => (if t180 = 4 then ((past_Last.f k bt162.1 1).bind fun t181 => (if t181 = 3 then ((tributarylaw07_at.f 1 2).bind fun bt182 => ((past_Has.f k bt162.1 bt182.1 bt182.2).bind fun t184 => (if t184 = true then (if bt172.2 = 0 then ((tributarykit_SameBytes.f bt172.1 (([0, 1, 1, 0, 0, 0, 1, 0, 0, 1, 2] : List Int))).bind fun t188 => (some t188)) else (some false)) else (some false)))) else (some false))) else (some false))) else (some false)))))) = some r := H
  have A4 := Aside0.mk A40
  clear A40
  obtain ⟨y159, hy159⟩ : ∃ y_ : List (S41), y_ = (([(⟨t151, t152⟩ : S41), (⟨t153, t154⟩ : S41), (⟨t155, t156⟩ : S41), (⟨t157, t158⟩ : S41)] : List (S41))) := ⟨_, rfl⟩
  replace H : ((past_Of.f y159).bind fun bt162 => ((tributarylaw07_of.f k (([1, 1, 258] : List Int))).bind fun t169 => ((past_Bytes.f k t169).bind fun bt172 => ((tributarylaw07_is.f k bt162.1 bt162.2 (([1, 1, 3, 2, 5, 5] : List Int))).bind fun t179 => (if t179 = true then ((past_Count.f k bt162.1).bind fun t180 => (if t180 = 4 then ((past_Last.f k bt162.1 1).bind fun t181 => (if t181 = 3 then ((tributarylaw07_at.f 1 2).bind fun bt182 => ((past_Has.f k bt162.1 bt182.1 bt182.2).bind fun t184 => (if t184 = true then (if bt172.2 = 0 then ((tributarykit_SameBytes.f bt172.1 (([0, 1, 1, 0, 0, 0, 1, 0, 0, 1, 2] : List Int))).bind fun t188 => (some t188)) else (some false)) else (some false)))) else (some false))) else (some false))) else (some false)))))) = some r := by first | (rw [hy159]; with_reducible exact H) | (have H2_ := (Option.bind_some _ _).symm.trans H; rw [hy159]; with_reducible exact H2_) | (have H2_ := (Option.bind_some _ _).symm.trans H; with_reducible exact H2_) | with_reducible exact H | (rw [hy159]; exact H) | exact H
  have Ny159 := Aside0.mk hy159
  clear hy159
  replace H := Option.bind_eq_some_iff.mp H
  obtain ⟨⟨t162, t163⟩, A50, H⟩ := H
  replace H : ((tributarylaw07_of.f k (([1, 1, 258] : List Int))).bind fun t169 => ((past_Bytes.f k t169).bind fun bt172 => ((tributarylaw07_is.f k t162 t163 (([1, 1, 3, 2, 5, 5] : List Int))).bind fun t179 => (if t179 = true then ((past_Count.f k t162).bind fun t180 => (if t180 = 4 then ((past_Last.f k t162 1).bind fun t181 => (if t181 = 3 then ((tributarylaw07_at.f 1 2).bind fun bt182 => ((past_Has.f k t162 bt182.1 bt182.2).bind fun t184 => (if t184 = true then (if bt172.2 = 0 then ((tributarykit_SameBytes.f bt172.1 (([0, 1, 1, 0, 0, 0, 1, 0, 0, 1, 2] : List Int))).bind fun t188 => (some t188)) else (some false)) else (some false)))) else (some false))) else (some false))) else (some false))))) = some r := H
  have A5 := Aside0.mk A50
  clear A50
  obtain ⟨y166, hy166⟩ : ∃ y_ : List Int, y_ = (([1, 1, 258] : List Int)) := ⟨_, rfl⟩
  replace H : ((tributarylaw07_of.f k y166).bind fun t169 => ((past_Bytes.f k t169).bind fun bt172 => ((tributarylaw07_is.f k t162 t163 (([1, 1, 3, 2, 5, 5] : List Int))).bind fun t179 => (if t179 = true then ((past_Count.f k t162).bind fun t180 => (if t180 = 4 then ((past_Last.f k t162 1).bind fun t181 => (if t181 = 3 then ((tributarylaw07_at.f 1 2).bind fun bt182 => ((past_Has.f k t162 bt182.1 bt182.2).bind fun t184 => (if t184 = true then (if bt172.2 = 0 then ((tributarykit_SameBytes.f bt172.1 (([0, 1, 1, 0, 0, 0, 1, 0, 0, 1, 2] : List Int))).bind fun t188 => (some t188)) else (some false)) else (some false)))) else (some false))) else (some false))) else (some false))))) = some r := by first | (rw [hy166]; with_reducible exact H) | (have H2_ := (Option.bind_some _ _).symm.trans H; rw [hy166]; with_reducible exact H2_) | (have H2_ := (Option.bind_some _ _).symm.trans H; with_reducible exact H2_) | with_reducible exact H | (rw [hy166]; exact H) | exact H
  have Ny166 := Aside0.mk hy166
  clear hy166
  replace H := Option.bind_eq_some_iff.mp H
  obtain ⟨t169, A60, H⟩ := H
  replace H : ((past_Bytes.f k t169).bind fun bt172 => ((tributarylaw07_is.f k t162 t163 (([1, 1, 3, 2, 5, 5] : List Int))).bind fun t179 => (if t179 = true then ((past_Count.f k t162).bind fun t180 => (if t180 = 4 then ((past_Last.f k t162 1).bind fun t181 => (if t181 = 3 then ((tributarylaw07_at.f 1 2).bind fun bt182 => ((past_Has.f k t162 bt182.1 bt182.2).bind fun t184 => (if t184 = true then (if bt172.2 = 0 then ((tributarykit_SameBytes.f bt172.1 (([0, 1, 1, 0, 0, 0, 1, 0, 0, 1, 2] : List Int))).bind fun t188 => (some t188)) else (some false)) else (some false)))) else (some false))) else (some false))) else (some false)))) = some r := H
  have A6 := Aside0.mk A60
  clear A60
  replace H := Option.bind_eq_some_iff.mp H
  obtain ⟨⟨t172, t173⟩, A70, H⟩ := H
  replace H : ((tributarylaw07_is.f k t162 t163 (([1, 1, 3, 2, 5, 5] : List Int))).bind fun t179 => (if t179 = true then ((past_Count.f k t162).bind fun t180 => (if t180 = 4 then ((past_Last.f k t162 1).bind fun t181 => (if t181 = 3 then ((tributarylaw07_at.f 1 2).bind fun bt182 => ((past_Has.f k t162 bt182.1 bt182.2).bind fun t184 => (if t184 = true then (if t173 = 0 then ((tributarykit_SameBytes.f t172 (([0, 1, 1, 0, 0, 0, 1, 0, 0, 1, 2] : List Int))).bind fun t188 => (some t188)) else (some false)) else (some false)))) else (some false))) else (some false))) else (some false))) = some r := H
  have A7 := Aside0.mk A70
  clear A70
  obtain ⟨y176, hy176⟩ : ∃ y_ : List Int, y_ = (([1, 1, 3, 2, 5, 5] : List Int)) := ⟨_, rfl⟩
  replace H : ((tributarylaw07_is.f k t162 t163 y176).bind fun t179 => (if t179 = true then ((past_Count.f k t162).bind fun t180 => (if t180 = 4 then ((past_Last.f k t162 1).bind fun t181 => (if t181 = 3 then ((tributarylaw07_at.f 1 2).bind fun bt182 => ((past_Has.f k t162 bt182.1 bt182.2).bind fun t184 => (if t184 = true then (if t173 = 0 then ((tributarykit_SameBytes.f t172 (([0, 1, 1, 0, 0, 0, 1, 0, 0, 1, 2] : List Int))).bind fun t188 => (some t188)) else (some false)) else (some false)))) else (some false))) else (some false))) else (some false))) = some r := by first | (rw [hy176]; with_reducible exact H) | (have H2_ := (Option.bind_some _ _).symm.trans H; rw [hy176]; with_reducible exact H2_) | (have H2_ := (Option.bind_some _ _).symm.trans H; with_reducible exact H2_) | with_reducible exact H | (rw [hy176]; exact H) | exact H
  have Ny176 := Aside0.mk hy176
  clear hy176
  replace H := Option.bind_eq_some_iff.mp H
  obtain ⟨t179, A80, H⟩ := H
  replace H : (if t179 = true then ((past_Count.f k t162).bind fun t180 => (if t180 = 4 then ((past_Last.f k t162 1).bind fun t181 => (if t181 = 3 then ((tributarylaw07_at.f 1 2).bind fun bt182 => ((past_Has.f k t162 bt182.1 bt182.2).bind fun t184 => (if t184 = true then (if t173 = 0 then ((tributarykit_SameBytes.f t172 (([0, 1, 1, 0, 0, 0, 1, 0, 0, 1, 2] : List Int))).bind fun t188 => (some t188)) else (some false)) else (some false)))) else (some false))) else (some false))) else (some false)) = some r := H
  have A8 := Aside0.mk A80
  clear A80
  by_cases c9 : t179 = true
  · subst c9
    have H1 : ((past_Count.f k t162).bind fun t180 => (if t180 = 4 then ((past_Last.f k t162 1).bind fun t181 => (if t181 = 3 then ((tributarylaw07_at.f 1 2).bind fun bt182 => ((past_Has.f k t162 bt182.1 bt182.2).bind fun t184 => (if t184 = true then (if t173 = 0 then ((tributarykit_SameBytes.f t172 (([0, 1, 1, 0, 0, 0, 1, 0, 0, 1, 2] : List Int))).bind fun t188 => (some t188)) else (some false)) else (some false)))) else (some false))) else (some false))) = some r := by rw [if_pos rfl] at H; exact H
    clear H
    have H := H1
    clear H1
    replace H := Option.bind_eq_some_iff.mp H
    obtain ⟨t180, A100, H⟩ := H
    replace H : (if t180 = 4 then ((past_Last.f k t162 1).bind fun t181 => (if t181 = 3 then ((tributarylaw07_at.f 1 2).bind fun bt182 => ((past_Has.f k t162 bt182.1 bt182.2).bind fun t184 => (if t184 = true then (if t173 = 0 then ((tributarykit_SameBytes.f t172 (([0, 1, 1, 0, 0, 0, 1, 0, 0, 1, 2] : List Int))).bind fun t188 => (some t188)) else (some false)) else (some false)))) else (some false))) else (some false)) = some r := H
    have A10 := Aside0.mk A100
    clear A100
    by_cases c11 : t180 = 4
    · rw [if_pos c11] at H
      have c11b0 : (t180 == 4) = true := beq_iff_eq.mpr c11
      have c11b1 : (t180 != 4) = false := bne_eq_false_iff_eq.mpr c11
      clear c11
      replace H := Option.bind_eq_some_iff.mp H
      obtain ⟨t181, A120, H⟩ := H
      replace H : (if t181 = 3 then ((tributarylaw07_at.f 1 2).bind fun bt182 => ((past_Has.f k t162 bt182.1 bt182.2).bind fun t184 => (if t184 = true then (if t173 = 0 then ((tributarykit_SameBytes.f t172 (([0, 1, 1, 0, 0, 0, 1, 0, 0, 1, 2] : List Int))).bind fun t188 => (some t188)) else (some false)) else (some false)))) else (some false)) = some r := H
      have A12 := Aside0.mk A120
      clear A120
      by_cases c13 : t181 = 3
      · rw [if_pos c13] at H
        have c13b0 : (t181 == 3) = true := beq_iff_eq.mpr c13
        have c13b1 : (t181 != 3) = false := bne_eq_false_iff_eq.mpr c13
        clear c13
        replace H := Option.bind_eq_some_iff.mp H
        obtain ⟨⟨t182, t183⟩, A140, H⟩ := H
        replace H : ((past_Has.f k t162 t182 t183).bind fun t184 => (if t184 = true then (if t173 = 0 then ((tributarykit_SameBytes.f t172 (([0, 1, 1, 0, 0, 0, 1, 0, 0, 1, 2] : List Int))).bind fun t188 => (some t188)) else (some false)) else (some false))) = some r := H
        have A14 := Aside0.mk A140
        clear A140
        replace H := Option.bind_eq_some_iff.mp H
        obtain ⟨t184, A150, H⟩ := H
        replace H : (if t184 = true then (if t173 = 0 then ((tributarykit_SameBytes.f t172 (([0, 1, 1, 0, 0, 0, 1, 0, 0, 1, 2] : List Int))).bind fun t188 => (some t188)) else (some false)) else (some false)) = some r := H
        have A15 := Aside0.mk A150
        clear A150
        by_cases c16 : t184 = true
        · subst c16
          have H1 : (if t173 = 0 then ((tributarykit_SameBytes.f t172 (([0, 1, 1, 0, 0, 0, 1, 0, 0, 1, 2] : List Int))).bind fun t188 => (some t188)) else (some false)) = some r := by rw [if_pos rfl] at H; exact H
          clear H
          have H := H1
          clear H1
          by_cases c17 : t173 = 0
          · rw [if_pos c17] at H
            have c17b0 : (t173 == 0) = true := beq_iff_eq.mpr c17
            have c17b1 : (t173 != 0) = false := bne_eq_false_iff_eq.mpr c17
            clear c17
            obtain ⟨y185, hy185⟩ : ∃ y_ : List Int, y_ = (([0, 1, 1, 0, 0, 0, 1, 0, 0, 1, 2] : List Int)) := ⟨_, rfl⟩
            replace H : ((tributarykit_SameBytes.f t172 y185).bind fun t188 => (some t188)) = some r := by first | (rw [hy185]; with_reducible exact H) | (have H2_ := (Option.bind_some _ _).symm.trans H; rw [hy185]; with_reducible exact H2_) | (have H2_ := (Option.bind_some _ _).symm.trans H; with_reducible exact H2_) | with_reducible exact H | (rw [hy185]; exact H) | exact H
            have Ny185 := Aside0.mk hy185
            clear hy185
            replace H := Option.bind_eq_some_iff.mp H
            obtain ⟨t188, A180, H⟩ := H
            replace H : (some t188) = some r := H
            have A18 := Aside0.mk A180
            clear A180
            obtain rfl := Option.some.inj H
            go_enter Try.func10, Try.ntmps10
            go_wp2_with (first | ((with_reducible refine gate_callee (f := 42) rfl ?_); refine goesL_ (some 6) rfl rfl Try.func42 (by kernel_rfl) rfl #[.int .i64 1, .int .i64 3] rfl (by (try simp only [List.map_toArray, List.map_cons, List.map_nil]); first | done | rfl | (simp only [List.length_drop, List.length_take]; rfl)) ?_; (with_reducible refine (tributarylaw07_at.calls 1 3 t151 t152 _ A1.out).mono ?_); rintro e w19 ⟨rfl, hb⟩; refine ⟨_, rfl, ?_⟩; have n0_ := Aside0.mk (below_step (by repeat (first | (with_reducible first | exact HB.out | apply below_alloc | apply pw_below_drewN | apply below_drew1) | exact HB.out)) hb); clear HB; have HB := n0_; clear n0_; (try clear hb); (try clear hb2); (try clear hk); (try clear hi)) | ((with_reducible refine gate_callee (f := 42) rfl ?_); refine goesL_ (some 7) rfl rfl Try.func42 (by kernel_rfl) rfl #[.int .i64 1, .int .i64 1] rfl (by (try simp only [List.map_toArray, List.map_cons, List.map_nil]); first | done | rfl | (simp only [List.length_drop, List.length_take]; rfl)) ?_; (with_reducible refine (tributarylaw07_at.calls 1 1 t153 t154 _ A2.out).mono ?_); rintro e w20 ⟨rfl, hb⟩; refine ⟨_, rfl, ?_⟩; have n0_ := Aside0.mk (below_step (by repeat (first | (with_reducible first | exact HB.out | apply below_alloc | apply pw_below_drewN | apply below_drew1) | exact HB.out)) hb); clear HB; have HB := n0_; clear n0_; (try clear hb); (try clear hb2); (try clear hk); (try clear hi)) | ((with_reducible refine gate_callee (f := 42) rfl ?_); refine goesL_ (some 8) rfl rfl Try.func42 (by kernel_rfl) rfl #[.int .i64 1, .int .i64 2] rfl (by (try simp only [List.map_toArray, List.map_cons, List.map_nil]); first | done | rfl | (simp only [List.length_drop, List.length_take]; rfl)) ?_; (with_reducible refine (tributarylaw07_at.calls 1 2 t155 t156 _ A3.out).mono ?_); rintro e w21 ⟨rfl, hb⟩; refine ⟨_, rfl, ?_⟩; have n0_ := Aside0.mk (below_step (by repeat (first | (with_reducible first | exact HB.out | apply below_alloc | apply pw_below_drewN | apply below_drew1) | exact HB.out)) hb); clear HB; have HB := n0_; clear n0_; (try clear hb); (try clear hb2); (try clear hk); (try clear hi)) | ((with_reducible refine gate_callee (f := 42) rfl ?_); refine goesL_ (some 9) rfl rfl Try.func42 (by kernel_rfl) rfl #[.int .i64 2, .int .i64 5] rfl (by (try simp only [List.map_toArray, List.map_cons, List.map_nil]); first | done | rfl | (simp only [List.length_drop, List.length_take]; rfl)) ?_; (with_reducible refine (tributarylaw07_at.calls 2 5 t157 t158 _ A4.out).mono ?_); rintro e w22 ⟨rfl, hb⟩; refine ⟨_, rfl, ?_⟩; have n0_ := Aside0.mk (below_step (by repeat (first | (with_reducible first | exact HB.out | apply below_alloc | apply pw_below_drewN | apply below_drew1) | exact HB.out)) hb); clear HB; have HB := n0_; clear n0_; (try clear hb); (try clear hb2); (try clear hk); (try clear hi)) | ((with_reducible refine gate_dst (N := 10) rfl ?_); (try (refine gate_guard (by rfl) ?_; dsimp only)); refine Kd.R_lit k41 _ 41 ?hg (N := 10) ?hd (xs := ([(⟨t151, t152⟩ : S41), (⟨t153, t154⟩ : S41), (⟨t155, t156⟩ : S41), (⟨t157, t158⟩ : S41)] : List (S41))) (inner := [.int .i64 t151, .int .i64 t152, .int .i64 t153, .int .i64 t154, .int .i64 t155, .int .i64 t156, .int .i64 t157, .int .i64 t158]) (ok := fun _ => True) (okp := fun _ => True) ?hr ?hp (fun _ hk => hk) trivial (Below.refl _ _) (Nat.le_refl _) (by simp) ?_; (case hd => rfl); (case hg => rfl); (case hr => first | (go_simp; done) | (go_simp; rfl)); (case hp => exact (Reps.c2 (show Kd.M k41 _ _ _ (⟨t151, t152⟩ : S41) [.int .i64 t151, .int .i64 t152] from (k41_mkM _ _ _ (⟨t151, t152⟩ : S41) )) (Reps.c2 (show Kd.M k41 _ _ _ (⟨t153, t154⟩ : S41) [.int .i64 t153, .int .i64 t154] from (k41_mkM _ _ _ (⟨t153, t154⟩ : S41) )) (Reps.c2 (show Kd.M k41 _ _ _ (⟨t155, t156⟩ : S41) [.int .i64 t155, .int .i64 t156] from (k41_mkM _ _ _ (⟨t155, t156⟩ : S41) )) (Reps.c2 (show Kd.M k41 _ _ _ (⟨t157, t158⟩ : S41) [.int .i64 t157, .int .i64 t158] from (k41_mkM _ _ _ (⟨t157, t158⟩ : S41) )) (Reps.none _ _)))))); intro v160 w23 ho24 hb hg_ hnew_; clear hg_ hnew_; (first | rw [← Ny159.out] at ho24 | (simp only [Int.reduceToNat] at ho24; rw [← Ny159.out] at ho24)); have n0_ := Aside0.mk (Kd.R_lower ho24 (below_size (by repeat (first | (with_reducible first | exact HB.out | apply below_alloc | apply pw_below_drewN | apply below_drew1) | exact HB.out)))); have n1_ := Aside0.mk (below_step (by repeat (first | (with_reducible first | exact HB.out | apply below_alloc | apply pw_below_drewN | apply below_drew1) | exact HB.out)) hb); clear HB; have HO161 := n0_; have HB := n1_; clear n0_ n1_; clear hb ho24; obtain ⟨Ao25, co25, eo25⟩ := Kd.R_slice HO161.out; subst eo25) | ((with_reducible refine gate_callee (f := 31) rfl ?_); refine goesL_ (some 11) rfl rfl Try.func31 (by kernel_rfl) rfl #[.slice Ao25 y159.length co25] rfl (by (try simp only [List.map_toArray, List.map_cons, List.map_nil]); first | done | rfl | (simp only [List.length_drop, List.length_take]; rfl)) ?_; (with_reducible refine (past_Of.calls _ _ y159 t162 t163 _ ?side1 ?side2 A5.out).mono ?_); (case side1 => repeat (first | exact (Kd.R_reads' HO161.out).2.2 | (with_reducible refine Kd.C_alloc ?_ _) | (with_reducible refine Kd.C_drewN ?_ _) | (with_reducible refine Kd.C_drew ?_))); (case side2 => exact (Kd.R_reads' HO161.out).2.1); rintro e w26 ⟨v164, rfl, ho0, hb⟩; refine ⟨_, rfl, ?_⟩; have n0_ := Aside0.mk (Kd.R_below (lf HO161.out) hb); have n1_ := Aside0.mk (Kd.R_lower ho0 (below_size (by repeat (first | (with_reducible first | exact HB.out | apply below_alloc | apply pw_below_drewN | apply below_drew1) | exact HB.out)))); have n2_ := Aside0.mk (below_step (by repeat (first | (with_reducible first | exact HB.out | apply below_alloc | apply pw_below_drewN | apply below_drew1) | exact HB.out)) hb); clear HO161; clear HB; have HO161 := n0_; have HO165 := n1_; have HB := n2_; clear n0_ n1_ n2_; (try clear hb); (try clear hb2); (try clear hk); (try clear hi); (try clear ho0)) | ((with_reducible refine gate_dst (N := 15) rfl ?_); (try (refine gate_guard (by rfl) ?_; dsimp only)); refine Kd.R_lit (Kd.int .i64) _ 3 ?hg (N := 15) ?hd (xs := ([1, 1, 258] : List Int)) (inner := [.int .i64 1, .int .i64 1, .int .i64 258]) (ok := fun _ => True) (okp := fun _ => True) ?hr ?hp (fun _ hk => hk) trivial (Below.refl _ _) (Nat.le_refl _) (by simp) ?_; (case hd => rfl); (case hg => rfl); (case hr => first | (go_simp; done) | (go_simp; rfl)); (case hp => exact (Reps.one (show Kd.M (Kd.int .i64) _ _ _ 1 [.int .i64 1] from rfl) (Reps.one (show Kd.M (Kd.int .i64) _ _ _ 1 [.int .i64 1] from rfl) (Reps.one (show Kd.M (Kd.int .i64) _ _ _ 258 [.int .i64 258] from rfl) (Reps.none _ _))))); intro v167 w27 ho28 hb hg_ hnew_; clear hg_ hnew_; (first | rw [← Ny166.out] at ho28 | (simp only [Int.reduceToNat] at ho28; rw [← Ny166.out] at ho28)); have n0_ := Aside0.mk (Kd.R_below (lf HO161.out) hb); have n1_ := Aside0.mk (Kd.R_below (lf HO165.out) hb); have n2_ := Aside0.mk (Kd.R_lower ho28 (below_size (by repeat (first | (with_reducible first | exact HB.out | apply below_alloc | apply pw_below_drewN | apply below_drew1) | exact HB.out)))); have n3_ := Aside0.mk (below_step (by repeat (first | (with_reducible first | exact HB.out | apply below_alloc | apply pw_below_drewN | apply below_drew1) | exact HB.out)) hb); clear HO161; clear HO165; clear HB; have HO161 := n0_; have HO165 := n1_; have HO168 := n2_; have HB := n3_; clear n0_ n1_ n2_ n3_; clear hb ho28; obtain ⟨Ao29, co29, eo29⟩ := Kd.R_slice HO168.out; subst eo29) | ((with_reducible refine gate_callee (f := 43) rfl ?_); refine goesL_ (some 16) rfl rfl Try.func43 (by kernel_rfl) rfl #[.slice Ao29 y166.length co29] rfl (by (try simp only [List.map_toArray, List.map_cons, List.map_nil]); first | done | rfl | (simp only [List.length_drop, List.length_take]; rfl)) ?_; (with_reducible refine (tributarylaw07_of.calls k _ _ y166 t169 _ ?side1 ?side2 A6.out).mono ?_); (case side1 => repeat (first | exact (Kd.R_reads' HO168.out).2.2 | (with_reducible refine Kd.C_alloc ?_ _) | (with_reducible refine Kd.C_drewN ?_ _) | (with_reducible refine Kd.C_drew ?_))); (case side2 => exact (Kd.R_reads' HO168.out).2.1); rintro e w30 ⟨v170, rfl, ho0, hb⟩; refine ⟨_, rfl, ?_⟩; have n0_ := Aside0.mk (Kd.R_below (lf HO161.out) hb); have n1_ := Aside0.mk (Kd.R_elder' (lf HO165.out) (Kd.R_base ho0) hb); have n2_ := Aside0.mk (Kd.R_below (lf HO168.out) hb); have n3_ := Aside0.mk (Kd.R_lower (Kd.R_new' ho0 (Kd.R_lt (lf HO165.out))) (below_size (by repeat (first | (with_reducible first | exact HB.out | apply below_alloc | apply pw_below_drewN | apply below_drew1) | exact HB.out)))); have n4_ := Aside0.mk (below_step (by repeat (first | (with_reducible first | exact HB.out | apply below_alloc | apply pw_below_drewN | apply below_drew1) | exact HB.out)) hb); clear HO161; clear HO165; clear HO168; clear HB; have HO161 := n0_; have HO165 := n1_; have HO168 := n2_; have HO171 := n3_; have HB := n4_; clear n0_ n1_ n2_ n3_ n4_; (try clear hb); (try clear hb2); (try clear hk); (try clear hi); (try clear ho0); obtain ⟨Ao31, co31, eo31⟩ := Kd.R_slice HO171.out; subst eo31) | ((with_reducible refine gate_callee (f := 13) rfl ?_); refine goesL_ (some 17) rfl rfl Try.func13 (by kernel_rfl) rfl #[.slice Ao31 t169.length co31] rfl (by (try simp only [List.map_toArray, List.map_cons, List.map_nil]); first | done | rfl | (simp only [List.length_drop, List.length_take]; rfl)) ?_; (with_reducible refine (past_Bytes.calls k _ _ t169 t172 t173 _ ?side1 ?side2 A7.out).mono ?_); (case side1 => repeat (first | exact (Kd.R_reads' HO171.out).2.2 | (with_reducible refine Kd.C_alloc ?_ _) | (with_reducible refine Kd.C_drewN ?_ _) | (with_reducible refine Kd.C_drew ?_))); (case side2 => exact (Kd.R_reads' HO171.out).2.1); rintro e w32 ⟨v174, rfl, ho0, hb⟩; refine ⟨_, rfl, ?_⟩; have n0_ := Aside0.mk (Kd.R_below (lf HO161.out) hb); have n1_ := Aside0.mk (Kd.R_below (lf HO165.out) hb); have n2_ := Aside0.mk (Kd.R_below (lf HO168.out) hb); have n3_ := Aside0.mk (Kd.R_below (lf HO171.out) hb); have n4_ := Aside0.mk (Kd.Q_lower ho0 (below_size (by repeat (first | (with_reducible first | exact HB.out | apply below_alloc | apply pw_below_drewN | apply below_drew1) | exact HB.out)))); have n5_ := Aside0.mk (below_step (by repeat (first | (with_reducible first | exact HB.out | apply below_alloc | apply pw_below_drewN | apply below_drew1) | exact HB.out)) hb); clear HO161; clear HO165; clear HO168; clear HO171; clear HB; have HO161 := n0_; have HO165 := n1_; have HO168 := n2_; have HO171 := n3_; have HO175 := n4_; have HB := n5_; clear n0_ n1_ n2_ n3_ n4_ n5_; (try clear hb); (try clear hb2); (try clear hk); (try clear hi); (try clear ho0)) | ((with_reducible refine gate_dst (N := 22) rfl ?_); (try (refine gate_guard (by rfl) ?_; dsimp only)); refine Kd.R_lit (Kd.int .i64) _ 3 ?hg (N := 22) ?hd (xs := ([1, 1, 3, 2, 5, 5] : List Int)) (inner := [.int .i64 1, .int .i64 1, .int .i64 3, .int .i64 2, .int .i64 5, .int .i64 5]) (ok := fun _ => True) (okp := fun _ => True) ?hr ?hp (fun _ hk => hk) trivial (Below.refl _ _) (Nat.le_refl _) (by simp) ?_; (case hd => rfl); (case hg => rfl); (case hr => first | (go_simp; done) | (go_simp; rfl)); (case hp => exact (Reps.one (show Kd.M (Kd.int .i64) _ _ _ 1 [.int .i64 1] from rfl) (Reps.one (show Kd.M (Kd.int .i64) _ _ _ 1 [.int .i64 1] from rfl) (Reps.one (show Kd.M (Kd.int .i64) _ _ _ 3 [.int .i64 3] from rfl) (Reps.one (show Kd.M (Kd.int .i64) _ _ _ 2 [.int .i64 2] from rfl) (Reps.one (show Kd.M (Kd.int .i64) _ _ _ 5 [.int .i64 5] from rfl) (Reps.one (show Kd.M (Kd.int .i64) _ _ _ 5 [.int .i64 5] from rfl) (Reps.none _ _)))))))); intro v177 w33 ho34 hb hg_ hnew_; clear hg_ hnew_; (first | rw [← Ny176.out] at ho34 | (simp only [Int.reduceToNat] at ho34; rw [← Ny176.out] at ho34)); have n0_ := Aside0.mk (Kd.R_below (lf HO161.out) hb); have n1_ := Aside0.mk (Kd.R_below (lf HO165.out) hb); have n2_ := Aside0.mk (Kd.R_elder' (lf HO168.out) (Kd.R_base ho34) hb); have n3_ := Aside0.mk (Kd.R_below (lf HO171.out) hb); have n4_ := Aside0.mk (Kd.Q_below (by (with_reducible repeat (first | apply Kd.Q_alloc | apply Kd.Q_drewN | apply Kd.Q_drew)); exact HO175.out) hb); have n5_ := Aside0.mk (Kd.R_lower (Kd.R_new' ho34 (Kd.R_lt (lf HO168.out))) (below_size (by repeat (first | (with_reducible first | exact HB.out | apply below_alloc | apply pw_below_drewN | apply below_drew1) | exact HB.out)))); have n6_ := Aside0.mk (below_step (by repeat (first | (with_reducible first | exact HB.out | apply below_alloc | apply pw_below_drewN | apply below_drew1) | exact HB.out)) hb); clear HO161; clear HO165; clear HO168; clear HO171; clear HO175; clear HB; have HO161 := n0_; have HO165 := n1_; have HO168 := n2_; have HO171 := n3_; have HO175 := n4_; have HO178 := n5_; have HB := n6_; clear n0_ n1_ n2_ n3_ n4_ n5_ n6_; clear hb ho34; obtain ⟨Ao35, co35, eo35⟩ := Kd.R_slice HO165.out; subst eo35; obtain ⟨Ao36, co36, eo36⟩ := Kd.R_slice HO178.out; subst eo36) | ((with_reducible refine gate_callee (f := 44) rfl ?_); refine goesL_ (some 23) rfl rfl Try.func44 (by kernel_rfl) rfl #[.slice Ao35 t162.length co35, .int .i64 t163, .slice Ao36 y176.length co36] rfl (by (try simp only [List.map_toArray, List.map_cons, List.map_nil]); first | done | rfl | (simp only [List.length_drop, List.length_take]; rfl)) ?_; (with_reducible refine (tributarylaw07_is.calls k _ _ t162 t163 _ _ y176 true _ ?side1 ?side2 ?side3 ?side4 A8.out).mono ?_); (case side1 => repeat (first | exact (Kd.R_reads' HO165.out).2.2 | (with_reducible refine Kd.C_alloc ?_ _) | (with_reducible refine Kd.C_drewN ?_ _) | (with_reducible refine Kd.C_drew ?_))); (case side2 => exact (Kd.R_reads' HO165.out).2.1); (case side3 => repeat (first | exact (Kd.R_reads' HO178.out).2.2 | (with_reducible refine Kd.C_alloc ?_ _) | (with_reducible refine Kd.C_drewN ?_ _) | (with_reducible refine Kd.C_drew ?_))); (case side4 => exact (Kd.R_reads' HO178.out).2.1); rintro e w37 ⟨rfl, hb⟩; refine ⟨_, rfl, ?_⟩; have n0_ := Aside0.mk (Kd.R_below (lf HO161.out) hb); have n1_ := Aside0.mk (Kd.R_below (lf HO165.out) hb); have n2_ := Aside0.mk (Kd.R_below (lf HO168.out) hb); have n3_ := Aside0.mk (Kd.R_below (lf HO171.out) hb); have n4_ := Aside0.mk (Kd.Q_below (by (with_reducible repeat (first | apply Kd.Q_alloc | apply Kd.Q_drewN | apply Kd.Q_drew)); exact HO175.out) hb); have n5_ := Aside0.mk (Kd.R_below (lf HO178.out) hb); have n6_ := Aside0.mk (below_step (by repeat (first | (with_reducible first | exact HB.out | apply below_alloc | apply pw_below_drewN | apply below_drew1) | exact HB.out)) hb); clear HO161; clear HO165; clear HO168; clear HO171; clear HO175; clear HO178; clear HB; have HO161 := n0_; have HO165 := n1_; have HO168 := n2_; have HO171 := n3_; have HO175 := n4_; have HO178 := n5_; have HB := n6_; clear n0_ n1_ n2_ n3_ n4_ n5_ n6_; (try clear hb); (try clear hb2); (try clear hk); (try clear hi)) | (go_at_call 26; (with_reducible refine (past_Count.calls k _ _ t162 t180 _ ?side1 ?side2 A10.out).mono ?_); (case side1 => repeat (first | exact (Kd.R_reads' HO165.out).2.2 | (with_reducible refine Kd.C_alloc ?_ _) | (with_reducible refine Kd.C_drewN ?_ _) | (with_reducible refine Kd.C_drew ?_))); (case side2 => exact (Kd.R_reads' HO165.out).2.1); rintro e w38 ⟨rfl, hb⟩; have n0_ := Aside0.mk (Kd.R_below (lf HO161.out) hb); have n1_ := Aside0.mk (Kd.R_below (lf HO165.out) hb); have n2_ := Aside0.mk (Kd.R_below (lf HO168.out) hb); have n3_ := Aside0.mk (Kd.R_below (lf HO171.out) hb); have n4_ := Aside0.mk (Kd.Q_below (by (with_reducible repeat (first | apply Kd.Q_alloc | apply Kd.Q_drewN | apply Kd.Q_drew)); exact HO175.out) hb); have n5_ := Aside0.mk (Kd.R_below (lf HO178.out) hb); have n6_ := Aside0.mk (below_step (by repeat (first | (with_reducible first | exact HB.out | apply below_alloc | apply pw_below_drewN | apply below_drew1) | exact HB.out)) hb); clear HO161; clear HO165; clear HO168; clear HO171; clear HO175; clear HO178; clear HB; have HO161 := n0_; have HO165 := n1_; have HO168 := n2_; have HO171 := n3_; have HO175 := n4_; have HO178 := n5_; have HB := n6_; clear n0_ n1_ n2_ n3_ n4_ n5_ n6_; (try clear hb); (try clear hb2); (try clear hk); (try clear hi)) | (go_at_call 28; (with_reducible refine (past_Last.calls k _ _ t162 1 t181 _ ?side1 ?side2 A12.out).mono ?_); (case side1 => repeat (first | exact (Kd.R_reads' HO165.out).2.2 | (with_reducible refine Kd.C_alloc ?_ _) | (with_reducible refine Kd.C_drewN ?_ _) | (with_reducible refine Kd.C_drew ?_))); (case side2 => exact (Kd.R_reads' HO165.out).2.1); rintro e w39 ⟨rfl, hb⟩; have n0_ := Aside0.mk (Kd.R_below (lf HO161.out) hb); have n1_ := Aside0.mk (Kd.R_below (lf HO165.out) hb); have n2_ := Aside0.mk (Kd.R_below (lf HO168.out) hb); have n3_ := Aside0.mk (Kd.R_below (lf HO171.out) hb); have n4_ := Aside0.mk (Kd.Q_below (by (with_reducible repeat (first | apply Kd.Q_alloc | apply Kd.Q_drewN | apply Kd.Q_drew)); exact HO175.out) hb); have n5_ := Aside0.mk (Kd.R_below (lf HO178.out) hb); have n6_ := Aside0.mk (below_step (by repeat (first | (with_reducible first | exact HB.out | apply below_alloc | apply pw_below_drewN | apply below_drew1) | exact HB.out)) hb); clear HO161; clear HO165; clear HO168; clear HO171; clear HO175; clear HO178; clear HB; have HO161 := n0_; have HO165 := n1_; have HO168 := n2_; have HO171 := n3_; have HO175 := n4_; have HO178 := n5_; have HB := n6_; clear n0_ n1_ n2_ n3_ n4_ n5_ n6_; (try clear hb); (try clear hb2); (try clear hk); (try clear hi)) | (go_at_call 42; (with_reducible refine (tributarylaw07_at.calls 1 2 t182 t183 _ A14.out).mono ?_); rintro e w40 ⟨rfl, hb⟩; have n0_ := Aside0.mk (Kd.R_below (lf HO161.out) hb); have n1_ := Aside0.mk (Kd.R_below (lf HO165.out) hb); have n2_ := Aside0.mk (Kd.R_below (lf HO168.out) hb); have n3_ := Aside0.mk (Kd.R_below (lf HO171.out) hb); have n4_ := Aside0.mk (Kd.Q_below (by (with_reducible repeat (first | apply Kd.Q_alloc | apply Kd.Q_drewN | apply Kd.Q_drew)); exact HO175.out) hb); have n5_ := Aside0.mk (Kd.R_below (lf HO178.out) hb); have n6_ := Aside0.mk (below_step (by repeat (first | (with_reducible first | exact HB.out | apply below_alloc | apply pw_below_drewN | apply below_drew1) | exact HB.out)) hb); clear HO161; clear HO165; clear HO168; clear HO171; clear HO175; clear HO178; clear HB; have HO161 := n0_; have HO165 := n1_; have HO168 := n2_; have HO171 := n3_; have HO175 := n4_; have HO178 := n5_; have HB := n6_; clear n0_ n1_ n2_ n3_ n4_ n5_ n6_; (try clear hb); (try clear hb2); (try clear hk); (try clear hi)) | (go_at_call 24; (with_reducible refine (past_Has.calls k _ _ t162 t182 t183 true _ ?side1 ?side2 A15.out).mono ?_); (case side1 => repeat (first | exact (Kd.R_reads' HO165.out).2.2 | (with_reducible refine Kd.C_alloc ?_ _) | (with_reducible refine Kd.C_drewN ?_ _) | (with_reducible refine Kd.C_drew ?_))); (case side2 => exact (Kd.R_reads' HO165.out).2.1); rintro e w41 ⟨rfl, hb⟩; have n0_ := Aside0.mk (Kd.R_below (lf HO161.out) hb); have n1_ := Aside0.mk (Kd.R_below (lf HO165.out) hb); have n2_ := Aside0.mk (Kd.R_below (lf HO168.out) hb); have n3_ := Aside0.mk (Kd.R_below (lf HO171.out) hb); have n4_ := Aside0.mk (Kd.Q_below (by (with_reducible repeat (first | apply Kd.Q_alloc | apply Kd.Q_drewN | apply Kd.Q_drew)); exact HO175.out) hb); have n5_ := Aside0.mk (Kd.R_below (lf HO178.out) hb); have n6_ := Aside0.mk (below_step (by repeat (first | (with_reducible first | exact HB.out | apply below_alloc | apply pw_below_drewN | apply below_drew1) | exact HB.out)) hb); clear HO161; clear HO165; clear HO168; clear HO171; clear HO175; clear HO178; clear HB; have HO161 := n0_; have HO165 := n1_; have HO168 := n2_; have HO171 := n3_; have HO175 := n4_; have HO178 := n5_; have HB := n6_; clear n0_ n1_ n2_ n3_ n4_ n5_ n6_; (try clear hb); (try clear hb2); (try clear hk); (try clear hi)) | ((with_reducible refine gate_dst (N := 45) rfl ?_); (try (refine gate_guard (by rfl) ?_; dsimp only)); refine Kd.R_lit (Kd.int .u8) _ 5 ?hg (N := 45) ?hd (xs := ([0, 1, 1, 0, 0, 0, 1, 0, 0, 1, 2] : List Int)) (inner := [.int .u8 0, .int .u8 1, .int .u8 1, .int .u8 0, .int .u8 0, .int .u8 0, .int .u8 1, .int .u8 0, .int .u8 0, .int .u8 1, .int .u8 2]) (ok := fun _ => True) (okp := fun _ => True) ?hr ?hp (fun _ hk => hk) trivial (Below.refl _ _) (Nat.le_refl _) (by simp) ?_; (case hd => rfl); (case hg => rfl); (case hr => first | (go_simp; done) | (go_simp; rfl)); (case hp => exact (Reps.one (show Kd.M (Kd.int .u8) _ _ _ 0 [.int .u8 0] from rfl) (Reps.one (show Kd.M (Kd.int .u8) _ _ _ 1 [.int .u8 1] from rfl) (Reps.one (show Kd.M (Kd.int .u8) _ _ _ 1 [.int .u8 1] from rfl) (Reps.one (show Kd.M (Kd.int .u8) _ _ _ 0 [.int .u8 0] from rfl) (Reps.one (show Kd.M (Kd.int .u8) _ _ _ 0 [.int .u8 0] from rfl) (Reps.one (show Kd.M (Kd.int .u8) _ _ _ 0 [.int .u8 0] from rfl) (Reps.one (show Kd.M (Kd.int .u8) _ _ _ 1 [.int .u8 1] from rfl) (Reps.one (show Kd.M (Kd.int .u8) _ _ _ 0 [.int .u8 0] from rfl) (Reps.one (show Kd.M (Kd.int .u8) _ _ _ 0 [.int .u8 0] from rfl) (Reps.one (show Kd.M (Kd.int .u8) _ _ _ 1 [.int .u8 1] from rfl) (Reps.one (show Kd.M (Kd.int .u8) _ _ _ 2 [.int .u8 2] from rfl) (Reps.none _ _))))))))))))); intro v186 w42 ho43 hb hg_ hnew_; clear hg_ hnew_; (first | rw [← Ny185.out] at ho43 | (simp only [Int.reduceToNat] at ho43; rw [← Ny185.out] at ho43)); have n0_ := Aside0.mk (Kd.R_below (lf HO161.out) hb); have n1_ := Aside0.mk (Kd.R_below (lf HO165.out) hb); have n2_ := Aside0.mk (Kd.R_below (lf HO168.out) hb); have n3_ := Aside0.mk (Kd.R_below (lf HO171.out) hb); have n4_ := Aside0.mk (Kd.Q_elder' (by (with_reducible repeat (first | apply Kd.Q_alloc | apply Kd.Q_drewN | apply Kd.Q_drew)); exact HO175.out) (Kd.R_base ho43) hb); have n5_ := Aside0.mk (Kd.R_below (lf HO178.out) hb); have n6_ := Aside0.mk (Kd.R_lower (Kd.R_new' ho43 (Kd.Q_lt (by (with_reducible repeat (first | apply Kd.Q_alloc | apply Kd.Q_drewN | apply Kd.Q_drew)); exact HO175.out))) (below_size (by repeat (first | (with_reducible first | exact HB.out | apply below_alloc | apply pw_below_drewN | apply below_drew1) | exact HB.out)))); have n7_ := Aside0.mk (below_step (by repeat (first | (with_reducible first | exact HB.out | apply below_alloc | apply pw_below_drewN | apply below_drew1) | exact HB.out)) hb); clear HO161; clear HO165; clear HO168; clear HO171; clear HO175; clear HO178; clear HB; have HO161 := n0_; have HO165 := n1_; have HO168 := n2_; have HO171 := n3_; have HO175 := n4_; have HO178 := n5_; have HO187 := n6_; have HB := n7_; clear n0_ n1_ n2_ n3_ n4_ n5_ n6_ n7_; clear hb ho43; obtain ⟨Ao44, co44, eo44, _⟩ := Kd.Q_slice HO175.out; subst eo44; obtain ⟨Ao45, co45, eo45⟩ := Kd.R_slice HO187.out; subst eo45) | (go_at_call 17; (with_reducible refine (tributarykit_SameBytes.calls _ _ t172 _ _ y185 t188 _ ?side1 ?side2 ?side3 ?side4 A18.out).mono ?_); (case side1 => repeat (first | exact (Kd.Q_reads' HO175.out).2.2 | (with_reducible refine Kd.C_alloc ?_ _) | (with_reducible refine Kd.C_drewN ?_ _) | (with_reducible refine Kd.C_drew ?_))); (case side2 => exact (Kd.Q_reads' HO175.out).2.1); (case side3 => repeat (first | exact (Kd.R_reads' HO187.out).2.2 | (with_reducible refine Kd.C_alloc ?_ _) | (with_reducible refine Kd.C_drewN ?_ _) | (with_reducible refine Kd.C_drew ?_))); (case side4 => exact (Kd.R_reads' HO187.out).2.1); rintro e w' ⟨rfl, ⟨nd, rfl⟩⟩))
            go_ret
            exact ⟨by first | rfl | (simp [errW_none, errW_some] <;> rfl) | (simp [*, errW_none, errW_some] <;> rfl), by repeat (first | (with_reducible first | exact HB.out | apply below_alloc | apply pw_below_drewN | apply below_drew1) | exact HB.out)⟩
          · rw [if_neg c17] at H
            have c17b0 : (t173 == 0) = false := beq_eq_false_iff_ne.mpr c17
            have c17b1 : (t173 != 0) = true := bne_iff_ne.mpr c17
            obtain rfl := Option.some.inj H
            go_enter Try.func10, Try.ntmps10
            go_wp2_with (first | ((with_reducible refine gate_callee (f := 42) rfl ?_); refine goesL_ (some 6) rfl rfl Try.func42 (by kernel_rfl) rfl #[.int .i64 1, .int .i64 3] rfl (by (try simp only [List.map_toArray, List.map_cons, List.map_nil]); first | done | rfl | (simp only [List.length_drop, List.length_take]; rfl)) ?_; (with_reducible refine (tributarylaw07_at.calls 1 3 t151 t152 _ A1.out).mono ?_); rintro e w46 ⟨rfl, hb⟩; refine ⟨_, rfl, ?_⟩; have n0_ := Aside0.mk (below_step (by repeat (first | (with_reducible first | exact HB.out | apply below_alloc | apply pw_below_drewN | apply below_drew1) | exact HB.out)) hb); clear HB; have HB := n0_; clear n0_; (try clear hb); (try clear hb2); (try clear hk); (try clear hi)) | ((with_reducible refine gate_callee (f := 42) rfl ?_); refine goesL_ (some 7) rfl rfl Try.func42 (by kernel_rfl) rfl #[.int .i64 1, .int .i64 1] rfl (by (try simp only [List.map_toArray, List.map_cons, List.map_nil]); first | done | rfl | (simp only [List.length_drop, List.length_take]; rfl)) ?_; (with_reducible refine (tributarylaw07_at.calls 1 1 t153 t154 _ A2.out).mono ?_); rintro e w47 ⟨rfl, hb⟩; refine ⟨_, rfl, ?_⟩; have n0_ := Aside0.mk (below_step (by repeat (first | (with_reducible first | exact HB.out | apply below_alloc | apply pw_below_drewN | apply below_drew1) | exact HB.out)) hb); clear HB; have HB := n0_; clear n0_; (try clear hb); (try clear hb2); (try clear hk); (try clear hi)) | ((with_reducible refine gate_callee (f := 42) rfl ?_); refine goesL_ (some 8) rfl rfl Try.func42 (by kernel_rfl) rfl #[.int .i64 1, .int .i64 2] rfl (by (try simp only [List.map_toArray, List.map_cons, List.map_nil]); first | done | rfl | (simp only [List.length_drop, List.length_take]; rfl)) ?_; (with_reducible refine (tributarylaw07_at.calls 1 2 t155 t156 _ A3.out).mono ?_); rintro e w48 ⟨rfl, hb⟩; refine ⟨_, rfl, ?_⟩; have n0_ := Aside0.mk (below_step (by repeat (first | (with_reducible first | exact HB.out | apply below_alloc | apply pw_below_drewN | apply below_drew1) | exact HB.out)) hb); clear HB; have HB := n0_; clear n0_; (try clear hb); (try clear hb2); (try clear hk); (try clear hi)) | ((with_reducible refine gate_callee (f := 42) rfl ?_); refine goesL_ (some 9) rfl rfl Try.func42 (by kernel_rfl) rfl #[.int .i64 2, .int .i64 5] rfl (by (try simp only [List.map_toArray, List.map_cons, List.map_nil]); first | done | rfl | (simp only [List.length_drop, List.length_take]; rfl)) ?_; (with_reducible refine (tributarylaw07_at.calls 2 5 t157 t158 _ A4.out).mono ?_); rintro e w49 ⟨rfl, hb⟩; refine ⟨_, rfl, ?_⟩; have n0_ := Aside0.mk (below_step (by repeat (first | (with_reducible first | exact HB.out | apply below_alloc | apply pw_below_drewN | apply below_drew1) | exact HB.out)) hb); clear HB; have HB := n0_; clear n0_; (try clear hb); (try clear hb2); (try clear hk); (try clear hi)) | ((with_reducible refine gate_dst (N := 10) rfl ?_); (try (refine gate_guard (by rfl) ?_; dsimp only)); refine Kd.R_lit k41 _ 41 ?hg (N := 10) ?hd (xs := ([(⟨t151, t152⟩ : S41), (⟨t153, t154⟩ : S41), (⟨t155, t156⟩ : S41), (⟨t157, t158⟩ : S41)] : List (S41))) (inner := [.int .i64 t151, .int .i64 t152, .int .i64 t153, .int .i64 t154, .int .i64 t155, .int .i64 t156, .int .i64 t157, .int .i64 t158]) (ok := fun _ => True) (okp := fun _ => True) ?hr ?hp (fun _ hk => hk) trivial (Below.refl _ _) (Nat.le_refl _) (by simp) ?_; (case hd => rfl); (case hg => rfl); (case hr => first | (go_simp; done) | (go_simp; rfl)); (case hp => exact (Reps.c2 (show Kd.M k41 _ _ _ (⟨t151, t152⟩ : S41) [.int .i64 t151, .int .i64 t152] from (k41_mkM _ _ _ (⟨t151, t152⟩ : S41) )) (Reps.c2 (show Kd.M k41 _ _ _ (⟨t153, t154⟩ : S41) [.int .i64 t153, .int .i64 t154] from (k41_mkM _ _ _ (⟨t153, t154⟩ : S41) )) (Reps.c2 (show Kd.M k41 _ _ _ (⟨t155, t156⟩ : S41) [.int .i64 t155, .int .i64 t156] from (k41_mkM _ _ _ (⟨t155, t156⟩ : S41) )) (Reps.c2 (show Kd.M k41 _ _ _ (⟨t157, t158⟩ : S41) [.int .i64 t157, .int .i64 t158] from (k41_mkM _ _ _ (⟨t157, t158⟩ : S41) )) (Reps.none _ _)))))); intro v160 w50 ho51 hb hg_ hnew_; clear hg_ hnew_; (first | rw [← Ny159.out] at ho51 | (simp only [Int.reduceToNat] at ho51; rw [← Ny159.out] at ho51)); have n0_ := Aside0.mk (Kd.R_lower ho51 (below_size (by repeat (first | (with_reducible first | exact HB.out | apply below_alloc | apply pw_below_drewN | apply below_drew1) | exact HB.out)))); have n1_ := Aside0.mk (below_step (by repeat (first | (with_reducible first | exact HB.out | apply below_alloc | apply pw_below_drewN | apply below_drew1) | exact HB.out)) hb); clear HB; have HO161 := n0_; have HB := n1_; clear n0_ n1_; clear hb ho51; obtain ⟨Ao52, co52, eo52⟩ := Kd.R_slice HO161.out; subst eo52) | ((with_reducible refine gate_callee (f := 31) rfl ?_); refine goesL_ (some 11) rfl rfl Try.func31 (by kernel_rfl) rfl #[.slice Ao52 y159.length co52] rfl (by (try simp only [List.map_toArray, List.map_cons, List.map_nil]); first | done | rfl | (simp only [List.length_drop, List.length_take]; rfl)) ?_; (with_reducible refine (past_Of.calls _ _ y159 t162 t163 _ ?side1 ?side2 A5.out).mono ?_); (case side1 => repeat (first | exact (Kd.R_reads' HO161.out).2.2 | (with_reducible refine Kd.C_alloc ?_ _) | (with_reducible refine Kd.C_drewN ?_ _) | (with_reducible refine Kd.C_drew ?_))); (case side2 => exact (Kd.R_reads' HO161.out).2.1); rintro e w53 ⟨v164, rfl, ho0, hb⟩; refine ⟨_, rfl, ?_⟩; have n0_ := Aside0.mk (Kd.R_below (lf HO161.out) hb); have n1_ := Aside0.mk (Kd.R_lower ho0 (below_size (by repeat (first | (with_reducible first | exact HB.out | apply below_alloc | apply pw_below_drewN | apply below_drew1) | exact HB.out)))); have n2_ := Aside0.mk (below_step (by repeat (first | (with_reducible first | exact HB.out | apply below_alloc | apply pw_below_drewN | apply below_drew1) | exact HB.out)) hb); clear HO161; clear HB; have HO161 := n0_; have HO165 := n1_; have HB := n2_; clear n0_ n1_ n2_; (try clear hb); (try clear hb2); (try clear hk); (try clear hi); (try clear ho0)) | ((with_reducible refine gate_dst (N := 15) rfl ?_); (try (refine gate_guard (by rfl) ?_; dsimp only)); refine Kd.R_lit (Kd.int .i64) _ 3 ?hg (N := 15) ?hd (xs := ([1, 1, 258] : List Int)) (inner := [.int .i64 1, .int .i64 1, .int .i64 258]) (ok := fun _ => True) (okp := fun _ => True) ?hr ?hp (fun _ hk => hk) trivial (Below.refl _ _) (Nat.le_refl _) (by simp) ?_; (case hd => rfl); (case hg => rfl); (case hr => first | (go_simp; done) | (go_simp; rfl)); (case hp => exact (Reps.one (show Kd.M (Kd.int .i64) _ _ _ 1 [.int .i64 1] from rfl) (Reps.one (show Kd.M (Kd.int .i64) _ _ _ 1 [.int .i64 1] from rfl) (Reps.one (show Kd.M (Kd.int .i64) _ _ _ 258 [.int .i64 258] from rfl) (Reps.none _ _))))); intro v167 w54 ho55 hb hg_ hnew_; clear hg_ hnew_; (first | rw [← Ny166.out] at ho55 | (simp only [Int.reduceToNat] at ho55; rw [← Ny166.out] at ho55)); have n0_ := Aside0.mk (Kd.R_below (lf HO161.out) hb); have n1_ := Aside0.mk (Kd.R_below (lf HO165.out) hb); have n2_ := Aside0.mk (Kd.R_lower ho55 (below_size (by repeat (first | (with_reducible first | exact HB.out | apply below_alloc | apply pw_below_drewN | apply below_drew1) | exact HB.out)))); have n3_ := Aside0.mk (below_step (by repeat (first | (with_reducible first | exact HB.out | apply below_alloc | apply pw_below_drewN | apply below_drew1) | exact HB.out)) hb); clear HO161; clear HO165; clear HB; have HO161 := n0_; have HO165 := n1_; have HO168 := n2_; have HB := n3_; clear n0_ n1_ n2_ n3_; clear hb ho55; obtain ⟨Ao56, co56, eo56⟩ := Kd.R_slice HO168.out; subst eo56) | ((with_reducible refine gate_callee (f := 43) rfl ?_); refine goesL_ (some 16) rfl rfl Try.func43 (by kernel_rfl) rfl #[.slice Ao56 y166.length co56] rfl (by (try simp only [List.map_toArray, List.map_cons, List.map_nil]); first | done | rfl | (simp only [List.length_drop, List.length_take]; rfl)) ?_; (with_reducible refine (tributarylaw07_of.calls k _ _ y166 t169 _ ?side1 ?side2 A6.out).mono ?_); (case side1 => repeat (first | exact (Kd.R_reads' HO168.out).2.2 | (with_reducible refine Kd.C_alloc ?_ _) | (with_reducible refine Kd.C_drewN ?_ _) | (with_reducible refine Kd.C_drew ?_))); (case side2 => exact (Kd.R_reads' HO168.out).2.1); rintro e w57 ⟨v170, rfl, ho0, hb⟩; refine ⟨_, rfl, ?_⟩; have n0_ := Aside0.mk (Kd.R_below (lf HO161.out) hb); have n1_ := Aside0.mk (Kd.R_elder' (lf HO165.out) (Kd.R_base ho0) hb); have n2_ := Aside0.mk (Kd.R_below (lf HO168.out) hb); have n3_ := Aside0.mk (Kd.R_lower (Kd.R_new' ho0 (Kd.R_lt (lf HO165.out))) (below_size (by repeat (first | (with_reducible first | exact HB.out | apply below_alloc | apply pw_below_drewN | apply below_drew1) | exact HB.out)))); have n4_ := Aside0.mk (below_step (by repeat (first | (with_reducible first | exact HB.out | apply below_alloc | apply pw_below_drewN | apply below_drew1) | exact HB.out)) hb); clear HO161; clear HO165; clear HO168; clear HB; have HO161 := n0_; have HO165 := n1_; have HO168 := n2_; have HO171 := n3_; have HB := n4_; clear n0_ n1_ n2_ n3_ n4_; (try clear hb); (try clear hb2); (try clear hk); (try clear hi); (try clear ho0); obtain ⟨Ao58, co58, eo58⟩ := Kd.R_slice HO171.out; subst eo58) | ((with_reducible refine gate_callee (f := 13) rfl ?_); refine goesL_ (some 17) rfl rfl Try.func13 (by kernel_rfl) rfl #[.slice Ao58 t169.length co58] rfl (by (try simp only [List.map_toArray, List.map_cons, List.map_nil]); first | done | rfl | (simp only [List.length_drop, List.length_take]; rfl)) ?_; (with_reducible refine (past_Bytes.calls k _ _ t169 t172 t173 _ ?side1 ?side2 A7.out).mono ?_); (case side1 => repeat (first | exact (Kd.R_reads' HO171.out).2.2 | (with_reducible refine Kd.C_alloc ?_ _) | (with_reducible refine Kd.C_drewN ?_ _) | (with_reducible refine Kd.C_drew ?_))); (case side2 => exact (Kd.R_reads' HO171.out).2.1); rintro e w59 ⟨v174, rfl, ho0, hb⟩; refine ⟨_, rfl, ?_⟩; have n0_ := Aside0.mk (Kd.R_below (lf HO161.out) hb); have n1_ := Aside0.mk (Kd.R_below (lf HO165.out) hb); have n2_ := Aside0.mk (Kd.R_below (lf HO168.out) hb); have n3_ := Aside0.mk (Kd.R_below (lf HO171.out) hb); have n4_ := Aside0.mk (Kd.Q_lower ho0 (below_size (by repeat (first | (with_reducible first | exact HB.out | apply below_alloc | apply pw_below_drewN | apply below_drew1) | exact HB.out)))); have n5_ := Aside0.mk (below_step (by repeat (first | (with_reducible first | exact HB.out | apply below_alloc | apply pw_below_drewN | apply below_drew1) | exact HB.out)) hb); clear HO161; clear HO165; clear HO168; clear HO171; clear HB; have HO161 := n0_; have HO165 := n1_; have HO168 := n2_; have HO171 := n3_; have HO175 := n4_; have HB := n5_; clear n0_ n1_ n2_ n3_ n4_ n5_; (try clear hb); (try clear hb2); (try clear hk); (try clear hi); (try clear ho0)) | ((with_reducible refine gate_dst (N := 22) rfl ?_); (try (refine gate_guard (by rfl) ?_; dsimp only)); refine Kd.R_lit (Kd.int .i64) _ 3 ?hg (N := 22) ?hd (xs := ([1, 1, 3, 2, 5, 5] : List Int)) (inner := [.int .i64 1, .int .i64 1, .int .i64 3, .int .i64 2, .int .i64 5, .int .i64 5]) (ok := fun _ => True) (okp := fun _ => True) ?hr ?hp (fun _ hk => hk) trivial (Below.refl _ _) (Nat.le_refl _) (by simp) ?_; (case hd => rfl); (case hg => rfl); (case hr => first | (go_simp; done) | (go_simp; rfl)); (case hp => exact (Reps.one (show Kd.M (Kd.int .i64) _ _ _ 1 [.int .i64 1] from rfl) (Reps.one (show Kd.M (Kd.int .i64) _ _ _ 1 [.int .i64 1] from rfl) (Reps.one (show Kd.M (Kd.int .i64) _ _ _ 3 [.int .i64 3] from rfl) (Reps.one (show Kd.M (Kd.int .i64) _ _ _ 2 [.int .i64 2] from rfl) (Reps.one (show Kd.M (Kd.int .i64) _ _ _ 5 [.int .i64 5] from rfl) (Reps.one (show Kd.M (Kd.int .i64) _ _ _ 5 [.int .i64 5] from rfl) (Reps.none _ _)))))))); intro v177 w60 ho61 hb hg_ hnew_; clear hg_ hnew_; (first | rw [← Ny176.out] at ho61 | (simp only [Int.reduceToNat] at ho61; rw [← Ny176.out] at ho61)); have n0_ := Aside0.mk (Kd.R_below (lf HO161.out) hb); have n1_ := Aside0.mk (Kd.R_below (lf HO165.out) hb); have n2_ := Aside0.mk (Kd.R_elder' (lf HO168.out) (Kd.R_base ho61) hb); have n3_ := Aside0.mk (Kd.R_below (lf HO171.out) hb); have n4_ := Aside0.mk (Kd.Q_below (by (with_reducible repeat (first | apply Kd.Q_alloc | apply Kd.Q_drewN | apply Kd.Q_drew)); exact HO175.out) hb); have n5_ := Aside0.mk (Kd.R_lower (Kd.R_new' ho61 (Kd.R_lt (lf HO168.out))) (below_size (by repeat (first | (with_reducible first | exact HB.out | apply below_alloc | apply pw_below_drewN | apply below_drew1) | exact HB.out)))); have n6_ := Aside0.mk (below_step (by repeat (first | (with_reducible first | exact HB.out | apply below_alloc | apply pw_below_drewN | apply below_drew1) | exact HB.out)) hb); clear HO161; clear HO165; clear HO168; clear HO171; clear HO175; clear HB; have HO161 := n0_; have HO165 := n1_; have HO168 := n2_; have HO171 := n3_; have HO175 := n4_; have HO178 := n5_; have HB := n6_; clear n0_ n1_ n2_ n3_ n4_ n5_ n6_; clear hb ho61; obtain ⟨Ao62, co62, eo62⟩ := Kd.R_slice HO165.out; subst eo62; obtain ⟨Ao63, co63, eo63⟩ := Kd.R_slice HO178.out; subst eo63) | ((with_reducible refine gate_callee (f := 44) rfl ?_); refine goesL_ (some 23) rfl rfl Try.func44 (by kernel_rfl) rfl #[.slice Ao62 t162.length co62, .int .i64 t163, .slice Ao63 y176.length co63] rfl (by (try simp only [List.map_toArray, List.map_cons, List.map_nil]); first | done | rfl | (simp only [List.length_drop, List.length_take]; rfl)) ?_; (with_reducible refine (tributarylaw07_is.calls k _ _ t162 t163 _ _ y176 true _ ?side1 ?side2 ?side3 ?side4 A8.out).mono ?_); (case side1 => repeat (first | exact (Kd.R_reads' HO165.out).2.2 | (with_reducible refine Kd.C_alloc ?_ _) | (with_reducible refine Kd.C_drewN ?_ _) | (with_reducible refine Kd.C_drew ?_))); (case side2 => exact (Kd.R_reads' HO165.out).2.1); (case side3 => repeat (first | exact (Kd.R_reads' HO178.out).2.2 | (with_reducible refine Kd.C_alloc ?_ _) | (with_reducible refine Kd.C_drewN ?_ _) | (with_reducible refine Kd.C_drew ?_))); (case side4 => exact (Kd.R_reads' HO178.out).2.1); rintro e w64 ⟨rfl, hb⟩; refine ⟨_, rfl, ?_⟩; have n0_ := Aside0.mk (Kd.R_below (lf HO161.out) hb); have n1_ := Aside0.mk (Kd.R_below (lf HO165.out) hb); have n2_ := Aside0.mk (Kd.R_below (lf HO168.out) hb); have n3_ := Aside0.mk (Kd.R_below (lf HO171.out) hb); have n4_ := Aside0.mk (Kd.Q_below (by (with_reducible repeat (first | apply Kd.Q_alloc | apply Kd.Q_drewN | apply Kd.Q_drew)); exact HO175.out) hb); have n5_ := Aside0.mk (Kd.R_below (lf HO178.out) hb); have n6_ := Aside0.mk (below_step (by repeat (first | (with_reducible first | exact HB.out | apply below_alloc | apply pw_below_drewN | apply below_drew1) | exact HB.out)) hb); clear HO161; clear HO165; clear HO168; clear HO171; clear HO175; clear HO178; clear HB; have HO161 := n0_; have HO165 := n1_; have HO168 := n2_; have HO171 := n3_; have HO175 := n4_; have HO178 := n5_; have HB := n6_; clear n0_ n1_ n2_ n3_ n4_ n5_ n6_; (try clear hb); (try clear hb2); (try clear hk); (try clear hi)) | (go_at_call 26; (with_reducible refine (past_Count.calls k _ _ t162 t180 _ ?side1 ?side2 A10.out).mono ?_); (case side1 => repeat (first | exact (Kd.R_reads' HO165.out).2.2 | (with_reducible refine Kd.C_alloc ?_ _) | (with_reducible refine Kd.C_drewN ?_ _) | (with_reducible refine Kd.C_drew ?_))); (case side2 => exact (Kd.R_reads' HO165.out).2.1); rintro e w65 ⟨rfl, hb⟩; have n0_ := Aside0.mk (Kd.R_below (lf HO161.out) hb); have n1_ := Aside0.mk (Kd.R_below (lf HO165.out) hb); have n2_ := Aside0.mk (Kd.R_below (lf HO168.out) hb); have n3_ := Aside0.mk (Kd.R_below (lf HO171.out) hb); have n4_ := Aside0.mk (Kd.Q_below (by (with_reducible repeat (first | apply Kd.Q_alloc | apply Kd.Q_drewN | apply Kd.Q_drew)); exact HO175.out) hb); have n5_ := Aside0.mk (Kd.R_below (lf HO178.out) hb); have n6_ := Aside0.mk (below_step (by repeat (first | (with_reducible first | exact HB.out | apply below_alloc | apply pw_below_drewN | apply below_drew1) | exact HB.out)) hb); clear HO161; clear HO165; clear HO168; clear HO171; clear HO175; clear HO178; clear HB; have HO161 := n0_; have HO165 := n1_; have HO168 := n2_; have HO171 := n3_; have HO175 := n4_; have HO178 := n5_; have HB := n6_; clear n0_ n1_ n2_ n3_ n4_ n5_ n6_; (try clear hb); (try clear hb2); (try clear hk); (try clear hi)) | (go_at_call 28; (with_reducible refine (past_Last.calls k _ _ t162 1 t181 _ ?side1 ?side2 A12.out).mono ?_); (case side1 => repeat (first | exact (Kd.R_reads' HO165.out).2.2 | (with_reducible refine Kd.C_alloc ?_ _) | (with_reducible refine Kd.C_drewN ?_ _) | (with_reducible refine Kd.C_drew ?_))); (case side2 => exact (Kd.R_reads' HO165.out).2.1); rintro e w66 ⟨rfl, hb⟩; have n0_ := Aside0.mk (Kd.R_below (lf HO161.out) hb); have n1_ := Aside0.mk (Kd.R_below (lf HO165.out) hb); have n2_ := Aside0.mk (Kd.R_below (lf HO168.out) hb); have n3_ := Aside0.mk (Kd.R_below (lf HO171.out) hb); have n4_ := Aside0.mk (Kd.Q_below (by (with_reducible repeat (first | apply Kd.Q_alloc | apply Kd.Q_drewN | apply Kd.Q_drew)); exact HO175.out) hb); have n5_ := Aside0.mk (Kd.R_below (lf HO178.out) hb); have n6_ := Aside0.mk (below_step (by repeat (first | (with_reducible first | exact HB.out | apply below_alloc | apply pw_below_drewN | apply below_drew1) | exact HB.out)) hb); clear HO161; clear HO165; clear HO168; clear HO171; clear HO175; clear HO178; clear HB; have HO161 := n0_; have HO165 := n1_; have HO168 := n2_; have HO171 := n3_; have HO175 := n4_; have HO178 := n5_; have HB := n6_; clear n0_ n1_ n2_ n3_ n4_ n5_ n6_; (try clear hb); (try clear hb2); (try clear hk); (try clear hi)) | (go_at_call 42; (with_reducible refine (tributarylaw07_at.calls 1 2 t182 t183 _ A14.out).mono ?_); rintro e w67 ⟨rfl, hb⟩; have n0_ := Aside0.mk (Kd.R_below (lf HO161.out) hb); have n1_ := Aside0.mk (Kd.R_below (lf HO165.out) hb); have n2_ := Aside0.mk (Kd.R_below (lf HO168.out) hb); have n3_ := Aside0.mk (Kd.R_below (lf HO171.out) hb); have n4_ := Aside0.mk (Kd.Q_below (by (with_reducible repeat (first | apply Kd.Q_alloc | apply Kd.Q_drewN | apply Kd.Q_drew)); exact HO175.out) hb); have n5_ := Aside0.mk (Kd.R_below (lf HO178.out) hb); have n6_ := Aside0.mk (below_step (by repeat (first | (with_reducible first | exact HB.out | apply below_alloc | apply pw_below_drewN | apply below_drew1) | exact HB.out)) hb); clear HO161; clear HO165; clear HO168; clear HO171; clear HO175; clear HO178; clear HB; have HO161 := n0_; have HO165 := n1_; have HO168 := n2_; have HO171 := n3_; have HO175 := n4_; have HO178 := n5_; have HB := n6_; clear n0_ n1_ n2_ n3_ n4_ n5_ n6_; (try clear hb); (try clear hb2); (try clear hk); (try clear hi)) | (go_at_call 24; (with_reducible refine (past_Has.calls k _ _ t162 t182 t183 true _ ?side1 ?side2 A15.out).mono ?_); (case side1 => repeat (first | exact (Kd.R_reads' HO165.out).2.2 | (with_reducible refine Kd.C_alloc ?_ _) | (with_reducible refine Kd.C_drewN ?_ _) | (with_reducible refine Kd.C_drew ?_))); (case side2 => exact (Kd.R_reads' HO165.out).2.1); rintro e w68 ⟨rfl, hb⟩; have n0_ := Aside0.mk (Kd.R_below (lf HO161.out) hb); have n1_ := Aside0.mk (Kd.R_below (lf HO165.out) hb); have n2_ := Aside0.mk (Kd.R_below (lf HO168.out) hb); have n3_ := Aside0.mk (Kd.R_below (lf HO171.out) hb); have n4_ := Aside0.mk (Kd.Q_below (by (with_reducible repeat (first | apply Kd.Q_alloc | apply Kd.Q_drewN | apply Kd.Q_drew)); exact HO175.out) hb); have n5_ := Aside0.mk (Kd.R_below (lf HO178.out) hb); have n6_ := Aside0.mk (below_step (by repeat (first | (with_reducible first | exact HB.out | apply below_alloc | apply pw_below_drewN | apply below_drew1) | exact HB.out)) hb); clear HO161; clear HO165; clear HO168; clear HO171; clear HO175; clear HO178; clear HB; have HO161 := n0_; have HO165 := n1_; have HO168 := n2_; have HO171 := n3_; have HO175 := n4_; have HO178 := n5_; have HB := n6_; clear n0_ n1_ n2_ n3_ n4_ n5_ n6_; (try clear hb); (try clear hb2); (try clear hk); (try clear hi)))
            go_ret
            exact ⟨by first | rfl | (simp [errW_none, errW_some] <;> rfl) | (simp [*, errW_none, errW_some] <;> rfl), by repeat (first | (with_reducible first | exact HB.out | apply below_alloc | apply pw_below_drewN | apply below_drew1) | exact HB.out)⟩
        · replace c16 := Bool.eq_false_iff.mpr c16
          subst c16
          have H1 : (some false) = some r := by rw [if_neg (show ¬ (false = true) by decide)] at H; exact H
          clear H
          have H := H1
          clear H1
          obtain rfl := Option.some.inj H
          go_enter Try.func10, Try.ntmps10
          go_wp2_with (first | ((with_reducible refine gate_callee (f := 42) rfl ?_); refine goesL_ (some 6) rfl rfl Try.func42 (by kernel_rfl) rfl #[.int .i64 1, .int .i64 3] rfl (by (try simp only [List.map_toArray, List.map_cons, List.map_nil]); first | done | rfl | (simp only [List.length_drop, List.length_take]; rfl)) ?_; (with_reducible refine (tributarylaw07_at.calls 1 3 t151 t152 _ A1.out).mono ?_); rintro e w69 ⟨rfl, hb⟩; refine ⟨_, rfl, ?_⟩; have n0_ := Aside0.mk (below_step (by repeat (first | (with_reducible first | exact HB.out | apply below_alloc | apply pw_below_drewN | apply below_drew1) | exact HB.out)) hb); clear HB; have HB := n0_; clear n0_; (try clear hb); (try clear hb2); (try clear hk); (try clear hi)) | ((with_reducible refine gate_callee (f := 42) rfl ?_); refine goesL_ (some 7) rfl rfl Try.func42 (by kernel_rfl) rfl #[.int .i64 1, .int .i64 1] rfl (by (try simp only [List.map_toArray, List.map_cons, List.map_nil]); first | done | rfl | (simp only [List.length_drop, List.length_take]; rfl)) ?_; (with_reducible refine (tributarylaw07_at.calls 1 1 t153 t154 _ A2.out).mono ?_); rintro e w70 ⟨rfl, hb⟩; refine ⟨_, rfl, ?_⟩; have n0_ := Aside0.mk (below_step (by repeat (first | (with_reducible first | exact HB.out | apply below_alloc | apply pw_below_drewN | apply below_drew1) | exact HB.out)) hb); clear HB; have HB := n0_; clear n0_; (try clear hb); (try clear hb2); (try clear hk); (try clear hi)) | ((with_reducible refine gate_callee (f := 42) rfl ?_); refine goesL_ (some 8) rfl rfl Try.func42 (by kernel_rfl) rfl #[.int .i64 1, .int .i64 2] rfl (by (try simp only [List.map_toArray, List.map_cons, List.map_nil]); first | done | rfl | (simp only [List.length_drop, List.length_take]; rfl)) ?_; (with_reducible refine (tributarylaw07_at.calls 1 2 t155 t156 _ A3.out).mono ?_); rintro e w71 ⟨rfl, hb⟩; refine ⟨_, rfl, ?_⟩; have n0_ := Aside0.mk (below_step (by repeat (first | (with_reducible first | exact HB.out | apply below_alloc | apply pw_below_drewN | apply below_drew1) | exact HB.out)) hb); clear HB; have HB := n0_; clear n0_; (try clear hb); (try clear hb2); (try clear hk); (try clear hi)) | ((with_reducible refine gate_callee (f := 42) rfl ?_); refine goesL_ (some 9) rfl rfl Try.func42 (by kernel_rfl) rfl #[.int .i64 2, .int .i64 5] rfl (by (try simp only [List.map_toArray, List.map_cons, List.map_nil]); first | done | rfl | (simp only [List.length_drop, List.length_take]; rfl)) ?_; (with_reducible refine (tributarylaw07_at.calls 2 5 t157 t158 _ A4.out).mono ?_); rintro e w72 ⟨rfl, hb⟩; refine ⟨_, rfl, ?_⟩; have n0_ := Aside0.mk (below_step (by repeat (first | (with_reducible first | exact HB.out | apply below_alloc | apply pw_below_drewN | apply below_drew1) | exact HB.out)) hb); clear HB; have HB := n0_; clear n0_; (try clear hb); (try clear hb2); (try clear hk); (try clear hi)) | ((with_reducible refine gate_dst (N := 10) rfl ?_); (try (refine gate_guard (by rfl) ?_; dsimp only)); refine Kd.R_lit k41 _ 41 ?hg (N := 10) ?hd (xs := ([(⟨t151, t152⟩ : S41), (⟨t153, t154⟩ : S41), (⟨t155, t156⟩ : S41), (⟨t157, t158⟩ : S41)] : List (S41))) (inner := [.int .i64 t151, .int .i64 t152, .int .i64 t153, .int .i64 t154, .int .i64 t155, .int .i64 t156, .int .i64 t157, .int .i64 t158]) (ok := fun _ => True) (okp := fun _ => True) ?hr ?hp (fun _ hk => hk) trivial (Below.refl _ _) (Nat.le_refl _) (by simp) ?_; (case hd => rfl); (case hg => rfl); (case hr => first | (go_simp; done) | (go_simp; rfl)); (case hp => exact (Reps.c2 (show Kd.M k41 _ _ _ (⟨t151, t152⟩ : S41) [.int .i64 t151, .int .i64 t152] from (k41_mkM _ _ _ (⟨t151, t152⟩ : S41) )) (Reps.c2 (show Kd.M k41 _ _ _ (⟨t153, t154⟩ : S41) [.int .i64 t153, .int .i64 t154] from (k41_mkM _ _ _ (⟨t153, t154⟩ : S41) )) (Reps.c2 (show Kd.M k41 _ _ _ (⟨t155, t156⟩ : S41) [.int .i64 t155, .int .i64 t156] from (k41_mkM _ _ _ (⟨t155, t156⟩ : S41) )) (Reps.c2 (show Kd.M k41 _ _ _ (⟨t157, t158⟩ : S41) [.int .i64 t157, .int .i64 t158] from (k41_mkM _ _ _ (⟨t157, t158⟩ : S41) )) (Reps.none _ _)))))); intro v160 w73 ho74 hb hg_ hnew_; clear hg_ hnew_; (first | rw [← Ny159.out] at ho74 | (simp only [Int.reduceToNat] at ho74; rw [← Ny159.out] at ho74)); have n0_ := Aside0.mk (Kd.R_lower ho74 (below_size (by repeat (first | (with_reducible first | exact HB.out | apply below_alloc | apply pw_below_drewN | apply below_drew1) | exact HB.out)))); have n1_ := Aside0.mk (below_step (by repeat (first | (with_reducible first | exact HB.out | apply below_alloc | apply pw_below_drewN | apply below_drew1) | exact HB.out)) hb); clear HB; have HO161 := n0_; have HB := n1_; clear n0_ n1_; clear hb ho74; obtain ⟨Ao75, co75, eo75⟩ := Kd.R_slice HO161.out; subst eo75) | ((with_reducible refine gate_callee (f := 31) rfl ?_); refine goesL_ (some 11) rfl rfl Try.func31 (by kernel_rfl) rfl #[.slice Ao75 y159.length co75] rfl (by (try simp only [List.map_toArray, List.map_cons, List.map_nil]); first | done | rfl | (simp only [List.length_drop, List.length_take]; rfl)) ?_; (with_reducible refine (past_Of.calls _ _ y159 t162 t163 _ ?side1 ?side2 A5.out).mono ?_); (case side1 => repeat (first | exact (Kd.R_reads' HO161.out).2.2 | (with_reducible refine Kd.C_alloc ?_ _) | (with_reducible refine Kd.C_drewN ?_ _) | (with_reducible refine Kd.C_drew ?_))); (case side2 => exact (Kd.R_reads' HO161.out).2.1); rintro e w76 ⟨v164, rfl, ho0, hb⟩; refine ⟨_, rfl, ?_⟩; have n0_ := Aside0.mk (Kd.R_below (lf HO161.out) hb); have n1_ := Aside0.mk (Kd.R_lower ho0 (below_size (by repeat (first | (with_reducible first | exact HB.out | apply below_alloc | apply pw_below_drewN | apply below_drew1) | exact HB.out)))); have n2_ := Aside0.mk (below_step (by repeat (first | (with_reducible first | exact HB.out | apply below_alloc | apply pw_below_drewN | apply below_drew1) | exact HB.out)) hb); clear HO161; clear HB; have HO161 := n0_; have HO165 := n1_; have HB := n2_; clear n0_ n1_ n2_; (try clear hb); (try clear hb2); (try clear hk); (try clear hi); (try clear ho0)) | ((with_reducible refine gate_dst (N := 15) rfl ?_); (try (refine gate_guard (by rfl) ?_; dsimp only)); refine Kd.R_lit (Kd.int .i64) _ 3 ?hg (N := 15) ?hd (xs := ([1, 1, 258] : List Int)) (inner := [.int .i64 1, .int .i64 1, .int .i64 258]) (ok := fun _ => True) (okp := fun _ => True) ?hr ?hp (fun _ hk => hk) trivial (Below.refl _ _) (Nat.le_refl _) (by simp) ?_; (case hd => rfl); (case hg => rfl); (case hr => first | (go_simp; done) | (go_simp; rfl)); (case hp => exact (Reps.one (show Kd.M (Kd.int .i64) _ _ _ 1 [.int .i64 1] from rfl) (Reps.one (show Kd.M (Kd.int .i64) _ _ _ 1 [.int .i64 1] from rfl) (Reps.one (show Kd.M (Kd.int .i64) _ _ _ 258 [.int .i64 258] from rfl) (Reps.none _ _))))); intro v167 w77 ho78 hb hg_ hnew_; clear hg_ hnew_; (first | rw [← Ny166.out] at ho78 | (simp only [Int.reduceToNat] at ho78; rw [← Ny166.out] at ho78)); have n0_ := Aside0.mk (Kd.R_below (lf HO161.out) hb); have n1_ := Aside0.mk (Kd.R_below (lf HO165.out) hb); have n2_ := Aside0.mk (Kd.R_lower ho78 (below_size (by repeat (first | (with_reducible first | exact HB.out | apply below_alloc | apply pw_below_drewN | apply below_drew1) | exact HB.out)))); have n3_ := Aside0.mk (below_step (by repeat (first | (with_reducible first | exact HB.out | apply below_alloc | apply pw_below_drewN | apply below_drew1) | exact HB.out)) hb); clear HO161; clear HO165; clear HB; have HO161 := n0_; have HO165 := n1_; have HO168 := n2_; have HB := n3_; clear n0_ n1_ n2_ n3_; clear hb ho78; obtain ⟨Ao79, co79, eo79⟩ := Kd.R_slice HO168.out; subst eo79) | ((with_reducible refine gate_callee (f := 43) rfl ?_); refine goesL_ (some 16) rfl rfl Try.func43 (by kernel_rfl) rfl #[.slice Ao79 y166.length co79] rfl (by (try simp only [List.map_toArray, List.map_cons, List.map_nil]); first | done | rfl | (simp only [List.length_drop, List.length_take]; rfl)) ?_; (with_reducible refine (tributarylaw07_of.calls k _ _ y166 t169 _ ?side1 ?side2 A6.out).mono ?_); (case side1 => repeat (first | exact (Kd.R_reads' HO168.out).2.2 | (with_reducible refine Kd.C_alloc ?_ _) | (with_reducible refine Kd.C_drewN ?_ _) | (with_reducible refine Kd.C_drew ?_))); (case side2 => exact (Kd.R_reads' HO168.out).2.1); rintro e w80 ⟨v170, rfl, ho0, hb⟩; refine ⟨_, rfl, ?_⟩; have n0_ := Aside0.mk (Kd.R_below (lf HO161.out) hb); have n1_ := Aside0.mk (Kd.R_elder' (lf HO165.out) (Kd.R_base ho0) hb); have n2_ := Aside0.mk (Kd.R_below (lf HO168.out) hb); have n3_ := Aside0.mk (Kd.R_lower (Kd.R_new' ho0 (Kd.R_lt (lf HO165.out))) (below_size (by repeat (first | (with_reducible first | exact HB.out | apply below_alloc | apply pw_below_drewN | apply below_drew1) | exact HB.out)))); have n4_ := Aside0.mk (below_step (by repeat (first | (with_reducible first | exact HB.out | apply below_alloc | apply pw_below_drewN | apply below_drew1) | exact HB.out)) hb); clear HO161; clear HO165; clear HO168; clear HB; have HO161 := n0_; have HO165 := n1_; have HO168 := n2_; have HO171 := n3_; have HB := n4_; clear n0_ n1_ n2_ n3_ n4_; (try clear hb); (try clear hb2); (try clear hk); (try clear hi); (try clear ho0); obtain ⟨Ao81, co81, eo81⟩ := Kd.R_slice HO171.out; subst eo81) | ((with_reducible refine gate_callee (f := 13) rfl ?_); refine goesL_ (some 17) rfl rfl Try.func13 (by kernel_rfl) rfl #[.slice Ao81 t169.length co81] rfl (by (try simp only [List.map_toArray, List.map_cons, List.map_nil]); first | done | rfl | (simp only [List.length_drop, List.length_take]; rfl)) ?_; (with_reducible refine (past_Bytes.calls k _ _ t169 t172 t173 _ ?side1 ?side2 A7.out).mono ?_); (case side1 => repeat (first | exact (Kd.R_reads' HO171.out).2.2 | (with_reducible refine Kd.C_alloc ?_ _) | (with_reducible refine Kd.C_drewN ?_ _) | (with_reducible refine Kd.C_drew ?_))); (case side2 => exact (Kd.R_reads' HO171.out).2.1); rintro e w82 ⟨v174, rfl, ho0, hb⟩; refine ⟨_, rfl, ?_⟩; have n0_ := Aside0.mk (Kd.R_below (lf HO161.out) hb); have n1_ := Aside0.mk (Kd.R_below (lf HO165.out) hb); have n2_ := Aside0.mk (Kd.R_below (lf HO168.out) hb); have n3_ := Aside0.mk (Kd.R_below (lf HO171.out) hb); have n4_ := Aside0.mk (Kd.Q_lower ho0 (below_size (by repeat (first | (with_reducible first | exact HB.out | apply below_alloc | apply pw_below_drewN | apply below_drew1) | exact HB.out)))); have n5_ := Aside0.mk (below_step (by repeat (first | (with_reducible first | exact HB.out | apply below_alloc | apply pw_below_drewN | apply below_drew1) | exact HB.out)) hb); clear HO161; clear HO165; clear HO168; clear HO171; clear HB; have HO161 := n0_; have HO165 := n1_; have HO168 := n2_; have HO171 := n3_; have HO175 := n4_; have HB := n5_; clear n0_ n1_ n2_ n3_ n4_ n5_; (try clear hb); (try clear hb2); (try clear hk); (try clear hi); (try clear ho0)) | ((with_reducible refine gate_dst (N := 22) rfl ?_); (try (refine gate_guard (by rfl) ?_; dsimp only)); refine Kd.R_lit (Kd.int .i64) _ 3 ?hg (N := 22) ?hd (xs := ([1, 1, 3, 2, 5, 5] : List Int)) (inner := [.int .i64 1, .int .i64 1, .int .i64 3, .int .i64 2, .int .i64 5, .int .i64 5]) (ok := fun _ => True) (okp := fun _ => True) ?hr ?hp (fun _ hk => hk) trivial (Below.refl _ _) (Nat.le_refl _) (by simp) ?_; (case hd => rfl); (case hg => rfl); (case hr => first | (go_simp; done) | (go_simp; rfl)); (case hp => exact (Reps.one (show Kd.M (Kd.int .i64) _ _ _ 1 [.int .i64 1] from rfl) (Reps.one (show Kd.M (Kd.int .i64) _ _ _ 1 [.int .i64 1] from rfl) (Reps.one (show Kd.M (Kd.int .i64) _ _ _ 3 [.int .i64 3] from rfl) (Reps.one (show Kd.M (Kd.int .i64) _ _ _ 2 [.int .i64 2] from rfl) (Reps.one (show Kd.M (Kd.int .i64) _ _ _ 5 [.int .i64 5] from rfl) (Reps.one (show Kd.M (Kd.int .i64) _ _ _ 5 [.int .i64 5] from rfl) (Reps.none _ _)))))))); intro v177 w83 ho84 hb hg_ hnew_; clear hg_ hnew_; (first | rw [← Ny176.out] at ho84 | (simp only [Int.reduceToNat] at ho84; rw [← Ny176.out] at ho84)); have n0_ := Aside0.mk (Kd.R_below (lf HO161.out) hb); have n1_ := Aside0.mk (Kd.R_below (lf HO165.out) hb); have n2_ := Aside0.mk (Kd.R_elder' (lf HO168.out) (Kd.R_base ho84) hb); have n3_ := Aside0.mk (Kd.R_below (lf HO171.out) hb); have n4_ := Aside0.mk (Kd.Q_below (by (with_reducible repeat (first | apply Kd.Q_alloc | apply Kd.Q_drewN | apply Kd.Q_drew)); exact HO175.out) hb); have n5_ := Aside0.mk (Kd.R_lower (Kd.R_new' ho84 (Kd.R_lt (lf HO168.out))) (below_size (by repeat (first | (with_reducible first | exact HB.out | apply below_alloc | apply pw_below_drewN | apply below_drew1) | exact HB.out)))); have n6_ := Aside0.mk (below_step (by repeat (first | (with_reducible first | exact HB.out | apply below_alloc | apply pw_below_drewN | apply below_drew1) | exact HB.out)) hb); clear HO161; clear HO165; clear HO168; clear HO171; clear HO175; clear HB; have HO161 := n0_; have HO165 := n1_; have HO168 := n2_; have HO171 := n3_; have HO175 := n4_; have HO178 := n5_; have HB := n6_; clear n0_ n1_ n2_ n3_ n4_ n5_ n6_; clear hb ho84; obtain ⟨Ao85, co85, eo85⟩ := Kd.R_slice HO165.out; subst eo85; obtain ⟨Ao86, co86, eo86⟩ := Kd.R_slice HO178.out; subst eo86) | ((with_reducible refine gate_callee (f := 44) rfl ?_); refine goesL_ (some 23) rfl rfl Try.func44 (by kernel_rfl) rfl #[.slice Ao85 t162.length co85, .int .i64 t163, .slice Ao86 y176.length co86] rfl (by (try simp only [List.map_toArray, List.map_cons, List.map_nil]); first | done | rfl | (simp only [List.length_drop, List.length_take]; rfl)) ?_; (with_reducible refine (tributarylaw07_is.calls k _ _ t162 t163 _ _ y176 true _ ?side1 ?side2 ?side3 ?side4 A8.out).mono ?_); (case side1 => repeat (first | exact (Kd.R_reads' HO165.out).2.2 | (with_reducible refine Kd.C_alloc ?_ _) | (with_reducible refine Kd.C_drewN ?_ _) | (with_reducible refine Kd.C_drew ?_))); (case side2 => exact (Kd.R_reads' HO165.out).2.1); (case side3 => repeat (first | exact (Kd.R_reads' HO178.out).2.2 | (with_reducible refine Kd.C_alloc ?_ _) | (with_reducible refine Kd.C_drewN ?_ _) | (with_reducible refine Kd.C_drew ?_))); (case side4 => exact (Kd.R_reads' HO178.out).2.1); rintro e w87 ⟨rfl, hb⟩; refine ⟨_, rfl, ?_⟩; have n0_ := Aside0.mk (Kd.R_below (lf HO161.out) hb); have n1_ := Aside0.mk (Kd.R_below (lf HO165.out) hb); have n2_ := Aside0.mk (Kd.R_below (lf HO168.out) hb); have n3_ := Aside0.mk (Kd.R_below (lf HO171.out) hb); have n4_ := Aside0.mk (Kd.Q_below (by (with_reducible repeat (first | apply Kd.Q_alloc | apply Kd.Q_drewN | apply Kd.Q_drew)); exact HO175.out) hb); have n5_ := Aside0.mk (Kd.R_below (lf HO178.out) hb); have n6_ := Aside0.mk (below_step (by repeat (first | (with_reducible first | exact HB.out | apply below_alloc | apply pw_below_drewN | apply below_drew1) | exact HB.out)) hb); clear HO161; clear HO165; clear HO168; clear HO171; clear HO175; clear HO178; clear HB; have HO161 := n0_; have HO165 := n1_; have HO168 := n2_; have HO171 := n3_; have HO175 := n4_; have HO178 := n5_; have HB := n6_; clear n0_ n1_ n2_ n3_ n4_ n5_ n6_; (try clear hb); (try clear hb2); (try clear hk); (try clear hi)) | (go_at_call 26; (with_reducible refine (past_Count.calls k _ _ t162 t180 _ ?side1 ?side2 A10.out).mono ?_); (case side1 => repeat (first | exact (Kd.R_reads' HO165.out).2.2 | (with_reducible refine Kd.C_alloc ?_ _) | (with_reducible refine Kd.C_drewN ?_ _) | (with_reducible refine Kd.C_drew ?_))); (case side2 => exact (Kd.R_reads' HO165.out).2.1); rintro e w88 ⟨rfl, hb⟩; have n0_ := Aside0.mk (Kd.R_below (lf HO161.out) hb); have n1_ := Aside0.mk (Kd.R_below (lf HO165.out) hb); have n2_ := Aside0.mk (Kd.R_below (lf HO168.out) hb); have n3_ := Aside0.mk (Kd.R_below (lf HO171.out) hb); have n4_ := Aside0.mk (Kd.Q_below (by (with_reducible repeat (first | apply Kd.Q_alloc | apply Kd.Q_drewN | apply Kd.Q_drew)); exact HO175.out) hb); have n5_ := Aside0.mk (Kd.R_below (lf HO178.out) hb); have n6_ := Aside0.mk (below_step (by repeat (first | (with_reducible first | exact HB.out | apply below_alloc | apply pw_below_drewN | apply below_drew1) | exact HB.out)) hb); clear HO161; clear HO165; clear HO168; clear HO171; clear HO175; clear HO178; clear HB; have HO161 := n0_; have HO165 := n1_; have HO168 := n2_; have HO171 := n3_; have HO175 := n4_; have HO178 := n5_; have HB := n6_; clear n0_ n1_ n2_ n3_ n4_ n5_ n6_; (try clear hb); (try clear hb2); (try clear hk); (try clear hi)) | (go_at_call 28; (with_reducible refine (past_Last.calls k _ _ t162 1 t181 _ ?side1 ?side2 A12.out).mono ?_); (case side1 => repeat (first | exact (Kd.R_reads' HO165.out).2.2 | (with_reducible refine Kd.C_alloc ?_ _) | (with_reducible refine Kd.C_drewN ?_ _) | (with_reducible refine Kd.C_drew ?_))); (case side2 => exact (Kd.R_reads' HO165.out).2.1); rintro e w89 ⟨rfl, hb⟩; have n0_ := Aside0.mk (Kd.R_below (lf HO161.out) hb); have n1_ := Aside0.mk (Kd.R_below (lf HO165.out) hb); have n2_ := Aside0.mk (Kd.R_below (lf HO168.out) hb); have n3_ := Aside0.mk (Kd.R_below (lf HO171.out) hb); have n4_ := Aside0.mk (Kd.Q_below (by (with_reducible repeat (first | apply Kd.Q_alloc | apply Kd.Q_drewN | apply Kd.Q_drew)); exact HO175.out) hb); have n5_ := Aside0.mk (Kd.R_below (lf HO178.out) hb); have n6_ := Aside0.mk (below_step (by repeat (first | (with_reducible first | exact HB.out | apply below_alloc | apply pw_below_drewN | apply below_drew1) | exact HB.out)) hb); clear HO161; clear HO165; clear HO168; clear HO171; clear HO175; clear HO178; clear HB; have HO161 := n0_; have HO165 := n1_; have HO168 := n2_; have HO171 := n3_; have HO175 := n4_; have HO178 := n5_; have HB := n6_; clear n0_ n1_ n2_ n3_ n4_ n5_ n6_; (try clear hb); (try clear hb2); (try clear hk); (try clear hi)) | (go_at_call 42; (with_reducible refine (tributarylaw07_at.calls 1 2 t182 t183 _ A14.out).mono ?_); rintro e w90 ⟨rfl, hb⟩; have n0_ := Aside0.mk (Kd.R_below (lf HO161.out) hb); have n1_ := Aside0.mk (Kd.R_below (lf HO165.out) hb); have n2_ := Aside0.mk (Kd.R_below (lf HO168.out) hb); have n3_ := Aside0.mk (Kd.R_below (lf HO171.out) hb); have n4_ := Aside0.mk (Kd.Q_below (by (with_reducible repeat (first | apply Kd.Q_alloc | apply Kd.Q_drewN | apply Kd.Q_drew)); exact HO175.out) hb); have n5_ := Aside0.mk (Kd.R_below (lf HO178.out) hb); have n6_ := Aside0.mk (below_step (by repeat (first | (with_reducible first | exact HB.out | apply below_alloc | apply pw_below_drewN | apply below_drew1) | exact HB.out)) hb); clear HO161; clear HO165; clear HO168; clear HO171; clear HO175; clear HO178; clear HB; have HO161 := n0_; have HO165 := n1_; have HO168 := n2_; have HO171 := n3_; have HO175 := n4_; have HO178 := n5_; have HB := n6_; clear n0_ n1_ n2_ n3_ n4_ n5_ n6_; (try clear hb); (try clear hb2); (try clear hk); (try clear hi)) | (go_at_call 24; (with_reducible refine (past_Has.calls k _ _ t162 t182 t183 false _ ?side1 ?side2 A15.out).mono ?_); (case side1 => repeat (first | exact (Kd.R_reads' HO165.out).2.2 | (with_reducible refine Kd.C_alloc ?_ _) | (with_reducible refine Kd.C_drewN ?_ _) | (with_reducible refine Kd.C_drew ?_))); (case side2 => exact (Kd.R_reads' HO165.out).2.1); rintro e w91 ⟨rfl, hb⟩; have n0_ := Aside0.mk (Kd.R_below (lf HO161.out) hb); have n1_ := Aside0.mk (Kd.R_below (lf HO165.out) hb); have n2_ := Aside0.mk (Kd.R_below (lf HO168.out) hb); have n3_ := Aside0.mk (Kd.R_below (lf HO171.out) hb); have n4_ := Aside0.mk (Kd.Q_below (by (with_reducible repeat (first | apply Kd.Q_alloc | apply Kd.Q_drewN | apply Kd.Q_drew)); exact HO175.out) hb); have n5_ := Aside0.mk (Kd.R_below (lf HO178.out) hb); have n6_ := Aside0.mk (below_step (by repeat (first | (with_reducible first | exact HB.out | apply below_alloc | apply pw_below_drewN | apply below_drew1) | exact HB.out)) hb); clear HO161; clear HO165; clear HO168; clear HO171; clear HO175; clear HO178; clear HB; have HO161 := n0_; have HO165 := n1_; have HO168 := n2_; have HO171 := n3_; have HO175 := n4_; have HO178 := n5_; have HB := n6_; clear n0_ n1_ n2_ n3_ n4_ n5_ n6_; (try clear hb); (try clear hb2); (try clear hk); (try clear hi)))
          go_ret
          exact ⟨by first | rfl | (simp [errW_none, errW_some] <;> rfl) | (simp [*, errW_none, errW_some] <;> rfl), by repeat (first | (with_reducible first | exact HB.out | apply below_alloc | apply pw_below_drewN | apply below_drew1) | exact HB.out)⟩
      · rw [if_neg c13] at H
        have c13b0 : (t181 == 3) = false := beq_eq_false_iff_ne.mpr c13
        have c13b1 : (t181 != 3) = true := bne_iff_ne.mpr c13
        obtain rfl := Option.some.inj H
        go_enter Try.func10, Try.ntmps10
        go_wp2_with (first | ((with_reducible refine gate_callee (f := 42) rfl ?_); refine goesL_ (some 6) rfl rfl Try.func42 (by kernel_rfl) rfl #[.int .i64 1, .int .i64 3] rfl (by (try simp only [List.map_toArray, List.map_cons, List.map_nil]); first | done | rfl | (simp only [List.length_drop, List.length_take]; rfl)) ?_; (with_reducible refine (tributarylaw07_at.calls 1 3 t151 t152 _ A1.out).mono ?_); rintro e w92 ⟨rfl, hb⟩; refine ⟨_, rfl, ?_⟩; have n0_ := Aside0.mk (below_step (by repeat (first | (with_reducible first | exact HB.out | apply below_alloc | apply pw_below_drewN | apply below_drew1) | exact HB.out)) hb); clear HB; have HB := n0_; clear n0_; (try clear hb); (try clear hb2); (try clear hk); (try clear hi)) | ((with_reducible refine gate_callee (f := 42) rfl ?_); refine goesL_ (some 7) rfl rfl Try.func42 (by kernel_rfl) rfl #[.int .i64 1, .int .i64 1] rfl (by (try simp only [List.map_toArray, List.map_cons, List.map_nil]); first | done | rfl | (simp only [List.length_drop, List.length_take]; rfl)) ?_; (with_reducible refine (tributarylaw07_at.calls 1 1 t153 t154 _ A2.out).mono ?_); rintro e w93 ⟨rfl, hb⟩; refine ⟨_, rfl, ?_⟩; have n0_ := Aside0.mk (below_step (by repeat (first | (with_reducible first | exact HB.out | apply below_alloc | apply pw_below_drewN | apply below_drew1) | exact HB.out)) hb); clear HB; have HB := n0_; clear n0_; (try clear hb); (try clear hb2); (try clear hk); (try clear hi)) | ((with_reducible refine gate_callee (f := 42) rfl ?_); refine goesL_ (some 8) rfl rfl Try.func42 (by kernel_rfl) rfl #[.int .i64 1, .int .i64 2] rfl (by (try simp only [List.map_toArray, List.map_cons, List.map_nil]); first | done | rfl | (simp only [List.length_drop, List.length_take]; rfl)) ?_; (with_reducible refine (tributarylaw07_at.calls 1 2 t155 t156 _ A3.out).mono ?_); rintro e w94 ⟨rfl, hb⟩; refine ⟨_, rfl, ?_⟩; have n0_ := Aside0.mk (below_step (by repeat (first | (with_reducible first | exact HB.out | apply below_alloc | apply pw_below_drewN | apply below_drew1) | exact HB.out)) hb); clear HB; have HB := n0_; clear n0_; (try clear hb); (try clear hb2); (try clear hk); (try clear hi)) | ((with_reducible refine gate_callee (f := 42) rfl ?_); refine goesL_ (some 9) rfl rfl Try.func42 (by kernel_rfl) rfl #[.int .i64 2, .int .i64 5] rfl (by (try simp only [List.map_toArray, List.map_cons, List.map_nil]); first | done | rfl | (simp only [List.length_drop, List.length_take]; rfl)) ?_; (with_reducible refine (tributarylaw07_at.calls 2 5 t157 t158 _ A4.out).mono ?_); rintro e w95 ⟨rfl, hb⟩; refine ⟨_, rfl, ?_⟩; have n0_ := Aside0.mk (below_step (by repeat (first | (with_reducible first | exact HB.out | apply below_alloc | apply pw_below_drewN | apply below_drew1) | exact HB.out)) hb); clear HB; have HB := n0_; clear n0_; (try clear hb); (try clear hb2); (try clear hk); (try clear hi)) | ((with_reducible refine gate_dst (N := 10) rfl ?_); (try (refine gate_guard (by rfl) ?_; dsimp only)); refine Kd.R_lit k41 _ 41 ?hg (N := 10) ?hd (xs := ([(⟨t151, t152⟩ : S41), (⟨t153, t154⟩ : S41), (⟨t155, t156⟩ : S41), (⟨t157, t158⟩ : S41)] : List (S41))) (inner := [.int .i64 t151, .int .i64 t152, .int .i64 t153, .int .i64 t154, .int .i64 t155, .int .i64 t156, .int .i64 t157, .int .i64 t158]) (ok := fun _ => True) (okp := fun _ => True) ?hr ?hp (fun _ hk => hk) trivial (Below.refl _ _) (Nat.le_refl _) (by simp) ?_; (case hd => rfl); (case hg => rfl); (case hr => first | (go_simp; done) | (go_simp; rfl)); (case hp => exact (Reps.c2 (show Kd.M k41 _ _ _ (⟨t151, t152⟩ : S41) [.int .i64 t151, .int .i64 t152] from (k41_mkM _ _ _ (⟨t151, t152⟩ : S41) )) (Reps.c2 (show Kd.M k41 _ _ _ (⟨t153, t154⟩ : S41) [.int .i64 t153, .int .i64 t154] from (k41_mkM _ _ _ (⟨t153, t154⟩ : S41) )) (Reps.c2 (show Kd.M k41 _ _ _ (⟨t155, t156⟩ : S41) [.int .i64 t155, .int .i64 t156] from (k41_mkM _ _ _ (⟨t155, t156⟩ : S41) )) (Reps.c2 (show Kd.M k41 _ _ _ (⟨t157, t158⟩ : S41) [.int .i64 t157, .int .i64 t158] from (k41_mkM _ _ _ (⟨t157, t158⟩ : S41) )) (Reps.none _ _)))))); intro v160 w96 ho97 hb hg_ hnew_; clear hg_ hnew_; (first | rw [← Ny159.out] at ho97 | (simp only [Int.reduceToNat] at ho97; rw [← Ny159.out] at ho97)); have n0_ := Aside0.mk (Kd.R_lower ho97 (below_size (by repeat (first | (with_reducible first | exact HB.out | apply below_alloc | apply pw_below_drewN | apply below_drew1) | exact HB.out)))); have n1_ := Aside0.mk (below_step (by repeat (first | (with_reducible first | exact HB.out | apply below_alloc | apply pw_below_drewN | apply below_drew1) | exact HB.out)) hb); clear HB; have HO161 := n0_; have HB := n1_; clear n0_ n1_; clear hb ho97; obtain ⟨Ao98, co98, eo98⟩ := Kd.R_slice HO161.out; subst eo98) | ((with_reducible refine gate_callee (f := 31) rfl ?_); refine goesL_ (some 11) rfl rfl Try.func31 (by kernel_rfl) rfl #[.slice Ao98 y159.length co98] rfl (by (try simp only [List.map_toArray, List.map_cons, List.map_nil]); first | done | rfl | (simp only [List.length_drop, List.length_take]; rfl)) ?_; (with_reducible refine (past_Of.calls _ _ y159 t162 t163 _ ?side1 ?side2 A5.out).mono ?_); (case side1 => repeat (first | exact (Kd.R_reads' HO161.out).2.2 | (with_reducible refine Kd.C_alloc ?_ _) | (with_reducible refine Kd.C_drewN ?_ _) | (with_reducible refine Kd.C_drew ?_))); (case side2 => exact (Kd.R_reads' HO161.out).2.1); rintro e w99 ⟨v164, rfl, ho0, hb⟩; refine ⟨_, rfl, ?_⟩; have n0_ := Aside0.mk (Kd.R_below (lf HO161.out) hb); have n1_ := Aside0.mk (Kd.R_lower ho0 (below_size (by repeat (first | (with_reducible first | exact HB.out | apply below_alloc | apply pw_below_drewN | apply below_drew1) | exact HB.out)))); have n2_ := Aside0.mk (below_step (by repeat (first | (with_reducible first | exact HB.out | apply below_alloc | apply pw_below_drewN | apply below_drew1) | exact HB.out)) hb); clear HO161; clear HB; have HO161 := n0_; have HO165 := n1_; have HB := n2_; clear n0_ n1_ n2_; (try clear hb); (try clear hb2); (try clear hk); (try clear hi); (try clear ho0)) | ((with_reducible refine gate_dst (N := 15) rfl ?_); (try (refine gate_guard (by rfl) ?_; dsimp only)); refine Kd.R_lit (Kd.int .i64) _ 3 ?hg (N := 15) ?hd (xs := ([1, 1, 258] : List Int)) (inner := [.int .i64 1, .int .i64 1, .int .i64 258]) (ok := fun _ => True) (okp := fun _ => True) ?hr ?hp (fun _ hk => hk) trivial (Below.refl _ _) (Nat.le_refl _) (by simp) ?_; (case hd => rfl); (case hg => rfl); (case hr => first | (go_simp; done) | (go_simp; rfl)); (case hp => exact (Reps.one (show Kd.M (Kd.int .i64) _ _ _ 1 [.int .i64 1] from rfl) (Reps.one (show Kd.M (Kd.int .i64) _ _ _ 1 [.int .i64 1] from rfl) (Reps.one (show Kd.M (Kd.int .i64) _ _ _ 258 [.int .i64 258] from rfl) (Reps.none _ _))))); intro v167 w100 ho101 hb hg_ hnew_; clear hg_ hnew_; (first | rw [← Ny166.out] at ho101 | (simp only [Int.reduceToNat] at ho101; rw [← Ny166.out] at ho101)); have n0_ := Aside0.mk (Kd.R_below (lf HO161.out) hb); have n1_ := Aside0.mk (Kd.R_below (lf HO165.out) hb); have n2_ := Aside0.mk (Kd.R_lower ho101 (below_size (by repeat (first | (with_reducible first | exact HB.out | apply below_alloc | apply pw_below_drewN | apply below_drew1) | exact HB.out)))); have n3_ := Aside0.mk (below_step (by repeat (first | (with_reducible first | exact HB.out | apply below_alloc | apply pw_below_drewN | apply below_drew1) | exact HB.out)) hb); clear HO161; clear HO165; clear HB; have HO161 := n0_; have HO165 := n1_; have HO168 := n2_; have HB := n3_; clear n0_ n1_ n2_ n3_; clear hb ho101; obtain ⟨Ao102, co102, eo102⟩ := Kd.R_slice HO168.out; subst eo102) | ((with_reducible refine gate_callee (f := 43) rfl ?_); refine goesL_ (some 16) rfl rfl Try.func43 (by kernel_rfl) rfl #[.slice Ao102 y166.length co102] rfl (by (try simp only [List.map_toArray, List.map_cons, List.map_nil]); first | done | rfl | (simp only [List.length_drop, List.length_take]; rfl)) ?_; (with_reducible refine (tributarylaw07_of.calls k _ _ y166 t169 _ ?side1 ?side2 A6.out).mono ?_); (case side1 => repeat (first | exact (Kd.R_reads' HO168.out).2.2 | (with_reducible refine Kd.C_alloc ?_ _) | (with_reducible refine Kd.C_drewN ?_ _) | (with_reducible refine Kd.C_drew ?_))); (case side2 => exact (Kd.R_reads' HO168.out).2.1); rintro e w103 ⟨v170, rfl, ho0, hb⟩; refine ⟨_, rfl, ?_⟩; have n0_ := Aside0.mk (Kd.R_below (lf HO161.out) hb); have n1_ := Aside0.mk (Kd.R_elder' (lf HO165.out) (Kd.R_base ho0) hb); have n2_ := Aside0.mk (Kd.R_below (lf HO168.out) hb); have n3_ := Aside0.mk (Kd.R_lower (Kd.R_new' ho0 (Kd.R_lt (lf HO165.out))) (below_size (by repeat (first | (with_reducible first | exact HB.out | apply below_alloc | apply pw_below_drewN | apply below_drew1) | exact HB.out)))); have n4_ := Aside0.mk (below_step (by repeat (first | (with_reducible first | exact HB.out | apply below_alloc | apply pw_below_drewN | apply below_drew1) | exact HB.out)) hb); clear HO161; clear HO165; clear HO168; clear HB; have HO161 := n0_; have HO165 := n1_; have HO168 := n2_; have HO171 := n3_; have HB := n4_; clear n0_ n1_ n2_ n3_ n4_; (try clear hb); (try clear hb2); (try clear hk); (try clear hi); (try clear ho0); obtain ⟨Ao104, co104, eo104⟩ := Kd.R_slice HO171.out; subst eo104) | ((with_reducible refine gate_callee (f := 13) rfl ?_); refine goesL_ (some 17) rfl rfl Try.func13 (by kernel_rfl) rfl #[.slice Ao104 t169.length co104] rfl (by (try simp only [List.map_toArray, List.map_cons, List.map_nil]); first | done | rfl | (simp only [List.length_drop, List.length_take]; rfl)) ?_; (with_reducible refine (past_Bytes.calls k _ _ t169 t172 t173 _ ?side1 ?side2 A7.out).mono ?_); (case side1 => repeat (first | exact (Kd.R_reads' HO171.out).2.2 | (with_reducible refine Kd.C_alloc ?_ _) | (with_reducible refine Kd.C_drewN ?_ _) | (with_reducible refine Kd.C_drew ?_))); (case side2 => exact (Kd.R_reads' HO171.out).2.1); rintro e w105 ⟨v174, rfl, ho0, hb⟩; refine ⟨_, rfl, ?_⟩; have n0_ := Aside0.mk (Kd.R_below (lf HO161.out) hb); have n1_ := Aside0.mk (Kd.R_below (lf HO165.out) hb); have n2_ := Aside0.mk (Kd.R_below (lf HO168.out) hb); have n3_ := Aside0.mk (Kd.R_below (lf HO171.out) hb); have n4_ := Aside0.mk (Kd.Q_lower ho0 (below_size (by repeat (first | (with_reducible first | exact HB.out | apply below_alloc | apply pw_below_drewN | apply below_drew1) | exact HB.out)))); have n5_ := Aside0.mk (below_step (by repeat (first | (with_reducible first | exact HB.out | apply below_alloc | apply pw_below_drewN | apply below_drew1) | exact HB.out)) hb); clear HO161; clear HO165; clear HO168; clear HO171; clear HB; have HO161 := n0_; have HO165 := n1_; have HO168 := n2_; have HO171 := n3_; have HO175 := n4_; have HB := n5_; clear n0_ n1_ n2_ n3_ n4_ n5_; (try clear hb); (try clear hb2); (try clear hk); (try clear hi); (try clear ho0)) | ((with_reducible refine gate_dst (N := 22) rfl ?_); (try (refine gate_guard (by rfl) ?_; dsimp only)); refine Kd.R_lit (Kd.int .i64) _ 3 ?hg (N := 22) ?hd (xs := ([1, 1, 3, 2, 5, 5] : List Int)) (inner := [.int .i64 1, .int .i64 1, .int .i64 3, .int .i64 2, .int .i64 5, .int .i64 5]) (ok := fun _ => True) (okp := fun _ => True) ?hr ?hp (fun _ hk => hk) trivial (Below.refl _ _) (Nat.le_refl _) (by simp) ?_; (case hd => rfl); (case hg => rfl); (case hr => first | (go_simp; done) | (go_simp; rfl)); (case hp => exact (Reps.one (show Kd.M (Kd.int .i64) _ _ _ 1 [.int .i64 1] from rfl) (Reps.one (show Kd.M (Kd.int .i64) _ _ _ 1 [.int .i64 1] from rfl) (Reps.one (show Kd.M (Kd.int .i64) _ _ _ 3 [.int .i64 3] from rfl) (Reps.one (show Kd.M (Kd.int .i64) _ _ _ 2 [.int .i64 2] from rfl) (Reps.one (show Kd.M (Kd.int .i64) _ _ _ 5 [.int .i64 5] from rfl) (Reps.one (show Kd.M (Kd.int .i64) _ _ _ 5 [.int .i64 5] from rfl) (Reps.none _ _)))))))); intro v177 w106 ho107 hb hg_ hnew_; clear hg_ hnew_; (first | rw [← Ny176.out] at ho107 | (simp only [Int.reduceToNat] at ho107; rw [← Ny176.out] at ho107)); have n0_ := Aside0.mk (Kd.R_below (lf HO161.out) hb); have n1_ := Aside0.mk (Kd.R_below (lf HO165.out) hb); have n2_ := Aside0.mk (Kd.R_elder' (lf HO168.out) (Kd.R_base ho107) hb); have n3_ := Aside0.mk (Kd.R_below (lf HO171.out) hb); have n4_ := Aside0.mk (Kd.Q_below (by (with_reducible repeat (first | apply Kd.Q_alloc | apply Kd.Q_drewN | apply Kd.Q_drew)); exact HO175.out) hb); have n5_ := Aside0.mk (Kd.R_lower (Kd.R_new' ho107 (Kd.R_lt (lf HO168.out))) (below_size (by repeat (first | (with_reducible first | exact HB.out | apply below_alloc | apply pw_below_drewN | apply below_drew1) | exact HB.out)))); have n6_ := Aside0.mk (below_step (by repeat (first | (with_reducible first | exact HB.out | apply below_alloc | apply pw_below_drewN | apply below_drew1) | exact HB.out)) hb); clear HO161; clear HO165; clear HO168; clear HO171; clear HO175; clear HB; have HO161 := n0_; have HO165 := n1_; have HO168 := n2_; have HO171 := n3_; have HO175 := n4_; have HO178 := n5_; have HB := n6_; clear n0_ n1_ n2_ n3_ n4_ n5_ n6_; clear hb ho107; obtain ⟨Ao108, co108, eo108⟩ := Kd.R_slice HO165.out; subst eo108; obtain ⟨Ao109, co109, eo109⟩ := Kd.R_slice HO178.out; subst eo109) | ((with_reducible refine gate_callee (f := 44) rfl ?_); refine goesL_ (some 23) rfl rfl Try.func44 (by kernel_rfl) rfl #[.slice Ao108 t162.length co108, .int .i64 t163, .slice Ao109 y176.length co109] rfl (by (try simp only [List.map_toArray, List.map_cons, List.map_nil]); first | done | rfl | (simp only [List.length_drop, List.length_take]; rfl)) ?_; (with_reducible refine (tributarylaw07_is.calls k _ _ t162 t163 _ _ y176 true _ ?side1 ?side2 ?side3 ?side4 A8.out).mono ?_); (case side1 => repeat (first | exact (Kd.R_reads' HO165.out).2.2 | (with_reducible refine Kd.C_alloc ?_ _) | (with_reducible refine Kd.C_drewN ?_ _) | (with_reducible refine Kd.C_drew ?_))); (case side2 => exact (Kd.R_reads' HO165.out).2.1); (case side3 => repeat (first | exact (Kd.R_reads' HO178.out).2.2 | (with_reducible refine Kd.C_alloc ?_ _) | (with_reducible refine Kd.C_drewN ?_ _) | (with_reducible refine Kd.C_drew ?_))); (case side4 => exact (Kd.R_reads' HO178.out).2.1); rintro e w110 ⟨rfl, hb⟩; refine ⟨_, rfl, ?_⟩; have n0_ := Aside0.mk (Kd.R_below (lf HO161.out) hb); have n1_ := Aside0.mk (Kd.R_below (lf HO165.out) hb); have n2_ := Aside0.mk (Kd.R_below (lf HO168.out) hb); have n3_ := Aside0.mk (Kd.R_below (lf HO171.out) hb); have n4_ := Aside0.mk (Kd.Q_below (by (with_reducible repeat (first | apply Kd.Q_alloc | apply Kd.Q_drewN | apply Kd.Q_drew)); exact HO175.out) hb); have n5_ := Aside0.mk (Kd.R_below (lf HO178.out) hb); have n6_ := Aside0.mk (below_step (by repeat (first | (with_reducible first | exact HB.out | apply below_alloc | apply pw_below_drewN | apply below_drew1) | exact HB.out)) hb); clear HO161; clear HO165; clear HO168; clear HO171; clear HO175; clear HO178; clear HB; have HO161 := n0_; have HO165 := n1_; have HO168 := n2_; have HO171 := n3_; have HO175 := n4_; have HO178 := n5_; have HB := n6_; clear n0_ n1_ n2_ n3_ n4_ n5_ n6_; (try clear hb); (try clear hb2); (try clear hk); (try clear hi)) | (go_at_call 26; (with_reducible refine (past_Count.calls k _ _ t162 t180 _ ?side1 ?side2 A10.out).mono ?_); (case side1 => repeat (first | exact (Kd.R_reads' HO165.out).2.2 | (with_reducible refine Kd.C_alloc ?_ _) | (with_reducible refine Kd.C_drewN ?_ _) | (with_reducible refine Kd.C_drew ?_))); (case side2 => exact (Kd.R_reads' HO165.out).2.1); rintro e w111 ⟨rfl, hb⟩; have n0_ := Aside0.mk (Kd.R_below (lf HO161.out) hb); have n1_ := Aside0.mk (Kd.R_below (lf HO165.out) hb); have n2_ := Aside0.mk (Kd.R_below (lf HO168.out) hb); have n3_ := Aside0.mk (Kd.R_below (lf HO171.out) hb); have n4_ := Aside0.mk (Kd.Q_below (by (with_reducible repeat (first | apply Kd.Q_alloc | apply Kd.Q_drewN | apply Kd.Q_drew)); exact HO175.out) hb); have n5_ := Aside0.mk (Kd.R_below (lf HO178.out) hb); have n6_ := Aside0.mk (below_step (by repeat (first | (with_reducible first | exact HB.out | apply below_alloc | apply pw_below_drewN | apply below_drew1) | exact HB.out)) hb); clear HO161; clear HO165; clear HO168; clear HO171; clear HO175; clear HO178; clear HB; have HO161 := n0_; have HO165 := n1_; have HO168 := n2_; have HO171 := n3_; have HO175 := n4_; have HO178 := n5_; have HB := n6_; clear n0_ n1_ n2_ n3_ n4_ n5_ n6_; (try clear hb); (try clear hb2); (try clear hk); (try clear hi)) | (go_at_call 28; (with_reducible refine (past_Last.calls k _ _ t162 1 t181 _ ?side1 ?side2 A12.out).mono ?_); (case side1 => repeat (first | exact (Kd.R_reads' HO165.out).2.2 | (with_reducible refine Kd.C_alloc ?_ _) | (with_reducible refine Kd.C_drewN ?_ _) | (with_reducible refine Kd.C_drew ?_))); (case side2 => exact (Kd.R_reads' HO165.out).2.1); rintro e w112 ⟨rfl, hb⟩; have n0_ := Aside0.mk (Kd.R_below (lf HO161.out) hb); have n1_ := Aside0.mk (Kd.R_below (lf HO165.out) hb); have n2_ := Aside0.mk (Kd.R_below (lf HO168.out) hb); have n3_ := Aside0.mk (Kd.R_below (lf HO171.out) hb); have n4_ := Aside0.mk (Kd.Q_below (by (with_reducible repeat (first | apply Kd.Q_alloc | apply Kd.Q_drewN | apply Kd.Q_drew)); exact HO175.out) hb); have n5_ := Aside0.mk (Kd.R_below (lf HO178.out) hb); have n6_ := Aside0.mk (below_step (by repeat (first | (with_reducible first | exact HB.out | apply below_alloc | apply pw_below_drewN | apply below_drew1) | exact HB.out)) hb); clear HO161; clear HO165; clear HO168; clear HO171; clear HO175; clear HO178; clear HB; have HO161 := n0_; have HO165 := n1_; have HO168 := n2_; have HO171 := n3_; have HO175 := n4_; have HO178 := n5_; have HB := n6_; clear n0_ n1_ n2_ n3_ n4_ n5_ n6_; (try clear hb); (try clear hb2); (try clear hk); (try clear hi)))
        go_ret
        exact ⟨by first | rfl | (simp [errW_none, errW_some] <;> rfl) | (simp [*, errW_none, errW_some] <;> rfl), by repeat (first | (with_reducible first | exact HB.out | apply below_alloc | apply pw_below_drewN | apply below_drew1) | exact HB.out)⟩
    · rw [if_neg c11] at H
      have c11b0 : (t180 == 4) = false := beq_eq_false_iff_ne.mpr c11
      have c11b1 : (t180 != 4) = true := bne_iff_ne.mpr c11
      obtain rfl := Option.some.inj H
      go_enter Try.func10, Try.ntmps10
      go_wp2_with (first | ((with_reducible refine gate_callee (f := 42) rfl ?_); refine goesL_ (some 6) rfl rfl Try.func42 (by kernel_rfl) rfl #[.int .i64 1, .int .i64 3] rfl (by (try simp only [List.map_toArray, List.map_cons, List.map_nil]); first | done | rfl | (simp only [List.length_drop, List.length_take]; rfl)) ?_; (with_reducible refine (tributarylaw07_at.calls 1 3 t151 t152 _ A1.out).mono ?_); rintro e w113 ⟨rfl, hb⟩; refine ⟨_, rfl, ?_⟩; have n0_ := Aside0.mk (below_step (by repeat (first | (with_reducible first | exact HB.out | apply below_alloc | apply pw_below_drewN | apply below_drew1) | exact HB.out)) hb); clear HB; have HB := n0_; clear n0_; (try clear hb); (try clear hb2); (try clear hk); (try clear hi)) | ((with_reducible refine gate_callee (f := 42) rfl ?_); refine goesL_ (some 7) rfl rfl Try.func42 (by kernel_rfl) rfl #[.int .i64 1, .int .i64 1] rfl (by (try simp only [List.map_toArray, List.map_cons, List.map_nil]); first | done | rfl | (simp only [List.length_drop, List.length_take]; rfl)) ?_; (with_reducible refine (tributarylaw07_at.calls 1 1 t153 t154 _ A2.out).mono ?_); rintro e w114 ⟨rfl, hb⟩; refine ⟨_, rfl, ?_⟩; have n0_ := Aside0.mk (below_step (by repeat (first | (with_reducible first | exact HB.out | apply below_alloc | apply pw_below_drewN | apply below_drew1) | exact HB.out)) hb); clear HB; have HB := n0_; clear n0_; (try clear hb); (try clear hb2); (try clear hk); (try clear hi)) | ((with_reducible refine gate_callee (f := 42) rfl ?_); refine goesL_ (some 8) rfl rfl Try.func42 (by kernel_rfl) rfl #[.int .i64 1, .int .i64 2] rfl (by (try simp only [List.map_toArray, List.map_cons, List.map_nil]); first | done | rfl | (simp only [List.length_drop, List.length_take]; rfl)) ?_; (with_reducible refine (tributarylaw07_at.calls 1 2 t155 t156 _ A3.out).mono ?_); rintro e w115 ⟨rfl, hb⟩; refine ⟨_, rfl, ?_⟩; have n0_ := Aside0.mk (below_step (by repeat (first | (with_reducible first | exact HB.out | apply below_alloc | apply pw_below_drewN | apply below_drew1) | exact HB.out)) hb); clear HB; have HB := n0_; clear n0_; (try clear hb); (try clear hb2); (try clear hk); (try clear hi)) | ((with_reducible refine gate_callee (f := 42) rfl ?_); refine goesL_ (some 9) rfl rfl Try.func42 (by kernel_rfl) rfl #[.int .i64 2, .int .i64 5] rfl (by (try simp only [List.map_toArray, List.map_cons, List.map_nil]); first | done | rfl | (simp only [List.length_drop, List.length_take]; rfl)) ?_; (with_reducible refine (tributarylaw07_at.calls 2 5 t157 t158 _ A4.out).mono ?_); rintro e w116 ⟨rfl, hb⟩; refine ⟨_, rfl, ?_⟩; have n0_ := Aside0.mk (below_step (by repeat (first | (with_reducible first | exact HB.out | apply below_alloc | apply pw_below_drewN | apply below_drew1) | exact HB.out)) hb); clear HB; have HB := n0_; clear n0_; (try clear hb); (try clear hb2); (try clear hk); (try clear hi)) | ((with_reducible refine gate_dst (N := 10) rfl ?_); (try (refine gate_guard (by rfl) ?_; dsimp only)); refine Kd.R_lit k41 _ 41 ?hg (N := 10) ?hd (xs := ([(⟨t151, t152⟩ : S41), (⟨t153, t154⟩ : S41), (⟨t155, t156⟩ : S41), (⟨t157, t158⟩ : S41)] : List (S41))) (inner := [.int .i64 t151, .int .i64 t152, .int .i64 t153, .int .i64 t154, .int .i64 t155, .int .i64 t156, .int .i64 t157, .int .i64 t158]) (ok := fun _ => True) (okp := fun _ => True) ?hr ?hp (fun _ hk => hk) trivial (Below.refl _ _) (Nat.le_refl _) (by simp) ?_; (case hd => rfl); (case hg => rfl); (case hr => first | (go_simp; done) | (go_simp; rfl)); (case hp => exact (Reps.c2 (show Kd.M k41 _ _ _ (⟨t151, t152⟩ : S41) [.int .i64 t151, .int .i64 t152] from (k41_mkM _ _ _ (⟨t151, t152⟩ : S41) )) (Reps.c2 (show Kd.M k41 _ _ _ (⟨t153, t154⟩ : S41) [.int .i64 t153, .int .i64 t154] from (k41_mkM _ _ _ (⟨t153, t154⟩ : S41) )) (Reps.c2 (show Kd.M k41 _ _ _ (⟨t155, t156⟩ : S41) [.int .i64 t155, .int .i64 t156] from (k41_mkM _ _ _ (⟨t155, t156⟩ : S41) )) (Reps.c2 (show Kd.M k41 _ _ _ (⟨t157, t158⟩ : S41) [.int .i64 t157, .int .i64 t158] from (k41_mkM _ _ _ (⟨t157, t158⟩ : S41) )) (Reps.none _ _)))))); intro v160 w117 ho118 hb hg_ hnew_; clear hg_ hnew_; (first | rw [← Ny159.out] at ho118 | (simp only [Int.reduceToNat] at ho118; rw [← Ny159.out] at ho118)); have n0_ := Aside0.mk (Kd.R_lower ho118 (below_size (by repeat (first | (with_reducible first | exact HB.out | apply below_alloc | apply pw_below_drewN | apply below_drew1) | exact HB.out)))); have n1_ := Aside0.mk (below_step (by repeat (first | (with_reducible first | exact HB.out | apply below_alloc | apply pw_below_drewN | apply below_drew1) | exact HB.out)) hb); clear HB; have HO161 := n0_; have HB := n1_; clear n0_ n1_; clear hb ho118; obtain ⟨Ao119, co119, eo119⟩ := Kd.R_slice HO161.out; subst eo119) | ((with_reducible refine gate_callee (f := 31) rfl ?_); refine goesL_ (some 11) rfl rfl Try.func31 (by kernel_rfl) rfl #[.slice Ao119 y159.length co119] rfl (by (try simp only [List.map_toArray, List.map_cons, List.map_nil]); first | done | rfl | (simp only [List.length_drop, List.length_take]; rfl)) ?_; (with_reducible refine (past_Of.calls _ _ y159 t162 t163 _ ?side1 ?side2 A5.out).mono ?_); (case side1 => repeat (first | exact (Kd.R_reads' HO161.out).2.2 | (with_reducible refine Kd.C_alloc ?_ _) | (with_reducible refine Kd.C_drewN ?_ _) | (with_reducible refine Kd.C_drew ?_))); (case side2 => exact (Kd.R_reads' HO161.out).2.1); rintro e w120 ⟨v164, rfl, ho0, hb⟩; refine ⟨_, rfl, ?_⟩; have n0_ := Aside0.mk (Kd.R_below (lf HO161.out) hb); have n1_ := Aside0.mk (Kd.R_lower ho0 (below_size (by repeat (first | (with_reducible first | exact HB.out | apply below_alloc | apply pw_below_drewN | apply below_drew1) | exact HB.out)))); have n2_ := Aside0.mk (below_step (by repeat (first | (with_reducible first | exact HB.out | apply below_alloc | apply pw_below_drewN | apply below_drew1) | exact HB.out)) hb); clear HO161; clear HB; have HO161 := n0_; have HO165 := n1_; have HB := n2_; clear n0_ n1_ n2_; (try clear hb); (try clear hb2); (try clear hk); (try clear hi); (try clear ho0)) | ((with_reducible refine gate_dst (N := 15) rfl ?_); (try (refine gate_guard (by rfl) ?_; dsimp only)); refine Kd.R_lit (Kd.int .i64) _ 3 ?hg (N := 15) ?hd (xs := ([1, 1, 258] : List Int)) (inner := [.int .i64 1, .int .i64 1, .int .i64 258]) (ok := fun _ => True) (okp := fun _ => True) ?hr ?hp (fun _ hk => hk) trivial (Below.refl _ _) (Nat.le_refl _) (by simp) ?_; (case hd => rfl); (case hg => rfl); (case hr => first | (go_simp; done) | (go_simp; rfl)); (case hp => exact (Reps.one (show Kd.M (Kd.int .i64) _ _ _ 1 [.int .i64 1] from rfl) (Reps.one (show Kd.M (Kd.int .i64) _ _ _ 1 [.int .i64 1] from rfl) (Reps.one (show Kd.M (Kd.int .i64) _ _ _ 258 [.int .i64 258] from rfl) (Reps.none _ _))))); intro v167 w121 ho122 hb hg_ hnew_; clear hg_ hnew_; (first | rw [← Ny166.out] at ho122 | (simp only [Int.reduceToNat] at ho122; rw [← Ny166.out] at ho122)); have n0_ := Aside0.mk (Kd.R_below (lf HO161.out) hb); have n1_ := Aside0.mk (Kd.R_below (lf HO165.out) hb); have n2_ := Aside0.mk (Kd.R_lower ho122 (below_size (by repeat (first | (with_reducible first | exact HB.out | apply below_alloc | apply pw_below_drewN | apply below_drew1) | exact HB.out)))); have n3_ := Aside0.mk (below_step (by repeat (first | (with_reducible first | exact HB.out | apply below_alloc | apply pw_below_drewN | apply below_drew1) | exact HB.out)) hb); clear HO161; clear HO165; clear HB; have HO161 := n0_; have HO165 := n1_; have HO168 := n2_; have HB := n3_; clear n0_ n1_ n2_ n3_; clear hb ho122; obtain ⟨Ao123, co123, eo123⟩ := Kd.R_slice HO168.out; subst eo123) | ((with_reducible refine gate_callee (f := 43) rfl ?_); refine goesL_ (some 16) rfl rfl Try.func43 (by kernel_rfl) rfl #[.slice Ao123 y166.length co123] rfl (by (try simp only [List.map_toArray, List.map_cons, List.map_nil]); first | done | rfl | (simp only [List.length_drop, List.length_take]; rfl)) ?_; (with_reducible refine (tributarylaw07_of.calls k _ _ y166 t169 _ ?side1 ?side2 A6.out).mono ?_); (case side1 => repeat (first | exact (Kd.R_reads' HO168.out).2.2 | (with_reducible refine Kd.C_alloc ?_ _) | (with_reducible refine Kd.C_drewN ?_ _) | (with_reducible refine Kd.C_drew ?_))); (case side2 => exact (Kd.R_reads' HO168.out).2.1); rintro e w124 ⟨v170, rfl, ho0, hb⟩; refine ⟨_, rfl, ?_⟩; have n0_ := Aside0.mk (Kd.R_below (lf HO161.out) hb); have n1_ := Aside0.mk (Kd.R_elder' (lf HO165.out) (Kd.R_base ho0) hb); have n2_ := Aside0.mk (Kd.R_below (lf HO168.out) hb); have n3_ := Aside0.mk (Kd.R_lower (Kd.R_new' ho0 (Kd.R_lt (lf HO165.out))) (below_size (by repeat (first | (with_reducible first | exact HB.out | apply below_alloc | apply pw_below_drewN | apply below_drew1) | exact HB.out)))); have n4_ := Aside0.mk (below_step (by repeat (first | (with_reducible first | exact HB.out | apply below_alloc | apply pw_below_drewN | apply below_drew1) | exact HB.out)) hb); clear HO161; clear HO165; clear HO168; clear HB; have HO161 := n0_; have HO165 := n1_; have HO168 := n2_; have HO171 := n3_; have HB := n4_; clear n0_ n1_ n2_ n3_ n4_; (try clear hb); (try clear hb2); (try clear hk); (try clear hi); (try clear ho0); obtain ⟨Ao125, co125, eo125⟩ := Kd.R_slice HO171.out; subst eo125) | ((with_reducible refine gate_callee (f := 13) rfl ?_); refine goesL_ (some 17) rfl rfl Try.func13 (by kernel_rfl) rfl #[.slice Ao125 t169.length co125] rfl (by (try simp only [List.map_toArray, List.map_cons, List.map_nil]); first | done | rfl | (simp only [List.length_drop, List.length_take]; rfl)) ?_; (with_reducible refine (past_Bytes.calls k _ _ t169 t172 t173 _ ?side1 ?side2 A7.out).mono ?_); (case side1 => repeat (first | exact (Kd.R_reads' HO171.out).2.2 | (with_reducible refine Kd.C_alloc ?_ _) | (with_reducible refine Kd.C_drewN ?_ _) | (with_reducible refine Kd.C_drew ?_))); (case side2 => exact (Kd.R_reads' HO171.out).2.1); rintro e w126 ⟨v174, rfl, ho0, hb⟩; refine ⟨_, rfl, ?_⟩; have n0_ := Aside0.mk (Kd.R_below (lf HO161.out) hb); have n1_ := Aside0.mk (Kd.R_below (lf HO165.out) hb); have n2_ := Aside0.mk (Kd.R_below (lf HO168.out) hb); have n3_ := Aside0.mk (Kd.R_below (lf HO171.out) hb); have n4_ := Aside0.mk (Kd.Q_lower ho0 (below_size (by repeat (first | (with_reducible first | exact HB.out | apply below_alloc | apply pw_below_drewN | apply below_drew1) | exact HB.out)))); have n5_ := Aside0.mk (below_step (by repeat (first | (with_reducible first | exact HB.out | apply below_alloc | apply pw_below_drewN | apply below_drew1) | exact HB.out)) hb); clear HO161; clear HO165; clear HO168; clear HO171; clear HB; have HO161 := n0_; have HO165 := n1_; have HO168 := n2_; have HO171 := n3_; have HO175 := n4_; have HB := n5_; clear n0_ n1_ n2_ n3_ n4_ n5_; (try clear hb); (try clear hb2); (try clear hk); (try clear hi); (try clear ho0)) | ((with_reducible refine gate_dst (N := 22) rfl ?_); (try (refine gate_guard (by rfl) ?_; dsimp only)); refine Kd.R_lit (Kd.int .i64) _ 3 ?hg (N := 22) ?hd (xs := ([1, 1, 3, 2, 5, 5] : List Int)) (inner := [.int .i64 1, .int .i64 1, .int .i64 3, .int .i64 2, .int .i64 5, .int .i64 5]) (ok := fun _ => True) (okp := fun _ => True) ?hr ?hp (fun _ hk => hk) trivial (Below.refl _ _) (Nat.le_refl _) (by simp) ?_; (case hd => rfl); (case hg => rfl); (case hr => first | (go_simp; done) | (go_simp; rfl)); (case hp => exact (Reps.one (show Kd.M (Kd.int .i64) _ _ _ 1 [.int .i64 1] from rfl) (Reps.one (show Kd.M (Kd.int .i64) _ _ _ 1 [.int .i64 1] from rfl) (Reps.one (show Kd.M (Kd.int .i64) _ _ _ 3 [.int .i64 3] from rfl) (Reps.one (show Kd.M (Kd.int .i64) _ _ _ 2 [.int .i64 2] from rfl) (Reps.one (show Kd.M (Kd.int .i64) _ _ _ 5 [.int .i64 5] from rfl) (Reps.one (show Kd.M (Kd.int .i64) _ _ _ 5 [.int .i64 5] from rfl) (Reps.none _ _)))))))); intro v177 w127 ho128 hb hg_ hnew_; clear hg_ hnew_; (first | rw [← Ny176.out] at ho128 | (simp only [Int.reduceToNat] at ho128; rw [← Ny176.out] at ho128)); have n0_ := Aside0.mk (Kd.R_below (lf HO161.out) hb); have n1_ := Aside0.mk (Kd.R_below (lf HO165.out) hb); have n2_ := Aside0.mk (Kd.R_elder' (lf HO168.out) (Kd.R_base ho128) hb); have n3_ := Aside0.mk (Kd.R_below (lf HO171.out) hb); have n4_ := Aside0.mk (Kd.Q_below (by (with_reducible repeat (first | apply Kd.Q_alloc | apply Kd.Q_drewN | apply Kd.Q_drew)); exact HO175.out) hb); have n5_ := Aside0.mk (Kd.R_lower (Kd.R_new' ho128 (Kd.R_lt (lf HO168.out))) (below_size (by repeat (first | (with_reducible first | exact HB.out | apply below_alloc | apply pw_below_drewN | apply below_drew1) | exact HB.out)))); have n6_ := Aside0.mk (below_step (by repeat (first | (with_reducible first | exact HB.out | apply below_alloc | apply pw_below_drewN | apply below_drew1) | exact HB.out)) hb); clear HO161; clear HO165; clear HO168; clear HO171; clear HO175; clear HB; have HO161 := n0_; have HO165 := n1_; have HO168 := n2_; have HO171 := n3_; have HO175 := n4_; have HO178 := n5_; have HB := n6_; clear n0_ n1_ n2_ n3_ n4_ n5_ n6_; clear hb ho128; obtain ⟨Ao129, co129, eo129⟩ := Kd.R_slice HO165.out; subst eo129; obtain ⟨Ao130, co130, eo130⟩ := Kd.R_slice HO178.out; subst eo130) | ((with_reducible refine gate_callee (f := 44) rfl ?_); refine goesL_ (some 23) rfl rfl Try.func44 (by kernel_rfl) rfl #[.slice Ao129 t162.length co129, .int .i64 t163, .slice Ao130 y176.length co130] rfl (by (try simp only [List.map_toArray, List.map_cons, List.map_nil]); first | done | rfl | (simp only [List.length_drop, List.length_take]; rfl)) ?_; (with_reducible refine (tributarylaw07_is.calls k _ _ t162 t163 _ _ y176 true _ ?side1 ?side2 ?side3 ?side4 A8.out).mono ?_); (case side1 => repeat (first | exact (Kd.R_reads' HO165.out).2.2 | (with_reducible refine Kd.C_alloc ?_ _) | (with_reducible refine Kd.C_drewN ?_ _) | (with_reducible refine Kd.C_drew ?_))); (case side2 => exact (Kd.R_reads' HO165.out).2.1); (case side3 => repeat (first | exact (Kd.R_reads' HO178.out).2.2 | (with_reducible refine Kd.C_alloc ?_ _) | (with_reducible refine Kd.C_drewN ?_ _) | (with_reducible refine Kd.C_drew ?_))); (case side4 => exact (Kd.R_reads' HO178.out).2.1); rintro e w131 ⟨rfl, hb⟩; refine ⟨_, rfl, ?_⟩; have n0_ := Aside0.mk (Kd.R_below (lf HO161.out) hb); have n1_ := Aside0.mk (Kd.R_below (lf HO165.out) hb); have n2_ := Aside0.mk (Kd.R_below (lf HO168.out) hb); have n3_ := Aside0.mk (Kd.R_below (lf HO171.out) hb); have n4_ := Aside0.mk (Kd.Q_below (by (with_reducible repeat (first | apply Kd.Q_alloc | apply Kd.Q_drewN | apply Kd.Q_drew)); exact HO175.out) hb); have n5_ := Aside0.mk (Kd.R_below (lf HO178.out) hb); have n6_ := Aside0.mk (below_step (by repeat (first | (with_reducible first | exact HB.out | apply below_alloc | apply pw_below_drewN | apply below_drew1) | exact HB.out)) hb); clear HO161; clear HO165; clear HO168; clear HO171; clear HO175; clear HO178; clear HB; have HO161 := n0_; have HO165 := n1_; have HO168 := n2_; have HO171 := n3_; have HO175 := n4_; have HO178 := n5_; have HB := n6_; clear n0_ n1_ n2_ n3_ n4_ n5_ n6_; (try clear hb); (try clear hb2); (try clear hk); (try clear hi)) | (go_at_call 26; (with_reducible refine (past_Count.calls k _ _ t162 t180 _ ?side1 ?side2 A10.out).mono ?_); (case side1 => repeat (first | exact (Kd.R_reads' HO165.out).2.2 | (with_reducible refine Kd.C_alloc ?_ _) | (with_reducible refine Kd.C_drewN ?_ _) | (with_reducible refine Kd.C_drew ?_))); (case side2 => exact (Kd.R_reads' HO165.out).2.1); rintro e w132 ⟨rfl, hb⟩; have n0_ := Aside0.mk (Kd.R_below (lf HO161.out) hb); have n1_ := Aside0.mk (Kd.R_below (lf HO165.out) hb); have n2_ := Aside0.mk (Kd.R_below (lf HO168.out) hb); have n3_ := Aside0.mk (Kd.R_below (lf HO171.out) hb); have n4_ := Aside0.mk (Kd.Q_below (by (with_reducible repeat (first | apply Kd.Q_alloc | apply Kd.Q_drewN | apply Kd.Q_drew)); exact HO175.out) hb); have n5_ := Aside0.mk (Kd.R_below (lf HO178.out) hb); have n6_ := Aside0.mk (below_step (by repeat (first | (with_reducible first | exact HB.out | apply below_alloc | apply pw_below_drewN | apply below_drew1) | exact HB.out)) hb); clear HO161; clear HO165; clear HO168; clear HO171; clear HO175; clear HO178; clear HB; have HO161 := n0_; have HO165 := n1_; have HO168 := n2_; have HO171 := n3_; have HO175 := n4_; have HO178 := n5_; have HB := n6_; clear n0_ n1_ n2_ n3_ n4_ n5_ n6_; (try clear hb); (try clear hb2); (try clear hk); (try clear hi)))
      go_ret
      exact ⟨by first | rfl | (simp [errW_none, errW_some] <;> rfl) | (simp [*, errW_none, errW_some] <;> rfl), by repeat (first | (with_reducible first | exact HB.out | apply below_alloc | apply pw_below_drewN | apply below_drew1) | exact HB.out)⟩
  · replace c9 := Bool.eq_false_iff.mpr c9
    subst c9
    have H1 : (some false) = some r := by rw [if_neg (show ¬ (false = true) by decide)] at H; exact H
    clear H
    have H := H1
    clear H1
    obtain rfl := Option.some.inj H
    go_enter Try.func10, Try.ntmps10
    go_wp2_with (first | ((with_reducible refine gate_callee (f := 42) rfl ?_); refine goesL_ (some 6) rfl rfl Try.func42 (by kernel_rfl) rfl #[.int .i64 1, .int .i64 3] rfl (by (try simp only [List.map_toArray, List.map_cons, List.map_nil]); first | done | rfl | (simp only [List.length_drop, List.length_take]; rfl)) ?_; (with_reducible refine (tributarylaw07_at.calls 1 3 t151 t152 _ A1.out).mono ?_); rintro e w133 ⟨rfl, hb⟩; refine ⟨_, rfl, ?_⟩; have n0_ := Aside0.mk (below_step (by repeat (first | (with_reducible first | exact HB.out | apply below_alloc | apply pw_below_drewN | apply below_drew1) | exact HB.out)) hb); clear HB; have HB := n0_; clear n0_; (try clear hb); (try clear hb2); (try clear hk); (try clear hi)) | ((with_reducible refine gate_callee (f := 42) rfl ?_); refine goesL_ (some 7) rfl rfl Try.func42 (by kernel_rfl) rfl #[.int .i64 1, .int .i64 1] rfl (by (try simp only [List.map_toArray, List.map_cons, List.map_nil]); first | done | rfl | (simp only [List.length_drop, List.length_take]; rfl)) ?_; (with_reducible refine (tributarylaw07_at.calls 1 1 t153 t154 _ A2.out).mono ?_); rintro e w134 ⟨rfl, hb⟩; refine ⟨_, rfl, ?_⟩; have n0_ := Aside0.mk (below_step (by repeat (first | (with_reducible first | exact HB.out | apply below_alloc | apply pw_below_drewN | apply below_drew1) | exact HB.out)) hb); clear HB; have HB := n0_; clear n0_; (try clear hb); (try clear hb2); (try clear hk); (try clear hi)) | ((with_reducible refine gate_callee (f := 42) rfl ?_); refine goesL_ (some 8) rfl rfl Try.func42 (by kernel_rfl) rfl #[.int .i64 1, .int .i64 2] rfl (by (try simp only [List.map_toArray, List.map_cons, List.map_nil]); first | done | rfl | (simp only [List.length_drop, List.length_take]; rfl)) ?_; (with_reducible refine (tributarylaw07_at.calls 1 2 t155 t156 _ A3.out).mono ?_); rintro e w135 ⟨rfl, hb⟩; refine ⟨_, rfl, ?_⟩; have n0_ := Aside0.mk (below_step (by repeat (first | (with_reducible first | exact HB.out | apply below_alloc | apply pw_below_drewN | apply below_drew1) | exact HB.out)) hb); clear HB; have HB := n0_; clear n0_; (try clear hb); (try clear hb2); (try clear hk); (try clear hi)) | ((with_reducible refine gate_callee (f := 42) rfl ?_); refine goesL_ (some 9) rfl rfl Try.func42 (by kernel_rfl) rfl #[.int .i64 2, .int .i64 5] rfl (by (try simp only [List.map_toArray, List.map_cons, List.map_nil]); first | done | rfl | (simp only [List.length_drop, List.length_take]; rfl)) ?_; (with_reducible refine (tributarylaw07_at.calls 2 5 t157 t158 _ A4.out).mono ?_); rintro e w136 ⟨rfl, hb⟩; refine ⟨_, rfl, ?_⟩; have n0_ := Aside0.mk (below_step (by repeat (first | (with_reducible first | exact HB.out | apply below_alloc | apply pw_below_drewN | apply below_drew1) | exact HB.out)) hb); clear HB; have HB := n0_; clear n0_; (try clear hb); (try clear hb2); (try clear hk); (try clear hi)) | ((with_reducible refine gate_dst (N := 10) rfl ?_); (try (refine gate_guard (by rfl) ?_; dsimp only)); refine Kd.R_lit k41 _ 41 ?hg (N := 10) ?hd (xs := ([(⟨t151, t152⟩ : S41), (⟨t153, t154⟩ : S41), (⟨t155, t156⟩ : S41), (⟨t157, t158⟩ : S41)] : List (S41))) (inner := [.int .i64 t151, .int .i64 t152, .int .i64 t153, .int .i64 t154, .int .i64 t155, .int .i64 t156, .int .i64 t157, .int .i64 t158]) (ok := fun _ => True) (okp := fun _ => True) ?hr ?hp (fun _ hk => hk) trivial (Below.refl _ _) (Nat.le_refl _) (by simp) ?_; (case hd => rfl); (case hg => rfl); (case hr => first | (go_simp; done) | (go_simp; rfl)); (case hp => exact (Reps.c2 (show Kd.M k41 _ _ _ (⟨t151, t152⟩ : S41) [.int .i64 t151, .int .i64 t152] from (k41_mkM _ _ _ (⟨t151, t152⟩ : S41) )) (Reps.c2 (show Kd.M k41 _ _ _ (⟨t153, t154⟩ : S41) [.int .i64 t153, .int .i64 t154] from (k41_mkM _ _ _ (⟨t153, t154⟩ : S41) )) (Reps.c2 (show Kd.M k41 _ _ _ (⟨t155, t156⟩ : S41) [.int .i64 t155, .int .i64 t156] from (k41_mkM _ _ _ (⟨t155, t156⟩ : S41) )) (Reps.c2 (show Kd.M k41 _ _ _ (⟨t157, t158⟩ : S41) [.int .i64 t157, .int .i64 t158] from (k41_mkM _ _ _ (⟨t157, t158⟩ : S41) )) (Reps.none _ _)))))); intro v160 w137 ho138 hb hg_ hnew_; clear hg_ hnew_; (first | rw [← Ny159.out] at ho138 | (simp only [Int.reduceToNat] at ho138; rw [← Ny159.out] at ho138)); have n0_ := Aside0.mk (Kd.R_lower ho138 (below_size (by repeat (first | (with_reducible first | exact HB.out | apply below_alloc | apply pw_below_drewN | apply below_drew1) | exact HB.out)))); have n1_ := Aside0.mk (below_step (by repeat (first | (with_reducible first | exact HB.out | apply below_alloc | apply pw_below_drewN | apply below_drew1) | exact HB.out)) hb); clear HB; have HO161 := n0_; have HB := n1_; clear n0_ n1_; clear hb ho138; obtain ⟨Ao139, co139, eo139⟩ := Kd.R_slice HO161.out; subst eo139) | ((with_reducible refine gate_callee (f := 31) rfl ?_); refine goesL_ (some 11) rfl rfl Try.func31 (by kernel_rfl) rfl #[.slice Ao139 y159.length co139] rfl (by (try simp only [List.map_toArray, List.map_cons, List.map_nil]); first | done | rfl | (simp only [List.length_drop, List.length_take]; rfl)) ?_; (with_reducible refine (past_Of.calls _ _ y159 t162 t163 _ ?side1 ?side2 A5.out).mono ?_); (case side1 => repeat (first | exact (Kd.R_reads' HO161.out).2.2 | (with_reducible refine Kd.C_alloc ?_ _) | (with_reducible refine Kd.C_drewN ?_ _) | (with_reducible refine Kd.C_drew ?_))); (case side2 => exact (Kd.R_reads' HO161.out).2.1); rintro e w140 ⟨v164, rfl, ho0, hb⟩; refine ⟨_, rfl, ?_⟩; have n0_ := Aside0.mk (Kd.R_below (lf HO161.out) hb); have n1_ := Aside0.mk (Kd.R_lower ho0 (below_size (by repeat (first | (with_reducible first | exact HB.out | apply below_alloc | apply pw_below_drewN | apply below_drew1) | exact HB.out)))); have n2_ := Aside0.mk (below_step (by repeat (first | (with_reducible first | exact HB.out | apply below_alloc | apply pw_below_drewN | apply below_drew1) | exact HB.out)) hb); clear HO161; clear HB; have HO161 := n0_; have HO165 := n1_; have HB := n2_; clear n0_ n1_ n2_; (try clear hb); (try clear hb2); (try clear hk); (try clear hi); (try clear ho0)) | ((with_reducible refine gate_dst (N := 15) rfl ?_); (try (refine gate_guard (by rfl) ?_; dsimp only)); refine Kd.R_lit (Kd.int .i64) _ 3 ?hg (N := 15) ?hd (xs := ([1, 1, 258] : List Int)) (inner := [.int .i64 1, .int .i64 1, .int .i64 258]) (ok := fun _ => True) (okp := fun _ => True) ?hr ?hp (fun _ hk => hk) trivial (Below.refl _ _) (Nat.le_refl _) (by simp) ?_; (case hd => rfl); (case hg => rfl); (case hr => first | (go_simp; done) | (go_simp; rfl)); (case hp => exact (Reps.one (show Kd.M (Kd.int .i64) _ _ _ 1 [.int .i64 1] from rfl) (Reps.one (show Kd.M (Kd.int .i64) _ _ _ 1 [.int .i64 1] from rfl) (Reps.one (show Kd.M (Kd.int .i64) _ _ _ 258 [.int .i64 258] from rfl) (Reps.none _ _))))); intro v167 w141 ho142 hb hg_ hnew_; clear hg_ hnew_; (first | rw [← Ny166.out] at ho142 | (simp only [Int.reduceToNat] at ho142; rw [← Ny166.out] at ho142)); have n0_ := Aside0.mk (Kd.R_below (lf HO161.out) hb); have n1_ := Aside0.mk (Kd.R_below (lf HO165.out) hb); have n2_ := Aside0.mk (Kd.R_lower ho142 (below_size (by repeat (first | (with_reducible first | exact HB.out | apply below_alloc | apply pw_below_drewN | apply below_drew1) | exact HB.out)))); have n3_ := Aside0.mk (below_step (by repeat (first | (with_reducible first | exact HB.out | apply below_alloc | apply pw_below_drewN | apply below_drew1) | exact HB.out)) hb); clear HO161; clear HO165; clear HB; have HO161 := n0_; have HO165 := n1_; have HO168 := n2_; have HB := n3_; clear n0_ n1_ n2_ n3_; clear hb ho142; obtain ⟨Ao143, co143, eo143⟩ := Kd.R_slice HO168.out; subst eo143) | ((with_reducible refine gate_callee (f := 43) rfl ?_); refine goesL_ (some 16) rfl rfl Try.func43 (by kernel_rfl) rfl #[.slice Ao143 y166.length co143] rfl (by (try simp only [List.map_toArray, List.map_cons, List.map_nil]); first | done | rfl | (simp only [List.length_drop, List.length_take]; rfl)) ?_; (with_reducible refine (tributarylaw07_of.calls k _ _ y166 t169 _ ?side1 ?side2 A6.out).mono ?_); (case side1 => repeat (first | exact (Kd.R_reads' HO168.out).2.2 | (with_reducible refine Kd.C_alloc ?_ _) | (with_reducible refine Kd.C_drewN ?_ _) | (with_reducible refine Kd.C_drew ?_))); (case side2 => exact (Kd.R_reads' HO168.out).2.1); rintro e w144 ⟨v170, rfl, ho0, hb⟩; refine ⟨_, rfl, ?_⟩; have n0_ := Aside0.mk (Kd.R_below (lf HO161.out) hb); have n1_ := Aside0.mk (Kd.R_elder' (lf HO165.out) (Kd.R_base ho0) hb); have n2_ := Aside0.mk (Kd.R_below (lf HO168.out) hb); have n3_ := Aside0.mk (Kd.R_lower (Kd.R_new' ho0 (Kd.R_lt (lf HO165.out))) (below_size (by repeat (first | (with_reducible first | exact HB.out | apply below_alloc | apply pw_below_drewN | apply below_drew1) | exact HB.out)))); have n4_ := Aside0.mk (below_step (by repeat (first | (with_reducible first | exact HB.out | apply below_alloc | apply pw_below_drewN | apply below_drew1) | exact HB.out)) hb); clear HO161; clear HO165; clear HO168; clear HB; have HO161 := n0_; have HO165 := n1_; have HO168 := n2_; have HO171 := n3_; have HB := n4_; clear n0_ n1_ n2_ n3_ n4_; (try clear hb); (try clear hb2); (try clear hk); (try clear hi); (try clear ho0); obtain ⟨Ao145, co145, eo145⟩ := Kd.R_slice HO171.out; subst eo145) | ((with_reducible refine gate_callee (f := 13) rfl ?_); refine goesL_ (some 17) rfl rfl Try.func13 (by kernel_rfl) rfl #[.slice Ao145 t169.length co145] rfl (by (try simp only [List.map_toArray, List.map_cons, List.map_nil]); first | done | rfl | (simp only [List.length_drop, List.length_take]; rfl)) ?_; (with_reducible refine (past_Bytes.calls k _ _ t169 t172 t173 _ ?side1 ?side2 A7.out).mono ?_); (case side1 => repeat (first | exact (Kd.R_reads' HO171.out).2.2 | (with_reducible refine Kd.C_alloc ?_ _) | (with_reducible refine Kd.C_drewN ?_ _) | (with_reducible refine Kd.C_drew ?_))); (case side2 => exact (Kd.R_reads' HO171.out).2.1); rintro e w146 ⟨v174, rfl, ho0, hb⟩; refine ⟨_, rfl, ?_⟩; have n0_ := Aside0.mk (Kd.R_below (lf HO161.out) hb); have n1_ := Aside0.mk (Kd.R_below (lf HO165.out) hb); have n2_ := Aside0.mk (Kd.R_below (lf HO168.out) hb); have n3_ := Aside0.mk (Kd.R_below (lf HO171.out) hb); have n4_ := Aside0.mk (Kd.Q_lower ho0 (below_size (by repeat (first | (with_reducible first | exact HB.out | apply below_alloc | apply pw_below_drewN | apply below_drew1) | exact HB.out)))); have n5_ := Aside0.mk (below_step (by repeat (first | (with_reducible first | exact HB.out | apply below_alloc | apply pw_below_drewN | apply below_drew1) | exact HB.out)) hb); clear HO161; clear HO165; clear HO168; clear HO171; clear HB; have HO161 := n0_; have HO165 := n1_; have HO168 := n2_; have HO171 := n3_; have HO175 := n4_; have HB := n5_; clear n0_ n1_ n2_ n3_ n4_ n5_; (try clear hb); (try clear hb2); (try clear hk); (try clear hi); (try clear ho0)) | ((with_reducible refine gate_dst (N := 22) rfl ?_); (try (refine gate_guard (by rfl) ?_; dsimp only)); refine Kd.R_lit (Kd.int .i64) _ 3 ?hg (N := 22) ?hd (xs := ([1, 1, 3, 2, 5, 5] : List Int)) (inner := [.int .i64 1, .int .i64 1, .int .i64 3, .int .i64 2, .int .i64 5, .int .i64 5]) (ok := fun _ => True) (okp := fun _ => True) ?hr ?hp (fun _ hk => hk) trivial (Below.refl _ _) (Nat.le_refl _) (by simp) ?_; (case hd => rfl); (case hg => rfl); (case hr => first | (go_simp; done) | (go_simp; rfl)); (case hp => exact (Reps.one (show Kd.M (Kd.int .i64) _ _ _ 1 [.int .i64 1] from rfl) (Reps.one (show Kd.M (Kd.int .i64) _ _ _ 1 [.int .i64 1] from rfl) (Reps.one (show Kd.M (Kd.int .i64) _ _ _ 3 [.int .i64 3] from rfl) (Reps.one (show Kd.M (Kd.int .i64) _ _ _ 2 [.int .i64 2] from rfl) (Reps.one (show Kd.M (Kd.int .i64) _ _ _ 5 [.int .i64 5] from rfl) (Reps.one (show Kd.M (Kd.int .i64) _ _ _ 5 [.int .i64 5] from rfl) (Reps.none _ _)))))))); intro v177 w147 ho148 hb hg_ hnew_; clear hg_ hnew_; (first | rw [← Ny176.out] at ho148 | (simp only [Int.reduceToNat] at ho148; rw [← Ny176.out] at ho148)); have n0_ := Aside0.mk (Kd.R_below (lf HO161.out) hb); have n1_ := Aside0.mk (Kd.R_below (lf HO165.out) hb); have n2_ := Aside0.mk (Kd.R_elder' (lf HO168.out) (Kd.R_base ho148) hb); have n3_ := Aside0.mk (Kd.R_below (lf HO171.out) hb); have n4_ := Aside0.mk (Kd.Q_below (by (with_reducible repeat (first | apply Kd.Q_alloc | apply Kd.Q_drewN | apply Kd.Q_drew)); exact HO175.out) hb); have n5_ := Aside0.mk (Kd.R_lower (Kd.R_new' ho148 (Kd.R_lt (lf HO168.out))) (below_size (by repeat (first | (with_reducible first | exact HB.out | apply below_alloc | apply pw_below_drewN | apply below_drew1) | exact HB.out)))); have n6_ := Aside0.mk (below_step (by repeat (first | (with_reducible first | exact HB.out | apply below_alloc | apply pw_below_drewN | apply below_drew1) | exact HB.out)) hb); clear HO161; clear HO165; clear HO168; clear HO171; clear HO175; clear HB; have HO161 := n0_; have HO165 := n1_; have HO168 := n2_; have HO171 := n3_; have HO175 := n4_; have HO178 := n5_; have HB := n6_; clear n0_ n1_ n2_ n3_ n4_ n5_ n6_; clear hb ho148; obtain ⟨Ao149, co149, eo149⟩ := Kd.R_slice HO165.out; subst eo149; obtain ⟨Ao150, co150, eo150⟩ := Kd.R_slice HO178.out; subst eo150) | ((with_reducible refine gate_callee (f := 44) rfl ?_); refine goesL_ (some 23) rfl rfl Try.func44 (by kernel_rfl) rfl #[.slice Ao149 t162.length co149, .int .i64 t163, .slice Ao150 y176.length co150] rfl (by (try simp only [List.map_toArray, List.map_cons, List.map_nil]); first | done | rfl | (simp only [List.length_drop, List.length_take]; rfl)) ?_; (with_reducible refine (tributarylaw07_is.calls k _ _ t162 t163 _ _ y176 false _ ?side1 ?side2 ?side3 ?side4 A8.out).mono ?_); (case side1 => repeat (first | exact (Kd.R_reads' HO165.out).2.2 | (with_reducible refine Kd.C_alloc ?_ _) | (with_reducible refine Kd.C_drewN ?_ _) | (with_reducible refine Kd.C_drew ?_))); (case side2 => exact (Kd.R_reads' HO165.out).2.1); (case side3 => repeat (first | exact (Kd.R_reads' HO178.out).2.2 | (with_reducible refine Kd.C_alloc ?_ _) | (with_reducible refine Kd.C_drewN ?_ _) | (with_reducible refine Kd.C_drew ?_))); (case side4 => exact (Kd.R_reads' HO178.out).2.1); rintro e w151 ⟨rfl, hb⟩; refine ⟨_, rfl, ?_⟩; have n0_ := Aside0.mk (Kd.R_below (lf HO161.out) hb); have n1_ := Aside0.mk (Kd.R_below (lf HO165.out) hb); have n2_ := Aside0.mk (Kd.R_below (lf HO168.out) hb); have n3_ := Aside0.mk (Kd.R_below (lf HO171.out) hb); have n4_ := Aside0.mk (Kd.Q_below (by (with_reducible repeat (first | apply Kd.Q_alloc | apply Kd.Q_drewN | apply Kd.Q_drew)); exact HO175.out) hb); have n5_ := Aside0.mk (Kd.R_below (lf HO178.out) hb); have n6_ := Aside0.mk (below_step (by repeat (first | (with_reducible first | exact HB.out | apply below_alloc | apply pw_below_drewN | apply below_drew1) | exact HB.out)) hb); clear HO161; clear HO165; clear HO168; clear HO171; clear HO175; clear HO178; clear HB; have HO161 := n0_; have HO165 := n1_; have HO168 := n2_; have HO171 := n3_; have HO175 := n4_; have HO178 := n5_; have HB := n6_; clear n0_ n1_ n2_ n3_ n4_ n5_ n6_; (try clear hb); (try clear hb2); (try clear hk); (try clear hi)))
    go_ret
    exact ⟨by first | rfl | (simp [errW_none, errW_some] <;> rfl) | (simp [*, errW_none, errW_some] <;> rfl), by repeat (first | (with_reducible first | exact HB.out | apply below_alloc | apply pw_below_drewN | apply below_drew1) | exact HB.out)⟩
end
end Go.Proofs.YtdelfhahbngcfaaX.P07
end
section
namespace Go.Proofs.YtdelfhahbngcfaaX.P07
open Go.RowKit Go.Proofs.YtdelfhahbngcfaaW.PrintWords Go.Proofs.YtdelfhahbngcfaaW.PrintLast Go.Proofs.YtdelfhahbngcfaaW.PrintMore
attribute [local go_sem] max2_int min2_int max_two min_two max_three min_three max_four min_four   -- for this text's walks alone
set_option linter.unusedVariables false
set_option linter.unusedSimpArgs false
section
end
section
end
section
def past_Within.f (k : Nat) (l0 : List (S60)) (l1 : List (S60)) : Option (Bool) := (past_Minus.f k l0 l1).bind fun bt273 => (if bt273.2 = 0 then (some ((bt273.1.length : Int) == 0)) else (some false))
theorem past_Within.mono : ∀ a0 a1 k, LeO (past_Within.f k a0 a1) (past_Within.f (k + 1) a0 a1) := by
  intro a0 a1 k
  unfold past_Within.f
  repeat' first
      | (with_reducible exact past_Minus.mono _ _ _)
      | (with_reducible exact LeO.refl _)
      | (with_reducible exact LeO.none _)
      | (with_reducible refine LeO.ite ?_ ?_)
      | (with_reducible refine LeO.bind ?_ (fun _ => ?_))
      | exact past_Minus.mono _ _ _
      | exact LeO.none _
      | refine LeO.ite ?_ ?_
      | refine LeO.bind ?_ (fun _ => ?_)
set_option maxHeartbeats 8000000 in
set_option maxRecDepth 100000 in
theorem past_Within.calls (k : Nat) (A0 : Option Addr) (c0 : Nat) (l0 : List (S60)) (A1 : Option Addr) (c1 : Nat) (l1 : List (S60)) (r : Bool) (w : World) (hr0 : Kd.C k60 w A0 l0.length l0) (hc0 : l0.length ≤ c0) (hr1 : Kd.C k60 w A1 l1.length l1) (hc1 : l1.length ≤ c1) (h : past_Within.f k l0 l1 = some r) :
    Calls Try.prog 40 #[.slice A0 l0.length c0, .slice A1 l1.length c1] w fun e w' => e = .returned (.bool r) ∧ Below w.heap.size w w' := by
  have HR0 := Aside0.mk hr0
  have HC0 := Aside0.mk hc0
  clear hr0 hc0
  have HR1 := Aside0.mk hr1
  have HC1 := Aside0.mk hc1
  clear hr1 hc1
  have HB := Aside0.mk (Below.refl w.heap.size w)
  have H : ((past_Minus.f k l0 l1).bind fun bt273 => (if bt273.2 = 0 then (some ((bt273.1.length : Int) == 0)) else (some false))) = some r := h
  clear h
  replace H := Option.bind_eq_some_iff.mp H
  obtain ⟨⟨t273, t274⟩, A30, H⟩ := H
  replace H : (if t274 = 0 then (some ((t273.length : Int) == 0)) else (some false)) = some r := H
  have A3 := Aside0.mk A30
  clear A30
  by_cases c4 : t274 = 0
  · rw [if_pos c4] at H
    have c4b0 : (t274 == 0) = true := beq_iff_eq.mpr c4
    have c4b1 : (t274 != 0) = false := bne_eq_false_iff_eq.mpr c4
    clear c4
    obtain rfl := Option.some.inj H
    go_enter Try.func40, Try.ntmps40
    go_wp2_with (first | ((with_reducible refine gate_callee (f := 35) rfl ?_); refine goesL_ (some 10) rfl rfl Try.func35 (by kernel_rfl) rfl #[.slice A0 l0.length c0, .slice A1 l1.length c1] rfl (by (try simp only [List.map_toArray, List.map_cons, List.map_nil]); first | done | rfl | (simp only [List.length_drop, List.length_take]; rfl)) ?_; (with_reducible refine (past_Minus.calls k _ _ l0 _ _ l1 t273 t274 _ ?side1 ?side2 ?side3 ?side4 A3.out).mono ?_); (case side1 => repeat (first | exact HR0.out | (with_reducible refine Kd.C_alloc ?_ _) | (with_reducible refine Kd.C_drewN ?_ _) | (with_reducible refine Kd.C_drew ?_))); (case side2 => exact HC0.out); (case side3 => repeat (first | exact HR1.out | (with_reducible refine Kd.C_alloc ?_ _) | (with_reducible refine Kd.C_drewN ?_ _) | (with_reducible refine Kd.C_drew ?_))); (case side4 => exact HC1.out); rintro e w5 ⟨v275, rfl, ho0, hb⟩; refine ⟨_, rfl, ?_⟩; have n0_ := Aside0.mk (Kd.R_lower ho0 (below_size (by repeat (first | (with_reducible first | exact HB.out | apply below_alloc | apply pw_below_drewN | apply below_drew1) | exact HB.out)))); have n1_ := Aside0.mk (below_step (by repeat (first | (with_reducible first | exact HB.out | apply below_alloc | apply pw_below_drewN | apply below_drew1) | exact HB.out)) hb); clear HB; have HO276 := n0_; have HB := n1_; clear n0_ n1_; (try clear hb); (try clear hb2); (try clear hk); (try clear hi); (try clear ho0); obtain ⟨Ao6, co6, eo6⟩ := Kd.R_slice HO276.out; subst eo6))
    go_ret
    exact ⟨by first | rfl | (simp [errW_none, errW_some] <;> rfl) | (simp [*, errW_none, errW_some] <;> rfl), by repeat (first | (with_reducible first | exact HB.out | apply below_alloc | apply pw_below_drewN | apply below_drew1) | exact HB.out)⟩
  · rw [if_neg c4] at H
    have c4b0 : (t274 == 0) = false := beq_eq_false_iff_ne.mpr c4
    have c4b1 : (t274 != 0) = true := bne_iff_ne.mpr c4
    obtain rfl := Option.some.inj H
    go_enter Try.func40, Try.ntmps40
    go_wp2_with (first | ((with_reducible refine gate_callee (f := 35) rfl ?_); refine goesL_ (some 10) rfl rfl Try.func35 (by kernel_rfl) rfl #[.slice A0 l0.length c0, .slice A1 l1.length c1] rfl (by (try simp only [List.map_toArray, List.map_cons, List.map_nil]); first | done | rfl | (simp only [List.length_drop, List.length_take]; rfl)) ?_; (with_reducible refine (past_Minus.calls k _ _ l0 _ _ l1 t273 t274 _ ?side1 ?side2 ?side3 ?side4 A3.out).mono ?_); (case side1 => repeat (first | exact HR0.out | (with_reducible refine Kd.C_alloc ?_ _) | (with_reducible refine Kd.C_drewN ?_ _) | (with_reducible refine Kd.C_drew ?_))); (case side2 => exact HC0.out); (case side3 => repeat (first | exact HR1.out | (with_reducible refine Kd.C_alloc ?_ _) | (with_reducible refine Kd.C_drewN ?_ _) | (with_reducible refine Kd.C_drew ?_))); (case side4 => exact HC1.out); rintro e w7 ⟨v275, rfl, ho0, hb⟩; refine ⟨_, rfl, ?_⟩; have n0_ := Aside0.mk (Kd.R_lower ho0 (below_size (by repeat (first | (with_reducible first | exact HB.out | apply below_alloc | apply pw_below_drewN | apply below_drew1) | exact HB.out)))); have n1_ := Aside0.mk (below_step (by repeat (first | (with_reducible first | exact HB.out | apply below_alloc | apply pw_below_drewN | apply below_drew1) | exact HB.out)) hb); clear HB; have HO276 := n0_; have HB := n1_; clear n0_ n1_; (try clear hb); (try clear hb2); (try clear hk); (try clear hi); (try clear ho0)))
    go_ret
    exact ⟨by first | rfl | (simp [errW_none, errW_some] <;> rfl) | (simp [*, errW_none, errW_some] <;> rfl), by repeat (first | (with_reducible first | exact HB.out | apply below_alloc | apply pw_below_drewN | apply below_drew1) | exact HB.out)⟩
end
section
end
end Go.Proofs.YtdelfhahbngcfaaX.P07
end
section
namespace Go.Proofs.YtdelfhahbngcfaaX.P07
open Go.RowKit Go.Proofs.YtdelfhahbngcfaaW.PrintWords Go.Proofs.YtdelfhahbngcfaaW.PrintLast Go.Proofs.YtdelfhahbngcfaaW.PrintMore
attribute [local go_sem] max2_int min2_int max_two min_two max_three min_three max_four min_four   -- for this text's walks alone
set_option linter.unusedVariables false
set_option linter.unusedSimpArgs false
section
def past_Add.f (k : Nat) (l0 : List (S60)) (a1_0 : Int) (a1_1 : Int) : Option ((List (S60)) × Int) := (past_Check.f k l0).bind fun t338 => (if t338 = 0 then ((dot_Check.f a1_0 a1_1).bind fun t339 => (if t339 = 0 then ((past_Join.f k l0 (([(⟨a1_0, a1_1, a1_1⟩ : S60)] : List (S60)))).bind fun bt343 => (some (bt343.1, bt343.2))) else (some (([] : List (S60)), 2)))) else (some (([] : List (S60)), 2)))
theorem past_Add.mono : ∀ a0 a1 a2 k, LeO (past_Add.f k a0 a1 a2) (past_Add.f (k + 1) a0 a1 a2) := by
  intro a0 a1 a2 k
  unfold past_Add.f
  repeat' first
      | (with_reducible exact past_Check.mono _ _)
      | (with_reducible exact past_Join.mono _ _ _)
      | (with_reducible exact LeO.refl _)
      | (with_reducible exact LeO.none _)
      | (with_reducible refine LeO.ite ?_ ?_)
      | (with_reducible refine LeO.bind ?_ (fun _ => ?_))
      | exact past_Check.mono _ _
      | exact past_Join.mono _ _ _
      | exact LeO.none _
      | refine LeO.ite ?_ ?_
      | refine LeO.bind ?_ (fun _ => ?_)
set_option maxHeartbeats 8000000 in
set_option maxRecDepth 100000 in
theorem past_Add.calls (k : Nat) (A0 : Option Addr) (c0 : Nat) (l0 : List (S60)) (a1_0 : Int) (a1_1 : Int) (r1 : List (S60)) (r2 : Int) (w : World) (hr0 : Kd.C k60 w A0 l0.length l0) (hc0 : l0.length ≤ c0) (h : past_Add.f k l0 a1_0 a1_1 = some (r1, r2)) :
    Calls Try.prog 22 #[.slice A0 l0.length c0, .agg #[.int .i64 a1_0, .int .i64 a1_1]] w fun e w' => ∃ v0_ : Value, e = .returned (.tuple #[v0_, .int .i64 r2]) ∧ Kd.R k60 60 w' w.heap.size (fun _ => True) v0_ r1 ∧ Below w.heap.size w w' := by
  have hu41 := Try.underlying41
  have hu60 := Try.underlying60
  have HR0 := Aside0.mk hr0
  have HC0 := Aside0.mk hc0
  clear hr0 hc0
  have HB := Aside0.mk (Below.refl w.heap.size w)
  have H : ((past_Check.f k l0).bind fun t338 => (if t338 = 0 then ((dot_Check.f a1_0 a1_1).bind fun t339 => (if t339 = 0 then ((past_Join.f k l0 (([(⟨a1_0, a1_1, a1_1⟩ : S60)] : List (S60)))).bind fun bt343 => (some (bt343.1, bt343.2))) else (some (([] : List (S60)), 2)))) else (some (([] : List (S60)), 2)))) = some (r1, r2) := h
  clear h
  replace H := Option.bind_eq_some_iff.mp H
  obtain ⟨t338, A30, H⟩ := H
  replace H : (if t338 = 0 then ((dot_Check.f a1_0 a1_1).bind fun t339 => (if t339 = 0 then ((past_Join.f k l0 (([(⟨a1_0, a1_1, a1_1⟩ : S60)] : List (S60)))).bind fun bt343 => (some (bt343.1, bt343.2))) else (some (([] : List (S60)), 2)))) else (some (([] : List (S60)), 2))) = some (r1, r2) := H
  have A3 := Aside0.mk A30
  clear A30
  by_cases c4 : t338 = 0
  · rw [if_pos c4] at H
    have c4b0 : (t338 == 0) = true := beq_iff_eq.mpr c4
    have c4b1 : (t338 != 0) = false := bne_eq_false_iff_eq.mpr c4
    clear c4
    replace H := Option.bind_eq_some_iff.mp H
    obtain ⟨t339, A50, H⟩ := H
    replace H : (if t339 = 0 then ((past_Join.f k l0 (([(⟨a1_0, a1_1, a1_1⟩ : S60)] : List (S60)))).bind fun bt343 => (some (bt343.1, bt343.2))) else (some (([] : List (S60)), 2))) = some (r1, r2) := H
    have A5 := Aside0.mk A50
    clear A50
    by_cases c6 : t339 = 0
    · rw [if_pos c6] at H
      have c6b0 : (t339 == 0) = true := beq_iff_eq.mpr c6
      have c6b1 : (t339 != 0) = false := bne_eq_false_iff_eq.mpr c6
      clear c6
      obtain ⟨y340, hy340⟩ : ∃ y_ : List (S60), y_ = (([(⟨a1_0, a1_1, a1_1⟩ : S60)] : List (S60))) := ⟨_, rfl⟩
      replace H : ((past_Join.f k l0 y340).bind fun bt343 => (some (bt343.1, bt343.2))) = some (r1, r2) := by first | (rw [hy340]; with_reducible exact H) | (have H2_ := (Option.bind_some _ _).symm.trans H; rw [hy340]; with_reducible exact H2_) | (have H2_ := (Option.bind_some _ _).symm.trans H; with_reducible exact H2_) | with_reducible exact H | (rw [hy340]; exact H) | exact H
      have Ny340 := Aside0.mk hy340
      clear hy340
      replace H := Option.bind_eq_some_iff.mp H
      obtain ⟨⟨t343, t344⟩, A70, H⟩ := H
      replace H : (some (t343, t344)) = some (r1, r2) := H
      have A7 := Aside0.mk A70
      clear A70
      simp only [Option.some.injEq, Prod.mk.injEq] at H
      obtain ⟨rfl, rfl⟩ := H
      go_enter Try.func22, Try.ntmps22
      go_wp2_with (first | ((with_reducible refine gate_dst (N := 3) rfl ?_); refine box_event ?hg (N := 3) ?hd (cs := #[.int .i64 a1_0, .int .i64 a1_1]) (t := 41) ?hr ?_; (case hd => rfl); (case hg => rfl); (case hr => first | (go_simp; done) | (go_simp; rfl)); intro gb337 hg w8 hbox hb; have n0_ := Aside0.mk (below_step (by repeat (first | (with_reducible first | exact HB.out | apply below_alloc | apply pw_below_drewN | apply below_drew1) | exact HB.out)) hb); have n1_ := Aside0.mk (hbox); have n2_ := Aside0.mk ((by rw [hg]; exact (below_size (by repeat (first | (with_reducible first | exact HB.out | apply below_alloc | apply pw_below_drewN | apply below_drew1) | exact HB.out))) : w.heap.size ≤ gb337)); have n3_ := Aside0.mk ((by rw [hg]; exact (below_size (by repeat (first | (with_reducible first | exact HB.out | apply below_alloc | apply pw_below_drewN | apply below_drew1) | exact HB.out))) : w.heap.size ≤ gb337)); clear HB; have HB := n0_; have BK337 := n1_; have GW337 := n2_; have GE337 := n3_; clear n0_ n1_ n2_ n3_; clear hb hbox hg) | ((with_reducible refine gate_callee (f := 38) rfl ?_); refine goesL_ (some 7) rfl rfl Try.func38 (by kernel_rfl) rfl #[.slice A0 l0.length c0] rfl (by (try simp only [List.map_toArray, List.map_cons, List.map_nil]); first | done | rfl | (simp only [List.length_drop, List.length_take]; rfl)) ?_; (with_reducible refine (past_Check.calls k _ _ l0 t338 _ ?side1 ?side2 A3.out).mono ?_); (case side1 => repeat (first | exact (Kd.C_below HR0.out HB.out) | (with_reducible refine Kd.C_alloc ?_ _) | (with_reducible refine Kd.C_drewN ?_ _) | (with_reducible refine Kd.C_drew ?_))); (case side2 => exact HC0.out); rintro e w9 ⟨rfl, hb⟩; refine ⟨_, rfl, ?_⟩; have n0_ := Aside0.mk (blk_below (g := gb337) (o := .cells #[.int .i64 a1_0, .int .i64 a1_1] 41 (0, 0)) (by (with_reducible repeat (first | refine blk_drewN ?_ _ | refine blk_drew ?_ | refine blk_alloc ?_ _)); exact BK337.out) hb); have n1_ := Aside0.mk (below_step (by repeat (first | (with_reducible first | exact HB.out | apply below_alloc | apply pw_below_drewN | apply below_drew1 | refine below_set ?_ GE337.out) | exact HB.out)) hb); clear BK337; clear HB; have BK337 := n0_; have HB := n1_; clear n0_ n1_; (try clear hb); (try clear hb2); (try clear hk); (try clear hi); have hcz10_0 : w9.cell? ⟨gb337, 0, none⟩ = some (.int .i64 a1_0) := (blk_cell BK337.out 0).trans rfl; have hcz10_1 : w9.cell? ⟨gb337, 1, none⟩ = some (.int .i64 a1_1) := (blk_cell BK337.out 1).trans rfl; have hfz10_0 := blk_frozen BK337.out 0; have hfz10_1 := blk_frozen BK337.out 1) | (go_at_call 52; (with_reducible refine (dot_Check.calls a1_0 a1_1 t339 _ A5.out).mono ?_); rintro e w11 ⟨rfl, hb⟩; have n0_ := Aside0.mk (blk_below (g := gb337) (o := .cells #[.int .i64 a1_0, .int .i64 a1_1] 41 (0, 0)) (by (with_reducible repeat (first | refine blk_drewN ?_ _ | refine blk_drew ?_ | refine blk_alloc ?_ _)); exact BK337.out) hb); have n1_ := Aside0.mk (below_step (by repeat (first | (with_reducible first | exact HB.out | apply below_alloc | apply pw_below_drewN | apply below_drew1 | refine below_set ?_ GE337.out) | exact HB.out)) hb); clear BK337; clear HB; have BK337 := n0_; have HB := n1_; clear n0_ n1_; (try clear hb); (try clear hb2); (try clear hk); (try clear hi); have hcz12_0 : w11.cell? ⟨gb337, 0, none⟩ = some (.int .i64 a1_0) := (blk_cell BK337.out 0).trans rfl; have hcz12_1 : w11.cell? ⟨gb337, 1, none⟩ = some (.int .i64 a1_1) := (blk_cell BK337.out 1).trans rfl; have hfz12_0 := blk_frozen BK337.out 0; have hfz12_1 := blk_frozen BK337.out 1) | ((with_reducible refine gate_dst (N := 22) rfl ?_); refine Kd.R_lit k60 _ 60 ?hg (N := 22) ?hd (xs := ([(⟨a1_0, a1_1, a1_1⟩ : S60)] : List (S60))) (inner := [.int .i64 a1_0, .int .i64 a1_1, .int .i64 a1_1]) (ok := fun _ => True) (okp := fun _ => True) ?hr ?hp (fun _ hk => hk) trivial (Below.refl _ _) (Nat.le_refl _) (by simp) ?_; (case hd => rfl); (case hg => rfl); (case hr => first | (go_simp; done) | (go_simp; rfl)); (case hp => exact (Reps.c3 (show Kd.M k60 _ _ _ (⟨a1_0, a1_1, a1_1⟩ : S60) [.int .i64 a1_0, .int .i64 a1_1, .int .i64 a1_1] from (k60_mkM _ _ _ (⟨a1_0, a1_1, a1_1⟩ : S60) )) (Reps.none _ _))); intro v341 w13 ho14 hb hg_ hnew_; clear hg_ hnew_; (first | rw [← Ny340.out] at ho14 | (simp only [Int.reduceToNat] at ho14; rw [← Ny340.out] at ho14)); have n0_ := Aside0.mk (Kd.R_lower ho14 (below_size (by repeat (first | (with_reducible first | exact HB.out | apply below_alloc | apply pw_below_drewN | apply below_drew1 | refine below_set ?_ GE337.out) | exact HB.out)))); have n1_ := Aside0.mk (blk_below (g := gb337) (o := .cells #[.int .i64 a1_0, .int .i64 a1_1] 41 (0, 0)) (by (with_reducible repeat (first | refine blk_drewN ?_ _ | refine blk_drew ?_ | refine blk_alloc ?_ _)); exact BK337.out) hb); have n2_ := Aside0.mk (below_step (by repeat (first | (with_reducible first | exact HB.out | apply below_alloc | apply pw_below_drewN | apply below_drew1 | refine below_set ?_ GE337.out) | exact HB.out)) hb); clear BK337; clear HB; have HO342 := n0_; have BK337 := n1_; have HB := n2_; clear n0_ n1_ n2_; clear hb ho14; obtain ⟨Ao15, co15, eo15⟩ := Kd.R_slice HO342.out; subst eo15) | ((with_reducible refine gate_callee (f := 33) rfl ?_); refine goesL_ (some 23) rfl rfl Try.func33 (by kernel_rfl) rfl #[.slice A0 l0.length c0, .slice Ao15 y340.length co15] rfl (by (try simp only [List.map_toArray, List.map_cons, List.map_nil]); first | done | rfl | (simp only [List.length_drop, List.length_take]; rfl)) ?_; (with_reducible refine (past_Join.calls k _ _ l0 _ _ y340 t343 t344 _ ?side1 ?side2 ?side3 ?side4 A7.out).mono ?_); (case side1 => repeat (first | exact (Kd.C_below HR0.out HB.out) | (with_reducible refine Kd.C_alloc ?_ _) | (with_reducible refine Kd.C_drewN ?_ _) | (with_reducible refine Kd.C_drew ?_))); (case side2 => exact HC0.out); (case side3 => repeat (first | exact (Kd.R_reads' HO342.out).2.2 | (with_reducible refine Kd.C_alloc ?_ _) | (with_reducible refine Kd.C_drewN ?_ _) | (with_reducible refine Kd.C_drew ?_))); (case side4 => exact (Kd.R_reads' HO342.out).2.1); rintro e w16 ⟨v345, rfl, ho0, hb⟩; refine ⟨_, rfl, ?_⟩; have n0_ := Aside0.mk (Kd.R_elder' (lf HO342.out) (Kd.R_base ho0) hb); have n1_ := Aside0.mk (Kd.R_lower (Kd.R_new' ho0 (Kd.R_lt (lf HO342.out))) (below_size (by repeat (first | (with_reducible first | exact HB.out | apply below_alloc | apply pw_below_drewN | apply below_drew1 | refine below_set ?_ GE337.out) | exact HB.out)))); have n2_ := Aside0.mk (blk_below (g := gb337) (o := .cells #[.int .i64 a1_0, .int .i64 a1_1] 41 (0, 0)) (by (with_reducible repeat (first | refine blk_drewN ?_ _ | refine blk_drew ?_ | refine blk_alloc ?_ _)); exact BK337.out) hb); have n3_ := Aside0.mk (below_step (by repeat (first | (with_reducible first | exact HB.out | apply below_alloc | apply pw_below_drewN | apply below_drew1 | refine below_set ?_ GE337.out) | exact HB.out)) hb); clear HO342; clear BK337; clear HB; have HO342 := n0_; have HO346 := n1_; have BK337 := n2_; have HB := n3_; clear n0_ n1_ n2_ n3_; (try clear hb); (try clear hb2); (try clear hk); (try clear hi); (try clear ho0)))
      go_ret2
      exact ⟨_, by first | rfl | (simp [errW_none, errW_some] <;> rfl) | (simp [*, errW_none, errW_some] <;> rfl), by (with_reducible repeat (first | apply Kd.R_alloc | apply Kd.R_drewN | apply Kd.R_drew)); exact Kd.R_mono HO346.out (fun _ hk => trivial), by repeat (first | (with_reducible first | exact HB.out | apply below_alloc | apply pw_below_drewN | apply below_drew1 | refine below_set ?_ GE337.out) | exact HB.out)⟩
    · rw [if_neg c6] at H
      have c6b0 : (t339 == 0) = false := beq_eq_false_iff_ne.mpr c6
      have c6b1 : (t339 != 0) = true := bne_iff_ne.mpr c6
      simp only [Option.some.injEq, Prod.mk.injEq] at H
      obtain ⟨rfl, rfl⟩ := H
      go_enter Try.func22, Try.ntmps22
      go_wp2_with (first | ((with_reducible refine gate_dst (N := 3) rfl ?_); refine box_event ?hg (N := 3) ?hd (cs := #[.int .i64 a1_0, .int .i64 a1_1]) (t := 41) ?hr ?_; (case hd => rfl); (case hg => rfl); (case hr => first | (go_simp; done) | (go_simp; rfl)); intro gb337 hg w17 hbox hb; have n0_ := Aside0.mk (below_step (by repeat (first | (with_reducible first | exact HB.out | apply below_alloc | apply pw_below_drewN | apply below_drew1) | exact HB.out)) hb); have n1_ := Aside0.mk (hbox); have n2_ := Aside0.mk ((by rw [hg]; exact (below_size (by repeat (first | (with_reducible first | exact HB.out | apply below_alloc | apply pw_below_drewN | apply below_drew1) | exact HB.out))) : w.heap.size ≤ gb337)); have n3_ := Aside0.mk ((by rw [hg]; exact (below_size (by repeat (first | (with_reducible first | exact HB.out | apply below_alloc | apply pw_below_drewN | apply below_drew1) | exact HB.out))) : w.heap.size ≤ gb337)); clear HB; have HB := n0_; have BK337 := n1_; have GW337 := n2_; have GE337 := n3_; clear n0_ n1_ n2_ n3_; clear hb hbox hg) | ((with_reducible refine gate_callee (f := 38) rfl ?_); refine goesL_ (some 7) rfl rfl Try.func38 (by kernel_rfl) rfl #[.slice A0 l0.length c0] rfl (by (try simp only [List.map_toArray, List.map_cons, List.map_nil]); first | done | rfl | (simp only [List.length_drop, List.length_take]; rfl)) ?_; (with_reducible refine (past_Check.calls k _ _ l0 t338 _ ?side1 ?side2 A3.out).mono ?_); (case side1 => repeat (first | exact (Kd.C_below HR0.out HB.out) | (with_reducible refine Kd.C_alloc ?_ _) | (with_reducible refine Kd.C_drewN ?_ _) | (with_reducible refine Kd.C_drew ?_))); (case side2 => exact HC0.out); rintro e w18 ⟨rfl, hb⟩; refine ⟨_, rfl, ?_⟩; have n0_ := Aside0.mk (blk_below (g := gb337) (o := .cells #[.int .i64 a1_0, .int .i64 a1_1] 41 (0, 0)) (by (with_reducible repeat (first | refine blk_drewN ?_ _ | refine blk_drew ?_ | refine blk_alloc ?_ _)); exact BK337.out) hb); have n1_ := Aside0.mk (below_step (by repeat (first | (with_reducible first | exact HB.out | apply below_alloc | apply pw_below_drewN | apply below_drew1 | refine below_set ?_ GE337.out) | exact HB.out)) hb); clear BK337; clear HB; have BK337 := n0_; have HB := n1_; clear n0_ n1_; (try clear hb); (try clear hb2); (try clear hk); (try clear hi); have hcz19_0 : w18.cell? ⟨gb337, 0, none⟩ = some (.int .i64 a1_0) := (blk_cell BK337.out 0).trans rfl; have hcz19_1 : w18.cell? ⟨gb337, 1, none⟩ = some (.int .i64 a1_1) := (blk_cell BK337.out 1).trans rfl; have hfz19_0 := blk_frozen BK337.out 0; have hfz19_1 := blk_frozen BK337.out 1) | (go_at_call 52; (with_reducible refine (dot_Check.calls a1_0 a1_1 t339 _ A5.out).mono ?_); rintro e w20 ⟨rfl, hb⟩; have n0_ := Aside0.mk (blk_below (g := gb337) (o := .cells #[.int .i64 a1_0, .int .i64 a1_1] 41 (0, 0)) (by (with_reducible repeat (first | refine blk_drewN ?_ _ | refine blk_drew ?_ | refine blk_alloc ?_ _)); exact BK337.out) hb); have n1_ := Aside0.mk (below_step (by repeat (first | (with_reducible first | exact HB.out | apply below_alloc | apply pw_below_drewN | apply below_drew1 | refine below_set ?_ GE337.out) | exact HB.out)) hb); clear BK337; clear HB; have BK337 := n0_; have HB := n1_; clear n0_ n1_; (try clear hb); (try clear hb2); (try clear hk); (try clear hi)))
      go_ret2
      exact ⟨_, by first | rfl | (simp [errW_none, errW_some] <;> rfl) | (simp [*, errW_none, errW_some] <;> rfl), by first | exact Kd.R_nil _ _ _ _ _ | exact Kd.N_nil _ _ _ _ _ | exact Kd.V_nil _ _ _ _ _ | exact Kd.Q_nil _ _ _ _ _ | exact Kd.S_nil _ _ _ _ _, by repeat (first | (with_reducible first | exact HB.out | apply below_alloc | apply pw_below_drewN | apply below_drew1 | refine below_set ?_ GE337.out) | exact HB.out)⟩
  · rw [if_neg c4] at H
    have c4b0 : (t338 == 0) = false := beq_eq_false_iff_ne.mpr c4
    have c4b1 : (t338 != 0) = true := bne_iff_ne.mpr c4
    simp only [Option.some.injEq, Prod.mk.injEq] at H
    obtain ⟨rfl, rfl⟩ := H
    go_enter Try.func22, Try.ntmps22
    go_wp2_with (first | ((with_reducible refine gate_dst (N := 3) rfl ?_); refine box_event ?hg (N := 3) ?hd (cs := #[.int .i64 a1_0, .int .i64 a1_1]) (t := 41) ?hr ?_; (case hd => rfl); (case hg => rfl); (case hr => first | (go_simp; done) | (go_simp; rfl)); intro gb337 hg w21 hbox hb; have n0_ := Aside0.mk (below_step (by repeat (first | (with_reducible first | exact HB.out | apply below_alloc | apply pw_below_drewN | apply below_drew1) | exact HB.out)) hb); have n1_ := Aside0.mk (hbox); have n2_ := Aside0.mk ((by rw [hg]; exact (below_size (by repeat (first | (with_reducible first | exact HB.out | apply below_alloc | apply pw_below_drewN | apply below_drew1) | exact HB.out))) : w.heap.size ≤ gb337)); have n3_ := Aside0.mk ((by rw [hg]; exact (below_size (by repeat (first | (with_reducible first | exact HB.out | apply below_alloc | apply pw_below_drewN | apply below_drew1) | exact HB.out))) : w.heap.size ≤ gb337)); clear HB; have HB := n0_; have BK337 := n1_; have GW337 := n2_; have GE337 := n3_; clear n0_ n1_ n2_ n3_; clear hb hbox hg) | ((with_reducible refine gate_callee (f := 38) rfl ?_); refine goesL_ (some 7) rfl rfl Try.func38 (by kernel_rfl) rfl #[.slice A0 l0.length c0] rfl (by (try simp only [List.map_toArray, List.map_cons, List.map_nil]); first | done | rfl | (simp only [List.length_drop, List.length_take]; rfl)) ?_; (with_reducible refine (past_Check.calls k _ _ l0 t338 _ ?side1 ?side2 A3.out).mono ?_); (case side1 => repeat (first | exact (Kd.C_below HR0.out HB.out) | (with_reducible refine Kd.C_alloc ?_ _) | (with_reducible refine Kd.C_drewN ?_ _) | (with_reducible refine Kd.C_drew ?_))); (case side2 => exact HC0.out); rintro e w22 ⟨rfl, hb⟩; refine ⟨_, rfl, ?_⟩; have n0_ := Aside0.mk (blk_below (g := gb337) (o := .cells #[.int .i64 a1_0, .int .i64 a1_1] 41 (0, 0)) (by (with_reducible repeat (first | refine blk_drewN ?_ _ | refine blk_drew ?_ | refine blk_alloc ?_ _)); exact BK337.out) hb); have n1_ := Aside0.mk (below_step (by repeat (first | (with_reducible first | exact HB.out | apply below_alloc | apply pw_below_drewN | apply below_drew1 | refine below_set ?_ GE337.out) | exact HB.out)) hb); clear BK337; clear HB; have BK337 := n0_; have HB := n1_; clear n0_ n1_; (try clear hb); (try clear hb2); (try clear hk); (try clear hi)))
    go_ret2
    exact ⟨_, by first | rfl | (simp [errW_none, errW_some] <;> rfl) | (simp [*, errW_none, errW_some] <;> rfl), by first | exact Kd.R_nil _ _ _ _ _ | exact Kd.N_nil _ _ _ _ _ | exact Kd.V_nil _ _ _ _ _ | exact Kd.Q_nil _ _ _ _ _ | exact Kd.S_nil _ _ _ _ _, by repeat (first | (with_reducible first | exact HB.out | apply below_alloc | apply pw_below_drewN | apply below_drew1 | refine below_set ?_ GE337.out) | exact HB.out)⟩
end
section
end
end Go.Proofs.YtdelfhahbngcfaaX.P07
end
section
namespace Go.Proofs.YtdelfhahbngcfaaX.P07
open Go.RowKit Go.Proofs.YtdelfhahbngcfaaW.PrintWords Go.Proofs.YtdelfhahbngcfaaW.PrintLast Go.Proofs.YtdelfhahbngcfaaW.PrintMore
set_option linter.unusedVariables false
set_option linter.unusedSimpArgs false
theorem okS_okI {s : S60} (h : okS60 s) : okI s = true := by unfold okS60 at h; unfold okI; simp; omega
theorem chk_ok {l : List S60} (h : Chk l) : Can l ∧ (∀ s ∈ l, okI s = true) := ⟨(chk_can h.2).1, fun s hs => okS_okI ((chk_can h.2).2 s hs)⟩
theorem chk_rest {a b : List S60} (ha : Chk a) (hb : Chk b) : Rest a b [] :=
  ⟨(chk_ok ha).1, (chk_ok hb).1, (chk_ok ha).2, (chk_ok hb).2, trivial, fun s hs => (by cases hs), fun n q _ s hs => (by cases hs)⟩
theorem chkV0 {l : List S60} (h : Chk l) : chkV l = 0 := by unfold chkV; exact if_pos h
theorem chkV2 {l : List S60} (h : ¬ Chk l) : chkV l = 2 := by unfold chkV; exact if_neg h
theorem has_join (a b : List S60) (n q : Int) : ((hasB a n q || hasB b n q) = true) ↔ HasP (a ++ b) n q := by rw [Bool.or_eq_true, hasB_iff, hasB_iff, has_app]
theorem has_minus (a b : List S60) (n q : Int) : ((hasB a n q && !hasB b n q) = true) ↔ HasP a n q ∧ ¬ HasP b n q := by
  rw [Bool.and_eq_true, Bool.not_eq_true', hasB_iff, ← Bool.not_eq_true, hasB_iff]
theorem sweep_join {a b : List S60} (ha : Chk a) (hb : Chk b) : Ev (fun k => sweepF (fun x y => x || y) k a b []) (tidyL (a ++ b)) := by
  have hR := chk_rest ha hb
  have hm := mu_le a b
  have := ha.1; have := hb.1
  obtain ⟨o, h1, h2, _, h3⟩ := sweep_law (kf := fun x y => x || y) rfl (mu a b) a b [] hR (Nat.le_refl _) (by simp; omega)
  obtain ⟨t1, _, t3⟩ := tidy_law (a ++ b) (fun s hs => (List.mem_append.1 hs).elim (hR.oa s) (hR.ob s))
  have e : o = tidyL (a ++ b) := can_one h2 t1 (fun n q => by
    rw [h3, t3, ← has_join]; simp [has_nil])
  rw [← e]
  exact Ev.of (g := fun k => sweepF (fun x y => x || y) k a b []) (fun k => sweepF_mono _ k a b []) h1
theorem sweep_minus {a b : List S60} (ha : Chk a) (hb : Chk b) : Ev (fun k => sweepF (fun x y => x && !y) k a b []) (minusV a b) := by
  have hR := chk_rest ha hb
  have hm := mu_le a b
  have := ha.1; have := hb.1
  obtain ⟨o, h1, h2, _, h3⟩ := sweep_law (kf := fun x y => x && !y) rfl (mu a b) a b [] hR (Nat.le_refl _) (by simp; omega)
  obtain ⟨t1, _, t3⟩ := minus_law b a hR.ca hR.oa hR.ob
  have e : o = minusV a b := can_one h2 t1 (fun n q => by
    rw [h3, t3, ← has_minus]; simp [has_nil])
  rw [← e]
  exact Ev.of (g := fun k => sweepF (fun x y => x && !y) k a b []) (fun k => sweepF_mono _ k a b []) h1
open Classical in
noncomputable def joinV (a b : List S60) : List S60 × Int := if Chk a ∧ Chk b then tidyV (a ++ b) else ([], 2)
open Classical in
noncomputable def minusP (a b : List S60) : List S60 × Int := if Chk a ∧ Chk b then (if 4000 < (minusV a b).length then ([], 8) else (minusV a b, 0)) else ([], 2)
open Classical in
noncomputable def withV (a b : List S60) : Bool := decide (Chk a ∧ Chk b ∧ minusV a b = [])
theorem swept_ev (kf : Bool → Bool → Bool) (a b o : List S60) (r : List S60 × Int) (hla : a.length < 1000000) (hlb : b.length < 1000000) (h0 : ¬ (Chk a ∧ Chk b) → r = ([], 2)) (h1 : Chk a → Chk b → Ev (fun k => sweepF kf k a b []) o ∧ r = if 4000 < o.length then ([], 8) else (o, 0)) : Ev (fun k => sweptF kf k a b) r := by
  unfold sweptF
  refine ev_pos ⟨hla, hlb⟩ (Ev.bind (check_ev a hla) ?_)
  by_cases ha : Chk a
  · rw [chkV0 ha]
    refine ev_pos rfl (Ev.bind (check_ev b hlb) ?_)
    by_cases hb : Chk b
    · rw [chkV0 hb]
      obtain ⟨h2, rfl⟩ := h1 ha hb
      refine ev_pos rfl (Ev.bind h2 ?_)
      by_cases h4 : 4000 < o.length
      · simp only [if_pos h4]; exact Ev.now _
      · simp only [if_neg h4]; exact Ev.now _
    · rw [chkV2 hb, h0 (fun h => hb h.2)]
      exact ev_neg (by decide) (Ev.now _)
  · rw [chkV2 ha, h0 (fun h => ha h.1)]
    exact ev_neg (by decide) (Ev.now _)
theorem join_ev (a b : List S60) (hla : a.length < 1000000) (hlb : b.length < 1000000) : Ev (fun k => past_Join.f k a b) (joinV a b) := by
  unfold past_Join.f
  refine swept_ev _ a b (tidyL (a ++ b)) _ hla hlb (fun h => by unfold joinV; exact if_neg h) (fun ha hb => ⟨sweep_join ha hb, ?_⟩)
  unfold joinV tidyV
  rw [if_pos ⟨ha, hb⟩]
theorem minus_ev (a b : List S60) (hla : a.length < 1000000) (hlb : b.length < 1000000) : Ev (fun k => past_Minus.f k a b) (minusP a b) := by
  unfold past_Minus.f
  refine swept_ev _ a b (minusV a b) _ hla hlb (fun h => by unfold minusP; exact if_neg h) (fun ha hb => ⟨sweep_minus ha hb, ?_⟩)
  unfold minusP
  rw [if_pos ⟨ha, hb⟩]
theorem within_ev (a b : List S60) (hla : a.length < 1000000) (hlb : b.length < 1000000) : Ev (fun k => past_Within.f k a b) (withV a b) := by
  unfold past_Within.f
  refine Ev.bind (minus_ev a b hla hlb) ?_
  unfold minusP withV
  by_cases h : Chk a ∧ Chk b
  · rw [if_pos h]
    by_cases h4 : 4000 < (minusV a b).length
    · rw [if_pos h4]
      have e : minusV a b ≠ [] := fun e => by rw [e] at h4; simp at h4
      simp only [h.1, h.2, e, and_false, decide_false]
      exact ev_neg (by decide) (Ev.now _)
    · rw [if_neg h4]
      refine ev_pos rfl ?_
      have : (((minusV a b).length : Int) == 0) = decide (Chk a ∧ Chk b ∧ minusV a b = []) := by
        by_cases e : minusV a b = []
        · simp [h.1, h.2, e]
        · have : (minusV a b).length ≠ 0 := fun h => e (List.eq_nil_of_length_eq_zero h)
          simp [h.1, h.2, e]
      rw [← this]
      exact Ev.now _
  · rw [if_neg h]
    have : decide (Chk a ∧ Chk b ∧ minusV a b = []) = false := decide_eq_false (fun hh => h ⟨hh.1, hh.2.1⟩)
    rw [this]
    exact ev_neg (by decide) (Ev.now _)
theorem joinV_yes {a b : List S60} (ha : Chk a) (hb : Chk b) : joinV a b = tidyV (a ++ b) := by unfold joinV; exact if_pos ⟨ha, hb⟩
theorem minusP_yes {a b : List S60} (ha : Chk a) (hb : Chk b) : minusP a b = if 4000 < (minusV a b).length then ([], 8) else (minusV a b, 0) := by unfold minusP; exact if_pos ⟨ha, hb⟩
theorem withV_yes {a b : List S60} (ha : Chk a) (hb : Chk b) : withV a b = decide (minusV a b = []) := by
  unfold withV; rw [decide_eq_decide]; exact ⟨fun h => h.2.2, fun h => ⟨ha, hb, h⟩⟩
theorem withV_no {a b : List S60} (h : ¬ (Chk a ∧ Chk b)) : withV a b = false := by
  unfold withV; exact decide_eq_false (fun hh => h ⟨hh.1, hh.2.1⟩)
theorem rd41_at {l : List S41} {j : Nat} (h : j < l.length) : rd_T41 l (j : Int) = l[j] := by unfold rd_T41; simp [List.getD_eq_getElem?_getD, h]
def spanD (d : S41) : S60 := ⟨d.f0, d.f1, d.f1⟩
theorem spanD_ok {d : S41} (h : okD d = true) : okI (spanD d) = true := by
  have hd' : 1 ≤ d.f0 ∧ d.f0 ≤ 200 ∧ 1 ≤ d.f1 ∧ d.f1 ≤ 2147483647 := by unfold okD at h; exact of_decide_eq_true h
  unfold okI spanD
  simp
  omega
theorem of_tidy (l : List S41) (h : ∀ d ∈ l, okD d = true) : ofL l = tidyL (l.map spanD) := by
  obtain ⟨a1, _, a3, _⟩ := of_law l h
  obtain ⟨b1, _, b3⟩ := tidy_law (l.map spanD) (fun s hs => by
    obtain ⟨d, hd, rfl⟩ := List.mem_map.1 hs
    exact spanD_ok (h d hd))
  refine can_one a1 b1 (fun n q => ?_)
  rw [a3, b3]
  unfold HasP
  constructor
  · intro hh
    exact ⟨spanD ⟨n, q⟩, List.mem_map.2 ⟨_, hh, rfl⟩, rfl, Int.le_refl _, Int.le_refl _⟩
  · rintro ⟨s, hs, rfl, h1, h2⟩
    obtain ⟨d, hd, rfl⟩ := List.mem_map.1 hs
    have : (⟨(spanD d).f0, q⟩ : S41) = d := by
      cases d
      simp only [spanD] at *
      congr
      omega
    rw [this]; exact hd
theorem of_eq (l : List S41) (hl : l.length < 1000000) : past_Of.f l = some (ofV l) := by unfold past_Of.f; exact if_pos hl
end Go.Proofs.YtdelfhahbngcfaaX.P07
end
section
namespace Go.Proofs.YtdelfhahbngcfaaX.P07
open Go.RowKit Go.Proofs.YtdelfhahbngcfaaW.PrintWords Go.Proofs.YtdelfhahbngcfaaW.PrintLast Go.Proofs.YtdelfhahbngcfaaW.PrintMore
set_option linter.unusedVariables false
set_option linter.unusedSimpArgs false
open Classical in
noncomputable def hasR (l : List S60) (n q : Int) : Bool := if Chk l then hasB l n q else false
open Classical in
noncomputable def countR (l : List S60) : Int := if Chk l then l.foldl cnt1 0 else 0
open Classical in
noncomputable def lastR (l : List S60) (n : Int) : Int := if Chk l then l.foldl (last1 n) 0 else 0
theorem hasR_yes {l : List S60} (h : Chk l) (n q : Int) : hasR l n q = hasB l n q := by unfold hasR; exact if_pos h
theorem hasR_no {l : List S60} (h : ¬ Chk l) (n q : Int) : hasR l n q = false := by unfold hasR; exact if_neg h
theorem countR_yes {l : List S60} (h : Chk l)  : countR l  = l.foldl cnt1 0 := by unfold countR; exact if_pos h
theorem countR_no {l : List S60} (h : ¬ Chk l)  : countR l  = 0 := by unfold countR; exact if_neg h
theorem lastR_yes {l : List S60} (h : Chk l) (n : Int) : lastR l n = l.foldl (last1 n) 0 := by unfold lastR; exact if_pos h
theorem lastR_no {l : List S60} (h : ¬ Chk l) (n : Int) : lastR l n = 0 := by unfold lastR; exact if_neg h
theorem has_ev (l : List S60) (n q : Int) (hl : l.length < 1000000) : Ev (fun k => past_Has.f k l n q) (hasR l n q) := by
  unfold past_Has.f
  refine ev_pos (by omega) (Ev.bind (check_ev l hl) ?_)
  by_cases h : Chk l
  · rw [chkV0 h, hasR_yes h]; exact ev_pos rfl (Ev.now _)
  · rw [chkV2 h, hasR_no h]; exact ev_neg (by decide) (Ev.now _)
theorem count_ev (l : List S60) (hl : l.length < 1000000) : Ev (fun k => past_Count.f k l) (countR l) := by
  unfold past_Count.f
  refine ev_pos (by omega) (Ev.bind (check_ev l hl) ?_)
  by_cases h : Chk l
  · rw [chkV0 h, countR_yes h]; first | exact Ev.now _ | (simp only [if_pos]; exact Ev.now _)
  · rw [chkV2 h, countR_no h]; first | exact Ev.now _ | (simp; exact Ev.now _)
theorem last_ev (l : List S60) (n : Int) (hl : l.length < 1000000) : Ev (fun k => past_Last.f k l n) (lastR l n) := by
  unfold past_Last.f
  refine ev_pos (by omega) (Ev.bind (check_ev l hl) ?_)
  by_cases h : Chk l
  · rw [chkV0 h, lastR_yes h]; first | exact Ev.now _ | (simp only [if_pos]; exact Ev.now _)
  · rw [chkV2 h, lastR_no h]; first | exact Ev.now _ | (simp; exact Ev.now _)
instance : DecidableEq S41 := fun a b => decidable_of_iff (a.f0 = b.f0 ∧ a.f1 = b.f1) (by cases a; cases b; simp)
theorem same_self (a : List S60) (hl : a.length < 1000000) : Ev (fun k => tributarykit_SameSpans.f k a a) true := by
  have := same_ev a a hl
  simpa using this
theorem sorted_one : ∀ {a b : List S41}, a.Pairwise ltDot → b.Pairwise ltDot → (∀ x, x ∈ a ↔ x ∈ b) → a = b
  | [], [], _, _, _ => rfl
  | [], y :: b, _, _, h => by have := (h y).2 (List.mem_cons_self ..); cases this
  | x :: a, [], _, _, h => by have := (h x).1 (List.mem_cons_self ..); cases this
  | x :: a, y :: b, ha, hb, h => by
    rw [List.pairwise_cons] at ha hb
    have h1 : x = y := by
      rcases List.mem_cons.1 ((h x).1 (List.mem_cons_self ..)) with e | e
      · exact e
      · rcases List.mem_cons.1 ((h y).2 (List.mem_cons_self ..)) with e2 | e2
        · exact e2.symm
        · have := hb.1 x e; have := ha.1 y e2; unfold ltDot at *; omega
    subst h1
    congr 1
    refine sorted_one ha.2 hb.2 (fun z => ?_)
    constructor
    · intro hz
      rcases List.mem_cons.1 ((h z).1 (List.mem_cons_of_mem _ hz)) with e | e
      · have := ha.1 z hz; rw [e] at this; unfold ltDot at this; omega
      · exact e
    · intro hz
      rcases List.mem_cons.1 ((h z).2 (List.mem_cons_of_mem _ hz)) with e | e
      · have := hb.1 z hz; rw [e] at this; unfold ltDot at this; omega
      · exact e
theorem sort_is {l a : List S41} (h : a.Pairwise ltDot) (hm : ∀ x, x ∈ l ↔ x ∈ a) : sortV l = a := sorted_one (sort_law l).1 h (fun x => ((sort_law l).2 x).trans (hm x))
instance (x y : S41) : Decidable (ltDot x y) := by unfold ltDot; infer_instance
theorem of_awake : past_Of.f [⟨1, 3⟩, ⟨1, 1⟩, ⟨1, 2⟩, ⟨2, 5⟩] = some ([⟨1, 1, 3⟩, ⟨2, 5, 5⟩], 0) := by
  have e : sortV [⟨1, 3⟩, ⟨1, 1⟩, ⟨1, 2⟩, ⟨2, 5⟩] = [⟨1, 1⟩, ⟨1, 2⟩, ⟨1, 3⟩, ⟨2, 5⟩] := sort_is (by decide) (fun x => by simp only [List.mem_cons, List.not_mem_nil, or_false]; constructor <;> (intro h; rcases h with h | h | h | h <;> simp [h]))
  unfold past_Of.f ofV ofL
  rw [e]
  decide +kernel
end Go.Proofs.YtdelfhahbngcfaaX.P07
end
section
namespace Go.Proofs.YtdelfhahbngcfaaX.P07
open Go.RowKit Go.Shelf Go.Sort Go.Lib Go.Proofs.Ytdelfhahbngcfaa Go.Proofs.YtdelfhahbngcfaaW.PrintWords Go.Proofs.YtdelfhahbngcfaaW.PrintLast Go.Proofs.YtdelfhahbngcfaaW.PrintMore
set_option linter.unusedVariables false
set_option linter.unusedSimpArgs false
attribute [local go_sem] Oper.semAt_some
def numS (n c : Int) : Int := Go.bits .or .i64 (wrap64 (n * 256)) (wrap64 c)
def numV (bs : List Int) : Int := bs.foldl numS 0
theorem number_l0 : ∀ (d k : Nat) (bs : List Int) (x3 : Int) (i : Nat), i + d = bs.length → d < k → bs.length ≤ 1000000 → past_number.l0 k x3 bs (bs.length : Int) (i : Int) = some ((bs.drop i).foldl numS x3)
  | 0, k, bs, x3, i, h, hk, hb => by
    obtain ⟨k, rfl⟩ : ∃ m, k = m + 1 := ⟨k - 1, by omega⟩
    rw [past_number.l0, if_neg (by omega), List.drop_of_length_le (by omega)]
    rfl
  | d + 1, k, bs, x3, i, h, hk, hb => by
    obtain ⟨k, rfl⟩ : ∃ m, k = m + 1 := ⟨k - 1, by omega⟩
    have hi : i < bs.length := by omega
    rw [past_number.l0, if_pos (by omega), if_pos (by omega), if_pos (by omega)]
    have e : wrap64 ((i : Int) + 1) = ((i + 1 : Nat) : Int) := by unfold wrap64; omega
    rw [e, number_l0 d k bs _ (i + 1) (by omega) (by omega) hb, List.drop_eq_getElem_cons hi, List.foldl_cons]
    congr 2
    unfold numS YtdelfhahbngcfaaW.PrintWords.rd
    simp [List.getD_eq_getElem?_getD, hi]
theorem number_f (bs : List Int) (hb : bs.length ≤ 1000000) : past_number.f (bs.length + 1) bs = some (numV bs) := by
  unfold past_number.f numV
  have := number_l0 bs.length (bs.length + 1) bs 0 0 (by omega) (by omega) hb
  simpa using this
theorem number_any (A : Option Addr) (c : Nat) (bs : List Int) (w : World) (h : kb.C w A bs.length bs) (hc : bs.length ≤ c) (hb : bs.length ≤ 1000000) :
    Calls Try.prog 49 #[.slice A bs.length c] w fun e w' => e = .returned (.int .i64 (numV bs)) ∧ Drawn0 w w' := past_number.calls _ A c bs _ w h hc (number_f bs hb)
abbrev FW : Fence := Fence.wide
set_option maxHeartbeats 400000 in
theorem chunk_any (A : Option Addr) (n c : Nat) (w : World) :
    Calls Try.prog 50 #[.slice A n c, .int .i64 9] w fun e w' => e = .returned (.func (.func 70) #[] #[.pointer (some ⟨w.heap.size, 0, none⟩), .pointer (some ⟨w.heap.size + 1, 0, none⟩)]) ∧ (w.alloc (.cells #[.slice A n c] 23)).alloc (.cells #[.int .i64 9] 3) = w' := by
  go_enter Try.func50, Try.ntmps50
  go_wp2
  go_ret
  exact ⟨rfl, rfl⟩
theorem range_prefix {k m : Nat} (h : k ≤ m) : List.range k <+: List.range m := by
  obtain ⟨d, rfl⟩ := Nat.exists_eq_add_of_le h
  rw [List.range_add]
  exact List.prefix_append _ _
def KB (Bs Bn : Nat) (A B : World) : Prop := B.heap[Bs]? = A.heap[Bs]? ∧ B.heap[Bn]? = A.heap[Bn]?
theorem KB_refl (Bs Bn : Nat) (A : World) : KB Bs Bn A A := ⟨rfl, rfl⟩
theorem KB_trans {Bs Bn : Nat} {A B C : World} (h : KB Bs Bn A B) (k : KB Bs Bn B C) : KB Bs Bn A C := ⟨k.1.trans h.1, k.2.trans h.2⟩
theorem KB_s {Bs Bn : Nat} {A B : World} {v : Value} (h : KB Bs Bn A B) (hc : A.cell? ⟨Bs, 0, none⟩ = some v) : B.cell? ⟨Bs, 0, none⟩ = some v := (World.cell?_of_block (a := ⟨Bs, 0, none⟩) h.1).trans hc
theorem KB_n {Bs Bn : Nat} {A B : World} {v : Value} (h : KB Bs Bn A B) (hc : A.cell? ⟨Bn, 0, none⟩ = some v) : B.cell? ⟨Bn, 0, none⟩ = some v := (World.cell?_of_block (a := ⟨Bn, 0, none⟩) h.2).trans hc
theorem KB_put {Bs Bn : Nat} (W : World) (l : Nat) (o' : Obj) (h1 : Bs < l) (h2 : Bn < l) : KB Bs Bn W (W.putObj l o') := ⟨World.putObj_heap_other (by omega), World.putObj_heap_other (by omega)⟩
def pieceV (b0 off N x : Nat) : Array Value := #[.slice (some ⟨b0, off + 9 * (min x (N - 1)), none⟩) 9 9]
set_option maxRecDepth 100000 in
set_option maxHeartbeats 2000000 in
theorem chunk1 (l Bs Bn : Nat) (b0 off N n c : Nat) (hnN : n = 9 * N) (hn : n ≤ 1000000) (hnc : n ≤ c) (J Jx : List Nat → World → Prop)
    (hY : ∀ pre x W, J pre W → pre.length < N → YieldAt FW 2 Try.prog l (pieceV b0 off N x) W fun e W' =>
      (e = .returned (.bool true) ∧ J (pre ++ [x]) W' ∧ KB Bs Bn W W') ∨ (e = .returned (.bool false) ∧ Jx (pre ++ [x]) W'))
    (W : World) (hBs : W.cell? ⟨Bs, 0, none⟩ = some (.slice (some ⟨b0, off, none⟩) n c)) (hBn : W.cell? ⟨Bn, 0, none⟩ = some (.int .i64 9)) (h0 : J [] W) (hJd : ∀ pre W m, J pre W → J pre (W.drewN m)) :
    CallsIn FW 3 Try.prog 70 #[.func (.yield l) #[] #[], .pointer (some ⟨Bs, 0, none⟩), .pointer (some ⟨Bn, 0, none⟩)] W fun e W' => (∃ v, e = .returned v) ∧
      ((∃ ys, ys = List.range N ∧ J ys W') ∨ (∃ pre, pre <+: List.range N ∧ Jx pre W')) := by
  refine callsIn_of_wp Try.func70 rfl trivial ?_ rfl
  simp only [Try.ntmps70, List.size_toArray, List.length_cons, List.length_nil, Nat.reduceAdd, Nat.reduceSub, Array.replicate_succ, Array.replicate_zero, List.push_toArray, List.append_toArray, List.nil_append, List.cons_append]
  have HY := Lib.hid hY; have HBS := Lib.hid hBs; have HBN := Lib.hid hBn; have HJD := Lib.hid hJd; have HNN := Lib.hid hnN
  clear hY hBs hBn hJd hnN
  gi_wp2
  gi_loopw [4, 5] (fun i _ wr => ∃ k t : Nat, Hid (t = 9 * k ∧ J (List.range k) wr ∧ KB Bs Bn W wr) ∧ t < n + 9 ∧ i = .int .i64 t)
    (fun i _ _ => n + 9 - (intOf i).toNat)
  case atStart => exact ⟨0, 0, Lib.hid ⟨rfl, h0, KB_refl _ _ _⟩, by omega, rfl⟩
  case round =>
    obtain ⟨k, t, hH, hk, rfl⟩ := hrel
    have hcs : wr.cell? ⟨Bs, 0, none⟩ = some (.slice (some ⟨b0, off, none⟩) n c) := KB_s hH.out.2.2 HBS.out
    have hcn : wr.cell? ⟨Bn, 0, none⟩ = some (.int .i64 9) := KB_n hH.out.2.2 HBN.out
    by_cases hlt : t < n
    · have hct : ¬ c = t := by omega
      have hkn : k < N := by have := hH.out.1; have := HNN.out; omega
      have hto : t + 9 ≤ n := by have := hH.out.1; have := HNN.out; omega
      have hpv : pieceV b0 off N k = #[.slice (some ⟨b0, off + t, none⟩) (9) (9)] := by
        have h1 := hH.out.1
        have h2 : min k (N - 1) = k := by omega
        unfold pieceV; rw [h1, h2]
      have HPV := Lib.hid hpv; clear hpv
      have hmin : min (9 : Int) ((n - t : Nat) : Int) = 9 := by omega
      have ht9 : ((t : Int) + 9).toNat - t = 9 := by omega
      gi_wp2
      gi_quiet (fail)
      obtain ⟨fn, tmps, assign, body, hy, hR⟩ := HY.out (List.range k) k (wr.drewN nq) (HJD.out _ _ _ hH.out.2.1) (by rw [List.length_range]; exact hkn)
      rw [HPV.out] at hy
      gi_wp2
      refine hR.mono ?_
      rintro e W3 (⟨rfl, hJ3, hk3⟩ | ⟨rfl, hJx3⟩)
      · have HJ3 := Lib.hid hJ3; have HK3 := Lib.hid hk3; clear hJ3 hk3 hy hR
        have hcn3 : W3.cell? ⟨Bn, 0, none⟩ = some (.int .i64 9) := KB_n HK3.out ((World.cell?_drewN _ _ _).trans hcn)
        gi_wp2
        go_roundw
        case rel => exact ⟨k + 1, t + 9, Lib.hid ⟨by have := hH.out.1; omega, by rw [List.range_succ]; exact HJ3.out, KB_trans (KB_trans hH.out.2.2 (KB_refl _ _ (wr.drewN nq))) HK3.out⟩, by omega, by go_num⟩
        case measure => simp [intOf]; omega
      · gi_wp2
        refine bodyPost_ret (results_none rfl _ _ _) rfl ?_
        exact ⟨⟨_, rfl⟩, .inr ⟨_, by rw [← List.range_succ]; exact range_prefix (by omega), hJx3⟩⟩
    · have hk0 : N = k := by have := hH.out.1; have := HNN.out; omega
      have HK0 := Lib.hid hk0; clear hk0
      gi_wp2
      go_end0
      exact ⟨⟨_, rfl⟩, .inl ⟨_, by rw [HK0.out], hH.out.2.1⟩⟩
theorem chunk_stops (Bs Bn : Nat) (b0 off N n c : Nat) (w : World) (hnN : n = 9 * N) (hn : n ≤ 1000000) (hnc : n ≤ c) (hBs0 : Bs < w.heap.size) (hBn0 : Bn < w.heap.size)
    (hc : w.cell? ⟨Bs, 0, none⟩ = some (.slice (some ⟨b0, off, none⟩) n c)) (hcn : w.cell? ⟨Bn, 0, none⟩ = some (.int .i64 9)) :
    SeqStopsK FW 3 Try.prog 70 #[.pointer (some ⟨Bs, 0, none⟩), .pointer (some ⟨Bn, 0, none⟩)] (pieceV b0 off N) (KB Bs Bn) (fun ys => ys = List.range N) (fun pre => pre <+: List.range N) N w := fun l J Jx W hW hJ _ hY h0 =>
  chunk1 l Bs Bn b0 off N n c hnN hn hnc J Jx hY W ((hW.cell (p := ⟨Bs, 0, none⟩) hBs0).trans hc) ((hW.cell (p := ⟨Bn, 0, none⟩) hBn0).trans hcn) h0
    (fun pre W' m hJs => hJ pre W' _ none hJs ⟨rfl, rfl, rfl, Nat.le_refl _, fun _ _ _ => rfl⟩ (fun r e => by cases e))
end Go.Proofs.YtdelfhahbngcfaaX.P07
end
section
namespace Go.Proofs.YtdelfhahbngcfaaX.P07
open Go.RowKit Go.Shelf Go.Sort Go.Lib Go.Proofs.Ytdelfhahbngcfaa Go.Proofs.YtdelfhahbngcfaaW.PrintWords Go.Proofs.YtdelfhahbngcfaaW.PrintLast Go.Proofs.YtdelfhahbngcfaaW.PrintMore
set_option linter.unusedVariables false
set_option linter.unusedSimpArgs false
attribute [local go_sem] Oper.semAt_some
attribute [local go_sem ↓] Go.wp_at_zero Go.wp_at_succ
def pieceL (l : List Int) (x : Nat) : List Int := (l.drop (2 + 9 * x)).take 9
def spanAt (l : List Int) (x : Nat) : S60 := ⟨wrap64 (YtdelfhahbngcfaaW.PrintWords.rd (pieceL l x) 0), numV ((pieceL l x).drop 1 |>.take 4), numV ((pieceL l x).drop 5)⟩
def spanC (l : List Int) (N x : Nat) : S60 := spanAt l (min x (N - 1))
theorem spanC_range (l : List Int) (N : Nat) : (List.range N).map (spanC l N) = (List.range N).map (spanAt l) := by
  apply List.map_congr_left
  intro x hx
  have := List.mem_range.1 hx
  unfold spanC
  rw [show min x (N - 1) = x by omega]
def manyV (l : List Int) : Int := numV (l.take 2)
def readL (l : List Int) : List S60 := (List.range (manyV l).toNat).map (spanAt l)
def past_Read.f (k : Nat) (l0 : List Int) : Option (List S60 × Int × Int) :=
  if l0.length ≤ 1000000 then
    if l0.length < 2 then some ([], 4, (l0.length : Int))
    else if 0 ≤ manyV l0 ∧ manyV l0 ≤ 100000 then
      if (l0.length : Int) = 2 + 9 * manyV l0 then (past_Check.f k (readL l0)).bind fun e => if e = 0 then some (readL l0, 0, 0) else some ([], e, 0)
      else some ([], 4, min (l0.length : Int) (2 + 9 * manyV l0))
    else none
  else none
theorem past_Read.mono : ∀ a0 k, LeO (past_Read.f k a0) (past_Read.f (k + 1) a0) := fun a0 k => by
  unfold past_Read.f
  exact LeO.ite (LeO.ite (LeO.refl _) (LeO.ite (LeO.ite (LeO.bind (past_Check.mono _ k) (fun _ => LeO.refl _)) (LeO.refl _)) (LeO.refl _))) (LeO.refl _)
theorem C_cells {w : World} {b off : Nat} {bs : List Int} (hn : bs.length ≤ 9223372036854775807) (h : ∀ j p, bs[j]? = some p → w.cell? ⟨b, off + j, none⟩ = some (.int .u8 p)) : kb.C w (some ⟨b, off, none⟩) bs.length bs :=
  ⟨rfl, hn, fun _ => ⟨_, rfl, fun j p hp => ⟨[.int .u8 p], rfl, rfl, fun t u hu => by
    have ht : t = 0 := by have := (List.getElem?_eq_some_iff.1 hu).1; simp at this; omega
    subst ht
    have e : u = .int .u8 p := by simpa using hu.symm
    rw [e]
    have hadd : ((⟨b, off, none⟩ : Addr).add (j * kb.sz + 0)) = ⟨b, off + j, none⟩ := by
      have : j * kb.sz + 0 = j := Nat.mul_one j
      rw [this]; unfold Addr.add; split <;> simp_all
    rw [hadd]
    exact h j p hp⟩⟩⟩
theorem cells_C {w : World} {A : Option Addr} {bs : List Int} (h : kb.C w A bs.length bs) (h0 : 0 < bs.length) : ∃ b off, A = some ⟨b, off, none⟩ ∧ ∀ j p, bs[j]? = some p → w.cell? ⟨b, off + j, none⟩ = some (.int .u8 p) := by
  obtain ⟨ad, rfl, hc⟩ := h.2.2 h0
  have at_ : ∀ j p, bs[j]? = some p → w.cell? (ad.add j) = some (.int .u8 p) := fun j p hp => by
    obtain ⟨c, hl, hK, hu⟩ := hc j p hp
    have hK' : c = [.int .u8 p] := hK
    subst hK'
    have := hu 0 _ rfl
    rwa [show j * kb.sz + 0 = j from Nat.mul_one j] at this
  obtain ⟨b, off, sp⟩ := ad
  cases sp with
  | some z =>
    have h1 := at_ 0 _ (List.getElem?_eq_getElem h0)
    simp [World.cell?, Addr.add] at h1
    split at h1 <;> simp_all
  | none =>
    refine ⟨b, off, rfl, fun j p hp => ?_⟩
    have := at_ j p hp
    have hadd : ((⟨b, off, none⟩ : Addr).add j) = ⟨b, off + j, none⟩ := by unfold Addr.add; split <;> simp_all
    rwa [hadd] at this
theorem piece_at {l : List Int} {x j : Nat} {p : Int} (h : (pieceL l x)[j]? = some p) : l[2 + 9 * x + j]? = some p ∧ j < 9 := by
  unfold pieceL at h
  rw [List.getElem?_take] at h
  split at h
  · rw [List.getElem?_drop] at h; exact ⟨h, by assumption⟩
  · cases h
theorem piece_len {l : List Int} {x N : Nat} (hl : l.length = 2 + 9 * N) (hx : x < N) : (pieceL l x).length = 9 := by
  unfold pieceL
  rw [List.length_take, List.length_drop]
  omega
structure RdI (w V : World) (v : Value) (ol : List S60) : Prop where
  var : Ytdelfhahbngcfaa.Blk V (w.heap.size + 1) 22 #[v]
  ow : Own60 V (w.heap.size + 4) v ol
  bel : Below w.heap.size w V
  sz : w.heap.size + 4 ≤ V.heap.size
  flt : Ytdelfhahbngcfaa.Blk V w.heap.size 32 #[.int .i64 0, .int .i64 0]
theorem RdI.below {w V V' : World} {v : Value} {ol : List S60} (h : RdI w V v ol) (hb : Below V.heap.size V V') : RdI w V' v ol :=
  ⟨Ytdelfhahbngcfaa.blk_below h.var hb, own_ch h.ow (Ytdelfhahbngcfaa.Ch.of_below hb No) (fun _ _ => id), h.bel.trans (hb.mono h.bel.size), Nat.le_trans h.sz hb.size, Ytdelfhahbngcfaa.blk_below h.flt hb⟩
theorem below_drawn {w w' : World} (h : Drawn0 w w') : Below w.heap.size w w' := by
  obtain ⟨n, rfl⟩ := h
  exact pw_below_drewN (Below.refl _ _) n
theorem below_put {B : Nat} (w : World) (D : Nat) (o : Obj) (h : B ≤ D) : Below B w (w.putObj D o) := ⟨rfl, rfl, rfl, by simp [World.putObj], fun k hk => World.putObj_heap_other (by omega)⟩
theorem read_own (w : World) (l : List Int) (N B : Nat) (hB : w.heap.size ≤ B) : OwnFrom B (fun (pre : List Nat) W => ∃ v, RdI w W v (pre.map (spanC l N))) := by
  rintro pre W W' row ⟨v, h⟩ hg hr
  have hc := Ytdelfhahbngcfaa.Ch.of_grown hg
  have hcell : ∀ k cs t f, W.heap[k]? = some (Obj.cells cs t f) → ¬ row = some k := by
    intro k cs t f hk e
    obtain ⟨_, o, ho, hn⟩ := hr k e
    rw [hk] at ho
    cases ho
    cases hn
  exact ⟨v, Ytdelfhahbngcfaa.blk_ch h.var hc (hcell _ _ _ _ h.var), own_ch h.ow hc (fun k hk => by obtain ⟨_, cur, hh⟩ := own_typ h.ow hk; exact hcell _ _ _ _ hh), h.bel.grown hg h.bel.size (fun k e => Nat.le_trans hB (hr k e).1), Nat.le_trans h.sz hc.size, Ytdelfhahbngcfaa.blk_ch h.flt hc (hcell _ _ _ _ h.flt)⟩
theorem fourB (w : World) (nn : Nat) (sv : Value) :
    Ytdelfhahbngcfaa.Blk (((((w.alloc (.cells #[.int .i64 0, .int .i64 0] 32)).drewN nn).alloc (.cells #[.slice none 0 0] 22)).alloc (.cells #[sv] 23)).alloc (.cells #[.int .i64 9] 3)) w.heap.size 32 #[.int .i64 0, .int .i64 0] ∧
    Ytdelfhahbngcfaa.Blk (((((w.alloc (.cells #[.int .i64 0, .int .i64 0] 32)).drewN nn).alloc (.cells #[.slice none 0 0] 22)).alloc (.cells #[sv] 23)).alloc (.cells #[.int .i64 9] 3)) (w.heap.size + 1) 22 #[.slice none 0 0] ∧
    Ytdelfhahbngcfaa.Blk (((((w.alloc (.cells #[.int .i64 0, .int .i64 0] 32)).drewN nn).alloc (.cells #[.slice none 0 0] 22)).alloc (.cells #[sv] 23)).alloc (.cells #[.int .i64 9] 3)) (w.heap.size + 2) 23 #[sv] ∧
    Ytdelfhahbngcfaa.Blk (((((w.alloc (.cells #[.int .i64 0, .int .i64 0] 32)).drewN nn).alloc (.cells #[.slice none 0 0] 22)).alloc (.cells #[sv] 23)).alloc (.cells #[.int .i64 9] 3)) (w.heap.size + 3) 3 #[.int .i64 9] ∧
    (((((w.alloc (.cells #[.int .i64 0, .int .i64 0] 32)).drewN nn).alloc (.cells #[.slice none 0 0] 22)).alloc (.cells #[sv] 23)).alloc (.cells #[.int .i64 9] 3)).heap.size = w.heap.size + 4 ∧
    Below w.heap.size w (((((w.alloc (.cells #[.int .i64 0, .int .i64 0] 32)).drewN nn).alloc (.cells #[.slice none 0 0] 22)).alloc (.cells #[sv] 23)).alloc (.cells #[.int .i64 9] 3)) := by
  have st : ∀ (W : World) (o : Obj), Below W.heap.size W (W.alloc o) := fun W o => below_alloc (Below.refl _ _) o
  have n1 := Ytdelfhahbngcfaa.blk_new w 32 #[.int .i64 0, .int .i64 0]
  have sd := pw_below_drewN (Below.refl (w.alloc (.cells #[.int .i64 0, .int .i64 0] 32)).heap.size (w.alloc (.cells #[.int .i64 0, .int .i64 0] 32))) nn
  have n2 := Ytdelfhahbngcfaa.blk_new ((w.alloc (.cells #[.int .i64 0, .int .i64 0] 32)).drewN nn) 22 #[.slice none 0 0]
  have n3 := Ytdelfhahbngcfaa.blk_new (((w.alloc (.cells #[.int .i64 0, .int .i64 0] 32)).drewN nn).alloc (.cells #[.slice none 0 0] 22)) 23 #[sv]
  have n4 := Ytdelfhahbngcfaa.blk_new ((((w.alloc (.cells #[.int .i64 0, .int .i64 0] 32)).drewN nn).alloc (.cells #[.slice none 0 0] 22)).alloc (.cells #[sv] 23)) 3 #[.int .i64 9]
  have z : ((w.alloc (.cells #[.int .i64 0, .int .i64 0] 32)).drewN nn).heap.size = w.heap.size + 1 := by simp
  simp only [World.size_alloc, z] at n2 n3 n4
  exact ⟨Ytdelfhahbngcfaa.blk_below (Ytdelfhahbngcfaa.blk_below (Ytdelfhahbngcfaa.blk_below (Ytdelfhahbngcfaa.blk_below n1 sd) (st _ _)) (st _ _)) (st _ _), Ytdelfhahbngcfaa.blk_below (Ytdelfhahbngcfaa.blk_below n2 (st _ _)) (st _ _), Ytdelfhahbngcfaa.blk_below n3 (st _ _), n4, by simp only [World.size_alloc, z],
    (((pw_below_drewN (below_alloc (Below.refl _ w) _) nn).alloc (by rw [z]; omega) _).alloc (by simp only [World.size_alloc, z]; omega) _).alloc (by simp only [World.size_alloc, z]; omega) _⟩
theorem read_round {w W V : World} {l : List Int} {N : Nat} {pre : List Nat} {x B : Nat} {v v2 : Value} (h : RdI w W v (pre.map (spanC l N))) (hB : w.heap.size + 4 ≤ B)
    (hch : Ytdelfhahbngcfaa.Ch (fun k => v.ownBlock = some k) W V) (hown : Own60 V (w.heap.size + 4) v2 (pre.map (spanC l N) ++ [spanC l N x])) (hat : v2.ownBlock = v.ownBlock ∨ ∃ b, v2.ownBlock = some b ∧ W.heap.size ≤ b) :
    KeepsFrom B W (V.setCell ⟨w.heap.size + 1, 0, none⟩ v2) ∧ KB (w.heap.size + 2) (w.heap.size + 3) W (V.setCell ⟨w.heap.size + 1, 0, none⟩ v2) ∧ ∃ v, RdI w (V.setCell ⟨w.heap.size + 1, 0, none⟩ v2) v ((pre ++ [x]).map (spanC l N)) := by
  have hvo : ∀ k, v.ownBlock = some k → w.heap.size + 4 ≤ k ∧ k < W.heap.size := fun k hk => h.ow.lt k hk
  have hsz := h.sz
  have hc3 : Ytdelfhahbngcfaa.Ch (fun k => v.ownBlock = some k ∨ k = w.heap.size + 1) W (V.setCell ⟨w.heap.size + 1, 0, none⟩ v2) := ch_set (hch.mono (fun _ _ h => .inl h)) _ _ (.inr rfl)
  have hv2 : ∀ k, v2.ownBlock = some k → w.heap.size + 4 ≤ k := fun k hk => (hown.lt k hk).1
  refine ⟨(KeepsOthers.from ⟨hc3.size, fun k o hk ho => ?_⟩ B), ⟨hc3.block _ (by omega) (fun e => ?_), hc3.block _ (by omega) (fun e => ?_)⟩, v2, ?_, ?_, ?_, ?_, ?_⟩
  · refine (hc3.block k (Array.getElem?_eq_some_iff.1 hk).1 (fun e => ?_)).trans hk
    rcases e with e | e
    · obtain ⟨_, cur, hh⟩ := own_typ h.ow e
      rw [hk] at hh; cases hh; cases ho
    · subst e
      have h6 : W.heap[w.heap.size + 1]? = _ := h.var
      rw [hk] at h6; cases h6; cases ho
  · rcases e with e | e
    · have := (hvo _ e).1; omega
    · omega
  · rcases e with e | e
    · have := (hvo _ e).1; omega
    · omega
  · exact Ytdelfhahbngcfaa.blk_set (Ytdelfhahbngcfaa.blk_ch h.var hch (fun e => by have := (hvo _ e).1; omega)) 0 v2
  · have : Own60 V (w.heap.size + 4) v2 ((pre ++ [x]).map (spanC l N)) := by rw [List.map_append]; exact hown
    exact own_ch this (Ytdelfhahbngcfaa.Ch.setCell V ⟨w.heap.size + 1, 0, none⟩ v2) (fun k hk e => by have e : k = w.heap.size + 1 := e; have := hv2 k hk; omega)
  · exact h.bel.trans (hc3.below h.bel.size (fun k e => by rcases e with e | e; (have := (hvo _ e).1; omega); omega))
  · exact Nat.le_trans h.sz hc3.size
  · exact Ytdelfhahbngcfaa.blk_ch h.flt hc3 (fun e => by rcases e with e | e; (have := (hvo _ e).1; omega); omega)
set_option maxRecDepth 100000 in
set_option maxHeartbeats 2000000 in
theorem read_short (k : Nat) (A0 : Option Addr) (c0 : Nat) (l0 : List Int) (r1 : List S60) (r2 r3 : Int) (w : World) (hr0 : kb.C w A0 l0.length l0) (hc0 : l0.length ≤ c0) (h : l0.length < 2) (e1 : r1 = []) (e2 : r2 = 4) (e3 : r3 = (l0.length : Int)) :
    Calls Try.prog 15 #[.slice A0 l0.length c0] w fun e w' => ∃ v0_ : Value, e = .returned (.tuple #[v0_, .agg #[.int .i64 r2, .int .i64 r3]]) ∧ Kd.R k60 60 w' w.heap.size (fun _ => True) v0_ r1 ∧ Below w.heap.size w w' := by
  obtain ⟨n, hn⟩ : ∃ n, n = l0.length := ⟨_, rfl⟩
  subst e1 e2 e3
  rw [← hn] at h ⊢
  clear hr0 hc0 hn
  have h' : decide ((n : Int) < 2) = true := by simp; omega
  go_enter Try.func15, Try.ntmps15
  go_wp2
  exact bodyPost_ret (v := .tuple #[.slice none 0 0, .agg #[.int .i64 4, .int .i64 n]]) (by simp [results, Try.results15, go_sem]) rfl ⟨_, rfl, Kd.R_nil _ _ _ _ _, (Below.refl _ _).alloc (Nat.le_refl _) _⟩
set_option maxRecDepth 100000 in
set_option maxHeartbeats 2000000 in
theorem read_other (k : Nat) (A0 : Option Addr) (c0 : Nat) (l0 : List Int) (r1 : List S60) (r2 r3 : Int) (w : World) (hr0 : kb.C w A0 l0.length l0) (hc0 : l0.length ≤ c0) (h : 2 ≤ l0.length) (hb : l0.length ≤ 1000000) (hm : 0 ≤ manyV l0 ∧ manyV l0 ≤ 100000) (hne : ¬ (l0.length : Int) = 2 + 9 * manyV l0) (e1 : r1 = []) (e2 : r2 = 4) (e3 : r3 = min (l0.length : Int) (2 + 9 * manyV l0)) :
    Calls Try.prog 15 #[.slice A0 l0.length c0] w fun e w' => ∃ v0_ : Value, e = .returned (.tuple #[v0_, .agg #[.int .i64 r2, .int .i64 r3]]) ∧ Kd.R k60 60 w' w.heap.size (fun _ => True) v0_ r1 ∧ Below w.heap.size w w' := by
  have HNUM := Lib.hid (show ∀ W, Below w.heap.size w W → Calls Try.prog 49 #[.slice A0 2 c0] W fun e w' => e = .returned (.int .i64 (manyV l0)) ∧ Drawn0 W w' from fun W hW => by
    have h1 := Kd.C_take (m := 2) (Kd.C_below hr0 hW) h
    have h2 : (l0.take 2).length = 2 := by rw [List.length_take]; omega
    have := number_any A0 c0 (l0.take 2) W h1 (by omega) (by omega)
    rwa [h2] at this)
  obtain ⟨n, hn⟩ : ∃ n, n = l0.length := ⟨_, rfl⟩
  obtain ⟨m, hmm⟩ : ∃ m, m = manyV l0 := ⟨_, rfl⟩
  subst e1 e2 e3
  rw [← hn] at h hb hne hc0 ⊢
  rw [← hmm] at hm hne HNUM ⊢
  clear hr0 hn hmm
  obtain ⟨hm0, hm1⟩ := hm
  have hne' : ((n : Int) != 2 + 9 * m) = true := bne_iff_ne.2 hne
  have hal := below_alloc (Below.refl _ w) (.cells #[.int .i64 0, .int .i64 0] 32)
  have HCL := Lib.hid (HNUM.out _ hal)
  have hcut : ∀ W : World, (Instr.slice 23 (.slice A0 n c0) none (some (.int .i64 2)) none).run Try.prog W = .ok (.slice A0 2 c0) W := by
    intro W
    obtain ⟨i0, hi0, _, _, _⟩ := info_parts info5
    have := cut_to (P := Try.prog) 23 5 .i64 Try.underlying23 hi0 A0 n c0 2 (by omega) (by omega) hc0 W
    simpa using this
  clear hne hal HNUM
  obtain ⟨z, hz⟩ : ∃ z, min (n : Int) (2 + 9 * m) = z := ⟨_, rfl⟩
  rw [hz]
  go_enter Try.func15, Try.ntmps15
  go_wp2_with (go_at_call 49; refine HCL.out.mono ?_; rintro e w1 ⟨rfl, hd⟩; obtain ⟨nn, rfl⟩ := hd)
  refine bodyPost_ret (v := .tuple #[.slice none 0 0, .agg #[.int .i64 4, .int .i64 z]]) (by simp [results, Try.results15, go_sem]) rfl ⟨_, rfl, Kd.R_nil _ _ _ _ _, ?_⟩
  exact ((pw_below_drewN ((Below.refl _ _).alloc (Nat.le_refl _) _) nn).setCell (Nat.le_refl _) _).setCell (Nat.le_refl _) _
set_option maxRecDepth 100000 in
set_option maxHeartbeats 4000000 in
theorem read_main (k : Nat) (A0 : Option Addr) (c0 : Nat) (l0 : List Int) (r1 : List S60) (r2 r3 : Int) (w : World) (hr0 : kb.C w A0 l0.length l0) (hc0 : l0.length ≤ c0) (hb : l0.length ≤ 1000000) (N : Nat) (hN : manyV l0 = (N : Int)) (hlen : l0.length = 2 + 9 * N) (ee : Int)
    (hchk : past_Check.f k ((List.range N).map (spanAt l0)) = some ee) (hr : (if ee = 0 then ((List.range N).map (spanAt l0), (0 : Int), (0 : Int)) else ([], ee, 0)) = (r1, r2, r3)) :
    Calls Try.prog 15 #[.slice A0 l0.length c0] w fun e w' => ∃ v0_ : Value, e = .returned (.tuple #[v0_, .agg #[.int .i64 r2, .int .i64 r3]]) ∧ Kd.R k60 60 w' w.heap.size (fun _ => True) v0_ r1 ∧ Below w.heap.size w w' := by
  obtain ⟨b, off, rfl, hcells⟩ := cells_C hr0 (by omega)
  have HCELLS := Lib.hid hcells
  have HNUM := Lib.hid (show ∀ W, Below w.heap.size w W → Calls Try.prog 49 #[.slice (some ⟨b, off, none⟩) 2 c0] W fun e w' => e = .returned (.int .i64 (N : Int)) ∧ Drawn0 W w' from fun W hW => by
    have h1 := Kd.C_take (m := 2) (Kd.C_below hr0 hW) (by omega)
    have h2 : (l0.take 2).length = 2 := by rw [List.length_take]; omega
    have := number_any (some ⟨b, off, none⟩) c0 (l0.take 2) W h1 (by omega) (by omega)
    rw [h2] at this
    rw [← hN]
    exact this)
  obtain ⟨n, hn⟩ : ∃ n, n = l0.length := ⟨_, rfl⟩
  have HLEN := Lib.hid hlen
  rw [← hn] at hb hc0 hlen ⊢
  have HCHK := Lib.hid hchk; have HRR := Lib.hid hr
  have hcut1 : ∀ W : World, (Instr.slice 23 (.slice (some ⟨b, off, none⟩) n c0) none (some (.int .i64 2)) none).run Try.prog W = .ok (.slice (some ⟨b, off, none⟩) 2 c0) W := by
    intro W
    obtain ⟨i0, hi0, _, _, _⟩ := info_parts info5
    have := cut_to (P := Try.prog) 23 5 .i64 Try.underlying23 hi0 (some ⟨b, off, none⟩) n c0 2 (by omega) (by omega) hc0 W
    simpa using this
  obtain ⟨off2, hoff2, hcut2⟩ : ∃ off2, (0 < N → off2 = off + 2) ∧ ∀ W : World, (Instr.slice 23 (.slice (some ⟨b, off, none⟩) n c0) (some (.int .i64 2)) none none).run Try.prog W = .ok (.slice (some ⟨b, off2, none⟩) (n - 2) (c0 - 2)) W := by
    obtain ⟨i0, hi0, _, hsz0, _⟩ := info_parts info5
    by_cases h : c0 = 2
    · refine ⟨off, fun h0 => by omega, fun W => ?_⟩
      have := cut_from (P := Try.prog) 23 5 .i64 Try.underlying23 hi0 1 hsz0 (some ⟨b, off, none⟩) n c0 2 (by omega) (by omega) W
      rw [this]; simp [h]
    · refine ⟨off + 2, fun _ => rfl, fun W => ?_⟩
      have := cut_from (P := Try.prog) 23 5 .i64 Try.underlying23 hi0 1 hsz0 (some ⟨b, off, none⟩) n c0 2 (by omega) (by omega) W
      rw [this]; simp [h, Addr.add]
  have HOFF := Lib.hid hoff2
  have hn9 : n - 2 = 9 * N := by omega
  have hne : ((n : Int) != 2 + 9 * (N : Int)) = false := by simp; omega
  have hn2 : decide ((n : Int) < 2) = false := by simp; omega
  have hal := below_alloc (Below.refl _ w) (.cells #[.int .i64 0, .int .i64 0] 32)
  have HCL := Lib.hid (HNUM.out _ hal)
  have HN9 := Lib.hid hn9
  have HLN := Lib.hid hlen
  have h2n : 2 ≤ n := by omega
  have hN6 : N ≤ 1000000 := by omega
  clear hcells hr0 hchk hr hN hoff2 hal HNUM hn9 hlen hn
  refine (callsIn_wide (n := 4)).1 ?_
  refine callsIn_of_wp_marks Try.func15 rfl trivial ?_ rfl
  simp only [Try.ntmps15, List.size_toArray, List.length_cons, List.length_nil, Nat.reduceAdd, Nat.reduceSub, Array.replicate_succ, Array.replicate_zero, List.push_toArray, List.append_toArray, List.nil_append, List.cons_append]
  gi_wp2_with fail
  refine ⟨trivial, ?_⟩
  refine (callsIn_wide.2 HCL.out).mono ?_; rintro e w1 ⟨rfl, nn, rfl⟩
  clear HCL
  gi_wp2_with fail
  refine ⟨trivial, ?_⟩
  refine (callsIn_wide.2 (chunk_any _ _ _ _)).mono ?_; rintro e w1 ⟨rfl, rfl⟩
  gi_wp2_with fail
  obtain ⟨k1, k2, k3, k4, hsz, hB0⟩ := fourB w nn (.slice (some ⟨b, off2, none⟩) (n - 2) (c0 - 2))
  obtain ⟨W0, hW0⟩ : ∃ x, x = (((((w.alloc (.cells #[.int .i64 0, .int .i64 0] 32)).drewN nn).alloc (.cells #[.slice none 0 0] 22)).alloc (.cells #[.slice (some ⟨b, off2, none⟩) (n - 2) (c0 - 2)] 23)).alloc (.cells #[.int .i64 9] 3)) := ⟨_, rfl⟩
  rw [← hW0] at k1 k2 k3 k4 hsz hB0 ⊢; clear hW0
  have hst := chunk_stops (w.heap.size + 1 + 1) (w.heap.size + 1 + 1 + 1) b off2 N (n - 2) (c0 - 2) W0 HN9.out (by omega) (by omega) (by omega) (by omega) (Ytdelfhahbngcfaa.blk_cell k3 0 _ rfl) (Ytdelfhahbngcfaa.blk_cell k4 0 _ rfl)
  have hI0 : ∃ v, RdI w W0 v (([] : List Nat).map (spanC l0 N)) := ⟨_, k2, ⟨rfl, .inl ⟨rfl, rfl⟩⟩, hB0, by omega, k1⟩
  refine wpIn_rangeFunc_ownG rfl (by omega) (gf := 70) (lb := #[.pointer (some ⟨w.heap.size + 1 + 1, 0, none⟩), .pointer (some ⟨w.heap.size + 1 + 1 + 1, 0, none⟩)]) rfl trivial (enters_of Try.func70 (by kernel_rfl) rfl)
    hst (fun h k => KB_trans h k) (fun W l o o' hl _ _ _ => KB_put W l o' (by omega) (by omega)) (Below.refl _ _) (fun _ => rfl)
    (fun (pre : List Nat) W => ∃ v, RdI w W v (pre.map (spanC l0 N))) (fun _ _ _ => False) (read_own w l0 N _ (by omega)) (fun _ _ _ _ _ hs _ _ => hs) hI0
    (fun x => { tmps := #[.slice (some ⟨b, off, none⟩) n c0, undef, .slice none 0 0, .pointer (some ⟨w.heap.size, 0, none⟩), .int .i64 N, .int .i64 (2 + 9 * N), .pointer (some ⟨w.heap.size + 1, 0, none⟩), .slice (some ⟨b, off2 + 9 * (min x (N - 1)), none⟩) 9 9, undef, .slice (some ⟨b, off, none⟩) n c0, .int .i64 n, .bool false, undef, undef, undef, .slice (some ⟨b, off, none⟩) n c0, .slice (some ⟨b, off, none⟩) 2 c0, .int .i64 N, .int .i64 N, .int .i64 (9 * N), .int .i64 (2 + 9 * N), .slice (some ⟨b, off, none⟩) n c0, .int .i64 n, .int .i64 (2 + 9 * N), .bool false, undef, undef, undef, undef, undef, .slice (some ⟨b, off, none⟩) n c0, .slice (some ⟨b, off2, none⟩) (n - 2) (c0 - 2), .func (.func 70) #[] #[.pointer (some ⟨w.heap.size + 1 + 1, 0, none⟩), .pointer (some ⟨w.heap.size + 1 + 1 + 1, 0, none⟩)], .slice (some ⟨b, off2 + 9 * (min x (N - 1)), none⟩) 9 9, undef, undef, undef, undef, undef, undef, undef, undef, undef, undef, undef, undef, undef, undef, undef, undef, undef, undef, undef, undef, undef, undef], defers := [] }) ?assign ?body ?done ?stop
  case assign =>
    intro l x W K hK
    simp only [pieceV]
    gi_wp2
    exact hK
  case body =>
    rintro l pre x W ⟨v, hI⟩ hpl0
    gi_wp2_with fail
    obtain ⟨x', hx'⟩ : ∃ x', x' = min x (N - 1) := ⟨_, rfl⟩
    have hxN : x' < N := by omega
    obtain ⟨o9, ho9⟩ : ∃ o9, o9 = off2 + 9 * x' := ⟨_, rfl⟩
    obtain ⟨P, hP⟩ : ∃ P, P = pieceL l0 x' := ⟨_, rfl⟩
    have hP9 : P.length = 9 := by rw [hP]; exact piece_len HLEN.out hxN
    have hcell : ∀ j p, P[j]? = some p → w.cell? ⟨b, o9 + j, none⟩ = some (.int .u8 p) := fun j p hp => by
      rw [hP] at hp
      have := HCELLS.out _ _ (piece_at hp).1
      rw [ho9, HOFF.out (by omega), show off + 2 + 9 * x' + j = off + (2 + 9 * x' + j) by omega]
      exact this
    obtain ⟨p0, hp0⟩ : ∃ p0, P[0]? = some p0 := ⟨_, List.getElem?_eq_getElem (by omega)⟩
    obtain ⟨z0, hz0⟩ : ∃ z0, wrap64 p0 = z0 := ⟨_, rfl⟩
    obtain ⟨z1, hz1⟩ : ∃ z1, z1 = numV ((P.drop 1).take 4) := ⟨_, rfl⟩
    obtain ⟨z2, hz2⟩ : ∃ z2, z2 = numV (P.drop 5) := ⟨_, rfl⟩
    have HZ := Lib.hid (show spanC l0 N x = ⟨z0, z1, z2⟩ from by
      unfold spanC spanAt
      rw [← hx', ← hP, hz1, hz2, ← hz0]
      congr 2
      unfold YtdelfhahbngcfaaW.PrintWords.rd
      simp [List.getD_eq_getElem?_getD, hp0])
    have hz0' : IntKind.i64.wrap p0 = z0 := by rw [i64_w]; exact hz0
    have HSS := Lib.hid (show ∀ V, Below w.heap.size w V → V.cell? ⟨b, o9, none⟩ = some (.int .u8 p0) from fun V hV => below_cell hV (by simpa using hcell 0 p0 hp0))
    have l1 : ((P.drop 1).take 4).length = 4 := by simp; omega
    have l2 : (P.drop 5).length = 4 := by simp; omega
    have HN1 := Lib.hid (show ∀ V, Below w.heap.size w V → Calls Try.prog 49 #[.slice (some ⟨b, o9 + 1, none⟩) 4 8] V fun e w' => e = .returned (.int .i64 z1) ∧ Drawn0 V w' from fun V hV => by
      have h1 : kb.C V (some ⟨b, o9 + 1, none⟩) ((P.drop 1).take 4).length ((P.drop 1).take 4) := C_cells (by omega) (fun j p hp => below_cell hV (by
        rw [List.getElem?_take] at hp
        split at hp
        · rw [List.getElem?_drop] at hp
          rw [show o9 + 1 + j = o9 + (1 + j) by omega]
          exact hcell _ _ hp
        · cases hp))
      have := number_any _ 8 _ V h1 (by omega) (by omega)
      rw [l1, ← hz1] at this
      exact this)
    have HN2 := Lib.hid (show ∀ V, Below w.heap.size w V → Calls Try.prog 49 #[.slice (some ⟨b, o9 + 5, none⟩) 4 4] V fun e w' => e = .returned (.int .i64 z2) ∧ Drawn0 V w' from fun V hV => by
      have h1 : kb.C V (some ⟨b, o9 + 5, none⟩) (P.drop 5).length (P.drop 5) := C_cells (by omega) (fun j p hp => below_cell hV (by
        rw [List.getElem?_drop] at hp
        rw [show o9 + 5 + j = o9 + (5 + j) by omega]
        exact hcell _ _ hp))
      have := number_any _ 4 _ V h1 (by omega) (by omega)
      rw [l2, ← hz2] at this
      exact this)
    have HI := Lib.hid hI
    have HPL := Lib.hid (show (pre.map (spanC l0 N)).length ≤ 1000000 from by rw [List.length_map]; omega)
    have hfr : off2 + 9 * min x (N - 1) = o9 := by rw [← hx']; exact ho9.symm
    rw [hfr]
    clear hfr ho9 hx' hxN hz1 hz2 l1 l2 hcell hp0 hP9 hP hI
    refine wpIn_region_round (S := (fun V => V.cell? ⟨b, o9, none⟩ = some (.int .u8 p0))) (by kernel_rfl) (by kernel_rfl) (fun ⟨a, w, h⟩ => h) ?_
    have hI0 := HI.out.below (below_drew1 (Below.refl _ W))
    have hHeld := HSS.out _ hI0.bel
    have hC0 : Ytdelfhahbngcfaa.Ch (fun k => v.ownBlock = some k) W W.drew := Ytdelfhahbngcfaa.Ch.drew W _
    obtain ⟨Wd, hWd⟩ : ∃ V, V = W.drew := ⟨_, rfl⟩
    rw [← hWd] at hI0 hC0 hHeld ⊢
    clear hWd
    refine wpAnyH_take (i := 1) (oi := { dst := some 35, op := Go.Op.move (Go.Operand.tmp 7), type := 23, pos := "past.go:229", after := #[], guard := none }) (v := .slice (some ⟨b, o9, none⟩) 9 9) rfl (by kernel_rfl) (by kernel_rfl) (by kernel_rfl) (fun _ _ _ h => h) (Or.inl ⟨by rfl, ?_⟩) (by assumption) ?_
    · intro W hSw
      go_simp
      try with_reducible rfl
    simp only [Act.put, List.setIfInBounds_toArray, List.set_cons_zero, List.set_cons_succ]
    refine wpAnyH_take (i := 2) (oi := { dst := some 36, op := Go.Op.indexAddr 23 (Go.Operand.tmp 35) (Go.Operand.const (Go.Value.int Go.IntKind.i64 0)), type := 0, pos := "past.go:229", after := #[{ on := 1, ground := Go.Ground.data }], guard := none }) (v := .pointer (some ⟨b, o9, none⟩)) rfl (by kernel_rfl) (by kernel_rfl) (by kernel_rfl) (fun _ _ _ h => h) (Or.inl ⟨by rfl, ?_⟩) (by assumption) ?_
    · intro W hSw
      go_simp
      try with_reducible rfl
    simp only [Act.put, List.setIfInBounds_toArray, List.set_cons_zero, List.set_cons_succ]
    refine wpAnyH_take (i := 3) (oi := { dst := some 37, op := Go.Op.load 5 (Go.Operand.tmp 36), type := 5, pos := "past.go:229", after := #[{ on := 2, ground := Go.Ground.data }], guard := none }) (v := .int .u8 p0) rfl (by kernel_rfl) (by kernel_rfl) (by kernel_rfl) (fun _ _ _ h => h) (Or.inl ⟨by rfl, ?_⟩) (by assumption) ?_
    · intro W hSw
      go_simp
      try with_reducible rfl
    simp only [Act.put, List.setIfInBounds_toArray, List.set_cons_zero, List.set_cons_succ]
    refine wpAnyH_take (i := 4) (oi := { dst := some 38, op := Go.Op.convert 5 3 (Go.Operand.tmp 37), type := 3, pos := "past.go:229", after := #[{ on := 3, ground := Go.Ground.data }], guard := none }) (v := .int .i64 z0) rfl (by kernel_rfl) (by kernel_rfl) (by kernel_rfl) (fun _ _ _ h => h) (Or.inl ⟨by rfl, ?_⟩) (by assumption) ?_
    · intro W hSw
      go_simp
      try with_reducible rfl
    simp only [Act.put, List.setIfInBounds_toArray, List.set_cons_zero, List.set_cons_succ]
    refine wpAnyH_take (i := 5) (oi := { dst := some 39, op := Go.Op.move (Go.Operand.tmp 7), type := 23, pos := "past.go:229", after := #[], guard := none }) (v := .slice (some ⟨b, o9, none⟩) 9 9) rfl (by kernel_rfl) (by kernel_rfl) (by kernel_rfl) (fun _ _ _ h => h) (Or.inl ⟨by rfl, ?_⟩) (by assumption) ?_
    · intro W hSw
      go_simp
      try with_reducible rfl
    simp only [Act.put, List.setIfInBounds_toArray, List.set_cons_zero, List.set_cons_succ]
    refine wpAnyH_take (i := 6) (oi := { dst := some 40, op := Go.Op.slice 23 (Go.Operand.tmp 39) (some (Go.Operand.const (Go.Value.int Go.IntKind.i64 1))) (some (Go.Operand.const (Go.Value.int Go.IntKind.i64 5))) none, type := 23, pos := "past.go:229", after := #[{ on := 5, ground := Go.Ground.data }], guard := none }) (v := .slice (some ⟨b, o9 + 1, none⟩) 4 8) rfl (by kernel_rfl) (by kernel_rfl) (by kernel_rfl) (fun _ _ _ h => h) (Or.inl ⟨by rfl, ?_⟩) (by assumption) ?_
    · intro W hSw
      go_simp
      try with_reducible rfl
    simp only [Act.put, List.setIfInBounds_toArray, List.set_cons_zero, List.set_cons_succ]
    refine wpAnyH_take (i := 8) (oi := { dst := some 42, op := Go.Op.move (Go.Operand.tmp 7), type := 23, pos := "past.go:229", after := #[], guard := none }) (v := .slice (some ⟨b, o9, none⟩) 9 9) rfl (by kernel_rfl) (by kernel_rfl) (by kernel_rfl) (fun _ _ _ h => h) (Or.inl ⟨by rfl, ?_⟩) (by assumption) ?_
    · intro W hSw
      go_simp
      try with_reducible rfl
    simp only [Act.put, List.setIfInBounds_toArray, List.set_cons_zero, List.set_cons_succ]
    refine wpAnyH_take (i := 9) (oi := { dst := some 43, op := Go.Op.slice 23 (Go.Operand.tmp 42) (some (Go.Operand.const (Go.Value.int Go.IntKind.i64 5))) none none, type := 23, pos := "past.go:229", after := #[{ on := 8, ground := Go.Ground.data }], guard := none }) (v := .slice (some ⟨b, o9 + 5, none⟩) 4 4) rfl (by kernel_rfl) (by kernel_rfl) (by kernel_rfl) (fun _ _ _ h => h) (Or.inl ⟨by rfl, ?_⟩) (by assumption) ?_
    · intro W hSw
      go_simp
      try with_reducible rfl
    simp only [Act.put, List.setIfInBounds_toArray, List.set_cons_zero, List.set_cons_succ]
    refine wpAnyH_ready (rs := [0, 7]) (by kernel_rfl) (by simp) ?_
    refine AllReadyH.cons (o := { dst := some 34, op := Go.Op.load 22 (Go.Operand.tmp 6), type := 22, pos := "past.go:229", after := #[], guard := none }) rfl (fun K hK => ?_) (AllReadyH.cons (o := { dst := some 41, op := Go.Op.call { callee := Go.Callee.value (Go.Operand.func 49), args := #[Go.Operand.tmp 40], argTypes := #[23] }, type := 3, pos := "past.go:229", after := #[{ on := 6, ground := Go.Ground.data }], guard := none }) rfl (fun K hK => ?_) (AllReadyH.nil))
    · have c6 := Ytdelfhahbngcfaa.blk_cell hI0.var 0 _ rfl
      go_simp
      clear c6
      refine hK.out _ _ (HSS.out _ hI0.bel) (fun hHeld => ?_)
      clear hK K
      try simp only [Act.put, List.setIfInBounds_toArray, List.set_cons_zero, List.set_cons_succ]
      refine wpAnyH_ready (rs := [7]) (by kernel_rfl) (by simp) ?_
      refine AllReadyH.cons (o := { dst := some 41, op := Go.Op.call { callee := Go.Callee.value (Go.Operand.func 49), args := #[Go.Operand.tmp 40], argTypes := #[23] }, type := 3, pos := "past.go:229", after := #[{ on := 6, ground := Go.Ground.data }], guard := none }) rfl (fun K hK => ?_) (AllReadyH.nil)
      go_simp
      refine (HN1.out _ hI0.bel).mono ?_
      rintro e U2 ⟨rfl, hd2⟩
      have hb2 := below_drawn hd2
      have hI2 := hI0.below hb2
      have hC2 := hC0.trans (Ytdelfhahbngcfaa.Ch.of_below hb2 (fun k => v.ownBlock = some k)) (fun _ h => .inl h)
      clear hd2
      go_wp2_with fail
      refine hK.out _ _ (HSS.out _ hI2.bel) (fun hHeld => ?_)
      clear hK K
      try simp only [Act.put, List.setIfInBounds_toArray, List.set_cons_zero, List.set_cons_succ]
      refine wpAnyH_ready (rs := [10]) (by kernel_rfl) (by simp) ?_
      refine AllReadyH.cons (o := { dst := some 44, op := Go.Op.call { callee := Go.Callee.value (Go.Operand.func 49), args := #[Go.Operand.tmp 43], argTypes := #[23] }, type := 3, pos := "past.go:229", after := #[{ on := 9, ground := Go.Ground.data }, { on := 7, ground := Go.Ground.chain }], guard := none }) rfl (fun K hK => ?_) (AllReadyH.nil)
      go_simp
      refine (HN2.out _ hI2.bel).mono ?_
      rintro e U3 ⟨rfl, hd3⟩
      have hb3 := below_drawn hd3
      have hI3 := hI2.below hb3
      have hC3 := hC2.trans (Ytdelfhahbngcfaa.Ch.of_below hb3 (fun k => v.ownBlock = some k)) (fun _ h => .inl h)
      clear hd3
      go_wp2_with fail
      refine hK.out _ _ (HSS.out _ hI3.bel) (fun hHeld => ?_)
      clear hK K
      try simp only [Act.put, List.setIfInBounds_toArray, List.set_cons_zero, List.set_cons_succ]
      refine wpAnyH_take (i := 11) (oi := { dst := some 45, op := Go.Op.build 60 #[(0, Go.Operand.tmp 38), (1, Go.Operand.tmp 41), (2, Go.Operand.tmp 44)], type := 60, pos := "past.go:229", after := #[{ on := 4, ground := Go.Ground.data }, { on := 7, ground := Go.Ground.data }, { on := 10, ground := Go.Ground.data }], guard := none }) (v := .agg #[.int .i64 z0, .int .i64 z1, .int .i64 z2]) rfl (by kernel_rfl) (by kernel_rfl) (by kernel_rfl) (fun _ _ _ h => h) (Or.inl ⟨by rfl, ?_⟩) (by assumption) ?_
      · intro W hSw
        go_simp
        try with_reducible rfl
      simp only [Act.put, List.setIfInBounds_toArray, List.set_cons_zero, List.set_cons_succ]
      refine wpAnyH_ready (rs := [12]) (by kernel_rfl) (by simp) ?_
      refine AllReadyH.cons (o := { dst := some 46, op := Go.Op.buildSlice 22 1 #[(0, Go.Operand.tmp 45)], type := 22, pos := "past.go:229", after := #[{ on := 11, ground := Go.Ground.data }], guard := none }) rfl (fun K hK => ?_) (AllReadyH.nil)
      go_simp
      have hb4 := below_alloc (Below.refl _ U3) (.cells #[.int .i64 z0, .int .i64 z1, .int .i64 z2] 60)
      have hI4 := hI3.below hb4
      have hC4 := hC3.trans (Ytdelfhahbngcfaa.Ch.of_below hb4 (fun k => v.ownBlock = some k)) (fun _ h => .inl h)
      have hX4 := Ytdelfhahbngcfaa.blk_new U3 60 #[.int .i64 z0, .int .i64 z1, .int .i64 z2]
      have hO4 : v.ownBlock ≠ some U3.heap.size := fun e => by have := (hI3.ow.lt _ e).2; omega
      refine hK.out _ _ (HSS.out _ hI4.bel) (fun hHeld => ?_)
      clear hK K
      try simp only [Act.put, List.setIfInBounds_toArray, List.set_cons_zero, List.set_cons_succ]
      obtain ⟨U4, hV4⟩ : ∃ V, V = U3.alloc (.cells #[.int .i64 z0, .int .i64 z1, .int .i64 z2] 60) := ⟨_, rfl⟩
      obtain ⟨G4, hG4⟩ : ∃ G, G = U3.heap.size := ⟨_, rfl⟩
      rw [← hV4] at hHeld hI4 hC4 hX4 ⊢
      rw [← hG4] at hX4 hO4 ⊢
      clear hV4 hG4 hb4
      refine wpAnyH_ready (rs := [13]) (by kernel_rfl) (by simp) ?_
      refine AllReadyH.cons (o := { dst := some 47, op := Go.Op.call { callee := Go.Callee.builtin Go.Builtin.append, args := #[Go.Operand.tmp 34, Go.Operand.tmp 46], argTypes := #[22, 22] }, type := 22, pos := "past.go:229", after := #[{ on := 0, ground := Go.Ground.data }, { on := 12, ground := Go.Ground.data }, { on := 10, ground := Go.Ground.chain }], guard := none }) rfl (fun K hK => ?_) (AllReadyH.nil)
      refine Kd.R_append_rows_step k60 (Rr := k60.K U4) (w0 := U4) (w.heap.size + 4) rfl (.tmp 34) (.tmp 46) 22 60 (.agg #[.int .i64 0, .int .i64 0, .int .i64 0]) 24 rfl Try.underlying22 info60 rfl (by decide) (by decide) v (pre.map (spanC l0 N)) [(⟨z0, z1, z2⟩ : S60)] _ _ _ (fun _ => True) (fun _ => False) (by rfl) (by rfl) (R_of_own hI4.ow) (one60 ⟨z0, z1, z2⟩ hX4) (fun x cs h => k60_flat x cs _ _ h) (fun _ h => h.elim) (fun _ _ => trivial) (Below.refl _ _) hI4.sz (by have := HPL.out; omega) ?_
      intro v5 U5 hR5 hb5 hgr5 hat5
      obtain ⟨Ar5, cr5, rfl, _, _⟩ := Kd.R_reads hR5
      obtain ⟨L5, hL5⟩ : ∃ L, L = (pre.map (spanC l0 N) ++ [(⟨z0, z1, z2⟩ : S60)]).length := ⟨_, rfl⟩
      rw [← hL5] at hR5 hat5 ⊢
      clear hL5
      have hg5 := Ytdelfhahbngcfaa.Ch.of_grown hgr5
      have hvo5 : ∀ k, v.ownBlock = some k → w.heap.size + 4 ≤ k := fun k hk => (hI4.ow.lt k hk).1
      have hvar5 := Ytdelfhahbngcfaa.blk_ch hI4.var hg5 (fun e => by have := hvo5 _ e; omega)
      have hbb5 : Below w.heap.size w U5 := hI4.bel.trans (hg5.below hI4.bel.size (fun k e => by have := hvo5 _ e; omega))
      have HFIN := Lib.hid (read_round (B := W0.heap.size) (x := x) HI.out (by omega) (hC4.trans hg5 (fun _ h => .inl h)) (by rw [HZ.out]; exact own_of_R hR5) (hat5.imp id (fun ⟨q, e, hq⟩ => ⟨q, e, Nat.le_trans hC4.size hq⟩)))
      have c6 := Ytdelfhahbngcfaa.blk_cell hvar5 0 _ rfl
      have f6 := Ytdelfhahbngcfaa.blk_thawed hvar5 0
      refine hK.out _ _ (HSS.out _ hbb5) (fun hHeld => ?_)
      clear hK K
      try simp only [Act.put, List.setIfInBounds_toArray, List.set_cons_zero, List.set_cons_succ]
      refine wpAnyH_ready (rs := [14]) (by kernel_rfl) (by simp) ?_
      refine AllReadyH.cons (o := { dst := none, op := Go.Op.store 22 (Go.Operand.tmp 6) (Go.Operand.tmp 47), type := 0, pos := "past.go:229", after := #[{ on := 13, ground := Go.Ground.data }, { on := 13, ground := Go.Ground.chain }, { on := 0, ground := Go.Ground.phase }, { on := 1, ground := Go.Ground.phase }, { on := 2, ground := Go.Ground.phase }, { on := 3, ground := Go.Ground.phase }, { on := 4, ground := Go.Ground.phase }, { on := 5, ground := Go.Ground.phase }, { on := 6, ground := Go.Ground.phase }, { on := 7, ground := Go.Ground.phase }, { on := 8, ground := Go.Ground.phase }, { on := 9, ground := Go.Ground.phase }, { on := 10, ground := Go.Ground.phase }, { on := 11, ground := Go.Ground.phase }, { on := 12, ground := Go.Ground.phase }, { on := 13, ground := Go.Ground.phase }], guard := none }) rfl (fun K hK => ?_) (AllReadyH.nil)
      go_simp
      refine hK.out _ _ (HSS.out _ (hbb5.trans ((Ytdelfhahbngcfaa.Ch.setCell U5 ⟨w.heap.size + 1, 0, none⟩ _).below hbb5.size (fun k e => by have e : k = w.heap.size + 1 := e; omega)))) (fun hHeld => ?_)
      clear hK K
      try simp only [Act.put, List.setIfInBounds_toArray, List.set_cons_zero, List.set_cons_succ]
      refine wpAnyH_done (by kernel_rfl) ?_ _
      exact HFIN.out
    · go_simp
      refine (HN1.out _ hI0.bel).mono ?_
      rintro e U7 ⟨rfl, hd7⟩
      have hb7 := below_drawn hd7
      have hI7 := hI0.below hb7
      have hC7 := hC0.trans (Ytdelfhahbngcfaa.Ch.of_below hb7 (fun k => v.ownBlock = some k)) (fun _ h => .inl h)
      clear hd7
      go_wp2_with fail
      refine hK.out _ _ (HSS.out _ hI7.bel) (fun hHeld => ?_)
      clear hK K
      try simp only [Act.put, List.setIfInBounds_toArray, List.set_cons_zero, List.set_cons_succ]
      refine wpAnyH_ready (rs := [0, 10]) (by kernel_rfl) (by simp) ?_
      refine AllReadyH.cons (o := { dst := some 34, op := Go.Op.load 22 (Go.Operand.tmp 6), type := 22, pos := "past.go:229", after := #[], guard := none }) rfl (fun K hK => ?_) (AllReadyH.cons (o := { dst := some 44, op := Go.Op.call { callee := Go.Callee.value (Go.Operand.func 49), args := #[Go.Operand.tmp 43], argTypes := #[23] }, type := 3, pos := "past.go:229", after := #[{ on := 9, ground := Go.Ground.data }, { on := 7, ground := Go.Ground.chain }], guard := none }) rfl (fun K hK => ?_) (AllReadyH.nil))
      · have c6 := Ytdelfhahbngcfaa.blk_cell hI7.var 0 _ rfl
        go_simp
        clear c6
        refine hK.out _ _ (HSS.out _ hI7.bel) (fun hHeld => ?_)
        clear hK K
        try simp only [Act.put, List.setIfInBounds_toArray, List.set_cons_zero, List.set_cons_succ]
        refine wpAnyH_ready (rs := [10]) (by kernel_rfl) (by simp) ?_
        refine AllReadyH.cons (o := { dst := some 44, op := Go.Op.call { callee := Go.Callee.value (Go.Operand.func 49), args := #[Go.Operand.tmp 43], argTypes := #[23] }, type := 3, pos := "past.go:229", after := #[{ on := 9, ground := Go.Ground.data }, { on := 7, ground := Go.Ground.chain }], guard := none }) rfl (fun K hK => ?_) (AllReadyH.nil)
        go_simp
        refine (HN2.out _ hI7.bel).mono ?_
        rintro e U9 ⟨rfl, hd9⟩
        have hb9 := below_drawn hd9
        have hI9 := hI7.below hb9
        have hC9 := hC7.trans (Ytdelfhahbngcfaa.Ch.of_below hb9 (fun k => v.ownBlock = some k)) (fun _ h => .inl h)
        clear hd9
        go_wp2_with fail
        refine hK.out _ _ (HSS.out _ hI9.bel) (fun hHeld => ?_)
        clear hK K
        try simp only [Act.put, List.setIfInBounds_toArray, List.set_cons_zero, List.set_cons_succ]
        refine wpAnyH_take (i := 11) (oi := { dst := some 45, op := Go.Op.build 60 #[(0, Go.Operand.tmp 38), (1, Go.Operand.tmp 41), (2, Go.Operand.tmp 44)], type := 60, pos := "past.go:229", after := #[{ on := 4, ground := Go.Ground.data }, { on := 7, ground := Go.Ground.data }, { on := 10, ground := Go.Ground.data }], guard := none }) (v := .agg #[.int .i64 z0, .int .i64 z1, .int .i64 z2]) rfl (by kernel_rfl) (by kernel_rfl) (by kernel_rfl) (fun _ _ _ h => h) (Or.inl ⟨by rfl, ?_⟩) (by assumption) ?_
        · intro W hSw
          go_simp
          try with_reducible rfl
        simp only [Act.put, List.setIfInBounds_toArray, List.set_cons_zero, List.set_cons_succ]
        refine wpAnyH_ready (rs := [12]) (by kernel_rfl) (by simp) ?_
        refine AllReadyH.cons (o := { dst := some 46, op := Go.Op.buildSlice 22 1 #[(0, Go.Operand.tmp 45)], type := 22, pos := "past.go:229", after := #[{ on := 11, ground := Go.Ground.data }], guard := none }) rfl (fun K hK => ?_) (AllReadyH.nil)
        go_simp
        have hb10 := below_alloc (Below.refl _ U9) (.cells #[.int .i64 z0, .int .i64 z1, .int .i64 z2] 60)
        have hI10 := hI9.below hb10
        have hC10 := hC9.trans (Ytdelfhahbngcfaa.Ch.of_below hb10 (fun k => v.ownBlock = some k)) (fun _ h => .inl h)
        have hX10 := Ytdelfhahbngcfaa.blk_new U9 60 #[.int .i64 z0, .int .i64 z1, .int .i64 z2]
        have hO10 : v.ownBlock ≠ some U9.heap.size := fun e => by have := (hI9.ow.lt _ e).2; omega
        refine hK.out _ _ (HSS.out _ hI10.bel) (fun hHeld => ?_)
        clear hK K
        try simp only [Act.put, List.setIfInBounds_toArray, List.set_cons_zero, List.set_cons_succ]
        obtain ⟨U10, hV10⟩ : ∃ V, V = U9.alloc (.cells #[.int .i64 z0, .int .i64 z1, .int .i64 z2] 60) := ⟨_, rfl⟩
        obtain ⟨G10, hG10⟩ : ∃ G, G = U9.heap.size := ⟨_, rfl⟩
        rw [← hV10] at hHeld hI10 hC10 hX10 ⊢
        rw [← hG10] at hX10 hO10 ⊢
        clear hV10 hG10 hb10
        refine wpAnyH_ready (rs := [13]) (by kernel_rfl) (by simp) ?_
        refine AllReadyH.cons (o := { dst := some 47, op := Go.Op.call { callee := Go.Callee.builtin Go.Builtin.append, args := #[Go.Operand.tmp 34, Go.Operand.tmp 46], argTypes := #[22, 22] }, type := 22, pos := "past.go:229", after := #[{ on := 0, ground := Go.Ground.data }, { on := 12, ground := Go.Ground.data }, { on := 10, ground := Go.Ground.chain }], guard := none }) rfl (fun K hK => ?_) (AllReadyH.nil)
        refine Kd.R_append_rows_step k60 (Rr := k60.K U10) (w0 := U10) (w.heap.size + 4) rfl (.tmp 34) (.tmp 46) 22 60 (.agg #[.int .i64 0, .int .i64 0, .int .i64 0]) 24 rfl Try.underlying22 info60 rfl (by decide) (by decide) v (pre.map (spanC l0 N)) [(⟨z0, z1, z2⟩ : S60)] _ _ _ (fun _ => True) (fun _ => False) (by rfl) (by rfl) (R_of_own hI10.ow) (one60 ⟨z0, z1, z2⟩ hX10) (fun x cs h => k60_flat x cs _ _ h) (fun _ h => h.elim) (fun _ _ => trivial) (Below.refl _ _) hI10.sz (by have := HPL.out; omega) ?_
        intro v11 U11 hR11 hb11 hgr11 hat11
        obtain ⟨Ar11, cr11, rfl, _, _⟩ := Kd.R_reads hR11
        obtain ⟨L11, hL11⟩ : ∃ L, L = (pre.map (spanC l0 N) ++ [(⟨z0, z1, z2⟩ : S60)]).length := ⟨_, rfl⟩
        rw [← hL11] at hR11 hat11 ⊢
        clear hL11
        have hg11 := Ytdelfhahbngcfaa.Ch.of_grown hgr11
        have hvo11 : ∀ k, v.ownBlock = some k → w.heap.size + 4 ≤ k := fun k hk => (hI10.ow.lt k hk).1
        have hvar11 := Ytdelfhahbngcfaa.blk_ch hI10.var hg11 (fun e => by have := hvo11 _ e; omega)
        have hbb11 : Below w.heap.size w U11 := hI10.bel.trans (hg11.below hI10.bel.size (fun k e => by have := hvo11 _ e; omega))
        have HFIN := Lib.hid (read_round (B := W0.heap.size) (x := x) HI.out (by omega) (hC10.trans hg11 (fun _ h => .inl h)) (by rw [HZ.out]; exact own_of_R hR11) (hat11.imp id (fun ⟨q, e, hq⟩ => ⟨q, e, Nat.le_trans hC10.size hq⟩)))
        have c6 := Ytdelfhahbngcfaa.blk_cell hvar11 0 _ rfl
        have f6 := Ytdelfhahbngcfaa.blk_thawed hvar11 0
        refine hK.out _ _ (HSS.out _ hbb11) (fun hHeld => ?_)
        clear hK K
        try simp only [Act.put, List.setIfInBounds_toArray, List.set_cons_zero, List.set_cons_succ]
        refine wpAnyH_ready (rs := [14]) (by kernel_rfl) (by simp) ?_
        refine AllReadyH.cons (o := { dst := none, op := Go.Op.store 22 (Go.Operand.tmp 6) (Go.Operand.tmp 47), type := 0, pos := "past.go:229", after := #[{ on := 13, ground := Go.Ground.data }, { on := 13, ground := Go.Ground.chain }, { on := 0, ground := Go.Ground.phase }, { on := 1, ground := Go.Ground.phase }, { on := 2, ground := Go.Ground.phase }, { on := 3, ground := Go.Ground.phase }, { on := 4, ground := Go.Ground.phase }, { on := 5, ground := Go.Ground.phase }, { on := 6, ground := Go.Ground.phase }, { on := 7, ground := Go.Ground.phase }, { on := 8, ground := Go.Ground.phase }, { on := 9, ground := Go.Ground.phase }, { on := 10, ground := Go.Ground.phase }, { on := 11, ground := Go.Ground.phase }, { on := 12, ground := Go.Ground.phase }, { on := 13, ground := Go.Ground.phase }], guard := none }) rfl (fun K hK => ?_) (AllReadyH.nil)
        go_simp
        refine hK.out _ _ (HSS.out _ (hbb11.trans ((Ytdelfhahbngcfaa.Ch.setCell U11 ⟨w.heap.size + 1, 0, none⟩ _).below hbb11.size (fun k e => by have e : k = w.heap.size + 1 := e; omega)))) (fun hHeld => ?_)
        clear hK K
        try simp only [Act.put, List.setIfInBounds_toArray, List.set_cons_zero, List.set_cons_succ]
        refine wpAnyH_done (by kernel_rfl) ?_ _
        exact HFIN.out
      · go_simp
        refine (HN2.out _ hI7.bel).mono ?_
        rintro e U13 ⟨rfl, hd13⟩
        have hb13 := below_drawn hd13
        have hI13 := hI7.below hb13
        have hC13 := hC7.trans (Ytdelfhahbngcfaa.Ch.of_below hb13 (fun k => v.ownBlock = some k)) (fun _ h => .inl h)
        clear hd13
        go_wp2_with fail
        refine hK.out _ _ (HSS.out _ hI13.bel) (fun hHeld => ?_)
        clear hK K
        try simp only [Act.put, List.setIfInBounds_toArray, List.set_cons_zero, List.set_cons_succ]
        refine wpAnyH_take (i := 11) (oi := { dst := some 45, op := Go.Op.build 60 #[(0, Go.Operand.tmp 38), (1, Go.Operand.tmp 41), (2, Go.Operand.tmp 44)], type := 60, pos := "past.go:229", after := #[{ on := 4, ground := Go.Ground.data }, { on := 7, ground := Go.Ground.data }, { on := 10, ground := Go.Ground.data }], guard := none }) (v := .agg #[.int .i64 z0, .int .i64 z1, .int .i64 z2]) rfl (by kernel_rfl) (by kernel_rfl) (by kernel_rfl) (fun _ _ _ h => h) (Or.inl ⟨by rfl, ?_⟩) (by assumption) ?_
        · intro W hSw
          go_simp
          try with_reducible rfl
        simp only [Act.put, List.setIfInBounds_toArray, List.set_cons_zero, List.set_cons_succ]
        refine wpAnyH_ready (rs := [0, 12]) (by kernel_rfl) (by simp) ?_
        refine AllReadyH.cons (o := { dst := some 34, op := Go.Op.load 22 (Go.Operand.tmp 6), type := 22, pos := "past.go:229", after := #[], guard := none }) rfl (fun K hK => ?_) (AllReadyH.cons (o := { dst := some 46, op := Go.Op.buildSlice 22 1 #[(0, Go.Operand.tmp 45)], type := 22, pos := "past.go:229", after := #[{ on := 11, ground := Go.Ground.data }], guard := none }) rfl (fun K hK => ?_) (AllReadyH.nil))
        · have c6 := Ytdelfhahbngcfaa.blk_cell hI13.var 0 _ rfl
          go_simp
          clear c6
          refine hK.out _ _ (HSS.out _ hI13.bel) (fun hHeld => ?_)
          clear hK K
          try simp only [Act.put, List.setIfInBounds_toArray, List.set_cons_zero, List.set_cons_succ]
          refine wpAnyH_ready (rs := [12]) (by kernel_rfl) (by simp) ?_
          refine AllReadyH.cons (o := { dst := some 46, op := Go.Op.buildSlice 22 1 #[(0, Go.Operand.tmp 45)], type := 22, pos := "past.go:229", after := #[{ on := 11, ground := Go.Ground.data }], guard := none }) rfl (fun K hK => ?_) (AllReadyH.nil)
          go_simp
          have hb15 := below_alloc (Below.refl _ U13) (.cells #[.int .i64 z0, .int .i64 z1, .int .i64 z2] 60)
          have hI15 := hI13.below hb15
          have hC15 := hC13.trans (Ytdelfhahbngcfaa.Ch.of_below hb15 (fun k => v.ownBlock = some k)) (fun _ h => .inl h)
          have hX15 := Ytdelfhahbngcfaa.blk_new U13 60 #[.int .i64 z0, .int .i64 z1, .int .i64 z2]
          have hO15 : v.ownBlock ≠ some U13.heap.size := fun e => by have := (hI13.ow.lt _ e).2; omega
          refine hK.out _ _ (HSS.out _ hI15.bel) (fun hHeld => ?_)
          clear hK K
          try simp only [Act.put, List.setIfInBounds_toArray, List.set_cons_zero, List.set_cons_succ]
          obtain ⟨U15, hV15⟩ : ∃ V, V = U13.alloc (.cells #[.int .i64 z0, .int .i64 z1, .int .i64 z2] 60) := ⟨_, rfl⟩
          obtain ⟨G15, hG15⟩ : ∃ G, G = U13.heap.size := ⟨_, rfl⟩
          rw [← hV15] at hHeld hI15 hC15 hX15 ⊢
          rw [← hG15] at hX15 hO15 ⊢
          clear hV15 hG15 hb15
          refine wpAnyH_ready (rs := [13]) (by kernel_rfl) (by simp) ?_
          refine AllReadyH.cons (o := { dst := some 47, op := Go.Op.call { callee := Go.Callee.builtin Go.Builtin.append, args := #[Go.Operand.tmp 34, Go.Operand.tmp 46], argTypes := #[22, 22] }, type := 22, pos := "past.go:229", after := #[{ on := 0, ground := Go.Ground.data }, { on := 12, ground := Go.Ground.data }, { on := 10, ground := Go.Ground.chain }], guard := none }) rfl (fun K hK => ?_) (AllReadyH.nil)
          refine Kd.R_append_rows_step k60 (Rr := k60.K U15) (w0 := U15) (w.heap.size + 4) rfl (.tmp 34) (.tmp 46) 22 60 (.agg #[.int .i64 0, .int .i64 0, .int .i64 0]) 24 rfl Try.underlying22 info60 rfl (by decide) (by decide) v (pre.map (spanC l0 N)) [(⟨z0, z1, z2⟩ : S60)] _ _ _ (fun _ => True) (fun _ => False) (by rfl) (by rfl) (R_of_own hI15.ow) (one60 ⟨z0, z1, z2⟩ hX15) (fun x cs h => k60_flat x cs _ _ h) (fun _ h => h.elim) (fun _ _ => trivial) (Below.refl _ _) hI15.sz (by have := HPL.out; omega) ?_
          intro v16 U16 hR16 hb16 hgr16 hat16
          obtain ⟨Ar16, cr16, rfl, _, _⟩ := Kd.R_reads hR16
          obtain ⟨L16, hL16⟩ : ∃ L, L = (pre.map (spanC l0 N) ++ [(⟨z0, z1, z2⟩ : S60)]).length := ⟨_, rfl⟩
          rw [← hL16] at hR16 hat16 ⊢
          clear hL16
          have hg16 := Ytdelfhahbngcfaa.Ch.of_grown hgr16
          have hvo16 : ∀ k, v.ownBlock = some k → w.heap.size + 4 ≤ k := fun k hk => (hI15.ow.lt k hk).1
          have hvar16 := Ytdelfhahbngcfaa.blk_ch hI15.var hg16 (fun e => by have := hvo16 _ e; omega)
          have hbb16 : Below w.heap.size w U16 := hI15.bel.trans (hg16.below hI15.bel.size (fun k e => by have := hvo16 _ e; omega))
          have HFIN := Lib.hid (read_round (B := W0.heap.size) (x := x) HI.out (by omega) (hC15.trans hg16 (fun _ h => .inl h)) (by rw [HZ.out]; exact own_of_R hR16) (hat16.imp id (fun ⟨q, e, hq⟩ => ⟨q, e, Nat.le_trans hC15.size hq⟩)))
          have c6 := Ytdelfhahbngcfaa.blk_cell hvar16 0 _ rfl
          have f6 := Ytdelfhahbngcfaa.blk_thawed hvar16 0
          refine hK.out _ _ (HSS.out _ hbb16) (fun hHeld => ?_)
          clear hK K
          try simp only [Act.put, List.setIfInBounds_toArray, List.set_cons_zero, List.set_cons_succ]
          refine wpAnyH_ready (rs := [14]) (by kernel_rfl) (by simp) ?_
          refine AllReadyH.cons (o := { dst := none, op := Go.Op.store 22 (Go.Operand.tmp 6) (Go.Operand.tmp 47), type := 0, pos := "past.go:229", after := #[{ on := 13, ground := Go.Ground.data }, { on := 13, ground := Go.Ground.chain }, { on := 0, ground := Go.Ground.phase }, { on := 1, ground := Go.Ground.phase }, { on := 2, ground := Go.Ground.phase }, { on := 3, ground := Go.Ground.phase }, { on := 4, ground := Go.Ground.phase }, { on := 5, ground := Go.Ground.phase }, { on := 6, ground := Go.Ground.phase }, { on := 7, ground := Go.Ground.phase }, { on := 8, ground := Go.Ground.phase }, { on := 9, ground := Go.Ground.phase }, { on := 10, ground := Go.Ground.phase }, { on := 11, ground := Go.Ground.phase }, { on := 12, ground := Go.Ground.phase }, { on := 13, ground := Go.Ground.phase }], guard := none }) rfl (fun K hK => ?_) (AllReadyH.nil)
          go_simp
          refine hK.out _ _ (HSS.out _ (hbb16.trans ((Ytdelfhahbngcfaa.Ch.setCell U16 ⟨w.heap.size + 1, 0, none⟩ _).below hbb16.size (fun k e => by have e : k = w.heap.size + 1 := e; omega)))) (fun hHeld => ?_)
          clear hK K
          try simp only [Act.put, List.setIfInBounds_toArray, List.set_cons_zero, List.set_cons_succ]
          refine wpAnyH_done (by kernel_rfl) ?_ _
          exact HFIN.out
        · go_simp
          have hb18 := below_alloc (Below.refl _ U13) (.cells #[.int .i64 z0, .int .i64 z1, .int .i64 z2] 60)
          have hI18 := hI13.below hb18
          have hC18 := hC13.trans (Ytdelfhahbngcfaa.Ch.of_below hb18 (fun k => v.ownBlock = some k)) (fun _ h => .inl h)
          have hX18 := Ytdelfhahbngcfaa.blk_new U13 60 #[.int .i64 z0, .int .i64 z1, .int .i64 z2]
          have hO18 : v.ownBlock ≠ some U13.heap.size := fun e => by have := (hI13.ow.lt _ e).2; omega
          refine hK.out _ _ (HSS.out _ hI18.bel) (fun hHeld => ?_)
          clear hK K
          try simp only [Act.put, List.setIfInBounds_toArray, List.set_cons_zero, List.set_cons_succ]
          obtain ⟨U18, hV18⟩ : ∃ V, V = U13.alloc (.cells #[.int .i64 z0, .int .i64 z1, .int .i64 z2] 60) := ⟨_, rfl⟩
          obtain ⟨G18, hG18⟩ : ∃ G, G = U13.heap.size := ⟨_, rfl⟩
          rw [← hV18] at hHeld hI18 hC18 hX18 ⊢
          rw [← hG18] at hX18 hO18 ⊢
          clear hV18 hG18 hb18
          refine wpAnyH_ready (rs := [0]) (by kernel_rfl) (by simp) ?_
          refine AllReadyH.cons (o := { dst := some 34, op := Go.Op.load 22 (Go.Operand.tmp 6), type := 22, pos := "past.go:229", after := #[], guard := none }) rfl (fun K hK => ?_) (AllReadyH.nil)
          have c6 := Ytdelfhahbngcfaa.blk_cell hI18.var 0 _ rfl
          go_simp
          clear c6
          refine hK.out _ _ (HSS.out _ hI18.bel) (fun hHeld => ?_)
          clear hK K
          try simp only [Act.put, List.setIfInBounds_toArray, List.set_cons_zero, List.set_cons_succ]
          refine wpAnyH_ready (rs := [13]) (by kernel_rfl) (by simp) ?_
          refine AllReadyH.cons (o := { dst := some 47, op := Go.Op.call { callee := Go.Callee.builtin Go.Builtin.append, args := #[Go.Operand.tmp 34, Go.Operand.tmp 46], argTypes := #[22, 22] }, type := 22, pos := "past.go:229", after := #[{ on := 0, ground := Go.Ground.data }, { on := 12, ground := Go.Ground.data }, { on := 10, ground := Go.Ground.chain }], guard := none }) rfl (fun K hK => ?_) (AllReadyH.nil)
          refine Kd.R_append_rows_step k60 (Rr := k60.K U18) (w0 := U18) (w.heap.size + 4) rfl (.tmp 34) (.tmp 46) 22 60 (.agg #[.int .i64 0, .int .i64 0, .int .i64 0]) 24 rfl Try.underlying22 info60 rfl (by decide) (by decide) v (pre.map (spanC l0 N)) [(⟨z0, z1, z2⟩ : S60)] _ _ _ (fun _ => True) (fun _ => False) (by rfl) (by rfl) (R_of_own hI18.ow) (one60 ⟨z0, z1, z2⟩ hX18) (fun x cs h => k60_flat x cs _ _ h) (fun _ h => h.elim) (fun _ _ => trivial) (Below.refl _ _) hI18.sz (by have := HPL.out; omega) ?_
          intro v20 U20 hR20 hb20 hgr20 hat20
          obtain ⟨Ar20, cr20, rfl, _, _⟩ := Kd.R_reads hR20
          obtain ⟨L20, hL20⟩ : ∃ L, L = (pre.map (spanC l0 N) ++ [(⟨z0, z1, z2⟩ : S60)]).length := ⟨_, rfl⟩
          rw [← hL20] at hR20 hat20 ⊢
          clear hL20
          have hg20 := Ytdelfhahbngcfaa.Ch.of_grown hgr20
          have hvo20 : ∀ k, v.ownBlock = some k → w.heap.size + 4 ≤ k := fun k hk => (hI18.ow.lt k hk).1
          have hvar20 := Ytdelfhahbngcfaa.blk_ch hI18.var hg20 (fun e => by have := hvo20 _ e; omega)
          have hbb20 : Below w.heap.size w U20 := hI18.bel.trans (hg20.below hI18.bel.size (fun k e => by have := hvo20 _ e; omega))
          have HFIN := Lib.hid (read_round (B := W0.heap.size) (x := x) HI.out (by omega) (hC18.trans hg20 (fun _ h => .inl h)) (by rw [HZ.out]; exact own_of_R hR20) (hat20.imp id (fun ⟨q, e, hq⟩ => ⟨q, e, Nat.le_trans hC18.size hq⟩)))
          have c6 := Ytdelfhahbngcfaa.blk_cell hvar20 0 _ rfl
          have f6 := Ytdelfhahbngcfaa.blk_thawed hvar20 0
          refine hK.out _ _ (HSS.out _ hbb20) (fun hHeld => ?_)
          clear hK K
          try simp only [Act.put, List.setIfInBounds_toArray, List.set_cons_zero, List.set_cons_succ]
          refine wpAnyH_ready (rs := [14]) (by kernel_rfl) (by simp) ?_
          refine AllReadyH.cons (o := { dst := none, op := Go.Op.store 22 (Go.Operand.tmp 6) (Go.Operand.tmp 47), type := 0, pos := "past.go:229", after := #[{ on := 13, ground := Go.Ground.data }, { on := 13, ground := Go.Ground.chain }, { on := 0, ground := Go.Ground.phase }, { on := 1, ground := Go.Ground.phase }, { on := 2, ground := Go.Ground.phase }, { on := 3, ground := Go.Ground.phase }, { on := 4, ground := Go.Ground.phase }, { on := 5, ground := Go.Ground.phase }, { on := 6, ground := Go.Ground.phase }, { on := 7, ground := Go.Ground.phase }, { on := 8, ground := Go.Ground.phase }, { on := 9, ground := Go.Ground.phase }, { on := 10, ground := Go.Ground.phase }, { on := 11, ground := Go.Ground.phase }, { on := 12, ground := Go.Ground.phase }, { on := 13, ground := Go.Ground.phase }], guard := none }) rfl (fun K hK => ?_) (AllReadyH.nil)
          go_simp
          refine hK.out _ _ (HSS.out _ (hbb20.trans ((Ytdelfhahbngcfaa.Ch.setCell U20 ⟨w.heap.size + 1, 0, none⟩ _).below hbb20.size (fun k e => by have e : k = w.heap.size + 1 := e; omega)))) (fun hHeld => ?_)
          clear hK K
          try simp only [Act.put, List.setIfInBounds_toArray, List.set_cons_zero, List.set_cons_succ]
          refine wpAnyH_done (by kernel_rfl) ?_ _
          exact HFIN.out
  case done =>
    rintro D ys W hD rfl ⟨v, hI⟩ hK
    rw [spanC_range] at hI
    obtain ⟨A9, c9, rfl, h9, h9c⟩ := Kd.R_reads (R_of_own hI.ow)
    have c6 := Ytdelfhahbngcfaa.blk_cell hI.var 0 _ rfl
    have HI := Lib.hid hI; have HK := Lib.hid hK
    have HCH := Lib.hid (past_Check.calls k A9 c9 _ ee W h9c h9 HCHK.out)
    have hM : ((List.range N).map (spanAt l0)).length = N := by simp
    rw [hM] at c6 HCH
    have HM := Lib.hid hM.symm
    clear hI hK h9 h9c hM
    gi_wp2_with fail
    refine ⟨trivial, ?_⟩
    refine (callsIn_wide.2 HCH.out).mono ?_; rintro e w5 ⟨rfl, hb5⟩
    have HI5 := Lib.hid (HI.out.below hb5)
    have HK5 := Lib.hid ((hb5.block D (Array.getElem?_eq_some_iff.1 HK.out).1).trans HK.out)
    have x0 := Ytdelfhahbngcfaa.blk_cell HI5.out.flt 0 _ rfl
    have x1 := Ytdelfhahbngcfaa.blk_cell HI5.out.flt 1 _ rfl
    have x2 := Ytdelfhahbngcfaa.blk_thawed HI5.out.flt 0
    have x3 := Ytdelfhahbngcfaa.blk_thawed HI5.out.flt 1
    clear hb5 HCH
    by_cases he : ee = 0
    · subst he
      have HE := Lib.hid (show r1 = (List.range N).map (spanAt l0) ∧ r2 = 0 ∧ r3 = 0 from by
        have := HRR.out
        rw [if_pos rfl] at this
        injection this with a1 a2
        injection a2 with a2 a3
        exact ⟨a1.symm, a2.symm, a3.symm⟩)
      have c65 := Ytdelfhahbngcfaa.blk_cell HI5.out.var 0 _ rfl
      gi_wp2
      obtain ⟨wf, hwf⟩ : ∃ wf, wf = (w5.setCell ⟨w.heap.size, 0, none⟩ (.int .i64 0)).setCell ⟨w.heap.size, 1, none⟩ (.int .i64 0) := ⟨_, rfl⟩
      have hDne : D ≠ w.heap.size := fun e => by
        have h5 := HK5.out
        have h6 : w5.heap[w.heap.size]? = _ := HI5.out.flt
        rw [e, h6] at h5
        cases h5
      have hff : Ytdelfhahbngcfaa.Blk wf w.heap.size 32 #[.int .i64 0, .int .i64 0] := by rw [hwf]; exact Ytdelfhahbngcfaa.blk_set (Ytdelfhahbngcfaa.blk_set HI5.out.flt 0 (.int .i64 0)) 1 (.int .i64 0)
      have hcw : Ytdelfhahbngcfaa.Ch (fun k => k = w.heap.size) w5 wf := by rw [hwf]; exact (Ytdelfhahbngcfaa.Ch.setCell w5 ⟨w.heap.size, 0, none⟩ _).trans (Ytdelfhahbngcfaa.Ch.setCell _ ⟨w.heap.size, 1, none⟩ _) (fun _ h => .inl h)
      have hKr : wf.heap[D]? = some (.deferred (some [])) := (hcw.block D (Array.getElem?_eq_some_iff.1 HK5.out).1 hDne).trans HK5.out
      rw [← hwf]
      refine ⟨by simp, .inl ⟨_, _, rfl, run_takeDeferred hKr, ?_⟩⟩
      have y0 : (wf.putObj D (.deferred none)).cell? ⟨w.heap.size, 0, none⟩ = some (.int .i64 0) := (World.cell?_of_block (a := ⟨w.heap.size, 0, none⟩) (World.putObj_heap_other (by show w.heap.size ≠ D; omega))).trans (Ytdelfhahbngcfaa.blk_cell hff 0 _ rfl)
      have y1 : (wf.putObj D (.deferred none)).cell? ⟨w.heap.size, 1, none⟩ = some (.int .i64 0) := (World.cell?_of_block (a := ⟨w.heap.size, 1, none⟩) (World.putObj_heap_other (by show w.heap.size ≠ D; omega))).trans (Ytdelfhahbngcfaa.blk_cell hff 1 _ rfl)
      refine ⟨.tuple #[.slice A9 N c9, .agg #[.int .i64 0, .int .i64 0]], ?_, .slice A9 N c9, ?_, ?_, ?_⟩
      · simp [results, Try.results15, go_sem, y0, y1]
      · obtain ⟨a1, a2, a3⟩ := HE.out
        rw [a2, a3]
      · obtain ⟨a1, a2, a3⟩ := HE.out
        rw [a1]
        have hne : ∀ k, (Value.slice A9 N c9).ownBlock = some k → k ≠ w.heap.size ∧ k ≠ D := fun k hk => by
          have ho := HI5.out.ow
          rw [HM.out] at hk
          have h1 := (ho.lt k hk).1
          refine ⟨by omega, fun e => ?_⟩
          obtain ⟨_, cur, h6⟩ := own_typ ho hk
          rw [e] at h6
          have h5 := HK5.out
          rw [h6] at h5
          cases h5
        have ho := HI5.out.ow
        rw [← HM.out] at ho
        have h1 : Own60 wf (w.heap.size + 4) (.slice A9 N c9) ((List.range N).map (spanAt l0)) := own_ch ho hcw (fun k hk => (hne k hk).1)
        have h2 : Own60 (wf.putObj D (.deferred none)) (w.heap.size + 4) (.slice A9 N c9) ((List.range N).map (spanAt l0)) := own_same h1 (fun k hk => World.putObj_heap_other (by have := (hne k hk).2; omega))
        exact Kd.R_lower (R_of_own h2) (by omega)
      · exact (HI5.out.bel.trans (hcw.below HI5.out.bel.size (fun k e => by rw [e]; exact Nat.le_refl _))).trans (below_put wf D _ (by omega))
    · have he' : (ee != 0) = true := bne_iff_ne.2 he
      have HE := Lib.hid (show r1 = [] ∧ r2 = ee ∧ r3 = 0 from by
        have := HRR.out
        rw [if_neg he] at this
        injection this with a1 a2
        injection a2 with a2 a3
        exact ⟨a1.symm, a2.symm, a3.symm⟩)
      clear he
      gi_wp2
      obtain ⟨wf, hwf⟩ : ∃ wf, wf = (w5.setCell ⟨w.heap.size, 0, none⟩ (.int .i64 ee)).setCell ⟨w.heap.size, 1, none⟩ (.int .i64 0) := ⟨_, rfl⟩
      have hDne : D ≠ w.heap.size := fun e => by
        have h5 := HK5.out
        have h6 : w5.heap[w.heap.size]? = _ := HI5.out.flt
        rw [e, h6] at h5
        cases h5
      have hff : Ytdelfhahbngcfaa.Blk wf w.heap.size 32 #[.int .i64 ee, .int .i64 0] := by rw [hwf]; exact Ytdelfhahbngcfaa.blk_set (Ytdelfhahbngcfaa.blk_set HI5.out.flt 0 (.int .i64 ee)) 1 (.int .i64 0)
      have hcw : Ytdelfhahbngcfaa.Ch (fun k => k = w.heap.size) w5 wf := by rw [hwf]; exact (Ytdelfhahbngcfaa.Ch.setCell w5 ⟨w.heap.size, 0, none⟩ _).trans (Ytdelfhahbngcfaa.Ch.setCell _ ⟨w.heap.size, 1, none⟩ _) (fun _ h => .inl h)
      have hKr : wf.heap[D]? = some (.deferred (some [])) := (hcw.block D (Array.getElem?_eq_some_iff.1 HK5.out).1 hDne).trans HK5.out
      rw [← hwf]
      refine ⟨by simp, .inl ⟨_, _, rfl, run_takeDeferred hKr, ?_⟩⟩
      have y0 : (wf.putObj D (.deferred none)).cell? ⟨w.heap.size, 0, none⟩ = some (.int .i64 ee) := (World.cell?_of_block (a := ⟨w.heap.size, 0, none⟩) (World.putObj_heap_other (by show w.heap.size ≠ D; omega))).trans (Ytdelfhahbngcfaa.blk_cell hff 0 _ rfl)
      have y1 : (wf.putObj D (.deferred none)).cell? ⟨w.heap.size, 1, none⟩ = some (.int .i64 0) := (World.cell?_of_block (a := ⟨w.heap.size, 1, none⟩) (World.putObj_heap_other (by show w.heap.size ≠ D; omega))).trans (Ytdelfhahbngcfaa.blk_cell hff 1 _ rfl)
      refine ⟨.tuple #[.slice none 0 0, .agg #[.int .i64 ee, .int .i64 0]], ?_, .slice none 0 0, ?_, ?_, ?_⟩
      · simp [results, Try.results15, go_sem, y0, y1]
      · obtain ⟨a1, a2, a3⟩ := HE.out
        rw [a2, a3]
      · obtain ⟨a1, a2, a3⟩ := HE.out
        rw [a1]
        exact Kd.R_nil _ _ _ _ _
      · exact (HI5.out.bel.trans (hcw.below HI5.out.bel.size (fun k e => by rw [e]; exact Nat.le_refl _))).trans (below_put wf D _ (by omega))
  case stop =>
    rintro D c pre W _ _ h _
    exact h.elim
theorem past_Read.calls (k : Nat) (A0 : Option Addr) (c0 : Nat) (l0 : List Int) (r1 : List S60) (r2 r3 : Int) (w : World) (hr0 : Kd.C (Kd.int .u8) w A0 l0.length l0) (hc0 : l0.length ≤ c0) (h : past_Read.f k l0 = some (r1, r2, r3)) :
    Calls Try.prog 15 #[.slice A0 l0.length c0] w fun e w' => ∃ v0_ : Value, e = .returned (.tuple #[v0_, .agg #[.int .i64 r2, .int .i64 r3]]) ∧ Kd.R k60 60 w' w.heap.size (fun _ => True) v0_ r1 ∧ Below w.heap.size w w' := by
  unfold past_Read.f at h
  by_cases hb : l0.length ≤ 1000000
  rotate_left
  · rw [if_neg hb] at h; cases h
  rw [if_pos hb] at h
  have dest : ∀ {x : List S60 × Int × Int}, some x = some (r1, r2, r3) → x.1 = r1 ∧ x.2.1 = r2 ∧ x.2.2 = r3 := fun e => by
    obtain rfl := Option.some.inj e
    exact ⟨rfl, rfl, rfl⟩
  by_cases h2 : l0.length < 2
  · rw [if_pos h2] at h
    obtain ⟨a1, a2, a3⟩ := dest h
    exact read_short k A0 c0 l0 r1 r2 r3 w hr0 hc0 h2 a1.symm a2.symm a3.symm
  rw [if_neg h2] at h
  by_cases hm : 0 ≤ manyV l0 ∧ manyV l0 ≤ 100000
  rotate_left
  · rw [if_neg hm] at h; cases h
  rw [if_pos hm] at h
  by_cases hl : (l0.length : Int) = 2 + 9 * manyV l0
  · rw [if_pos hl] at h
    obtain ⟨ee, he, h⟩ := Option.bind_eq_some_iff.mp h
    refine read_main k A0 c0 l0 r1 r2 r3 w hr0 hc0 hb (manyV l0).toNat (by omega) (by omega) ee he ?_
    by_cases e0 : ee = 0
    · rw [if_pos e0] at h ⊢
      exact Option.some.inj h
    · rw [if_neg e0] at h ⊢
      exact Option.some.inj h
  · rw [if_neg hl] at h
    obtain ⟨a1, a2, a3⟩ := dest h
    exact read_other k A0 c0 l0 r1 r2 r3 w hr0 hc0 (by omega) hb hm hl a1.symm a2.symm a3.symm
end Go.Proofs.YtdelfhahbngcfaaX.P07
end
section
namespace Go.Proofs.YtdelfhahbngcfaaX.P07
open Go.RowKit Go.Proofs.YtdelfhahbngcfaaW.PrintWords Go.Proofs.YtdelfhahbngcfaaW.PrintLast Go.Proofs.YtdelfhahbngcfaaW.PrintMore
set_option linter.unusedVariables false
set_option linter.unusedSimpArgs false
theorem ins_lenc (rs : List S60) (x : S60) : (insV rs x).length = rs.length + 1 := by unfold insV; simp; omega
theorem rise_lenc : ∀ (l rs : List S60), (l.foldl insV rs).length = rs.length + l.length
  | [], rs => rfl
  | x :: l, rs => by rw [List.foldl_cons, rise_lenc l, ins_lenc, List.length_cons]; omega
theorem merge_lenc (out : List S60) (x : S60) : (mergeV out x).length ≤ out.length + 1 := by
  unfold mergeV
  split <;> simp <;> omega
theorem merges_lenc : ∀ (l out : List S60), (l.foldl mergeV out).length ≤ out.length + l.length
  | [], out => Nat.le_refl _
  | x :: l, out => by
    rw [List.foldl_cons, List.length_cons]
    have := merges_lenc l (mergeV out x)
    have := merge_lenc out x
    omega
theorem tidy_lenc (l : List S60) : (tidyL l).length ≤ l.length := by
  unfold tidyL riseV
  have h1 := merges_lenc (l.foldl insV []) []
  have h2 := rise_lenc l []
  simp only [List.length_nil, Nat.zero_add] at h1 h2
  omega
theorem span_okS {d : S41} (h : okD d = true) : okS60 (spanD d) := by
  have hd' : 1 ≤ d.f0 ∧ d.f0 ≤ 200 ∧ 1 ≤ d.f1 ∧ d.f1 ≤ 2147483647 := by unfold okD at h; exact of_decide_eq_true h
  unfold okS60
  exact ⟨hd'.1, hd'.2.1, hd'.2.2.1, Int.le_refl _, hd'.2.2.2⟩
theorem tidy_chk (l : List S60) (hl : l.length ≤ 4000) (h : ∀ s ∈ l, okS60 s) : Chk (tidyL l) := by
  obtain ⟨a1, a2, a3⟩ := tidy_law l (fun s hs => okS_okI (h s hs))
  refine ⟨Nat.le_trans (tidy_lenc l) hl, can_chk a1 (fun s hs => ?_)⟩
  have hi : 1 ≤ s.f1 ∧ s.f1 ≤ s.f2 ∧ s.f2 ≤ 2147483647 := by have := a2 s hs; unfold okI at this; exact of_decide_eq_true this
  obtain ⟨t, ht, e, _, _⟩ := (a3 s.f0 s.f1).1 ⟨s, hs, rfl, Int.le_refl _, hi.2.1⟩
  have hk := h t ht
  unfold okS60 at hk ⊢
  omega
end Go.Proofs.YtdelfhahbngcfaaX.P07
end
section
namespace Go.Proofs.YtdelfhahbngcfaaX.P07
open Go.RowKit Go.Proofs.YtdelfhahbngcfaaW.PrintWords Go.Proofs.YtdelfhahbngcfaaW.PrintLast Go.Proofs.YtdelfhahbngcfaaW.PrintMore
set_option linter.unusedVariables false
set_option linter.unusedSimpArgs false
def pts (s : S60) : List (Int × Int) := (List.range (s.f2 - s.f1 + 1).toNat).map (fun i : Nat => (s.f0, s.f1 + (i : Int)))
def ptsL (l : List S60) : List (Int × Int) := l.flatMap pts
theorem mem_pts (s : S60) (n q : Int) : (n, q) ∈ pts s ↔ s.f0 = n ∧ s.f1 ≤ q ∧ q ≤ s.f2 := by
  unfold pts
  rw [List.mem_map]
  constructor
  · rintro ⟨i, hi, e⟩
    have hi' := List.mem_range.1 hi
    injection e with e1 e2
    omega
  · rintro ⟨h1, h2, h3⟩
    refine ⟨(q - s.f1).toNat, List.mem_range.2 (by omega), ?_⟩
    rw [h1, show s.f1 + ((q - s.f1).toNat : Int) = q by omega]
theorem mem_ptsL (l : List S60) (n q : Int) : (n, q) ∈ ptsL l ↔ HasP l n q := by
  unfold ptsL HasP
  rw [List.mem_flatMap]
  constructor
  · rintro ⟨s, hs, h⟩; exact ⟨s, hs, (mem_pts s n q).1 h⟩
  · rintro ⟨s, hs, h⟩; exact ⟨s, hs, (mem_pts s n q).2 h⟩
theorem pts_len {s : S60} (h : s.f1 ≤ s.f2) : ((pts s).length : Int) = s.f2 - s.f1 + 1 := by unfold pts; simp; omega
theorem ptsL_len : ∀ (l : List S60), (∀ s ∈ l, s.f1 ≤ s.f2) → ((ptsL l).length : Int) = cnt l
  | [], _ => rfl
  | s :: l, h => by
    have h1 := pts_len (h s (List.mem_cons_self ..))
    have h2 := ptsL_len l (fun u hu => h u (List.mem_cons_of_mem _ hu))
    show ((pts s ++ ptsL l).length : Int) = s.f2 - s.f1 + 1 + cnt l
    rw [List.length_append]
    omega
theorem pts_nodup (s : S60) : (pts s).Nodup := by
  unfold pts
  rw [List.nodup_iff_pairwise_ne, List.pairwise_map]
  refine List.Pairwise.imp ?_ List.nodup_range
  intro a b hab e
  injection e with e1 e2
  exact hab (by omega)
theorem ptsL_nodup : ∀ (l : List S60), Can l → (ptsL l).Nodup
  | [], _ => List.nodup_nil
  | s :: l, h => by
    show (pts s ++ ptsL l).Nodup
    rw [List.nodup_append]
    refine ⟨pts_nodup s, ptsL_nodup l h.2.2, ?_⟩
    rintro ⟨n, q⟩ h1 ⟨n', q'⟩ h2 e
    injection e with e1 e2
    subst e1; subst e2
    have h3 := (mem_pts s n q).1 h1
    have h4 := can_tail h ((mem_ptsL l n q).1 h2)
    omega
theorem cnt_union {x y z : List S60} (hx : Can x) (hy : Can y) (hz : Can z) (ox : ∀ s ∈ x, okI s = true) (oy : ∀ s ∈ y, okI s = true) (oz : ∀ s ∈ z, okI s = true)
    (hd : ∀ n q, ¬ (HasP x n q ∧ HasP y n q)) (hu : ∀ n q, HasP z n q ↔ HasP x n q ∨ HasP y n q) : cnt x + cnt y = cnt z := by
  have le : ∀ {l : List S60}, (∀ s ∈ l, okI s = true) → ∀ s ∈ l, s.f1 ≤ s.f2 := fun h s hs => by have := okI_spec (h s hs); omega
  have hp : (ptsL z).Perm (ptsL x ++ ptsL y) := by
    refine (List.perm_ext_iff_of_nodup (ptsL_nodup z hz) ?_).2 ?_
    · rw [List.nodup_append]
      refine ⟨ptsL_nodup x hx, ptsL_nodup y hy, ?_⟩
      rintro ⟨n, q⟩ h1 ⟨n', q'⟩ h2 e
      injection e with e1 e2
      subst e1; subst e2
      exact hd n q ⟨(mem_ptsL x n q).1 h1, (mem_ptsL y n q).1 h2⟩
    · rintro ⟨n, q⟩
      rw [List.mem_append, mem_ptsL, mem_ptsL, mem_ptsL]
      exact hu n q
  have h1 := ptsL_len x (le ox)
  have h2 := ptsL_len y (le oy)
  have h3 := ptsL_len z (le oz)
  have h4 := hp.length_eq
  rw [List.length_append] at h4
  omega
theorem count_from : ∀ (l : List S60) (n : Int), (∀ s ∈ l, okI s = true) → 0 ≤ n → n + 2147483647 * (l.length : Int) ≤ 4611686018427387904 → l.foldl cnt1 n = n + cnt l ∧ 0 ≤ cnt l ∧ cnt l ≤ 2147483647 * (l.length : Int)
  | [], n, _, _, _ => by simp [cnt]
  | s :: l, n, h, h0, hb => by
    have hs := okI_spec (h s (List.mem_cons_self ..))
    rw [List.length_cons] at hb
    have e : cnt1 n s = n + (s.f2 - s.f1 + 1) := by
      unfold cnt1
      rw [w64 (a := n + s.f2) (by omega), w64 (a := n + s.f2 - s.f1) (by omega), w64 (by omega)]
      omega
    obtain ⟨i1, i2, i3⟩ := count_from l (n + (s.f2 - s.f1 + 1)) (fun u hu => h u (List.mem_cons_of_mem _ hu)) (by omega) (by omega)
    rw [List.foldl_cons, e, i1, List.length_cons]
    simp only [cnt]
    omega
theorem count_cnt {l : List S60} (h : Chk l) : countR l = cnt l ∧ 0 ≤ cnt l ∧ cnt l ≤ 8589934588000 := by
  obtain ⟨i1, i2, i3⟩ := count_from l 0 (chk_ok h).2 (by omega) (by have := h.1; omega)
  rw [countR_yes h]
  have := h.1
  omega
theorem last_from (n : Int) : ∀ (l : List S60) (m : Int), m ≤ l.foldl (last1 n) m ∧ ∀ s ∈ l, s.f0 = n → s.f2 ≤ l.foldl (last1 n) m
  | [], m => ⟨Int.le_refl _, fun s hs => by cases hs⟩
  | x :: l, m => by
    obtain ⟨i1, i2⟩ := last_from n l (last1 n m x)
    have e : m ≤ last1 n m x ∧ (x.f0 = n → x.f2 ≤ last1 n m x) := by
      unfold last1
      by_cases hx : x.f0 = n
      · rw [if_pos hx]; unfold mx; constructor <;> first | omega | (intro _; omega) | (split <;> omega) | (intro _; split <;> omega)
      · rw [if_neg hx]; exact ⟨Int.le_refl _, fun h => absurd h hx⟩
    rw [List.foldl_cons]
    refine ⟨Int.le_trans e.1 i1, fun s hs hn => ?_⟩
    rcases List.mem_cons.1 hs with rfl | hs'
    · exact Int.le_trans (e.2 hn) i1
    · exact i2 s hs' hn
theorem without_few (x : S60) (hx : x.f1 ≤ x.f2) : ∀ (l : List S60), (∀ u ∈ l, ¬ (u.f0 = x.f0 ∧ u.f1 < x.f1 ∧ x.f2 < u.f2)) → (withoutV l x).length ≤ l.length
  | [], _ => Nat.le_refl _
  | y :: l, h => by
    have ih := without_few x hx l (fun u hu => h u (List.mem_cons_of_mem _ hu))
    have hy := h y (List.mem_cons_self ..)
    have e : withoutV (y :: l) x = cutS x y ++ withoutV l x := rfl
    rw [e, List.length_append, List.length_cons]
    have : (cutS x y).length ≤ 1 := by
      unfold cutS
      by_cases c1 : y.f0 ≠ x.f0 ∨ y.f2 < x.f1 ∨ y.f1 > x.f2
      · rw [if_pos c1]; exact Nat.le_refl _
      rw [if_neg c1]
      by_cases c2 : y.f1 < x.f1
      · rw [if_pos c2, if_neg (by omega)]; exact Nat.le_refl _
      rw [if_neg c2]
      by_cases c3 : y.f2 > x.f2
      · rw [if_pos c3]; exact Nat.le_refl _
      · rw [if_neg c3]; exact Nat.zero_le _
    omega
theorem without_one_more (x : S60) (hx : okI x = true) : ∀ (l : List S60), Can l → (withoutV l x).length ≤ l.length + 1
  | [], _ => Nat.zero_le _
  | y :: l, hc => by
    have hx' := okI_spec hx
    have e : withoutV (y :: l) x = cutS x y ++ withoutV l x := rfl
    rw [e, List.length_append, List.length_cons]
    by_cases h2 : y.f0 = x.f0 ∧ y.f1 < x.f1 ∧ x.f2 < y.f2
    · have := without_few x (by omega) l (fun u hu => by have := hc.2.1 u hu; unfold Aft at this; omega)
      have := cut_len x y
      omega
    · have ih := without_one_more x hx l hc.2.2
      have : (cutS x y).length ≤ 1 := by
        have := without_few x (by omega) [y] (fun u hu => by rw [List.mem_singleton] at hu; subst hu; exact h2)
        have e1 : withoutV [y] x = cutS x y := by show cutS x y ++ [] = _; exact List.append_nil _
        rw [e1] at this
        exact this
      omega
theorem minus_len : ∀ (b a : List S60), Can a → (∀ s ∈ a, okI s = true) → (∀ s ∈ b, okI s = true) → (minusV a b).length ≤ a.length + b.length
  | [], a, _, _, _ => Nat.le_refl _
  | x :: b, a, h1, h2, h3 => by
    have hx := h3 x (List.mem_cons_self ..)
    obtain ⟨c1, c2, _, _⟩ := without_law x hx a h1 h2
    have h4 := minus_len b (withoutV a x) c1 c2 (fun s hs => h3 s (List.mem_cons_of_mem _ hs))
    have h5 := without_one_more x hx a h1
    have e : minusV a (x :: b) = minusV (withoutV a x) b := rfl
    rw [e, List.length_cons]
    omega
theorem chk_sub {l src : List S60} (hl : l.length ≤ 4000) (hc : Can l) (ho : ∀ s ∈ l, okI s = true) (hs : ∀ n q, HasP l n q → HasP src n q) (hk : ∀ s ∈ src, okS60 s) : Chk l := by
  refine ⟨hl, can_chk hc (fun s hs' => ?_)⟩
  have hi := okI_spec (ho s hs')
  obtain ⟨t, ht, e, _, _⟩ := hs s.f0 s.f1 ⟨s, hs', rfl, Int.le_refl _, by omega⟩
  have := hk t ht
  unfold okS60 at this ⊢
  omega
theorem none_nil {l : List S60} (hc : Can l) (h : ∀ n q, ¬ HasP l n q) : l = [] := can_one hc trivial (fun n q => ⟨fun hh => absurd hh (h n q), fun hh => absurd hh (has_nil n q)⟩)
theorem with_sub {a b : List S60} (ha : Chk a) (hb : Chk b) (h : ∀ n q, HasP a n q → HasP b n q) : withV a b = true := by
  rw [withV_yes ha hb]
  obtain ⟨m1, _, m3⟩ := minus_law b a (chk_ok ha).1 (chk_ok ha).2 (chk_ok hb).2
  exact decide_eq_true (none_nil m1 (fun n q hh => by rw [m3] at hh; exact hh.2 (h n q hh.1)))
end Go.Proofs.YtdelfhahbngcfaaX.P07
end
section
namespace Go.Proofs.YtdelfhahbngcfaaX.P07
open Go.RowKit Go.Proofs.YtdelfhahbngcfaaW.PrintWords Go.Proofs.YtdelfhahbngcfaaW.PrintLast Go.Proofs.YtdelfhahbngcfaaW.PrintMore
set_option maxRecDepth 100000
theorem awake40 : tributarylaw07_awake.f 40 = some true := by
  unfold tributarylaw07_awake.f
  rw [show tributarylaw07_at.f 1 3 = some (1, 3) from rfl, show tributarylaw07_at.f 1 1 = some (1, 1) from rfl, show tributarylaw07_at.f 1 2 = some (1, 2) from rfl, show tributarylaw07_at.f 2 5 = some (2, 5) from rfl]
  simp only [Option.bind_some]
  rw [of_awake]
  decide +kernel
theorem rd0 : past_Read.f 40 ([] : List Int) = some ([], 4, 0) := by decide +kernel
theorem rd1 : past_Read.f 40 [0, 0] = some ([], 0, 0) := by decide +kernel
theorem rd2 : past_Read.f 40 [0, 0, 0] = some ([], 4, 2) := by decide +kernel
theorem rd3 : past_Read.f 40 [0, 1, 1, 0, 0, 0, 2, 0, 0, 0, 1] = some ([], 2, 0) := by decide +kernel
theorem wi1 : past_Within.f 41 [⟨1, 2, 3⟩] [⟨1, 1, 3⟩] = some true := by decide +kernel
theorem wi2 : past_Within.f 41 [⟨1, 1, 3⟩] [⟨1, 2, 3⟩] = some false := by decide +kernel
theorem of1 : tributarylaw07_of.f 41 [1, 2, 3] = some [⟨1, 2, 3⟩] := by decide +kernel
theorem ck1 : past_Check.f 41 [⟨1, 1, 2⟩, ⟨1, 3, 4⟩] = some 2 := by decide +kernel
theorem jo1 : past_Join.f 42 [⟨1, 1, 2⟩] [⟨1, 3, 4⟩] = some ([⟨1, 1, 4⟩], 0) := by decide +kernel
theorem mi1 : past_Minus.f 42 [⟨1, 1, 9⟩] [⟨1, 3, 4⟩] = some ([⟨1, 1, 2⟩, ⟨1, 5, 9⟩], 0) := by decide +kernel
theorem ad1 : past_Add.f 42 [⟨1, 1, 3⟩] 1 4 = some ([⟨1, 1, 4⟩], 0) := by decide +kernel
theorem of0 : past_Of.f [⟨0, 1⟩] = some ([], 2) := by decide +kernel
end Go.Proofs.YtdelfhahbngcfaaX.P07
end
