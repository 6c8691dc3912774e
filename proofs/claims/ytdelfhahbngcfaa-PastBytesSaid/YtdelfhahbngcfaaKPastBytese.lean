/- Words, walks and plain laws for the row, packed: each text in a section of its own. Conditions stand with each theorem. -/
import Derived.Laws.Bits64b
import Derived.Test.YtdelfhahbngcfaaKPastBytesa
import Derived.Test.YtdelfhahbngcfaaKPastBytesb
import Derived.Test.YtdelfhahbngcfaaKPastBytesc
import Derived.Test.YtdelfhahbngcfaaKPastBytesd
section
namespace Go.Proofs.YtdelfhahbngcfaaX.P07
open Go.RowKit Go.Proofs.YtdelfhahbngcfaaW.PrintWords Go.Proofs.YtdelfhahbngcfaaW.PrintLast Go.Proofs.YtdelfhahbngcfaaW.PrintMore
attribute [local go_sem] max2_int min2_int max_two min_two max_three min_three max_four min_four   -- for this text's walks alone
set_option linter.unusedVariables false
set_option linter.unusedSimpArgs false
section
def tributarylaw07_awake.f (k : Nat)  : Option (Bool) := (tributarylaw07_at.f 1 3).bind fun bt151 => ((tributarylaw07_at.f 1 1).bind fun bt153 => ((tributarylaw07_at.f 1 2).bind fun bt155 => ((tributarylaw07_at.f 2 5).bind fun bt157 => ((past_Of.f (([(⟨bt151.1, bt151.2⟩ : S41), (⟨bt153.1, bt153.2⟩ : S41), (⟨bt155.1, bt155.2⟩ : S41), (⟨bt157.1, bt157.2⟩ : S41)] : List (S41)))).bind fun bt162 => ((tributarylaw07_of.f k (([1, 1, 258] : List Int))).bind fun t169 => ((past_Bytes.f k t169).bind fun bt172 => ((tributarylaw07_is.f k bt162.1 bt162.2 (([1, 1, 3, 2, 5, 5] : List Int))).bind fun t179 => (if t179 = true then ((past_Count.f k bt162.1).bind fun t180 => (if t180 = 4 then ((past_Last.f k bt162.1 1).bind fun t181 => (if t181 = 3 then ((tributarylaw07_at.f 1 2).bind fun bt182 => ((past_Has.f k bt162.1 bt182.1 bt182.2).bind fun t184 => (if t184 = true then (if bt172.2 = 0 then ((tributarykit_SameBytes.f bt172.1 (([0, 1, 1, 0, 0, 0, 1, 0, 0, 1, 2] : List Int))).bind fun t188 => (some t188)) else (some false)) else (some false)))) else (some false))) else (some false))) else (some false)))))))))
theorem tributarylaw07_awake.mono : ∀ k, LeO (tributarylaw07_awake.f k ) (tributarylaw07_awake.f (k + 1) ) := by
  intro  k
  unfold tributarylaw07_awake.f
  repeat' first
      | (with_reducible exact past_Bytes.mono _ _)
      | (with_reducible exact past_Count.mono _ _)
      | (with_reducible exact past_Has.mono _ _ _ _)
      | (with_reducible exact past_Last.mono _ _ _)
      | (with_reducible exact tributarylaw07_is.mono _ _ _ _)
      | (with_reducible exact tributarylaw07_of.mono _ _)
      | (with_reducible exact LeO.refl _)
      | (with_reducible exact LeO.none _)
      | (with_reducible refine LeO.ite ?_ ?_)
      | (with_reducible refine LeO.bind ?_ (fun _ => ?_))
      | exact past_Bytes.mono _ _
      | exact past_Count.mono _ _
      | exact past_Has.mono _ _ _ _
      | exact past_Last.mono _ _ _
      | exact tributarylaw07_is.mono _ _ _ _
      | exact tributarylaw07_of.mono _ _
      | exact LeO.none _
      | refine LeO.ite ?_ ?_
      | refine LeO.bind ?_ (fun _ => ?_)
set_option maxHeartbeats 8000000 in
set_option maxRecDepth 100000 in
theorem tributarylaw07_awake.calls (k : Nat)  (r : Bool) (w : World) (h : tributarylaw07_awake.f k  = some r) :
    Calls Try.prog 10 #[] w fun e w' => e = .returned (.bool r) ∧ Below w.heap.size w w' := by
  have HB := Aside0.mk (Below.refl w.heap.size w)
  have H : ((tributarylaw07_at.f 1 3).bind fun bt151 => ((tributarylaw07_at.f 1 1).bind fun bt153 => ((tributarylaw07_at.f 1 2).bind fun bt155 => ((tributarylaw07_at.f 2 5).bind fun bt157 => ((past_Of.f (([(⟨bt151.1, bt151.2⟩ : S41), (⟨bt153.1, bt153.2⟩ : S41), (⟨bt155.1, bt155.2⟩ : S41), (⟨bt157.1, bt157.2⟩ : S41)] : List (S41)))).bind fun bt162 => ((tributarylaw07_of.f k (([1, 1, 258] : List Int))).bind fun t169 => ((past_Bytes.f k t169).bind fun bt172 => ((tributarylaw07_is.f k bt162.1 bt162.2 (([1, 1, 3, 2, 5, 5] : List Int))).bind fun t179 => (if t179 = true then ((past_Count.f k bt162.1).bind fun t180 => (if t180 = 4 then ((past_Last.f k bt162.1 1).bind fun t181 => (if t181 = 3 then ((tributarylaw07_at.f 1 2).bind fun bt182 => ((past_Has.f k bt162.1 bt182.1 bt182.2).bind fun t184 => (if t184 = true then (if bt172.2 = 0 then ((tributarykit_SameBytes.f bt172.1 (([0, 1, 1, 0, 0, 0, 1, 0, 0, 1, 2] : List Int))).bind fun t188 => (some t188)) else (some false)) else (some false)))) else (some false))) else (some false))) else (some false)))))))))) = some r := h
  clear h
  replace H := Option.bind_eq_some_iff.mp H
  obtain ⟨⟨t151, t152⟩, A10, H⟩ := H
  replace H : ((tributarylaw07_at.f 1 1).bind fun bt153 => ((tributarylaw07_at.f 1 2).bind fun bt155 => ((tributarylaw07_at.f 2 5).bind fun bt157 => ((past_Of.f (([(⟨t151, t152⟩ : S41), (⟨bt153.1, bt153.2⟩ : S41), (⟨bt155.1, bt155.2⟩ : S41), (⟨bt157.1, bt157.2⟩ : S41)] : List (S41)))).bind fun bt162 => ((tributarylaw07_of.f k (([1, 1, 258] : List Int))).bind fun t169 => ((past_Bytes.f k t169).bind fun bt172 => ((tributarylaw07_is.f k bt162.1 bt162.2 (([1, 1, 3, 2, 5, 5] : List Int))).bind fun t179 => (if t179 = true then ((past_Count.f k bt162.1).bind fun t180 => (if t180 = 4 then ((past_Last.f k bt162.1 1).bind fun t181 => (if t181 = 3 then ((tributarylaw07_at.f 1 2).bind fun bt182 => ((past_Has.f k bt162.1 bt182.1 bt182.2).bind fun t184 => (if t184 = true then (if bt172.2 = 0 then ((tributarykit_SameBytes.f bt172.1 (([0, 1, 1, 0, 0, 0, 1, 0, 0, 1, 2] : List Int))).bind fun t188 => (some t188)) else (some false)) else (some false)))) else (some false))) else (some false))) else (some false))))))))) = some r := H
  have A1 := Aside0.mk A10
  clear A10
  replace H := Option.bind_eq_some_iff.mp H
  obtain ⟨⟨t153, t154⟩, A20, H⟩ := H
  replace H : ((tributarylaw07_at.f 1 2).bind fun bt155 => ((tributarylaw07_at.f 2 5).bind fun bt157 => ((past_Of.f (([(⟨t151, t152⟩ : S41), (⟨t153, t154⟩ : S41), (⟨bt155.1, bt155.2⟩ : S41), (⟨bt157.1, bt157.2⟩ : S41)] : List (S41)))).bind fun bt162 => ((tributarylaw07_of.f k (([1, 1, 258] : List Int))).bind fun t169 => ((past_Bytes.f k t169).bind fun bt172 => ((tributarylaw07_is.f k bt162.1 bt162.2 (([1, 1, 3, 2, 5, 5] : List Int))).bind fun t179 => (if t179 = true then ((past_Count.f k bt162.1).bind fun t180 => (if t180 = 4 then ((past_Last.f k bt162.1 1).bind fun t181 => (if t181 = 3 then ((tributarylaw07_at.f 1 2).bind fun bt182 => ((past_Has.f k bt162.1 bt182.1 bt182.2).bind fun t184 => (if t184 = true then (if bt172.2 = 0 then ((tributarykit_SameBytes.f bt172.1 (([0, 1, 1, 0, 0, 0, 1, 0, 0, 1, 2] : List Int))).bind fun t188 => (some t188)) else (some false)) else (some false)))) else (some false))) else (some false))) else (some false)))))))) = some r := H
  have A2 := Aside0.mk A20
  clear A20
  replace H := Option.bind_eq_some_iff.mp H
  obtain ⟨⟨t155, t156⟩, A30, H⟩ := H
  replace H : ((tributarylaw07_at.f 2 5).bind fun bt157 => ((past_Of.f (([(⟨t151, t152⟩ : S41), (⟨t153, t154⟩ : S41), (⟨t155, t156⟩ : S41), (⟨bt157.1, bt157.2⟩ : S41)] : List (S41)))).bind fun bt162 => ((tributarylaw07_of.f k (([1, 1, 258] : List Int))).bind fun t169 => ((past_Bytes.f k t169).bind fun bt172 => ((tributarylaw07_is.f k bt162.1 bt162.2 (([1, 1, 3, 2, 5, 5] : List Int))).bind fun t179 => (if t179 = true then ((past_Count.f k bt162.1).bind fun t180 => (if t180 = 4 then ((past_Last.f k bt162.1 1).bind fun t181 => (if t181 = 3 then ((tributarylaw07_at.f 1 2).bind fun bt182 => ((past_Has.f k bt162.1 bt182.1 bt182.2).bind fun t184 => (if t184 = true then (if bt172.2 = 0 then ((tributarykit_SameBytes.f bt172.1 (([0, 1, 1, 0, 0, 0, 1, 0, 0, 1, 2] : List Int))).bind fun t188 => (some t188)) else (some false)) else (some false)))) else (some false))) else (some false))) else (some false))))))) = some r := H
  have A3 := Aside0.mk A30
  clear A30
  replace H := Option.bind_eq_some_iff.mp H
  obtain ⟨⟨t157, t158⟩, A40, H⟩ := H
  replace H : ((past_Of.f (([(⟨t151, t152⟩ : S41), (⟨t153, t154⟩ : S41), (⟨t155, t156⟩ : S41), (⟨t157, t158⟩ : S41)] : List (S41)))).bind fun bt162 => ((tributarylaw07_of.f k (([1, 1, 258] : List Int))).bind fun t169 => ((past_Bytes.f k t169).bind fun bt172 => ((tributarylaw07_is.f k bt162.1 bt162.2 (([1, 1, 3, 2, 5, 5] : List Int))).bind fun t179 => (if t179 = true then ((past_Count.f k bt162.1).bind fun t180 => (if t180 = 4 then ((past_Last.f k bt162.1 1).bind fun t181 => (if t181 = 3 then ((tributarylaw07_at.f 1 2).bind fun bt182 => ((past_Has.f k bt162.1 bt182.1 bt182.2).bind fun t184 => (if t184 = true then (if bt172.2 = 0 then ((tributarykit_SameBytes.f bt172.1 (([0, 1, 1, 0, 0, 0, 1, 0, 0, 1, 2] : List Int))).bind fun t188 => (some t188)) else (some false)) else (some false)))) else (some false))) else (some false))) else (some false)))))) = some r := H
  have A4 := Aside0.mk A40
  clear A40
  obtain ⟨y159, hy159⟩ : ∃ y_ : List (S41), y_ = (([(⟨t151, t152⟩ : S41), (⟨t153, t154⟩ : S41), (⟨t155, t156⟩ : S41), (⟨t157, t158⟩ : S41)] : List (S41))) := ⟨_, rfl⟩
  replace H : ((past_Of.f y159).bind fun bt162 => ((tributarylaw07_of.f k (([1, 1, 258] : List Int))).bind fun t169 => ((past_Bytes.f k t169).bind fun bt172 => ((tributarylaw07_is.f k bt162.1 bt162.2 (([1, 1, 3, 2, 5, 5] : List Int))).bind fun t179 => (if t179 = true then ((past_Count.f k bt162.1).bind fun t180 => (if t180 = 4 then ((past_Last.f k bt162.1 1).bind fun t181 => (if t181 = 3 then ((tributarylaw07_at.f 1 2).bind fun bt182 => ((past_Has.f k bt162.1 bt182.1 bt182.2).bind fun t184 => (if t184 = true then (if bt172.2 = 0 then ((tributarykit_SameBytes.f bt172.1 (([0, 1, 1, 0, 0, 0, 1, 0, 0, 1, 2] : List Int))).bind fun t188 => (some t188)) else (some false)) else (some false)))) else (some false))) else (some false))) else (some false)))))) = some r := by first | (rw [hy159]; with_reducible exact H) | (have H2_ := (Option.bind_some _ _).symm.trans H; rw [hy159]; with_reducible exact H2_) | (have H2_ := (Option.bind_some _ _).symm.trans H; with_reducible exact H2_) | with_reducible exact H | (rw [hy159]; exact H) | exact H
  have Ny159 := Aside0.mk hy159
  clear hy159
  replace H := Option.bind_eq_some_iff.mp H
  obtain ⟨⟨t162, t163⟩, A50, H⟩ := H
  replace H : ((tributarylaw07_of.f k (([1, 1, 258] : List Int))).bind fun t169 => ((past_Bytes.f k t169).bind fun bt172 => ((tributarylaw07_is.f k t162 t163 (([1, 1, 3, 2, 5, 5] : List Int))).bind fun t179 => (if t179 = true then ((past_Count.f k t162).bind fun t180 => (if t180 = 4 then ((past_Last.f k t162 1).bind fun t181 => (if t181 = 3 then ((tributarylaw07_at.f 1 2).bind fun bt182 => ((past_Has.f k t162 bt182.1 bt182.2).bind fun t184 => (if t184 = true then (if bt172.2 = 0 then ((tributarykit_SameBytes.f bt172.1 (([0, 1, 1, 0, 0, 0, 1, 0, 0, 1, 2] : List Int))).bind fun t188 => (some t188)) else (some false)) else (some false)))) else (some false))) else (some false))) else (some false))))) = some r := H
  have A5 := Aside0.mk A50
  clear A50
  obtain ⟨y166, hy166⟩ : ∃ y_ : List Int, y_ = (([1, 1, 258] : List Int)) := ⟨_, rfl⟩
  replace H : ((tributarylaw07_of.f k y166).bind fun t169 => ((past_Bytes.f k t169).bind fun bt172 => ((tributarylaw07_is.f k t162 t163 (([1, 1, 3, 2, 5, 5] : List Int))).bind fun t179 => (if t179 = true then ((past_Count.f k t162).bind fun t180 => (if t180 = 4 then ((past_Last.f k t162 1).bind fun t181 => (if t181 = 3 then ((tributarylaw07_at.f 1 2).bind fun bt182 => ((past_Has.f k t162 bt182.1 bt182.2).bind fun t184 => (if t184 = true then (if bt172.2 = 0 then ((tributarykit_SameBytes.f bt172.1 (([0, 1, 1, 0, 0, 0, 1, 0, 0, 1, 2] : List Int))).bind fun t188 => (some t188)) else (some false)) else (some false)))) else (some false))) else (some false))) else (some false))))) = some r := by first | (rw [hy166]; with_reducible exact H) | (have H2_ := (Option.bind_some _ _).symm.trans H; rw [hy166]; with_reducible exact H2_) | (have H2_ := (Option.bind_some _ _).symm.trans H; with_reducible exact H2_) | with_reducible exact H | (rw [hy166]; exact H) | exact H
  have Ny166 := Aside0.mk hy166
  clear hy166
  replace H := Option.bind_eq_some_iff.mp H
  obtain ⟨t169, A60, H⟩ := H
  replace H : ((past_Bytes.f k t169).bind fun bt172 => ((tributarylaw07_is.f k t162 t163 (([1, 1, 3, 2, 5, 5] : List Int))).bind fun t179 => (if t179 = true then ((past_Count.f k t162).bind fun t180 => (if t180 = 4 then ((past_Last.f k t162 1).bind fun t181 => (if t181 = 3 then ((tributarylaw07_at.f 1 2).bind fun bt182 => ((past_Has.f k t162 bt182.1 bt182.2).bind fun t184 => (if t184 = true then (if bt172.2 = 0 then ((tributarykit_SameBytes.f bt172.1 (([0, 1, 1, 0, 0, 0, 1, 0, 0, 1, 2] : List Int))).bind fun t188 => (some t188)) else (some false)) else (some false)))) else (some false))) else (some false))) else (some false)))) = some r := H
  have A6 := Aside0.mk A60
  clear A60
  replace H := Option.bind_eq_some_iff.mp H
  obtain ⟨⟨t172, t173⟩, A70, H⟩ := H
  replace H : ((tributarylaw07_is.f k t162 t163 (([1, 1, 3, 2, 5, 5] : List Int))).bind fun t179 => (if t179 = true then ((past_Count.f k t162).bind fun t180 => (if t180 = 4 then ((past_Last.f k t162 1).bind fun t181 => (if t181 = 3 then ((tributarylaw07_at.f 1 2).bind fun bt182 => ((past_Has.f k t162 bt182.1 bt182.2).bind fun t184 => (if t184 = true then (if t173 = 0 then ((tributarykit_SameBytes.f t172 (([0, 1, 1, 0, 0, 0, 1, 0, 0, 1, 2] : List Int))).bind fun t188 => (some t188)) else (some false)) else (some false)))) else (some false))) else (some false))) else (some false))) = some r := H
  have A7 := Aside0.mk A70
  clear A70
  obtain ⟨y176, hy176⟩ : ∃ y_ : List Int, y_ = (([1, 1, 3, 2, 5, 5] : List Int)) := ⟨_, rfl⟩
  replace H : ((tributarylaw07_is.f k t162 t163 y176).bind fun t179 => (if t179 = true then ((past_Count.f k t162).bind fun t180 => (if t180 = 4 then ((past_Last.f k t162 1).bind fun t181 => (if t181 = 3 then ((tributarylaw07_at.f 1 2).bind fun bt182 => ((past_Has.f k t162 bt182.1 bt182.2).bind fun t184 => (if t184 = true then (if t173 = 0 then ((tributarykit_SameBytes.f t172 (([0, 1, 1, 0, 0, 0, 1, 0, 0, 1, 2] : List Int))).bind fun t188 => (some t188)) else (some false)) else (some false)))) else (some false))) else (some false))) else (some false))) = some r := by first | (rw [hy176]; with_reducible exact H) | (have H2_ := (Option.bind_some _ _).symm.trans H; rw [hy176]; with_reducible exact H2_) | (have H2_ := (Option.bind_some _ _).symm.trans H; with_reducible exact H2_) | with_reducible exact H | (rw [hy176]; exact H) | exact H
  have Ny176 := Aside0.mk hy176
  clear hy176
  replace H := Option.bind_eq_some_iff.mp H
  obtain ⟨t179, A80, H⟩ := H
  replace H : (if t179 = true then ((past_Count.f k t162).bind fun t180 => (if t180 = 4 then ((past_Last.f k t162 1).bind fun t181 => (if t181 = 3 then ((tributarylaw07_at.f 1 2).bind fun bt182 => ((past_Has.f k t162 bt182.1 bt182.2).bind fun t184 => (if t184 = true then (if t173 = 0 then ((tributarykit_SameBytes.f t172 (([0, 1, 1, 0, 0, 0, 1, 0, 0, 1, 2] : List Int))).bind fun t188 => (some t188)) else (some false)) else (some false)))) else (some false))) else (some false))) else (some false)) = some r := H
  have A8 := Aside0.mk A80
  clear A80
  by_cases c9 : t179 = true
  · subst c9
    have H1 : ((past_Count.f k t162).bind fun t180 => (if t180 = 4 then ((past_Last.f k t162 1).bind fun t181 => (if t181 = 3 then ((tributarylaw07_at.f 1 2).bind fun bt182 => ((past_Has.f k t162 bt182.1 bt182.2).bind fun t184 => (if t184 = true then (if t173 = 0 then ((tributarykit_SameBytes.f t172 (([0, 1, 1, 0, 0, 0, 1, 0, 0, 1, 2] : List Int))).bind fun t188 => (some t188)) else (some false)) else (some false)))) else (some false))) else (some false))) = some r := by rw [if_pos rfl] at H; exact H
    clear H
    have H := H1
    clear H1
    replace H := Option.bind_eq_some_iff.mp H
    obtain ⟨t180, A100, H⟩ := H
    replace H : (if t180 = 4 then ((past_Last.f k t162 1).bind fun t181 => (if t181 = 3 then ((tributarylaw07_at.f 1 2).bind fun bt182 => ((past_Has.f k t162 bt182.1 bt182.2).bind fun t184 => (if t184 = true then (if t173 = 0 then ((tributarykit_SameBytes.f t172 (([0, 1, 1, 0, 0, 0, 1, 0, 0, 1, 2] : List Int))).bind fun t188 => (some t188)) else (some false)) else (some false)))) else (some false))) else (some false)) = some r := H
    have A10 := Aside0.mk A100
    clear A100
    by_cases c11 : t180 = 4
    · rw [if_pos c11] at H
      have c11b0 : (t180 == 4) = true := beq_iff_eq.mpr c11
      have c11b1 : (t180 != 4) = false := bne_eq_false_iff_eq.mpr c11
      clear c11
      replace H := Option.bind_eq_some_iff.mp H
      obtain ⟨t181, A120, H⟩ := H
      replace H : (if t181 = 3 then ((tributarylaw07_at.f 1 2).bind fun bt182 => ((past_Has.f k t162 bt182.1 bt182.2).bind fun t184 => (if t184 = true then (if t173 = 0 then ((tributarykit_SameBytes.f t172 (([0, 1, 1, 0, 0, 0, 1, 0, 0, 1, 2] : List Int))).bind fun t188 => (some t188)) else (some false)) else (some false)))) else (some false)) = some r := H
      have A12 := Aside0.mk A120
      clear A120
      by_cases c13 : t181 = 3
      · rw [if_pos c13] at H
        have c13b0 : (t181 == 3) = true := beq_iff_eq.mpr c13
        have c13b1 : (t181 != 3) = false := bne_eq_false_iff_eq.mpr c13
        clear c13
        replace H := Option.bind_eq_some_iff.mp H
        obtain ⟨⟨t182, t183⟩, A140, H⟩ := H
        replace H : ((past_Has.f k t162 t182 t183).bind fun t184 => (if t184 = true then (if t173 = 0 then ((tributarykit_SameBytes.f t172 (([0, 1, 1, 0, 0, 0, 1, 0, 0, 1, 2] : List Int))).bind fun t188 => (some t188)) else (some false)) else (some false))) = some r := H
        have A14 := Aside0.mk A140
        clear A140
        replace H := Option.bind_eq_some_iff.mp H
        obtain ⟨t184, A150, H⟩ := H
        replace H : (if t184 = true then (if t173 = 0 then ((tributarykit_SameBytes.f t172 (([0, 1, 1, 0, 0, 0, 1, 0, 0, 1, 2] : List Int))).bind fun t188 => (some t188)) else (some false)) else (some false)) = some r := H
        have A15 := Aside0.mk A150
        clear A150
        by_cases c16 : t184 = true
        · subst c16
          have H1 : (if t173 = 0 then ((tributarykit_SameBytes.f t172 (([0, 1, 1, 0, 0, 0, 1, 0, 0, 1, 2] : List Int))).bind fun t188 => (some t188)) else (some false)) = some r := by rw [if_pos rfl] at H; exact H
          clear H
          have H := H1
          clear H1
          by_cases c17 : t173 = 0
          · rw [if_pos c17] at H
            have c17b0 : (t173 == 0) = true := beq_iff_eq.mpr c17
            have c17b1 : (t173 != 0) = false := bne_eq_false_iff_eq.mpr c17
            clear c17
            obtain ⟨y185, hy185⟩ : ∃ y_ : List Int, y_ = (([0, 1, 1, 0, 0, 0, 1, 0, 0, 1, 2] : List Int)) := ⟨_, rfl⟩
            replace H : ((tributarykit_SameBytes.f t172 y185).bind fun t188 => (some t188)) = some r := by first | (rw [hy185]; with_reducible exact H) | (have H2_ := (Option.bind_some _ _).symm.trans H; rw [hy185]; with_reducible exact H2_) | (have H2_ := (Option.bind_some _ _).symm.trans H; with_reducible exact H2_) | with_reducible exact H | (rw [hy185]; exact H) | exact H
            have Ny185 := Aside0.mk hy185
            clear hy185
            replace H := Option.bind_eq_some_iff.mp H
            obtain ⟨t188, A180, H⟩ := H
            replace H : (some t188) = some r := H
            have A18 := Aside0.mk A180
            clear A180
            obtain rfl := Option.some.inj H
            go_enter Try.func10, Try.ntmps10
            go_wp2_with (first | ((with_reducible refine gate_callee (f := 42) rfl ?_); refine goesL_ (some 6) rfl rfl Try.func42 (by kernel_rfl) rfl #[.int .i64 1, .int .i64 3] rfl (by (try simp only [List.map_toArray, List.map_cons, List.map_nil]); first | done | rfl | (simp only [List.length_drop, List.length_take]; rfl)) ?_; (with_reducible refine (tributarylaw07_at.calls 1 3 t151 t152 _ A1.out).mono ?_); rintro e w19 ⟨rfl, hb⟩; refine ⟨_, rfl, ?_⟩; have n0_ := Aside0.mk (below_step (by repeat (first | (with_reducible first | exact HB.out | apply below_alloc | apply pw_below_drewN | apply below_drew1) | exact HB.out)) hb); clear HB; have HB := n0_; clear n0_; (try clear hb); (try clear hb2); (try clear hk); (try clear hi)) | ((with_reducible refine gate_callee (f := 42) rfl ?_); refine goesL_ (some 7) rfl rfl Try.func42 (by kernel_rfl) rfl #[.int .i64 1, .int .i64 1] rfl (by (try simp only [List.map_toArray, List.map_cons, List.map_nil]); first | done | rfl | (simp only [List.length_drop, List.length_take]; rfl)) ?_; (with_reducible refine (tributarylaw07_at.calls 1 1 t153 t154 _ A2.out).mono ?_); rintro e w20 ⟨rfl, hb⟩; refine ⟨_, rfl, ?_⟩; have n0_ := Aside0.mk (below_step (by repeat (first | (with_reducible first | exact HB.out | apply below_alloc | apply pw_below_drewN | apply below_drew1) | exact HB.out)) hb); clear HB; have HB := n0_; clear n0_; (try clear hb); (try clear hb2); (try clear hk); (try clear hi)) | ((with_reducible refine gate_callee (f := 42) rfl ?_); refine goesL_ (some 8) rfl rfl Try.func42 (by kernel_rfl) rfl #[.int .i64 1, .int .i64 2] rfl (by (try simp only [List.map_toArray, List.map_cons, List.map_nil]); first | done | rfl | (simp only [List.length_drop, List.length_take]; rfl)) ?_; (with_reducible refine (tributarylaw07_at.calls 1 2 t155 t156 _ A3.out).mono ?_); rintro e w21 ⟨rfl, hb⟩; refine ⟨_, rfl, ?_⟩; have n0_ := Aside0.mk (below_step (by repeat (first | (with_reducible first | exact HB.out | apply below_alloc | apply pw_below_drewN | apply below_drew1) | exact HB.out)) hb); clear HB; have HB := n0_; clear n0_; (try clear hb); (try clear hb2); (try clear hk); (try clear hi)) | ((with_reducible refine gate_callee (f := 42) rfl ?_); refine goesL_ (some 9) rfl rfl Try.func42 (by kernel_rfl) rfl #[.int .i64 2, .int .i64 5] rfl (by (try simp only [List.map_toArray, List.map_cons, List.map_nil]); first | done | rfl | (simp only [List.length_drop, List.length_take]; rfl)) ?_; (with_reducible refine (tributarylaw07_at.calls 2 5 t157 t158 _ A4.out).mono ?_); rintro e w22 ⟨rfl, hb⟩; refine ⟨_, rfl, ?_⟩; have n0_ := Aside0.mk (below_step (by repeat (first | (with_reducible first | exact HB.out | apply below_alloc | apply pw_below_drewN | apply below_drew1) | exact HB.out)) hb); clear HB; have HB := n0_; clear n0_; (try clear hb); (try clear hb2); (try clear hk); (try clear hi)) | ((with_reducible refine gate_dst (N := 10) rfl ?_); (try (refine gate_guard (by rfl) ?_; dsimp only)); refine Kd.R_lit k41 _ 41 ?hg (N := 10) ?hd (xs := ([(⟨t151, t152⟩ : S41), (⟨t153, t154⟩ : S41), (⟨t155, t156⟩ : S41), (⟨t157, t158⟩ : S41)] : List (S41))) (inner := [.int .i64 t151, .int .i64 t152, .int .i64 t153, .int .i64 t154, .int .i64 t155, .int .i64 t156, .int .i64 t157, .int .i64 t158]) (ok := fun _ => True) (okp := fun _ => True) ?hr ?hp (fun _ hk => hk) trivial (Below.refl _ _) (Nat.le_refl _) (by simp) ?_; (case hd => rfl); (case hg => rfl); (case hr => first | (go_simp; done) | (go_simp; rfl)); (case hp => exact (Reps.c2 (show Kd.M k41 _ _ _ (⟨t151, t152⟩ : S41) [.int .i64 t151, .int .i64 t152] from (k41_mkM _ _ _ (⟨t151, t152⟩ : S41) )) (Reps.c2 (show Kd.M k41 _ _ _ (⟨t153, t154⟩ : S41) [.int .i64 t153, .int .i64 t154] from (k41_mkM _ _ _ (⟨t153, t154⟩ : S41) )) (Reps.c2 (show Kd.M k41 _ _ _ (⟨t155, t156⟩ : S41) [.int .i64 t155, .int .i64 t156] from (k41_mkM _ _ _ (⟨t155, t156⟩ : S41) )) (Reps.c2 (show Kd.M k41 _ _ _ (⟨t157, t158⟩ : S41) [.int .i64 t157, .int .i64 t158] from (k41_mkM _ _ _ (⟨t157, t158⟩ : S41) )) (Reps.none _ _)))))); intro v160 w23 ho24 hb hg_ hnew_; clear hg_ hnew_; (first | rw [← Ny159.out] at ho24 | (simp only [Int.reduceToNat] at ho24; rw [← Ny159.out] at ho24)); have n0_ := Aside0.mk (Kd.R_lower ho24 (below_size (by repeat (first | (with_reducible first | exact HB.out | apply below_alloc | apply pw_below_drewN | apply below_drew1) | exact HB.out)))); have n1_ := Aside0.mk (below_step (by repeat (first | (with_reducible first | exact HB.out | apply below_alloc | apply pw_below_drewN | apply below_drew1) | exact HB.out)) hb); clear HB; have HO161 := n0_; have HB := n1_; clear n0_ n1_; clear hb ho24; obtain ⟨Ao25, co25, eo25⟩ := Kd.R_slice HO161.out; subst eo25) | ((with_reducible refine gate_callee (f := 31) rfl ?_); refine goesL_ (some 11) rfl rfl Try.func31 (by kernel_rfl) rfl #[.slice Ao25 y159.length co25] rfl (by (try simp only [List.map_toArray, List.map_cons, List.map_nil]); first | done | rfl | (simp only [List.length_drop, List.length_take]; rfl)) ?_; (with_reducible refine (past_Of.calls _ _ y159 t162 t163 _ ?side1 ?side2 A5.out).mono ?_); (case side1 => repeat (first | exact (Kd.R_reads' HO161.out).2.2 | (with_reducible refine Kd.C_alloc ?_ _) | (with_reducible refine Kd.C_drewN ?_ _) | (with_reducible refine Kd.C_drew ?_))); (case side2 => exact (Kd.R_reads' HO161.out).2.1); rintro e w26 ⟨v164, rfl, ho0, hb⟩; refine ⟨_, rfl, ?_⟩; have n0_ := Aside0.mk (Kd.R_below (lf HO161.out) hb); have n1_ := Aside0.mk (Kd.R_lower ho0 (below_size (by repeat (first | (with_reducible first | exact HB.out | apply below_alloc | apply pw_below_drewN | apply below_drew1) | exact HB.out)))); have n2_ := Aside0.mk (below_step (by repeat (first | (with_reducible first | exact HB.out | apply below_alloc | apply pw_below_drewN | apply below_drew1) | exact HB.out)) hb); clear HO161; clear HB; have HO161 := n0_; have HO165 := n1_; have HB := n2_; clear n0_ n1_ n2_; (try clear hb); (try clear hb2); (try clear hk); (try clear hi); (try clear ho0)) | ((with_reducible refine gate_dst (N := 15) rfl ?_); (try (refine gate_guard (by rfl) ?_; dsimp only)); refine Kd.R_lit (Kd.int .i64) _ 3 ?hg (N := 15) ?hd (xs := ([1, 1, 258] : List Int)) (inner := [.int .i64 1, .int .i64 1, .int .i64 258]) (ok := fun _ => True) (okp := fun _ => True) ?hr ?hp (fun _ hk => hk) trivial (Below.refl _ _) (Nat.le_refl _) (by simp) ?_; (case hd => rfl); (case hg => rfl); (case hr => first | (go_simp; done) | (go_simp; rfl)); (case hp => exact (Reps.one (show Kd.M (Kd.int .i64) _ _ _ 1 [.int .i64 1] from rfl) (Reps.one (show Kd.M (Kd.int .i64) _ _ _ 1 [.int .i64 1] from rfl) (Reps.one (show Kd.M (Kd.int .i64) _ _ _ 258 [.int .i64 258] from rfl) (Reps.none _ _))))); intro v167 w27 ho28 hb hg_ hnew_; clear hg_ hnew_; (first | rw [← Ny166.out] at ho28 | (simp only [Int.reduceToNat] at ho28; rw [← Ny166.out] at ho28)); have n0_ := Aside0.mk (Kd.R_below (lf HO161.out) hb); have n1_ := Aside0.mk (Kd.R_below (lf HO165.out) hb); have n2_ := Aside0.mk (Kd.R_lower ho28 (below_size (by repeat (first | (with_reducible first | exact HB.out | apply below_alloc | apply pw_below_drewN | apply below_drew1) | exact HB.out)))); have n3_ := Aside0.mk (below_step (by repeat (first | (with_reducible first | exact HB.out | apply below_alloc | apply pw_below_drewN | apply below_drew1) | exact HB.out)) hb); clear HO161; clear HO165; clear HB; have HO161 := n0_; have HO165 := n1_; have HO168 := n2_; have HB := n3_; clear n0_ n1_ n2_ n3_; clear hb ho28; obtain ⟨Ao29, co29, eo29⟩ := Kd.R_slice HO168.out; subst eo29) | ((with_reducible refine gate_callee (f := 43) rfl ?_); refine goesL_ (some 16) rfl rfl Try.func43 (by kernel_rfl) rfl #[.slice Ao29 y166.length co29] rfl (by (try simp only [List.map_toArray, List.map_cons, List.map_nil]); first | done | rfl | (simp only [List.length_drop, List.length_take]; rfl)) ?_; (with_reducible refine (tributarylaw07_of.calls k _ _ y166 t169 _ ?side1 ?side2 A6.out).mono ?_); (case side1 => repeat (first | exact (Kd.R_reads' HO168.out).2.2 | (with_reducible refine Kd.C_alloc ?_ _) | (with_reducible refine Kd.C_drewN ?_ _) | (with_reducible refine Kd.C_drew ?_))); (case side2 => exact (Kd.R_reads' HO168.out).2.1); rintro e w30 ⟨v170, rfl, ho0, hb⟩; refine ⟨_, rfl, ?_⟩; have n0_ := Aside0.mk (Kd.R_below (lf HO161.out) hb); have n1_ := Aside0.mk (Kd.R_elder' (lf HO165.out) (Kd.R_base ho0) hb); have n2_ := Aside0.mk (Kd.R_below (lf HO168.out) hb); have n3_ := Aside0.mk (Kd.R_lower (Kd.R_new' ho0 (Kd.R_lt (lf HO165.out))) (below_size (by repeat (first | (with_reducible first | exact HB.out | apply below_alloc | apply pw_below_drewN | apply below_drew1) | exact HB.out)))); have n4_ := Aside0.mk (below_step (by repeat (first | (with_reducible first | exact HB.out | apply below_alloc | apply pw_below_drewN | apply below_drew1) | exact HB.out)) hb); clear HO161; clear HO165; clear HO168; clear HB; have HO161 := n0_; have HO165 := n1_; have HO168 := n2_; have HO171 := n3_; have HB := n4_; clear n0_ n1_ n2_ n3_ n4_; (try clear hb); (try clear hb2); (try clear hk); (try clear hi); (try clear ho0); obtain ⟨Ao31, co31, eo31⟩ := Kd.R_slice HO171.out; subst eo31) | ((with_reducible refine gate_callee (f := 13) rfl ?_); refine goesL_ (some 17) rfl rfl Try.func13 (by kernel_rfl) rfl #[.slice Ao31 t169.length co31] rfl (by (try simp only [List.map_toArray, List.map_cons, List.map_nil]); first | done | rfl | (simp only [List.length_drop, List.length_take]; rfl)) ?_; (with_reducible refine (past_Bytes.calls k _ _ t169 t172 t173 _ ?side1 ?side2 A7.out).mono ?_); (case side1 => repeat (first | exact (Kd.R_reads' HO171.out).2.2 | (with_reducible refine Kd.C_alloc ?_ _) | (with_reducible refine Kd.C_drewN ?_ _) | (with_reducible refine Kd.C_drew ?_))); (case side2 => exact (Kd.R_reads' HO171.out).2.1); rintro e w32 ⟨v174, rfl, ho0, hb⟩; refine ⟨_, rfl, ?_⟩; have n0_ := Aside0.mk (Kd.R_below (lf HO161.out) hb); have n1_ := Aside0.mk (Kd.R_below (lf HO165.out) hb); have n2_ := Aside0.mk (Kd.R_below (lf HO168.out) hb); have n3_ := Aside0.mk (Kd.R_below (lf HO171.out) hb); have n4_ := Aside0.mk (Kd.Q_lower ho0 (below_size (by repeat (first | (with_reducible first | exact HB.out | apply below_alloc | apply pw_below_drewN | apply below_drew1) | exact HB.out)))); have n5_ := Aside0.mk (below_step (by repeat (first | (with_reducible first | exact HB.out | apply below_alloc | apply pw_below_drewN | apply below_drew1) | exact HB.out)) hb); clear HO161; clear HO165; clear HO168; clear HO171; clear HB; have HO161 := n0_; have HO165 := n1_; have HO168 := n2_; have HO171 := n3_; have HO175 := n4_; have HB := n5_; clear n0_ n1_ n2_ n3_ n4_ n5_; (try clear hb); (try clear hb2); (try clear hk); (try clear hi); (try clear ho0)) | ((with_reducible refine gate_dst (N := 22) rfl ?_); (try (refine gate_guard (by rfl) ?_; dsimp only)); refine Kd.R_lit (Kd.int .i64) _ 3 ?hg (N := 22) ?hd (xs := ([1, 1, 3, 2, 5, 5] : List Int)) (inner := [.int .i64 1, .int .i64 1, .int .i64 3, .int .i64 2, .int .i64 5, .int .i64 5]) (ok := fun _ => True) (okp := fun _ => True) ?hr ?hp (fun _ hk => hk) trivial (Below.refl _ _) (Nat.le_refl _) (by simp) ?_; (case hd => rfl); (case hg => rfl); (case hr => first | (go_simp; done) | (go_simp; rfl)); (case hp => exact (Reps.one (show Kd.M (Kd.int .i64) _ _ _ 1 [.int .i64 1] from rfl) (Reps.one (show Kd.M (Kd.int .i64) _ _ _ 1 [.int .i64 1] from rfl) (Reps.one (show Kd.M (Kd.int .i64) _ _ _ 3 [.int .i64 3] from rfl) (Reps.one (show Kd.M (Kd.int .i64) _ _ _ 2 [.int .i64 2] from rfl) (Reps.one (show Kd.M (Kd.int .i64) _ _ _ 5 [.int .i64 5] from rfl) (Reps.one (show Kd.M (Kd.int .i64) _ _ _ 5 [.int .i64 5] from rfl) (Reps.none _ _)))))))); intro v177 w33 ho34 hb hg_ hnew_; clear hg_ hnew_; (first | rw [← Ny176.out] at ho34 | (simp only [Int.reduceToNat] at ho34; rw [← Ny176.out] at ho34)); have n0_ := Aside0.mk (Kd.R_below (lf HO161.out) hb); have n1_ := Aside0.mk (Kd.R_below (lf HO165.out) hb); have n2_ := Aside0.mk (Kd.R_elder' (lf HO168.out) (Kd.R_base ho34) hb); have n3_ := Aside0.mk (Kd.R_below (lf HO171.out) hb); have n4_ := Aside0.mk (Kd.Q_below (by (with_reducible repeat (first | apply Kd.Q_alloc | apply Kd.Q_drewN | apply Kd.Q_drew)); exact HO175.out) hb); have n5_ := Aside0.mk (Kd.R_lower (Kd.R_new' ho34 (Kd.R_lt (lf HO168.out))) (below_size (by repeat (first | (with_reducible first | exact HB.out | apply below_alloc | apply pw_below_drewN | apply below_drew1) | exact HB.out)))); have n6_ := Aside0.mk (below_step (by repeat (first | (with_reducible first | exact HB.out | apply below_alloc | apply pw_below_drewN | apply below_drew1) | exact HB.out)) hb); clear HO161; clear HO165; clear HO168; clear HO171; clear HO175; clear HB; have HO161 := n0_; have HO165 := n1_; have HO168 := n2_; have HO171 := n3_; have HO175 := n4_; have HO178 := n5_; have HB := n6_; clear n0_ n1_ n2_ n3_ n4_ n5_ n6_; clear hb ho34; obtain ⟨Ao35, co35, eo35⟩ := Kd.R_slice HO165.out; subst eo35; obtain ⟨Ao36, co36, eo36⟩ := Kd.R_slice HO178.out; subst eo36) | ((with_reducible refine gate_callee (f := 44) rfl ?_); refine goesL_ (some 23) rfl rfl Try.func44 (by kernel_rfl) rfl #[.slice Ao35 t162.length co35, .int .i64 t163, .slice Ao36 y176.length co36] rfl (by (try simp only [List.map_toArray, List.map_cons, List.map_nil]); first | done | rfl | (simp only [List.length_drop, List.length_take]; rfl)) ?_; (with_reducible refine (tributarylaw07_is.calls k _ _ t162 t163 _ _ y176 true _ ?side1 ?side2 ?side3 ?side4 A8.out).mono ?_); (case side1 => repeat (first | exact (Kd.R_reads' HO165.out).2.2 | (with_reducible refine Kd.C_alloc ?_ _) | (with_reducible refine Kd.C_drewN ?_ _) | (with_reducible refine Kd.C_drew ?_))); (case side2 => exact (Kd.R_reads' HO165.out).2.1); (case side3 => repeat (first | exact (Kd.R_reads' HO178.out).2.2 | (with_reducible refine Kd.C_alloc ?_ _) | (with_reducible refine Kd.C_drewN ?_ _) | (with_reducible refine Kd.C_drew ?_))); (case side4 => exact (Kd.R_reads' HO178.out).2.1); rintro e w37 ⟨rfl, hb⟩; refine ⟨_, rfl, ?_⟩; have n0_ := Aside0.mk (Kd.R_below (lf HO161.out) hb); have n1_ := Aside0.mk (Kd.R_below (lf HO165.out) hb); have n2_ := Aside0.mk (Kd.R_below (lf HO168.out) hb); have n3_ := Aside0.mk (Kd.R_below (lf HO171.out) hb); have n4_ := Aside0.mk (Kd.Q_below (by (with_reducible repeat (first | apply Kd.Q_alloc | apply Kd.Q_drewN | apply Kd.Q_drew)); exact HO175.out) hb); have n5_ := Aside0.mk (Kd.R_below (lf HO178.out) hb); have n6_ := Aside0.mk (below_step (by repeat (first | (with_reducible first | exact HB.out | apply below_alloc | apply pw_below_drewN | apply below_drew1) | exact HB.out)) hb); clear HO161; clear HO165; clear HO168; clear HO171; clear HO175; clear HO178; clear HB; have HO161 := n0_; have HO165 := n1_; have HO168 := n2_; have HO171 := n3_; have HO175 := n4_; have HO178 := n5_; have HB := n6_; clear n0_ n1_ n2_ n3_ n4_ n5_ n6_; (try clear hb); (try clear hb2); (try clear hk); (try clear hi)) | (go_at_call 26; (with_reducible refine (past_Count.calls k _ _ t162 t180 _ ?side1 ?side2 A10.out).mono ?_); (case side1 => repeat (first | exact (Kd.R_reads' HO165.out).2.2 | (with_reducible refine Kd.C_alloc ?_ _) | (with_reducible refine Kd.C_drewN ?_ _) | (with_reducible refine Kd.C_drew ?_))); (case side2 => exact (Kd.R_reads' HO165.out).2.1); rintro e w38 ⟨rfl, hb⟩; have n0_ := Aside0.mk (Kd.R_below (lf HO161.out) hb); have n1_ := Aside0.mk (Kd.R_below (lf HO165.out) hb); have n2_ := Aside0.mk (Kd.R_below (lf HO168.out) hb); have n3_ := Aside0.mk (Kd.R_below (lf HO171.out) hb); have n4_ := Aside0.mk (Kd.Q_below (by (with_reducible repeat (first | apply Kd.Q_alloc | apply Kd.Q_drewN | apply Kd.Q_drew)); exact HO175.out) hb); have n5_ := Aside0.mk (Kd.R_below (lf HO178.out) hb); have n6_ := Aside0.mk (below_step (by repeat (first | (with_reducible first | exact HB.out | apply below_alloc | apply pw_below_drewN | apply below_drew1) | exact HB.out)) hb); clear HO161; clear HO165; clear HO168; clear HO171; clear HO175; clear HO178; clear HB; have HO161 := n0_; have HO165 := n1_; have HO168 := n2_; have HO171 := n3_; have HO175 := n4_; have HO178 := n5_; have HB := n6_; clear n0_ n1_ n2_ n3_ n4_ n5_ n6_; (try clear hb); (try clear hb2); (try clear hk); (try clear hi)) | (go_at_call 28; (with_reducible refine (past_Last.calls k _ _ t162 1 t181 _ ?side1 ?side2 A12.out).mono ?_); (case side1 => repeat (first | exact (Kd.R_reads' HO165.out).2.2 | (with_reducible refine Kd.C_alloc ?_ _) | (with_reducible refine Kd.C_drewN ?_ _) | (with_reducible refine Kd.C_drew ?_))); (case side2 => exact (Kd.R_reads' HO165.out).2.1); rintro e w39 ⟨rfl, hb⟩; have n0_ := Aside0.mk (Kd.R_below (lf HO161.out) hb); have n1_ := Aside0.mk (Kd.R_below (lf HO165.out) hb); have n2_ := Aside0.mk (Kd.R_below (lf HO168.out) hb); have n3_ := Aside0.mk (Kd.R_below (lf HO171.out) hb); have n4_ := Aside0.mk (Kd.Q_below (by (with_reducible repeat (first | apply Kd.Q_alloc | apply Kd.Q_drewN | apply Kd.Q_drew)); exact HO175.out) hb); have n5_ := Aside0.mk (Kd.R_below (lf HO178.out) hb); have n6_ := Aside0.mk (below_step (by repeat (first | (with_reducible first | exact HB.out | apply below_alloc | apply pw_below_drewN | apply below_drew1) | exact HB.out)) hb); clear HO161; clear HO165; clear HO168; clear HO171; clear HO175; clear HO178; clear HB; have HO161 := n0_; have HO165 := n1_; have HO168 := n2_; have HO171 := n3_; have HO175 := n4_; have HO178 := n5_; have HB := n6_; clear n0_ n1_ n2_ n3_ n4_ n5_ n6_; (try clear hb); (try clear hb2); (try clear hk); (try clear hi)) | (go_at_call 42; (with_reducible refine (tributarylaw07_at.calls 1 2 t182 t183 _ A14.out).mono ?_); rintro e w40 ⟨rfl, hb⟩; have n0_ := Aside0.mk (Kd.R_below (lf HO161.out) hb); have n1_ := Aside0.mk (Kd.R_below (lf HO165.out) hb); have n2_ := Aside0.mk (Kd.R_below (lf HO168.out) hb); have n3_ := Aside0.mk (Kd.R_below (lf HO171.out) hb); have n4_ := Aside0.mk (Kd.Q_below (by (with_reducible repeat (first | apply Kd.Q_alloc | apply Kd.Q_drewN | apply Kd.Q_drew)); exact HO175.out) hb); have n5_ := Aside0.mk (Kd.R_below (lf HO178.out) hb); have n6_ := Aside0.mk (below_step (by repeat (first | (with_reducible first | exact HB.out | apply below_alloc | apply pw_below_drewN | apply below_drew1) | exact HB.out)) hb); clear HO161; clear HO165; clear HO168; clear HO171; clear HO175; clear HO178; clear HB; have HO161 := n0_; have HO165 := n1_; have HO168 := n2_; have HO171 := n3_; have HO175 := n4_; have HO178 := n5_; have HB := n6_; clear n0_ n1_ n2_ n3_ n4_ n5_ n6_; (try clear hb); (try clear hb2); (try clear hk); (try clear hi)) | (go_at_call 24; (with_reducible refine (past_Has.calls k _ _ t162 t182 t183 true _ ?side1 ?side2 A15.out).mono ?_); (case side1 => repeat (first | exact (Kd.R_reads' HO165.out).2.2 | (with_reducible refine Kd.C_alloc ?_ _) | (with_reducible refine Kd.C_drewN ?_ _) | (with_reducible refine Kd.C_drew ?_))); (case side2 => exact (Kd.R_reads' HO165.out).2.1); rintro e w41 ⟨rfl, hb⟩; have n0_ := Aside0.mk (Kd.R_below (lf HO161.out) hb); have n1_ := Aside0.mk (Kd.R_below (lf HO165.out) hb); have n2_ := Aside0.mk (Kd.R_below (lf HO168.out) hb); have n3_ := Aside0.mk (Kd.R_below (lf HO171.out) hb); have n4_ := Aside0.mk (Kd.Q_below (by (with_reducible repeat (first | apply Kd.Q_alloc | apply Kd.Q_drewN | apply Kd.Q_drew)); exact HO175.out) hb); have n5_ := Aside0.mk (Kd.R_below (lf HO178.out) hb); have n6_ := Aside0.mk (below_step (by repeat (first | (with_reducible first | exact HB.out | apply below_alloc | apply pw_below_drewN | apply below_drew1) | exact HB.out)) hb); clear HO161; clear HO165; clear HO168; clear HO171; clear HO175; clear HO178; clear HB; have HO161 := n0_; have HO165 := n1_; have HO168 := n2_; have HO171 := n3_; have HO175 := n4_; have HO178 := n5_; have HB := n6_; clear n0_ n1_ n2_ n3_ n4_ n5_ n6_; (try clear hb); (try clear hb2); (try clear hk); (try clear hi)) | ((with_reducible refine gate_dst (N := 45) rfl ?_); (try (refine gate_guard (by rfl) ?_; dsimp only)); refine Kd.R_lit (Kd.int .u8) _ 5 ?hg (N := 45) ?hd (xs := ([0, 1, 1, 0, 0, 0, 1, 0, 0, 1, 2] : List Int)) (inner := [.int .u8 0, .int .u8 1, .int .u8 1, .int .u8 0, .int .u8 0, .int .u8 0, .int .u8 1, .int .u8 0, .int .u8 0, .int .u8 1, .int .u8 2]) (ok := fun _ => True) (okp := fun _ => True) ?hr ?hp (fun _ hk => hk) trivial (Below.refl _ _) (Nat.le_refl _) (by simp) ?_; (case hd => rfl); (case hg => rfl); (case hr => first | (go_simp; done) | (go_simp; rfl)); (case hp => exact (Reps.one (show Kd.M (Kd.int .u8) _ _ _ 0 [.int .u8 0] from rfl) (Reps.one (show Kd.M (Kd.int .u8) _ _ _ 1 [.int .u8 1] from rfl) (Reps.one (show Kd.M (Kd.int .u8) _ _ _ 1 [.int .u8 1] from rfl) (Reps.one (show Kd.M (Kd.int .u8) _ _ _ 0 [.int .u8 0] from rfl) (Reps.one (show Kd.M (Kd.int .u8) _ _ _ 0 [.int .u8 0] from rfl) (Reps.one (show Kd.M (Kd.int .u8) _ _ _ 0 [.int .u8 0] from rfl) (Reps.one (show Kd.M (Kd.int .u8) _ _ _ 1 [.int .u8 1] from rfl) (Reps.one (show Kd.M (Kd.int .u8) _ _ _ 0 [.int .u8 0] from rfl) (Reps.one (show Kd.M (Kd.int .u8) _ _ _ 0 [.int .u8 0] from rfl) (Reps.one (show Kd.M (Kd.int .u8) _ _ _ 1 [.int .u8 1] from rfl) (Reps.one (show Kd.M (Kd.int .u8) _ _ _ 2 [.int .u8 2] from rfl) (Reps.none _ _))))))))))))); intro v186 w42 ho43 hb hg_ hnew_; clear hg_ hnew_; (first | rw [← Ny185.out] at ho43 | (simp only [Int.reduceToNat] at ho43; rw [← Ny185.out] at ho43)); have n0_ := Aside0.mk (Kd.R_below (lf HO161.out) hb); have n1_ := Aside0.mk (Kd.R_below (lf HO165.out) hb); have n2_ := Aside0.mk (Kd.R_below (lf HO168.out) hb); have n3_ := Aside0.mk (Kd.R_below (lf HO171.out) hb); have n4_ := Aside0.mk (Kd.Q_elder' (by (with_reducible repeat (first | apply Kd.Q_alloc | apply Kd.Q_drewN | apply Kd.Q_drew)); exact HO175.out) (Kd.R_base ho43) hb); have n5_ := Aside0.mk (Kd.R_below (lf HO178.out) hb); have n6_ := Aside0.mk (Kd.R_lower (Kd.R_new' ho43 (Kd.Q_lt (by (with_reducible repeat (first | apply Kd.Q_alloc | apply Kd.Q_drewN | apply Kd.Q_drew)); exact HO175.out))) (below_size (by repeat (first | (with_reducible first | exact HB.out | apply below_alloc | apply pw_below_drewN | apply below_drew1) | exact HB.out)))); have n7_ := Aside0.mk (below_step (by repeat (first | (with_reducible first | exact HB.out | apply below_alloc | apply pw_below_drewN | apply below_drew1) | exact HB.out)) hb); clear HO161; clear HO165; clear HO168; clear HO171; clear HO175; clear HO178; clear HB; have HO161 := n0_; have HO165 := n1_; have HO168 := n2_; have HO171 := n3_; have HO175 := n4_; have HO178 := n5_; have HO187 := n6_; have HB := n7_; clear n0_ n1_ n2_ n3_ n4_ n5_ n6_ n7_; clear hb ho43; obtain ⟨Ao44, co44, eo44, _⟩ := Kd.Q_slice HO175.out; subst eo44; obtain ⟨Ao45, co45, eo45⟩ := Kd.R_slice HO187.out; subst eo45) | (go_at_call 17; (with_reducible refine (tributarykit_SameBytes.calls _ _ t172 _ _ y185 t188 _ ?side1 ?side2 ?side3 ?side4 A18.out).mono ?_); (case side1 => repeat (first | exact (Kd.Q_reads' HO175.out).2.2 | (with_reducible refine Kd.C_alloc ?_ _) | (with_reducible refine Kd.C_drewN ?_ _) | (with_reducible refine Kd.C_drew ?_))); (case side2 => exact (Kd.Q_reads' HO175.out).2.1); (case side3 => repeat (first | exact (Kd.R_reads' HO187.out).2.2 | (with_reducible refine Kd.C_alloc ?_ _) | (with_reducible refine Kd.C_drewN ?_ _) | (with_reducible refine Kd.C_drew ?_))); (case side4 => exact (Kd.R_reads' HO187.out).2.1); rintro e w' ⟨rfl, ⟨nd, rfl⟩⟩))
            go_ret
            exact ⟨by first | rfl | (simp [errW_none, errW_some] <;> rfl) | (simp [*, errW_none, errW_some] <;> rfl), by repeat (first | (with_reducible first | exact HB.out | apply below_alloc | apply pw_below_drewN | apply below_drew1) | exact HB.out)⟩
          · rw [if_neg c17] at H
            have c17b0 : (t173 == 0) = false := beq_eq_false_iff_ne.mpr c17
            have c17b1 : (t173 != 0) = true := bne_iff_ne.mpr c17
            obtain rfl := Option.some.inj H
            go_enter Try.func10, Try.ntmps10
            go_wp2_with (first | ((with_reducible refine gate_callee (f := 42) rfl ?_); refine goesL_ (some 6) rfl rfl Try.func42 (by kernel_rfl) rfl #[.int .i64 1, .int .i64 3] rfl (by (try simp only [List.map_toArray, List.map_cons, List.map_nil]); first | done | rfl | (simp only [List.length_drop, List.length_take]; rfl)) ?_; (with_reducible refine (tributarylaw07_at.calls 1 3 t151 t152 _ A1.out).mono ?_); rintro e w46 ⟨rfl, hb⟩; refine ⟨_, rfl, ?_⟩; have n0_ := Aside0.mk (below_step (by repeat (first | (with_reducible first | exact HB.out | apply below_alloc | apply pw_below_drewN | apply below_drew1) | exact HB.out)) hb); clear HB; have HB := n0_; clear n0_; (try clear hb); (try clear hb2); (try clear hk); (try clear hi)) | ((with_reducible refine gate_callee (f := 42) rfl ?_); refine goesL_ (some 7) rfl rfl Try.func42 (by kernel_rfl) rfl #[.int .i64 1, .int .i64 1] rfl (by (try simp only [List.map_toArray, List.map_cons, List.map_nil]); first | done | rfl | (simp only [List.length_drop, List.length_take]; rfl)) ?_; (with_reducible refine (tributarylaw07_at.calls 1 1 t153 t154 _ A2.out).mono ?_); rintro e w47 ⟨rfl, hb⟩; refine ⟨_, rfl, ?_⟩; have n0_ := Aside0.mk (below_step (by repeat (first | (with_reducible first | exact HB.out | apply below_alloc | apply pw_below_drewN | apply below_drew1) | exact HB.out)) hb); clear HB; have HB := n0_; clear n0_; (try clear hb); (try clear hb2); (try clear hk); (try clear hi)) | ((with_reducible refine gate_callee (f := 42) rfl ?_); refine goesL_ (some 8) rfl rfl Try.func42 (by kernel_rfl) rfl #[.int .i64 1, .int .i64 2] rfl (by (try simp only [List.map_toArray, List.map_cons, List.map_nil]); first | done | rfl | (simp only [List.length_drop, List.length_take]; rfl)) ?_; (with_reducible refine (tributarylaw07_at.calls 1 2 t155 t156 _ A3.out).mono ?_); rintro e w48 ⟨rfl, hb⟩; refine ⟨_, rfl, ?_⟩; have n0_ := Aside0.mk (below_step (by repeat (first | (with_reducible first | exact HB.out | apply below_alloc | apply pw_below_drewN | apply below_drew1) | exact HB.out)) hb); clear HB; have HB := n0_; clear n0_; (try clear hb); (try clear hb2); (try clear hk); (try clear hi)) | ((with_reducible refine gate_callee (f := 42) rfl ?_); refine goesL_ (some 9) rfl rfl Try.func42 (by kernel_rfl) rfl #[.int .i64 2, .int .i64 5] rfl (by (try simp only [List.map_toArray, List.map_cons, List.map_nil]); first | done | rfl | (simp only [List.length_drop, List.length_take]; rfl)) ?_; (with_reducible refine (tributarylaw07_at.calls 2 5 t157 t158 _ A4.out).mono ?_); rintro e w49 ⟨rfl, hb⟩; refine ⟨_, rfl, ?_⟩; have n0_ := Aside0.mk (below_step (by repeat (first | (with_reducible first | exact HB.out | apply below_alloc | apply pw_below_drewN | apply below_drew1) | exact HB.out)) hb); clear HB; have HB := n0_; clear n0_; (try clear hb); (try clear hb2); (try clear hk); (try clear hi)) | ((with_reducible refine gate_dst (N := 10) rfl ?_); (try (refine gate_guard (by rfl) ?_; dsimp only)); refine Kd.R_lit k41 _ 41 ?hg (N := 10) ?hd (xs := ([(⟨t151, t152⟩ : S41), (⟨t153, t154⟩ : S41), (⟨t155, t156⟩ : S41), (⟨t157, t158⟩ : S41)] : List (S41))) (inner := [.int .i64 t151, .int .i64 t152, .int .i64 t153, .int .i64 t154, .int .i64 t155, .int .i64 t156, .int .i64 t157, .int .i64 t158]) (ok := fun _ => True) (okp := fun _ => True) ?hr ?hp (fun _ hk => hk) trivial (Below.refl _ _) (Nat.le_refl _) (by simp) ?_; (case hd => rfl); (case hg => rfl); (case hr => first | (go_simp; done) | (go_simp; rfl)); (case hp => exact (Reps.c2 (show Kd.M k41 _ _ _ (⟨t151, t152⟩ : S41) [.int .i64 t151, .int .i64 t152] from (k41_mkM _ _ _ (⟨t151, t152⟩ : S41) )) (Reps.c2 (show Kd.M k41 _ _ _ (⟨t153, t154⟩ : S41) [.int .i64 t153, .int .i64 t154] from (k41_mkM _ _ _ (⟨t153, t154⟩ : S41) )) (Reps.c2 (show Kd.M k41 _ _ _ (⟨t155, t156⟩ : S41) [.int .i64 t155, .int .i64 t156] from (k41_mkM _ _ _ (⟨t155, t156⟩ : S41) )) (Reps.c2 (show Kd.M k41 _ _ _ (⟨t157, t158⟩ : S41) [.int .i64 t157, .int .i64 t158] from (k41_mkM _ _ _ (⟨t157, t158⟩ : S41) )) (Reps.none _ _)))))); intro v160 w50 ho51 hb hg_ hnew_; clear hg_ hnew_; (first | rw [← Ny159.out] at ho51 | (simp only [Int.reduceToNat] at ho51; rw [← Ny159.out] at ho51)); have n0_ := Aside0.mk (Kd.R_lower ho51 (below_size (by repeat (first | (with_reducible first | exact HB.out | apply below_alloc | apply pw_below_drewN | apply below_drew1) | exact HB.out)))); have n1_ := Aside0.mk (below_step (by repeat (first | (with_reducible first | exact HB.out | apply below_alloc | apply pw_below_drewN | apply below_drew1) | exact HB.out)) hb); clear HB; have HO161 := n0_; have HB := n1_; clear n0_ n1_; clear hb ho51; obtain ⟨Ao52, co52, eo52⟩ := Kd.R_slice HO161.out; subst eo52) | ((with_reducible refine gate_callee (f := 31) rfl ?_); refine goesL_ (some 11) rfl rfl Try.func31 (by kernel_rfl) rfl #[.slice Ao52 y159.length co52] rfl (by (try simp only [List.map_toArray, List.map_cons, List.map_nil]); first | done | rfl | (simp only [List.length_drop, List.length_take]; rfl)) ?_; (with_reducible refine (past_Of.calls _ _ y159 t162 t163 _ ?side1 ?side2 A5.out).mono ?_); (case side1 => repeat (first | exact (Kd.R_reads' HO161.out).2.2 | (with_reducible refine Kd.C_alloc ?_ _) | (with_reducible refine Kd.C_drewN ?_ _) | (with_reducible refine Kd.C_drew ?_))); (case side2 => exact (Kd.R_reads' HO161.out).2.1); rintro e w53 ⟨v164, rfl, ho0, hb⟩; refine ⟨_, rfl, ?_⟩; have n0_ := Aside0.mk (Kd.R_below (lf HO161.out) hb); have n1_ := Aside0.mk (Kd.R_lower ho0 (below_size (by repeat (first | (with_reducible first | exact HB.out | apply below_alloc | apply pw_below_drewN | apply below_drew1) | exact HB.out)))); have n2_ := Aside0.mk (below_step (by repeat (first | (with_reducible first | exact HB.out | apply below_alloc | apply pw_below_drewN | apply below_drew1) | exact HB.out)) hb); clear HO161; clear HB; have HO161 := n0_; have HO165 := n1_; have HB := n2_; clear n0_ n1_ n2_; (try clear hb); (try clear hb2); (try clear hk); (try clear hi); (try clear ho0)) | ((with_reducible refine gate_dst (N := 15) rfl ?_); (try (refine gate_guard (by rfl) ?_; dsimp only)); refine Kd.R_lit (Kd.int .i64) _ 3 ?hg (N := 15) ?hd (xs := ([1, 1, 258] : List Int)) (inner := [.int .i64 1, .int .i64 1, .int .i64 258]) (ok := fun _ => True) (okp := fun _ => True) ?hr ?hp (fun _ hk => hk) trivial (Below.refl _ _) (Nat.le_refl _) (by simp) ?_; (case hd => rfl); (case hg => rfl); (case hr => first | (go_simp; done) | (go_simp; rfl)); (case hp => exact (Reps.one (show Kd.M (Kd.int .i64) _ _ _ 1 [.int .i64 1] from rfl) (Reps.one (show Kd.M (Kd.int .i64) _ _ _ 1 [.int .i64 1] from rfl) (Reps.one (show Kd.M (Kd.int .i64) _ _ _ 258 [.int .i64 258] from rfl) (Reps.none _ _))))); intro v167 w54 ho55 hb hg_ hnew_; clear hg_ hnew_; (first | rw [← Ny166.out] at ho55 | (simp only [Int.reduceToNat] at ho55; rw [← Ny166.out] at ho55)); have n0_ := Aside0.mk (Kd.R_below (lf HO161.out) hb); have n1_ := Aside0.mk (Kd.R_below (lf HO165.out) hb); have n2_ := Aside0.mk (Kd.R_lower ho55 (below_size (by repeat (first | (with_reducible first | exact HB.out | apply below_alloc | apply pw_below_drewN | apply below_drew1) | exact HB.out)))); have n3_ := Aside0.mk (below_step (by repeat (first | (with_reducible first | exact HB.out | apply below_alloc | apply pw_below_drewN | apply below_drew1) | exact HB.out)) hb); clear HO161; clear HO165; clear HB; have HO161 := n0_; have HO165 := n1_; have HO168 := n2_; have HB := n3_; clear n0_ n1_ n2_ n3_; clear hb ho55; obtain ⟨Ao56, co56, eo56⟩ := Kd.R_slice HO168.out; subst eo56) | ((with_reducible refine gate_callee (f := 43) rfl ?_); refine goesL_ (some 16) rfl rfl Try.func43 (by kernel_rfl) rfl #[.slice Ao56 y166.length co56] rfl (by (try simp only [List.map_toArray, List.map_cons, List.map_nil]); first | done | rfl | (simp only [List.length_drop, List.length_take]; rfl)) ?_; (with_reducible refine (tributarylaw07_of.calls k _ _ y166 t169 _ ?side1 ?side2 A6.out).mono ?_); (case side1 => repeat (first | exact (Kd.R_reads' HO168.out).2.2 | (with_reducible refine Kd.C_alloc ?_ _) | (with_reducible refine Kd.C_drewN ?_ _) | (with_reducible refine Kd.C_drew ?_))); (case side2 => exact (Kd.R_reads' HO168.out).2.1); rintro e w57 ⟨v170, rfl, ho0, hb⟩; refine ⟨_, rfl, ?_⟩; have n0_ := Aside0.mk (Kd.R_below (lf HO161.out) hb); have n1_ := Aside0.mk (Kd.R_elder' (lf HO165.out) (Kd.R_base ho0) hb); have n2_ := Aside0.mk (Kd.R_below (lf HO168.out) hb); have n3_ := Aside0.mk (Kd.R_lower (Kd.R_new' ho0 (Kd.R_lt (lf HO165.out))) (below_size (by repeat (first | (with_reducible first | exact HB.out | apply below_alloc | apply pw_below_drewN | apply below_drew1) | exact HB.out)))); have n4_ := Aside0.mk (below_step (by repeat (first | (with_reducible first | exact HB.out | apply below_alloc | apply pw_below_drewN | apply below_drew1) | exact HB.out)) hb); clear HO161; clear HO165; clear HO168; clear HB; have HO161 := n0_; have HO165 := n1_; have HO168 := n2_; have HO171 := n3_; have HB := n4_; clear n0_ n1_ n2_ n3_ n4_; (try clear hb); (try clear hb2); (try clear hk); (try clear hi); (try clear ho0); obtain ⟨Ao58, co58, eo58⟩ := Kd.R_slice HO171.out; subst eo58) | ((with_reducible refine gate_callee (f := 13) rfl ?_); refine goesL_ (some 17) rfl rfl Try.func13 (by kernel_rfl) rfl #[.slice Ao58 t169.length co58] rfl (by (try simp only [List.map_toArray, List.map_cons, List.map_nil]); first | done | rfl | (simp only [List.length_drop, List.length_take]; rfl)) ?_; (with_reducible refine (past_Bytes.calls k _ _ t169 t172 t173 _ ?side1 ?side2 A7.out).mono ?_); (case side1 => repeat (first | exact (Kd.R_reads' HO171.out).2.2 | (with_reducible refine Kd.C_alloc ?_ _) | (with_reducible refine Kd.C_drewN ?_ _) | (with_reducible refine Kd.C_drew ?_))); (case side2 => exact (Kd.R_reads' HO171.out).2.1); rintro e w59 ⟨v174, rfl, ho0, hb⟩; refine ⟨_, rfl, ?_⟩; have n0_ := Aside0.mk (Kd.R_below (lf HO161.out) hb); have n1_ := Aside0.mk (Kd.R_below (lf HO165.out) hb); have n2_ := Aside0.mk (Kd.R_below (lf HO168.out) hb); have n3_ := Aside0.mk (Kd.R_below (lf HO171.out) hb); have n4_ := Aside0.mk (Kd.Q_lower ho0 (below_size (by repeat (first | (with_reducible first | exact HB.out | apply below_alloc | apply pw_below_drewN | apply below_drew1) | exact HB.out)))); have n5_ := Aside0.mk (below_step (by repeat (first | (with_reducible first | exact HB.out | apply below_alloc | apply pw_below_drewN | apply below_drew1) | exact HB.out)) hb); clear HO161; clear HO165; clear HO168; clear HO171; clear HB; have HO161 := n0_; have HO165 := n1_; have HO168 := n2_; have HO171 := n3_; have HO175 := n4_; have HB := n5_; clear n0_ n1_ n2_ n3_ n4_ n5_; (try clear hb); (try clear hb2); (try clear hk); (try clear hi); (try clear ho0)) | ((with_reducible refine gate_dst (N := 22) rfl ?_); (try (refine gate_guard (by rfl) ?_; dsimp only)); refine Kd.R_lit (Kd.int .i64) _ 3 ?hg (N := 22) ?hd (xs := ([1, 1, 3, 2, 5, 5] : List Int)) (inner := [.int .i64 1, .int .i64 1, .int .i64 3, .int .i64 2, .int .i64 5, .int .i64 5]) (ok := fun _ => True) (okp := fun _ => True) ?hr ?hp (fun _ hk => hk) trivial (Below.refl _ _) (Nat.le_refl _) (by simp) ?_; (case hd => rfl); (case hg => rfl); (case hr => first | (go_simp; done) | (go_simp; rfl)); (case hp => exact (Reps.one (show Kd.M (Kd.int .i64) _ _ _ 1 [.int .i64 1] from rfl) (Reps.one (show Kd.M (Kd.int .i64) _ _ _ 1 [.int .i64 1] from rfl) (Reps.one (show Kd.M (Kd.int .i64) _ _ _ 3 [.int .i64 3] from rfl) (Reps.one (show Kd.M (Kd.int .i64) _ _ _ 2 [.int .i64 2] from rfl) (Reps.one (show Kd.M (Kd.int .i64) _ _ _ 5 [.int .i64 5] from rfl) (Reps.one (show Kd.M (Kd.int .i64) _ _ _ 5 [.int .i64 5] from rfl) (Reps.none _ _)))))))); intro v177 w60 ho61 hb hg_ hnew_; clear hg_ hnew_; (first | rw [← Ny176.out] at ho61 | (simp only [Int.reduceToNat] at ho61; rw [← Ny176.out] at ho61)); have n0_ := Aside0.mk (Kd.R_below (lf HO161.out) hb); have n1_ := Aside0.mk (Kd.R_below (lf HO165.out) hb); have n2_ := Aside0.mk (Kd.R_elder' (lf HO168.out) (Kd.R_base ho61) hb); have n3_ := Aside0.mk (Kd.R_below (lf HO171.out) hb); have n4_ := Aside0.mk (Kd.Q_below (by (with_reducible repeat (first | apply Kd.Q_alloc | apply Kd.Q_drewN | apply Kd.Q_drew)); exact HO175.out) hb); have n5_ := Aside0.mk (Kd.R_lower (Kd.R_new' ho61 (Kd.R_lt (lf HO168.out))) (below_size (by repeat (first | (with_reducible first | exact HB.out | apply below_alloc | apply pw_below_drewN | apply below_drew1) | exact HB.out)))); have n6_ := Aside0.mk (below_step (by repeat (first | (with_reducible first | exact HB.out | apply below_alloc | apply pw_below_drewN | apply below_drew1) | exact HB.out)) hb); clear HO161; clear HO165; clear HO168; clear HO171; clear HO175; clear HB; have HO161 := n0_; have HO165 := n1_; have HO168 := n2_; have HO171 := n3_; have HO175 := n4_; have HO178 := n5_; have HB := n6_; clear n0_ n1_ n2_ n3_ n4_ n5_ n6_; clear hb ho61; obtain ⟨Ao62, co62, eo62⟩ := Kd.R_slice HO165.out; subst eo62; obtain ⟨Ao63, co63, eo63⟩ := Kd.R_slice HO178.out; subst eo63) | ((with_reducible refine gate_callee (f := 44) rfl ?_); refine goesL_ (some 23) rfl rfl Try.func44 (by kernel_rfl) rfl #[.slice Ao62 t162.length co62, .int .i64 t163, .slice Ao63 y176.length co63] rfl (by (try simp only [List.map_toArray, List.map_cons, List.map_nil]); first | done | rfl | (simp only [List.length_drop, List.length_take]; rfl)) ?_; (with_reducible refine (tributarylaw07_is.calls k _ _ t162 t163 _ _ y176 true _ ?side1 ?side2 ?side3 ?side4 A8.out).mono ?_); (case side1 => repeat (first | exact (Kd.R_reads' HO165.out).2.2 | (with_reducible refine Kd.C_alloc ?_ _) | (with_reducible refine Kd.C_drewN ?_ _) | (with_reducible refine Kd.C_drew ?_))); (case side2 => exact (Kd.R_reads' HO165.out).2.1); (case side3 => repeat (first | exact (Kd.R_reads' HO178.out).2.2 | (with_reducible refine Kd.C_alloc ?_ _) | (with_reducible refine Kd.C_drewN ?_ _) | (with_reducible refine Kd.C_drew ?_))); (case side4 => exact (Kd.R_reads' HO178.out).2.1); rintro e w64 ⟨rfl, hb⟩; refine ⟨_, rfl, ?_⟩; have n0_ := Aside0.mk (Kd.R_below (lf HO161.out) hb); have n1_ := Aside0.mk (Kd.R_below (lf HO165.out) hb); have n2_ := Aside0.mk (Kd.R_below (lf HO168.out) hb); have n3_ := Aside0.mk (Kd.R_below (lf HO171.out) hb); have n4_ := Aside0.mk (Kd.Q_below (by (with_reducible repeat (first | apply Kd.Q_alloc | apply Kd.Q_drewN | apply Kd.Q_drew)); exact HO175.out) hb); have n5_ := Aside0.mk (Kd.R_below (lf HO178.out) hb); have n6_ := Aside0.mk (below_step (by repeat (first | (with_reducible first | exact HB.out | apply below_alloc | apply pw_below_drewN | apply below_drew1) | exact HB.out)) hb); clear HO161; clear HO165; clear HO168; clear HO171; clear HO175; clear HO178; clear HB; have HO161 := n0_; have HO165 := n1_; have HO168 := n2_; have HO171 := n3_; have HO175 := n4_; have HO178 := n5_; have HB := n6_; clear n0_ n1_ n2_ n3_ n4_ n5_ n6_; (try clear hb); (try clear hb2); (try clear hk); (try clear hi)) | (go_at_call 26; (with_reducible refine (past_Count.calls k _ _ t162 t180 _ ?side1 ?side2 A10.out).mono ?_); (case side1 => repeat (first | exact (Kd.R_reads' HO165.out).2.2 | (with_reducible refine Kd.C_alloc ?_ _) | (with_reducible refine Kd.C_drewN ?_ _) | (with_reducible refine Kd.C_drew ?_))); (case side2 => exact (Kd.R_reads' HO165.out).2.1); rintro e w65 ⟨rfl, hb⟩; have n0_ := Aside0.mk (Kd.R_below (lf HO161.out) hb); have n1_ := Aside0.mk (Kd.R_below (lf HO165.out) hb); have n2_ := Aside0.mk (Kd.R_below (lf HO168.out) hb); have n3_ := Aside0.mk (Kd.R_below (lf HO171.out) hb); have n4_ := Aside0.mk (Kd.Q_below (by (with_reducible repeat (first | apply Kd.Q_alloc | apply Kd.Q_drewN | apply Kd.Q_drew)); exact HO175.out) hb); have n5_ := Aside0.mk (Kd.R_below (lf HO178.out) hb); have n6_ := Aside0.mk (below_step (by repeat (first | (with_reducible first | exact HB.out | apply below_alloc | apply pw_below_drewN | apply below_drew1) | exact HB.out)) hb); clear HO161; clear HO165; clear HO168; clear HO171; clear HO175; clear HO178; clear HB; have HO161 := n0_; have HO165 := n1_; have HO168 := n2_; have HO171 := n3_; have HO175 := n4_; have HO178 := n5_; have HB := n6_; clear n0_ n1_ n2_ n3_ n4_ n5_ n6_; (try clear hb); (try clear hb2); (try clear hk); (try clear hi)) | (go_at_call 28; (with_reducible refine (past_Last.calls k _ _ t162 1 t181 _ ?side1 ?side2 A12.out).mono ?_); (case side1 => repeat (first | exact (Kd.R_reads' HO165.out).2.2 | (with_reducible refine Kd.C_alloc ?_ _) | (with_reducible refine Kd.C_drewN ?_ _) | (with_reducible refine Kd.C_drew ?_))); (case side2 => exact (Kd.R_reads' HO165.out).2.1); rintro e w66 ⟨rfl, hb⟩; have n0_ := Aside0.mk (Kd.R_below (lf HO161.out) hb); have n1_ := Aside0.mk (Kd.R_below (lf HO165.out) hb); have n2_ := Aside0.mk (Kd.R_below (lf HO168.out) hb); have n3_ := Aside0.mk (Kd.R_below (lf HO171.out) hb); have n4_ := Aside0.mk (Kd.Q_below (by (with_reducible repeat (first | apply Kd.Q_alloc | apply Kd.Q_drewN | apply Kd.Q_drew)); exact HO175.out) hb); have n5_ := Aside0.mk (Kd.R_below (lf HO178.out) hb); have n6_ := Aside0.mk (below_step (by repeat (first | (with_reducible first | exact HB.out | apply below_alloc | apply pw_below_drewN | apply below_drew1) | exact HB.out)) hb); clear HO161; clear HO165; clear HO168; clear HO171; clear HO175; clear HO178; clear HB; have HO161 := n0_; have HO165 := n1_; have HO168 := n2_; have HO171 := n3_; have HO175 := n4_; have HO178 := n5_; have HB := n6_; clear n0_ n1_ n2_ n3_ n4_ n5_ n6_; (try clear hb); (try clear hb2); (try clear hk); (try clear hi)) | (go_at_call 42; (with_reducible refine (tributarylaw07_at.calls 1 2 t182 t183 _ A14.out).mono ?_); rintro e w67 ⟨rfl, hb⟩; have n0_ := Aside0.mk (Kd.R_below (lf HO161.out) hb); have n1_ := Aside0.mk (Kd.R_below (lf HO165.out) hb); have n2_ := Aside0.mk (Kd.R_below (lf HO168.out) hb); have n3_ := Aside0.mk (Kd.R_below (lf HO171.out) hb); have n4_ := Aside0.mk (Kd.Q_below (by (with_reducible repeat (first | apply Kd.Q_alloc | apply Kd.Q_drewN | apply Kd.Q_drew)); exact HO175.out) hb); have n5_ := Aside0.mk (Kd.R_below (lf HO178.out) hb); have n6_ := Aside0.mk (below_step (by repeat (first | (with_reducible first | exact HB.out | apply below_alloc | apply pw_below_drewN | apply below_drew1) | exact HB.out)) hb); clear HO161; clear HO165; clear HO168; clear HO171; clear HO175; clear HO178; clear HB; have HO161 := n0_; have HO165 := n1_; have HO168 := n2_; have HO171 := n3_; have HO175 := n4_; have HO178 := n5_; have HB := n6_; clear n0_ n1_ n2_ n3_ n4_ n5_ n6_; (try clear hb); (try clear hb2); (try clear hk); (try clear hi)) | (go_at_call 24; (with_reducible refine (past_Has.calls k _ _ t162 t182 t183 true _ ?side1 ?side2 A15.out).mono ?_); (case side1 => repeat (first | exact (Kd.R_reads' HO165.out).2.2 | (with_reducible refine Kd.C_alloc ?_ _) | (with_reducible refine Kd.C_drewN ?_ _) | (with_reducible refine Kd.C_drew ?_))); (case side2 => exact (Kd.R_reads' HO165.out).2.1); rintro e w68 ⟨rfl, hb⟩; have n0_ := Aside0.mk (Kd.R_below (lf HO161.out) hb); have n1_ := Aside0.mk (Kd.R_below (lf HO165.out) hb); have n2_ := Aside0.mk (Kd.R_below (lf HO168.out) hb); have n3_ := Aside0.mk (Kd.R_below (lf HO171.out) hb); have n4_ := Aside0.mk (Kd.Q_below (by (with_reducible repeat (first | apply Kd.Q_alloc | apply Kd.Q_drewN | apply Kd.Q_drew)); exact HO175.out) hb); have n5_ := Aside0.mk (Kd.R_below (lf HO178.out) hb); have n6_ := Aside0.mk (below_step (by repeat (first | (with_reducible first | exact HB.out | apply below_alloc | apply pw_below_drewN | apply below_drew1) | exact HB.out)) hb); clear HO161; clear HO165; clear HO168; clear HO171; clear HO175; clear HO178; clear HB; have HO161 := n0_; have HO165 := n1_; have HO168 := n2_; have HO171 := n3_; have HO175 := n4_; have HO178 := n5_; have HB := n6_; clear n0_ n1_ n2_ n3_ n4_ n5_ n6_; (try clear hb); (try clear hb2); (try clear hk); (try clear hi)))
            go_ret
            exact ⟨by first | rfl | (simp [errW_none, errW_some] <;> rfl) | (simp [*, errW_none, errW_some] <;> rfl), by repeat (first | (with_reducible first | exact HB.out | apply below_alloc | apply pw_below_drewN | apply below_drew1) | exact HB.out)⟩
        · replace c16 := Bool.eq_false_iff.mpr c16
          subst c16
          have H1 : (some false) = some r := by rw [if_neg (show ¬ (false = true) by decide)] at H; exact H
          clear H
          have H := H1
          clear H1
          obtain rfl := Option.some.inj H
          go_enter Try.func10, Try.ntmps10
          go_wp2_with (first | ((with_reducible refine gate_callee (f := 42) rfl ?_); refine goesL_ (some 6) rfl rfl Try.func42 (by kernel_rfl) rfl #[.int .i64 1, .int .i64 3] rfl (by (try simp only [List.map_toArray, List.map_cons, List.map_nil]); first | done | rfl | (simp only [List.length_drop, List.length_take]; rfl)) ?_; (with_reducible refine (tributarylaw07_at.calls 1 3 t151 t152 _ A1.out).mono ?_); rintro e w69 ⟨rfl, hb⟩; refine ⟨_, rfl, ?_⟩; have n0_ := Aside0.mk (below_step (by repeat (first | (with_reducible first | exact HB.out | apply below_alloc | apply pw_below_drewN | apply below_drew1) | exact HB.out)) hb); clear HB; have HB := n0_; clear n0_; (try clear hb); (try clear hb2); (try clear hk); (try clear hi)) | ((with_reducible refine gate_callee (f := 42) rfl ?_); refine goesL_ (some 7) rfl rfl Try.func42 (by kernel_rfl) rfl #[.int .i64 1, .int .i64 1] rfl (by (try simp only [List.map_toArray, List.map_cons, List.map_nil]); first | done | rfl | (simp only [List.length_drop, List.length_take]; rfl)) ?_; (with_reducible refine (tributarylaw07_at.calls 1 1 t153 t154 _ A2.out).mono ?_); rintro e w70 ⟨rfl, hb⟩; refine ⟨_, rfl, ?_⟩; have n0_ := Aside0.mk (below_step (by repeat (first | (with_reducible first | exact HB.out | apply below_alloc | apply pw_below_drewN | apply below_drew1) | exact HB.out)) hb); clear HB; have HB := n0_; clear n0_; (try clear hb); (try clear hb2); (try clear hk); (try clear hi)) | ((with_reducible refine gate_callee (f := 42) rfl ?_); refine goesL_ (some 8) rfl rfl Try.func42 (by kernel_rfl) rfl #[.int .i64 1, .int .i64 2] rfl (by (try simp only [List.map_toArray, List.map_cons, List.map_nil]); first | done | rfl | (simp only [List.length_drop, List.length_take]; rfl)) ?_; (with_reducible refine (tributarylaw07_at.calls 1 2 t155 t156 _ A3.out).mono ?_); rintro e w71 ⟨rfl, hb⟩; refine ⟨_, rfl, ?_⟩; have n0_ := Aside0.mk (below_step (by repeat (first | (with_reducible first | exact HB.out | apply below_alloc | apply pw_below_drewN | apply below_drew1) | exact HB.out)) hb); clear HB; have HB := n0_; clear n0_; (try clear hb); (try clear hb2); (try clear hk); (try clear hi)) | ((with_reducible refine gate_callee (f := 42) rfl ?_); refine goesL_ (some 9) rfl rfl Try.func42 (by kernel_rfl) rfl #[.int .i64 2, .int .i64 5] rfl (by (try simp only [List.map_toArray, List.map_cons, List.map_nil]); first | done | rfl | (simp only [List.length_drop, List.length_take]; rfl)) ?_; (with_reducible refine (tributarylaw07_at.calls 2 5 t157 t158 _ A4.out).mono ?_); rintro e w72 ⟨rfl, hb⟩; refine ⟨_, rfl, ?_⟩; have n0_ := Aside0.mk (below_step (by repeat (first | (with_reducible first | exact HB.out | apply below_alloc | apply pw_below_drewN | apply below_drew1) | exact HB.out)) hb); clear HB; have HB := n0_; clear n0_; (try clear hb); (try clear hb2); (try clear hk); (try clear hi)) | ((with_reducible refine gate_dst (N := 10) rfl ?_); (try (refine gate_guard (by rfl) ?_; dsimp only)); refine Kd.R_lit k41 _ 41 ?hg (N := 10) ?hd (xs := ([(⟨t151, t152⟩ : S41), (⟨t153, t154⟩ : S41), (⟨t155, t156⟩ : S41), (⟨t157, t158⟩ : S41)] : List (S41))) (inner := [.int .i64 t151, .int .i64 t152, .int .i64 t153, .int .i64 t154, .int .i64 t155, .int .i64 t156, .int .i64 t157, .int .i64 t158]) (ok := fun _ => True) (okp := fun _ => True) ?hr ?hp (fun _ hk => hk) trivial (Below.refl _ _) (Nat.le_refl _) (by simp) ?_; (case hd => rfl); (case hg => rfl); (case hr => first | (go_simp; done) | (go_simp; rfl)); (case hp => exact (Reps.c2 (show Kd.M k41 _ _ _ (⟨t151, t152⟩ : S41) [.int .i64 t151, .int .i64 t152] from (k41_mkM _ _ _ (⟨t151, t152⟩ : S41) )) (Reps.c2 (show Kd.M k41 _ _ _ (⟨t153, t154⟩ : S41) [.int .i64 t153, .int .i64 t154] from (k41_mkM _ _ _ (⟨t153, t154⟩ : S41) )) (Reps.c2 (show Kd.M k41 _ _ _ (⟨t155, t156⟩ : S41) [.int .i64 t155, .int .i64 t156] from (k41_mkM _ _ _ (⟨t155, t156⟩ : S41) )) (Reps.c2 (show Kd.M k41 _ _ _ (⟨t157, t158⟩ : S41) [.int .i64 t157, .int .i64 t158] from (k41_mkM _ _ _ (⟨t157, t158⟩ : S41) )) (Reps.none _ _)))))); intro v160 w73 ho74 hb hg_ hnew_; clear hg_ hnew_; (first | rw [← Ny159.out] at ho74 | (simp only [Int.reduceToNat] at ho74; rw [← Ny159.out] at ho74)); have n0_ := Aside0.mk (Kd.R_lower ho74 (below_size (by repeat (first | (with_reducible first | exact HB.out | apply below_alloc | apply pw_below_drewN | apply below_drew1) | exact HB.out)))); have n1_ := Aside0.mk (below_step (by repeat (first | (with_reducible first | exact HB.out | apply below_alloc | apply pw_below_drewN | apply below_drew1) | exact HB.out)) hb); clear HB; have HO161 := n0_; have HB := n1_; clear n0_ n1_; clear hb ho74; obtain ⟨Ao75, co75, eo75⟩ := Kd.R_slice HO161.out; subst eo75) | ((with_reducible refine gate_callee (f := 31) rfl ?_); refine goesL_ (some 11) rfl rfl Try.func31 (by kernel_rfl) rfl #[.slice Ao75 y159.length co75] rfl (by (try simp only [List.map_toArray, List.map_cons, List.map_nil]); first | done | rfl | (simp only [List.length_drop, List.length_take]; rfl)) ?_; (with_reducible refine (past_Of.calls _ _ y159 t162 t163 _ ?side1 ?side2 A5.out).mono ?_); (case side1 => repeat (first | exact (Kd.R_reads' HO161.out).2.2 | (with_reducible refine Kd.C_alloc ?_ _) | (with_reducible refine Kd.C_drewN ?_ _) | (with_reducible refine Kd.C_drew ?_))); (case side2 => exact (Kd.R_reads' HO161.out).2.1); rintro e w76 ⟨v164, rfl, ho0, hb⟩; refine ⟨_, rfl, ?_⟩; have n0_ := Aside0.mk (Kd.R_below (lf HO161.out) hb); have n1_ := Aside0.mk (Kd.R_lower ho0 (below_size (by repeat (first | (with_reducible first | exact HB.out | apply below_alloc | apply pw_below_drewN | apply below_drew1) | exact HB.out)))); have n2_ := Aside0.mk (below_step (by repeat (first | (with_reducible first | exact HB.out | apply below_alloc | apply pw_below_drewN | apply below_drew1) | exact HB.out)) hb); clear HO161; clear HB; have HO161 := n0_; have HO165 := n1_; have HB := n2_; clear n0_ n1_ n2_; (try clear hb); (try clear hb2); (try clear hk); (try clear hi); (try clear ho0)) | ((with_reducible refine gate_dst (N := 15) rfl ?_); (try (refine gate_guard (by rfl) ?_; dsimp only)); refine Kd.R_lit (Kd.int .i64) _ 3 ?hg (N := 15) ?hd (xs := ([1, 1, 258] : List Int)) (inner := [.int .i64 1, .int .i64 1, .int .i64 258]) (ok := fun _ => True) (okp := fun _ => True) ?hr ?hp (fun _ hk => hk) trivial (Below.refl _ _) (Nat.le_refl _) (by simp) ?_; (case hd => rfl); (case hg => rfl); (case hr => first | (go_simp; done) | (go_simp; rfl)); (case hp => exact (Reps.one (show Kd.M (Kd.int .i64) _ _ _ 1 [.int .i64 1] from rfl) (Reps.one (show Kd.M (Kd.int .i64) _ _ _ 1 [.int .i64 1] from rfl) (Reps.one (show Kd.M (Kd.int .i64) _ _ _ 258 [.int .i64 258] from rfl) (Reps.none _ _))))); intro v167 w77 ho78 hb hg_ hnew_; clear hg_ hnew_; (first | rw [← Ny166.out] at ho78 | (simp only [Int.reduceToNat] at ho78; rw [← Ny166.out] at ho78)); have n0_ := Aside0.mk (Kd.R_below (lf HO161.out) hb); have n1_ := Aside0.mk (Kd.R_below (lf HO165.out) hb); have n2_ := Aside0.mk (Kd.R_lower ho78 (below_size (by repeat (first | (with_reducible first | exact HB.out | apply below_alloc | apply pw_below_drewN | apply below_drew1) | exact HB.out)))); have n3_ := Aside0.mk (below_step (by repeat (first | (with_reducible first | exact HB.out | apply below_alloc | apply pw_below_drewN | apply below_drew1) | exact HB.out)) hb); clear HO161; clear HO165; clear HB; have HO161 := n0_; have HO165 := n1_; have HO168 := n2_; have HB := n3_; clear n0_ n1_ n2_ n3_; clear hb ho78; obtain ⟨Ao79, co79, eo79⟩ := Kd.R_slice HO168.out; subst eo79) | ((with_reducible refine gate_callee (f := 43) rfl ?_); refine goesL_ (some 16) rfl rfl Try.func43 (by kernel_rfl) rfl #[.slice Ao79 y166.length co79] rfl (by (try simp only [List.map_toArray, List.map_cons, List.map_nil]); first | done | rfl | (simp only [List.length_drop, List.length_take]; rfl)) ?_; (with_reducible refine (tributarylaw07_of.calls k _ _ y166 t169 _ ?side1 ?side2 A6.out).mono ?_); (case side1 => repeat (first | exact (Kd.R_reads' HO168.out).2.2 | (with_reducible refine Kd.C_alloc ?_ _) | (with_reducible refine Kd.C_drewN ?_ _) | (with_reducible refine Kd.C_drew ?_))); (case side2 => exact (Kd.R_reads' HO168.out).2.1); rintro e w80 ⟨v170, rfl, ho0, hb⟩; refine ⟨_, rfl, ?_⟩; have n0_ := Aside0.mk (Kd.R_below (lf HO161.out) hb); have n1_ := Aside0.mk (Kd.R_elder' (lf HO165.out) (Kd.R_base ho0) hb); have n2_ := Aside0.mk (Kd.R_below (lf HO168.out) hb); have n3_ := Aside0.mk (Kd.R_lower (Kd.R_new' ho0 (Kd.R_lt (lf HO165.out))) (below_size (by repeat (first | (with_reducible first | exact HB.out | apply below_alloc | apply pw_below_drewN | apply below_drew1) | exact HB.out)))); have n4_ := Aside0.mk (below_step (by repeat (first | (with_reducible first | exact HB.out | apply below_alloc | apply pw_below_drewN | apply below_drew1) | exact HB.out)) hb); clear HO161; clear HO165; clear HO168; clear HB; have HO161 := n0_; have HO165 := n1_; have HO168 := n2_; have HO171 := n3_; have HB := n4_; clear n0_ n1_ n2_ n3_ n4_; (try clear hb); (try clear hb2); (try clear hk); (try clear hi); (try clear ho0); obtain ⟨Ao81, co81, eo81⟩ := Kd.R_slice HO171.out; subst eo81) | ((with_reducible refine gate_callee (f := 13) rfl ?_); refine goesL_ (some 17) rfl rfl Try.func13 (by kernel_rfl) rfl #[.slice Ao81 t169.length co81] rfl (by (try simp only [List.map_toArray, List.map_cons, List.map_nil]); first | done | rfl | (simp only [List.length_drop, List.length_take]; rfl)) ?_; (with_reducible refine (past_Bytes.calls k _ _ t169 t172 t173 _ ?side1 ?side2 A7.out).mono ?_); (case side1 => repeat (first | exact (Kd.R_reads' HO171.out).2.2 | (with_reducible refine Kd.C_alloc ?_ _) | (with_reducible refine Kd.C_drewN ?_ _) | (with_reducible refine Kd.C_drew ?_))); (case side2 => exact (Kd.R_reads' HO171.out).2.1); rintro e w82 ⟨v174, rfl, ho0, hb⟩; refine ⟨_, rfl, ?_⟩; have n0_ := Aside0.mk (Kd.R_below (lf HO161.out) hb); have n1_ := Aside0.mk (Kd.R_below (lf HO165.out) hb); have n2_ := Aside0.mk (Kd.R_below (lf HO168.out) hb); have n3_ := Aside0.mk (Kd.R_below (lf HO171.out) hb); have n4_ := Aside0.mk (Kd.Q_lower ho0 (below_size (by repeat (first | (with_reducible first | exact HB.out | apply below_alloc | apply pw_below_drewN | apply below_drew1) | exact HB.out)))); have n5_ := Aside0.mk (below_step (by repeat (first | (with_reducible first | exact HB.out | apply below_alloc | apply pw_below_drewN | apply below_drew1) | exact HB.out)) hb); clear HO161; clear HO165; clear HO168; clear HO171; clear HB; have HO161 := n0_; have HO165 := n1_; have HO168 := n2_; have HO171 := n3_; have HO175 := n4_; have HB := n5_; clear n0_ n1_ n2_ n3_ n4_ n5_; (try clear hb); (try clear hb2); (try clear hk); (try clear hi); (try clear ho0)) | ((with_reducible refine gate_dst (N := 22) rfl ?_); (try (refine gate_guard (by rfl) ?_; dsimp only)); refine Kd.R_lit (Kd.int .i64) _ 3 ?hg (N := 22) ?hd (xs := ([1, 1, 3, 2, 5, 5] : List Int)) (inner := [.int .i64 1, .int .i64 1, .int .i64 3, .int .i64 2, .int .i64 5, .int .i64 5]) (ok := fun _ => True) (okp := fun _ => True) ?hr ?hp (fun _ hk => hk) trivial (Below.refl _ _) (Nat.le_refl _) (by simp) ?_; (case hd => rfl); (case hg => rfl); (case hr => first | (go_simp; done) | (go_simp; rfl)); (case hp => exact (Reps.one (show Kd.M (Kd.int .i64) _ _ _ 1 [.int .i64 1] from rfl) (Reps.one (show Kd.M (Kd.int .i64) _ _ _ 1 [.int .i64 1] from rfl) (Reps.one (show Kd.M (Kd.int .i64) _ _ _ 3 [.int .i64 3] from rfl) (Reps.one (show Kd.M (Kd.int .i64) _ _ _ 2 [.int .i64 2] from rfl) (Reps.one (show Kd.M (Kd.int .i64) _ _ _ 5 [.int .i64 5] from rfl) (Reps.one (show Kd.M (Kd.int .i64) _ _ _ 5 [.int .i64 5] from rfl) (Reps.none _ _)))))))); intro v177 w83 ho84 hb hg_ hnew_; clear hg_ hnew_; (first | rw [← Ny176.out] at ho84 | (simp only [Int.reduceToNat] at ho84; rw [← Ny176.out] at ho84)); have n0_ := Aside0.mk (Kd.R_below (lf HO161.out) hb); have n1_ := Aside0.mk (Kd.R_below (lf HO165.out) hb); have n2_ := Aside0.mk (Kd.R_elder' (lf HO168.out) (Kd.R_base ho84) hb); have n3_ := Aside0.mk (Kd.R_below (lf HO171.out) hb); have n4_ := Aside0.mk (Kd.Q_below (by (with_reducible repeat (first | apply Kd.Q_alloc | apply Kd.Q_drewN | apply Kd.Q_drew)); exact HO175.out) hb); have n5_ := Aside0.mk (Kd.R_lower (Kd.R_new' ho84 (Kd.R_lt (lf HO168.out))) (below_size (by repeat (first | (with_reducible first | exact HB.out | apply below_alloc | apply pw_below_drewN | apply below_drew1) | exact HB.out)))); have n6_ := Aside0.mk (below_step (by repeat (first | (with_reducible first | exact HB.out | apply below_alloc | apply pw_below_drewN | apply below_drew1) | exact HB.out)) hb); clear HO161; clear HO165; clear HO168; clear HO171; clear HO175; clear HB; have HO161 := n0_; have HO165 := n1_; have HO168 := n2_; have HO171 := n3_; have HO175 := n4_; have HO178 := n5_; have HB := n6_; clear n0_ n1_ n2_ n3_ n4_ n5_ n6_; clear hb ho84; obtain ⟨Ao85, co85, eo85⟩ := Kd.R_slice HO165.out; subst eo85; obtain ⟨Ao86, co86, eo86⟩ := Kd.R_slice HO178.out; subst eo86) | ((with_reducible refine gate_callee (f := 44) rfl ?_); refine goesL_ (some 23) rfl rfl Try.func44 (by kernel_rfl) rfl #[.slice Ao85 t162.length co85, .int .i64 t163, .slice Ao86 y176.length co86] rfl (by (try simp only [List.map_toArray, List.map_cons, List.map_nil]); first | done | rfl | (simp only [List.length_drop, List.length_take]; rfl)) ?_; (with_reducible refine (tributarylaw07_is.calls k _ _ t162 t163 _ _ y176 true _ ?side1 ?side2 ?side3 ?side4 A8.out).mono ?_); (case side1 => repeat (first | exact (Kd.R_reads' HO165.out).2.2 | (with_reducible refine Kd.C_alloc ?_ _) | (with_reducible refine Kd.C_drewN ?_ _) | (with_reducible refine Kd.C_drew ?_))); (case side2 => exact (Kd.R_reads' HO165.out).2.1); (case side3 => repeat (first | exact (Kd.R_reads' HO178.out).2.2 | (with_reducible refine Kd.C_alloc ?_ _) | (with_reducible refine Kd.C_drewN ?_ _) | (with_reducible refine Kd.C_drew ?_))); (case side4 => exact (Kd.R_reads' HO178.out).2.1); rintro e w87 ⟨rfl, hb⟩; refine ⟨_, rfl, ?_⟩; have n0_ := Aside0.mk (Kd.R_below (lf HO161.out) hb); have n1_ := Aside0.mk (Kd.R_below (lf HO165.out) hb); have n2_ := Aside0.mk (Kd.R_below (lf HO168.out) hb); have n3_ := Aside0.mk (Kd.R_below (lf HO171.out) hb); have n4_ := Aside0.mk (Kd.Q_below (by (with_reducible repeat (first | apply Kd.Q_alloc | apply Kd.Q_drewN | apply Kd.Q_drew)); exact HO175.out) hb); have n5_ := Aside0.mk (Kd.R_below (lf HO178.out) hb); have n6_ := Aside0.mk (below_step (by repeat (first | (with_reducible first | exact HB.out | apply below_alloc | apply pw_below_drewN | apply below_drew1) | exact HB.out)) hb); clear HO161; clear HO165; clear HO168; clear HO171; clear HO175; clear HO178; clear HB; have HO161 := n0_; have HO165 := n1_; have HO168 := n2_; have HO171 := n3_; have HO175 := n4_; have HO178 := n5_; have HB := n6_; clear n0_ n1_ n2_ n3_ n4_ n5_ n6_; (try clear hb); (try clear hb2); (try clear hk); (try clear hi)) | (go_at_call 26; (with_reducible refine (past_Count.calls k _ _ t162 t180 _ ?side1 ?side2 A10.out).mono ?_); (case side1 => repeat (first | exact (Kd.R_reads' HO165.out).2.2 | (with_reducible refine Kd.C_alloc ?_ _) | (with_reducible refine Kd.C_drewN ?_ _) | (with_reducible refine Kd.C_drew ?_))); (case side2 => exact (Kd.R_reads' HO165.out).2.1); rintro e w88 ⟨rfl, hb⟩; have n0_ := Aside0.mk (Kd.R_below (lf HO161.out) hb); have n1_ := Aside0.mk (Kd.R_below (lf HO165.out) hb); have n2_ := Aside0.mk (Kd.R_below (lf HO168.out) hb); have n3_ := Aside0.mk (Kd.R_below (lf HO171.out) hb); have n4_ := Aside0.mk (Kd.Q_below (by (with_reducible repeat (first | apply Kd.Q_alloc | apply Kd.Q_drewN | apply Kd.Q_drew)); exact HO175.out) hb); have n5_ := Aside0.mk (Kd.R_below (lf HO178.out) hb); have n6_ := Aside0.mk (below_step (by repeat (first | (with_reducible first | exact HB.out | apply below_alloc | apply pw_below_drewN | apply below_drew1) | exact HB.out)) hb); clear HO161; clear HO165; clear HO168; clear HO171; clear HO175; clear HO178; clear HB; have HO161 := n0_; have HO165 := n1_; have HO168 := n2_; have HO171 := n3_; have HO175 := n4_; have HO178 := n5_; have HB := n6_; clear n0_ n1_ n2_ n3_ n4_ n5_ n6_; (try clear hb); (try clear hb2); (try clear hk); (try clear hi)) | (go_at_call 28; (with_reducible refine (past_Last.calls k _ _ t162 1 t181 _ ?side1 ?side2 A12.out).mono ?_); (case side1 => repeat (first | exact (Kd.R_reads' HO165.out).2.2 | (with_reducible refine Kd.C_alloc ?_ _) | (with_reducible refine Kd.C_drewN ?_ _) | (with_reducible refine Kd.C_drew ?_))); (case side2 => exact (Kd.R_reads' HO165.out).2.1); rintro e w89 ⟨rfl, hb⟩; have n0_ := Aside0.mk (Kd.R_below (lf HO161.out) hb); have n1_ := Aside0.mk (Kd.R_below (lf HO165.out) hb); have n2_ := Aside0.mk (Kd.R_below (lf HO168.out) hb); have n3_ := Aside0.mk (Kd.R_below (lf HO171.out) hb); have n4_ := Aside0.mk (Kd.Q_below (by (with_reducible repeat (first | apply Kd.Q_alloc | apply Kd.Q_drewN | apply Kd.Q_drew)); exact HO175.out) hb); have n5_ := Aside0.mk (Kd.R_below (lf HO178.out) hb); have n6_ := Aside0.mk (below_step (by repeat (first | (with_reducible first | exact HB.out | apply below_alloc | apply pw_below_drewN | apply below_drew1) | exact HB.out)) hb); clear HO161; clear HO165; clear HO168; clear HO171; clear HO175; clear HO178; clear HB; have HO161 := n0_; have HO165 := n1_; have HO168 := n2_; have HO171 := n3_; have HO175 := n4_; have HO178 := n5_; have HB := n6_; clear n0_ n1_ n2_ n3_ n4_ n5_ n6_; (try clear hb); (try clear hb2); (try clear hk); (try clear hi)) | (go_at_call 42; (with_reducible refine (tributarylaw07_at.calls 1 2 t182 t183 _ A14.out).mono ?_); rintro e w90 ⟨rfl, hb⟩; have n0_ := Aside0.mk (Kd.R_below (lf HO161.out) hb); have n1_ := Aside0.mk (Kd.R_below (lf HO165.out) hb); have n2_ := Aside0.mk (Kd.R_below (lf HO168.out) hb); have n3_ := Aside0.mk (Kd.R_below (lf HO171.out) hb); have n4_ := Aside0.mk (Kd.Q_below (by (with_reducible repeat (first | apply Kd.Q_alloc | apply Kd.Q_drewN | apply Kd.Q_drew)); exact HO175.out) hb); have n5_ := Aside0.mk (Kd.R_below (lf HO178.out) hb); have n6_ := Aside0.mk (below_step (by repeat (first | (with_reducible first | exact HB.out | apply below_alloc | apply pw_below_drewN | apply below_drew1) | exact HB.out)) hb); clear HO161; clear HO165; clear HO168; clear HO171; clear HO175; clear HO178; clear HB; have HO161 := n0_; have HO165 := n1_; have HO168 := n2_; have HO171 := n3_; have HO175 := n4_; have HO178 := n5_; have HB := n6_; clear n0_ n1_ n2_ n3_ n4_ n5_ n6_; (try clear hb); (try clear hb2); (try clear hk); (try clear hi)) | (go_at_call 24; (with_reducible refine (past_Has.calls k _ _ t162 t182 t183 false _ ?side1 ?side2 A15.out).mono ?_); (case side1 => repeat (first | exact (Kd.R_reads' HO165.out).2.2 | (with_reducible refine Kd.C_alloc ?_ _) | (with_reducible refine Kd.C_drewN ?_ _) | (with_reducible refine Kd.C_drew ?_))); (case side2 => exact (Kd.R_reads' HO165.out).2.1); rintro e w91 ⟨rfl, hb⟩; have n0_ := Aside0.mk (Kd.R_below (lf HO161.out) hb); have n1_ := Aside0.mk (Kd.R_below (lf HO165.out) hb); have n2_ := Aside0.mk (Kd.R_below (lf HO168.out) hb); have n3_ := Aside0.mk (Kd.R_below (lf HO171.out) hb); have n4_ := Aside0.mk (Kd.Q_below (by (with_reducible repeat (first | apply Kd.Q_alloc | apply Kd.Q_drewN | apply Kd.Q_drew)); exact HO175.out) hb); have n5_ := Aside0.mk (Kd.R_below (lf HO178.out) hb); have n6_ := Aside0.mk (below_step (by repeat (first | (with_reducible first | exact HB.out | apply below_alloc | apply pw_below_drewN | apply below_drew1) | exact HB.out)) hb); clear HO161; clear HO165; clear HO168; clear HO171; clear HO175; clear HO178; clear HB; have HO161 := n0_; have HO165 := n1_; have HO168 := n2_; have HO171 := n3_; have HO175 := n4_; have HO178 := n5_; have HB := n6_; clear n0_ n1_ n2_ n3_ n4_ n5_ n6_; (try clear hb); (try clear hb2); (try clear hk); (try clear hi)))
          go_ret
          exact ⟨by first | rfl | (simp [errW_none, errW_some] <;> rfl) | (simp [*, errW_none, errW_some] <;> rfl), by repeat (first | (with_reducible first | exact HB.out | apply below_alloc | apply pw_below_drewN | apply below_drew1) | exact HB.out)⟩
      · rw [if_neg c13] at H
        have c13b0 : (t181 == 3) = false := beq_eq_false_iff_ne.mpr c13
        have c13b1 : (t181 != 3) = true := bne_iff_ne.mpr c13
        obtain rfl := Option.some.inj H
        go_enter Try.func10, Try.ntmps10
        go_wp2_with (first | ((with_reducible refine gate_callee (f := 42) rfl ?_); refine goesL_ (some 6) rfl rfl Try.func42 (by kernel_rfl) rfl #[.int .i64 1, .int .i64 3] rfl (by (try simp only [List.map_toArray, List.map_cons, List.map_nil]); first | done | rfl | (simp only [List.length_drop, List.length_take]; rfl)) ?_; (with_reducible refine (tributarylaw07_at.calls 1 3 t151 t152 _ A1.out).mono ?_); rintro e w92 ⟨rfl, hb⟩; refine ⟨_, rfl, ?_⟩; have n0_ := Aside0.mk (below_step (by repeat (first | (with_reducible first | exact HB.out | apply below_alloc | apply pw_below_drewN | apply below_drew1) | exact HB.out)) hb); clear HB; have HB := n0_; clear n0_; (try clear hb); (try clear hb2); (try clear hk); (try clear hi)) | ((with_reducible refine gate_callee (f := 42) rfl ?_); refine goesL_ (some 7) rfl rfl Try.func42 (by kernel_rfl) rfl #[.int .i64 1, .int .i64 1] rfl (by (try simp only [List.map_toArray, List.map_cons, List.map_nil]); first | done | rfl | (simp only [List.length_drop, List.length_take]; rfl)) ?_; (with_reducible refine (tributarylaw07_at.calls 1 1 t153 t154 _ A2.out).mono ?_); rintro e w93 ⟨rfl, hb⟩; refine ⟨_, rfl, ?_⟩; have n0_ := Aside0.mk (below_step (by repeat (first | (with_reducible first | exact HB.out | apply below_alloc | apply pw_below_drewN | apply below_drew1) | exact HB.out)) hb); clear HB; have HB := n0_; clear n0_; (try clear hb); (try clear hb2); (try clear hk); (try clear hi)) | ((with_reducible refine gate_callee (f := 42) rfl ?_); refine goesL_ (some 8) rfl rfl Try.func42 (by kernel_rfl) rfl #[.int .i64 1, .int .i64 2] rfl (by (try simp only [List.map_toArray, List.map_cons, List.map_nil]); first | done | rfl | (simp only [List.length_drop, List.length_take]; rfl)) ?_; (with_reducible refine (tributarylaw07_at.calls 1 2 t155 t156 _ A3.out).mono ?_); rintro e w94 ⟨rfl, hb⟩; refine ⟨_, rfl, ?_⟩; have n0_ := Aside0.mk (below_step (by repeat (first | (with_reducible first | exact HB.out | apply below_alloc | apply pw_below_drewN | apply below_drew1) | exact HB.out)) hb); clear HB; have HB := n0_; clear n0_; (try clear hb); (try clear hb2); (try clear hk); (try clear hi)) | ((with_reducible refine gate_callee (f := 42) rfl ?_); refine goesL_ (some 9) rfl rfl Try.func42 (by kernel_rfl) rfl #[.int .i64 2, .int .i64 5] rfl (by (try simp only [List.map_toArray, List.map_cons, List.map_nil]); first | done | rfl | (simp only [List.length_drop, List.length_take]; rfl)) ?_; (with_reducible refine (tributarylaw07_at.calls 2 5 t157 t158 _ A4.out).mono ?_); rintro e w95 ⟨rfl, hb⟩; refine ⟨_, rfl, ?_⟩; have n0_ := Aside0.mk (below_step (by repeat (first | (with_reducible first | exact HB.out | apply below_alloc | apply pw_below_drewN | apply below_drew1) | exact HB.out)) hb); clear HB; have HB := n0_; clear n0_; (try clear hb); (try clear hb2); (try clear hk); (try clear hi)) | ((with_reducible refine gate_dst (N := 10) rfl ?_); (try (refine gate_guard (by rfl) ?_; dsimp only)); refine Kd.R_lit k41 _ 41 ?hg (N := 10) ?hd (xs := ([(⟨t151, t152⟩ : S41), (⟨t153, t154⟩ : S41), (⟨t155, t156⟩ : S41), (⟨t157, t158⟩ : S41)] : List (S41))) (inner := [.int .i64 t151, .int .i64 t152, .int .i64 t153, .int .i64 t154, .int .i64 t155, .int .i64 t156, .int .i64 t157, .int .i64 t158]) (ok := fun _ => True) (okp := fun _ => True) ?hr ?hp (fun _ hk => hk) trivial (Below.refl _ _) (Nat.le_refl _) (by simp) ?_; (case hd => rfl); (case hg => rfl); (case hr => first | (go_simp; done) | (go_simp; rfl)); (case hp => exact (Reps.c2 (show Kd.M k41 _ _ _ (⟨t151, t152⟩ : S41) [.int .i64 t151, .int .i64 t152] from (k41_mkM _ _ _ (⟨t151, t152⟩ : S41) )) (Reps.c2 (show Kd.M k41 _ _ _ (⟨t153, t154⟩ : S41) [.int .i64 t153, .int .i64 t154] from (k41_mkM _ _ _ (⟨t153, t154⟩ : S41) )) (Reps.c2 (show Kd.M k41 _ _ _ (⟨t155, t156⟩ : S41) [.int .i64 t155, .int .i64 t156] from (k41_mkM _ _ _ (⟨t155, t156⟩ : S41) )) (Reps.c2 (show Kd.M k41 _ _ _ (⟨t157, t158⟩ : S41) [.int .i64 t157, .int .i64 t158] from (k41_mkM _ _ _ (⟨t157, t158⟩ : S41) )) (Reps.none _ _)))))); intro v160 w96 ho97 hb hg_ hnew_; clear hg_ hnew_; (first | rw [← Ny159.out] at ho97 | (simp only [Int.reduceToNat] at ho97; rw [← Ny159.out] at ho97)); have n0_ := Aside0.mk (Kd.R_lower ho97 (below_size (by repeat (first | (with_reducible first | exact HB.out | apply below_alloc | apply pw_below_drewN | apply below_drew1) | exact HB.out)))); have n1_ := Aside0.mk (below_step (by repeat (first | (with_reducible first | exact HB.out | apply below_alloc | apply pw_below_drewN | apply below_drew1) | exact HB.out)) hb); clear HB; have HO161 := n0_; have HB := n1_; clear n0_ n1_; clear hb ho97; obtain ⟨Ao98, co98, eo98⟩ := Kd.R_slice HO161.out; subst eo98) | ((with_reducible refine gate_callee (f := 31) rfl ?_); refine goesL_ (some 11) rfl rfl Try.func31 (by kernel_rfl) rfl #[.slice Ao98 y159.length co98] rfl (by (try simp only [List.map_toArray, List.map_cons, List.map_nil]); first | done | rfl | (simp only [List.length_drop, List.length_take]; rfl)) ?_; (with_reducible refine (past_Of.calls _ _ y159 t162 t163 _ ?side1 ?side2 A5.out).mono ?_); (case side1 => repeat (first | exact (Kd.R_reads' HO161.out).2.2 | (with_reducible refine Kd.C_alloc ?_ _) | (with_reducible refine Kd.C_drewN ?_ _) | (with_reducible refine Kd.C_drew ?_))); (case side2 => exact (Kd.R_reads' HO161.out).2.1); rintro e w99 ⟨v164, rfl, ho0, hb⟩; refine ⟨_, rfl, ?_⟩; have n0_ := Aside0.mk (Kd.R_below (lf HO161.out) hb); have n1_ := Aside0.mk (Kd.R_lower ho0 (below_size (by repeat (first | (with_reducible first | exact HB.out | apply below_alloc | apply pw_below_drewN | apply below_drew1) | exact HB.out)))); have n2_ := Aside0.mk (below_step (by repeat (first | (with_reducible first | exact HB.out | apply below_alloc | apply pw_below_drewN | apply below_drew1) | exact HB.out)) hb); clear HO161; clear HB; have HO161 := n0_; have HO165 := n1_; have HB := n2_; clear n0_ n1_ n2_; (try clear hb); (try clear hb2); (try clear hk); (try clear hi); (try clear ho0)) | ((with_reducible refine gate_dst (N := 15) rfl ?_); (try (refine gate_guard (by rfl) ?_; dsimp only)); refine Kd.R_lit (Kd.int .i64) _ 3 ?hg (N := 15) ?hd (xs := ([1, 1, 258] : List Int)) (inner := [.int .i64 1, .int .i64 1, .int .i64 258]) (ok := fun _ => True) (okp := fun _ => True) ?hr ?hp (fun _ hk => hk) trivial (Below.refl _ _) (Nat.le_refl _) (by simp) ?_; (case hd => rfl); (case hg => rfl); (case hr => first | (go_simp; done) | (go_simp; rfl)); (case hp => exact (Reps.one (show Kd.M (Kd.int .i64) _ _ _ 1 [.int .i64 1] from rfl) (Reps.one (show Kd.M (Kd.int .i64) _ _ _ 1 [.int .i64 1] from rfl) (Reps.one (show Kd.M (Kd.int .i64) _ _ _ 258 [.int .i64 258] from rfl) (Reps.none _ _))))); intro v167 w100 ho101 hb hg_ hnew_; clear hg_ hnew_; (first | rw [← Ny166.out] at ho101 | (simp only [Int.reduceToNat] at ho101; rw [← Ny166.out] at ho101)); have n0_ := Aside0.mk (Kd.R_below (lf HO161.out) hb); have n1_ := Aside0.mk (Kd.R_below (lf HO165.out) hb); have n2_ := Aside0.mk (Kd.R_lower ho101 (below_size (by repeat (first | (with_reducible first | exact HB.out | apply below_alloc | apply pw_below_drewN | apply below_drew1) | exact HB.out)))); have n3_ := Aside0.mk (below_step (by repeat (first | (with_reducible first | exact HB.out | apply below_alloc | apply pw_below_drewN | apply below_drew1) | exact HB.out)) hb); clear HO161; clear HO165; clear HB; have HO161 := n0_; have HO165 := n1_; have HO168 := n2_; have HB := n3_; clear n0_ n1_ n2_ n3_; clear hb ho101; obtain ⟨Ao102, co102, eo102⟩ := Kd.R_slice HO168.out; subst eo102) | ((with_reducible refine gate_callee (f := 43) rfl ?_); refine goesL_ (some 16) rfl rfl Try.func43 (by kernel_rfl) rfl #[.slice Ao102 y166.length co102] rfl (by (try simp only [List.map_toArray, List.map_cons, List.map_nil]); first | done | rfl | (simp only [List.length_drop, List.length_take]; rfl)) ?_; (with_reducible refine (tributarylaw07_of.calls k _ _ y166 t169 _ ?side1 ?side2 A6.out).mono ?_); (case side1 => repeat (first | exact (Kd.R_reads' HO168.out).2.2 | (with_reducible refine Kd.C_alloc ?_ _) | (with_reducible refine Kd.C_drewN ?_ _) | (with_reducible refine Kd.C_drew ?_))); (case side2 => exact (Kd.R_reads' HO168.out).2.1); rintro e w103 ⟨v170, rfl, ho0, hb⟩; refine ⟨_, rfl, ?_⟩; have n0_ := Aside0.mk (Kd.R_below (lf HO161.out) hb); have n1_ := Aside0.mk (Kd.R_elder' (lf HO165.out) (Kd.R_base ho0) hb); have n2_ := Aside0.mk (Kd.R_below (lf HO168.out) hb); have n3_ := Aside0.mk (Kd.R_lower (Kd.R_new' ho0 (Kd.R_lt (lf HO165.out))) (below_size (by repeat (first | (with_reducible first | exact HB.out | apply below_alloc | apply pw_below_drewN | apply below_drew1) | exact HB.out)))); have n4_ := Aside0.mk (below_step (by repeat (first | (with_reducible first | exact HB.out | apply below_alloc | apply pw_below_drewN | apply below_drew1) | exact HB.out)) hb); clear HO161; clear HO165; clear HO168; clear HB; have HO161 := n0_; have HO165 := n1_; have HO168 := n2_; have HO171 := n3_; have HB := n4_; clear n0_ n1_ n2_ n3_ n4_; (try clear hb); (try clear hb2); (try clear hk); (try clear hi); (try clear ho0); obtain ⟨Ao104, co104, eo104⟩ := Kd.R_slice HO171.out; subst eo104) | ((with_reducible refine gate_callee (f := 13) rfl ?_); refine goesL_ (some 17) rfl rfl Try.func13 (by kernel_rfl) rfl #[.slice Ao104 t169.length co104] rfl (by (try simp only [List.map_toArray, List.map_cons, List.map_nil]); first | done | rfl | (simp only [List.length_drop, List.length_take]; rfl)) ?_; (with_reducible refine (past_Bytes.calls k _ _ t169 t172 t173 _ ?side1 ?side2 A7.out).mono ?_); (case side1 => repeat (first | exact (Kd.R_reads' HO171.out).2.2 | (with_reducible refine Kd.C_alloc ?_ _) | (with_reducible refine Kd.C_drewN ?_ _) | (with_reducible refine Kd.C_drew ?_))); (case side2 => exact (Kd.R_reads' HO171.out).2.1); rintro e w105 ⟨v174, rfl, ho0, hb⟩; refine ⟨_, rfl, ?_⟩; have n0_ := Aside0.mk (Kd.R_below (lf HO161.out) hb); have n1_ := Aside0.mk (Kd.R_below (lf HO165.out) hb); have n2_ := Aside0.mk (Kd.R_below (lf HO168.out) hb); have n3_ := Aside0.mk (Kd.R_below (lf HO171.out) hb); have n4_ := Aside0.mk (Kd.Q_lower ho0 (below_size (by repeat (first | (with_reducible first | exact HB.out | apply below_alloc | apply pw_below_drewN | apply below_drew1) | exact HB.out)))); have n5_ := Aside0.mk (below_step (by repeat (first | (with_reducible first | exact HB.out | apply below_alloc | apply pw_below_drewN | apply below_drew1) | exact HB.out)) hb); clear HO161; clear HO165; clear HO168; clear HO171; clear HB; have HO161 := n0_; have HO165 := n1_; have HO168 := n2_; have HO171 := n3_; have HO175 := n4_; have HB := n5_; clear n0_ n1_ n2_ n3_ n4_ n5_; (try clear hb); (try clear hb2); (try clear hk); (try clear hi); (try clear ho0)) | ((with_reducible refine gate_dst (N := 22) rfl ?_); (try (refine gate_guard (by rfl) ?_; dsimp only)); refine Kd.R_lit (Kd.int .i64) _ 3 ?hg (N := 22) ?hd (xs := ([1, 1, 3, 2, 5, 5] : List Int)) (inner := [.int .i64 1, .int .i64 1, .int .i64 3, .int .i64 2, .int .i64 5, .int .i64 5]) (ok := fun _ => True) (okp := fun _ => True) ?hr ?hp (fun _ hk => hk) trivial (Below.refl _ _) (Nat.le_refl _) (by simp) ?_; (case hd => rfl); (case hg => rfl); (case hr => first | (go_simp; done) | (go_simp; rfl)); (case hp => exact (Reps.one (show Kd.M (Kd.int .i64) _ _ _ 1 [.int .i64 1] from rfl) (Reps.one (show Kd.M (Kd.int .i64) _ _ _ 1 [.int .i64 1] from rfl) (Reps.one (show Kd.M (Kd.int .i64) _ _ _ 3 [.int .i64 3] from rfl) (Reps.one (show Kd.M (Kd.int .i64) _ _ _ 2 [.int .i64 2] from rfl) (Reps.one (show Kd.M (Kd.int .i64) _ _ _ 5 [.int .i64 5] from rfl) (Reps.one (show Kd.M (Kd.int .i64) _ _ _ 5 [.int .i64 5] from rfl) (Reps.none _ _)))))))); intro v177 w106 ho107 hb hg_ hnew_; clear hg_ hnew_; (first | rw [← Ny176.out] at ho107 | (simp only [Int.reduceToNat] at ho107; rw [← Ny176.out] at ho107)); have n0_ := Aside0.mk (Kd.R_below (lf HO161.out) hb); have n1_ := Aside0.mk (Kd.R_below (lf HO165.out) hb); have n2_ := Aside0.mk (Kd.R_elder' (lf HO168.out) (Kd.R_base ho107) hb); have n3_ := Aside0.mk (Kd.R_below (lf HO171.out) hb); have n4_ := Aside0.mk (Kd.Q_below (by (with_reducible repeat (first | apply Kd.Q_alloc | apply Kd.Q_drewN | apply Kd.Q_drew)); exact HO175.out) hb); have n5_ := Aside0.mk (Kd.R_lower (Kd.R_new' ho107 (Kd.R_lt (lf HO168.out))) (below_size (by repeat (first | (with_reducible first | exact HB.out | apply below_alloc | apply pw_below_drewN | apply below_drew1) | exact HB.out)))); have n6_ := Aside0.mk (below_step (by repeat (first | (with_reducible first | exact HB.out | apply below_alloc | apply pw_below_drewN | apply below_drew1) | exact HB.out)) hb); clear HO161; clear HO165; clear HO168; clear HO171; clear HO175; clear HB; have HO161 := n0_; have HO165 := n1_; have HO168 := n2_; have HO171 := n3_; have HO175 := n4_; have HO178 := n5_; have HB := n6_; clear n0_ n1_ n2_ n3_ n4_ n5_ n6_; clear hb ho107; obtain ⟨Ao108, co108, eo108⟩ := Kd.R_slice HO165.out; subst eo108; obtain ⟨Ao109, co109, eo109⟩ := Kd.R_slice HO178.out; subst eo109) | ((with_reducible refine gate_callee (f := 44) rfl ?_); refine goesL_ (some 23) rfl rfl Try.func44 (by kernel_rfl) rfl #[.slice Ao108 t162.length co108, .int .i64 t163, .slice Ao109 y176.length co109] rfl (by (try simp only [List.map_toArray, List.map_cons, List.map_nil]); first | done | rfl | (simp only [List.length_drop, List.length_take]; rfl)) ?_; (with_reducible refine (tributarylaw07_is.calls k _ _ t162 t163 _ _ y176 true _ ?side1 ?side2 ?side3 ?side4 A8.out).mono ?_); (case side1 => repeat (first | exact (Kd.R_reads' HO165.out).2.2 | (with_reducible refine Kd.C_alloc ?_ _) | (with_reducible refine Kd.C_drewN ?_ _) | (with_reducible refine Kd.C_drew ?_))); (case side2 => exact (Kd.R_reads' HO165.out).2.1); (case side3 => repeat (first | exact (Kd.R_reads' HO178.out).2.2 | (with_reducible refine Kd.C_alloc ?_ _) | (with_reducible refine Kd.C_drewN ?_ _) | (with_reducible refine Kd.C_drew ?_))); (case side4 => exact (Kd.R_reads' HO178.out).2.1); rintro e w110 ⟨rfl, hb⟩; refine ⟨_, rfl, ?_⟩; have n0_ := Aside0.mk (Kd.R_below (lf HO161.out) hb); have n1_ := Aside0.mk (Kd.R_below (lf HO165.out) hb); have n2_ := Aside0.mk (Kd.R_below (lf HO168.out) hb); have n3_ := Aside0.mk (Kd.R_below (lf HO171.out) hb); have n4_ := Aside0.mk (Kd.Q_below (by (with_reducible repeat (first | apply Kd.Q_alloc | apply Kd.Q_drewN | apply Kd.Q_drew)); exact HO175.out) hb); have n5_ := Aside0.mk (Kd.R_below (lf HO178.out) hb); have n6_ := Aside0.mk (below_step (by repeat (first | (with_reducible first | exact HB.out | apply below_alloc | apply pw_below_drewN | apply below_drew1) | exact HB.out)) hb); clear HO161; clear HO165; clear HO168; clear HO171; clear HO175; clear HO178; clear HB; have HO161 := n0_; have HO165 := n1_; have HO168 := n2_; have HO171 := n3_; have HO175 := n4_; have HO178 := n5_; have HB := n6_; clear n0_ n1_ n2_ n3_ n4_ n5_ n6_; (try clear hb); (try clear hb2); (try clear hk); (try clear hi)) | (go_at_call 26; (with_reducible refine (past_Count.calls k _ _ t162 t180 _ ?side1 ?side2 A10.out).mono ?_); (case side1 => repeat (first | exact (Kd.R_reads' HO165.out).2.2 | (with_reducible refine Kd.C_alloc ?_ _) | (with_reducible refine Kd.C_drewN ?_ _) | (with_reducible refine Kd.C_drew ?_))); (case side2 => exact (Kd.R_reads' HO165.out).2.1); rintro e w111 ⟨rfl, hb⟩; have n0_ := Aside0.mk (Kd.R_below (lf HO161.out) hb); have n1_ := Aside0.mk (Kd.R_below (lf HO165.out) hb); have n2_ := Aside0.mk (Kd.R_below (lf HO168.out) hb); have n3_ := Aside0.mk (Kd.R_below (lf HO171.out) hb); have n4_ := Aside0.mk (Kd.Q_below (by (with_reducible repeat (first | apply Kd.Q_alloc | apply Kd.Q_drewN | apply Kd.Q_drew)); exact HO175.out) hb); have n5_ := Aside0.mk (Kd.R_below (lf HO178.out) hb); have n6_ := Aside0.mk (below_step (by repeat (first | (with_reducible first | exact HB.out | apply below_alloc | apply pw_below_drewN | apply below_drew1) | exact HB.out)) hb); clear HO161; clear HO165; clear HO168; clear HO171; clear HO175; clear HO178; clear HB; have HO161 := n0_; have HO165 := n1_; have HO168 := n2_; have HO171 := n3_; have HO175 := n4_; have HO178 := n5_; have HB := n6_; clear n0_ n1_ n2_ n3_ n4_ n5_ n6_; (try clear hb); (try clear hb2); (try clear hk); (try clear hi)) | (go_at_call 28; (with_reducible refine (past_Last.calls k _ _ t162 1 t181 _ ?side1 ?side2 A12.out).mono ?_); (case side1 => repeat (first | exact (Kd.R_reads' HO165.out).2.2 | (with_reducible refine Kd.C_alloc ?_ _) | (with_reducible refine Kd.C_drewN ?_ _) | (with_reducible refine Kd.C_drew ?_))); (case side2 => exact (Kd.R_reads' HO165.out).2.1); rintro e w112 ⟨rfl, hb⟩; have n0_ := Aside0.mk (Kd.R_below (lf HO161.out) hb); have n1_ := Aside0.mk (Kd.R_below (lf HO165.out) hb); have n2_ := Aside0.mk (Kd.R_below (lf HO168.out) hb); have n3_ := Aside0.mk (Kd.R_below (lf HO171.out) hb); have n4_ := Aside0.mk (Kd.Q_below (by (with_reducible repeat (first | apply Kd.Q_alloc | apply Kd.Q_drewN | apply Kd.Q_drew)); exact HO175.out) hb); have n5_ := Aside0.mk (Kd.R_below (lf HO178.out) hb); have n6_ := Aside0.mk (below_step (by repeat (first | (with_reducible first | exact HB.out | apply below_alloc | apply pw_below_drewN | apply below_drew1) | exact HB.out)) hb); clear HO161; clear HO165; clear HO168; clear HO171; clear HO175; clear HO178; clear HB; have HO161 := n0_; have HO165 := n1_; have HO168 := n2_; have HO171 := n3_; have HO175 := n4_; have HO178 := n5_; have HB := n6_; clear n0_ n1_ n2_ n3_ n4_ n5_ n6_; (try clear hb); (try clear hb2); (try clear hk); (try clear hi)))
        go_ret
        exact ⟨by first | rfl | (simp [errW_none, errW_some] <;> rfl) | (simp [*, errW_none, errW_some] <;> rfl), by repeat (first | (with_reducible first | exact HB.out | apply below_alloc | apply pw_below_drewN | apply below_drew1) | exact HB.out)⟩
    · rw [if_neg c11] at H
      have c11b0 : (t180 == 4) = false := beq_eq_false_iff_ne.mpr c11
      have c11b1 : (t180 != 4) = true := bne_iff_ne.mpr c11
      obtain rfl := Option.some.inj H
      go_enter Try.func10, Try.ntmps10
      go_wp2_with (first | ((with_reducible refine gate_callee (f := 42) rfl ?_); refine goesL_ (some 6) rfl rfl Try.func42 (by kernel_rfl) rfl #[.int .i64 1, .int .i64 3] rfl (by (try simp only [List.map_toArray, List.map_cons, List.map_nil]); first | done | rfl | (simp only [List.length_drop, List.length_take]; rfl)) ?_; (with_reducible refine (tributarylaw07_at.calls 1 3 t151 t152 _ A1.out).mono ?_); rintro e w113 ⟨rfl, hb⟩; refine ⟨_, rfl, ?_⟩; have n0_ := Aside0.mk (below_step (by repeat (first | (with_reducible first | exact HB.out | apply below_alloc | apply pw_below_drewN | apply below_drew1) | exact HB.out)) hb); clear HB; have HB := n0_; clear n0_; (try clear hb); (try clear hb2); (try clear hk); (try clear hi)) | ((with_reducible refine gate_callee (f := 42) rfl ?_); refine goesL_ (some 7) rfl rfl Try.func42 (by kernel_rfl) rfl #[.int .i64 1, .int .i64 1] rfl (by (try simp only [List.map_toArray, List.map_cons, List.map_nil]); first | done | rfl | (simp only [List.length_drop, List.length_take]; rfl)) ?_; (with_reducible refine (tributarylaw07_at.calls 1 1 t153 t154 _ A2.out).mono ?_); rintro e w114 ⟨rfl, hb⟩; refine ⟨_, rfl, ?_⟩; have n0_ := Aside0.mk (below_step (by repeat (first | (with_reducible first | exact HB.out | apply below_alloc | apply pw_below_drewN | apply below_drew1) | exact HB.out)) hb); clear HB; have HB := n0_; clear n0_; (try clear hb); (try clear hb2); (try clear hk); (try clear hi)) | ((with_reducible refine gate_callee (f := 42) rfl ?_); refine goesL_ (some 8) rfl rfl Try.func42 (by kernel_rfl) rfl #[.int .i64 1, .int .i64 2] rfl (by (try simp only [List.map_toArray, List.map_cons, List.map_nil]); first | done | rfl | (simp only [List.length_drop, List.length_take]; rfl)) ?_; (with_reducible refine (tributarylaw07_at.calls 1 2 t155 t156 _ A3.out).mono ?_); rintro e w115 ⟨rfl, hb⟩; refine ⟨_, rfl, ?_⟩; have n0_ := Aside0.mk (below_step (by repeat (first | (with_reducible first | exact HB.out | apply below_alloc | apply pw_below_drewN | apply below_drew1) | exact HB.out)) hb); clear HB; have HB := n0_; clear n0_; (try clear hb); (try clear hb2); (try clear hk); (try clear hi)) | ((with_reducible refine gate_callee (f := 42) rfl ?_); refine goesL_ (some 9) rfl rfl Try.func42 (by kernel_rfl) rfl #[.int .i64 2, .int .i64 5] rfl (by (try simp only [List.map_toArray, List.map_cons, List.map_nil]); first | done | rfl | (simp only [List.length_drop, List.length_take]; rfl)) ?_; (with_reducible refine (tributarylaw07_at.calls 2 5 t157 t158 _ A4.out).mono ?_); rintro e w116 ⟨rfl, hb⟩; refine ⟨_, rfl, ?_⟩; have n0_ := Aside0.mk (below_step (by repeat (first | (with_reducible first | exact HB.out | apply below_alloc | apply pw_below_drewN | apply below_drew1) | exact HB.out)) hb); clear HB; have HB := n0_; clear n0_; (try clear hb); (try clear hb2); (try clear hk); (try clear hi)) | ((with_reducible refine gate_dst (N := 10) rfl ?_); (try (refine gate_guard (by rfl) ?_; dsimp only)); refine Kd.R_lit k41 _ 41 ?hg (N := 10) ?hd (xs := ([(⟨t151, t152⟩ : S41), (⟨t153, t154⟩ : S41), (⟨t155, t156⟩ : S41), (⟨t157, t158⟩ : S41)] : List (S41))) (inner := [.int .i64 t151, .int .i64 t152, .int .i64 t153, .int .i64 t154, .int .i64 t155, .int .i64 t156, .int .i64 t157, .int .i64 t158]) (ok := fun _ => True) (okp := fun _ => True) ?hr ?hp (fun _ hk => hk) trivial (Below.refl _ _) (Nat.le_refl _) (by simp) ?_; (case hd => rfl); (case hg => rfl); (case hr => first | (go_simp; done) | (go_simp; rfl)); (case hp => exact (Reps.c2 (show Kd.M k41 _ _ _ (⟨t151, t152⟩ : S41) [.int .i64 t151, .int .i64 t152] from (k41_mkM _ _ _ (⟨t151, t152⟩ : S41) )) (Reps.c2 (show Kd.M k41 _ _ _ (⟨t153, t154⟩ : S41) [.int .i64 t153, .int .i64 t154] from (k41_mkM _ _ _ (⟨t153, t154⟩ : S41) )) (Reps.c2 (show Kd.M k41 _ _ _ (⟨t155, t156⟩ : S41) [.int .i64 t155, .int .i64 t156] from (k41_mkM _ _ _ (⟨t155, t156⟩ : S41) )) (Reps.c2 (show Kd.M k41 _ _ _ (⟨t157, t158⟩ : S41) [.int .i64 t157, .int .i64 t158] from (k41_mkM _ _ _ (⟨t157, t158⟩ : S41) )) (Reps.none _ _)))))); intro v160 w117 ho118 hb hg_ hnew_; clear hg_ hnew_; (first | rw [← Ny159.out] at ho118 | (simp only [Int.reduceToNat] at ho118; rw [← Ny159.out] at ho118)); have n0_ := Aside0.mk (Kd.R_lower ho118 (below_size (by repeat (first | (with_reducible first | exact HB.out | apply below_alloc | apply pw_below_drewN | apply below_drew1) | exact HB.out)))); have n1_ := Aside0.mk (below_step (by repeat (first | (with_reducible first | exact HB.out | apply below_alloc | apply pw_below_drewN | apply below_drew1) | exact HB.out)) hb); clear HB; have HO161 := n0_; have HB := n1_; clear n0_ n1_; clear hb ho118; obtain ⟨Ao119, co119, eo119⟩ := Kd.R_slice HO161.out; subst eo119) | ((with_reducible refine gate_callee (f := 31) rfl ?_); refine goesL_ (some 11) rfl rfl Try.func31 (by kernel_rfl) rfl #[.slice Ao119 y159.length co119] rfl (by (try simp only [List.map_toArray, List.map_cons, List.map_nil]); first | done | rfl | (simp only [List.length_drop, List.length_take]; rfl)) ?_; (with_reducible refine (past_Of.calls _ _ y159 t162 t163 _ ?side1 ?side2 A5.out).mono ?_); (case side1 => repeat (first | exact (Kd.R_reads' HO161.out).2.2 | (with_reducible refine Kd.C_alloc ?_ _) | (with_reducible refine Kd.C_drewN ?_ _) | (with_reducible refine Kd.C_drew ?_))); (case side2 => exact (Kd.R_reads' HO161.out).2.1); rintro e w120 ⟨v164, rfl, ho0, hb⟩; refine ⟨_, rfl, ?_⟩; have n0_ := Aside0.mk (Kd.R_below (lf HO161.out) hb); have n1_ := Aside0.mk (Kd.R_lower ho0 (below_size (by repeat (first | (with_reducible first | exact HB.out | apply below_alloc | apply pw_below_drewN | apply below_drew1) | exact HB.out)))); have n2_ := Aside0.mk (below_step (by repeat (first | (with_reducible first | exact HB.out | apply below_alloc | apply pw_below_drewN | apply below_drew1) | exact HB.out)) hb); clear HO161; clear HB; have HO161 := n0_; have HO165 := n1_; have HB := n2_; clear n0_ n1_ n2_; (try clear hb); (try clear hb2); (try clear hk); (try clear hi); (try clear ho0)) | ((with_reducible refine gate_dst (N := 15) rfl ?_); (try (refine gate_guard (by rfl) ?_; dsimp only)); refine Kd.R_lit (Kd.int .i64) _ 3 ?hg (N := 15) ?hd (xs := ([1, 1, 258] : List Int)) (inner := [.int .i64 1, .int .i64 1, .int .i64 258]) (ok := fun _ => True) (okp := fun _ => True) ?hr ?hp (fun _ hk => hk) trivial (Below.refl _ _) (Nat.le_refl _) (by simp) ?_; (case hd => rfl); (case hg => rfl); (case hr => first | (go_simp; done) | (go_simp; rfl)); (case hp => exact (Reps.one (show Kd.M (Kd.int .i64) _ _ _ 1 [.int .i64 1] from rfl) (Reps.one (show Kd.M (Kd.int .i64) _ _ _ 1 [.int .i64 1] from rfl) (Reps.one (show Kd.M (Kd.int .i64) _ _ _ 258 [.int .i64 258] from rfl) (Reps.none _ _))))); intro v167 w121 ho122 hb hg_ hnew_; clear hg_ hnew_; (first | rw [← Ny166.out] at ho122 | (simp only [Int.reduceToNat] at ho122; rw [← Ny166.out] at ho122)); have n0_ := Aside0.mk (Kd.R_below (lf HO161.out) hb); have n1_ := Aside0.mk (Kd.R_below (lf HO165.out) hb); have n2_ := Aside0.mk (Kd.R_lower ho122 (below_size (by repeat (first | (with_reducible first | exact HB.out | apply below_alloc | apply pw_below_drewN | apply below_drew1) | exact HB.out)))); have n3_ := Aside0.mk (below_step (by repeat (first | (with_reducible first | exact HB.out | apply below_alloc | apply pw_below_drewN | apply below_drew1) | exact HB.out)) hb); clear HO161; clear HO165; clear HB; have HO161 := n0_; have HO165 := n1_; have HO168 := n2_; have HB := n3_; clear n0_ n1_ n2_ n3_; clear hb ho122; obtain ⟨Ao123, co123, eo123⟩ := Kd.R_slice HO168.out; subst eo123) | ((with_reducible refine gate_callee (f := 43) rfl ?_); refine goesL_ (some 16) rfl rfl Try.func43 (by kernel_rfl) rfl #[.slice Ao123 y166.length co123] rfl (by (try simp only [List.map_toArray, List.map_cons, List.map_nil]); first | done | rfl | (simp only [List.length_drop, List.length_take]; rfl)) ?_; (with_reducible refine (tributarylaw07_of.calls k _ _ y166 t169 _ ?side1 ?side2 A6.out).mono ?_); (case side1 => repeat (first | exact (Kd.R_reads' HO168.out).2.2 | (with_reducible refine Kd.C_alloc ?_ _) | (with_reducible refine Kd.C_drewN ?_ _) | (with_reducible refine Kd.C_drew ?_))); (case side2 => exact (Kd.R_reads' HO168.out).2.1); rintro e w124 ⟨v170, rfl, ho0, hb⟩; refine ⟨_, rfl, ?_⟩; have n0_ := Aside0.mk (Kd.R_below (lf HO161.out) hb); have n1_ := Aside0.mk (Kd.R_elder' (lf HO165.out) (Kd.R_base ho0) hb); have n2_ := Aside0.mk (Kd.R_below (lf HO168.out) hb); have n3_ := Aside0.mk (Kd.R_lower (Kd.R_new' ho0 (Kd.R_lt (lf HO165.out))) (below_size (by repeat (first | (with_reducible first | exact HB.out | apply below_alloc | apply pw_below_drewN | apply below_drew1) | exact HB.out)))); have n4_ := Aside0.mk (below_step (by repeat (first | (with_reducible first | exact HB.out | apply below_alloc | apply pw_below_drewN | apply below_drew1) | exact HB.out)) hb); clear HO161; clear HO165; clear HO168; clear HB; have HO161 := n0_; have HO165 := n1_; have HO168 := n2_; have HO171 := n3_; have HB := n4_; clear n0_ n1_ n2_ n3_ n4_; (try clear hb); (try clear hb2); (try clear hk); (try clear hi); (try clear ho0); obtain ⟨Ao125, co125, eo125⟩ := Kd.R_slice HO171.out; subst eo125) | ((with_reducible refine gate_callee (f := 13) rfl ?_); refine goesL_ (some 17) rfl rfl Try.func13 (by kernel_rfl) rfl #[.slice Ao125 t169.length co125] rfl (by (try simp only [List.map_toArray, List.map_cons, List.map_nil]); first | done | rfl | (simp only [List.length_drop, List.length_take]; rfl)) ?_; (with_reducible refine (past_Bytes.calls k _ _ t169 t172 t173 _ ?side1 ?side2 A7.out).mono ?_); (case side1 => repeat (first | exact (Kd.R_reads' HO171.out).2.2 | (with_reducible refine Kd.C_alloc ?_ _) | (with_reducible refine Kd.C_drewN ?_ _) | (with_reducible refine Kd.C_drew ?_))); (case side2 => exact (Kd.R_reads' HO171.out).2.1); rintro e w126 ⟨v174, rfl, ho0, hb⟩; refine ⟨_, rfl, ?_⟩; have n0_ := Aside0.mk (Kd.R_below (lf HO161.out) hb); have n1_ := Aside0.mk (Kd.R_below (lf HO165.out) hb); have n2_ := Aside0.mk (Kd.R_below (lf HO168.out) hb); have n3_ := Aside0.mk (Kd.R_below (lf HO171.out) hb); have n4_ := Aside0.mk (Kd.Q_lower ho0 (below_size (by repeat (first | (with_reducible first | exact HB.out | apply below_alloc | apply pw_below_drewN | apply below_drew1) | exact HB.out)))); have n5_ := Aside0.mk (below_step (by repeat (first | (with_reducible first | exact HB.out | apply below_alloc | apply pw_below_drewN | apply below_drew1) | exact HB.out)) hb); clear HO161; clear HO165; clear HO168; clear HO171; clear HB; have HO161 := n0_; have HO165 := n1_; have HO168 := n2_; have HO171 := n3_; have HO175 := n4_; have HB := n5_; clear n0_ n1_ n2_ n3_ n4_ n5_; (try clear hb); (try clear hb2); (try clear hk); (try clear hi); (try clear ho0)) | ((with_reducible refine gate_dst (N := 22) rfl ?_); (try (refine gate_guard (by rfl) ?_; dsimp only)); refine Kd.R_lit (Kd.int .i64) _ 3 ?hg (N := 22) ?hd (xs := ([1, 1, 3, 2, 5, 5] : List Int)) (inner := [.int .i64 1, .int .i64 1, .int .i64 3, .int .i64 2, .int .i64 5, .int .i64 5]) (ok := fun _ => True) (okp := fun _ => True) ?hr ?hp (fun _ hk => hk) trivial (Below.refl _ _) (Nat.le_refl _) (by simp) ?_; (case hd => rfl); (case hg => rfl); (case hr => first | (go_simp; done) | (go_simp; rfl)); (case hp => exact (Reps.one (show Kd.M (Kd.int .i64) _ _ _ 1 [.int .i64 1] from rfl) (Reps.one (show Kd.M (Kd.int .i64) _ _ _ 1 [.int .i64 1] from rfl) (Reps.one (show Kd.M (Kd.int .i64) _ _ _ 3 [.int .i64 3] from rfl) (Reps.one (show Kd.M (Kd.int .i64) _ _ _ 2 [.int .i64 2] from rfl) (Reps.one (show Kd.M (Kd.int .i64) _ _ _ 5 [.int .i64 5] from rfl) (Reps.one (show Kd.M (Kd.int .i64) _ _ _ 5 [.int .i64 5] from rfl) (Reps.none _ _)))))))); intro v177 w127 ho128 hb hg_ hnew_; clear hg_ hnew_; (first | rw [← Ny176.out] at ho128 | (simp only [Int.reduceToNat] at ho128; rw [← Ny176.out] at ho128)); have n0_ := Aside0.mk (Kd.R_below (lf HO161.out) hb); have n1_ := Aside0.mk (Kd.R_below (lf HO165.out) hb); have n2_ := Aside0.mk (Kd.R_elder' (lf HO168.out) (Kd.R_base ho128) hb); have n3_ := Aside0.mk (Kd.R_below (lf HO171.out) hb); have n4_ := Aside0.mk (Kd.Q_below (by (with_reducible repeat (first | apply Kd.Q_alloc | apply Kd.Q_drewN | apply Kd.Q_drew)); exact HO175.out) hb); have n5_ := Aside0.mk (Kd.R_lower (Kd.R_new' ho128 (Kd.R_lt (lf HO168.out))) (below_size (by repeat (first | (with_reducible first | exact HB.out | apply below_alloc | apply pw_below_drewN | apply below_drew1) | exact HB.out)))); have n6_ := Aside0.mk (below_step (by repeat (first | (with_reducible first | exact HB.out | apply below_alloc | apply pw_below_drewN | apply below_drew1) | exact HB.out)) hb); clear HO161; clear HO165; clear HO168; clear HO171; clear HO175; clear HB; have HO161 := n0_; have HO165 := n1_; have HO168 := n2_; have HO171 := n3_; have HO175 := n4_; have HO178 := n5_; have HB := n6_; clear n0_ n1_ n2_ n3_ n4_ n5_ n6_; clear hb ho128; obtain ⟨Ao129, co129, eo129⟩ := Kd.R_slice HO165.out; subst eo129; obtain ⟨Ao130, co130, eo130⟩ := Kd.R_slice HO178.out; subst eo130) | ((with_reducible refine gate_callee (f := 44) rfl ?_); refine goesL_ (some 23) rfl rfl Try.func44 (by kernel_rfl) rfl #[.slice Ao129 t162.length co129, .int .i64 t163, .slice Ao130 y176.length co130] rfl (by (try simp only [List.map_toArray, List.map_cons, List.map_nil]); first | done | rfl | (simp only [List.length_drop, List.length_take]; rfl)) ?_; (with_reducible refine (tributarylaw07_is.calls k _ _ t162 t163 _ _ y176 true _ ?side1 ?side2 ?side3 ?side4 A8.out).mono ?_); (case side1 => repeat (first | exact (Kd.R_reads' HO165.out).2.2 | (with_reducible refine Kd.C_alloc ?_ _) | (with_reducible refine Kd.C_drewN ?_ _) | (with_reducible refine Kd.C_drew ?_))); (case side2 => exact (Kd.R_reads' HO165.out).2.1); (case side3 => repeat (first | exact (Kd.R_reads' HO178.out).2.2 | (with_reducible refine Kd.C_alloc ?_ _) | (with_reducible refine Kd.C_drewN ?_ _) | (with_reducible refine Kd.C_drew ?_))); (case side4 => exact (Kd.R_reads' HO178.out).2.1); rintro e w131 ⟨rfl, hb⟩; refine ⟨_, rfl, ?_⟩; have n0_ := Aside0.mk (Kd.R_below (lf HO161.out) hb); have n1_ := Aside0.mk (Kd.R_below (lf HO165.out) hb); have n2_ := Aside0.mk (Kd.R_below (lf HO168.out) hb); have n3_ := Aside0.mk (Kd.R_below (lf HO171.out) hb); have n4_ := Aside0.mk (Kd.Q_below (by (with_reducible repeat (first | apply Kd.Q_alloc | apply Kd.Q_drewN | apply Kd.Q_drew)); exact HO175.out) hb); have n5_ := Aside0.mk (Kd.R_below (lf HO178.out) hb); have n6_ := Aside0.mk (below_step (by repeat (first | (with_reducible first | exact HB.out | apply below_alloc | apply pw_below_drewN | apply below_drew1) | exact HB.out)) hb); clear HO161; clear HO165; clear HO168; clear HO171; clear HO175; clear HO178; clear HB; have HO161 := n0_; have HO165 := n1_; have HO168 := n2_; have HO171 := n3_; have HO175 := n4_; have HO178 := n5_; have HB := n6_; clear n0_ n1_ n2_ n3_ n4_ n5_ n6_; (try clear hb); (try clear hb2); (try clear hk); (try clear hi)) | (go_at_call 26; (with_reducible refine (past_Count.calls k _ _ t162 t180 _ ?side1 ?side2 A10.out).mono ?_); (case side1 => repeat (first | exact (Kd.R_reads' HO165.out).2.2 | (with_reducible refine Kd.C_alloc ?_ _) | (with_reducible refine Kd.C_drewN ?_ _) | (with_reducible refine Kd.C_drew ?_))); (case side2 => exact (Kd.R_reads' HO165.out).2.1); rintro e w132 ⟨rfl, hb⟩; have n0_ := Aside0.mk (Kd.R_below (lf HO161.out) hb); have n1_ := Aside0.mk (Kd.R_below (lf HO165.out) hb); have n2_ := Aside0.mk (Kd.R_below (lf HO168.out) hb); have n3_ := Aside0.mk (Kd.R_below (lf HO171.out) hb); have n4_ := Aside0.mk (Kd.Q_below (by (with_reducible repeat (first | apply Kd.Q_alloc | apply Kd.Q_drewN | apply Kd.Q_drew)); exact HO175.out) hb); have n5_ := Aside0.mk (Kd.R_below (lf HO178.out) hb); have n6_ := Aside0.mk (below_step (by repeat (first | (with_reducible first | exact HB.out | apply below_alloc | apply pw_below_drewN | apply below_drew1) | exact HB.out)) hb); clear HO161; clear HO165; clear HO168; clear HO171; clear HO175; clear HO178; clear HB; have HO161 := n0_; have HO165 := n1_; have HO168 := n2_; have HO171 := n3_; have HO175 := n4_; have HO178 := n5_; have HB := n6_; clear n0_ n1_ n2_ n3_ n4_ n5_ n6_; (try clear hb); (try clear hb2); (try clear hk); (try clear hi)))
      go_ret
      exact ⟨by first | rfl | (simp [errW_none, errW_some] <;> rfl) | (simp [*, errW_none, errW_some] <;> rfl), by repeat (first | (with_reducible first | exact HB.out | apply below_alloc | apply pw_below_drewN | apply below_drew1) | exact HB.out)⟩
  · replace c9 := Bool.eq_false_iff.mpr c9
    subst c9
    have H1 : (some false) = some r := by rw [if_neg (show ¬ (false = true) by decide)] at H; exact H
    clear H
    have H := H1
    clear H1
    obtain rfl := Option.some.inj H
    go_enter Try.func10, Try.ntmps10
    go_wp2_with (first | ((with_reducible refine gate_callee (f := 42) rfl ?_); refine goesL_ (some 6) rfl rfl Try.func42 (by kernel_rfl) rfl #[.int .i64 1, .int .i64 3] rfl (by (try simp only [List.map_toArray, List.map_cons, List.map_nil]); first | done | rfl | (simp only [List.length_drop, List.length_take]; rfl)) ?_; (with_reducible refine (tributarylaw07_at.calls 1 3 t151 t152 _ A1.out).mono ?_); rintro e w133 ⟨rfl, hb⟩; refine ⟨_, rfl, ?_⟩; have n0_ := Aside0.mk (below_step (by repeat (first | (with_reducible first | exact HB.out | apply below_alloc | apply pw_below_drewN | apply below_drew1) | exact HB.out)) hb); clear HB; have HB := n0_; clear n0_; (try clear hb); (try clear hb2); (try clear hk); (try clear hi)) | ((with_reducible refine gate_callee (f := 42) rfl ?_); refine goesL_ (some 7) rfl rfl Try.func42 (by kernel_rfl) rfl #[.int .i64 1, .int .i64 1] rfl (by (try simp only [List.map_toArray, List.map_cons, List.map_nil]); first | done | rfl | (simp only [List.length_drop, List.length_take]; rfl)) ?_; (with_reducible refine (tributarylaw07_at.calls 1 1 t153 t154 _ A2.out).mono ?_); rintro e w134 ⟨rfl, hb⟩; refine ⟨_, rfl, ?_⟩; have n0_ := Aside0.mk (below_step (by repeat (first | (with_reducible first | exact HB.out | apply below_alloc | apply pw_below_drewN | apply below_drew1) | exact HB.out)) hb); clear HB; have HB := n0_; clear n0_; (try clear hb); (try clear hb2); (try clear hk); (try clear hi)) | ((with_reducible refine gate_callee (f := 42) rfl ?_); refine goesL_ (some 8) rfl rfl Try.func42 (by kernel_rfl) rfl #[.int .i64 1, .int .i64 2] rfl (by (try simp only [List.map_toArray, List.map_cons, List.map_nil]); first | done | rfl | (simp only [List.length_drop, List.length_take]; rfl)) ?_; (with_reducible refine (tributarylaw07_at.calls 1 2 t155 t156 _ A3.out).mono ?_); rintro e w135 ⟨rfl, hb⟩; refine ⟨_, rfl, ?_⟩; have n0_ := Aside0.mk (below_step (by repeat (first | (with_reducible first | exact HB.out | apply below_alloc | apply pw_below_drewN | apply below_drew1) | exact HB.out)) hb); clear HB; have HB := n0_; clear n0_; (try clear hb); (try clear hb2); (try clear hk); (try clear hi)) | ((with_reducible refine gate_callee (f := 42) rfl ?_); refine goesL_ (some 9) rfl rfl Try.func42 (by kernel_rfl) rfl #[.int .i64 2, .int .i64 5] rfl (by (try simp only [List.map_toArray, List.map_cons, List.map_nil]); first | done | rfl | (simp only [List.length_drop, List.length_take]; rfl)) ?_; (with_reducible refine (tributarylaw07_at.calls 2 5 t157 t158 _ A4.out).mono ?_); rintro e w136 ⟨rfl, hb⟩; refine ⟨_, rfl, ?_⟩; have n0_ := Aside0.mk (below_step (by repeat (first | (with_reducible first | exact HB.out | apply below_alloc | apply pw_below_drewN | apply below_drew1) | exact HB.out)) hb); clear HB; have HB := n0_; clear n0_; (try clear hb); (try clear hb2); (try clear hk); (try clear hi)) | ((with_reducible refine gate_dst (N := 10) rfl ?_); (try (refine gate_guard (by rfl) ?_; dsimp only)); refine Kd.R_lit k41 _ 41 ?hg (N := 10) ?hd (xs := ([(⟨t151, t152⟩ : S41), (⟨t153, t154⟩ : S41), (⟨t155, t156⟩ : S41), (⟨t157, t158⟩ : S41)] : List (S41))) (inner := [.int .i64 t151, .int .i64 t152, .int .i64 t153, .int .i64 t154, .int .i64 t155, .int .i64 t156, .int .i64 t157, .int .i64 t158]) (ok := fun _ => True) (okp := fun _ => True) ?hr ?hp (fun _ hk => hk) trivial (Below.refl _ _) (Nat.le_refl _) (by simp) ?_; (case hd => rfl); (case hg => rfl); (case hr => first | (go_simp; done) | (go_simp; rfl)); (case hp => exact (Reps.c2 (show Kd.M k41 _ _ _ (⟨t151, t152⟩ : S41) [.int .i64 t151, .int .i64 t152] from (k41_mkM _ _ _ (⟨t151, t152⟩ : S41) )) (Reps.c2 (show Kd.M k41 _ _ _ (⟨t153, t154⟩ : S41) [.int .i64 t153, .int .i64 t154] from (k41_mkM _ _ _ (⟨t153, t154⟩ : S41) )) (Reps.c2 (show Kd.M k41 _ _ _ (⟨t155, t156⟩ : S41) [.int .i64 t155, .int .i64 t156] from (k41_mkM _ _ _ (⟨t155, t156⟩ : S41) )) (Reps.c2 (show Kd.M k41 _ _ _ (⟨t157, t158⟩ : S41) [.int .i64 t157, .int .i64 t158] from (k41_mkM _ _ _ (⟨t157, t158⟩ : S41) )) (Reps.none _ _)))))); intro v160 w137 ho138 hb hg_ hnew_; clear hg_ hnew_; (first | rw [← Ny159.out] at ho138 | (simp only [Int.reduceToNat] at ho138; rw [← Ny159.out] at ho138)); have n0_ := Aside0.mk (Kd.R_lower ho138 (below_size (by repeat (first | (with_reducible first | exact HB.out | apply below_alloc | apply pw_below_drewN | apply below_drew1) | exact HB.out)))); have n1_ := Aside0.mk (below_step (by repeat (first | (with_reducible first | exact HB.out | apply below_alloc | apply pw_below_drewN | apply below_drew1) | exact HB.out)) hb); clear HB; have HO161 := n0_; have HB := n1_; clear n0_ n1_; clear hb ho138; obtain ⟨Ao139, co139, eo139⟩ := Kd.R_slice HO161.out; subst eo139) | ((with_reducible refine gate_callee (f := 31) rfl ?_); refine goesL_ (some 11) rfl rfl Try.func31 (by kernel_rfl) rfl #[.slice Ao139 y159.length co139] rfl (by (try simp only [List.map_toArray, List.map_cons, List.map_nil]); first | done | rfl | (simp only [List.length_drop, List.length_take]; rfl)) ?_; (with_reducible refine (past_Of.calls _ _ y159 t162 t163 _ ?side1 ?side2 A5.out).mono ?_); (case side1 => repeat (first | exact (Kd.R_reads' HO161.out).2.2 | (with_reducible refine Kd.C_alloc ?_ _) | (with_reducible refine Kd.C_drewN ?_ _) | (with_reducible refine Kd.C_drew ?_))); (case side2 => exact (Kd.R_reads' HO161.out).2.1); rintro e w140 ⟨v164, rfl, ho0, hb⟩; refine ⟨_, rfl, ?_⟩; have n0_ := Aside0.mk (Kd.R_below (lf HO161.out) hb); have n1_ := Aside0.mk (Kd.R_lower ho0 (below_size (by repeat (first | (with_reducible first | exact HB.out | apply below_alloc | apply pw_below_drewN | apply below_drew1) | exact HB.out)))); have n2_ := Aside0.mk (below_step (by repeat (first | (with_reducible first | exact HB.out | apply below_alloc | apply pw_below_drewN | apply below_drew1) | exact HB.out)) hb); clear HO161; clear HB; have HO161 := n0_; have HO165 := n1_; have HB := n2_; clear n0_ n1_ n2_; (try clear hb); (try clear hb2); (try clear hk); (try clear hi); (try clear ho0)) | ((with_reducible refine gate_dst (N := 15) rfl ?_); (try (refine gate_guard (by rfl) ?_; dsimp only)); refine Kd.R_lit (Kd.int .i64) _ 3 ?hg (N := 15) ?hd (xs := ([1, 1, 258] : List Int)) (inner := [.int .i64 1, .int .i64 1, .int .i64 258]) (ok := fun _ => True) (okp := fun _ => True) ?hr ?hp (fun _ hk => hk) trivial (Below.refl _ _) (Nat.le_refl _) (by simp) ?_; (case hd => rfl); (case hg => rfl); (case hr => first | (go_simp; done) | (go_simp; rfl)); (case hp => exact (Reps.one (show Kd.M (Kd.int .i64) _ _ _ 1 [.int .i64 1] from rfl) (Reps.one (show Kd.M (Kd.int .i64) _ _ _ 1 [.int .i64 1] from rfl) (Reps.one (show Kd.M (Kd.int .i64) _ _ _ 258 [.int .i64 258] from rfl) (Reps.none _ _))))); intro v167 w141 ho142 hb hg_ hnew_; clear hg_ hnew_; (first | rw [← Ny166.out] at ho142 | (simp only [Int.reduceToNat] at ho142; rw [← Ny166.out] at ho142)); have n0_ := Aside0.mk (Kd.R_below (lf HO161.out) hb); have n1_ := Aside0.mk (Kd.R_below (lf HO165.out) hb); have n2_ := Aside0.mk (Kd.R_lower ho142 (below_size (by repeat (first | (with_reducible first | exact HB.out | apply below_alloc | apply pw_below_drewN | apply below_drew1) | exact HB.out)))); have n3_ := Aside0.mk (below_step (by repeat (first | (with_reducible first | exact HB.out | apply below_alloc | apply pw_below_drewN | apply below_drew1) | exact HB.out)) hb); clear HO161; clear HO165; clear HB; have HO161 := n0_; have HO165 := n1_; have HO168 := n2_; have HB := n3_; clear n0_ n1_ n2_ n3_; clear hb ho142; obtain ⟨Ao143, co143, eo143⟩ := Kd.R_slice HO168.out; subst eo143) | ((with_reducible refine gate_callee (f := 43) rfl ?_); refine goesL_ (some 16) rfl rfl Try.func43 (by kernel_rfl) rfl #[.slice Ao143 y166.length co143] rfl (by (try simp only [List.map_toArray, List.map_cons, List.map_nil]); first | done | rfl | (simp only [List.length_drop, List.length_take]; rfl)) ?_; (with_reducible refine (tributarylaw07_of.calls k _ _ y166 t169 _ ?side1 ?side2 A6.out).mono ?_); (case side1 => repeat (first | exact (Kd.R_reads' HO168.out).2.2 | (with_reducible refine Kd.C_alloc ?_ _) | (with_reducible refine Kd.C_drewN ?_ _) | (with_reducible refine Kd.C_drew ?_))); (case side2 => exact (Kd.R_reads' HO168.out).2.1); rintro e w144 ⟨v170, rfl, ho0, hb⟩; refine ⟨_, rfl, ?_⟩; have n0_ := Aside0.mk (Kd.R_below (lf HO161.out) hb); have n1_ := Aside0.mk (Kd.R_elder' (lf HO165.out) (Kd.R_base ho0) hb); have n2_ := Aside0.mk (Kd.R_below (lf HO168.out) hb); have n3_ := Aside0.mk (Kd.R_lower (Kd.R_new' ho0 (Kd.R_lt (lf HO165.out))) (below_size (by repeat (first | (with_reducible first | exact HB.out | apply below_alloc | apply pw_below_drewN | apply below_drew1) | exact HB.out)))); have n4_ := Aside0.mk (below_step (by repeat (first | (with_reducible first | exact HB.out | apply below_alloc | apply pw_below_drewN | apply below_drew1) | exact HB.out)) hb); clear HO161; clear HO165; clear HO168; clear HB; have HO161 := n0_; have HO165 := n1_; have HO168 := n2_; have HO171 := n3_; have HB := n4_; clear n0_ n1_ n2_ n3_ n4_; (try clear hb); (try clear hb2); (try clear hk); (try clear hi); (try clear ho0); obtain ⟨Ao145, co145, eo145⟩ := Kd.R_slice HO171.out; subst eo145) | ((with_reducible refine gate_callee (f := 13) rfl ?_); refine goesL_ (some 17) rfl rfl Try.func13 (by kernel_rfl) rfl #[.slice Ao145 t169.length co145] rfl (by (try simp only [List.map_toArray, List.map_cons, List.map_nil]); first | done | rfl | (simp only [List.length_drop, List.length_take]; rfl)) ?_; (with_reducible refine (past_Bytes.calls k _ _ t169 t172 t173 _ ?side1 ?side2 A7.out).mono ?_); (case side1 => repeat (first | exact (Kd.R_reads' HO171.out).2.2 | (with_reducible refine Kd.C_alloc ?_ _) | (with_reducible refine Kd.C_drewN ?_ _) | (with_reducible refine Kd.C_drew ?_))); (case side2 => exact (Kd.R_reads' HO171.out).2.1); rintro e w146 ⟨v174, rfl, ho0, hb⟩; refine ⟨_, rfl, ?_⟩; have n0_ := Aside0.mk (Kd.R_below (lf HO161.out) hb); have n1_ := Aside0.mk (Kd.R_below (lf HO165.out) hb); have n2_ := Aside0.mk (Kd.R_below (lf HO168.out) hb); have n3_ := Aside0.mk (Kd.R_below (lf HO171.out) hb); have n4_ := Aside0.mk (Kd.Q_lower ho0 (below_size (by repeat (first | (with_reducible first | exact HB.out | apply below_alloc | apply pw_below_drewN | apply below_drew1) | exact HB.out)))); have n5_ := Aside0.mk (below_step (by repeat (first | (with_reducible first | exact HB.out | apply below_alloc | apply pw_below_drewN | apply below_drew1) | exact HB.out)) hb); clear HO161; clear HO165; clear HO168; clear HO171; clear HB; have HO161 := n0_; have HO165 := n1_; have HO168 := n2_; have HO171 := n3_; have HO175 := n4_; have HB := n5_; clear n0_ n1_ n2_ n3_ n4_ n5_; (try clear hb); (try clear hb2); (try clear hk); (try clear hi); (try clear ho0)) | ((with_reducible refine gate_dst (N := 22) rfl ?_); (try (refine gate_guard (by rfl) ?_; dsimp only)); refine Kd.R_lit (Kd.int .i64) _ 3 ?hg (N := 22) ?hd (xs := ([1, 1, 3, 2, 5, 5] : List Int)) (inner := [.int .i64 1, .int .i64 1, .int .i64 3, .int .i64 2, .int .i64 5, .int .i64 5]) (ok := fun _ => True) (okp := fun _ => True) ?hr ?hp (fun _ hk => hk) trivial (Below.refl _ _) (Nat.le_refl _) (by simp) ?_; (case hd => rfl); (case hg => rfl); (case hr => first | (go_simp; done) | (go_simp; rfl)); (case hp => exact (Reps.one (show Kd.M (Kd.int .i64) _ _ _ 1 [.int .i64 1] from rfl) (Reps.one (show Kd.M (Kd.int .i64) _ _ _ 1 [.int .i64 1] from rfl) (Reps.one (show Kd.M (Kd.int .i64) _ _ _ 3 [.int .i64 3] from rfl) (Reps.one (show Kd.M (Kd.int .i64) _ _ _ 2 [.int .i64 2] from rfl) (Reps.one (show Kd.M (Kd.int .i64) _ _ _ 5 [.int .i64 5] from rfl) (Reps.one (show Kd.M (Kd.int .i64) _ _ _ 5 [.int .i64 5] from rfl) (Reps.none _ _)))))))); intro v177 w147 ho148 hb hg_ hnew_; clear hg_ hnew_; (first | rw [← Ny176.out] at ho148 | (simp only [Int.reduceToNat] at ho148; rw [← Ny176.out] at ho148)); have n0_ := Aside0.mk (Kd.R_below (lf HO161.out) hb); have n1_ := Aside0.mk (Kd.R_below (lf HO165.out) hb); have n2_ := Aside0.mk (Kd.R_elder' (lf HO168.out) (Kd.R_base ho148) hb); have n3_ := Aside0.mk (Kd.R_below (lf HO171.out) hb); have n4_ := Aside0.mk (Kd.Q_below (by (with_reducible repeat (first | apply Kd.Q_alloc | apply Kd.Q_drewN | apply Kd.Q_drew)); exact HO175.out) hb); have n5_ := Aside0.mk (Kd.R_lower (Kd.R_new' ho148 (Kd.R_lt (lf HO168.out))) (below_size (by repeat (first | (with_reducible first | exact HB.out | apply below_alloc | apply pw_below_drewN | apply below_drew1) | exact HB.out)))); have n6_ := Aside0.mk (below_step (by repeat (first | (with_reducible first | exact HB.out | apply below_alloc | apply pw_below_drewN | apply below_drew1) | exact HB.out)) hb); clear HO161; clear HO165; clear HO168; clear HO171; clear HO175; clear HB; have HO161 := n0_; have HO165 := n1_; have HO168 := n2_; have HO171 := n3_; have HO175 := n4_; have HO178 := n5_; have HB := n6_; clear n0_ n1_ n2_ n3_ n4_ n5_ n6_; clear hb ho148; obtain ⟨Ao149, co149, eo149⟩ := Kd.R_slice HO165.out; subst eo149; obtain ⟨Ao150, co150, eo150⟩ := Kd.R_slice HO178.out; subst eo150) | ((with_reducible refine gate_callee (f := 44) rfl ?_); refine goesL_ (some 23) rfl rfl Try.func44 (by kernel_rfl) rfl #[.slice Ao149 t162.length co149, .int .i64 t163, .slice Ao150 y176.length co150] rfl (by (try simp only [List.map_toArray, List.map_cons, List.map_nil]); first | done | rfl | (simp only [List.length_drop, List.length_take]; rfl)) ?_; (with_reducible refine (tributarylaw07_is.calls k _ _ t162 t163 _ _ y176 false _ ?side1 ?side2 ?side3 ?side4 A8.out).mono ?_); (case side1 => repeat (first | exact (Kd.R_reads' HO165.out).2.2 | (with_reducible refine Kd.C_alloc ?_ _) | (with_reducible refine Kd.C_drewN ?_ _) | (with_reducible refine Kd.C_drew ?_))); (case side2 => exact (Kd.R_reads' HO165.out).2.1); (case side3 => repeat (first | exact (Kd.R_reads' HO178.out).2.2 | (with_reducible refine Kd.C_alloc ?_ _) | (with_reducible refine Kd.C_drewN ?_ _) | (with_reducible refine Kd.C_drew ?_))); (case side4 => exact (Kd.R_reads' HO178.out).2.1); rintro e w151 ⟨rfl, hb⟩; refine ⟨_, rfl, ?_⟩; have n0_ := Aside0.mk (Kd.R_below (lf HO161.out) hb); have n1_ := Aside0.mk (Kd.R_below (lf HO165.out) hb); have n2_ := Aside0.mk (Kd.R_below (lf HO168.out) hb); have n3_ := Aside0.mk (Kd.R_below (lf HO171.out) hb); have n4_ := Aside0.mk (Kd.Q_below (by (with_reducible repeat (first | apply Kd.Q_alloc | apply Kd.Q_drewN | apply Kd.Q_drew)); exact HO175.out) hb); have n5_ := Aside0.mk (Kd.R_below (lf HO178.out) hb); have n6_ := Aside0.mk (below_step (by repeat (first | (with_reducible first | exact HB.out | apply below_alloc | apply pw_below_drewN | apply below_drew1) | exact HB.out)) hb); clear HO161; clear HO165; clear HO168; clear HO171; clear HO175; clear HO178; clear HB; have HO161 := n0_; have HO165 := n1_; have HO168 := n2_; have HO171 := n3_; have HO175 := n4_; have HO178 := n5_; have HB := n6_; clear n0_ n1_ n2_ n3_ n4_ n5_ n6_; (try clear hb); (try clear hb2); (try clear hk); (try clear hi)))
    go_ret
    exact ⟨by first | rfl | (simp [errW_none, errW_some] <;> rfl) | (simp [*, errW_none, errW_some] <;> rfl), by repeat (first | (with_reducible first | exact HB.out | apply below_alloc | apply pw_below_drewN | apply below_drew1) | exact HB.out)⟩
end
end Go.Proofs.YtdelfhahbngcfaaX.P07
end
section
namespace Go.Proofs.YtdelfhahbngcfaaX.P07
open Go.RowKit Go.Shelf Go.Proofs.Ytdelfhahbngcfaa Go.Proofs.YtdelfhahbngcfaaW.PrintWords Go.Proofs.YtdelfhahbngcfaaW.PrintLast Go.Proofs.YtdelfhahbngcfaaW.PrintMore
set_option linter.unusedVariables false
set_option linter.unusedSimpArgs false
attribute [local go_sem] Oper.semAt_some
def o60 : S60 := ⟨-7, 7, -7⟩
theorem reps_flatS {α : Type} {R : α → List Value → Prop} {sz : Nat} (F : α → List Value) (hF : ∀ x, R x (F x)) (hl : ∀ x, (F x).length = sz) : ∀ l, Reps R sz l (l.flatMap F)
  | [] => Reps.none _ _
  | x :: t => Reps.front (hF x) (hl x) (reps_flatS F hF hl t) rfl
theorem lenS60 (n : Nat) (x : S60) : ((List.replicate n x).flatMap c60).length = n * 3 := by
  induction n with
  | zero => rfl
  | succ n ih => rw [List.replicate_succ, List.flatMap_cons, List.length_append, ih]; simp [c60]; omega
theorem RS60_rep {w : World} {base g n cap : Nat} {cur : Array Value} {ok : Nat → Prop} (hb : base ≤ g) (hg : w.heap[g]? = some (.cells cur 60 (0, 0))) (hn : n ≤ cap) (hc : cap ≤ maxLen) (hs : cur.size = cap * 3) (ht : cur.toList.take (n * 3) = (List.replicate n o60).flatMap c60) (hok : ok g) :
    Kd.R k60 60 w base ok (.slice (some ⟨g, 0, none⟩) n cap) (List.replicate n o60) := by
  refine ⟨fun k hk => by have e : g = k := by simpa [Value.ownBlock] using hk
                         rw [← e]; exact hok, (List.replicate n o60).flatMap c60, ?_, ?_⟩
  · have hl : (List.replicate n o60).length = n := by simp
    refine ⟨?_, .inr ⟨g, cap, cur, by rw [hl], hb, hg, by rw [hl]; exact hn, hc, hs, ?_⟩⟩
    · rw [hl]; exact lenS60 _ _
    · rw [hl]; exact ht
  · exact reps_flatS c60 (fun x => k60_mkM _ _ _ x) (fun _ => rfl) _
theorem repS_snoc (n : Nat) (x : S60) : (List.replicate (n + 1) x).flatMap c60 = (List.replicate n x).flatMap c60 ++ c60 x := by
  rw [List.replicate_succ', List.flatMap_append]
  simp
theorem set3S {α : Type} (L : List α) (m : Nat) (a b c : α) (h : m + 3 ≤ L.length) : (((L.set m a).set (m + 1) b).set (m + 2) c).take (m + 3) = L.take m ++ [a, b, c] := by
  obtain ⟨P, hP⟩ : ∃ P, P = L.take m := ⟨_, rfl⟩
  obtain ⟨D, hD⟩ : ∃ D, D = L.drop m := ⟨_, rfl⟩
  have hL : L = P ++ D := by rw [hP, hD, List.take_append_drop]
  have hp : P.length = m := by rw [hP]; simp; omega
  have hd : 3 ≤ D.length := by rw [hD]; simp; omega
  match D, hd with
  | x :: y :: z :: R, _ =>
    subst hL
    rw [← hP, ← hp]
    rw [List.set_append_right _ _ (by omega), Nat.sub_self, List.set_append_right _ _ (by omega), List.set_append_right _ _ (by omega)]
    simp [show P.length + 1 - P.length = 1 by omega, show P.length + 2 - P.length = 2 by omega, List.take_append]
    exact List.take_of_length_le (by omega)
theorem putS60 {cur : Array Value} {cap k : Nat} (hs : cur.size = cap * 3) (hk : k < cap) (ht : cur.toList.take (k * 3) = (List.replicate k o60).flatMap c60) :
    (((cur.setIfInBounds (k * 3) (.int .i64 (-7))).setIfInBounds (k * 3 + 1) (.int .i64 7)).setIfInBounds (k * 3 + 2) (.int .i64 (-7))).toList.take ((k + 1) * 3) = (List.replicate (k + 1) o60).flatMap c60 := by
  rw [repS_snoc, ← ht]
  simp only [Array.toList_setIfInBounds, show (k + 1) * 3 = k * 3 + 3 by omega]
  exact set3S _ _ _ _ _ (by simp; omega)
set_option maxRecDepth 100000 in
set_option maxHeartbeats 4000000 in
theorem overS_row (g n cap : Nat) (cur0 : Array Value) (w : World) (hg : w.heap[g]? = some (.cells cur0 60 (0, 0))) (hn : n ≤ cap) (hc : cap ≤ 9223372036854775807) (hs : cur0.size = cap * 3) :
    Calls Try.prog 20 #[.slice (some ⟨g, 0, none⟩) n cap] w fun e w' => e = .returned (.tuple #[]) ∧ (∃ cur : Array Value, w'.heap[g]? = some (.cells cur 60 (0, 0)) ∧ cur.size = cap * 3 ∧ cur.toList.take (cap * 3) = (List.replicate cap o60).flatMap c60) ∧ Ch (fun k => k = g) w w' := by
  have H0 := Lib.hid (show Blk w g 60 cur0 from hg); have HS := Lib.hid hs
  clear hg hs
  go_enter Try.func20, Try.ntmps20
  go_wp2
  go_loopw [3] (fun i wr => ∃ k : Nat, k ≤ cap ∧ i = .int .i64 k ∧ (∃ cur : Array Value, Hid (Blk wr g 60 cur ∧ cur.size = cap * 3 ∧ cur.toList.take (k * 3) = (List.replicate k o60).flatMap c60)) ∧ Hid (Ch (fun k => k = g) w wr)) (fun i _ => cap - (intOf i).toNat)
  case atStart => exact ⟨0, Nat.zero_le _, rfl, ⟨cur0, Lib.hid ⟨H0.out, HS.out, by simp⟩⟩, Lib.hid (Ch.refl _ _)⟩
  case round =>
    clear H0 HS
    obtain ⟨k, hk, rfl, ⟨cur, HC⟩, HCH⟩ := hrel
    by_cases hlt : k < cap
    · obtain ⟨hb, hs, ht⟩ := HC.out
      have q : ∀ j, j < 3 → ∃ u, wr.cell? ⟨g, k * 3 + j, none⟩ = some u := fun j hj => by
        have hlt : k * 3 + j < cur.size := by omega
        exact ⟨_, Ytdelfhahbngcfaa.blk_cell hb _ _ (Array.getElem?_eq_getElem hlt)⟩
      obtain ⟨u0, q0⟩ := q 0 (by omega)
      obtain ⟨u1, q1⟩ := q 1 (by omega)
      obtain ⟨u2, q2⟩ := q 2 (by omega)
      have f0 := Ytdelfhahbngcfaa.blk_thawed hb (k * 3)
      have f1 := Ytdelfhahbngcfaa.blk_thawed hb (k * 3 + 1)
      have f2 := Ytdelfhahbngcfaa.blk_thawed hb (k * 3 + 2)
      have hb1 := Ytdelfhahbngcfaa.blk_set (Ytdelfhahbngcfaa.blk_set (Ytdelfhahbngcfaa.blk_set hb (k * 3) (.int .i64 (-7))) (k * 3 + 1) (.int .i64 7)) (k * 3 + 2) (.int .i64 (-7))
      have HN := Lib.hid (show ∃ cur : Array Value, Hid (Blk (((wr.setCell ⟨g, k * 3, none⟩ (.int .i64 (-7))).setCell ⟨g, k * 3 + 1, none⟩ (.int .i64 7)).setCell ⟨g, k * 3 + 2, none⟩ (.int .i64 (-7))) g 60 cur ∧ cur.size = cap * 3 ∧ cur.toList.take ((k + 1) * 3) = (List.replicate (k + 1) o60).flatMap c60) from ⟨_, Lib.hid ⟨hb1, by simpa using hs, putS60 hs hlt ht⟩⟩)
      have HC1 := Lib.hid (ch_one (ch_one (ch_one HCH.out (k * 3) (.int .i64 (-7))) (k * 3 + 1) (.int .i64 7)) (k * 3 + 2) (.int .i64 (-7)))
      rw [Nat.add_zero] at q0
      clear q hb hs ht hb1 HC HCH
      go_wp2
      go_roundw
      case rel => exact ⟨k + 1, by omega, by go_num, HN.out, HC1⟩
      case measure => simp [intOf]; omega
    · obtain rfl : k = cap := by omega
      go_wp2
      exact bodyPost_end (results_none rfl _ _ _) rfl ⟨rfl, ⟨cur, HC.out⟩, HCH.out⟩
theorem overS_any (P0_ : Nat → Prop) (u9000_ : Value) (l0 : List S60) (w0 w : World) (hB : Below w0.heap.size w0 w) (ho0 : Kd.R k60 60 w w0.heap.size P0_ u9000_ l0) :
    Calls Try.prog 20 #[u9000_] w fun e w' => e = .returned (.tuple #[]) ∧ Kd.R k60 60 w' w0.heap.size (fun k_ => P0_ k_ ∨ w.heap.size ≤ k_) u9000_ (List.replicate l0.length o60) ∧ Below w0.heap.size w0 w' ∧ Kept w w' (fun k_ => P0_ k_) := by
  obtain ⟨inner, ho⟩ := Kd.R_own ho0
  rcases ho.2 with ⟨rfl, h0⟩ | ⟨g, cap, cur, rfl, h2, h3, h4, h5, h6, h7⟩
  · rw [h0]
    refine Calls.mono (R := fun e w' => e = .returned (.tuple #[]) ∧ w = w') ?_ (fun e w' ⟨h1, h2⟩ => by
      subst h2
      exact ⟨h1, Kd.R_nil _ _ _ _ _, hB, Kept.refl _ _⟩)
    clear ho0 ho h0
    go_enter Try.func20, Try.ntmps20
    go_wp2
    go_loop [3] (fun i => i = .int .i64 0) (fun _ => 0)
    case atStart => rfl
    case round =>
      subst hrel
      go_wp2
      exact bodyPost_end (results_none rfl _ _ _) rfl ⟨rfl, rfl⟩
  · have hP : P0_ g := ho0.1 g rfl
    refine (overS_row g l0.length cap cur w h3 h4 (by simpa only [maxLen] using h5) h6).mono ?_
    rintro e w' ⟨rfl, ⟨cur', k1, k2, k3⟩, hch⟩
    refine ⟨rfl, RS60_rep h2 k1 h4 h5 k2 ?_ (.inl hP), ?_, hch.size, fun i hi hn => hch.block i hi (fun e => hn (by rw [e]; exact hP))⟩
    · have := congrArg (List.take (l0.length * 3)) k3
      rw [List.take_take, Nat.min_eq_left (Nat.mul_le_mul_right _ h4)] at this
      rw [this, show cap = l0.length + (cap - l0.length) by omega, ← List.replicate_append_replicate, List.flatMap_append]
      exact List.take_left' (lenS60 _ _)
    · exact hB.trans (hch.below hB.size (fun k hk => by omega))
def tributarykit_OverSpans.f (l0 : List S60) : Option (List S60) := some (List.replicate l0.length o60)
theorem tributarykit_OverSpans.calls (P0_ : Nat → Prop) (u9000_ : Value) (l0 : List S60) (r : List S60) (w0 w : World) (hB : Below w0.heap.size w0 w) (ho0 : Kd.R k60 60 w w0.heap.size P0_ u9000_ l0) (h : tributarykit_OverSpans.f l0 = some r) :
    Calls Try.prog 20 #[u9000_] w fun e w' => e = .returned (.tuple #[]) ∧ Kd.R k60 60 w' w0.heap.size (fun k_ => P0_ k_ ∨ w.heap.size ≤ k_) u9000_ r ∧ Below w0.heap.size w0 w' ∧ Kept w w' (fun k_ => P0_ k_) := by
  cases h
  exact overS_any P0_ u9000_ l0 w0 w hB ho0
end Go.Proofs.YtdelfhahbngcfaaX.P07
end
section
namespace Go.Proofs.YtdelfhahbngcfaaX.P07
open Go.RowKit Go.Proofs.YtdelfhahbngcfaaW.PrintWords Go.Proofs.YtdelfhahbngcfaaW.PrintLast Go.Proofs.YtdelfhahbngcfaaW.PrintMore
set_option linter.unusedVariables false
set_option linter.unusedSimpArgs false
theorem chkV0 {l : List S60} (h : Chk l) : chkV l = 0 := by unfold chkV; exact if_pos h
theorem chkV2 {l : List S60} (h : ¬ Chk l) : chkV l = 2 := by unfold chkV; exact if_neg h
end Go.Proofs.YtdelfhahbngcfaaX.P07
end
section
namespace Go.Proofs.YtdelfhahbngcfaaX.P07
open Go.RowKit Go.Proofs.YtdelfhahbngcfaaW.PrintWords Go.Proofs.YtdelfhahbngcfaaW.PrintLast Go.Proofs.YtdelfhahbngcfaaW.PrintMore
set_option linter.unusedVariables false
set_option linter.unusedSimpArgs false
instance : DecidableEq S41 := fun a b => decidable_of_iff (a.f0 = b.f0 ∧ a.f1 = b.f1) (by cases a; cases b; simp)
theorem sorted_one : ∀ {a b : List S41}, a.Pairwise ltDot → b.Pairwise ltDot → (∀ x, x ∈ a ↔ x ∈ b) → a = b
  | [], [], _, _, _ => rfl
  | [], y :: b, _, _, h => by have := (h y).2 (List.mem_cons_self ..); cases this
  | x :: a, [], _, _, h => by have := (h x).1 (List.mem_cons_self ..); cases this
  | x :: a, y :: b, ha, hb, h => by
    rw [List.pairwise_cons] at ha hb
    have h1 : x = y := by
      rcases List.mem_cons.1 ((h x).1 (List.mem_cons_self ..)) with e | e
      · exact e
      · rcases List.mem_cons.1 ((h y).2 (List.mem_cons_self ..)) with e2 | e2
        · exact e2.symm
        · have := hb.1 x e; have := ha.1 y e2; unfold ltDot at *; omega
    subst h1
    congr 1
    refine sorted_one ha.2 hb.2 (fun z => ?_)
    constructor
    · intro hz
      rcases List.mem_cons.1 ((h z).1 (List.mem_cons_of_mem _ hz)) with e | e
      · have := ha.1 z hz; rw [e] at this; unfold ltDot at this; omega
      · exact e
    · intro hz
      rcases List.mem_cons.1 ((h z).2 (List.mem_cons_of_mem _ hz)) with e | e
      · have := hb.1 z hz; rw [e] at this; unfold ltDot at this; omega
      · exact e
theorem sort_is {l a : List S41} (h : a.Pairwise ltDot) (hm : ∀ x, x ∈ l ↔ x ∈ a) : sortV l = a := sorted_one (sort_law l).1 h (fun x => ((sort_law l).2 x).trans (hm x))
instance (x y : S41) : Decidable (ltDot x y) := by unfold ltDot; infer_instance
theorem of_awake : past_Of.f [⟨1, 3⟩, ⟨1, 1⟩, ⟨1, 2⟩, ⟨2, 5⟩] = some ([⟨1, 1, 3⟩, ⟨2, 5, 5⟩], 0) := by
  have e : sortV [⟨1, 3⟩, ⟨1, 1⟩, ⟨1, 2⟩, ⟨2, 5⟩] = [⟨1, 1⟩, ⟨1, 2⟩, ⟨1, 3⟩, ⟨2, 5⟩] := sort_is (by decide) (fun x => by simp only [List.mem_cons, List.not_mem_nil, or_false]; constructor <;> (intro h; rcases h with h | h | h | h <;> simp [h]))
  unfold past_Of.f ofV ofL
  rw [e]
  decide +kernel
set_option maxRecDepth 100000 in
theorem awake_ev : Ev (fun k => tributarylaw07_awake.f k) true := Ev.of (k := 40) tributarylaw07_awake.mono (by
  unfold tributarylaw07_awake.f
  rw [show tributarylaw07_at.f 1 3 = some (1, 3) from rfl, show tributarylaw07_at.f 1 1 = some (1, 1) from rfl, show tributarylaw07_at.f 1 2 = some (1, 2) from rfl, show tributarylaw07_at.f 2 5 = some (2, 5) from rfl]
  simp only [Option.bind_some]
  rw [of_awake]
  decide +kernel)
end Go.Proofs.YtdelfhahbngcfaaX.P07
end
section
namespace Go.Proofs.YtdelfhahbngcfaaX.P07
open Go.RowKit Go.Proofs.YtdelfhahbngcfaaW.PrintWords Go.Proofs.YtdelfhahbngcfaaW.PrintLast Go.Proofs.YtdelfhahbngcfaaW.PrintMore
set_option linter.unusedVariables false
set_option linter.unusedSimpArgs false
theorem shl_or (a c : Nat) (hc : c < 256) : (a * 256) ||| c = a * 256 + c := by
  have := Nat.two_pow_add_eq_or_of_lt (i := 8) (b := c) (by simpa using hc) a
  rw [show (2 : Nat) ^ 8 = 256 from rfl] at this
  rw [Nat.mul_comm a 256]
  exact this.symm
theorem or_i64 (a b : Nat) (ha : a < 9223372036854775808) (hb : b < 9223372036854775808) : bits .or .i64 (a : Int) (b : Int) = ((a ||| b : Nat) : Int) := by
  have h : a ||| b < 2 ^ 63 := Nat.or_lt_two_pow (by omega) (by omega)
  have h1 : (BitVec.ofInt 64 (a : Int)).toNat = a := by
    rw [BitVec.ofInt_natCast, BitVec.toNat_ofNat]; exact Nat.mod_eq_of_lt (by omega)
  have h2 : (BitVec.ofInt 64 (b : Int)).toNat = b := by
    rw [BitVec.ofInt_natCast, BitVec.toNat_ofNat]; exact Nat.mod_eq_of_lt (by omega)
  show IntKind.i64.wrap ((BitVec.ofInt 64 (a : Int) ||| BitVec.ofInt 64 (b : Int)).toNat : Int) = _
  rw [BitVec.toNat_or, h1, h2, IntKind.wrap_i64]
  omega
def isB (x : Int) : Prop := 0 ≤ x ∧ x < 256
theorem num_step {n c : Int} (hn : 0 ≤ n ∧ n < 4294967296) (hc : isB c) : numS n c = n * 256 + c := by
  unfold isB at hc
  obtain ⟨N, rfl⟩ : ∃ N : Nat, n = N := ⟨n.toNat, by omega⟩
  obtain ⟨C, rfl⟩ : ∃ C : Nat, c = C := ⟨c.toNat, by omega⟩
  unfold numS
  rw [w64 (a := (N : Int) * 256) (by omega), w64 (a := (C : Int)) (by omega), show (N : Int) * 256 = ((N * 256 : Nat) : Int) by omega, or_i64 _ _ (by omega) (by omega), shl_or N C (by omega)]
  omega
theorem num2 {b0 b1 : Int} (h0 : isB b0) (h1 : isB b1) : numV [b0, b1] = b0 * 256 + b1 := by
  have g0 := h0; have g1 := h1
  unfold isB at g0 g1
  show numS (numS 0 b0) b1 = _
  rw [num_step (n := 0) (by omega) h0, num_step (by omega) h1]
  omega
theorem num4 {b0 b1 b2 b3 : Int} (h0 : isB b0) (h1 : isB b1) (h2 : isB b2) (h3 : isB b3) : numV [b0, b1, b2, b3] = ((b0 * 256 + b1) * 256 + b2) * 256 + b3 := by
  have g0 := h0; have g1 := h1; have g2 := h2
  unfold isB at g0 g1 g2
  show numS (numS (numS (numS 0 b0) b1) b2) b3 = _
  rw [num_step (n := 0) (by omega) h0, num_step (by omega) h1, num_step (by omega) h2, num_step (by omega) h3]
  omega
theorem one_len (x : S60) : (oneB x).length = 9 := rfl
theorem flat_len (l : List S60) : (l.flatMap oneB).length = 9 * l.length := by
  induction l with
  | nil => rfl
  | cons x l ih => rw [List.flatMap_cons, List.length_append, ih, one_len, List.length_cons]; omega
theorem many_bd (b : List Int) (hb : ∀ x ∈ b, isB x) (h2 : 2 ≤ b.length) : ∃ b0 b1 c, b = b0 :: b1 :: c ∧ manyV b = b0 * 256 + b1 ∧ isB b0 ∧ isB b1 := by
  match b, h2 with
  | b0 :: b1 :: c, _ =>
    have h0 := hb b0 (by simp)
    have h1 := hb b1 (by simp)
    exact ⟨b0, b1, c, rfl, num2 h0 h1, h0, h1⟩
open Classical in
noncomputable def bytesV (l : List S60) : List Int × Int := if chkV l = 0 then (bytesL l, 0) else ([], chkV l)
open Classical in
noncomputable def readV (b : List Int) : List S60 × Int × Int :=
  if b.length < 2 then ([], 4, (b.length : Int))
  else if (b.length : Int) = 2 + 9 * manyV b then (if chkV (readL b) = 0 then (readL b, 0, 0) else ([], chkV (readL b), 0))
  else ([], 4, min (b.length : Int) (2 + 9 * manyV b))
theorem bytes_ev (l : List S60) (hl : l.length ≤ 100000) : Ev (fun k => past_Bytes.f k l) (bytesV l) := by
  unfold past_Bytes.f
  refine Ev.congr (fun k => if_pos hl) (Ev.bind (check_ev l (by omega)) ?_)
  unfold bytesV
  by_cases h : chkV l = 0
  · simp only [if_pos h]; exact Ev.now _
  · simp only [if_neg h]; exact Ev.now _
theorem readL_len (b : List Int) (hm : 0 ≤ manyV b ∧ manyV b < 65536) : (readL b).length < 65536 := by unfold readL; simp; omega
theorem read_ev (b : List Int) (hb : ∀ x ∈ b, isB x) (hl : b.length ≤ 1000000) : Ev (fun k => past_Read.f k b) (readV b) := by
  unfold past_Read.f
  refine Ev.congr (fun k => if_pos hl) ?_
  unfold readV
  by_cases h2 : b.length < 2
  · rw [if_pos h2]; exact ev_pos h2 (Ev.now _)
  rw [if_neg h2]
  refine ev_neg h2 ?_
  have hm : 0 ≤ manyV b ∧ manyV b < 65536 := by
    obtain ⟨b0, b1, c, _, e, h0, h1⟩ := many_bd b hb (by omega)
    unfold isB at h0 h1
    omega
  refine ev_pos (by omega) ?_
  by_cases h3 : (b.length : Int) = 2 + 9 * manyV b
  · rw [if_pos h3]
    refine ev_pos h3 (Ev.bind (check_ev _ (by have := readL_len b hm; omega)) ?_)
    by_cases h : chkV (readL b) = 0
    · simp only [if_pos h]; exact Ev.now _
    · simp only [if_neg h]; exact Ev.now _
  · rw [if_neg h3]; exact ev_neg h3 (Ev.now _)
end Go.Proofs.YtdelfhahbngcfaaX.P07
end
section
namespace Go.Proofs.YtdelfhahbngcfaaX.P07
open Go.RowKit Go.Proofs.YtdelfhahbngcfaaW.PrintWords Go.Proofs.YtdelfhahbngcfaaW.PrintLast Go.Proofs.YtdelfhahbngcfaaW.PrintMore
set_option linter.unusedVariables false
set_option linter.unusedSimpArgs false
theorem flat_snoc (l : List S60) (j : Nat) (h : j < l.length) : (l.take (j + 1)).flatMap oneB = (l.take j).flatMap oneB ++ oneB l[j] := by
  rw [List.take_succ_eq_append_getElem h, List.flatMap_append]
  simp
theorem rbytes_loop (l : List S60) (p : List Int) (hp : p.length = 2) (hl : l.length ≤ 100000) : ∀ (d j : Nat), j + d = l.length → Ev (fun k => tributaryref07_Bytes.l0 k l (p ++ (l.take j).flatMap oneB) (j : Int)) (p ++ l.flatMap oneB, 0)
  | 0, j, hj => by
    obtain rfl : j = l.length := by omega
    rw [List.take_length]
    refine Ev.step (fun _ => rfl) ?_
    simp only [tributaryref07_Bytes.l0]
    exact ev_neg (by omega) (Ev.now _)
  | d + 1, j, hj => by
    have hjl : j < l.length := by omega
    have ih := rbytes_loop l p hp hl d (j + 1) (by omega)
    rw [flat_snoc l j hjl, ← List.append_assoc] at ih
    have hw : wrap64 ((j : Int) + 1) = ((j + 1 : Nat) : Int) := w64 (by omega)
    refine Ev.step (fun _ => rfl) ?_
    simp only [tributaryref07_Bytes.l0]
    refine ev_pos (by omega) (ev_pos (by omega) ?_)
    rw [rd_at hjl, hw]
    refine ev_some (ev_pos ?_ ih)
    rw [List.length_append, hp, flat_len, List.length_take]
    show 2 + 9 * min j l.length + 9 < 140737488355328
    omega
theorem rbytes_ev (l : List S60) (hl : l.length ≤ 100000) : Ev (fun k => tributaryref07_Bytes.f k l) (bytesV l) := by
  unfold tributaryref07_Bytes.f
  refine Ev.bind (rcheck_ev l (by omega)) ?_
  unfold bytesV
  by_cases h : chkV l = 0
  · rw [if_pos h]
    refine ev_pos h ?_
    have := rbytes_loop l [(wrap64 ((l.length : Int) / 256)) % 256, (l.length : Int) % 256] rfl hl l.length 0 (by omega)
    rw [List.take_zero, List.flatMap_nil, List.append_nil] at this
    have e : ([(wrap64 ((l.length : Int) / 256)) % 256, (l.length : Int) % 256] : List Int) ++ l.flatMap oneB = bytesL l := by
      rw [w64 (by omega)]
      rfl
    rw [e] at this
    exact this
  · rw [if_neg h]
    refine ev_neg h ?_
    have e2 : chkV l = 2 := by
      by_cases hc : Chk l
      · exact absurd (chkV0 hc) h
      · exact chkV2 hc
    rw [e2]
    exact Ev.now _
theorem four_eq (b0 b1 b2 b3 : Int) (t : List Int) (h0 : isB b0) (h1 : isB b1) (h2 : isB b2) (h3 : isB b3) : tributaryref07_four.f (b0 :: b1 :: b2 :: b3 :: t) = some (numV [b0, b1, b2, b3]) := by
  rw [num4 h0 h1 h2 h3]
  unfold isB at h0 h1 h2 h3
  unfold tributaryref07_four.f
  have hn : ((b0 :: b1 :: b2 :: b3 :: t).length : Int) = 4 + (t.length : Int) := by simp; omega
  rw [hn, if_pos (by omega), if_pos (by omega), if_pos (by omega), if_pos (by omega)]
  have r0 : YtdelfhahbngcfaaW.PrintWords.rd (b0 :: b1 :: b2 :: b3 :: t) 0 = b0 := rfl
  have r1 : YtdelfhahbngcfaaW.PrintWords.rd (b0 :: b1 :: b2 :: b3 :: t) 1 = b1 := rfl
  have r2 : YtdelfhahbngcfaaW.PrintWords.rd (b0 :: b1 :: b2 :: b3 :: t) 2 = b2 := rfl
  have r3 : YtdelfhahbngcfaaW.PrintWords.rd (b0 :: b1 :: b2 :: b3 :: t) 3 = b3 := rfl
  rw [r0, r1, r2, r3]
  rw [w64 (a := b0) (by omega), w64 (a := b1) (by omega), w64 (a := b2) (by omega), w64 (a := b3) (by omega), w64 (a := b0 * 16777216) (by omega), w64 (a := b1 * 65536) (by omega), w64 (a := b2 * 256) (by omega), w64 (a := b0 * 16777216 + b1 * 65536) (by omega), w64 (a := b0 * 16777216 + b1 * 65536 + b2 * 256) (by omega), w64 (by omega)]
  congr 1
  omega
theorem read_step (b : List Int) (hb : ∀ x ∈ b, isB x) (N j : Nat) (hl : b.length = 2 + 9 * N) (hj : j < N) : ∃ a0 a1 a2 a3 a4 a5 a6 a7 a8 t, b.drop (2 + 9 * j) = a0 :: a1 :: a2 :: a3 :: a4 :: a5 :: a6 :: a7 :: a8 :: t ∧ isB a0 ∧ isB a1 ∧ isB a2 ∧ isB a3 ∧ isB a4 ∧ isB a5 ∧ isB a6 ∧ isB a7 ∧ isB a8 ∧ spanAt b j = ⟨wrap64 a0, numV [a1, a2, a3, a4], numV [a5, a6, a7, a8]⟩ := by
  have hlen : 9 ≤ (b.drop (2 + 9 * j)).length := by rw [List.length_drop]; omega
  have hm : ∀ x ∈ b.drop (2 + 9 * j), isB x := fun x hx => hb x (List.mem_of_mem_drop hx)
  have hs : pieceL b j = (b.drop (2 + 9 * j)).take 9 := rfl
  unfold spanAt
  rw [hs]
  match hd : b.drop (2 + 9 * j), hlen with
  | a0 :: a1 :: a2 :: a3 :: a4 :: a5 :: a6 :: a7 :: a8 :: t, _ =>
    rw [hd] at hm
    simp only [List.mem_cons, forall_eq_or_imp] at hm
    obtain ⟨h0, h1, h2, h3, h4, h5, h6, h7, h8, _⟩ := hm
    exact ⟨a0, a1, a2, a3, a4, a5, a6, a7, a8, t, rfl, h0, h1, h2, h3, h4, h5, h6, h7, h8, rfl⟩
theorem rread_loop (b : List Int) (hb : ∀ x ∈ b, isB x) (N : Nat) (hl : b.length = 2 + 9 * N) (hN : N < 65536) : ∀ (d j : Nat), j + d = N →
    Ev (fun k => tributaryref07_Read.l0 k b (N : Int) ((List.range j).map (spanAt b)) (j : Int)) (if chkV ((List.range N).map (spanAt b)) = 0 then ((List.range N).map (spanAt b), 0, 0) else ([], 2, 0))
  | 0, j, hj => by
    obtain rfl : j = N := by omega
    refine Ev.step (fun _ => rfl) ?_
    simp only [tributaryref07_Read.l0]
    refine ev_neg (by omega) (Ev.bind (rcheck_ev _ (by simp; omega)) ?_)
    by_cases h : chkV ((List.range j).map (spanAt b)) = 0
    · rw [if_pos h, if_pos h]; exact Ev.now _
    · rw [if_neg h, if_neg h]; exact Ev.now _
  | d + 1, j, hj => by
    have ih := rread_loop b hb N hl hN d (j + 1) (by omega)
    rw [List.range_succ, List.map_append, List.map_singleton] at ih
    obtain ⟨a0, a1, a2, a3, a4, a5, a6, a7, a8, t, hd, h0, h1, h2, h3, h4, h5, h6, h7, h8, hs⟩ := read_step b hb N j hl (by omega)
    rw [hs] at ih
    have hw : wrap64 ((j : Int) + 1) = ((j + 1 : Nat) : Int) := w64 (by omega)
    have hx : wrap64 (2 + wrap64 (9 * (j : Int))) = ((2 + 9 * j : Nat) : Int) := by rw [w64 (a := 9 * (j : Int)) (by omega), w64 (by omega)]; omega
    refine Ev.step (fun _ => rfl) ?_
    simp only [tributaryref07_Read.l0]
    rw [hx, hw, Int.toNat_natCast, hd]
    have hn : ((a0 :: a1 :: a2 :: a3 :: a4 :: a5 :: a6 :: a7 :: a8 :: t).length : Int) = 9 + (t.length : Int) := by simp; omega
    rw [hn]
    refine ev_pos (by omega) (ev_pos (by omega) (ev_pos (by omega) (ev_pos (by omega) (ev_pos (by omega) ?_))))
    rw [show (a0 :: a1 :: a2 :: a3 :: a4 :: a5 :: a6 :: a7 :: a8 :: t).drop 1 = a1 :: a2 :: a3 :: a4 :: a5 :: a6 :: a7 :: a8 :: t from rfl, show (a0 :: a1 :: a2 :: a3 :: a4 :: a5 :: a6 :: a7 :: a8 :: t).drop 5 = a5 :: a6 :: a7 :: a8 :: t from rfl, four_eq a1 a2 a3 a4 _ h1 h2 h3 h4, four_eq a5 a6 a7 a8 _ h5 h6 h7 h8]
    refine ev_some (ev_pos (by omega) (ev_some (ev_pos (by simp; omega) ?_)))
    exact ih
theorem rread_ev (b : List Int) (hb : ∀ x ∈ b, isB x) (hl : b.length ≤ 1000000) : Ev (fun k => tributaryref07_Read.f k b) (readV b) := by
  unfold tributaryref07_Read.f readV
  by_cases h2 : b.length < 2
  · rw [if_pos h2]; exact ev_pos (by omega) (Ev.now _)
  rw [if_neg h2]
  obtain ⟨b0, b1, c, e, hm, h0, h1⟩ := many_bd b hb (by omega)
  unfold isB at h0 h1
  have r0 : YtdelfhahbngcfaaW.PrintWords.rd b 0 = b0 := by rw [e]; rfl
  have r1 : YtdelfhahbngcfaaW.PrintWords.rd b 1 = b1 := by rw [e]; rfl
  have q : wrap64 (wrap64 (256 * wrap64 b0) + wrap64 b1) = manyV b := by
    rw [w64 (a := b0) (by omega), w64 (a := b1) (by omega), w64 (a := 256 * b0) (by omega), w64 (by omega)]; omega
  refine ev_neg (by omega) (ev_pos (by omega) (ev_pos (by omega) ?_))
  rw [r0, r1, q]
  obtain ⟨N, hN⟩ : ∃ N : Nat, manyV b = N := ⟨(manyV b).toNat, by omega⟩
  have hNb : N < 65536 := by omega
  rw [hN]
  have q2 : wrap64 (2 + wrap64 (9 * (N : Int))) = 2 + 9 * (N : Int) := by rw [w64 (a := 9 * (N : Int)) (by omega), w64 (by omega)]
  rw [q2]
  by_cases g1 : (b.length : Int) < 2 + 9 * (N : Int)
  · rw [if_neg (by omega), show min (b.length : Int) (2 + 9 * (N : Int)) = (b.length : Int) by omega]
    exact ev_pos g1 (Ev.now _)
  refine ev_neg g1 ?_
  by_cases g2 : (b.length : Int) > 2 + 9 * (N : Int)
  · rw [if_neg (by omega), show min (b.length : Int) (2 + 9 * (N : Int)) = 2 + 9 * (N : Int) by omega]
    exact ev_pos g2 (Ev.now _)
  refine ev_neg g2 ?_
  rw [if_pos (by omega)]
  have hr : readL b = (List.range N).map (spanAt b) := by unfold readL; rw [hN, Int.toNat_natCast]
  rw [hr]
  have := rread_loop b hb N (by omega) hNb N 0 (by omega)
  rw [List.range_zero, List.map_nil] at this
  have e2 : (if chkV ((List.range N).map (spanAt b)) = 0 then (((List.range N).map (spanAt b), 0, 0) : List S60 × Int × Int) else ([], 2, 0)) = (if chkV ((List.range N).map (spanAt b)) = 0 then ((List.range N).map (spanAt b), 0, 0) else ([], chkV ((List.range N).map (spanAt b)), 0)) := by
    by_cases h : chkV ((List.range N).map (spanAt b)) = 0
    · rw [if_pos h, if_pos h]
    · rw [if_neg h, if_neg h]
      have e2 : chkV ((List.range N).map (spanAt b)) = 2 := by
        by_cases hc : Chk ((List.range N).map (spanAt b))
        · exact absurd (chkV0 hc) h
        · exact chkV2 hc
      rw [e2]
  rw [← e2]
  exact this
end Go.Proofs.YtdelfhahbngcfaaX.P07
end
section
namespace Go.Proofs.YtdelfhahbngcfaaX.P07
open Go.Proofs.Ytdelfhahbngcfaa hiding blk_cell blk_new blk_lt blk_set blk_below
open Go.RowKit Go.Shelf Go.Proofs.YtdelfhahbngcfaaW.PrintWords Go.Proofs.YtdelfhahbngcfaaW.PrintLast Go.Proofs.YtdelfhahbngcfaaW.PrintMore
set_option linter.unusedVariables false
set_option linter.unusedSimpArgs false
attribute [local go_sem] Oper.semAt_some
set_option maxRecDepth 100000 in
set_option maxHeartbeats 4000000 in
theorem over_at {g o n c : Nat} {ys0 : List UInt8} {w : World} (h : w.heap[g]? = some (.cells (u8s ys0).toArray 5 (0, 0))) (ho : o + c ≤ ys0.length) (hm : ys0.length ≤ 9223372036854775807) (hn : n ≤ c) :
    Calls Try.prog 19 #[.slice (some ⟨g, o, none⟩) n c] w fun e w' => e = .returned (.tuple #[]) ∧ Ch (fun k => k = g) w w' := by
  obtain ⟨N, hN⟩ : ∃ N, N = ys0.length := ⟨_, rfl⟩
  have H0 := Lib.hid (show Byt w g 5 N ys0 from ⟨⟨ys0, hN.symm, List.take_length, h⟩, by omega⟩)
  have HY0 := Lib.hid hN.symm
  rw [← hN] at ho hm
  clear h hN
  go_enter Try.func19, Try.ntmps19
  go_wp2
  go_loopw [3] (fun i wr => ∃ k : Nat, k ≤ c ∧ i = .int .i64 k ∧ (∃ ys, ys.length = N ∧ Byt wr g 5 N ys) ∧ Ch (fun k => k = g) w wr) (fun i _ => c - (intOf i).toNat)
  case atStart => exact ⟨0, Nat.zero_le _, rfl, ⟨_, HY0.out, H0.out⟩, Ch.refl _ _⟩
  case round =>
    clear H0 HY0
    obtain ⟨k, hk, rfl, ⟨ys, hy1, hb⟩, hB⟩ := hrel
    by_cases hlt : k < c
    · have hc := (byt_row hb).cell (u8s_get ys (o + k) (by omega))
      have hf := (byt_row hb).thawed (o + k)
      have hS := Lib.hid (byt_set hb hy1 (o + k) (UInt8.ofNat ((ys[o + k]?.getD 0).toNat + 101)) (by omega))
      have hC := Lib.hid (hB.trans (Ch.setCell wr ⟨g, o + k, none⟩ (.int .u8 ((UInt8.ofNat ((ys[o + k]?.getD 0).toNat + 101)).toNat : Int))) (fun i hi => .inl hi))
      have hv : ((UInt8.ofNat ((ys[o + k]?.getD 0).toNat + 101)).toNat : Int) = (((ys[o + k]?.getD 0).toNat : Int) + 101) % 256 := by simp
      have HV := Lib.hid hv; clear hv
      have Hb := Lib.hid hb; clear hb
      have HY := Lib.hid hy1; clear hy1
      go_wp2
      rw [← HV.out]
      go_roundw
      case rel => exact ⟨k + 1, by omega, by go_num, ⟨_, by rw [List.length_set]; exact HY.out, hS.out⟩, hC.out⟩
      case measure => simp [intOf]; omega
    · obtain rfl : k = c := by omega
      go_wp2
      exact bodyPost_end (results_none rfl _ _ _) rfl ⟨rfl, hB⟩
theorem ovB_ch {w w' : World} {base : Nat} {v : Value} (h : v = .slice none 0 0 ∨ OvB w base v) (hb : Below w.heap.size w w') : v = .slice none 0 0 ∨ OvB w' base v := h.imp id (fun h => ovB_below h hb)
def intsB (l : List UInt8) : List Int := l.map fun x => (x.toNat : Int)
theorem intsB_len (l : List UInt8) : (intsB l).length = l.length := by unfold intsB; simp
theorem intsB_b (l : List UInt8) : ∀ x ∈ intsB l, isB x := fun x hx => by
  unfold intsB at hx
  obtain ⟨y, _, rfl⟩ := List.mem_map.1 hx
  have := y.toNat_lt
  unfold isB
  omega
theorem C_of_rd {w : World} {A : Option Addr} {n c : Nat} {l : List UInt8} (h : Rd w A n c 1 (u8s l)) : Kd.C (Kd.int .u8) w A (intsB l).length (intsB l) := by
  by_cases h0 : l = []
  · subst h0
    exact ⟨rfl, by simp [intsB], fun h => by simp [intsB] at h⟩
  · have hp : 0 < l.length := List.length_pos_iff.2 h0
    have hp2 : 0 < (u8s l).length := by simpa using hp
    obtain ⟨b, off, rfl, _⟩ := h.cells 0 _ (List.getElem?_eq_getElem hp2)
    have h1 := h.len
    have h2 := h.small
    rw [u8s_length] at h1
    refine C_cells (by rw [intsB_len]; omega) (fun j p hp => ?_)
    have hj : (u8s l)[j]? = some (.int .u8 p) := by
      unfold intsB at hp
      rw [List.getElem?_map] at hp
      obtain ⟨q, hq, rfl⟩ := Option.map_eq_some_iff.1 hp
      unfold u8s
      rw [List.getElem?_map, hq]
      rfl
    obtain ⟨b', off', e, hc⟩ := h.cells j _ hj
    cases e
    exact hc
theorem drawn_below {w w' : World} (h : Drawn0 w w') : Below w.heap.size w w' := by
  obtain ⟨n, rfl⟩ := h
  exact pw_below_drewN (Below.refl _ _) n
theorem long_any (A : Option Addr) (c : Nat) (l : List S60) (w : World) (h : Kd.C k60 w A l.length l) (hc : l.length ≤ c) : Calls Try.prog 9 #[.slice A l.length c, .slice none 0 0, .slice none 0 0] w fun e w' => e = .returned (.bool (decide (200 < l.length))) ∧ Below w.heap.size w w' := by
  have hf : tributarylaw07_long.f l [] [] = some (decide (200 < l.length)) := by
    unfold tributarylaw07_long.f
    by_cases h : 200 < l.length
    · rw [if_pos (by omega), decide_eq_true h]
    · rw [if_neg (by omega), if_neg (by simp), decide_eq_false h]; simp
  refine (tributarylaw07_long.calls A c l none 0 [] none 0 [] _ w h hc ⟨rfl, by simp, fun h => by simp at h⟩ (Nat.le_refl _) ⟨rfl, by simp, fun h => by simp at h⟩ (Nat.le_refl _) hf).mono ?_
  rintro e w' ⟨rfl, hd⟩
  exact ⟨rfl, drawn_below hd⟩
end Go.Proofs.YtdelfhahbngcfaaX.P07
end
section
namespace Go.Proofs.YtdelfhahbngcfaaX.P07
open Go.Proofs.Ytdelfhahbngcfaa hiding blk_cell blk_new blk_lt blk_set blk_below
open Go.RowKit Go.Shelf Go.Proofs.YtdelfhahbngcfaaW.PrintWords Go.Proofs.YtdelfhahbngcfaaW.PrintLast Go.Proofs.YtdelfhahbngcfaaW.PrintMore
set_option linter.unusedVariables false
set_option linter.unusedSimpArgs false
attribute [local go_sem high] eqA32
theorem over_lim {w w4 : World} {base : Nat} {v : Value} (h4 : v = .slice none 0 0 ∨ OvB w4 base v) (h : v = .slice none 0 0 ∨ OvB w base v) : Calls Try.prog 19 #[v] w fun e w' => e = .returned (.tuple #[]) ∧ Ch (fun k => base ≤ k ∧ k < w4.heap.size) w w' := by
  rcases h with rfl | ⟨g, o, n, c, ys, rfl, h2, h3, h5, h6, h7⟩
  · refine (over_nil w).mono ?_
    rintro e w' ⟨rfl, rfl⟩
    exact ⟨rfl, Ch.refl _ w⟩
  · refine (over_at h2 h3 h5 h6).mono ?_
    rintro e w' ⟨rfl, hc⟩
    refine ⟨rfl, hc.mono (fun i _ hi => ?_)⟩
    rw [hi]
    refine ⟨h7, ?_⟩
    rcases h4 with e | ⟨g', o', n', c', ys', e, h2', _⟩
    · cases e
    · injection e with e1 e2 e3
      injection e1 with e1
      injection e1 with e1 e4 e5
      rw [e1]
      exact blk_lt h2'
theorem read_lent {w : World} {A : Option Addr} {n c k : Nat} {l : List UInt8} {x1 : List S60} {x2 x3 : Int} (hC : Kd.C (Kd.int .u8) w A (intsB l).length (intsB l)) (hl : l.length = n) (hc : n ≤ c) (h : past_Read.f k (intsB l) = some (x1, x2, x3)) :
    Calls Try.prog 15 #[.slice A n c] w fun e w' => ∃ v0_ : Value, e = .returned (.tuple #[v0_, .agg #[.int .i64 x2, .int .i64 x3]]) ∧ Kd.R k60 60 w' w.heap.size (fun _ => True) v0_ x1 ∧ Below w.heap.size w w' := by
  have := past_Read.calls k A c (intsB l) x1 x2 x3 w hC (by rw [intsB_len]; omega) h
  rwa [intsB_len, hl] at this
theorem rread_any {w : World} {A : Option Addr} {n c k : Nat} {l : List UInt8} {x1 : List S60} {x2 x3 : Int} (hr : Rd w A n c 1 (u8s l)) (hl : l.length = n) (h : tributaryref07_Read.f k (intsB l) = some (x1, x2, x3)) :
    Calls Try.prog 16 #[.slice A n c] w fun e w' => ∃ v0_ : Value, e = .returned (.tuple #[v0_, .agg #[.int .i64 x2, .int .i64 x3]]) ∧ Kd.R k60 60 w' w.heap.size (fun _ => True) v0_ x1 ∧ Below w.heap.size w w' := by
  have hcap := hr.cap
  have := tributaryref07_Read.calls k A c (intsB l) x1 x2 x3 w (C_of_rd hr) (by rw [intsB_len]; omega) h
  rwa [intsB_len, hl] at this
theorem same_bytes {w : World} {A B : Option Addr} {c d : Nat} {b : List Int} (hA : Kd.C (Kd.int .u8) w A b.length b) (hB : Kd.C (Kd.int .u8) w B b.length b) (hc : b.length ≤ c) (hd : b.length ≤ d) :
    Calls Try.prog 17 #[.slice A b.length c, .slice B b.length d] w fun e w' => e = .returned (.bool true) ∧ Below w.heap.size w w' :=
  (tributarykit_SameBytes.calls A c b B d b true w hA hc hB hd (congrArg some (beq_self_eq_true _))).mono (by rintro e w' ⟨he, hd⟩; exact ⟨he, drawn_below hd⟩)
theorem same_spans {w : World} {A B : Option Addr} {c d : Nat} {b : List S60} (hA : Kd.C k60 w A b.length b) (hB : Kd.C k60 w B b.length b) (hc : b.length ≤ c) (hd : b.length ≤ d) (hl : b.length < 1000000) :
    Calls Try.prog 18 #[.slice A b.length c, .slice B b.length d] w fun e w' => e = .returned (.bool true) ∧ Below w.heap.size w w' := by
  obtain ⟨k, hk⟩ := (same_ev b b hl).rounds
  rw [decide_eq_true rfl] at hk
  exact (tributarykit_SameSpans.calls k A c b B d b true w hA hc hB hd hk).mono (by rintro e w' ⟨he, hd⟩; exact ⟨he, drawn_below hd⟩)
theorem kept_ch {S : Nat → Prop} {w w' : World} (h : Ch S w w') : Kept w w' S := ⟨h.size, fun i hi hn => h.block i hi hn⟩
theorem box1 (w : World) (a : Array Value) (t : Nat) : (w.alloc (.cells a t)).heap[w.heap.size]? = some (.cells a t (0, 0)) ∧ Below w.heap.size w (w.alloc (.cells a t)) := ⟨blk_new w _, (Below.refl _ w).alloc (Nat.le_refl _) _⟩
theorem read_len (b : List Int) (hl : b.length ≤ 3000) : (readV b).1.length < 1000000 := by
  unfold readV
  by_cases h2 : b.length < 2
  · rw [if_pos h2]; simp
  rw [if_neg h2]
  by_cases h3 : (b.length : Int) = 2 + 9 * manyV b
  · rw [if_pos h3]
    by_cases h4 : chkV (readL b) = 0
    · rw [if_pos h4]
      show (readL b).length < 1000000
      unfold readL
      rw [List.length_map, List.length_range]
      omega
    · rw [if_neg h4]; simp
  · rw [if_neg h3]; simp
set_option maxRecDepth 100000 in
set_option maxHeartbeats 16000000 in
theorem pastbytes_walk (A0 : Option Addr) (c0 : Nat) (a : List S60) (A1 : Option Addr) (n c : Nat) (l : List UInt8) (w : World) (h0 : Kd.C k60 w A0 a.length a) (hc0 : a.length ≤ c0) (h1 : Rd w A1 n c 1 (u8s l)) :
    Calls Try.prog 3 #[.slice A0 a.length c0, .slice A1 n c] w fun e w' => e = .returned (.bool true) ∧ Below w.heap.size w w' := by
  have hl : l.length = n := by have := h1.len; simpa using this
  obtain ⟨ka, hka⟩ := awake_ev.rounds
  have hlong := long_any A0 c0 a w h0 hc0
  have H0 := Lib.hid h0; have H1 := Lib.hid h1; have HL := Lib.hid hl; have HA := Lib.hid hka; have HC0 := Lib.hid hc0
  clear h0 h1 hl hka hc0
  by_cases g0 : 200 < a.length
  · rw [decide_eq_true g0] at hlong
    have HLG := Lib.hid hlong
    clear hlong g0
    go_enter Try.func3, Try.ntmps3
    go_wp2_with fail
    refine HLG.out.mono ?_
    rintro e w1 ⟨rfl, hb⟩
    have E1 := Lib.hid hb
    clear hb
    go_wp2_with fail
    refine (tributarylaw07_awake.calls ka true w1 HA.out).mono ?_
    rintro e w2 ⟨rfl, hb⟩
    go_wp2
    go_ret
    exact ⟨rfl, E1.out.trans (hb.mono E1.out.size)⟩
  rw [decide_eq_false g0] at hlong
  have HLG := Lib.hid hlong
  have G0 := Lib.hid (Nat.not_lt.1 g0)
  clear hlong g0
  by_cases g1 : 3000 < n
  · have g1' : decide ((3000 : Int) < (n : Int)) = true := decide_eq_true (by omega)
    clear g1
    go_enter Try.func3, Try.ntmps3
    go_wp2_with fail
    refine HLG.out.mono ?_
    rintro e w1 ⟨rfl, hb⟩
    have E1 := Lib.hid hb
    clear hb
    go_wp2_with fail
    refine (tributarylaw07_awake.calls ka true w1 HA.out).mono ?_
    rintro e w2 ⟨rfl, hb⟩
    go_wp2
    go_ret
    exact ⟨rfl, E1.out.trans (hb.mono E1.out.size)⟩
  have g1' : decide ((3000 : Int) < (n : Int)) = false := decide_eq_false (by omega)
  have G1 := Lib.hid (Nat.not_lt.1 g1)
  clear g1
  obtain ⟨b1, b2, hbv⟩ : ∃ b1 b2, bytesV a = (b1, b2) := ⟨_, _, rfl⟩
  obtain ⟨x1, x2, x3, hxv⟩ : ∃ x1 x2 x3, readV (intsB l) = (x1, x2, x3) := ⟨_, _, _, rfl⟩
  obtain ⟨k1, e1⟩ := (bytes_ev a (by have := G0.out; omega)).rounds
  obtain ⟨k2, e2⟩ := (rbytes_ev a (by have := G0.out; omega)).rounds
  obtain ⟨k3, e3⟩ := (read_ev (intsB l) (intsB_b l) (by rw [intsB_len, HL.out]; have := G1.out; omega)).rounds
  obtain ⟨k4, e4⟩ := (rread_ev (intsB l) (intsB_b l) (by rw [intsB_len, HL.out]; have := G1.out; omega)).rounds
  have hxl := read_len (intsB l) (by rw [intsB_len, HL.out]; exact G1.out)
  rw [hbv] at e1 e2
  rw [hxv] at e3 e4 hxl
  have F1 := Lib.hid e1; have F2 := Lib.hid e2; have F3 := Lib.hid e3; have F4 := Lib.hid e4; have HX := Lib.hid hxl
  have FC := Lib.hid (copy_eq a (by have := G0.out; omega))
  clear e1 e2 e3 e4 hxl hbv hxv
  go_enter Try.func3, Try.ntmps3
  go_wp2_with fail
  refine HLG.out.mono ?_
  rintro e w1 ⟨rfl, hb⟩
  have E1 := Lib.hid hb
  clear hb
  go_wp2_with fail
  refine (tributarykit_CopySpans.calls A0 c0 a a w1 (Kd.C_below H0.out E1.out) HC0.out FC.out).mono ?_
  rintro e w2 ⟨v, rfl, hR, hb⟩
  obtain ⟨Ai, ci, rfl⟩ := Kd.R_slice hR
  have E2 := Lib.hid (E1.out.trans (hb.mono E1.out.size))
  have I2 := Lib.hid (Kd.R_mono (Kd.R_bound (Kd.R_lower hR E1.out.size)) (fun k hk => hk.2.2.1))
  clear hR hb
  go_wp2_with fail
  refine (lent_any A1 n c l w2 (H1.out.below E2.out) (by have := G1.out; omega)).mono ?_
  rintro e w3 ⟨g, c', rfl, hbg, hnc, hrow, hb⟩
  have E3 := Lib.hid (E2.out.trans (hb.mono E2.out.size))
  have I3 := Lib.hid (Kd.R_below I2.out hb)
  have R3 := Lib.hid hrow
  have B23 := Lib.hid hb.size
  clear hbg hnc hrow hb
  go_wp2_with fail
  refine (past_Bytes.callsB k1 Ai ci a b1 b2 w3 (Kd.R_reads' I3.out).2.2 (Kd.R_reads' I3.out).2.1 F1.out).mono ?_
  rintro e w4 ⟨vs, rfl, ⟨hQ, hO⟩, hb⟩
  obtain ⟨As, cs, rfl, hcs, hCs⟩ := Kd.Q_reads hQ
  have E4 := Lib.hid (E3.out.trans (hb.mono E3.out.size))
  have I4 := Lib.hid (Kd.R_below I3.out hb)
  have R4 := Lib.hid (R3.out.below hb)
  have S4 := Lib.hid hCs; have O4 := Lib.hid hO; have CS := Lib.hid hcs
  have B34 := Lib.hid hb.size
  clear hQ hCs hO hcs hb
  go_wp2_with fail
  refine (tributaryref07_Bytes.calls k2 A0 c0 a b1 b2 w4 (Kd.C_below H0.out E4.out) HC0.out F2.out).mono ?_
  rintro e w5 ⟨vt, rfl, hR, hb⟩
  obtain ⟨At, ct, rfl⟩ := Kd.R_slice hR
  have E5 := Lib.hid (E4.out.trans (hb.mono E4.out.size))
  have I5 := Lib.hid (Kd.R_below I4.out hb)
  have R5 := Lib.hid (R4.out.below hb)
  have S5 := Lib.hid (Kd.C_below S4.out hb); have O5 := Lib.hid (ovB_ch O4.out hb)
  have T5 := Lib.hid (Kd.R_reads' hR).2.2; have CT := Lib.hid (Kd.R_reads' hR).2.1
  have B45 := Lib.hid hb.size
  clear hR hb
  go_wp2_with fail
  refine (read_lent (C_of_rd (R5.out.rd 0 n (n + 3) (u8s l) (by rw [List.drop_zero, u8s_take]; simp [HL.out]) (by have := HL.out; simp; omega) (by omega) (by have := G1.out; omega))) HL.out (by omega) F3.out).mono ?_
  rintro e w6 ⟨vx, rfl, hR, hb⟩
  obtain ⟨Ax, cx, rfl⟩ := Kd.R_slice hR
  have E6 := Lib.hid (E5.out.trans (hb.mono E5.out.size))
  have I6 := Lib.hid (Kd.R_below I5.out hb)
  have R6 := Lib.hid (R5.out.below hb)
  have S6 := Lib.hid (Kd.C_below S5.out hb); have O6 := Lib.hid (ovB_ch O5.out hb)
  have T6 := Lib.hid (Kd.C_below T5.out hb)
  have X6 := Lib.hid hR
  clear hR hb
  go_wp2_with fail
  obtain ⟨P, hP⟩ : ∃ z, z = w6.heap.size := ⟨_, rfl⟩
  obtain ⟨w7, hw7⟩ : ∃ z, z = w6.alloc (.cells #[.int .i64 x2, .int .i64 x3] 32) := ⟨_, rfl⟩
  obtain ⟨p1, p3⟩ := box1 w6 #[.int .i64 x2, .int .i64 x3] 32
  rw [← hw7, ← hP] at p1
  rw [← hw7] at p3
  rw [← hw7, ← hP]
  have E7 := Lib.hid (E6.out.trans (p3.mono E6.out.size))
  have I7 := Lib.hid (Kd.R_below I6.out p3)
  have R7 := Lib.hid (R6.out.below p3)
  have S7 := Lib.hid (Kd.C_below S6.out p3); have O7 := Lib.hid (ovB_ch O6.out p3)
  have T7 := Lib.hid (Kd.C_below T6.out p3)
  have X7 := Lib.hid (Kd.R_below X6.out p3)
  have P7 := Lib.hid p1
  clear p1 p3 hP hw7
  refine (rread_any (H1.out.below E7.out) HL.out F4.out).mono ?_
  rintro e w8 ⟨vy, rfl, hR, hb⟩
  obtain ⟨Ay, cy, rfl⟩ := Kd.R_slice hR
  have E8 := Lib.hid (E7.out.trans (hb.mono E7.out.size))
  have I8 := Lib.hid (Kd.R_below I7.out hb)
  have R8 := Lib.hid (R7.out.below hb)
  have S8 := Lib.hid (Kd.C_below S7.out hb); have O8 := Lib.hid (ovB_ch O7.out hb)
  have T8 := Lib.hid (Kd.C_below T7.out hb)
  have X8 := Lib.hid (Kd.R_below X7.out hb)
  have P8 := Lib.hid (blk_thru hb P7.out)
  have Y8 := Lib.hid (Kd.R_reads' hR).2.2; have CY := Lib.hid (Kd.R_reads' hR).2.1
  clear hR hb
  go_wp2_with fail
  obtain ⟨Q, hQ⟩ : ∃ z, z = w8.heap.size := ⟨_, rfl⟩
  obtain ⟨w9, hw9⟩ : ∃ z, z = w8.alloc (.cells #[.int .i64 x2, .int .i64 x3] 32) := ⟨_, rfl⟩
  obtain ⟨p1, p3⟩ := box1 w8 #[.int .i64 x2, .int .i64 x3] 32
  rw [← hw9, ← hQ] at p1
  rw [← hw9] at p3
  rw [← hw9, ← hQ]
  have E9 := Lib.hid (E8.out.trans (p3.mono E8.out.size))
  have I9 := Lib.hid (Kd.R_below I8.out p3)
  have R9 := Lib.hid (R8.out.below p3)
  have S9 := Lib.hid (Kd.C_below S8.out p3); have O9 := Lib.hid (ovB_ch O8.out p3)
  have T9 := Lib.hid (Kd.C_below T8.out p3)
  have X9 := Lib.hid (Kd.R_below X8.out p3)
  have P9 := Lib.hid (blk_thru p3 P8.out); have Q9 := Lib.hid p1
  have Y9 := Lib.hid (Kd.C_below Y8.out p3)
  clear p1 p3 hQ hw9
  refine (same_bytes S9.out T9.out CS.out CT.out).mono ?_
  rintro e w10 ⟨rfl, hb⟩
  have E10 := Lib.hid (E9.out.trans (hb.mono E9.out.size))
  have I10 := Lib.hid (Kd.R_below I9.out hb)
  have R10 := Lib.hid (R9.out.below hb)
  have O10 := Lib.hid (ovB_ch O9.out hb)
  have X10 := Lib.hid (Kd.R_below X9.out hb)
  have P10 := Lib.hid (blk_thru hb P9.out); have Q10 := Lib.hid (blk_thru hb Q9.out)
  have Y10 := Lib.hid (Kd.C_below Y9.out hb)
  clear hb
  go_wp2_with fail
  refine (same_spans (Kd.R_reads' X10.out).2.2 Y10.out (Kd.R_reads' X10.out).2.1 CY.out HX.out).mono ?_
  rintro e w11 ⟨rfl, hb⟩
  have E11 := Lib.hid (E10.out.trans (hb.mono E10.out.size))
  have I11 := Lib.hid (Kd.R_below I10.out hb)
  have R11 := Lib.hid (R10.out.below hb)
  have O11 := Lib.hid (ovB_ch O10.out hb)
  have X11 := Lib.hid (Kd.R_below X10.out hb)
  have P11 := Lib.hid (blk_thru hb P10.out); have Q11 := Lib.hid (blk_thru hb Q10.out)
  clear hb
  have y0 := (blk_cell P11.out 0).trans rfl
  have y1 := (blk_cell P11.out 1).trans rfl
  have y2 := (blk_cell Q11.out 0).trans rfl
  have y3 := (blk_cell Q11.out 1).trans rfl
  go_wp2_with fail
  refine (over_lim O4.out O11.out).mono ?_
  rintro e w12 ⟨rfl, hc⟩
  clear y0 y1 y2 y3
  go_wp2_with fail
  have E12 := Lib.hid (((Ch.of_below E11.out (fun k => w3.heap.size ≤ k)).trans hc (fun i hi => .inl hi.1)).below (Nat.le_refl _) (fun j hj => Nat.le_trans E3.out.size hj))
  have R12 := Lib.hid (R11.out.ch hc (fun h => Nat.not_le.2 R3.out.lt h.1))
  have b23 := B23.out; have b34 := B34.out; have b45 := B45.out; have g3 := R3.out.lt
  have XB := Lib.hid (show ∀ k, some k = (Value.slice Ax x1.length cx).ownBlock → w5.heap.size ≤ k from fun k hk => Kd.R_base X11.out k hk.symm)
  have I12 := Lib.hid (Kd.R_keptB I11.out (kept_ch hc) (fun k hk hs => by have h1 : k < w2.heap.size := hk; have h2 := hs.1; omega))
  have X12 := Lib.hid (Kd.R_keptB (Kd.R_tight rfl X11.out) (kept_ch hc) (fun k hk hs => by have h1 := XB.out k hk; have h2 := hs.2; omega))
  have LT := Lib.hid (And.intro g3 (Nat.le_trans b23 (Nat.le_trans b34 b45)))
  have LG := Lib.hid (show w3.heap.size ≤ w5.heap.size from Nat.le_trans b34 b45)
  clear hc b23 b34 b45 g3
  refine (tributarykit_OverSpans.calls (fun k => some k = (Value.slice Ax x1.length cx).ownBlock) (.slice Ax x1.length cx) x1 _ w w12 E12.out (Kd.R_lower (Kd.R_tight rfl X12.out) E5.out.size) rfl).mono ?_
  rintro e w13 ⟨rfl, _, hb, hkp⟩
  have E13 := Lib.hid hb
  have I13 := Lib.hid (Kd.R_keptB I12.out hkp (fun k hk hs => by have h1 : k < w2.heap.size := hk.1; have h2 := XB.out k hs; have h3 := LT.out.2; omega))
  have R13 := Lib.hid (R12.out.same (hkp.2 g R12.out.lt (fun hs => by have h2 := XB.out g hs; have h3 := LT.out.1; have h4 := LG.out; omega)))
  clear hb hkp
  go_wp2_with fail
  refine (same_spans (Kd.R_reads' I13.out).2.2 (Kd.C_below H0.out E13.out) (Kd.R_reads' I13.out).2.1 HC0.out (by have := G0.out; omega)).mono ?_
  rintro e w14 ⟨rfl, hb⟩
  have E14 := Lib.hid (E13.out.trans (hb.mono E13.out.size))
  have R14 := Lib.hid (R13.out.below hb)
  clear hb
  go_wp2_with fail
  refine (kept_any g c' A1 n c l w14 R14.out (H1.out.below E14.out) (by have := G1.out; omega)).mono ?_
  rintro e w15 ⟨rfl, hb⟩
  have E15 := Lib.hid (E14.out.trans (hb.mono E14.out.size))
  clear hb
  go_wp2_with fail
  refine (tributarylaw07_awake.calls ka true w15 HA.out).mono ?_
  rintro e w16 ⟨rfl, hb⟩
  go_wp2
  go_ret
  exact ⟨rfl, E15.out.trans (hb.mono E15.out.size)⟩
end Go.Proofs.YtdelfhahbngcfaaX.P07
end
