/- Words for arguments that come in, as the printed functions read them: slices of structs. No conditions. -/
import Derived.Test.YtadcahnoghnkcaaP27x0
import Derived.Deep.Slices
import Derived.ChangeArms
import Derived.ChangeSlices
import Derived.OpenShut
namespace Go.Proofs.YtadcahnoghnkcaaX.P27
open Go.ChangeShapes Go.WideShapes Go.RowKit Go.Deep Go.Proofs.YtadcahnoghnkcaaW.PrintWords Go.Proofs.YtadcahnoghnkcaaW.PrintLast Go.Proofs.YtadcahnoghnkcaaW.PrintMore
set_option linter.unusedVariables false
set_option linter.unusedSimpArgs false

section
variable {H : Type} {enc : TypeId × Value → H} {w : World} {base : Nat} {spare : Nat → Bool} {held : Bool}
theorem C_of_trod {α : Type} (d : Kd α) {P : Program} {t e : TypeId} (ht : P.underlying t = some (.slice e)) (hc : P.cellsOf e = d.sz) (one : ∀ fuel cs x, DataW.trod enc P w base spare held fuel e cs = some x → ∃ y, d.K w y cs)
    {fuel : Nat} {v : Value} {x : DataW H × List MemPlace} (h : DataW.trod enc P w base spare held fuel t [v] = some x) : ∃ A c xs, v = .slice A xs.length c ∧ Kd.C d w A xs.length xs ∧ xs.length ≤ c := by
  rcases open_slice ht h with ⟨hcs, _⟩ | ⟨a, len, cap, m, n, D, Pl, hcs, hb, hl, hm, hmm, hx, hi⟩
  · injection hcs with hcs
    exact ⟨none, 0, [], hcs, ⟨rfl, by simp, fun h => by simp at h⟩, Nat.le_refl _⟩
  · injection hcs with hcs
    have hml : len ≤ m := by rw [hmm]; split <;> omega
    rw [hc] at hi
    have each : ∀ i, i < len → ∃ y, ∃ c, c.length = d.sz ∧ d.K w y c ∧ ∀ j u, c[j]? = some u → w.cell? (a.add (i * d.sz + j)) = some u := by
      intro i hil
      obtain ⟨cs', h1, h2⟩ := hi i (by omega)
      obtain ⟨_, hlen, hcell⟩ := World.cells?_some h1
      obtain ⟨y, hy⟩ := one _ _ _ h2
      refine ⟨y, cs', d.K_len hy, hy, fun j u hu => ?_⟩
      have hj : j < cs'.length := (List.getElem?_eq_some_iff.1 hu).1
      rw [d.K_len hy] at hj
      have h4 := hcell j hj
      rw [Deep.add_add] at h4
      rw [h4]; exact hu
    refine ⟨some a, cap, (List.range len).attach.map fun i => Classical.choose (each i.1 (by simpa using i.2)), by simpa using hcs, ?_, by simpa using hl⟩
    refine ⟨rfl, by simp only [List.length_map, List.length_attach, List.length_range]; simp only [maxLen] at hm; omega, fun h0 => ⟨a, rfl, fun j p hp => ?_⟩⟩
    have hj : j < len := by have := (List.getElem?_eq_some_iff.1 hp).1; simpa using this
    have hp' : p = Classical.choose (each j hj) := by
      rw [List.getElem?_eq_getElem (by simpa using hj)] at hp
      have := Option.some.inj hp
      rw [← this]
      simp
    rw [hp']
    exact Classical.choose_spec (each j hj)
set_option maxRecDepth 100000 in
theorem one109 (fuel : Nat) (cs : List Value) (x : DataW H × List MemPlace) (h : DataW.trod enc Try.prog w base spare held fuel 109 cs = some x) : ∃ y, k109.K w y cs := by
  obtain ⟨xs, n, _, _, hlen, hxl, hf⟩ := DataW.trod_struct Try.underlying109 h
  have hc : Try.prog.cellsOf 109 = 3 := by kernel_rfl
  rw [hc] at hlen
  match cs, hlen with
  | [c0, c1, c2], _ =>
    match xs, hxl with
    | [y0, y1, y2], _ =>
      have h3 : Try.prog.cellsOf 3 = 1 := by kernel_rfl
      have h4 : Try.prog.cellsOf 4 = 1 := by kernel_rfl
      have k0 := hf 0 _ rfl
      have k1 := hf 1 _ rfl
      have k2 := hf 2 _ rfl
      simp only [h3, h4, List.drop_zero, List.drop_succ_cons, List.take_succ_cons, List.take_zero, List.getElem?_cons_zero, List.getElem?_cons_succ] at k0 k1 k2
      obtain ⟨n0, e0, _, _⟩ := DataW.trod_int Try.underlying3 k0
      obtain ⟨n1, e1, _, _⟩ := DataW.trod_int Try.underlying3 k1
      obtain ⟨n2, e2, _, _⟩ := DataW.trod_bool Try.underlying4 k2
      injection e0 with e0; injection e1 with e1; injection e2 with e2
      rw [e0, e1, e2]
      exact ⟨⟨n0, n1, n2⟩, k109_mk w ⟨n0, n1, n2⟩⟩
end
end Go.Proofs.YtadcahnoghnkcaaX.P27
