/- Words for scripts of acts that come in: slices of four ints. No conditions. -/
import Derived.Test.YtadcahnoghnkcaaGr
namespace Go.Proofs.YtadcahnoghnkcaaX.P27
open Go.ChangeShapes Go.WideShapes Go.RowKit Go.Deep Go.Proofs.YtadcahnoghnkcaaW.PrintWords Go.Proofs.YtadcahnoghnkcaaW.PrintLast Go.Proofs.YtadcahnoghnkcaaW.PrintMore
set_option linter.unusedVariables false
set_option linter.unusedSimpArgs false

section
variable {H : Type} {enc : TypeId × Value → H} {w : World} {base : Nat} {spare : Nat → Bool} {held : Bool}
set_option maxRecDepth 100000 in
theorem one107 (fuel : Nat) (cs : List Value) (x : DataW H × List MemPlace) (h : DataW.trod enc Try.prog w base spare held fuel 107 cs = some x) : ∃ y, k107.K w y cs := by
  obtain ⟨xs, n, _, _, hlen, hxl, hf⟩ := DataW.trod_struct Try.underlying107 h
  have hc : Try.prog.cellsOf 107 = 4 := by kernel_rfl
  rw [hc] at hlen
  match cs, hlen with
  | [c0, c1, c2, c3], _ =>
    match xs, hxl with
    | [y0, y1, y2, y3], _ =>
      have h3 : Try.prog.cellsOf 3 = 1 := by kernel_rfl
      have k0 := hf 0 _ rfl
      have k1 := hf 1 _ rfl
      have k2 := hf 2 _ rfl
      have k3 := hf 3 _ rfl
      simp only [h3, List.drop_zero, List.drop_succ_cons, List.take_succ_cons, List.take_zero, List.getElem?_cons_zero, List.getElem?_cons_succ] at k0 k1 k2 k3
      obtain ⟨n0, e0, _, _⟩ := DataW.trod_int Try.underlying3 k0
      obtain ⟨n1, e1, _, _⟩ := DataW.trod_int Try.underlying3 k1
      obtain ⟨n2, e2, _, _⟩ := DataW.trod_int Try.underlying3 k2
      obtain ⟨n3, e3, _, _⟩ := DataW.trod_int Try.underlying3 k3
      injection e0 with e0; injection e1 with e1; injection e2 with e2; injection e3 with e3
      rw [e0, e1, e2, e3]
      exact ⟨⟨n0, n1, n2, n3⟩, k107_mk w ⟨n0, n1, n2, n3⟩⟩
end
end Go.Proofs.YtadcahnoghnkcaaX.P27
