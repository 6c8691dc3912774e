/- A row's words: an effect by value. Conditions: none. -/
import Derived.Test.YtondodhpmghogaaL5
namespace Go.Proofs.Ytondodhpmghogaa
open Go.ChangeShapes Go.WideShapes Go.RowKit Go.Deep
set_option linter.unusedVariables false
set_option linter.unusedSimpArgs false
section
variable {H : Type} {enc : TypeId × Value → H} {w : World} {base : Nat} {spare : Nat → Bool} {held : Bool}
set_option maxRecDepth 100000 in
theorem eff_of_trod {fuel : Nat} {cs : List Value} {x : DataW H × List MemPlace} (h : DataW.trod enc Try.prog w base spare held fuel 72 cs = some x) :
    ∃ k m A n c l, cs = [.int .i64 k, .int .i64 m, .slice A n c] ∧ (Rd w A n c 1 (u8s l) ∧ k ≤ 9223372036854775807 ∧ m ≤ 9223372036854775807) := by
  obtain ⟨xs, n, _, _, hlen, hxl, hf⟩ := DataW.trod_struct Try.underlying72 h
  have hc4 : Try.prog.cellsOf 72 = 3 := by kernel_rfl
  rw [hc4] at hlen
  match cs, hlen with
  | [c0, c1, c2], _ =>
    match xs, hxl with
    | [y0, y1, y2], _ =>
      have h3 : Try.prog.cellsOf 3 = 1 := by kernel_rfl
      have h26 : Try.prog.cellsOf 26 = 1 := by kernel_rfl
      have k0 := hf 0 _ rfl
      have k1 := hf 1 _ rfl
      have k2 := hf 2 _ rfl
      simp only [h3, h26, List.drop_zero, List.drop_succ_cons, List.take_succ_cons, List.take_zero, List.getElem?_cons_zero, List.getElem?_cons_succ] at k0 k1 k2
      obtain ⟨n0, e0, _, hw0⟩ := DataW.trod_int Try.underlying3 k0
      obtain ⟨n1, e1, _, hw1⟩ := DataW.trod_int Try.underlying3 k1
      obtain ⟨A, n, c, l, e2, hr⟩ := bytes_of_trod Try.underlying26 Try.underlying5 (by kernel_rfl) k2
      injection e0 with e0; injection e1 with e1
      exact ⟨n0, n1, A, n, c, l, by rw [e0, e1, e2], hr, (bounds_i64 hw0).2, (bounds_i64 hw1).2⟩
end
end Go.Proofs.Ytondodhpmghogaa
