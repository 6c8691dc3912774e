/- What is known is told true, with rounds enough or told at all. -/
import Derived.Test.YtadcahnoghnkcaaP27t34
namespace Go.Proofs.YtadcahnoghnkcaaX.P27
open Go.RowKit Go.Proofs.YtadcahnoghnkcaaW.PrintWords Go.Proofs.YtadcahnoghnkcaaW.PrintLast Go.Proofs.YtadcahnoghnkcaaW.PrintMore

theorem known_more {k : Nat} {r : Bool} (h : tributarylaw27_TopoKnown.f k = some r) : ∀ j, tributarylaw27_TopoKnown.f (k + j) = some r
  | 0 => h
  | j + 1 => tributarylaw27_TopoKnown.mono (k + j) r (known_more h j)
theorem known_true {k : Nat} {r : Bool} (h : tributarylaw27_TopoKnown.f k = some r) : r = true := by
  obtain ⟨k', h'⟩ := known
  have e1 := known_more h k'
  have e2 := known_more h' k
  rw [Nat.add_comm k' k, e1] at e2
  exact Option.some.inj e2
theorem tributarylaw27_TopoKnown.callsA (k : Nat) (r : Bool) (w : World) (h : tributarylaw27_TopoKnown.f k = some r) :
    Calls Try.prog 11 #[] w fun e w' => e = .returned (.bool r) ∧ Below w.heap.size w w' := tributarylaw27_TopoKnown.calls k r w h (known_true h)
end Go.Proofs.YtadcahnoghnkcaaX.P27
