/- A region that draws its order, in a round of a range over a function: out of the same region walked as everywhere. -/
import Derived.OrdersIn
import Derived.OrdersHeld
import Derived.RangeFuncCalls
import Derived.RangeFuncLeaves
namespace Go.Proofs.Ytncahekankbalaa
open Go
set_option linter.unusedVariables false
set_option linter.unusedSimpArgs false

def plainOps (ops : Array Oper) : Bool := ops.all fun o => match o.op with | .defer _ => false | _ => true
theorem plain_at {ops : Array Oper} (h : plainOps ops = true) {i : Nat} {o : Oper} (hi : ops[i]? = some o) (c : Go.Call) : o.op ≠ .defer c := by
  intro e
  have hlt : i < ops.size := (Array.getElem?_eq_some_iff.1 hi).1
  have := (Array.all_eq_true.1 h) i hlt
  rw [Array.getElem?_eq_getElem hlt] at hi
  cases hi
  rw [e] at this
  cases this
section
variable {P : Program} {ops : Array Oper} {Q : Exit → Act → World → Prop} {md : Region.Mode} {S : World → Prop}
theorem wpOp_round {l n i : Nat} {K : Act → World → Prop} {a : Act} {w : World} (hp : plainOps ops = true) (hQ : ¬ LetsOut Q) (h : wpOp P ops Q i K a w) : wpOpIn (Fence.wide.inRound l) n P ops Q i K a w := by
  unfold wpOp at h
  unfold wpOpIn
  cases ho : ops[i]? with
  | none => simpa [ho] using h
  | some o =>
    simp only [ho] at h ⊢
    split
    · rename_i hw
      simp only [hw, if_true] at h
      rcases h with h | ⟨_, h⟩
      case inr => exact absurd h hQ
      unfold Oper.wpIn
      refine ⟨fun _ _ => trivial, ?_⟩
      have hs : o.semAt (Fence.wide.inRound l).round a.eval = execOp a.eval o := by
        unfold Oper.semAt
        split
        · rename_i c _ hc
          exact absurd hc (plain_at hp ho c)
        · rfl
      rw [hs]
      unfold Oper.wp at h
      generalize (execOp a.eval o).run P w = r at *
      cases r with
      | ok x w' =>
        cases x <;> simp only [Oper.upon, Oper.uponIn] at h ⊢ <;> first
          | exact h
          | exact ⟨(fun h => by cases h), CallsIn.inRound l (callsIn_wide.2 h)⟩
          | (refine ⟨(fun h => by cases h), fun c cs hroom => ?_⟩
             obtain ⟨v, w2, r, s⟩ := h c cs
             exact ⟨v, w2, r, stepsIn_wide.2 s⟩)
      | halt x w' => cases x <;> simp only [Oper.upon, Oper.uponIn] at h ⊢ <;> exact h
    · rename_i hw
      simp only [hw] at h
      exact ⟨fun _ _ => trivial, h⟩
theorem wpAny_round {l n : Nat} (hp : plainOps ops = true) (hQ : ¬ LetsOut Q) : ∀ (fuel : Nat) (listed : Array Bool) (a : Act) (w : World), wpAny P md ops Q fuel listed a w → wpAnyIn (Fence.wide.inRound l) n P md ops Q fuel listed a w
  | 0, _, _, _, h => h
  | fuel + 1, _, _, _, h => ⟨h.1, fun i hi => wpOpIn_mono (fun a w hh => wpAny_round hp hQ fuel _ a w hh) (wpOp_round hp hQ (h.2 i hi))⟩
theorem wpIn_region_round {l n id : Nat} {a : Act} {w : World} (hm : P.follows .mixedOrders = true) (hp : plainOps ops = true) (hQ : ¬ LetsOut Q)
    (h : wpAnyH P .any ops Q S ops.size (Array.replicate ops.size false) a w.drew) : (Code.region id ops true).wpIn (Fence.wide.inRound l) n P Q a w :=
  wpIn_region_any hm (wpAny_round hp hQ _ _ _ _ (wpAny_of_held _ _ _ _ h))
end
end Go.Proofs.Ytncahekankbalaa
