/- Functions that the print does not take: the way up, a list put together, copied, written over. Conditions: fewer than a million nodes. -/
import Derived.Test.YtadcahnoghnkcaaG4
namespace Go.Proofs.YtadcahnoghnkcaaX.P27
open Go.RowKit Go.Proofs.YtadcahnoghnkcaaW.PrintWords Go.Proofs.YtadcahnoghnkcaaW.PrintLast Go.Proofs.YtadcahnoghnkcaaW.PrintMore
set_option linter.unusedVariables false
set_option linter.unusedSimpArgs false

def topo_way.f (l0 : List S109) (a1 : Int) : Option (List Int) := if l0.length < 1000000 then some (chn l0 (l0.length + 1) a1) else none
theorem topo_way.calls (A0 : Option Addr) (c0 : Nat) (l0 : List (S109)) (a1 : Int) (r : List Int) (w : World) (hr0 : Kd.C k109 w A0 l0.length l0) (hc0 : l0.length ≤ c0) (h : topo_way.f l0 a1 = some r) :
    Calls Try.prog 82 #[.slice A0 l0.length c0, .int .i64 a1] w fun e w' => ∃ v0_ : Value, e = .returned (v0_) ∧ Kd.R (Kd.int .i64) 3 w' w.heap.size (fun _ => True) v0_ r ∧ Below w.heap.size w w' := by
  unfold topo_way.f at h
  split at h
  · rename_i hn
    cases h
    exact way1 A0 c0 l0 a1 w hr0 hc0 hn
  · cases h
def api_Member_87.f (l0 : List (List S109)) : Option (List S109) := if l0.length < 1000 then (if l0.flatten.length < 1000000 then some l0.flatten else none) else none
theorem api_Member_87.calls (A0 : Option Addr) (c0 : Nat) (l0 : List (List (S109))) (r : List S109) (w : World) (hr0 : Kd.C (Kd.slice 109 k109) w A0 l0.length l0) (hc0 : l0.length ≤ c0) (h : api_Member_87.f l0 = some r) :
    Calls Try.prog 87 #[.slice A0 l0.length c0] w fun e w' => ∃ v0_ : Value, e = .returned (v0_) ∧ Kd.R k109 109 w' w.heap.size (fun _ => True) v0_ r ∧ Below w.heap.size w w' := by
  unfold api_Member_87.f at h
  split at h
  · rename_i h1
    split at h
    · rename_i h2
      cases h
      exact concat_any A0 c0 l0 w hr0 hc0 h1 h2
    · cases h
  · cases h
def api_Member_88.f (l0 : List S109) : Option (List S109) := if l0.length < 1000000 then some l0 else none
theorem api_Member_88.calls (A0 : Option Addr) (c0 : Nat) (l0 : List (S109)) (r : List S109) (w : World) (hr0 : Kd.C k109 w A0 l0.length l0) (hc0 : l0.length ≤ c0) (h : api_Member_88.f l0 = some r) :
    Calls Try.prog 88 #[.slice A0 l0.length c0] w fun e w' => ∃ v0_ : Value, e = .returned (v0_) ∧ Kd.R k109 109 w' w.heap.size (fun _ => True) v0_ r ∧ Below w.heap.size w w' := by
  unfold api_Member_88.f at h
  split at h
  · rename_i hn
    cases h
    exact clone_any A0 c0 l0 w hr0 hc0 hn
  · cases h
def tributarykit_OverMembers.f (l0 : List S109) : Option (List S109) := some (List.replicate l0.length ⟨-7, 0, false⟩)
theorem tributarykit_OverMembers.calls (P0_ : Nat → Prop) (u9000_ : Value) (l0 : List S109) (r : List S109) (w0 w : World) (hB : Below w0.heap.size w0 w) (ho0 : Kd.R k109 109 w w0.heap.size P0_ u9000_ l0) (h : tributarykit_OverMembers.f l0 = some r) :
    Calls Try.prog 57 #[u9000_] w fun e w' => e = .returned (.tuple #[]) ∧ Kd.R k109 109 w' w0.heap.size (fun k_ => P0_ k_ ∨ w.heap.size ≤ k_) u9000_ r ∧ Below w0.heap.size w0 w' ∧ Kept w w' (fun k_ => P0_ k_) := by
  cases h
  exact over_any P0_ u9000_ l0 w0 w hB ho0
end Go.Proofs.YtadcahnoghnkcaaX.P27
