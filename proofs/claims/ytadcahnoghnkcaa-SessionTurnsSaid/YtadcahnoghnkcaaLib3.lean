/- append onto a block of bytes, at a step of a region that draws its order. -/
import Derived.Test.YtadcahnoghnkcaaLib2
import Derived.OrdersHeld
import Derived.RegionTactic
namespace Go.Proofs.Ytadcahnoghnkcaa
open Go.RowKit
set_option linter.unusedVariables false
set_option linter.unusedSimpArgs false
section
variable {P : Program} {ops : Array Oper} {o : Oper} {a : Act} {Q : Exit → Act → World → Prop}
theorem wp_app_b (w : World) {K : Act → World → Prop} (s x : Operand) (t : TypeId)
    (ho : o.op = .call { callee := .builtin .append, args := #[s, x], argTypes := #[t, t] })
    (e : TypeId) (ht : P.underlying t = some (.slice e)) (hinfo : (P.info? e).map (fun i => (i.zero, i.size, i.bytes)) = some (some (.int .u8 0), 1, 1))
    (g n c : Nat) (l : List UInt8) (hs : a.eval s = .slice (some ⟨g, 0, none⟩) n c) (hb : Byt w g e c l) (hn : l.length = n)
    (A : Option Addr) (m d : Nat) (k : List UInt8) (hx : a.eval x = .slice A m d) (hr : Rd w A m d 1 (u8s k)) (hsz : n + m ≤ 1000000000)
    (h : ∀ g' c' w', Byt w' g' e c' (l ++ k) → ((g' = g ∧ c' = c ∧ n + m ≤ c) ∨ (g' = w.heap.size ∧ c < n + m)) → Ch (fun i => i = g) w w' → K (a.put o.dst (.slice (some ⟨g', 0, none⟩) (n + m) c')) w') : Oper.wp P o a w K Q := by
  subst hn
  obtain ⟨g', c', w', hrun, h1, h2, h3⟩ := run_app_b (P := P) w t o.type e ht hinfo g c l hb A m d k hr hsz
  unfold Oper.wp execOp
  simp only [ho, resolve, invoke, builtin, Sem.run_bind, Sem.run_pure, Result.andThen_ok, List.map_toArray, List.map_cons, List.map_nil, hs, hx, hrun]
  exact h g' c' w' h1 h2 h3
theorem step_app_b (w : World) {K : Act → World → Prop} {E : Prop} (hgd : o.guard = none) (s x : Operand) (t : TypeId)
    (ho : o.op = .call { callee := .builtin .append, args := #[s, x], argTypes := #[t, t] })
    (e : TypeId) (ht : P.underlying t = some (.slice e)) (hinfo : (P.info? e).map (fun i => (i.zero, i.size, i.bytes)) = some (some (.int .u8 0), 1, 1))
    (g n c : Nat) (l : List UInt8) (hs : a.eval s = .slice (some ⟨g, 0, none⟩) n c) (hb : Byt w g e c l) (hn : l.length = n)
    (A : Option Addr) (m d : Nat) (k : List UInt8) (hx : a.eval x = .slice A m d) (hr : Rd w A m d 1 (u8s k)) (hsz : n + m ≤ 1000000000)
    (h : ∀ g' c' w', Byt w' g' e c' (l ++ k) → ((g' = g ∧ c' = c ∧ n + m ≤ c) ∨ (g' = w.heap.size ∧ c < n + m)) → Ch (fun i => i = g) w w' → K (a.put o.dst (.slice (some ⟨g', 0, none⟩) (n + m) c')) w') :
    if Region.wanted o (yielded ops a.tmps) = true then Oper.wp P o a w K Q else E := by
  have hw : Region.wanted o (yielded ops a.tmps) = true := by simp [Region.wanted, hgd]
  rw [if_pos hw]
  exact wp_app_b w s x t ho e ht hinfo g n c l hs hb hn A m d k hx hr hsz h
end
end Go.Proofs.Ytadcahnoghnkcaa
