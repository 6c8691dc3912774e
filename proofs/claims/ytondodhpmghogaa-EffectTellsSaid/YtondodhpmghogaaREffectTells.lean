/- The law EffectTells: which effects may be, their bytes, their order. No conditions. -/
import Derived.Test.YtondodhpmghogaaRows
import Derived.Test.YtondodhpmghogaaEf
import Derived.Test.YtondodhpmghogaaEe
import Derived.WalkKit
import Derived.ProofKit
import Derived.OpenShut
import Derived.ShutString
import Derived.ChangeOld
import Derived.Below
namespace Go.Proofs.Ytondodhpmghogaa.effectTells
open Go.ChangeShapes Go.WideShapes Go.ChangeAt Go.RowKit
open Go.ChangeMaps (open_string shut_string)
set_option linter.unusedVariables false
set_option linter.unusedSimpArgs false

theorem own : ownKnob Try.prog.godebug = none := by kernel_rfl
theorem laidOut : laidOutB Try.prog = true := by kernel_rfl

theorem walk (x0 y0 : Int) (A0 : Option Addr) (n0 c0 : Nat) (l0 : List UInt8) (x1 y1 : Int) (A1 : Option Addr) (n1 c1 : Nat) (l1 : List UInt8) (w : World) (r0 : Rd w A0 n0 c0 1 (u8s l0) ∧ x0 ≤ 9223372036854775807 ∧ y0 ≤ 9223372036854775807) (r1 : Rd w A1 n1 c1 1 (u8s l1) ∧ x1 ≤ 9223372036854775807 ∧ y1 ≤ 9223372036854775807) :
    Calls Try.prog 9 #[.agg [.int .i64 x0, .int .i64 y0, .slice A0 n0 c0].toArray, .agg [.int .i64 x1, .int .i64 y1, .slice A1 n1 c1].toArray] w fun e w' => e = .returned (.bool true) ∧ Below w.heap.size w w' := by
  exact etells_law x0 y0 A0 n0 c0 l0 x1 y1 A1 n1 c1 l1 w r0 r1
set_option maxRecDepth 100000 in
theorem lifted (os : Os) (started : os.Started) (H : Type) (enc : TypeId × Value → H) :
    ReturnsInHanded {} Try.checked os 9 .any (Rows.effectTellsSpec.pre6 enc Try.prog Try.f9 Rows.effectTellsRow.domain false) (Rows.effectTellsSpec.post enc Try.prog Try.f9 false true false false) := by
  refine returnsInHanded_of_change (C := Try.checked) own started (by kernel_rfl) Try.func9
    (ChangeSpec.witness6 (enc := enc) (C := Try.checked) false ⟨#[], #[.agg #[.int .i64 0, .int .i64 0, .slice none 0 0], .agg #[.int .i64 0, .int .i64 0, .slice none 0 0]], []⟩ 8 (by kernel_rfl) (by kernel_rfl) (by kernel_rfl) (by kernel_rfl)) ?_
  intro W base args ds gs before hval0 hW hcnd _
  have hval : ∀ (j : Nat) t v, Try.f9.params[j]? = some t → args[j]? = some v → Value.okWide Try.prog W .any base t v := hval0
  have hW' := hW
  obtain ⟨p, q, hA0, hV, rfl, hfz, hnd⟩ := hW
  have hA : DataW.TrodAll enc Try.prog W 0 (fun _ => true) true Try.f9.params.toList args.toList ds p := hA0
  rw [Try.params9] at hA hval
  obtain ⟨v0, vs0, d0, ds0, p0, q0, hargs, rfl, rfl, h0, rs0⟩ := trodAll_cons hA
  obtain ⟨v1, vs1, d1, ds1, p1, q1, rfl, rfl, rfl, h1, rs1⟩ := trodAll_cons rs0
  obtain ⟨rfl, rfl, rfl⟩ := trodAll_nil rs1
  obtain rfl : args = #[v0, v1] := by cases args; simp_all
  obtain ⟨rfl, rfl⟩ := trodVars_none hV
  obtain ⟨cs0, rfl, _⟩ := okWide_struct Try.underlying72 (hval 0 72 v0 rfl rfl)
  have k0 := h0
  have lt0 : ∀ x ∈ p0, x.block < W.heap.size := by obtain ⟨m, hm⟩ := k0; exact DataW.trod_lt m _ _ _ hm
  obtain ⟨fuel0, hf0⟩ := h0
  have hf0 : DataW.trod enc Try.prog W 0 (fun _ => true) true fuel0 72 cs0.toList = some (d0, p0) := hf0
  obtain ⟨x0, y0, A0, n0, c0, l0, hv0, r0⟩ := eff_of_trod hf0
  obtain rfl : cs0 = [.int .i64 x0, .int .i64 y0, .slice A0 n0 c0].toArray := by rw [← hv0]
  obtain ⟨cs1, rfl, _⟩ := okWide_struct Try.underlying72 (hval 1 72 v1 rfl rfl)
  have k1 := h1
  have lt1 : ∀ x ∈ p1, x.block < W.heap.size := by obtain ⟨m, hm⟩ := k1; exact DataW.trod_lt m _ _ _ hm
  obtain ⟨fuel1, hf1⟩ := h1
  have hf1 : DataW.trod enc Try.prog W 0 (fun _ => true) true fuel1 72 cs1.toList = some (d1, p1) := hf1
  obtain ⟨x1, y1, A1, n1, c1, l1, hv1, r1⟩ := eff_of_trod hf1
  obtain rfl : cs1 = [.int .i64 x1, .int .i64 y1, .slice A1 n1 c1].toArray := by rw [← hv1]
  clear hA0 hval0
  refine (walk x0 y0 A0 n0 c0 l0 x1 y1 A1 n1 c1 l1 W r0 r1).mono fun e W' ⟨he, bel⟩ => ?_
  subst he
  exact ⟨_, rfl, _, _, _, [], _, [], hW', trodAll_mk1 (shut_bool Try.underlying4 _), (trodAll_cons_mk (Below.trod laidOut (by kernel_rfl) (of_decide_eq_true (by kernel_rfl)) k0 bel lt0) (trodAll_cons_mk (Below.trod laidOut (by kernel_rfl) (of_decide_eq_true (by kernel_rfl)) k1 bel lt1) trodAll_mk0)), rfl, bel.frame _, fun h => by cases h⟩

theorem over : Rows.effectTellsRow.holds Try.pinned (OpenSpec.ofChange Rows.effectTellsSpec) :=
  OpenClaim.holds_of_wide 9 Try.f9 rfl rfl rfl rfl rfl rfl rfl ⟨rfl, rfl, rfl, rfl, rfl⟩ rfl rfl rfl rfl rfl (by kernel_rfl) Try.func9 (by kernel_rfl)
    (of_decide_eq_true (by kernel_rfl)) (by unfold Func.isWrapper; first | (rw [if_pos (by decide +kernel)]; kernel_rfl) | (rw [if_neg (by decide +kernel)]; exact ⟨rfl, rfl⟩))
    (fun os started H enc _ => lifted os started H enc)

/-- the statement -/
theorem proved : Rows.EffectTellsSaid := over
#print axioms proved
end Go.Proofs.Ytondodhpmghogaa.effectTells
