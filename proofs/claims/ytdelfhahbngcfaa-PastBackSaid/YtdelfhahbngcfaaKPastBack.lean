/- PastBack: a past as bytes reads back as itself, bytes that a past reads from are that past's bytes, and one dot more is the past joined with that dot. No conditions. -/
import Derived.Test.YtdelfhahbngcfaaRows
import Derived.Test.YtdelfhahbngcfaaKPastBacka
import Derived.Test.YtdelfhahbngcfaaKPastBackb
import Derived.Test.YtdelfhahbngcfaaKPastBackc
import Derived.Test.YtdelfhahbngcfaaKPastBackd
import Derived.Test.YtdelfhahbngcfaaKPastBacke
import Derived.WalkKit
import Derived.ProofKit
import Derived.OpenShut
import Derived.ShutString
import Derived.ChangeOld
import Derived.Below
namespace Go.Proofs.Ytdelfhahbngcfaa.pastBack
open Go.ChangeShapes Go.WideShapes Go.ChangeAt Go.RowKit Go.Proofs.YtdelfhahbngcfaaW.PrintWords YtdelfhahbngcfaaX.P07
open Go.ChangeMaps (open_string shut_string)
set_option linter.unusedVariables false
set_option linter.unusedSimpArgs false

theorem own : ownKnob Try.prog.godebug = none := by kernel_rfl
theorem laidOut : laidOutB Try.prog = true := by kernel_rfl

theorem walk (A0 : Option Addr) (c0 : Nat) (l0 : List S60) (A1 : Option Addr) (c1 : Nat) (l1 : List B8) (a2_0 : Int) (a2_1 : Int) (w : World) (r0 : Kd.C k60 w A0 l0.length l0) (hc0 : l0.length ≤ c0) (r1 : Kd.C kb8 w A1 l1.length l1) (hc1 : l1.length ≤ c1) :
    Calls Try.prog 6 #[.slice A0 l0.length c0, .slice A1 l1.length c1, .agg #[.int .i64 a2_0, .int .i64 a2_1]] w fun e w' => e = .returned (.bool true) ∧ Below w.heap.size w w' := by
  obtain ⟨k, hk⟩ := (back_ev l0 (l1.map (·.1)) ⟨a2_0, a2_1⟩ (b8_bound l1)).rounds
  have hc := tributarylaw07_PastBack.calls k A0 c0 l0 A1 c1 (l1.map (·.1)) a2_0 a2_1 true w r0 hc0 (by rw [List.length_map]; exact C_b8 r1) (by rw [List.length_map]; exact hc1) hk
  rw [List.length_map] at hc
  exact hc
set_option maxRecDepth 100000 in
theorem lifted (os : Os) (started : os.Started) (H : Type) (enc : TypeId × Value → H) :
    ReturnsInHanded {} Try.checked os 6 .any (Rows.pastBackSpec.pre6 enc Try.prog Try.f6 Rows.pastBackRow.domain false) (Rows.pastBackSpec.post enc Try.prog Try.f6 false true false false) := by
  refine returnsInHanded_of_change (C := Try.checked) own started (by kernel_rfl) Try.func6
    (ChangeSpec.witness6 (enc := enc) (C := Try.checked) false ⟨#[], #[.slice none 0 0, .slice none 0 0, .agg #[.int .i64 0, .int .i64 0]], []⟩ 8 (by kernel_rfl) (by kernel_rfl) (by kernel_rfl) (by kernel_rfl)) ?_
  intro W base args ds gs before hval0 hW hcnd _
  have hval : ∀ (j : Nat) t v, Try.f6.params[j]? = some t → args[j]? = some v → Value.okWide Try.prog W .any base t v := hval0
  have hW' := hW
  obtain ⟨p, q, hA0, hV, rfl, hfz, hnd⟩ := hW
  have hA : DataW.TrodAll enc Try.prog W 0 (fun _ => true) true Try.f6.params.toList args.toList ds p := hA0
  rw [Try.params6] at hA hval
  obtain ⟨v0, vs0, d0, ds0, p0, q0, hargs, rfl, rfl, h0, rs0⟩ := trodAll_cons hA
  obtain ⟨v1, vs1, d1, ds1, p1, q1, rfl, rfl, rfl, h1, rs1⟩ := trodAll_cons rs0
  obtain ⟨v2, vs2, d2, ds2, p2, q2, rfl, rfl, rfl, h2, rs2⟩ := trodAll_cons rs1
  obtain ⟨rfl, rfl, rfl⟩ := trodAll_nil rs2
  obtain rfl : args = #[v0, v1, v2] := by cases args; simp_all
  obtain ⟨rfl, rfl⟩ := trodVars_none hV
  obtain ⟨a0, len0, cap0, rfl⟩ := okWide_slice Try.underlying22 (hval 0 22 v0 rfl rfl)
  have k0 := h0
  have lt0 : ∀ x ∈ p0, x.block < W.heap.size := by obtain ⟨m, hm⟩ := k0; exact DataW.trod_lt m _ _ _ hm
  obtain ⟨fuel0, hf0⟩ := h0
  have hf0 : DataW.trod enc Try.prog W 0 (fun _ => true) true fuel0 22 [.slice a0 len0 cap0] = some (d0, p0) := hf0
  obtain ⟨A0, c0, l0, hv0, r0, hc0⟩ := C_of_trod k60 Try.underlying22 (by kernel_rfl) one60t hf0
  cases hv0
  obtain ⟨a1, len1, cap1, rfl⟩ := okWide_slice Try.underlying23 (hval 1 23 v1 rfl rfl)
  have k1 := h1
  have lt1 : ∀ x ∈ p1, x.block < W.heap.size := by obtain ⟨m, hm⟩ := k1; exact DataW.trod_lt m _ _ _ hm
  obtain ⟨fuel1, hf1⟩ := h1
  have hf1 : DataW.trod enc Try.prog W 0 (fun _ => true) true fuel1 23 [.slice a1 len1 cap1] = some (d1, p1) := hf1
  obtain ⟨A1, c1, l1, hv1, r1, hc1⟩ := C_of_trod kb8 Try.underlying23 (by kernel_rfl) one5t hf1
  cases hv1
  obtain ⟨cs2, rfl, _⟩ := okWide_struct Try.underlying41 (hval 2 41 v2 rfl rfl)
  have k2 := h2
  have lt2 : ∀ x ∈ p2, x.block < W.heap.size := by obtain ⟨m, hm⟩ := k2; exact DataW.trod_lt m _ _ _ hm
  obtain ⟨fuel2, hf2⟩ := h2
  have hf2 : DataW.trod enc Try.prog W 0 (fun _ => true) true fuel2 41 cs2.toList = some (d2, p2) := hf2
  obtain ⟨y2, hy2⟩ := one41 _ _ _ hf2
  have hy2 := k41_open hy2
  obtain ⟨a2_0, a2_1⟩ := y2
  obtain rfl : cs2 = #[.int .i64 a2_0, .int .i64 a2_1] := by apply Array.ext'; rw [hy2]
  clear hA0 hval0
  refine (walk a0 cap0 l0 a1 cap1 l1 a2_0 a2_1 W r0 hc0 r1 hc1 ).mono fun e W' ⟨he, bel⟩ => ?_
  subst he
  exact ⟨_, rfl, _, _, _, [], _, [], hW', trodAll_mk1 (shut_bool Try.underlying4 _), (trodAll_cons_mk (Below.trod laidOut (by kernel_rfl) (of_decide_eq_true (by kernel_rfl)) k0 bel lt0) (trodAll_cons_mk (Below.trod laidOut (by kernel_rfl) (of_decide_eq_true (by kernel_rfl)) k1 bel lt1) (trodAll_cons_mk (Below.trod laidOut (by kernel_rfl) (of_decide_eq_true (by kernel_rfl)) k2 bel lt2) trodAll_mk0))), rfl, bel.frame _, fun h => by cases h⟩

theorem over : Rows.pastBackRow.holds Try.pinned (OpenSpec.ofChange Rows.pastBackSpec) :=
  OpenClaim.holds_of_wide 6 Try.f6 rfl rfl rfl rfl rfl rfl rfl ⟨rfl, rfl, rfl, rfl, rfl⟩ rfl rfl rfl rfl rfl (by kernel_rfl) Try.func6 (by kernel_rfl)
    (of_decide_eq_true (by kernel_rfl)) (by unfold Func.isWrapper; first | (rw [if_pos (by decide +kernel)]; kernel_rfl) | (rw [if_neg (by decide +kernel)]; exact ⟨rfl, rfl⟩))
    (fun os started H enc _ => lifted os started H enc)

/-- the statement -/
theorem proved : Rows.PastBackSaid := over
#print axioms proved
end Go.Proofs.Ytdelfhahbngcfaa.pastBack
