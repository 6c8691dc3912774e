/- DotBytes: a dot as bytes, and bytes as a dot, as the reference says; what is lent stays. Conditions: what is laid ahead. -/
import Derived.Test.YtdelfhahbngcfaaDoorRows
import Derived.Test.YtdelfhahbngcfaaDoorCards
import Derived.Test.YtdelfhahbngcfaaDoorTie
import Derived.Test.YtdelfhahbngcfaaDoorKDotBytesa
import Derived.Test.YtdelfhahbngcfaaDoorKDotBytesb
import Derived.Test.YtdelfhahbngcfaaDoorKDotBytesc
import Derived.Test.YtdelfhahbngcfaaDoorKDotBytesd
import Derived.SevenTiedAt
import Derived.WalkKit
import Derived.ProofKit
import Derived.OpenShut
import Derived.ShutString
import Derived.ChangeOld
import Derived.Below
namespace Go.Proofs.YtdelfhahbngcfaaDoor.dotBytes
open Go.ChangeShapes Go.WideShapes Go.ChangeAt Go.RowKit Go.Proofs.YtdelfhahbngcfaaDoorW.PrintWords Go.Proofs.YtdelfhahbngcfaaDoorX.P06
open Go.ChangeMaps (open_string shut_string)
set_option linter.unusedVariables false
set_option linter.unusedSimpArgs false

theorem own : ownKnob Tryd.prog.godebug = none := by kernel_rfl
theorem laidOut : laidOutB Tryd.prog = true := by kernel_rfl

theorem walk (a0_0 : Int) (a0_1 : Int) (A1 : Option Addr) (n1 c1 : Nat) (l1 : List UInt8) (w : World) (r1 : Rd w A1 n1 c1 1 (u8s l1)) (hT : Laid w) :
    Calls Tryd.prog 4 #[.agg #[.int .i64 a0_0, .int .i64 a0_1], .slice A1 n1 c1] w fun e w' => e = .returned (.bool true) ∧ Below w.heap.size w w' := by
  exact dotbytes_walk a0_0 a0_1 A1 n1 c1 l1 w r1 hT
set_option maxRecDepth 100000 in
theorem lifted (os : Os) (started : os.Started) (H : Type) (enc : TypeId × Value → H) :
    ReturnsInHanded {} Tryd.checked os 4 .any (fun w args => (Rows.dotBytesSpec.pre enc Tryd.prog Tryd.f4 Rows.dotBytesRow.domain false w args ∧ laidMet Tryd.prog listed w) ∧ sizedMet enc Tryd.prog Tryd.f4 (OpenSpec.ofChange Rows.dotBytesSpec) false w args)
      (Rows.dotBytesSpec.post enc Tryd.prog Tryd.f4 false true false false) := by
  refine returnsInHanded_of_change_and (C := Tryd.checked) (X := fun w _ => laidMet Tryd.prog listed w) (fun _ _ _ hh h => h.of_heap hh) own started (by kernel_rfl) Tryd.func4
    (ChangeSpec.witness_at (enc := enc) (C := Tryd.checked) (os := os) (X := fun w _ => laidMet Tryd.prog listed w) false (laidWorld os) #[.agg #[.int .i64 0, .int .i64 0], .slice none 0 0] 8 rfl (by kernel_rfl) (by kernel_rfl) (by kernel_rfl) (by kernel_rfl) (by kernel_rfl) (laidWorld_met os _)) ?_
  intro W base args ds gs before hval0 hW hcnd _ hL _
  have hval : ∀ (j : Nat) t v, Tryd.f4.params[j]? = some t → args[j]? = some v → Value.okWide Tryd.prog W .any base t v := hval0
  have hW' := hW
  obtain ⟨p, q, hA0, hV, rfl, hfz, hnd⟩ := hW
  have hA : DataW.TrodAll enc Tryd.prog W 0 (fun _ => true) true Tryd.f4.params.toList args.toList ds p := hA0
  rw [Tryd.params4] at hA hval
  obtain ⟨v0, vs0, d0, ds0, p0, q0, hargs, rfl, rfl, h0, rs0⟩ := trodAll_cons hA
  obtain ⟨v1, vs1, d1, ds1, p1, q1, rfl, rfl, rfl, h1, rs1⟩ := trodAll_cons rs0
  obtain ⟨rfl, rfl, rfl⟩ := trodAll_nil rs1
  obtain rfl : args = #[v0, v1] := by cases args; simp_all
  obtain ⟨rfl, rfl⟩ := trodVars_none hV
  obtain ⟨cs0, rfl, _⟩ := okWide_struct Tryd.underlying23 (hval 0 23 v0 rfl rfl)
  have k0 := h0
  have lt0 : ∀ x ∈ p0, x.block < W.heap.size := by obtain ⟨m, hm⟩ := k0; exact DataW.trod_lt m _ _ _ hm
  obtain ⟨fuel0, hf0⟩ := h0
  have hf0 : DataW.trod enc Tryd.prog W 0 (fun _ => true) true fuel0 23 cs0.toList = some (d0, p0) := hf0
  obtain ⟨y0, hy0⟩ := one23 _ _ _ hf0
  have hy0 := k23_open hy0
  obtain ⟨a0_0, a0_1⟩ := y0
  obtain rfl : cs0 = #[.int .i64 a0_0, .int .i64 a0_1] := by apply Array.ext'; rw [hy0]
  obtain ⟨a1, len1, cap1, rfl⟩ := okWide_slice Tryd.underlying31 (hval 1 31 v1 rfl rfl)
  have k1 := h1
  have lt1 : ∀ x ∈ p1, x.block < W.heap.size := by obtain ⟨m, hm⟩ := k1; exact DataW.trod_lt m _ _ _ hm
  obtain ⟨fuel1, hf1⟩ := h1
  have hf1 : DataW.trod enc Tryd.prog W 0 (fun _ => true) true fuel1 31 [.slice a1 len1 cap1] = some (d1, p1) := hf1
  obtain ⟨A1, n1, c1, l1, hv1, r1⟩ := bytes_of_trod Tryd.underlying31 Tryd.underlying5 (by kernel_rfl) hf1
  cases hv1
  clear hA0 hval0
  refine (walk a0_0 a0_1 a1 len1 cap1 l1 W  r1 (laid_of_met hL)).mono fun e W' ⟨he, bel⟩ => ?_
  subst he
  exact ⟨_, rfl, _, _, _, [], _, [], hW', trodAll_mk1 (shut_bool Tryd.underlying4 _), (trodAll_cons_mk (Below.trod laidOut (by kernel_rfl) (of_decide_eq_true (by kernel_rfl)) k0 bel lt0) (trodAll_cons_mk (Below.trod laidOut (by kernel_rfl) (of_decide_eq_true (by kernel_rfl)) k1 bel lt1) trodAll_mk0)), rfl, bel.frame _, fun h => by cases h⟩

theorem over : Rows.dotBytesRow.holds Tryd.pinned (OpenSpec.ofChange Rows.dotBytesSpec) :=
  OpenClaim.holds_of_wide 4 Tryd.f4 rfl rfl rfl rfl rfl rfl rfl ⟨rfl, rfl, rfl, rfl, rfl⟩ rfl rfl rfl rfl rfl (by kernel_rfl) Tryd.func4 (by kernel_rfl)
    (of_decide_eq_true (by kernel_rfl)) (by unfold Func.isWrapper; first | (rw [if_pos (by decide +kernel)]; kernel_rfl) | (rw [if_neg (by decide +kernel)]; exact ⟨rfl, rfl⟩))
    (fun os started H enc _ => lifted os started H enc)

theorem noStand : ∀ (j : Nat) (t : TypeId), (#[23, 31] : Array TypeId)[j]? = some t → Tryd.prog.wantsStandIn t = false
  | 0, t, ht => by
    obtain rfl : 23 = t := by simpa using ht
    kernel_rfl
  | 1, t, ht => by
    obtain rfl : 31 = t := by simpa using ht
    kernel_rfl
  | n + 2, _, ht => by simp at ht
/-- the statement -/
theorem proved : Rows.DotBytesCardSaid :=
  Claim7.holds_tied_plain_at .later [] [.data, .data, .data, .sentinel, .sentinel] true (true, "7fee571fa342490a5f3e98a13adc3f41eb20d9c8bbc9203382d5786f277cb21f") true
    over (fun _ h => by cases h) (by kernel_rfl) (fun _ h => by cases h) dotBytes_row_tie rfl ⟨rfl, rfl⟩ (by kernel_rfl) rfl
    (fun f fn hf hfn => by
      obtain rfl : f = 4 := Option.some.inj ((show Tryd.prog.funcNamed "tributary/tributarylaw06.DotBytes" = some 4 by kernel_rfl).symm.trans hf) |>.symm
      obtain rfl : fn = Tryd.f4 := (Option.some.inj (Tryd.func4.symm.trans hfn)).symm
      exact ⟨by kernel_rfl, fun j t ht => by
        rw [Tryd.params4] at ht
        exact noStand j t ht⟩)
    (by kernel_rfl)
#print axioms proved
end Go.Proofs.YtdelfhahbngcfaaDoor.dotBytes
