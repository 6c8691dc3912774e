/- DotBack: bytes and texts of dots read back as the dot, and their order is the order of their bytes. Conditions: what is laid ahead. -/
import Derived.Test.YtdelfhahbngcfaaDoorRows
import Derived.Test.YtdelfhahbngcfaaDoorCards
import Derived.Test.YtdelfhahbngcfaaDoorTie
import Derived.Test.YtdelfhahbngcfaaDoorKDotBacka
import Derived.Test.YtdelfhahbngcfaaDoorKDotBackb
import Derived.Test.YtdelfhahbngcfaaDoorKDotBackc
import Derived.Test.YtdelfhahbngcfaaDoorKDotBackd
import Derived.SevenTiedAt
import Derived.WalkKit
import Derived.ProofKit
import Derived.OpenShut
import Derived.ShutString
import Derived.ChangeOld
import Derived.Below
namespace Go.Proofs.YtdelfhahbngcfaaDoor.dotBack
open Go.ChangeShapes Go.WideShapes Go.ChangeAt Go.RowKit Go.Proofs.YtdelfhahbngcfaaDoorW.PrintWords Go.Proofs.YtdelfhahbngcfaaDoorX.P06
open Go.ChangeMaps (open_string shut_string)
set_option linter.unusedVariables false
set_option linter.unusedSimpArgs false

theorem own : ownKnob Tryd.prog.godebug = none := by kernel_rfl
theorem laidOut : laidOutB Tryd.prog = true := by kernel_rfl

theorem walk (a0_0 : Int) (a0_1 : Int) (a1_0 : Int) (a1_1 : Int) (A2 : Option Addr) (c2 : Nat) (l2 : List B8) (a3 : ByteArray) (w : World) (r2 : Kd.C kb8 w A2 l2.length l2) (hc2 : l2.length ≤ c2) (w3 : a3.size ≤ maxLen) (hT : Laid w) :
    Calls Tryd.prog 8 #[.agg #[.int .i64 a0_0, .int .i64 a0_1], .agg #[.int .i64 a1_0, .int .i64 a1_1], .slice A2 l2.length c2, .string a3] w fun e w' => e = .returned (.bool true) ∧ Below w.heap.size w w' := by
  obtain ⟨k, hk⟩ := (back_ev a0_0 a0_1 a1_0 a1_1 (l2.map (·.1)) a3 (b8_bound l2)).rounds
  have hc := tributarylaw06_DotBack.calls k a0_0 a0_1 a1_0 a1_1 A2 c2 (l2.map (·.1)) a3 true w (by rw [List.length_map]; exact C_b8 r2) (by rw [List.length_map]; exact hc2) hk hT rfl
  rw [List.length_map] at hc
  exact hc
set_option maxRecDepth 100000 in
theorem lifted (os : Os) (started : os.Started) (H : Type) (enc : TypeId × Value → H) :
    ReturnsInHanded {} Tryd.checked os 8 .any (fun w args => (Rows.dotBackSpec.pre enc Tryd.prog Tryd.f8 Rows.dotBackRow.domain false w args ∧ laidMet Tryd.prog listed w) ∧ sizedMet enc Tryd.prog Tryd.f8 (OpenSpec.ofChange Rows.dotBackSpec) false w args)
      (Rows.dotBackSpec.post enc Tryd.prog Tryd.f8 false true false false) := by
  refine returnsInHanded_of_change_and (C := Tryd.checked) (X := fun w _ => laidMet Tryd.prog listed w) (fun _ _ _ hh h => h.of_heap hh) own started (by kernel_rfl) Tryd.func8
    (ChangeSpec.witness_at (enc := enc) (C := Tryd.checked) (os := os) (X := fun w _ => laidMet Tryd.prog listed w) false (laidWorld os) #[.agg #[.int .i64 0, .int .i64 0], .agg #[.int .i64 0, .int .i64 0], .slice none 0 0, .string ByteArray.empty] 8 rfl (by kernel_rfl) (by kernel_rfl) (by kernel_rfl) (by kernel_rfl) (by kernel_rfl) (laidWorld_met os _)) ?_
  intro W base args ds gs before hval0 hW hcnd _ hL _
  have hval : ∀ (j : Nat) t v, Tryd.f8.params[j]? = some t → args[j]? = some v → Value.okWide Tryd.prog W .any base t v := hval0
  have hW' := hW
  obtain ⟨p, q, hA0, hV, rfl, hfz, hnd⟩ := hW
  have hA : DataW.TrodAll enc Tryd.prog W 0 (fun _ => true) true Tryd.f8.params.toList args.toList ds p := hA0
  rw [Tryd.params8] at hA hval
  obtain ⟨v0, vs0, d0, ds0, p0, q0, hargs, rfl, rfl, h0, rs0⟩ := trodAll_cons hA
  obtain ⟨v1, vs1, d1, ds1, p1, q1, rfl, rfl, rfl, h1, rs1⟩ := trodAll_cons rs0
  obtain ⟨v2, vs2, d2, ds2, p2, q2, rfl, rfl, rfl, h2, rs2⟩ := trodAll_cons rs1
  obtain ⟨v3, vs3, d3, ds3, p3, q3, rfl, rfl, rfl, h3, rs3⟩ := trodAll_cons rs2
  obtain ⟨rfl, rfl, rfl⟩ := trodAll_nil rs3
  obtain rfl : args = #[v0, v1, v2, v3] := by cases args; simp_all
  obtain ⟨rfl, rfl⟩ := trodVars_none hV
  obtain ⟨cs0, rfl, _⟩ := okWide_struct Tryd.underlying23 (hval 0 23 v0 rfl rfl)
  have k0 := h0
  have lt0 : ∀ x ∈ p0, x.block < W.heap.size := by obtain ⟨m, hm⟩ := k0; exact DataW.trod_lt m _ _ _ hm
  obtain ⟨fuel0, hf0⟩ := h0
  have hf0 : DataW.trod enc Tryd.prog W 0 (fun _ => true) true fuel0 23 cs0.toList = some (d0, p0) := hf0
  obtain ⟨y0, hy0⟩ := one23 _ _ _ hf0
  have hy0 := k23_open hy0
  obtain ⟨a0_0, a0_1⟩ := y0
  obtain rfl : cs0 = #[.int .i64 a0_0, .int .i64 a0_1] := by apply Array.ext'; rw [hy0]
  obtain ⟨cs1, rfl, _⟩ := okWide_struct Tryd.underlying23 (hval 1 23 v1 rfl rfl)
  have k1 := h1
  have lt1 : ∀ x ∈ p1, x.block < W.heap.size := by obtain ⟨m, hm⟩ := k1; exact DataW.trod_lt m _ _ _ hm
  obtain ⟨fuel1, hf1⟩ := h1
  have hf1 : DataW.trod enc Tryd.prog W 0 (fun _ => true) true fuel1 23 cs1.toList = some (d1, p1) := hf1
  obtain ⟨y1, hy1⟩ := one23 _ _ _ hf1
  have hy1 := k23_open hy1
  obtain ⟨a1_0, a1_1⟩ := y1
  obtain rfl : cs1 = #[.int .i64 a1_0, .int .i64 a1_1] := by apply Array.ext'; rw [hy1]
  obtain ⟨a2, len2, cap2, rfl⟩ := okWide_slice Tryd.underlying31 (hval 2 31 v2 rfl rfl)
  have k2 := h2
  have lt2 : ∀ x ∈ p2, x.block < W.heap.size := by obtain ⟨m, hm⟩ := k2; exact DataW.trod_lt m _ _ _ hm
  obtain ⟨fuel2, hf2⟩ := h2
  have hf2 : DataW.trod enc Tryd.prog W 0 (fun _ => true) true fuel2 31 [.slice a2 len2 cap2] = some (d2, p2) := hf2
  obtain ⟨A2, c2, l2, hv2, r2, hc2⟩ := C_of_trod kb8 Tryd.underlying31 (by kernel_rfl) one5t hf2
  cases hv2
  obtain ⟨a3, rfl, rfl, rfl, w3⟩ := open_string Tryd.underlying9 (hval 3 9 v3 rfl rfl) h3
  clear hA0 hval0
  refine (walk a0_0 a0_1 a1_0 a1_1 a2 cap2 l2 a3 W   r2 hc2 w3 (laid_of_met hL)).mono fun e W' ⟨he, bel⟩ => ?_
  subst he
  exact ⟨_, rfl, _, _, _, [], _, [], hW', trodAll_mk1 (shut_bool Tryd.underlying4 _), (trodAll_cons_mk (Below.trod laidOut (by kernel_rfl) (of_decide_eq_true (by kernel_rfl)) k0 bel lt0) (trodAll_cons_mk (Below.trod laidOut (by kernel_rfl) (of_decide_eq_true (by kernel_rfl)) k1 bel lt1) (trodAll_cons_mk (Below.trod laidOut (by kernel_rfl) (of_decide_eq_true (by kernel_rfl)) k2 bel lt2) (trodAll_cons_mk (shut_string Tryd.underlying9 w3) trodAll_mk0)))), rfl, bel.frame _, fun h => by cases h⟩

theorem over : Rows.dotBackRow.holds Tryd.pinned (OpenSpec.ofChange Rows.dotBackSpec) :=
  OpenClaim.holds_of_wide 8 Tryd.f8 rfl rfl rfl rfl rfl rfl rfl ⟨rfl, rfl, rfl, rfl, rfl⟩ rfl rfl rfl rfl rfl (by kernel_rfl) Tryd.func8 (by kernel_rfl)
    (of_decide_eq_true (by kernel_rfl)) (by unfold Func.isWrapper; first | (rw [if_pos (by decide +kernel)]; kernel_rfl) | (rw [if_neg (by decide +kernel)]; exact ⟨rfl, rfl⟩))
    (fun os started H enc _ => lifted os started H enc)

theorem noStand : ∀ (j : Nat) (t : TypeId), (#[23, 23, 31, 9] : Array TypeId)[j]? = some t → Tryd.prog.wantsStandIn t = false
  | 0, t, ht => by
    obtain rfl : 23 = t := by simpa using ht
    kernel_rfl
  | 1, t, ht => by
    obtain rfl : 23 = t := by simpa using ht
    kernel_rfl
  | 2, t, ht => by
    obtain rfl : 31 = t := by simpa using ht
    kernel_rfl
  | 3, t, ht => by
    obtain rfl : 9 = t := by simpa using ht
    kernel_rfl
  | n + 4, _, ht => by simp at ht
/-- the statement -/
theorem proved : Rows.DotBackCardSaid :=
  Claim7.holds_tied_plain_at .later [] [.data, .data, .data, .sentinel, .sentinel] true (true, "7fee571fa342490a5f3e98a13adc3f41eb20d9c8bbc9203382d5786f277cb21f") true
    over (fun _ h => by cases h) (by kernel_rfl) (fun _ h => by cases h) dotBack_row_tie rfl ⟨rfl, rfl⟩ (by kernel_rfl) rfl
    (fun f fn hf hfn => by
      obtain rfl : f = 8 := Option.some.inj ((show Tryd.prog.funcNamed "tributary/tributarylaw06.DotBack" = some 8 by kernel_rfl).symm.trans hf) |>.symm
      obtain rfl : fn = Tryd.f8 := (Option.some.inj (Tryd.func8.symm.trans hfn)).symm
      exact ⟨by kernel_rfl, fun j t ht => by
        rw [Tryd.params8] at ht
        exact noStand j t ht⟩)
    (by kernel_rfl)
#print axioms proved
end Go.Proofs.YtdelfhahbngcfaaDoor.dotBack
