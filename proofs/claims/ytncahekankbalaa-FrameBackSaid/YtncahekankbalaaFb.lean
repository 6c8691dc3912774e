/- Walks: the map of a message's readers; the two readers. -/
import Derived.Test.YtncahekankbalaaFa
import Derived.Maps.OwnSet
namespace Go.Proofs.Ytncahekankbalaa
open Go.RowKit
set_option linter.unusedVariables false
set_option linter.unusedSimpArgs false

/-- how an element of a function type reads: by its number; nil by 0 -/
def fnElem : Value → Option (DataW Nat × List MemPlace)
  | .func (.func g) a b => if a.size = 0 ∧ b.size = 0 then some (.lit (.int .i64 g), []) else none
  | .nilFunc => some (.lit (.int .i64 0), [])
  | _ => none
theorem fnElem_inv {v : Value} {g : Nat} {ps : List MemPlace} (h : fnElem v = some (.lit (.int .i64 (g + 1 : Nat)), ps)) : v = .func (.func (g + 1)) #[] #[] := by
  unfold fnElem at h
  split at h
  · rename_i n a b
    split at h
    · rename_i hs
      simp only [Option.some.injEq, Prod.mk.injEq, DataW.lit.injEq, Lit.int.injEq] at h
      obtain ⟨h, _⟩ := h
      have h : n = g + 1 := Int.ofNat_inj.1 h.2
      rw [h, Array.eq_empty_of_size_eq_zero hs.1, Array.eq_empty_of_size_eq_zero hs.2]
    · cases h
  · simp only [Option.some.injEq, Prod.mk.injEq, DataW.lit.injEq, Lit.int.injEq] at h
    omega
  · cases h
theorem fnElem_nil {v : Value} {ps : List MemPlace} (h : fnElem v = some (.lit (.int .i64 0), ps)) : v = .nilFunc ∨ v = .func (.func 0) #[] #[] := by
  unfold fnElem at h
  split at h
  · rename_i n a b
    split at h
    · rename_i hs
      simp only [Option.some.injEq, Prod.mk.injEq, DataW.lit.injEq, Lit.int.injEq] at h
      obtain ⟨h, _⟩ := h
      have h : n = 0 := Int.ofNat_inj.1 h.2
      rw [h, Array.eq_empty_of_size_eq_zero hs.1, Array.eq_empty_of_size_eq_zero hs.2]
      exact .inr rfl
    · cases h
  · exact .inl rfl
  · cases h
def rdD : DataW Nat := (((DataW.map []).put (.int .i64 1) (.lit (.int .i64 (64 : Nat)))).put (.int .i64 2) (.lit (.int .i64 (63 : Nat)))).put (.int .i64 3) (.lit (.int .i64 (63 : Nat)))
theorem kindK : Go.Maps.Keyed Try.prog 71 := Go.Maps.int_keyed Try.underlying71
theorem kindOf (k : Int) (h : (Lit.int .i64 k).wf = true) : keyOf Try.prog 71 (.int .i64 k) = some (.int .i64 k) := Go.Maps.keyOf_int_mk Try.underlying71 h
set_option maxRecDepth 100000 in
set_option maxHeartbeats 1000000 in
theorem readers_any (w : World) : Calls Try.prog 52 #[] w fun e w' => e = .returned (.map (some w.heap.size)) ∧ w'.ownsMap Try.prog 71 fnElem w.heap.size 3 rdD ∧ Below w.heap.size w w' := by
  have hmm := @Go.RowKit.run_makeMap Try.prog
  have k1 := kindOf 1 rfl
  have k2 := kindOf 2 rfl
  have k3 := kindOf 3 rfl
  have hown := World.ownsMap_made (H := Nat) w Try.prog 71 fnElem
  obtain ⟨w1, r1, hown, hg1⟩ := hown.update kindK Try.underlying74 (by unfold maxLen; omega) k1 (val := .func (.func 64) #[] #[]) rfl
  obtain ⟨w2, r2, hown, hg2⟩ := hown.update kindK Try.underlying74 (by unfold maxLen; omega) k2 (val := .func (.func 63) #[] #[]) rfl
  obtain ⟨w3, r3, hown, hg3⟩ := hown.update kindK Try.underlying74 (by unfold maxLen; omega) k3 (val := .func (.func 63) #[] #[]) rfl
  have HO := Lib.hid hown
  have HB := Lib.hid ((Below.refl w.heap.size w).alloc (Nat.le_refl _) (.map #[] 0))
  have HB3 := Lib.hid (((HB.out.grown hg1 HB.out.size (fun j hj => by cases hj; exact Nat.le_refl _)).grown hg2 (HB.out.grown hg1 HB.out.size (fun j hj => by cases hj; exact Nat.le_refl _)).size (fun j hj => by cases hj; exact Nat.le_refl _)).grown hg3 ((HB.out.grown hg1 HB.out.size (fun j hj => by cases hj; exact Nat.le_refl _)).grown hg2 (HB.out.grown hg1 HB.out.size (fun j hj => by cases hj; exact Nat.le_refl _)).size (fun j hj => by cases hj; exact Nat.le_refl _)).size (fun j hj => by cases hj; exact Nat.le_refl _))
  clear hown hg1 hg2 hg3 k1 k2 k3 HB
  go_enter Try.func52, Try.ntmps52
  go_wp2
  go_ret
  exact ⟨rfl, HO.out, HB3.out⟩
/-- what the map answers -/
theorem look_of {W : World} {M : Nat} (h : W.ownsMap Try.prog 71 fnElem M 3 rdD) (k : Int) (hk : (Lit.int .i64 k).wf = true) : ∃ v ps, (Instr.lookup 74 (.map (some M)) (.int .i64 k) true).run Try.prog W = .ok (.tuple #[v, .bool (Go.Maps.has rdD (.int .i64 k))]) W ∧ fnElem v = some (rdD.atKey (.int .i64 k) (.lit (.int .i64 0)), ps) :=
  h.look_ok kindK Try.underlying74 (z := .nilFunc) (by kernel_rfl) (zd := .lit (.int .i64 0)) (zp := []) rfl (kindOf k hk)
theorem look1 {W : World} {M : Nat} (h : W.ownsMap Try.prog 71 fnElem M 3 rdD) : (Instr.lookup 74 (.map (some M)) (.int .i64 1) true).run Try.prog W = .ok (.tuple #[.func (.func 64) #[] #[], .bool true]) W := by
  obtain ⟨v, ps, hr, hv⟩ := look_of h 1 rfl
  have hv := fnElem_inv (g := 63) hv
  rw [hr, hv]; rfl
theorem look2 {W : World} {M : Nat} (h : W.ownsMap Try.prog 71 fnElem M 3 rdD) : (Instr.lookup 74 (.map (some M)) (.int .i64 2) true).run Try.prog W = .ok (.tuple #[.func (.func 63) #[] #[], .bool true]) W := by
  obtain ⟨v, ps, hr, hv⟩ := look_of h 2 rfl
  have hv := fnElem_inv (g := 62) hv
  rw [hr, hv]; rfl
theorem look3 {W : World} {M : Nat} (h : W.ownsMap Try.prog 71 fnElem M 3 rdD) : (Instr.lookup 74 (.map (some M)) (.int .i64 3) true).run Try.prog W = .ok (.tuple #[.func (.func 63) #[] #[], .bool true]) W := by
  obtain ⟨v, ps, hr, hv⟩ := look_of h 3 rfl
  have hv := fnElem_inv (g := 62) hv
  rw [hr, hv]; rfl
theorem look0 {W : World} {M : Nat} (h : W.ownsMap Try.prog 71 fnElem M 3 rdD) : ∃ v, (Instr.lookup 74 (.map (some M)) (.int .i64 0) true).run Try.prog W = .ok (.tuple #[v, .bool false]) W := by
  obtain ⟨v, ps, hr, hv⟩ := look_of h 0 rfl
  exact ⟨v, hr⟩
set_option maxRecDepth 100000 in
set_option maxHeartbeats 1000000 in
/-- the reader of nothing -/
theorem f63_any (a b : Option Addr) (w : World) : Calls Try.prog 63 #[.pointer a, .pointer b] w fun e w' => e = .returned (.tuple #[]) ∧ Below w.heap.size w w' := by
  go_enter Try.func63, Try.ntmps63
  go_wp2
  exact bodyPost_end (results_none rfl _ _ _) rfl ⟨rfl, Below.refl _ _⟩
end Go.Proofs.Ytncahekankbalaa
