/- Walks: SameLists, of rows that hold the same; is. No conditions beyond those named. -/
import Derived.Test.YtadcahnoghnkcaaB9
namespace Go.Proofs.Ytadcahnoghnkcaa
open Go.RowKit
set_option linter.unusedVariables false
set_option linter.unusedSimpArgs false

def slc (p : List UInt8 × Option Addr × Nat × Nat) : Value := .slice p.2.1 p.2.2.1 p.2.2.2
/-- v is a row of slices of bytes -/
structure Lists (w : World) (base : Nat) (v : Value) (ls : List (List UInt8 × Option Addr × Nat × Nat)) : Prop where
  own : w.ownsRow base 27 1 v ls.length (ls.map slc)
  each : ∀ p ∈ ls, Held w base p.2.1 p.2.2.1 p.2.2.2 p.1 ∧ ∀ a, p.2.1 = some a → v.ownBlock ≠ some a.block
theorem lists_nil (w : World) (base : Nat) : Lists w base (.slice none 0 0) [] := ⟨World.ownsRow_nil w base 27 1, fun p h => by cases h⟩
theorem lists_ch {S : Nat → Prop} {w w' : World} {base : Nat} {v : Value} {ls : List (List UInt8 × Option Addr × Nat × Nat)} (h : Lists w base v ls) (hc : Ch S w w') (hS : ∀ k, base ≤ k → k < w.heap.size → ¬ S k) : Lists w' base v ls :=
  ⟨own_ch h.own hc (fun k hk => hS k (h.own.lt k hk).1 (h.own.lt k hk).2), fun p hp => ⟨held_ch (h.each p hp).1 hc (fun a ha => hS _ (held_lt (h.each p hp).1 a ha).1 (held_lt (h.each p hp).1 a ha).2), (h.each p hp).2⟩⟩
theorem lists_get {w : World} {base g c N : Nat} {ls : List (List UInt8 × Option Addr × Nat × Nat)} (h : Lists w base (.slice (some ⟨g, 0, none⟩) N c) ls) {k : Nat} (hk : k < ls.length) :
    ∃ p, ls[k]? = some p ∧ w.cell? ⟨g, k, none⟩ = some (.slice p.2.1 p.2.2.1 p.2.2.2) ∧ Held w base p.2.1 p.2.2.1 p.2.2.2 p.1 := by
  obtain ⟨g', c', e, _, _, hrow⟩ := own_row h.own (own_some h.own (by omega))
  cases e
  refine ⟨ls[k]'hk, by simp, hrow.cell ?_, (h.each _ (List.getElem_mem hk)).1⟩
  simp [hk, slc]
set_option maxRecDepth 100000 in
set_option maxHeartbeats 4000000 in
theorem sameLs_any {base base' : Nat} {v v' : Value} {ps ps' : List (List UInt8 × Option Addr × Nat × Nat)} {w : World} (h : Lists w base v ps) (h' : Lists w base' v' ps') (he : ps.map (·.1) = ps'.map (·.1)) (hN : ps.length ≤ 100000) :
    Calls Try.prog 28 #[v, v'] w fun e w' => e = .returned (.bool true) ∧ Ch No w w' := by
  have hl : ps'.length = ps.length := by have := congrArg List.length he; simpa using this.symm
  by_cases h0 : ps.length = 0
  · obtain ⟨A, c, rfl, _⟩ := own_form h.own
    obtain ⟨A', c', rfl, _⟩ := own_form h'.own
    rw [hl, h0]
    clear h h' he hl
    go_enter Try.func28, Try.ntmps28
    go_wp2
    go_loop [5] (fun i => i = .int .i64 0) (fun _ => 0)
    case atStart => rfl
    case round =>
      subst hrel
      go_wp2
      go_ret
      exact ⟨rfl, Ch.refl _ _⟩
  obtain ⟨g, c, rfl, _, hc, _⟩ := own_row h.own (own_some h.own (by omega))
  obtain ⟨g', c', rfl, _, hc', _⟩ := own_row h'.own (own_some h'.own (by omega))
  rw [hl]
  rw [hl] at h' hc'
  obtain ⟨N, hNN⟩ : ∃ N, N = ps.length := ⟨_, rfl⟩
  rw [← hNN] at h h' hc hc' hN ⊢
  have H := Lib.hid h; have H' := Lib.hid h'; have HE := Lib.hid he; have HL := Lib.hid hl; have HNN := Lib.hid hNN
  clear h h' he hl hNN h0
  go_enter Try.func28, Try.ntmps28
  go_wp2
  go_loopw [5] (fun i wr => ∃ k : Nat, k ≤ N ∧ i = .int .i64 k ∧ Ch No w wr) (fun i _ => N - (intOf i).toNat)
  case atStart => exact ⟨0, Nat.zero_le _, rfl, Ch.refl _ _⟩
  case round =>
    obtain ⟨k, hk, rfl, hC⟩ := hrel
    by_cases hlt : k < N
    · obtain ⟨p, hp, c0, hh⟩ := lists_get (lists_ch H.out hC (fun _ _ _ => id)) (k := k) (by rw [← HNN.out]; exact hlt)
      obtain ⟨p', hp', d0, hh'⟩ := lists_get (lists_ch H'.out hC (fun _ _ _ => id)) (k := k) (by rw [HL.out, ← HNN.out]; exact hlt)
      have hpp : p'.1 = p.1 := by
        have h1 := congrArg (fun l => l[k]?) HE.out
        simp only [List.getElem?_map, hp, hp', Option.map_some, Option.some.injEq] at h1
        exact h1.symm
      rw [hpp] at hh'
      have HC := Lib.hid hC
      have HR := Lib.hid (held_rd hh); have HR' := Lib.hid (held_rd hh')
      clear hh hh' hp hp' hpp hC
      obtain ⟨l, A, n, e⟩ := p
      obtain ⟨_, A', n', e'⟩ := p'
      simp only at c0 d0 HR HR'
      go_wp2_with fail
      go_quiet ((go_at_call 73; exact Calls.quiet_of_same (same_self A A' n e n' e' l _ (HR.out.ch (ch_drewN No _ _) (fun _ _ => id)) (HR'.out.ch (ch_drewN No _ _) (fun _ _ => id)))))
      go_wp2
      go_roundw
      case rel => exact ⟨k + 1, by omega, by go_num, ch_thenno HC.out (ch_drewN No _ _)⟩
      case measure => simp [intOf]; omega
    · obtain rfl : k = N := by omega
      go_wp2
      go_ret
      exact ⟨rfl, hC⟩

/-- a row of one packet, laid in a new block -/
theorem packs_one (w : World) (base : Nat) (p : Pk × Option Addr × Nat × Nat) (h : Held w base p.2.1 p.2.2.1 p.2.2.2 p.1.l) (hb : base ≤ w.heap.size) : Packs (w.alloc (.cells (pkCells p).toArray 33)) base (.slice (some ⟨w.heap.size, 0, none⟩) 1 1) [p] := by
  refine ⟨?_, fun q hq => ?_⟩
  · have := (row_lit w (pkCells p).toArray 33 1 5 rfl (by decide)).own (base := base) (n := 1) hb rfl (Nat.le_refl _)
    simpa using this
  · rw [List.mem_singleton] at hq
    subst hq
    exact ⟨held_ch h (Ch.alloc _ _ No) (fun _ _ => id), fun a ha e => by have := (held_lt h a ha).2; have e' : w.heap.size = a.block := by injection e
                                                                         omega⟩
set_option maxRecDepth 100000 in
set_option maxHeartbeats 1000000 in
theorem is_any {base : Nat} {v : Value} {p : Pk} {q : Option Addr × Nat × Nat} {w : World} (h : Packs w base v [(p, q)]) (A : Option Addr) (n c : Nat) (hh : Held w 0 A n c p.l) :
    Calls Try.prog 17 #[v, .int .i64 p.fr, .int .i64 p.to, .int .i64 p.nu, .int .i64 p.ac, .slice A n c] w fun e w' => e = .returned (.bool true) ∧ Below w.heap.size w w' := by
  have hb : Below w.heap.size w (w.alloc (.cells (pkCells (p, A, n, c)).toArray 33)) := (Below.refl _ w).alloc (Nat.le_refl _) _
  have H1 := Lib.hid (packs_below h hb)
  have H2 := Lib.hid (packs_one w 0 (p, A, n, c) hh (Nat.zero_le _))
  have HB := Lib.hid hb
  clear h hh hb
  go_enter Try.func17, Try.ntmps17
  go_wp2_with fail
  refine (samePks_any H1.out H2.out rfl (by simp)).mono ?_; rintro e w1 ⟨rfl, hc⟩
  go_wp2
  go_ret
  exact ⟨rfl, HB.out.trans (hc.below HB.out.size (fun _ h => h.elim))⟩
end Go.Proofs.Ytadcahnoghnkcaa
