/- Walks: SamePackets, SameLists, of rows that hold the same; is. No conditions beyond those named. -/
import Derived.Test.YtadcahnoghnkcaaB8
namespace Go.Proofs.Ytadcahnoghnkcaa
open Go.RowKit
set_option linter.unusedVariables false
set_option linter.unusedSimpArgs false

theorem own_some {w : World} {base n sz : Nat} {e : TypeId} {v : Value} {xs : List Value} (h : w.ownsRow base e (sz + 1) v n xs) (hn : 0 < n) : v ≠ .slice none 0 0 := by
  intro e
  subst e
  obtain ⟨A, c, e, hr, _⟩ := own_form h
  cases e
  omega
theorem packs_get {w : World} {base g c N : Nat} {ps : List (Pk × Option Addr × Nat × Nat)} (h : Packs w base (.slice (some ⟨g, 0, none⟩) N c) ps) {k : Nat} (hk : k < ps.length) :
    ∃ p, ps[k]? = some p ∧ w.cell? ⟨g, k * 5, none⟩ = some (.int .i64 p.1.fr) ∧ w.cell? ⟨g, k * 5 + 1, none⟩ = some (.int .i64 p.1.to) ∧ w.cell? ⟨g, k * 5 + 2, none⟩ = some (.int .i64 p.1.nu) ∧ w.cell? ⟨g, k * 5 + 3, none⟩ = some (.int .i64 p.1.ac) ∧
      w.cell? ⟨g, k * 5 + 4, none⟩ = some (.slice p.2.1 p.2.2.1 p.2.2.2) ∧ Held w base p.2.1 p.2.2.1 p.2.2.2 p.1.l := by
  obtain ⟨g', c', e, _, _, hrow⟩ := own_row h.own (own_some h.own (by omega))
  cases e
  have hp : ps[k]? = some (ps[k]'hk) := by simp
  have key : ∀ i u, i < 5 → (pkCells (ps[k]'hk))[i]? = some u → w.cell? ⟨g, k * 5 + i, none⟩ = some u := by
    intro i u hi hu
    refine hrow.cell ?_
    rw [flat_get pkCells 5 ps (fun _ _ => rfl) k i hi, hp, Option.bind_some]
    exact hu
  exact ⟨_, hp, key 0 _ (by omega) rfl, key 1 _ (by omega) rfl, key 2 _ (by omega) rfl, key 3 _ (by omega) rfl, key 4 _ (by omega) rfl, (h.each _ (List.getElem_mem hk)).1⟩
theorem same_self (A B : Option Addr) (n c m d : Nat) (l : List UInt8) (w : World) (h1 : Rd w A n c 1 (u8s l)) (h2 : Rd w B m d 1 (u8s l)) :
    Calls Try.prog 73 #[.slice A n c, .slice B m d] w fun e w' => e = .returned (.bool true) ∧ w' = w :=
  (same_any A B n c m d l l w h1 h2).mono fun e w' h => ⟨by rw [h.1, eqB_self], h.2.symm⟩

set_option maxRecDepth 100000 in
set_option maxHeartbeats 4000000 in
theorem samePks_any {base base' : Nat} {v v' : Value} {ps ps' : List (Pk × Option Addr × Nat × Nat)} {w : World} (h : Packs w base v ps) (h' : Packs w base' v' ps') (he : ps.map (·.1) = ps'.map (·.1)) (hN : ps.length ≤ 100000) :
    Calls Try.prog 32 #[v, v'] w fun e w' => e = .returned (.bool true) ∧ Ch No w w' := by
  have hl : ps'.length = ps.length := by have := congrArg List.length he; simpa using this.symm
  by_cases h0 : ps.length = 0
  · obtain ⟨A, c, rfl, _⟩ := own_form h.own
    obtain ⟨A', c', rfl, _⟩ := own_form h'.own
    rw [hl, h0]
    clear h h' he hl
    go_enter Try.func32, Try.ntmps32
    go_wp2
    go_loop [5] (fun i => i = .int .i64 0) (fun _ => 0)
    case atStart => rfl
    case round =>
      subst hrel
      go_wp2
      go_ret
      exact ⟨rfl, Ch.refl _ _⟩
  obtain ⟨g, c, rfl, _, hc, _⟩ := own_row h.own (own_some h.own (by omega))
  obtain ⟨g', c', rfl, _, hc', _⟩ := own_row h'.own (own_some h'.own (by omega))
  rw [hl]
  rw [hl] at h' hc'
  obtain ⟨N, hNN⟩ : ∃ N, N = ps.length := ⟨_, rfl⟩
  rw [← hNN] at h h' hc hc' hN ⊢
  have H := Lib.hid h; have H' := Lib.hid h'; have HE := Lib.hid he; have HL := Lib.hid hl; have HNN := Lib.hid hNN
  clear h h' he hl hNN h0
  go_enter Try.func32, Try.ntmps32
  go_wp2
  go_loopw [5] (fun i wr => ∃ k : Nat, k ≤ N ∧ i = .int .i64 k ∧ Ch No w wr) (fun i _ => N - (intOf i).toNat)
  case atStart => exact ⟨0, Nat.zero_le _, rfl, Ch.refl _ _⟩
  case round =>
    obtain ⟨k, hk, rfl, hC⟩ := hrel
    by_cases hlt : k < N
    · obtain ⟨p, hp, c0, c1, c2, c3, c4, hh⟩ := packs_get (packs_ch H.out hC (fun _ _ _ => id)) (k := k) (by rw [← HNN.out]; exact hlt)
      obtain ⟨p', hp', d0, d1, d2, d3, d4, hh'⟩ := packs_get (packs_ch H'.out hC (fun _ _ _ => id)) (k := k) (by rw [HL.out, ← HNN.out]; exact hlt)
      have hpp : p'.1 = p.1 := by
        have h1 := congrArg (fun l => l[k]?) HE.out
        simp only [List.getElem?_map, hp, hp', Option.map_some, Option.some.injEq] at h1
        exact h1.symm
      rw [hpp] at d0 d1 d2 d3 hh'
      have HC := Lib.hid hC
      have HR := Lib.hid (held_rd hh); have HR' := Lib.hid (held_rd hh')
      clear hh hh' hp hp' hpp hC
      obtain ⟨⟨fr, to, nu, ac, l⟩, A, n, e⟩ := p
      obtain ⟨_, A', n', e'⟩ := p'
      simp only at c0 c1 c2 c3 c4 d0 d1 d2 d3 d4 HR HR'
      go_wp2_with fail
      go_quiet ((go_at_call 73; exact Calls.quiet_of_same (same_self A A' n e n' e' l _ (HR.out.ch (ch_drewN No _ _) (fun _ _ => id)) (HR'.out.ch (ch_drewN No _ _) (fun _ _ => id)))))
      go_wp2
      go_roundw
      case rel => exact ⟨k + 1, by omega, by go_num, ch_thenno HC.out (ch_drewN No _ _)⟩
      case measure => simp [intOf]; omega
    · obtain rfl : k = N := by omega
      go_wp2
      go_ret
      exact ⟨rfl, hC⟩
end Go.Proofs.Ytadcahnoghnkcaa
