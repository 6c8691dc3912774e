/- Words for turns and acts that come in, as the walk reads them. No conditions. -/
import Derived.Test.YtadcahnoghnkcaaB17
import Derived.Test.YtadcahnoghnkcaaB28
namespace Go.Proofs.Ytadcahnoghnkcaa
open Go.ChangeShapes Go.WideShapes Go.RowKit Go.Deep
set_option linter.unusedVariables false
set_option linter.unusedSimpArgs false

section
variable {H : Type} {enc : TypeId × Value → H} {w : World} {base : Nat} {spare : Nat → Bool} {held : Bool}
theorem addr_add2 (a : Addr) (i j : Nat) : (a.add i).add j = a.add (i + j) := by unfold Addr.add; split <;> split <;> simp_all [Nat.add_assoc]
set_option maxRecDepth 100000 in
theorem tu_of_trod {fuel : Nat} {cs : List Value} {x : DataW H × List MemPlace} (h : DataW.trod enc Try.prog w base spare held fuel 50 cs = some x) : ∃ y : Tu, cs = y.cells ∧ Rd w y.M y.m y.d 1 (u8s y.l) := by
  obtain ⟨xs, n, _, _, hlen, hxl, hf⟩ := DataW.trod_struct Try.underlying50 h
  have hc4 : Try.prog.cellsOf 50 = 4 := by kernel_rfl
  rw [hc4] at hlen
  match cs, hlen with
  | [c0, c1, c2, c3], _ =>
    match xs, hxl with
    | [y0, y1, y2, y3], _ =>
      have h3 : Try.prog.cellsOf 3 = 1 := by kernel_rfl
      have h4 : Try.prog.cellsOf 4 = 1 := by kernel_rfl
      have h27 : Try.prog.cellsOf 27 = 1 := by kernel_rfl
      have k0 := hf 0 _ rfl
      have k1 := hf 1 _ rfl
      have k2 := hf 2 _ rfl
      have k3 := hf 3 _ rfl
      simp only [h3, h4, h27, List.drop_zero, List.drop_succ_cons, List.take_succ_cons, List.take_zero, List.getElem?_cons_zero, List.getElem?_cons_succ] at k0 k1 k2 k3
      obtain ⟨n0, e0, _, _⟩ := DataW.trod_int Try.underlying3 k0
      obtain ⟨n1, e1, _, _⟩ := DataW.trod_int Try.underlying3 k1
      obtain ⟨b2, e2, _⟩ := DataW.trod_bool Try.underlying4 k2
      obtain ⟨A, m, c, l, e3, hr⟩ := bytes_of_trod Try.underlying27 Try.underlying5 (by kernel_rfl) k3
      injection e0 with e0; injection e1 with e1; injection e2 with e2
      exact ⟨⟨n0, n1, b2, A, m, c, l⟩, by rw [e0, e1, e2, e3]; rfl, hr⟩
set_option maxRecDepth 100000 in
theorem tus_of_trod {fuel : Nat} {v : Value} {x : DataW H × List MemPlace} (h : DataW.trod enc Try.prog w base spare held fuel 37 [v] = some x) : ∃ A n c F, v = .slice A n c ∧ Tus w A n c F := by
  rcases open_slice Try.underlying37 h with ⟨hcs, _⟩ | ⟨a, len, cap, m, n, D, Pl, hcs, hb, hl, hm, hmm, hx, hi⟩
  · injection hcs with hcs
    exact ⟨none, 0, 0, fun _ => ⟨0, 0, false, none, 0, 0, []⟩, hcs, Nat.le_refl _, by omega, fun i h => by omega⟩
  · injection hcs with hcs
    have hml : len ≤ m := by rw [hmm]; split <;> omega
    have hc4 : Try.prog.cellsOf 50 = 4 := by kernel_rfl
    rw [hc4] at hi
    have each : ∀ i, i < len → ∃ y : Tu, ∃ b off, (some a : Option Addr) = some ⟨b, off, none⟩ ∧ TuIn w b (off + i * 4) y := by
      intro i hil
      obtain ⟨cs', h1, h2⟩ := hi i (by omega)
      obtain ⟨_, hlen, hcell⟩ := World.cells?_some h1
      obtain ⟨y, rfl, hr⟩ := tu_of_trod h2
      obtain ⟨cs0, h10, h20⟩ := hi 0 (by omega)
      obtain ⟨_, _, hcell0⟩ := World.cells?_some h10
      obtain ⟨y0, rfl, _⟩ := tu_of_trod h20
      obtain ⟨b', off', rfl⟩ := addr_plain (x := a) (hcell0 0 (by omega))
      refine ⟨y, b', off', rfl, ?_⟩
      have key : ∀ j, j < 4 → w.cell? ⟨b', off' + i * 4 + j, none⟩ = y.cells[j]? := by
        intro j hj
        have h4 := hcell j hj
        rwa [addr_add2, add_plain, ← Nat.add_assoc] at h4
      exact ⟨key 0 (by omega), key 1 (by omega), key 2 (by omega), key 3 (by omega), hr⟩
    refine ⟨some a, len, cap, fun i => if h : i < len then Classical.choose (each i h) else ⟨0, 0, false, none, 0, 0, []⟩, hcs, hl, (by simpa only [maxLen] using hm), fun i hil => ?_⟩
    simp only [dif_pos hil]
    exact Classical.choose_spec (each i hil)
set_option maxRecDepth 100000 in
theorem acs_of_trod {fuel : Nat} {v : Value} {x : DataW H × List MemPlace} (h : DataW.trod enc Try.prog w base spare held fuel 53 [v] = some x) : ∃ A n c F, v = .slice A n c ∧ Acs w A n c F := by
  rcases open_slice Try.underlying53 h with ⟨hcs, _⟩ | ⟨a, len, cap, m, n, D, Pl, hcs, hb, hl, hm, hmm, hx, hi⟩
  · injection hcs with hcs
    exact ⟨none, 0, 0, fun _ => ⟨0, 0, 0, 0, 0, none, 0, 0, []⟩, hcs, Nat.le_refl _, by omega, fun i h => by omega⟩
  · injection hcs with hcs
    have hml : len ≤ m := by rw [hmm]; split <;> omega
    have hc4 : Try.prog.cellsOf 60 = 6 := by kernel_rfl
    rw [hc4] at hi
    have each : ∀ i, i < len → ∃ y : Ac, ∃ b off, (some a : Option Addr) = some ⟨b, off, none⟩ ∧ AcIn w b (off + i * 6) y := by
      intro i hil
      obtain ⟨cs', h1, h2⟩ := hi i (by omega)
      obtain ⟨_, hlen, hcell⟩ := World.cells?_some h1
      obtain ⟨y, rfl, hr⟩ := ac_of_trod h2
      obtain ⟨cs0, h10, h20⟩ := hi 0 (by omega)
      obtain ⟨_, _, hcell0⟩ := World.cells?_some h10
      obtain ⟨y0, rfl, _⟩ := ac_of_trod h20
      obtain ⟨b', off', rfl⟩ := addr_plain (x := a) (hcell0 0 (by omega))
      refine ⟨y, b', off', rfl, ?_⟩
      have key : ∀ j, j < 6 → w.cell? ⟨b', off' + i * 6 + j, none⟩ = y.cells[j]? := by
        intro j hj
        have h4 := hcell j hj
        rwa [addr_add2, add_plain, ← Nat.add_assoc] at h4
      exact ⟨key 0 (by omega), key 1 (by omega), key 2 (by omega), key 3 (by omega), key 4 (by omega), key 5 (by omega), hr⟩
    refine ⟨some a, len, cap, fun i => if h : i < len then Classical.choose (each i h) else ⟨0, 0, 0, 0, 0, none, 0, 0, []⟩, hcs, hl, (by simpa only [maxLen] using hm), fun i hil => ?_⟩
    simp only [dif_pos hil]
    exact Classical.choose_spec (each i hil)
end
end Go.Proofs.Ytadcahnoghnkcaa
