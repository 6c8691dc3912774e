/- Words for acts and asks that come in, as the walk reads them. No conditions. -/
import Derived.Test.YtondodhpmghogaaL4
import Derived.Deep.Slices
import Derived.ChangeArms
import Derived.ChangeSlices
import Derived.OpenShut
namespace Go.Proofs.Ytondodhpmghogaa
open Go.ChangeShapes Go.WideShapes Go.RowKit Go.Deep
set_option linter.unusedVariables false
set_option linter.unusedSimpArgs false

theorem addr_plain {w : World} {x : Addr} {v : Value} (h : w.cell? x = some v) : ∃ b off, x = ⟨b, off, none⟩ := by
  obtain ⟨b, off, spot⟩ := x
  cases spot with
  | none => exact ⟨b, off, rfl⟩
  | some s => simp [World.cell?] at h; split at h <;> simp_all
theorem add_plain (b off j : Nat) : (⟨b, off, none⟩ : Addr).add j = ⟨b, off + j, none⟩ := by unfold Addr.add; split <;> simp_all
section
variable {H : Type} {enc : TypeId × Value → H} {w : World} {base : Nat} {spare : Nat → Bool} {held : Bool}
theorem rd_of_trod {P : Program} {t e : TypeId} {k : IntKind} {fuel : Nat} {v : Value} {x : DataW H × List MemPlace} (ht : P.underlying t = some (.slice e)) (he : P.underlying e = some (.int k)) (hc : P.cellsOf e = 1) (h : DataW.trod enc P w base spare held fuel t [v] = some x) :
    ∃ (A : Option Addr) (n c : Nat) (zs : List Int), v = .slice A n c ∧ Rd w A n c 1 (zs.map (Value.int k)) ∧ ∀ z ∈ zs, (Lit.int k z).wf = true := by
  rcases open_ints ht he hc h with ⟨hcs, _⟩ | ⟨a, len, cap, zs, hcs, _, hl, hm, hz, _, hcell, hwf⟩
  · injection hcs with hcs
    exact ⟨none, 0, 0, [], hcs, ⟨by simp, Nat.le_refl _, by omega, fun _ => rfl, fun j u hu => by simp at hu⟩, by simp⟩
  · injection hcs with hcs
    have hzl : len ≤ zs.length := by rw [hz]; split <;> omega
    refine ⟨some a, len, cap, zs.take len, hcs, ⟨by simp; omega, hl, (by simpa only [maxLen] using hm), (fun e => by cases e), fun j u hu => ?_⟩, fun z hz => hwf z (List.mem_of_mem_take hz)⟩
    have hj : j < len := by
      rcases Nat.lt_or_ge j len with h | h
      · exact h
      · rw [List.getElem?_eq_none (by simp; omega)] at hu; cases hu
    have h0 := hcell 0 (by omega)
    have hadd0 : a.add 0 = a := rfl
    rw [hadd0] at h0
    obtain ⟨b, off, rfl⟩ := addr_plain h0
    have hcj := hcell j (by omega)
    rw [add_plain] at hcj
    refine ⟨b, off, rfl, ?_⟩
    rw [hcj]
    rw [List.getElem?_map, List.getElem?_take_of_lt hj, List.getElem?_eq_getElem (by omega)] at hu
    simp [List.getD_eq_getElem?_getD, List.getElem?_eq_getElem (show j < zs.length by omega)] at hu ⊢
    exact hu
theorem bytes_of_trod {P : Program} {t e : TypeId} {fuel : Nat} {v : Value} {x : DataW H × List MemPlace} (ht : P.underlying t = some (.slice e)) (he : P.underlying e = some (.int .u8)) (hc : P.cellsOf e = 1) (h : DataW.trod enc P w base spare held fuel t [v] = some x) :
    ∃ A n c l, v = .slice A n c ∧ Rd w A n c 1 (u8s l) := by
  obtain ⟨A, n, c, zs, hv, hr, hw⟩ := rd_of_trod ht he hc h
  refine ⟨A, n, c, zs.map fun z => UInt8.ofNat z.toNat, hv, ?_⟩
  have : u8s (zs.map fun z => UInt8.ofNat z.toNat) = zs.map (Value.int .u8) := by
    simp only [u8s, List.map_map]
    refine List.map_congr_left fun z hz => ?_
    have := bounds_u8 (hw z hz)
    have e : (UInt8.ofNat z.toNat).toNat = z.toNat % 256 := by simp
    simp only [Function.comp, e]
    congr 1; omega
  rw [this]; exact hr
set_option maxRecDepth 100000 in
theorem wact_of_trod {fuel : Nat} {cs : List Value} {x : DataW H × List MemPlace} (h : DataW.trod enc Try.prog w base spare held fuel 34 cs = some x) : ∃ y : Ac, cs = y.cells ∧ Rd w y.M y.m y.d 1 (u8s y.l) ∧ y.n ≤ 9223372036854775807 := by
  obtain ⟨xs, n, _, _, hlen, hxl, hf⟩ := DataW.trod_struct Try.underlying34 h
  have hc4 : Try.prog.cellsOf 34 = 4 := by kernel_rfl
  rw [hc4] at hlen
  match cs, hlen with
  | [c0, c1, c2, c3], _ =>
    match xs, hxl with
    | [y0, y1, y2, y3], _ =>
      have h3 : Try.prog.cellsOf 3 = 1 := by kernel_rfl
      have h9 : Try.prog.cellsOf 9 = 1 := by kernel_rfl
      have h26 : Try.prog.cellsOf 26 = 1 := by kernel_rfl
      have k0 := hf 0 _ rfl
      have k1 := hf 1 _ rfl
      have k2 := hf 2 _ rfl
      have k3 := hf 3 _ rfl
      simp only [h3, h9, h26, List.drop_zero, List.drop_succ_cons, List.take_succ_cons, List.take_zero, List.getElem?_cons_zero, List.getElem?_cons_succ] at k0 k1 k2 k3
      obtain ⟨n0, e0, _, _⟩ := DataW.trod_int Try.underlying3 k0
      obtain ⟨n1, e1, _, hw1⟩ := DataW.trod_int Try.underlying3 k1
      obtain ⟨s2, e2, _⟩ := DataW.trod_string Try.underlying9 k2
      obtain ⟨A, n, c, l, e3, hr⟩ := bytes_of_trod Try.underlying26 Try.underlying5 (by kernel_rfl) k3
      injection e0 with e0; injection e1 with e1; injection e2 with e2
      exact ⟨⟨n0, n1, s2, A, n, c, l⟩, by rw [e0, e1, e2, e3]; rfl, hr, (bounds_i64 hw1).2⟩
set_option maxRecDepth 100000 in
theorem acs_of_trod {fuel : Nat} {v : Value} {x : DataW H × List MemPlace} (h : DataW.trod enc Try.prog w base spare held fuel 22 [v] = some x) : ∃ A n c F, v = .slice A n c ∧ Acs w A n c F := by
  rcases open_slice Try.underlying22 h with ⟨hcs, _⟩ | ⟨a, len, cap, m, n, D, Pl, hcs, hb, hl, hm, hmm, hx, hi⟩
  · injection hcs with hcs
    exact ⟨none, 0, 0, fun _ => ⟨0, 0, ⟨#[]⟩, none, 0, 0, []⟩, hcs, Nat.le_refl _, by omega, fun i h => by omega⟩
  · injection hcs with hcs
    have hml : len ≤ m := by rw [hmm]; split <;> omega
    have hc4 : Try.prog.cellsOf 34 = 4 := by kernel_rfl
    rw [hc4] at hi
    have each : ∀ i, i < len → ∃ y : Ac, ∃ b off, (some a : Option Addr) = some ⟨b, off, none⟩ ∧ AcIn w b (off + i * 4) y ∧ Rd w y.M y.m y.d 1 (u8s y.l) ∧ y.n ≤ 9223372036854775807 := by
      intro i hil
      obtain ⟨cs', h1, h2⟩ := hi i (by omega)
      obtain ⟨_, hlen, hcell⟩ := World.cells?_some h1
      obtain ⟨y, rfl, hr, hn⟩ := wact_of_trod h2
      obtain ⟨cs0, h10, h20⟩ := hi 0 (by omega)
      obtain ⟨_, _, hcell0⟩ := World.cells?_some h10
      obtain ⟨y0, rfl, _⟩ := wact_of_trod h20
      obtain ⟨b', off', rfl⟩ := addr_plain (x := a) (hcell0 0 (by omega))
      refine ⟨y, b', off', rfl, ?_, hr, hn⟩
      have key : ∀ j, j < 4 → w.cell? ⟨b', off' + i * 4 + j, none⟩ = y.cells[j]? := by
        intro j hj
        have h4 := hcell j hj
        rwa [add_add, add_plain, ← Nat.add_assoc] at h4
      exact ⟨key 0 (by omega), key 1 (by omega), key 2 (by omega), key 3 (by omega)⟩
    refine ⟨some a, len, cap, fun i => if h : i < len then Classical.choose (each i h) else ⟨0, 0, ⟨#[]⟩, none, 0, 0, []⟩, hcs, hl, (by simpa only [maxLen] using hm), fun i hil => ?_⟩
    simp only [dif_pos hil]
    exact Classical.choose_spec (each i hil)

/-- an ask's value -/
structure Ask where
  k : Int
  lo : Int
  hi : Int
def Ask.cells (x : Ask) : List Value := [.int .i64 x.k, .int .i64 x.lo, .int .i64 x.hi]
/-- three cells from o on in block b are an ask's -/
def AskIn (w : World) (b o : Nat) (x : Ask) : Prop := w.cell? ⟨b, o, none⟩ = some (.int .i64 x.k) ∧ w.cell? ⟨b, o + 1, none⟩ = some (.int .i64 x.lo) ∧ w.cell? ⟨b, o + 2, none⟩ = some (.int .i64 x.hi)
structure Asks (w : World) (A : Option Addr) (n c : Nat) (F : Nat → Ask) : Prop where
  le : n ≤ c
  big : c ≤ 9223372036854775807
  at_ : ∀ i, i < n → ∃ b off, A = some ⟨b, off, none⟩ ∧ AskIn w b (off + i * 3) (F i)
set_option maxRecDepth 100000 in
theorem ask_of_trod {fuel : Nat} {cs : List Value} {x : DataW H × List MemPlace} (h : DataW.trod enc Try.prog w base spare held fuel 44 cs = some x) : ∃ y : Ask, cs = y.cells := by
  obtain ⟨xs, n, _, _, hlen, hxl, hf⟩ := DataW.trod_struct Try.underlying44 h
  have hc4 : Try.prog.cellsOf 44 = 3 := by kernel_rfl
  rw [hc4] at hlen
  match cs, hlen with
  | [c0, c1, c2], _ =>
    match xs, hxl with
    | [y0, y1, y2], _ =>
      have h3 : Try.prog.cellsOf 3 = 1 := by kernel_rfl
      have k0 := hf 0 _ rfl
      have k1 := hf 1 _ rfl
      have k2 := hf 2 _ rfl
      simp only [h3, List.drop_zero, List.drop_succ_cons, List.take_succ_cons, List.take_zero, List.getElem?_cons_zero, List.getElem?_cons_succ] at k0 k1 k2
      obtain ⟨n0, e0, _, _⟩ := DataW.trod_int Try.underlying3 k0
      obtain ⟨n1, e1, _, _⟩ := DataW.trod_int Try.underlying3 k1
      obtain ⟨n2, e2, _, _⟩ := DataW.trod_int Try.underlying3 k2
      injection e0 with e0; injection e1 with e1; injection e2 with e2
      exact ⟨⟨n0, n1, n2⟩, by rw [e0, e1, e2]; rfl⟩
set_option maxRecDepth 100000 in
theorem asks_of_trod {fuel : Nat} {v : Value} {x : DataW H × List MemPlace} (h : DataW.trod enc Try.prog w base spare held fuel 45 [v] = some x) : ∃ A n c F, v = .slice A n c ∧ Asks w A n c F := by
  rcases open_slice Try.underlying45 h with ⟨hcs, _⟩ | ⟨a, len, cap, m, n, D, Pl, hcs, hb, hl, hm, hmm, hx, hi⟩
  · injection hcs with hcs
    exact ⟨none, 0, 0, fun _ => ⟨0, 0, 0⟩, hcs, Nat.le_refl _, by omega, fun i h => by omega⟩
  · injection hcs with hcs
    have hml : len ≤ m := by rw [hmm]; split <;> omega
    have hc4 : Try.prog.cellsOf 44 = 3 := by kernel_rfl
    rw [hc4] at hi
    have each : ∀ i, i < len → ∃ y : Ask, ∃ b off, (some a : Option Addr) = some ⟨b, off, none⟩ ∧ AskIn w b (off + i * 3) y := by
      intro i hil
      obtain ⟨cs', h1, h2⟩ := hi i (by omega)
      obtain ⟨_, hlen, hcell⟩ := World.cells?_some h1
      obtain ⟨y, rfl⟩ := ask_of_trod h2
      obtain ⟨cs0, h10, h20⟩ := hi 0 (by omega)
      obtain ⟨_, _, hcell0⟩ := World.cells?_some h10
      obtain ⟨y0, rfl⟩ := ask_of_trod h20
      obtain ⟨b', off', rfl⟩ := addr_plain (x := a) (hcell0 0 (by omega))
      refine ⟨y, b', off', rfl, ?_⟩
      have key : ∀ j, j < 3 → w.cell? ⟨b', off' + i * 3 + j, none⟩ = y.cells[j]? := by
        intro j hj
        have h4 := hcell j hj
        rwa [add_add, add_plain, ← Nat.add_assoc] at h4
      exact ⟨key 0 (by omega), key 1 (by omega), key 2 (by omega)⟩
    refine ⟨some a, len, cap, fun i => if h : i < len then Classical.choose (each i h) else ⟨0, 0, 0⟩, hcs, hl, (by simpa only [maxLen] using hm), fun i hil => ?_⟩
    simp only [dif_pos hil]
    exact Classical.choose_spec (each i hil)
end
end Go.Proofs.Ytondodhpmghogaa
