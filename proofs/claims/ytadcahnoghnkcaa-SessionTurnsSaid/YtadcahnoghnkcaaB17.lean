/- Words for acts that come in, as the walk reads them. No conditions. -/
import Derived.Test.YtadcahnoghnkcaaB15
import Derived.Deep.Slices
import Derived.ChangeArms
import Derived.ChangeSlices
import Derived.OpenShut
namespace Go.Proofs.Ytadcahnoghnkcaa
open Go.ChangeShapes Go.WideShapes Go.RowKit Go.Deep
set_option linter.unusedVariables false
set_option linter.unusedSimpArgs false

theorem addr_plain {w : World} {x : Addr} {v : Value} (h : w.cell? x = some v) : ∃ b off, x = ⟨b, off, none⟩ := by
  obtain ⟨b, off, spot⟩ := x
  cases spot with
  | none => exact ⟨b, off, rfl⟩
  | some s => simp [World.cell?] at h; split at h <;> simp_all
theorem add_plain (b off j : Nat) : (⟨b, off, none⟩ : Addr).add j = ⟨b, off + j, none⟩ := by unfold Addr.add; split <;> simp_all
section
variable {H : Type} {enc : TypeId × Value → H} {w : World} {base : Nat} {spare : Nat → Bool} {held : Bool}
theorem rd_of_trod {P : Program} {t e : TypeId} {k : IntKind} {fuel : Nat} {v : Value} {x : DataW H × List MemPlace} (ht : P.underlying t = some (.slice e)) (he : P.underlying e = some (.int k)) (hc : P.cellsOf e = 1) (h : DataW.trod enc P w base spare held fuel t [v] = some x) :
    ∃ (A : Option Addr) (n c : Nat) (zs : List Int), v = .slice A n c ∧ Rd w A n c 1 (zs.map (Value.int k)) ∧ ∀ z ∈ zs, (Lit.int k z).wf = true := by
  rcases open_ints ht he hc h with ⟨hcs, _⟩ | ⟨a, len, cap, zs, hcs, _, hl, hm, hz, _, hcell, hwf⟩
  · injection hcs with hcs
    exact ⟨none, 0, 0, [], hcs, ⟨by simp, Nat.le_refl _, by omega, fun _ => rfl, fun j u hu => by simp at hu⟩, by simp⟩
  · injection hcs with hcs
    have hzl : len ≤ zs.length := by rw [hz]; split <;> omega
    refine ⟨some a, len, cap, zs.take len, hcs, ⟨by simp; omega, hl, (by simpa only [maxLen] using hm), (fun e => by cases e), fun j u hu => ?_⟩, fun z hz => hwf z (List.mem_of_mem_take hz)⟩
    have hj : j < len := by
      rcases Nat.lt_or_ge j len with h | h
      · exact h
      · rw [List.getElem?_eq_none (by simp; omega)] at hu; cases hu
    have h0 := hcell 0 (by omega)
    have hadd0 : a.add 0 = a := rfl
    rw [hadd0] at h0
    obtain ⟨b, off, rfl⟩ := addr_plain h0
    have hcj := hcell j (by omega)
    rw [add_plain] at hcj
    refine ⟨b, off, rfl, ?_⟩
    rw [hcj]
    rw [List.getElem?_map, List.getElem?_take_of_lt hj, List.getElem?_eq_getElem (by omega)] at hu
    simp [List.getD_eq_getElem?_getD, List.getElem?_eq_getElem (show j < zs.length by omega)] at hu ⊢
    exact hu
theorem bytes_of_trod {P : Program} {t e : TypeId} {fuel : Nat} {v : Value} {x : DataW H × List MemPlace} (ht : P.underlying t = some (.slice e)) (he : P.underlying e = some (.int .u8)) (hc : P.cellsOf e = 1) (h : DataW.trod enc P w base spare held fuel t [v] = some x) :
    ∃ A n c l, v = .slice A n c ∧ Rd w A n c 1 (u8s l) := by
  obtain ⟨A, n, c, zs, hv, hr, hw⟩ := rd_of_trod ht he hc h
  refine ⟨A, n, c, zs.map fun z => UInt8.ofNat z.toNat, hv, ?_⟩
  have : u8s (zs.map fun z => UInt8.ofNat z.toNat) = zs.map (Value.int .u8) := by
    simp only [u8s, List.map_map]
    refine List.map_congr_left fun z hz => ?_
    have := bounds_u8 (hw z hz)
    have e : (UInt8.ofNat z.toNat).toNat = z.toNat % 256 := by simp
    simp only [Function.comp, e]
    congr 1; omega
  rw [this]; exact hr
set_option maxRecDepth 100000 in
theorem packet_of_trod {fuel : Nat} {cs : List Value} {x : DataW H × List MemPlace} (h : DataW.trod enc Try.prog w base spare held fuel 33 cs = some x) : ∃ fr to nu ac A n c l, cs = [.int .i64 fr, .int .i64 to, .int .i64 nu, .int .i64 ac, .slice A n c] ∧ Rd w A n c 1 (u8s l) := by
  obtain ⟨xs, n, _, _, hlen, hxl, hf⟩ := DataW.trod_struct Try.underlying33 h
  have hc5 : Try.prog.cellsOf 33 = 5 := by kernel_rfl
  rw [hc5] at hlen
  match cs, hlen with
  | [c0, c1, c2, c3, c4], _ =>
    match xs, hxl with
    | [y0, y1, y2, y3, y4], _ =>
      have h3 : Try.prog.cellsOf 3 = 1 := by kernel_rfl
      have h27 : Try.prog.cellsOf 27 = 1 := by kernel_rfl
      have k0 := hf 0 _ rfl
      have k1 := hf 1 _ rfl
      have k2 := hf 2 _ rfl
      have k3 := hf 3 _ rfl
      have k4 := hf 4 _ rfl
      simp only [h3, h27, List.drop_zero, List.drop_succ_cons, List.take_succ_cons, List.take_zero, List.getElem?_cons_zero, List.getElem?_cons_succ] at k0 k1 k2 k3 k4
      obtain ⟨n0, e0, _, _⟩ := DataW.trod_int Try.underlying3 k0
      obtain ⟨n1, e1, _, _⟩ := DataW.trod_int Try.underlying3 k1
      obtain ⟨n2, e2, _, _⟩ := DataW.trod_int Try.underlying3 k2
      obtain ⟨n3, e3, _, _⟩ := DataW.trod_int Try.underlying3 k3
      obtain ⟨A, n, c, l, e4, hr⟩ := bytes_of_trod Try.underlying27 Try.underlying5 (by kernel_rfl) k4
      injection e0 with e0; injection e1 with e1; injection e2 with e2; injection e3 with e3
      exact ⟨n0, n1, n2, n3, A, n, c, l, by rw [e0, e1, e2, e3, e4], hr⟩
set_option maxRecDepth 100000 in
theorem ac_of_trod {fuel : Nat} {cs : List Value} {x : DataW H × List MemPlace} (h : DataW.trod enc Try.prog w base spare held fuel 60 cs = some x) : ∃ y : Ac, cs = y.cells ∧ Rd w y.M y.m y.d 1 (u8s y.l) := by
  obtain ⟨xs, n, _, _, hlen, hxl, hf⟩ := DataW.trod_struct Try.underlying60 h
  have hc6 : Try.prog.cellsOf 60 = 6 := by kernel_rfl
  rw [hc6] at hlen
  match cs, hlen with
  | [c0, c1, c2, c3, c4, c5], _ =>
    match xs, hxl with
    | [y0, y1], _ =>
      have h3 : Try.prog.cellsOf 3 = 1 := by kernel_rfl
      have h33 : Try.prog.cellsOf 33 = 5 := by kernel_rfl
      have k0 := hf 0 _ rfl
      have k1 : DataW.trod enc Try.prog w base spare held n 33 (([c0, c1, c2, c3, c4, c5].drop 1).take (Try.prog.cellsOf 33)) = some y1 := hf 1 _ rfl
      rw [h33] at k1
      simp only [h3, List.drop_zero, List.drop_succ_cons, List.take_succ_cons, List.take_zero, List.getElem?_cons_zero, List.getElem?_cons_succ] at k0
      obtain ⟨n0, e0, _, _⟩ := DataW.trod_int Try.underlying3 k0
      obtain ⟨fr, to, nu, ac, A, n, c, l, e1, hr⟩ := packet_of_trod (show DataW.trod enc Try.prog w base spare held n 33 [c1, c2, c3, c4, c5] = some y1 from k1)
      injection e0 with e0
      exact ⟨⟨n0, fr, to, nu, ac, A, n, c, l⟩, by rw [e0, e1]; rfl, hr⟩
end
end Go.Proofs.Ytadcahnoghnkcaa
