/- Words for arguments that come in: bytes, numbers, messages and rows of them, as the walk reads them. No conditions. -/
import Derived.Test.YtnlninmjmjffcaaTu
import Derived.Deep.Slices
import Derived.ChangeArms
import Derived.ChangeSlices
namespace Go.Proofs.Ytnlninmjmjffcaa
open Go.ChangeShapes Go.WideShapes Go.RowKit Go.Deep
set_option linter.unusedVariables false
set_option linter.unusedSimpArgs false

theorem addr_plain {w : World} {x : Addr} {v : Value} (h : w.cell? x = some v) : ∃ b off, x = ⟨b, off, none⟩ := by
  obtain ⟨b, off, spot⟩ := x
  cases spot with
  | none => exact ⟨b, off, rfl⟩
  | some s => simp [World.cell?] at h; split at h <;> simp_all
theorem add_plain (b off j : Nat) : (⟨b, off, none⟩ : Addr).add j = ⟨b, off + j, none⟩ := by unfold Addr.add; split <;> simp_all
section
variable {H : Type} {enc : TypeId × Value → H} {w : World} {base : Nat} {spare : Nat → Bool} {held : Bool}
theorem rd_of_trod {P : Program} {t e : TypeId} {k : IntKind} {fuel : Nat} {v : Value} {x : DataW H × List MemPlace} (ht : P.underlying t = some (.slice e)) (he : P.underlying e = some (.int k)) (hc : P.cellsOf e = 1) (h : DataW.trod enc P w base spare held fuel t [v] = some x) :
    ∃ (A : Option Addr) (n c : Nat) (zs : List Int), v = .slice A n c ∧ Rd w A n c 1 (zs.map (Value.int k)) ∧ ∀ z ∈ zs, (Lit.int k z).wf = true := by
  rcases open_ints ht he hc h with ⟨hcs, _⟩ | ⟨a, len, cap, zs, hcs, _, hl, hm, hz, _, hcell, hwf⟩
  · injection hcs with hcs
    exact ⟨none, 0, 0, [], hcs, ⟨by simp, Nat.le_refl _, by omega, fun _ => rfl, fun j u hu => by simp at hu⟩, by simp⟩
  · injection hcs with hcs
    have hzl : len ≤ zs.length := by rw [hz]; split <;> omega
    refine ⟨some a, len, cap, zs.take len, hcs, ⟨by simp; omega, hl, (by simpa only [maxLen] using hm), (fun e => by cases e), fun j u hu => ?_⟩, fun z hz => hwf z (List.mem_of_mem_take hz)⟩
    have hj : j < len := by
      rcases Nat.lt_or_ge j len with h | h
      · exact h
      · rw [List.getElem?_eq_none (by simp; omega)] at hu; cases hu
    have h0 := hcell 0 (by omega)
    have hadd0 : a.add 0 = a := rfl
    rw [hadd0] at h0
    obtain ⟨b, off, rfl⟩ := addr_plain h0
    have hcj := hcell j (by omega)
    rw [add_plain] at hcj
    refine ⟨b, off, rfl, ?_⟩
    rw [hcj]
    rw [List.getElem?_map, List.getElem?_take_of_lt hj, List.getElem?_eq_getElem (by omega)] at hu
    simp [List.getD_eq_getElem?_getD, List.getElem?_eq_getElem (show j < zs.length by omega)] at hu ⊢
    exact hu
theorem bytes_of_trod {P : Program} {t e : TypeId} {fuel : Nat} {v : Value} {x : DataW H × List MemPlace} (ht : P.underlying t = some (.slice e)) (he : P.underlying e = some (.int .u8)) (hc : P.cellsOf e = 1) (h : DataW.trod enc P w base spare held fuel t [v] = some x) :
    ∃ A n c l, v = .slice A n c ∧ Rd w A n c 1 (u8s l) := by
  obtain ⟨A, n, c, zs, hv, hr, hw⟩ := rd_of_trod ht he hc h
  refine ⟨A, n, c, zs.map fun z => UInt8.ofNat z.toNat, hv, ?_⟩
  have : u8s (zs.map fun z => UInt8.ofNat z.toNat) = zs.map (Value.int .u8) := by
    simp only [u8s, List.map_map]
    refine List.map_congr_left fun z hz => ?_
    have := bounds_u8 (hw z hz)
    have e : (UInt8.ofNat z.toNat).toNat = z.toNat % 256 := by simp
    simp only [Function.comp, e]
    congr 1; omega
  rw [this]; exact hr
theorem bools_of_trod {P : Program} {t e : TypeId} {fuel : Nat} {v : Value} {x : DataW H × List MemPlace} (ht : P.underlying t = some (.slice e)) (he : P.underlying e = some .bool) (hc : P.cellsOf e = 1) (h : DataW.trod enc P w base spare held fuel t [v] = some x) :
    ∃ A n c, v = .slice A n c ∧ n ≤ c ∧ c ≤ 9223372036854775807 ∧ ∀ i, i < n → ∃ b off d, A = some ⟨b, off, none⟩ ∧ w.cell? ⟨b, off + i, none⟩ = some (.bool d) := by
  rcases open_slice ht h with ⟨hcs, _⟩ | ⟨a, len, cap, m, n, D, Pl, hcs, hb, hl, hm, hmm, hx, hi⟩
  · injection hcs with hcs
    exact ⟨none, 0, 0, hcs, Nat.le_refl _, by omega, fun i h => by omega⟩
  · injection hcs with hcs
    have hml : len ≤ m := by rw [hmm]; split <;> omega
    refine ⟨some a, len, cap, hcs, hl, (by simpa only [maxLen] using hm), fun i hil => ?_⟩
    obtain ⟨cs', h1, h2⟩ := hi i (by omega)
    rw [hc] at h1
    obtain ⟨_, hlen, hcell⟩ := World.cells?_some h1
    obtain ⟨d, rfl, _⟩ := DataW.trod_bool he h2
    obtain ⟨cs0, h10, h20⟩ := hi 0 (by omega)
    rw [hc] at h10
    obtain ⟨_, _, hcell0⟩ := World.cells?_some h10
    obtain ⟨d0, rfl, _⟩ := DataW.trod_bool he h20
    obtain ⟨b, off, rfl⟩ := addr_plain (x := a) (hcell0 0 (by omega))
    have h3 := hcell 0 (by omega)
    rw [add_add, Nat.mul_one, Nat.add_zero, add_plain] at h3
    exact ⟨b, off, d, rfl, h3⟩

/-- a message's value -/
structure Msg where
  k : Int
  i : Int
  s : Int
  a : Int
  M : Option Addr
  m : Nat
  d : Nat
  l : List UInt8
def Msg.cells (x : Msg) : List Value := [.int .i64 x.k, .int .i64 x.i, .int .i64 x.s, .int .i64 x.a, .slice x.M x.m x.d]
theorem msg_of_trod {fuel : Nat} {cs : List Value} {x : DataW H × List MemPlace} (h : DataW.trod enc Try.prog w base spare held fuel 50 cs = some x) : ∃ y : Msg, cs = y.cells ∧ Rd w y.M y.m y.d 1 (u8s y.l) := by
  obtain ⟨xs, n, _, _, hlen, hxl, hf⟩ := DataW.trod_struct Try.underlying50 h
  have hc5 : Try.prog.cellsOf 50 = 5 := by kernel_rfl
  rw [hc5] at hlen
  match cs, hlen with
  | [c0, c1, c2, c3, c4], _ =>
    match xs, hxl with
    | [y0, y1, y2, y3, y4], _ =>
      have h3 : Try.prog.cellsOf 3 = 1 := by kernel_rfl
      have h22 : Try.prog.cellsOf 22 = 1 := by kernel_rfl
      have k0 := hf 0 _ rfl
      have k1 := hf 1 _ rfl
      have k2 := hf 2 _ rfl
      have k3 := hf 3 _ rfl
      have k4 := hf 4 _ rfl
      simp only [h3, h22, List.drop_zero, List.drop_succ_cons, List.take_succ_cons, List.take_zero, List.getElem?_cons_zero, List.getElem?_cons_succ] at k0 k1 k2 k3 k4
      obtain ⟨n0, e0, _, _⟩ := DataW.trod_int Try.underlying3 k0
      obtain ⟨n1, e1, _, _⟩ := DataW.trod_int Try.underlying3 k1
      obtain ⟨n2, e2, _, _⟩ := DataW.trod_int Try.underlying3 k2
      obtain ⟨n3, e3, _, _⟩ := DataW.trod_int Try.underlying3 k3
      obtain ⟨A, n, c, l, e4, hr⟩ := bytes_of_trod Try.underlying22 Try.underlying5 (by kernel_rfl) k4
      injection e0 with e0; injection e1 with e1; injection e2 with e2; injection e3 with e3
      exact ⟨⟨n0, n1, n2, n3, A, n, c, l⟩, by rw [e0, e1, e2, e3, e4]; rfl, hr⟩
/-- five cells from o on in block b are a message's -/
def MsgIn (w : World) (b o : Nat) (x : Msg) : Prop :=
  w.cell? ⟨b, o, none⟩ = some (.int .i64 x.k) ∧ w.cell? ⟨b, o + 1, none⟩ = some (.int .i64 x.i) ∧ w.cell? ⟨b, o + 2, none⟩ = some (.int .i64 x.s) ∧ w.cell? ⟨b, o + 3, none⟩ = some (.int .i64 x.a) ∧ w.cell? ⟨b, o + 4, none⟩ = some (.slice x.M x.m x.d) ∧ Rd w x.M x.m x.d 1 (u8s x.l)
theorem msgIn_below {w w' : World} {b o : Nat} {x : Msg} (h : MsgIn w b o x) (hb : Below w.heap.size w w') : MsgIn w' b o x :=
  ⟨below_cell hb h.1, below_cell hb h.2.1, below_cell hb h.2.2.1, below_cell hb h.2.2.2.1, below_cell hb h.2.2.2.2.1, h.2.2.2.2.2.below hb⟩
/-- a slice of n messages, F i the one at i -/
def Msgs (w : World) (A : Option Addr) (n c : Nat) (F : Nat → Msg) : Prop := n ≤ c ∧ c ≤ 9223372036854775807 ∧ ∀ i, i < n → ∃ b off, A = some ⟨b, off, none⟩ ∧ MsgIn w b (off + i * 5) (F i)
theorem msgs_below {w w' : World} {A : Option Addr} {n c : Nat} {F : Nat → Msg} (h : Msgs w A n c F) (hb : Below w.heap.size w w') : Msgs w' A n c F :=
  ⟨h.1, h.2.1, fun i hi => by obtain ⟨b, off, h1, h2⟩ := h.2.2 i hi; exact ⟨b, off, h1, msgIn_below h2 hb⟩⟩
theorem msgs_of_trod {fuel : Nat} {v : Value} {x : DataW H × List MemPlace} (h : DataW.trod enc Try.prog w base spare held fuel 44 [v] = some x) : ∃ A n c F, v = .slice A n c ∧ Msgs w A n c F := by
  rcases open_slice Try.underlying44 h with ⟨hcs, _⟩ | ⟨a, len, cap, m, n, D, Pl, hcs, hb, hl, hm, hmm, hx, hi⟩
  · injection hcs with hcs
    exact ⟨none, 0, 0, fun _ => ⟨0, 0, 0, 0, none, 0, 0, []⟩, hcs, Nat.le_refl _, by omega, fun i h => by omega⟩
  · injection hcs with hcs
    have hml : len ≤ m := by rw [hmm]; split <;> omega
    have hc5 : Try.prog.cellsOf 50 = 5 := by kernel_rfl
    rw [hc5] at hi
    have each : ∀ i, i < len → ∃ y : Msg, ∃ b off, (some a : Option Addr) = some ⟨b, off, none⟩ ∧ MsgIn w b (off + i * 5) y := by
      intro i hil
      obtain ⟨cs', h1, h2⟩ := hi i (by omega)
      obtain ⟨_, hlen, hcell⟩ := World.cells?_some h1
      obtain ⟨y, rfl, hr⟩ := msg_of_trod h2
      obtain ⟨cs0, h10, h20⟩ := hi 0 (by omega)
      obtain ⟨_, _, hcell0⟩ := World.cells?_some h10
      obtain ⟨y0, rfl, _⟩ := msg_of_trod h20
      obtain ⟨b', off', rfl⟩ := addr_plain (x := a) (hcell0 0 (by omega))
      refine ⟨y, b', off', rfl, ?_⟩
      have key : ∀ j, j < 5 → w.cell? ⟨b', off' + i * 5 + j, none⟩ = y.cells[j]? := by
        intro j hj
        have h4 := hcell j hj
        rwa [add_add, add_plain, ← Nat.add_assoc] at h4
      exact ⟨key 0 (by omega), key 1 (by omega), key 2 (by omega), key 3 (by omega), key 4 (by omega), hr⟩
    refine ⟨some a, len, cap, fun i => if h : i < len then Classical.choose (each i h) else ⟨0, 0, 0, 0, none, 0, 0, []⟩, hcs, hl, (by simpa only [maxLen] using hm), fun i hil => ?_⟩
    simp only [dif_pos hil]
    exact Classical.choose_spec (each i hil)
end

/-! ### Put, of a message whose bytes may be none -/
theorem putB2 {mid B : Nat} {q it sz : Int} {x : List UInt8} {w : World} (h : BoxS w mid B q it sz x) (hmid : mid ≤ w.heap.size)
    (k i s a : Int) (M : Option Addr) (m d : Nat) (l : List UInt8) (hl : Rd w M m d 1 (u8s l)) (hM : ∀ b, M = some b → 0 < m → b.block ≠ B) :
    Calls Try.prog 42 #[.pointer (some ⟨B, 0, none⟩), .agg #[.int .i64 k, .int .i64 i, .int .i64 s, .int .i64 a, .slice M m d]] w (PutB w mid B q (putS q it sz x k i s a l)) := by
  by_cases hok : okM k i s a m ∧ k = 1
  · exact putB h hmid k i s a M m d l hl (fun b hb => hM b hb (by have := hok.1; unfold okM at this; omega))
  · obtain ⟨A, n, c, h1, h2, h3⟩ := h
    have hlt := blk_lt h1
    have hA := held_lt h2
    have hx := held_base (mid := min mid B) h2 (fun b hb => by have := hA b hb; omega)
    have hll : l.length = m := by have := hl.len; simpa using this
    have hp : putS q it sz x k i s a l = ([], 2, it, sz, x) := by unfold putS; rw [if_pos (by rw [hll]; exact hok)]
    refine (put_bad h1 hx k i s a M m d l hl.small hll hok).mono ?_
    rw [hp]
    unfold PutQ
    rw [hp]
    rintro e w' ⟨R, A', m', d', n', c', rfl, hb, hh, hr, hc, ha', hR', hor⟩
    have kA : ∀ b, A' = some b → mid ≤ b.block ∧ b.block ≠ B := fun b hb => by
      rcases ha' b hb with h | h
      · exact ⟨(hA b h).1, h3 b h⟩
      · exact ⟨by omega, by omega⟩
    have kR : ∀ b, R = some b → mid ≤ b.block ∧ b.block ≠ B := fun b hb => by
      rcases hR' b hb with h | h
      · exact ⟨(hA b h).1, h3 b h⟩
      · exact ⟨by omega, by omega⟩
    refine ⟨R, m', d', rfl, ⟨A', n', c', hb, held_base hh (fun b hb => (kA b hb).1), fun b hb => (kA b hb).2⟩, held_base hr (fun b hb => (kR b hb).1), hc.mono (fun i _ hi => hi.imp id fun ⟨b, hb, hj⟩ => by rw [hj]; exact (hA b hb).1), fun b hb => (kR b hb).2, fun w'' hcc => ?_⟩
    refine ⟨A', n', c', blk_ch hb hcc (fun ⟨b, hb, e⟩ => (kR b hb).2 e.symm), held_ch (held_base hh (fun b hb => (kA b hb).1)) hcc (fun a ha ⟨b, hb, _⟩ => ?_), fun b hb => (kA b hb).2⟩
    rcases hor with h | h
    · rw [h] at hb; cases hb
    · rw [h] at ha; cases ha

end Go.Proofs.Ytnlninmjmjffcaa
