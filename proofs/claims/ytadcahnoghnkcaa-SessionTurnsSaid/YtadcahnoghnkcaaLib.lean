/- Words for memory that the walks of this seat share: what a slice reads as, what a block begins with, what a call leaves as it was. -/
import Derived.WalkKit
import Derived.WalkSpells
import Derived.WalkLawsBesides
import Derived.Laws.BytesArg
import Derived.Laws.AppendOwnNone
import Derived.Maps.AppendAt
import Derived.Lib.Hide
import Derived.KernelRfl
import Derived.Deep.OwnRows
import Derived.Lib.SlBytesConst
namespace Go.Proofs.Ytadcahnoghnkcaa
open Go.RowKit
set_option linter.unusedVariables false

/-- bytes as cells -/
def u8s (l : List UInt8) : List Value := l.map fun c => .int .u8 (c.toNat : Int)
theorem u8s_length (l : List UInt8) : (u8s l).length = l.length := by simp [u8s]
attribute [simp] u8s_length
theorem u8s_append (l k : List UInt8) : u8s (l ++ k) = u8s l ++ u8s k := by simp [u8s]
theorem u8s_take (l : List UInt8) (n : Nat) : (u8s l).take n = u8s (l.take n) := by simp [u8s, List.map_take]
theorem u8s_drop (l : List UInt8) (n : Nat) : (u8s l).drop n = u8s (l.drop n) := by simp [u8s, List.map_drop]
theorem u8s_get (l : List UInt8) (j : Nat) (h : j < l.length) : (u8s l)[j]? = some (.int .u8 ((l[j]?.getD 0).toNat : Int)) := by simp [u8s, h]
theorem u8s_one (l : List UInt8) : ∀ u ∈ u8s l, u.oneCell' = true := by
  intro u hu; simp [u8s] at hu; obtain ⟨c, _, rfl⟩ := hu; rfl
theorem u8s_snoc (l : List UInt8) (k : Nat) (h : k < l.length) : l.take (k + 1) = l.take k ++ [l[k]?.getD 0] := by rw [List.take_succ_eq_append_getElem h]; simp [h]
theorem u8s_inj {l k : List UInt8} (h : u8s l = u8s k) : l = k := by
  unfold u8s at h
  refine List.map_inj_right (fun a b hab => ?_) |>.1 h
  have : (a.toNat : Int) = (b.toNat : Int) := by simpa using hab
  exact UInt8.toNat_inj.1 (by omega)

/-- numbers of 64 bits as cells -/
def q8s (l : List UInt64) : List Value := l.map fun c => .int .u64 (c.toNat : Int)
theorem q8s_length (l : List UInt64) : (q8s l).length = l.length := by simp [q8s]
attribute [simp] q8s_length
theorem q8s_get (l : List UInt64) (j : Nat) (h : j < l.length) : (q8s l)[j]? = some (.int .u64 ((l[j]?.getD 0).toNat : Int)) := by simp [q8s, h]
theorem q8s_one (l : List UInt64) : ∀ u ∈ q8s l, u.oneCell' = true := by
  intro u hu; simp [q8s] at hu; obtain ⟨c, _, rfl⟩ := hu; rfl
theorem q8s_snoc (l : List UInt64) (k : Nat) (h : k < l.length) : l.take (k + 1) = l.take k ++ [l[k]?.getD 0] := by rw [List.take_succ_eq_append_getElem h]; simp [h]

theorem cell_far (w : World) (p a : Addr) (v : Value) (h : a.block ≠ p.block) : (w.setCell p v).cell? a = w.cell? a := World.cell?_of_block (Below.heap_setCell w p v a.block h)
theorem frozen_far (w : World) (p a : Addr) (v : Value) : (w.setCell p v).frozen? a = w.frozen? a := World.frozen?_setCell ..

theorem ret_int {k : IntKind} {a b : Int} (h : a = b) : Ending.returned (.int k a) = .returned (.int k b) := by rw [h]
theorem ret_bool {a b : Bool} (h : a = b) : Ending.returned (.bool a) = .returned (.bool b) := by rw [h]
theorem ret_str {a b : ByteArray} (h : a = b) : Ending.returned (.string a) = .returned (.string b) := by rw [h]

/-- What a call does to memory: new blocks, and writes to blocks in S alone. -/
structure Ch (S : Nat → Prop) (w w' : World) : Prop where
  os : w'.os = w.os
  tape : w'.tape = w.tape
  output : w'.output = w.output
  size : w.heap.size ≤ w'.heap.size
  block : ∀ k, k < w.heap.size → ¬ S k → w'.heap[k]? = w.heap[k]?
def No : Nat → Prop := fun _ => False
theorem Ch.refl (S : Nat → Prop) (w : World) : Ch S w w := ⟨rfl, rfl, rfl, Nat.le_refl _, fun _ _ _ => rfl⟩
theorem Ch.trans {S S' : Nat → Prop} {a b c : World} (h : Ch S a b) (k : Ch S' b c) (hS : ∀ i, S' i → S i ∨ a.heap.size ≤ i) : Ch S a c :=
  ⟨k.os.trans h.os, k.tape.trans h.tape, k.output.trans h.output, Nat.le_trans h.size k.size, fun i hi hn =>
    (k.block i (Nat.lt_of_lt_of_le hi h.size) (fun hs => (hS i hs).elim hn (fun hge => by omega))).trans (h.block i hi hn)⟩
theorem Ch.mono {S S' : Nat → Prop} {a b : World} (h : Ch S a b) (hS : ∀ i, i < a.heap.size → S i → S' i) : Ch S' a b :=
  ⟨h.os, h.tape, h.output, h.size, fun i hi hn => h.block i hi (fun hs => hn (hS i hi hs))⟩
theorem Ch.of_below {w w' : World} (h : Below w.heap.size w w') (S : Nat → Prop) : Ch S w w' := ⟨h.os, h.tape, h.output, h.size, fun k hk _ => h.block k hk⟩
theorem Ch.below {S : Nat → Prop} {w w' : World} (h : Ch S w w') {B : Nat} (hB : B ≤ w.heap.size) (hS : ∀ k, S k → B ≤ k) : Below B w w' :=
  ⟨h.os, h.tape, h.output, h.size, fun k hk => h.block k (by omega) (fun hs => by have := hS k hs; omega)⟩
theorem Ch.of_grown {w w' : World} {row : Option Nat} (h : w.grownBy w' row) : Ch (fun k => row = some k) w w' := ⟨h.os, h.tape, h.output, h.size, fun k hk hn => h.block k hk (fun e => hn e.symm)⟩
theorem Ch.alloc (w : World) (o : Obj) (S : Nat → Prop) : Ch S w (w.alloc o) := Ch.of_below ((Below.refl _ w).alloc (Nat.le_refl _) o) S
theorem Ch.drew (w : World) (S : Nat → Prop) : Ch S w w.drew := ⟨rfl, rfl, rfl, Nat.le_refl _, fun _ _ _ => rfl⟩
theorem Ch.setCell (w : World) (a : Addr) (v : Value) : Ch (fun k => k = a.block) w (w.setCell a v) :=
  ⟨rfl, rfl, rfl, by simp [World.setCell], fun k _ hn => Below.heap_setCell w a v k hn⟩

theorem below_cell {w w1 : World} (hb : Below w.heap.size w w1) {a : Addr} {v : Value} (hc : w.cell? a = some v) : w1.cell? a = some v := (hb.cell (World.block_lt_of_cell? w a hc)).trans hc
theorem below_thawed {w w1 : World} (hb : Below w.heap.size w w1) {a : Addr} {v : Value} (hc : w.cell? a = some v) (hf : w.frozen? a = false) : w1.frozen? a = false := (hb.frozen (World.block_lt_of_cell? w a hc)).trans hf
/-- the slice (A, n, c) reads as the cells xs, sz cells an element -/
structure Rd (w : World) (A : Option Addr) (n c sz : Nat) (xs : List Value) : Prop where
  len : xs.length = n * sz
  cap : n ≤ c
  big : c ≤ 9223372036854775807
  nil : A = none → c = 0
  cells : ∀ j u, xs[j]? = some u → ∃ b off, A = some ⟨b, off, none⟩ ∧ w.cell? ⟨b, off + j, none⟩ = some u

theorem Rd.keep {w w' : World} {A : Option Addr} {n c sz : Nat} {xs : List Value} (h : Rd w A n c sz xs) (hw : ∀ a, A = some a → a.block < w.heap.size → w'.heap[a.block]? = w.heap[a.block]?) : Rd w' A n c sz xs :=
  ⟨h.len, h.cap, h.big, h.nil, fun j u hu => by
    obtain ⟨b, off, rfl, hc⟩ := h.cells j u hu
    exact ⟨b, off, rfl, (World.cell?_of_block (a := ⟨b, off + j, none⟩) (hw ⟨b, off, none⟩ rfl (World.block_lt_of_cell? w ⟨b, off + j, none⟩ hc))).trans hc⟩⟩
theorem Rd.ch {S : Nat → Prop} {w w' : World} {A : Option Addr} {n c sz : Nat} {xs : List Value} (h : Rd w A n c sz xs) (hc : Ch S w w') (hS : ∀ a, A = some a → ¬ S a.block) : Rd w' A n c sz xs :=
  h.keep fun a ha hlt => hc.block _ hlt (hS a ha)
theorem Rd.below {w w' : World} {A : Option Addr} {n c sz : Nat} {xs : List Value} (h : Rd w A n c sz xs) (hb : Below w.heap.size w w') : Rd w' A n c sz xs :=
  h.keep fun a _ hlt => hb.block _ hlt
theorem Rd.small {w : World} {A : Option Addr} {n c sz : Nat} {xs : List Value} (h : Rd w A n c sz xs) : n ≤ 9223372036854775807 := Nat.le_trans h.cap h.big
theorem Rd.nils {w : World} {A : Option Addr} {n c sz : Nat} {xs : List Value} (h : Rd w A n c sz xs) (hA : A = none) : n = 0 ∧ c = 0 ∧ xs = [] := by
  have h1 := h.nil hA
  have h2 := h.cap
  have h3 := h.len
  have h4 : n = 0 := by omega
  subst h4
  exact ⟨rfl, h1, List.eq_nil_of_length_eq_zero (by simpa using h3)⟩

theorem rd_in {w : World} {A : Option Addr} {n c sz : Nat} {xs : List Value} (h : Rd w A n c (sz + 1) xs) : ∀ a, A = some a → 0 < n → a.block < w.heap.size := by
  intro a ha hn
  have hl := h.len
  have hp : 0 < xs.length := by rw [hl]; exact Nat.mul_pos hn (Nat.succ_pos _)
  obtain ⟨b, off, rfl, hc⟩ := h.cells 0 xs[0] (by simp [hp])
  cases ha
  exact World.block_lt_of_cell? w _ hc

/-- x[f : f + p] -/
theorem Rd.cut {w : World} {A : Option Addr} {n c sz : Nat} {xs : List Value} (h : Rd w A n c sz xs) (f p : Nat) (hp : f + p ≤ n) (ys : List Value) (hy : ys = (xs.drop (f * sz)).take (p * sz)) : Rd w (A.map fun x => x.add (f * sz)) p (c - f) sz ys := by
  subst hy
  have hl := h.len
  have hc := h.cap
  have hm : (f + p) * sz ≤ n * sz := Nat.mul_le_mul_right _ hp
  rw [Nat.add_mul] at hm
  refine ⟨by simp; omega, by omega, by have := h.big; omega, fun e => ?_, fun j u hu => ?_⟩
  · have hA : A = none := by cases A with | none => rfl | some a => simp at e
    have := h.nil hA; omega
  · have hu' : xs[f * sz + j]? = some u := by
      rw [List.getElem?_take] at hu
      split at hu
      · simpa [List.getElem?_drop] using hu
      · cases hu
    obtain ⟨b, off, rfl, hc⟩ := h.cells _ _ hu'
    refine ⟨b, off + f * sz, ?_, by rw [Nat.add_assoc]; exact hc⟩
    simp only [Option.map_some]
    congr 1
    unfold Addr.add
    split <;> simp_all

/-- bytes: what string(..) of them is -/
theorem Rd.str {P : Program} {w : World} {A : Option Addr} {n c : Nat} {l : List UInt8} (h : Rd w A n c 1 (u8s l)) (src e dst : TypeId) (hs : P.underlying src = some (.slice e)) (he : P.underlying e = some (.int .u8)) (hd : P.underlying dst = some .string) :
    (convert src dst (.slice A n c)).run P w = .ok (.string ⟨l.toArray⟩) w := by
  have hl : l.length = n := by have := h.len; simpa using this
  by_cases h0 : n = 0
  · subst h0
    obtain rfl : l = [] := List.eq_nil_of_length_eq_zero hl
    cases A with
    | none => exact run_convert_bytes_nil w src e hs he 0 c dst hd
    | some a =>
      rw [run_convert_bytes_string w src dst e _ 0 c hs he hd]
      simp [Conv.bytesToString, loadCells, loadCellsFrom]
      rfl
  · obtain ⟨b, off, rfl, _⟩ := h.cells 0 _ (u8s_get l 0 (by omega))
    have := run_convert_bytes_arg (P := P) w src e hs he b off n c (l.map fun c => (c.toNat : Int)) (by simpa using hl) (fun i hi => by
      obtain ⟨b', off', e', hc⟩ := h.cells i _ (u8s_get l i (by omega))
      cases e'
      rw [hc]
      simp [List.getD_eq_getElem?_getD, show i < l.length by omega]) dst hd
    rw [this]
    simp [strOfNums, Function.comp_def]

/-! ### what the call itself has made -/
theorem own_form {w : World} {base n sz : Nat} {e : TypeId} {v : Value} {xs : List Value} (h : w.ownsRow base e sz v n xs) : ∃ A c, v = .slice A n c ∧ Rd w A n c sz xs ∧ (∀ a, A = some a → base ≤ a.block ∧ a.block < w.heap.size) := by
  rcases h.2 with ⟨rfl, rfl⟩ | ⟨g, cap, cur, rfl, hb, hg, hn, hm, hcs, ht⟩
  · have hx : xs = [] := List.eq_nil_of_length_eq_zero (by simpa using h.1)
    subst hx
    exact ⟨none, 0, rfl, ⟨h.1, Nat.le_refl _, by omega, fun _ => rfl, fun j u hu => (by simp at hu)⟩, fun a ha => (by cases ha)⟩
  · refine ⟨_, cap, rfl, ⟨h.1, hn, (by simpa only [maxLen] using hm), (fun e => by cases e), fun j u hu => ⟨g, 0, rfl, ?_⟩⟩, fun a ha => (by cases ha; exact ⟨hb, (Array.getElem?_eq_some_iff.1 hg).1⟩)⟩
    rw [Nat.zero_add, cell_of_row w g j cur e (0, 0) hg]
    rw [← ht, List.getElem?_take] at hu
    split at hu
    · simpa using hu
    · cases hu
theorem own_same {w w' : World} {base n sz : Nat} {e : TypeId} {v : Value} {xs : List Value} (h : w.ownsRow base e sz v n xs) (hw : ∀ k, v.ownBlock = some k → w'.heap[k]? = w.heap[k]?) : w'.ownsRow base e sz v n xs := by
  refine ⟨h.1, ?_⟩
  rcases h.2 with hn | ⟨g, cap, cur, rfl, hb, hgg, rest⟩
  · exact .inl hn
  · exact .inr ⟨g, cap, cur, rfl, hb, (hw g rfl).trans hgg, rest⟩
theorem own_ch {S : Nat → Prop} {w w' : World} {base n sz : Nat} {e : TypeId} {v : Value} {xs : List Value} (h : w.ownsRow base e sz v n xs) (hc : Ch S w w') (hS : ∀ k, v.ownBlock = some k → ¬ S k) : w'.ownsRow base e sz v n xs :=
  own_same h fun k hk => hc.block k (h.lt k hk).2 (hS k hk)
theorem own_base {w : World} {base base' n sz : Nat} {e : TypeId} {v : Value} {xs : List Value} (h : w.ownsRow base e sz v n xs) (hb : base' ≤ base) : w.ownsRow base' e sz v n xs := by
  refine ⟨h.1, ?_⟩
  rcases h.2 with hn | ⟨g, cap, cur, rfl, hbg, rest⟩
  · exact .inl hn
  · exact .inr ⟨g, cap, cur, rfl, Nat.le_trans hb hbg, rest⟩

/-- block g is a row of c elements that begins with the cells xs -/
structure Row (w : World) (g : Nat) (e : TypeId) (c sz : Nat) (xs : List Value) : Prop where
  ex : ∃ cur : Array Value, w.heap[g]? = some (.cells cur e (0, 0)) ∧ cur.size = c * sz ∧ cur.toList.take xs.length = xs
  fits : xs.length ≤ c * sz
  big : c ≤ 9223372036854775807
theorem Row.lt {w : World} {g : Nat} {e : TypeId} {c sz : Nat} {xs : List Value} (h : Row w g e c sz xs) : g < w.heap.size := by
  obtain ⟨cur, hg, _⟩ := h.ex
  exact (Array.getElem?_eq_some_iff.1 hg).1
theorem Row.cell {w : World} {g : Nat} {e : TypeId} {c sz : Nat} {xs : List Value} (h : Row w g e c sz xs) {j : Nat} {u : Value} (hu : xs[j]? = some u) : w.cell? ⟨g, j, none⟩ = some u := by
  obtain ⟨cur, hg, hs, ht⟩ := h.ex
  rw [cell_of_row w g j cur e (0, 0) hg]
  rw [← ht, List.getElem?_take] at hu
  split at hu
  · simpa using hu
  · cases hu
theorem Row.thawed {w : World} {g : Nat} {e : TypeId} {c sz : Nat} {xs : List Value} (h : Row w g e c sz xs) (j : Nat) : w.frozen? ⟨g, j, none⟩ = false := by
  obtain ⟨cur, hg, hs, ht⟩ := h.ex
  simp [World.frozen?, hg]
theorem Row.same {w w' : World} {g : Nat} {e : TypeId} {c sz : Nat} {xs : List Value} (h : Row w g e c sz xs) (hw : w'.heap[g]? = w.heap[g]?) : Row w' g e c sz xs :=
  ⟨by rw [hw]; exact h.ex, h.fits, h.big⟩
theorem Row.ch {S : Nat → Prop} {w w' : World} {g : Nat} {e : TypeId} {c sz : Nat} {xs : List Value} (h : Row w g e c sz xs) (hc : Ch S w w') (hS : ¬ S g) : Row w' g e c sz xs := h.same (hc.block g h.lt hS)
theorem Row.below {w w' : World} {g : Nat} {e : TypeId} {c sz : Nat} {xs : List Value} (h : Row w g e c sz xs) (hc : Below w.heap.size w w') : Row w' g e c sz xs := h.same (hc.block g h.lt)
theorem Row.less {w : World} {g : Nat} {e : TypeId} {c sz : Nat} {xs ys : List Value} (h : Row w g e c sz (xs ++ ys)) : Row w g e c sz xs := by
  refine ⟨?_, by have := h.fits; simp at this; omega, h.big⟩
  obtain ⟨cur, hg, hs, ht⟩ := h.ex
  refine ⟨cur, hg, hs, ?_⟩
  have : (cur.toList.take (xs ++ ys).length).take xs.length = xs := by rw [ht]; simp
  rw [List.take_take, Nat.min_eq_left (by simp)] at this
  exact this
theorem Row.rd {w : World} {g : Nat} {e : TypeId} {c sz : Nat} {xs : List Value} (h : Row w g e c sz xs) (o n c' : Nat) (ys : List Value) (hy : ys = (xs.drop o).take (n * sz)) (hl : o + n * sz ≤ xs.length) (hn : n ≤ c') (hc : c' ≤ 9223372036854775807) : Rd w (some ⟨g, o, none⟩) n c' sz ys := by
  subst hy
  refine ⟨?_, hn, hc, (fun e => by cases e), fun j u hu => ⟨g, o, rfl, ?_⟩⟩
  · simp; omega
  · refine h.cell ?_
    rw [List.getElem?_take] at hu
    split at hu
    · simpa [List.getElem?_drop] using hu
    · cases hu
theorem Row.set {w : World} {g : Nat} {e : TypeId} {c sz : Nat} {xs : List Value} (h : Row w g e c sz xs) (j : Nat) (u : Value) (hj : j < xs.length) : Row (w.setCell ⟨g, j, none⟩ u) g e c sz (xs.set j u) := by
  obtain ⟨cur, hg, hs, ht⟩ := h.ex
  refine ⟨⟨cur.setIfInBounds j u, ?_, by simpa using hs, ?_⟩, by simpa using h.fits, h.big⟩
  · simp [World.setCell, Array.getElem?_modify, hg]
  · have : (cur.setIfInBounds j u).toList = cur.toList.set j u := by simp
    rw [this, List.length_set, List.take_set, ht]
theorem Row.whole {w : World} {g : Nat} {e : TypeId} {c sz : Nat} {xs : List Value} (h : Row w g e c sz xs) : ∃ ys, Row w g e c sz (xs ++ ys) ∧ (xs ++ ys).length = c * sz := by
  obtain ⟨cur, hg, hs, ht⟩ := h.ex
  refine ⟨cur.toList.drop xs.length, ⟨⟨cur, hg, hs, ?_⟩, ?_, h.big⟩, ?_⟩ <;>
    (have e : xs ++ cur.toList.drop xs.length = cur.toList := by
      conv => lhs; lhs; rw [← ht]
      exact List.take_append_drop _ _)
  · rw [e]; exact List.take_length
  · rw [e]; simp [hs]
  · rw [e]; simp [hs]
/-- a slice that the call has made and that is not nil -/
theorem own_row {w : World} {base n sz : Nat} {e : TypeId} {v : Value} {xs : List Value} (h : w.ownsRow base e sz v n xs) (hv : v ≠ .slice none 0 0) : ∃ g c, v = .slice (some ⟨g, 0, none⟩) n c ∧ base ≤ g ∧ n ≤ c ∧ Row w g e c sz xs := by
  rcases h.2 with ⟨rfl, rfl⟩ | ⟨g, cap, cur, rfl, hb, hg, hn, hm, hcs, ht⟩
  · exact absurd rfl hv
  · refine ⟨g, cap, rfl, hb, hn, ⟨cur, hg, hcs, ?_⟩, ?_, by simpa only [maxLen] using hm⟩
    · rw [h.1]; exact ht
    · rw [h.1]; exact Nat.mul_le_mul_right _ hn
theorem Row.own {w : World} {g : Nat} {e : TypeId} {c sz : Nat} {xs : List Value} (h : Row w g e c sz xs) {base n : Nat} (hb : base ≤ g) (hn : xs.length = n * sz) (hc : n ≤ c) : w.ownsRow base e sz (.slice (some ⟨g, 0, none⟩) n c) n xs := by
  obtain ⟨cur, hg, hs, ht⟩ := h.ex
  exact ⟨hn, .inr ⟨g, c, cur, rfl, hb, hg, hc, by simpa only [maxLen] using h.big, hs, by rw [← hn]; exact ht⟩⟩

/-- a block that has just been laid -/
theorem rd_mark (w : World) (cs : Array Value) (e : TypeId) (fr : Nat × Nat) (n sz : Nat) (h : cs.size = n * sz) (hn : n ≤ 9223372036854775807) : Rd (w.alloc (.cells cs e fr)) (some ⟨w.heap.size, 0, none⟩) n n sz cs.toList :=
  ⟨by simpa using h, Nat.le_refl _, hn, (fun e => by cases e), fun j u hu => ⟨_, 0, rfl, by
    rw [Nat.zero_add, cell_of_row _ w.heap.size j cs e fr (heap_alloc_new w _)]; simpa using hu⟩⟩
theorem rd_lit (w : World) (cs : Array Value) (e : TypeId) (n sz : Nat) (h : cs.size = n * sz) (hn : n ≤ 9223372036854775807) : Rd (w.alloc (.cells cs e)) (some ⟨w.heap.size, 0, none⟩) n n sz cs.toList := rd_mark w cs e (0, 0) n sz h hn
theorem row_lit (w : World) (cs : Array Value) (e : TypeId) (n sz : Nat) (h : cs.size = n * sz) (hn : n ≤ 9223372036854775807) : Row (w.alloc (.cells cs e)) w.heap.size e n sz cs.toList :=
  ⟨⟨cs, heap_alloc_new w _, h, List.take_length⟩, by simp [h], hn⟩

/-- what make([]byte, n) lays -/
def madeB (n : Nat) : Array Value := madeCells #[.int .u8 0] n
theorem run_madeB {P : Program} (t e : TypeId) (ht : P.underlying t = some (.slice e)) (hinfo : (P.info? e).map (fun i => (i.zero, i.size, i.bytes)) = some (some (.int .u8 0), 1, 1)) (m : Nat) (hm : m ≤ 281474976710656) (W : World) :
    (Instr.makeSlice t (.int .i64 (m : Int)) (.int .i64 (m : Int))).run P W = .ok (.slice (some ⟨W.heap.size, 0, none⟩) m m) (W.alloc (.cells (madeB m) e)) :=
  run_make_row' t e (.int .u8 0) 1 ht hinfo rfl .i64 .i64 m (by omega) (by omega) W
theorem row_madeB (W : World) (e : TypeId) (m : Nat) (hm : m ≤ 9223372036854775807) : Row (W.alloc (.cells (madeB m) e)) W.heap.size e m 1 (u8s (List.replicate m 0)) := by
  have h := row_lit W (madeB m) e m 1 (by simp [madeB, madeCells]) hm
  have : (madeB m).toList = u8s (List.replicate m 0) := by
    apply List.ext_getElem
    · simp [madeB, madeCells]
    · intro i h1 h2
      simp [madeB, madeCells, u8s, Nat.mod_one]
  rwa [this] at h

section
variable {P : Program} {ops : Array Oper} {rest : List Oper} {o : Oper} {a : Act} {Q : Exit → Act → World → Prop}
/-- append(v, ys...), v the call's own, ys whatever may be read -/
theorem wpList_app (w : World) (hgd : o.guard = none) (s x : Operand) (t : TypeId)
    (ho : o.op = .call { callee := .builtin .append, args := #[s, x], argTypes := #[t, t] })
    (base : Nat) (e : TypeId) (z : Value) (size bytes : Nat) (ht : P.underlying t = some (.slice e)) (hinfo : (P.info? e).map (fun i => (i.zero, i.size, i.bytes)) = some (some z, size, bytes)) (hzs : z.cells.size = size) (hsz : 0 < size)
    (v : Value) (n : Nat) (xs : List Value) (hs : a.eval s = v) (hown : w.ownsRow base e size v n xs)
    (A : Option Addr) (m c : Nat) (news : List Value) (hx : a.eval x = .slice A m c) (hr : Rd w A m c size news) (h1 : ∀ u ∈ news, u.oneCell' = true)
    (h63 : n + m ≤ maxLen) (hbytes : (n + m) * bytes ≤ 140737488355328) (hbase : base ≤ w.heap.size)
    (h : ∀ v' w', w'.ownsRow base e size v' (n + m) (xs ++ news) → w.grownBy w' v.ownBlock → (v' = .slice none 0 0 ↔ v = .slice none 0 0 ∧ m = 0) → (v'.ownBlock = v.ownBlock ∨ v'.ownBlock = some w.heap.size) → wpList P ops Q rest (a.put o.dst v') w') : wpList P ops Q (o :: rest) a w := by
  obtain ⟨i0, hi, hzz⟩ := Option.map_eq_some_iff.1 hinfo
  simp only [Prod.mk.injEq] at hzz
  obtain ⟨hz0, hz1, hz2⟩ := hzz
  cases hA : A with
  | none =>
    obtain ⟨rfl, rfl, rfl⟩ := hr.nils hA
    subst hA
    refine wpList_append_own_none hgd s x t ho base e i0 size ht hi v n xs hs hown hx (h v w (by simpa using hown) ⟨rfl, rfl, rfl, Nat.le_refl _, fun _ _ _ => rfl⟩ (by simp) (.inl rfl))
  | some ad =>
    subst hA
    refine wpList_append_own_at w hgd s x t ho base e i0 z size bytes ht hi hz0 hz1 hz2 hzs hsz v n xs hs hown ad m c news hx hr.len (fun j u hu => ?_) h1 h63 hbytes hbase h
    obtain ⟨b, off, he, hc⟩ := hr.cells j u hu
    cases he
    have : (⟨b, off, none⟩ : Addr).add j = ⟨b, off + j, none⟩ := by unfold Addr.add; split <;> simp_all
    rw [this]; exact hc
/-- one element, just laid in a box, behind what the call has gathered -/
theorem wpList_add (w : World) (hgd : o.guard = none) (s x : Operand) (t : TypeId)
    (ho : o.op = .call { callee := .builtin .append, args := #[s, x], argTypes := #[t, t] })
    (base : Nat) (e : TypeId) (z : Value) (size bytes : Nat) (ht : P.underlying t = some (.slice e)) (hinfo : (P.info? e).map (fun i => (i.zero, i.size, i.bytes)) = some (some z, size, bytes)) (hzs : z.cells.size = size) (hsz : 0 < size)
    (v : Value) (n : Nat) (xs : List Value) (hs : a.eval s = v) (hown : w.ownsRow base e size v n xs)
    (cs : Array Value) (ec : TypeId) (hx : a.eval x = .slice (some ⟨w.heap.size, 0, none⟩) 1 1) (hcs : cs.size = size) (h1 : ∀ u ∈ cs.toList, u.oneCell' = true)
    (h63 : n + 1 ≤ maxLen) (hbytes : (n + 1) * bytes ≤ 140737488355328) (hbase : base ≤ w.heap.size)
    (h : ∀ v' w', w'.ownsRow base e size v' (n + 1) (xs ++ cs.toList) → v' ≠ .slice none 0 0 → Ch (fun k => v.ownBlock = some k) w w' → Below base w w' → wpList P ops Q rest (a.put o.dst v') w') : wpList P ops Q (o :: rest) a (w.alloc (.cells cs ec)) := by
  refine wpList_app (w.alloc (.cells cs ec)) hgd s x t ho base e z size bytes ht hinfo hzs hsz v n xs hs (own_ch hown (Ch.alloc w _ No) (fun _ _ => id)) _ 1 1 cs.toList hx (rd_lit w cs ec 1 size (by omega) (by omega)) h1 h63 hbytes (by simp; omega) ?_
  intro v' w' hown' hg hnil hat
  have hc : Ch (fun k => v.ownBlock = some k) w w' := (Ch.alloc w _ _).trans (Ch.of_grown hg) (fun i hi => .inl hi)
  exact h v' w' hown' (fun e => by have := hnil.1 e; simp at this) hc (hc.below hbase (fun k hk => (hown.lt k hk).1))
/-- the same where v is a row: what it is behind the append is told -/
theorem wpList_app_row (w : World) (hgd : o.guard = none) (s x : Operand) (t : TypeId)
    (ho : o.op = .call { callee := .builtin .append, args := #[s, x], argTypes := #[t, t] })
    (base : Nat) (e : TypeId) (z : Value) (size bytes : Nat) (ht : P.underlying t = some (.slice e)) (hinfo : (P.info? e).map (fun i => (i.zero, i.size, i.bytes)) = some (some z, size, bytes)) (hzs : z.cells.size = size) (hsz : 0 < size)
    (g n c : Nat) (xs : List Value) (hs : a.eval s = .slice (some ⟨g, 0, none⟩) n c) (hrow : Row w g e c size xs) (hb : base ≤ g) (hn : xs.length = n * size) (hnc : n ≤ c)
    (A : Option Addr) (m c2 : Nat) (news : List Value) (hx : a.eval x = .slice A m c2) (hr : Rd w A m c2 size news) (h1 : ∀ u ∈ news, u.oneCell' = true)
    (h63 : n + m ≤ maxLen) (hbytes : (n + m) * bytes ≤ 140737488355328) (hbase : base ≤ w.heap.size)
    (h : ∀ g' c' w', Row w' g' e c' size (xs ++ news) → n + m ≤ c' → base ≤ g' → (g' = g ∨ g' = w.heap.size) → Ch (fun k => k = g) w w' → wpList P ops Q rest (a.put o.dst (.slice (some ⟨g', 0, none⟩) (n + m) c')) w') : wpList P ops Q (o :: rest) a w := by
  refine wpList_app w hgd s x t ho base e z size bytes ht hinfo hzs hsz _ n xs hs (hrow.own hb hn hnc) A m c2 news hx hr h1 h63 hbytes hbase ?_
  intro v' w' hown hg hnil hat
  obtain ⟨g', c', rfl, hbg, hnc', hrow'⟩ := own_row hown (fun h => by have := (hnil.1 h).1; simp at this)
  refine h g' c' w' hrow' hnc' hbg ?_ ((Ch.of_grown hg).mono fun i _ hi => ?_)
  · simpa [Value.ownBlock] using hat
  · have : g = i := by simpa [Value.ownBlock] using hi
    exact this.symm
end

end Go.Proofs.Ytadcahnoghnkcaa
