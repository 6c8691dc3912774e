/- Words, walks and plain laws for the row, packed: each text in a section of its own. Conditions stand with each theorem. -/
import Derived.WalkKit
import Derived.WalkSpells
import Derived.WalkLawsBesides
import Derived.Laws.BytesArg
import Derived.Laws.AppendOwnNone
import Derived.Maps.AppendAt
import Derived.Lib.Hide
import Derived.KernelRfl
import Derived.Deep.OwnRows
import Derived.Lib.SlBytesConst
import Derived.Test.YtdelfhahbngcfaaProg
import Derived.Scope
import Derived.Deep.LoopGhost
import Derived.Shelf.Abstract
import Derived.Shelf.RegionOpen
import Derived.Deep.RegionLaw
import Derived.Deep.RegionHeld3
import Derived.OrdersIn
import Derived.OrdersHeld
import Derived.RangeFuncCalls
import Derived.RangeFuncLeaves
import Derived.Deep.Slices
import Derived.ChangeArms
import Derived.ChangeSlices
import Derived.OpenShut
import Derived.Test.YtdelfhahbngcfaaKPastHasa
section
namespace Go.Proofs.Ytdelfhahbngcfaa
open Go.RowKit
set_option linter.unusedVariables false
def u8s (l : List UInt8) : List Value := l.map fun c => .int .u8 (c.toNat : Int)
theorem u8s_length (l : List UInt8) : (u8s l).length = l.length := by simp [u8s]
attribute [simp] u8s_length
def q8s (l : List UInt64) : List Value := l.map fun c => .int .u64 (c.toNat : Int)
theorem q8s_length (l : List UInt64) : (q8s l).length = l.length := by simp [q8s]
attribute [simp] q8s_length
structure Ch (S : Nat → Prop) (w w' : World) : Prop where
  os : w'.os = w.os
  tape : w'.tape = w.tape
  output : w'.output = w.output
  size : w.heap.size ≤ w'.heap.size
  block : ∀ k, k < w.heap.size → ¬ S k → w'.heap[k]? = w.heap[k]?
def No : Nat → Prop := fun _ => False
theorem Ch.refl (S : Nat → Prop) (w : World) : Ch S w w := ⟨rfl, rfl, rfl, Nat.le_refl _, fun _ _ _ => rfl⟩
theorem Ch.trans {S S' : Nat → Prop} {a b c : World} (h : Ch S a b) (k : Ch S' b c) (hS : ∀ i, S' i → S i ∨ a.heap.size ≤ i) : Ch S a c :=
  ⟨k.os.trans h.os, k.tape.trans h.tape, k.output.trans h.output, Nat.le_trans h.size k.size, fun i hi hn =>
    (k.block i (Nat.lt_of_lt_of_le hi h.size) (fun hs => (hS i hs).elim hn (fun hge => by omega))).trans (h.block i hi hn)⟩
theorem Ch.mono {S S' : Nat → Prop} {a b : World} (h : Ch S a b) (hS : ∀ i, i < a.heap.size → S i → S' i) : Ch S' a b :=
  ⟨h.os, h.tape, h.output, h.size, fun i hi hn => h.block i hi (fun hs => hn (hS i hi hs))⟩
theorem Ch.of_below {w w' : World} (h : Below w.heap.size w w') (S : Nat → Prop) : Ch S w w' := ⟨h.os, h.tape, h.output, h.size, fun k hk _ => h.block k hk⟩
theorem Ch.below {S : Nat → Prop} {w w' : World} (h : Ch S w w') {B : Nat} (hB : B ≤ w.heap.size) (hS : ∀ k, S k → B ≤ k) : Below B w w' :=
  ⟨h.os, h.tape, h.output, h.size, fun k hk => h.block k (by omega) (fun hs => by have := hS k hs; omega)⟩
theorem Ch.of_grown {w w' : World} {row : Option Nat} (h : w.grownBy w' row) : Ch (fun k => row = some k) w w' := ⟨h.os, h.tape, h.output, h.size, fun k hk hn => h.block k hk (fun e => hn e.symm)⟩
theorem Ch.alloc (w : World) (o : Obj) (S : Nat → Prop) : Ch S w (w.alloc o) := Ch.of_below ((Below.refl _ w).alloc (Nat.le_refl _) o) S
theorem Ch.drew (w : World) (S : Nat → Prop) : Ch S w w.drew := ⟨rfl, rfl, rfl, Nat.le_refl _, fun _ _ _ => rfl⟩
theorem Ch.setCell (w : World) (a : Addr) (v : Value) : Ch (fun k => k = a.block) w (w.setCell a v) :=
  ⟨rfl, rfl, rfl, by simp [World.setCell], fun k _ hn => Below.heap_setCell w a v k hn⟩
theorem below_cell {w w1 : World} (hb : Below w.heap.size w w1) {a : Addr} {v : Value} (hc : w.cell? a = some v) : w1.cell? a = some v := (hb.cell (World.block_lt_of_cell? w a hc)).trans hc
structure Rd (w : World) (A : Option Addr) (n c sz : Nat) (xs : List Value) : Prop where
  len : xs.length = n * sz
  cap : n ≤ c
  big : c ≤ 9223372036854775807
  nil : A = none → c = 0
  cells : ∀ j u, xs[j]? = some u → ∃ b off, A = some ⟨b, off, none⟩ ∧ w.cell? ⟨b, off + j, none⟩ = some u
theorem Rd.keep {w w' : World} {A : Option Addr} {n c sz : Nat} {xs : List Value} (h : Rd w A n c sz xs) (hw : ∀ a, A = some a → a.block < w.heap.size → w'.heap[a.block]? = w.heap[a.block]?) : Rd w' A n c sz xs :=
  ⟨h.len, h.cap, h.big, h.nil, fun j u hu => by
    obtain ⟨b, off, rfl, hc⟩ := h.cells j u hu
    exact ⟨b, off, rfl, (World.cell?_of_block (a := ⟨b, off + j, none⟩) (hw ⟨b, off, none⟩ rfl (World.block_lt_of_cell? w ⟨b, off + j, none⟩ hc))).trans hc⟩⟩
theorem Rd.ch {S : Nat → Prop} {w w' : World} {A : Option Addr} {n c sz : Nat} {xs : List Value} (h : Rd w A n c sz xs) (hc : Ch S w w') (hS : ∀ a, A = some a → ¬ S a.block) : Rd w' A n c sz xs :=
  h.keep fun a ha hlt => hc.block _ hlt (hS a ha)
theorem Rd.below {w w' : World} {A : Option Addr} {n c sz : Nat} {xs : List Value} (h : Rd w A n c sz xs) (hb : Below w.heap.size w w') : Rd w' A n c sz xs :=
  h.keep fun a _ hlt => hb.block _ hlt
theorem own_form {w : World} {base n sz : Nat} {e : TypeId} {v : Value} {xs : List Value} (h : w.ownsRow base e sz v n xs) : ∃ A c, v = .slice A n c ∧ Rd w A n c sz xs ∧ (∀ a, A = some a → base ≤ a.block ∧ a.block < w.heap.size) := by
  rcases h.2 with ⟨rfl, rfl⟩ | ⟨g, cap, cur, rfl, hb, hg, hn, hm, hcs, ht⟩
  · have hx : xs = [] := List.eq_nil_of_length_eq_zero (by simpa using h.1)
    subst hx
    exact ⟨none, 0, rfl, ⟨h.1, Nat.le_refl _, by omega, fun _ => rfl, fun j u hu => (by simp at hu)⟩, fun a ha => (by cases ha)⟩
  · refine ⟨_, cap, rfl, ⟨h.1, hn, (by simpa only [maxLen] using hm), (fun e => by cases e), fun j u hu => ⟨g, 0, rfl, ?_⟩⟩, fun a ha => (by cases ha; exact ⟨hb, (Array.getElem?_eq_some_iff.1 hg).1⟩)⟩
    rw [Nat.zero_add, cell_of_row w g j cur e (0, 0) hg]
    rw [← ht, List.getElem?_take] at hu
    split at hu
    · simpa using hu
    · cases hu
theorem own_same {w w' : World} {base n sz : Nat} {e : TypeId} {v : Value} {xs : List Value} (h : w.ownsRow base e sz v n xs) (hw : ∀ k, v.ownBlock = some k → w'.heap[k]? = w.heap[k]?) : w'.ownsRow base e sz v n xs := by
  refine ⟨h.1, ?_⟩
  rcases h.2 with hn | ⟨g, cap, cur, rfl, hb, hgg, rest⟩
  · exact .inl hn
  · exact .inr ⟨g, cap, cur, rfl, hb, (hw g rfl).trans hgg, rest⟩
theorem own_ch {S : Nat → Prop} {w w' : World} {base n sz : Nat} {e : TypeId} {v : Value} {xs : List Value} (h : w.ownsRow base e sz v n xs) (hc : Ch S w w') (hS : ∀ k, v.ownBlock = some k → ¬ S k) : w'.ownsRow base e sz v n xs :=
  own_same h fun k hk => hc.block k (h.lt k hk).2 (hS k hk)
theorem own_base {w : World} {base base' n sz : Nat} {e : TypeId} {v : Value} {xs : List Value} (h : w.ownsRow base e sz v n xs) (hb : base' ≤ base) : w.ownsRow base' e sz v n xs := by
  refine ⟨h.1, ?_⟩
  rcases h.2 with hn | ⟨g, cap, cur, rfl, hbg, rest⟩
  · exact .inl hn
  · exact .inr ⟨g, cap, cur, rfl, Nat.le_trans hb hbg, rest⟩
structure Row (w : World) (g : Nat) (e : TypeId) (c sz : Nat) (xs : List Value) : Prop where
  ex : ∃ cur : Array Value, w.heap[g]? = some (.cells cur e (0, 0)) ∧ cur.size = c * sz ∧ cur.toList.take xs.length = xs
  fits : xs.length ≤ c * sz
  big : c ≤ 9223372036854775807
theorem Row.lt {w : World} {g : Nat} {e : TypeId} {c sz : Nat} {xs : List Value} (h : Row w g e c sz xs) : g < w.heap.size := by
  obtain ⟨cur, hg, _⟩ := h.ex
  exact (Array.getElem?_eq_some_iff.1 hg).1
theorem Row.cell {w : World} {g : Nat} {e : TypeId} {c sz : Nat} {xs : List Value} (h : Row w g e c sz xs) {j : Nat} {u : Value} (hu : xs[j]? = some u) : w.cell? ⟨g, j, none⟩ = some u := by
  obtain ⟨cur, hg, hs, ht⟩ := h.ex
  rw [cell_of_row w g j cur e (0, 0) hg]
  rw [← ht, List.getElem?_take] at hu
  split at hu
  · simpa using hu
  · cases hu
theorem Row.same {w w' : World} {g : Nat} {e : TypeId} {c sz : Nat} {xs : List Value} (h : Row w g e c sz xs) (hw : w'.heap[g]? = w.heap[g]?) : Row w' g e c sz xs :=
  ⟨by rw [hw]; exact h.ex, h.fits, h.big⟩
theorem Row.ch {S : Nat → Prop} {w w' : World} {g : Nat} {e : TypeId} {c sz : Nat} {xs : List Value} (h : Row w g e c sz xs) (hc : Ch S w w') (hS : ¬ S g) : Row w' g e c sz xs := h.same (hc.block g h.lt hS)
theorem Row.below {w w' : World} {g : Nat} {e : TypeId} {c sz : Nat} {xs : List Value} (h : Row w g e c sz xs) (hc : Below w.heap.size w w') : Row w' g e c sz xs := h.same (hc.block g h.lt)
theorem Row.rd {w : World} {g : Nat} {e : TypeId} {c sz : Nat} {xs : List Value} (h : Row w g e c sz xs) (o n c' : Nat) (ys : List Value) (hy : ys = (xs.drop o).take (n * sz)) (hl : o + n * sz ≤ xs.length) (hn : n ≤ c') (hc : c' ≤ 9223372036854775807) : Rd w (some ⟨g, o, none⟩) n c' sz ys := by
  subst hy
  refine ⟨?_, hn, hc, (fun e => by cases e), fun j u hu => ⟨g, o, rfl, ?_⟩⟩
  · simp; omega
  · refine h.cell ?_
    rw [List.getElem?_take] at hu
    split at hu
    · simpa [List.getElem?_drop] using hu
    · cases hu
theorem Row.set {w : World} {g : Nat} {e : TypeId} {c sz : Nat} {xs : List Value} (h : Row w g e c sz xs) (j : Nat) (u : Value) (hj : j < xs.length) : Row (w.setCell ⟨g, j, none⟩ u) g e c sz (xs.set j u) := by
  obtain ⟨cur, hg, hs, ht⟩ := h.ex
  refine ⟨⟨cur.setIfInBounds j u, ?_, by simpa using hs, ?_⟩, by simpa using h.fits, h.big⟩
  · simp [World.setCell, Array.getElem?_modify, hg]
  · have : (cur.setIfInBounds j u).toList = cur.toList.set j u := by simp
    rw [this, List.length_set, List.take_set, ht]
theorem Row.own {w : World} {g : Nat} {e : TypeId} {c sz : Nat} {xs : List Value} (h : Row w g e c sz xs) {base n : Nat} (hb : base ≤ g) (hn : xs.length = n * sz) (hc : n ≤ c) : w.ownsRow base e sz (.slice (some ⟨g, 0, none⟩) n c) n xs := by
  obtain ⟨cur, hg, hs, ht⟩ := h.ex
  exact ⟨hn, .inr ⟨g, c, cur, rfl, hb, hg, hc, by simpa only [maxLen] using h.big, hs, by rw [← hn]; exact ht⟩⟩
theorem rd_mark (w : World) (cs : Array Value) (e : TypeId) (fr : Nat × Nat) (n sz : Nat) (h : cs.size = n * sz) (hn : n ≤ 9223372036854775807) : Rd (w.alloc (.cells cs e fr)) (some ⟨w.heap.size, 0, none⟩) n n sz cs.toList :=
  ⟨by simpa using h, Nat.le_refl _, hn, (fun e => by cases e), fun j u hu => ⟨_, 0, rfl, by
    rw [Nat.zero_add, cell_of_row _ w.heap.size j cs e fr (heap_alloc_new w _)]; simpa using hu⟩⟩
theorem rd_lit (w : World) (cs : Array Value) (e : TypeId) (n sz : Nat) (h : cs.size = n * sz) (hn : n ≤ 9223372036854775807) : Rd (w.alloc (.cells cs e)) (some ⟨w.heap.size, 0, none⟩) n n sz cs.toList := rd_mark w cs e (0, 0) n sz h hn
section
variable {P : Program} {ops : Array Oper} {rest : List Oper} {o : Oper} {a : Act} {Q : Exit → Act → World → Prop}
end
end Go.Proofs.Ytdelfhahbngcfaa
end
section
namespace Go.Proofs.Ytdelfhahbngcfaa
open Go.RowKit
set_option linter.unusedVariables false
set_option linter.unusedSimpArgs false
theorem ch_drewN (S : Nat → Prop) (w : World) : ∀ n, Ch S w (w.drewN n) := fun n => ⟨rfl, rfl, rfl, Nat.le_refl _, fun _ _ _ => rfl⟩
theorem ch_set {S : Nat → Prop} {w w' : World} (h : Ch S w w') (a : Addr) (v : Value) (hS : S a.block) : Ch S w (w'.setCell a v) :=
  h.trans (Ch.setCell w' a v) (fun i hi => .inl (by rw [hi]; exact hS))
theorem ch_one {B : Nat} {w w' : World} (h : Ch (fun j => j = B) w w') (j : Nat) (v : Value) : Ch (fun j => j = B) w (w'.setCell ⟨B, j, none⟩ v) := ch_set h ⟨B, j, none⟩ v rfl
section
variable {P : Program} {ops : Array Oper} {rest : List Oper} {o : Oper} {a : Act} {Q : Exit → Act → World → Prop}
end
end Go.Proofs.Ytdelfhahbngcfaa
end
section
namespace Go.Proofs.Ytdelfhahbngcfaa
open Go.RowKit
set_option linter.unusedVariables false
set_option linter.unusedSimpArgs false
theorem info5 : (Try.prog.info? 5).map (fun i => (i.zero, i.size, i.bytes)) = some (some (.int .u8 0), 1, 1) := by kernel_rfl
def Blk (w : World) (B : Nat) (t : TypeId) (cs : Array Value) : Prop := w.heap[B]? = some (.cells cs t (0, 0))
theorem blk_cell {w : World} {B : Nat} {t : TypeId} {cs : Array Value} (h : Blk w B t cs) (j : Nat) (u : Value) (hu : cs[j]? = some u) : w.cell? ⟨B, j, none⟩ = some u := by
  rw [cell_of_row w B j cs t (0, 0) h]; exact hu
theorem blk_thawed {w : World} {B : Nat} {t : TypeId} {cs : Array Value} (h : Blk w B t cs) (j : Nat) : w.frozen? ⟨B, j, none⟩ = false := by
  unfold Blk at h
  simp [World.frozen?, h]
theorem blk_set {w : World} {B : Nat} {t : TypeId} {cs : Array Value} (h : Blk w B t cs) (j : Nat) (u : Value) : Blk (w.setCell ⟨B, j, none⟩ u) B t (cs.setIfInBounds j u) := by
  unfold Blk at h ⊢
  simp [World.setCell, Array.getElem?_modify, h]
theorem blk_lt {w : World} {B : Nat} {t : TypeId} {cs : Array Value} (h : Blk w B t cs) : B < w.heap.size := (Array.getElem?_eq_some_iff.1 h).1
theorem blk_ch {S : Nat → Prop} {w w' : World} {B : Nat} {t : TypeId} {cs : Array Value} (h : Blk w B t cs) (hc : Ch S w w') (hS : ¬ S B) : Blk w' B t cs := (hc.block B (blk_lt h) hS).trans h
theorem blk_below {w w' : World} {B : Nat} {t : TypeId} {cs : Array Value} (h : Blk w B t cs) (hc : Below w.heap.size w w') : Blk w' B t cs := (hc.block B (blk_lt h)).trans h
theorem blk_new (w : World) (t : TypeId) (cs : Array Value) : Blk (w.alloc (.cells cs t)) w.heap.size t cs := heap_alloc_new w _
end Go.Proofs.Ytdelfhahbngcfaa
end
section
namespace Go.Proofs.Ytdelfhahbngcfaa
open Go.RowKit
set_option linter.unusedVariables false
set_option linter.unusedSimpArgs false
theorem flat_get {α : Type} (F : α → List Value) (sz : Nat) : ∀ (l : List α), (∀ x ∈ l, (F x).length = sz) → ∀ j i, i < sz → (l.flatMap F)[j * sz + i]? = (l[j]?).bind fun x => (F x)[i]?
  | [], _, j, i, _ => by simp
  | x :: l, h, 0, i, hi => by
    have := h x (List.mem_cons_self ..)
    simp only [List.flatMap_cons, Nat.zero_mul, Nat.zero_add]
    rw [List.getElem?_append_left (by omega)]
    rfl
  | x :: l, h, j + 1, i, hi => by
    have hx := h x (List.mem_cons_self ..)
    simp only [List.flatMap_cons]
    rw [List.getElem?_append_right (by rw [hx, Nat.succ_mul]; omega), hx, show (j + 1) * sz + i - sz = j * sz + i by rw [Nat.succ_mul]; omega]
    exact flat_get F sz l (fun y hy => h y (List.mem_cons_of_mem _ hy)) j i hi
section
variable {P : Program} {ops : Array Oper} {rest : List Oper} {o : Oper} {a : Act} {Q : Exit → Act → World → Prop}
theorem run_add2 (w : World) (t ty : TypeId)
    (base : Nat) (e : TypeId) (z : Value) (size bytes : Nat) (ht : P.underlying t = some (.slice e)) (hinfo : (P.info? e).map (fun i => (i.zero, i.size, i.bytes)) = some (some z, size, bytes)) (hzs : z.cells.size = size) (hsz : 0 < size)
    (v : Value) (n : Nat) (xs : List Value) (hown : w.ownsRow base e size v n xs)
    (cs : Array Value) (ec : TypeId) (hcs : cs.size = size) (h1 : ∀ u ∈ cs.toList, u.oneCell' = true)
    (h63 : n + 1 ≤ maxLen) (hbytes : (n + 1) * bytes ≤ 140737488355328) (hbase : base ≤ w.heap.size) :
    ∃ v' w', (Builtin.append_ #[t, t] ty #[v, .slice (some ⟨w.heap.size, 0, none⟩) 1 1]).run P (w.alloc (.cells cs ec)) = .ok v' w' ∧
      w'.ownsRow base e size v' (n + 1) (xs ++ cs.toList) ∧ v' ≠ .slice none 0 0 ∧ Ch (fun k => v.ownBlock = some k) w w' ∧ (v'.ownBlock = v.ownBlock ∨ v'.ownBlock = some (w.heap.size + 1)) := by
  obtain ⟨i0, hi, hzz⟩ := Option.map_eq_some_iff.1 hinfo
  simp only [Prod.mk.injEq] at hzz
  obtain ⟨hz0, hz1, hz2⟩ := hzz
  have hr := rd_lit w cs ec 1 size (by omega) (by omega)
  obtain ⟨v', w', hrun, h2, h3, h4, h5⟩ := run_append_own_at (P := P) (w.alloc (.cells cs ec)) base t ty e i0 z size bytes ht hi hz0 hz1 hz2 hzs hsz v n xs (own_ch hown (Ch.alloc w _ No) (fun _ _ => id)) ⟨w.heap.size, 0, none⟩ 1 1 cs.toList hr.len (fun j u hu => by
    obtain ⟨b, off, he, hc⟩ := hr.cells j u hu
    cases he
    rw [Addr.add_lit]; exact hc) h1 h63 hbytes (by simp; omega)
  refine ⟨v', w', hrun, h2, fun e => by have := h4.1 e; simp at this, (Ch.alloc w _ _).trans (Ch.of_grown h3) (fun i hi => .inl hi), ?_⟩
  simpa using h5
theorem wp_add2 (w : World) {K : Act → World → Prop} (s x : Operand) (t : TypeId)
    (ho : o.op = .call { callee := .builtin .append, args := #[s, x], argTypes := #[t, t] })
    (base : Nat) (e : TypeId) (z : Value) (size bytes : Nat) (ht : P.underlying t = some (.slice e)) (hinfo : (P.info? e).map (fun i => (i.zero, i.size, i.bytes)) = some (some z, size, bytes)) (hzs : z.cells.size = size) (hsz : 0 < size)
    (v : Value) (n : Nat) (xs : List Value) (hs : a.eval s = v) (hown : w.ownsRow base e size v n xs)
    (cs : Array Value) (ec : TypeId) (hx : a.eval x = .slice (some ⟨w.heap.size, 0, none⟩) 1 1) (hcs : cs.size = size) (h1 : ∀ u ∈ cs.toList, u.oneCell' = true)
    (h63 : n + 1 ≤ maxLen) (hbytes : (n + 1) * bytes ≤ 140737488355328) (hbase : base ≤ w.heap.size)
    (h : ∀ v' w', w'.ownsRow base e size v' (n + 1) (xs ++ cs.toList) → v' ≠ .slice none 0 0 → Ch (fun k => v.ownBlock = some k) w w' → (v'.ownBlock = v.ownBlock ∨ v'.ownBlock = some (w.heap.size + 1)) → K (a.put o.dst v') w') : Oper.wp P o a (w.alloc (.cells cs ec)) K Q := by
  obtain ⟨v', w', hrun, h2, h3, h4, h5⟩ := run_add2 (P := P) w t o.type base e z size bytes ht hinfo hzs hsz v n xs hown cs ec hcs h1 h63 hbytes hbase
  unfold Oper.wp execOp
  simp only [ho, resolve, invoke, builtin, Sem.run_bind, Sem.run_pure, Result.andThen_ok, List.map_toArray, List.map_cons, List.map_nil, hs, hx, hrun]
  exact h v' w' h2 h3 h4 h5
theorem step_add2 (w : World) {K : Act → World → Prop} {E : Prop} (hgd : o.guard = none) (s x : Operand) (t : TypeId)
    (ho : o.op = .call { callee := .builtin .append, args := #[s, x], argTypes := #[t, t] })
    (base : Nat) (e : TypeId) (z : Value) (size bytes : Nat) (ht : P.underlying t = some (.slice e)) (hinfo : (P.info? e).map (fun i => (i.zero, i.size, i.bytes)) = some (some z, size, bytes)) (hzs : z.cells.size = size) (hsz : 0 < size)
    (v : Value) (n : Nat) (xs : List Value) (hs : a.eval s = v) (hown : w.ownsRow base e size v n xs)
    (cs : Array Value) (ec : TypeId) (hx : a.eval x = .slice (some ⟨w.heap.size, 0, none⟩) 1 1) (hcs : cs.size = size) (h1 : ∀ u ∈ cs.toList, u.oneCell' = true)
    (h63 : n + 1 ≤ maxLen) (hbytes : (n + 1) * bytes ≤ 140737488355328) (hbase : base ≤ w.heap.size)
    (h : ∀ v' w', w'.ownsRow base e size v' (n + 1) (xs ++ cs.toList) → v' ≠ .slice none 0 0 → Ch (fun k => v.ownBlock = some k) w w' → (v'.ownBlock = v.ownBlock ∨ v'.ownBlock = some (w.heap.size + 1)) → K (a.put o.dst v') w') :
    if Region.wanted o (yielded ops a.tmps) = true then Oper.wp P o a (w.alloc (.cells cs ec)) K Q else E := by
  have hw : Region.wanted o (yielded ops a.tmps) = true := by simp [Region.wanted, hgd]
  rw [if_pos hw]
  exact wp_add2 w s x t ho base e z size bytes ht hinfo hzs hsz v n xs hs hown cs ec hx hcs h1 h63 hbytes hbase h
end
end Go.Proofs.Ytdelfhahbngcfaa
end
section
namespace Go.Proofs.YtdelfhahbngcfaaX.P07
open Go.RowKit Go.Shelf Go.Proofs.Ytdelfhahbngcfaa Go.Proofs.YtdelfhahbngcfaaW.PrintWords Go.Proofs.YtdelfhahbngcfaaW.PrintLast Go.Proofs.YtdelfhahbngcfaaW.PrintMore
set_option linter.unusedVariables false
set_option linter.unusedSimpArgs false
attribute [local go_sem] Oper.semAt_some max2_int min2_int max_two min_two
theorem cells60 {w : World} {A : Option Addr} {n : Nat} {xs : List S60} (h : Kd.C k60 w A n xs) (hn : 0 < xs.length) : ∃ b off, A = some ⟨b, off, none⟩ ∧ ∀ i : Nat, i < xs.length →
    w.cell? ⟨b, off + i * 3, none⟩ = some (.int .i64 (rd_T60 xs i).f0) ∧ w.cell? ⟨b, off + i * 3 + 1, none⟩ = some (.int .i64 (rd_T60 xs i).f1) ∧ w.cell? ⟨b, off + i * 3 + 2, none⟩ = some (.int .i64 (rd_T60 xs i).f2) := by
  have hl : xs.length = n := h.1
  obtain ⟨ad, rfl, q0, _⟩ := at_T60 h 0 (by omega) (by omega)
  obtain ⟨b, off, rfl⟩ : ∃ b off, ad = ⟨b, off, none⟩ := by
    obtain ⟨b, off, sp⟩ := ad
    cases sp with
    | none => exact ⟨b, off, rfl⟩
    | some z => simp [World.cell?, Addr.add] at q0; split at q0 <;> simp_all
  refine ⟨b, off, rfl, fun i hi => ?_⟩
  obtain ⟨ad, e, r0, r1, r2⟩ := at_T60 h (i : Int) (by omega) (by omega)
  cases e
  have hadd : (⟨b, off, none⟩ : Addr).add (i * 3) = ⟨b, off + i * 3, none⟩ := by unfold Addr.add; split <;> simp_all
  simp only [Int.toNat_natCast, hadd] at r0 r1 r2
  exact ⟨r0, r1, r2⟩
def inS (x : S60) (n s : Int) : Bool := x.f0 == n && (decide (x.f1 ≤ s) && decide (s ≤ x.f2))
set_option maxHeartbeats 2000000 in
theorem has1_any (x : S60) (n s : Int) (B : Nat) (w : World) (hb : w.cell? ⟨B, 0, none⟩ = some (.int .i64 n)) (hb1 : w.cell? ⟨B, 1, none⟩ = some (.int .i64 s)) :
    Calls Try.prog 56 #[.agg #[.int .i64 x.f0, .int .i64 x.f1, .int .i64 x.f2], .pointer (some ⟨B, 0, none⟩)] w fun e w' => e = .returned (.bool (inS x n s)) ∧ Below w.heap.size w w' := by
  obtain ⟨a, b, c⟩ := x
  have hb2 : Below w.heap.size w (w.alloc (.cells #[.int .i64 a, .int .i64 b, .int .i64 c] 60)) := (Below.refl _ w).alloc (Nat.le_refl _) _
  have q0 := (hb2.cell (p := ⟨B, 0, none⟩) (World.block_lt_of_cell? w _ hb)).trans hb
  have q1 := (hb2.cell (p := ⟨B, 1, none⟩) (World.block_lt_of_cell? w _ hb1)).trans hb1
  have HB := Lib.hid hb2
  clear hb2 hb hb1
  unfold inS
  simp only []
  obtain ⟨r, hr⟩ : ∃ r : Bool, r = (a == n && (decide (b ≤ s) && decide (s ≤ c))) := ⟨_, rfl⟩
  rw [← hr]
  by_cases h1 : a = n
  · subst h1
    by_cases h2 : b ≤ s
    · by_cases h3 : s ≤ c
      · have e : r = true := by simp [hr, h2, h3]
        have h2' := decide_eq_true h2; have h3' := decide_eq_true h3
        subst e; clear hr h2 h3
        go_enter Try.func56, Try.ntmps56
        go_wp2
        go_ret
        exact ⟨rfl, HB.out⟩
      · have e : r = false := by simp [hr, h2, h3]
        have h2' := decide_eq_true h2; have h3' := decide_eq_false h3
        subst e; clear hr h2 h3
        go_enter Try.func56, Try.ntmps56
        go_wp2
        go_ret
        exact ⟨rfl, HB.out⟩
    · have e : r = false := by simp [hr, h2]
      have h2' := decide_eq_false h2
      subst e; clear hr h2
      go_enter Try.func56, Try.ntmps56
      go_wp2
      go_ret
      exact ⟨rfl, HB.out⟩
  · have e : r = false := by simp [hr, h1]
    have h1' : (a == n) = false := beq_eq_false_iff_ne.2 h1
    subst e; clear hr h1
    go_enter Try.func56, Try.ntmps56
    go_wp2
    go_ret
    exact ⟨rfl, HB.out⟩
set_option maxRecDepth 100000 in
set_option maxHeartbeats 4000000 in
theorem hasIx_any (A : Option Addr) (c B : Nat) (xs : List S60) (n s : Int) (w : World) (hb : w.cell? ⟨B, 0, none⟩ = some (.int .i64 n)) (hb1 : w.cell? ⟨B, 1, none⟩ = some (.int .i64 s)) (hx : Kd.C k60 w A xs.length xs) (hxs : xs.length ≤ 2000000) :
    Calls Try.prog 72 #[.slice A xs.length c, .func (.func 56) #[] #[.pointer (some ⟨B, 0, none⟩)]] w fun e w' => ∃ i : Int, e = .returned (.int .i64 i) ∧ decide (0 ≤ i) = xs.any (fun x => inS x n s) ∧ Below w.heap.size w w' := by
  have HB := Lib.hid hb; have HB1 := Lib.hid hb1
  have HX := Lib.hid (fun h0 => cells60 hx h0)
  obtain ⟨N, hN⟩ : ∃ N, N = xs.length := ⟨_, rfl⟩
  rw [← hN] at hxs ⊢
  have HN := Lib.hid hN
  have HB0 := Lib.hid (Below.refl w.heap.size w)
  clear hb hb1 hx hN
  go_enter Try.func72, Try.ntmps72
  go_wp2
  go_loopw [8] (fun i wr => ∃ k : Nat, k ≤ N ∧ i = .int .i64 k ∧ Hid ((xs.take k).any (fun x => inS x n s) = false) ∧ Hid (Below w.heap.size w wr)) (fun i _ => N - (intOf i).toNat)
  case atStart => exact ⟨0, Nat.zero_le _, rfl, Lib.hid rfl, HB0⟩
  case round =>
    obtain ⟨k, hk, rfl, HF, HW⟩ := hrel
    by_cases hlt : k < N
    · have hkl : k < xs.length := by rw [← HN.out]; exact hlt
      obtain ⟨b, off, rfl, hc⟩ := HX.out (by omega)
      obtain ⟨q0, q1, q2⟩ := hc k hkl
      obtain ⟨x, hx⟩ : ∃ x, x = rd_T60 xs (k : Int) := ⟨_, rfl⟩
      rw [← hx] at q0 q1 q2
      replace q0 := (HW.out.cell (World.block_lt_of_cell? w _ q0)).trans q0
      replace q1 := (HW.out.cell (World.block_lt_of_cell? w _ q1)).trans q1
      replace q2 := (HW.out.cell (World.block_lt_of_cell? w _ q2)).trans q2
      have hxx : xs[k] = x := by rw [hx]; unfold rd_T60; simp [List.getD_eq_getElem?_getD, hkl]
      have HT := Lib.hid (show xs.take (k + 1) = xs.take k ++ [x] by rw [List.take_succ_eq_append_getElem hkl, hxx])
      have HXE := Lib.hid (show x ∈ xs by rw [← hxx]; exact List.getElem_mem hkl)
      have HCALL := Lib.hid (has1_any x n s B wr ((HW.out.cell (World.block_lt_of_cell? w _ HB.out)).trans HB.out) ((HW.out.cell (World.block_lt_of_cell? w _ HB1.out)).trans HB1.out))
      clear hc hx hxx hkl
      cases hd : inS x n s with
      | true =>
        rw [hd] at HCALL
        have HANY := Lib.hid (show xs.any (fun x => inS x n s) = true from List.any_eq_true.2 ⟨x, HXE.out, hd⟩)
        clear hd
        go_wp2_with (go_at_call 56; refine HCALL.out.mono ?_; rintro e w1 ⟨rfl, hbel⟩; have HW1 := Lib.hid (HW.out.trans (hbel.mono HW.out.size)); clear hbel)
        go_ret
        exact ⟨_, rfl, by rw [HANY.out]; simp, HW1.out⟩
      | false =>
        rw [hd] at HCALL
        have HF2 := Lib.hid (show (xs.take (k + 1)).any (fun x => inS x n s) = false by rw [HT.out, List.any_append, HF.out]; simp [hd])
        clear hd
        go_wp2_with (go_at_call 56; refine HCALL.out.mono ?_; rintro e w1 ⟨rfl, hbel⟩; have HW1 := Lib.hid (HW.out.trans (hbel.mono HW.out.size)); clear hbel)
        go_roundw
        case rel => exact ⟨k + 1, by omega, by go_num, HF2, HW1⟩
        case measure => simp [intOf]; omega
    · obtain rfl : k = N := by omega
      have HA := Lib.hid (show xs.any (fun x => inS x n s) = false by have := HF.out; rw [HN.out, List.take_length] at this; exact this)
      go_wp2
      go_ret
      exact ⟨_, rfl, by rw [HA.out]; decide, HW.out⟩
theorem hasC_any (A : Option Addr) (c B : Nat) (xs : List S60) (n s : Int) (w : World) (hb : w.cell? ⟨B, 0, none⟩ = some (.int .i64 n)) (hb1 : w.cell? ⟨B, 1, none⟩ = some (.int .i64 s)) (hx : Kd.C k60 w A xs.length xs) (hxs : xs.length ≤ 2000000) :
    Calls Try.prog 55 #[.slice A xs.length c, .func (.func 56) #[] #[.pointer (some ⟨B, 0, none⟩)]] w fun e w' => e = .returned (.bool (xs.any (fun x => inS x n s))) ∧ Below w.heap.size w w' := by
  have H := Lib.hid (hasIx_any A c B xs n s w hb hb1 hx hxs)
  clear hb hb1 hx
  go_enter Try.func55, Try.ntmps55
  go_wp2_with (go_at_call 72; refine H.out.mono ?_; rintro e w1 ⟨i, rfl, hi, hbel⟩; have HI := Lib.hid hi; have HB := Lib.hid hbel; clear hi hbel)
  go_ret
  exact ⟨congrArg (fun b => Ending.returned (.bool b)) HI.out, HB.out⟩
def past_Has.f (k : Nat) (l0 : List S60) (a1_0 a1_1 : Int) : Option Bool := if l0.length ≤ 2000000 then (past_Check.f k l0).bind fun e => if e = 0 then some (l0.any (fun x => inS x a1_0 a1_1)) else some false else none
theorem past_Has.mono : ∀ a0 a1 a2 k, LeO (past_Has.f k a0 a1 a2) (past_Has.f (k + 1) a0 a1 a2) := fun a0 a1 a2 k => by
  unfold past_Has.f
  exact LeO.ite (LeO.bind (past_Check.mono a0 k) (fun _ => LeO.refl _)) (LeO.refl _)
set_option maxHeartbeats 2000000 in
theorem past_Has.calls (k : Nat) (A0 : Option Addr) (c0 : Nat) (l0 : List (S60)) (a1_0 a1_1 : Int) (r : Bool) (w : World) (hr0 : Kd.C k60 w A0 l0.length l0) (hc0 : l0.length ≤ c0) (h : past_Has.f k l0 a1_0 a1_1 = some r) :
    Calls Try.prog 24 #[.slice A0 l0.length c0, .agg #[.int .i64 a1_0, .int .i64 a1_1]] w fun e w' => e = .returned (.bool r) ∧ Below w.heap.size w w' := by
  unfold past_Has.f at h
  by_cases hl : l0.length ≤ 2000000
  rotate_left
  · rw [if_neg hl] at h; cases h
  rw [if_pos hl] at h
  obtain ⟨e0, he, h⟩ := Option.bind_eq_some_iff.mp h
  have hb2 : Below w.heap.size w (w.alloc (.cells #[.int .i64 a1_0, .int .i64 a1_1] 41)) := (Below.refl _ w).alloc (Nat.le_refl _) _
  have HC := Lib.hid (past_Check.calls k A0 c0 l0 e0 _ (Kd.C_below hr0 hb2) hc0 he)
  have q0 : (w.alloc (.cells #[.int .i64 a1_0, .int .i64 a1_1] 41)).cell? ⟨w.heap.size, 0, none⟩ = some (.int .i64 a1_0) := (YtdelfhahbngcfaaW.PrintWords.blk_cell (blk_new w _) 0).trans rfl
  have q1 : (w.alloc (.cells #[.int .i64 a1_0, .int .i64 a1_1] 41)).cell? ⟨w.heap.size, 1, none⟩ = some (.int .i64 a1_1) := (YtdelfhahbngcfaaW.PrintWords.blk_cell (blk_new w _) 1).trans rfl
  have HQ := Lib.hid (fun W (hW : Below (w.alloc (.cells #[.int .i64 a1_0, .int .i64 a1_1] 41)).heap.size (w.alloc (.cells #[.int .i64 a1_0, .int .i64 a1_1] 41)) W) =>
    hasC_any A0 c0 w.heap.size l0 a1_0 a1_1 W ((hW.cell (p := ⟨w.heap.size, 0, none⟩) (World.block_lt_of_cell? _ _ q0)).trans q0) ((hW.cell (p := ⟨w.heap.size, 1, none⟩) (World.block_lt_of_cell? _ _ q1)).trans q1) (Kd.C_below (Kd.C_below hr0 hb2) hW) hl)
  have HB := Lib.hid hb2
  clear q0 q1 hb2 hr0
  by_cases h0 : e0 = 0
  · subst h0
    rw [if_pos rfl] at h
    obtain rfl := Option.some.inj h
    clear h
    go_enter Try.func24, Try.ntmps24
    go_wp2_with first | (go_at_call 55; refine (HQ.out _ HB1.out).mono ?_; rintro e w2 ⟨rfl, hbel2⟩; have HB3 := Lib.hid hbel2; clear hbel2) | (go_at_call 38; refine HC.out.mono ?_; rintro e w1 ⟨rfl, hbel⟩; have HB1 := Lib.hid hbel; clear hbel)
    go_ret
    have s1 := HB1.out.size
    have s0 := HB.out.size
    exact ⟨rfl, HB.out.trans ((HB1.out.mono s0).trans (HB3.out.mono (Nat.le_trans s0 s1)))⟩
  · rw [if_neg h0] at h
    obtain rfl := Option.some.inj h
    have h0' : (e0 == 0) = false := beq_eq_false_iff_ne.2 h0
    clear h h0
    go_enter Try.func24, Try.ntmps24
    go_wp2_with (go_at_call 38; refine HC.out.mono ?_; rintro e w1 ⟨rfl, hbel⟩; have HB1 := Lib.hid hbel; clear hbel)
    go_ret
    exact ⟨rfl, HB.out.trans (HB1.out.mono HB.out.size)⟩
def cnt1 (n : Int) (x : S60) : Int := wrap64 (wrap64 (wrap64 (n + x.f2) - x.f1) + 1)
def last1 (nd : Int) (n : Int) (x : S60) : Int := if x.f0 = nd then mx n x.f2 else n
set_option maxHeartbeats 2000000 in
theorem cnt1_any (n : Int) (x : S60) (w : World) : Calls Try.prog 58 #[.int .i64 n, .agg #[.int .i64 x.f0, .int .i64 x.f1, .int .i64 x.f2]] w fun e w' => e = .returned (.int .i64 (cnt1 n x)) ∧ Below w.heap.size w w' := by
  obtain ⟨a, b, c⟩ := x
  have HB := Lib.hid ((Below.refl w.heap.size w).alloc (Nat.le_refl _) (.cells #[.int .i64 a, .int .i64 b, .int .i64 c] 60))
  unfold cnt1
  go_enter Try.func58, Try.ntmps58
  go_wp2
  go_ret
  exact ⟨rfl, HB.out⟩
set_option maxHeartbeats 2000000 in
theorem last1_any (nd n : Int) (x : S60) (B : Nat) (w : World) (hb : w.cell? ⟨B, 0, none⟩ = some (.int .i64 nd)) : Calls Try.prog 59 #[.int .i64 n, .agg #[.int .i64 x.f0, .int .i64 x.f1, .int .i64 x.f2], .pointer (some ⟨B, 0, none⟩)] w fun e w' => e = .returned (.int .i64 (last1 nd n x)) ∧ Below w.heap.size w w' := by
  obtain ⟨a, b, c⟩ := x
  have hb2 := (Below.refl w.heap.size w).alloc (Nat.le_refl _) (.cells #[.int .i64 a, .int .i64 b, .int .i64 c] 60)
  have q := (hb2.cell (p := ⟨B, 0, none⟩) (World.block_lt_of_cell? w _ hb)).trans hb
  have HB := Lib.hid hb2
  clear hb hb2
  by_cases h : a = nd
  · have e : last1 nd n ⟨a, b, c⟩ = mx n c := if_pos h
    rw [e]
    subst h
    clear e
    go_enter Try.func59, Try.ntmps59
    go_wp2
    · go_ret
      exact ⟨by rw [show mx n c = c from if_pos (by assumption)]; rfl, HB.out⟩
    · go_ret
      exact ⟨by rw [show mx n c = n from if_neg (by omega)]; rfl, HB.out⟩
  · have e : last1 nd n ⟨a, b, c⟩ = n := if_neg h
    rw [e]
    have h' : (a != nd) = true := bne_iff_ne.2 h
    clear h e
    go_enter Try.func59, Try.ntmps59
    go_wp2
    go_ret
    exact ⟨rfl, HB.out⟩
set_option maxRecDepth 100000 in
set_option maxHeartbeats 4000000 in
theorem cnt_fold (A : Option Addr) (c : Nat) (xs : List S60)  (k0 : Nat) (w : World) (hx : Kd.C k60 w A xs.length xs) (hc0 : xs.length ≤ c) (hxs : xs.length ≤ 2000000) (e0 : Int) (hchk : past_Check.f k0 xs = some e0) :
    Calls Try.prog 57 #[.slice A xs.length c, .func (.func 58) #[] #[]] w fun e w' => e = .returned (.int .i64 (if e0 = 0 then xs.foldl (cnt1) 0 else 0)) ∧ Below w.heap.size w w' := by
  have HX := Lib.hid (fun h0 => cells60 hx h0)
  have HCHK := Lib.hid (past_Check.calls k0 A c xs e0 w hx hc0 hchk)
  clear hchk
  by_cases he : e0 = 0
  · subst he
    rw [if_pos rfl]
    obtain ⟨N, hN⟩ : ∃ N, N = xs.length := ⟨_, rfl⟩
    rw [← hN] at hxs ⊢
    rw [← hN] at HCHK
    have HN := Lib.hid hN
    clear hx hN
    go_enter Try.func57, Try.ntmps57
    go_wp2_with (go_at_call 38; refine HCHK.out.mono ?_; rintro e w1 ⟨rfl, hbel⟩; have HB0 := Lib.hid hbel; clear hbel)
    go_loopw [5, 14] (fun acc i wr => ∃ k : Nat, k ≤ N ∧ i = .int .i64 k ∧ acc = .int .i64 ((xs.take k).foldl (cnt1) 0) ∧ Hid (Below w.heap.size w wr)) (fun _ i _ => N - (intOf i).toNat)
    case atStart => exact ⟨0, Nat.zero_le _, rfl, rfl, HB0⟩
    case round =>
      obtain ⟨k, hk, rfl, rfl, HW⟩ := hrel
      by_cases hlt : k < N
      · have hkl : k < xs.length := by rw [← HN.out]; exact hlt
        obtain ⟨b, off, rfl, hc⟩ := HX.out (by omega)
        obtain ⟨q0, q1, q2⟩ := hc k hkl
        obtain ⟨x, hx⟩ : ∃ x, x = rd_T60 xs (k : Int) := ⟨_, rfl⟩
        rw [← hx] at q0 q1 q2
        replace q0 := (HW.out.cell (World.block_lt_of_cell? w _ q0)).trans q0
        replace q1 := (HW.out.cell (World.block_lt_of_cell? w _ q1)).trans q1
        replace q2 := (HW.out.cell (World.block_lt_of_cell? w _ q2)).trans q2
        have hxx : xs[k] = x := by rw [hx]; unfold rd_T60; simp [List.getD_eq_getElem?_getD, hkl]
        obtain ⟨acc, hacc⟩ : ∃ acc, acc = (xs.take k).foldl (cnt1) 0 := ⟨_, rfl⟩
        rw [← hacc]
        have HT := Lib.hid (show (xs.take (k + 1)).foldl (cnt1) 0 = (cnt1) acc x by rw [List.take_succ_eq_append_getElem hkl, hxx, List.foldl_append, ← hacc]; rfl)
        have HW1 := Lib.hid (HW.out.alloc HW.out.size (.cells #[.int .i64 x.f0, .int .i64 x.f1, .int .i64 x.f2] 60))
        have HCALL := Lib.hid (cnt1_any acc x (wr.alloc (.cells #[.int .i64 x.f0, .int .i64 x.f1, .int .i64 x.f2] 60)))
        obtain ⟨acc1, hacc1⟩ : ∃ a, a = (cnt1) acc x := ⟨_, rfl⟩
        rw [← hacc1] at HT HCALL
        clear hc hx hxx hkl hacc hacc1
        go_wp2_with (go_at_call 58; refine HCALL.out.mono ?_; rintro e w2 ⟨rfl, hbel⟩; have HW2 := Lib.hid (HW1.out.trans (hbel.mono HW1.out.size)); clear hbel)
        go_roundw
        case rel => exact ⟨k + 1, by omega, by go_num, by rw [HT.out], HW2⟩
        case measure => simp [intOf]; omega
      · obtain rfl : k = N := by omega
        have HE := Lib.hid (show xs.take k = xs by rw [HN.out, List.take_length])
        go_wp2
        go_ret
        exact ⟨by rw [HE.out]; rfl, HW.out⟩
  · rw [if_neg he]
    have he' : (e0 != 0) = true := bne_iff_ne.2 he
    clear he hx
    go_enter Try.func57, Try.ntmps57
    go_wp2_with (go_at_call 38; refine HCHK.out.mono ?_; rintro e w1 ⟨rfl, hbel⟩; have HB0 := Lib.hid hbel; clear hbel)
    go_ret
    exact ⟨rfl, HB0.out⟩
set_option maxRecDepth 100000 in
set_option maxHeartbeats 4000000 in
theorem last_fold (A : Option Addr) (c : Nat) (xs : List S60) (nd : Int) (B : Nat) (k0 : Nat) (w : World) (hx : Kd.C k60 w A xs.length xs) (hc0 : xs.length ≤ c) (hxs : xs.length ≤ 2000000) (e0 : Int) (hchk : past_Check.f k0 xs = some e0) (hb : w.cell? ⟨B, 0, none⟩ = some (.int .i64 nd)) :
    Calls Try.prog 57 #[.slice A xs.length c, .func (.func 59) #[] #[.pointer (some ⟨B, 0, none⟩)]] w fun e w' => e = .returned (.int .i64 (if e0 = 0 then xs.foldl (last1 nd) 0 else 0)) ∧ Below w.heap.size w w' := by
  have HX := Lib.hid (fun h0 => cells60 hx h0)
  have HB1 := Lib.hid hb
  clear hb
  have HCHK := Lib.hid (past_Check.calls k0 A c xs e0 w hx hc0 hchk)
  clear hchk
  by_cases he : e0 = 0
  · subst he
    rw [if_pos rfl]
    obtain ⟨N, hN⟩ : ∃ N, N = xs.length := ⟨_, rfl⟩
    rw [← hN] at hxs ⊢
    rw [← hN] at HCHK
    have HN := Lib.hid hN
    clear hx hN
    go_enter Try.func57, Try.ntmps57
    go_wp2_with (go_at_call 38; refine HCHK.out.mono ?_; rintro e w1 ⟨rfl, hbel⟩; have HB0 := Lib.hid hbel; clear hbel)
    go_loopw [5, 14] (fun acc i wr => ∃ k : Nat, k ≤ N ∧ i = .int .i64 k ∧ acc = .int .i64 ((xs.take k).foldl (last1 nd) 0) ∧ Hid (Below w.heap.size w wr)) (fun _ i _ => N - (intOf i).toNat)
    case atStart => exact ⟨0, Nat.zero_le _, rfl, rfl, HB0⟩
    case round =>
      obtain ⟨k, hk, rfl, rfl, HW⟩ := hrel
      by_cases hlt : k < N
      · have hkl : k < xs.length := by rw [← HN.out]; exact hlt
        obtain ⟨b, off, rfl, hc⟩ := HX.out (by omega)
        obtain ⟨q0, q1, q2⟩ := hc k hkl
        obtain ⟨x, hx⟩ : ∃ x, x = rd_T60 xs (k : Int) := ⟨_, rfl⟩
        rw [← hx] at q0 q1 q2
        replace q0 := (HW.out.cell (World.block_lt_of_cell? w _ q0)).trans q0
        replace q1 := (HW.out.cell (World.block_lt_of_cell? w _ q1)).trans q1
        replace q2 := (HW.out.cell (World.block_lt_of_cell? w _ q2)).trans q2
        have hxx : xs[k] = x := by rw [hx]; unfold rd_T60; simp [List.getD_eq_getElem?_getD, hkl]
        obtain ⟨acc, hacc⟩ : ∃ acc, acc = (xs.take k).foldl (last1 nd) 0 := ⟨_, rfl⟩
        rw [← hacc]
        have HT := Lib.hid (show (xs.take (k + 1)).foldl (last1 nd) 0 = (last1 nd) acc x by rw [List.take_succ_eq_append_getElem hkl, hxx, List.foldl_append, ← hacc]; rfl)
        have HW1 := Lib.hid (HW.out.alloc HW.out.size (.cells #[.int .i64 x.f0, .int .i64 x.f1, .int .i64 x.f2] 60))
        have HCALL := Lib.hid (last1_any nd acc x B (wr.alloc (.cells #[.int .i64 x.f0, .int .i64 x.f1, .int .i64 x.f2] 60)) ((HW1.out.cell (World.block_lt_of_cell? w _ HB1.out)).trans HB1.out))
        obtain ⟨acc1, hacc1⟩ : ∃ a, a = (last1 nd) acc x := ⟨_, rfl⟩
        rw [← hacc1] at HT HCALL
        clear hc hx hxx hkl hacc hacc1
        go_wp2_with (go_at_call 59; refine HCALL.out.mono ?_; rintro e w2 ⟨rfl, hbel⟩; have HW2 := Lib.hid (HW1.out.trans (hbel.mono HW1.out.size)); clear hbel)
        go_roundw
        case rel => exact ⟨k + 1, by omega, by go_num, by rw [HT.out], HW2⟩
        case measure => simp [intOf]; omega
      · obtain rfl : k = N := by omega
        have HE := Lib.hid (show xs.take k = xs by rw [HN.out, List.take_length])
        go_wp2
        go_ret
        exact ⟨by rw [HE.out]; rfl, HW.out⟩
  · rw [if_neg he]
    have he' : (e0 != 0) = true := bne_iff_ne.2 he
    clear he hx
    go_enter Try.func57, Try.ntmps57
    go_wp2_with (go_at_call 38; refine HCHK.out.mono ?_; rintro e w1 ⟨rfl, hbel⟩; have HB0 := Lib.hid hbel; clear hbel)
    go_ret
    exact ⟨rfl, HB0.out⟩
def past_Count.f (k : Nat) (l0 : List S60) : Option Int := if l0.length ≤ 2000000 then (past_Check.f k l0).bind fun e => some (if e = 0 then l0.foldl cnt1 0 else 0) else none
theorem past_Count.mono : ∀ a0 k, LeO (past_Count.f k a0) (past_Count.f (k + 1) a0) := fun a0 k => by
  unfold past_Count.f
  exact LeO.ite (LeO.bind (past_Check.mono a0 k) (fun _ => LeO.refl _)) (LeO.refl _)
set_option maxHeartbeats 2000000 in
theorem past_Count.calls (k : Nat) (A0 : Option Addr) (c0 : Nat) (l0 : List (S60)) (r : Int) (w : World) (hr0 : Kd.C k60 w A0 l0.length l0) (hc0 : l0.length ≤ c0) (h : past_Count.f k l0 = some r) :
    Calls Try.prog 26 #[.slice A0 l0.length c0] w fun e w' => e = .returned (.int .i64 r) ∧ Below w.heap.size w w' := by
  unfold past_Count.f at h
  by_cases hl : l0.length ≤ 2000000
  rotate_left
  · rw [if_neg hl] at h; cases h
  rw [if_pos hl] at h
  obtain ⟨e0, he, h⟩ := Option.bind_eq_some_iff.mp h
  have HC := Lib.hid (cnt_fold A0 c0 l0 k w hr0 hc0 hl e0 he)
  obtain rfl := Option.some.inj h
  generalize (if e0 = 0 then l0.foldl cnt1 0 else 0) = r at HC ⊢
  clear h hr0 he
  go_enter Try.func26, Try.ntmps26
  go_wp2_with (go_at_call 57; refine HC.out.mono ?_; rintro e w1 ⟨rfl, hbel⟩; have HB1 := Lib.hid hbel; clear hbel)
  go_ret
  exact ⟨rfl, HB1.out⟩
def past_Last.f (k : Nat) (l0 : List S60) (a1 : Int) : Option Int := if l0.length ≤ 2000000 then (past_Check.f k l0).bind fun e => some (if e = 0 then l0.foldl (last1 a1) 0 else 0) else none
theorem past_Last.mono : ∀ a0 a1 k, LeO (past_Last.f k a0 a1) (past_Last.f (k + 1) a0 a1) := fun a0 a1 k => by
  unfold past_Last.f
  exact LeO.ite (LeO.bind (past_Check.mono a0 k) (fun _ => LeO.refl _)) (LeO.refl _)
set_option maxHeartbeats 2000000 in
theorem past_Last.calls (k : Nat) (A0 : Option Addr) (c0 : Nat) (l0 : List (S60)) (a1 : Int) (r : Int) (w : World) (hr0 : Kd.C k60 w A0 l0.length l0) (hc0 : l0.length ≤ c0) (h : past_Last.f k l0 a1 = some r) :
    Calls Try.prog 28 #[.slice A0 l0.length c0, .int .i64 a1] w fun e w' => e = .returned (.int .i64 r) ∧ Below w.heap.size w w' := by
  unfold past_Last.f at h
  by_cases hl : l0.length ≤ 2000000
  rotate_left
  · rw [if_neg hl] at h; cases h
  rw [if_pos hl] at h
  obtain ⟨e0, he, h⟩ := Option.bind_eq_some_iff.mp h
  have hb2 : Below w.heap.size w (w.alloc (.cells #[.int .i64 a1] 3)) := (Below.refl _ w).alloc (Nat.le_refl _) _
  have HC := Lib.hid (last_fold A0 c0 l0 a1 w.heap.size k (w.alloc (.cells #[.int .i64 a1] 3)) (Kd.C_below hr0 hb2) hc0 hl e0 he ((YtdelfhahbngcfaaW.PrintWords.blk_cell (blk_new w _) 0).trans rfl))
  obtain rfl := Option.some.inj h
  have HB := Lib.hid hb2
  generalize (if e0 = 0 then l0.foldl (last1 a1) 0 else 0) = r at HC ⊢
  clear h hr0 he hb2
  go_enter Try.func28, Try.ntmps28
  go_wp2_with (go_at_call 57; refine HC.out.mono ?_; rintro e w1 ⟨rfl, hbel⟩; have HB1 := Lib.hid (HB.out.trans (hbel.mono HB.out.size)); clear hbel)
  go_ret
  exact ⟨rfl, HB1.out⟩
end Go.Proofs.YtdelfhahbngcfaaX.P07
end
section
namespace Go.Proofs.YtdelfhahbngcfaaX.P07
open Go.RowKit Go.Shelf Go.Proofs.Ytdelfhahbngcfaa Go.Proofs.YtdelfhahbngcfaaW.PrintWords Go.Proofs.YtdelfhahbngcfaaW.PrintLast Go.Proofs.YtdelfhahbngcfaaW.PrintMore
set_option linter.unusedVariables false
set_option linter.unusedSimpArgs false
attribute [local go_sem] Oper.semAt_some
abbrev kb : Kd Int := Kd.int .u8
def rd_LB (xs : List (List Int)) (i : Int) : List Int := xs.getD i.toNat ([] : List Int)
theorem at_LB {w : World} {A : Option Addr} {n : Nat} {xs : List (List Int)} (h : Kd.C (Kd.slice 5 kb) w A n xs) (i : Int) (h0 : 0 ≤ i) (h1 : i < n) : ∃ ad A0 c0, A = some ad ∧ w.cell? (ad.add i.toNat) = some (.slice A0 (rd_LB xs i).length c0) ∧ (rd_LB xs i).length ≤ c0 ∧ kb.C w A0 (rd_LB xs i).length (rd_LB xs i) := by
  obtain ⟨ad, c, e, _, hK, hc0⟩ := Kd.C_get h ([] : List Int) i h0 h1
  have hc : ∀ j u, c[j]? = some u → w.cell? (ad.add (i.toNat * 1 + j)) = some u := hc0
  obtain ⟨A0, c0, rfl, l0, g0⟩ := hK
  exact ⟨ad, A0, c0, e, by have hq := hc 0 _ rfl; rwa [Nat.mul_one, Nat.add_zero] at hq, l0, g0⟩
theorem own_zero {w : World} {base e sz g n cap : Nat} {xs : List Value} (h : w.ownsRow base e sz (.slice (some ⟨g, 0, none⟩) n cap) n xs) : w.ownsRow base e sz (.slice (some ⟨g, 0, none⟩) 0 cap) 0 [] := by
  rcases h.2 with ⟨h, _⟩ | ⟨g', cap', cur, h1, h2, h3, h4, h5, h6, h7⟩
  · cases h
  · cases h1
    exact ⟨by simp, .inr ⟨g, cap, cur, rfl, h2, h3, Nat.zero_le _, h5, h6, by simp⟩⟩
theorem RB_zero {w : World} {base g n cap : Nat} {xs : List Int} (h : Kd.R kb 5 w base (fun _ => True) (.slice (some ⟨g, 0, none⟩) n cap) xs) : Kd.R kb 5 w base (fun _ => True) (.slice (some ⟨g, 0, none⟩) 0 cap) [] := by
  obtain ⟨inner, ho⟩ := Kd.R_own h
  have hn : xs.length = n := by
    obtain ⟨A, c, e, _⟩ := Kd.R_reads h
    cases e; rfl
  subst hn
  exact ⟨fun _ _ => trivial, [], own_zero ho, by simp [Reps]⟩
theorem RB_some {w : World} {base n : Nat} {v : Value} {xs : List Int} (h : Kd.R kb 5 w base (fun _ => True) v xs) (hn : xs.length = n) (h0 : 0 < n) : ∃ g cap, v = .slice (some ⟨g, 0, none⟩) n cap ∧ n ≤ cap ∧ cap ≤ 9223372036854775807 := by
  obtain ⟨inner, ho⟩ := Kd.R_own h
  subst hn
  rcases ho.2 with ⟨_, h1⟩ | ⟨g, cap, cur, h1, h2, h3, h4, h5, h6, h7⟩
  · omega
  · exact ⟨g, cap, h1, h4, by simpa only [maxLen] using h5⟩
set_option maxRecDepth 100000 in
set_option maxHeartbeats 1000000 in
theorem grow_any (n : Nat) (w : World) (hn : n < 1000000) :
    Calls Try.prog 69 #[.slice none 0 0, .int .i64 (n : Int)] w fun e w' => ∃ v, e = .returned v ∧ Kd.R kb 5 w' w.heap.size (fun _ => True) v [] ∧ Below w.heap.size w w' := by
  by_cases h0 : n = 0
  · subst h0
    go_enter Try.func69, Try.ntmps69
    go_wp2
    go_ret
    exact ⟨_, rfl, Kd.R_nil _ _ _ _ _, Below.refl _ _⟩
  · have g0 : decide ((0 : Int) < (n : Int)) = true := by simp; omega
    have hR0 := Lib.hid (Kd.R_nil kb 5 w w.heap.size (fun _ => True))
    go_enter Try.func69, Try.ntmps69
    go_wp2_with (at_builtin; refine Kd.R_append_zeros kb (w0 := w) w.heap.size rfl (.tmp 20) (.tmp 21) 23 3 5 _ 1 rfl Try.underlying23 Try.underlying3 info5 rfl (by decide) (by decide) (.slice none 0 0) [] (0 : Int) (kx := .i64) (n : Int) (fun _ => True) rfl rfl (show kb.M _ _ _ (0 : Int) [.int .u8 0] from rfl) (fun _ _ => trivial) hR0.out (by omega) (Below.refl _ _) (Nat.le_refl _) (by simp; omega) ?_; intro v1 w1 ho hb hg hat; obtain ⟨g, cap, rfl, hc1, hc2⟩ := RB_some ho (n := n) (by simp) (by omega); have HO := Lib.hid (RB_zero ho); have HBB := Lib.hid hb; clear ho hb hg hat)
    go_ret
    exact ⟨_, rfl, HO.out, HBB.out⟩
theorem flat_take (l : List (List Int)) (k : Nat) (h : k < l.length) : (l.take (k + 1)).flatten = (l.take k).flatten ++ (rd_LB l (k : Int)) := by
  rw [List.take_succ_eq_append_getElem h, List.flatten_append]
  simp [rd_LB, List.getD_eq_getElem?_getD, h]
theorem flat_le (l : List (List Int)) (k : Nat) : (l.take k).flatten.length ≤ l.flatten.length := by
  conv => rhs; rw [← List.take_append_drop k l, List.flatten_append, List.length_append]
  omega
theorem addr_plain0 {w : World} {x : Addr} {v : Value} (h : w.cell? x = some v) : ∃ b off, x = ⟨b, off, none⟩ := by
  obtain ⟨b, off, spot⟩ := x
  cases spot with
  | none => exact ⟨b, off, rfl⟩
  | some s => simp [World.cell?] at h; split at h <;> simp_all
theorem rows_of_C {w : World} {A : Option Addr} {n : Nat} {l : List (List Int)} (h : Kd.C (Kd.slice 5 kb) w A n l) (h0 : 0 < n) : ∃ b off, A = some ⟨b, off, none⟩ ∧ ∀ k : Nat, k < n → ∃ A1 c1, w.cell? ⟨b, off + k, none⟩ = some (.slice A1 (rd_LB l k).length c1) ∧ (rd_LB l k).length ≤ c1 ∧ kb.C w A1 (rd_LB l k).length (rd_LB l k) := by
  obtain ⟨ad, A1, c1, rfl, hc, _⟩ := at_LB h 0 (by omega) (by omega)
  obtain ⟨b, off, rfl⟩ := addr_plain0 (x := ad) (by simpa [Addr.add] using hc)
  refine ⟨b, off, rfl, fun k hk => ?_⟩
  obtain ⟨ad, A1, c1, e, hc, hl, hC⟩ := at_LB h (k : Int) (by omega) (by omega)
  cases e
  have hadd : (⟨b, off, none⟩ : Addr).add k = ⟨b, off + k, none⟩ := by unfold Addr.add; split <;> simp_all
  simp only [Int.toNat_natCast, hadd] at hc
  exact ⟨A1, c1, hc, hl, hC⟩
theorem kb_flat {W : World} (x : Int) (cs : List Value) (base : Nat) (ok : Nat → Prop) (h : kb.K W x cs) : kb.M W base ok x cs := h
set_option maxRecDepth 100000 in
set_option maxHeartbeats 4000000 in
theorem concat_any (A0 : Option Addr) (c0 : Nat) (l0 : List (List (Int))) (w : World) (hr0 : Kd.C (Kd.slice 5 kb) w A0 l0.length l0) (hc0 : l0.length ≤ c0) (h1 : l0.length < 1000) (h2 : l0.flatten.length < 1000000) :
    Calls Try.prog 48 #[.slice A0 l0.length c0] w fun e w' => ∃ v0_ : Value, e = .returned (v0_) ∧ Kd.R kb 5 w' w.heap.size (fun _ => True) v0_ l0.flatten ∧ Below w.heap.size w w' := by
  have HEL := Lib.hid (show ∀ (k : Nat), k < l0.length → ∃ b off, A0 = some ⟨b, off, none⟩ ∧ ∀ W : World, Below w.heap.size w W → ∃ A1 c1, W.cell? ⟨b, off + k, none⟩ = some (.slice A1 (rd_LB l0 k).length c1) ∧ (rd_LB l0 k).length ≤ c1 ∧ kb.C W A1 (rd_LB l0 k).length (rd_LB l0 k) from fun k hk => by
    obtain ⟨b, off, rfl, hf⟩ := rows_of_C hr0 (by omega)
    obtain ⟨A1, c1, hc, hl, hC⟩ := hf k hk
    exact ⟨b, off, rfl, fun W hb => ⟨A1, c1, below_cell hb hc, hl, Kd.C_below hC hb⟩⟩)
  have HFL := Lib.hid (fun k => flat_le l0 k)
  have HTK := Lib.hid (fun k hk => flat_take l0 k hk)
  obtain ⟨N, hN⟩ : ∃ N, N = l0.length := ⟨_, rfl⟩
  rw [← hN] at HEL HTK hc0 h1 ⊢
  have HN := Lib.hid hN
  clear hr0 hN
  go_enter Try.func48, Try.ntmps48
  go_wp2
  go_loopw [3, 11] (fun s i wr => ∃ k m : Nat, k ≤ N ∧ i = .int .i64 k ∧ s = .int .i64 (m : Int) ∧ Hid (m = (l0.take k).flatten.length) ∧ Hid (w = wr)) (fun _ i _ => N - (intOf i).toNat)
  case atStart => exact ⟨0, 0, Nat.zero_le _, rfl, rfl, Lib.hid rfl, Lib.hid rfl⟩
  case round =>
    obtain ⟨k, m, hk, rfl, rfl, HMK, HW⟩ := hrel
    obtain rfl := HW.out
    have HFIN := Lib.hid HFL.out
    by_cases hlt : k < N
    · obtain ⟨b, off, rfl, hf⟩ := HEL.out k hlt
      obtain ⟨A1, c1, hc, hl, hC⟩ := hf w (Below.refl _ _)
      have hs2 := HFL.out (k + 1)
      have ht := HTK.out k hlt
      have hlen : (l0.take (k + 1)).flatten.length = (l0.take k).flatten.length + (rd_LB l0 k).length := by rw [ht, List.length_append]
      have HL := Lib.hid (show (l0.take (k + 1)).flatten.length = m + (rd_LB l0 k).length by rw [hlen, HMK.out])
      have hb1 : m + (rd_LB l0 k).length < 1000000 := by rw [← HL.out]; omega
      clear ht hlen hC hf hs2
      obtain ⟨q, hq⟩ : ∃ q, q = (rd_LB l0 k).length := ⟨_, rfl⟩
      rw [← hq] at hc hl hb1
      have HQ := Lib.hid hq; clear hq
      have hneg : decide ((m : Int) + (q : Int) < 0) = false := by simp; omega
      go_wp2
      go_roundw
      case rel => exact ⟨k + 1, m + q, by omega, by go_num, by go_num, Lib.hid (by rw [HL.out, HQ.out]), Lib.hid trivial⟩
      case measure => simp [intOf]; omega
    · obtain rfl : k = N := by omega
      have hall : (l0.take k).flatten = l0.flatten := by rw [HN.out, List.take_length]
      have hM : m = l0.flatten.length := by rw [HMK.out, hall]
      rw [← hM] at h2
      have HALL := Lib.hid hall; have HM := Lib.hid hM
      clear hall hM
      go_wp2_with (go_at_call 69; refine (grow_any m w h2).mono ?_; rintro e w1 ⟨v1, rfl, ho, hb⟩; have HO := Lib.hid ho; have HB := Lib.hid hb; clear ho hb)
      go_loopw [6, 27] (fun v i wr => ∃ j : Nat, j ≤ k ∧ i = .int .i64 j ∧ (∃ L, Hid (L = (l0.take j).flatten ∧ Kd.R kb 5 wr w.heap.size (fun _ => True) v L)) ∧ Hid (Below w.heap.size w wr)) (fun _ i _ => k - (intOf i).toNat)
      case atStart => exact ⟨0, Nat.zero_le _, rfl, ⟨_, Lib.hid ⟨rfl, HO.out⟩⟩, HB⟩
      case round =>
        clear HO HB
        obtain ⟨j, hj, rfl, ⟨L, HLO⟩, HB⟩ := hrel
        have HO := Lib.hid HLO.out.2
        by_cases hlj : j < k
        · obtain ⟨b, off, rfl, hf⟩ := HEL.out j hlj
          obtain ⟨A1, c1, hc, hl, hC⟩ := hf wr HB.out
          have ht := HTK.out j hlj
          have hs1 := HFIN.out (j + 1)
          have hb1 : L.length + (rd_LB l0 j).length < 1000000 := by rw [ht, List.length_append, ← HM.out] at hs1; rw [HLO.out.1]; omega
          have HC := Lib.hid hC; have HT := Lib.hid ht
          clear hf hC ht hs1
          go_wp2_with (at_builtin; refine Kd.R_append_rows kb (Rr := kb.K wr) (w0 := w) w.heap.size rfl (.tmp 31) (.tmp 32) 23 5 _ 1 rfl Try.underlying23 info5 rfl (by decide) (by decide) _ _ _ _ _ _ (fun _ => True) (fun _ => False) rfl rfl HO.out HC.out (fun x cs h => kb_flat x cs _ _ h) (fun _ h => h.elim) (fun _ _ => trivial) HB.out HB.out.size (by omega) ?_; intro v1 w1 ho hb hg hat; have HO1 := Lib.hid ho; have HB1 := Lib.hid hb; clear ho hb hg hat)
          go_roundw
          case rel => exact ⟨j + 1, by omega, by go_num, ⟨_, Lib.hid ⟨by rw [HT.out, HLO.out.1], HO1.out⟩⟩, HB1⟩
          case measure => simp [intOf]; omega
        · obtain rfl : j = k := by omega
          go_wp2
          go_ret
          exact ⟨_, rfl, by rw [← HALL.out, ← HLO.out.1]; exact HO.out, HB.out⟩
end Go.Proofs.YtdelfhahbngcfaaX.P07
end
section
namespace Go.Proofs.YtdelfhahbngcfaaX.P07
open Go.Proofs.Ytdelfhahbngcfaa hiding blk_cell blk_new blk_lt blk_set blk_below
open Go.RowKit Go.Shelf Go.Proofs.YtdelfhahbngcfaaW.PrintWords Go.Proofs.YtdelfhahbngcfaaW.PrintLast Go.Proofs.YtdelfhahbngcfaaW.PrintMore
set_option linter.unusedVariables false
set_option linter.unusedSimpArgs false
attribute [local go_sem] Oper.semAt_some
def fourL (a : Int) : List Int := [(a / 16777216) % 256, (a / 65536) % 256, (a / 256) % 256, a % 256]
def oneB (x : S60) : List Int := [x.f0 % 256] ++ fourL x.f1 ++ fourL x.f2
def bytesL (l : List S60) : List Int := (fourL (l.length : Int)).drop 2 ++ l.flatMap oneB
theorem C4 {w : World} {G : Nat} {l0 l1 l2 l3 : List Int} {A0 A1 A2 A3 : Option Addr} {c0 c1 c2 c3 : Nat}
    (h0 : w.cell? ⟨G, 0, none⟩ = some (.slice A0 l0.length c0)) (h1 : w.cell? ⟨G, 1, none⟩ = some (.slice A1 l1.length c1)) (h2 : w.cell? ⟨G, 2, none⟩ = some (.slice A2 l2.length c2)) (h3 : w.cell? ⟨G, 3, none⟩ = some (.slice A3 l3.length c3))
    (k0 : l0.length ≤ c0 ∧ kb.C w A0 l0.length l0) (k1 : l1.length ≤ c1 ∧ kb.C w A1 l1.length l1) (k2 : l2.length ≤ c2 ∧ kb.C w A2 l2.length l2) (k3 : l3.length ≤ c3 ∧ kb.C w A3 l3.length l3) :
    Kd.C (Kd.slice 5 kb) w (some ⟨G, 0, none⟩) 4 [l0, l1, l2, l3] := by
  refine ⟨rfl, by decide, fun _ => ⟨⟨G, 0, none⟩, rfl, fun j p hp => ?_⟩⟩
  have one : ∀ (i : Nat) (A : Option Addr) (l : List Int) (c : Nat), w.cell? ⟨G, i, none⟩ = some (.slice A l.length c) → l.length ≤ c ∧ kb.C w A l.length l → ∃ cs, cs.length = (Kd.slice 5 kb).sz ∧ (Kd.slice 5 kb).K w l cs ∧ ∀ t u, cs[t]? = some u → w.cell? ((⟨G, 0, none⟩ : Addr).add (i * (Kd.slice 5 kb).sz + t)) = some u := fun i A l c hc hk =>
    ⟨[.slice A l.length c], rfl, ⟨A, c, rfl, hk.1, hk.2⟩, fun t u hu => by
      have ht : t = 0 := by
        have := (List.getElem?_eq_some_iff.1 hu).1
        simp at this; omega
      subst ht
      have e : u = .slice A l.length c := by simpa using hu.symm
      rw [e, show ((⟨G, 0, none⟩ : Addr).add (i * (Kd.slice 5 kb).sz + 0)) = ⟨G, i, none⟩ by
        have : i * (Kd.slice 5 kb).sz + 0 = i := Nat.mul_one i
        rw [this]; unfold Addr.add; split <;> simp_all]
      exact hc⟩
  match j, hp with
  | 0, hp => have e : p = l0 := by simpa using hp.symm
             subst e; exact one 0 A0 _ c0 h0 k0
  | 1, hp => have e : p = l1 := by simpa using hp.symm
             subst e; exact one 1 A1 _ c1 h1 k1
  | 2, hp => have e : p = l2 := by simpa using hp.symm
             subst e; exact one 2 A2 _ c2 h2 k2
  | 3, hp => have e : p = l3 := by simpa using hp.symm
             subst e; exact one 3 A3 _ c3 h3 k3
  | n + 4, hp => simp at hp
theorem concat4 (base G1 b1 b2 c0 : Nat) (A0 : Option Addr) (l0 : List Int) (x : S60) (vA vB : Value) (V w0 : World) (hw0 : Below w0.heap.size w0 V) (hbw : base ≤ V.heap.size) (h0 : l0.length ≤ c0 ∧ kb.C V A0 l0.length l0) (hG : V.heap[G1]? = some (.cells #[.int .u8 (x.f0 % 256)] 5))
    (hA : Kd.R kb 5 V b1 (fun _ => True) vA (fourL x.f1)) (hB : Kd.R kb 5 V b2 (fun _ => True) vB (fourL x.f2)) (hlen : l0.length < 990000) :
    Calls Try.prog 48 #[.slice (some ⟨V.heap.size, 0, none⟩) 4 4] (V.alloc (.cells #[.slice A0 l0.length c0, .slice (some ⟨G1, 0, none⟩) 1 1, vA, vB] 23)) fun e w' => ∃ v, e = .returned v ∧ Kd.R kb 5 w' base (fun _ => True) v (l0 ++ oneB x) ∧ Below V.heap.size V w' ∧ Below w0.heap.size w0 w' := by
  obtain ⟨A2, c2, rfl, k2, r2⟩ := Kd.R_reads hA
  obtain ⟨A3, c3, rfl, k3, r3⟩ := Kd.R_reads hB
  have hbl : Below V.heap.size V (V.alloc (.cells #[.slice A0 l0.length c0, .slice (some ⟨G1, 0, none⟩) 1 1, .slice A2 (fourL x.f1).length c2, .slice A3 (fourL x.f2).length c3] 23)) := (Below.refl _ V).alloc (Nat.le_refl _) _
  have hN := blk_new V (.cells #[.slice A0 l0.length c0, .slice (some ⟨G1, 0, none⟩) 1 1, .slice A2 (fourL x.f1).length c2, .slice A3 (fourL x.f2).length c3] 23)
  have r1 : kb.C V (some ⟨G1, 0, none⟩) 1 [x.f0 % 256] := ⟨rfl, by decide, fun _ => ⟨_, rfl, fun j p hp => by
    cases j with
    | zero =>
      have e : p = x.f0 % 256 := by simpa using hp.symm
      subst e
      refine ⟨[.int .u8 (x.f0 % 256)], rfl, rfl, fun t u hu => ?_⟩
      have ht : t = 0 := by have := (List.getElem?_eq_some_iff.1 hu).1; simp at this; omega
      subst ht
      have e2 : u = .int .u8 (x.f0 % 256) := by simpa using hu.symm
      rw [e2]
      exact (blk_cell hG 0).trans rfl
    | succ j => simp at hp⟩⟩
  have hC := C4 (l1 := [x.f0 % 256]) ((blk_cell hN 0).trans rfl) ((blk_cell hN 1).trans rfl) ((blk_cell hN 2).trans rfl) ((blk_cell hN 3).trans rfl) ⟨h0.1, Kd.C_below h0.2 hbl⟩ ⟨Nat.le_refl 1, Kd.C_below r1 hbl⟩ ⟨k2, Kd.C_below r2 hbl⟩ ⟨k3, Kd.C_below r3 hbl⟩
  refine (concat_any (some ⟨V.heap.size, 0, none⟩) 4 [l0, [x.f0 % 256], fourL x.f1, fourL x.f2] _ hC (Nat.le_refl 4) (by show 4 < 1000; decide) (by simp [fourL]; omega)).mono ?_
  rintro e w' ⟨v, rfl, ho, hb⟩
  refine ⟨v, rfl, ?_, hbl.trans (hb.mono hbl.size), hw0.trans ((hbl.trans (hb.mono hbl.size)).mono hw0.size)⟩
  have := Kd.R_lower ho (Nat.le_trans hbw hbl.size)
  simpa [oneB, List.append_assoc] using this
theorem blk_thru {W W' : World} {g : Nat} {o : Obj} (hb : Below W.heap.size W W') (h : W.heap[g]? = some o) : W'.heap[g]? = some o := (hb.block g (blk_lt h)).trans h
def past_Bytes.f (k : Nat) (l0 : List S60) : Option (List Int × Int) := if l0.length ≤ 100000 then (past_Check.f k l0).bind fun e => if e = 0 then some (bytesL l0, 0) else some ([], e) else none
theorem past_Bytes.mono : ∀ a0 k, LeO (past_Bytes.f k a0) (past_Bytes.f (k + 1) a0) := fun a0 k => by
  unfold past_Bytes.f
  exact LeO.ite (LeO.bind (past_Check.mono a0 k) (fun _ => LeO.refl _)) (LeO.refl _)
theorem bytes_len (l : List S60) : (l.flatMap oneB).length = l.length * 9 := by
  induction l with
  | nil => rfl
  | cons x r ih => rw [List.flatMap_cons, List.length_append, ih]; simp [oneB, fourL]; omega
set_option maxRecDepth 100000 in
set_option maxHeartbeats 8000000 in
theorem past_Bytes.calls (k : Nat) (A0 : Option Addr) (c0 : Nat) (l0 : List (S60)) (r1 : List Int) (r2 : Int) (w : World) (hr0 : Kd.C k60 w A0 l0.length l0) (hc0 : l0.length ≤ c0) (h : past_Bytes.f k l0 = some (r1, r2)) :
    Calls Try.prog 13 #[.slice A0 l0.length c0] w fun e w' => ∃ v0_ : Value, e = .returned (.tuple #[v0_, .int .i64 r2]) ∧ Kd.Q kb 5 w' w.heap.size (fun _ => True) v0_ r1 ∧ Below w.heap.size w w' := by
  unfold past_Bytes.f at h
  by_cases hn : l0.length ≤ 100000
  rotate_left
  · rw [if_neg hn] at h; cases h
  rw [if_pos hn] at h
  obtain ⟨e0, he, h⟩ := Option.bind_eq_some_iff.mp h
  have HX := Lib.hid (fun h0 => cells60 hr0 h0)
  have HCHK := Lib.hid (past_Check.calls k A0 c0 l0 e0 w hr0 hc0 he)
  obtain ⟨N, hN⟩ : ∃ N, N = l0.length := ⟨_, rfl⟩
  have HN := Lib.hid hN
  rw [← hN] at hn HCHK ⊢
  clear he hr0 hN
  by_cases h0 : e0 = 0
  rotate_left
  · rw [if_neg h0] at h
    obtain ⟨rfl, rfl⟩ := Prod.mk.inj (Option.some.inj h)
    have h0' : (e0 != 0) = true := bne_iff_ne.2 h0
    clear h h0
    go_enter Try.func13, Try.ntmps13
    go_wp2_with (go_at_call 38; refine HCHK.out.mono ?_; rintro e w1 ⟨rfl, hbel⟩; have HB := Lib.hid hbel; clear hbel)
    go_ret2
    exact ⟨_, rfl, Kd.Q_of_R (Kd.R_nil _ _ _ _ _), HB.out⟩
  subst h0
  rw [if_pos rfl] at h
  obtain ⟨rfl, rfl⟩ := Prod.mk.inj (Option.some.inj h)
  clear h
  go_enter Try.func13, Try.ntmps13
  go_wp2_with first | (go_at_call 38; refine HCHK.out.mono ?_; rintro e w1 ⟨rfl, hbel⟩; have HB := Lib.hid hbel; clear hbel) | (go_at_call 47; refine (past_four.calls (N : Int) (fourL (N : Int)) _ rfl).mono ?_; rintro e w2 ⟨v2, rfl, ho, hbel⟩; have HO := Lib.hid ho; have HB2 := Lib.hid hbel; clear ho hbel; obtain ⟨g2, c2, rfl, hc2, hm2⟩ := RB_some HO.out (n := 4) rfl (by decide))
  have HQ0 := Lib.hid (show Kd.Q kb 5 w2 w.heap.size (fun _ => True) (.slice (some ⟨g2, 2, none⟩) 2 (c2 - 2)) ((fourL (N : Int)).drop 2) ∧ Below w.heap.size w w2 from by
    refine ⟨?_, HB.out.trans (HB2.out.mono HB.out.size)⟩
    have := Kd.Q_drop (k := 2) (Kd.Q_of_R (Kd.R_lower HO.out HB.out.size)) (show 2 ≤ 4 by omega)
    rw [if_neg (by omega)] at this
    exact this)
  go_wp2
  go_loopw [5, 19] (fun v i wr => ∃ j : Nat, j ≤ N ∧ i = .int .i64 j ∧ Hid (Kd.Q kb 5 wr w.heap.size (fun _ => True) v ((fourL (N : Int)).drop 2 ++ (l0.take j).flatMap oneB) ∧ Below w.heap.size w wr)) (fun _ i _ => N - (intOf i).toNat)
  case atStart => exact ⟨0, Nat.zero_le _, rfl, Lib.hid ⟨by simpa using HQ0.out.1, HQ0.out.2⟩⟩
  case round =>
    clear HQ0 HO HB HB2
    obtain ⟨j, hj, rfl, HI⟩ := hrel
    by_cases hlt : j < N
    · have hkl : j < l0.length := by rw [← HN.out]; exact hlt
      obtain ⟨b, off, rfl, hc⟩ := HX.out (by omega)
      obtain ⟨q0, q1, q2⟩ := hc j hkl
      obtain ⟨x, hx⟩ : ∃ x, x = rd_T60 l0 (j : Int) := ⟨_, rfl⟩
      rw [← hx] at q0 q1 q2
      replace q0 := (HI.out.2.cell (World.block_lt_of_cell? w _ q0)).trans q0
      replace q1 := (HI.out.2.cell (World.block_lt_of_cell? w _ q1)).trans q1
      replace q2 := (HI.out.2.cell (World.block_lt_of_cell? w _ q2)).trans q2
      have hxx : l0[j] = x := by rw [hx]; unfold rd_T60; simp [List.getD_eq_getElem?_getD, hkl]
      obtain ⟨ol, hol⟩ : ∃ ol, ol = (fourL (N : Int)).drop 2 ++ (l0.take j).flatMap oneB := ⟨_, rfl⟩
      have HT := Lib.hid (show (fourL (N : Int)).drop 2 ++ (l0.take (j + 1)).flatMap oneB = ol ++ oneB x by rw [List.take_succ_eq_append_getElem hkl, hxx, List.flatMap_append, hol]; simp)
      have hlen : ol.length < 990000 := by rw [hol, List.length_append, bytes_len]; simp [fourL]; omega
      rw [← hol] at HI
      obtain ⟨Av, cv, rfl, hcv, hCv⟩ := Kd.Q_reads HI.out.1
      have hbT : Below wr.heap.size wr (wr.alloc (.cells #[.int .i64 x.f0, .int .i64 x.f1, .int .i64 x.f2] 60)) := (Below.refl _ wr).alloc (Nat.le_refl _) _
      have HS := Lib.hid (show ∀ W, Below (wr.alloc (.cells #[.int .i64 x.f0, .int .i64 x.f1, .int .i64 x.f2] 60)).heap.size (wr.alloc (.cells #[.int .i64 x.f0, .int .i64 x.f1, .int .i64 x.f2] 60)) W → W.cell? ⟨wr.heap.size, 0, none⟩ = some (.int .i64 x.f0) ∧ W.cell? ⟨wr.heap.size, 1, none⟩ = some (.int .i64 x.f1) ∧ W.cell? ⟨wr.heap.size, 2, none⟩ = some (.int .i64 x.f2) from fun W hW => by
        have := blk_thru hW (blk_new wr (.cells #[.int .i64 x.f0, .int .i64 x.f1, .int .i64 x.f2] 60))
        exact ⟨(blk_cell this 0).trans rfl, (blk_cell this 1).trans rfl, (blk_cell this 2).trans rfl⟩)
      have HOUT := Lib.hid (show ∀ W, Below (wr.alloc (.cells #[.int .i64 x.f0, .int .i64 x.f1, .int .i64 x.f2] 60)).heap.size (wr.alloc (.cells #[.int .i64 x.f0, .int .i64 x.f1, .int .i64 x.f2] 60)) W → w.heap.size ≤ W.heap.size ∧ (ol.length ≤ cv ∧ kb.C W Av ol.length ol) from fun W hW => ⟨by have := hW.size; have := hbT.size; have := HI.out.2.size; omega, hcv, Kd.C_below (Kd.C_below hCv hbT) hW⟩)
      have HBW := Lib.hid (show ∀ W, Below (wr.alloc (.cells #[.int .i64 x.f0, .int .i64 x.f1, .int .i64 x.f2] 60)).heap.size (wr.alloc (.cells #[.int .i64 x.f0, .int .i64 x.f1, .int .i64 x.f2] 60)) W → Below w.heap.size w W from fun W hW => HI.out.2.trans ((hbT.trans (hW.mono hbT.size)).mono HI.out.2.size))
      have e8 : IntKind.u8.wrap x.f0 = x.f0 % 256 := IntKind.wrap_u8 _
      have s0 := HS.out _ (Below.refl _ _)
      have HGA := Lib.hid (show ((wr.alloc (.cells #[.int .i64 x.f0, .int .i64 x.f1, .int .i64 x.f2] 60)).alloc (.cells #[.int .u8 (x.f0 % 256)] 5)).heap[wr.heap.size + 1]? = some (.cells #[.int .u8 (x.f0 % 256)] 5) from by
        have := blk_new (wr.alloc (.cells #[.int .i64 x.f0, .int .i64 x.f1, .int .i64 x.f2] 60)) (.cells #[.int .u8 (x.f0 % 256)] 5)
        rwa [show (wr.alloc (.cells #[.int .i64 x.f0, .int .i64 x.f1, .int .i64 x.f2] 60)).heap.size = wr.heap.size + 1 by simp] at this)
      clear hc hx hxx hkl hol hCv hbT
      go_wp2_with fail
      have hV0 : Below (wr.alloc (.cells #[.int .i64 x.f0, .int .i64 x.f1, .int .i64 x.f2] 60)).heap.size (wr.alloc (.cells #[.int .i64 x.f0, .int .i64 x.f1, .int .i64 x.f2] 60)) (wr.alloc (.cells #[.int .i64 x.f0, .int .i64 x.f1, .int .i64 x.f2] 60)).drew := below_drew1 (Below.refl _ _)
      refine wp_region_held_drew (S := (fun W => W.cell? ⟨wr.heap.size, 0, none⟩ = some (.int .i64 x.f0) ∧ W.cell? ⟨wr.heap.size, 1, none⟩ = some (.int .i64 x.f1) ∧ W.cell? ⟨wr.heap.size, 2, none⟩ = some (.int .i64 x.f2))) (by kernel_rfl) (HS.out _ hV0) (fun hHeld => ?_)
      refine wpAnyH_take (i := 0) (oi := { dst := some 23, op := Go.Op.move (Go.Operand.tmp 5), type := 23, pos := "past.go:213", after := #[], guard := none }) (v := .slice Av ol.length cv) rfl (by kernel_rfl) (by kernel_rfl) (by kernel_rfl) (fun _ _ _ h => h) (Or.inl ⟨by rfl, ?_⟩) (by assumption) ?_
      · intro W hSw
        go_simp
      simp only [Act.put, List.setIfInBounds_toArray, List.set_cons_zero, List.set_cons_succ]
      refine wpAnyH_take (i := 1) (oi := { dst := some 24, op := Go.Op.fieldAddr 60 (Go.Operand.tmp 7) 0, type := 0, pos := "past.go:213", after := #[], guard := none }) (v := .pointer (some ⟨wr.heap.size, 0, none⟩)) rfl (by kernel_rfl) (by kernel_rfl) (by kernel_rfl) (fun _ _ _ h => h) (Or.inl ⟨by rfl, ?_⟩) (by assumption) ?_
      · intro W hSw
        go_simp
      simp only [Act.put, List.setIfInBounds_toArray, List.set_cons_zero, List.set_cons_succ]
      refine wpAnyH_take (i := 2) (oi := { dst := some 25, op := Go.Op.load 3 (Go.Operand.tmp 24), type := 3, pos := "past.go:213", after := #[{ on := 1, ground := Go.Ground.data }], guard := none }) (v := .int .i64 x.f0) rfl (by kernel_rfl) (by kernel_rfl) (by kernel_rfl) (fun _ _ _ h => h) (Or.inl ⟨by rfl, ?_⟩) (by assumption) ?_
      · intro W hSw
        go_simp
      simp only [Act.put, List.setIfInBounds_toArray, List.set_cons_zero, List.set_cons_succ]
      refine wpAnyH_take (i := 3) (oi := { dst := some 26, op := Go.Op.convert 3 5 (Go.Operand.tmp 25), type := 5, pos := "past.go:213", after := #[{ on := 2, ground := Go.Ground.data }], guard := none }) (v := .int .u8 (x.f0 % 256)) rfl (by kernel_rfl) (by kernel_rfl) (by kernel_rfl) (fun _ _ _ h => h) (Or.inl ⟨by rfl, ?_⟩) (by assumption) ?_
      · intro W hSw
        go_simp
      simp only [Act.put, List.setIfInBounds_toArray, List.set_cons_zero, List.set_cons_succ]
      refine wpAnyH_take (i := 5) (oi := { dst := some 28, op := Go.Op.fieldAddr 60 (Go.Operand.tmp 7) 1, type := 0, pos := "past.go:213", after := #[], guard := none }) (v := .pointer (some ⟨wr.heap.size, 1, none⟩)) rfl (by kernel_rfl) (by kernel_rfl) (by kernel_rfl) (fun _ _ _ h => h) (Or.inl ⟨by rfl, ?_⟩) (by assumption) ?_
      · intro W hSw
        go_simp
      simp only [Act.put, List.setIfInBounds_toArray, List.set_cons_zero, List.set_cons_succ]
      refine wpAnyH_take (i := 6) (oi := { dst := some 29, op := Go.Op.load 3 (Go.Operand.tmp 28), type := 3, pos := "past.go:213", after := #[{ on := 5, ground := Go.Ground.data }], guard := none }) (v := .int .i64 x.f1) rfl (by kernel_rfl) (by kernel_rfl) (by kernel_rfl) (fun _ _ _ h => h) (Or.inl ⟨by rfl, ?_⟩) (by assumption) ?_
      · intro W hSw
        go_simp
      simp only [Act.put, List.setIfInBounds_toArray, List.set_cons_zero, List.set_cons_succ]
      refine wpAnyH_take (i := 8) (oi := { dst := some 31, op := Go.Op.fieldAddr 60 (Go.Operand.tmp 7) 2, type := 0, pos := "past.go:213", after := #[], guard := none }) (v := .pointer (some ⟨wr.heap.size, 2, none⟩)) rfl (by kernel_rfl) (by kernel_rfl) (by kernel_rfl) (fun _ _ _ h => h) (Or.inl ⟨by rfl, ?_⟩) (by assumption) ?_
      · intro W hSw
        go_simp
      simp only [Act.put, List.setIfInBounds_toArray, List.set_cons_zero, List.set_cons_succ]
      refine wpAnyH_take (i := 9) (oi := { dst := some 32, op := Go.Op.load 3 (Go.Operand.tmp 31), type := 3, pos := "past.go:213", after := #[{ on := 8, ground := Go.Ground.data }], guard := none }) (v := .int .i64 x.f2) rfl (by kernel_rfl) (by kernel_rfl) (by kernel_rfl) (fun _ _ _ h => h) (Or.inl ⟨by rfl, ?_⟩) (by assumption) ?_
      · intro W hSw
        go_simp
      simp only [Act.put, List.setIfInBounds_toArray, List.set_cons_zero, List.set_cons_succ]
      obtain ⟨W0, hW0⟩ : ∃ W, W = (wr.alloc (.cells #[.int .i64 x.f0, .int .i64 x.f1, .int .i64 x.f2] 60)).drew := ⟨_, rfl⟩
      rw [← hW0] at hHeld hV0 ⊢
      clear hW0
      refine wpAnyH_ready (rs := [4, 7]) (by kernel_rfl) (by simp) ?_
      refine AllReadyH.cons (o := { dst := some 27, op := Go.Op.buildSlice 23 1 #[(0, Go.Operand.tmp 26)], type := 23, pos := "past.go:213", after := #[{ on := 3, ground := Go.Ground.data }], guard := none }) rfl (fun K hK => ?_) (AllReadyH.cons (o := { dst := some 30, op := Go.Op.call { callee := Go.Callee.value (Go.Operand.func 47), args := #[Go.Operand.tmp 29], argTypes := #[3] }, type := 23, pos := "past.go:213", after := #[{ on := 6, ground := Go.Ground.data }], guard := none }) rfl (fun K hK => ?_) (AllReadyH.nil))
      · go_simp
        have bV1 : Below (wr.alloc (.cells #[.int .i64 x.f0, .int .i64 x.f1, .int .i64 x.f2] 60)).heap.size (wr.alloc (.cells #[.int .i64 x.f0, .int .i64 x.f1, .int .i64 x.f2] 60)) (W0.alloc (.cells #[.int .u8 (x.f0 % 256)] 5)) := below_alloc hV0 _
        refine hK.out _ _ (HS.out _ bV1) (fun hHeld => ?_)
        clear hK K
        try simp only [Act.put, List.setIfInBounds_toArray, List.set_cons_zero, List.set_cons_succ]
        have hG1 := blk_new W0 (.cells #[.int .u8 (x.f0 % 256)] 5)
        have hs1 : Below W0.heap.size W0 (W0.alloc (.cells #[.int .u8 (x.f0 % 256)] 5)) := below_alloc (Below.refl _ _) _
        obtain ⟨V1, hV1⟩ : ∃ V, V = W0.alloc (.cells #[.int .u8 (x.f0 % 256)] 5) := ⟨_, rfl⟩
        rw [← hV1] at hHeld bV1 hG1 hs1 ⊢
        clear hV1
        refine wpAnyH_ready (rs := [7]) (by kernel_rfl) (by simp) ?_
        refine AllReadyH.cons (o := { dst := some 30, op := Go.Op.call { callee := Go.Callee.value (Go.Operand.func 47), args := #[Go.Operand.tmp 29], argTypes := #[3] }, type := 23, pos := "past.go:213", after := #[{ on := 6, ground := Go.Ground.data }], guard := none }) rfl (fun K hK => ?_) (AllReadyH.nil)
        · go_simp
          refine (past_four.calls x.f1 (fourL x.f1) _ rfl).mono ?_
          rintro e V2 ⟨v2, rfl, ho2, hs2⟩
          obtain ⟨g2, c2, rfl, _, _⟩ := RB_some ho2 (n := 4) rfl (by decide)
          have bV2 : Below (wr.alloc (.cells #[.int .i64 x.f0, .int .i64 x.f1, .int .i64 x.f2] 60)).heap.size (wr.alloc (.cells #[.int .i64 x.f0, .int .i64 x.f1, .int .i64 x.f2] 60)) V2 := bV1.trans (hs2.mono bV1.size)
          go_wp2_with fail
          refine hK.out _ _ (HS.out _ bV2) (fun hHeld => ?_)
          clear hK K
          try simp only [Act.put, List.setIfInBounds_toArray, List.set_cons_zero, List.set_cons_succ]
          have hG2 := blk_thru hs2 hG1
          refine wpAnyH_ready (rs := [10]) (by kernel_rfl) (by simp) ?_
          refine AllReadyH.cons (o := { dst := some 33, op := Go.Op.call { callee := Go.Callee.value (Go.Operand.func 47), args := #[Go.Operand.tmp 32], argTypes := #[3] }, type := 23, pos := "past.go:213", after := #[{ on := 9, ground := Go.Ground.data }, { on := 7, ground := Go.Ground.chain }], guard := none }) rfl (fun K hK => ?_) (AllReadyH.nil)
          · go_simp
            refine (past_four.calls x.f2 (fourL x.f2) _ rfl).mono ?_
            rintro e V3 ⟨v3, rfl, ho3, hs3⟩
            obtain ⟨g3, c3, rfl, _, _⟩ := RB_some ho3 (n := 4) rfl (by decide)
            have bV3 : Below (wr.alloc (.cells #[.int .i64 x.f0, .int .i64 x.f1, .int .i64 x.f2] 60)).heap.size (wr.alloc (.cells #[.int .i64 x.f0, .int .i64 x.f1, .int .i64 x.f2] 60)) V3 := bV2.trans (hs3.mono bV2.size)
            go_wp2_with fail
            refine hK.out _ _ (HS.out _ bV3) (fun hHeld => ?_)
            clear hK K
            try simp only [Act.put, List.setIfInBounds_toArray, List.set_cons_zero, List.set_cons_succ]
            have hG3 := blk_thru hs3 hG2
            have hoA3 := Kd.R_below ho2 hs3
            refine wpAnyH_ready (rs := [11]) (by kernel_rfl) (by simp) ?_
            refine AllReadyH.cons (o := { dst := some 34, op := Go.Op.buildSlice 83 4 #[(0, Go.Operand.tmp 23), (1, Go.Operand.tmp 27), (2, Go.Operand.tmp 30), (3, Go.Operand.tmp 33)], type := 83, pos := "past.go:213", after := #[{ on := 0, ground := Go.Ground.data }, { on := 4, ground := Go.Ground.data }, { on := 7, ground := Go.Ground.data }, { on := 10, ground := Go.Ground.data }], guard := none }) rfl (fun K hK => ?_) AllReadyH.nil
            go_simp
            refine hK.out _ _ (HS.out _ (below_alloc bV3 _)) (fun hHeld => ?_)
            clear hK K
            try simp only [Act.put, List.setIfInBounds_toArray, List.set_cons_zero, List.set_cons_succ]
            refine wpAnyH_ready (rs := [12]) (by kernel_rfl) (by simp) ?_
            refine AllReadyH.cons (o := { dst := some 35, op := Go.Op.call { callee := Go.Callee.value (Go.Operand.func 48), args := #[Go.Operand.tmp 34], argTypes := #[83] }, type := 23, pos := "past.go:213", after := #[{ on := 11, ground := Go.Ground.data }, { on := 10, ground := Go.Ground.chain }], guard := none }) rfl (fun K hK => ?_) AllReadyH.nil
            go_simp
            refine (concat4 w.heap.size _ _ _ cv Av ol x _ _ V3 w (HBW.out _ bV3) (HOUT.out _ bV3).1 (HOUT.out _ bV3).2 hG3 hoA3 ho3 hlen).mono ?_
            rintro e w9 ⟨v9, rfl, ho9, hb9, hb10⟩
            go_wp2_with fail
            refine hK.out _ _ (HS.out _ (bV3.trans (hb9.mono bV3.size))) (fun hHeld => ?_)
            clear hK K
            try simp only [Act.put, List.setIfInBounds_toArray, List.set_cons_zero, List.set_cons_succ]
            refine wpAnyH_ready (rs := [13]) (by kernel_rfl) (by simp) ?_
            refine AllReadyH.cons (o := { dst := some 5, op := Go.Op.assign (Go.Operand.tmp 35), type := 23, pos := "past.go:213", after := #[{ on := 12, ground := Go.Ground.data }, { on := 12, ground := Go.Ground.chain }, { on := 0, ground := Go.Ground.phase }, { on := 1, ground := Go.Ground.phase }, { on := 2, ground := Go.Ground.phase }, { on := 3, ground := Go.Ground.phase }, { on := 4, ground := Go.Ground.phase }, { on := 5, ground := Go.Ground.phase }, { on := 6, ground := Go.Ground.phase }, { on := 7, ground := Go.Ground.phase }, { on := 8, ground := Go.Ground.phase }, { on := 9, ground := Go.Ground.phase }, { on := 10, ground := Go.Ground.phase }, { on := 11, ground := Go.Ground.phase }, { on := 12, ground := Go.Ground.phase }], guard := none }) rfl (fun K hK => ?_) AllReadyH.nil
            go_simp
            refine hK.out _ _ (HS.out _ (bV3.trans (hb9.mono bV3.size))) (fun hHeld => ?_)
            clear hK K
            try simp only [Act.put, List.setIfInBounds_toArray, List.set_cons_zero, List.set_cons_succ]
            refine wpAnyH_done (by kernel_rfl) ?_ _
            have HO9 := Lib.hid ho9
            have HB9 := Lib.hid hb10
            clear ho9 hb10 hb9
            go_wp2
            go_roundw
            case rel => exact ⟨j + 1, by omega, by go_num, Lib.hid ⟨by rw [HT.out]; exact Kd.Q_of_R HO9.out, HB9.out⟩⟩
            case measure => simp [intOf]; omega
      · go_simp
        refine (past_four.calls x.f1 (fourL x.f1) _ rfl).mono ?_
        rintro e V4 ⟨v4, rfl, ho4, hs4⟩
        obtain ⟨g4, c4, rfl, _, _⟩ := RB_some ho4 (n := 4) rfl (by decide)
        have bV4 : Below (wr.alloc (.cells #[.int .i64 x.f0, .int .i64 x.f1, .int .i64 x.f2] 60)).heap.size (wr.alloc (.cells #[.int .i64 x.f0, .int .i64 x.f1, .int .i64 x.f2] 60)) V4 := hV0.trans (hs4.mono hV0.size)
        go_wp2_with fail
        refine hK.out _ _ (HS.out _ bV4) (fun hHeld => ?_)
        clear hK K
        try simp only [Act.put, List.setIfInBounds_toArray, List.set_cons_zero, List.set_cons_succ]
        refine wpAnyH_ready (rs := [4, 10]) (by kernel_rfl) (by simp) ?_
        refine AllReadyH.cons (o := { dst := some 27, op := Go.Op.buildSlice 23 1 #[(0, Go.Operand.tmp 26)], type := 23, pos := "past.go:213", after := #[{ on := 3, ground := Go.Ground.data }], guard := none }) rfl (fun K hK => ?_) (AllReadyH.cons (o := { dst := some 33, op := Go.Op.call { callee := Go.Callee.value (Go.Operand.func 47), args := #[Go.Operand.tmp 32], argTypes := #[3] }, type := 23, pos := "past.go:213", after := #[{ on := 9, ground := Go.Ground.data }, { on := 7, ground := Go.Ground.chain }], guard := none }) rfl (fun K hK => ?_) (AllReadyH.nil))
        · go_simp
          have bV5 : Below (wr.alloc (.cells #[.int .i64 x.f0, .int .i64 x.f1, .int .i64 x.f2] 60)).heap.size (wr.alloc (.cells #[.int .i64 x.f0, .int .i64 x.f1, .int .i64 x.f2] 60)) (V4.alloc (.cells #[.int .u8 (x.f0 % 256)] 5)) := below_alloc bV4 _
          refine hK.out _ _ (HS.out _ bV5) (fun hHeld => ?_)
          clear hK K
          try simp only [Act.put, List.setIfInBounds_toArray, List.set_cons_zero, List.set_cons_succ]
          have hG5 := blk_new V4 (.cells #[.int .u8 (x.f0 % 256)] 5)
          have hs5 : Below V4.heap.size V4 (V4.alloc (.cells #[.int .u8 (x.f0 % 256)] 5)) := below_alloc (Below.refl _ _) _
          obtain ⟨V5, hV5⟩ : ∃ V, V = V4.alloc (.cells #[.int .u8 (x.f0 % 256)] 5) := ⟨_, rfl⟩
          rw [← hV5] at hHeld bV5 hG5 hs5 ⊢
          clear hV5
          have hoA5 := Kd.R_below ho4 hs5
          refine wpAnyH_ready (rs := [10]) (by kernel_rfl) (by simp) ?_
          refine AllReadyH.cons (o := { dst := some 33, op := Go.Op.call { callee := Go.Callee.value (Go.Operand.func 47), args := #[Go.Operand.tmp 32], argTypes := #[3] }, type := 23, pos := "past.go:213", after := #[{ on := 9, ground := Go.Ground.data }, { on := 7, ground := Go.Ground.chain }], guard := none }) rfl (fun K hK => ?_) (AllReadyH.nil)
          · go_simp
            refine (past_four.calls x.f2 (fourL x.f2) _ rfl).mono ?_
            rintro e V6 ⟨v6, rfl, ho6, hs6⟩
            obtain ⟨g6, c6, rfl, _, _⟩ := RB_some ho6 (n := 4) rfl (by decide)
            have bV6 : Below (wr.alloc (.cells #[.int .i64 x.f0, .int .i64 x.f1, .int .i64 x.f2] 60)).heap.size (wr.alloc (.cells #[.int .i64 x.f0, .int .i64 x.f1, .int .i64 x.f2] 60)) V6 := bV5.trans (hs6.mono bV5.size)
            go_wp2_with fail
            refine hK.out _ _ (HS.out _ bV6) (fun hHeld => ?_)
            clear hK K
            try simp only [Act.put, List.setIfInBounds_toArray, List.set_cons_zero, List.set_cons_succ]
            have hoA6 := Kd.R_below hoA5 hs6
            have hG6 := blk_thru hs6 hG5
            refine wpAnyH_ready (rs := [11]) (by kernel_rfl) (by simp) ?_
            refine AllReadyH.cons (o := { dst := some 34, op := Go.Op.buildSlice 83 4 #[(0, Go.Operand.tmp 23), (1, Go.Operand.tmp 27), (2, Go.Operand.tmp 30), (3, Go.Operand.tmp 33)], type := 83, pos := "past.go:213", after := #[{ on := 0, ground := Go.Ground.data }, { on := 4, ground := Go.Ground.data }, { on := 7, ground := Go.Ground.data }, { on := 10, ground := Go.Ground.data }], guard := none }) rfl (fun K hK => ?_) AllReadyH.nil
            go_simp
            refine hK.out _ _ (HS.out _ (below_alloc bV6 _)) (fun hHeld => ?_)
            clear hK K
            try simp only [Act.put, List.setIfInBounds_toArray, List.set_cons_zero, List.set_cons_succ]
            refine wpAnyH_ready (rs := [12]) (by kernel_rfl) (by simp) ?_
            refine AllReadyH.cons (o := { dst := some 35, op := Go.Op.call { callee := Go.Callee.value (Go.Operand.func 48), args := #[Go.Operand.tmp 34], argTypes := #[83] }, type := 23, pos := "past.go:213", after := #[{ on := 11, ground := Go.Ground.data }, { on := 10, ground := Go.Ground.chain }], guard := none }) rfl (fun K hK => ?_) AllReadyH.nil
            go_simp
            refine (concat4 w.heap.size _ _ _ cv Av ol x _ _ V6 w (HBW.out _ bV6) (HOUT.out _ bV6).1 (HOUT.out _ bV6).2 hG6 hoA6 ho6 hlen).mono ?_
            rintro e w9 ⟨v9, rfl, ho9, hb9, hb10⟩
            go_wp2_with fail
            refine hK.out _ _ (HS.out _ (bV6.trans (hb9.mono bV6.size))) (fun hHeld => ?_)
            clear hK K
            try simp only [Act.put, List.setIfInBounds_toArray, List.set_cons_zero, List.set_cons_succ]
            refine wpAnyH_ready (rs := [13]) (by kernel_rfl) (by simp) ?_
            refine AllReadyH.cons (o := { dst := some 5, op := Go.Op.assign (Go.Operand.tmp 35), type := 23, pos := "past.go:213", after := #[{ on := 12, ground := Go.Ground.data }, { on := 12, ground := Go.Ground.chain }, { on := 0, ground := Go.Ground.phase }, { on := 1, ground := Go.Ground.phase }, { on := 2, ground := Go.Ground.phase }, { on := 3, ground := Go.Ground.phase }, { on := 4, ground := Go.Ground.phase }, { on := 5, ground := Go.Ground.phase }, { on := 6, ground := Go.Ground.phase }, { on := 7, ground := Go.Ground.phase }, { on := 8, ground := Go.Ground.phase }, { on := 9, ground := Go.Ground.phase }, { on := 10, ground := Go.Ground.phase }, { on := 11, ground := Go.Ground.phase }, { on := 12, ground := Go.Ground.phase }], guard := none }) rfl (fun K hK => ?_) AllReadyH.nil
            go_simp
            refine hK.out _ _ (HS.out _ (bV6.trans (hb9.mono bV6.size))) (fun hHeld => ?_)
            clear hK K
            try simp only [Act.put, List.setIfInBounds_toArray, List.set_cons_zero, List.set_cons_succ]
            refine wpAnyH_done (by kernel_rfl) ?_ _
            have HO9 := Lib.hid ho9
            have HB9 := Lib.hid hb10
            clear ho9 hb10 hb9
            go_wp2
            go_roundw
            case rel => exact ⟨j + 1, by omega, by go_num, Lib.hid ⟨by rw [HT.out]; exact Kd.Q_of_R HO9.out, HB9.out⟩⟩
            case measure => simp [intOf]; omega
        · go_simp
          refine (past_four.calls x.f2 (fourL x.f2) _ rfl).mono ?_
          rintro e V7 ⟨v7, rfl, ho7, hs7⟩
          obtain ⟨g7, c7, rfl, _, _⟩ := RB_some ho7 (n := 4) rfl (by decide)
          have bV7 : Below (wr.alloc (.cells #[.int .i64 x.f0, .int .i64 x.f1, .int .i64 x.f2] 60)).heap.size (wr.alloc (.cells #[.int .i64 x.f0, .int .i64 x.f1, .int .i64 x.f2] 60)) V7 := bV4.trans (hs7.mono bV4.size)
          go_wp2_with fail
          refine hK.out _ _ (HS.out _ bV7) (fun hHeld => ?_)
          clear hK K
          try simp only [Act.put, List.setIfInBounds_toArray, List.set_cons_zero, List.set_cons_succ]
          have hoA7 := Kd.R_below ho4 hs7
          refine wpAnyH_ready (rs := [4]) (by kernel_rfl) (by simp) ?_
          refine AllReadyH.cons (o := { dst := some 27, op := Go.Op.buildSlice 23 1 #[(0, Go.Operand.tmp 26)], type := 23, pos := "past.go:213", after := #[{ on := 3, ground := Go.Ground.data }], guard := none }) rfl (fun K hK => ?_) (AllReadyH.nil)
          · go_simp
            have bV8 : Below (wr.alloc (.cells #[.int .i64 x.f0, .int .i64 x.f1, .int .i64 x.f2] 60)).heap.size (wr.alloc (.cells #[.int .i64 x.f0, .int .i64 x.f1, .int .i64 x.f2] 60)) (V7.alloc (.cells #[.int .u8 (x.f0 % 256)] 5)) := below_alloc bV7 _
            refine hK.out _ _ (HS.out _ bV8) (fun hHeld => ?_)
            clear hK K
            try simp only [Act.put, List.setIfInBounds_toArray, List.set_cons_zero, List.set_cons_succ]
            have hG8 := blk_new V7 (.cells #[.int .u8 (x.f0 % 256)] 5)
            have hs8 : Below V7.heap.size V7 (V7.alloc (.cells #[.int .u8 (x.f0 % 256)] 5)) := below_alloc (Below.refl _ _) _
            obtain ⟨V8, hV8⟩ : ∃ V, V = V7.alloc (.cells #[.int .u8 (x.f0 % 256)] 5) := ⟨_, rfl⟩
            rw [← hV8] at hHeld bV8 hG8 hs8 ⊢
            clear hV8
            have hoA8 := Kd.R_below hoA7 hs8
            have hoB8 := Kd.R_below ho7 hs8
            refine wpAnyH_ready (rs := [11]) (by kernel_rfl) (by simp) ?_
            refine AllReadyH.cons (o := { dst := some 34, op := Go.Op.buildSlice 83 4 #[(0, Go.Operand.tmp 23), (1, Go.Operand.tmp 27), (2, Go.Operand.tmp 30), (3, Go.Operand.tmp 33)], type := 83, pos := "past.go:213", after := #[{ on := 0, ground := Go.Ground.data }, { on := 4, ground := Go.Ground.data }, { on := 7, ground := Go.Ground.data }, { on := 10, ground := Go.Ground.data }], guard := none }) rfl (fun K hK => ?_) AllReadyH.nil
            go_simp
            refine hK.out _ _ (HS.out _ (below_alloc bV8 _)) (fun hHeld => ?_)
            clear hK K
            try simp only [Act.put, List.setIfInBounds_toArray, List.set_cons_zero, List.set_cons_succ]
            refine wpAnyH_ready (rs := [12]) (by kernel_rfl) (by simp) ?_
            refine AllReadyH.cons (o := { dst := some 35, op := Go.Op.call { callee := Go.Callee.value (Go.Operand.func 48), args := #[Go.Operand.tmp 34], argTypes := #[83] }, type := 23, pos := "past.go:213", after := #[{ on := 11, ground := Go.Ground.data }, { on := 10, ground := Go.Ground.chain }], guard := none }) rfl (fun K hK => ?_) AllReadyH.nil
            go_simp
            refine (concat4 w.heap.size _ _ _ cv Av ol x _ _ V8 w (HBW.out _ bV8) (HOUT.out _ bV8).1 (HOUT.out _ bV8).2 hG8 hoA8 hoB8 hlen).mono ?_
            rintro e w9 ⟨v9, rfl, ho9, hb9, hb10⟩
            go_wp2_with fail
            refine hK.out _ _ (HS.out _ (bV8.trans (hb9.mono bV8.size))) (fun hHeld => ?_)
            clear hK K
            try simp only [Act.put, List.setIfInBounds_toArray, List.set_cons_zero, List.set_cons_succ]
            refine wpAnyH_ready (rs := [13]) (by kernel_rfl) (by simp) ?_
            refine AllReadyH.cons (o := { dst := some 5, op := Go.Op.assign (Go.Operand.tmp 35), type := 23, pos := "past.go:213", after := #[{ on := 12, ground := Go.Ground.data }, { on := 12, ground := Go.Ground.chain }, { on := 0, ground := Go.Ground.phase }, { on := 1, ground := Go.Ground.phase }, { on := 2, ground := Go.Ground.phase }, { on := 3, ground := Go.Ground.phase }, { on := 4, ground := Go.Ground.phase }, { on := 5, ground := Go.Ground.phase }, { on := 6, ground := Go.Ground.phase }, { on := 7, ground := Go.Ground.phase }, { on := 8, ground := Go.Ground.phase }, { on := 9, ground := Go.Ground.phase }, { on := 10, ground := Go.Ground.phase }, { on := 11, ground := Go.Ground.phase }, { on := 12, ground := Go.Ground.phase }], guard := none }) rfl (fun K hK => ?_) AllReadyH.nil
            go_simp
            refine hK.out _ _ (HS.out _ (bV8.trans (hb9.mono bV8.size))) (fun hHeld => ?_)
            clear hK K
            try simp only [Act.put, List.setIfInBounds_toArray, List.set_cons_zero, List.set_cons_succ]
            refine wpAnyH_done (by kernel_rfl) ?_ _
            have HO9 := Lib.hid ho9
            have HB9 := Lib.hid hb10
            clear ho9 hb10 hb9
            go_wp2
            go_roundw
            case rel => exact ⟨j + 1, by omega, by go_num, Lib.hid ⟨by rw [HT.out]; exact Kd.Q_of_R HO9.out, HB9.out⟩⟩
            case measure => simp [intOf]; omega
    · obtain rfl : j = N := by omega
      have HE := Lib.hid (show (fourL (j : Int)).drop 2 ++ (l0.take j).flatMap oneB = bytesL l0 by rw [HN.out, List.take_length]; rfl)
      go_wp2
      go_ret2
      exact ⟨_, rfl, by rw [← HE.out]; exact HI.out.1, HI.out.2⟩
end Go.Proofs.YtdelfhahbngcfaaX.P07
end
section
namespace Go.Proofs.Ytdelfhahbngcfaa
open Go
set_option linter.unusedVariables false
set_option linter.unusedSimpArgs false
def plainOps (ops : Array Oper) : Bool := ops.all fun o => match o.op with | .defer _ => false | _ => true
theorem plain_at {ops : Array Oper} (h : plainOps ops = true) {i : Nat} {o : Oper} (hi : ops[i]? = some o) (c : Go.Call) : o.op ≠ .defer c := by
  intro e
  have hlt : i < ops.size := (Array.getElem?_eq_some_iff.1 hi).1
  have := (Array.all_eq_true.1 h) i hlt
  rw [Array.getElem?_eq_getElem hlt] at hi
  cases hi
  rw [e] at this
  cases this
section
variable {P : Program} {ops : Array Oper} {Q : Exit → Act → World → Prop} {md : Region.Mode} {S : World → Prop}
theorem wpOp_round {l n i : Nat} {K : Act → World → Prop} {a : Act} {w : World} (hp : plainOps ops = true) (hQ : ¬ LetsOut Q) (h : wpOp P ops Q i K a w) : wpOpIn (Fence.wide.inRound l) n P ops Q i K a w := by
  unfold wpOp at h
  unfold wpOpIn
  cases ho : ops[i]? with
  | none => simpa [ho] using h
  | some o =>
    simp only [ho] at h ⊢
    split
    · rename_i hw
      simp only [hw, if_true] at h
      rcases h with h | ⟨_, h⟩
      case inr => exact absurd h hQ
      unfold Oper.wpIn
      refine ⟨fun _ _ => trivial, ?_⟩
      have hs : o.semAt (Fence.wide.inRound l).round a.eval = execOp a.eval o := by
        unfold Oper.semAt
        split
        · rename_i c _ hc
          exact absurd hc (plain_at hp ho c)
        · rfl
      rw [hs]
      unfold Oper.wp at h
      generalize (execOp a.eval o).run P w = r at *
      cases r with
      | ok x w' =>
        cases x <;> simp only [Oper.upon, Oper.uponIn] at h ⊢ <;> first
          | exact h
          | exact ⟨(fun h => by cases h), CallsIn.inRound l (callsIn_wide.2 h)⟩
          | (refine ⟨(fun h => by cases h), fun c cs hroom => ?_⟩
             obtain ⟨v, w2, r, s⟩ := h c cs
             exact ⟨v, w2, r, stepsIn_wide.2 s⟩)
      | halt x w' => cases x <;> simp only [Oper.upon, Oper.uponIn] at h ⊢ <;> exact h
    · rename_i hw
      simp only [hw] at h
      exact ⟨fun _ _ => trivial, h⟩
theorem wpAny_round {l n : Nat} (hp : plainOps ops = true) (hQ : ¬ LetsOut Q) : ∀ (fuel : Nat) (listed : Array Bool) (a : Act) (w : World), wpAny P md ops Q fuel listed a w → wpAnyIn (Fence.wide.inRound l) n P md ops Q fuel listed a w
  | 0, _, _, _, h => h
  | fuel + 1, _, _, _, h => ⟨h.1, fun i hi => wpOpIn_mono (fun a w hh => wpAny_round hp hQ fuel _ a w hh) (wpOp_round hp hQ (h.2 i hi))⟩
theorem wpIn_region_round {l n id : Nat} {a : Act} {w : World} (hm : P.follows .mixedOrders = true) (hp : plainOps ops = true) (hQ : ¬ LetsOut Q)
    (h : wpAnyH P .any ops Q S ops.size (Array.replicate ops.size false) a w.drew) : (Code.region id ops true).wpIn (Fence.wide.inRound l) n P Q a w :=
  wpIn_region_any hm (wpAny_round hp hQ _ _ _ _ (wpAny_of_held _ _ _ _ h))
end
end Go.Proofs.Ytdelfhahbngcfaa
end
section
namespace Go.Proofs.YtdelfhahbngcfaaX.P07
open Go.RowKit Go.Proofs.YtdelfhahbngcfaaW.PrintWords
class GrowsTo (w w1 : World) : Prop where
  b : Below w.heap.size w w1
section
variable {w w1 : World}
instance : GrowsTo w w := ⟨Below.refl _ _⟩
instance [g : GrowsTo w w1] (o : Obj) : GrowsTo w (w1.alloc o) := ⟨below_alloc g.b o⟩
instance [g : GrowsTo w w1] (n : Nat) : GrowsTo w (w1.drewN n) := ⟨pw_below_drewN g.b n⟩
instance [g : GrowsTo w w1] : GrowsTo w w1.drew := ⟨below_drew g.b⟩
theorem lf {α : Type} {d : Kd α} {e base : Nat} {ok : Nat → Prop} {v : Value} {xs : List α} [g : GrowsTo w w1] (h : d.R e w base ok v xs) : d.R e w1 base ok v xs := Kd.R_below h g.b
end
section
open Go.RowKit Go.Proofs.YtdelfhahbngcfaaW.PrintWords Go.Proofs.YtdelfhahbngcfaaW.PrintLast Go.Proofs.YtdelfhahbngcfaaW.PrintMore
set_option linter.unusedSimpArgs false
theorem eqA32 (d : Nat) (w : World) (x0 y0 : Int) (x1 y1 : Int) :
    (Op.equalIn (d + 2) 32 (.agg #[.int .i64 x0, .int .i64 x1]) (.agg #[.int .i64 y0, .int .i64 y1])).run Try.prog w = .ok (x0 == y0 && (x1 == y1)) w := by
  refine eqA_of Try.underlying32 (by kernel_rfl) ?_
  refine eqf_cons (by rfl) (by go_simp; rfl) (by go_simp; rfl) (by go_simp) ?_
  exact eqf_last (by rfl) (by go_simp; rfl) (by go_simp; rfl) (by go_simp)
end
end Go.Proofs.YtdelfhahbngcfaaX.P07
end
section
namespace Go.Proofs.YtdelfhahbngcfaaX.P07
open Go.ChangeShapes Go.WideShapes Go.RowKit Go.Deep Go.Proofs.YtdelfhahbngcfaaW.PrintWords Go.Proofs.YtdelfhahbngcfaaW.PrintLast Go.Proofs.YtdelfhahbngcfaaW.PrintMore
set_option linter.unusedVariables false
set_option linter.unusedSimpArgs false
section
variable {H : Type} {enc : TypeId × Value → H} {w : World} {base : Nat} {spare : Nat → Bool} {held : Bool}
theorem C_of_trod {α : Type} (d : Kd α) {P : Program} {t e : TypeId} (ht : P.underlying t = some (.slice e)) (hc : P.cellsOf e = d.sz) (one : ∀ fuel cs x, DataW.trod enc P w base spare held fuel e cs = some x → ∃ y, d.K w y cs)
    {fuel : Nat} {v : Value} {x : DataW H × List MemPlace} (h : DataW.trod enc P w base spare held fuel t [v] = some x) : ∃ A c xs, v = .slice A xs.length c ∧ Kd.C d w A xs.length xs ∧ xs.length ≤ c := by
  rcases open_slice ht h with ⟨hcs, _⟩ | ⟨a, len, cap, m, n, D, Pl, hcs, hb, hl, hm, hmm, hx, hi⟩
  · injection hcs with hcs
    exact ⟨none, 0, [], hcs, ⟨rfl, by simp, fun h => by simp at h⟩, Nat.le_refl _⟩
  · injection hcs with hcs
    have hml : len ≤ m := by rw [hmm]; split <;> omega
    rw [hc] at hi
    have each : ∀ i, i < len → ∃ y, ∃ c, c.length = d.sz ∧ d.K w y c ∧ ∀ j u, c[j]? = some u → w.cell? (a.add (i * d.sz + j)) = some u := by
      intro i hil
      obtain ⟨cs', h1, h2⟩ := hi i (by omega)
      obtain ⟨_, hlen, hcell⟩ := World.cells?_some h1
      obtain ⟨y, hy⟩ := one _ _ _ h2
      refine ⟨y, cs', d.K_len hy, hy, fun j u hu => ?_⟩
      have hj : j < cs'.length := (List.getElem?_eq_some_iff.1 hu).1
      rw [d.K_len hy] at hj
      have h4 := hcell j hj
      rw [Deep.add_add] at h4
      rw [h4]; exact hu
    refine ⟨some a, cap, (List.range len).attach.map fun i => Classical.choose (each i.1 (by simpa using i.2)), by simpa using hcs, ?_, by simpa using hl⟩
    refine ⟨rfl, by simp only [List.length_map, List.length_attach, List.length_range]; simp only [maxLen] at hm; omega, fun h0 => ⟨a, rfl, fun j p hp => ?_⟩⟩
    have hj : j < len := by have := (List.getElem?_eq_some_iff.1 hp).1; simpa using this
    have hp' : p = Classical.choose (each j hj) := by
      rw [List.getElem?_eq_getElem (by simpa using hj)] at hp
      have := Option.some.inj hp
      rw [← this]
      simp
    rw [hp']
    exact Classical.choose_spec (each j hj)
set_option maxRecDepth 100000 in
theorem one60t (fuel : Nat) (cs : List Value) (x : DataW H × List MemPlace) (h : DataW.trod enc Try.prog w base spare held fuel 60 cs = some x) : ∃ y, k60.K w y cs := by
  obtain ⟨xs, n, _, _, hlen, hxl, hf⟩ := DataW.trod_struct Try.underlying60 h
  have hc : Try.prog.cellsOf 60 = 3 := by kernel_rfl
  rw [hc] at hlen
  match cs, hlen with
  | [c0, c1, c2], _ =>
    match xs, hxl with
    | [y0, y1, y2], _ =>
      have h3 : Try.prog.cellsOf 3 = 1 := by kernel_rfl
      have k0 := hf 0 _ rfl
      have k1 := hf 1 _ rfl
      have k2 := hf 2 _ rfl
      simp only [h3, List.drop_zero, List.drop_succ_cons, List.take_succ_cons, List.take_zero, List.getElem?_cons_zero, List.getElem?_cons_succ] at k0 k1 k2
      obtain ⟨n0, e0, _, _⟩ := DataW.trod_int Try.underlying3 k0
      obtain ⟨n1, e1, _, _⟩ := DataW.trod_int Try.underlying3 k1
      obtain ⟨n2, e2, _, _⟩ := DataW.trod_int Try.underlying3 k2
      injection e0 with e0
      injection e1 with e1
      injection e2 with e2
      rw [e0, e1, e2]
      exact ⟨⟨n0, n1, n2⟩, k60_mk w ⟨n0, n1, n2⟩⟩
set_option maxRecDepth 100000 in
theorem one41 (fuel : Nat) (cs : List Value) (x : DataW H × List MemPlace) (h : DataW.trod enc Try.prog w base spare held fuel 41 cs = some x) : ∃ y, k41.K w y cs := by
  obtain ⟨xs, n, _, _, hlen, hxl, hf⟩ := DataW.trod_struct Try.underlying41 h
  have hc : Try.prog.cellsOf 41 = 2 := by kernel_rfl
  rw [hc] at hlen
  match cs, hlen with
  | [c0, c1], _ =>
    match xs, hxl with
    | [y0, y1], _ =>
      have h3 : Try.prog.cellsOf 3 = 1 := by kernel_rfl
      have k0 := hf 0 _ rfl
      have k1 := hf 1 _ rfl
      simp only [h3, List.drop_zero, List.drop_succ_cons, List.take_succ_cons, List.take_zero, List.getElem?_cons_zero, List.getElem?_cons_succ] at k0 k1
      obtain ⟨n0, e0, _, _⟩ := DataW.trod_int Try.underlying3 k0
      obtain ⟨n1, e1, _, _⟩ := DataW.trod_int Try.underlying3 k1
      injection e0 with e0
      injection e1 with e1
      rw [e0, e1]
      exact ⟨⟨n0, n1⟩, k41_mk w ⟨n0, n1⟩⟩
end
end Go.Proofs.YtdelfhahbngcfaaX.P07
end
