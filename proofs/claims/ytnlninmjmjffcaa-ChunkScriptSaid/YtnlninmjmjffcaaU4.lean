/- Words for two boxes side by side, of the code and of the reference, that hold the same. No conditions. -/
import Derived.Test.YtnlninmjmjffcaaU2
namespace Go.Proofs.Ytnlninmjmjffcaa
open Go.RowKit
set_option linter.unusedVariables false
set_option linter.unusedSimpArgs false

def Apart (A A' : Option Addr) : Prop := ∀ a b, A = some a → A' = some b → a.block ≠ b.block
def Within (P : Nat → Prop) (A : Option Addr) : Prop := ∀ a, A = some a → P a.block
/-- both boxes hold the same; their bytes lie in blocks that P allows -/
def TwoS (w : World) (P : Nat → Prop) (Bx Bw : Nat) (q it sz : Int) (x : List UInt8) : Prop :=
  ∃ A n c A' n' c', BoxC w Bx q it sz A n c ∧ BoxR w Bw q it sz A' n' c' ∧ Held w 0 A n c x ∧ Held w 0 A' n' c' x ∧ Within P A ∧ Within P A' ∧ Apart A A'
theorem twoS_new {w : World} {Bx Bw : Nat} {q : Int} (h : BoxC w Bx q 0 0 none 0 0) (h' : BoxR w Bw q 0 0 none 0 0) (P : Nat → Prop) : TwoS w P Bx Bw q 0 0 [] :=
  ⟨none, 0, 0, none, 0, 0, h, h', held_nil _ _, held_nil _ _, (fun a h => by cases h), (fun a h => by cases h), fun a b h => by cases h⟩
theorem twoS_ch {w w' : World} {P S : Nat → Prop} {Bx Bw : Nat} {q it sz : Int} {x : List UInt8} (h : TwoS w P Bx Bw q it sz x) (hc : Ch S w w') (hx : ¬ S Bx) (hw : ¬ S Bw) (hP : ∀ j, P j → j < w.heap.size → ¬ S j) : TwoS w' P Bx Bw q it sz x := by
  obtain ⟨A, n, c, A', n', c', h1, h2, h3, h4, h5, h6, h7⟩ := h
  exact ⟨A, n, c, A', n', c', blk_ch h1 hc hx, blk_ch h2 hc hw, held_ch h3 hc (fun a ha => hP _ (h5 a ha) (held_lt h3 a ha).2), held_ch h4 hc (fun a ha => hP _ (h6 a ha) (held_lt h4 a ha).2), h5, h6, h7⟩
theorem twoS_below {w w' : World} {P : Nat → Prop} {Bx Bw : Nat} {q it sz : Int} {x : List UInt8} (h : TwoS w P Bx Bw q it sz x) (hc : Below w.heap.size w w') : TwoS w' P Bx Bw q it sz x := twoS_ch h (Ch.of_below hc No) id id (fun _ _ _ => id)
theorem twoS_weak {w : World} {P P' : Nat → Prop} {Bx Bw : Nat} {q it sz : Int} {x : List UInt8} (h : TwoS w P Bx Bw q it sz x) (hP : ∀ j, j < w.heap.size → P j → P' j) : TwoS w P' Bx Bw q it sz x := by
  obtain ⟨A, n, c, A', n', c', h1, h2, h3, h4, h5, h6, h7⟩ := h
  exact ⟨A, n, c, A', n', c', h1, h2, h3, h4, fun a ha => hP _ (held_lt h3 a ha).2 (h5 a ha), fun a ha => hP _ (held_lt h4 a ha).2 (h6 a ha), h7⟩
theorem twoS_drop {w : World} {P : Nat → Prop} {Bx Bw : Nat} {q it sz : Int} {x : List UInt8} (h : TwoS w P Bx Bw q it sz x) (hne : Bx ≠ Bw) : Calls Try.prog 39 #[.pointer (some ⟨Bx, 0, none⟩)] w fun e w' => e = .returned (.tuple #[]) ∧ BoxC w' Bx q 0 0 none 0 0 ∧ (∃ A' n' c', BoxR w' Bw q it sz A' n' c') ∧ Ch (fun k => k = Bx) w w' := by
  obtain ⟨A, n, c, A', n', c', h1, h2, _⟩ := h
  exact (drop_any h1).mono fun e w' ⟨he, hb, hc⟩ => ⟨he, hb, ⟨_, _, _, blk_ch h2 hc (fun e => hne e.symm)⟩, hc⟩
theorem twoS_item {w : World} {P : Nat → Prop} {Bx Bw : Nat} {q it sz : Int} {x : List UInt8} (h : TwoS w P Bx Bw q it sz x) : Calls Try.prog 46 #[.pointer (some ⟨Bx, 0, none⟩)] w fun e w' => e = .returned (.int .i64 it) ∧ w = w' := by
  obtain ⟨A, n, c, A', n', c', h1, _⟩ := h; exact item_any h1
theorem twoS_used {w : World} {P : Nat → Prop} {Bx Bw : Nat} {q it sz : Int} {x : List UInt8} (h : TwoS w P Bx Bw q it sz x) : Calls Try.prog 47 #[.pointer (some ⟨Bx, 0, none⟩)] w fun e w' => e = .returned (.int .i64 (x.length : Int)) ∧ w = w' := by
  obtain ⟨A, n, c, A', n', c', h1, _, h3, _⟩ := h
  rw [held_len h3]
  exact used_any h1
theorem twoS_cells {w : World} {P : Nat → Prop} {Bx Bw : Nat} {q it sz : Int} {x : List UInt8} (h : TwoS w P Bx Bw q it sz x) : ∃ A' c', w.cell? ⟨Bw, 1, none⟩ = some (.int .i64 it) ∧ w.cell? ⟨Bw, 3, none⟩ = some (.slice A' x.length c') ∧ x.length ≤ 9223372036854775807 := by
  obtain ⟨A, n, c, A', n', c', _, h2, _, h4, _⟩ := h
  have hs := (held_rd h4).small
  rw [← held_len h4] at h2 hs
  exact ⟨A', c', blk_cell h2 1 _ rfl, blk_cell h2 3 _ rfl, hs⟩

/-- the code's box has taken the message already, the reference's has not -/
def HalfS (w : World) (P : Nat → Prop) (Bx Bw : Nat) (q it sz : Int) (x : List UInt8) (s : List UInt8 × Int × Int × Int × List UInt8) (R : Option Addr) (m d : Nat) : Prop :=
  ∃ A n c A' n' c', BoxC w Bx q s.2.2.1 s.2.2.2.1 A n c ∧ BoxR w Bw q it sz A' n' c' ∧ Held w 0 A n c s.2.2.2.2 ∧ Held w 0 A' n' c' x ∧ Held w 0 R m d s.1 ∧ Within P A ∧ Within P A' ∧ Within P R ∧ Apart A A' ∧ Apart R A' ∧ (R = none ∨ A = none)
def Half1 (w : World) (P : Nat → Prop) (Bx Bw : Nat) (q it sz : Int) (x : List UInt8) (s : List UInt8 × Int × Int × Int × List UInt8) (e : Ending) (w' : World) : Prop :=
  ∃ (R : Option Addr) (m d : Nat), e = .returned (.tuple #[.slice R m d, .int .i64 s.2.1]) ∧ HalfS w' (fun j => P j ∨ w.heap.size ≤ j) Bx Bw q it sz x s R m d ∧ Ch (fun j => j = Bx ∨ P j) w w'
theorem twoPut1 {w : World} {P : Nat → Prop} {Bx Bw : Nat} {q it sz : Int} {x : List UInt8} (h : TwoS w P Bx Bw q it sz x) (hP : ∀ j, P j → j ≠ Bx ∧ j ≠ Bw) (hne : Bx ≠ Bw)
    (k i s a : Int) (M : Option Addr) (m d : Nat) (l : List UInt8) (hl : Rd w M m d 1 (u8s l)) (hM : ∀ b, M = some b → 0 < m → b.block ≠ Bx) :
    Calls Try.prog 42 #[.pointer (some ⟨Bx, 0, none⟩), .agg #[.int .i64 k, .int .i64 i, .int .i64 s, .int .i64 a, .slice M m d]] w (Half1 w P Bx Bw q it sz x (putS q it sz x k i s a l)) := by
  obtain ⟨A, n, c, A', n', c', h1, h2, h3, h4, h5, h6, h7⟩ := h
  have hput : Calls Try.prog 42 #[.pointer (some ⟨Bx, 0, none⟩), .agg #[.int .i64 k, .int .i64 i, .int .i64 s, .int .i64 a, .slice M m d]] w (PutQ w 0 Bx q it sz A x k i s a l) := by
    by_cases hok : okM k i s a m ∧ k = 1
    · exact put_any h1 (Nat.zero_le _) h3 (fun b hb => (hP _ (h5 b hb)).1) k i s a M m d l hl (fun b hb => hM b hb (by have := hok.1; unfold okM at this; omega))
    · exact put_bad h1 h3 k i s a M m d l hl.small (by have := hl.len; simpa using this) hok
  refine hput.mono ?_
  rintro e w' ⟨R, A1, m', d', n1, c1, rfl, hb, hh, hr, hc, ha', hR', hor⟩
  have hlt' := held_lt h4
  have hSw : ¬ (Bw = Bx ∨ ∃ b, A = some b ∧ Bw = b.block) := fun h => by
    rcases h with h | ⟨b, hb, h⟩
    · exact hne h.symm
    · exact (hP _ (h5 b hb)).2 h.symm
  have hSA : ∀ a, A' = some a → ¬ (a.block = Bx ∨ ∃ b, A = some b ∧ a.block = b.block) := fun a ha h => by
    rcases h with h | ⟨b, hb, h⟩
    · exact (hP _ (h6 a ha)).1 h
    · exact h7 b a hb ha h.symm
  refine ⟨R, m', d', rfl, ⟨A1, n1, c1, A', n', c', hb, blk_ch h2 hc hSw, hh, held_ch h4 hc hSA, hr, ?_, fun a ha => .inl (h6 a ha), ?_, ?_, ?_, hor⟩, hc.mono (fun i _ hi => hi.imp id fun ⟨b, hb, hj⟩ => by rw [hj]; exact h5 b hb)⟩
  · exact fun b hb => (ha' b hb).imp (h5 b) id
  · exact fun b hb => (hR' b hb).imp (h5 b) id
  · intro a b ha hb'
    rcases ha' a ha with h | h
    · exact h7 a b h hb'
    · have := (hlt' b hb').2; omega
  · intro a b ha hb'
    rcases hR' a ha with h | h
    · exact h7 a b h hb'
    · have := (hlt' b hb').2; omega
def Half2 (w : World) (P : Nat → Prop) (Bx Bw : Nat) (q : Int) (s : List UInt8 × Int × Int × Int × List UInt8) (R : Option Addr) (m d : Nat) (e : Ending) (w' : World) : Prop :=
  ∃ (R2 : Option Addr) (m2 d2 : Nat), e = .returned (.tuple #[.slice R2 m2 d2, .int .i64 s.2.1]) ∧ TwoS w' (fun j => P j ∨ w.heap.size ≤ j) Bx Bw q s.2.2.1 s.2.2.2.1 s.2.2.2.2 ∧ Rd w' R2 m2 d2 1 (u8s s.1) ∧ Held w' 0 R m d s.1 ∧ Within P R ∧ Ch (fun j => j = Bw) w w' ∧
    ∀ w'', Ch (fun j => ∃ b, R = some b ∧ j = b.block) w' w'' → TwoS w'' (fun j => P j ∨ w.heap.size ≤ j) Bx Bw q s.2.2.1 s.2.2.2.1 s.2.2.2.2
theorem twoPut2 {w : World} {P : Nat → Prop} {Bx Bw : Nat} {q it sz : Int} {x : List UInt8} {R : Option Addr} {rm rd : Nat} (hP : ∀ j, P j → j ≠ Bx ∧ j ≠ Bw) (hne : Bx ≠ Bw)
    (k i s a : Int) (M : Option Addr) (m d : Nat) (l : List UInt8) (h : HalfS w P Bx Bw q it sz x (putS q it sz x k i s a l) R rm rd) (hl : Rd w M m d 1 (u8s l)) (hM : ∀ b, M = some b → 0 < m → b.block ≠ Bw) :
    Calls Try.prog 43 #[.pointer (some ⟨Bw, 0, none⟩), .agg #[.int .i64 k, .int .i64 i, .int .i64 s, .int .i64 a, .slice M m d]] w (Half2 w P Bx Bw q (putS q it sz x k i s a l) R rm rd) := by
  obtain ⟨A, n, c, A', n', c', h1, h2, h3, h4, hr, h5, h6, h8, h7, h9, hor⟩ := h
  have hput : Calls Try.prog 43 #[.pointer (some ⟨Bw, 0, none⟩), .agg #[.int .i64 k, .int .i64 i, .int .i64 s, .int .i64 a, .slice M m d]] w (PutRQ w 0 Bw q it sz A' x k i s a l) := by
    by_cases hok : okM k i s a m ∧ k = 1
    · exact putr_any h2 (Nat.zero_le _) h4 (fun b hb => (hP _ (h6 b hb)).2) k i s a M m d l hl (fun b hb => hM b hb (by have := hok.1; unfold okM at this; omega))
    · exact putr_bad h2 h4 k i s a M m d l hl.small (by have := hl.len; simpa using this) hok
  refine hput.mono ?_
  rintro e w' ⟨R2, A1, m', d', n1, c1, rfl, hb, hh, hr2, hc, ha', _, _⟩
  have k1 : BoxC w' Bx q (putS q it sz x k i s a l).2.2.1 (putS q it sz x k i s a l).2.2.2.1 A n c := blk_ch h1 hc hne
  have k3 := held_ch h3 hc (fun a ha => (hP _ (h5 a ha)).2)
  have kr := held_ch hr hc (fun a ha => (hP _ (h8 a ha)).2)
  have k5 : Within (fun j => P j ∨ w.heap.size ≤ j) A := fun a ha => .inl (h5 a ha)
  have k6 : Within (fun j => P j ∨ w.heap.size ≤ j) A1 := fun a ha => (ha' a ha).imp (h6 a) id
  have k7 : Apart A A1 := fun a b ha hb' => by
    rcases ha' b hb' with h | h
    · exact h7 a b ha h
    · have := (held_lt h3 a ha).2; omega
  refine ⟨R2, m', d', rfl, ⟨A, n, c, A1, n1, c1, k1, hb, k3, hh, k5, k6, k7⟩, held_rd hr2, kr, h8, hc, fun w'' hcc => ?_⟩
  refine ⟨A, n, c, A1, n1, c1, blk_ch k1 hcc (fun ⟨b, hb, e⟩ => (hP _ (h8 b hb)).1 e.symm), blk_ch hb hcc (fun ⟨b, hb, e⟩ => (hP _ (h8 b hb)).2 e.symm), held_ch k3 hcc (fun a ha ⟨b, hb, e⟩ => ?_), held_ch hh hcc (fun a ha ⟨b, hb, e⟩ => ?_), k5, k6, k7⟩
  · rcases hor with h | h
    · rw [h] at hb; cases hb
    · rw [h] at ha; cases ha
  · rcases ha' a ha with h | h
    · exact h9 b a hb h e.symm
    · have := (held_lt hr b hb).2; omega

end Go.Proofs.Ytnlninmjmjffcaa
