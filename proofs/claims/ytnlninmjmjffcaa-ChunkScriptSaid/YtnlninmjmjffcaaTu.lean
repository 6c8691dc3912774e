/- Words for a box and what it holds; what Put answers to the pieces of an item, one behind the other. No conditions beyond those named. -/
import Derived.Test.YtnlninmjmjffcaaTt
namespace Go.Proofs.Ytnlninmjmjffcaa
open Go.RowKit
set_option linter.unusedVariables false
set_option linter.unusedSimpArgs false

theorem held_base {w : World} {base mid : Nat} {A : Option Addr} {n c : Nat} {x : List UInt8} (h : Held w base A n c x) (hb : ∀ b, A = some b → mid ≤ b.block) : Held w mid A n c x := by
  rcases h with h | ⟨g, rfl, h1, h2, h3⟩
  · exact .inl h
  · exact .inr ⟨g, rfl, h1, h2, hb _ rfl⟩
theorem held_lt {w : World} {base : Nat} {A : Option Addr} {n c : Nat} {x : List UInt8} (h : Held w base A n c x) : ∀ b, A = some b → base ≤ b.block ∧ b.block < w.heap.size := by
  rcases h with ⟨rfl, _⟩ | ⟨g, rfl, h1, h2, h3⟩
  · intro b hb; cases hb
  · intro b hb; cases hb; exact ⟨h3, byt_lt h1⟩
/-- block B is a box made, and its bytes lie in blocks from mid on -/
def BoxS (w : World) (mid B : Nat) (q it sz : Int) (x : List UInt8) : Prop := ∃ A n c, BoxC w B q it sz A n c ∧ Held w mid A n c x ∧ ∀ b, A = some b → b.block ≠ B
theorem boxS_ch {S : Nat → Prop} {w w' : World} {mid B : Nat} {q it sz : Int} {x : List UInt8} (h : BoxS w mid B q it sz x) (hc : Ch S w w') (hB : ¬ S B) (hS : ∀ j, mid ≤ j → j < w.heap.size → ¬ S j) : BoxS w' mid B q it sz x := by
  obtain ⟨A, n, c, h1, h2, h3⟩ := h
  exact ⟨A, n, c, blk_ch h1 hc hB, held_ch h2 hc (fun a ha => hS _ (held_lt h2 a ha).1 (held_lt h2 a ha).2), h3⟩
theorem boxS_below {w w' : World} {mid B : Nat} {q it sz : Int} {x : List UInt8} (h : BoxS w mid B q it sz x) (hc : Below w.heap.size w w') : BoxS w' mid B q it sz x := boxS_ch h (Ch.of_below hc No) id (fun _ _ _ => id)
theorem boxS_lt {w : World} {mid B : Nat} {q it sz : Int} {x : List UInt8} (h : BoxS w mid B q it sz x) : B < w.heap.size := by obtain ⟨A, n, c, h1, _⟩ := h; exact blk_lt h1
theorem boxS_new {w : World} {B : Nat} {q : Int} (h : BoxC w B q 0 0 none 0 0) (mid : Nat) : BoxS w mid B q 0 0 [] := ⟨none, 0, 0, h, held_nil _ _, fun b hb => by cases hb⟩
def BoxT (w : World) (mid B : Nat) (q it sz : Int) (x : List UInt8) : Prop := ∃ A n c, BoxR w B q it sz A n c ∧ Held w mid A n c x ∧ ∀ b, A = some b → b.block ≠ B
theorem boxT_ch {S : Nat → Prop} {w w' : World} {mid B : Nat} {q it sz : Int} {x : List UInt8} (h : BoxT w mid B q it sz x) (hc : Ch S w w') (hB : ¬ S B) (hS : ∀ j, mid ≤ j → j < w.heap.size → ¬ S j) : BoxT w' mid B q it sz x := by
  obtain ⟨A, n, c, h1, h2, h3⟩ := h
  exact ⟨A, n, c, blk_ch h1 hc hB, held_ch h2 hc (fun a ha => hS _ (held_lt h2 a ha).1 (held_lt h2 a ha).2), h3⟩
theorem boxT_lt {w : World} {mid B : Nat} {q it sz : Int} {x : List UInt8} (h : BoxT w mid B q it sz x) : B < w.heap.size := by obtain ⟨A, n, c, h1, _⟩ := h; exact blk_lt h1
theorem boxT_new {w : World} {B : Nat} {q : Int} (h : BoxR w B q 0 0 none 0 0) (mid : Nat) : BoxT w mid B q 0 0 [] := ⟨none, 0, 0, h, held_nil _ _, fun b hb => by cases hb⟩

theorem itemS {mid B : Nat} {q it sz : Int} {x : List UInt8} {w : World} (h : BoxS w mid B q it sz x) : Calls Try.prog 46 #[.pointer (some ⟨B, 0, none⟩)] w fun e w' => e = .returned (.int .i64 it) ∧ w = w' := by
  obtain ⟨A, n, c, h1, _⟩ := h; exact item_any h1
theorem usedS {mid B : Nat} {q it sz : Int} {x : List UInt8} {w : World} (h : BoxS w mid B q it sz x) : Calls Try.prog 47 #[.pointer (some ⟨B, 0, none⟩)] w fun e w' => e = .returned (.int .i64 (x.length : Int)) ∧ w = w' := by
  obtain ⟨A, n, c, h1, h2, _⟩ := h
  rw [held_len h2]
  exact used_any h1
theorem dropS {mid B : Nat} {q it sz : Int} {x : List UInt8} {w : World} (h : BoxS w mid B q it sz x) : Calls Try.prog 39 #[.pointer (some ⟨B, 0, none⟩)] w fun e w' => e = .returned (.tuple #[]) ∧ BoxS w' mid B q 0 0 [] ∧ Ch (fun k => k = B) w w' := by
  obtain ⟨A, n, c, h1, _⟩ := h
  exact (drop_any h1).mono fun e w' ⟨he, hb, hc⟩ => ⟨he, boxS_new hb mid, hc⟩
theorem dropT {mid B : Nat} {q it sz : Int} {x : List UInt8} {w : World} (h : BoxT w mid B q it sz x) : Calls Try.prog 40 #[.pointer (some ⟨B, 0, none⟩)] w fun e w' => e = .returned (.tuple #[]) ∧ BoxT w' mid B q 0 0 [] ∧ Ch (fun k => k = B) w w' := by
  obtain ⟨A, n, c, h1, _⟩ := h
  exact (dropr_any h1).mono fun e w' ⟨he, hb, hc⟩ => ⟨he, boxT_new hb mid, hc⟩

def PutB (w : World) (mid B : Nat) (q : Int) (s : List UInt8 × Int × Int × Int × List UInt8) (e : Ending) (w' : World) : Prop :=
  ∃ (R : Option Addr) (m d : Nat), e = .returned (.tuple #[.slice R m d, .int .i64 s.2.1]) ∧ BoxS w' mid B q s.2.2.1 s.2.2.2.1 s.2.2.2.2 ∧ Held w' mid R m d s.1 ∧ Ch (fun j => j = B ∨ mid ≤ j) w w' ∧
    (∀ b, R = some b → b.block ≠ B) ∧ ∀ w'', Ch (fun j => ∃ b, R = some b ∧ j = b.block) w' w'' → BoxS w'' mid B q s.2.2.1 s.2.2.2.1 s.2.2.2.2
theorem putB {mid B : Nat} {q it sz : Int} {x : List UInt8} {w : World} (h : BoxS w mid B q it sz x) (hmid : mid ≤ w.heap.size)
    (k i s a : Int) (M : Option Addr) (m d : Nat) (l : List UInt8) (hl : Rd w M m d 1 (u8s l)) (hM : ∀ b, M = some b → b.block ≠ B) :
    Calls Try.prog 42 #[.pointer (some ⟨B, 0, none⟩), .agg #[.int .i64 k, .int .i64 i, .int .i64 s, .int .i64 a, .slice M m d]] w (PutB w mid B q (putS q it sz x k i s a l)) := by
  obtain ⟨A, n, c, h1, h2, h3⟩ := h
  have hlt := blk_lt h1
  have hA := held_lt h2
  have hx := held_base (mid := min mid B) h2 (fun b hb => by have := hA b hb; omega)
  refine (put_any h1 (Nat.min_le_right _ _) hx h3 k i s a M m d l hl hM).mono ?_
  rintro e w' ⟨R, A', m', d', n', c', rfl, hb, hh, hr, hc, ha', hR', hor⟩
  have kA : ∀ b, A' = some b → mid ≤ b.block ∧ b.block ≠ B := fun b hb => by
    rcases ha' b hb with h | h
    · exact ⟨(hA b h).1, h3 b h⟩
    · exact ⟨by omega, by omega⟩
  have kR : ∀ b, R = some b → mid ≤ b.block ∧ b.block ≠ B := fun b hb => by
    rcases hR' b hb with h | h
    · exact ⟨(hA b h).1, h3 b h⟩
    · exact ⟨by omega, by omega⟩
  have hbx : BoxS w' mid B q (putS q it sz x k i s a l).2.2.1 (putS q it sz x k i s a l).2.2.2.1 (putS q it sz x k i s a l).2.2.2.2 := ⟨A', n', c', hb, held_base hh (fun b hb => (kA b hb).1), fun b hb => (kA b hb).2⟩
  refine ⟨R, m', d', rfl, hbx, held_base hr (fun b hb => (kR b hb).1), hc.mono (fun i _ hi => hi.imp id fun ⟨b, hb, hj⟩ => by rw [hj]; exact (hA b hb).1), fun b hb => (kR b hb).2, fun w'' hcc => ?_⟩
  refine ⟨A', n', c', blk_ch hb hcc (fun ⟨b, hb, e⟩ => (kR b hb).2 e.symm), held_ch (held_base hh (fun b hb => (kA b hb).1)) hcc (fun a ha ⟨b, hb, _⟩ => ?_), fun b hb => (kA b hb).2⟩
  rcases hor with h | h
  · rw [h] at hb; cases hb
  · rw [h] at ha; cases ha
def PutT (w : World) (mid B : Nat) (q : Int) (s : List UInt8 × Int × Int × Int × List UInt8) (e : Ending) (w' : World) : Prop :=
  ∃ (R : Option Addr) (m d : Nat), e = .returned (.tuple #[.slice R m d, .int .i64 s.2.1]) ∧ BoxT w' mid B q s.2.2.1 s.2.2.2.1 s.2.2.2.2 ∧ Held w' mid R m d s.1 ∧ Ch (fun j => j = B) w w'
theorem putT {mid B : Nat} {q it sz : Int} {x : List UInt8} {w : World} (h : BoxT w mid B q it sz x) (hmid : mid ≤ w.heap.size)
    (k i s a : Int) (M : Option Addr) (m d : Nat) (l : List UInt8) (hl : Rd w M m d 1 (u8s l)) (hM : ∀ b, M = some b → b.block ≠ B) :
    Calls Try.prog 43 #[.pointer (some ⟨B, 0, none⟩), .agg #[.int .i64 k, .int .i64 i, .int .i64 s, .int .i64 a, .slice M m d]] w (PutT w mid B q (putS q it sz x k i s a l)) := by
  obtain ⟨A, n, c, h1, h2, h3⟩ := h
  have hlt := blk_lt h1
  have hA := held_lt h2
  have hx := held_base (mid := min mid B) h2 (fun b hb => by have := hA b hb; omega)
  refine (putr_any h1 (Nat.min_le_right _ _) hx h3 k i s a M m d l hl hM).mono ?_
  rintro e w' ⟨R, A', m', d', n', c', rfl, hb, hh, hr, hc, ha', hR', hor⟩
  have kA : ∀ b, A' = some b → mid ≤ b.block ∧ b.block ≠ B := fun b hb => by
    rcases ha' b hb with h | h
    · exact ⟨(hA b h).1, h3 b h⟩
    · exact ⟨by omega, by omega⟩
  have kR : ∀ b, R = some b → mid ≤ b.block ∧ b.block ≠ B := fun b hb => by
    rcases hR' b hb with h | h
    · exact ⟨(hA b h).1, h3 b h⟩
    · exact ⟨by omega, by omega⟩
  exact ⟨R, m', d', rfl, ⟨A', n', c', hb, held_base hh (fun b hb => (kA b hb).1), fun b hb => (kA b hb).2⟩, held_base hr (fun b hb => (kR b hb).1), hc⟩

/-! ### the pieces of an item -/
theorem npc_lt {n k : Nat} (h : k < npc n) : 200 * k < n := by unfold npc at h; omega
theorem okM_piece {item : Int} {n k : Nat} (h1 : 1 ≤ item) (h2 : item ≤ 1099511627776) (h3 : n ≤ 60000) (hk : k < npc n) : okM 1 item n (200 * (k : Int)) (plen n k) := by
  have := npc_lt hk
  unfold okM plen
  omega
theorem piece_take (b : List UInt8) (k : Nat) : b.take (200 * k) ++ piece b k = b.take (200 * (k + 1)) := by
  unfold piece
  rw [← List.take_add, show 200 * (k + 1) = 200 * k + 200 by omega]
theorem piece_zero (b : List UInt8) : piece b 0 = b.take 200 := by simp [piece]
theorem take_all {b : List UInt8} {k : Nat} (h : npc b.length ≤ k) : b.take (200 * k) = b := List.take_of_length_le (by unfold npc at h; omega)
theorem npc_at {n k : Nat} (hk : k < npc n) : (k + 1 = npc n → n ≤ 200 * (k + 1)) ∧ (k + 1 ≠ npc n → 200 * (k + 1) < n) := by unfold npc at *; omega
theorem put_piece0 {q it sz item : Int} {x b : List UInt8} (h1 : 1 ≤ item) (h2 : item ≤ 1099511627776) (h3 : b.length ≤ 60000) (hk : 0 < npc b.length) :
    putS q it sz x 1 item b.length 0 (piece b 0) = if q < b.length then ([], 8, 0, 0, []) else if 1 = npc b.length then (b, 0, 0, 0, []) else (([] : List UInt8), (0 : Int), item, (b.length : Int), b.take 200) := by
  have ho := okM_piece (item := item) h1 h2 h3 hk
  have hn := npc_at hk
  rw [show (200 * ((0 : Nat) : Int)) = 0 from rfl] at ho
  unfold putS
  rw [piece_len, if_neg (fun h => h ⟨ho, rfl⟩), if_pos rfl]
  split
  · rfl
  · by_cases he : 1 = npc b.length
    · have := hn.1 he
      rw [if_neg (by unfold plen; omega), if_pos he, piece_zero, List.take_of_length_le (by omega)]
    · have := hn.2 he
      rw [if_pos (by unfold plen; omega), if_neg he, piece_zero]
theorem put_piece {q item : Int} {b : List UInt8} {k : Nat} (h1 : 1 ≤ item) (h2 : item ≤ 1099511627776) (h3 : b.length ≤ 60000) (hk : k < npc b.length) (h0 : 0 < k) :
    putS q item b.length (b.take (200 * k)) 1 item b.length (200 * (k : Int)) (piece b k) = if k + 1 = npc b.length then (b, 0, 0, 0, []) else (([] : List UInt8), (0 : Int), item, (b.length : Int), b.take (200 * (k + 1))) := by
  have ho := okM_piece (item := item) h1 h2 h3 hk
  have hn := npc_at hk
  have hl := npc_lt hk
  unfold putS
  have hx : (b.take (200 * k)).length = 200 * k := by rw [List.length_take]; omega
  rw [piece_len, if_neg (fun h => h ⟨ho, rfl⟩), if_neg (by omega), hx, if_neg (by omega), piece_take]
  by_cases he : k + 1 = npc b.length
  · have := hn.1 he
    rw [if_neg (by unfold plen; omega), if_pos he, List.take_of_length_le (by omega)]
  · have := hn.2 he
    rw [if_pos (by unfold plen; omega), if_neg he]
theorem put_none {q item : Int} {b : List UInt8} {k : Nat} (h1 : 1 ≤ item) (h2 : item ≤ 1099511627776) (h3 : b.length ≤ 60000) (hk : k < npc b.length) (h0 : 0 < k) :
    putS q 0 0 [] 1 item b.length (200 * (k : Int)) (piece b k) = ([], 9, 0, 0, []) := by
  have ho := okM_piece (item := item) h1 h2 h3 hk
  unfold putS
  rw [piece_len, if_neg (fun h => h ⟨ho, rfl⟩), if_neg (by omega), if_pos (by omega)]

/-! ### parts, with the blocks they lie in -/
def PartsB (w : World) (base mid : Nat) (item : Int) (b : List UInt8) (f : Nat → Int) (k : Nat) (v : Value) (gs : List (Nat × Nat)) : Prop :=
  Parts w base item b f k v gs ∧ (∀ j, v.ownBlock = some j → j < mid) ∧ ∀ (j g c : Nat), gs[j]? = some (g, c) → g < mid
theorem partsB_mk {w : World} {base : Nat} {item : Int} {b : List UInt8} {f : Nat → Int} {k : Nat} {v : Value} {gs : List (Nat × Nat)} (h : Parts w base item b f k v gs) : PartsB w base w.heap.size item b f k v gs :=
  ⟨h, fun j hj => (h.own.lt j hj).2, fun j g c hj => byt_lt (h.each j g c hj).1⟩
theorem partsB_ch {S : Nat → Prop} {w w' : World} {base mid : Nat} {item : Int} {b : List UInt8} {f : Nat → Int} {k : Nat} {v : Value} {gs : List (Nat × Nat)} (h : PartsB w base mid item b f k v gs) (hc : Ch S w w') (hS : ∀ k, base ≤ k → k < mid → ¬ S k) : PartsB w' base mid item b f k v gs :=
  ⟨⟨h.1.len, own_ch h.1.own hc (fun k hk => hS k (h.1.own.lt k hk).1 (h.2.1 k hk)), fun j g c hj => by
    obtain ⟨h1, h2, h3⟩ := h.1.each j g c hj
    exact ⟨byt_ch h1 hc (hS g h2 (h.2.2 j g c hj)), h2, h3⟩⟩, h.2.1, h.2.2⟩
theorem partsB_below {w w' : World} {base mid : Nat} {item : Int} {b : List UInt8} {f : Nat → Int} {k : Nat} {v : Value} {gs : List (Nat × Nat)} (h : PartsB w base mid item b f k v gs) (hc : Below w.heap.size w w') : PartsB w' base mid item b f k v gs := partsB_ch h (Ch.of_below hc No) (fun _ _ _ => id)

end Go.Proofs.Ytnlninmjmjffcaa
