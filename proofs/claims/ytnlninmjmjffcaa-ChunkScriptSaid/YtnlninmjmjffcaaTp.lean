/- The pieces of an item, as messages in a row; the reference's Cut. No conditions beyond the lengths named in each theorem. -/
import Derived.Test.YtnlninmjmjffcaaTo
import Derived.Test.YtnlninmjmjffcaaLib4
namespace Go.Proofs.Ytnlninmjmjffcaa
open Go.RowKit
set_option linter.unusedVariables false
set_option linter.unusedSimpArgs false

theorem info50 : (Try.prog.info? 50).map (fun i => (i.zero, i.size, i.bytes)) = some (some (.agg #[.int .i64 0, .int .i64 0, .int .i64 0, .int .i64 0, .slice none 0 0]), 5, 56) := by kernel_rfl
def piece (b : List UInt8) (j : Nat) : List UInt8 := (b.drop (200 * j)).take 200
def plen (n j : Nat) : Nat := min 200 (n - 200 * j)
def npc (n : Nat) : Nat := (n + 199) / 200
theorem piece_len (b : List UInt8) (j : Nat) : (piece b j).length = plen b.length j := by simp [piece, plen]
def mcell (item : Int) (n : Nat) (at' : Int) (len g c : Nat) : List Value := [.int .i64 1, .int .i64 item, .int .i64 (n : Int), .int .i64 at', .slice (some ⟨g, 0, none⟩) len c]
def pcells (item : Int) (n : Nat) (f : Nat → Int) (gs : List (Nat × Nat)) : List Value := gs.zipIdx.flatMap fun p => mcell item n (f p.2) (plen n p.2) p.1.1 p.1.2
theorem pcells_snoc (item : Int) (n : Nat) (f : Nat → Int) (gs : List (Nat × Nat)) (g c : Nat) : pcells item n f (gs ++ [(g, c)]) = pcells item n f gs ++ mcell item n (f gs.length) (plen n gs.length) g c := by
  simp [pcells, List.zipIdx_append]
theorem pcells_len (item : Int) (n : Nat) (f : Nat → Int) (gs : List (Nat × Nat)) : (pcells item n f gs).length = gs.length * 5 := by
  unfold pcells
  rw [flat_len _ 5 _ (fun _ _ => rfl), List.length_zipIdx]
theorem pcells_get (item : Int) (n : Nat) (f : Nat → Int) (gs : List (Nat × Nat)) (j i : Nat) (hi : i < 5) : (pcells item n f gs)[j * 5 + i]? = (gs[j]?).bind fun p => (mcell item n (f j) (plen n j) p.1 p.2)[i]? := by
  unfold pcells
  rw [flat_get _ 5 _ (fun _ _ => rfl) j i hi, List.getElem?_zipIdx]
  cases gs[j]? <;> simp
theorem piece_cut {b : List UInt8} {n t k E : Nat} (hp : E = plen n k) (ht : t = 200 * k) (hb : b.length = n) : u8s (piece b k) = ((u8s b).drop (t * 1)).take (E * 1) := by
  subst hp ht hb
  rw [Nat.mul_one, Nat.mul_one, u8s_drop, u8s_take]
  unfold piece plen
  congr 1
  rw [List.take_eq_take_iff]
  simp
/-- v is a row of k messages, the pieces of b, each in a block of its own -/
structure Parts (w : World) (base : Nat) (item : Int) (b : List UInt8) (f : Nat → Int) (k : Nat) (v : Value) (gs : List (Nat × Nat)) : Prop where
  len : gs.length = k
  own : w.ownsRow base 50 5 v k (pcells item b.length f gs)
  each : ∀ j g c, gs[j]? = some (g, c) → Byt w g 5 c (piece b j) ∧ base ≤ g ∧ v.ownBlock ≠ some g
theorem parts_none (w : World) (base : Nat) (item : Int) (b : List UInt8) (f : Nat → Int) : Parts w base item b f 0 (.slice none 0 0) [] :=
  ⟨rfl, World.ownsRow_nil w base 50 5, fun j g c h => by simp at h⟩
theorem parts_ch {S : Nat → Prop} {w w' : World} {base : Nat} {item : Int} {b : List UInt8} {f : Nat → Int} {k : Nat} {v : Value} {gs : List (Nat × Nat)} (h : Parts w base item b f k v gs) (hc : Ch S w w') (hS : ∀ k, base ≤ k → k < w.heap.size → ¬ S k) : Parts w' base item b f k v gs :=
  ⟨h.len, own_ch h.own hc (fun k hk => hS k (h.own.lt k hk).1 (h.own.lt k hk).2), fun j g c hj => by
    obtain ⟨h1, h2, h3⟩ := h.each j g c hj
    exact ⟨byt_ch h1 hc (hS g h2 (byt_lt h1)), h2, h3⟩⟩
theorem parts_below {w w' : World} {base : Nat} {item : Int} {b : List UInt8} {f : Nat → Int} {k : Nat} {v : Value} {gs : List (Nat × Nat)} (h : Parts w base item b f k v gs) (hc : Below w.heap.size w w') : Parts w' base item b f k v gs :=
  parts_ch (S := fun k => w.heap.size ≤ k) h ⟨hc.os, hc.tape, hc.output, hc.size, fun k hk _ => hc.block k hk⟩ (fun k _ hk hs => by omega)
theorem parts_add {w w' : World} {base : Nat} {item : Int} {b : List UInt8} {f : Nat → Int} {k : Nat} {v v' : Value} {gs : List (Nat × Nat)} {g c : Nat} (h : Parts w base item b f k v gs)
    (hg : Byt w g 5 c (piece b k)) (hbg : base ≤ g) (hne : v.ownBlock ≠ some g)
    (hown : w'.ownsRow base 50 5 v' (k + 1) (pcells item b.length f gs ++ mcell item b.length (f k) (plen b.length k) g c)) (hch : Ch (fun i => v.ownBlock = some i) w w') (hat : v'.ownBlock = v.ownBlock ∨ ∃ x, v'.ownBlock = some x ∧ w.heap.size ≤ x) :
    Parts w' base item b f (k + 1) v' (gs ++ [(g, c)]) := by
  refine ⟨by simp [h.len], by rw [pcells_snoc, h.len]; exact hown, fun j g' c' hj => ?_⟩
  have key : ∀ g' c' l, Byt w g' 5 c' l → base ≤ g' → v.ownBlock ≠ some g' → Byt w' g' 5 c' l ∧ base ≤ g' ∧ v'.ownBlock ≠ some g' := by
    intro g' c' l h1 h2 h3
    refine ⟨byt_ch h1 hch h3, h2, ?_⟩
    rcases hat with h | ⟨x, h, hx⟩
    · rw [h]; exact h3
    · rw [h]
      intro e
      have := byt_lt h1
      simp only [Option.some.injEq] at e
      omega
  by_cases hjk : j < k
  · rw [List.getElem?_append_left (by rw [h.len]; exact hjk)] at hj
    obtain ⟨h1, h2, h3⟩ := h.each j g' c' hj
    exact key g' c' _ h1 h2 h3
  · rw [List.getElem?_append_right (by rw [h.len]; omega), h.len] at hj
    have : j - k = 0 := by
      rcases Nat.eq_zero_or_pos (j - k) with h | h
      · exact h
      · rw [List.getElem?_eq_none (by simp; omega)] at hj; cases hj
    rw [this] at hj
    simp only [List.getElem?_cons_zero, Option.some.injEq, Prod.mk.injEq] at hj
    obtain ⟨rfl, rfl⟩ := hj
    have : j = k := by omega
    subst this
    exact key _ _ _ hg hbg hne

theorem at_ge3 {wr : World} {g1 c1 c n : Nat} (h : (g1 = wr.heap.size ∧ c1 = c ∧ n ≤ c) ∨ (g1 = (wr.alloc (.cells #[] 5)).heap.size ∧ c < n)) : wr.heap.size ≤ g1 := by
  rcases h with ⟨h, _⟩ | ⟨h, _⟩
  · omega
  · rw [h]; simp
theorem parts_round {w wr w1 w2 : World} {item at' : Int} {b : List UInt8} {f : Nat → Int} {n k p g1 c1 : Nat} {u v2 : Value} {gs : List (Nat × Nat)} (hlen : b.length = n) (hf : f k = at') (hp : p = plen n k)
    (hP : Parts wr w.heap.size item b f k u gs) (hB : Below w.heap.size w wr) (hC1 : Ch No wr w1) (hb1 : Byt w1 g1 5 c1 (piece b k)) (hg : wr.heap.size ≤ g1)
    (hown2 : w2.ownsRow w.heap.size 50 5 v2 (k + 1) (pcells item b.length f gs ++ #[.int .i64 1, .int .i64 item, .int .i64 (n : Int), .int .i64 at', .slice (some ⟨g1, 0, none⟩) p c1].toList))
    (hch2 : Ch (fun i => u.ownBlock = some i) w1 w2) (hat2 : v2.ownBlock = u.ownBlock ∨ v2.ownBlock = some (w1.heap.size + 1)) :
    Parts w2 w.heap.size item b f (k + 1) v2 (gs ++ [(g1, c1)]) ∧ Below w.heap.size w w2 := by
  have hw := hB.size
  have hw1 := hC1.size
  subst hlen hf hp
  refine ⟨parts_add (parts_ch hP hC1 (fun _ _ _ => id)) hb1 (by omega) (fun e => by have := (hP.own.lt g1 e).2; omega) hown2 hch2 (hat2.imp id fun h => ⟨_, h, by omega⟩), ?_⟩
  exact hB.trans ((hC1.below hw (fun _ h => h.elim)).trans (hch2.below (by omega) (fun k hk => (hP.own.lt k hk).1)))

/-- what both Cuts tell -/
def CutQ (w : World) (item : Int) (b : List UInt8) (e : Ending) (w' : World) : Prop :=
  (((item < 1 ∨ 1099511627776 < item ∨ b.length = 0) ∧ e = .returned (.tuple #[.slice none 0 0, .int .i64 2]) ∧ Below w.heap.size w w') ∨
   (1 ≤ item ∧ item ≤ 1099511627776 ∧ 60000 < b.length ∧ e = .returned (.tuple #[.slice none 0 0, .int .i64 3]) ∧ Below w.heap.size w w')) ∨
  (1 ≤ item ∧ item ≤ 1099511627776 ∧ 1 ≤ b.length ∧ b.length ≤ 60000 ∧ ∃ v gs, e = .returned (.tuple #[v, .int .i64 0]) ∧ Parts w' w.heap.size item b (fun j => 200 * j) (npc b.length) v gs ∧ Below w.heap.size w w')

set_option maxRecDepth 100000 in
set_option maxHeartbeats 4000000 in
theorem cutr_any (item : Int) (A : Option Addr) (n c : Nat) (b : List UInt8) (w : World) (hr : Rd w A n c 1 (u8s b)) :
    Calls Try.prog 34 #[.int .i64 item, .slice A n c] w (CutQ w item b) := by
  have hn := hr.small
  have hlen : b.length = n := by have := hr.len; simpa using this
  have HN := Lib.hid hlen
  have HR := Lib.hid hr
  clear hr hlen
  have fin2 : ∀ W, (item < 1 ∨ 1099511627776 < item ∨ n = 0) → Below w.heap.size w W → CutQ w item b (.returned (.tuple #[.slice none 0 0, .int .i64 2])) W := fun W h hW => .inl (.inl ⟨by rw [HN.out]; exact h, rfl, hW⟩)
  have FIN2 := Lib.hid fin2; clear fin2
  by_cases h1 : item < 1
  · go_enter Try.func34, Try.ntmps34
    go_wp2
    go_ret2
    exact FIN2.out _ (.inl h1) (Below.refl _ _)
  by_cases h2 : 1099511627776 < item
  · go_enter Try.func34, Try.ntmps34
    go_wp2
    go_ret2
    exact FIN2.out _ (.inr (.inl h2)) (Below.refl _ _)
  by_cases h3 : n = 0
  · subst h3
    go_enter Try.func34, Try.ntmps34
    go_wp2
    go_ret2
    exact FIN2.out _ (by simp) (Below.refl _ _)
  have g3 : ((n : Int) == 0) = false := by simp; omega
  by_cases h4 : 60000 < n
  · go_enter Try.func34, Try.ntmps34
    go_wp2
    go_ret2
    exact .inl (.inr ⟨by omega, by omega, by rw [HN.out]; exact h4, rfl, Below.refl _ _⟩)
  have h5 : 1 ≤ n := by omega
  have h5' : n ≤ 60000 := by omega
  have h6 : 1 ≤ item ∧ item ≤ 1099511627776 := by omega
  have H6 := Lib.hid h6
  clear FIN2 h6
  go_enter Try.func34, Try.ntmps34
  go_wp2
  go_loopw [6, 7, 8] (fun v at' _ wr => ∃ (k t : Nat) (gs : List (Nat × Nat)), Hid (t = 200 * k ∧ Parts wr w.heap.size item b (fun j => 200 * j) k v gs ∧ Below w.heap.size w wr) ∧ t < n + 200 ∧ at' = .int .i64 t) (fun _ at' _ _ => n + 200 - (intOf at').toNat)
  case atStart => exact ⟨0, 0, [], Lib.hid ⟨rfl, parts_none _ _ _ _ _, Below.refl _ _⟩, by omega, rfl⟩
  case round =>
    obtain ⟨k, t, gs, hH, hk, rfl⟩ := hrel
    by_cases hlt : t < n
    · have hcap := HR.out.cap
      have hcc := HR.out.big
      have hct : ¬ c = t := by omega
      have hkk : k ≤ 60000 := by have := hH.out.1; omega
      have HB := Lib.hid hH.out.2.2
      have HA := Lib.hid ((HR.out.below hH.out.2.2).below ((Below.refl wr.heap.size wr).alloc (Nat.le_refl _) (.cells #[] 5)))
      by_cases hto : (t : Int) + 200 ≤ n
      · 
        have HP := Lib.hid (show t + 200 - t = plen n k from by have := hH.out.1; unfold plen; omega)
        have HC := Lib.hid (HA.out.cut t (t + 200 - t) (by omega) (u8s (piece b k)) (piece_cut HP.out hH.out.1 HN.out))
        simp only [Nat.mul_one] at HC
        go_wp2_with (at_builtin; first | (refine wpList_app_b _ rfl _ _ 22 rfl 5 Try.underlying22 info5 wr.heap.size 0 0 [] rfl (byt_none wr 5) rfl _ (t + 200 - t) (c - t) (piece b k) rfl HC.out (by omega) ?_; intro g1 c1 w1 hb1 hat1 hch1; have hg1 : wr.heap.size ≤ g1 := at_ge3 hat1; have HC1 := Lib.hid (show Ch No wr w1 from (Ch.alloc wr _ No).trans hch1 (fun i hi => .inr (by omega))); have HB1 := Lib.hid (show Byt w1 g1 5 c1 (piece b k) from hb1); have hsz1 : w.heap.size ≤ w1.heap.size := Nat.le_trans HB.out.size HC1.out.size; clear hat1 hch1 hb1) | (refine wpList_add2 w1 rfl _ _ 44 rfl w.heap.size 50 _ 5 56 Try.underlying44 info50 rfl (by decide) u6 k (pcells item b.length (fun j => 200 * j) gs) rfl (parts_ch hH.out.2.1 HC1.out (fun _ _ _ => id)).own _ 50 rfl rfl (by simp [Value.oneCell']) (by simp [maxLen]; omega) (by omega) hsz1 ?_; intro v2 w2 hown2 hnn2 hch2 hat2))
        go_roundw
        case rel =>
          have hr := parts_round (f := fun j => 200 * (j : Int)) (k := k) (p := 200) HN.out (show (200 * (k : Int)) = (t : Int) from by have := hH.out.1; omega) (by have := hH.out.1; unfold plen; omega) hH.out.2.1 HB.out HC1.out HB1.out hg1 hown2 hch2 hat2
          exact ⟨k + 1, t + 200, gs ++ [(g1, c1)], Lib.hid ⟨by have := hH.out.1; omega, hr.1, hr.2⟩, by omega, by go_num⟩
        case measure => simp [intOf]; omega
      · 
        have HP := Lib.hid (show n - t = plen n k from by have := hH.out.1; unfold plen; omega)
        have HC := Lib.hid (HA.out.cut t (n - t) (by omega) (u8s (piece b k)) (piece_cut HP.out hH.out.1 HN.out))
        simp only [Nat.mul_one] at HC
        go_wp2_with (at_builtin; first | (refine wpList_app_b _ rfl _ _ 22 rfl 5 Try.underlying22 info5 wr.heap.size 0 0 [] rfl (byt_none wr 5) rfl _ (n - t) (c - t) (piece b k) rfl HC.out (by omega) ?_; intro g1 c1 w1 hb1 hat1 hch1; have hg1 : wr.heap.size ≤ g1 := at_ge3 hat1; have HC1 := Lib.hid (show Ch No wr w1 from (Ch.alloc wr _ No).trans hch1 (fun i hi => .inr (by omega))); have HB1 := Lib.hid (show Byt w1 g1 5 c1 (piece b k) from hb1); have hsz1 : w.heap.size ≤ w1.heap.size := Nat.le_trans HB.out.size HC1.out.size; clear hat1 hch1 hb1) | (refine wpList_add2 w1 rfl _ _ 44 rfl w.heap.size 50 _ 5 56 Try.underlying44 info50 rfl (by decide) u6 k (pcells item b.length (fun j => 200 * j) gs) rfl (parts_ch hH.out.2.1 HC1.out (fun _ _ _ => id)).own _ 50 rfl rfl (by simp [Value.oneCell']) (by simp [maxLen]; omega) (by omega) hsz1 ?_; intro v2 w2 hown2 hnn2 hch2 hat2))
        go_roundw
        case rel =>
          have hr := parts_round (f := fun j => 200 * (j : Int)) (k := k) (p := n - t) HN.out (show (200 * (k : Int)) = (t : Int) from by have := hH.out.1; omega) (by have := hH.out.1; unfold plen; omega) hH.out.2.1 HB.out HC1.out HB1.out hg1 hown2 hch2 hat2
          exact ⟨k + 1, t + 200, gs ++ [(g1, c1)], Lib.hid ⟨by have := hH.out.1; omega, hr.1, hr.2⟩, by omega, by go_num⟩
        case measure => simp [intOf]; omega
    · go_wp2
      go_ret2
      refine .inr ⟨H6.out.1, H6.out.2, by rw [HN.out]; omega, by rw [HN.out]; omega, u6, gs, rfl, ?_, hH.out.2.2⟩
      have : npc b.length = k := by have := hH.out.1; rw [HN.out]; unfold npc; omega
      rw [this]
      exact hH.out.2.1

end Go.Proofs.Ytnlninmjmjffcaa
