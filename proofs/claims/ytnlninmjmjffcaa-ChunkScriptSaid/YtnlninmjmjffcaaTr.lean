/- Walks: chunk.Cut. No conditions beyond the lengths named in each theorem. -/
import Derived.Test.YtnlninmjmjffcaaTq
import Derived.Deep.DrawnRows
namespace Go.Proofs.Ytnlninmjmjffcaa
open Go.RowKit Go.Shelf
set_option linter.unusedVariables false
set_option linter.unusedSimpArgs false
attribute [local go_sem] Oper.semAt_some
attribute [local go_sem ↓] Go.wp_at_zero Go.wp_at_succ

def qcells (item : Int) (n : Nat) (ps : List (Nat × Nat × Nat)) : List Value := ps.flatMap fun p => mcell item n 0 (plen n p.1) p.2.1 p.2.2
theorem qcells_get (item : Int) (n : Nat) (ps : List (Nat × Nat × Nat)) (j i : Nat) (hi : i < 5) : (qcells item n ps)[j * 5 + i]? = (ps[j]?).bind fun p => (mcell item n 0 (plen n p.1) p.2.1 p.2.2)[i]? := flat_get _ 5 ps (fun _ _ => rfl) j i hi
theorem qcells_len (item : Int) (n : Nat) (ps : List (Nat × Nat × Nat)) : (qcells item n ps).length = ps.length * 5 := flat_len _ 5 ps (fun _ _ => rfl)
/-- v is a row of messages, each a piece of b, whichever -/
structure PQ (w : World) (base : Nat) (item : Int) (b : List UInt8) (v : Value) (ps : List (Nat × Nat × Nat)) : Prop where
  own : w.ownsRow base 50 5 v ps.length (qcells item b.length ps)
  each : ∀ p ∈ ps, Byt w p.2.1 5 p.2.2 (piece b p.1) ∧ base ≤ p.2.1 ∧ v.ownBlock ≠ some p.2.1
theorem pq_none (w : World) (base : Nat) (item : Int) (b : List UInt8) : PQ w base item b (.slice none 0 0) [] := ⟨World.ownsRow_nil w base 50 5, fun p h => by cases h⟩
theorem own_cells {w : World} {base n sz : Nat} {e : TypeId} {v : Value} {xs : List Value} (h : w.ownsRow base e sz v n xs) {k : Nat} (hk : v.ownBlock = some k) : ∃ cs t f, w.heap[k]? = some (.cells cs t f) := by
  rcases h.2 with ⟨rfl, _⟩ | ⟨g, cap, cur, rfl, hb, hg, _⟩
  · cases hk
  · cases hk
    exact ⟨_, _, _, hg⟩
theorem pq_ch {S : Nat → Prop} {w w' : World} {base : Nat} {item : Int} {b : List UInt8} {v : Value} {ps : List (Nat × Nat × Nat)} (h : PQ w base item b v ps) (hc : Ch S w w') (hS : ∀ k cs t f, base ≤ k → w.heap[k]? = some (.cells cs t f) → ¬ S k) : PQ w' base item b v ps :=
  ⟨own_ch h.own hc (fun k hk => by obtain ⟨cs, t, f, hh⟩ := own_cells h.own hk; exact hS k cs t f (h.own.lt k hk).1 hh), fun p hp => by
    obtain ⟨h1, h2, h3⟩ := h.each p hp
    obtain ⟨ys, _, _, hy⟩ := h1.ex
    exact ⟨byt_ch h1 hc (hS _ _ _ _ h2 hy), h2, h3⟩⟩
theorem pq_add {w w' : World} {base : Nat} {item : Int} {b : List UInt8} {v v' : Value} {ps : List (Nat × Nat × Nat)} {x g c : Nat} (h : PQ w base item b v ps)
    (hg : Byt w g 5 c (piece b x)) (hbg : base ≤ g) (hne : v.ownBlock ≠ some g)
    (hown : w'.ownsRow base 50 5 v' (ps.length + 1) (qcells item b.length ps ++ mcell item b.length 0 (plen b.length x) g c)) (hch : Ch (fun i => v.ownBlock = some i) w w') (hat : v'.ownBlock = v.ownBlock ∨ ∃ y, v'.ownBlock = some y ∧ w.heap.size ≤ y) :
    PQ w' base item b v' (ps ++ [(x, g, c)]) := by
  have key : ∀ g' c' l, Byt w g' 5 c' l → base ≤ g' → v.ownBlock ≠ some g' → Byt w' g' 5 c' l ∧ base ≤ g' ∧ v'.ownBlock ≠ some g' := by
    intro g' c' l h1 h2 h3
    refine ⟨byt_ch h1 hch h3, h2, ?_⟩
    rcases hat with h | ⟨y, h, hy⟩
    · rw [h]; exact h3
    · rw [h]
      intro e
      have := byt_lt h1
      simp only [Option.some.injEq] at e
      omega
  refine ⟨by unfold qcells at *; simpa using hown, fun p hp => ?_⟩
  rcases List.mem_append.1 hp with hp | hp
  · obtain ⟨h1, h2, h3⟩ := h.each p hp
    exact key _ _ _ h1 h2 h3
  · rw [List.mem_singleton] at hp
    subst hp
    exact key _ _ _ hg hbg hne
theorem own_some {w : World} {base n sz : Nat} {e : TypeId} {v : Value} {xs : List Value} (h : w.ownsRow base e sz v n xs) (hn : 0 < n) : v ≠ .slice none 0 0 := by
  intro e
  rcases h.2 with ⟨_, h0⟩ | ⟨g, cap, cur, hv, _⟩
  · omega
  · rw [e] at hv; cases hv
/-- the pieces in order are the parts -/
theorem parts_of_pq {w : World} {base : Nat} {item : Int} {b : List UInt8} {v : Value} {ps : List (Nat × Nat × Nat)} {k : Nat} (h : PQ w base item b v ps) (hk : ps.map (·.1) = List.range k) : Parts w base item b (fun _ => 0) k v (ps.map (·.2)) := by
  have hl : ps.length = k := by have := congrArg List.length hk; simpa using this
  have hat : ∀ (j : Nat) (p : Nat × Nat × Nat), ps[j]? = some p → p.1 = j := by
    intro j p hj
    have : (ps.map (·.1))[j]? = some p.1 := by simp [hj]
    rw [hk] at this
    have hjk : j < k := by rw [← hl]; exact (List.getElem?_eq_some_iff.1 hj).1
    simpa [hjk] using this.symm
  refine ⟨by simpa using hl, ?_, fun j g c hj => ?_⟩
  · have e : pcells item b.length (fun _ => 0) (ps.map (·.2)) = qcells item b.length ps := by
      apply List.ext_getElem?
      intro m
      have hm : m = m / 5 * 5 + m % 5 := by omega
      rw [hm, pcells_get _ _ _ _ _ _ (by omega), qcells_get _ _ _ _ _ (by omega), List.getElem?_map]
      cases hp : ps[m / 5]? with
      | none => rfl
      | some p => simp [hat _ _ hp]
    rw [e, ← hl]
    exact h.own
  · rw [List.getElem?_map] at hj
    cases hp : ps[j]? with
    | none => rw [hp] at hj; cases hj
    | some p =>
      rw [hp] at hj
      simp only [Option.map_some, Option.some.injEq] at hj
      have hm := h.each p (List.mem_of_getElem? hp)
      rw [hat _ _ hp, hj] at hm
      exact hm

theorem KB_put {Bs Bn : Nat} (W : World) (l : Nat) (o' : Obj) (h1 : Bs < l) (h2 : Bn < l) : KB Bs Bn W (W.putObj l o') := ⟨World.putObj_heap_other (by omega), World.putObj_heap_other (by omega)⟩
theorem five (w : World) (c1 c2 c3 c4 c5 : Array Value) (t1 t2 t3 t4 t5 : TypeId) :
    Blk (((((w.alloc (.cells c1 t1)).alloc (.cells c2 t2)).alloc (.cells c3 t3)).alloc (.cells c4 t4)).alloc (.cells c5 t5)) w.heap.size t1 c1 ∧
    Blk (((((w.alloc (.cells c1 t1)).alloc (.cells c2 t2)).alloc (.cells c3 t3)).alloc (.cells c4 t4)).alloc (.cells c5 t5)) (w.heap.size + 1) t2 c2 ∧
    Blk (((((w.alloc (.cells c1 t1)).alloc (.cells c2 t2)).alloc (.cells c3 t3)).alloc (.cells c4 t4)).alloc (.cells c5 t5)) (w.heap.size + 2) t3 c3 ∧
    Blk (((((w.alloc (.cells c1 t1)).alloc (.cells c2 t2)).alloc (.cells c3 t3)).alloc (.cells c4 t4)).alloc (.cells c5 t5)) (w.heap.size + 3) t4 c4 ∧
    Blk (((((w.alloc (.cells c1 t1)).alloc (.cells c2 t2)).alloc (.cells c3 t3)).alloc (.cells c4 t4)).alloc (.cells c5 t5)) (w.heap.size + 4) t5 c5 ∧
    (((((w.alloc (.cells c1 t1)).alloc (.cells c2 t2)).alloc (.cells c3 t3)).alloc (.cells c4 t4)).alloc (.cells c5 t5)).heap.size = w.heap.size + 5 ∧
    Below w.heap.size w (((((w.alloc (.cells c1 t1)).alloc (.cells c2 t2)).alloc (.cells c3 t3)).alloc (.cells c4 t4)).alloc (.cells c5 t5)) := by
  have st : ∀ (W : World) (o : Obj), Below W.heap.size W (W.alloc o) := fun W o => (Below.refl _ _).alloc (Nat.le_refl _) o
  have n1 := blk_new w t1 c1
  have n2 := blk_new (w.alloc (.cells c1 t1)) t2 c2
  have n3 := blk_new ((w.alloc (.cells c1 t1)).alloc (.cells c2 t2)) t3 c3
  have n4 := blk_new (((w.alloc (.cells c1 t1)).alloc (.cells c2 t2)).alloc (.cells c3 t3)) t4 c4
  have n5 := blk_new ((((w.alloc (.cells c1 t1)).alloc (.cells c2 t2)).alloc (.cells c3 t3)).alloc (.cells c4 t4)) t5 c5
  simp only [World.size_alloc] at n2 n3 n4 n5
  exact ⟨blk_below (blk_below (blk_below (blk_below n1 (st _ _)) (st _ _)) (st _ _)) (st _ _), blk_below (blk_below (blk_below n2 (st _ _)) (st _ _)) (st _ _), blk_below (blk_below n3 (st _ _)) (st _ _), blk_below n4 (st _ _), n5, by simp only [World.size_alloc], ((((((Below.refl _ w).alloc (Nat.le_refl _) _).alloc (by simp) _).alloc (by simp; omega) _).alloc (by simp; omega) _).alloc (by simp; omega) _)⟩
theorem keep_alloc {w1 : World} {p q : Addr} {u v : Value} (h : w1.cell? p = some u ∧ w1.cell? q = some v) (o : Obj) : (w1.alloc o).cell? p = some u ∧ (w1.alloc o).cell? q = some v :=
  ⟨below_cell ((Below.refl _ w1).alloc (Nat.le_refl _) o) h.1, below_cell ((Below.refl _ w1).alloc (Nat.le_refl _) o) h.2⟩
theorem pcells_set (item : Int) (n : Nat) (f : Nat → Int) (gs : List (Nat × Nat)) (k : Nat) (x : Int) (hk : k < gs.length) : (pcells item n f gs).set (k * 5 + 3) (.int .i64 x) = pcells item n (fun j => if j = k then x else f j) gs := by
  apply List.ext_getElem?
  intro m
  have hm : m = m / 5 * 5 + m % 5 := by omega
  have h5 : m % 5 < 5 := Nat.mod_lt _ (by omega)
  rw [List.getElem?_set, pcells_len]
  by_cases e : k * 5 + 3 = m
  · rw [if_pos e, if_pos (by omega)]
    have e1 : m / 5 = k := by omega
    have e2 : m % 5 = 3 := by omega
    rw [hm, pcells_get _ _ _ _ _ _ h5, e1, e2]
    have : gs[k]? = some gs[k] := by simp [hk]
    rw [this]
    simp [mcell]
  · rw [if_neg e, hm, pcells_get _ _ _ _ _ _ h5, pcells_get _ _ _ _ _ _ h5]
    cases hp : gs[m / 5]? with
    | none => rfl
    | some p =>
      simp only [Option.bind_some]
      by_cases ek : m / 5 = k
      · have : m % 5 ≠ 3 := by omega
        generalize m % 5 = i at *
        unfold mcell
        match i, h5 with
        | 0, _ => rfl
        | 1, _ => rfl
        | 2, _ => rfl
        | 3, _ => exact absurd rfl this
        | 4, _ => rfl
      · simp [ek]
theorem parts_cell {w : World} {base : Nat} {item : Int} {b : List UInt8} {f : Nat → Int} {N g cv : Nat} {gs : List (Nat × Nat)} (h : Parts w base item b f N (.slice (some ⟨g, 0, none⟩) N cv) gs) {k : Nat} (hk : k < N) (i : Nat) (hi : i < 5) (u : Value) (hu : ∀ p, (mcell item b.length (f k) (plen b.length k) (Prod.fst p) (Prod.snd p))[i]? = some u) :
    w.cell? ⟨g, k * 5 + i, none⟩ = some u ∧ w.frozen? ⟨g, k * 5 + i, none⟩ = false := by
  obtain ⟨g', cv', e, _, _, hrow⟩ := own_row h.own (own_some h.own (by omega))
  cases e
  refine ⟨hrow.cell ?_, hrow.thawed _⟩
  rw [pcells_get _ _ _ _ _ _ hi]
  have hl := h.len
  have : gs[k]? = some (gs[k]'(by omega)) := by simp
  rw [this, Option.bind_some]
  exact hu _
theorem parts_set {w : World} {base : Nat} {item : Int} {b : List UInt8} {f : Nat → Int} {N g cv : Nat} {gs : List (Nat × Nat)} (h : Parts w base item b f N (.slice (some ⟨g, 0, none⟩) N cv) gs) {k : Nat} (hk : k < N) (x : Int) :
    Parts (w.setCell ⟨g, k * 5 + 3, none⟩ (.int .i64 x)) base item b (fun j => if j = k then x else f j) N (.slice (some ⟨g, 0, none⟩) N cv) gs := by
  have hl := h.len
  obtain ⟨g', cv', e, hbg, hnc, hrow⟩ := own_row h.own (own_some h.own (by omega))
  cases e
  have hr := hrow.set (k * 5 + 3) (.int .i64 x) (by rw [pcells_len]; omega)
  rw [pcells_set _ _ _ _ _ _ (by omega)] at hr
  refine ⟨hl, hr.own hbg (by rw [pcells_len, hl]) hnc, fun j g2 c2 hj => ?_⟩
  obtain ⟨h1, h2, h3⟩ := h.each j g2 c2 hj
  exact ⟨byt_ch h1 (Ch.setCell w ⟨g, k * 5 + 3, none⟩ _) (fun e => h3 (by have e : g2 = g := e; rw [e]; rfl)), h2, h3⟩
theorem at_next {w : World} {base : Nat} {item : Int} {b : List UInt8} {N k : Nat} {v : Value} {gs : List (Nat × Nat)} (h : Parts w base item b (fun j => if j = k then (k : Int) * 200 else if j < k then 200 * (j : Int) else 0) N v gs) : Parts w base item b (fun j => if j < k + 1 then 200 * (j : Int) else 0) N v gs := by
  have : (fun j : Nat => if j = k then (k : Int) * 200 else if j < k then 200 * (j : Int) else 0) = (fun j => if j < k + 1 then 200 * (j : Int) else 0) := by
    funext j
    by_cases e : j = k
    · subst e; rw [if_pos rfl, if_pos (by omega)]; omega
    · rw [if_neg e]
      by_cases e2 : j < k
      · rw [if_pos e2, if_pos (by omega)]
      · rw [if_neg e2, if_neg (by omega)]
  rw [← this]; exact h
theorem pcells_f (item : Int) (n : Nat) (f f' : Nat → Int) (gs : List (Nat × Nat)) (h : ∀ j, j < gs.length → f j = f' j) : pcells item n f gs = pcells item n f' gs := by
  apply List.ext_getElem?
  intro m
  have hm : m = m / 5 * 5 + m % 5 := by omega
  have h5 : m % 5 < 5 := Nat.mod_lt _ (by omega)
  rw [hm, pcells_get _ _ _ _ _ _ h5, pcells_get _ _ _ _ _ _ h5]
  cases hp : gs[m / 5]? with
  | none => rfl
  | some p => simp only [Option.bind_some]; rw [h _ (List.getElem?_eq_some_iff.1 hp).1]
theorem below_put {B : Nat} (w : World) (D : Nat) (o : Obj) (h : B ≤ D) : Below B w (w.putObj D o) := ⟨rfl, rfl, rfl, by simp [World.putObj], fun k hk => World.putObj_heap_other (by omega)⟩
theorem parts_end {w : World} {base base' : Nat} {item : Int} {b : List UInt8} {N D : Nat} {v : Value} {gs : List (Nat × Nat)} {l : Option (List Deferred)} {o : Obj} (h : Parts w base item b (fun j => if j < N then 200 * (j : Int) else 0) N v gs) (hb : base' ≤ base) (hD : w.heap[D]? = some (.deferred l)) :
    Parts (w.putObj D o) base' item b (fun j => 200 * (j : Int)) N v gs := by
  have hne : ∀ (k : Nat) (cs : Array Value) (t : TypeId) (f : Nat × Nat), w.heap[k]? = some (Obj.cells cs t f) → (w.putObj D o).heap[k]? = w.heap[k]? := fun k cs t f hk => World.putObj_heap_other (fun e => by rw [e, hD] at hk; cases hk)
  refine ⟨h.len, ?_, fun j g c hj => ?_⟩
  · rw [← pcells_f item b.length (fun j => if j < N then 200 * (j : Int) else 0) _ gs (fun j hj => if_pos (by rw [← h.len]; exact hj))]
    exact own_base (own_same h.own (fun k hk => by obtain ⟨cs, t, f, hh⟩ := own_cells h.own hk; exact hne k cs t f hh)) hb
  · obtain ⟨h1, h2, h3⟩ := h.each j g c hj
    obtain ⟨ys, _, _, hy⟩ := h1.ex
    exact ⟨byt_same h1 (hne _ _ _ _ hy), by omega, h3⟩
/-- what holds at the head of a round -/
def CutI (w : World) (item : Int) (b0 off n c : Nat) (b : List UInt8) (pre : List Nat) (W : World) : Prop :=
  ∃ v ps, ps.map (·.1) = pre ∧ PQ W (w.heap.size + 5) item b v ps ∧ Blk W (w.heap.size + 2) 44 #[v] ∧ Blk W w.heap.size 3 #[.int .i64 item] ∧ Blk W (w.heap.size + 1) 22 #[.slice (some ⟨b0, off, none⟩) n c] ∧ Below w.heap.size w W ∧ w.heap.size + 5 ≤ W.heap.size
theorem cutI_own (w : World) (item : Int) (b0 off n c : Nat) (b : List UInt8) (B : Nat) (hB : w.heap.size ≤ B) : OwnFrom B (CutI w item b0 off n c b) := by
  rintro pre W W' row ⟨v, ps, hp, hq, h6, h2, h3, hbel, hsz⟩ hg hr
  have hc := Ch.of_grown hg
  have hcell : ∀ k cs t f, W.heap[k]? = some (.cells cs t f) → ¬ row = some k := by
    intro k cs t f hk e
    obtain ⟨_, o, ho, hn⟩ := hr k e
    rw [hk] at ho
    cases ho
    cases hn
  exact ⟨v, ps, hp, pq_ch hq hc (fun k cs t f _ hk => hcell k cs t f hk), blk_ch h6 hc (hcell _ _ _ _ h6), blk_ch h2 hc (hcell _ _ _ _ h2), blk_ch h3 hc (hcell _ _ _ _ h3),
    hbel.grown hg hbel.size (fun k e => Nat.le_trans hB (hr k e).1), Nat.le_trans hsz hc.size⟩

theorem piece_rd {w W : World} {b0 off n c : Nat} {b : List UInt8} (hr : Rd w (some ⟨b0, off, none⟩) n c 1 (u8s b)) (hbel : Below w.heap.size w W) (hlen : b.length = n) (x : Nat) : Rd W.drew (some ⟨b0, off + 200 * x, none⟩) (plen n x) (plen n x) 1 (u8s (piece b x)) := by
  refine ⟨by rw [u8s_length, piece_len, hlen, Nat.mul_one], Nat.le_refl _, by unfold plen; omega, (fun e => by cases e), fun j u hu => ⟨b0, off + 200 * x, rfl, ?_⟩⟩
  have hu' : (u8s b)[200 * x + j]? = some u := by
    unfold piece at hu
    rw [← u8s_take, ← u8s_drop, List.getElem?_take] at hu
    split at hu
    · rwa [List.getElem?_drop] at hu
    · cases hu
  obtain ⟨b', off', he, hc⟩ := hr.cells _ _ hu'
  cases he
  have h2 : W.cell? ⟨b0, off + (200 * x + j), none⟩ = some u := below_cell hbel hc
  rw [Nat.add_assoc]
  exact h2
/-- what a round leaves -/
theorem cut_round {w W w1 w2 : World} {item : Int} {b0 off n c : Nat} {b : List UInt8} {pre : List Nat} {v v2 : Value} {ps : List (Nat × Nat × Nat)} {x g1 c1 B : Nat} (hlen : b.length = n)
    (hp : ps.map (·.1) = pre) (hq : PQ W (w.heap.size + 5) item b v ps) (h6 : Blk W (w.heap.size + 2) 44 #[v]) (h2 : Blk W w.heap.size 3 #[.int .i64 item]) (h3 : Blk W (w.heap.size + 1) 22 #[.slice (some ⟨b0, off, none⟩) n c]) (hbel : Below w.heap.size w W) (hsz : w.heap.size + 5 ≤ W.heap.size)
    (hg1 : W.heap.size ≤ g1) (hb1 : Byt w1 g1 5 c1 (piece b x)) (hbel1 : Below W.heap.size W.drew w1)
    (hown2 : w2.ownsRow (w.heap.size + 5) 50 5 v2 (ps.length + 1) (qcells item b.length ps ++ #[.int .i64 1, .int .i64 item, .int .i64 (n : Int), .int .i64 0, .slice (some ⟨g1, 0, none⟩) (plen n x) c1].toList))
    (hch2 : Ch (fun k => v.ownBlock = some k) w1 w2) (hat2 : v2.ownBlock = v.ownBlock ∨ v2.ownBlock = some (w1.heap.size + 1)) :
    KeepsFrom B W (w2.setCell ⟨w.heap.size + 2, 0, none⟩ v2) ∧ KB (w.heap.size + 3) (w.heap.size + 4) W (w2.setCell ⟨w.heap.size + 2, 0, none⟩ v2) ∧ CutI w item b0 off n c b (pre ++ [x]) (w2.setCell ⟨w.heap.size + 2, 0, none⟩ v2) := by
  have hvo : ∀ k, v.ownBlock = some k → w.heap.size + 5 ≤ k ∧ k < W.heap.size := fun k hk => hq.own.lt k hk
  have hc1 : Ch No W w1 := (Ch.drew W No).trans (Ch.of_below hbel1 No) (fun _ h => h.elim)
  have hc2 : Ch (fun k => v.ownBlock = some k) W w2 := (hc1.mono (fun _ _ h => h.elim)).trans hch2 (fun _ h => .inl h)
  have hc3 : Ch (fun k => v.ownBlock = some k ∨ k = w.heap.size + 2) W (w2.setCell ⟨w.heap.size + 2, 0, none⟩ v2) := ch_set (hc2.mono (fun _ _ h => .inl h)) _ _ (.inr rfl)
  have hs1 := hc1.size
  have hq2 : PQ w2 (w.heap.size + 5) item b v2 (ps ++ [(x, g1, c1)]) := by
    subst hlen
    exact pq_add (pq_ch hq hc1 (fun _ _ _ _ _ _ => id)) hb1 (by omega) (fun e => by have := (hvo g1 e).2; omega) hown2 hch2 (hat2.imp id fun h => ⟨_, h, by omega⟩)
  refine ⟨(KeepsOthers.from ⟨hc3.size, fun k o hk ho => ?_⟩ B), ⟨hc3.block _ (by omega) (fun e => ?_), hc3.block _ (by omega) (fun e => ?_)⟩, v2, ps ++ [(x, g1, c1)], by simp [hp], ?_, ?_, ?_, ?_, ?_, ?_⟩
  · refine (hc3.block k (Array.getElem?_eq_some_iff.1 hk).1 (fun e => ?_)).trans hk
    rcases e with e | e
    · obtain ⟨cs, t, f, hh⟩ := own_cells hq.own e
      rw [hk] at hh; cases hh; cases ho
    · subst e
      unfold Blk at h6
      rw [hk] at h6; cases h6; cases ho
  · rcases e with e | e
    · have := (hvo _ e).1; omega
    · omega
  · rcases e with e | e
    · have := (hvo _ e).1; omega
    · omega
  · exact pq_ch hq2 (Ch.setCell w2 ⟨w.heap.size + 2, 0, none⟩ v2) (fun k _ _ _ hk _ e => by have e : k = w.heap.size + 2 := e; omega)
  · exact blk_set (blk_ch h6 hc2 (fun e => by have := (hvo _ e).1; omega)) 0 v2
  · exact blk_ch h2 hc3 (fun e => by rcases e with e | e; (have := (hvo _ e).1; omega); omega)
  · exact blk_ch h3 hc3 (fun e => by rcases e with e | e; (have := (hvo _ e).1; omega); omega)
  · exact hbel.trans (hc3.below hbel.size (fun k e => by rcases e with e | e; (have := (hvo _ e).1; omega); omega))
  · exact Nat.le_trans hsz hc3.size

set_option maxRecDepth 100000 in
set_option maxHeartbeats 4000000 in
theorem cut_main (item : Int) (b0 off n c : Nat) (b : List UInt8) (w : World) (hr : Rd w (some ⟨b0, off, none⟩) n c 1 (u8s b)) (h1 : 1 ≤ item) (h2' : item ≤ 1099511627776) (h3' : 1 ≤ n) (h4 : n ≤ 60000) :
    Calls Try.prog 33 #[.int .i64 item, .slice (some ⟨b0, off, none⟩) n c] w (CutQ w item b) := by
  have hn := hr.small
  have hlen : b.length = n := by have := hr.len; simpa using this
  have HN := Lib.hid hlen
  have HR := Lib.hid hr
  clear hr hlen
  have g3 : ((n : Int) == 0) = false := by simp; omega
  refine (callsIn_wide (n := 4)).1 ?_
  refine callsIn_of_wp_marks Try.func33 rfl trivial ?_ rfl
  simp only [Try.ntmps33, List.size_toArray, List.length_cons, List.length_nil, Nat.reduceAdd, Nat.reduceSub, Array.replicate_succ, Array.replicate_zero, List.push_toArray, List.append_toArray, List.nil_append, List.cons_append]
  have d1 : decide (item < 1) = false := by simpa using h1
  have d2 : decide (1099511627776 < item) = false := by simpa using h2'
  have d3 : decide (60000 < (n : Int)) = false := by simp; omega
  gi_wp2_with fail
  refine ⟨trivial, ?_⟩
  refine (callsIn_wide.2 (chunk_any _ n c _)).mono ?_; rintro e w1 ⟨rfl, rfl⟩
  gi_wp2_with fail
  obtain ⟨k1, k2, k3, k4, k5, hsz, hB0⟩ := five w #[.int .i64 item] #[.slice (some ⟨b0, off, none⟩) n c] #[.slice none 0 0] #[.slice (some ⟨b0, off, none⟩) n c] #[.int .i64 200] 3 22 44 22 3
  obtain ⟨W0, hW0⟩ : ∃ x, x = (((((w.alloc (.cells #[.int .i64 item] 3)).alloc (.cells #[.slice (some ⟨b0, off, none⟩) n c] 22)).alloc (.cells #[.slice none 0 0] 44)).alloc (.cells #[.slice (some ⟨b0, off, none⟩) n c] 22)).alloc (.cells #[.int .i64 200] 3)) := ⟨_, rfl⟩
  rw [← hW0] at k1 k2 k3 k4 k5 hsz hB0 ⊢; clear hW0
  have hcap := HR.out.cap
  have hbig := HR.out.big
  have hst := chunk_stops (w.heap.size + 1 + 1 + 1) (w.heap.size + 1 + 1 + 1 + 1) b0 off n c W0 h4 hcap hbig (by omega) (by omega) (blk_cell k4 0 _ rfl) (blk_cell k5 0 _ rfl)
  have hI0 : CutI w item b0 off n c b [] W0 := ⟨_, [], rfl, pq_none _ _ _ _, k3, k1, k2, hB0, by omega⟩
  refine wpIn_rangeFunc_ownG rfl (by omega) (gf := 65) (lb := #[.pointer (some ⟨w.heap.size + 1 + 1 + 1, 0, none⟩), .pointer (some ⟨w.heap.size + 1 + 1 + 1 + 1, 0, none⟩)]) rfl trivial (enters_of Try.func65 (by kernel_rfl) rfl)
    hst (fun h k => KB_trans h k) (fun W l o o' hl _ _ _ => KB_put W l o' (by omega) (by omega)) (Below.refl _ _) (fun _ => rfl)
    (CutI w item b0 off n c b) (fun _ _ _ => False) (cutI_own w item b0 off n c b _ (by omega)) (fun _ _ _ _ _ hs _ _ => hs) hI0
    (fun x => { tmps := #[.int .i64 item, .slice (some ⟨b0, off, none⟩) n c, .pointer (some ⟨w.heap.size, 0, none⟩), .pointer (some ⟨w.heap.size + 1, 0, none⟩), .slice none 0 0, .int .i64 0, .pointer (some ⟨w.heap.size + 1 + 1, 0, none⟩), .slice (some ⟨b0, off + 200 * x, none⟩) (plen n x) (plen n x), undef, .bool false, .int .i64 item, .bool false, .bool false, .int .i64 item, .bool false, .bool false, .bool false, .slice (some ⟨b0, off, none⟩) n c, .int .i64 n, .bool false, .bool false, .bool false, .slice (some ⟨b0, off, none⟩) n c, .int .i64 n, .bool false, .slice (some ⟨b0, off, none⟩) n c, .func (.func 65) #[] #[.pointer (some ⟨w.heap.size + 1 + 1 + 1, 0, none⟩), .pointer (some ⟨w.heap.size + 1 + 1 + 1 + 1, 0, none⟩)], .slice (some ⟨b0, off + 200 * x, none⟩) (plen n x) (plen n x), undef, undef, undef, undef, undef, undef, undef, undef, undef, undef, undef, undef, undef, undef, undef, undef, undef, undef, undef, undef, undef, undef], defers := [] }) ?assign ?body ?done ?stop
  case assign =>
    intro l x W K hK
    simp only [pieceV]
    gi_wp2
    exact hK
  case body =>
    rintro l pre x W ⟨v, ps, hp, hq, h6, h2, h3, hbel, hsz⟩ hpl0
    gi_wp2_with fail
    have c6 : W.cell? ⟨w.heap.size + 1 + 1, 0, none⟩ = some v := blk_cell h6 0 _ rfl
    have c2 : W.cell? ⟨w.heap.size, 0, none⟩ = some (.int .i64 item) := blk_cell h2 0 _ rfl
    have c3 : W.cell? ⟨w.heap.size + 1, 0, none⟩ = some (.slice (some ⟨b0, off, none⟩) n c) := blk_cell h3 0 _ rfl
    have f6 := blk_thawed h6 0
    refine wpIn_region_round (S := fun w' => w'.cell? ⟨w.heap.size, 0, none⟩ = some (.int .i64 item) ∧ w'.cell? ⟨w.heap.size + 1, 0, none⟩ = some (.slice (some ⟨b0, off, none⟩) n c)) (by kernel_rfl) (by kernel_rfl) (fun ⟨a, w, h⟩ => h) ?_
    have hS : W.drew.cell? ⟨w.heap.size, 0, none⟩ = some (.int .i64 item) ∧ W.drew.cell? ⟨w.heap.size + 1, 0, none⟩ = some (.slice (some ⟨b0, off, none⟩) n c) := ⟨c2, c3⟩
    refine wpAnyH_take (i := 1) (v := .int .i64 item) rfl (by kernel_rfl) (by kernel_rfl) (by kernel_rfl) (fun _ _ _ h => h) (Or.inl ⟨by rfl, ?_⟩) hS ?_
    · intro w hSw
      go_simp
    simp only [Act.put, List.setIfInBounds_toArray, List.set_cons_zero, List.set_cons_succ]
    refine wpAnyH_take (i := 2) (v := .slice (some ⟨b0, off, none⟩) n c) rfl (by kernel_rfl) (by kernel_rfl) (by kernel_rfl) (fun _ _ _ h => h) (Or.inl ⟨by rfl, ?_⟩) hS ?_
    · intro w hSw
      go_simp
    simp only [Act.put, List.setIfInBounds_toArray, List.set_cons_zero, List.set_cons_succ]
    refine wpAnyH_take (i := 3) (v := .int .i64 n) rfl (by kernel_rfl) (by kernel_rfl) (by kernel_rfl) (fun _ _ _ h => h) (Or.inl ⟨by rfl, ?_⟩) hS ?_
    · intro w hSw
      go_simp
    simp only [Act.put, List.setIfInBounds_toArray, List.set_cons_zero, List.set_cons_succ]
    refine wpAnyH_take (i := 4) (v := .slice (some ⟨b0, off + 200 * x, none⟩) (plen n x) (plen n x)) rfl (by kernel_rfl) (by kernel_rfl) (by kernel_rfl) (fun _ _ _ h => h) (Or.inl ⟨by rfl, ?_⟩) hS ?_
    · intro w hSw
      go_simp
    simp only [Act.put, List.setIfInBounds_toArray, List.set_cons_zero, List.set_cons_succ]
    have hpre : True := trivial
    have hrd : Hid (Rd W.drew (some ⟨b0, off + 200 * x, none⟩) (plen n x) (plen n x) 1 (u8s (piece b x))) := Lib.hid (piece_rd HR.out hbel HN.out x)
    have hpl : plen n x ≤ 1000000 := by unfold plen; omega
    have hqd := Lib.hid (show ∀ w1, Below W.drew.heap.size W.drew w1 → PQ w1 (w.heap.size + 5) item b v ps from fun w1 h => pq_ch hq ((Ch.drew W No).trans (Ch.of_below h No) (fun _ h => h.elim)) (fun _ _ _ _ _ _ => id))
    have hnp : ps.length < npc n := by have := congrArg List.length hp; simp at this; omega
    have hnp2 : npc n ≤ 60000 := by unfold npc; omega
    have hszd : w.heap.size + 5 ≤ W.drew.heap.size := hsz
    have hkeep := Lib.hid (show ∀ w1, Below W.drew.heap.size W.drew w1 → w1.cell? ⟨w.heap.size, 0, none⟩ = some (.int .i64 item) ∧ w1.cell? ⟨w.heap.size + 1, 0, none⟩ = some (.slice (some ⟨b0, off, none⟩) n c) from fun w1 h => ⟨below_cell h hS.1, below_cell h hS.2⟩)
    refine wpAnyH_ready (rs := [0, 5]) (by kernel_rfl) (by simp) ?_
    refine AllReadyH.cons rfl (fun K hK => ?_) (AllReadyH.cons rfl (fun K hK => ?_) AllReadyH.nil)
    · go_simp
      refine hK.out _ _ ?_ (fun hHeld => ?_)
      · first | exact hS | exact hS1 | exact hS2 | exact hS4
      clear hK K
      try simp only [Act.put, List.setIfInBounds_toArray, List.set_cons_zero, List.set_cons_succ]
      refine wpAnyH_ready (rs := [5]) (by kernel_rfl) (by simp) ?_
      refine AllReadyH.cons rfl (fun K hK => ?_) AllReadyH.nil
      go_simp
      refine (clone_any _ _ _ _ _ _ hrd.out hpl).mono ?_
      rintro e w1 ⟨g1, c1, rfl, hg1, hb1, hbel1⟩
      have hS1 := hkeep.out w1 hbel1
      have hS2 := keep_alloc hS1 (.cells #[.int .i64 1, .int .i64 item, .int .i64 n, .int .i64 0, .slice (some ⟨g1, 0, none⟩) (plen n x) c1] 50)
      have c61 : w1.cell? ⟨w.heap.size + 1 + 1, 0, none⟩ = some v := below_cell hbel1 c6
      have hb1 := Lib.hid hb1; have hg1 := Lib.hid hg1; have hbel1 := Lib.hid hbel1
      have c62 : (w1.alloc (.cells #[.int .i64 1, .int .i64 item, .int .i64 n, .int .i64 0, .slice (some ⟨g1, 0, none⟩) (plen n x) c1] 50)).cell? ⟨w.heap.size + 1 + 1, 0, none⟩ = some v := below_cell ((Below.refl w1.heap.size w1).alloc (Nat.le_refl _) _) c61
      refine hK.out _ _ hS1 (fun hHeld => ?_)
      clear hK K
      try simp only [Act.put, List.setIfInBounds_toArray, List.set_cons_zero, List.set_cons_succ]
      refine wpAnyH_ready (rs := [6]) (by kernel_rfl) (by simp) ?_
      refine AllReadyH.cons rfl (fun K hK => ?_) AllReadyH.nil
      go_simp
      refine hK.out _ _ ?_ (fun hHeld => ?_)
      · first | exact hS | exact hS1 | exact hS2 | exact hS4
      clear hK K
      try simp only [Act.put, List.setIfInBounds_toArray, List.set_cons_zero, List.set_cons_succ]
      refine wpAnyH_ready (rs := [7]) (by kernel_rfl) (by simp) ?_
      refine AllReadyH.cons rfl (fun K hK => ?_) AllReadyH.nil
      go_simp
      refine hK.out _ _ ?_ (fun hHeld => ?_)
      · first | exact hS | exact hS1 | exact hS2 | exact hS4
      clear hK K
      try simp only [Act.put, List.setIfInBounds_toArray, List.set_cons_zero, List.set_cons_succ]
      refine wpAnyH_ready (rs := [8]) (by kernel_rfl) (by simp) ?_
      refine AllReadyH.cons rfl (fun K hK => ?_) AllReadyH.nil
      refine step_add2 w1 rfl (.tmp 28) (.tmp 35) 44 rfl (w.heap.size + 5) 50 _ 5 56 Try.underlying44 info50 rfl (by decide) v ps.length (qcells item b.length ps) (by rfl) (hqd.out w1 hbel1.out).own _ 50 (by rfl) rfl (by simp [Value.oneCell']) (by simp [maxLen]; omega) (by omega) (by have := hbel1.out.size; simp at this; omega) ?_
      intro v2 w2 hown2 hnn2 hch2 hat2
      obtain ⟨g2, cc2, rfl, -, -, -⟩ := own_row hown2 hnn2
      have hvo : ∀ k, v.ownBlock = some k → w.heap.size + 5 ≤ k := fun k hk => (hq.own.lt k hk).1
      have hz6 : Blk w2 (w.heap.size + 2) 44 #[v] := blk_ch (blk_below (show Blk W.drew _ _ _ from h6) hbel1.out) hch2 (fun e => by have := hvo _ e; omega)
      have hz2 : Blk w2 w.heap.size 3 #[.int .i64 item] := blk_ch (blk_below (show Blk W.drew _ _ _ from h2) hbel1.out) hch2 (fun e => by have := hvo _ e; omega)
      have hz3 : Blk w2 (w.heap.size + 1) 22 #[.slice (some ⟨b0, off, none⟩) n c] := blk_ch (blk_below (show Blk W.drew _ _ _ from h3) hbel1.out) hch2 (fun e => by have := hvo _ e; omega)
      have hS4 : w2.cell? ⟨w.heap.size, 0, none⟩ = some (.int .i64 item) ∧ w2.cell? ⟨w.heap.size + 1, 0, none⟩ = some (.slice (some ⟨b0, off, none⟩) n c) := ⟨blk_cell hz2 0 _ rfl, blk_cell hz3 0 _ rfl⟩
      have hS5 : (w2.setCell ⟨w.heap.size + 1 + 1, 0, none⟩ (.slice (some ⟨g2, 0, none⟩) (ps.length + 1) cc2)).cell? ⟨w.heap.size, 0, none⟩ = some (.int .i64 item) ∧ (w2.setCell ⟨w.heap.size + 1 + 1, 0, none⟩ (.slice (some ⟨g2, 0, none⟩) (ps.length + 1) cc2)).cell? ⟨w.heap.size + 1, 0, none⟩ = some (.slice (some ⟨b0, off, none⟩) n c) := ⟨(cell_far w2 ⟨w.heap.size + 1 + 1, 0, none⟩ ⟨w.heap.size, 0, none⟩ (.slice (some ⟨g2, 0, none⟩) (ps.length + 1) cc2) (by simp; omega)).trans hS4.1, (cell_far w2 ⟨w.heap.size + 1 + 1, 0, none⟩ ⟨w.heap.size + 1, 0, none⟩ (.slice (some ⟨g2, 0, none⟩) (ps.length + 1) cc2) (by simp)).trans hS4.2⟩
      have c63 : w2.cell? ⟨w.heap.size + 1 + 1, 0, none⟩ = some v := blk_cell hz6 0 _ rfl
      have f63 : w2.frozen? ⟨w.heap.size + 1 + 1, 0, none⟩ = false := blk_thawed hz6 0
      have hfin := Lib.hid (cut_round (B := W0.heap.size) HN.out hp hq h6 h2 h3 hbel hsz hg1.out hb1.out hbel1.out hown2 hch2 hat2)
      have HVO := Lib.hid hvo
      clear hvo hz6 hz2 hz3 hown2 hch2 hat2 hnn2
      refine hK.out _ _ hS4 (fun hHeld => ?_)
      clear hK K
      try simp only [Act.put, List.setIfInBounds_toArray, List.set_cons_zero, List.set_cons_succ]
      refine wpAnyH_ready (rs := [9]) (by kernel_rfl) (by simp) ?_
      refine AllReadyH.cons rfl (fun K hK => ?_) AllReadyH.nil
      go_simp
      refine hK.out _ _ hS5 (fun hHeld => ?_)
      clear hK K
      try simp only [Act.put, List.setIfInBounds_toArray, List.set_cons_zero, List.set_cons_succ]
      refine wpAnyH_done (by kernel_rfl) ?_ _
      exact hfin.out
    · go_simp
      refine (clone_any _ _ _ _ _ _ hrd.out hpl).mono ?_
      rintro e w1 ⟨g1, c1, rfl, hg1, hb1, hbel1⟩
      have hS1 := hkeep.out w1 hbel1
      have hS2 := keep_alloc hS1 (.cells #[.int .i64 1, .int .i64 item, .int .i64 n, .int .i64 0, .slice (some ⟨g1, 0, none⟩) (plen n x) c1] 50)
      have c61 : w1.cell? ⟨w.heap.size + 1 + 1, 0, none⟩ = some v := below_cell hbel1 c6
      have hb1 := Lib.hid hb1; have hg1 := Lib.hid hg1; have hbel1 := Lib.hid hbel1
      have c62 : (w1.alloc (.cells #[.int .i64 1, .int .i64 item, .int .i64 n, .int .i64 0, .slice (some ⟨g1, 0, none⟩) (plen n x) c1] 50)).cell? ⟨w.heap.size + 1 + 1, 0, none⟩ = some v := below_cell ((Below.refl w1.heap.size w1).alloc (Nat.le_refl _) _) c61
      refine hK.out _ _ hS1 (fun hHeld => ?_)
      clear hK K
      try simp only [Act.put, List.setIfInBounds_toArray, List.set_cons_zero, List.set_cons_succ]
      refine wpAnyH_ready (rs := [0, 6]) (by kernel_rfl) (by simp) ?_
      refine AllReadyH.cons rfl (fun K hK => ?_) (AllReadyH.cons rfl (fun K hK => ?_) AllReadyH.nil)
      · go_simp
        refine hK.out _ _ ?_ (fun hHeld => ?_)
        · first | exact hS | exact hS1 | exact hS2 | exact hS4
        clear hK K
        try simp only [Act.put, List.setIfInBounds_toArray, List.set_cons_zero, List.set_cons_succ]
        refine wpAnyH_ready (rs := [6]) (by kernel_rfl) (by simp) ?_
        refine AllReadyH.cons rfl (fun K hK => ?_) AllReadyH.nil
        go_simp
        refine hK.out _ _ ?_ (fun hHeld => ?_)
        · first | exact hS | exact hS1 | exact hS2 | exact hS4
        clear hK K
        try simp only [Act.put, List.setIfInBounds_toArray, List.set_cons_zero, List.set_cons_succ]
        refine wpAnyH_ready (rs := [7]) (by kernel_rfl) (by simp) ?_
        refine AllReadyH.cons rfl (fun K hK => ?_) AllReadyH.nil
        go_simp
        refine hK.out _ _ ?_ (fun hHeld => ?_)
        · first | exact hS | exact hS1 | exact hS2 | exact hS4
        clear hK K
        try simp only [Act.put, List.setIfInBounds_toArray, List.set_cons_zero, List.set_cons_succ]
        refine wpAnyH_ready (rs := [8]) (by kernel_rfl) (by simp) ?_
        refine AllReadyH.cons rfl (fun K hK => ?_) AllReadyH.nil
        refine step_add2 w1 rfl (.tmp 28) (.tmp 35) 44 rfl (w.heap.size + 5) 50 _ 5 56 Try.underlying44 info50 rfl (by decide) v ps.length (qcells item b.length ps) (by rfl) (hqd.out w1 hbel1.out).own _ 50 (by rfl) rfl (by simp [Value.oneCell']) (by simp [maxLen]; omega) (by omega) (by have := hbel1.out.size; simp at this; omega) ?_
        intro v2 w2 hown2 hnn2 hch2 hat2
        obtain ⟨g2, cc2, rfl, -, -, -⟩ := own_row hown2 hnn2
        have hvo : ∀ k, v.ownBlock = some k → w.heap.size + 5 ≤ k := fun k hk => (hq.own.lt k hk).1
        have hz6 : Blk w2 (w.heap.size + 2) 44 #[v] := blk_ch (blk_below (show Blk W.drew _ _ _ from h6) hbel1.out) hch2 (fun e => by have := hvo _ e; omega)
        have hz2 : Blk w2 w.heap.size 3 #[.int .i64 item] := blk_ch (blk_below (show Blk W.drew _ _ _ from h2) hbel1.out) hch2 (fun e => by have := hvo _ e; omega)
        have hz3 : Blk w2 (w.heap.size + 1) 22 #[.slice (some ⟨b0, off, none⟩) n c] := blk_ch (blk_below (show Blk W.drew _ _ _ from h3) hbel1.out) hch2 (fun e => by have := hvo _ e; omega)
        have hS4 : w2.cell? ⟨w.heap.size, 0, none⟩ = some (.int .i64 item) ∧ w2.cell? ⟨w.heap.size + 1, 0, none⟩ = some (.slice (some ⟨b0, off, none⟩) n c) := ⟨blk_cell hz2 0 _ rfl, blk_cell hz3 0 _ rfl⟩
        have hS5 : (w2.setCell ⟨w.heap.size + 1 + 1, 0, none⟩ (.slice (some ⟨g2, 0, none⟩) (ps.length + 1) cc2)).cell? ⟨w.heap.size, 0, none⟩ = some (.int .i64 item) ∧ (w2.setCell ⟨w.heap.size + 1 + 1, 0, none⟩ (.slice (some ⟨g2, 0, none⟩) (ps.length + 1) cc2)).cell? ⟨w.heap.size + 1, 0, none⟩ = some (.slice (some ⟨b0, off, none⟩) n c) := ⟨(cell_far w2 ⟨w.heap.size + 1 + 1, 0, none⟩ ⟨w.heap.size, 0, none⟩ (.slice (some ⟨g2, 0, none⟩) (ps.length + 1) cc2) (by simp; omega)).trans hS4.1, (cell_far w2 ⟨w.heap.size + 1 + 1, 0, none⟩ ⟨w.heap.size + 1, 0, none⟩ (.slice (some ⟨g2, 0, none⟩) (ps.length + 1) cc2) (by simp)).trans hS4.2⟩
        have c63 : w2.cell? ⟨w.heap.size + 1 + 1, 0, none⟩ = some v := blk_cell hz6 0 _ rfl
        have f63 : w2.frozen? ⟨w.heap.size + 1 + 1, 0, none⟩ = false := blk_thawed hz6 0
        have hfin := Lib.hid (cut_round (B := W0.heap.size) HN.out hp hq h6 h2 h3 hbel hsz hg1.out hb1.out hbel1.out hown2 hch2 hat2)
        have HVO := Lib.hid hvo
        clear hvo hz6 hz2 hz3 hown2 hch2 hat2 hnn2
        refine hK.out _ _ hS4 (fun hHeld => ?_)
        clear hK K
        try simp only [Act.put, List.setIfInBounds_toArray, List.set_cons_zero, List.set_cons_succ]
        refine wpAnyH_ready (rs := [9]) (by kernel_rfl) (by simp) ?_
        refine AllReadyH.cons rfl (fun K hK => ?_) AllReadyH.nil
        go_simp
        refine hK.out _ _ hS5 (fun hHeld => ?_)
        clear hK K
        try simp only [Act.put, List.setIfInBounds_toArray, List.set_cons_zero, List.set_cons_succ]
        refine wpAnyH_done (by kernel_rfl) ?_ _
        exact hfin.out
      · go_simp
        refine hK.out _ _ ?_ (fun hHeld => ?_)
        · first | exact hS | exact hS1 | exact hS2 | exact hS4
        clear hK K
        try simp only [Act.put, List.setIfInBounds_toArray, List.set_cons_zero, List.set_cons_succ]
        refine wpAnyH_ready (rs := [0, 7]) (by kernel_rfl) (by simp) ?_
        refine AllReadyH.cons rfl (fun K hK => ?_) (AllReadyH.cons rfl (fun K hK => ?_) AllReadyH.nil)
        · go_simp
          refine hK.out _ _ ?_ (fun hHeld => ?_)
          · first | exact hS | exact hS1 | exact hS2 | exact hS4
          clear hK K
          try simp only [Act.put, List.setIfInBounds_toArray, List.set_cons_zero, List.set_cons_succ]
          refine wpAnyH_ready (rs := [7]) (by kernel_rfl) (by simp) ?_
          refine AllReadyH.cons rfl (fun K hK => ?_) AllReadyH.nil
          go_simp
          refine hK.out _ _ ?_ (fun hHeld => ?_)
          · first | exact hS | exact hS1 | exact hS2 | exact hS4
          clear hK K
          try simp only [Act.put, List.setIfInBounds_toArray, List.set_cons_zero, List.set_cons_succ]
          refine wpAnyH_ready (rs := [8]) (by kernel_rfl) (by simp) ?_
          refine AllReadyH.cons rfl (fun K hK => ?_) AllReadyH.nil
          refine step_add2 w1 rfl (.tmp 28) (.tmp 35) 44 rfl (w.heap.size + 5) 50 _ 5 56 Try.underlying44 info50 rfl (by decide) v ps.length (qcells item b.length ps) (by rfl) (hqd.out w1 hbel1.out).own _ 50 (by rfl) rfl (by simp [Value.oneCell']) (by simp [maxLen]; omega) (by omega) (by have := hbel1.out.size; simp at this; omega) ?_
          intro v2 w2 hown2 hnn2 hch2 hat2
          obtain ⟨g2, cc2, rfl, -, -, -⟩ := own_row hown2 hnn2
          have hvo : ∀ k, v.ownBlock = some k → w.heap.size + 5 ≤ k := fun k hk => (hq.own.lt k hk).1
          have hz6 : Blk w2 (w.heap.size + 2) 44 #[v] := blk_ch (blk_below (show Blk W.drew _ _ _ from h6) hbel1.out) hch2 (fun e => by have := hvo _ e; omega)
          have hz2 : Blk w2 w.heap.size 3 #[.int .i64 item] := blk_ch (blk_below (show Blk W.drew _ _ _ from h2) hbel1.out) hch2 (fun e => by have := hvo _ e; omega)
          have hz3 : Blk w2 (w.heap.size + 1) 22 #[.slice (some ⟨b0, off, none⟩) n c] := blk_ch (blk_below (show Blk W.drew _ _ _ from h3) hbel1.out) hch2 (fun e => by have := hvo _ e; omega)
          have hS4 : w2.cell? ⟨w.heap.size, 0, none⟩ = some (.int .i64 item) ∧ w2.cell? ⟨w.heap.size + 1, 0, none⟩ = some (.slice (some ⟨b0, off, none⟩) n c) := ⟨blk_cell hz2 0 _ rfl, blk_cell hz3 0 _ rfl⟩
          have hS5 : (w2.setCell ⟨w.heap.size + 1 + 1, 0, none⟩ (.slice (some ⟨g2, 0, none⟩) (ps.length + 1) cc2)).cell? ⟨w.heap.size, 0, none⟩ = some (.int .i64 item) ∧ (w2.setCell ⟨w.heap.size + 1 + 1, 0, none⟩ (.slice (some ⟨g2, 0, none⟩) (ps.length + 1) cc2)).cell? ⟨w.heap.size + 1, 0, none⟩ = some (.slice (some ⟨b0, off, none⟩) n c) := ⟨(cell_far w2 ⟨w.heap.size + 1 + 1, 0, none⟩ ⟨w.heap.size, 0, none⟩ (.slice (some ⟨g2, 0, none⟩) (ps.length + 1) cc2) (by simp; omega)).trans hS4.1, (cell_far w2 ⟨w.heap.size + 1 + 1, 0, none⟩ ⟨w.heap.size + 1, 0, none⟩ (.slice (some ⟨g2, 0, none⟩) (ps.length + 1) cc2) (by simp)).trans hS4.2⟩
          have c63 : w2.cell? ⟨w.heap.size + 1 + 1, 0, none⟩ = some v := blk_cell hz6 0 _ rfl
          have f63 : w2.frozen? ⟨w.heap.size + 1 + 1, 0, none⟩ = false := blk_thawed hz6 0
          have hfin := Lib.hid (cut_round (B := W0.heap.size) HN.out hp hq h6 h2 h3 hbel hsz hg1.out hb1.out hbel1.out hown2 hch2 hat2)
          have HVO := Lib.hid hvo
          clear hvo hz6 hz2 hz3 hown2 hch2 hat2 hnn2
          refine hK.out _ _ hS4 (fun hHeld => ?_)
          clear hK K
          try simp only [Act.put, List.setIfInBounds_toArray, List.set_cons_zero, List.set_cons_succ]
          refine wpAnyH_ready (rs := [9]) (by kernel_rfl) (by simp) ?_
          refine AllReadyH.cons rfl (fun K hK => ?_) AllReadyH.nil
          go_simp
          refine hK.out _ _ hS5 (fun hHeld => ?_)
          clear hK K
          try simp only [Act.put, List.setIfInBounds_toArray, List.set_cons_zero, List.set_cons_succ]
          refine wpAnyH_done (by kernel_rfl) ?_ _
          exact hfin.out
        · go_simp
          refine hK.out _ _ ?_ (fun hHeld => ?_)
          · first | exact hS | exact hS1 | exact hS2 | exact hS4
          clear hK K
          try simp only [Act.put, List.setIfInBounds_toArray, List.set_cons_zero, List.set_cons_succ]
          refine wpAnyH_ready (rs := [0]) (by kernel_rfl) (by simp) ?_
          refine AllReadyH.cons rfl (fun K hK => ?_) AllReadyH.nil
          go_simp
          refine hK.out _ _ ?_ (fun hHeld => ?_)
          · first | exact hS | exact hS1 | exact hS2 | exact hS4
          clear hK K
          try simp only [Act.put, List.setIfInBounds_toArray, List.set_cons_zero, List.set_cons_succ]
          refine wpAnyH_ready (rs := [8]) (by kernel_rfl) (by simp) ?_
          refine AllReadyH.cons rfl (fun K hK => ?_) AllReadyH.nil
          refine step_add2 w1 rfl (.tmp 28) (.tmp 35) 44 rfl (w.heap.size + 5) 50 _ 5 56 Try.underlying44 info50 rfl (by decide) v ps.length (qcells item b.length ps) (by rfl) (hqd.out w1 hbel1.out).own _ 50 (by rfl) rfl (by simp [Value.oneCell']) (by simp [maxLen]; omega) (by omega) (by have := hbel1.out.size; simp at this; omega) ?_
          intro v2 w2 hown2 hnn2 hch2 hat2
          obtain ⟨g2, cc2, rfl, -, -, -⟩ := own_row hown2 hnn2
          have hvo : ∀ k, v.ownBlock = some k → w.heap.size + 5 ≤ k := fun k hk => (hq.own.lt k hk).1
          have hz6 : Blk w2 (w.heap.size + 2) 44 #[v] := blk_ch (blk_below (show Blk W.drew _ _ _ from h6) hbel1.out) hch2 (fun e => by have := hvo _ e; omega)
          have hz2 : Blk w2 w.heap.size 3 #[.int .i64 item] := blk_ch (blk_below (show Blk W.drew _ _ _ from h2) hbel1.out) hch2 (fun e => by have := hvo _ e; omega)
          have hz3 : Blk w2 (w.heap.size + 1) 22 #[.slice (some ⟨b0, off, none⟩) n c] := blk_ch (blk_below (show Blk W.drew _ _ _ from h3) hbel1.out) hch2 (fun e => by have := hvo _ e; omega)
          have hS4 : w2.cell? ⟨w.heap.size, 0, none⟩ = some (.int .i64 item) ∧ w2.cell? ⟨w.heap.size + 1, 0, none⟩ = some (.slice (some ⟨b0, off, none⟩) n c) := ⟨blk_cell hz2 0 _ rfl, blk_cell hz3 0 _ rfl⟩
          have hS5 : (w2.setCell ⟨w.heap.size + 1 + 1, 0, none⟩ (.slice (some ⟨g2, 0, none⟩) (ps.length + 1) cc2)).cell? ⟨w.heap.size, 0, none⟩ = some (.int .i64 item) ∧ (w2.setCell ⟨w.heap.size + 1 + 1, 0, none⟩ (.slice (some ⟨g2, 0, none⟩) (ps.length + 1) cc2)).cell? ⟨w.heap.size + 1, 0, none⟩ = some (.slice (some ⟨b0, off, none⟩) n c) := ⟨(cell_far w2 ⟨w.heap.size + 1 + 1, 0, none⟩ ⟨w.heap.size, 0, none⟩ (.slice (some ⟨g2, 0, none⟩) (ps.length + 1) cc2) (by simp; omega)).trans hS4.1, (cell_far w2 ⟨w.heap.size + 1 + 1, 0, none⟩ ⟨w.heap.size + 1, 0, none⟩ (.slice (some ⟨g2, 0, none⟩) (ps.length + 1) cc2) (by simp)).trans hS4.2⟩
          have c63 : w2.cell? ⟨w.heap.size + 1 + 1, 0, none⟩ = some v := blk_cell hz6 0 _ rfl
          have f63 : w2.frozen? ⟨w.heap.size + 1 + 1, 0, none⟩ = false := blk_thawed hz6 0
          have hfin := Lib.hid (cut_round (B := W0.heap.size) HN.out hp hq h6 h2 h3 hbel hsz hg1.out hb1.out hbel1.out hown2 hch2 hat2)
          have HVO := Lib.hid hvo
          clear hvo hz6 hz2 hz3 hown2 hch2 hat2 hnn2
          refine hK.out _ _ hS4 (fun hHeld => ?_)
          clear hK K
          try simp only [Act.put, List.setIfInBounds_toArray, List.set_cons_zero, List.set_cons_succ]
          refine wpAnyH_ready (rs := [9]) (by kernel_rfl) (by simp) ?_
          refine AllReadyH.cons rfl (fun K hK => ?_) AllReadyH.nil
          go_simp
          refine hK.out _ _ hS5 (fun hHeld => ?_)
          clear hK K
          try simp only [Act.put, List.setIfInBounds_toArray, List.set_cons_zero, List.set_cons_succ]
          refine wpAnyH_done (by kernel_rfl) ?_ _
          exact hfin.out
  case done =>
    rintro D ys W hD rfl ⟨v, ps, hp, hq, h6, h2, h3, hbel, hsz⟩ hK
    have hP := parts_of_pq hq hp
    have hn0 : 1 ≤ npc n := by unfold npc; omega
    have hn1 : npc n ≤ 300 := by unfold npc; omega
    obtain ⟨g, cv, rfl, hgb, hcv, hrow⟩ := own_row hP.own (own_some hP.own (by omega))
    have c6 : W.cell? ⟨w.heap.size + 1 + 1, 0, none⟩ = some (.slice (some ⟨g, 0, none⟩) (npc n) cv) := blk_cell h6 0 _ rfl
    obtain ⟨N, hN⟩ : ∃ N, N = npc n := ⟨_, rfl⟩
    rw [← hN] at hP hn0 hn1 hcv c6 h6
    have HNN := Lib.hid hN; clear hN hq hrow hp
    have HI := Lib.hid (show Parts W (w.heap.size + 5) item b (fun j => if j < 0 then 200 * j else 0) N (.slice (some ⟨g, 0, none⟩) N cv) (ps.map (·.2)) ∧ Blk W (w.heap.size + 2) 44 #[.slice (some ⟨g, 0, none⟩) N cv] ∧ Below w.heap.size w W ∧ W.heap[D]? = some (.deferred (some [])) from ⟨by simpa using hP, h6, hbel, hK⟩)
    clear hP h6 h2 h3 hbel hK
    gi_wp2
    clear c6
    gi_loopw [39] (fun i wr => ∃ k : Nat, k ≤ N ∧ i = .int .i64 k ∧ Hid (Parts wr (w.heap.size + 5) item b (fun j => if j < k then 200 * j else 0) N (.slice (some ⟨g, 0, none⟩) N cv) (ps.map (·.2)) ∧ Blk wr (w.heap.size + 2) 44 #[.slice (some ⟨g, 0, none⟩) N cv] ∧ Below w.heap.size w wr ∧ wr.heap[D]? = some (.deferred (some [])))) (fun i _ => N - (intOf i).toNat)
    case atStart => exact ⟨0, by omega, rfl, HI⟩
    case round =>
      obtain ⟨k, hk, rfl, hH⟩ := hrel
      have c6 : wr.cell? ⟨w.heap.size + 1 + 1, 0, none⟩ = some (.slice (some ⟨g, 0, none⟩) N cv) := blk_cell hH.out.2.1 0 _ rfl
      by_cases hlt : k < N
      · obtain ⟨cc, cf⟩ := parts_cell hH.out.1 hlt 3 (by omega) (.int .i64 0) (fun p => by simp [mcell])
        have hgD : D ≠ g := by
          intro e
          obtain ⟨cs, t, f, hh⟩ := own_cells hH.out.1.own (k := g) rfl
          have := hH.out.2.2.2
          rw [e, hh] at this
          cases this
        have HS := Lib.hid (at_next (parts_set hH.out.1 hlt ((k : Int) * 200)))
        have HR2 := Lib.hid (And.intro (blk_ch hH.out.2.1 (Ch.setCell wr ⟨g, k * 5 + 3, none⟩ (.int .i64 ((k : Int) * 200))) (fun e => by have e : w.heap.size + 2 = g := e; omega)) (And.intro (hH.out.2.2.1.setCell (p := ⟨g, k * 5 + 3, none⟩) (by show w.heap.size ≤ g; omega) (.int .i64 ((k : Int) * 200))) ((Below.heap_setCell wr ⟨g, k * 5 + 3, none⟩ (.int .i64 ((k : Int) * 200)) D hgD).trans hH.out.2.2.2)))
        gi_wp2
        go_roundw
        case rel => exact ⟨k + 1, by omega, by go_num, Lib.hid ⟨HS.out, HR2.out⟩⟩
        case measure => simp [intOf]; omega
      · obtain rfl : k = N := by omega
        gi_wp2
        have hKr := hH.out.2.2.2
        refine ⟨by simp, .inl ⟨_, _, rfl, run_takeDeferred hKr, ?_⟩⟩
        refine ⟨_, results_tmp2 rfl _ _ _, .inr ⟨h1, h2', by rw [HN.out]; exact h3', by rw [HN.out]; exact h4, _, ps.map (·.2), rfl, ?_, ?_⟩⟩
        · rw [HN.out, ← HNN.out]
          exact parts_end hH.out.1 (by omega) hKr
        · exact hH.out.2.2.1.trans (below_put wr D _ (by omega))
  case stop =>
    rintro D c pre W _ _ h _
    exact h.elim

end Go.Proofs.Ytnlninmjmjffcaa
