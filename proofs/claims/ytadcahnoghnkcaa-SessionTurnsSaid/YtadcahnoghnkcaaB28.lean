/- Words for the world of two ends: rows that grow, flights, turns that come in; walks: Pick, CopyPack, longs, begins. No conditions beyond those named. -/
import Derived.Test.YtadcahnoghnkcaaB26
import Derived.Test.YtadcahnoghnkcaaB27
import Derived.Maps.AppendAt
import Derived.Laws.OwnMore
namespace Go.Proofs.Ytadcahnoghnkcaa
open Go.RowKit
set_option linter.unusedVariables false
set_option linter.unusedSimpArgs false

section
variable {P : Program} {ops : Array Oper} {rest : List Oper} {o : Oper} {a : Act} {Q : Exit → Act → World → Prop}
/-- append(v, ys...), v the call's own, at a step of a region that draws -/
theorem step_app_own (w : World) {K : Act → World → Prop} {E : Prop} (hgd : o.guard = none) (s x : Operand) (t : TypeId)
    (ho : o.op = .call { callee := .builtin .append, args := #[s, x], argTypes := #[t, t] })
    (base : Nat) (e : TypeId) (z : Value) (size bytes : Nat) (ht : P.underlying t = some (.slice e)) (hinfo : (P.info? e).map (fun i => (i.zero, i.size, i.bytes)) = some (some z, size, bytes)) (hzs : z.cells.size = size) (hsz : 0 < size)
    (v : Value) (n : Nat) (xs : List Value) (hs : a.eval s = v) (hown : w.ownsRow base e size v n xs)
    (A : Option Addr) (m c : Nat) (news : List Value) (hx : a.eval x = .slice A m c) (hr : Rd w A m c size news) (h1 : ∀ u ∈ news, u.oneCell' = true)
    (h63 : n + m ≤ maxLen) (hbytes : (n + m) * bytes ≤ 140737488355328) (hbase : base ≤ w.heap.size)
    (h : ∀ v' w', w'.ownsRow base e size v' (n + m) (xs ++ news) → Ch (fun k => v.ownBlock = some k) w w' → (v'.ownBlock = v.ownBlock ∨ v'.ownBlock = some w.heap.size) → K (a.put o.dst v') w') :
    if Region.wanted o (yielded ops a.tmps) = true then Oper.wp P o a w K Q else E := by
  have hw : Region.wanted o (yielded ops a.tmps) = true := by simp [Region.wanted, hgd]
  rw [if_pos hw]
  obtain ⟨i0, hi, hzz⟩ := Option.map_eq_some_iff.1 hinfo
  simp only [Prod.mk.injEq] at hzz
  obtain ⟨hz0, hz1, hz2⟩ := hzz
  cases hA : A with
  | none =>
    obtain ⟨rfl, rfl, rfl⟩ := hr.nils hA
    subst hA
    have hrun := run_append_owned_none (P := P) (w := w) base t o.type e i0 size ht hi v n xs hown
    unfold Oper.wp
    simp [execOp, ho, resolve, invoke, builtin, hs, hx, hrun, Result.andThen]
    exact h v w (by simpa using hown) (Ch.refl _ _) (.inl rfl)
  | some ad =>
    subst hA
    obtain ⟨v', w', hrun, h2, h3, h4, h5⟩ := run_append_own_at (P := P) w base t o.type e i0 z size bytes ht hi hz0 hz1 hz2 hzs hsz v n xs hown ad m c news hr.len (fun j u hu => by
      obtain ⟨b, off, he, hc⟩ := hr.cells j u hu
      cases he
      have : (⟨b, off, none⟩ : Addr).add j = ⟨b, off + j, none⟩ := by unfold Addr.add; split <;> simp_all
      rw [this]; exact hc) h1 h63 hbytes hbase
    unfold Oper.wp execOp
    simp only [ho, resolve, invoke, builtin, Sem.run_bind, Sem.run_pure, Result.andThen_ok, List.map_toArray, List.map_cons, List.map_nil, hs, hx, hrun]
    exact h v' w' h2 (Ch.of_grown h3) h5
end

/-- a list of bodies: its row has the mark t, the bodies the mark 1 -/
structure RowL (w : World) (T : Nat → Nat) (t : Nat) (v : Value) (ls : List (List UInt8 × Option Addr × Nat × Nat)) : Prop where
  own : w.ownsRow 0 27 1 v ls.length (ls.map slc)
  held : ∀ p ∈ ls, Held w 0 p.2.1 p.2.2.1 p.2.2.2 p.1
  row : ∀ k, v.ownBlock = some k → T k = t
  bod : ∀ p ∈ ls, ∀ b, p.2.1 = some b → T b.block = 1
theorem RowL.lists {w : World} {T : Nat → Nat} {t : Nat} {v : Value} {ls : List (List UInt8 × Option Addr × Nat × Nat)} (h : RowL w T t v ls) (ht : t ≠ 1) : Lists w 0 v ls :=
  ⟨h.own, fun p hp => ⟨h.held p hp, fun b hb e => ht (by rw [← h.row _ e, h.bod p hp b hb])⟩⟩
theorem RowL.keep {S : Nat → Prop} {w w' : World} {T T' : Nat → Nat} {t : Nat} {v : Value} {ls : List (List UInt8 × Option Addr × Nat × Nat)} (h : RowL w T t v ls) (hc : Ch S w w') (hS : ∀ k, T k = t ∨ T k = 1 → ¬ S k) (hT : Agr w.heap.size T T') : RowL w' T' t v ls :=
  ⟨own_ch h.own hc (fun k hk => hS k (.inl (h.row k hk))), fun p hp => held_ch (h.held p hp) hc (fun b hb => hS _ (.inr (h.bod p hp b hb))), fun k hk => (hT _ (h.own.lt k hk).2).trans (h.row k hk), fun p hp b hb => (hT _ (held_lt (h.held p hp) b hb).2).trans (h.bod p hp b hb)⟩
theorem rowL_nil (w : World) (T : Nat → Nat) (t : Nat) : RowL w T t (.slice none 0 0) [] := ⟨World.ownsRow_nil w 0 27 1, (fun p hp => by cases hp), (fun k hk => by cases hk), (fun p hp => by cases hp)⟩
theorem slc_one (ls : List (List UInt8 × Option Addr × Nat × Nat)) : ∀ u ∈ ls.map slc, u.oneCell' = true := by
  intro u hu
  obtain ⟨p, _, rfl⟩ := List.mem_map.1 hu
  rfl
/-- more bodies behind a list -/
theorem rowL_app {w w' : World} {T : Nat → Nat} {t : Nat} {v v' : Value} {ls ks : List (List UInt8 × Option Addr × Nat × Nat)} {m : Nat} (h : RowL w T t v ls) (ht : t ≠ 1) (hm : m = ks.length) (hk : ∀ p ∈ ks, Held w 0 p.2.1 p.2.2.1 p.2.2.2 p.1 ∧ ∀ b, p.2.1 = some b → T b.block = 1)
    (hown : w'.ownsRow 0 27 1 v' (ls.length + m) (ls.map slc ++ ks.map slc)) (hc : Ch (fun k => v.ownBlock = some k) w w') {T' : Nat → Nat} (hT : Agr w.heap.size T T') (hn : ∀ k, w.heap.size ≤ k → v'.ownBlock = some k → T' k = t) (hat : v'.ownBlock = v.ownBlock ∨ ∃ x, v'.ownBlock = some x ∧ w.heap.size ≤ x) : RowL w' T' t v' (ls ++ ks) := by
  subst hm
  have hS : ∀ k, T k = 1 → ¬ v.ownBlock = some k := fun k hk e => ht (by rw [← h.row k e, hk])
  have key : ∀ p ∈ ls ++ ks, Held w 0 p.2.1 p.2.2.1 p.2.2.2 p.1 ∧ ∀ b, p.2.1 = some b → T b.block = 1 := fun p hp => (List.mem_append.1 hp).elim (fun hp => ⟨h.held p hp, h.bod p hp⟩) (hk p)
  refine ⟨by rw [List.length_append, List.map_append]; exact hown, fun p hp => held_ch (key p hp).1 hc (fun b hb => hS _ ((key p hp).2 b hb)), fun k hk' => ?_, fun p hp b hb => (hT _ (held_lt (key p hp).1 b hb).2).trans ((key p hp).2 b hb)⟩
  rcases hat with e | ⟨x, e, hx⟩
  · have h1 := h.own.lt k (e ▸ hk')
    exact (hT _ h1.2).trans (h.row k (e ▸ hk'))
  · rw [e] at hk'
    have hk2 : x = k := by injection hk'
    subst hk2
    exact hn _ hx e

/-- what is in the air -/
abbrev Fl := (Pk × Bool) × Option Addr × Nat × Nat
def flCells (p : Fl) : List Value := [.int .i64 p.1.1.fr, .int .i64 p.1.1.to, .int .i64 p.1.1.nu, .int .i64 p.1.1.ac, .slice p.2.1 p.2.2.1 p.2.2.2, .bool p.1.2]
structure Flies (w : World) (T : Nat → Nat) (t : Nat) (v : Value) (fs : List Fl) : Prop where
  own : w.ownsRow 0 81 6 v fs.length (fs.flatMap flCells)
  held : ∀ p ∈ fs, Held w 0 p.2.1 p.2.2.1 p.2.2.2 p.1.1.l
  row : ∀ k, v.ownBlock = some k → T k = t
  bod : ∀ p ∈ fs, ∀ b, p.2.1 = some b → T b.block = 1
theorem Flies.keep {S : Nat → Prop} {w w' : World} {T T' : Nat → Nat} {t : Nat} {v : Value} {fs : List Fl} (h : Flies w T t v fs) (hc : Ch S w w') (hS : ∀ k, T k = t ∨ T k = 1 → ¬ S k) (hT : Agr w.heap.size T T') : Flies w' T' t v fs :=
  ⟨own_ch h.own hc (fun k hk => hS k (.inl (h.row k hk))), fun p hp => held_ch (h.held p hp) hc (fun b hb => hS _ (.inr (h.bod p hp b hb))), fun k hk => (hT _ (h.own.lt k hk).2).trans (h.row k hk), fun p hp b hb => (hT _ (held_lt (h.held p hp) b hb).2).trans (h.bod p hp b hb)⟩
theorem flies_nil (w : World) (T : Nat → Nat) (t : Nat) : Flies w T t (.slice none 0 0) [] := ⟨World.ownsRow_nil w 0 81 6, (fun p hp => by cases hp), (fun k hk => by cases hk), (fun p hp => by cases hp)⟩
theorem fl_one (fs : List Fl) : ∀ u ∈ fs.flatMap flCells, u.oneCell' = true := by
  intro u hu
  obtain ⟨p, _, hu⟩ := List.mem_flatMap.1 hu
  simp only [flCells, List.mem_cons, List.not_mem_nil, or_false] at hu
  rcases hu with rfl | rfl | rfl | rfl | rfl | rfl <;> rfl
theorem fl_len (fs : List Fl) : (fs.flatMap flCells).length = fs.length * 6 := flat_len flCells 6 fs (fun _ _ => rfl)
theorem flies_get {w : World} {T : Nat → Nat} {t g c N : Nat} {fs : List Fl} (h : Flies w T t (.slice (some ⟨g, 0, none⟩) N c) fs) {k : Nat} (hk : k < fs.length) :
    ∃ p, fs[k]? = some p ∧ w.cell? ⟨g, k * 6, none⟩ = some (.int .i64 p.1.1.fr) ∧ w.cell? ⟨g, k * 6 + 1, none⟩ = some (.int .i64 p.1.1.to) ∧ w.cell? ⟨g, k * 6 + 2, none⟩ = some (.int .i64 p.1.1.nu) ∧ w.cell? ⟨g, k * 6 + 3, none⟩ = some (.int .i64 p.1.1.ac) ∧
      w.cell? ⟨g, k * 6 + 4, none⟩ = some (.slice p.2.1 p.2.2.1 p.2.2.2) ∧ w.cell? ⟨g, k * 6 + 5, none⟩ = some (.bool p.1.2) ∧ Held w 0 p.2.1 p.2.2.1 p.2.2.2 p.1.1.l := by
  obtain ⟨g', c', e, _, _, hrow⟩ := own_row h.own (own_some h.own (by omega))
  cases e
  have hp : fs[k]? = some (fs[k]'hk) := by simp
  have key : ∀ i u, i < 6 → (flCells (fs[k]'hk))[i]? = some u → w.cell? ⟨g, k * 6 + i, none⟩ = some u := by
    intro i u hi hu
    refine hrow.cell ?_
    rw [flat_get flCells 6 fs (fun _ _ => rfl) k i hi, hp, Option.bind_some]
    exact hu
  exact ⟨_, hp, key 0 _ (by omega) rfl, key 1 _ (by omega) rfl, key 2 _ (by omega) rfl, key 3 _ (by omega) rfl, key 4 _ (by omega) rfl, key 5 _ (by omega) rfl, h.held _ (List.getElem_mem hk)⟩
theorem flies_some {w : World} {T : Nat → Nat} {t : Nat} {v : Value} {fs : List Fl} (h : Flies w T t v fs) (hn : 0 < fs.length) : ∃ g c, v = .slice (some ⟨g, 0, none⟩) fs.length c ∧ fs.length ≤ c ∧ c ≤ 9223372036854775807 := by
  obtain ⟨g, c, e, _, hc, hrow⟩ := own_row h.own (own_some h.own hn)
  obtain ⟨A, c', e', hr, _⟩ := own_form h.own
  rw [e] at e'
  cases e'
  exact ⟨g, c, e, hc, hr.big⟩
theorem info81 : (Try.prog.info? 81).map (fun i => (i.zero, i.size, i.bytes)) = some (some (.agg #[.int .i64 0, .int .i64 0, .int .i64 0, .int .i64 0, .slice none 0 0, .bool false]), 6, 64) := by kernel_rfl

/-- the kit's Pick -/
def pick (x n : Int) : Int := if n < 1 then 0 else (x.tmod n + n) % n
theorem pick_range (x n : Int) (h : 1 ≤ n) : 0 ≤ pick x n ∧ pick x n < n := by
  unfold pick
  rw [if_neg (by omega)]
  exact ⟨Int.emod_nonneg _ (by omega), Int.emod_lt_of_pos _ (by omega)⟩
set_option maxHeartbeats 400000 in
theorem pick_any (x n : Int) (w : World) (hn : n ≤ 4611686018427387904) : Calls Try.prog 36 #[.int .i64 x, .int .i64 n] w fun e w' => e = .returned (.int .i64 (pick x n)) ∧ w = w' := by
  by_cases h : n < 1
  · go_enter Try.func36, Try.ntmps36
    go_wp2
    go_ret
    exact ⟨ret_int (by unfold pick; rw [if_pos h]), rfl⟩
  · have h1 : 1 ≤ n := by omega
    have hm1 : -n < x.tmod n := Int.lt_tmod_of_pos x (by omega)
    have hm2 : x.tmod n < n := Int.tmod_lt_of_pos x (by omega)
    have hne : ((n : Int) == 0) = false := by simp; omega
    go_enter Try.func36, Try.ntmps36
    go_wp2
    go_ret
    exact ⟨ret_int (by unfold pick; rw [if_neg (by omega)]; simp), rfl⟩
set_option maxRecDepth 100000 in
set_option maxHeartbeats 1000000 in
theorem copypack_any (p : Pk) (A : Option Addr) (n c : Nat) (w : World) (hr : Rd w A n c 1 (u8s p.l)) (hn : n ≤ 1000000) :
    Calls Try.prog 79 #[.agg #[.int .i64 p.fr, .int .i64 p.to, .int .i64 p.nu, .int .i64 p.ac, .slice A n c]] w fun e w' => ∃ g c', e = .returned (.agg #[.int .i64 p.fr, .int .i64 p.to, .int .i64 p.nu, .int .i64 p.ac, .slice (some ⟨g, 0, none⟩) n c']) ∧ w.heap.size ≤ g ∧ Byt w' g 5 c' p.l ∧ Below w.heap.size w w' := by
  obtain ⟨fr, to, nu, ac, l⟩ := p
  have hb1 : Below w.heap.size w ((w.alloc (.cells #[.int .i64 fr, .int .i64 to, .int .i64 nu, .int .i64 ac, .slice A n c] 33)).alloc (.cells #[.int .i64 0, .int .i64 0, .int .i64 0, .int .i64 0, .slice none 0 0] 33)) := ((Below.refl _ w).alloc (Nat.le_refl _) _).alloc (by simp) _
  have hn1 : Blk ((w.alloc (.cells #[.int .i64 fr, .int .i64 to, .int .i64 nu, .int .i64 ac, .slice A n c] 33)).alloc (.cells #[.int .i64 0, .int .i64 0, .int .i64 0, .int .i64 0, .slice none 0 0] 33)) w.heap.size 33 #[.int .i64 fr, .int .i64 to, .int .i64 nu, .int .i64 ac, .slice A n c] := blk_below (blk_new w 33 _) ((Below.refl _ _).alloc (Nat.le_refl _) _)
  have hn2 : Blk ((w.alloc (.cells #[.int .i64 fr, .int .i64 to, .int .i64 nu, .int .i64 ac, .slice A n c] 33)).alloc (.cells #[.int .i64 0, .int .i64 0, .int .i64 0, .int .i64 0, .slice none 0 0] 33)) (w.heap.size + 1) 33 #[.int .i64 0, .int .i64 0, .int .i64 0, .int .i64 0, .slice none 0 0] := by
    have := blk_new (w.alloc (.cells #[.int .i64 fr, .int .i64 to, .int .i64 nu, .int .i64 ac, .slice A n c] 33)) 33 #[.int .i64 0, .int .i64 0, .int .i64 0, .int .i64 0, .slice none 0 0]
    simpa using this
  obtain ⟨W, hW⟩ : ∃ W, W = (w.alloc (.cells #[.int .i64 fr, .int .i64 to, .int .i64 nu, .int .i64 ac, .slice A n c] 33)).alloc (.cells #[.int .i64 0, .int .i64 0, .int .i64 0, .int .i64 0, .slice none 0 0] 33) := ⟨_, rfl⟩
  rw [← hW] at hb1 hn1 hn2
  have HR := Lib.hid (hr.below hb1)
  have HB1 := Lib.hid hb1; have HN1 := Lib.hid hn1; have HN2 := Lib.hid hn2; have HW := Lib.hid hW
  have c4 : W.cell? ⟨w.heap.size, 4, none⟩ = some (.slice A n c) := blk_cell hn1 4 _ rfl
  clear hr hb1 hn1 hn2 hW
  go_enter Try.func79, Try.ntmps79
  go_wp2_with fail
  rw [← HW.out]
  obtain ⟨T, hT⟩ : ∃ T, T = w.heap.size := ⟨_, rfl⟩
  have HTT := Lib.hid hT
  rw [← hT] at c4 HN1 HN2 ⊢
  clear hT
  go_wp2_with fail
  refine (copyb_any A n c l W HR.out hn).mono ?_
  rintro e w2 ⟨g, c', rfl, hg, hb, hbe⟩
  have hN1 := blk_below HN1.out hbe
  have hN2 := blk_below HN2.out hbe
  have hs1 : Blk (w2.setCell ⟨T, 4, none⟩ (.slice (some ⟨g, 0, none⟩) n c')) T 33 #[.int .i64 fr, .int .i64 to, .int .i64 nu, .int .i64 ac, .slice (some ⟨g, 0, none⟩) n c'] := blk_set hN1 4 _
  have hWz : T + 2 ≤ W.heap.size := by rw [HW.out, HTT.out]; simp
  have f0 := blk_thawed hN1 4
  have d0 : (w2.setCell ⟨T, 4, none⟩ (.slice (some ⟨g, 0, none⟩) n c')).cell? ⟨T, 0, none⟩ = some (.int .i64 fr) := blk_cell hs1 0 _ rfl
  have d1 : (w2.setCell ⟨T, 4, none⟩ (.slice (some ⟨g, 0, none⟩) n c')).cell? ⟨T, 1, none⟩ = some (.int .i64 to) := blk_cell hs1 1 _ rfl
  have d2 : (w2.setCell ⟨T, 4, none⟩ (.slice (some ⟨g, 0, none⟩) n c')).cell? ⟨T, 2, none⟩ = some (.int .i64 nu) := blk_cell hs1 2 _ rfl
  have d3 : (w2.setCell ⟨T, 4, none⟩ (.slice (some ⟨g, 0, none⟩) n c')).cell? ⟨T, 3, none⟩ = some (.int .i64 ac) := blk_cell hs1 3 _ rfl
  have d4 : (w2.setCell ⟨T, 4, none⟩ (.slice (some ⟨g, 0, none⟩) n c')).cell? ⟨T, 4, none⟩ = some (.slice (some ⟨g, 0, none⟩) n c') := blk_cell hs1 4 _ rfl
  have e4 : w2.cell? ⟨T, 4, none⟩ = some (.slice A n c) := below_cell hbe c4
  have hs2 : Blk (w2.setCell ⟨T, 4, none⟩ (.slice (some ⟨g, 0, none⟩) n c')) (T + 1) 33 #[.int .i64 0, .int .i64 0, .int .i64 0, .int .i64 0, .slice none 0 0] := blk_ch hN2 (Ch.setCell w2 ⟨T, 4, none⟩ _) (fun e => by have e' : T + 1 = T := e; omega)
  have HS2 := Lib.hid hs2
  have HBY := Lib.hid hb; have HBE := Lib.hid hbe; have HG := Lib.hid hg
  have HZ := Lib.hid hN2
  clear hb hbe hN1 hN2 hs1 hs2 hg c4
  have m0 : (w2.setCell ⟨T, 4, none⟩ (.slice (some ⟨g, 0, none⟩) n c')).cell? ⟨T + 1, 0, none⟩ = some (.int .i64 0) := blk_cell HS2.out 0 _ rfl
  have m1 : (w2.setCell ⟨T, 4, none⟩ (.slice (some ⟨g, 0, none⟩) n c')).cell? ⟨T + 1, 1, none⟩ = some (.int .i64 0) := blk_cell HS2.out 1 _ rfl
  have m2 : (w2.setCell ⟨T, 4, none⟩ (.slice (some ⟨g, 0, none⟩) n c')).cell? ⟨T + 1, 2, none⟩ = some (.int .i64 0) := blk_cell HS2.out 2 _ rfl
  have m3 : (w2.setCell ⟨T, 4, none⟩ (.slice (some ⟨g, 0, none⟩) n c')).cell? ⟨T + 1, 3, none⟩ = some (.int .i64 0) := blk_cell HS2.out 3 _ rfl
  have m4 : (w2.setCell ⟨T, 4, none⟩ (.slice (some ⟨g, 0, none⟩) n c')).cell? ⟨T + 1, 4, none⟩ = some (.slice none 0 0) := blk_cell HS2.out 4 _ rfl
  have z0 := blk_thawed HZ.out 0
  have z1 := blk_thawed HZ.out 1
  have z2 := blk_thawed HZ.out 2
  have z3 := blk_thawed HZ.out 3
  have z4 := blk_thawed HZ.out 4
  go_wp2
  have hc5 : Ch (fun k => k = T ∨ k = T + 1) w2 ((((((w2.setCell ⟨T, 4, none⟩ (.slice (some ⟨g, 0, none⟩) n c')).setCell ⟨T + 1, 0, none⟩ (.int .i64 fr)).setCell ⟨T + 1, 1, none⟩ (.int .i64 to)).setCell ⟨T + 1, 2, none⟩ (.int .i64 nu)).setCell ⟨T + 1, 3, none⟩ (.int .i64 ac)).setCell ⟨T + 1, 4, none⟩ (.slice (some ⟨g, 0, none⟩) n c')) :=
    ch_set (ch_set (ch_set (ch_set (ch_set ((Ch.setCell w2 ⟨T, 4, none⟩ _).mono (fun i _ hi => .inl hi)) ⟨T + 1, 0, none⟩ _ (.inr rfl)) ⟨T + 1, 1, none⟩ _ (.inr rfl)) ⟨T + 1, 2, none⟩ _ (.inr rfl)) ⟨T + 1, 3, none⟩ _ (.inr rfl)) ⟨T + 1, 4, none⟩ _ (.inr rfl)
  have hgT : w.heap.size ≤ g := by have := HG.out; have := HTT.out; omega
  have hgW : W.heap.size ≤ g := HG.out
  refine bodyPost_ret (results_cell_row rfl _ _ (T + 1) 33 _ (0, 0) _ rfl (blk_set (blk_set (blk_set (blk_set (blk_set HS2.out 0 (.int .i64 fr)) 1 (.int .i64 to)) 2 (.int .i64 nu)) 3 (.int .i64 ac)) 4 (.slice (some ⟨g, 0, none⟩) n c')) Try.underlying33 rfl (by kernel_rfl)) rfl ⟨g, c', rfl, hgT, byt_ch HBY.out hc5 (fun e => by omega), ?_⟩
  exact HB1.out.trans (((Ch.of_below HBE.out (fun k => k = T ∨ k = T + 1)).trans hc5 (fun i hi => .inl hi)).below (B := w.heap.size) HB1.out.size (fun k hk => by have := HTT.out; omega))
/-- what an end is asked to do, as it comes in -/
structure Tu where
  k : Int
  wh : Int
  o : Bool
  M : Option Addr
  m : Nat
  d : Nat
  l : List UInt8
def Tu.cells (x : Tu) : List Value := [.int .i64 x.k, .int .i64 x.wh, .bool x.o, .slice x.M x.m x.d]
def TuIn (w : World) (b o : Nat) (x : Tu) : Prop :=
  w.cell? ⟨b, o, none⟩ = some (.int .i64 x.k) ∧ w.cell? ⟨b, o + 1, none⟩ = some (.int .i64 x.wh) ∧ w.cell? ⟨b, o + 2, none⟩ = some (.bool x.o) ∧ w.cell? ⟨b, o + 3, none⟩ = some (.slice x.M x.m x.d) ∧ Rd w x.M x.m x.d 1 (u8s x.l)
def Tus (w : World) (A : Option Addr) (n c : Nat) (F : Nat → Tu) : Prop := n ≤ c ∧ c ≤ 9223372036854775807 ∧ ∀ i, i < n → ∃ b off, A = some ⟨b, off, none⟩ ∧ TuIn w b (off + i * 4) (F i)
theorem tus_below {w w' : World} {A : Option Addr} {n c : Nat} {F : Nat → Tu} (h : Tus w A n c F) (hb : Below w.heap.size w w') : Tus w' A n c F :=
  ⟨h.1, h.2.1, fun i hi => by
    obtain ⟨b, off, e, h1, h2, h3, h4, h5⟩ := h.2.2 i hi
    exact ⟨b, off, e, below_cell hb h1, below_cell hb h2, below_cell hb h3, below_cell hb h4, h5.below hb⟩⟩
def LongsQ (n : Nat) (F : Nat → Tu) (e : Ending) : Prop := ∃ b, e = .returned (.bool b) ∧ (b = false → n ≤ 120 ∧ ∀ i, i < n → (F i).m ≤ 400)
set_option maxHeartbeats 1000000 in
theorem longs_any (A : Option Addr) (n c : Nat) (F : Nat → Tu) (w : World) (h : Tus w A n c F) : Calls Try.prog 24 #[.slice A n c] w fun e w' => LongsQ n F e ∧ w = w' := by
  have hnc := h.1
  have hc63 := h.2.1
  have H := Lib.hid h; clear h
  go_enter Try.func24, Try.ntmps24
  go_wp2
  go_loopw [3] (fun i wr => ∃ k : Nat, k ≤ n ∧ i = .int .i64 k ∧ Hid (∀ j, j < k → (F j).m ≤ 400) ∧ w = wr) (fun i _ => n - (intOf i).toNat)
  case atStart => exact ⟨0, Nat.zero_le _, rfl, Lib.hid (fun j h => by omega), rfl⟩
  case round =>
    obtain ⟨k, hk, rfl, HF, rfl⟩ := hrel
    by_cases hlt : k < n
    · obtain ⟨b5, off, rfl, hmi⟩ := H.out.2.2 k hlt
      obtain ⟨y, hy⟩ : ∃ y, y = F k := ⟨_, rfl⟩
      rw [← hy] at hmi
      have HY := Lib.hid (show (F k).m = y.m by rw [hy])
      obtain ⟨k1, i1, o1, M1, m1, d1, l1⟩ := y
      clear hy
      obtain ⟨_, _, _, c5, hrd⟩ := hmi
      simp only at c5 hrd
      have hm63 := hrd.small
      clear hrd
      by_cases hm : 400 < m1
      · go_wp2
        go_ret
        exact ⟨⟨_, rfl, fun h => by cases h⟩, rfl⟩
      · have HN := Lib.hid (show ∀ j, j < k + 1 → (F j).m ≤ 400 from fun j hj => by
          rcases Nat.lt_or_ge j k with h | h
          · exact HF.out j h
          · obtain rfl : j = k := by omega
            rw [HY.out]
            exact Nat.not_lt.1 hm)
        go_wp2
        go_roundw
        case rel => exact ⟨k + 1, by omega, by go_num, HN, trivial⟩
        case measure => simp [intOf]; omega
    · obtain rfl : k = n := by omega
      by_cases h120 : 120 < k
      · go_wp2
        go_ret
        exact ⟨⟨true, by simp; omega, fun h => by cases h⟩, rfl⟩
      · go_wp2
        go_ret
        exact ⟨⟨false, by simp; omega, fun _ => ⟨by omega, HF.out⟩⟩, rfl⟩
/-- the beginning of a list -/
theorem lists_take {w : World} {base : Nat} {v : Value} {ls : List (List UInt8 × Option Addr × Nat × Nat)} (h : Lists w base v ls) (n : Nat) (hn : n ≤ ls.length) : ∃ A c, v = .slice A ls.length c ∧ ls.length ≤ c ∧ c ≤ 9223372036854775807 ∧ Lists w base (.slice A n c) (ls.take n) := by
  obtain ⟨A, c, e, hr, _⟩ := own_form h.own
  by_cases h0 : v = .slice none 0 0
  · rw [h0] at e
    simp only [Value.slice.injEq] at e
    obtain ⟨e1, e2, e3⟩ := e
    have h1 : n = 0 := by omega
    subst h1
    subst h0
    exact ⟨none, 0, by rw [← e2], by omega, by omega, by rw [List.take_zero]; exact lists_nil _ _⟩
  · obtain ⟨g, c', e', hbg, hc, hrow⟩ := own_row h.own h0
    rw [e'] at e
    cases e
    refine ⟨_, _, e', hc, hr.big, ⟨?_, fun p hp => ?_⟩⟩
    · have h1 : Row w g 27 c 1 ((ls.take n).map slc ++ (ls.drop n).map slc) := by rw [← List.map_append, List.take_append_drop]; exact hrow
      have hl : (ls.take n).length = n := by rw [List.length_take]; omega
      rw [hl]
      exact h1.less.own hbg (by rw [List.length_map, hl]; omega) (by omega)
    · have h2 := h.each p (List.mem_of_mem_take hp)
      refine ⟨h2.1, fun a ha => ?_⟩
      have h3 := h2.2 a ha
      rw [e'] at h3
      exact h3
set_option maxRecDepth 100000 in
set_option maxHeartbeats 1000000 in
theorem begins_any {base base' : Nat} {v v' : Value} {ls ks : List (List UInt8 × Option Addr × Nat × Nat)} {w : World} (h : Lists w base v ls) (h' : Lists w base' v' ks) (hk : ks.map (·.1) = (ls.map (·.1)).take ks.length) (hN : ls.length ≤ 100000) :
    Calls Try.prog 37 #[v, v'] w fun e w' => e = .returned (.bool true) ∧ Ch No w w' := by
  have hle : ks.length ≤ ls.length := by
    have := congrArg List.length hk
    simp only [List.length_map, List.length_take] at this
    omega
  obtain ⟨A, c, rfl, hc, hc63, ht⟩ := lists_take h ks.length hle
  obtain ⟨A', c', rfl, hr', _⟩ := own_form h'.own
  have hcap' := hr'.cap
  have hbig' := hr'.big
  have HS := Lib.hid (sameLs_any ht h' (by rw [List.map_take]; exact hk.symm) (by rw [List.length_take]; omega))
  clear h h' hk ht hr'
  obtain ⟨n, hn⟩ : ∃ n, n = ks.length := ⟨_, rfl⟩
  obtain ⟨N, hN2⟩ : ∃ N, N = ls.length := ⟨_, rfl⟩
  rw [← hn] at HS hle hcap' ⊢
  rw [← hN2] at hc hle hN ⊢
  clear hn hN2
  go_enter Try.func37, Try.ntmps37
  go_wp2_with fail
  refine HS.out.mono ?_; rintro e w1 ⟨rfl, hc1⟩
  go_wp2
  go_ret
  exact ⟨rfl, hc1⟩
end Go.Proofs.Ytadcahnoghnkcaa
