/- Words for memory, more: blocks that hold bytes from end to end, and append onto them. -/
import Derived.Test.YtadcahnoghnkcaaLib
namespace Go.Proofs.Ytadcahnoghnkcaa
open Go.RowKit
set_option linter.unusedVariables false
set_option linter.unusedSimpArgs false

theorem ch_drewN (S : Nat → Prop) (w : World) : ∀ n, Ch S w (w.drewN n) := fun n => ⟨rfl, rfl, rfl, Nat.le_refl _, fun _ _ _ => rfl⟩
theorem ch_set {S : Nat → Prop} {w w' : World} (h : Ch S w w') (a : Addr) (v : Value) (hS : S a.block) : Ch S w (w'.setCell a v) :=
  h.trans (Ch.setCell w' a v) (fun i hi => .inl (by rw [hi]; exact hS))
theorem ch_one {B : Nat} {w w' : World} (h : Ch (fun j => j = B) w w') (j : Nat) (v : Value) : Ch (fun j => j = B) w (w'.setCell ⟨B, j, none⟩ v) := ch_set h ⟨B, j, none⟩ v rfl
theorem ch_thendrew {S : Nat → Prop} {w w' : World} (h : Ch S w w') : Ch S w w'.drew := h.trans (Ch.drew w' S) (fun _ h => .inl h)
theorem ch_thenno {S : Nat → Prop} {w w' w2 : World} (h : Ch S w w') (k : Ch No w' w2) : Ch S w w2 := h.trans k (fun _ h => h.elim)
/-- block g is a row of c bytes, and begins with l -/
structure Byt (w : World) (g : Nat) (e : TypeId) (c : Nat) (l : List UInt8) : Prop where
  ex : ∃ ys : List UInt8, ys.length = c ∧ ys.take l.length = l ∧ w.heap[g]? = some (.cells (u8s ys).toArray e (0, 0))
  big : c ≤ 9223372036854775807
theorem byt_fits {w : World} {g : Nat} {e : TypeId} {c : Nat} {l : List UInt8} (h : Byt w g e c l) : l.length ≤ c := by
  obtain ⟨ys, h1, h2, _⟩ := h.ex
  have := congrArg List.length h2
  rw [List.length_take] at this
  omega
theorem byt_row {w : World} {g : Nat} {e : TypeId} {c : Nat} {l : List UInt8} (h : Byt w g e c l) : Row w g e c 1 (u8s l) := by
  obtain ⟨ys, h1, h2, h3⟩ := h.ex
  refine ⟨⟨_, h3, by simpa using h1, ?_⟩, by simpa using byt_fits h, h.big⟩
  rw [List.toList_toArray, u8s_length, u8s_take, h2]
theorem byt_lt {w : World} {g : Nat} {e : TypeId} {c : Nat} {l : List UInt8} (h : Byt w g e c l) : g < w.heap.size := (byt_row h).lt
theorem byt_same {w w' : World} {g : Nat} {e : TypeId} {c : Nat} {l : List UInt8} (h : Byt w g e c l) (hw : w'.heap[g]? = w.heap[g]?) : Byt w' g e c l :=
  ⟨by rw [hw]; exact h.ex, h.big⟩
theorem byt_ch {S : Nat → Prop} {w w' : World} {g : Nat} {e : TypeId} {c : Nat} {l : List UInt8} (h : Byt w g e c l) (hc : Ch S w w') (hS : ¬ S g) : Byt w' g e c l := byt_same h (hc.block g (byt_lt h) hS)
theorem byt_below {w w' : World} {g : Nat} {e : TypeId} {c : Nat} {l : List UInt8} (h : Byt w g e c l) (hc : Below w.heap.size w w') : Byt w' g e c l := byt_same h (hc.block g (byt_lt h))
theorem byt_less {w : World} {g : Nat} {e : TypeId} {c : Nat} {l k : List UInt8} (h : Byt w g e c (l ++ k)) : Byt w g e c l := by
  obtain ⟨ys, h1, h2, h3⟩ := h.ex
  refine ⟨⟨ys, h1, ?_, h3⟩, h.big⟩
  have : (ys.take (l ++ k).length).take l.length = l := by rw [h2]; simp
  rw [List.take_take, Nat.min_eq_left (by simp)] at this
  exact this
theorem byt_nil {w : World} {g : Nat} {e : TypeId} {c : Nat} {l : List UInt8} (h : Byt w g e c l) : Byt w g e c [] := byt_less (l := []) h
theorem byt_full {w : World} {g : Nat} {e : TypeId} {c : Nat} {l : List UInt8} (h : Byt w g e c l) : ∃ ys : List UInt8, ys.length = c ∧ ys.take l.length = l ∧ Byt w g e c ys := by
  obtain ⟨ys, h1, h2, h3⟩ := h.ex
  exact ⟨ys, h1, h2, ⟨ys, h1, List.take_length, h3⟩, h.big⟩
theorem byt_lit (w : World) (ys : List UInt8) (e : TypeId) (h : ys.length ≤ 9223372036854775807) : Byt (w.alloc (.cells (u8s ys).toArray e)) w.heap.size e ys.length ys :=
  ⟨⟨ys, rfl, List.take_length, heap_alloc_new w _⟩, h⟩
theorem byt_none (w : World) (e : TypeId) : Byt (w.alloc (.cells #[] e)) w.heap.size e 0 [] := byt_lit w [] e (by decide)
theorem byt_made (W : World) (e : TypeId) (m : Nat) (hm : m ≤ 9223372036854775807) : Byt (W.alloc (.cells (madeB m) e)) W.heap.size e m (List.replicate m 0) := by
  have h := byt_lit W (List.replicate m 0) e (by simpa using hm)
  rw [List.length_replicate] at h
  have : (u8s (List.replicate m 0)).toArray = madeB m := by
    apply Array.ext'
    apply List.ext_getElem
    · simp [madeB, madeCells]
    · intro i h1 h2
      simp [madeB, madeCells, u8s, Nat.mod_one]
  rwa [this] at h
theorem byt_same_cap {w : World} {g : Nat} {e e' : TypeId} {c c' : Nat} {l k : List UInt8} (h : Byt w g e c l) (h' : Byt w g e' c' k) : c = c' := by
  obtain ⟨ys, h1, _, h3⟩ := h.ex
  obtain ⟨zs, k1, _, k3⟩ := h'.ex
  rw [h3] at k3
  simp only [Option.some.injEq, Obj.cells.injEq] at k3
  have := congrArg Array.size k3.1
  simp at this
  omega

section
variable {P : Program} {ops : Array Oper} {rest : List Oper} {o : Oper} {a : Act} {Q : Exit → Act → World → Prop}
theorem run_app_b (w : World) (t ty e : TypeId) (ht : P.underlying t = some (.slice e)) (hinfo : (P.info? e).map (fun i => (i.zero, i.size, i.bytes)) = some (some (.int .u8 0), 1, 1))
    (g c : Nat) (l : List UInt8) (hb : Byt w g e c l)
    (A : Option Addr) (m d : Nat) (k : List UInt8) (hr : Rd w A m d 1 (u8s k)) (hsz : l.length + m ≤ 1000000000) :
    ∃ g' c' w', (Builtin.append_ #[t, t] ty #[.slice (some ⟨g, 0, none⟩) l.length c, .slice A m d]).run P w = .ok (.slice (some ⟨g', 0, none⟩) (l.length + m) c') w' ∧
      Byt w' g' e c' (l ++ k) ∧ ((g' = g ∧ c' = c ∧ l.length + m ≤ c) ∨ (g' = w.heap.size ∧ c < l.length + m)) ∧ Ch (fun i => i = g) w w' := by
  obtain ⟨i, hi, hzz⟩ := Option.map_eq_some_iff.1 hinfo
  simp only [Prod.mk.injEq] at hzz
  obtain ⟨hz, hz1, hz2⟩ := hzz
  have hkl : k.length = m := by have := hr.len; simpa using this
  have hfit := byt_fits hb
  cases hA : A with
  | none =>
    obtain ⟨rfl, rfl, hk⟩ := hr.nils hA
    have hk0 : k = [] := List.eq_nil_of_length_eq_zero hkl
    subst hk0
    refine ⟨g, c, w, ?_, by simpa using hb, .inl ⟨rfl, rfl, by omega⟩, Ch.refl _ _⟩
    simp [Builtin.append_, run_underlying ht, sizeOf, typeInfo, hi, Builtin.lenOf, Builtin.firstCells, loadCells, loadCellsFrom, storeCells, hfit, Addr.add_lit]
  | some ad =>
    subst hA
    have hnews : ∀ j u, (u8s k)[j]? = some u → w.cell? (ad.add j) = some u := by
      intro j u hu
      obtain ⟨b, off, he, hc⟩ := hr.cells j u hu
      cases he
      have : (⟨b, off, none⟩ : Addr).add j = ⟨b, off + j, none⟩ := by unfold Addr.add; split <;> simp_all
      rw [this]; exact hc
    obtain ⟨ys, hy1, hy2, hy3⟩ := hb.ex
    by_cases hroom : l.length + m ≤ c
    · have hr' := run_append_room (P := P) w t ty e i ht hi g l.length c _ hy3 ad m d (u8s k) (by rw [u8s_length, hz1, hkl]; omega) hnews (u8s_one k) hroom (by simp [hz1]; omega)
      refine ⟨g, c, _, hr', ?_, .inl ⟨rfl, rfl, hroom⟩, ⟨rfl, rfl, rfl, by simp, fun i _ hn => setRow_other w g i _ (fun e => hn e)⟩⟩
      refine ⟨⟨l ++ k ++ ys.drop (l.length + m), by simp; omega, by rw [List.take_left' rfl], ?_⟩, hb.big⟩
      rw [setRow_heap w g _ _ e _ hy3]
      congr 2
      apply congrArg List.toArray
      simp only [hz1, Nat.mul_one, List.toList_toArray, u8s_take, u8s_drop, u8s_length, hkl, u8s_append, hy2]
    · have holds : ∀ j u, (u8s l)[j]? = some u → w.cell? ((⟨g, 0, none⟩ : Addr).add j) = some u := by
        intro j u hu
        rw [Addr.add_lit, Nat.zero_add]
        exact (byt_row hb).cell hu
      have hr' := run_append_grow (P := P) w t ty e i (.int .u8 0) ht hi hz ⟨g, 0, none⟩ l.length c (u8s l) (by rw [u8s_length, hz1]; omega) holds ad m d (u8s k) (by rw [u8s_length, hz1, hkl]; omega) hnews (by omega) (by omega) (growslice_fits (by omega) (by rw [hz2]; omega))
      have hge := grownCap_ge w (l.length + m) c e
      have hcm : grownCap w (l.length + m) c e ≤ maxLen := grownCap_le_maxLen w (l.length + m) c e (by unfold maxLen; omega)
      generalize grownCap w (l.length + m) c e = cap at hr' hge hcm
      refine ⟨w.heap.size, cap, _, hr', ?_, .inr ⟨rfl, by omega⟩, ⟨rfl, rfl, rfl, by simp, fun i hi _ => heap_alloc_old w.drew _ hi⟩⟩
      refine ⟨⟨l ++ k ++ List.replicate (cap - (l.length + m)) 0, by simp; omega, by rw [List.take_left' rfl], ?_⟩, by simpa only [maxLen] using hcm⟩
      rw [show w.heap.size = w.drew.heap.size from rfl, heap_alloc_new w.drew _]
      congr 2
      apply Array.ext'
      apply List.ext_getElem
      · simp [Builtin.zeroCells, Value.cells]
      · intro j h1 h2
        simp only [u8s_append, Array.toList_append, List.toList_toArray]
        simp only [List.getElem_append]
        split
        · rfl
        · simp [u8s, Builtin.zeroCells, Value.cells, Nat.mod_one]
theorem wpList_app_b (w : World) (hgd : o.guard = none) (s x : Operand) (t : TypeId)
    (ho : o.op = .call { callee := .builtin .append, args := #[s, x], argTypes := #[t, t] })
    (e : TypeId) (ht : P.underlying t = some (.slice e)) (hinfo : (P.info? e).map (fun i => (i.zero, i.size, i.bytes)) = some (some (.int .u8 0), 1, 1))
    (g n c : Nat) (l : List UInt8) (hs : a.eval s = .slice (some ⟨g, 0, none⟩) n c) (hb : Byt w g e c l) (hn : l.length = n)
    (A : Option Addr) (m d : Nat) (k : List UInt8) (hx : a.eval x = .slice A m d) (hr : Rd w A m d 1 (u8s k)) (hsz : n + m ≤ 1000000000)
    (h : ∀ g' c' w', Byt w' g' e c' (l ++ k) → ((g' = g ∧ c' = c ∧ n + m ≤ c) ∨ (g' = w.heap.size ∧ c < n + m)) → Ch (fun i => i = g) w w' → wpList P ops Q rest (a.put o.dst (.slice (some ⟨g', 0, none⟩) (n + m) c')) w') : wpList P ops Q (o :: rest) a w := by
  subst hn
  obtain ⟨g', c', w', hrun, h1, h2, h3⟩ := run_app_b (P := P) w t o.type e ht hinfo g c l hb A m d k hr hsz
  refine wpList_plain hgd fun K hK => ?_
  unfold Oper.wp execOp
  simp only [ho, resolve, invoke, builtin, Sem.run_bind, Sem.run_pure, Result.andThen_ok, List.map_toArray, List.map_cons, List.map_nil, hs, hx, hrun]
  exact hK _ _ (h g' c' w' h1 h2 h3)
end

end Go.Proofs.Ytadcahnoghnkcaa
