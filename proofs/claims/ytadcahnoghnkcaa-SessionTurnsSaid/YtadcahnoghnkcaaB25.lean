/- A session as lists: what it has, what its calls make of it; and where it lies. Conditions: the session is as New makes it. -/
import Derived.Test.YtadcahnoghnkcaaB11
import Derived.Test.YtadcahnoghnkcaaB18
namespace Go.Proofs.Ytadcahnoghnkcaa
open Go.RowKit
set_option linter.unusedVariables false
set_option linter.unusedSimpArgs false

/-- a body in the queue: was it out, how many ticks ago -/
abbrev Qx := List UInt8 × Bool × Int
structure Ab where
  ep : Int
  pe : Int
  q : List Qx
  ba : Nat
  ca : Int
  ow : Bool
  inn : List (List UInt8)
  tu : Int
def Ab.send (a : Ab) (l : List UInt8) : Int × Ab :=
  if 400 < l.length then (3, a) else if a.pe = 0 then (9, a) else if a.q.length = 8 then (8, a) else (0, { a with q := a.q ++ [(l, false, 0)] })
def tickX (x : Qx) : Qx := (x.1, x.2.1, if x.2.1 then x.2.2 + 1 else x.2.2)
def Ab.tick (a : Ab) : Ab := { a with q := a.q.map tickX }
def dueX (x : Qx) : Bool := !(x.2.1 && decide (x.2.2 < 4))
def outX (x : Qx) : Qx := if dueX x then (x.1, true, 0) else x
def outPk (a : Ab) : Nat → List Qx → List Pk
  | _, [] => []
  | k, x :: t => if dueX x then ⟨a.ep, a.pe, (a.ba : Int) + (k : Int), a.ca, x.1⟩ :: outPk a (k + 1) t else outPk a (k + 1) t
def Ab.outP (a : Ab) : List Pk := if (outPk a 0 a.q).length = 0 ∧ (a.ow = true ∨ a.pe = 0) then [⟨a.ep, a.pe, 0, a.ca, []⟩] else outPk a 0 a.q
def Ab.out (a : Ab) : Ab := { a with q := a.q.map outX, ow := false }
def Ab.bad (a : Ab) (p : Pk) : Prop := p.fr < 1 ∨ 1099511627776 < p.fr ∨ p.fr < a.pe ∨ p.to < 0 ∨ p.nu < 0 ∨ p.ac < 0 ∨ 1099511627776 < p.nu ∨ 400 < p.l.length
instance (a : Ab) (p : Pk) : Decidable (a.bad p) := by unfold Ab.bad; infer_instance
def Ab.turned (a : Ab) (x : Int) : Ab := { a with pe := x, q := [], ba := 1, ca := 0, ow := true, tu := a.tu + 1 }
def Ab.acked (a : Ab) (ac : Int) : Ab := if (a.ba : Int) ≤ ac ∧ ac < a.ba + a.q.length then { a with q := a.q.drop (ac.toNat + 1 - a.ba), ba := ac.toNat + 1 } else a
def Ab.meets (a : Ab) (p : Pk) : Ab := if a.pe < p.fr then a.turned p.fr else a
def Ab.recv (a : Ab) (p : Pk) : Ab :=
  if a.bad p then a else
  if p.to ≠ a.ep then { a.meets p with ow := true } else
  if p.nu = 0 then (a.meets p).acked p.ac else
  if p.nu = ((a.meets p).acked p.ac).ca + 1 then { (a.meets p).acked p.ac with ow := true, ca := p.nu, inn := ((a.meets p).acked p.ac).inn ++ [p.l] }
  else { (a.meets p).acked p.ac with ow := true }
def Ab.take (a : Ab) : Ab := { a with inn := [] }

/-- the place p holds x; blocks of bodies have the mark 1 -/
structure PlI (w : World) (T : Nat → Nat) (p : Pl) (x : Qx) : Prop where
  o : p.o = x.2.1
  t : p.t = x.2.2
  held : Held w 0 p.A p.n p.c x.1
  tag : ∀ b, p.A = some b → T b.block = 1
structure SesI (w : World) (B : Nat) (T : Nat → Nat) (t M : Nat) (a : Ab) (s : Ses) (ls : List (List UInt8 × Option Addr × Nat × Nat)) : Prop where
  mem : SesB w B s
  tag : T B = t
  t1 : t ≠ 1
  ep : s.ep = a.ep
  pe : s.pe = a.pe
  ba : s.ba = a.ba
  ma : s.ma = a.q.length
  ca : s.ca = a.ca
  ow : s.ow = a.ow
  tu : s.tu = a.tu
  q : ∀ k x, a.q[k]? = some x → PlI w T (s.r ((a.ba + k) % 8)) x
  ts : ∀ j, 0 ≤ (s.r j).t ∧ (s.r j).t ≤ (M : Int)
  inn : Lists w 0 s.inn ls
  inl : ls.map (·.1) = a.inn
  row : ∀ k, s.inn.ownBlock = some k → T k = t ∧ k ≠ B
  bod : ∀ p ∈ ls, ∀ b, p.2.1 = some b → T b.block = 1
  q8 : a.q.length ≤ 8
  qn : ∀ x ∈ a.q, x.1.length ≤ 400
  baM : a.ba ≤ M
  caM : 0 ≤ a.ca ∧ a.ca ≤ M
  tuM : 0 ≤ a.tu ∧ a.tu ≤ M
  inM : a.inn.length ≤ M
def SesA (w : World) (B : Nat) (T : Nat → Nat) (t M : Nat) (a : Ab) : Prop := ∃ s ls, SesI w B T t M a s ls
/-- marks that agree on what was there -/
def Agr (n : Nat) (T T' : Nat → Nat) : Prop := ∀ k, k < n → T' k = T k
theorem agr_refl (n : Nat) (T : Nat → Nat) : Agr n T T := fun _ _ => rfl
theorem agr_trans {n m : Nat} {T T' T'' : Nat → Nat} (h : Agr n T T') (h' : Agr m T' T'') (hm : n ≤ m) : Agr n T T'' := fun k hk => (h' k (Nat.lt_of_lt_of_le hk hm)).trans (h k hk)
/-- new blocks get marks -/
def ext (T : Nat → Nat) (n : Nat) (g : Nat → Nat) : Nat → Nat := fun k => if k < n then T k else g k
theorem agr_ext (T : Nat → Nat) (n : Nat) (g : Nat → Nat) : Agr n T (ext T n g) := fun k hk => if_pos hk
theorem ext_new (T : Nat → Nat) (n : Nat) (g : Nat → Nat) {k : Nat} (h : n ≤ k) : ext T n g k = g k := if_neg (Nat.not_lt.2 h)
theorem lists_keep {S : Nat → Prop} {w w' : World} {base : Nat} {v : Value} {ls : List (List UInt8 × Option Addr × Nat × Nat)} (h : Lists w base v ls) (hc : Ch S w w') (hr : ∀ k, v.ownBlock = some k → ¬ S k) (hb : ∀ p ∈ ls, ∀ b, p.2.1 = some b → ¬ S b.block) : Lists w' base v ls :=
  ⟨own_ch h.own hc hr, fun p hp => ⟨held_ch (h.each p hp).1 hc (fun a ha => hb p hp a ha), (h.each p hp).2⟩⟩
theorem PlI.keep {S : Nat → Prop} {w w' : World} {T T' : Nat → Nat} {p : Pl} {x : Qx} (h : PlI w T p x) (hc : Ch S w w') (hS : ∀ k, T k = 1 → ¬ S k) (hT : Agr w.heap.size T T') : PlI w' T' p x :=
  ⟨h.o, h.t, held_ch h.held hc (fun a ha => hS _ (h.tag a ha)), fun b hb => (hT _ (held_lt h.held b hb).2).trans (h.tag b hb)⟩
theorem SesI.keep {S : Nat → Prop} {w w' : World} {B : Nat} {T T' : Nat → Nat} {t M : Nat} {a : Ab} {s : Ses} {ls : List (List UInt8 × Option Addr × Nat × Nat)} (h : SesI w B T t M a s ls) (hc : Ch S w w') (hS : ∀ k, T k = t ∨ T k = 1 → ¬ S k) (hT : Agr w.heap.size T T') : SesI w' B T' t M a s ls :=
  { h with
    mem := sesB_ch h.mem hc (hS _ (.inl h.tag))
    tag := (hT _ (blk_lt h.mem)).trans h.tag
    q := fun k x hx => (h.q k x hx).keep hc (fun i hi => hS i (.inr hi)) hT
    inn := lists_keep h.inn hc (fun k hk => hS k (.inl (h.row k hk).1)) (fun p hp b hb => hS _ (.inr (h.bod p hp b hb)))
    row := fun k hk => ⟨(hT _ (h.inn.own.lt k hk).2).trans (h.row k hk).1, (h.row k hk).2⟩
    bod := fun p hp b hb => (hT _ (held_lt (h.inn.each p hp).1 b hb).2).trans (h.bod p hp b hb) }
theorem SesI.up {w : World} {B : Nat} {T : Nat → Nat} {t M M' : Nat} {a : Ab} {s : Ses} {ls : List (List UInt8 × Option Addr × Nat × Nat)} (h : SesI w B T t M a s ls) (hM : M ≤ M') : SesI w B T t M' a s ls :=
  { h with
    ts := fun j => by have := h.ts j; omega
    baM := by have := h.baM; omega
    caM := by have := h.caM; omega
    tuM := by have := h.tuM; omega
    inM := by have := h.inM; omega }
theorem SesA.keep {S : Nat → Prop} {w w' : World} {B : Nat} {T T' : Nat → Nat} {t M : Nat} {a : Ab} (h : SesA w B T t M a) (hc : Ch S w w') (hS : ∀ k, T k = t ∨ T k = 1 → ¬ S k) (hT : Agr w.heap.size T T') : SesA w' B T' t M a := by
  obtain ⟨s, ls, h⟩ := h
  exact ⟨s, ls, h.keep hc hS hT⟩
theorem SesA.up {w : World} {B : Nat} {T : Nat → Nat} {t M M' : Nat} {a : Ab} (h : SesA w B T t M a) (hM : M ≤ M') : SesA w B T t M' a := by
  obtain ⟨s, ls, h⟩ := h
  exact ⟨s, ls, h.up hM⟩
theorem SesA.below {w w' : World} {B : Nat} {T T' : Nat → Nat} {t M : Nat} {a : Ab} (h : SesA w B T t M a) (hb : Below w.heap.size w w') (hT : Agr w.heap.size T T') : SesA w' B T' t M a := h.keep (Ch.of_below hb No) (fun _ _ => id) hT
theorem SesA.lt {w : World} {B : Nat} {T : Nat → Nat} {t M : Nat} {a : Ab} (h : SesA w B T t M a) : B < w.heap.size := by
  obtain ⟨s, ls, h⟩ := h
  exact blk_lt h.mem
theorem SesA.tag {w : World} {B : Nat} {T : Nat → Nat} {t M : Nat} {a : Ab} (h : SesA w B T t M a) : T B = t := by
  obtain ⟨s, ls, h⟩ := h
  exact h.tag

/-- what a call may change: blocks of the mark t -/
abbrev Own (T : Nat → Nat) (t : Nat) : Nat → Prop := fun k => T k = t
theorem agr_ch {S : Nat → Prop} {w w' : World} {T T' : Nat → Nat} {t : Nat} (hT : Agr w.heap.size T T') (h : Ch S w w') {w2 : World} (h2 : Ch (Own T' t) w' w2) (hS : ∀ k, S k → T k = t) : Ch (Own T t) w w2 := by
  refine (h.mono (S' := Own T t) (fun i _ hi => hS i hi)).trans h2 (fun i hi => ?_)
  rcases Nat.lt_or_ge i w.heap.size with h | h
  · exact .inl ((hT i h).symm.trans hi)
  · exact .inr h

theorem sesI_places {w : World} {B : Nat} {T : Nat → Nat} {t M : Nat} {a : Ab} {s : Ses} {ls : List (List UInt8 × Option Addr × Nat × Nat)} (h : SesI w B T t M a s ls) {k : Nat} (hk : k < s.ma) : ∃ x, a.q[k]? = some x ∧ PlI w T (s.r ((s.ba + k) % 8)) x := by
  have hk' : k < a.q.length := by rw [← h.ma]; exact hk
  refine ⟨a.q[k]'hk', by simp, ?_⟩
  rw [h.ba]
  exact h.q k _ (by simp)

/- Send -/
theorem sendA {w : World} {B : Nat} {T : Nat → Nat} {t M : Nat} {a : Ab} (h : SesA w B T t M a) (h0 : a.ep ≠ 0) (hM : M ≤ 1000000) (A : Option Addr) (n c : Nat) (l : List UInt8) (hr : Rd w A n c 1 (u8s l)) :
    Calls Try.prog 15 #[.pointer (some ⟨B, 0, none⟩), .slice A n c] w fun e w' => e = .returned (.int .i64 (a.send l).1) ∧ ∃ T', Agr w.heap.size T T' ∧ SesA w' B T' t M (a.send l).2 ∧ Ch (Own T t) w w' := by
  obtain ⟨s, ls, h⟩ := h
  have hl : l.length = n := by have := hr.len; simpa using this
  refine (ssend_any h.mem (by rw [h.ep]; exact h0) A n c l hr (by rw [h.ma]; exact h.q8) (by rw [h.ba]; have := h.baM; omega)).mono ?_
  rintro e w' (⟨h1, rfl, rfl⟩ | ⟨h1, h2, rfl, rfl⟩ | ⟨h1, h2, h3, rfl, rfl⟩ | ⟨h1, h2, h3, rfl, A', c', hs, hh, hc⟩)
  · have e1 : a.send l = (3, a) := by unfold Ab.send; rw [if_pos (by omega)]
    rw [e1]
    exact ⟨rfl, T, agr_refl _ _, ⟨s, ls, h⟩, Ch.refl _ _⟩
  · have e1 : a.send l = (9, a) := by unfold Ab.send; rw [if_neg (by omega), if_pos (by rw [← h.pe]; exact h2)]
    rw [e1]
    exact ⟨rfl, T, agr_refl _ _, ⟨s, ls, h⟩, Ch.refl _ _⟩
  · have e1 : a.send l = (8, a) := by unfold Ab.send; rw [if_neg (by omega), if_neg (by rw [← h.pe]; exact h2), if_pos (by rw [← h.ma]; exact h3)]
    rw [e1]
    exact ⟨rfl, T, agr_refl _ _, ⟨s, ls, h⟩, Ch.refl _ _⟩
  · have e1 : a.send l = (0, { a with q := a.q ++ [(l, false, 0)] }) := by unfold Ab.send; rw [if_neg (by omega), if_neg (by rw [← h.pe]; exact h2), if_neg (by rw [← h.ma]; exact h3)]
    rw [e1]
    have hT := agr_ext T w.heap.size (fun _ => 1)
    have hcT : Ch (Own T t) w w' := hc.mono (fun i _ hi => by rw [hi]; exact h.tag)
    have hS : ∀ k, T k = 1 → ¬ k = B := fun k hk e => h.t1 (by rw [← h.tag, ← e, hk])
    refine ⟨rfl, ext T w.heap.size (fun _ => 1), hT, ⟨{ s with r := upd s.r ((s.ba + s.ma) % 8) ⟨A', n, c', false, 0⟩, ma := s.ma + 1 }, ls, ?_⟩, hcT⟩
    have hq8 := h.q8
    have hma := h.ma
    refine { mem := hs, tag := (hT _ (blk_lt h.mem)).trans h.tag, t1 := h.t1, ep := h.ep, pe := h.pe, ba := h.ba, ma := by simp [h.ma], ca := h.ca, ow := h.ow, tu := h.tu, q := ?_, ts := ?_, inn := ?_, inl := h.inl, row := ?_, bod := ?_, q8 := by simp; omega, qn := ?_, baM := h.baM, caM := h.caM, tuM := h.tuM, inM := h.inM }
    · intro k x hx
      have hkl : k < a.q.length + 1 := by
        have := (List.getElem?_eq_some_iff.1 hx).1
        simpa using this
      rcases Nat.lt_or_ge k a.q.length with hk | hk
      · rw [List.getElem?_append_left hk] at hx
        have hne : (a.ba + k) % 8 ≠ (s.ba + s.ma) % 8 := by rw [h.ba]; omega
        show PlI w' _ (upd s.r ((s.ba + s.ma) % 8) ⟨A', n, c', false, 0⟩ ((a.ba + k) % 8)) x
        rw [upd_off _ _ hne]
        exact (h.q k x hx).keep hc hS hT
      · obtain rfl : k = a.q.length := by omega
        rw [List.getElem?_append_right (Nat.le_refl _)] at hx
        simp only [Nat.sub_self, List.getElem?_cons_zero, Option.some.injEq] at hx
        subst hx
        show PlI w' _ (upd s.r ((s.ba + s.ma) % 8) ⟨A', n, c', false, 0⟩ ((a.ba + a.q.length) % 8)) _
        rw [h.ba, h.ma, upd_at]
        exact ⟨rfl, rfl, held_base hh (fun _ _ => Nat.zero_le _), fun b hb => ext_new _ _ _ (held_lt hh b hb).1⟩
    · intro j
      show 0 ≤ (upd s.r ((s.ba + s.ma) % 8) ⟨A', n, c', false, 0⟩ j).t ∧ (upd s.r ((s.ba + s.ma) % 8) ⟨A', n, c', false, 0⟩ j).t ≤ (M : Int)
      unfold upd
      split
      · exact ⟨Int.le_refl _, by show (0 : Int) ≤ (M : Int); omega⟩
      · exact h.ts j
    · exact lists_keep h.inn hc (fun k hk => (h.row k hk).2) (fun p hp b hb => hS _ (h.bod p hp b hb))
    · intro k hk
      exact ⟨(hT _ (h.inn.own.lt k hk).2).trans (h.row k hk).1, (h.row k hk).2⟩
    · intro p hp b hb
      exact (hT _ (held_lt (h.inn.each p hp).1 b hb).2).trans (h.bod p hp b hb)
    · intro x hx
      rcases List.mem_append.1 hx with hx | hx
      · exact h.qn x hx
      · rw [List.mem_singleton] at hx
        subst hx
        show l.length ≤ 400
        omega

/- Tick -/
def tickP (p : Pl) : Pl := if p.o then { p with t := p.t + 1 } else p
theorem tickR_in (s : Ses) : ∀ m, m ≤ 8 → ∀ j, tickR s m j = s.r j ∨ tickR s m j = tickP (s.r j) := by
  intro m
  induction m with
  | zero => intro _ j; exact .inl rfl
  | succ m ih =>
    intro hm j
    have h1 := tickR_at s (k := m) (by omega)
    unfold tickR
    rw [h1]
    split
    · rename_i ho
      by_cases hj : j = (s.ba + m) % 8
      · subst hj
        rw [upd_at]
        exact .inr (by unfold tickP; rw [if_pos ho])
      · rw [upd_off _ _ hj]
        exact ih (by omega) j
    · exact ih (by omega) j
theorem tickR_hit (s : Ses) {k : Nat} : ∀ m, m ≤ 8 → k < m → tickR s m ((s.ba + k) % 8) = tickP (s.r ((s.ba + k) % 8)) := by
  intro m
  induction m with
  | zero => intro _ h; omega
  | succ m ih =>
    intro hm hk
    have h1 := tickR_at s (k := m) (by omega)
    unfold tickR
    rw [h1]
    rcases Nat.lt_or_ge k m with hkm | hkm
    · split
      · rw [upd_off _ _ (by omega)]
        exact ih (by omega) hkm
      · exact ih (by omega) hkm
    · obtain rfl : k = m := by omega
      split
      · rename_i ho
        rw [upd_at]
        unfold tickP
        rw [if_pos ho]
      · rename_i ho
        rw [h1]
        unfold tickP
        rw [if_neg ho]
theorem tickA {w : World} {B : Nat} {T : Nat → Nat} {t M : Nat} {a : Ab} (h : SesA w B T t M a) (h0 : a.ep ≠ 0) (hM : M ≤ 1000000) :
    Calls Try.prog 26 #[.pointer (some ⟨B, 0, none⟩)] w fun e w' => e = .returned (.tuple #[]) ∧ SesA w' B T t (M + 1) a.tick ∧ Ch (Own T t) w w' := by
  obtain ⟨s, ls, h⟩ := h
  have hq8 := h.q8
  have hma := h.ma
  refine (stick_any h.mem (by rw [h.ep]; exact h0) (by rw [h.ma]; exact h.q8) (by rw [h.ba]; have := h.baM; omega) (fun j => by have := h.ts j; omega)).mono ?_
  rintro e w' ⟨rfl, hs, hc⟩
  have hS : ∀ k, T k = 1 → ¬ k = B := fun k hk e => h.t1 (by rw [← h.tag, ← e, hk])
  refine ⟨rfl, ⟨{ s with r := tickR s s.ma }, ls, ?_⟩, hc.mono (fun i _ hi => by rw [hi]; exact h.tag)⟩
  refine { mem := hs, tag := h.tag, t1 := h.t1, ep := h.ep, pe := h.pe, ba := h.ba, ma := by simp [h.ma, Ab.tick], ca := h.ca, ow := h.ow, tu := h.tu, q := ?_, ts := ?_, inn := ?_, inl := h.inl, row := h.row, bod := h.bod, q8 := by simp [Ab.tick]; omega, qn := ?_, baM := by have := h.baM; show a.ba ≤ M + 1; omega, caM := by have := h.caM; show 0 ≤ a.ca ∧ a.ca ≤ ((M + 1 : Nat) : Int); omega, tuM := by have := h.tuM; show 0 ≤ a.tu ∧ a.tu ≤ ((M + 1 : Nat) : Int); omega, inM := by have := h.inM; show a.inn.length ≤ M + 1; omega }
  · intro k x hx
    have hx' : (a.q.map tickX)[k]? = some x := hx
    rw [List.getElem?_map, Option.map_eq_some_iff] at hx'
    obtain ⟨y, hy, rfl⟩ := hx'
    have hk : k < a.q.length := (List.getElem?_eq_some_iff.1 hy).1
    have hp := h.q k y hy
    show PlI w' T (tickR s s.ma ((a.ba + k) % 8)) _
    rw [← h.ba, tickR_hit s s.ma (by omega) (by omega), h.ba]
    have ho := hp.o
    have ht := hp.t
    unfold tickP
    by_cases hb : y.2.1 = true
    · rw [if_pos (by rw [ho]; exact hb)]
      exact ⟨ho, by show _ + 1 = _; rw [ht]; unfold tickX; rw [if_pos hb], held_ch hp.held hc (fun b hb => hS _ (hp.tag b hb)), hp.tag⟩
    · rw [if_neg (by rw [ho]; exact hb)]
      exact ⟨ho, by rw [ht]; unfold tickX; rw [if_neg hb], held_ch hp.held hc (fun b hb => hS _ (hp.tag b hb)), hp.tag⟩
  · intro j
    have := h.ts j
    show 0 ≤ (tickR s s.ma j).t ∧ (tickR s s.ma j).t ≤ ((M + 1 : Nat) : Int)
    rcases tickR_in s s.ma (by omega) j with e | e
    · rw [e]; omega
    · rw [e]
      unfold tickP
      split
      · show 0 ≤ (s.r j).t + 1 ∧ (s.r j).t + 1 ≤ _
        omega
      · omega
  · exact lists_keep h.inn hc (fun k hk => (h.row k hk).2) (fun p hp b hb => hS _ (h.bod p hp b hb))
  · intro x hx
    have hx' : x ∈ a.q.map tickX := hx
    obtain ⟨y, hy, rfl⟩ := List.mem_map.1 hx'
    exact h.qn y hy

/- Out -/
theorem outPk_snoc (a : Ab) (x : Qx) : ∀ (l : List Qx) (k : Nat), outPk a k (l ++ [x]) = outPk a k l ++ (if dueX x then [⟨a.ep, a.pe, (a.ba : Int) + ((k + l.length : Nat) : Int), a.ca, x.1⟩] else []) := by
  intro l
  induction l with
  | nil => intro k; simp only [List.nil_append, outPk, List.length_nil, Nat.add_zero]
  | cons y t ih =>
    intro k
    have h1 := ih (k + 1)
    rw [show k + 1 + t.length = k + (y :: t).length by simp; omega] at h1
    simp only [List.cons_append, outPk, h1]
    split
    · simp
    · rfl
def outPl (p : Pl) : Pl := if due p then { p with o := true, t := 0 } else p
theorem outR_in (s : Ses) : ∀ m, m ≤ 8 → ∀ j, outR s m j = s.r j ∨ outR s m j = outPl (s.r j) := by
  intro m
  induction m with
  | zero => intro _ j; exact .inl rfl
  | succ m ih =>
    intro hm j
    have h1 := outR_at s (k := m) (by omega)
    unfold outR
    rw [h1]
    split
    · rename_i ho
      by_cases hj : j = (s.ba + m) % 8
      · subst hj
        rw [upd_at]
        exact .inr (by unfold outPl; rw [if_pos ho])
      · rw [upd_off _ _ hj]
        exact ih (by omega) j
    · exact ih (by omega) j
theorem outR_hit (s : Ses) {k : Nat} : ∀ m, m ≤ 8 → k < m → outR s m ((s.ba + k) % 8) = outPl (s.r ((s.ba + k) % 8)) := by
  intro m
  induction m with
  | zero => intro _ h; omega
  | succ m ih =>
    intro hm hk
    have h1 := outR_at s (k := m) (by omega)
    unfold outR
    rw [h1]
    rcases Nat.lt_or_ge k m with hkm | hkm
    · split
      · rw [upd_off _ _ (by omega)]
        exact ih (by omega) hkm
      · exact ih (by omega) hkm
    · obtain rfl : k = m := by omega
      split
      · rename_i ho
        rw [upd_at]
        unfold outPl
        rw [if_pos ho]
      · rename_i ho
        rw [h1]
        unfold outPl
        rw [if_neg ho]
theorem due_is {w : World} {T : Nat → Nat} {p : Pl} {x : Qx} (h : PlI w T p x) : due p = dueX x := by
  unfold due dueX
  rw [h.o, h.t]
def bodies (a : Ab) (k : Nat) : List UInt8 := (a.q[k]?.map (·.1)).getD []
theorem outL_is {w : World} {B : Nat} {T : Nat → Nat} {t M : Nat} {a : Ab} {s : Ses} {ls : List (List UInt8 × Option Addr × Nat × Nat)} (h : SesI w B T t M a s ls) : ∀ k, k ≤ s.ma → outL s (bodies a) k = outPk a 0 (a.q.take k) := by
  intro k
  induction k with
  | zero => intro _; rw [List.take_zero]; rfl
  | succ k ih =>
    intro hk
    obtain ⟨x, hx, hp⟩ := sesI_places h (k := k) (by omega)
    have hkl : k < a.q.length := (List.getElem?_eq_some_iff.1 hx).1
    have hxe : a.q[k]'hkl = x := (List.getElem?_eq_some_iff.1 hx).2
    rw [List.take_succ_eq_append_getElem hkl, hxe, outPk_snoc]
    unfold outL
    rw [ih (by omega), due_is hp]
    have hb : bodies a k = x.1 := by unfold bodies; rw [hx]; rfl
    rw [hb, h.ep, h.pe, h.ba, h.ca, List.length_take, Nat.min_eq_left (by omega), Nat.zero_add]
    split
    · rfl
    · rw [List.append_nil]
theorem outAll_is {w : World} {B : Nat} {T : Nat → Nat} {t M : Nat} {a : Ab} {s : Ses} {ls : List (List UInt8 × Option Addr × Nat × Nat)} (h : SesI w B T t M a s ls) : outAll s (bodies a) = a.outP := by
  unfold outAll Ab.outP
  rw [outL_is h s.ma (Nat.le_refl _), h.ma, List.take_length, h.ep, h.pe, h.ca, h.ow]
theorem outA {w : World} {B : Nat} {T : Nat → Nat} {t M : Nat} {a : Ab} (h : SesA w B T t M a) (h0 : a.ep ≠ 0) (hM : M ≤ 1000000) :
    Calls Try.prog 16 #[.pointer (some ⟨B, 0, none⟩)] w fun e w' => ∃ v ps, e = .returned v ∧ SesA w' B T t M a.out ∧ Packs w' w.heap.size v ps ∧ ps.map (·.1) = a.outP ∧ Ch (fun k => k = B) w w' := by
  obtain ⟨s, ls, h⟩ := h
  have hq8 := h.q8
  have hma := h.ma
  have hS : ∀ k, T k = 1 → ¬ k = B := fun k hk e => h.t1 (by rw [← h.tag, ← e, hk])
  refine (sout_any h.mem (by rw [h.ep]; exact h0) (by rw [h.ma]; exact h.q8) (by rw [h.ba]; have := h.baM; omega) (bodies a) (fun k hk => ?_)).mono ?_
  · obtain ⟨x, hx, hp⟩ := sesI_places h hk
    have hb : bodies a k = x.1 := by unfold bodies; rw [hx]; rfl
    rw [hb]
    refine ⟨held_rd hp.held, ?_, fun b hb => hS _ (hp.tag b hb)⟩
    have h1 := held_len hp.held
    have h2 := h.qn x (List.mem_of_getElem? hx)
    omega
  rintro e w' ⟨v, ps, rfl, hs, hpk, hmap, hc⟩
  refine ⟨v, ps, rfl, ⟨{ s with r := outR s s.ma, ow := false }, ls, ?_⟩, hpk, hmap.trans (outAll_is h), hc⟩
  refine { mem := hs, tag := h.tag, t1 := h.t1, ep := h.ep, pe := h.pe, ba := h.ba, ma := by simp [h.ma, Ab.out], ca := h.ca, ow := rfl, tu := h.tu, q := ?_, ts := ?_, inn := ?_, inl := h.inl, row := h.row, bod := h.bod, q8 := by simp [Ab.out]; omega, qn := ?_, baM := h.baM, caM := h.caM, tuM := h.tuM, inM := h.inM }
  · intro k x hx
    have hx' : (a.q.map outX)[k]? = some x := hx
    rw [List.getElem?_map, Option.map_eq_some_iff] at hx'
    obtain ⟨y, hy, rfl⟩ := hx'
    have hk : k < a.q.length := (List.getElem?_eq_some_iff.1 hy).1
    have hp := h.q k y hy
    show PlI w' T (outR s s.ma ((a.ba + k) % 8)) _
    rw [← h.ba, outR_hit s s.ma (by omega) (by omega), h.ba]
    have hd := due_is hp
    unfold outPl outX
    rw [hd]
    split
    · exact ⟨rfl, rfl, held_ch hp.held hc (fun b hb => hS _ (hp.tag b hb)), hp.tag⟩
    · exact ⟨hp.o, hp.t, held_ch hp.held hc (fun b hb => hS _ (hp.tag b hb)), hp.tag⟩
  · intro j
    have := h.ts j
    show 0 ≤ (outR s s.ma j).t ∧ (outR s s.ma j).t ≤ (M : Int)
    rcases outR_in s s.ma (by omega) j with e | e
    · rw [e]; exact this
    · rw [e]
      unfold outPl
      split
      · exact ⟨Int.le_refl _, by show (0 : Int) ≤ _; omega⟩
      · exact this
  · exact lists_keep h.inn hc (fun k hk => (h.row k hk).2) (fun p hp b hb => hS _ (h.bod p hp b hb))
  · intro x hx
    have hx' : x ∈ a.q.map outX := hx
    obtain ⟨y, hy, rfl⟩ := List.mem_map.1 hx'
    have := h.qn y hy
    unfold outX
    split
    · exact this
    · exact this
/- Take -/
theorem takeA {w : World} {B : Nat} {T : Nat → Nat} {t M : Nat} {a : Ab} (h : SesA w B T t M a) (h0 : a.ep ≠ 0) :
    Calls Try.prog 27 #[.pointer (some ⟨B, 0, none⟩)] w fun e w' => ∃ v ls, e = .returned v ∧ SesA w' B T t M a.take ∧ Lists w' 0 v ls ∧ ls.map (·.1) = a.inn ∧ (∀ k, v.ownBlock = some k → T k = t ∧ k ≠ B) ∧ (∀ p ∈ ls, ∀ b, p.2.1 = some b → T b.block = 1) ∧ Ch (fun k => k = B) w w' := by
  obtain ⟨s, ls, h⟩ := h
  have hS : ∀ k, T k = 1 → ¬ k = B := fun k hk e => h.t1 (by rw [← h.tag, ← e, hk])
  refine (stake_any h.mem (by rw [h.ep]; exact h0)).mono ?_
  rintro e w' ⟨rfl, hs, hc⟩
  refine ⟨s.inn, ls, rfl, ⟨{ s with inn := .slice none 0 0 }, [], ?_⟩, lists_keep h.inn hc (fun k hk => (h.row k hk).2) (fun p hp b hb => hS _ (h.bod p hp b hb)), h.inl, h.row, h.bod, hc⟩
  exact { mem := hs, tag := h.tag, t1 := h.t1, ep := h.ep, pe := h.pe, ba := h.ba, ma := h.ma, ca := h.ca, ow := h.ow, tu := h.tu, q := fun k x hx => ⟨(h.q k x hx).o, (h.q k x hx).t, held_ch (h.q k x hx).held hc (fun b hb => hS _ ((h.q k x hx).tag b hb)), (h.q k x hx).tag⟩, ts := h.ts, inn := lists_nil _ _, inl := rfl, row := (fun k hk => by cases hk), bod := (fun p hp => by cases hp), q8 := h.q8, qn := h.qn, baM := h.baM, caM := h.caM, tuM := h.tuM, inM := Nat.zero_le _ }
end Go.Proofs.Ytadcahnoghnkcaa
