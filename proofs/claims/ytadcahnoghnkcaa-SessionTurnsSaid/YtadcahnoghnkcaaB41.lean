/- The plain law of two sessions, further: once nothing is lost, all comes in one round; an end that begins anew meets the other one. No conditions. -/
import Derived.Test.YtadcahnoghnkcaaB27
import Derived.Test.YtadcahnoghnkcaaB26
namespace Go.Proofs.Ytadcahnoghnkcaa
set_option linter.unusedVariables false
set_option linter.unusedSimpArgs false

structure Pair (a b : Ab) (S S' t t' : List (List UInt8)) : Prop where
  both : Both a b S S' (t ++ b.inn) (t' ++ a.inn)
  e1 : 1 ≤ a.ep ∧ a.ep ≤ 1099511627776
  e2 : 1 ≤ b.ep ∧ b.ep ≤ 1099511627776
  s1 : S.length ≤ 1000000
  s2 : S'.length ≤ 1000000
theorem Pair.swap {a b : Ab} {S S' t t' : List (List UInt8)} (h : Pair a b S S' t t') : Pair b a S' S t' t := ⟨⟨h.both.ba, h.both.ab⟩, h.e2, h.e1, h.s2, h.s1⟩
theorem not_bad {a b : Ab} {S : List (List UInt8)} {p : Pk} (hp : Fly a b S p) (h : b.pe = a.ep) (h1 : 1 ≤ a.ep ∧ a.ep ≤ 1099511627776) (h3 : 1 ≤ b.ep) (h4 : S.length ≤ 1000000) : ¬ b.bad p := by
  have hf := hp.fr
  have ht := hp.to
  have ha := hp.a0
  have hn := hp.n
  have hu : 0 ≤ p.nu ∧ p.nu ≤ 1099511627776 := by
    rcases hp.nu with e | ⟨e1, e2⟩
    · omega
    · have := (List.getElem?_eq_some_iff.1 e2).1
      omega
  unfold Ab.bad
  omega
theorem recv_num {a b : Ab} {S S' t c' : List (List UInt8)} (h : Both a b S S' (t ++ b.inn) c') {p : Pk} (hp : Fly a b S p) (hb : ¬ b.bad p) (h0 : p.nu ≠ 0) (h1 : p.nu ≤ b.ca + 1) : p.nu ≤ (b.recv p).ca ∧ (b.recv p).ow = true := by
  obtain ⟨_, _, e3, _, _, _⟩ := acked_same b p.ac
  rw [recv_known b p (hp.fr.trans (h.ba.pe.symm)) hp.to, if_neg hb, if_neg h0]
  split
  · exact ⟨Int.le_refl _, rfl⟩
  · refine ⟨?_, rfl⟩
    show p.nu ≤ (b.acked p.ac).ca
    rw [e3]
    omega
theorem acked_all {a b : Ab} {S' c' : List (List UInt8)} (h : Lane b a S' c') : (b.acked (S'.length : Int)).q = [] := by
  have hl := lane_len h
  have hb := h.ba
  unfold Ab.acked
  split
  · show b.q.drop _ = []
    rw [List.drop_eq_nil_iff]
    omega
  · rename_i hc
    refine List.eq_nil_of_length_eq_zero ?_
    omega
theorem recv_ack {a b : Ab} {S S' t c' : List (List UInt8)} (h : Both a b S S' (t ++ b.inn) c') {p : Pk} (hp : Fly a b S p) (hb : ¬ b.bad p) (h0 : p.ac = S'.length) : (b.recv p).q = [] := by
  have hk := acked_all h.ba
  rw [recv_known b p (hp.fr.trans (h.ba.pe.symm)) hp.to, if_neg hb, h0]
  split
  · exact hk
  split
  · exact hk
  · exact hk
/-- packets that may be on their way, taken in one behind the other -/
theorem fold_fly {a : Ab} {S S' t c' : List (List UInt8)} : ∀ (ps : List Pk) (b : Ab), (∀ p ∈ ps, Fly a b S p) → Both a b S S' (t ++ b.inn) c' →
    Both a (ps.foldl Ab.recv b) S S' (t ++ (ps.foldl Ab.recv b).inn) c' ∧ (ps.foldl Ab.recv b).ep = b.ep ∧ (ps.foldl Ab.recv b).pe = b.pe ∧ (ps.foldl Ab.recv b).tu = b.tu ∧ b.ca ≤ (ps.foldl Ab.recv b).ca ∧ (b.ow = true → (ps.foldl Ab.recv b).ow = true) ∧ (ps.foldl Ab.recv b).q.length ≤ b.q.length := by
  intro ps
  induction ps with
  | nil => intro b _ h; exact ⟨h, rfl, rfl, rfl, Int.le_refl _, id, Nat.le_refl _⟩
  | cons p ps ih =>
    intro b hp h
    obtain ⟨k1, k2, k3, k4, k5, k6, k7⟩ := both_recv h (hp p (List.mem_cons_self ..))
    obtain ⟨j1, j2, j3, j4, j5, j6, j7⟩ := ih (b.recv p) (fun q hq => by
      have := hp q (List.mem_cons_of_mem _ hq)
      exact ⟨this.fr, this.to.trans k2.symm, this.a0, this.a1, this.nu, this.n⟩) k1
    exact ⟨j1, j2.trans k2, j3.trans k3, j4.trans k4, Int.le_trans k5 j5, fun ho => j6 (k6 ho), Nat.le_trans j7 k7⟩
theorem fold_sub : ∀ (ps : List Pk) (b : Ab) (x : Qx), x ∈ (ps.foldl Ab.recv b).q → x ∈ b.q := by
  intro ps
  induction ps with
  | nil => intro b x h; exact h
  | cons p ps ih =>
    intro b x h
    have h1 := ih (b.recv p) x h
    rcases (recv_less b p).1.q with ⟨d, _, e, _⟩ | ⟨e, _⟩
    · rw [e] at h1; exact List.mem_of_mem_drop h1
    · rw [e] at h1; cases h1
theorem fold_nil : ∀ (ps : List Pk) (b : Ab), b.q = [] → (ps.foldl Ab.recv b).q = [] := by
  intro ps b h
  refine List.eq_nil_iff_forall_not_mem.2 (fun x hx => ?_)
  have := fold_sub ps b x hx
  rw [h] at this
  cases this
/-- all that is due is taken in -/
theorem fold_due {a : Ab} {S S' t c' : List (List UInt8)} (hc : 0 ≤ a.ca) (h1 : 1 ≤ a.ep ∧ a.ep ≤ 1099511627776) (h4 : S.length ≤ 1000000) : ∀ (l : List Qx) (k : Nat) (b : Ab), a.q.drop k = l → (∀ x ∈ l, dueX x = true) → 1 ≤ b.ep → Both a b S S' (t ++ b.inn) c' → (a.ba : Int) + k ≤ b.ca + 1 → ((outPk a k l).foldl Ab.recv b).ca + 1 ≥ (a.ba : Int) + k + l.length := by
  intro l
  induction l with
  | nil =>
    intro k b _ _ _ _ h
    show b.ca + 1 ≥ _
    simp only [List.length_nil]
    omega
  | cons x l ih =>
    intro k b hk hd hbe h hca
    have hx : dueX x = true := hd x (List.mem_cons_self ..)
    have hfl := outPk_fly h.ab hc (x :: l) k hk
    unfold outPk at hfl ⊢
    rw [if_pos hx] at hfl ⊢
    have hp := hfl _ (List.mem_cons_self ..)
    have hnb := not_bad hp (h.ba.pe) h1 hbe h4
    obtain ⟨k1, k2, _⟩ := both_recv h hp
    have hb1 := h.ab.ba
    have hn := recv_num h hp hnb (by show (a.ba : Int) + (k : Int) ≠ 0; omega) (by show (a.ba : Int) + (k : Int) ≤ _; omega)
    have h9 := ih (k + 1) (b.recv _) (by rw [← List.drop_drop, hk]; rfl) (fun y hy => hd y (List.mem_cons_of_mem _ hy)) (by rw [k2]; exact hbe) k1 (by have h8 : (a.ba : Int) + (k : Int) ≤ (b.recv ⟨a.ep, a.pe, (a.ba : Int) + (k : Int), a.ca, x.1⟩).ca := hn.1; omega)
    show (List.foldl Ab.recv (b.recv _) (outPk a (k + 1) l)).ca + 1 ≥ _
    simp only [List.length_cons]
    omega
theorem outP_ne {a : Ab} (h : a.ow = true) : a.outP ≠ [] := by
  unfold Ab.outP
  split
  · exact List.cons_ne_nil _ _
  · rename_i hc
    intro e
    exact hc ⟨by rw [e]; rfl, .inl h⟩
theorem outPk_due {a : Ab} : ∀ (l : List Qx) (k : Nat), (∃ x ∈ l, dueX x = true) → outPk a k l ≠ [] := by
  intro l
  induction l with
  | nil => rintro k ⟨x, hx, _⟩; cases hx
  | cons y l ih =>
    rintro k ⟨x, hx, hd⟩
    unfold outPk
    split
    · exact List.cons_ne_nil _ _
    · rename_i hy
      refine ih (k + 1) ?_
      rcases List.mem_cons.1 hx with rfl | hx
      · exact absurd hd hy
      · exact ⟨x, hx, hd⟩
theorem outP_due {a : Ab} (h : ∃ x ∈ a.q, dueX x = true) : a.outP = outPk a 0 a.q ∧ a.outP ≠ [] := by
  have h1 := outPk_due (a := a) a.q 0 h
  have h2 : ¬ ((outPk a 0 a.q).length = 0 ∧ (a.ow = true ∨ a.pe = 0)) := fun e => h1 (List.eq_nil_of_length_eq_zero e.1)
  unfold Ab.outP
  rw [if_neg h2]
  exact ⟨rfl, h1⟩
theorem outPk_has {a : Ab} : ∀ (l : List Qx) (k : Nat), ∀ p ∈ outPk a k l, p.ac = a.ca ∧ (1 ≤ a.ba → p.nu ≠ 0) := by
  intro l
  induction l with
  | nil => intro k p hp; cases hp
  | cons x l ih =>
    intro k p hp
    unfold outPk at hp
    split at hp
    · rcases List.mem_cons.1 hp with rfl | hp
      · exact ⟨rfl, fun h => by show (a.ba : Int) + (k : Int) ≠ 0; omega⟩
      · exact ih _ p hp
    · exact ih _ p hp
theorem outP_ac {a : Ab} : ∀ p ∈ a.outP, p.ac = a.ca := by
  intro p hp
  unfold Ab.outP at hp
  split at hp
  · rw [List.mem_singleton] at hp; subst hp; rfl
  · exact (outPk_has _ _ p hp).1
/-- all that is out at one end is handed to the other one -/
theorem hands_law {a b : Ab} {S S' t t' : List (List UInt8)} (h : Pair a b S S' t t') :
    Pair a.out (a.outP.foldl Ab.recv b) S S' t t' ∧ ((∀ x ∈ a.q, dueX x = true) → (a.outP.foldl Ab.recv b).ca = S.length) ∧ (a.outP ≠ [] → a.ca = S'.length → (a.outP.foldl Ab.recv b).q = []) ∧
    ((∃ x ∈ a.q, dueX x = true) → (a.outP.foldl Ab.recv b).ow = true) ∧ b.ca ≤ (a.outP.foldl Ab.recv b).ca := by
  have hca := h.both.ba.c0
  have hfl := outP_fly h.both.ab hca
  obtain ⟨f1, f2, f3, f4, f5, f6, f7⟩ := fold_fly a.outP b hfl h.both
  have hout : Both a.out (a.outP.foldl Ab.recv b) S S' (t ++ (a.outP.foldl Ab.recv b).inn) (t' ++ a.out.inn) := by
    refine ⟨lane_src f1.ab rfl rfl ?_ ?_, lane_dst f1.ba rfl rfl⟩
    · show (a.q.map outX).map (·.1) = _
      rw [List.map_map]
      exact List.map_congr_left fun x _ => outX_fst x
    · intro x hx
      have hx' : x ∈ a.q.map outX := hx
      obtain ⟨y, hy, rfl⟩ := List.mem_map.1 hx'
      refine ⟨?_, by rw [outX_fst]; exact f1.ab.n y hy⟩
      have := f1.ab.t y hy
      unfold outX
      split
      · exact Int.le_refl _
      · exact this
  refine ⟨⟨hout, h.e1, by rw [f2]; exact h.e2, h.s1, h.s2⟩, fun hd => ?_, fun hne hac => ?_, fun hex => ?_, f5⟩
  · have hl := lane_len h.both.ab
    have hc1 := f1.ab.c1
    have hab := h.both.ab.ab
    by_cases hq : a.q = []
    · rw [hq] at hl
      simp only [List.length_nil] at hl
      omega
    · obtain ⟨e, _⟩ := outP_due (a := a) (by
        obtain ⟨x, l, hx⟩ := List.exists_cons_of_ne_nil hq
        exact ⟨x, by rw [hx]; exact List.mem_cons_self .., hd x (by rw [hx]; exact List.mem_cons_self ..)⟩)
      have h9 := fold_due hca h.e1 h.s1 a.q 0 b rfl hd h.e2.1 h.both (by omega)
      rw [← e] at h9
      omega
  · obtain ⟨p, ps, hps⟩ := List.exists_cons_of_ne_nil hne
    have hp := hfl p (by rw [hps]; exact List.mem_cons_self ..)
    have hnb := not_bad hp h.both.ba.pe h.e1 h.e2.1 h.s1
    rw [hps]
    refine fold_nil ps (b.recv p) (recv_ack h.both hp hnb ?_)
    rw [outP_ac p (by rw [hps]; exact List.mem_cons_self ..)]
    exact hac
  · obtain ⟨e, hne⟩ := outP_due hex
    obtain ⟨p, ps, hps⟩ := List.exists_cons_of_ne_nil hne
    have hp := hfl p (by rw [hps]; exact List.mem_cons_self ..)
    have hnb := not_bad hp h.both.ba.pe h.e1 h.e2.1 h.s1
    obtain ⟨k1, k2, _⟩ := both_recv h.both hp
    have hnu : p.nu ≠ 0 := (outPk_has a.q 0 p (by rw [← e, hps]; exact List.mem_cons_self ..)).2 h.both.ab.ba
    have how : (b.recv p).ow = true := by
      rw [recv_known b p (hp.fr.trans (h.both.ba.pe.symm)) hp.to, if_neg hnb, if_neg hnu]
      split <;> rfl
    rw [hps]
    exact (fold_fly ps (b.recv p) (fun q hq => by
      have := hfl q (by rw [hps]; exact List.mem_cons_of_mem _ hq)
      exact ⟨this.fr, this.to.trans k2.symm, this.a0, this.a1, this.nu, this.n⟩) k1).2.2.2.2.2.1 how
/-- behind four ticks all is due -/
theorem tick4 (x : Qx) (h : 0 ≤ x.2.2) : dueX (tickX (tickX (tickX (tickX x)))) = true := by
  obtain ⟨l, o, t⟩ := x
  cases o
  · rfl
  · have h' : 0 ≤ t := h
    show (!(true && decide (t + 1 + 1 + 1 + 1 < 4))) = true
    rw [decide_eq_false (by omega)]
    rfl
/-- once nothing is lost -/
theorem fair_law {a b : Ab} {S S' t t' : List (List UInt8)} (h : Pair a b S S' t t') (ha : ∀ x ∈ a.q, dueX x = true) (hb : ∀ x ∈ b.q, dueX x = true) {b5 a6 b7 a8 : Ab} (h5 : b5 = a.outP.foldl Ab.recv b) (h6 : a6 = b5.outP.foldl Ab.recv a.out) (h7 : b7 = a6.outP.foldl Ab.recv b5.out) (h8 : a8 = b7.outP.foldl Ab.recv a6.out) :
    a8.q = [] ∧ b7.out.q = [] ∧ t ++ b7.out.inn = S ∧ t' ++ a8.inn = S' := by
  obtain ⟨p1, d1, q1, o1, c1⟩ := hands_law h
  rw [← h5] at p1 d1 q1 o1 c1
  have hdb : ∀ x ∈ b5.q, dueX x = true := fun x hx => hb x (fold_sub a.outP b x (by rw [← h5]; exact hx))
  obtain ⟨p2, d2, q2, o2, c2⟩ := hands_law p1.swap
  rw [← h6] at p2 d2 q2 o2 c2
  obtain ⟨p3, d3, q3, o3, c3⟩ := hands_law p2.swap
  rw [← h7] at p3 d3 q3 o3 c3
  obtain ⟨p4, d4, q4, o4, c4⟩ := hands_law p3.swap
  rw [← h8] at p4 d4 q4 o4 c4
  have e5 : b5.ca = S.length := d1 ha
  have e6 : a6.ca = S'.length := d2 hdb
  have n6 : a6.q = [] := by
    by_cases hq : a.q = []
    · rw [h6]
      exact fold_nil _ _ (by show a.q.map outX = []; rw [hq]; rfl)
    · refine q2 (outP_ne (o1 ?_)) e5
      obtain ⟨x, l, hx⟩ := List.exists_cons_of_ne_nil hq
      exact ⟨x, by rw [hx]; exact List.mem_cons_self .., ha x (by rw [hx]; exact List.mem_cons_self ..)⟩
  have n7 : b7.q = [] := by
    by_cases hq : b5.q = []
    · rw [h7]
      exact fold_nil _ _ (by show b5.q.map outX = []; rw [hq]; rfl)
    · refine q3 (outP_ne (o2 ?_)) e6
      obtain ⟨x, l, hx⟩ := List.exists_cons_of_ne_nil hq
      exact ⟨x, by rw [hx]; exact List.mem_cons_self .., hdb x (by rw [hx]; exact List.mem_cons_self ..)⟩
  have n8 : a8.q = [] := by
    rw [h8]
    exact fold_nil _ _ (by show a6.q.map outX = []; rw [n6]; rfl)
  have f7 : b7.ca = S.length := by
    have g1 : b5.ca ≤ b7.ca := c3
    have g2 := p3.both.ab.c1
    omega
  have f8 : a8.ca = S'.length := by
    have g1 : a6.ca ≤ a8.ca := c4
    have g2 := p4.both.ab.c1
    omega
  refine ⟨n8, by show b7.q.map outX = []; rw [n7]; rfl, ?_, ?_⟩
  · have g := p3.both.ab.came
    rw [f7, Int.toNat_natCast, List.take_length] at g
    exact g
  · have g := p4.both.ab.came
    rw [f8, Int.toNat_natCast, List.take_length] at g
    exact g
end Go.Proofs.Ytadcahnoghnkcaa
