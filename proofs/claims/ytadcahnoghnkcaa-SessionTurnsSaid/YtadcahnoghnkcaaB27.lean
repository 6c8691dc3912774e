/- The plain law of two sessions: what is taken is the beginning of what was sent; once nothing is lost, all comes in one round. No conditions. -/
import Derived.Test.YtadcahnoghnkcaaB25
namespace Go.Proofs.Ytadcahnoghnkcaa
set_option linter.unusedVariables false
set_option linter.unusedSimpArgs false

/-- a sends to b: what was sent, and what has come -/
structure Lane (a b : Ab) (S c : List (List UInt8)) : Prop where
  pe : a.pe = b.ep
  ba : 1 ≤ a.ba
  le : a.ba ≤ S.length + 1
  q : a.q.map (·.1) = S.drop (a.ba - 1)
  t : ∀ x ∈ a.q, 0 ≤ x.2.2
  n : ∀ x ∈ a.q, x.1.length ≤ 400
  c0 : 0 ≤ b.ca
  c1 : b.ca ≤ S.length
  ab : (a.ba : Int) ≤ b.ca + 1
  came : c = S.take b.ca.toNat
/-- p is on its way from a to b -/
structure Fly (a b : Ab) (S : List (List UInt8)) (p : Pk) : Prop where
  fr : p.fr = a.ep
  to : p.to = b.ep
  a0 : 0 ≤ p.ac
  a1 : p.ac ≤ a.ca
  nu : p.nu = 0 ∨ (1 ≤ p.nu ∧ S[p.nu.toNat - 1]? = some p.l)
  n : p.l.length ≤ 400
/-- both ends know one another -/
structure Both (a b : Ab) (S S' c c' : List (List UInt8)) : Prop where
  ab : Lane a b S c
  ba : Lane b a S' c'
theorem lane_len {a b : Ab} {S c : List (List UInt8)} (h : Lane a b S c) : a.ba + a.q.length = S.length + 1 := by
  have h1 := congrArg List.length h.q
  rw [List.length_map, List.length_drop] at h1
  have := h.ba
  have := h.le
  omega
theorem lane_src {a a' b : Ab} {S c : List (List UInt8)} (h : Lane a b S c) (h1 : a'.pe = a.pe) (h2 : a'.ba = a.ba) (h3 : a'.q.map (·.1) = a.q.map (·.1)) (h4 : ∀ x ∈ a'.q, 0 ≤ x.2.2 ∧ x.1.length ≤ 400) : Lane a' b S c :=
  ⟨h1.trans h.pe, by rw [h2]; exact h.ba, by rw [h2]; exact h.le, by rw [h2, h3]; exact h.q, fun x hx => (h4 x hx).1, fun x hx => (h4 x hx).2, h.c0, h.c1, by rw [h2]; exact h.ab, h.came⟩
theorem lane_dst {a b b' : Ab} {S c : List (List UInt8)} (h : Lane a b S c) (h1 : b'.ep = b.ep) (h2 : b'.ca = b.ca) : Lane a b' S c :=
  ⟨h.pe.trans h1.symm, h.ba, h.le, h.q, h.t, h.n, by rw [h2]; exact h.c0, by rw [h2]; exact h.c1, by rw [h2]; exact h.ab, by rw [h2]; exact h.came⟩
theorem lane_acked {a b : Ab} {S c : List (List UInt8)} (h : Lane a b S c) {ac : Int} (h1 : ac ≤ b.ca) : Lane (a.acked ac) b S c := by
  unfold Ab.acked
  split
  · rename_i hc
    have hl := lane_len h
    have hb := h.ba
    have hc1 := h.c1
    refine ⟨h.pe, Nat.succ_le_succ (Nat.zero_le _), by show ac.toNat + 1 ≤ _; omega, ?_, fun x hx => h.t x (List.mem_of_mem_drop hx), fun x hx => h.n x (List.mem_of_mem_drop hx), h.c0, h.c1, by show ((ac.toNat + 1 : Nat) : Int) ≤ _; omega, h.came⟩
    show (a.q.drop (ac.toNat + 1 - a.ba)).map (·.1) = S.drop (ac.toNat + 1 - 1)
    rw [List.map_drop, h.q, List.drop_drop]
    congr 1
    omega
  · exact h
theorem acked_same (a : Ab) (ac : Int) : (a.acked ac).ep = a.ep ∧ (a.acked ac).pe = a.pe ∧ (a.acked ac).ca = a.ca ∧ (a.acked ac).tu = a.tu ∧ (a.acked ac).inn = a.inn ∧ (a.acked ac).ow = a.ow := by
  unfold Ab.acked
  split <;> exact ⟨rfl, rfl, rfl, rfl, rfl, rfl⟩
/-- what Receive does with a packet of the epoch that is known -/
theorem recv_known (b : Ab) (p : Pk) (h1 : p.fr = b.pe) (h2 : p.to = b.ep) : b.recv p = if b.bad p then b else if p.nu = 0 then b.acked p.ac else if p.nu = b.ca + 1 then { b.acked p.ac with ow := true, ca := p.nu, inn := b.inn ++ [p.l] } else { b.acked p.ac with ow := true } := by
  have hm : b.meets p = b := by unfold Ab.meets; rw [if_neg (by omega)]
  obtain ⟨_, _, e3, _, e5, _⟩ := acked_same b p.ac
  unfold Ab.recv
  rw [hm, if_neg (show ¬ p.to ≠ b.ep from fun h => h h2), e3, e5]
theorem take_snoc {S : List (List UInt8)} {n : Nat} {l : List UInt8} (h : S[n]? = some l) : S.take (n + 1) = S.take n ++ [l] := by
  have hn : n < S.length := (List.getElem?_eq_some_iff.1 h).1
  rw [List.take_succ_eq_append_getElem hn, (List.getElem?_eq_some_iff.1 h).2]
/-- a packet that is on its way from a to b is taken in -/
theorem both_recv {a b : Ab} {S S' t c' : List (List UInt8)} (h : Both a b S S' (t ++ b.inn) c') {p : Pk} (hp : Fly a b S p) :
    Both a (b.recv p) S S' (t ++ (b.recv p).inn) c' ∧ (b.recv p).ep = b.ep ∧ (b.recv p).pe = b.pe ∧ (b.recv p).tu = b.tu ∧ b.ca ≤ (b.recv p).ca ∧ (b.ow = true → (b.recv p).ow = true) ∧ (b.recv p).q.length ≤ b.q.length := by
  have hk := recv_known b p (hp.fr.trans (h.ba.pe.symm)) hp.to
  obtain ⟨e1, e2, e3, e4, e5, e6⟩ := acked_same b p.ac
  have hack := lane_acked h.ba hp.a1
  have hql : (b.acked p.ac).q.length ≤ b.q.length := by
    unfold Ab.acked
    split
    · simp
    · exact Nat.le_refl _
  rw [hk]
  split
  · exact ⟨h, rfl, rfl, rfl, Int.le_refl _, id, Nat.le_refl _⟩
  split
  · refine ⟨⟨?_, hack⟩, e1, e2, e4, by rw [e3]; exact Int.le_refl _, fun ho => e6.trans ho, hql⟩
    rw [e5]
    exact lane_dst h.ab e1 e3
  rename_i hb hn
  split
  · rename_i hc
    rcases hp.nu with h0 | ⟨h1, h2⟩
    · exact absurd h0 hn
    have h3 := h.ab.c0
    have h4 := (List.getElem?_eq_some_iff.1 h2).1
    refine ⟨⟨⟨h.ab.pe.trans e1.symm, h.ab.ba, h.ab.le, h.ab.q, h.ab.t, h.ab.n, by show 0 ≤ p.nu; omega, by show p.nu ≤ _; omega, by show _ ≤ p.nu + 1; have := h.ab.ab; omega, ?_⟩, lane_src hack rfl rfl rfl (fun x hx => ⟨hack.t x hx, hack.n x hx⟩)⟩, e1, e2, e4, by show _ ≤ p.nu; omega, fun _ => rfl, hql⟩
    show t ++ (b.inn ++ [p.l]) = S.take p.nu.toNat
    have h5 : p.nu.toNat = b.ca.toNat + 1 := by omega
    rw [← List.append_assoc, h.ab.came, h5]
    rw [h5] at h2
    exact (take_snoc h2).symm
  · refine ⟨⟨?_, lane_src hack rfl rfl rfl (fun x hx => ⟨hack.t x hx, hack.n x hx⟩)⟩, e1, e2, e4, by show _ ≤ (b.acked p.ac).ca; rw [e3]; exact Int.le_refl _, fun _ => rfl, hql⟩
    show Lane a _ S (t ++ (b.acked p.ac).inn)
    rw [e5]
    exact lane_dst h.ab e1 e3

/-- the world of two ends -/
structure Wd where
  e : Bool → Ab
  air : List (Pk × Bool)
  sent : Bool → List (List UInt8)
  took : Bool → List (List UInt8)
def bset {α : Type} (f : Bool → α) (i : Bool) (x : α) : Bool → α := fun j => if j = i then x else f j
theorem bset_at {α : Type} (f : Bool → α) (i : Bool) (x : α) : bset f i x i = x := if_pos rfl
theorem bset_off {α : Type} (f : Bool → α) (i : Bool) (x : α) : bset f i x (!i) = f (!i) := if_neg (by cases i <;> decide)
theorem bset_off' {α : Type} (f : Bool → α) (i : Bool) (x : α) : bset f (!i) x i = f i := if_neg (by cases i <;> decide)
def Wd.hand (W : Wd) (kind : Int) (k : Nat) : Wd :=
  match W.air[k]? with
  | none => W
  | some f => { e := bset W.e f.2 (if kind ≠ 5 then (W.e f.2).recv f.1 else W.e f.2).take, air := if kind ≠ 4 then W.air.eraseIdx k else W.air, sent := W.sent, took := bset W.took f.2 (W.took f.2 ++ (if kind ≠ 5 then (W.e f.2).recv f.1 else W.e f.2).inn) }
def Wd.send (W : Wd) (i : Bool) (l : List UInt8) : Wd :=
  { W with e := bset W.e i ((W.e i).send l).2, sent := if ((W.e i).send l).1 = 0 then bset W.sent i (W.sent i ++ [l]) else W.sent }
def Wd.tick (W : Wd) (i : Bool) : Wd := { W with e := bset W.e i (W.e i).tick }
def Wd.out (W : Wd) (i : Bool) : Wd := { W with e := bset W.e i (W.e i).out, air := W.air ++ ((W.e i).outP.take (200 - W.air.length)).map (fun p => (p, !i)) }
structure Inv (ep : Bool → Int) (n : Nat) (W : Wd) : Prop where
  ep : ∀ i, (W.e i).ep = ep i
  tu : ∀ i, (W.e i).tu = 1
  inn : ∀ i, (W.e i).inn = []
  lane : ∀ i, Lane (W.e i) (W.e (!i)) (W.sent i) (W.took (!i))
  air : ∀ f ∈ W.air, Fly (W.e (!f.2)) (W.e f.2) (W.sent (!f.2)) f.1
  n : ∀ i, (W.sent i).length ≤ n
theorem inv_ends {ep : Bool → Int} {n : Nat} {W : Wd} (h : Inv ep n W) (i : Bool) (a : Ab) (h1 : a.ep = (W.e i).ep) (h2 : a.pe = (W.e i).pe) (h3 : a.tu = 1) (h4 : a.inn = []) (h5 : a.ca = (W.e i).ca) (h6 : a.ba = (W.e i).ba) (h7 : a.q.map (·.1) = (W.e i).q.map (·.1)) (h8 : ∀ x ∈ a.q, 0 ≤ x.2.2 ∧ x.1.length ≤ 400) : Inv ep n { W with e := bset W.e i a } := by
  have hep : ∀ j, (bset W.e i a j).ep = (W.e j).ep ∧ (bset W.e i a j).ca = (W.e j).ca := by
    intro j
    unfold bset
    split
    · rename_i e; rw [e]; exact ⟨h1, h5⟩
    · exact ⟨rfl, rfl⟩
  refine ⟨fun j => (hep j).1.trans (h.ep j), fun j => ?_, fun j => ?_, fun j => ?_, fun f hf => ?_, h.n⟩
  · show (bset W.e i a j).tu = 1
    unfold bset
    split
    · exact h3
    · exact h.tu j
  · show (bset W.e i a j).inn = []
    unfold bset
    split
    · exact h4
    · exact h.inn j
  · show Lane (bset W.e i a j) (bset W.e i a (!j)) _ _
    refine lane_dst ?_ (hep (!j)).1 (hep (!j)).2
    unfold bset
    split
    · rename_i e
      subst e
      exact lane_src (h.lane j) h2 h6 h7 h8
    · exact h.lane j
  · have := h.air f hf
    exact ⟨this.fr.trans (hep _).1.symm, this.to.trans (hep _).1.symm, this.a0, by show _ ≤ (bset W.e i a (!f.2)).ca; rw [(hep _).2]; exact this.a1, this.nu, this.n⟩
theorem inv_tick {ep : Bool → Int} {n : Nat} {W : Wd} (h : Inv ep n W) (i : Bool) : Inv ep n (W.tick i) := by
  refine inv_ends h i _ rfl rfl (h.tu i) (h.inn i) rfl rfl ?_ ?_
  · show ((W.e i).q.map tickX).map (·.1) = _
    rw [List.map_map]
    rfl
  · intro x hx
    have hx' : x ∈ (W.e i).q.map tickX := hx
    obtain ⟨y, hy, rfl⟩ := List.mem_map.1 hx'
    refine ⟨?_, (h.lane i).n y hy⟩
    have := (h.lane i).t y hy
    show 0 ≤ (if y.2.1 then y.2.2 + 1 else y.2.2)
    split <;> omega
theorem outX_fst (x : Qx) : (outX x).1 = x.1 := by unfold outX; split <;> rfl
theorem inv_out0 {ep : Bool → Int} {n : Nat} {W : Wd} (h : Inv ep n W) (i : Bool) : Inv ep n { W with e := bset W.e i (W.e i).out } := by
  refine inv_ends h i _ rfl rfl (h.tu i) (h.inn i) rfl rfl ?_ ?_
  · show ((W.e i).q.map outX).map (·.1) = _
    rw [List.map_map]
    exact List.map_congr_left fun x _ => outX_fst x
  · intro x hx
    have hx' : x ∈ (W.e i).q.map outX := hx
    obtain ⟨y, hy, rfl⟩ := List.mem_map.1 hx'
    refine ⟨?_, by rw [outX_fst]; exact (h.lane i).n y hy⟩
    have := (h.lane i).t y hy
    unfold outX
    split
    · exact Int.le_refl _
    · exact this
/-- what goes out may be on its way -/
theorem outPk_fly {a b : Ab} {S c : List (List UInt8)} (h : Lane a b S c) (hb : 0 ≤ a.ca) : ∀ (l : List Qx) (k : Nat), a.q.drop k = l → ∀ p ∈ outPk a k l, Fly a b S p := by
  intro l
  induction l with
  | nil => intro k _ p hp; cases hp
  | cons x t ih =>
    intro k hk p hp
    have hx : a.q[k]? = some x := by
      have := congrArg (fun l => l[0]?) hk
      simpa using this
    have ht : a.q.drop (k + 1) = t := by rw [← List.drop_drop, hk]; rfl
    unfold outPk at hp
    have key : ∀ p ∈ outPk a (k + 1) t, Fly a b S p := ih (k + 1) ht
    split at hp
    · rcases List.mem_cons.1 hp with rfl | hp
      · refine ⟨rfl, h.pe, hb, Int.le_refl _, .inr ⟨?_, ?_⟩, h.n x (List.mem_of_getElem? hx)⟩
        · have := h.ba
          show 1 ≤ (a.ba : Int) + (k : Int)
          omega
        · have h1 : (a.q.map (·.1))[k]? = some x.1 := by rw [List.getElem?_map, hx]; rfl
          rw [h.q, List.getElem?_drop] at h1
          have := h.ba
          show S[((a.ba : Int) + (k : Int)).toNat - 1]? = some x.1
          rw [← h1]
          congr 1
          omega
      · exact key p hp
    · exact key p hp
theorem outP_fly {a b : Ab} {S c : List (List UInt8)} (h : Lane a b S c) (hb : 0 ≤ a.ca) : ∀ p ∈ a.outP, Fly a b S p := by
  intro p hp
  unfold Ab.outP at hp
  split at hp
  · rw [List.mem_singleton] at hp
    subst hp
    exact ⟨rfl, h.pe, hb, Int.le_refl _, .inl rfl, Nat.zero_le _⟩
  · exact outPk_fly h hb a.q 0 rfl p hp
theorem inv_out {ep : Bool → Int} {n : Nat} {W : Wd} (h : Inv ep n W) (i : Bool) : Inv ep n (W.out i) := by
  have h0 := inv_out0 h i
  refine ⟨h0.ep, h0.tu, h0.inn, h0.lane, fun f hf => ?_, h0.n⟩
  rcases List.mem_append.1 hf with hf | hf
  · exact h0.air f hf
  · obtain ⟨p, hp, rfl⟩ := List.mem_map.1 hf
    have hp' := List.mem_of_mem_take hp
    have hc : 0 ≤ (W.e i).ca := by have := (h.lane (!i)).c0; rwa [Bool.not_not] at this
    have := outP_fly (h.lane i) hc p hp'
    show Fly (bset W.e i (W.e i).out (!(!i))) (bset W.e i (W.e i).out (!i)) (W.sent (!(!i))) p
    rw [Bool.not_not, bset_at, bset_off]
    exact ⟨this.fr, this.to, this.a0, this.a1, this.nu, this.n⟩
theorem inv_up {ep : Bool → Int} {n m : Nat} {W : Wd} (h : Inv ep n W) (hm : n ≤ m) : Inv ep m W := ⟨h.ep, h.tu, h.inn, h.lane, h.air, fun i => Nat.le_trans (h.n i) hm⟩
theorem inv_send {ep : Bool → Int} {n : Nat} {W : Wd} (h : Inv ep n W) (i : Bool) (l : List UInt8) : Inv ep (n + 1) (W.send i l) := by
  unfold Wd.send Ab.send
  have same : Inv ep (n + 1) { W with e := bset W.e i (W.e i), sent := W.sent } := inv_up (inv_ends h i (W.e i) rfl rfl (h.tu i) (h.inn i) rfl rfl rfl (fun x hx => ⟨(h.lane i).t x hx, (h.lane i).n x hx⟩)) (Nat.le_succ _)
  split
  · exact same
  split
  · exact same
  split
  · exact same
  rename_i g1 g2 g3
  have hep : ∀ j, (bset W.e i { W.e i with q := (W.e i).q ++ [(l, false, 0)] } j).ep = (W.e j).ep ∧ (bset W.e i { W.e i with q := (W.e i).q ++ [(l, false, 0)] } j).ca = (W.e j).ca ∧ (bset W.e i { W.e i with q := (W.e i).q ++ [(l, false, 0)] } j).tu = (W.e j).tu ∧ (bset W.e i { W.e i with q := (W.e i).q ++ [(l, false, 0)] } j).inn = (W.e j).inn := by
    intro j
    unfold bset
    split
    · rename_i e; rw [e]; exact ⟨rfl, rfl, rfl, rfl⟩
    · exact ⟨rfl, rfl, rfl, rfl⟩
  rw [if_pos rfl]
  refine ⟨fun j => (hep j).1.trans (h.ep j), fun j => (hep j).2.2.1.trans (h.tu j), fun j => (hep j).2.2.2.trans (h.inn j), fun j => ?_, fun f hf => ?_, fun j => ?_⟩
  · show Lane (bset W.e i { W.e i with q := (W.e i).q ++ [(l, false, 0)] } j) (bset W.e i { W.e i with q := (W.e i).q ++ [(l, false, 0)] } (!j)) (bset W.sent i (W.sent i ++ [l]) j) _
    refine lane_dst ?_ (hep (!j)).1 (hep (!j)).2.1
    by_cases e : j = i
    · subst e
      rw [bset_at, bset_at]
      have L := h.lane j
      have hl := lane_len L
      have hb := L.ba
      have hc1 := L.c1
      refine ⟨L.pe, L.ba, by show (W.e j).ba ≤ _; rw [List.length_append]; have := L.le; omega, ?_, ?_, ?_, L.c0, by rw [List.length_append]; show _ ≤ (((W.sent j).length + 1 : Nat) : Int); omega, L.ab, ?_⟩
      · show ((W.e j).q ++ [(l, false, 0)]).map (fun x : Qx => x.1) = (W.sent j ++ [l]).drop ((W.e j).ba - 1)
        rw [List.map_append, L.q, List.drop_append_of_le_length (by have := L.le; omega)]
        rfl
      · intro x hx
        rcases List.mem_append.1 hx with hx | hx
        · exact L.t x hx
        · rw [List.mem_singleton] at hx; subst hx; exact Int.le_refl _
      · intro x hx
        rcases List.mem_append.1 hx with hx | hx
        · exact L.n x hx
        · rw [List.mem_singleton] at hx; subst hx; exact Nat.not_lt.1 g1
      · rw [L.came, List.take_append_of_le_length (by omega)]
    · have e1 : bset W.e i { W.e i with q := (W.e i).q ++ [(l, false, 0)] } j = W.e j := if_neg e
      have e2 : bset W.sent i (W.sent i ++ [l]) j = W.sent j := if_neg e
      rw [e1, e2]
      exact h.lane j
  · have := h.air f hf
    refine ⟨this.fr.trans (hep _).1.symm, this.to.trans (hep _).1.symm, this.a0, by show _ ≤ (bset W.e i { W.e i with q := (W.e i).q ++ [(l, false, 0)] } (!f.2)).ca; rw [(hep _).2.1]; exact this.a1, this.nu.imp id (fun ⟨k1, k2⟩ => ⟨k1, ?_⟩), this.n⟩
    show (bset W.sent i (W.sent i ++ [l]) (!f.2))[f.1.nu.toNat - 1]? = _
    unfold bset
    split
    · rename_i e
      rw [← e, List.getElem?_append_left (List.getElem?_eq_some_iff.1 k2).1]
      exact k2
    · exact k2
  · show (bset W.sent i (W.sent i ++ [l]) j).length ≤ n + 1
    unfold bset
    split
    · rw [List.length_append]; have := h.n i; show _ + 1 ≤ _; omega
    · have := h.n j; omega
theorem inv_hand {ep : Bool → Int} {n : Nat} {W : Wd} (h : Inv ep n W) (kind : Int) (k : Nat) : Inv ep n (W.hand kind k) := by
  unfold Wd.hand
  split
  · exact h
  rename_i f hf
  have hmem : f ∈ W.air := List.mem_of_getElem? hf
  have hfly := h.air f hmem
  obtain ⟨p, d⟩ := f
  simp only at hfly ⊢
  -- what the end is then, ahead of Take
  have hB : Both (W.e (!d)) (W.e d) (W.sent (!d)) (W.sent d) (W.took d ++ (W.e d).inn) (W.took (!d)) := by
    have h1 := h.lane (!d)
    rw [Bool.not_not] at h1
    exact ⟨by rw [h.inn d, List.append_nil]; exact h1, h.lane d⟩
  obtain ⟨a, ha⟩ : ∃ a, a = (if kind ≠ 5 then (W.e d).recv p else W.e d) := ⟨_, rfl⟩
  have hA : Both (W.e (!d)) a (W.sent (!d)) (W.sent d) (W.took d ++ a.inn) (W.took (!d)) ∧ a.ep = (W.e d).ep ∧ a.tu = (W.e d).tu ∧ (W.e d).ca ≤ a.ca := by
    rw [ha]
    split
    · obtain ⟨k1, k2, _, k4, k5, _⟩ := both_recv hB hfly
      exact ⟨k1, k2, k4, k5⟩
    · exact ⟨hB, rfl, rfl, Int.le_refl _⟩
  rw [← ha]
  clear ha
  obtain ⟨k1, k2, k3, k4⟩ := hA
  refine ⟨fun j => ?_, fun j => ?_, fun j => ?_, fun j => ?_, fun g hg => ?_, h.n⟩
  · show (bset W.e d a.take j).ep = _
    unfold bset
    split
    · rename_i e; rw [e]; exact k2.trans (h.ep d)
    · exact h.ep j
  · show (bset W.e d a.take j).tu = _
    unfold bset
    split
    · exact k3.trans (h.tu d)
    · exact h.tu j
  · show (bset W.e d a.take j).inn = _
    unfold bset
    split
    · rfl
    · exact h.inn j
  · show Lane (bset W.e d a.take j) (bset W.e d a.take (!j)) (W.sent j) (bset W.took d (W.took d ++ a.inn) (!j))
    by_cases e : j = d
    · subst e
      rw [bset_at, bset_off, bset_off]
      exact lane_src k1.ba rfl rfl rfl (fun x hx => ⟨k1.ba.t x hx, k1.ba.n x hx⟩)
    · obtain rfl : j = !d := by cases j <;> cases d <;> simp_all
      rw [Bool.not_not, bset_at, bset_off, bset_at]
      exact lane_dst k1.ab rfl rfl
  · have hg' : g ∈ W.air := by
      have hg2 : g ∈ (if kind ≠ 4 then W.air.eraseIdx k else W.air) := hg
      split at hg2
      · exact List.mem_of_mem_eraseIdx hg2
      · exact hg2
    have hep : ∀ j, (bset W.e d a.take j).ep = (W.e j).ep ∧ (W.e j).ca ≤ (bset W.e d a.take j).ca := by
      intro j
      unfold bset
      split
      · rename_i e; rw [e]; exact ⟨k2, k4⟩
      · exact ⟨rfl, Int.le_refl _⟩
    have := h.air g hg'
    exact ⟨this.fr.trans (hep _).1.symm, this.to.trans (hep _).1.symm, this.a0, Int.le_trans this.a1 (hep _).2, this.nu, this.n⟩
/-- the beginning of what the other one was sent to send -/
theorem inv_begins {ep : Bool → Int} {n : Nat} {W : Wd} (h : Inv ep n W) (i : Bool) : W.took (!i) = (W.sent i).take (W.took (!i)).length := by
  have L := h.lane i
  have hc := L.c0
  have hc1 := L.c1
  have := L.came
  rw [this, List.length_take, Nat.min_eq_left (by omega)]
end Go.Proofs.Ytadcahnoghnkcaa
