/- A session as lists: Receive, asking, hands. Conditions: the sessions are as New makes them. -/
import Derived.Test.YtadcahnoghnkcaaB25
namespace Go.Proofs.Ytadcahnoghnkcaa
open Go.RowKit
set_option linter.unusedVariables false
set_option linter.unusedSimpArgs false

/-- the plain fields are alike -/
structure Sim (s : Ses) (a : Ab) : Prop where
  ep : s.ep = a.ep
  pe : s.pe = a.pe
  ba : s.ba = a.ba
  ma : s.ma = a.q.length
  ca : s.ca = a.ca
  ow : s.ow = a.ow
  tu : s.tu = a.tu
theorem SesI.sim {w : World} {B : Nat} {T : Nat → Nat} {t M : Nat} {a : Ab} {s : Ses} {ls : List (List UInt8 × Option Addr × Nat × Nat)} (h : SesI w B T t M a s ls) : Sim s a := ⟨h.ep, h.pe, h.ba, h.ma, h.ca, h.ow, h.tu⟩
/-- what stays when a session takes something in: the ring; the queue loses a beginning, or is empty -/
structure Less (a a' : Ab) : Prop where
  ep : a'.ep = a.ep
  q : (∃ d, d ≤ a.q.length ∧ a'.q = a.q.drop d ∧ a'.ba = a.ba + d) ∨ (a'.q = [] ∧ a'.ba = 1)
  ca : a'.ca = a.ca ∨ a'.ca = 0 ∨ a'.ca = a.ca + 1 ∨ a'.ca = 1
  tu : a'.tu = a.tu ∨ a'.tu = a.tu + 1
theorem meets_less (a : Ab) (p : Pk) : Less a (a.meets p) ∧ (a.meets p).inn = a.inn ∧ ((a.meets p).ca = a.ca ∨ (a.meets p).ca = 0) := by
  unfold Ab.meets
  split
  · exact ⟨⟨rfl, .inr ⟨rfl, rfl⟩, .inr (.inl rfl), .inr rfl⟩, rfl, .inr rfl⟩
  · exact ⟨⟨rfl, .inl ⟨0, Nat.zero_le _, rfl, rfl⟩, .inl rfl, .inl rfl⟩, rfl, .inl rfl⟩
theorem acked_q (a : Ab) (ac : Int) : (∃ d, d ≤ a.q.length ∧ (a.acked ac).q = a.q.drop d ∧ (a.acked ac).ba = a.ba + d) ∧ (a.acked ac).ep = a.ep ∧ (a.acked ac).ca = a.ca ∧ (a.acked ac).tu = a.tu ∧ (a.acked ac).inn = a.inn := by
  unfold Ab.acked
  split
  · rename_i h
    exact ⟨⟨ac.toNat + 1 - a.ba, by omega, rfl, by show ac.toNat + 1 = _; omega⟩, rfl, rfl, rfl, rfl⟩
  · exact ⟨⟨0, Nat.zero_le _, rfl, rfl⟩, rfl, rfl, rfl, rfl⟩
theorem acked_less (a : Ab) (p : Pk) (ac : Int) : Less a ((a.meets p).acked ac) ∧ ((a.meets p).acked ac).inn = a.inn ∧ (((a.meets p).acked ac).ca = a.ca ∨ ((a.meets p).acked ac).ca = 0) := by
  obtain ⟨h1, h2, h3⟩ := meets_less a p
  obtain ⟨⟨d, hd, e1, e2⟩, e3, e4, e5, e6⟩ := acked_q (a.meets p) ac
  refine ⟨⟨e3.trans h1.ep, ?_, ?_, by rw [e5]; exact h1.tu⟩, e6.trans h2, by rw [e4]; exact h3⟩
  · rcases h1.q with ⟨d', hd', f1, f2⟩ | ⟨f1, f2⟩
    · rw [f1] at e1 hd
      rw [List.length_drop] at hd
      exact .inl ⟨d' + d, by omega, by rw [e1, List.drop_drop], by rw [e2, f2]; omega⟩
    · rw [f1] at e1 hd
      have : d = 0 := by simpa using hd
      subst this
      exact .inr ⟨by rw [e1]; rfl, by rw [e2, f2]⟩
  · rw [e4]; exact h1.ca
theorem recv_less (a : Ab) (p : Pk) : Less a (a.recv p) ∧ ((a.recv p).inn = a.inn ∨ (a.recv p).inn = a.inn ++ [p.l]) := by
  unfold Ab.recv
  split
  · exact ⟨⟨rfl, .inl ⟨0, Nat.zero_le _, rfl, rfl⟩, .inl rfl, .inl rfl⟩, .inl rfl⟩
  split
  · obtain ⟨h1, h2, h3⟩ := meets_less a p
    exact ⟨⟨h1.ep, h1.q, h1.ca, h1.tu⟩, .inl h2⟩
  obtain ⟨h1, h2, h3⟩ := acked_less a p p.ac
  split
  · exact ⟨h1, .inl h2⟩
  split
  · rename_i hn
    refine ⟨⟨h1.ep, h1.q, ?_, h1.tu⟩, .inr (by show _ ++ _ = _; rw [h2])⟩
    show p.nu = _ ∨ p.nu = _ ∨ p.nu = _ ∨ p.nu = _
    rw [hn]
    rcases h3 with e | e
    · rw [e]; exact .inr (.inr (.inl rfl))
    · rw [e]; exact .inr (.inr (.inr rfl))
  · exact ⟨⟨h1.ep, h1.q, h1.ca, h1.tu⟩, .inl h2⟩

theorem sim_meets {s : Ses} {a : Ab} (h : Sim s a) (p : Pk) : Sim (if s.pe < p.fr then s.turned p.fr else s) (a.meets p) := by
  unfold Ab.meets
  rw [h.pe]
  split
  · exact ⟨h.ep, rfl, rfl, rfl, rfl, rfl, by show s.tu + 1 = a.tu + 1; rw [h.tu]⟩
  · exact h
theorem sim_acked {s : Ses} {a : Ab} (h : Sim s a) (ac : Int) : Sim (s.acked ac) (a.acked ac) := by
  unfold Ses.acked Ab.acked
  rw [h.ba, h.ma]
  split
  · rename_i hc
    exact ⟨h.ep, h.pe, rfl, by simp only [List.length_drop]; omega, h.ca, h.ow, h.tu⟩
  · exact h
theorem turned_r (s : Ses) (x : Int) : (if s.pe < x then s.turned x else s).r = s.r ∧ (if s.pe < x then s.turned x else s).inn = s.inn := by
  split
  · exact ⟨rfl, rfl⟩
  · exact ⟨rfl, rfl⟩
theorem acked_r (s : Ses) (x : Int) : (s.acked x).r = s.r ∧ (s.acked x).inn = s.inn := by
  unfold Ses.acked
  split
  · exact ⟨rfl, rfl⟩
  · exact ⟨rfl, rfl⟩
theorem recv_sim {s : Ses} {a : Ab} (h : Sim s a) (p : Pk) : Sim (recvS s p.fr p.to p.nu p.ac p.l.length).1 (a.recv p) ∧ (recvS s p.fr p.to p.nu p.ac p.l.length).1.r = s.r ∧ (recvS s p.fr p.to p.nu p.ac p.l.length).1.inn = s.inn ∧
    (a.recv p).inn = if (recvS s p.fr p.to p.nu p.ac p.l.length).2 = true then a.inn ++ [p.l] else a.inn := by
  have hbad : Bad s p.fr p.to p.nu p.ac p.l.length ↔ a.bad p := by unfold Bad Ab.bad; rw [h.pe]
  have h1 := sim_meets h p
  have h2 := turned_r s p.fr
  obtain ⟨_, hi1, _⟩ := meets_less a p
  obtain ⟨_, hi2, _⟩ := acked_less a p p.ac
  unfold recvS Ab.recv
  by_cases hb : a.bad p
  · rw [if_pos hb, if_pos (hbad.2 hb)]
    exact ⟨h, rfl, rfl, (if_neg Bool.false_ne_true).symm⟩
  rw [if_neg hb, if_neg (fun e => hb (hbad.1 e))]
  rw [h.ep]
  by_cases ht : p.to ≠ a.ep
  · rw [if_pos ht, if_pos ht]
    exact ⟨⟨h1.ep, h1.pe, h1.ba, h1.ma, h1.ca, rfl, h1.tu⟩, h2.1, h2.2, hi1.trans (if_neg Bool.false_ne_true).symm⟩
  rw [if_neg ht, if_neg ht]
  have h3 := sim_acked h1 p.ac
  have h4 := acked_r (if s.pe < p.fr then s.turned p.fr else s) p.ac
  by_cases hn : p.nu = 0
  · rw [if_pos hn, if_pos hn]
    exact ⟨h3, h4.1.trans h2.1, h4.2.trans h2.2, hi2.trans (if_neg Bool.false_ne_true).symm⟩
  rw [if_neg hn, if_neg hn, h3.ca]
  by_cases hc : p.nu = ((a.meets p).acked p.ac).ca + 1
  · rw [if_pos hc, if_pos hc]
    refine ⟨⟨h3.ep, h3.pe, h3.ba, h3.ma, rfl, rfl, h3.tu⟩, h4.1.trans h2.1, h4.2.trans h2.2, ?_⟩
    rw [if_pos rfl]
    show _ ++ _ = _
    rw [hi2]
  · rw [if_neg hc, if_neg hc]
    exact ⟨⟨h3.ep, h3.pe, h3.ba, h3.ma, h3.ca, rfl, h3.tu⟩, h4.1.trans h2.1, h4.2.trans h2.2, hi2.trans (if_neg Bool.false_ne_true).symm⟩

theorem recvA {w : World} {B : Nat} {T : Nat → Nat} {t M : Nat} {a : Ab} (h : SesA w B T t M a) (h0 : a.ep ≠ 0) (hM : M ≤ 1000000) (p : Pk) (A : Option Addr) (n c : Nat) (hr : Rd w A n c 1 (u8s p.l)) (hAB : ∀ b, A = some b → T b.block ≠ t) :
    Calls Try.prog 18 #[.pointer (some ⟨B, 0, none⟩), .agg #[.int .i64 p.fr, .int .i64 p.to, .int .i64 p.nu, .int .i64 p.ac, .slice A n c]] w fun e w' => e = .returned (.tuple #[]) ∧ ∃ T', Agr w.heap.size T T' ∧ SesA w' B T' t (M + 8) (a.recv p) ∧ Ch (Own T t) w w' := by
  obtain ⟨s, ls, h⟩ := h
  have hl : p.l.length = n := by have := hr.len; simpa using this
  subst hl
  have hown : w.ownsRow 0 27 1 s.inn ls.length (ls.map slc) := h.inn.own
  have hll : ls.length = a.inn.length := by rw [← h.inl, List.length_map]
  have hba := h.baM
  have hca := h.caM
  have htu := h.tuM
  have hin := h.inM
  refine (srecv_any h.mem (by rw [h.ep]; exact h0) p.fr p.to p.nu p.ac A p.l.length c p.l hr (fun b hb e => hAB b hb (by rw [e]; exact h.tag)) 0 ls.length (ls.map slc) hown (fun e => (h.row _ e).2 rfl) (Nat.zero_le _) (by omega) (by rw [h.ba]; omega) (by rw [h.ma]; exact h.q8) (by rw [h.ca]; omega) (by rw [h.ca]; omega) (by rw [h.tu]; omega) (by rw [h.tu]; omega)).mono ?_
  rintro e w' ⟨rfl, hc, hq⟩
  obtain ⟨hsim, hrr, hrin, hai⟩ := recv_sim h.sim p
  obtain ⟨hless, _⟩ := recv_less a p
  obtain ⟨r, hrdef⟩ : ∃ r, r = recvS s p.fr p.to p.nu p.ac p.l.length := ⟨_, rfl⟩
  rw [← hrdef] at hq hsim hrr hrin hai
  have hcT : Ch (Own T t) w w' := hc.mono (fun i _ hi => by
    rcases hi with e | e
    · rw [e]; exact h.tag
    · exact (h.row i e).1)
  have hS : ∀ k, T k = 1 → ¬ (k = B ∨ s.inn.ownBlock = some k) := by
    intro k hk hx
    rcases hx with e | e
    · exact h.t1 (by rw [← h.tag, ← e, hk])
    · exact h.t1 (by rw [← (h.row k e).1, hk])
  have hSt : ∀ k, T k = 1 → ¬ Own T t k := fun k hk e => h.t1 (by rw [← e, hk])
  have hq8' : (a.recv p).q.length ≤ 8 := by
    rcases hless.q with ⟨d, hd, e1, e2⟩ | ⟨e1, e2⟩
    · rw [e1, List.length_drop]; have := h.q8; omega
    · rw [e1]; exact Nat.zero_le _
  have hqn' : ∀ x ∈ (a.recv p).q, x.1.length ≤ 400 := by
    intro x hx
    rcases hless.q with ⟨d, hd, e1, e2⟩ | ⟨e1, e2⟩
    · rw [e1] at hx; exact h.qn x (List.mem_of_mem_drop hx)
    · rw [e1] at hx; cases hx
  have hbaM' : (a.recv p).ba ≤ M + 8 := by
    rcases hless.q with ⟨d, hd, e1, e2⟩ | ⟨e1, e2⟩
    · rw [e2]; have := h.q8; omega
    · rw [e2]; omega
  have hcaM' : 0 ≤ (a.recv p).ca ∧ (a.recv p).ca ≤ ((M + 8 : Nat) : Int) := by
    rcases hless.ca with e | e | e | e <;> rw [e] <;> omega
  have htuM' : 0 ≤ (a.recv p).tu ∧ (a.recv p).tu ≤ ((M + 8 : Nat) : Int) := by
    rcases hless.tu with e | e <;> rw [e] <;> omega
  have hplaces : ∀ T', Agr w.heap.size T T' → ∀ k x, (a.recv p).q[k]? = some x → PlI w' T' (s.r (((a.recv p).ba + k) % 8)) x := by
    intro T' hT k x hx
    rcases hless.q with ⟨d, hd, e1, e2⟩ | ⟨e1, e2⟩
    · rw [e1, List.getElem?_drop] at hx
      rw [e2, Nat.add_assoc]
      exact (h.q _ x hx).keep hc hS hT
    · rw [e1] at hx; cases hx
  rcases hq with ⟨hf, hs, ho⟩ | ⟨hf, v', A', c', hs, ho, hh, hat, hav⟩
  · rw [if_neg (by rw [hf]; decide)] at hai
    refine ⟨rfl, T, agr_refl _ _, ⟨r.1, ls, ?_⟩, hcT⟩
    refine { mem := hs, tag := h.tag, t1 := h.t1, ep := hsim.ep, pe := hsim.pe, ba := hsim.ba, ma := hsim.ma, ca := hsim.ca, ow := hsim.ow, tu := hsim.tu, q := ?_, ts := ?_, inn := ?_, inl := by rw [hai]; exact h.inl, row := by rw [hrin]; exact h.row, bod := h.bod, q8 := hq8', qn := hqn', baM := hbaM', caM := hcaM', tuM := htuM', inM := by rw [hai]; omega }
    · rw [hrr]; exact hplaces T (agr_refl _ _)
    · rw [hrr]; intro j; have := h.ts j; omega
    · rw [hrin]
      exact ⟨ho, fun q hq => ⟨held_ch (h.inn.each q hq).1 hc (fun b hb => hS _ (h.bod q hq b hb)), (h.inn.each q hq).2⟩⟩
  · rw [if_pos hf] at hai
    have hT := agr_ext T w.heap.size (fun k => if v'.ownBlock = some k then t else 1)
    have hvT : ∀ k, v'.ownBlock = some k → ext T w.heap.size (fun k => if v'.ownBlock = some k then t else 1) k = t ∧ k ≠ B := by
      intro k hk
      rcases hat with e | ⟨x, e, hx⟩
      · have h1 := h.row k (e ▸ hk)
        have h2 := h.inn.own.lt k (e ▸ hk)
        exact ⟨(hT k h2.2).trans h1.1, h1.2⟩
      · rw [e] at hk
        have hk' : x = k := by injection hk
        subst hk'
        refine ⟨?_, fun e2 => by have := blk_lt h.mem; omega⟩
        rw [ext_new _ _ _ hx, if_pos e]
    have hbT : ∀ b, A' = some b → ext T w.heap.size (fun k => if v'.ownBlock = some k then t else 1) b.block = 1 := by
      intro b hb
      rw [ext_new _ _ _ (held_lt hh b hb).1, if_neg (hav b hb)]
    refine ⟨rfl, _, hT, ⟨{ r.1 with inn := v' }, ls ++ [(p.l, A', p.l.length, c')], ?_⟩, hcT⟩
    refine { mem := hs, tag := (hT _ (blk_lt h.mem)).trans h.tag, t1 := h.t1, ep := hsim.ep, pe := hsim.pe, ba := hsim.ba, ma := hsim.ma, ca := hsim.ca, ow := hsim.ow, tu := hsim.tu, q := ?_, ts := ?_, inn := ?_, inl := by rw [List.map_append, h.inl, hai]; rfl, row := hvT, bod := ?_, q8 := hq8', qn := hqn', baM := hbaM', caM := hcaM', tuM := htuM', inM := by rw [hai, List.length_append]; show _ + 1 ≤ _; omega }
    · show ∀ k x, _ → PlI w' _ (r.1.r _) x
      rw [hrr]; exact hplaces _ hT
    · show ∀ j, 0 ≤ (r.1.r j).t ∧ (r.1.r j).t ≤ _
      rw [hrr]; intro j; have := h.ts j; omega
    · show Lists w' 0 v' _
      refine ⟨by rw [List.length_append, List.map_append]; exact ho, fun q hq => ?_⟩
      rcases List.mem_append.1 hq with hq | hq
      · refine ⟨held_ch (h.inn.each q hq).1 hc (fun b hb => hS _ (h.bod q hq b hb)), fun b hb e => ?_⟩
        have h1 := (hvT _ e).1
        rw [hT _ (held_lt (h.inn.each q hq).1 b hb).2, h.bod q hq b hb] at h1
        exact h.t1 h1.symm
      · rw [List.mem_singleton] at hq
        subst hq
        exact ⟨held_base hh (fun _ _ => Nat.zero_le _), hav⟩
    · intro q hq b hb
      rcases List.mem_append.1 hq with hq | hq
      · exact (hT _ (held_lt (h.inn.each q hq).1 b hb).2).trans (h.bod q hq b hb)
      · rw [List.mem_singleton] at hq
        subst hq
        exact hbT b hb
theorem peerA {w : World} {B : Nat} {T : Nat → Nat} {t M : Nat} {a : Ab} (h : SesA w B T t M a) (h0 : a.ep ≠ 0) : Calls Try.prog 19 #[.pointer (some ⟨B, 0, none⟩)] w fun e w' => e = .returned (.int .i64 a.pe) ∧ w = w' := by
  obtain ⟨s, ls, h⟩ := h
  have := speer_any h.mem (by rw [h.ep]; exact h0)
  rwa [h.pe] at this
theorem waitA {w : World} {B : Nat} {T : Nat → Nat} {t M : Nat} {a : Ab} (h : SesA w B T t M a) (h0 : a.ep ≠ 0) : Calls Try.prog 22 #[.pointer (some ⟨B, 0, none⟩)] w fun e w' => e = .returned (.int .i64 (a.q.length : Int)) ∧ w = w' := by
  obtain ⟨s, ls, h⟩ := h
  have := swait_any h.mem (by rw [h.ep]; exact h0)
  rwa [h.ma] at this
theorem turnsA {w : World} {B : Nat} {T : Nat → Nat} {t M : Nat} {a : Ab} (h : SesA w B T t M a) (h0 : a.ep ≠ 0) : Calls Try.prog 35 #[.pointer (some ⟨B, 0, none⟩)] w fun e w' => e = .returned (.int .i64 a.tu) ∧ w = w' := by
  obtain ⟨s, ls, h⟩ := h
  have := sturns_any h.mem (by rw [h.ep]; exact h0)
  rwa [h.tu] at this
theorem recv_ep (a : Ab) (p : Pk) : (a.recv p).ep = a.ep := (recv_less a p).1.ep
theorem foldl_ep (ps : List Pk) (a : Ab) : (ps.foldl Ab.recv a).ep = a.ep := by
  induction ps generalizing a with
  | nil => rfl
  | cons p t ih => exact (ih _).trans (recv_ep a p)
theorem outPk_len (a : Ab) : ∀ (l : List Qx) (k : Nat), (outPk a k l).length ≤ l.length := by
  intro l
  induction l with
  | nil => intro k; exact Nat.le_refl _
  | cons x t ih =>
    intro k
    have := ih (k + 1)
    unfold outPk
    split
    · simp; omega
    · simp; omega
theorem outP_len (a : Ab) (h : a.q.length ≤ 8) : a.outP.length ≤ 8 := by
  unfold Ab.outP
  split
  · exact Nat.le_of_ble_eq_true rfl
  · exact Nat.le_trans (outPk_len a a.q 0) h
theorem SesA.q8 {w : World} {B : Nat} {T : Nat → Nat} {t M : Nat} {a : Ab} (h : SesA w B T t M a) : a.q.length ≤ 8 := by
  obtain ⟨s, ls, h⟩ := h
  exact h.q8
theorem SesA.t1 {w : World} {B : Nat} {T : Nat → Nat} {t M : Nat} {a : Ab} (h : SesA w B T t M a) : t ≠ 1 := by
  obtain ⟨s, ls, h⟩ := h
  exact h.t1
theorem SesA.retag {w : World} {B : Nat} {T T' : Nat → Nat} {t M : Nat} {a : Ab} (h : SesA w B T t M a) (hT : Agr w.heap.size T T') : SesA w B T' t M a := h.keep (Ch.refl No w) (fun _ _ => id) hT
/-- what the loop of hands keeps -/
def HandsI (w1 : World) (Ba Bb : Nat) (T1 : Nat → Nat) (ta tb M : Nat) (a b : Ab) (ps : List Pk) (k : Nat) (wr : World) : Prop :=
  ∃ T', Agr w1.heap.size T1 T' ∧ SesA wr Ba T' ta M a ∧ SesA wr Bb T' tb (M + 8 * k) ((ps.take k).foldl Ab.recv b) ∧ Ch (Own T1 tb) w1 wr
theorem handsI_step {w1 wr wr' : World} {Ba Bb : Nat} {T1 T' T'' : Nat → Nat} {ta tb M : Nat} {a b : Ab} {ps : List Pk} {k : Nat} {p : Pk} (hp : ps[k]? = some p) (hne : ta ≠ tb) (ht : tb ≠ 1) (h1 : Agr w1.heap.size T1 T') (h2 : SesA wr Ba T' ta M a) (h3 : Ch (Own T1 tb) w1 wr)
    (k1 : Agr wr.heap.size T' T'') (k2 : SesA wr' Bb T'' tb (M + 8 * k + 8) (((ps.take k).foldl Ab.recv b).recv p)) (k3 : Ch (Own T' tb) wr wr') : HandsI w1 Ba Bb T1 ta tb M a b ps (k + 1) wr' := by
  have hk : k < ps.length := (List.getElem?_eq_some_iff.1 hp).1
  have he : ps[k]'hk = p := (List.getElem?_eq_some_iff.1 hp).2
  refine ⟨T'', agr_trans h1 k1 h3.size, h2.keep k3 (fun i hi e => ?_) k1, ?_, ?_⟩
  · have e' : T' i = tb := e
    rcases hi with hi | hi
    · exact hne (hi.symm.trans e')
    · exact ht (by rw [← e', hi])
  · rw [List.take_succ_eq_append_getElem hk, he, List.foldl_append, show M + 8 * (k + 1) = M + 8 * k + 8 by omega]
    exact k2
  · refine h3.trans k3 (fun i hi => ?_)
    rcases Nat.lt_or_ge i w1.heap.size with h | h
    · exact .inl ((h1 i h).symm.trans hi)
    · exact .inr h
def HandsQA (w : World) (Ba Bb : Nat) (T : Nat → Nat) (ta tb M : Nat) (a b : Ab) (e : Ending) (w' : World) : Prop :=
  e = .returned (.tuple #[]) ∧ ∃ T', Agr w.heap.size T T' ∧ SesA w' Ba T' ta (M + 64) a.out ∧ SesA w' Bb T' tb (M + 64) (a.outP.foldl Ab.recv b) ∧ Ch (fun k => T k = ta ∨ T k = tb) w w'
theorem handsI_end {w w1 wr : World} {Ba Bb : Nat} {T T1 : Nat → Nat} {ta tb M N : Nat} {a b : Ab} {ps : List Pk} (h : HandsI w1 Ba Bb T1 ta tb M a.out b ps N wr) (hN : N = ps.length) (h8 : ps.length ≤ 8) (hps : ps = a.outP) (hT : Agr w.heap.size T T1) (hBa : T Ba = ta) (hc : Ch (fun k => k = Ba) w w1) : HandsQA w Ba Bb T ta tb M a b (.returned (.tuple #[])) wr := by
  obtain ⟨T', h1, h2, h3, h4⟩ := h
  subst hN
  have h8' : a.outP.length ≤ 8 := hps ▸ h8
  rw [List.take_length, hps] at h3
  refine ⟨rfl, T', agr_trans hT h1 hc.size, h2.up (by omega), h3.up (by omega), (hc.mono (S' := fun k => T k = ta ∨ T k = tb) (fun i _ hi => .inl (by rw [hi]; exact hBa))).trans h4 (fun i hi => ?_)⟩
  rcases Nat.lt_or_ge i w.heap.size with h | h
  · exact .inl (.inr ((hT i h).symm.trans hi))
  · exact .inr h
set_option maxRecDepth 100000 in
set_option maxHeartbeats 4000000 in
theorem handsA {w : World} {Ba Bb : Nat} {T : Nat → Nat} {ta tb M : Nat} {a b : Ab} (ha : SesA w Ba T ta M a) (hb : SesA w Bb T tb M b) (hne : ta ≠ tb) (hb2 : tb ≠ 0) (ha0 : a.ep ≠ 0) (hb0 : b.ep ≠ 0) (hM : M ≤ 900000) :
    Calls Try.prog 20 #[.pointer (some ⟨Ba, 0, none⟩), .pointer (some ⟨Bb, 0, none⟩), .bool false] w (HandsQA w Ba Bb T ta tb M a b) := by
  have hTx := agr_ext T w.heap.size (fun _ => 0)
  obtain ⟨T1, hT1⟩ : ∃ x, x = ext T w.heap.size (fun _ => 0) := ⟨_, rfl⟩
  have hzero : ∀ k, w.heap.size ≤ k → T1 k = 0 := fun k hk => by rw [hT1]; exact ext_new _ _ _ hk
  rw [← hT1] at hTx
  clear hT1
  have HO := Lib.hid (outA (ha.retag hTx) ha0 (by omega))
  have HB := Lib.hid (hb.retag hTx)
  have hlen := outP_len a ha.q8
  have HTA := Lib.hid ha.tag
  have htb1 := hb.t1
  have hBaT : T1 Ba ≠ tb := by rw [hTx _ ha.lt, ha.tag]; exact hne
  have HBA1 := Lib.hid (show T1 Ba ≠ 1 by rw [hTx _ ha.lt, ha.tag]; exact ha.t1)
  have HZ := Lib.hid hzero; have HTX := Lib.hid hTx; have HBAT := Lib.hid hBaT; have HTB1 := Lib.hid htb1
  have HNE := Lib.hid hne; have HB2 := Lib.hid hb2
  clear ha hb hTx hzero hBaT htb1 hne hb2
  go_enter Try.func20, Try.ntmps20
  go_wp2_with fail
  refine HO.out.mono ?_; rintro e w1 ⟨v, ps, rfl, hs1, hpk, hmap, hc1⟩
  obtain ⟨A, c, rfl, hrd, hlt⟩ := own_form hpk.own
  have hz1 := hc1.size
  have hpl : ps.length ≤ 8 := by have h1 := congrArg List.length hmap; rw [List.length_map] at h1; rw [h1]; exact hlen
  have hcap := hrd.cap
  obtain ⟨N, hN⟩ : ∃ N, N = ps.length := ⟨_, rfl⟩
  rw [← hN] at hpk hcap hpl ⊢
  have HI0 : Hid (HandsI w1 Ba Bb T1 ta tb M a.out b (ps.map (·.1)) 0 w1) := Lib.hid ⟨T1, agr_refl _ _, hs1, (by
    rw [List.take_zero]
    exact HB.out.keep hc1 (fun i hi e => by
      rw [e] at hi
      rcases hi with hi | hi
      · exact HBAT.out hi
      · exact HBA1.out hi) (agr_refl _ _)), Ch.refl _ _⟩
  have HPK := Lib.hid hpk; have HMAP := Lib.hid hmap; have HC1 := Lib.hid hc1; have HN := Lib.hid hN
  clear hs1 hpk hmap hc1 hrd hlt hN HO HB
  go_wp2_with fail
  go_loopw [7] (fun i wr => ∃ k : Nat, k ≤ N ∧ i = .int .i64 k ∧ Hid (HandsI w1 Ba Bb T1 ta tb M a.out b (ps.map (·.1)) k wr)) (fun i _ => N - (intOf i).toNat)
  case atStart => exact ⟨0, Nat.zero_le _, rfl, HI0⟩
  case round =>
    clear HI0
    obtain ⟨k, hk, rfl, HI⟩ := hrel
    by_cases hlt : k < N
    · have hpk := HPK.out
      obtain ⟨g, cv, hv, _, hcv, _⟩ := own_row hpk.own (own_some hpk.own (by rw [← HN.out]; omega))
      injection hv with hv1 hv2 hv3
      subst hv1
      obtain ⟨T', j1, j2, j3, j4⟩ := HI.out
      obtain ⟨q, hq, c0, c1, c2, c3, c4, hh⟩ := packs_get (packs_ch hpk j4 (fun i h1 h2 e => HB2.out (by rw [← HZ.out i h1]; exact e.symm))) (k := k) (by rw [← HN.out]; exact hlt)
      obtain ⟨p, B1, n1, d1⟩ := q
      simp only at c0 c1 c2 c3 c4 hh
      have hps : (ps.map (·.1))[k]? = some p := by rw [List.getElem?_map, hq]; rfl
      have hAB : ∀ x, B1 = some x → T' x.block ≠ tb := by
        intro x hx e
        have h1 := packs_get hpk (k := k) (by rw [← HN.out]; exact hlt)
        obtain ⟨q', hq', _, _, _, _, _, hh'⟩ := h1
        rw [hq] at hq'
        injection hq' with hq'
        subst hq'
        have h2 := held_lt hh' x hx
        rw [j1 _ h2.2, HZ.out _ h2.1] at e
        exact HB2.out e.symm
      have HRC := Lib.hid (recvA j3 (by rw [foldl_ep]; exact hb0) (by omega) p B1 n1 d1 (held_rd hh) hAB)
      have HNX := Lib.hid (fun (w2 : World) (T'' : Nat → Nat) (k1 : Agr wr.heap.size T' T'') (k2 : SesA w2 Bb T'' tb (M + 8 * k + 8) ((((ps.map (·.1)).take k).foldl Ab.recv b).recv p)) (k3 : Ch (Own T' tb) wr w2) => handsI_step hps HNE.out HTB1.out j1 j2 j4 k1 k2 k3)
      clear hpk hv2 hv3 hcv j1 j2 j3 j4 hh hps hAB hq HI
      go_wp2_with fail
      refine HRC.out.mono ?_
      rintro e w2 ⟨rfl, T'', k1, k2, k3⟩
      have HIN := Lib.hid (HNX.out w2 T'' k1 k2 k3)
      clear k1 k2 k3 HNX HRC
      go_wp2
      go_roundw
      case rel => exact ⟨k + 1, by omega, by go_num, HIN⟩
      case measure => simp [intOf]; omega
    · obtain rfl : k = N := by omega
      have HF := Lib.hid (handsI_end HI.out (by rw [List.length_map]; exact HN.out) (by rw [List.length_map, ← HN.out]; exact hpl) HMAP.out HTX.out HTA.out HC1.out)
      clear HI
      go_wp2
      exact bodyPost_end (results_none rfl _ _ _) rfl HF.out
end Go.Proofs.Ytadcahnoghnkcaa
