/- Plain laws: packets and messages are read back; what is read is what would be written. -/
import Derived.Test.YtncahekankbalaaFk
namespace Go.Proofs.Ytncahekankbalaa
open Go.RowKit
set_option linter.unusedVariables false
set_option linter.unusedSimpArgs false

theorem rd_step (B pre post : List UInt8) (n : Nat) (hB : B = pre ++ (frm n ++ post)) (lo hi : Int) (hn : n ≤ 1099511627776) (h1 : lo ≤ n) (h2 : (n : Int) ≤ hi) :
    rnum ⟨B, pre.length, 0, 0⟩ lo hi = ((n : Int), ⟨B, (pre ++ frm n).length, 0, 0⟩) := by
  subst hB
  rw [List.length_append]
  exact rnum_frm pre post n (by omega) lo hi 0 h1 h2
theorem rd_raw (B pre l : List UInt8) (hB : B = pre ++ (frm l.length ++ l)) (m : Int) (hl : l.length ≤ 1000) (hm : (l.length : Int) ≤ m) :
    rraw ⟨B, pre.length, 0, 0⟩ m = (l, ⟨B, B.length, 0, 0⟩) := by
  have k := rraw_frm pre [] l (by omega) m 0 hm
  rw [List.append_nil, ← hB] at k
  rw [k, ← List.length_append, ← hB]
theorem rend_at (B : List UInt8) : rend ⟨B, B.length, 0, 0⟩ = (0, 0) := by
  unfold rend
  rw [if_neg (by rintro ⟨_, e⟩; exact absurd e (Nat.lt_irrefl _))]
theorem okN_of {x : Int} (h : okN x = true) : ∃ n : Nat, x = n ∧ n ≤ 1099511627776 := ⟨x.toNat, by have := okN_yes h; omega, by have := okN_yes h; omega⟩
theorem pkt_read {f t n a : Int} {l : List UInt8} (h : chkP f t n a l.length = 0) : getX (pktX f t n a l) = ⟨f, t, n, a, l, 0, 0⟩ := by
  have hF := chkP_fine h
  unfold PFine at hF
  obtain ⟨h1, ⟨hf, ht, hn, ha⟩, hl, _⟩ := hF
  obtain ⟨f, rfl, bf⟩ := okN_of hf
  obtain ⟨t, rfl, bt⟩ := okN_of ht
  obtain ⟨n, rfl, bn⟩ := okN_of hn
  obtain ⟨a, rfl, ba⟩ := okN_of ha
  obtain ⟨B, hB⟩ : ∃ B, B = pktX f t n a l := ⟨_, rfl⟩
  have hD := hB
  unfold pktX at hD
  simp only [Int.toNat_natCast] at hD
  rw [← hB]
  have e1 : gF B = ((f : Int), ⟨B, ([] ++ frm f).length, 0, 0⟩) := rd_step B [] _ f hD 1 1099511627776 bf h1 (by omega)
  have e2 : gN B 0 = ((t : Int), ⟨B, (([] ++ frm f) ++ frm t).length, 0, 0⟩) := by
    show rnum (gF B).2 0 1099511627776 = _
    rw [e1]
    exact rd_step B _ (frm n ++ (frm a ++ (frm l.length ++ l))) t (by rw [hD]; simp) 0 _ bt (by omega) (by omega)
  have e3 : gN B 1 = ((n : Int), ⟨B, ((([] ++ frm f) ++ frm t) ++ frm n).length, 0, 0⟩) := by
    show rnum (gN B 0).2 0 1099511627776 = _
    rw [e2]
    exact rd_step B _ (frm a ++ (frm l.length ++ l)) n (by rw [hD]; simp) 0 _ bn (by omega) (by omega)
  have e4 : gN B 2 = ((a : Int), ⟨B, (((([] ++ frm f) ++ frm t) ++ frm n) ++ frm a).length, 0, 0⟩) := by
    show rnum (gN B 1).2 0 1099511627776 = _
    rw [e3]
    exact rd_step B _ (frm l.length ++ l) a (by rw [hD]; simp) 0 _ ba (by omega) (by omega)
  have e5 : gL B = (l, ⟨B, B.length, 0, 0⟩) := by
    show rraw (gN B 2).2 400 = _
    rw [e4]
    exact rd_raw B _ l (by rw [hD]; simp) 400 (by omega) (by omega)
  have e6 : gE B = (0, 0) := by
    show rend (gL B).2 = _
    rw [e5]
    exact rend_at B
  have k := (getX_mk B (gF B) (gN B 0).1 (gN B 1).1 (gN B 2).1 (gL B) (gE B) rfl ⟨rfl, rfl, rfl⟩ rfl rfl).1 (by rw [e6]) (by rw [e1, e2, e3, e4, e5]; exact h)
  rw [k, e1, e2, e3, e4, e5, e6]
theorem msg_read {k i s a : Int} {l : List UInt8} (h : chkM k i s a l.length = 0) : getM (msgX k i s a l) = ⟨k, i, s, a, l, 0, 0⟩ := by
  have hF := chkM_fine h
  unfold MFine at hF
  obtain ⟨⟨h1, h2⟩, h3⟩ := hF
  obtain ⟨i, rfl⟩ : ∃ n : Nat, i = n := ⟨i.toNat, by omega⟩
  by_cases hk : k = 1
  · subst hk
    have h3 : 1 ≤ s ∧ s ≤ 60000 ∧ 0 ≤ a ∧ a < s ∧ 1 ≤ l.length ∧ l.length ≤ 200 := by omega
    obtain ⟨s, rfl⟩ : ∃ n : Nat, s = n := ⟨s.toNat, by omega⟩
    obtain ⟨a, rfl⟩ : ∃ n : Nat, a = n := ⟨a.toNat, by omega⟩
    obtain ⟨B, hB⟩ : ∃ B, B = msgX 1 i s a l := ⟨_, rfl⟩
    have hD : B = [] ++ (frm 1 ++ (frm i ++ (frm s ++ (frm a ++ (frm l.length ++ l))))) := by
      rw [hB]; unfold msgX; rw [if_pos rfl]; simp only [Int.toNat_natCast]; rfl
    rw [← hB]
    have e1 : gK B = (((1 : Nat) : Int), ⟨B, ([] ++ frm 1).length, 0, 0⟩) := rd_step B [] _ 1 hD 1 3 (by omega) (by omega) (by omega)
    have e2 : gI B = ((i : Int), ⟨B, (([] ++ frm 1) ++ frm i).length, 0, 0⟩) := by
      show rnum (gK B).2 1 1099511627776 = _
      rw [e1]
      exact rd_step B _ (frm s ++ (frm a ++ (frm l.length ++ l))) i (by rw [hD]; simp) 1 _ (by omega) (by omega) (by omega)
    have e3 : mS B = ((s : Int), ⟨B, ((([] ++ frm 1) ++ frm i) ++ frm s).length, 0, 0⟩) := by
      show rnum (gI B).2 1 60000 = _
      rw [e2]
      exact rd_step B _ (frm a ++ (frm l.length ++ l)) s (by rw [hD]; simp) 1 _ (by omega) (by omega) (by omega)
    have e4 : mA B = ((a : Int), ⟨B, (((([] ++ frm 1) ++ frm i) ++ frm s) ++ frm a).length, 0, 0⟩) := by
      show rnum (mS B).2 0 60000 = _
      rw [e3]
      exact rd_step B _ (frm l.length ++ l) a (by rw [hD]; simp) 0 _ (by omega) (by omega) (by omega)
    have e5 : mR B = (l, ⟨B, B.length, 0, 0⟩) := by
      show rraw (mA B).2 200 = _
      rw [e4]
      exact rd_raw B _ l (by rw [hD]; simp) 200 (by omega) (by omega)
    have e6 : rend (mR B).2 = (0, 0) := by rw [e5]; exact rend_at B
    have g : getM B = getW 1 i s a l (0, 0) := by
      unfold getM
      rw [e6, e5, e4, e3, e2, e1]
      exact if_pos rfl
    rw [g]
    exact (getW_mk 1 i s a l (0, 0)).1 rfl h
  · have h3 : (k = 2 ∨ k = 3) ∧ s = 0 ∧ a = 0 ∧ l.length = 0 := by omega
    obtain ⟨hk2, rfl, rfl, hl⟩ := h3
    obtain rfl := List.eq_nil_of_length_eq_zero hl
    obtain ⟨k, rfl⟩ : ∃ n : Nat, k = n := ⟨k.toNat, by omega⟩
    obtain ⟨B, hB⟩ : ∃ B, B = msgX k i 0 0 [] := ⟨_, rfl⟩
    have hD : B = [] ++ (frm k ++ frm i) := by
      rw [hB]; unfold msgX; rw [if_neg hk]; simp only [Int.toNat_natCast]; rfl
    rw [← hB]
    have e1 : gK B = ((k : Int), ⟨B, ([] ++ frm k).length, 0, 0⟩) := rd_step B [] _ k hD 1 3 (by omega) (by omega) (by omega)
    have e2 : gI B = ((i : Int), ⟨B, B.length, 0, 0⟩) := by
      show rnum (gK B).2 1 1099511627776 = _
      rw [e1]
      have k := rd_step B ([] ++ frm k) [] i (by rw [hD]; simp) 1 1099511627776 (by omega) (by omega) (by omega)
      rw [k]
      rw [hD]; simp
    have e6 : rend (gI B).2 = (0, 0) := by rw [e2]; exact rend_at B
    have g : getM B = getW k i 0 0 [] (0, 0) := by
      unfold getM
      rw [e6, e2, e1]
      exact if_neg hk
    rw [g]
    exact (getW_mk k i 0 0 [] (0, 0)).1 rfl h
/-- one number more was read -/
theorem back_step (b pre : List UInt8) (at_ : Nat) (lo hi : Int) (hp : b.take at_ = pre) (h : (rnum ⟨b, at_, 0, 0⟩ lo hi).2.e = 0) :
    ∃ (n at2 : Nat), rnum ⟨b, at_, 0, 0⟩ lo hi = ((n : Int), ⟨b, at2, 0, 0⟩) ∧ b.take at2 = pre ++ frm n := by
  obtain ⟨n, e1, _, e3, e4⟩ := rnum_back ⟨b, at_, 0, 0⟩ lo hi rfl h
  refine ⟨n, _, e1, ?_⟩
  have e3 : (b.drop at_).take (frm n).length = frm n := e3
  show b.take (at_ + (frm n).length) = _
  rw [List.take_add, hp, e3]
theorem back_raw (b pre : List UInt8) (at_ : Nat) (m : Int) (hp : b.take at_ = pre) (h : (rraw ⟨b, at_, 0, 0⟩ m).2.e = 0) :
    ∃ (l : List UInt8) (at2 : Nat), rraw ⟨b, at_, 0, 0⟩ m = (l, ⟨b, at2, 0, 0⟩) ∧ b.take at2 = pre ++ (frm l.length ++ l) := by
  obtain ⟨l, e1, e3, e4⟩ := rraw_back ⟨b, at_, 0, 0⟩ m rfl h
  refine ⟨l, _, e1, ?_⟩
  have e3 : (b.drop at_).take (frm l.length ++ l).length = frm l.length ++ l := e3
  show b.take (at_ + (frm l.length ++ l).length) = _
  rw [List.take_add, hp, e3]
theorem back_end (b pre : List UInt8) (at_ : Nat) (hp : b.take at_ = pre) (h : (rend ⟨b, at_, 0, 0⟩).1 = 0) : b = pre := by
  unfold rend at h
  split at h
  · simp at h
  · rename_i hn
    have hn : ¬ ((0 : Int) = 0 ∧ at_ < b.length) := hn
    rw [← hp, List.take_of_length_le (by omega)]
theorem getX_back {x : List UInt8} (h : (getX x).e = 0) : chkP (getX x).f (getX x).t (getX x).n (getX x).a (getX x).l.length = 0 ∧ pktX (getX x).f (getX x).t (getX x).n (getX x).a (getX x).l = x := by
  by_cases h0 : (gE x).1 = 0
  · by_cases hc : chkP (gF x).1 (gN x 0).1 (gN x 1).1 (gN x 2).1 (gL x).1.length = 0
    · have k := (getX_mk x (gF x) (gN x 0).1 (gN x 1).1 (gN x 2).1 (gL x) (gE x) rfl ⟨rfl, rfl, rfl⟩ rfl rfl).1 h0 hc
      rw [k]
      refine ⟨hc, ?_⟩
      show pktX (gF x).1 (gN x 0).1 (gN x 1).1 (gN x 2).1 (gL x).1 = x
      have z5 : (gL x).2.e = 0 := (rend_p _ h0).2
      have z4 : (gN x 2).2.e = 0 := (rraw_p _ _ z5).2
      have z3 : (gN x 1).2.e = 0 := (rnum_p _ _ _ (show (rnum (gN x 1).2 0 1099511627776).2.e = 0 from z4)).2
      have z2 : (gN x 0).2.e = 0 := (rnum_p _ _ _ (show (rnum (gN x 0).2 0 1099511627776).2.e = 0 from z3)).2
      have z1 : (gF x).2.e = 0 := (rnum_p _ _ _ (show (rnum (gF x).2 0 1099511627776).2.e = 0 from z2)).2
      obtain ⟨f, a1, e1, p1⟩ := back_step x [] 0 1 1099511627776 rfl z1
      have e1 : gF x = ((f : Int), ⟨x, a1, 0, 0⟩) := e1
      have z2 : (rnum (gF x).2 0 1099511627776).2.e = 0 := z2
      rw [e1] at z2
      obtain ⟨t, a2, e2, p2⟩ := back_step x _ a1 0 1099511627776 p1 z2
      have e2 : gN x 0 = ((t : Int), ⟨x, a2, 0, 0⟩) := by
        show rnum (gF x).2 0 1099511627776 = _
        rw [e1]; exact e2
      have z3 : (rnum (gN x 0).2 0 1099511627776).2.e = 0 := z3
      rw [e2] at z3
      obtain ⟨n, a3, e3, p3⟩ := back_step x _ a2 0 1099511627776 p2 z3
      have e3 : gN x 1 = ((n : Int), ⟨x, a3, 0, 0⟩) := by
        show rnum (gN x 0).2 0 1099511627776 = _
        rw [e2]; exact e3
      have z4 : (rnum (gN x 1).2 0 1099511627776).2.e = 0 := z4
      rw [e3] at z4
      obtain ⟨a, a4, e4, p4⟩ := back_step x _ a3 0 1099511627776 p3 z4
      have e4 : gN x 2 = ((a : Int), ⟨x, a4, 0, 0⟩) := by
        show rnum (gN x 1).2 0 1099511627776 = _
        rw [e3]; exact e4
      have z5 : (rraw (gN x 2).2 400).2.e = 0 := z5
      rw [e4] at z5
      obtain ⟨l, a5, e5, p5⟩ := back_raw x _ a4 400 p4 z5
      have e5 : gL x = (l, ⟨x, a5, 0, 0⟩) := by
        show rraw (gN x 2).2 400 = _
        rw [e4]; exact e5
      have h0 : (rend (gL x).2).1 = 0 := h0
      rw [e5] at h0
      have hx := back_end x _ a5 p5 h0
      rw [e1, e2, e3, e4, e5]
      refine Eq.trans ?_ hx.symm
      unfold pktX
      simp only [Int.toNat_natCast]
      simp
    · have k := (getX_mk x (gF x) (gN x 0).1 (gN x 1).1 (gN x 2).1 (gL x) (gE x) rfl ⟨rfl, rfl, rfl⟩ rfl rfl).2.1 h0 hc
      rw [k] at h
      exact absurd (show (2 : Int) = 0 from h) (by decide)
  · have k := (getX_mk x (gF x) (gN x 0).1 (gN x 1).1 (gN x 2).1 (gL x) (gE x) rfl ⟨rfl, rfl, rfl⟩ rfl rfl).2.2 h0
    rw [k] at h
    exact absurd h h0
/-- a packet that was read is written again as it stood -/
theorem getP_back {b : List UInt8} (h : (getP b).e = 0) : pktB (getP b).f (getP b).t (getP b).n (getP b).a (getP b).l = (b, 0) := by
  by_cases h8 : b.length < 8
  · have k : getP b = ⟨0, 0, 0, 0, [], 11, 0⟩ := by unfold getP; rw [if_pos h8]
    rw [k] at h
    exact absurd h (by decide)
  by_cases hs : sum8 (b.take (b.length - 8)) = b.drop (b.length - 8)
  · have k : getP b = getX (b.take (b.length - 8)) := by unfold getP; rw [if_neg h8, if_pos hs]
    rw [k] at h ⊢
    obtain ⟨h1, h2⟩ := getX_back h
    unfold pktB
    rw [if_pos h1, h2, hs, List.take_append_drop]
  · have k : getP b = ⟨0, 0, 0, 0, [], 11, 0⟩ := by unfold getP; rw [if_neg h8, if_neg hs]
    rw [k] at h
    exact absurd h (by decide)
theorem getW_back {k i s a : Int} {l : List UInt8} {r : Int × Int} (h : (getW k i s a l r).e = 0) : r.1 = 0 ∧ chkM k i s a l.length = 0 ∧ getW k i s a l r = ⟨k, i, s, a, l, 0, r.2⟩ := by
  by_cases h0 : r.1 = 0
  · by_cases hc : chkM k i s a l.length = 0
    · exact ⟨h0, hc, (getW_mk k i s a l r).1 h0 hc⟩
    · rw [(getW_mk k i s a l r).2.1 h0 hc] at h
      exact absurd (show (2 : Int) = 0 from h) (by decide)
  · rw [(getW_mk k i s a l r).2.2 h0] at h
    exact absurd h h0
theorem getM_back {b : List UInt8} (h : (getM b).e = 0) : msgB (getM b).k (getM b).i (getM b).s (getM b).a (getM b).l = (b, 0) := by
  by_cases hk : (gK b).1 = 1
  · have g : getM b = getW (gK b).1 (gI b).1 (mS b).1 (mA b).1 (mR b).1 (rend (mR b).2) := by unfold getM; exact if_pos hk
    rw [g] at h ⊢
    obtain ⟨h0, hc, hg⟩ := getW_back h
    rw [hg]
    show msgB (gK b).1 (gI b).1 (mS b).1 (mA b).1 (mR b).1 = (b, 0)
    unfold msgB
    rw [if_pos hc]
    have z5 : (mR b).2.e = 0 := (rend_p _ h0).2
    have z4 : (mA b).2.e = 0 := (rraw_p _ _ z5).2
    have z3 : (mS b).2.e = 0 := (rnum_p _ _ _ (show (rnum (mS b).2 0 60000).2.e = 0 from z4)).2
    have z2 : (gI b).2.e = 0 := (rnum_p _ _ _ (show (rnum (gI b).2 1 60000).2.e = 0 from z3)).2
    have z1 : (gK b).2.e = 0 := (rnum_p _ _ _ (show (rnum (gK b).2 1 1099511627776).2.e = 0 from z2)).2
    obtain ⟨k, a1, e1, p1⟩ := back_step b [] 0 1 3 rfl z1
    have e1 : gK b = ((k : Int), ⟨b, a1, 0, 0⟩) := e1
    have z2 : (rnum (gK b).2 1 1099511627776).2.e = 0 := z2
    rw [e1] at z2
    obtain ⟨i, a2, e2, p2⟩ := back_step b _ a1 1 1099511627776 p1 z2
    have e2 : gI b = ((i : Int), ⟨b, a2, 0, 0⟩) := by
      show rnum (gK b).2 1 1099511627776 = _
      rw [e1]; exact e2
    have z3 : (rnum (gI b).2 1 60000).2.e = 0 := z3
    rw [e2] at z3
    obtain ⟨s, a3, e3, p3⟩ := back_step b _ a2 1 60000 p2 z3
    have e3 : mS b = ((s : Int), ⟨b, a3, 0, 0⟩) := by
      show rnum (gI b).2 1 60000 = _
      rw [e2]; exact e3
    have z4 : (rnum (mS b).2 0 60000).2.e = 0 := z4
    rw [e3] at z4
    obtain ⟨a, a4, e4, p4⟩ := back_step b _ a3 0 60000 p3 z4
    have e4 : mA b = ((a : Int), ⟨b, a4, 0, 0⟩) := by
      show rnum (mS b).2 0 60000 = _
      rw [e3]; exact e4
    have z5 : (rraw (mA b).2 200).2.e = 0 := z5
    rw [e4] at z5
    obtain ⟨l, a5, e5, p5⟩ := back_raw b _ a4 200 p4 z5
    have e5 : mR b = (l, ⟨b, a5, 0, 0⟩) := by
      show rraw (mA b).2 200 = _
      rw [e4]; exact e5
    rw [e5] at h0
    have hx := back_end b _ a5 p5 h0
    rw [e1] at hk
    rw [e1, e2, e3, e4, e5]
    have hy : msgX (k : Int) i s a l = b := by
      refine Eq.trans ?_ hx.symm
      unfold msgX
      rw [if_pos hk]
      simp only [Int.toNat_natCast]
      simp
    exact congrArg (fun z => (z, (0 : Int))) hy
  · have g : getM b = getW (gK b).1 (gI b).1 0 0 [] (rend (gI b).2) := by unfold getM; exact if_neg hk
    rw [g] at h ⊢
    obtain ⟨h0, hc, hg⟩ := getW_back h
    rw [hg]
    show msgB (gK b).1 (gI b).1 0 0 [] = (b, 0)
    unfold msgB
    rw [if_pos hc]
    have z2 : (gI b).2.e = 0 := (rend_p _ h0).2
    have z1 : (gK b).2.e = 0 := (rnum_p _ _ _ (show (rnum (gK b).2 1 1099511627776).2.e = 0 from z2)).2
    obtain ⟨k, a1, e1, p1⟩ := back_step b [] 0 1 3 rfl z1
    have e1 : gK b = ((k : Int), ⟨b, a1, 0, 0⟩) := e1
    have z2 : (rnum (gK b).2 1 1099511627776).2.e = 0 := z2
    rw [e1] at z2
    obtain ⟨i, a2, e2, p2⟩ := back_step b _ a1 1 1099511627776 p1 z2
    have e2 : gI b = ((i : Int), ⟨b, a2, 0, 0⟩) := by
      show rnum (gK b).2 1 1099511627776 = _
      rw [e1]; exact e2
    rw [e2] at h0
    have hx := back_end b _ a2 p2 h0
    rw [e1] at hk
    rw [e1, e2]
    have hy : msgX (k : Int) i 0 0 [] = b := by
      refine Eq.trans ?_ hx.symm
      unfold msgX
      rw [if_neg hk]
      simp only [Int.toNat_natCast]
      simp
    exact congrArg (fun z => (z, (0 : Int))) hy
/-- no kind is left behind by a fault -/
theorem getM_none {b : List UInt8} (h : (getM b).e ≠ 0) : (getM b).k = 0 := by
  have key : ∀ (k i s a : Int) (l : List UInt8) (r : Int × Int), (getW k i s a l r).e ≠ 0 → (getW k i s a l r).k = 0 := by
    intro k i s a l r h
    by_cases h0 : r.1 = 0
    · by_cases hc : chkM k i s a l.length = 0
      · rw [(getW_mk k i s a l r).1 h0 hc] at h; exact absurd rfl h
      · rw [(getW_mk k i s a l r).2.1 h0 hc]
    · rw [(getW_mk k i s a l r).2.2 h0]
  unfold getM at h ⊢
  split
  · rename_i hk; rw [if_pos hk] at h; exact key _ _ _ _ _ _ h
  · rename_i hk; rw [if_neg hk] at h; exact key _ _ _ _ _ _ h
theorem frm_le (n k : Nat) (hk : k ≤ 7) (h : n < 2 ^ (8 * k)) : (frm n).length ≤ k + 1 := by
  have h1 : (2 : Nat) ^ (8 * k) ≤ 2 ^ 56 := Nat.pow_le_pow_right (by omega) (by omega)
  have h2 := Lib.bitLen_le n (8 * k) (by omega) h
  have h3 := be_len n (by omega)
  rw [frm_len, h3]
  omega
theorem msgX_short {k i s a : Int} {l : List UInt8} (h : chkM k i s a l.length = 0) : (msgX k i s a l).length ≤ 240 := by
  have hF := chkM_fine h
  unfold MFine at hF
  have hi := frm_le i.toNat 6 (by omega) (by omega)
  have hk := frm_le k.toNat 1 (by omega) (by omega)
  unfold msgX
  split
  · have hs := frm_le s.toNat 2 (by omega) (by omega)
    have ha := frm_le a.toNat 2 (by omega) (by omega)
    have hl := frm_le l.length 1 (by omega) (by omega)
    simp only [List.length_append]
    omega
  · simp only [List.length_append]
    omega
theorem chk_carry (m : Nat) (h : m ≤ 240) : chkP 1 0 1 0 m = 0 := by
  unfold chkP
  rw [if_pos (show PFine 1 0 1 0 m from ⟨by omega, ⟨by decide, by decide, by decide, by decide⟩, by omega, by omega⟩)]
end Go.Proofs.Ytncahekankbalaa
