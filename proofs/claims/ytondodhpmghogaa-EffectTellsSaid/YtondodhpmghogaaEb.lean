/- Plain laws: effects are in order; what is told as bytes is read as it, and back. Conditions: none beyond lengths. -/
import Derived.Test.YtondodhpmghogaaE7
import Derived.Test.YtondodhpmghogaaB4
namespace Go.Proofs.Ytondodhpmghogaa
open Go.RowKit
set_option linter.unusedVariables false
set_option linter.unusedSimpArgs false

theorem cmpInt_neg (a b : Int) : Lib.compareInt b a = - Lib.compareInt a b := by
  unfold Lib.compareInt
  (repeat' split) <;> omega
theorem cmpInt_lt (a b : Int) : Lib.compareInt a b < 0 ↔ a < b := by
  unfold Lib.compareInt
  (repeat' split) <;> omega
theorem cmpBytes_neg : ∀ a b : List UInt8, Lib.compareBytes b a = - Lib.compareBytes a b
  | [], [] => by simp [Lib.compareBytes]
  | [], _ :: _ => by simp [Lib.compareBytes]
  | _ :: _, [] => by simp [Lib.compareBytes]
  | a :: x, b :: y => by
    have ih := cmpBytes_neg x y
    unfold Lib.compareBytes
    by_cases h : a < b
    · have h2 : ¬ b < a := by rw [UInt8.lt_iff_toNat_lt] at h ⊢; omega
      simp [h, h2]
    · by_cases h2 : b < a
      · simp [h, h2]
      · simp [h, h2, ih]
theorem cmpBytes_trans : ∀ a b c : List UInt8, Lib.compareBytes a b < 0 → Lib.compareBytes b c < 0 → Lib.compareBytes a c < 0
  | _, [], [] => by simp [Lib.compareBytes]
  | [], [], _ :: _ => by simp [Lib.compareBytes]
  | _ :: _, [], _ :: _ => by simp [Lib.compareBytes]
  | _, _ :: _, [] => by simp [Lib.compareBytes]
  | [], _ :: _, _ :: _ => by simp [Lib.compareBytes]
  | a :: x, b :: y, c :: z => by
    have ih := cmpBytes_trans x y z
    unfold Lib.compareBytes
    simp only [UInt8.lt_iff_toNat_lt]
    intro h1 h2
    by_cases c1 : a.toNat < b.toNat
    · by_cases c2 : b.toNat < c.toNat
      · rw [if_pos (by omega)]; decide
      · by_cases c3 : c.toNat < b.toNat
        · rw [if_neg c2, if_pos c3] at h2; omega
        · rw [if_pos (by omega)]; decide
    · by_cases c4 : b.toNat < a.toNat
      · rw [if_neg c1, if_pos c4] at h1; omega
      · rw [if_neg c1, if_neg c4] at h1
        by_cases c2 : b.toNat < c.toNat
        · rw [if_pos (by omega)]; decide
        · by_cases c3 : c.toNat < b.toNat
          · rw [if_neg c2, if_pos c3] at h2; omega
          · rw [if_neg c2, if_neg c3] at h2
            rw [if_neg (by omega), if_neg (by omega)]
            exact ih h1 h2
theorem ordE_neg (k m : Int) (l : List UInt8) (k2 m2 : Int) (l2 : List UInt8) : ordE k2 m2 l2 k m l = - ordE k m l k2 m2 l2 := by
  unfold ordE
  rw [orL3, orL3, cmpInt_neg k k2, cmpInt_neg m m2, cmpBytes_neg l l2]
  (repeat' split) <;> omega
/-- of two, one is less, or they are the same -/
theorem tri (k m : Int) (l : List UInt8) (k2 m2 : Int) (l2 : List UInt8) :
    (lessE k m l k2 m2 l2 = true ∧ lessE k2 m2 l2 k m l = false ∧ sameE k m l k2 m2 l2 = false ∧ sameE k2 m2 l2 k m l = false) ∨
    (lessE k m l k2 m2 l2 = false ∧ lessE k2 m2 l2 k m l = true ∧ sameE k m l k2 m2 l2 = false ∧ sameE k2 m2 l2 k m l = false) ∨
    (lessE k m l k2 m2 l2 = false ∧ lessE k2 m2 l2 k m l = false ∧ sameE k m l k2 m2 l2 = true ∧ sameE k2 m2 l2 k m l = true) := by
  rw [sameE_ord, sameE_ord]
  unfold lessE
  rw [ordE_neg k m l k2 m2 l2]
  generalize ordE k m l k2 m2 l2 = x
  have s : ∀ y : Int, (y == 0) = decide (y = 0) := fun y => rfl
  rw [s, s]
  simp only [decide_eq_true_eq, decide_eq_false_iff_not]
  omega
theorem less_irr (k m : Int) (l : List UInt8) : lessE k m l k m l = false ∧ sameE k m l k m l = true := by
  rw [sameE_ord]
  unfold lessE
  have : ordE k m l k m l = 0 := (ordE_zero _ _ _ _ _ _).2 ⟨rfl, rfl, rfl⟩
  rw [this]
  exact ⟨rfl, rfl⟩
theorem less_trans {k m : Int} {l : List UInt8} {k2 m2 : Int} {l2 : List UInt8} {k3 m3 : Int} {l3 : List UInt8} (h1 : lessE k m l k2 m2 l2 = true) (h2 : lessE k2 m2 l2 k3 m3 l3 = true) : lessE k m l k3 m3 l3 = true := by
  unfold lessE ordE at h1 h2 ⊢
  rw [orL3] at h1 h2 ⊢
  rw [decide_eq_true_eq] at h1 h2 ⊢
  have a1 := cmpInt_lt k k2; have a2 := cmpInt_lt k2 k3; have a3 := cmpInt_lt k k3
  have b1 := cmpInt_lt m m2; have b2 := cmpInt_lt m2 m3; have b3 := cmpInt_lt m m3
  have z1 := cmpInt_zero k k2; have z2 := cmpInt_zero k2 k3; have z3 := cmpInt_zero k k3
  have y1 := cmpInt_zero m m2; have y2 := cmpInt_zero m2 m3; have y3 := cmpInt_zero m m3
  have t := cmpBytes_trans l l2 l3
  have q1 := cmpBytes_zero l l2
  by_cases c1 : k = k2
  · rw [if_pos (z1.2 c1)] at h1
    by_cases c2 : k2 = k3
    · rw [if_pos (z2.2 c2)] at h2
      rw [if_pos (z3.2 (by omega))]
      by_cases d1 : m = m2
      · rw [if_pos (y1.2 d1)] at h1
        by_cases d2 : m2 = m3
        · rw [if_pos (y2.2 d2)] at h2
          rw [if_pos (y3.2 (by omega))]
          split at h1
          · omega
          · split at h2
            · omega
            · have := t h1 h2
              rw [if_neg (by omega)]; exact this
        · rw [if_neg (fun e => d2 (y2.1 e))] at h2
          have := b2.1 h2
          rw [if_neg (fun e => by have := y3.1 e; omega)]
          exact b3.2 (by omega)
      · rw [if_neg (fun e => d1 (y1.1 e))] at h1
        have g1 := b1.1 h1
        by_cases d2 : m2 = m3
        · rw [if_neg (fun e => by have := y3.1 e; omega)]
          exact b3.2 (by omega)
        · rw [if_neg (fun e => d2 (y2.1 e))] at h2
          have g2 := b2.1 h2
          rw [if_neg (fun e => by have := y3.1 e; omega)]
          exact b3.2 (by omega)
    · rw [if_neg (fun e => c2 (z2.1 e))] at h2
      have := a2.1 h2
      rw [if_neg (fun e => by have := z3.1 e; omega)]
      exact a3.2 (by omega)
  · rw [if_neg (fun e => c1 (z1.1 e))] at h1
    have g1 := a1.1 h1
    by_cases c2 : k2 = k3
    · rw [if_neg (fun e => by have := z3.1 e; omega)]
      exact a3.2 (by omega)
    · rw [if_neg (fun e => c2 (z2.1 e))] at h2
      have g2 := a2.1 h2
      rw [if_neg (fun e => by have := z3.1 e; omega)]
      exact a3.2 (by omega)

theorem chk_fine {k m : Int} {n : Nat} (h : chk k m n = 0) : Fine k m n := by
  unfold chk at h
  split at h
  · assumption
  · simp at h
theorem wnum_ok (b : List UInt8) (n : Nat) (hn : n ≤ 4611686018427387903) (h : b.length + (frm n).length ≤ 1048576) : wnum b 0 (n : Int) = (b ++ frm n, 0) := by
  unfold wnum
  rw [if_neg (by simp), if_neg (by omega), Int.toNat_natCast]
  exact wput_ok _ _ h
/-- an effect's bytes -/
def effX (k m : Nat) (l : List UInt8) : List UInt8 := frm k ++ (frm m ++ (frm l.length ++ l))
theorem effX_read (a b : Nat) (l : List UInt8) (h : chk a b l.length = 0) : effB a b l = (effX a b l, 0) ∧ effR (effX a b l) = ⟨a, b, l, 0, 0⟩ := by
  have hF := chk_fine h
  unfold Fine at hF
  have ha : a ≤ 3 ∧ 1 ≤ a := by omega
  have hb : b ≤ 511 := by omega
  have hl : l.length ≤ 1000 := by omega
  have f1 := frm_len9 a
  have f2 := frm_len9 b
  have f3 := frm_len9 l.length
  refine ⟨?_, ?_⟩
  · unfold effB
    rw [if_pos h]
    unfold effW
    rw [wnum_ok [] a (by omega) (by simp; omega)]
    show wraw (wnum ([] ++ frm a) 0 b).1 (wnum ([] ++ frm a) 0 b).2 l = _
    rw [wnum_ok _ b (by omega) (by simp; omega)]
    show wraw (([] ++ frm a) ++ frm b) 0 l = _
    unfold wraw
    rw [wput_ok _ _ (by simp; omega)]
    unfold effX
    simp
  · have k1 := rnum_frm [] (frm b ++ (frm l.length ++ l)) a (by omega) 1 3 0 (by omega) (by omega)
    have k2 := rnum_frm (frm a) (frm l.length ++ l) b (by omega) 0 511 0 (by omega) (by omega)
    have k3 := rraw_frm (frm a ++ frm b) [] l (by omega) 1000 0 (by omega)
    have e1 : effK (effX a b l) = ((a : Int), ⟨effX a b l, (frm a).length, 0, 0⟩) := by
      unfold effK effX
      simpa using k1
    have e2 : effM (effX a b l) = ((b : Int), ⟨effX a b l, (frm a ++ frm b).length, 0, 0⟩) := by
      unfold effM
      rw [e1]
      unfold effX
      rw [List.length_append]
      exact k2
    have hx : (frm a ++ frm b) ++ ((frm l.length ++ l) ++ []) = effX a b l := by unfold effX; simp
    rw [hx] at k3
    have e3 : effL (effX a b l) = (l, ⟨effX a b l, (frm a ++ frm b).length + (frm l.length ++ l).length, 0, 0⟩) := by
      unfold effL
      rw [e2]
      exact k3
    have hlen : (frm a ++ frm b).length + (frm l.length ++ l).length = (effX a b l).length := by unfold effX; simp; omega
    have e4 : effE (effX a b l) = (0, 0) := by
      unfold effE rend
      rw [e3]
      rw [if_neg (by rintro ⟨_, e⟩; have e : (frm a ++ frm b).length + (frm l.length ++ l).length < (effX a b l).length := e; omega)]
    unfold effR
    rw [e4, e1, e2, e3]
    show (if (0 : Int) = 0 then (if chk a b l.length = 0 then (⟨a, b, l, 0, 0⟩ : Eff) else _) else _) = _
    rw [if_pos rfl, if_pos h]
theorem effB_bad (k m : Int) (l : List UInt8) (h : chk k m l.length ≠ 0) : effB k m l = ([], 2) ∧ chk k m l.length = 2 := by
  unfold effB
  rw [if_neg h]
  exact ⟨rfl, chk_two _ _ _ h⟩
theorem effB_ok (k m : Int) (l : List UInt8) (h : chk k m l.length = 0) : ∃ s, effB k m l = (s, 0) ∧ effR s = ⟨k, m, l, 0, 0⟩ ∧ s.length ≤ 1030 := by
  have hF := chk_fine h
  unfold Fine at hF
  obtain ⟨a, rfl⟩ : ∃ a : Nat, k = a := ⟨k.toNat, by omega⟩
  obtain ⟨b, rfl⟩ : ∃ b : Nat, m = b := ⟨m.toNat, by omega⟩
  obtain ⟨h1, h2⟩ := effX_read a b l h
  have f1 := frm_len9 a
  have f2 := frm_len9 b
  have f3 := frm_len9 l.length
  exact ⟨_, h1, h2, by unfold effX; simp; omega⟩
/-- the codes tell the effects apart -/
theorem effB_inj (k m : Int) (l : List UInt8) (k2 m2 : Int) (l2 : List UInt8) (h1 : chk k m l.length = 0) (h2 : chk k2 m2 l2.length = 0) : eqB (effB k m l).1 (effB k2 m2 l2).1 = sameE k m l k2 m2 l2 := by
  obtain ⟨s, e1, r1, _⟩ := effB_ok k m l h1
  obtain ⟨t, e2, r2, _⟩ := effB_ok k2 m2 l2 h2
  rw [sameE_ord, Bool.eq_iff_iff, beq_iff_eq, ordE_zero, e1, e2]
  unfold eqB
  rw [beq_iff_eq]
  constructor
  · rintro rfl
    rw [r1] at r2
    injection r2 with a b c
    exact ⟨a, b, c⟩
  · rintro ⟨rfl, rfl, rfl⟩
    rw [e1] at e2
    injection e2
theorem effR_cases (b : List UInt8) : ((effR b).e ≠ 0 ∧ (effR b).k = 0 ∧ (effR b).m = 0 ∧ (effR b).l = []) ∨ ((effR b).e = 0 ∧ (effE b).1 = 0 ∧ chk (effK b).1 (effM b).1 (effL b).1.length = 0 ∧ effR b = ⟨(effK b).1, (effM b).1, (effL b).1, 0, (effE b).2⟩) := by
  unfold effR
  split
  · rename_i h
    split
    · rename_i hc; exact .inr ⟨rfl, h, hc, rfl⟩
    · exact .inl ⟨show (2 : Int) ≠ 0 by decide, rfl, rfl, rfl⟩
  · rename_i h; exact .inl ⟨h, rfl, rfl, rfl⟩
theorem effR_back (b : List UInt8) (h : (effR b).e = 0) : chk (effR b).k (effR b).m (effR b).l.length = 0 ∧ effB (effR b).k (effR b).m (effR b).l = (b, 0) ∧ (effR b).p = 0 := by
  rcases effR_cases b with ⟨h1, _⟩ | ⟨_, he, hc, hr⟩
  · exact absurd h h1
  · obtain ⟨p0, z3, z2, z1⟩ := effE_zero b he
    rw [hr]
    refine ⟨hc, ?_, p0⟩
    show effB (effK b).1 (effM b).1 (effL b).1 = (b, 0)
    obtain ⟨n1, e1, _, t1, _⟩ := rnum_back ⟨b, 0, 0, 0⟩ 1 3 rfl z1
    obtain ⟨n2, e2, _, t2, _⟩ := rnum_back (effK b).2 0 511 z1 z2
    obtain ⟨k, e3, t3, u3⟩ := rraw_back (effM b).2 1000 z2 z3
    have e1 : effK b = ((n1 : Int), ⟨b, 0 + (frm n1).length, 0, 0⟩) := e1
    have e2 : effM b = ((n2 : Int), ⟨(effK b).2.b, (effK b).2.at_ + (frm n2).length, 0, (effK b).2.p⟩) := e2
    rw [e1] at e2 t2
    rw [e2] at e3 t3 u3
    have e3 : effL b = (k, ⟨b, 0 + (frm n1).length + (frm n2).length + (frm k.length ++ k).length, 0, 0⟩) := by rw [effL, e2]; exact e3
    have t1 : (b.drop 0).take (frm n1).length = frm n1 := t1
    have t2 : (b.drop (0 + (frm n1).length)).take (frm n2).length = frm n2 := t2
    have t3 : (b.drop (0 + (frm n1).length + (frm n2).length)).take (frm k.length ++ k).length = frm k.length ++ k := t3
    have hend : b.length ≤ 0 + (frm n1).length + (frm n2).length + (frm k.length ++ k).length := by
      rcases Nat.lt_or_ge (0 + (frm n1).length + (frm n2).length + (frm k.length ++ k).length) b.length with hlt | hge
      · exfalso
        unfold effE rend at he
        rw [e3] at he
        rw [if_pos ⟨rfl, hlt⟩] at he
        simp at he
      · exact hge
    have hb : b = effX n1 n2 k := by
      unfold effX
      have a1 : b = frm n1 ++ b.drop (frm n1).length := by
        conv => lhs; rw [← List.take_append_drop (frm n1).length b]
        rw [List.drop_zero] at t1
        rw [t1]
      have a2 : b.drop (frm n1).length = frm n2 ++ b.drop ((frm n1).length + (frm n2).length) := by
        conv => lhs; rw [← List.take_append_drop (frm n2).length (b.drop (frm n1).length)]
        rw [Nat.zero_add] at t2
        rw [t2, List.drop_drop]
      have a3 : b.drop ((frm n1).length + (frm n2).length) = frm k.length ++ k := by
        rw [Nat.zero_add] at t3
        rw [← t3, List.take_of_length_le]
        rw [List.length_drop]; omega
      rw [a3] at a2
      rw [a2] at a1
      exact a1
    rw [e1, e2, e3] at hc ⊢
    show effB n1 n2 k = (b, 0)
    have := (effX_read n1 n2 k hc).1
    rw [this, ← hb]
theorem effR_place (b : List UInt8) (h : b.length ≤ 9223372036854775807) : 0 ≤ (effR b).p ∧ (effR b).p ≤ b.length := by
  have f0 : Fit ⟨b, 0, 0, 0⟩ := ⟨Nat.zero_le _, h, by constructor <;> simp⟩
  have f1 : Fit (effK b).2 := rnum_fit _ _ _ f0
  have f2 : Fit (effM b).2 := rnum_fit _ _ _ f1
  have f3 : Fit (effL b).2 := rraw_fit _ _ f2
  have hb : (effL b).2.b = b := by
    show (rraw (effM b).2 1000).2.b = b
    rw [rraw_b]
    show (rnum (effK b).2 0 511).2.b = b
    rw [rnum_b]
    show (rnum ⟨b, 0, 0, 0⟩ 1 3).2.b = b
    rw [rnum_b]
  have hp : 0 ≤ (effE b).2 ∧ (effE b).2 ≤ b.length := by
    obtain ⟨g1, g2, g3⟩ := f3
    rw [hb] at g1 g3
    unfold effE rend
    split
    · exact ⟨by simp, by simp; omega⟩
    · exact g3
  unfold effR
  (repeat' split) <;> exact hp
end Go.Proofs.Ytondodhpmghogaa
