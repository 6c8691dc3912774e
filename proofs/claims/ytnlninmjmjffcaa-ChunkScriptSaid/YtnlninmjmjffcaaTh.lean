/- Bytes of which one is changed have another fingerprint; the walk of PrintChanged. No conditions. -/
import Derived.Test.YtnlninmjmjffcaaTg
namespace Go.Proofs.Ytnlninmjmjffcaa
open Go.RowKit
set_option linter.unusedVariables false
set_option linter.unusedSimpArgs false

theorem xor_can (a b c : Nat) (h : a ^^^ c = b ^^^ c) : a = b := by
  have : (a ^^^ c) ^^^ c = (b ^^^ c) ^^^ c := by rw [h]
  rwa [Nat.xor_assoc, Nat.xor_self, Nat.xor_zero, Nat.xor_assoc, Nat.xor_self, Nat.xor_zero] at this
theorem mul_inj (x y : Int) (hx : 0 ≤ x) (hx1 : x < 18446744073709551616) (hy : 0 ≤ y) (hy1 : y < 18446744073709551616) (h : (x * 1099511628211) % 18446744073709551616 = (y * 1099511628211) % 18446744073709551616) : x = y := by
  have key : ∀ z : Int, 0 ≤ z → z < 18446744073709551616 → ((z * 1099511628211) % 18446744073709551616 * 14886173955864302971) % 18446744073709551616 = z := by
    intro z h0 h1
    rw [Int.mul_emod, Int.emod_emod, ← Int.mul_emod, Int.mul_assoc]
    rw [show (1099511628211 : Int) * 14886173955864302971 = 1 + 18446744073709551616 * 887285111055 from rfl, Int.mul_add, Int.mul_one, Int.mul_left_comm, Int.add_mul_emod_self_left]
    exact Int.emod_eq_of_lt h0 h1
  rw [← key x hx hx1, h, key y hy hy1]
theorem xor_of (s : Int) (h0 : 0 ≤ s) (h1 : s < 18446744073709551616) (c : UInt8) : ∃ u : Nat, bits .xor .u64 s (IntKind.u64.wrap (c.toNat : Int)) = (u : Int) ∧ u < 18446744073709551616 ∧ s.toNat ^^^ c.toNat = u := by
  have hc := c.toNat_lt
  have e : IntKind.u64.wrap (c.toNat : Int) = (c.toNat : Int) := by rw [IntKind.wrap_u64]; omega
  refine ⟨s.toNat ^^^ c.toNat, ?_, ?_, rfl⟩
  · rw [e, u64_xor s _ h0 h1 (by omega) (by omega), Int.toNat_natCast]
  · have e64 : (18446744073709551616 : Nat) = 2 ^ 64 := by decide
    have a1 : s.toNat < 2 ^ 64 := by rw [← e64]; omega
    have a2 : c.toNat < 2 ^ 64 := by rw [← e64]; omega
    have := Nat.xor_lt_two_pow a1 a2
    rwa [← e64] at this
theorem mul_inj_nat (u v : Nat) (hu : u < 18446744073709551616) (hv : v < 18446744073709551616) (h : IntKind.u64.wrap ((u : Int) * 1099511628211) = IntKind.u64.wrap ((v : Int) * 1099511628211)) : u = v := by
  rw [IntKind.wrap_u64, IntKind.wrap_u64] at h
  have := mul_inj u v (by clear h; omega) (by clear h; omega) (by clear h; omega) (by clear h; omega) h
  clear h
  omega
theorem step_inj (s t : Int) (c d : UInt8) (hs0 : 0 ≤ s) (hs1 : s < 18446744073709551616) (ht0 : 0 ≤ t) (ht1 : t < 18446744073709551616) (h : step s c = step t d) : s.toNat ^^^ c.toNat = t.toNat ^^^ d.toNat := by
  obtain ⟨u, e1, l1, q1⟩ := xor_of s hs0 hs1 c
  obtain ⟨v, e2, l2, q2⟩ := xor_of t ht0 ht1 d
  unfold step at h
  rw [e1, e2] at h
  rw [q1, q2]
  exact mul_inj_nat u v l1 l2 h
theorem fnv_inj (l : List UInt8) : ∀ s t : Int, 0 ≤ s → s < 18446744073709551616 → 0 ≤ t → t < 18446744073709551616 → fnv s l = fnv t l → s = t := by
  induction l with
  | nil => intro s t _ _ _ _ h; exact h
  | cons c l ih =>
    intro s t hs0 hs1 ht0 ht1 h
    have h' := ih _ _ (step_range s c).1 (step_range s c).2 (step_range t c).1 (step_range t c).2 h
    have := step_inj s t c c hs0 hs1 ht0 ht1 h'
    have e : s.toNat = t.toNat := xor_can _ _ _ this
    omega
theorem fnv_set (l : List UInt8) (i : Nat) (hi : i < l.length) (d : UInt8) (h : fnv start l = fnv start (l.set i d)) : l[i] = d := by
  have e1 : l = l.take i ++ l[i] :: l.drop (i + 1) := by
    conv => lhs; rw [← List.take_append_drop i l, List.drop_eq_getElem_cons hi]
  have e2 : l.set i d = l.take i ++ d :: l.drop (i + 1) := by
    rw [List.set_eq_take_append_cons_drop, if_pos hi]
  have e3 : fnv start l = fnv start (l.take i ++ l[i] :: l.drop (i + 1)) := congrArg _ e1
  rw [e2, e3] at h
  have hr := fnv_range start (by decide) (by decide) (l.take i)
  have h2 : fnv (step (fnv start (l.take i)) l[i]) (l.drop (i + 1)) = fnv (step (fnv start (l.take i)) d) (l.drop (i + 1)) := by
    simpa only [fnv, List.foldl_append, List.foldl_cons] using h
  have h3 := fnv_inj _ _ _ (step_range _ _).1 (step_range _ _).2 (step_range _ _).1 (step_range _ _).2 h2
  have h4 := step_inj _ _ _ _ hr.1 hr.2 hr.1 hr.2 h3
  have h5 : l[i].toNat = d.toNat := xor_can _ _ (fnv start (l.take i)).toNat (by rw [Nat.xor_comm, Nat.xor_comm d.toNat]; exact h4)
  exact UInt8.toNat_inj.1 h5


theorem xor_byte (c d : UInt8) : bits .xor .u8 (c.toNat : Int) (d.toNat : Int) = ((c ^^^ d).toNat : Int) := by
  have h1 := c.toNat_lt
  have h2 := d.toNat_lt
  rw [u8_xor_nat _ _ (by omega) (by omega), UInt8.toNat_xor]
theorem xor_self_iff (c d : UInt8) : c = c ^^^ d ↔ d = 0 := by
  constructor
  · intro h
    have : c ^^^ c = c ^^^ (c ^^^ d) := by rw [← h]
    rw [← UInt8.xor_assoc, UInt8.xor_self, UInt8.zero_xor] at this
    exact this.symm
  · rintro rfl; simp

set_option maxRecDepth 100000 in
set_option maxHeartbeats 1000000 in
theorem changed_any (A : Option Addr) (n c : Nat) (l : List UInt8) (x : Int) (mask : UInt8) (w : World) (hl : Rd w A n c 1 (u8s l)) :
    Calls Try.prog 4 #[.slice A n c, .int .i64 x, .int .u8 (mask.toNat : Int)] w (AwakeQ w) := by
  have hn := hl.small
  have hlen : l.length = n := by have := hl.len; simpa using this
  have HN := Lib.hid hlen
  have HL := Lib.hid hl; clear hl hlen
  by_cases h1 : 3000 < n
  · go_enter Try.func4, Try.ntmps4
    go_wp2_with fail
    refine (awake_any w).mono ?_; rintro e w1 ⟨rfl, hB⟩
    go_wp2
    go_ret
    exact ⟨rfl, hB⟩
  have h1' : n ≤ 3000 := by omega
  by_cases h0 : n = 0
  · subst h0
    go_enter Try.func4, Try.ntmps4
    go_wp2_with fail
    refine (awake_any w).mono ?_; rintro e w1 ⟨rfl, hB⟩
    go_wp2
    go_ret
    exact ⟨rfl, hB⟩
  have h0' : 1 ≤ n := by omega
  have h0b : ((n : Int) == 0) = false := by simp; omega
  clear h1 h0
  go_enter Try.func4, Try.ntmps4
  go_wp2_with fail
  refine (awake_any w).mono ?_; rintro e w1 ⟨rfl, hB1⟩
  go_wp2_with fail
  refine (copy_any A n c l w1 (HL.out.below hB1) (by omega)).mono ?_; rintro e w2 ⟨g, c', rfl, hbg, hnc, hrow, hB2⟩
  have HR := Lib.hid hrow; clear hrow
  have hB2w := hB1.trans (hB2.mono hB1.size)
  have hgw : w.heap.size ≤ g := Nat.le_trans hB1.size hbg
  clear hB1 hB2 hbg
  go_wp2_with fail
  refine (pick_any _ _ _ (by omega)).mono ?_; rintro e w3 ⟨rfl, rfl⟩
  obtain ⟨p, hp⟩ : ∃ p : Nat, pick x n = (p : Int) := ⟨(pick x n).toNat, by have := pick_range x n (by omega); omega⟩
  have hpr : p < n := by have := pick_range x n (by omega); omega
  rw [hp]
  clear hp
  have hpl : p < l.length := by rw [HN.out]; exact hpr
  obtain ⟨b, hb⟩ : ∃ b, b = l[p]?.getD 0 := ⟨_, rfl⟩
  have hc := HR.out.cell (u8s_get l p hpl)
  have hf := HR.out.thawed p
  rw [← hb] at hc
  have hx := xor_byte b mask
  obtain ⟨y, hy⟩ : ∃ y, y = b ^^^ mask := ⟨_, rfl⟩
  rw [← hy] at hx
  have hset := Lib.hid (HR.out.set p (.int .u8 (y.toNat : Int)) (by simpa using hpl))
  have HB := Lib.hid hb
  have HY := Lib.hid hy
  have HPL := Lib.hid hpl
  clear hb hpl hy
  go_wp2_with fail
  have hch := (Ch.setCell w2 ⟨g, p, none⟩ (.int .u8 (y.toNat : Int))).below (B := w.heap.size) hB2w.size (fun k hk => by rw [hk]; exact hgw)
  have hB3 := hB2w.trans hch
  obtain ⟨w3, hw3⟩ : ∃ x, x = w2.setCell ⟨g, p, none⟩ (.int .u8 (y.toNat : Int)) := ⟨_, rfl⟩
  rw [← hw3] at hB3 hset ⊢
  clear hw3 hch hc hf hx hB2w
  refine (sum_any _ _ _ l w3 (HL.out.below hB3)).mono ?_; rintro e w4 ⟨rfl, hB4⟩
  have hr4 := Lib.hid ((hset.out.below hB4).rd 0 n c' (u8s (l.set p y)) (by
    rw [List.drop_zero, Nat.mul_one, List.take_of_length_le (by simp [HN.out])]
    simp [u8s, List.map_set]) (by simp [HN.out]) hnc hset.out.big)
  have hB4 := hB3.trans (hB4.mono hB3.size)
  clear hset hB3
  go_wp2_with fail
  refine (sum_any _ _ _ (l.set p y) w4 hr4.out).mono ?_; rintro e w5 ⟨rfl, hB5⟩
  have hB5 := hB4.trans (hB5.mono hB4.size)
  clear hr4 hB4
  have hpl := HPL.out
  have hbl : l[p] = b := by rw [HB.out]; simp [hpl]
  obtain ⟨u, hu⟩ : ∃ u, u = fnv start l := ⟨_, rfl⟩
  obtain ⟨v, hv⟩ : ∃ v, v = fnv start (l.set p y) := ⟨_, rfl⟩
  by_cases hm : mask = 0
  · have hyb : y = b := by rw [HY.out, hm]; simp
    have hsame : l.set p y = l := by rw [hyb, ← hbl]; simp
    rw [hsame]
    have hm0 : (mask.toNat : Int) = 0 := by rw [hm]; rfl
    have hmb : ((mask.toNat : Int) == 0) = true := by simp [hm]
    clear hsame hyb hm0 hu hv hbl hpl hm
    go_wp2
    go_ret
    exact ⟨rfl, hB5⟩
  · have hne : fnv start l ≠ fnv start (l.set p y) := fun h => by
      have h2 := fnv_set l p hpl y h
      rw [hbl, HY.out] at h2
      exact hm ((xor_self_iff b mask).1 h2)
    rw [← hu, ← hv] at hne ⊢
    have hq : (u == v) = false := by simpa using hne
    have hmn : mask.toNat ≠ 0 := fun h => hm (by apply UInt8.toNat_inj.1; simpa using h)
    have hmb : ((mask.toNat : Int) == 0) = false := by simp; omega
    clear hu hv hbl hpl hm hne hmn
    go_wp2
    go_ret
    exact ⟨rfl, hB5⟩

end Go.Proofs.Ytnlninmjmjffcaa
