/- A number as eight bytes; the check of bytes; bytes of which one is changed have another fingerprint. No conditions. -/
import Derived.Test.YtncahekankbalaaP1
namespace Go.Proofs.Ytncahekankbalaa
open Go.RowKit
set_option linter.unusedVariables false
set_option linter.unusedSimpArgs false

theorem step_range (s : Int) (c : UInt8) : 0 ≤ step s c ∧ step s c < 18446744073709551616 := by
  unfold step
  rw [IntKind.wrap_u64]
  omega
theorem fnv_range (s : Int) (h0 : 0 ≤ s) (h1 : s < 18446744073709551616) (l : List UInt8) : 0 ≤ fnv s l ∧ fnv s l < 18446744073709551616 := by
  induction l generalizing s with
  | nil => exact ⟨h0, h1⟩
  | cons c t ih => exact ih _ (step_range s c).1 (step_range s c).2
/-- the first k of a number's eight bytes -/
def e8 (n : Int) (k : Nat) : List UInt8 := (List.range k).map fun j => UInt8.ofNat (n / 2 ^ (56 - 8 * j)).toNat
theorem e8_succ (n : Int) (k : Nat) : e8 n (k + 1) = e8 n k ++ [UInt8.ofNat (n / 2 ^ (56 - 8 * k)).toNat] := by simp [e8, List.range_succ]
theorem e8_len (n : Int) (k : Nat) : (e8 n k).length = k := by simp [e8]

theorem u8_of (x : Int) (h : 0 ≤ x) : ((UInt8.ofNat x.toNat).toNat : Int) = x % 256 := by
  have : (UInt8.ofNat x.toNat).toNat = x.toNat % 256 := by simp
  rw [this]; omega
theorem u8s_of (x : Int) (h : 0 ≤ x) : u8s [UInt8.ofNat x.toNat] = [.int .u8 (x % 256)] := by
  show [Value.int .u8 ((UInt8.ofNat x.toNat).toNat : Int)] = _
  rw [u8_of x h]
theorem xor_can (a b c : Nat) (h : a ^^^ c = b ^^^ c) : a = b := by
  have : (a ^^^ c) ^^^ c = (b ^^^ c) ^^^ c := by rw [h]
  rwa [Nat.xor_assoc, Nat.xor_self, Nat.xor_zero, Nat.xor_assoc, Nat.xor_self, Nat.xor_zero] at this
theorem mul_inj (x y : Int) (hx : 0 ≤ x) (hx1 : x < 18446744073709551616) (hy : 0 ≤ y) (hy1 : y < 18446744073709551616) (h : (x * 1099511628211) % 18446744073709551616 = (y * 1099511628211) % 18446744073709551616) : x = y := by
  have key : ∀ z : Int, 0 ≤ z → z < 18446744073709551616 → ((z * 1099511628211) % 18446744073709551616 * 14886173955864302971) % 18446744073709551616 = z := by
    intro z h0 h1
    rw [Int.mul_emod, Int.emod_emod, ← Int.mul_emod, Int.mul_assoc]
    rw [show (1099511628211 : Int) * 14886173955864302971 = 1 + 18446744073709551616 * 887285111055 from rfl, Int.mul_add, Int.mul_one, Int.mul_left_comm, Int.add_mul_emod_self_left]
    exact Int.emod_eq_of_lt h0 h1
  rw [← key x hx hx1, h, key y hy hy1]
theorem xor_of (s : Int) (h0 : 0 ≤ s) (h1 : s < 18446744073709551616) (c : UInt8) : ∃ u : Nat, bits .xor .u64 s (IntKind.u64.wrap (c.toNat : Int)) = (u : Int) ∧ u < 18446744073709551616 ∧ s.toNat ^^^ c.toNat = u := by
  have hc := c.toNat_lt
  have e : IntKind.u64.wrap (c.toNat : Int) = (c.toNat : Int) := by rw [IntKind.wrap_u64]; omega
  refine ⟨s.toNat ^^^ c.toNat, ?_, ?_, rfl⟩
  · rw [e, u64_xor s _ h0 h1 (by omega) (by omega), Int.toNat_natCast]
  · have e64 : (18446744073709551616 : Nat) = 2 ^ 64 := by decide
    have a1 : s.toNat < 2 ^ 64 := by rw [← e64]; omega
    have a2 : c.toNat < 2 ^ 64 := by rw [← e64]; omega
    have := Nat.xor_lt_two_pow a1 a2
    rwa [← e64] at this
theorem mul_inj_nat (u v : Nat) (hu : u < 18446744073709551616) (hv : v < 18446744073709551616) (h : IntKind.u64.wrap ((u : Int) * 1099511628211) = IntKind.u64.wrap ((v : Int) * 1099511628211)) : u = v := by
  rw [IntKind.wrap_u64, IntKind.wrap_u64] at h
  have := mul_inj u v (by clear h; omega) (by clear h; omega) (by clear h; omega) (by clear h; omega) h
  clear h
  omega
theorem step_inj (s t : Int) (c d : UInt8) (hs0 : 0 ≤ s) (hs1 : s < 18446744073709551616) (ht0 : 0 ≤ t) (ht1 : t < 18446744073709551616) (h : step s c = step t d) : s.toNat ^^^ c.toNat = t.toNat ^^^ d.toNat := by
  obtain ⟨u, e1, l1, q1⟩ := xor_of s hs0 hs1 c
  obtain ⟨v, e2, l2, q2⟩ := xor_of t ht0 ht1 d
  unfold step at h
  rw [e1, e2] at h
  rw [q1, q2]
  exact mul_inj_nat u v l1 l2 h
theorem fnv_inj (l : List UInt8) : ∀ s t : Int, 0 ≤ s → s < 18446744073709551616 → 0 ≤ t → t < 18446744073709551616 → fnv s l = fnv t l → s = t := by
  induction l with
  | nil => intro s t _ _ _ _ h; exact h
  | cons c l ih =>
    intro s t hs0 hs1 ht0 ht1 h
    have h' := ih _ _ (step_range s c).1 (step_range s c).2 (step_range t c).1 (step_range t c).2 h
    have := step_inj s t c c hs0 hs1 ht0 ht1 h'
    have e : s.toNat = t.toNat := xor_can _ _ _ this
    omega
theorem fnv_set (l : List UInt8) (i : Nat) (hi : i < l.length) (d : UInt8) (h : fnv start l = fnv start (l.set i d)) : l[i] = d := by
  have e1 : l = l.take i ++ l[i] :: l.drop (i + 1) := by
    conv => lhs; rw [← List.take_append_drop i l, List.drop_eq_getElem_cons hi]
  have e2 : l.set i d = l.take i ++ d :: l.drop (i + 1) := by
    rw [List.set_eq_take_append_cons_drop, if_pos hi]
  have e3 : fnv start l = fnv start (l.take i ++ l[i] :: l.drop (i + 1)) := congrArg _ e1
  rw [e2, e3] at h
  have hr := fnv_range start (by decide) (by decide) (l.take i)
  have h2 : fnv (step (fnv start (l.take i)) l[i]) (l.drop (i + 1)) = fnv (step (fnv start (l.take i)) d) (l.drop (i + 1)) := by
    simpa only [fnv, List.foldl_append, List.foldl_cons] using h
  have h3 := fnv_inj _ _ _ (step_range _ _).1 (step_range _ _).2 (step_range _ _).1 (step_range _ _).2 h2
  have h4 := step_inj _ _ _ _ hr.1 hr.2 hr.1 hr.2 h3
  have h5 : l[i].toNat = d.toNat := xor_can _ _ (fnv start (l.take i)).toNat (by rw [Nat.xor_comm, Nat.xor_comm d.toNat]; exact h4)
  exact UInt8.toNat_inj.1 h5


theorem xor_byte (c d : UInt8) : bits .xor .u8 (c.toNat : Int) (d.toNat : Int) = ((c ^^^ d).toNat : Int) := by
  have h1 := c.toNat_lt
  have h2 := d.toNat_lt
  rw [u8_xor_nat _ _ (by omega) (by omega), UInt8.toNat_xor]
theorem xor_self_iff (c d : UInt8) : c = c ^^^ d ↔ d = 0 := by
  constructor
  · intro h
    have : c ^^^ c = c ^^^ (c ^^^ d) := by rw [← h]
    rw [← UInt8.xor_assoc, UInt8.xor_self, UInt8.zero_xor] at this
    exact this.symm
  · rintro rfl; simp

/-- the kit's Pick -/
def pick (x n : Int) : Int := if n < 1 then 0 else (x.tmod n + n) % n
theorem pick_range (x n : Int) (h : 1 ≤ n) : 0 ≤ pick x n ∧ pick x n < n := by
  unfold pick
  rw [if_neg (by omega)]
  exact ⟨Int.emod_nonneg _ (by omega), Int.emod_lt_of_pos _ (by omega)⟩

set_option maxHeartbeats 400000 in
theorem pick_any (x n : Int) (w : World) (hn : n ≤ 4611686018427387904) : Calls Try.prog 21 #[.int .i64 x, .int .i64 n] w fun e w' => e = .returned (.int .i64 (pick x n)) ∧ w = w' := by
  by_cases h : n < 1
  · go_enter Try.func21, Try.ntmps21
    go_wp2
    go_ret
    exact ⟨ret_int (by unfold pick; rw [if_pos h]), rfl⟩
  · have h1 : 1 ≤ n := by omega
    have hm1 : -n < x.tmod n := Int.lt_tmod_of_pos x (by omega)
    have hm2 : x.tmod n < n := Int.tmod_lt_of_pos x (by omega)
    have hne : ((n : Int) == 0) = false := by simp; omega
    go_enter Try.func21, Try.ntmps21
    go_wp2
    go_ret
    exact ⟨ret_int (by unfold pick; rw [if_neg (by omega)]; simp), rfl⟩

/-- a packet's check -/
def sum8 (l : List UInt8) : List UInt8 := e8 (fnv start l) 8
theorem sum8_len (l : List UInt8) : (sum8 l).length = 8 := e8_len _ _
def SumQ (w : World) (l : List UInt8) (e : Ending) (w' : World) : Prop := ∃ A c, e = .returned (.slice A 8 c) ∧ Rd w' A 8 c 1 (u8s (sum8 l)) ∧ (∀ a, A = some a → w.heap.size ≤ a.block) ∧ Below w.heap.size w w'
set_option maxHeartbeats 1000000 in
set_option maxRecDepth 100000 in
theorem fsum_any {A : Option Addr} {n c : Nat} {l : List UInt8} {w : World} (hr : Rd w A n c 1 (u8s l)) : Calls Try.prog 36 #[.slice A n c] w (SumQ w l) := by
  have h0 := (fnv_range start (by decide) (by decide) l).1
  have HR := Lib.hid hr
  clear hr
  go_enter Try.func36, Try.ntmps36
  go_wp2_with fail
  refine (sum_any _ _ _ _ _ HR.out).mono ?_
  obtain ⟨x, hx⟩ : ∃ z, z = fnv start l := ⟨_, rfl⟩
  rw [← hx] at h0 ⊢
  have HX := Lib.hid hx
  clear hx
  rintro e w1 ⟨rfl, hb1⟩
  have HB := Lib.hid hb1
  clear hb1
  go_wp2_with fail
  go_loopw [3, 8] (fun v i wr => ∃ k : Nat, k ≤ 8 ∧ i = .int .i64 (k : Int) ∧ wr.ownsRow w.heap.size 5 1 v k (u8s (e8 x k)) ∧ Below w.heap.size w wr) (fun _ i _ => (8 - intOf i).toNat)
  case atStart => exact ⟨0, by omega, rfl, World.ownsRow_nil _ _ _ _, HB.out⟩
  case round =>
    obtain ⟨k, hk, rfl, hown, hB⟩ := hrel
    by_cases hlt : k < 8
    · have HO := Lib.hid hown; clear hown
      have hy : 0 ≤ x / 2 ^ (56 - 8 * k) := Int.ediv_nonneg h0 (by exact_mod_cast Nat.zero_le _)
      have hu := Lib.hid (u8s_of _ hy)
      have hs : (8 * (7 - (k : Int))).toNat = 56 - 8 * k := by omega
      clear hy
      have hsz := hB.size
      have HBB := Lib.hid hB
      clear hB
      go_wp2_with (at_builtin; refine wpList_add _ rfl _ _ 22 rfl w.heap.size 5 _ 1 1 Try.underlying22 info5 rfl (by decide) _ k _ rfl HO.out _ _ rfl rfl (by simp [Value.oneCell']) (by simp [maxLen]; omega) (by omega) hsz ?_; intro v' w2 hown hnil hch hbel)
      go_roundw
      case rel => exact ⟨k + 1, by omega, by go_num, by rw [e8_succ, u8s_append, hu.out]; exact hown, HBB.out.trans hbel⟩
      case measure => simp [intOf]; omega
    · obtain rfl : k = 8 := by omega
      have HO := Lib.hid hown; clear hown
      obtain ⟨A', c', rfl, hr', hA'⟩ := own_form HO.out
      have HBB := Lib.hid hB; have HR' := Lib.hid hr'
      clear hB hr'
      go_wp2
      go_ret
      exact ⟨A', c', rfl, by unfold sum8; rw [← HX.out]; exact HR'.out, fun a ha => (hA' a ha).1, HBB.out⟩
set_option maxHeartbeats 1000000 in
set_option maxRecDepth 100000 in
theorem rsum_any {A : Option Addr} {n c : Nat} {l : List UInt8} {w : World} (hr : Rd w A n c 1 (u8s l)) : Calls Try.prog 40 #[.slice A n c] w (SumQ w l) := by
  have h0 := (fnv_range start (by decide) (by decide) l).1
  have HR := Lib.hid hr
  clear hr
  go_enter Try.func40, Try.ntmps40
  go_wp2_with fail
  refine (sumr_any _ _ _ _ _ HR.out).mono ?_
  obtain ⟨x, hx⟩ : ∃ z, z = fnv start l := ⟨_, rfl⟩
  rw [← hx] at h0 ⊢
  have HX := Lib.hid hx
  clear hx
  rintro e w1 ⟨rfl, rfl⟩
  have HB := Lib.hid (Below.refl w.heap.size w)
  go_wp2_with fail
  go_loopw [3, 5] (fun v i wr => ∃ k : Nat, k ≤ 8 ∧ i = .int .i64 (7 - (k : Int)) ∧ wr.ownsRow w.heap.size 5 1 v k (u8s (e8 x k)) ∧ Below w.heap.size w wr) (fun _ i _ => (intOf i + 1).toNat)
  case atStart => exact ⟨0, by omega, rfl, World.ownsRow_nil _ _ _ _, HB.out⟩
  case round =>
    obtain ⟨k, hk, rfl, hown, hB⟩ := hrel
    by_cases hlt : k < 8
    · have HO := Lib.hid hown; clear hown
      have hy : 0 ≤ x / 2 ^ (56 - 8 * k) := Int.ediv_nonneg h0 (by exact_mod_cast Nat.zero_le _)
      have hu := Lib.hid (u8s_of _ hy)
      have hs : (8 * (7 - (k : Int))).toNat = 56 - 8 * k := by omega
      clear hy
      have hsz := hB.size
      have HBB := Lib.hid hB
      clear hB
      go_wp2_with (at_builtin; refine wpList_add _ rfl _ _ 22 rfl w.heap.size 5 _ 1 1 Try.underlying22 info5 rfl (by decide) _ k _ rfl HO.out _ _ rfl rfl (by simp [Value.oneCell']) (by simp [maxLen]; omega) (by omega) hsz ?_; intro v' w2 hown hnil hch hbel)
      go_roundw
      case rel => exact ⟨k + 1, by omega, by go_num, by rw [e8_succ, u8s_append, hu.out]; exact hown, HBB.out.trans hbel⟩
      case measure => simp [intOf]; omega
    · obtain rfl : k = 8 := by omega
      have HO := Lib.hid hown; clear hown
      obtain ⟨A', c', rfl, hr', hA'⟩ := own_form HO.out
      have HBB := Lib.hid hB; have HR' := Lib.hid hr'
      clear hB hr'
      go_wp2
      go_ret
      exact ⟨A', c', rfl, by unfold sum8; rw [← HX.out]; exact HR'.out, fun a ha => (hA' a ha).1, HBB.out⟩
end Go.Proofs.Ytncahekankbalaa
