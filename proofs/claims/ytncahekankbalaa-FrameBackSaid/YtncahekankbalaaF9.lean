/- Walk: bytes of a packet of which one is changed are damaged (FrameDamaged). Conditions: the arguments are as they come in. -/
import Derived.Test.YtncahekankbalaaF8
namespace Go.Proofs.Ytncahekankbalaa
open Go.RowKit
set_option linter.unusedVariables false
set_option linter.unusedSimpArgs false

theorem e8_get (n : Int) (j : Nat) (h : j < 8) : (e8 n 8)[j]? = some (UInt8.ofNat (n / 2 ^ (56 - 8 * j)).toNat) := by simp [e8, h]
theorem e8_inj (n m : Int) (hn : 0 ≤ n) (hn2 : n < 18446744073709551616) (hm : 0 ≤ m) (hm2 : m < 18446744073709551616) (h : e8 n 8 = e8 m 8) : n = m := by
  have key : ∀ j, j < 8 → (n / 2 ^ (56 - 8 * j)) % 256 = (m / 2 ^ (56 - 8 * j)) % 256 := by
    intro j hj
    have h1 := e8_get n j hj
    rw [h, e8_get m j hj] at h1
    have h2 := congrArg UInt8.toNat (Option.some.inj h1)
    have a1 := u8_of (n / 2 ^ (56 - 8 * j)) (Int.ediv_nonneg hn (by exact_mod_cast Nat.zero_le _))
    have a2 := u8_of (m / 2 ^ (56 - 8 * j)) (Int.ediv_nonneg hm (by exact_mod_cast Nat.zero_le _))
    rw [← a1, ← a2, h2]
  have k0 := key 0 (by decide); have k1 := key 1 (by decide); have k2 := key 2 (by decide); have k3 := key 3 (by decide)
  have k4 := key 4 (by decide); have k5 := key 5 (by decide); have k6 := key 6 (by decide); have k7 := key 7 (by decide)
  simp only [Nat.mul_zero, Nat.sub_zero, Nat.mul_one, Nat.reduceMul, Nat.reduceSub, Int.reducePow, Int.pow_zero, Int.ediv_one] at k0 k1 k2 k3 k4 k5 k6 k7
  clear key h
  have s1 : n / 281474976710656 = m / 281474976710656 := by omega
  clear k0
  have s2 : n / 1099511627776 = m / 1099511627776 := by omega
  clear k1 s1
  have s3 : n / 4294967296 = m / 4294967296 := by omega
  clear k2 s2
  have s4 : n / 16777216 = m / 16777216 := by omega
  clear k3 s3
  have s5 : n / 65536 = m / 65536 := by omega
  clear k4 s4
  have s6 : n / 256 = m / 256 := by omega
  clear k5 s5
  omega
theorem sum8_inj (x y : List UInt8) (h : sum8 x = sum8 y) : fnv start x = fnv start y :=
  e8_inj _ _ (fnv_range start (by decide) (by decide) x).1 (fnv_range start (by decide) (by decide) x).2 (fnv_range start (by decide) (by decide) y).1 (fnv_range start (by decide) (by decide) y).2 h
/-- a packet's bytes of which one is changed -/
theorem getP_bad (x : List UInt8) (i : Nat) (hi : i < (x ++ sum8 x).length) (d : UInt8) (hd : d ≠ (x ++ sum8 x)[i]) : getP ((x ++ sum8 x).set i d) = ⟨0, 0, 0, 0, [], 11, 0⟩ := by
  have h8 := sum8_len x
  have hl : (x ++ sum8 x).length = x.length + 8 := by rw [List.length_append, h8]
  unfold getP
  rw [List.length_set, hl, if_neg (by omega), Nat.add_sub_cancel]
  rw [if_neg]
  intro h
  by_cases hx : i < x.length
  · have e1 : ((x ++ sum8 x).set i d).take x.length = x.set i d := by
      rw [List.set_append_left _ _ hx, List.take_left' (by simp)]
    have e2 : ((x ++ sum8 x).set i d).drop x.length = sum8 x := by
      rw [List.set_append_left _ _ hx, List.drop_left' (by simp)]
    rw [e1, e2] at h
    have h2 := sum8_inj _ _ h
    have h3 := fnv_set x i hx d h2.symm
    apply hd
    rw [List.getElem_append_left hx, h3]
  · have e1 : ((x ++ sum8 x).set i d).take x.length = x := by
      rw [List.set_append_right _ _ (by omega), List.take_left' rfl]
    have e2 : ((x ++ sum8 x).set i d).drop x.length = (sum8 x).set (i - x.length) d := by
      rw [List.set_append_right _ _ (by omega), List.drop_left' rfl]
    rw [e1, e2] at h
    have hj : i - x.length < (sum8 x).length := by omega
    have h2 : (sum8 x)[i - x.length] = d := by
      have := List.getElem_set_self (l := sum8 x) (i := i - x.length) (a := d) (by rw [List.length_set]; exact hj)
      simp only [← h] at this
      exact this
    apply hd
    rw [List.getElem_append_right (by omega), h2]
set_option maxRecDepth 100000 in
set_option maxHeartbeats 8000000 in
theorem damaged_law (f t n a : Int) (A : Option Addr) (m c : Nat) (l : List UInt8) (at_ : Int) (mask : UInt8) (w : World) (hr : Rd w A m c 1 (u8s l)) :
    Calls Try.prog 4 #[.agg #[.int .i64 f, .int .i64 t, .int .i64 n, .int .i64 a, .slice A m c], .int .i64 at_, .int .u8 (mask.toNat : Int)] w fun e w' => e = .returned (.bool true) ∧ Below w.heap.size w w' := by
  have hl : l.length = m := by have := hr.len; simpa using this
  have hm := hr.small
  obtain ⟨B, hB⟩ : ∃ z, z = w.heap.size := ⟨_, rfl⟩
  obtain ⟨V, hV⟩ : ∃ z, z = w.alloc (.cells #[.int .i64 f, .int .i64 t, .int .i64 n, .int .i64 a, .slice A m c] 24) := ⟨_, rfl⟩
  have HBL := Lib.hid (show Blk V B 24 #[.int .i64 f, .int .i64 t, .int .i64 n, .int .i64 a, .slice A m c] by rw [hV, hB]; exact blk_new _ _ _)
  have HB0 := Lib.hid (show Below w.heap.size w V by rw [hV]; exact box_below _ _)
  have HR := Lib.hid hr
  clear hr
  by_cases hc : chkP f t n a m = 0
  · have hlm := (chkP_fine hc).2.2.1
    have g400 : decide ((400 : Int) < (m : Int)) = false := decide_eq_false (by omega)
    obtain ⟨X, hX⟩ : ∃ z, z = pktX f t n a l := ⟨_, rfl⟩
    have HY := Lib.hid (show pktB f t n a l = (X ++ sum8 X, 0) by unfold pktB; rw [hl, if_pos hc, hX])
    have hXl := (pktX_len f t n a l).1
    rw [← hX] at hXl
    clear hc hX
    by_cases hk : mask = 0
    · have gm : ((mask.toNat : Int) == 0) = true := by rw [hk]; rfl
      clear hk
      go_enter Try.func4, Try.ntmps4
      go_wp2_with fail
      rw [← hV, ← hB]
      clear hV hB
      refine (fawake_any _).mono ?_
      rintro e w1 ⟨rfl, hb⟩
      have HB1 := Lib.hid (HB0.out.trans (hb.mono HB0.out.size)); have HBL1 := Lib.hid (blk_below HBL.out hb)
      clear hb
      have b0 := blk_cell HBL1.out 0 _ rfl
      have b1 := blk_cell HBL1.out 1 _ rfl
      have b2 := blk_cell HBL1.out 2 _ rfl
      have b3 := blk_cell HBL1.out 3 _ rfl
      have b4 := blk_cell HBL1.out 4 _ rfl
      go_wp2_with fail
      refine (pput_any f t n a (HR.out.below HB1.out) hm).mono ?_
      rw [HY.out]
      rintro e w2 ⟨A2, n2, c2, he, hh, hb⟩
      cases he
      have hn2 := held_len hh
      have HB2 := Lib.hid (HB1.out.trans (hb.mono HB1.out.size)); have HBL2 := Lib.hid (blk_below HBL1.out hb); have HH := Lib.hid hh
      clear b0 b1 b2 b3 b4 hb hh
      have b4 := blk_cell HBL2.out 4 _ rfl
      have hn3 : n2 = X.length + 8 := by rw [← hn2, List.length_append, sum8_len]
      have gn : ((n2 : Int) == 0) = false := by rw [beq_eq_false_iff_ne]; omega
      have gn2 : decide ((0 : Int) < (n2 : Int)) = true := decide_eq_true (by omega)
      have gn3 : decide (0 < n2) = true := decide_eq_true (by omega)
      clear hn2 hn3
      go_wp2_with fail
      go_ret
      exact ⟨rfl, HB2.out⟩
    · have gm : ((mask.toNat : Int) == 0) = false := by
        rw [beq_eq_false_iff_ne]
        intro e
        exact hk (UInt8.toNat_inj.1 (by simpa using e))
      have HMK := Lib.hid hk
      clear hk
      go_enter Try.func4, Try.ntmps4
      go_wp2_with fail
      rw [← hV, ← hB]
      clear hV hB
      refine (fawake_any _).mono ?_
      rintro e w1 ⟨rfl, hb⟩
      have HB1 := Lib.hid (HB0.out.trans (hb.mono HB0.out.size)); have HBL1 := Lib.hid (blk_below HBL.out hb)
      clear hb
      have b0 := blk_cell HBL1.out 0 _ rfl
      have b1 := blk_cell HBL1.out 1 _ rfl
      have b2 := blk_cell HBL1.out 2 _ rfl
      have b3 := blk_cell HBL1.out 3 _ rfl
      have b4 := blk_cell HBL1.out 4 _ rfl
      go_wp2_with fail
      refine (pput_any f t n a (HR.out.below HB1.out) hm).mono ?_
      rw [HY.out]
      rintro e w2 ⟨A2, n2, c2, he, hh, hb⟩
      cases he
      have hn2 := held_len hh
      have HB2 := Lib.hid (HB1.out.trans (hb.mono HB1.out.size)); have HBL2 := Lib.hid (blk_below HBL1.out hb); have HH := Lib.hid hh
      clear b0 b1 b2 b3 b4 hb hh
      have b4 := blk_cell HBL2.out 4 _ rfl
      have hn3 : n2 = X.length + 8 := by rw [← hn2, List.length_append, sum8_len]
      obtain ⟨S, hS⟩ : ∃ z, z = X ++ sum8 X := ⟨_, rfl⟩
      have hSl : S.length = n2 := by rw [hS]; exact hn2
      have HH2 := Lib.hid (show Held w2 w1.heap.size A2 n2 c2 S by rw [hS]; exact HH.out)
      have HS := Lib.hid hS
      have gn : ((n2 : Int) == 0) = false := by rw [beq_eq_false_iff_ne]; omega
      have hnb : n2 ≤ 1000 := by omega
      have hn8 : 8 ≤ n2 := by omega
      clear hn2 HH hS hn3
      rcases HH2.out with ⟨_, h0, _⟩ | ⟨g, hA2, hby, _, hge⟩
      · omega
      subst hA2
      have hrow := byt_row hby
      have HROW := Lib.hid hrow; have HBY := Lib.hid hby
      have hcn : n2 ≤ c2 := by have := byt_fits hby; omega
      have hz1 := HB1.out.size
      clear hby
      go_wp2_with fail
      refine (pick_any _ _ _ (by omega)).mono ?_; rintro e w3 ⟨rfl, rfl⟩
      obtain ⟨p, hp⟩ : ∃ p : Nat, pick at_ n2 = (p : Int) := ⟨(pick at_ n2).toNat, by have := pick_range at_ n2 (by omega); omega⟩
      have hpr : p < n2 := by have := pick_range at_ n2 (by omega); omega
      rw [hp]
      clear hp
      have hpl : p < S.length := by rw [hSl]; exact hpr
      obtain ⟨b, hb⟩ : ∃ b, b = S[p]?.getD 0 := ⟨_, rfl⟩
      have hcl := hrow.cell (u8s_get S p hpl)
      have hfz := hrow.thawed p
      rw [← hb] at hcl
      have hx := xor_byte b mask
      obtain ⟨y, hy⟩ : ∃ y, y = b ^^^ mask := ⟨_, rfl⟩
      rw [← hy] at hx
      have hset := Lib.hid (hrow.set p (.int .u8 (y.toNat : Int)) (by simpa using hpl))
      have HB := Lib.hid hb
      have HYY := Lib.hid hy
      have HPL := Lib.hid hpl; have HSL := Lib.hid hSl
      clear hb hpl hy hrow hSl
      obtain ⟨w4, hw4⟩ : ∃ x, x = w2.setCell ⟨g, p, none⟩ (.int .u8 (y.toNat : Int)) := ⟨_, rfl⟩
      have hch := (Ch.setCell w2 ⟨g, p, none⟩ (.int .u8 (y.toNat : Int))).below (B := w.heap.size) HB2.out.size (fun k hk => by have hk : k = g := hk; omega)
      rw [← hw4] at hch hset
      have HB4 := Lib.hid (HB2.out.trans hch)
      clear hch
      have hr4 : Rd w4 (some ⟨g, 0, none⟩) n2 c2 1 (u8s (S.set p y)) := hset.out.rd 0 n2 c2 (u8s (S.set p y)) (by
        rw [List.drop_zero, Nat.mul_one, List.take_of_length_le (by simp [HSL.out])]
        simp [u8s, List.map_set]) (by simp [HSL.out]) hcn hset.out.big
      have HR4 := Lib.hid hr4
      have HG := Lib.hid (show getP (S.set p y) = ⟨0, 0, 0, 0, [], 11, 0⟩ by
        have h1 := HS.out
        have hpl := HPL.out
        have hbl : S[p] = b := by rw [HB.out]; simp [hpl]
        subst h1
        refine getP_bad X p hpl y ?_
        rw [hbl, HYY.out]
        intro e
        exact HMK.out ((xor_self_iff b mask).1 e.symm))
      have hn9 : n2 ≤ 100000000 := by omega
      clear hset hr4
      go_wp2_with fail
      rw [← hw4]
      clear hw4 hcl hfz hx b4
      refine (pget_any HR4.out hn9).mono ?_
      rw [HG.out]
      rintro e w5 ⟨A5, n5, c5, he, hh, hb⟩
      cases he
      have HB5 := Lib.hid (HB4.out.trans (hb.mono HB4.out.size))
      clear hb hh
      go_wp2
      go_ret
      exact ⟨rfl, (HB5.out.alloc HB5.out.size _).alloc (by have := HB5.out.size; simp; omega) _⟩
  · have HY := Lib.hid (show pktB f t n a l = ([], 2) by unfold pktB; rw [hl, if_neg hc])
    clear hc
    by_cases h4 : 400 < m
    · have g400 : decide ((400 : Int) < (m : Int)) = true := decide_eq_true (by omega)
      go_enter Try.func4, Try.ntmps4
      go_wp2_with fail
      rw [← hV, ← hB]
      clear hV hB
      refine (fawake_any _).mono ?_
      rintro e w1 ⟨rfl, hb⟩
      have HB1 := Lib.hid (HB0.out.trans (hb.mono HB0.out.size)); have HBL1 := Lib.hid (blk_below HBL.out hb)
      clear hb
      have b0 := blk_cell HBL1.out 0 _ rfl
      have b1 := blk_cell HBL1.out 1 _ rfl
      have b2 := blk_cell HBL1.out 2 _ rfl
      have b3 := blk_cell HBL1.out 3 _ rfl
      have b4 := blk_cell HBL1.out 4 _ rfl
      go_wp2_with fail
      refine (pput_any f t n a (HR.out.below HB1.out) hm).mono ?_
      rw [HY.out]
      rintro e w2 ⟨A2, n2, c2, he, hh, hb⟩
      cases he
      have hn2 := held_len hh
      have HB2 := Lib.hid (HB1.out.trans (hb.mono HB1.out.size)); have HBL2 := Lib.hid (blk_below HBL1.out hb); have HH := Lib.hid hh
      clear b0 b1 b2 b3 b4 hb hh
      have b4 := blk_cell HBL2.out 4 _ rfl
      have hn3 : n2 = 0 := by rw [← hn2]; rfl
      clear hn2
      go_wp2_with fail
      go_ret
      exact ⟨rfl, HB2.out⟩
    · have g400 : decide ((400 : Int) < (m : Int)) = false := decide_eq_false (by omega)
      go_enter Try.func4, Try.ntmps4
      go_wp2_with fail
      rw [← hV, ← hB]
      clear hV hB
      refine (fawake_any _).mono ?_
      rintro e w1 ⟨rfl, hb⟩
      have HB1 := Lib.hid (HB0.out.trans (hb.mono HB0.out.size)); have HBL1 := Lib.hid (blk_below HBL.out hb)
      clear hb
      have b0 := blk_cell HBL1.out 0 _ rfl
      have b1 := blk_cell HBL1.out 1 _ rfl
      have b2 := blk_cell HBL1.out 2 _ rfl
      have b3 := blk_cell HBL1.out 3 _ rfl
      have b4 := blk_cell HBL1.out 4 _ rfl
      go_wp2_with fail
      refine (pput_any f t n a (HR.out.below HB1.out) hm).mono ?_
      rw [HY.out]
      rintro e w2 ⟨A2, n2, c2, he, hh, hb⟩
      cases he
      have hn2 := held_len hh
      have HB2 := Lib.hid (HB1.out.trans (hb.mono HB1.out.size)); have HBL2 := Lib.hid (blk_below HBL1.out hb); have HH := Lib.hid hh
      clear b0 b1 b2 b3 b4 hb hh
      have b4 := blk_cell HBL2.out 4 _ rfl
      have hn3 : n2 = 0 := by rw [← hn2]; rfl
      clear hn2
      go_wp2_with fail
      go_ret
      exact ⟨rfl, HB2.out⟩
end Go.Proofs.Ytncahekankbalaa
