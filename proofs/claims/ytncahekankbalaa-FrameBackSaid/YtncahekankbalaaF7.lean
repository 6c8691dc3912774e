/- Walks: a message's bytes (PutMessage, the program's and the reference's). Conditions: the bytes are read, and short. -/
import Derived.Test.YtncahekankbalaaF6
namespace Go.Proofs.Ytncahekankbalaa
open Go.RowKit
set_option linter.unusedVariables false
set_option linter.unusedSimpArgs false

def msgW (k i s a : Int) (l : List UInt8) : List UInt8 × Int := if k = 1 then wraw (numsW ([], 0) [k, i, s, a]).1 (numsW ([], 0) [k, i, s, a]).2 l else numsW ([], 0) [k, i]
def msgX (k i s a : Int) (l : List UInt8) : List UInt8 := if k = 1 then frm k.toNat ++ (frm i.toNat ++ (frm s.toNat ++ (frm a.toNat ++ (frm l.length ++ l)))) else frm k.toNat ++ frm i.toNat
def msgB (k i s a : Int) (l : List UInt8) : List UInt8 × Int := if chkM k i s a l.length = 0 then (msgX k i s a l, 0) else ([], 2)
theorem msgX_len (k i s a : Int) (l : List UInt8) : (msgX k i s a l).length ≤ 45 + l.length ∧ 1 ≤ (msgX k i s a l).length := by
  have h1 := frm_len9 k.toNat; have h2 := frm_len9 i.toNat; have h3 := frm_len9 s.toNat; have h4 := frm_len9 a.toNat; have h5 := frm_len9 l.length
  have h6 := frm_len k.toNat
  unfold msgX
  split
  · simp only [List.length_append]; omega
  · simp only [List.length_append]; omega
theorem numsW2 (k i : Nat) (hk : k ≤ 4611686018427387903) (hi : i ≤ 4611686018427387903) : numsW ([], 0) [(k : Int), (i : Int)] = (frm k ++ frm i, 0) := by
  have k1 := frm_len9 k; have k2 := frm_len9 i
  show wnum (wnum [] 0 (k : Int)).1 (wnum [] 0 (k : Int)).2 (i : Int) = _
  rw [wnum_ok [] k hk (by simp; omega)]
  show wnum ([] ++ frm k) 0 (i : Int) = _
  rw [wnum_ok _ i hi (by simp; omega)]
  simp
theorem msgW_ok (k i s a : Int) (l : List UInt8) (h : chkM k i s a l.length = 0) : msgW k i s a l = (msgX k i s a l, 0) := by
  have hF := chkM_fine h
  unfold MFine at hF
  obtain ⟨k, rfl⟩ : ∃ x : Nat, k = x := ⟨k.toNat, by omega⟩
  obtain ⟨i, rfl⟩ : ∃ x : Nat, i = x := ⟨i.toNat, by omega⟩
  unfold msgW msgX
  by_cases hk : (k : Int) = 1
  · rw [if_pos hk, if_pos hk]
    obtain ⟨s, rfl⟩ : ∃ x : Nat, s = x := ⟨s.toNat, by omega⟩
    obtain ⟨a, rfl⟩ : ∃ x : Nat, a = x := ⟨a.toNat, by omega⟩
    have k1 := frm_len9 k; have k2 := frm_len9 i; have k3 := frm_len9 s; have k4 := frm_len9 a; have k5 := frm_len9 l.length
    have e : numsW ([], 0) [(k : Int), i, s, a] = (((frm k ++ frm i) ++ frm s) ++ frm a, 0) := by
      show wnum (wnum (numsW ([], 0) [(k : Int), i]).1 (numsW ([], 0) [(k : Int), i]).2 (s : Int)).1 (wnum (numsW ([], 0) [(k : Int), i]).1 (numsW ([], 0) [(k : Int), i]).2 (s : Int)).2 (a : Int) = _
      rw [numsW2 k i (by omega) (by omega)]
      show wnum (wnum (frm k ++ frm i) 0 (s : Int)).1 (wnum (frm k ++ frm i) 0 (s : Int)).2 (a : Int) = _
      rw [wnum_ok _ s (by omega) (by simp; omega)]
      show wnum ((frm k ++ frm i) ++ frm s) 0 (a : Int) = _
      rw [wnum_ok _ a (by omega) (by simp; omega)]
    rw [e]
    unfold wraw
    rw [wput_ok _ _ (by simp; omega)]
    simp
  · rw [if_neg hk, if_neg hk, numsW2 k i (by omega) (by omega)]
    simp
set_option maxRecDepth 100000 in
set_option maxHeartbeats 4000000 in
theorem mput_any (k i s a : Int) {A : Option Addr} {m c : Nat} {l : List UInt8} {w : World} (hr : Rd w A m c 1 (u8s l)) (hm : m ≤ 9223372036854775807) : Calls Try.prog 23 #[.agg #[.int .i64 k, .int .i64 i, .int .i64 s, .int .i64 a, .slice A m c]] w (ToldP w (msgB k i s a l)) := by
  have hl : l.length = m := by have := hr.len; simpa using this
  obtain ⟨B, hB⟩ : ∃ z, z = w.heap.size := ⟨_, rfl⟩
  obtain ⟨V, hV⟩ : ∃ z, z = w.alloc (.cells #[.int .i64 k, .int .i64 i, .int .i64 s, .int .i64 a, .slice A m c] 43) := ⟨_, rfl⟩
  have HBL := Lib.hid (show Blk V B 43 #[.int .i64 k, .int .i64 i, .int .i64 s, .int .i64 a, .slice A m c] by rw [hV, hB]; exact blk_new _ _ _)
  have HB0 := Lib.hid (show Below w.heap.size w V by rw [hV]; exact box_below _ _)
  have HR := Lib.hid hr; have HBW := Lib.hid hB
  have HML := Lib.hid (show ∀ a, A = some a → 0 < m → a.block < B from fun a ha h0 => by have := rd_in hr a ha h0; omega)
  clear hr
  by_cases hc : chkM k i s a m = 0
  · have hF := chkM_fine hc
    have HOK := Lib.hid (show k ≤ 9223372036854775807 ∧ i ≤ 9223372036854775807 ∧ s ≤ 9223372036854775807 ∧ a ≤ 9223372036854775807 by unfold MFine at hF; omega)
    have hX := msgW_ok k i s a l (by rw [hl]; exact hc)
    have hlen := msgX_len k i s a l
    have hlm : m ≤ 400 := by unfold MFine at hF; omega
    have hks : k = 1 ∨ k ≠ 1 := by omega
    obtain ⟨X, hXd⟩ : ∃ z, z = msgX k i s a l := ⟨_, rfl⟩
    have HRES := Lib.hid (show msgB k i s a l = (X, 0) by unfold msgB; rw [hl, if_pos hc, hXd])
    rw [← hXd] at hX hlen
    have HX := Lib.hid hX; have HC := Lib.hid hc
    clear hX hXd hc hF
    rcases hks with hk1 | hk1
    · have gk : (k == 1) = true := by simpa using hk1
      have HX1 := Lib.hid (show wraw (numsW ([], 0) [k, i, s, a]).1 (numsW ([], 0) [k, i, s, a]).2 l = (X, 0) by have := HX.out; unfold msgW at this; rw [if_pos hk1] at this; exact this)
      clear hk1
      go_enter Try.func23, Try.ntmps23
      go_wp2_with fail
      rw [← hV, ← hB]
      clear hV hB
      refine (mcheck_any k i s a A m c _ (by omega)).mono ?_
      rw [HC.out]
      rintro e w2 ⟨rfl, hb2⟩
      have HB2 := Lib.hid (HB0.out.trans (hb2.mono HB0.out.size)); have HBL2 := Lib.hid (blk_below HBL.out hb2)
      have hBX : B < w2.heap.size := blk_lt HBL2.out
      clear hb2
      go_wp2_with fail
      refine (new_any w2).mono ?_
      rintro e w3 ⟨W, rfl, hW, hwr, hb3⟩
      have HB3 := Lib.hid (HB2.out.trans (hb3.mono HB2.out.size)); have HBL3 := Lib.hid (blk_below HBL2.out hb3); have HW3 := Lib.hid hwr
      have hBWx : B < W := by omega
      clear hb3 hwr
      have b0 := blk_cell HBL3.out 0 _ rfl
      go_wp2_with fail
      refine (wnum_any (b := (numsW ([], 0) []).1) (e := (numsW ([], 0) []).2) HW3.out (numsW_len _ _ (by decide)) k HOK.out.1).mono ?_
      rw [show wnum (numsW ([], 0) []).1 (numsW ([], 0) []).2 k = numsW ([], 0) [k] from rfl]
      rintro e w4 ⟨he4, v4, hwr4, hch4, ho4⟩
      cases he4
      have HBL4 := Lib.hid (blk_ch HBL3.out hch4 (by rintro (e | e); omega; cases e))
      have HW4 := Lib.hid hwr4
      have HB4 := Lib.hid (((Ch.of_below HB3.out (fun j => j = W)).trans hch4 (fun i hi => by rcases hi with e | e; exact .inl e; cases e)).below (Nat.le_refl _) (fun j hj => by have := HBW.out; omega))
      clear hwr4 hch4 ho4 b0
      have b1 := blk_cell HBL4.out 1 _ rfl
      go_wp2_with fail
      refine (wnum_any (b := (numsW ([], 0) [k]).1) (e := (numsW ([], 0) [k]).2) HW4.out (numsW_len _ _ (by decide)) i HOK.out.2.1).mono ?_
      rw [show wnum (numsW ([], 0) [k]).1 (numsW ([], 0) [k]).2 i = numsW ([], 0) [k, i] from rfl]
      rintro e w5 ⟨he5, v5, hwr5, hch5, ho5⟩
      cases he5
      have HBL5 := Lib.hid (blk_ch HBL4.out hch5 (by rintro (e | e); omega; have := wr_own HW4.out e; omega))
      have HW5 := Lib.hid hwr5
      have HB5 := Lib.hid (((Ch.of_below HB4.out (fun j => j = W ∨ v4.ownBlock = some j)).trans hch5 (fun i hi => .inl hi)).below (Nat.le_refl _) (fun j hj => by have := HBW.out; rcases hj with e | e; omega; have := wr_own HW4.out e; omega))
      clear hwr5 hch5 ho5 b1
      have b0 := blk_cell HBL5.out 0 _ rfl
      have b2 := blk_cell HBL5.out 2 _ rfl
      go_wp2_with fail
      refine (wnum_any (b := (numsW ([], 0) [k, i]).1) (e := (numsW ([], 0) [k, i]).2) HW5.out (numsW_len _ _ (by decide)) s HOK.out.2.2.1).mono ?_
      rw [show wnum (numsW ([], 0) [k, i]).1 (numsW ([], 0) [k, i]).2 s = numsW ([], 0) [k, i, s] from rfl]
      rintro e w6 ⟨he6, v6, hwr6, hch6, ho6⟩
      cases he6
      have HBL6 := Lib.hid (blk_ch HBL5.out hch6 (by rintro (e | e); omega; have := wr_own HW5.out e; omega))
      have HW6 := Lib.hid hwr6
      have HB6 := Lib.hid (((Ch.of_below HB5.out (fun j => j = W ∨ v5.ownBlock = some j)).trans hch6 (fun i hi => .inl hi)).below (Nat.le_refl _) (fun j hj => by have := HBW.out; rcases hj with e | e; omega; have := wr_own HW5.out e; omega))
      clear hwr6 hch6 ho6 b2 b0
      have b3 := blk_cell HBL6.out 3 _ rfl
      go_wp2_with fail
      refine (wnum_any (b := (numsW ([], 0) [k, i, s]).1) (e := (numsW ([], 0) [k, i, s]).2) HW6.out (numsW_len _ _ (by decide)) a HOK.out.2.2.2).mono ?_
      rw [show wnum (numsW ([], 0) [k, i, s]).1 (numsW ([], 0) [k, i, s]).2 a = numsW ([], 0) [k, i, s, a] from rfl]
      rintro e w7 ⟨he7, v7, hwr7, hch7, ho7⟩
      cases he7
      have HBL7 := Lib.hid (blk_ch HBL6.out hch7 (by rintro (e | e); omega; have := wr_own HW6.out e; omega))
      have HW7 := Lib.hid hwr7
      have HB7 := Lib.hid (((Ch.of_below HB6.out (fun j => j = W ∨ v6.ownBlock = some j)).trans hch7 (fun i hi => .inl hi)).below (Nat.le_refl _) (fun j hj => by have := HBW.out; rcases hj with e | e; omega; have := wr_own HW6.out e; omega))
      clear hwr7 hch7 ho7 b3
      have b4 := blk_cell HBL7.out 4 _ rfl
      go_wp2_with fail
      refine (wraw_any HW7.out (numsW_len _ _ (by decide)) (HR.out.below HB7.out) (by omega) (fun a ha h0 => by have h1 := HML.out a ha h0; exact ⟨by omega, fun j hj => by have := wr_own HW7.out hj; omega⟩)).mono ?_
      rw [HX1.out]
      rintro e w8 ⟨he8, v8, hwr8, hch8, ho8⟩
      cases he8
      have HW8 := Lib.hid hwr8
      have HB8 := Lib.hid (((Ch.of_below HB7.out (fun j => j = W ∨ v7.ownBlock = some j)).trans hch8 (fun i hi => .inl hi)).below (Nat.le_refl _) (fun j hj => by have := HBW.out; rcases hj with e | e; omega; have := wr_own HW7.out e; omega))
      clear hwr8 hch8 ho8 b4
      go_wp2_with fail
      refine (wout_any HW8.out (by show X.length ≤ _; omega)).mono ?_
      rintro e w9 ⟨A7, n7, c7, rfl, hh7, hb7⟩
      have hh7 : Held w9 w8.heap.size A7 n7 c7 X := hh7
      go_wp2
      go_ret2
      exact ⟨A7, n7, c7, by rw [HRES.out] <;> rfl, by rw [HRES.out]; exact held_in hh7 HB8.out.size, HB8.out.trans (hb7.mono HB8.out.size)⟩
    · have gk : (k == 1) = false := by simpa using hk1
      have HX1 := Lib.hid (show numsW ([], 0) [k, i] = (X, 0) by have := HX.out; unfold msgW at this; rw [if_neg hk1] at this; exact this)
      clear hk1
      go_enter Try.func23, Try.ntmps23
      go_wp2_with fail
      rw [← hV, ← hB]
      clear hV hB
      refine (mcheck_any k i s a A m c _ (by omega)).mono ?_
      rw [HC.out]
      rintro e w2 ⟨rfl, hb2⟩
      have HB2 := Lib.hid (HB0.out.trans (hb2.mono HB0.out.size)); have HBL2 := Lib.hid (blk_below HBL.out hb2)
      have hBX : B < w2.heap.size := blk_lt HBL2.out
      clear hb2
      go_wp2_with fail
      refine (new_any w2).mono ?_
      rintro e w3 ⟨W, rfl, hW, hwr, hb3⟩
      have HB3 := Lib.hid (HB2.out.trans (hb3.mono HB2.out.size)); have HBL3 := Lib.hid (blk_below HBL2.out hb3); have HW3 := Lib.hid hwr
      have hBWx : B < W := by omega
      clear hb3 hwr
      have b0 := blk_cell HBL3.out 0 _ rfl
      go_wp2_with fail
      refine (wnum_any (b := (numsW ([], 0) []).1) (e := (numsW ([], 0) []).2) HW3.out (numsW_len _ _ (by decide)) k HOK.out.1).mono ?_
      rw [show wnum (numsW ([], 0) []).1 (numsW ([], 0) []).2 k = numsW ([], 0) [k] from rfl]
      rintro e w4 ⟨he4, v4, hwr4, hch4, ho4⟩
      cases he4
      have HBL4 := Lib.hid (blk_ch HBL3.out hch4 (by rintro (e | e); omega; cases e))
      have HW4 := Lib.hid hwr4
      have HB4 := Lib.hid (((Ch.of_below HB3.out (fun j => j = W)).trans hch4 (fun i hi => by rcases hi with e | e; exact .inl e; cases e)).below (Nat.le_refl _) (fun j hj => by have := HBW.out; omega))
      clear hwr4 hch4 ho4 b0
      have b1 := blk_cell HBL4.out 1 _ rfl
      go_wp2_with fail
      refine (wnum_any (b := (numsW ([], 0) [k]).1) (e := (numsW ([], 0) [k]).2) HW4.out (numsW_len _ _ (by decide)) i HOK.out.2.1).mono ?_
      rw [show wnum (numsW ([], 0) [k]).1 (numsW ([], 0) [k]).2 i = numsW ([], 0) [k, i] from rfl]
      rintro e w5 ⟨he5, v5, hwr5, hch5, ho5⟩
      cases he5
      have HBL5 := Lib.hid (blk_ch HBL4.out hch5 (by rintro (e | e); omega; have := wr_own HW4.out e; omega))
      have HW5 := Lib.hid hwr5
      have HB5 := Lib.hid (((Ch.of_below HB4.out (fun j => j = W ∨ v4.ownBlock = some j)).trans hch5 (fun i hi => .inl hi)).below (Nat.le_refl _) (fun j hj => by have := HBW.out; rcases hj with e | e; omega; have := wr_own HW4.out e; omega))
      clear hwr5 hch5 ho5 b1
      have b0 := blk_cell HBL5.out 0 _ rfl
      have hw5 := HW5.out
      rw [HX1.out] at hw5
      have HW5 := Lib.hid hw5
      clear hw5
      go_wp2_with fail
      refine (wout_any HW5.out (by show X.length ≤ _; omega)).mono ?_
      rintro e w9 ⟨A7, n7, c7, rfl, hh7, hb7⟩
      have hh7 : Held w9 w5.heap.size A7 n7 c7 X := hh7
      go_wp2
      go_ret2
      exact ⟨A7, n7, c7, by rw [HRES.out] <;> rfl, by rw [HRES.out]; exact held_in hh7 HB5.out.size, HB5.out.trans (hb7.mono HB5.out.size)⟩
  · have hc2 := chkM_two hc
    have HRES := Lib.hid (show msgB k i s a l = ([], 2) by unfold msgB; rw [hl, if_neg hc])
    have HC := Lib.hid hc2
    clear hc hc2
    go_enter Try.func23, Try.ntmps23
    go_wp2_with fail
    rw [← hV, ← hB]
    clear hV hB
    refine (mcheck_any k i s a A m c _ (by omega)).mono ?_
    rw [HC.out]
    rintro e w2 ⟨rfl, hb2⟩
    go_wp2
    go_ret2
    exact ⟨none, 0, 0, by rw [HRES.out] <;> rfl, by rw [HRES.out]; exact held_nil _ _, HB0.out.trans (hb2.mono HB0.out.size)⟩
set_option maxRecDepth 100000 in
set_option maxHeartbeats 4000000 in
theorem rmput_any (k i s a : Int) {A : Option Addr} {m c : Nat} {l : List UInt8} {w : World} (hr : Rd w A m c 1 (u8s l)) (hm : m ≤ 9223372036854775807) : Calls Try.prog 24 #[.agg #[.int .i64 k, .int .i64 i, .int .i64 s, .int .i64 a, .slice A m c]] w (ToldP w (msgB k i s a l)) := by
  have hl : l.length = m := by have := hr.len; simpa using this
  obtain ⟨B, hB⟩ : ∃ z, z = w.heap.size := ⟨_, rfl⟩
  obtain ⟨V, hV⟩ : ∃ z, z = w.alloc (.cells #[.int .i64 k, .int .i64 i, .int .i64 s, .int .i64 a, .slice A m c] 43) := ⟨_, rfl⟩
  have HBL := Lib.hid (show Blk V B 43 #[.int .i64 k, .int .i64 i, .int .i64 s, .int .i64 a, .slice A m c] by rw [hV, hB]; exact blk_new _ _ _)
  have HB0 := Lib.hid (show Below w.heap.size w V by rw [hV]; exact box_below _ _)
  have HR := Lib.hid hr; have HBW := Lib.hid hB
  have HML := Lib.hid (show ∀ a, A = some a → 0 < m → a.block < B from fun a ha h0 => by have := rd_in hr a ha h0; omega)
  clear hr
  by_cases hc : chkM k i s a m = 0
  · have hF := chkM_fine hc
    have HOK := Lib.hid (show k ≤ 9223372036854775807 ∧ i ≤ 9223372036854775807 ∧ s ≤ 9223372036854775807 ∧ a ≤ 9223372036854775807 by unfold MFine at hF; omega)
    have hX := msgW_ok k i s a l (by rw [hl]; exact hc)
    have hlen := msgX_len k i s a l
    have hlm : m ≤ 400 := by unfold MFine at hF; omega
    have hks : k = 1 ∨ k ≠ 1 := by omega
    obtain ⟨X, hXd⟩ : ∃ z, z = msgX k i s a l := ⟨_, rfl⟩
    have HRES := Lib.hid (show msgB k i s a l = (X, 0) by unfold msgB; rw [hl, if_pos hc, hXd])
    rw [← hXd] at hX hlen
    have HX := Lib.hid hX; have HC := Lib.hid hc
    clear hX hXd hc hF
    rcases hks with hk1 | hk1
    · have gk : (k == 1) = true := by simpa using hk1
      have HX1 := Lib.hid (show wraw (numsW ([], 0) [k, i, s, a]).1 (numsW ([], 0) [k, i, s, a]).2 l = (X, 0) by have := HX.out; unfold msgW at this; rw [if_pos hk1] at this; exact this)
      clear hk1
      go_enter Try.func24, Try.ntmps24
      go_wp2_with fail
      rw [← hV, ← hB]
      clear hV hB
      refine (rmcheck_any k i s a A m c _ (by omega)).mono ?_
      rw [HC.out]
      rintro e w2 ⟨rfl, hb2⟩
      have HB2 := Lib.hid (HB0.out.trans (hb2.mono HB0.out.size)); have HBL2 := Lib.hid (blk_below HBL.out hb2)
      have hBX : B < w2.heap.size := blk_lt HBL2.out
      clear hb2
      have hbx := box_below w2 (.cells #[.slice none 0 0, .int .i64 0] 60)
      have hrw3 : RW (w2.alloc (.cells #[.slice none 0 0, .int .i64 0] 60)) w2.heap.size (.slice none 0 0) [] 0 := ⟨blk_new w2 _ _, nil_own _ _ _⟩
      obtain ⟨W, hU⟩ : ∃ z, z = w2.heap.size := ⟨_, rfl⟩
      obtain ⟨w3, hw3⟩ : ∃ z, z = w2.alloc (.cells #[.slice none 0 0, .int .i64 0] 60) := ⟨_, rfl⟩
      have b0 := blk_cell (blk_below HBL2.out hbx) 0 _ rfl
      have hBWx : B < W := by omega
      rw [← hw3, ← hU] at hrw3
      rw [← hw3] at hbx
      have HB3 := Lib.hid (HB2.out.trans (hbx.mono HB2.out.size)); have HBL3 := Lib.hid (blk_below HBL2.out hbx); have HW3 := Lib.hid hrw3
      clear hbx hrw3
      go_wp2_with fail
      rw [← hw3, ← hU]
      clear hw3 hU
      refine (rwnum_any (b := (numsW ([], 0) []).1) (e := (numsW ([], 0) []).2) HW3.out (numsW_len _ _ (by decide)) k HOK.out.1).mono ?_
      rw [show wnum (numsW ([], 0) []).1 (numsW ([], 0) []).2 k = numsW ([], 0) [k] from rfl]
      rintro e w4 ⟨he4, v4, hwr4, hch4, ho4⟩
      cases he4
      have HBL4 := Lib.hid (blk_ch HBL3.out hch4 (by rintro (e | e); omega; cases e))
      have HW4 := Lib.hid hwr4
      have HB4 := Lib.hid (((Ch.of_below HB3.out (fun j => j = W)).trans hch4 (fun i hi => by rcases hi with e | e; exact .inl e; cases e)).below (Nat.le_refl _) (fun j hj => by have := HBW.out; omega))
      clear hwr4 hch4 ho4 b0
      have b1 := blk_cell HBL4.out 1 _ rfl
      go_wp2_with fail
      refine (rwnum_any (b := (numsW ([], 0) [k]).1) (e := (numsW ([], 0) [k]).2) HW4.out (numsW_len _ _ (by decide)) i HOK.out.2.1).mono ?_
      rw [show wnum (numsW ([], 0) [k]).1 (numsW ([], 0) [k]).2 i = numsW ([], 0) [k, i] from rfl]
      rintro e w5 ⟨he5, v5, hwr5, hch5, ho5⟩
      cases he5
      have HBL5 := Lib.hid (blk_ch HBL4.out hch5 (by rintro (e | e); omega; have := rw_own HW4.out e; omega))
      have HW5 := Lib.hid hwr5
      have HB5 := Lib.hid (((Ch.of_below HB4.out (fun j => j = W ∨ v4.ownBlock = some j)).trans hch5 (fun i hi => .inl hi)).below (Nat.le_refl _) (fun j hj => by have := HBW.out; rcases hj with e | e; omega; have := rw_own HW4.out e; omega))
      clear hwr5 hch5 ho5 b1
      have b0 := blk_cell HBL5.out 0 _ rfl
      have b2 := blk_cell HBL5.out 2 _ rfl
      go_wp2_with fail
      refine (rwnum_any (b := (numsW ([], 0) [k, i]).1) (e := (numsW ([], 0) [k, i]).2) HW5.out (numsW_len _ _ (by decide)) s HOK.out.2.2.1).mono ?_
      rw [show wnum (numsW ([], 0) [k, i]).1 (numsW ([], 0) [k, i]).2 s = numsW ([], 0) [k, i, s] from rfl]
      rintro e w6 ⟨he6, v6, hwr6, hch6, ho6⟩
      cases he6
      have HBL6 := Lib.hid (blk_ch HBL5.out hch6 (by rintro (e | e); omega; have := rw_own HW5.out e; omega))
      have HW6 := Lib.hid hwr6
      have HB6 := Lib.hid (((Ch.of_below HB5.out (fun j => j = W ∨ v5.ownBlock = some j)).trans hch6 (fun i hi => .inl hi)).below (Nat.le_refl _) (fun j hj => by have := HBW.out; rcases hj with e | e; omega; have := rw_own HW5.out e; omega))
      clear hwr6 hch6 ho6 b2 b0
      have b3 := blk_cell HBL6.out 3 _ rfl
      go_wp2_with fail
      refine (rwnum_any (b := (numsW ([], 0) [k, i, s]).1) (e := (numsW ([], 0) [k, i, s]).2) HW6.out (numsW_len _ _ (by decide)) a HOK.out.2.2.2).mono ?_
      rw [show wnum (numsW ([], 0) [k, i, s]).1 (numsW ([], 0) [k, i, s]).2 a = numsW ([], 0) [k, i, s, a] from rfl]
      rintro e w7 ⟨he7, v7, hwr7, hch7, ho7⟩
      cases he7
      have HBL7 := Lib.hid (blk_ch HBL6.out hch7 (by rintro (e | e); omega; have := rw_own HW6.out e; omega))
      have HW7 := Lib.hid hwr7
      have HB7 := Lib.hid (((Ch.of_below HB6.out (fun j => j = W ∨ v6.ownBlock = some j)).trans hch7 (fun i hi => .inl hi)).below (Nat.le_refl _) (fun j hj => by have := HBW.out; rcases hj with e | e; omega; have := rw_own HW6.out e; omega))
      clear hwr7 hch7 ho7 b3
      have b4 := blk_cell HBL7.out 4 _ rfl
      go_wp2_with fail
      refine (rwraw_any HW7.out (numsW_len _ _ (by decide)) (HR.out.below HB7.out) (by omega)).mono ?_
      rw [HX1.out]
      rintro e w8 ⟨he8, v8, hwr8, hch8, ho8⟩
      cases he8
      have HW8 := Lib.hid hwr8
      have HB8 := Lib.hid (((Ch.of_below HB7.out (fun j => j = W ∨ v7.ownBlock = some j)).trans hch8 (fun i hi => .inl hi)).below (Nat.le_refl _) (fun j hj => by have := HBW.out; rcases hj with e | e; omega; have := rw_own HW7.out e; omega))
      clear hwr8 hch8 ho8 b4
      go_wp2_with fail
      refine (rout2_any HW8.out (by show X.length ≤ _; omega)).mono ?_
      rintro e w9 ⟨g, c7, rfl, hby, hg, hb7⟩
      go_wp2
      go_ret2
      exact ⟨_, _, _, by rw [HRES.out] <;> rfl, by rw [HRES.out]; exact .inr ⟨g, rfl, hby, rfl, Nat.le_trans HB8.out.size hg⟩, HB8.out.trans (hb7.mono HB8.out.size)⟩
    · have gk : (k == 1) = false := by simpa using hk1
      have HX1 := Lib.hid (show numsW ([], 0) [k, i] = (X, 0) by have := HX.out; unfold msgW at this; rw [if_neg hk1] at this; exact this)
      clear hk1
      go_enter Try.func24, Try.ntmps24
      go_wp2_with fail
      rw [← hV, ← hB]
      clear hV hB
      refine (rmcheck_any k i s a A m c _ (by omega)).mono ?_
      rw [HC.out]
      rintro e w2 ⟨rfl, hb2⟩
      have HB2 := Lib.hid (HB0.out.trans (hb2.mono HB0.out.size)); have HBL2 := Lib.hid (blk_below HBL.out hb2)
      have hBX : B < w2.heap.size := blk_lt HBL2.out
      clear hb2
      have hbx := box_below w2 (.cells #[.slice none 0 0, .int .i64 0] 60)
      have hrw3 : RW (w2.alloc (.cells #[.slice none 0 0, .int .i64 0] 60)) w2.heap.size (.slice none 0 0) [] 0 := ⟨blk_new w2 _ _, nil_own _ _ _⟩
      obtain ⟨W, hU⟩ : ∃ z, z = w2.heap.size := ⟨_, rfl⟩
      obtain ⟨w3, hw3⟩ : ∃ z, z = w2.alloc (.cells #[.slice none 0 0, .int .i64 0] 60) := ⟨_, rfl⟩
      have b0 := blk_cell (blk_below HBL2.out hbx) 0 _ rfl
      have hBWx : B < W := by omega
      rw [← hw3, ← hU] at hrw3
      rw [← hw3] at hbx
      have HB3 := Lib.hid (HB2.out.trans (hbx.mono HB2.out.size)); have HBL3 := Lib.hid (blk_below HBL2.out hbx); have HW3 := Lib.hid hrw3
      clear hbx hrw3
      go_wp2_with fail
      rw [← hw3, ← hU]
      clear hw3 hU
      refine (rwnum_any (b := (numsW ([], 0) []).1) (e := (numsW ([], 0) []).2) HW3.out (numsW_len _ _ (by decide)) k HOK.out.1).mono ?_
      rw [show wnum (numsW ([], 0) []).1 (numsW ([], 0) []).2 k = numsW ([], 0) [k] from rfl]
      rintro e w4 ⟨he4, v4, hwr4, hch4, ho4⟩
      cases he4
      have HBL4 := Lib.hid (blk_ch HBL3.out hch4 (by rintro (e | e); omega; cases e))
      have HW4 := Lib.hid hwr4
      have HB4 := Lib.hid (((Ch.of_below HB3.out (fun j => j = W)).trans hch4 (fun i hi => by rcases hi with e | e; exact .inl e; cases e)).below (Nat.le_refl _) (fun j hj => by have := HBW.out; omega))
      clear hwr4 hch4 ho4 b0
      have b1 := blk_cell HBL4.out 1 _ rfl
      go_wp2_with fail
      refine (rwnum_any (b := (numsW ([], 0) [k]).1) (e := (numsW ([], 0) [k]).2) HW4.out (numsW_len _ _ (by decide)) i HOK.out.2.1).mono ?_
      rw [show wnum (numsW ([], 0) [k]).1 (numsW ([], 0) [k]).2 i = numsW ([], 0) [k, i] from rfl]
      rintro e w5 ⟨he5, v5, hwr5, hch5, ho5⟩
      cases he5
      have HBL5 := Lib.hid (blk_ch HBL4.out hch5 (by rintro (e | e); omega; have := rw_own HW4.out e; omega))
      have HW5 := Lib.hid hwr5
      have HB5 := Lib.hid (((Ch.of_below HB4.out (fun j => j = W ∨ v4.ownBlock = some j)).trans hch5 (fun i hi => .inl hi)).below (Nat.le_refl _) (fun j hj => by have := HBW.out; rcases hj with e | e; omega; have := rw_own HW4.out e; omega))
      clear hwr5 hch5 ho5 b1
      have b0 := blk_cell HBL5.out 0 _ rfl
      have hw5 := HW5.out
      rw [HX1.out] at hw5
      have HW5 := Lib.hid hw5
      clear hw5
      go_wp2_with fail
      refine (rout2_any HW5.out (by show X.length ≤ _; omega)).mono ?_
      rintro e w9 ⟨g, c7, rfl, hby, hg, hb7⟩
      go_wp2
      go_ret2
      exact ⟨_, _, _, by rw [HRES.out] <;> rfl, by rw [HRES.out]; exact .inr ⟨g, rfl, hby, rfl, Nat.le_trans HB5.out.size hg⟩, HB5.out.trans (hb7.mono HB5.out.size)⟩
  · have hc2 := chkM_two hc
    have HRES := Lib.hid (show msgB k i s a l = ([], 2) by unfold msgB; rw [hl, if_neg hc])
    have HC := Lib.hid hc2
    clear hc hc2
    go_enter Try.func24, Try.ntmps24
    go_wp2_with fail
    rw [← hV, ← hB]
    clear hV hB
    refine (rmcheck_any k i s a A m c _ (by omega)).mono ?_
    rw [HC.out]
    rintro e w2 ⟨rfl, hb2⟩
    go_wp2
    go_ret2
    exact ⟨none, 0, 0, by rw [HRES.out] <;> rfl, by rw [HRES.out]; exact held_nil _ _, HB0.out.trans (hb2.mono HB0.out.size)⟩
end Go.Proofs.Ytncahekankbalaa
