/- Walks: the chapter's examples are answered as it says (awake of chapter 19). No conditions. -/
import Derived.Test.YtnlninmjmjffcaaTu
import Derived.Test.YtnlninmjmjffcaaTb
namespace Go.Proofs.Ytnlninmjmjffcaa
open Go.RowKit
set_option linter.unusedVariables false
set_option linter.unusedSimpArgs false

theorem bytesTo_len (n : Nat) : (bytesTo n).length = n := by simp [bytesTo]
/-- the message j of parts, as a region loads it, at the places that the walk reckons -/
def MsgAt (w : World) (g o : Nat) (item n at' : Int) (gk m ck : Nat) : Prop :=
  w.cell? ⟨g, o, none⟩ = some (.int .i64 1) ∧ w.cell? ⟨g, o + 1, none⟩ = some (.int .i64 item) ∧ w.cell? ⟨g, o + 2, none⟩ = some (.int .i64 n) ∧ w.cell? ⟨g, o + 3, none⟩ = some (.int .i64 at') ∧
      w.cell? ⟨g, o + 4, none⟩ = some (.slice (some ⟨gk, 0, none⟩) m ck)
theorem partsB_at {w : World} {base mid : Nat} {item : Int} {b : List UInt8} {N n m g cv : Nat} {at' : Int} {gs : List (Nat × Nat)} (h : PartsB w base mid item b (fun j => 200 * j) N (.slice (some ⟨g, 0, none⟩) N cv) gs) (k : Nat) (hk : k < N) (hn : b.length = n) (ha : at' = 200 * (k : Int)) (hm : m = plen n k) :
    ∃ gk ck, MsgAt w g (k * 5) item n at' gk m ck ∧ Rd w (some ⟨gk, 0, none⟩) m ck 1 (u8s (piece b k)) ∧ base ≤ gk ∧ gk < mid := by
  obtain ⟨gk, ck, c0, c1, c2, c3, c4, hb, h1, _, hg⟩ := parts_get h.1 hk
  subst hn ha hm
  exact ⟨gk, ck, ⟨c0, c1, c2, c3, c4⟩, byt_rd hb (piece_len b k), h1, h.2.2 _ _ _ hg⟩

set_option maxRecDepth 100000 in
set_option maxHeartbeats 4000000 in
theorem awake32 (w : World) : Calls Try.prog 32 #[] w (AwakeQ w) := by
  go_enter Try.func32, Try.ntmps32
  go_wp2_with fail
  refine (some_any 401 (by omega) w).mono ?_; rintro e w1 ⟨rfl, hb1, hB1⟩
  go_wp2_with fail
  refine (cut_any 7 _ 401 401 (bytesTo 401) w1 (byt_rd hb1 (bytesTo_len _))).mono ?_; rintro e w2 hq
  rcases hq with (⟨h, _⟩ | ⟨_, _, h, _⟩) | ⟨_, _, _, _, v, gs, rfl, hP, hB2⟩
  · rw [bytesTo_len] at h; omega
  · rw [bytesTo_len] at h; omega
  rw [bytesTo_len, show npc 401 = 3 from rfl] at hP
  obtain ⟨b, hb⟩ : ∃ b, b = bytesTo 401 := ⟨_, rfl⟩
  have hbl : b.length = 401 := by rw [hb, bytesTo_len]
  rw [← hb] at hP
  obtain ⟨g, cv, rfl, _, _, _⟩ := own_row hP.own (own_some hP.own (by omega))
  have hPB := partsB_mk hP
  have hB : Below w.heap.size w w2 := hB1.trans (hB2.mono hB1.size)
  have HB2 := Lib.hid hB.size
  have HPP0 := Lib.hid (show putS 500 0 0 [] 1 7 401 0 (piece b 0) = ([], 0, 7, 401, b.take (200 * 1)) by have := put_piece0 (q := 500) (it := 0) (sz := 0) (x := []) (item := 7) (b := b) (by omega) (by omega) (by omega) (by rw [hbl]; decide); rw [hbl] at this; exact this)
  have HPP1 := Lib.hid (show putS 500 7 401 (b.take (200 * 1)) 1 7 401 200 (piece b 1) = ([], 0, 7, 401, b.take (200 * 2)) by have := put_piece (q := 500) (item := 7) (b := b) (k := 1) (by omega) (by omega) (by omega) (by rw [hbl]; decide) (by omega); rw [hbl] at this; exact this)
  have HPP2 := Lib.hid (show putS 500 7 401 (b.take (200 * 2)) 1 7 401 400 (piece b 2) = (b, 0, 0, 0, []) by have := put_piece (q := 500) (item := 7) (b := b) (k := 2) (by omega) (by omega) (by omega) (by rw [hbl]; decide) (by omega); rw [hbl] at this; exact this)
  have HB := Lib.hid hB; have HP := Lib.hid hPB; have HE := Lib.hid hb; have HL := Lib.hid hbl
  clear hB hP hPB hb hbl hb1 hB1 hB2
  go_wp2_with fail
  refine (new_any 500 w2).mono ?_; rintro e w3 hq
  rcases hq with ⟨h, _⟩ | ⟨_, _, rfl, hbx, hB3⟩
  · omega
  have hP3 := partsB_below HP.out hB3
  obtain ⟨g2, cc2, ⟨m20, m21, m22, m23, m24⟩, hr2, _, hl2⟩ := partsB_at hP3 2 (by omega) HL.out (at' := 400) rfl (m := 1) rfl
  obtain ⟨g0, cc0, ⟨m00, m01, m02, m03, m04⟩, hr0, _, hl0⟩ := partsB_at hP3 0 (by omega) HL.out (at' := 0) rfl (m := 200) rfl
  simp only [Nat.zero_mul, Nat.reduceMul, Nat.reduceAdd, Nat.zero_add] at m20 m21 m22 m23 m24 m00 m01 m02 m03 m04
  have HX3 := Lib.hid (boxS_new hbx w2.heap.size)
  have HR0 := Lib.hid hr0
  have HP3 := Lib.hid hP3
  have HB3 := Lib.hid (HB.out.trans (hB3.mono HB.out.size))
  have hsz3 := hB3.size
  clear hbx hB3 hP3 hr0 hr2 HP HB
  go_wp2_with fail
  have hput := putB (k := 1) (i := 7) (s := 401) (a := 0) (M := some ⟨g0, 0, none⟩) (m := 200) (d := cc0) HX3.out hsz3 (l := piece b 0) HR0.out (fun b hb => by cases hb; exact Nat.ne_of_lt hl0)
  rw [show putS 500 0 0 [] 1 7 401 0 (piece b 0) = ([], 0, 7, 401, b.take (200 * 1)) from HPP0.out] at hput
  refine hput.mono ?_; rintro e w4 ⟨R1, k1, d1, rfl, hx4, hh4, hc4, -, -⟩
  have e1 : k1 = 0 := (held_len hh4).symm
  subst e1
  have hP4 := partsB_ch HP3.out hc4 (fun k _ h hk => by omega)
  obtain ⟨g1, cc1, ⟨m10, m11, m12, m13, m14⟩, hr1, _, hl1⟩ := partsB_at hP4 1 (by omega) HL.out (at' := 200) rfl (m := 200) rfl
  simp only [Nat.zero_mul, Nat.reduceMul, Nat.reduceAdd, Nat.zero_add, Nat.one_mul] at m10 m11 m12 m13 m14
  have HR1 := Lib.hid hr1
  have HX4 := Lib.hid hx4
  have HP4 := Lib.hid hP4
  have HB4 := Lib.hid (HB3.out.trans (hc4.below (B := w.heap.size) (by have := HB3.out.size; omega) (fun k hk => by have := HB2.out; omega)))
  have hsz4 : w2.heap.size ≤ w4.heap.size := Nat.le_trans hsz3 hc4.size
  clear hput hx4 hh4 hc4 hP4 hr1 HX3 HP3 HB3 HR0
  go_wp2_with fail
  have hput := putB (k := 1) (i := 7) (s := 401) (a := 200) (M := some ⟨g1, 0, none⟩) (m := 200) (d := cc1) HX4.out hsz4 (l := piece b 1) HR1.out (fun b hb => by cases hb; exact Nat.ne_of_lt hl1)
  rw [show putS 500 7 401 (b.take (200 * 1)) 1 7 401 200 (piece b 1) = ([], 0, 7, 401, b.take (200 * 2)) from HPP1.out] at hput
  refine hput.mono ?_; rintro e w5 ⟨R2, k2, d2, rfl, hx5, hh5, hc5, -, -⟩
  have e2 : k2 = 0 := (held_len hh5).symm
  subst e2
  have hP5 := partsB_ch HP4.out hc5 (fun k _ h hk => by omega)
  obtain ⟨g3, cc3, ⟨m30, m31, m32, m33, m34⟩, hr3, _, hl3⟩ := partsB_at hP5 2 (by omega) HL.out (at' := 400) rfl (m := 1) rfl
  simp only [Nat.zero_mul, Nat.reduceMul, Nat.reduceAdd, Nat.zero_add, Nat.one_mul] at m30 m31 m32 m33 m34
  have HR3 := Lib.hid hr3
  have HX5 := Lib.hid hx5
  have HB5 := Lib.hid (HB4.out.trans (hc5.below (B := w.heap.size) (by have := HB4.out.size; omega) (fun k hk => by have := HB2.out; omega)))
  have hsz5 : w2.heap.size ≤ w5.heap.size := Nat.le_trans hsz4 hc5.size
  have hlen5 : (b.take (200 * 2)).length = 400 := by rw [List.length_take, HL.out]; rfl
  have HL5 := Lib.hid hlen5
  clear hput hx5 hh5 hc5 hP5 hr3 HX4 HP4 HB4 HR1 hlen5
  go_wp2_with fail
  refine (itemS HX5.out).mono ?_; rintro e w6 ⟨rfl, rfl⟩
  go_wp2_with fail
  refine (usedS HX5.out).mono ?_; rintro e w6 ⟨rfl, rfl⟩
  rw [HL5.out]
  go_wp2_with fail
  have hput := putB (k := 1) (i := 7) (s := 401) (a := 400) (M := some ⟨g3, 0, none⟩) (m := 1) (d := cc3) HX5.out hsz5 (l := piece b 2) HR3.out (fun b hb => by cases hb; exact Nat.ne_of_lt hl3)
  rw [show putS 500 7 401 (b.take (200 * 2)) 1 7 401 400 (piece b 2) = (b, 0, 0, 0, []) from HPP2.out] at hput
  refine hput.mono ?_; rintro e w6 ⟨R3, k3, d3, rfl, hx6, hh6, hc6, -, -⟩
  have HX6 := Lib.hid hx6
  have HH6 := Lib.hid (held_rd hh6)
  have HB6 := Lib.hid (HB5.out.trans (hc6.below (B := w.heap.size) (by have := HB5.out.size; omega) (fun k hk => by have := HB2.out; omega)))
  clear hput hx6 hh6 hc6 HX5 HB5 HR3
  go_wp2_with fail
  refine (some_any 401 (by omega) w6).mono ?_; rintro e w7 ⟨rfl, hb7, hB7⟩
  have HX7 := Lib.hid (boxS_below HX6.out hB7)
  have HH7 := Lib.hid (HH6.out.below hB7)
  have HY7 := Lib.hid (byt_rd hb7 (bytesTo_len 401))
  have HB7 := Lib.hid (HB6.out.trans (hB7.mono HB6.out.size))
  clear hb7 hB7 HX6 HH6 HB6
  go_wp2_with fail
  refine (same_any _ _ _ _ _ _ _ _ _ HH7.out HY7.out).mono ?_; rintro e w8 ⟨rfl, rfl⟩
  rw [HE.out, eqB_self]
  go_wp2_with fail
  refine (itemS HX7.out).mono ?_; rintro e w8 ⟨rfl, rfl⟩
  go_wp2
  go_ret
  exact ⟨rfl, HB7.out⟩

end Go.Proofs.Ytnlninmjmjffcaa
