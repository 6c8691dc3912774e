/- Walks: messages compared, copied. -/
import Derived.Test.YtncahekankbalaaF7
namespace Go.Proofs.Ytncahekankbalaa
open Go.RowKit
set_option linter.unusedVariables false
set_option linter.unusedSimpArgs false

/-- two messages, field by field -/
def sameM (k i s a : Int) (l : List UInt8) (k2 i2 s2 a2 : Int) (l2 : List UInt8) : Bool := (k == k2) && ((i == i2) && ((s == s2) && ((a == a2) && eqB l l2)))
set_option maxRecDepth 100000 in
set_option maxHeartbeats 2000000 in
theorem msame_any (k i s a : Int) {A : Option Addr} {m c : Nat} {l : List UInt8} (k2 i2 s2 a2 : Int) {A2 : Option Addr} {m2 c2 : Nat} {l2 : List UInt8} {w : World} (h1 : Rd w A m c 1 (u8s l)) (h2 : Rd w A2 m2 c2 1 (u8s l2)) : Calls Try.prog 27 #[.agg #[.int .i64 k, .int .i64 i, .int .i64 s, .int .i64 a, .slice A m c], .agg #[.int .i64 k2, .int .i64 i2, .int .i64 s2, .int .i64 a2, .slice A2 m2 c2]] w fun e w' => e = .returned (.bool (sameM k i s a l k2 i2 s2 a2 l2)) ∧ Below w.heap.size w w' := by
  have hb2 : Below w.heap.size w ((w.alloc (.cells #[.int .i64 k, .int .i64 i, .int .i64 s, .int .i64 a, .slice A m c] 43)).alloc (.cells #[.int .i64 k2, .int .i64 i2, .int .i64 s2, .int .i64 a2, .slice A2 m2 c2] 43)) := (box_below w _).alloc (by simp) _
  have HB := Lib.hid hb2
  have H1 := Lib.hid (h1.below hb2); have H2 := Lib.hid (h2.below hb2)
  clear hb2 h1 h2
  obtain ⟨r, hr⟩ : ∃ r, r = sameM k i s a l k2 i2 s2 a2 l2 := ⟨_, rfl⟩
  rw [← hr]
  unfold sameM at hr
  cases g0 : (k == k2) with
  | false =>
    rw [g0, Bool.false_and] at hr
    have HS := Lib.hid hr
    clear hr
    go_enter Try.func27, Try.ntmps27
    go_wp2_with fail
    go_ret
    exact ⟨by rw [HS.out]; rfl, HB.out⟩
  | true =>
    rw [g0, Bool.true_and] at hr
    cases g1 : (i == i2) with
    | false =>
      rw [g1, Bool.false_and] at hr
      have HS := Lib.hid hr
      clear hr
      go_enter Try.func27, Try.ntmps27
      go_wp2_with fail
      go_ret
      exact ⟨by rw [HS.out]; rfl, HB.out⟩
    | true =>
      rw [g1, Bool.true_and] at hr
      cases g2 : (s == s2) with
      | false =>
        rw [g2, Bool.false_and] at hr
        have HS := Lib.hid hr
        clear hr
        go_enter Try.func27, Try.ntmps27
        go_wp2_with fail
        go_ret
        exact ⟨by rw [HS.out]; rfl, HB.out⟩
      | true =>
        rw [g2, Bool.true_and] at hr
        cases g3 : (a == a2) with
        | false =>
          rw [g3, Bool.false_and] at hr
          have HS := Lib.hid hr
          clear hr
          go_enter Try.func27, Try.ntmps27
          go_wp2_with fail
          go_ret
          exact ⟨by rw [HS.out]; rfl, HB.out⟩
        | true =>
          rw [g3, Bool.true_and] at hr
          have HS := Lib.hid hr
          clear hr
          go_enter Try.func27, Try.ntmps27
          go_wp2_with fail
          refine (same_any _ _ _ _ _ _ _ _ _ H1.out H2.out).mono ?_
          rintro e w3 ⟨rfl, rfl⟩
          go_wp2
          go_ret
          exact ⟨by rw [HS.out]; rfl, HB.out⟩
def mcopyQ (w : World) (k i s a : Int) (m : Nat) (l : List UInt8) (e : Ending) (w' : World) : Prop := ∃ g d, e = .returned (.agg #[.int .i64 k, .int .i64 i, .int .i64 s, .int .i64 a, .slice (some ⟨g, 0, none⟩) m d]) ∧ w.heap.size ≤ g ∧ Byt w' g 5 d l ∧ l.length = m ∧ Below w.heap.size w w'
set_option maxRecDepth 100000 in
set_option maxHeartbeats 2000000 in
theorem mcopy_any (k i s a : Int) {A : Option Addr} {m c : Nat} {l : List UInt8} {w : World} (hr : Rd w A m c 1 (u8s l)) (hm : m ≤ 1000000000) : Calls Try.prog 22 #[.agg #[.int .i64 k, .int .i64 i, .int .i64 s, .int .i64 a, .slice A m c]] w (mcopyQ w k i s a m l) := by
  have hl : l.length = m := by have := hr.len; simpa using this
  obtain ⟨B, hB⟩ : ∃ z, z = w.heap.size := ⟨_, rfl⟩
  obtain ⟨V, hV⟩ : ∃ z, z = (w.alloc (.cells #[.int .i64 k, .int .i64 i, .int .i64 s, .int .i64 a, .slice A m c] 43)).alloc (.cells #[.int .i64 0, .int .i64 0, .int .i64 0, .int .i64 0, .slice none 0 0] 43) := ⟨_, rfl⟩
  obtain ⟨b1, b2, b3⟩ := two_new w #[.int .i64 k, .int .i64 i, .int .i64 s, .int .i64 a, .slice A m c] 43 #[.int .i64 0, .int .i64 0, .int .i64 0, .int .i64 0, .slice none 0 0] 43
  have x0 := blk_cell b1 4 _ rfl
  rw [← hV, ← hB] at b1 b2
  rw [← hV] at b3
  have HA := Lib.hid b1; have HZ := Lib.hid b2; have HB0 := Lib.hid b3; have HR := Lib.hid (hr.below b3); have HBW := Lib.hid hB; have HL := Lib.hid hl
  clear b1 b2 b3 hr hl
  go_enter Try.func22, Try.ntmps22
  go_wp2_with fail
  rw [← hV, ← hB]
  clear hV hB x0
  refine (copyb_any A m c l _ HR.out hm).mono ?_
  rintro e w2 ⟨g, d, rfl, hg, hby, hb2⟩
  have hA2 := blk_below HA.out hb2
  have hZ2 := blk_below HZ.out hb2
  have hBV := blk_lt HA.out
  have hZV := blk_lt HZ.out
  have f4 := blk_thawed hA2 4
  have x4 := blk_cell hA2 4 _ rfl
  have hA3 := blk_set hA2 4 (.slice (some ⟨g, 0, none⟩) m d)
  have hZ3 := blk_ch hZ2 (Ch.setCell w2 ⟨B, 4, none⟩ (.slice (some ⟨g, 0, none⟩) m d)) (fun e => by have e : B + 1 = B := e; omega)
  have a0 := blk_cell hA3 0 _ rfl
  have z0 := blk_cell hZ3 0 _ rfl
  have y0 := blk_thawed hZ3 0
  have a1 := blk_cell hA3 1 _ rfl
  have z1 := blk_cell hZ3 1 _ rfl
  have y1 := blk_thawed hZ3 1
  have a2 := blk_cell hA3 2 _ rfl
  have z2 := blk_cell hZ3 2 _ rfl
  have y2 := blk_thawed hZ3 2
  have a3 := blk_cell hA3 3 _ rfl
  have z3 := blk_cell hZ3 3 _ rfl
  have y3 := blk_thawed hZ3 3
  have a4 := blk_cell hA3 4 _ rfl
  have z4 := blk_cell hZ3 4 _ rfl
  have y4 := blk_thawed hZ3 4
  have hfin := blk_set (blk_set (blk_set (blk_set (blk_set (hZ3) 0 (.int .i64 k)) 1 (.int .i64 i)) 2 (.int .i64 s)) 3 (.int .i64 a)) 4 (.slice (some ⟨g, 0, none⟩) m d)
  have hch := ch_set (ch_set (ch_set (ch_set (ch_set (ch_set (Ch.refl (fun j => j = B ∨ j = B + 1) w2) ⟨B, 4, none⟩ (.slice (some ⟨g, 0, none⟩) m d) (.inl rfl)) ⟨B + 1, 0, none⟩ (.int .i64 k) (.inr rfl)) ⟨B + 1, 1, none⟩ (.int .i64 i) (.inr rfl)) ⟨B + 1, 2, none⟩ (.int .i64 s) (.inr rfl)) ⟨B + 1, 3, none⟩ (.int .i64 a) (.inr rfl)) ⟨B + 1, 4, none⟩ (.slice (some ⟨g, 0, none⟩) m d) (.inr rfl)
  have HF := Lib.hid hfin; have HC := Lib.hid hch; have HBY := Lib.hid hby
  have HBB := Lib.hid (HB0.out.trans (hb2.mono HB0.out.size))
  have HGE := Lib.hid hg
  clear hA2 hZ2 hA3 hZ3 hfin hch hby hb2 hg
  go_wp2_with fail
  have hgB : g ≠ B ∧ g ≠ B + 1 := by have := HGE.out; omega
  exact bodyPost_ret (results_cell_row rfl _ _ (B + 1) 43 _ (0, 0) _ rfl HF.out Try.underlying43 rfl (by kernel_rfl)) rfl ⟨g, d, rfl, by have := HGE.out; have := HB0.out.size; omega, byt_ch HBY.out HC.out (by omega), HL.out, ((Ch.of_below HBB.out (fun j => j = B ∨ j = B + 1)).trans HC.out (fun i hi => .inl hi)).below (Nat.le_refl _) (fun j hj => by have := HBW.out; omega)⟩
end Go.Proofs.Ytncahekankbalaa
