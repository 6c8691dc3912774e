/- Walks: a packet's bytes by the reference; packets compared, copied. Conditions: the body is read, and short. -/
import Derived.Test.YtncahekankbalaaF2
namespace Go.Proofs.Ytncahekankbalaa
open Go.RowKit
set_option linter.unusedVariables false
set_option linter.unusedSimpArgs false

def ROut2Q (w : World) (b : List UInt8) (E : Ending) (w' : World) : Prop := ∃ g c, E = .returned (.tuple #[.slice (some ⟨g, 0, none⟩) b.length c, .int .i64 0]) ∧ Byt w' g 5 c b ∧ w.heap.size ≤ g ∧ Below w.heap.size w w'
set_option maxRecDepth 100000 in
set_option maxHeartbeats 1000000 in
/-- Out of the reference's writer, its block known whole -/
theorem rout2_any {w : World} {V : Nat} {v : Value} {b : List UInt8} (h : RW w V v b 0) (hb : b.length ≤ 1048576) :
    Calls Try.prog 39 #[.pointer (some ⟨V, 0, none⟩)] w (ROut2Q w b) := by
  have c1 : w.cell? ⟨V, 1, none⟩ = some (.int .i64 0) := blk_cell h.blk 1 _ rfl
  obtain ⟨A, c, rfl, hr, hA⟩ := rw_form h
  have c0 : w.cell? ⟨V, 0, none⟩ = some (.slice A b.length c) := blk_cell h.blk 0 _ rfl
  have hV := rw_lt h
  have d0 : (w.alloc (.cells #[] 5)).cell? ⟨V, 0, none⟩ = some (.slice A b.length c) := by rw [((Below.refl w.heap.size w).alloc (Nat.le_refl _) (.cells #[] 5)).cell hV]; exact c0
  have HR := Lib.hid (hr.ch (Ch.alloc w (.cells #[] 5) No) (fun _ _ => id))
  have HO := Lib.hid (byt_none w 5)
  clear hr
  go_enter Try.func39, Try.ntmps39
  go_wp2_with (at_builtin; refine wpList_app_b _ rfl _ _ 22 rfl 5 Try.underlying22 info5 _ 0 0 [] rfl HO.out rfl A b.length c b rfl HR.out (by omega) ?_; intro g' c' w1 hbb hat hch)
  go_ret2
  have hz : (w.alloc (.cells #[] 5)).heap.size = w.heap.size + 1 := World.size_alloc _ _
  exact ⟨g', c', rfl, by simpa using hbb, by rcases hat with ⟨h, _⟩ | ⟨h, _⟩ <;> omega, ((Ch.alloc w _ No).trans hch (fun i hi => .inr (by omega))).below (Nat.le_refl _) (fun k hk => hk.elim)⟩
set_option maxRecDepth 100000 in
set_option maxHeartbeats 4000000 in
theorem rpput_any (f t n a : Int) {A : Option Addr} {m c : Nat} {l : List UInt8} {w : World} (hr : Rd w A m c 1 (u8s l)) (hm : m ≤ 9223372036854775807) : Calls Try.prog 12 #[.agg #[.int .i64 f, .int .i64 t, .int .i64 n, .int .i64 a, .slice A m c]] w (ToldP w (pktB f t n a l)) := by
  have hl : l.length = m := by have := hr.len; simpa using this
  obtain ⟨B, hB⟩ : ∃ z, z = w.heap.size := ⟨_, rfl⟩
  obtain ⟨V, hV⟩ : ∃ z, z = w.alloc (.cells #[.int .i64 f, .int .i64 t, .int .i64 n, .int .i64 a, .slice A m c] 24) := ⟨_, rfl⟩
  have HBL := Lib.hid (show Blk V B 24 #[.int .i64 f, .int .i64 t, .int .i64 n, .int .i64 a, .slice A m c] by rw [hV, hB]; exact blk_new _ _ _)
  have HB0 := Lib.hid (show Below w.heap.size w V by rw [hV]; exact box_below _ _)
  have HR := Lib.hid hr; have HBW := Lib.hid hB
  clear hr
  by_cases hc : chkP f t n a m = 0
  · have hall := (chkP_fine hc).2.1
    have HOK := Lib.hid (show f ≤ 9223372036854775807 ∧ t ≤ 9223372036854775807 ∧ n ≤ 9223372036854775807 ∧ a ≤ 9223372036854775807 by
      have h1 := okN_yes hall.1; have h2 := okN_yes hall.2.1; have h3 := okN_yes hall.2.2.1; have h4 := okN_yes hall.2.2.2; omega)
    have hX := pktW_ok f t n a l (by rw [hl]; exact hc)
    have hlen := pktX_len f t n a l
    have hlm := (chkP_fine hc).2.2.1
    obtain ⟨X, hXd⟩ : ∃ z, z = pktX f t n a l := ⟨_, rfl⟩
    have HRES := Lib.hid (show pktB f t n a l = (X ++ sum8 X, 0) by unfold pktB; rw [hl, if_pos hc, hXd])
    rw [← hXd] at hX hlen
    have HX := Lib.hid hX; have HC := Lib.hid hc
    clear hX hXd hc hall
    go_enter Try.func12, Try.ntmps12
    go_wp2_with fail
    rw [← hV, ← hB]
    clear hV hB
    refine (rpcheck_any f t n a A m c _ (by omega)).mono ?_
    rw [HC.out]
    rintro e w2 ⟨rfl, hb2⟩
    have hblk2 := blk_below HBL.out hb2
    have hbx := box_below w2 (.cells #[.slice none 0 0, .int .i64 0] 60)
    have hrw3 : RW (w2.alloc (.cells #[.slice none 0 0, .int .i64 0] 60)) w2.heap.size (.slice none 0 0) [] 0 := ⟨blk_new w2 _ _, nil_own _ _ _⟩
    have HB3 := Lib.hid ((HB0.out.trans (hb2.mono HB0.out.size)).trans (hbx.mono (HB0.out.trans (hb2.mono HB0.out.size)).size))
    have HBL3 := Lib.hid (blk_below hblk2 hbx)
    obtain ⟨U, hU⟩ : ∃ z, z = w2.heap.size := ⟨_, rfl⟩
    obtain ⟨w3, hw3⟩ : ∃ z, z = w2.alloc (.cells #[.slice none 0 0, .int .i64 0] 60) := ⟨_, rfl⟩
    have hBU : B < U := by rw [hU]; exact blk_lt hblk2
    have b0 := blk_cell (blk_below hblk2 hbx) 0 _ rfl
    rw [← hw3, ← hU] at hrw3
    rw [← hw3] at HB3 HBL3
    have HW3 := Lib.hid hrw3
    clear hb2 hblk2 hbx hrw3
    go_wp2_with fail
    rw [← hw3, ← hU]
    clear hw3 hU
    refine (rwnum_any (b := (numsW ([], 0) []).1) (e := (numsW ([], 0) []).2) HW3.out (numsW_len _ _ (by decide)) f HOK.out.1).mono ?_
    rw [show wnum (numsW ([], 0) []).1 (numsW ([], 0) []).2 f = numsW ([], 0) [f] from rfl]
    rintro e w4 ⟨he4, v4, hwr4, hch4, ho4⟩
    cases he4
    have hblk4 := blk_ch HBL3.out hch4 (by rintro (e | e); omega; cases e)
    have HW4 := Lib.hid hwr4; have HBL4 := Lib.hid hblk4
    have HB4 := Lib.hid (((Ch.of_below HB3.out (fun j => j = U)).trans hch4 (fun i hi => by rcases hi with e | e; exact .inl e; cases e)).below (Nat.le_refl _) (fun j hj => by have := HBW.out; omega))
    clear hwr4 hblk4 hch4 ho4 b0
    have b1 := blk_cell HBL4.out 1 _ rfl
    go_wp2_with fail
    refine (rwnum_any (b := (numsW ([], 0) [f]).1) (e := (numsW ([], 0) [f]).2) HW4.out (numsW_len _ _ (by decide)) t HOK.out.2.1).mono ?_
    rw [show wnum (numsW ([], 0) [f]).1 (numsW ([], 0) [f]).2 t = numsW ([], 0) [f, t] from rfl]
    rintro e w5 ⟨he5, v5, hwr5, hch5, ho5⟩
    cases he5
    have hblk5 := blk_ch HBL4.out hch5 (by rintro (e | e); omega; have := rw_own HW4.out e; omega)
    have HW5 := Lib.hid hwr5; have HBL5 := Lib.hid hblk5
    have HB5 := Lib.hid (((Ch.of_below HB4.out (fun j => j = U ∨ v4.ownBlock = some j)).trans hch5 (fun i hi => .inl hi)).below (Nat.le_refl _) (fun j hj => by have := HBW.out; rcases hj with e | e; omega; have := rw_own HW4.out e; omega))
    clear hwr5 hblk5 hch5 ho5 b1
    have b2 := blk_cell HBL5.out 2 _ rfl
    go_wp2_with fail
    refine (rwnum_any (b := (numsW ([], 0) [f, t]).1) (e := (numsW ([], 0) [f, t]).2) HW5.out (numsW_len _ _ (by decide)) n HOK.out.2.2.1).mono ?_
    rw [show wnum (numsW ([], 0) [f, t]).1 (numsW ([], 0) [f, t]).2 n = numsW ([], 0) [f, t, n] from rfl]
    rintro e w6 ⟨he6, v6, hwr6, hch6, ho6⟩
    cases he6
    have hblk6 := blk_ch HBL5.out hch6 (by rintro (e | e); omega; have := rw_own HW5.out e; omega)
    have HW6 := Lib.hid hwr6; have HBL6 := Lib.hid hblk6
    have HB6 := Lib.hid (((Ch.of_below HB5.out (fun j => j = U ∨ v5.ownBlock = some j)).trans hch6 (fun i hi => .inl hi)).below (Nat.le_refl _) (fun j hj => by have := HBW.out; rcases hj with e | e; omega; have := rw_own HW5.out e; omega))
    clear hwr6 hblk6 hch6 ho6 b2
    have b3 := blk_cell HBL6.out 3 _ rfl
    go_wp2_with fail
    refine (rwnum_any (b := (numsW ([], 0) [f, t, n]).1) (e := (numsW ([], 0) [f, t, n]).2) HW6.out (numsW_len _ _ (by decide)) a HOK.out.2.2.2).mono ?_
    rw [show wnum (numsW ([], 0) [f, t, n]).1 (numsW ([], 0) [f, t, n]).2 a = numsW ([], 0) [f, t, n, a] from rfl]
    rintro e w7 ⟨he7, v7, hwr7, hch7, ho7⟩
    cases he7
    have hblk7 := blk_ch HBL6.out hch7 (by rintro (e | e); omega; have := rw_own HW6.out e; omega)
    have HW7 := Lib.hid hwr7; have HBL7 := Lib.hid hblk7
    have HB7 := Lib.hid (((Ch.of_below HB6.out (fun j => j = U ∨ v6.ownBlock = some j)).trans hch7 (fun i hi => .inl hi)).below (Nat.le_refl _) (fun j hj => by have := HBW.out; rcases hj with e | e; omega; have := rw_own HW6.out e; omega))
    clear hwr7 hblk7 hch7 ho7 b3
    have b4 := blk_cell HBL7.out 4 _ rfl
    go_wp2_with fail
    refine (rwraw_any HW7.out (numsW_len _ _ (by decide)) (HR.out.below HB7.out) (by omega)).mono ?_
    rw [show wraw (numsW ([], 0) [f, t, n, a]).1 (numsW ([], 0) [f, t, n, a]).2 l = (X, 0) from HX.out]
    rintro e w8 ⟨he8, v8, hwr8, hch8, ho8⟩
    cases he8
    have HB8 := Lib.hid (((Ch.of_below HB7.out (fun j => j = U ∨ v7.ownBlock = some j)).trans hch8 (fun i hi => .inl hi)).below (Nat.le_refl _) (fun j hj => by have := HBW.out; rcases hj with e | e; omega; have := rw_own HW7.out e; omega))
    have HW8 := Lib.hid hwr8
    clear hwr8 hch8 ho8 b4
    go_wp2_with fail
    refine (rout2_any HW8.out (by show X.length ≤ _; omega)).mono ?_
    rintro e w9 ⟨g, c9, rfl, hbyt, hge, hb9⟩
    have HB9 := Lib.hid (HB8.out.trans (hb9.mono HB8.out.size)); have HBY := Lib.hid (show Byt w9 g 5 c9 X from hbyt)
    have hz8 := HB8.out.size
    have HRD := Lib.hid (show Rd w9 (some ⟨g, 0, none⟩) X.length c9 1 (u8s X) from held_rd (base := 0) (.inr ⟨g, rfl, hbyt, rfl, Nat.zero_le _⟩))
    clear hb9 hbyt
    go_wp2_with fail
    refine (rsum_any HRD.out).mono ?_
    rintro e w10 ⟨A8, c8, rfl, hr8, hf8, hb8⟩
    have HB10 := Lib.hid (HB9.out.trans (hb8.mono HB9.out.size)); have HBY8 := Lib.hid (byt_below HBY.out hb8); have HR8 := Lib.hid hr8
    clear hb8 hr8 hf8
    go_wp2_with (at_builtin; refine wpList_app_b _ rfl _ _ 22 rfl 5 Try.underlying22 info5 g X.length c9 X rfl HBY8.out rfl A8 8 c8 (sum8 X) rfl HR8.out (by omega) ?_; intro g' c' w11 hb11 hat11 hch11)
    go_ret2
    have hb10 := HB10.out
    have hz10 := hb10.size
    refine ⟨some ⟨g', 0, none⟩, X.length + 8, c', by rw [HRES.out] <;> rfl, ?_, ((Ch.of_below hb10 (fun j => j = g)).trans hch11 (fun i hi => .inl hi)).below (Nat.le_refl _) (fun j hj => by omega)⟩
    rw [HRES.out]
    exact .inr ⟨g', rfl, hb11, by rw [List.length_append, sum8_len], by rcases hat11 with ⟨h, _⟩ | ⟨h, _⟩ <;> omega⟩
  · have hc2 := chkP_two hc
    have HRES := Lib.hid (show pktB f t n a l = ([], 2) by unfold pktB; rw [hl, if_neg hc])
    have HC := Lib.hid hc2
    clear hc hc2
    go_enter Try.func12, Try.ntmps12
    go_wp2_with fail
    rw [← hV, ← hB]
    clear hV hB
    refine (rpcheck_any f t n a A m c _ (by omega)).mono ?_
    rw [HC.out]
    rintro e w2 ⟨rfl, hb2⟩
    go_wp2
    go_ret2
    exact ⟨none, 0, 0, by rw [HRES.out] <;> rfl, by rw [HRES.out]; exact held_nil _ _, HB0.out.trans (hb2.mono HB0.out.size)⟩
/-- two packets, field by field -/
def sameP (f t n a : Int) (l : List UInt8) (f2 t2 n2 a2 : Int) (l2 : List UInt8) : Bool := (f == f2) && ((t == t2) && ((n == n2) && ((a == a2) && eqB l l2)))
set_option maxRecDepth 100000 in
set_option maxHeartbeats 2000000 in
theorem psame_any (f t n a : Int) {A : Option Addr} {m c : Nat} {l : List UInt8} (f2 t2 n2 a2 : Int) {A2 : Option Addr} {m2 c2 : Nat} {l2 : List UInt8} {w : World} (h1 : Rd w A m c 1 (u8s l)) (h2 : Rd w A2 m2 c2 1 (u8s l2)) : Calls Try.prog 16 #[.agg #[.int .i64 f, .int .i64 t, .int .i64 n, .int .i64 a, .slice A m c], .agg #[.int .i64 f2, .int .i64 t2, .int .i64 n2, .int .i64 a2, .slice A2 m2 c2]] w fun e w' => e = .returned (.bool (sameP f t n a l f2 t2 n2 a2 l2)) ∧ Below w.heap.size w w' := by
  have hb2 : Below w.heap.size w ((w.alloc (.cells #[.int .i64 f, .int .i64 t, .int .i64 n, .int .i64 a, .slice A m c] 24)).alloc (.cells #[.int .i64 f2, .int .i64 t2, .int .i64 n2, .int .i64 a2, .slice A2 m2 c2] 24)) := (box_below w _).alloc (by simp) _
  have HB := Lib.hid hb2
  have H1 := Lib.hid (h1.below hb2); have H2 := Lib.hid (h2.below hb2)
  clear hb2 h1 h2
  obtain ⟨r, hr⟩ : ∃ r, r = sameP f t n a l f2 t2 n2 a2 l2 := ⟨_, rfl⟩
  rw [← hr]
  unfold sameP at hr
  cases g0 : (f == f2) with
  | false =>
    rw [g0, Bool.false_and] at hr
    have HS := Lib.hid hr
    clear hr
    go_enter Try.func16, Try.ntmps16
    go_wp2_with fail
    go_ret
    exact ⟨by rw [HS.out]; rfl, HB.out⟩
  | true =>
    rw [g0, Bool.true_and] at hr
    cases g1 : (t == t2) with
    | false =>
      rw [g1, Bool.false_and] at hr
      have HS := Lib.hid hr
      clear hr
      go_enter Try.func16, Try.ntmps16
      go_wp2_with fail
      go_ret
      exact ⟨by rw [HS.out]; rfl, HB.out⟩
    | true =>
      rw [g1, Bool.true_and] at hr
      cases g2 : (n == n2) with
      | false =>
        rw [g2, Bool.false_and] at hr
        have HS := Lib.hid hr
        clear hr
        go_enter Try.func16, Try.ntmps16
        go_wp2_with fail
        go_ret
        exact ⟨by rw [HS.out]; rfl, HB.out⟩
      | true =>
        rw [g2, Bool.true_and] at hr
        cases g3 : (a == a2) with
        | false =>
          rw [g3, Bool.false_and] at hr
          have HS := Lib.hid hr
          clear hr
          go_enter Try.func16, Try.ntmps16
          go_wp2_with fail
          go_ret
          exact ⟨by rw [HS.out]; rfl, HB.out⟩
        | true =>
          rw [g3, Bool.true_and] at hr
          have HS := Lib.hid hr
          clear hr
          go_enter Try.func16, Try.ntmps16
          go_wp2_with fail
          refine (same_any _ _ _ _ _ _ _ _ _ H1.out H2.out).mono ?_
          rintro e w3 ⟨rfl, rfl⟩
          go_wp2
          go_ret
          exact ⟨by rw [HS.out]; rfl, HB.out⟩
def pcopyQ (w : World) (f t n a : Int) (m : Nat) (l : List UInt8) (e : Ending) (w' : World) : Prop := ∃ g d, e = .returned (.agg #[.int .i64 f, .int .i64 t, .int .i64 n, .int .i64 a, .slice (some ⟨g, 0, none⟩) m d]) ∧ w.heap.size ≤ g ∧ Byt w' g 5 d l ∧ l.length = m ∧ Below w.heap.size w w'
set_option maxRecDepth 100000 in
set_option maxHeartbeats 2000000 in
theorem pcopy_any (f t n a : Int) {A : Option Addr} {m c : Nat} {l : List UInt8} {w : World} (hr : Rd w A m c 1 (u8s l)) (hm : m ≤ 1000000000) : Calls Try.prog 9 #[.agg #[.int .i64 f, .int .i64 t, .int .i64 n, .int .i64 a, .slice A m c]] w (pcopyQ w f t n a m l) := by
  have hl : l.length = m := by have := hr.len; simpa using this
  obtain ⟨B, hB⟩ : ∃ z, z = w.heap.size := ⟨_, rfl⟩
  obtain ⟨V, hV⟩ : ∃ z, z = (w.alloc (.cells #[.int .i64 f, .int .i64 t, .int .i64 n, .int .i64 a, .slice A m c] 24)).alloc (.cells #[.int .i64 0, .int .i64 0, .int .i64 0, .int .i64 0, .slice none 0 0] 24) := ⟨_, rfl⟩
  obtain ⟨b1, b2, b3⟩ := two_new w #[.int .i64 f, .int .i64 t, .int .i64 n, .int .i64 a, .slice A m c] 24 #[.int .i64 0, .int .i64 0, .int .i64 0, .int .i64 0, .slice none 0 0] 24
  have x0 := blk_cell b1 4 _ rfl
  rw [← hV, ← hB] at b1 b2
  rw [← hV] at b3
  have HA := Lib.hid b1; have HZ := Lib.hid b2; have HB0 := Lib.hid b3; have HR := Lib.hid (hr.below b3); have HBW := Lib.hid hB; have HL := Lib.hid hl
  clear b1 b2 b3 hr hl
  go_enter Try.func9, Try.ntmps9
  go_wp2_with fail
  rw [← hV, ← hB]
  clear hV hB x0
  refine (copyb_any A m c l _ HR.out hm).mono ?_
  rintro e w2 ⟨g, d, rfl, hg, hby, hb2⟩
  have hA2 := blk_below HA.out hb2
  have hZ2 := blk_below HZ.out hb2
  have hBV := blk_lt HA.out
  have hZV := blk_lt HZ.out
  have f4 := blk_thawed hA2 4
  have x4 := blk_cell hA2 4 _ rfl
  have hA3 := blk_set hA2 4 (.slice (some ⟨g, 0, none⟩) m d)
  have hZ3 := blk_ch hZ2 (Ch.setCell w2 ⟨B, 4, none⟩ (.slice (some ⟨g, 0, none⟩) m d)) (fun e => by have e : B + 1 = B := e; omega)
  have a0 := blk_cell hA3 0 _ rfl
  have z0 := blk_cell hZ3 0 _ rfl
  have y0 := blk_thawed hZ3 0
  have a1 := blk_cell hA3 1 _ rfl
  have z1 := blk_cell hZ3 1 _ rfl
  have y1 := blk_thawed hZ3 1
  have a2 := blk_cell hA3 2 _ rfl
  have z2 := blk_cell hZ3 2 _ rfl
  have y2 := blk_thawed hZ3 2
  have a3 := blk_cell hA3 3 _ rfl
  have z3 := blk_cell hZ3 3 _ rfl
  have y3 := blk_thawed hZ3 3
  have a4 := blk_cell hA3 4 _ rfl
  have z4 := blk_cell hZ3 4 _ rfl
  have y4 := blk_thawed hZ3 4
  have hfin := blk_set (blk_set (blk_set (blk_set (blk_set (hZ3) 0 (.int .i64 f)) 1 (.int .i64 t)) 2 (.int .i64 n)) 3 (.int .i64 a)) 4 (.slice (some ⟨g, 0, none⟩) m d)
  have hch := ch_set (ch_set (ch_set (ch_set (ch_set (ch_set (Ch.refl (fun j => j = B ∨ j = B + 1) w2) ⟨B, 4, none⟩ (.slice (some ⟨g, 0, none⟩) m d) (.inl rfl)) ⟨B + 1, 0, none⟩ (.int .i64 f) (.inr rfl)) ⟨B + 1, 1, none⟩ (.int .i64 t) (.inr rfl)) ⟨B + 1, 2, none⟩ (.int .i64 n) (.inr rfl)) ⟨B + 1, 3, none⟩ (.int .i64 a) (.inr rfl)) ⟨B + 1, 4, none⟩ (.slice (some ⟨g, 0, none⟩) m d) (.inr rfl)
  have HF := Lib.hid hfin; have HC := Lib.hid hch; have HBY := Lib.hid hby
  have HBB := Lib.hid (HB0.out.trans (hb2.mono HB0.out.size))
  have HGE := Lib.hid hg
  clear hA2 hZ2 hA3 hZ3 hfin hch hby hb2 hg
  go_wp2_with fail
  have hgB : g ≠ B ∧ g ≠ B + 1 := by have := HGE.out; omega
  exact bodyPost_ret (results_cell_row rfl _ _ (B + 1) 24 _ (0, 0) _ rfl HF.out Try.underlying24 rfl (by kernel_rfl)) rfl ⟨g, d, rfl, by have := HGE.out; have := HB0.out.size; omega, byt_ch HBY.out HC.out (by omega), HL.out, ((Ch.of_below HBB.out (fun j => j = B ∨ j = B + 1)).trans HC.out (fun i hi => .inl hi)).below (Nat.le_refl _) (fun j hj => by have := HBW.out; omega)⟩
end Go.Proofs.Ytncahekankbalaa
