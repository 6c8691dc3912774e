/- Walks: Put of the reference's box. Conditions: the box's bytes are the call's own. -/
import Derived.Test.YtnlninmjmjffcaaTn
import Derived.StillTailTactics
import Derived.Deep.QuietTactic
import Derived.BigQuiet
import Derived.Deep.RegionHeld3
import Derived.Deep.RegionLaw
import Derived.Test.YtnlninmjmjffcaaLib3
namespace Go.Proofs.Ytnlninmjmjffcaa
open Go.RowKit
set_option linter.unusedVariables false
set_option linter.unusedSimpArgs false

theorem held_rd {w : World} {base : Nat} {A : Option Addr} {n c : Nat} {x : List UInt8} (h : Held w base A n c x) : Rd w A n c 1 (u8s x) := by
  rcases h with ⟨rfl, rfl, rfl, rfl⟩ | ⟨g, rfl, hb, hn, hg⟩
  · exact nil_rd w 1
  · have := byt_fits hb
    exact (byt_row hb).rd 0 n c (u8s x) (by rw [List.drop_zero, u8s_take, ← hn, Nat.mul_one, List.take_length]) (by rw [u8s_length]; omega) (by omega) hb.big
theorem at_ge {w5 : World} {g1 c1 c n : Nat} (h : (g1 = w5.heap.size ∧ c1 = c ∧ n ≤ c) ∨ (g1 = (w5.drew.alloc (.cells #[] 5)).heap.size ∧ c < n)) : w5.heap.size ≤ g1 := by
  rcases h with ⟨h, _⟩ | ⟨h, _⟩
  · omega
  · rw [h]; simp
theorem at_ge2 {w5 w6 : World} {g g1 c1 c n : Nat} {S : Nat → Prop} (h : (g = g1 ∧ c1 = c ∧ n ≤ c) ∨ (g = w6.heap.size ∧ c < n)) (hg : w5.heap.size ≤ g1) (hc : Ch S (w5.drew.alloc (.cells #[] 5)) w6) : w5.heap.size ≤ g := by
  have := hc.size
  simp at this
  rcases h with ⟨h, _⟩ | ⟨h, _⟩ <;> omega
def PutRQ (w : World) (base B : Nat) (q it sz : Int) (A : Option Addr) (x : List UInt8) (k i s a : Int) (l : List UInt8) (e : Ending) (w' : World) : Prop :=
  ∃ (R A' : Option Addr) (m d n' c' : Nat), e = .returned (.tuple #[.slice R m d, .int .i64 (putS q it sz x k i s a l).2.1]) ∧
    BoxR w' B q (putS q it sz x k i s a l).2.2.1 (putS q it sz x k i s a l).2.2.2.1 A' n' c' ∧ Held w' base A' n' c' (putS q it sz x k i s a l).2.2.2.2 ∧ Held w' base R m d (putS q it sz x k i s a l).1 ∧
    Ch (fun j => j = B) w w' ∧ (∀ b, A' = some b → A = some b ∨ w.heap.size ≤ b.block) ∧ (∀ b, R = some b → A = some b ∨ w.heap.size ≤ b.block) ∧ (R = none ∨ A' = none)

set_option maxRecDepth 100000 in
set_option maxHeartbeats 1000000 in
theorem putr_bad {base B : Nat} {q it sz : Int} {A : Option Addr} {n c : Nat} {x : List UInt8} {w : World} (h : BoxR w B q it sz A n c) (hx : Held w base A n c x)
    (k i s a : Int) (M : Option Addr) (m d : Nat) (l : List UInt8) (hm : m ≤ 9223372036854775807) (hl : l.length = m) (hbad : ¬ (okM k i s a m ∧ k = 1)) :
    Calls Try.prog 43 #[.pointer (some ⟨B, 0, none⟩), .agg #[.int .i64 k, .int .i64 i, .int .i64 s, .int .i64 a, .slice M m d]] w (PutRQ w base B q it sz A x k i s a l) := by
  have hp : putS q it sz x k i s a l = ([], 2, it, sz, x) := by unfold putS; rw [if_pos (by rw [hl]; exact hbad)]
  have hb : Below w.heap.size w (w.alloc (.cells #[.int .i64 k, .int .i64 i, .int .i64 s, .int .i64 a, .slice M m d] 50)) := (Below.refl _ w).alloc (Nat.le_refl _) _
  have HP := Lib.hid hp; have HB := Lib.hid hb; have HH := Lib.hid h; have HX := Lib.hid hx; have HL := Lib.hid hl
  clear hp hb h hx hl
  have fin : ∀ W, Below w.heap.size w W → PutRQ w base B q it sz A x k i s a l (.returned (.tuple #[.slice none 0 0, .int .i64 2])) W := by
    intro W hW
    unfold PutRQ
    rw [HP.out]
    exact ⟨none, A, 0, 0, n, c, rfl, blk_below HH.out hW, held_ch HX.out (Ch.of_below hW No) (fun _ _ => id), held_nil _ _, Ch.of_below hW _, fun b hb => .inl hb, (fun b hb => by cases hb), .inl rfl⟩
  have FIN := Lib.hid fin; clear fin
  by_cases hok : okM k i s a m
  · have hk : k ≠ 1 := fun e => hbad ⟨hok, e⟩
    go_enter Try.func43, Try.ntmps43
    go_wp2_with fail
    refine (checkr_any k i s a M m d _ hm).mono ?_; rintro e w1 ⟨rfl, hb1⟩
    rw [chk_ok hok]
    have c0 := blk_cell (blk_below (blk_new w 50 #[.int .i64 k, .int .i64 i, .int .i64 s, .int .i64 a, .slice M m d]) hb1) 0 _ rfl
    go_wp2
    go_ret2
    exact FIN.out _ (HB.out.trans (hb1.mono HB.out.size))
  · go_enter Try.func43, Try.ntmps43
    go_wp2_with fail
    refine (checkr_any k i s a M m d _ hm).mono ?_; rintro e w1 ⟨rfl, hb1⟩
    rw [chk_no hok]
    go_wp2
    go_ret2
    exact FIN.out _ (HB.out.trans (hb1.mono HB.out.size))

set_option maxRecDepth 100000 in
set_option maxHeartbeats 4000000 in
theorem putr_next {base B : Nat} {q it sz : Int} {A : Option Addr} {n c : Nat} {x : List UInt8} {w : World} (h : BoxR w B q it sz A n c) (hbB : base ≤ B) (hx : Held w base A n c x) (hA : ∀ b, A = some b → b.block ≠ B)
    (i s a : Int) (M : Option Addr) (m d : Nat) (l : List UInt8) (hl : Rd w M m d 1 (u8s l)) (hM : ∀ b, M = some b → b.block ≠ B) (hok : okM 1 i s a m) (ha : a ≠ 0) :
    Calls Try.prog 43 #[.pointer (some ⟨B, 0, none⟩), .agg #[.int .i64 1, .int .i64 i, .int .i64 s, .int .i64 a, .slice M m d]] w (PutRQ w base B q it sz A x 1 i s a l) := by
  have hlen : l.length = m := by have := hl.len; simpa using this
  have hm := hl.small
  have hs0 : 1 ≤ s ∧ s ≤ 60000 ∧ (m : Int) ≤ s - a ∧ 1 ≤ m ∧ 1 ≤ i ∧ 1 ≤ a := by unfold okM at hok; omega
  have hb : Below w.heap.size w (w.alloc (.cells #[.int .i64 1, .int .i64 i, .int .i64 s, .int .i64 a, .slice M m d] 50)) := (Below.refl _ w).alloc (Nat.le_refl _) _
  have hxn := held_len hx
  have HN := Lib.hid hlen; have HB := Lib.hid hb; have HH := Lib.hid h; have HL := Lib.hid hl; have HHX := Lib.hid hx; have HXN := Lib.hid hxn
  clear hlen hb h hl hx hxn
  have fin : ∀ W, Ch No w W → (it ≠ i ∨ sz ≠ s ∨ (n : Int) ≠ a) → PutRQ w base B q it sz A x 1 i s a l (.returned (.tuple #[.slice none 0 0, .int .i64 9])) W := by
    intro W hW hne
    have hp : putS q it sz x 1 i s a l = ([], 9, it, sz, x) := by unfold putS; rw [if_neg (by rw [HN.out]; exact fun h => h ⟨hok, rfl⟩), if_neg ha, if_pos (by rw [HXN.out]; exact hne)]
    unfold PutRQ
    rw [hp]
    exact ⟨none, A, 0, 0, n, c, rfl, blk_ch HH.out hW id, held_ch HHX.out hW (fun _ _ => id), held_nil _ _, hW.mono (fun _ _ h => h.elim), fun b hb => .inl hb, (fun b hb => by cases hb), .inl rfl⟩
  have FIN := Lib.hid fin; clear fin
  go_enter Try.func43, Try.ntmps43
  go_wp2_with fail
  refine (checkr_any 1 i s a M m d _ hm).mono ?_; rintro e w1 ⟨rfl, hb1⟩
  rw [chk_ok hok]
  have hB1 := HB.out.trans (hb1.mono HB.out.size)
  have hc := blk_below (blk_new w 50 #[.int .i64 1, .int .i64 i, .int .i64 s, .int .i64 a, .slice M m d]) hb1
  have hx := blk_below HH.out hB1
  have hF1 : Ch No w w1 := Ch.of_below hB1 _
  have c0 : w1.cell? ⟨w.heap.size, 0, none⟩ = some (.int .i64 1) := blk_cell hc 0 _ rfl
  have c1 : w1.cell? ⟨w.heap.size, 1, none⟩ = some (.int .i64 i) := blk_cell hc 1 _ rfl
  have c2 : w1.cell? ⟨w.heap.size, 2, none⟩ = some (.int .i64 s) := blk_cell hc 2 _ rfl
  have c3 : w1.cell? ⟨w.heap.size, 3, none⟩ = some (.int .i64 a) := blk_cell hc 3 _ rfl
  have x2 : w1.cell? ⟨B, 1, none⟩ = some (.int .i64 it) := blk_cell hx 1 _ rfl
  have x3 : w1.cell? ⟨B, 2, none⟩ = some (.int .i64 sz) := blk_cell hx 2 _ rfl
  have x4 : w1.cell? ⟨B, 3, none⟩ = some (.slice A n c) := blk_cell hx 3 _ rfl
  have HC := Lib.hid hc; have HX := Lib.hid hx; have HF1 := Lib.hid hF1
  clear hc hx hB1 hb1 HB hF1
  have g0 : (a == 0) = false := by simpa using ha
  by_cases e1 : it = i
  case neg =>
    have g1 : (it != i) = true := by simpa using e1
    go_wp2
    go_quiet (fail)
    go_wp2
    go_ret2
    exact FIN.out _ (ch_thenno HF1.out (ch_drewN _ _ _)) (.inl e1)
  subst e1
  by_cases e2 : sz = s
  case neg =>
    have g2 : (sz != s) = true := by simpa using e2
    go_wp2
    go_quiet (fail)
    go_wp2
    go_ret2
    exact FIN.out _ (ch_thenno HF1.out (ch_drewN _ _ _)) (.inr (.inl e2))
  subst e2
  by_cases e3 : (n : Int) = a
  case neg =>
    have g3 : ((n : Int) != a) = true := by simpa using e3
    go_wp2
    go_quiet (fail)
    go_wp2
    go_ret2
    exact FIN.out _ (ch_thenno HF1.out (ch_drewN _ _ _)) (.inr (.inr e3))
  subst e3
  go_wp2
  go_quiet (fail)
  clear c0 c1 c2 c3 x2 x3 x4 FIN
  have hD : ∀ S, Ch S w1 (w1.drewN nq) := fun S => ch_drewN S _ _
  have HC5 := Lib.hid (blk_ch HC.out (hD No) id)
  have HX5 := Lib.hid (blk_ch HX.out (hD No) id)
  have hF5 := ch_thenno HF1.out (hD No)
  have HH5 := Lib.hid (held_ch HHX.out hF5 (fun _ _ => id))
  have HR5 := Lib.hid (HL.out.ch hF5 (fun _ _ => id))
  have HF5 := Lib.hid (hF5.mono (S' := fun j => j = B) (fun _ _ h => h.elim)); clear hF5
  obtain ⟨w5, hw5⟩ : ∃ x, x = w1.drewN nq := ⟨_, rfl⟩
  rw [← hw5] at HC5 HX5 HR5 HF5 HH5 ⊢; clear hw5 hD
  have HR6 := Lib.hid (held_rd HH5.out)
  have hne : w.heap.size ≠ B := by have := blk_lt HH.out; omega
  have HFAR := Lib.hid (show ∀ (W : World) (v : Value) (j l : Nat), (W.setCell ⟨B, j, none⟩ v).cell? ⟨w.heap.size, l, none⟩ = W.cell? ⟨w.heap.size, l, none⟩ from fun W v j l => cell_far W ⟨B, j, none⟩ ⟨w.heap.size, l, none⟩ v hne)
  have HM5 := Lib.hid (show ∀ b, M = some b → b.block ≠ w5.heap.size from fun b hb => by have := rd_in HL.out b hb (by omega); have := HF5.out.size; omega)
  have c4 : w5.cell? ⟨w.heap.size, 4, none⟩ = some (.slice M m d) := blk_cell HC5.out 4 _ rfl
  have x4 : w5.cell? ⟨B, 3, none⟩ = some (.slice A n c) := blk_cell HX5.out 3 _ rfl
  have f4 := blk_thawed HX5.out 3
  have hBlt : B < w5.heap.size := blk_lt HX5.out
  have k4 : (w5.alloc (.cells #[] 5)).cell? ⟨w.heap.size, 4, none⟩ = some (.slice M m d) := blk_cell (blk_ch HC5.out (Ch.alloc _ _ No) id) 4 _ rfl
  have k5 : (w5.alloc (.cells #[] 5)).cell? ⟨B, 3, none⟩ = some (.slice A n c) := blk_cell (blk_ch HX5.out (Ch.alloc _ _ No) id) 3 _ rfl
  go_wp2
  go_region_law (first | (refine step_app_b _ rfl (.tmp 64) (.tmp 68) 22 rfl 5 Try.underlying22 info5 w5.heap.size 0 0 [] (by simp [Act.eval, Act.put]) (byt_none w5.drew 5) rfl A n c x (by simp [Act.eval, Act.put]) ((HR6.out.ch (Ch.drew _ No) (fun _ _ => id)).ch (Ch.alloc _ _ No) (fun _ _ => id)) (by omega) ?_; intro g1 c1 w6 hb6 hat6 hch6; have hx6 := blk_ch (blk_ch (blk_ch HX5.out (Ch.drew _ No) id) (Ch.alloc _ _ No) id) hch6 (Nat.ne_of_lt hBlt); have hc6 := blk_ch (blk_ch (blk_ch HC5.out (Ch.drew _ No) id) (Ch.alloc _ _ No) id) hch6 (Nat.ne_of_lt (blk_lt HC5.out)); have hr6 := ((HR5.out.ch (Ch.drew _ No) (fun _ _ => id)).ch (Ch.alloc w5.drew (.cells #[] 5) No) (fun _ _ => id)); have c46 : w6.cell? ⟨w.heap.size, 4, none⟩ = some (.slice M m d) := blk_cell hc6 4 _ rfl; have x46 : w6.cell? ⟨B, 3, none⟩ = some (.slice A n c) := blk_cell hx6 3 _ rfl; have hg1 : w5.heap.size ≤ g1 := at_ge hat6) | (refine step_app_b _ rfl (.tmp 69) (.tmp 71) 22 rfl 5 Try.underlying22 info5 g1 n c1 ([] ++ x) (by simp [Act.eval, Act.put]) hb6 (by exact HXN.out) M m d l (by simp [Act.eval, Act.put]) (hr6.keep (fun b hb hlt => hch6.block b.block hlt (HM5.out b hb))) (by omega) ?_; intro g' c' w7 hb7 hat7 hch7; have hc7 := blk_ch hc6 hch7 (fun e => by have := blk_lt HC5.out; omega); have hx7 := blk_ch hx6 hch7 (fun e => by omega); have c47 : w7.cell? ⟨w.heap.size, 4, none⟩ = some (.slice M m d) := blk_cell hc7 4 _ rfl; have x47 : w7.cell? ⟨B, 3, none⟩ = some (.slice A n c) := blk_cell hx7 3 _ rfl; have f47 := blk_thawed hx7 3))
  all_goals
    clear x4 f4 c4 c46 x46 c47 x47 f47
    have hg7 : w5.heap.size ≤ g' := at_ge2 hat7 hg1 hch6
    have hgw : w.heap.size ≤ g' := by have := HF5.out.size; omega
    have hgB6 : g' ≠ B := by omega
    have hgb : base ≤ g' := by omega
    have hx8 := blk_set hx7 3 (.slice (some ⟨g', 0, none⟩) (n + m) c')
    have hb8 : Byt (w7.setCell ⟨B, 3, none⟩ (.slice (some ⟨g', 0, none⟩) (n + m) c')) g' 5 c' (x ++ l) := byt_ch hb7 (Ch.setCell w7 ⟨B, 3, none⟩ _) hgB6
    have hF8 : Ch (fun j => j = B) w (w7.setCell ⟨B, 3, none⟩ (.slice (some ⟨g', 0, none⟩) (n + m) c')) := ch_one (((((ch_thendrew HF5.out).trans (Ch.alloc _ _ No) (fun _ h => h.elim))).trans hch6 (fun j hj => .inr (by have := HF5.out.size; omega))).trans hch7 (fun j hj => .inr (by have := HF5.out.size; omega))) 3 _
    obtain ⟨w8, hw8⟩ : ∃ x, x = w7.setCell ⟨B, 3, none⟩ (.slice (some ⟨g', 0, none⟩) (n + m) c') := ⟨_, rfl⟩
    rw [← hw8] at hx8 hb8 hF8 ⊢; clear hw8
    have x2 : w8.cell? ⟨B, 2, none⟩ = some (.int .i64 sz) := blk_cell hx8 2 _ rfl
    have x3 : w8.cell? ⟨B, 3, none⟩ = some (.slice (some ⟨g', 0, none⟩) (n + m) c') := blk_cell hx8 3 _ rfl
    have hlx : (x ++ l).length = n + m := by rw [List.length_append, HXN.out, HN.out]
    have HX7 := Lib.hid hx8; have HB7 := Lib.hid hb8; have HF7 := Lib.hid hF8; have HGB := Lib.hid hgB6; have HLX := Lib.hid hlx
    clear hx8 hb8 hF8 hat7 hx7 hb7 hch7 hat6 hb6 hch6 hx6 hc6 hr6 hc7 hgB6 hlx
    by_cases hms : ((n + m : Nat) : Int) < sz
    · have hp : putS q it sz x 1 it sz n l = ([], 0, it, sz, x ++ l) := by unfold putS; rw [if_neg (by rw [HN.out]; exact fun h => h ⟨hok, rfl⟩), if_neg ha, if_neg (by rw [HXN.out]; simp), if_pos (by rw [HN.out, HXN.out]; simpa using hms)]
      have HP := Lib.hid hp; clear hp
      go_wp2
      go_quiet (fail)
      go_wp2
      go_ret2
      unfold PutRQ
      rw [HP.out]
      have hd : ∀ S, Ch S w8 (w8.drewN nq) := fun S => ch_drewN S _ _
      exact ⟨none, some ⟨g', 0, none⟩, 0, 0, n + m, c', rfl, blk_ch HX7.out (hd No) id, .inr ⟨g', rfl, byt_ch HB7.out (hd No) id, HLX.out, hgb⟩, held_nil _ _, ch_thenno HF7.out (hd No), (fun b hb => by cases hb; exact .inr hgw), (fun b hb => by cases hb), .inl rfl⟩
    · have hp : putS q it sz x 1 it sz n l = (x ++ l, 0, 0, 0, []) := by unfold putS; rw [if_neg (by rw [HN.out]; exact fun h => h ⟨hok, rfl⟩), if_neg ha, if_neg (by rw [HXN.out]; simp), if_neg (by rw [HN.out, HXN.out]; simpa using hms)]
      have HP := Lib.hid hp; clear hp
      go_wp2
      go_quiet (fail)
      have hd : ∀ S, Ch S w8 (w8.drewN nq) := fun S => ch_drewN S _ _
      have hx8 := blk_ch HX7.out (hd No) id
      have hb8 := byt_ch HB7.out (hd No) id
      have hF8 := ch_thenno HF7.out (hd No)
      obtain ⟨w9, hw9⟩ : ∃ x, x = w8.drewN nq := ⟨_, rfl⟩
      rw [← hw9] at hx8 hb8 hF8 ⊢; clear hw9 hd x2 x3
      have x3 : w9.cell? ⟨B, 3, none⟩ = some (.slice (some ⟨g', 0, none⟩) (n + m) c') := blk_cell hx8 3 _ rfl
      have HX8 := Lib.hid hx8; have HB8 := Lib.hid hb8; have HF8 := Lib.hid hF8
      clear hx8 hb8 hF8
      go_wp2_with fail
      refine (dropr_any HX8.out).mono ?_; rintro e w10 ⟨rfl, hx9, hch9⟩
      have HX9 := Lib.hid hx9; have HCH9 := Lib.hid hch9; clear hx9 hch9
      go_wp2
      go_ret2
      unfold PutRQ
      rw [HP.out]
      exact ⟨some ⟨g', 0, none⟩, none, n + m, c', 0, 0, rfl, HX9.out, held_nil _ _, .inr ⟨g', rfl, byt_ch HB8.out HCH9.out HGB.out, HLX.out, hgb⟩, HF8.out.trans HCH9.out (fun j hj => .inl hj), (fun b hb => by cases hb), (fun b hb => by cases hb; exact .inr hgw), .inr rfl⟩

set_option maxRecDepth 100000 in
set_option maxHeartbeats 4000000 in
theorem putr_first {base B : Nat} {q it sz : Int} {A : Option Addr} {n c : Nat} {x : List UInt8} {w : World} (h : BoxR w B q it sz A n c) (hbB : base ≤ B)
    (i s : Int) (M : Option Addr) (m d : Nat) (l : List UInt8) (hl : Rd w M m d 1 (u8s l)) (hM : ∀ b, M = some b → b.block ≠ B) (hok : okM 1 i s 0 m) :
    Calls Try.prog 43 #[.pointer (some ⟨B, 0, none⟩), .agg #[.int .i64 1, .int .i64 i, .int .i64 s, .int .i64 0, .slice M m d]] w (PutRQ w base B q it sz A x 1 i s 0 l) := by
  have hlen : l.length = m := by have := hl.len; simpa using this
  have hm := hl.small
  have hs0 : 1 ≤ s ∧ s ≤ 60000 ∧ m ≤ s ∧ 1 ≤ m ∧ 1 ≤ i := by unfold okM at hok; omega
  have hb : Below w.heap.size w (w.alloc (.cells #[.int .i64 1, .int .i64 i, .int .i64 s, .int .i64 0, .slice M m d] 50)) := (Below.refl _ w).alloc (Nat.le_refl _) _
  have HN := Lib.hid hlen; have HB := Lib.hid hb; have HH := Lib.hid h; have HL := Lib.hid hl
  clear hlen hb h hl
  go_enter Try.func43, Try.ntmps43
  go_wp2_with fail
  refine (checkr_any 1 i s 0 M m d _ hm).mono ?_; rintro e w1 ⟨rfl, hb1⟩
  rw [chk_ok hok]
  have hB1 := HB.out.trans (hb1.mono HB.out.size)
  have hc := blk_below (blk_new w 50 #[.int .i64 1, .int .i64 i, .int .i64 s, .int .i64 0, .slice M m d]) hb1
  have hx := blk_below HH.out hB1
  have c0 := blk_cell hc 0 _ rfl
  have c3 := blk_cell hc 3 _ rfl
  have HC := Lib.hid hc; have HX := Lib.hid hx; have HB1 := Lib.hid hB1
  clear hc hx hB1 hb1 HB
  go_wp2_with fail
  refine (dropr_any HX.out).mono ?_; rintro e w2 ⟨rfl, hx2, hch⟩
  have hne : w.heap.size ≠ B := by have := blk_lt HH.out; omega
  have hc2 := blk_ch HC.out hch hne
  have c1 : w2.cell? ⟨w.heap.size, 1, none⟩ = some (.int .i64 i) := blk_cell hc2 1 _ rfl
  have c2 : w2.cell? ⟨w.heap.size, 2, none⟩ = some (.int .i64 s) := blk_cell hc2 2 _ rfl
  have x0 : w2.cell? ⟨B, 0, none⟩ = some (.int .i64 q) := blk_cell hx2 0 _ rfl
  have HC := Lib.hid hc2; have HX := Lib.hid hx2; have HCH := Lib.hid hch
  have hFC : Ch (fun j => j = B) w w2 := (Ch.of_below HB1.out _).trans HCH.out (fun j hj => .inl hj)
  have HFC := Lib.hid hFC; clear hFC HCH HB1 hc2 hx2 hch c0 c3
  by_cases hqs : q < s
  · have hp : putS q it sz x 1 i s 0 l = ([], 8, 0, 0, []) := by unfold putS; rw [if_neg (by rw [HN.out]; exact fun h => h ⟨hok, rfl⟩), if_pos rfl, if_pos hqs]
    have HP := Lib.hid hp; clear hp
    go_wp2
    go_quiet (fail)
    go_wp2
    go_ret2
    unfold PutRQ
    rw [HP.out]
    exact ⟨none, none, 0, 0, 0, 0, rfl, blk_ch HX.out (ch_drewN No _ _) id, held_nil _ _, held_nil _ _, HFC.out.trans (ch_drewN No _ _) (fun _ h => h.elim), (fun b hb => by cases hb), (fun b hb => by cases hb), .inl rfl⟩
  have HQS := Lib.hid hqs
  go_wp2
  go_quiet (fail)
  clear c1 c2 x0
  have hD : ∀ S, Ch S w2 (w2.drewN nq) := fun S => ch_drewN S _ _
  have hc3 := blk_ch HC.out (hD No) id
  have hx3 := blk_ch HX.out (hD No) id
  have hF3 := ch_thenno HFC.out (hD No)
  obtain ⟨w3, hw3⟩ : ∃ x, x = w2.drewN nq := ⟨_, rfl⟩
  rw [← hw3] at hc3 hx3 hF3 ⊢; clear hw3 hD
  have c1 : w3.cell? ⟨w.heap.size, 1, none⟩ = some (.int .i64 i) := blk_cell hc3 1 _ rfl
  have c2 : w3.cell? ⟨w.heap.size, 2, none⟩ = some (.int .i64 s) := blk_cell hc3 2 _ rfl
  have x1 : w3.cell? ⟨B, 1, none⟩ = some (.int .i64 0) := blk_cell hx3 1 _ rfl
  have x2 : w3.cell? ⟨B, 2, none⟩ = some (.int .i64 0) := blk_cell hx3 2 _ rfl
  have f1 := blk_thawed hx3 1
  have f2 := blk_thawed hx3 2
  have HFAR := Lib.hid (show ∀ (W : World) (v : Value) (j l : Nat), (W.setCell ⟨B, j, none⟩ v).cell? ⟨w.heap.size, l, none⟩ = W.cell? ⟨w.heap.size, l, none⟩ from fun W v j l => cell_far W ⟨B, j, none⟩ ⟨w.heap.size, l, none⟩ v hne)
  have HC3 := Lib.hid hc3; have HX3 := Lib.hid hx3; have HF3 := Lib.hid hF3
  clear hc3 hx3 hF3
  go_wp2
  clear c1 c2 x1 x2 f1 f2
  have HC5 := Lib.hid (blk_ch HC3.out (ch_one (ch_one (Ch.refl (fun j => j = B) w3) 1 (.int .i64 i)) 2 (.int .i64 s)) hne)
  have HX5 := Lib.hid (blk_set (blk_set HX3.out 1 (.int .i64 i)) 2 (.int .i64 s))
  have HF5 := Lib.hid (ch_one (ch_one HF3.out 1 (.int .i64 i)) 2 (.int .i64 s))
  obtain ⟨w5, hw5⟩ : ∃ x, x = (w3.setCell ⟨B, 1, none⟩ (.int .i64 i)).setCell ⟨B, 2, none⟩ (.int .i64 s) := ⟨_, rfl⟩
  rw [← hw5] at HC5 HX5 HF5 ⊢; clear hw5
  have HR5 := Lib.hid (HL.out.keep (fun b hb hlt => HF5.out.block b.block hlt (hM b hb)))
  have HR6 := Lib.hid (nil_rd w5 1)
  have HM5 := Lib.hid (show ∀ b, M = some b → b.block ≠ w5.heap.size from fun b hb => by have := rd_in HL.out b hb (by omega); have := HF5.out.size; omega)
  have c4 : w5.cell? ⟨w.heap.size, 4, none⟩ = some (.slice M m d) := blk_cell HC5.out 4 _ rfl
  have x4 : w5.cell? ⟨B, 3, none⟩ = some (.slice none 0 0) := blk_cell HX5.out 3 _ rfl
  have f4 := blk_thawed HX5.out 3
  have hBlt : B < w5.heap.size := blk_lt HX5.out
  have k4 : (w5.alloc (.cells #[] 5)).cell? ⟨w.heap.size, 4, none⟩ = some (.slice M m d) := blk_cell (blk_ch HC5.out (Ch.alloc _ _ No) id) 4 _ rfl
  have k5 : (w5.alloc (.cells #[] 5)).cell? ⟨B, 3, none⟩ = some (.slice none 0 0) := blk_cell (blk_ch HX5.out (Ch.alloc _ _ No) id) 3 _ rfl
  go_region_law (first | (refine step_app_b _ rfl (.tmp 64) (.tmp 68) 22 rfl 5 Try.underlying22 info5 w5.heap.size 0 0 [] (by simp [Act.eval, Act.put]) (byt_none w5.drew 5) rfl none 0 0 [] (by simp [Act.eval, Act.put]) ((HR6.out.ch (Ch.drew _ No) (fun _ _ => id)).ch (Ch.alloc _ _ No) (fun _ _ => id)) (by omega) ?_; intro g1 c1 w6 hb6 hat6 hch6; have hx6 := blk_ch (blk_ch (blk_ch HX5.out (Ch.drew _ No) id) (Ch.alloc _ _ No) id) hch6 (Nat.ne_of_lt hBlt); have hc6 := blk_ch (blk_ch (blk_ch HC5.out (Ch.drew _ No) id) (Ch.alloc _ _ No) id) hch6 (Nat.ne_of_lt (blk_lt HC5.out)); have hr6 := ((HR5.out.ch (Ch.drew _ No) (fun _ _ => id)).ch (Ch.alloc w5.drew (.cells #[] 5) No) (fun _ _ => id)); have c46 : w6.cell? ⟨w.heap.size, 4, none⟩ = some (.slice M m d) := blk_cell hc6 4 _ rfl; have x46 : w6.cell? ⟨B, 3, none⟩ = some (.slice none 0 0) := blk_cell hx6 3 _ rfl; have hg1 : w5.heap.size ≤ g1 := at_ge hat6) | (refine step_app_b _ rfl (.tmp 69) (.tmp 71) 22 rfl 5 Try.underlying22 info5 g1 0 c1 ([] ++ []) (by simp [Act.eval, Act.put]) hb6 (by rfl) M m d l (by simp [Act.eval, Act.put]) (hr6.keep (fun b hb hlt => hch6.block b.block hlt (HM5.out b hb))) (by omega) ?_; intro g' c' w7 hb7 hat7 hch7; have hc7 := blk_ch hc6 hch7 (fun e => by have := blk_lt HC5.out; omega); have hx7 := blk_ch hx6 hch7 (fun e => by omega); have c47 : w7.cell? ⟨w.heap.size, 4, none⟩ = some (.slice M m d) := blk_cell hc7 4 _ rfl; have x47 : w7.cell? ⟨B, 3, none⟩ = some (.slice none 0 0) := blk_cell hx7 3 _ rfl; have f47 := blk_thawed hx7 3))
  all_goals
    clear x4 f4 c4 c46 x46 c47 x47 f47
    have hg7 : w5.heap.size ≤ g' := at_ge2 hat7 hg1 hch6
    have hgw : w.heap.size ≤ g' := by have := HF5.out.size; omega
    have hgB6 : g' ≠ B := by omega
    have hgb : base ≤ g' := by omega
    have hx8 := blk_set hx7 3 (.slice (some ⟨g', 0, none⟩) (m) c')
    have hb8 : Byt (w7.setCell ⟨B, 3, none⟩ (.slice (some ⟨g', 0, none⟩) (m) c')) g' 5 c' ([] ++ l) := byt_ch hb7 (Ch.setCell w7 ⟨B, 3, none⟩ _) hgB6
    have hF8 : Ch (fun j => j = B) w (w7.setCell ⟨B, 3, none⟩ (.slice (some ⟨g', 0, none⟩) (m) c')) := ch_one (((((ch_thendrew HF5.out).trans (Ch.alloc _ _ No) (fun _ h => h.elim))).trans hch6 (fun j hj => .inr (by have := HF5.out.size; omega))).trans hch7 (fun j hj => .inr (by have := HF5.out.size; omega))) 3 _
    obtain ⟨w8, hw8⟩ : ∃ x, x = w7.setCell ⟨B, 3, none⟩ (.slice (some ⟨g', 0, none⟩) (m) c') := ⟨_, rfl⟩
    rw [← hw8] at hx8 hb8 hF8 ⊢; clear hw8
    have x2 : w8.cell? ⟨B, 2, none⟩ = some (.int .i64 s) := blk_cell hx8 2 _ rfl
    have x3 : w8.cell? ⟨B, 3, none⟩ = some (.slice (some ⟨g', 0, none⟩) (m) c') := blk_cell hx8 3 _ rfl
    have hlx : ([] ++ l).length = m := by rw [List.nil_append, HN.out]
    have HX7 := Lib.hid hx8; have HB7 := Lib.hid hb8; have HF7 := Lib.hid hF8; have HGB := Lib.hid hgB6; have HLX := Lib.hid hlx
    clear hx8 hb8 hF8 hat7 hx7 hb7 hch7 hat6 hb6 hch6 hx6 hc6 hr6 hc7 hgB6 hlx
    by_cases hms : ((m : Nat) : Int) < s
    · have hp : putS q it sz x 1 i s 0 l = ([], 0, i, s, [] ++ l) := by unfold putS; rw [if_neg (by rw [HN.out]; exact fun h => h ⟨hok, rfl⟩), if_pos rfl, if_neg (by have := HQS.out; omega), if_pos (by rw [HN.out]; omega)]; rfl
      have HP := Lib.hid hp; clear hp
      go_wp2
      go_quiet (fail)
      go_wp2
      go_ret2
      unfold PutRQ
      rw [HP.out]
      have hd : ∀ S, Ch S w8 (w8.drewN nq) := fun S => ch_drewN S _ _
      exact ⟨none, some ⟨g', 0, none⟩, 0, 0, m, c', rfl, blk_ch HX7.out (hd No) id, .inr ⟨g', rfl, byt_ch HB7.out (hd No) id, HLX.out, hgb⟩, held_nil _ _, ch_thenno HF7.out (hd No), (fun b hb => by cases hb; exact .inr hgw), (fun b hb => by cases hb), .inl rfl⟩
    · have hp : putS q it sz x 1 i s 0 l = ([] ++ l, 0, 0, 0, []) := by unfold putS; rw [if_neg (by rw [HN.out]; exact fun h => h ⟨hok, rfl⟩), if_pos rfl, if_neg (by have := HQS.out; omega), if_neg (by rw [HN.out]; omega)]; rfl
      have HP := Lib.hid hp; clear hp
      go_wp2
      go_quiet (fail)
      have hd : ∀ S, Ch S w8 (w8.drewN nq) := fun S => ch_drewN S _ _
      have hx8 := blk_ch HX7.out (hd No) id
      have hb8 := byt_ch HB7.out (hd No) id
      have hF8 := ch_thenno HF7.out (hd No)
      obtain ⟨w9, hw9⟩ : ∃ x, x = w8.drewN nq := ⟨_, rfl⟩
      rw [← hw9] at hx8 hb8 hF8 ⊢; clear hw9 hd x2 x3
      have x3 : w9.cell? ⟨B, 3, none⟩ = some (.slice (some ⟨g', 0, none⟩) (m) c') := blk_cell hx8 3 _ rfl
      have HX8 := Lib.hid hx8; have HB8 := Lib.hid hb8; have HF8 := Lib.hid hF8
      clear hx8 hb8 hF8
      go_wp2_with fail
      refine (dropr_any HX8.out).mono ?_; rintro e w10 ⟨rfl, hx9, hch9⟩
      have HX9 := Lib.hid hx9; have HCH9 := Lib.hid hch9; clear hx9 hch9
      go_wp2
      go_ret2
      unfold PutRQ
      rw [HP.out]
      exact ⟨some ⟨g', 0, none⟩, none, m, c', 0, 0, rfl, HX9.out, held_nil _ _, .inr ⟨g', rfl, byt_ch HB8.out HCH9.out HGB.out, HLX.out, hgb⟩, HF8.out.trans HCH9.out (fun j hj => .inl hj), (fun b hb => by cases hb), (fun b hb => by cases hb; exact .inr hgw), .inr rfl⟩

theorem putr_any {base B : Nat} {q it sz : Int} {A : Option Addr} {n c : Nat} {x : List UInt8} {w : World} (h : BoxR w B q it sz A n c) (hbB : base ≤ B) (hx : Held w base A n c x) (hA : ∀ b, A = some b → b.block ≠ B)
    (k i s a : Int) (M : Option Addr) (m d : Nat) (l : List UInt8) (hl : Rd w M m d 1 (u8s l)) (hM : ∀ b, M = some b → b.block ≠ B) :
    Calls Try.prog 43 #[.pointer (some ⟨B, 0, none⟩), .agg #[.int .i64 k, .int .i64 i, .int .i64 s, .int .i64 a, .slice M m d]] w (PutRQ w base B q it sz A x k i s a l) := by
  by_cases hok : okM k i s a m ∧ k = 1
  · obtain ⟨hok, rfl⟩ := hok
    by_cases ha : a = 0
    · subst ha
      exact putr_first h hbB i s M m d l hl hM hok
    · exact putr_next h hbB hx hA i s a M m d l hl hM hok ha
  · exact putr_bad h hx k i s a M m d l hl.small (by have := hl.len; simpa using this) hok

end Go.Proofs.Ytnlninmjmjffcaa
