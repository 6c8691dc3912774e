/- Walks: Put of chunk's box, a piece that is no first one. Conditions: as in the text ahead. -/
import Derived.Test.YtnlninmjmjffcaaTm
import Derived.StillTailTactics
import Derived.Deep.QuietTactic
import Derived.BigQuiet
import Derived.Deep.RegionHeld3
import Derived.Deep.RegionLaw
import Derived.Test.YtnlninmjmjffcaaLib3
namespace Go.Proofs.Ytnlninmjmjffcaa
open Go.RowKit
set_option linter.unusedVariables false
set_option linter.unusedSimpArgs false

set_option maxRecDepth 100000 in
set_option maxHeartbeats 4000000 in
theorem put_next {base B : Nat} {q it sz : Int} {A : Option Addr} {n c : Nat} {x : List UInt8} {w : World} (h : BoxC w B q it sz A n c) (hbB : base ≤ B) (hx : Held w base A n c x) (hA : ∀ b, A = some b → b.block ≠ B)
    (i s a : Int) (M : Option Addr) (m d : Nat) (l : List UInt8) (hl : Rd w M m d 1 (u8s l)) (hM : ∀ b, M = some b → b.block ≠ B) (hok : okM 1 i s a m) (ha : a ≠ 0) :
    Calls Try.prog 42 #[.pointer (some ⟨B, 0, none⟩), .agg #[.int .i64 1, .int .i64 i, .int .i64 s, .int .i64 a, .slice M m d]] w (PutQ w base B q it sz A x 1 i s a l) := by
  have hlen : l.length = m := by have := hl.len; simpa using this
  have hm := hl.small
  have hs0 : 1 ≤ s ∧ s ≤ 60000 ∧ (m : Int) ≤ s - a ∧ 1 ≤ m ∧ 1 ≤ i ∧ 1 ≤ a := by unfold okM at hok; omega
  have hb : Below w.heap.size w (w.alloc (.cells #[.int .i64 1, .int .i64 i, .int .i64 s, .int .i64 a, .slice M m d] 50)) := (Below.refl _ w).alloc (Nat.le_refl _) _
  have h0 := blk_cell (blk_below h hb) 0 _ rfl
  have hxn := held_len hx
  have HN := Lib.hid hlen; have HB := Lib.hid hb; have HH := Lib.hid h; have HL := Lib.hid hl; have HHX := Lib.hid hx; have HXN := Lib.hid hxn
  clear hlen hb h hl hx hxn
  have fin : ∀ W, Ch No w W → (it ≠ i ∨ sz ≠ s ∨ (n : Int) ≠ a) → PutQ w base B q it sz A x 1 i s a l (.returned (.tuple #[.slice none 0 0, .int .i64 9])) W := by
    intro W hW hne
    have hp : putS q it sz x 1 i s a l = ([], 9, it, sz, x) := by unfold putS; rw [if_neg (by rw [HN.out]; exact fun h => h ⟨hok, rfl⟩), if_neg ha, if_pos (by rw [HXN.out]; exact hne)]
    unfold PutQ
    rw [hp]
    exact ⟨none, A, 0, 0, n, c, rfl, blk_ch HH.out hW id, held_ch HHX.out hW (fun _ _ => id), held_nil _ _, hW.mono (fun _ _ h => h.elim), fun b hb => .inl hb, (fun b hb => by cases hb), .inl rfl⟩
  have FIN := Lib.hid fin; clear fin
  go_enter Try.func42, Try.ntmps42
  go_wp2_with fail
  refine (none_some B _ h0).mono ?_; rintro e w1 ⟨rfl, rfl⟩
  go_wp2_with fail
  refine (check_any 1 i s a M m d _ hm).mono ?_; rintro e w1 ⟨rfl, hb1⟩
  rw [chk_ok hok]
  have hB1 := HB.out.trans (hb1.mono HB.out.size)
  have hc := blk_below (blk_new w 50 #[.int .i64 1, .int .i64 i, .int .i64 s, .int .i64 a, .slice M m d]) hb1
  have hx := blk_below HH.out hB1
  have hne : w.heap.size ≠ B := by have := blk_lt HH.out; omega
  have hF1 : Ch No w w1 := Ch.of_below hB1 _
  have c0 : w1.cell? ⟨w.heap.size, 0, none⟩ = some (.int .i64 1) := blk_cell hc 0 _ rfl
  have c1 : w1.cell? ⟨w.heap.size, 1, none⟩ = some (.int .i64 i) := blk_cell hc 1 _ rfl
  have c2 : w1.cell? ⟨w.heap.size, 2, none⟩ = some (.int .i64 s) := blk_cell hc 2 _ rfl
  have c3 : w1.cell? ⟨w.heap.size, 3, none⟩ = some (.int .i64 a) := blk_cell hc 3 _ rfl
  have c4 : w1.cell? ⟨w.heap.size, 4, none⟩ = some (.slice M m d) := blk_cell hc 4 _ rfl
  have x2 : w1.cell? ⟨B, 2, none⟩ = some (.int .i64 it) := blk_cell hx 2 _ rfl
  have x3 : w1.cell? ⟨B, 3, none⟩ = some (.int .i64 sz) := blk_cell hx 3 _ rfl
  have x4 : w1.cell? ⟨B, 4, none⟩ = some (.slice A n c) := blk_cell hx 4 _ rfl
  have HC := Lib.hid hc; have HX := Lib.hid hx; have HF1 := Lib.hid hF1
  clear hc hx hB1 hb1 HB hF1
  have g0 : (a == 0) = false := by simpa using ha
  by_cases e1 : it = i
  case neg =>
    have g1 : (it != i) = true := by simpa using e1
    go_wp2
    go_quiet (fail)
    go_wp2
    go_ret2
    exact FIN.out _ (ch_thenno HF1.out (ch_drewN _ _ _)) (.inl e1)
  subst e1
  by_cases e2 : sz = s
  case neg =>
    have g2 : (sz != s) = true := by simpa using e2
    go_wp2
    go_quiet (fail)
    go_wp2
    go_ret2
    exact FIN.out _ (ch_thenno HF1.out (ch_drewN _ _ _)) (.inr (.inl e2))
  subst e2
  by_cases e3 : (n : Int) = a
  case neg =>
    have g3 : ((n : Int) != a) = true := by simpa using e3
    go_wp2
    go_quiet (fail)
    go_wp2
    go_ret2
    exact FIN.out _ (ch_thenno HF1.out (ch_drewN _ _ _)) (.inr (.inr e3))
  subst e3
  go_wp2
  go_quiet (fail)
  clear c0 c1 c2 c3 c4 x2 x3 x4 FIN h0
  rcases HHX.out with ⟨_, e, _⟩ | ⟨g, rfl, hby, hxl, hbg⟩
  · omega
  have hgB : g ≠ B := hA _ rfl
  have hglt := byt_lt hby
  have hD : ∀ S, Ch S w1 (w1.drewN nq) := fun S => ch_drewN S _ _
  have hc5 := blk_ch HC.out (hD No) id
  have hx5 := blk_ch HX.out (hD No) id
  have hF5 := ch_thenno HF1.out (hD No)
  have hy5 := byt_ch hby hF5 id
  have hr5 := HL.out.ch hF5 (fun _ _ => id)
  obtain ⟨w5, hw5⟩ : ∃ x, x = w1.drewN nq := ⟨_, rfl⟩
  rw [← hw5] at hc5 hx5 hy5 hr5 hF5 ⊢; clear hw5 hD
  have c4 : w5.cell? ⟨w.heap.size, 4, none⟩ = some (.slice M m d) := blk_cell hc5 4 _ rfl
  have x4 : w5.cell? ⟨B, 4, none⟩ = some (.slice (some ⟨g, 0, none⟩) n c) := blk_cell hx5 4 _ rfl
  have x3 : w5.cell? ⟨B, 3, none⟩ = some (.int .i64 sz) := blk_cell hx5 3 _ rfl
  have f4 := blk_thawed hx5 4
  have HX5 := Lib.hid hx5; have HY5 := Lib.hid hy5; have HC5 := Lib.hid hc5; have HF5 := Lib.hid hF5; have HR5 := Lib.hid hr5; have HXL := Lib.hid hxl
  clear hx5 hy5 hc5 hF5 hr5 HHX HX HC hby hxl
  go_wp2
  go_region_law ((refine step_app_b _ rfl (.tmp 84) (.tmp 86) 22 rfl 5 Try.underlying22 info5 g n c x (by simp [Act.eval, Act.put]) (byt_ch HY5.out (Ch.drew _ No) id) HXL.out M m d l (by simp [Act.eval, Act.put]) (HR5.out.ch (Ch.drew _ No) (fun _ _ => id)) (by omega) ?_; intro g' c' w6 hb6 hat6 hch6; have hx6 := blk_ch (blk_ch HX5.out (Ch.drew _ No) id) hch6 (Ne.symm hgB); have x4' := blk_cell hx6 4 _ rfl; have f4' := blk_thawed hx6 4))
  all_goals
    clear x4' f4' x3 x4 f4 c4
    have hge : g' = g ∨ w.heap.size ≤ g' := by
      have := HF5.out.size
      rcases hat6 with ⟨h, _⟩ | ⟨h, _⟩
      · exact .inl h
      · exact .inr (by rw [h]; exact this)
    have hgB6 : g' ≠ B := by
      have := blk_lt HH.out
      rcases hge with h | h
      · rw [h]; exact hgB
      · omega
    have hgb : base ≤ g' := by have := blk_lt HH.out; rcases hge with h | h <;> omega
    have hgf : ∀ b : Addr, some (⟨g', 0, none⟩ : Addr) = some b → some (⟨g, 0, none⟩ : Addr) = some b ∨ w.heap.size ≤ b.block := by
      intro b hb
      cases hb
      rcases hge with h | h
      · exact .inl (by rw [h])
      · exact .inr h
    have hx7 := blk_set hx6 4 (.slice (some ⟨g', 0, none⟩) (n + m) c')
    have hb7 : Byt (w6.setCell ⟨B, 4, none⟩ (.slice (some ⟨g', 0, none⟩) (n + m) c')) g' 5 c' (x ++ l) := byt_ch hb6 (Ch.setCell w6 ⟨B, 4, none⟩ _) hgB6
    have hF7 : Ch (fun j => j = B ∨ ∃ b, some (⟨g, 0, none⟩ : Addr) = some b ∧ j = b.block) w (w6.setCell ⟨B, 4, none⟩ (.slice (some ⟨g', 0, none⟩) (n + m) c')) := ch_set ((ch_thendrew (HF5.out.mono (S' := fun j => j = B ∨ ∃ b, some (⟨g, 0, none⟩ : Addr) = some b ∧ j = b.block) (fun _ _ h => h.elim))).trans hch6 (fun j hj => .inl (.inr ⟨_, rfl, hj⟩))) _ _ (.inl rfl)
    obtain ⟨w7, hw7⟩ : ∃ x, x = w6.setCell ⟨B, 4, none⟩ (.slice (some ⟨g', 0, none⟩) (n + m) c') := ⟨_, rfl⟩
    rw [← hw7] at hx7 hb7 hF7 ⊢; clear hw7
    have x3 : w7.cell? ⟨B, 3, none⟩ = some (.int .i64 sz) := blk_cell hx7 3 _ rfl
    have x4 : w7.cell? ⟨B, 4, none⟩ = some (.slice (some ⟨g', 0, none⟩) (n + m) c') := blk_cell hx7 4 _ rfl
    have hlx : (x ++ l).length = n + m := by rw [List.length_append, HXL.out, HN.out]
    have HX7 := Lib.hid hx7; have HB7 := Lib.hid hb7; have HF7 := Lib.hid hF7; have HGB := Lib.hid hgB6; have HLX := Lib.hid hlx; have HGF := Lib.hid hgf
    clear hx7 hb7 hF7 hat6 hx6 hb6 hch6 hgB6 hlx hge hgf
    by_cases hms : (n : Int) + m < sz
    · have hp : putS q it sz x 1 it sz n l = ([], 0, it, sz, x ++ l) := by unfold putS; rw [if_neg (by rw [HN.out]; exact fun h => h ⟨hok, rfl⟩), if_neg ha, if_neg (by rw [HXL.out]; simp), if_pos (by rw [HN.out, HXL.out]; exact hms)]
      have HP := Lib.hid hp; clear hp
      go_wp2
      go_quiet (fail)
      go_wp2
      go_ret2
      unfold PutQ
      rw [HP.out]
      have hd : ∀ S, Ch S w7 (w7.drewN nq) := fun S => ch_drewN S _ _
      exact ⟨none, some ⟨g', 0, none⟩, 0, 0, n + m, c', rfl, blk_ch HX7.out (hd No) id, .inr ⟨g', rfl, byt_ch HB7.out (hd No) id, HLX.out, hgb⟩, held_nil _ _, ch_thenno HF7.out (hd No), HGF.out, (fun b hb => by cases hb), .inl rfl⟩
    · have hp : putS q it sz x 1 it sz n l = (x ++ l, 0, 0, 0, []) := by unfold putS; rw [if_neg (by rw [HN.out]; exact fun h => h ⟨hok, rfl⟩), if_neg ha, if_neg (by rw [HXL.out]; simp), if_neg (by rw [HN.out, HXL.out]; exact hms)]
      have HP := Lib.hid hp; clear hp
      go_wp2
      go_quiet (fail)
      have hd : ∀ S, Ch S w7 (w7.drewN nq) := fun S => ch_drewN S _ _
      have hx8 := blk_ch HX7.out (hd No) id
      have hb8 := byt_ch HB7.out (hd No) id
      have hF8 := ch_thenno HF7.out (hd No)
      obtain ⟨w8, hw8⟩ : ∃ x, x = w7.drewN nq := ⟨_, rfl⟩
      rw [← hw8] at hx8 hb8 hF8 ⊢; clear hw8 hd x3 x4
      have x4 : w8.cell? ⟨B, 4, none⟩ = some (.slice (some ⟨g', 0, none⟩) (n + m) c') := blk_cell hx8 4 _ rfl
      have HX8 := Lib.hid hx8; have HB8 := Lib.hid hb8; have HF8 := Lib.hid hF8
      clear hx8 hb8 hF8
      go_wp2_with fail
      refine (drop_any HX8.out).mono ?_; rintro e w9 ⟨rfl, hx9, hch9⟩
      have HX9 := Lib.hid hx9; have HCH9 := Lib.hid hch9; clear hx9 hch9
      go_wp2
      go_ret2
      unfold PutQ
      rw [HP.out]
      exact ⟨some ⟨g', 0, none⟩, none, n + m, c', 0, 0, rfl, HX9.out, held_nil _ _, .inr ⟨g', rfl, byt_ch HB8.out HCH9.out HGB.out, HLX.out, hgb⟩, HF8.out.trans HCH9.out (fun j hj => .inl (.inl hj)), (fun b hb => by cases hb), HGF.out, .inr rfl⟩

theorem put_any {base B : Nat} {q it sz : Int} {A : Option Addr} {n c : Nat} {x : List UInt8} {w : World} (h : BoxC w B q it sz A n c) (hbB : base ≤ B) (hx : Held w base A n c x) (hA : ∀ b, A = some b → b.block ≠ B)
    (k i s a : Int) (M : Option Addr) (m d : Nat) (l : List UInt8) (hl : Rd w M m d 1 (u8s l)) (hM : ∀ b, M = some b → b.block ≠ B) :
    Calls Try.prog 42 #[.pointer (some ⟨B, 0, none⟩), .agg #[.int .i64 k, .int .i64 i, .int .i64 s, .int .i64 a, .slice M m d]] w (PutQ w base B q it sz A x k i s a l) := by
  by_cases hok : okM k i s a m ∧ k = 1
  · obtain ⟨hok, rfl⟩ := hok
    by_cases ha : a = 0
    · subst ha
      obtain ⟨sn, rfl⟩ : ∃ sn : Nat, s = sn := ⟨s.toNat, by unfold okM at hok; omega⟩
      exact put_first h hbB i sn M m d l hl hM hok
    · exact put_next h hbB hx hA i s a M m d l hl hM hok ha
  · exact put_bad h hx k i s a M m d l hl.small (by have := hl.len; simpa using this) hok

end Go.Proofs.Ytnlninmjmjffcaa
