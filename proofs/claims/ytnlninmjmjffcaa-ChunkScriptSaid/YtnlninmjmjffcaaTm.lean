/- Walks: Put of chunk's box. Conditions: the box is as New makes it (made), and its bytes are its own. -/
import Derived.Test.YtnlninmjmjffcaaTl
import Derived.StillTailTactics
import Derived.Deep.QuietTactic
import Derived.BigQuiet
import Derived.Deep.RegionHeld3
import Derived.Deep.RegionLaw
import Derived.Test.YtnlninmjmjffcaaLib3
namespace Go.Proofs.Ytnlninmjmjffcaa
open Go.RowKit
set_option linter.unusedVariables false
set_option linter.unusedSimpArgs false

/-- a slice of bytes that the call has made, or nil -/
def Held (w : World) (base : Nat) (A : Option Addr) (n c : Nat) (x : List UInt8) : Prop :=
  (A = none ∧ n = 0 ∧ c = 0 ∧ x = []) ∨ ∃ g, A = some ⟨g, 0, none⟩ ∧ Byt w g 5 c x ∧ x.length = n ∧ base ≤ g
theorem held_ch {S : Nat → Prop} {w w' : World} {base : Nat} {A : Option Addr} {n c : Nat} {x : List UInt8} (h : Held w base A n c x) (hc : Ch S w w') (hS : ∀ a, A = some a → ¬ S a.block) : Held w' base A n c x := by
  rcases h with h | ⟨g, rfl, hb, hn, hg⟩
  · exact .inl h
  · exact .inr ⟨g, rfl, byt_ch hb hc (hS _ rfl), hn, hg⟩
theorem held_len {w : World} {base : Nat} {A : Option Addr} {n c : Nat} {x : List UInt8} (h : Held w base A n c x) : x.length = n := by
  rcases h with ⟨_, rfl, _, rfl⟩ | ⟨g, rfl, hb, hn, hg⟩
  · rfl
  · exact hn
theorem held_nil (w : World) (base : Nat) : Held w base none 0 0 [] := .inl ⟨rfl, rfl, rfl, rfl⟩

/-- what Put answers, and what the box is then: the bytes told, the fault, the item, the size, what came -/
def putS (q it sz : Int) (x : List UInt8) (k i s a : Int) (l : List UInt8) : List UInt8 × Int × Int × Int × List UInt8 :=
  if ¬ (okM k i s a l.length ∧ k = 1) then ([], 2, it, sz, x)
  else if a = 0 then
    if q < s then ([], 8, 0, 0, [])
    else if (l.length : Int) < s then ([], 0, i, s, l) else (l, 0, 0, 0, [])
  else if it ≠ i ∨ sz ≠ s ∨ (x.length : Int) ≠ a then ([], 9, it, sz, x)
  else if (x.length : Int) + l.length < sz then ([], 0, it, sz, x ++ l) else (x ++ l, 0, 0, 0, [])

def PutQ (w : World) (base B : Nat) (q it sz : Int) (A : Option Addr) (x : List UInt8) (k i s a : Int) (l : List UInt8) (e : Ending) (w' : World) : Prop :=
  ∃ (R A' : Option Addr) (m d n' c' : Nat), e = .returned (.tuple #[.slice R m d, .int .i64 (putS q it sz x k i s a l).2.1]) ∧
    BoxC w' B q (putS q it sz x k i s a l).2.2.1 (putS q it sz x k i s a l).2.2.2.1 A' n' c' ∧ Held w' base A' n' c' (putS q it sz x k i s a l).2.2.2.2 ∧ Held w' base R m d (putS q it sz x k i s a l).1 ∧
    Ch (fun j => j = B ∨ ∃ b, A = some b ∧ j = b.block) w w' ∧ (∀ b, A' = some b → A = some b ∨ w.heap.size ≤ b.block) ∧ (∀ b, R = some b → A = some b ∨ w.heap.size ≤ b.block) ∧ (R = none ∨ A' = none)

set_option maxRecDepth 100000 in
set_option maxHeartbeats 1000000 in
theorem put_bad {base B : Nat} {q it sz : Int} {A : Option Addr} {n c : Nat} {x : List UInt8} {w : World} (h : BoxC w B q it sz A n c) (hx : Held w base A n c x)
    (k i s a : Int) (M : Option Addr) (m d : Nat) (l : List UInt8) (hm : m ≤ 9223372036854775807) (hl : l.length = m) (hbad : ¬ (okM k i s a m ∧ k = 1)) :
    Calls Try.prog 42 #[.pointer (some ⟨B, 0, none⟩), .agg #[.int .i64 k, .int .i64 i, .int .i64 s, .int .i64 a, .slice M m d]] w (PutQ w base B q it sz A x k i s a l) := by
  have hp : putS q it sz x k i s a l = ([], 2, it, sz, x) := by unfold putS; rw [if_pos (by rw [hl]; exact hbad)]
  have hb : Below w.heap.size w (w.alloc (.cells #[.int .i64 k, .int .i64 i, .int .i64 s, .int .i64 a, .slice M m d] 50)) := (Below.refl _ w).alloc (Nat.le_refl _) _
  have h0 := blk_cell (blk_below h hb) 0 _ rfl
  have HP := Lib.hid hp; have HB := Lib.hid hb; have HH := Lib.hid h; have HX := Lib.hid hx; have HL := Lib.hid hl
  clear hp hb h hx hl
  have fin : ∀ W, Below w.heap.size w W → PutQ w base B q it sz A x k i s a l (.returned (.tuple #[.slice none 0 0, .int .i64 2])) W := by
    intro W hW
    unfold PutQ
    rw [HP.out]
    exact ⟨none, A, 0, 0, n, c, rfl, blk_below HH.out hW, held_ch HX.out (Ch.of_below hW No) (fun _ _ => id), held_nil _ _, Ch.of_below hW _, fun b hb => .inl hb, (fun b hb => by cases hb), .inl rfl⟩
  have FIN := Lib.hid fin; clear fin
  by_cases hok : okM k i s a m
  · have hk : k ≠ 1 := fun e => hbad ⟨hok, e⟩
    go_enter Try.func42, Try.ntmps42
    go_wp2_with fail
    refine (none_some B _ h0).mono ?_; rintro e w1 ⟨rfl, rfl⟩
    go_wp2_with fail
    refine (check_any k i s a M m d _ hm).mono ?_; rintro e w1 ⟨rfl, hb1⟩
    rw [chk_ok hok]
    have c0 := blk_cell (blk_below (blk_new w 50 #[.int .i64 k, .int .i64 i, .int .i64 s, .int .i64 a, .slice M m d]) hb1) 0 _ rfl
    go_wp2
    go_ret2
    exact FIN.out _ (HB.out.trans (hb1.mono HB.out.size))
  · go_enter Try.func42, Try.ntmps42
    go_wp2_with fail
    refine (none_some B _ h0).mono ?_; rintro e w1 ⟨rfl, rfl⟩
    go_wp2_with fail
    refine (check_any k i s a M m d _ hm).mono ?_; rintro e w1 ⟨rfl, hb1⟩
    rw [chk_no hok]
    go_wp2
    go_ret2
    exact FIN.out _ (HB.out.trans (hb1.mono HB.out.size))

set_option maxRecDepth 100000 in
set_option maxHeartbeats 4000000 in
theorem put_first {base B : Nat} {q it sz : Int} {A : Option Addr} {n c : Nat} {x : List UInt8} {w : World} (h : BoxC w B q it sz A n c) (hbB : base ≤ B)
    (i : Int) (s : Nat) (M : Option Addr) (m d : Nat) (l : List UInt8) (hl : Rd w M m d 1 (u8s l)) (hM : ∀ b, M = some b → b.block ≠ B) (hok : okM 1 i s 0 m) :
    Calls Try.prog 42 #[.pointer (some ⟨B, 0, none⟩), .agg #[.int .i64 1, .int .i64 i, .int .i64 s, .int .i64 0, .slice M m d]] w (PutQ w base B q it sz A x 1 i s 0 l) := by
  have hlen : l.length = m := by have := hl.len; simpa using this
  have hm := hl.small
  have hs0 : 1 ≤ s ∧ s ≤ 60000 ∧ m ≤ s ∧ 1 ≤ m ∧ 1 ≤ i := by unfold okM at hok; omega
  have hb : Below w.heap.size w (w.alloc (.cells #[.int .i64 1, .int .i64 i, .int .i64 s, .int .i64 0, .slice M m d] 50)) := (Below.refl _ w).alloc (Nat.le_refl _) _
  have h0 := blk_cell (blk_below h hb) 0 _ rfl
  have HN := Lib.hid hlen; have HB := Lib.hid hb; have HH := Lib.hid h; have HL := Lib.hid hl
  clear hlen hb h hl
  go_enter Try.func42, Try.ntmps42
  go_wp2_with fail
  refine (none_some B _ h0).mono ?_; rintro e w1 ⟨rfl, rfl⟩
  go_wp2_with fail
  refine (check_any 1 i s 0 M m d _ hm).mono ?_; rintro e w1 ⟨rfl, hb1⟩
  rw [chk_ok hok]
  have hB1 := HB.out.trans (hb1.mono HB.out.size)
  have hc := blk_below (blk_new w 50 #[.int .i64 1, .int .i64 i, .int .i64 s, .int .i64 0, .slice M m d]) hb1
  have hx := blk_below HH.out hB1
  have c0 := blk_cell hc 0 _ rfl
  have c3 := blk_cell hc 3 _ rfl
  have HC := Lib.hid hc; have HX := Lib.hid hx; have HB1 := Lib.hid hB1
  clear hc hx hB1 hb1 HB
  go_wp2_with fail
  refine (drop_any HX.out).mono ?_; rintro e w2 ⟨rfl, hx2, hch⟩
  have hc2 := blk_ch HC.out hch (fun e => by have := blk_lt HH.out; omega)
  have c0 := blk_cell hc2 0 _ rfl
  have c1 := blk_cell hc2 1 _ rfl
  have c2 := blk_cell hc2 2 _ rfl
  have c3 := blk_cell hc2 3 _ rfl
  have c4 := blk_cell hc2 4 _ rfl
  have x1 := blk_cell hx2 1 _ rfl
  have HC := Lib.hid hc2; have HX := Lib.hid hx2; have HCH := Lib.hid hch
  clear hc2 hx2 hch
  have hFC : Ch (fun j => j = B) w w2 := (Ch.of_below HB1.out _).trans HCH.out (fun j hj => .inl hj)
  have HFC := Lib.hid hFC; clear hFC HCH HB1
  by_cases hqs : q < s
  · have hp : putS q it sz x 1 i s 0 l = ([], 8, 0, 0, []) := by unfold putS; rw [if_neg (by rw [HN.out]; exact fun h => h ⟨hok, rfl⟩), if_pos rfl, if_pos hqs]
    have HP := Lib.hid hp; clear hp
    go_wp2
    go_quiet (fail)
    go_wp2
    go_ret2
    unfold PutQ
    rw [HP.out]
    exact ⟨none, none, 0, 0, 0, 0, rfl, blk_ch HX.out (ch_drewN No _ _) id, held_nil _ _, held_nil _ _, (HFC.out.trans (ch_drewN No _ _) (fun _ h => h.elim)).mono (fun j _ hj => .inl hj), (fun b hb => by cases hb), (fun b hb => by cases hb), .inl rfl⟩
  · have HQS := Lib.hid hqs
    go_wp2
    go_quiet (fail)
    have hC3 : Ch No w2 (w2.drewN nq) := ch_drewN _ _ _
    obtain ⟨w3, hw3⟩ : ∃ x, x = w2.drewN nq := ⟨_, rfl⟩
    rw [← hw3] at hC3 ⊢; clear hw3 c0 c1 c2 c3 c4 x1
    have hmk : ∀ W, (Instr.makeSlice 22 (.int .i64 (s : Int)) (.int .i64 (s : Int))).run Try.prog W = .ok (.slice (some ⟨W.heap.size, 0, none⟩) s s) (W.alloc (.cells (madeB s) 5)) := run_madeB 22 5 Try.underlying22 info5 s (by omega)
    have hc4 := blk_ch HC.out hC3 id
    have c2 := blk_cell hc4 2 _ rfl
    go_wp2
    have hC4 : Ch No w3 (w3.alloc (.cells (madeB s) 5)) := Ch.alloc _ _ _
    have HY := Lib.hid (byt_nil (byt_made w3 5 s (by omega)))
    obtain ⟨w4, hw4⟩ : ∃ x, x = w3.alloc (.cells (madeB s) 5) := ⟨_, rfl⟩
    rw [← hw4] at hC4 HY ⊢; clear hw4 c2 hmk
    have hc := blk_ch hc4 hC4 id
    have hx := blk_ch (blk_ch HX.out hC3 id) hC4 id
    have c1 : w4.cell? ⟨w.heap.size, 1, none⟩ = some (.int .i64 i) := blk_cell hc 1 _ rfl
    have c2 : w4.cell? ⟨w.heap.size, 2, none⟩ = some (.int .i64 (s : Int)) := blk_cell hc 2 _ rfl
    have x2 : w4.cell? ⟨B, 2, none⟩ = some (.int .i64 0) := blk_cell hx 2 _ rfl
    have x3 : w4.cell? ⟨B, 3, none⟩ = some (.int .i64 0) := blk_cell hx 3 _ rfl
    have x4 : w4.cell? ⟨B, 4, none⟩ = some (.slice none 0 0) := blk_cell hx 4 _ rfl
    have f2 := blk_thawed hx 2
    have f3 := blk_thawed hx 3
    have f4 := blk_thawed hx 4
    have HC4 := Lib.hid hc; have HX4 := Lib.hid hx
    have HFC4 := Lib.hid ((HFC.out.trans hC3 (fun _ h => h.elim)).trans hC4 (fun _ h => h.elim))
    have hne : w.heap.size ≠ B := by have := blk_lt HH.out; omega
    have hsz : w.heap.size < w3.heap.size := blk_lt hc4
    clear hc hx hc4 hC3 hC4 HX HC HFC
    have hfar : ∀ (W : World) (v : Value) (j l : Nat), (W.setCell ⟨B, j, none⟩ v).cell? ⟨w.heap.size, l, none⟩ = W.cell? ⟨w.heap.size, l, none⟩ := fun W v j l => cell_far W ⟨B, j, none⟩ ⟨w.heap.size, l, none⟩ v hne
    have HFAR := Lib.hid hfar; clear hfar
    go_region_held3 (fun w' => w'.cell? ⟨w.heap.size, 1, none⟩ = some (.int .i64 i) ∧ w'.cell? ⟨w.heap.size, 2, none⟩ = some (.int .i64 (s : Int))) (simp [HFAR.out, c1, c2]) (fail)
    clear c1 c2 x2 x3 x4 f2 f3 f4
    have hC5 : Ch (fun j => j = B) w4 ((((w4.setCell ⟨B, 2, none⟩ (.int .i64 i)).setCell ⟨B, 3, none⟩ (.int .i64 (s : Int))).setCell ⟨B, 4, none⟩ (.slice (some ⟨w3.heap.size, 0, none⟩) 0 s)).drew) := ch_thendrew (ch_one (ch_one (ch_one (Ch.refl _ _) 2 _) 3 _) 4 _)
    have hx5 : Blk ((((w4.setCell ⟨B, 2, none⟩ (.int .i64 i)).setCell ⟨B, 3, none⟩ (.int .i64 (s : Int))).setCell ⟨B, 4, none⟩ (.slice (some ⟨w3.heap.size, 0, none⟩) 0 s)).drew) B 68 #[.bool true, .int .i64 q, .int .i64 i, .int .i64 (s : Int), .slice (some ⟨w3.heap.size, 0, none⟩) 0 s] := blk_ch (blk_set (blk_set (blk_set HX4.out 2 _) 3 _) 4 _) (Ch.drew _ No) id
    obtain ⟨w5, hw5⟩ : ∃ x, x = (((w4.setCell ⟨B, 2, none⟩ (.int .i64 i)).setCell ⟨B, 3, none⟩ (.int .i64 (s : Int))).setCell ⟨B, 4, none⟩ (.slice (some ⟨w3.heap.size, 0, none⟩) 0 s)).drew := ⟨_, rfl⟩
    rw [← hw5] at hC5 hx5 ⊢; clear hw5
    rename_i hS5; clear hS5
    have hgB : w3.heap.size ≠ B := by have := blk_lt HH.out; omega
    have hy5 := byt_ch HY.out hC5 hgB
    have hc5 := blk_ch HC4.out hC5 hne
    have hF5 := HFC4.out.trans hC5 (fun _ h => .inl h)
    have hr5 := HL.out.keep (fun b hb hlt => hF5.block b.block hlt (hM b hb))
    have c4 : w5.cell? ⟨w.heap.size, 4, none⟩ = some (.slice M m d) := blk_cell hc5 4 _ rfl
    have x4 : w5.cell? ⟨B, 4, none⟩ = some (.slice (some ⟨w3.heap.size, 0, none⟩) 0 s) := blk_cell hx5 4 _ rfl
    have x3 : w5.cell? ⟨B, 3, none⟩ = some (.int .i64 (s : Int)) := blk_cell hx5 3 _ rfl
    have f4 := blk_thawed hx5 4
    have HC5 := Lib.hid hC5; have HX5 := Lib.hid hx5; have HY5 := Lib.hid hy5; have HC5 := Lib.hid hc5; have HF5 := Lib.hid hF5; have HR5 := Lib.hid hr5
    clear hC5 hx5 hy5 hc5 hF5 hr5
    go_wp2
    go_region_law ((refine step_app_b _ rfl (.tmp 84) (.tmp 86) 22 rfl 5 Try.underlying22 info5 w3.heap.size 0 s [] (by simp [Act.eval, Act.put]) (byt_ch HY5.out (Ch.drew _ No) id) rfl M m d l (by simp [Act.eval, Act.put]) (HR5.out.ch (Ch.drew _ No) (fun _ _ => id)) (by omega) ?_; intro g' c' w6 hb6 hat6 hch6; have hx6 := blk_ch (blk_ch HX5.out (Ch.drew _ No) id) hch6 (Ne.symm hgB); have x4' := blk_cell hx6 4 _ rfl; have f4' := blk_thawed hx6 4))
    all_goals
      clear x4' f4' x3 x4 f4 c4
      have hge : w.heap.size ≤ g' := by have := HF5.out.size; rcases hat6 with ⟨h, _⟩ | ⟨h, _⟩ <;> (try simp at h) <;> omega
      have hgB6 : g' ≠ B := by have := blk_lt HH.out; omega
      have hx7 := blk_set hx6 4 (.slice (some ⟨g', 0, none⟩) m c')
      have hb7 : Byt (w6.setCell ⟨B, 4, none⟩ (.slice (some ⟨g', 0, none⟩) m c')) g' 5 c' l := byt_ch hb6 (Ch.setCell w6 ⟨B, 4, none⟩ _) hgB6
      have hF7 : Ch (fun j => j = B) w (w6.setCell ⟨B, 4, none⟩ (.slice (some ⟨g', 0, none⟩) m c')) := ch_one ((ch_thendrew HF5.out).trans hch6 (fun j hj => .inr (by omega))) 4 _
      obtain ⟨w7, hw7⟩ : ∃ x, x = w6.setCell ⟨B, 4, none⟩ (.slice (some ⟨g', 0, none⟩) m c') := ⟨_, rfl⟩
      rw [← hw7] at hx7 hb7 hF7 ⊢; clear hw7
      have x3 : w7.cell? ⟨B, 3, none⟩ = some (.int .i64 (s : Int)) := blk_cell hx7 3 _ rfl
      have x4 : w7.cell? ⟨B, 4, none⟩ = some (.slice (some ⟨g', 0, none⟩) m c') := blk_cell hx7 4 _ rfl
      have HX7 := Lib.hid hx7; have HB7 := Lib.hid hb7; have HF7 := Lib.hid hF7; have HAT := Lib.hid hat6; have HGB := Lib.hid hgB6
      clear hx7 hb7 hF7 hat6 hx6 hb6 hch6 hgB6
      by_cases hms : m < s
      · have hp : putS q it sz x 1 i s 0 l = ([], 0, i, (s : Int), l) := by unfold putS; rw [if_neg (by rw [HN.out]; exact fun h => h ⟨hok, rfl⟩), if_pos rfl, if_neg (by have := HQS.out; omega), if_pos (by rw [HN.out]; omega)]
        have HP := Lib.hid hp; clear hp
        go_wp2
        go_quiet (fail)
        go_wp2
        go_ret2
        unfold PutQ
        rw [HP.out]
        have hd : ∀ S, Ch S w7 (w7.drewN nq) := fun S => ch_drewN S _ _
        exact ⟨none, some ⟨g', 0, none⟩, 0, 0, m, c', rfl, blk_ch HX7.out (hd No) id, .inr ⟨g', rfl, byt_ch HB7.out (hd No) id, HN.out, by have := blk_lt HH.out; omega⟩, held_nil _ _, (ch_thenno HF7.out (hd No)).mono (fun j _ hj => .inl hj), (fun b hb => by cases hb; exact .inr hge), (fun b hb => by cases hb), .inl rfl⟩
      · have hp : putS q it sz x 1 i s 0 l = (l, 0, 0, 0, []) := by unfold putS; rw [if_neg (by rw [HN.out]; exact fun h => h ⟨hok, rfl⟩), if_pos rfl, if_neg (by have := HQS.out; omega), if_neg (by rw [HN.out]; omega)]
        have HP := Lib.hid hp; clear hp
        go_wp2
        go_quiet (fail)
        have hd : ∀ S, Ch S w7 (w7.drewN nq) := fun S => ch_drewN S _ _
        have hx8 := blk_ch HX7.out (hd No) id
        have hb8 := byt_ch HB7.out (hd No) id
        have hF8 := ch_thenno HF7.out (hd No)
        obtain ⟨w8, hw8⟩ : ∃ x, x = w7.drewN nq := ⟨_, rfl⟩
        rw [← hw8] at hx8 hb8 hF8 ⊢; clear hw8 hd x3 x4
        have x4 : w8.cell? ⟨B, 4, none⟩ = some (.slice (some ⟨g', 0, none⟩) m c') := blk_cell hx8 4 _ rfl
        have HX8 := Lib.hid hx8; have HB8 := Lib.hid hb8; have HF8 := Lib.hid hF8
        clear hx8 hb8 hF8
        go_wp2_with fail
        refine (drop_any HX8.out).mono ?_; rintro e w9 ⟨rfl, hx9, hch9⟩
        have HX9 := Lib.hid hx9; have HCH9 := Lib.hid hch9; clear hx9 hch9
        go_wp2
        go_ret2
        unfold PutQ
        rw [HP.out]
        exact ⟨some ⟨g', 0, none⟩, none, m, c', 0, 0, rfl, HX9.out, held_nil _ _, .inr ⟨g', rfl, byt_ch HB8.out HCH9.out HGB.out, HN.out, by have := blk_lt HH.out; omega⟩, (HF8.out.trans HCH9.out (fun j hj => .inl hj)).mono (fun j _ hj => .inl hj), (fun b hb => by cases hb), (fun b hb => by cases hb; exact .inr hge), .inr rfl⟩

end Go.Proofs.Ytnlninmjmjffcaa
