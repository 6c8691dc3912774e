/- Walks: writers and readers that are none. Conditions: what is handed in is small. -/
import Derived.Test.YtondodhpmghogaaL6
namespace Go.Proofs.Ytondodhpmghogaa
open Go.RowKit
set_option linter.unusedVariables false
set_option linter.unusedSimpArgs false

/-- no writer, no reader: nil, or one that was not made -/
def NoW (w : World) (p : Option Addr) : Prop := p = none ∨ ∃ B, p = some ⟨B, 0, none⟩ ∧ w.cell? ⟨B, 0, none⟩ = some (.bool false)
theorem noW_below {w w' : World} {p : Option Addr} (h : NoW w p) (hb : Below w.heap.size w w') : NoW w' p := h.imp id fun ⟨B, h1, h2⟩ => ⟨B, h1, below_cell hb h2⟩
theorem noW_drewN {w : World} {p : Option Addr} (h : NoW w p) (k : Nat) : NoW (w.drewN k) p := h.imp id fun ⟨B, h1, h2⟩ => ⟨B, h1, h2⟩
theorem noW_drew {w : World} {p : Option Addr} (h : NoW w p) : NoW w.drew p := h.imp id fun ⟨B, h1, h2⟩ => ⟨B, h1, h2⟩
set_option maxRecDepth 100000 in
set_option maxHeartbeats 2000000 in
theorem put_no {w : World} {p : Option Addr} (h : NoW w p) (v : Value) : Calls Try.prog 75 #[.pointer p, v] w fun e w' => e = .returned (.tuple #[]) ∧ w' = w := by
  rcases h with rfl | ⟨B, rfl, c0⟩
  · go_enter Try.func75, Try.ntmps75
    go_wp2
    exact bodyPost_ret (results_none rfl _ _ _) rfl ⟨rfl, rfl⟩
  · go_enter Try.func75, Try.ntmps75
    go_wp2
    exact bodyPost_ret (results_none rfl _ _ _) rfl ⟨rfl, rfl⟩
set_option maxRecDepth 100000 in
set_option maxHeartbeats 2000000 in
theorem wnum_no {w : World} {p : Option Addr} (h : NoW w p) (n : Int) : Calls Try.prog 60 #[.pointer p, .int .i64 n] w fun e w' => e = .returned (.tuple #[]) ∧ w' = w := by
  rcases h with rfl | ⟨B, rfl, c0⟩
  · go_enter Try.func60, Try.ntmps60
    go_wp2
    exact bodyPost_ret (results_none rfl _ _ _) rfl ⟨rfl, rfl⟩
  · go_enter Try.func60, Try.ntmps60
    go_wp2
    exact bodyPost_ret (results_none rfl _ _ _) rfl ⟨rfl, rfl⟩
set_option maxRecDepth 100000 in
set_option maxHeartbeats 2000000 in
theorem wout_no {w : World} {p : Option Addr} (h : NoW w p)  : Calls Try.prog 19 #[.pointer p] w fun e w' => e = .returned (.tuple #[.slice none 0 0, .int .i64 1]) ∧ w' = w := by
  rcases h with rfl | ⟨B, rfl, c0⟩
  · go_enter Try.func19, Try.ntmps19
    go_wp2
    go_ret2
    exact ⟨rfl, rfl⟩
  · go_enter Try.func19, Try.ntmps19
    go_wp2
    go_ret2
    exact ⟨rfl, rfl⟩
set_option maxRecDepth 100000 in
set_option maxHeartbeats 2000000 in
theorem wraw_no {w : World} {p : Option Addr} (h : NoW w p) (A : Option Addr) (n c : Nat) (hn : n ≤ 100000000) : Calls Try.prog 62 #[.pointer p, .slice A n c] w fun e w' => e = .returned (.tuple #[]) ∧ Below w.heap.size w w' := by
  have hmf : ∀ (fn : Fn) (first cap : Array Value) (w : World), (Instr.makeFunc fn first cap).run Try.prog w = .ok (.func fn first cap) w := fun _ _ _ _ => rfl
  have H := Lib.hid h
  clear h
  go_enter Try.func62, Try.ntmps62
  go_wp2_with (go_at_call 76; refine (form_any n (by omega) _).mono ?_; rintro e w1 ⟨g, c', rfl, hg, hc', hrow, hbel⟩)
  have hb := hbel.alloc hbel.size (.cells #[.slice (some ⟨g, 0, none⟩) (frm n).length c', .slice A n c] 26)
  refine (put_no (noW_below H.out hb) _).mono ?_
  rintro e w2 ⟨rfl, rfl⟩
  go_wp2
  exact bodyPost_end (results_none rfl _ _ _) rfl ⟨rfl, hb⟩
set_option maxRecDepth 100000 in
set_option maxHeartbeats 2000000 in
theorem wtext_no {w : World} {p : Option Addr} (h : NoW w p) (s : ByteArray) (hn : s.size ≤ 100000000) : Calls Try.prog 61 #[.pointer p, .string s] w fun e w' => e = .returned (.tuple #[]) ∧ Below w.heap.size w w' := by
  have H := Lib.hid h
  obtain ⟨c, w1, hcv, hrd, hbel⟩ := conv_bytes (P := Try.prog) w 9 26 5 s Try.underlying9 Try.underlying26 Try.underlying5 (by omega)
  have HBel := Lib.hid hbel
  clear hrd hbel h
  go_enter Try.func61, Try.ntmps61
  go_wp2_with fail
  refine (wraw_no (noW_below H.out HBel.out) _ _ _ hn).mono ?_
  rintro e w2 ⟨rfl, hb⟩
  go_wp2
  exact bodyPost_end (results_none rfl _ _ _) rfl ⟨rfl, HBel.out.trans (hb.mono HBel.out.size)⟩
set_option maxRecDepth 100000 in
set_option maxHeartbeats 2000000 in
theorem none_no {w : World} {p : Option Addr} (h : NoW w p)  : Calls Try.prog 71 #[.pointer p] w fun e w' => e = .returned (.bool true) ∧ w' = w := by
  rcases h with rfl | ⟨B, rfl, c0⟩
  · go_enter Try.func71, Try.ntmps71
    go_wp2
    go_ret
    exact ⟨rfl, rfl⟩
  · go_enter Try.func71, Try.ntmps71
    go_wp2
    go_ret
    exact ⟨rfl, rfl⟩
set_option maxRecDepth 100000 in
set_option maxHeartbeats 2000000 in
theorem num_no {w : World} {p : Option Addr} (h : NoW w p) (lo hi : Int) : Calls Try.prog 37 #[.pointer p, .int .i64 lo, .int .i64 hi] w fun e w' => e = .returned (.int .i64 0) ∧ w' = w := by
  have H := Lib.hid h
  clear h
  go_enter Try.func37, Try.ntmps37
  go_wp2_with fail
  refine wp_scope_fwd 0 rfl ?_
  go_wp2_with (go_at_call 71; refine (none_no H.out).mono ?_; rintro e w1 ⟨rfl, rfl⟩)
  simp only [Exit.jump]
  go_ret
  exact ⟨rfl, rfl⟩
set_option maxRecDepth 100000 in
set_option maxHeartbeats 2000000 in
theorem raw_no {w : World} {p : Option Addr} (h : NoW w p) (m : Int) : Calls Try.prog 39 #[.pointer p, .int .i64 m] w fun e w' => e = .returned (.slice none 0 0) ∧ w' = w := by
  have H := Lib.hid h
  clear h
  go_enter Try.func39, Try.ntmps39
  go_wp2_with (go_at_call 71; refine (none_no H.out).mono ?_; rintro e w1 ⟨rfl, rfl⟩)
  go_ret
  exact ⟨rfl, rfl⟩
set_option maxRecDepth 100000 in
set_option maxHeartbeats 2000000 in
theorem text_no {w : World} {p : Option Addr} (h : NoW w p) (m : Int) : Calls Try.prog 38 #[.pointer p, .int .i64 m] w fun e w' => e = .returned (.string ⟨#[]⟩) ∧ w' = w := by
  have H := Lib.hid h
  clear h
  go_enter Try.func38, Try.ntmps38
  go_wp2_with fail
  refine (raw_no H.out m).mono ?_
  rintro e w1 ⟨rfl, rfl⟩
  have e1 := (nil_rd w1 1).str (P := Try.prog) (l := []) 26 5 9 Try.underlying26 Try.underlying5 Try.underlying9
  go_wp2
  go_ret
  exact ⟨rfl, rfl⟩
set_option maxRecDepth 100000 in
set_option maxHeartbeats 2000000 in
theorem at_no {w : World} {p : Option Addr} (h : NoW w p)  : Calls Try.prog 30 #[.pointer p] w fun e w' => e = .returned (.int .i64 0) ∧ w' = w := by
  have H := Lib.hid h
  clear h
  go_enter Try.func30, Try.ntmps30
  go_wp2_with (go_at_call 71; refine (none_no H.out).mono ?_; rintro e w1 ⟨rfl, rfl⟩)
  go_ret
  exact ⟨rfl, rfl⟩
set_option maxRecDepth 100000 in
set_option maxHeartbeats 2000000 in
theorem left_no {w : World} {p : Option Addr} (h : NoW w p)  : Calls Try.prog 31 #[.pointer p] w fun e w' => e = .returned (.int .i64 0) ∧ w' = w := by
  have H := Lib.hid h
  clear h
  go_enter Try.func31, Try.ntmps31
  go_wp2_with (go_at_call 71; refine (none_no H.out).mono ?_; rintro e w1 ⟨rfl, rfl⟩)
  go_ret
  exact ⟨rfl, rfl⟩
set_option maxRecDepth 100000 in
set_option maxHeartbeats 2000000 in
theorem fault_no {w : World} {p : Option Addr} (h : NoW w p)  : Calls Try.prog 33 #[.pointer p] w fun e w' => e = .returned (.agg #[.int .i64 1, .int .i64 0]) ∧ Below w.heap.size w w' := by
  have H := Lib.hid h
  clear h
  have hb := box_below w (.cells #[.int .i64 0, .int .i64 0] 54)
  have HN := Lib.hid (noW_below H.out hb)
  clear hb
  go_enter Try.func33, Try.ntmps33
  go_wp2_with fail
  refine (none_no HN.out).mono ?_
  rintro e w1 ⟨rfl, rfl⟩
  go_wp2
  exact bodyPost_ret (results_cell_row rfl _ _ w.heap.size 54 _ (0, 0) _ rfl (heap_alloc_new w _) Try.underlying54 rfl (by kernel_rfl)) rfl ⟨rfl, box_below w _⟩
set_option maxRecDepth 100000 in
set_option maxHeartbeats 2000000 in
theorem end_no {w : World} {p : Option Addr} (h : NoW w p)  : Calls Try.prog 34 #[.pointer p] w fun e w' => e = .returned (.agg #[.int .i64 1, .int .i64 0]) ∧ Below w.heap.size w w' := by
  have H := Lib.hid h
  clear h
  have hb := box_below w (.cells #[.int .i64 0, .int .i64 0] 54)
  have HN := Lib.hid (noW_below H.out hb)
  have HBN := Lib.hid (blk_new w 54 #[.int .i64 0, .int .i64 0])
  have HB := Lib.hid hb
  clear hb
  go_enter Try.func34, Try.ntmps34
  go_wp2_with fail
  refine (fault_no HN.out).mono ?_
  rintro e w2 ⟨rfl, hb2⟩
  have hB2 := HB.out.trans (hb2.mono (by simp))
  have hbn2 := blk_below HBN.out hb2
  have hz := hB2.size
  have hw3 := box_below w2 (.cells #[.int .i64 1, .int .i64 0] 54)
  have hbn3 := blk_below hbn2 hw3
  have r0 := blk_cell hbn3 0 _ rfl
  have r1 := blk_cell hbn3 1 _ rfl
  have q0 := blk_thawed hbn3 0
  have q1 := blk_thawed hbn3 1
  have s0 := blk_cell (blk_new w2 54 #[.int .i64 1, .int .i64 0]) 0 _ rfl
  have s1 := blk_cell (blk_new w2 54 #[.int .i64 1, .int .i64 0]) 1 _ rfl
  have HB3 := Lib.hid hbn3; have HB2 := Lib.hid hB2; have HW3 := Lib.hid hw3
  clear hb2 hB2 hbn2 hbn3 hw3
  go_wp2
  go_quiet (fail)
  go_wp2
  exact bodyPost_ret (results_cell_row rfl _ _ w.heap.size 54 _ (0, 0) _ rfl (blk_set (blk_set (blk_ch HB3.out (ch_drewN No _ nq) id) 0 (.int .i64 1)) 1 (.int .i64 0)) Try.underlying54 rfl (by kernel_rfl)) rfl ⟨rfl, (ch_set (ch_set (((Ch.of_below HB2.out (fun k => k = w.heap.size)).trans (Ch.of_below HW3.out No) (fun _ h => False.elim h)).trans (ch_drewN No _ nq) (fun _ h => False.elim h)) ⟨w.heap.size, 0, none⟩ (.int .i64 1) rfl) ⟨w.heap.size, 1, none⟩ (.int .i64 0) rfl).below (Nat.le_refl _) (fun k hk => by omega)⟩
set_option maxRecDepth 100000 in
set_option maxHeartbeats 2000000 in
theorem write_no {w : World} {p : Option Addr} (h : NoW w p) (x : Ac) (hx : AcOk w x) : Calls Try.prog 17 #[.pointer p, .agg x.cells.toArray] w fun e w' => e = .returned (.bool true) ∧ Below w.heap.size w w' := by
  obtain ⟨k, n, s, M, m, d, l⟩ := x
  obtain ⟨hn, hs, hm, hr⟩ := hx
  simp only at hn hs hm hr
  have hbx := box_below w (.cells #[.int .i64 k, .int .i64 n, .string s, .slice M m d] 34)
  have hblk := blk_new w 34 #[.int .i64 k, .int .i64 n, .string s, .slice M m d]
  have c0 := blk_cell hblk 0 _ rfl
  have c1 := blk_cell hblk 1 _ rfl
  have c2 := blk_cell hblk 2 _ rfl
  have c3 := blk_cell hblk 3 _ rfl
  have H := Lib.hid (noW_below h hbx)
  have HR := Lib.hid (hr.below hbx)
  have HBX := Lib.hid hbx; have HBLK := Lib.hid hblk
  clear h hr hbx hblk
  show Calls Try.prog 17 #[.pointer p, .agg #[.int .i64 k, .int .i64 n, .string s, .slice M m d]] w _
  by_cases h0 : k = 0
  · have g1 : (k == 0) = true := by simpa using h0
    clear h0
    go_enter Try.func17, Try.ntmps17
    go_wp2_with fail
    refine (wnum_no H.out n).mono ?_
    rintro e w2 ⟨rfl, rfl⟩
    go_wp2
    go_ret
    exact ⟨rfl, HBX.out⟩
  have g1 : (k == 0) = false := by simpa using h0
  clear h0
  by_cases h1 : k = 1
  · have g2 : (k == 1) = true := by simpa using h1
    clear h1
    go_enter Try.func17, Try.ntmps17
    go_wp2_with fail
    refine (wtext_no H.out s hs).mono ?_
    rintro e w2 ⟨rfl, hb⟩
    go_wp2
    go_ret
    exact ⟨rfl, HBX.out.trans (hb.mono (by simp))⟩
  have g2 : (k == 1) = false := by simpa using h1
  clear h1
  have hl : l.length = m := by have := HR.out.len; simpa using this
  have HL := Lib.hid hl
  clear hl
  go_enter Try.func17, Try.ntmps17
  go_wp2_with fail
  refine (lent_any _ _ _ l _ HR.out (by omega)).mono ?_
  rintro e w2 ⟨g, c', rfl, hg, hnc, hrow, hb2⟩
  rw [World.size_alloc] at hg
  have d3 : w2.cell? ⟨w.heap.size, 3, none⟩ = some (.slice M m d) := blk_cell (blk_below HBLK.out hb2) 3 _ rfl
  have HROW := Lib.hid hrow; have HB2 := Lib.hid hb2; have HG := Lib.hid hg
  clear hrow hb2 hg
  go_wp2_with fail
  refine (wraw_no (noW_below H.out HB2.out) _ _ _ hm).mono ?_
  rintro e w3 ⟨rfl, hb3⟩
  have HRW3 := Lib.hid (HROW.out.below hb3); have HRD3 := Lib.hid ((HR.out.below HB2.out).below hb3); have HB3 := Lib.hid ((HBX.out.trans (HB2.out.mono (by simp))).trans (hb3.mono (by have := HB2.out.size; rw [World.size_alloc] at this; omega)))
  have e3 : w3.cell? ⟨w.heap.size, 3, none⟩ = some (.slice M m d) := below_cell hb3 d3
  clear hb3
  go_wp2_with fail
  refine (kept_any g c' M m d l _ HRW3.out HRD3.out (by omega)).mono ?_
  rintro e w4 ⟨rfl, hb4⟩
  have HB4 := Lib.hid hb4
  clear hb4
  go_wp2_with fail
  refine (over_row (HRW3.out.below HB4.out) (by rw [List.length_append, HL.out]; rfl) (by omega) hnc).mono ?_
  rintro e w5 ⟨rfl, hch5⟩
  go_wp2
  go_ret
  exact ⟨rfl, (HB3.out.trans (HB4.out.mono HB3.out.size)).trans (hch5.below (by have := HB3.out.size; have := HB4.out.size; omega) (fun k hk => by have := HG.out; omega))⟩
end Go.Proofs.Ytondodhpmghogaa
