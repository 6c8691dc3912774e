/- Walks: New, Num, Raw, Text, Out of the writer. Conditions: the writer is as New made it; what is handed in is short and lies apart from it. -/
import Derived.Test.YtondodhpmghogaaW2
namespace Go.Proofs.Ytondodhpmghogaa
open Go.RowKit
set_option linter.unusedVariables false
set_option linter.unusedSimpArgs false

def NewWQ (w : World) (e : Ending) (w' : World) : Prop := ∃ B, e = .returned (.pointer (some ⟨B, 0, none⟩)) ∧ w.heap.size ≤ B ∧ Wr w' B (.slice none 0 0) [] 0 ∧ Below w.heap.size w w'
theorem nil_own (w : World) (base : Nat) (e : TypeId) : w.ownsRow base e 1 (.slice none 0 0) 0 [] := ⟨rfl, .inl ⟨rfl, rfl⟩⟩
set_option maxHeartbeats 400000 in
theorem new_any (w : World) : Calls Try.prog 14 #[] w (NewWQ w) := by
  go_enter Try.func14, Try.ntmps14
  go_wp2
  go_ret
  exact ⟨_, rfl, Nat.le_refl _, ⟨blk_new w _ _, nil_own _ _ _⟩, (Below.refl _ _).alloc (Nat.le_refl _) _⟩

theorem putq_of {w w2 w' : World} {B : Nat} {v : Value} {r : List UInt8 × Int} {e : Ending} (hb : Below w.heap.size w w2) (h : PutQ w2 B v r e w') : PutQ w B v r e w' := by
  obtain ⟨he, v', h1, h2, h3⟩ := h
  refine ⟨he, v', h1, (Ch.of_below hb _).trans h2 (fun i hi => .inl hi), h3.imp id fun ⟨x, hx, hl⟩ => ⟨x, hx, Nat.le_trans hb.size hl⟩⟩
theorem pts_one {w : World} {x : Pt} (hx : Rd w x.1 x.2.1 x.2.2.1 1 (u8s x.2.2.2)) : Pts (w.alloc (.cells #[.slice x.1 x.2.1 x.2.2.1] 26)) w.heap.size [x] := by
  refine ⟨fun j z hz => ?_, fun z hz => ?_, by simp⟩
  · have hb := blk_new w 26 #[.slice x.1 x.2.1 x.2.2.1]
    match j, hz with
    | 0, hz => cases hz; exact blk_cell hb 0 _ rfl
    | j + 1, hz => simp at hz
  · obtain rfl : z = x := by simpa using hz
    exact hx.ch (Ch.alloc w _ No) (fun _ _ => id)
theorem pts_two {w : World} {x y : Pt} (hx : Rd w x.1 x.2.1 x.2.2.1 1 (u8s x.2.2.2)) (hy : Rd w y.1 y.2.1 y.2.2.1 1 (u8s y.2.2.2)) : Pts (w.alloc (.cells #[.slice x.1 x.2.1 x.2.2.1, .slice y.1 y.2.1 y.2.2.1] 26)) w.heap.size [x, y] := by
  refine ⟨fun j z hz => ?_, fun z hz => ?_, by simp⟩
  · have hb := blk_new w 26 #[.slice x.1 x.2.1 x.2.2.1, .slice y.1 y.2.1 y.2.2.1]
    match j, hz with
    | 0, hz => cases hz; exact blk_cell hb 0 _ rfl
    | 1, hz => cases hz; exact blk_cell hb 1 _ rfl
    | j + 2, hz => simp at hz
  · rcases (show z = x ∨ z = y by simpa using hz) with rfl | rfl
    · exact hx.ch (Ch.alloc w _ No) (fun _ _ => id)
    · exact hy.ch (Ch.alloc w _ No) (fun _ _ => id)
theorem row_u8_rd {w : World} {g c n : Nat} {l : List UInt8} (h : Row w g 5 c 1 (u8s l)) (hn : l.length = n) (hc : n ≤ c) : Rd w (some ⟨g, 0, none⟩) n c 1 (u8s l) := by
  subst hn
  exact h.rd 0 _ c _ (by rw [List.drop_zero, Nat.mul_one, List.take_of_length_le (by simp)]) (by simp) hc h.big

set_option maxRecDepth 100000 in
set_option maxHeartbeats 1000000 in
theorem wnum_any {w : World} {B : Nat} {v : Value} {b : List UInt8} {e : Int} (h : Wr w B v b e) (hb : b.length ≤ 1048576) (n : Int) (hn : n ≤ 9223372036854775807) :
    Calls Try.prog 60 #[.pointer (some ⟨B, 0, none⟩), .int .i64 n] w (PutQ w B v (wnum b e n)) := by
  have c0 : w.cell? ⟨B, 0, none⟩ = some (.bool true) := blk_cell h.blk 0 _ rfl
  have c2 : w.cell? ⟨B, 2, none⟩ = some (.int .i64 e) := blk_cell h.blk 2 _ rfl
  have f2 : w.frozen? ⟨B, 2, none⟩ = false := blk_thawed h.blk 2
  by_cases he : e ≠ 0
  · have g1 : (e == 0) = false := by simpa using he
    have g2 : (e != 0) = true := by simpa using he
    go_enter Try.func60, Try.ntmps60
    go_wp2
    refine bodyPost_ret (results_none rfl _ _ _) rfl ⟨rfl, v, ?_, Ch.refl _ _, .inl rfl⟩
    unfold wnum; rw [if_pos he]; exact h
  obtain rfl : e = 0 := Decidable.not_not.1 he
  clear he
  have H := Lib.hid h
  have hB := wr_lt h
  by_cases hr : n < 0 ∨ 4611686018427387903 < n
  · have g1 : (decide (n < 0) = false → decide (4611686018427387903 < n) = true) := by intro h1; simp at h1 ⊢; omega
    obtain ⟨r, hrr⟩ : ∃ r, r = wnum b 0 n := ⟨_, rfl⟩
    rw [← hrr]
    have hr1 : r = (b, 5) := by rw [hrr]; unfold wnum; simp [hr]
    have hbk := Lib.hid (blk_set H.out.blk 2 (.int .i64 5))
    clear h hrr
    by_cases h0 : n < 0
    · go_enter Try.func60, Try.ntmps60
      go_wp2_with fail
      refine bodyPost_ret (results_none rfl _ _ _) rfl ⟨rfl, v, (by subst hr1; exact ⟨hbk.out, own_ch H.out.own (Ch.setCell w ⟨B, 2, none⟩ (.int .i64 5)) (fun k hk e => by have := wr_own H.out hk; have e' : k = B := e; omega)⟩), (Ch.setCell w ⟨B, 2, none⟩ _).mono (fun i _ hi => .inl hi), .inl rfl⟩
    · have h1 : 4611686018427387903 < n := by omega
      go_enter Try.func60, Try.ntmps60
      go_wp2_with fail
      refine bodyPost_ret (results_none rfl _ _ _) rfl ⟨rfl, v, (by subst hr1; exact ⟨hbk.out, own_ch H.out.own (Ch.setCell w ⟨B, 2, none⟩ (.int .i64 5)) (fun k hk e => by have := wr_own H.out hk; have e' : k = B := e; omega)⟩), (Ch.setCell w ⟨B, 2, none⟩ _).mono (fun i _ hi => .inl hi), .inl rfl⟩
  · obtain ⟨N, rfl⟩ : ∃ N : Nat, n = N := ⟨n.toNat, by omega⟩
    obtain ⟨r, hrr⟩ : ∃ r, r = wnum b 0 (N : Int) := ⟨_, rfl⟩
    rw [← hrr]
    have hr1 : r = wput b 0 (ptAll [((none, 0, 0, frm N) : Pt)]) := by
      have hr' := hr
      rw [hrr]; unfold wnum; simp only [ne_eq, not_true_eq_false, if_false]
      rw [if_neg hr]; simp [ptAll]
    have HR := Lib.hid hr1
    have h9 := frm_len9 N
    clear hrr hr1 h
    have g1 : decide ((N : Int) < 0) = false := by simp
    have g2 : decide ((4611686018427387903 : Int) < N) = false := by simp; omega
    have hN : N < 9223372036854775808 := by omega
    go_enter Try.func60, Try.ntmps60
    go_wp2_with (go_at_call 76; refine (form_any N hN _).mono ?_; rintro e w1 ⟨g, c', rfl, hg, hc', hrow, hbel⟩)
    have hsz := hbel.size
    have hwr := wr_ch (H.out) ((Ch.of_below hbel No).trans (Ch.alloc w1 (.cells #[.slice (some ⟨g, 0, none⟩) (frm N).length c'] 26) No) (fun i hi => .inl hi)) id (fun _ _ => id)
    refine (put_any hwr hb (pts_one (x := (some ⟨g, 0, none⟩, (frm N).length, c', frm N)) (row_u8_rd hrow rfl hc')) ⟨by omega, by intro x hx a ha _; simp at hx; subst hx; cases ha; simp; omega⟩ (fun k hk => ⟨by have := wr_own H.out hk; omega, by intro x hx a ha _; simp at hx; subst hx; cases ha; have := wr_own H.out hk; simp; omega⟩) 1 rfl (by decide) (by simp [ptAll]; omega)).mono ?_
    rintro e w2 hput
    have hput' := putq_of (hbel.alloc hsz _) hput
    have e1 : wput b 0 (ptAll [((some ⟨g, 0, none⟩, (frm N).length, c', frm N) : Pt)]) = r := by rw [HR.out]; rfl
    rw [e1] at hput'
    obtain ⟨he, v', hQ⟩ := hput'
    cases he
    go_wp2
    exact bodyPost_end (results_none rfl _ _ _) rfl ⟨rfl, v', hQ⟩
end Go.Proofs.Ytondodhpmghogaa
