/- Walks: Text, Fault, End of the reader. Conditions: the reader is as Open made it; at most 10^9 bytes. -/
import Derived.Test.YtondodhpmghogaaV8
namespace Go.Proofs.Ytondodhpmghogaa
open Go.RowKit
set_option linter.unusedVariables false
set_option linter.unusedSimpArgs false

def RTextQ (w : World) (R : Nat) (A : Option Addr) (n c : Nat) (r : List UInt8 × Rdr) (e : Ending) (w' : World) : Prop := e = .returned (.string ⟨r.1.toArray⟩) ∧ RdB w' R A n c r.2 ∧ Ch (fun k => k = R) w w'
set_option maxRecDepth 100000 in
set_option maxHeartbeats 1000000 in
theorem text_any {w : World} {R : Nat} {A : Option Addr} {n c : Nat} {s : Rdr} (h : RdB w R A n c s) (hn9 : n ≤ 1000000000) (m : Int) : Calls Try.prog 38 #[.pointer (some ⟨R, 0, none⟩), .int .i64 m] w (RTextQ w R A n c (rraw s m)) := by
  have H := Lib.hid h
  clear h
  generalize hr : rraw s m = r
  have HR := Lib.hid hr
  clear hr
  go_enter Try.func38, Try.ntmps38
  go_wp2_with fail
  refine (raw_any H.out hn9 m).mono ?_
  rw [HR.out]
  rintro e w1 ⟨A', n', c', rfl, hh, hb, hch⟩
  have e1 := (held_rd hh).str (P := Try.prog) 26 5 9 Try.underlying26 Try.underlying5 Try.underlying9
  have HB := Lib.hid hb; have HC := Lib.hid hch
  clear hh hb hch
  go_wp2
  go_ret
  exact ⟨rfl, HB.out, HC.out⟩

def FaultQ (w : World) (x : Int × Int) (e : Ending) (w' : World) : Prop := e = .returned (.agg #[.int .i64 x.1, .int .i64 x.2]) ∧ Below w.heap.size w w'
set_option maxRecDepth 100000 in
set_option maxHeartbeats 1000000 in
theorem fault_any {w : World} {R : Nat} {A : Option Addr} {n c : Nat} {s : Rdr} (h : RdB w R A n c s) : Calls Try.prog 33 #[.pointer (some ⟨R, 0, none⟩)] w (FaultQ w (s.e, s.p)) := by
  have hb : ∀ o, Below w.heap.size w (w.alloc o) := fun o => (Below.refl w.heap.size w).alloc (Nat.le_refl _) o
  have c0 : ∀ o, (w.alloc o).cell? ⟨R, 0, none⟩ = some (.bool true) := fun o => below_cell (hb o) (blk_cell h.blk 0 _ rfl)
  have c3 : ∀ o, (w.alloc o).cell? ⟨R, 3, none⟩ = some (.int .i64 s.e) := fun o => below_cell (hb o) (blk_cell h.blk 3 _ rfl)
  have c4 : ∀ o, (w.alloc o).cell? ⟨R, 4, none⟩ = some (.int .i64 s.p) := fun o => below_cell (hb o) (blk_cell h.blk 4 _ rfl)
  have H := Lib.hid h
  clear h
  go_enter Try.func33, Try.ntmps33
  go_wp2_with fail
  refine (none_any (c0 _)).mono ?_; rintro e w1 ⟨rfl, rfl⟩
  have d3 := c3 (.cells #[.int .i64 0, .int .i64 0] 54)
  have d4 := c4 (.cells #[.int .i64 0, .int .i64 0] 54)
  go_wp2
  exact bodyPost_ret (results_cell_row rfl _ _ w.heap.size 54 _ (0, 0) _ rfl (heap_alloc_new w _) Try.underlying54 rfl (by kernel_rfl)) rfl ⟨rfl, hb _⟩

set_option maxRecDepth 100000 in
set_option maxHeartbeats 2000000 in
theorem end_any {w : World} {R : Nat} {A : Option Addr} {n c : Nat} {s : Rdr} (h : RdB w R A n c s) : Calls Try.prog 34 #[.pointer (some ⟨R, 0, none⟩)] w (FaultQ w (rend s)) := by
  have hl := rdb_len h
  have h1 := h.fit.le
  rw [hl] at h1
  have hb : Below w.heap.size w (w.alloc (.cells #[.int .i64 0, .int .i64 0] 54)) := (Below.refl w.heap.size w).alloc (Nat.le_refl _) _
  have H := Lib.hid h
  have H1 := Lib.hid (rdb_ch h (Ch.of_below hb No) id (fun _ _ => id))
  obtain ⟨r, hrr⟩ : ∃ r, r = rend s := ⟨_, rfl⟩
  rw [← hrr]
  unfold rend at hrr
  rw [hl] at hrr
  have HRR := Lib.hid hrr
  clear h hrr
  have hbn := blk_new w 54 #[.int .i64 0, .int .i64 0]
  have HBN := Lib.hid hbn
  clear hbn
  go_enter Try.func34, Try.ntmps34
  go_wp2_with fail
  refine (fault_any H1.out).mono ?_; rintro e w2 ⟨rfl, hb2⟩
  have hB2 := hb.trans (hb2.mono (by simp))
  have H2 := rdb_ch H1.out (Ch.of_below hb2 No) id (fun _ _ => id)
  have hR : R < w.heap.size := rdb_lt H.out
  have hsz := hb2.size
  rw [World.size_alloc] at hsz
  have hk := hb2
  have hbn2 : Blk w2 w.heap.size 54 #[.int .i64 0, .int .i64 0] := blk_below HBN.out hb2
  have hW : ∀ o, Below w2.heap.size w2 (w2.alloc o) := fun o => (Below.refl w2.heap.size w2).alloc (Nat.le_refl _) o
  have d1 : (w2.alloc (.cells #[.int .i64 s.e, .int .i64 s.p] 54)).cell? ⟨R, 1, none⟩ = some (.slice A n c) := below_cell (hW _) (blk_cell H2.blk 1 _ rfl)
  have d2 : (w2.alloc (.cells #[.int .i64 s.e, .int .i64 s.p] 54)).cell? ⟨R, 2, none⟩ = some (.int .i64 s.at_) := below_cell (hW _) (blk_cell H2.blk 2 _ rfl)
  have hbn3 := blk_below hbn2 (hW (.cells #[.int .i64 s.e, .int .i64 s.p] 54))
  have r0 := blk_cell hbn3 0 _ rfl
  have r1 := blk_cell hbn3 1 _ rfl
  have q0 := blk_thawed hbn3 0
  have q1 := blk_thawed hbn3 1
  have hb3 := hbn3
  have s0 := blk_cell (blk_new w2 54 #[.int .i64 s.e, .int .i64 s.p]) 0 _ rfl
  have s1 := blk_cell (blk_new w2 54 #[.int .i64 s.e, .int .i64 s.p]) 1 _ rfl
  have HB2 := Lib.hid hB2; have HH2 := Lib.hid H2
  clear hb2 H2 hbn2 hbn3 hB2 hk hb
  have HB3 := Lib.hid hb3
  have FIN : ∀ k x y, Below w.heap.size w (((w2.alloc (.cells #[.int .i64 s.e, .int .i64 s.p] 54)).drewN k).setCell ⟨w.heap.size, 0, none⟩ x |>.setCell ⟨w.heap.size, 1, none⟩ y) := fun k x y =>
    (ch_set (ch_set (((Ch.of_below HB2.out (fun k => k = w.heap.size)).trans (Ch.of_below (hW _) No) (fun _ h => False.elim h)).trans (ch_drewN No _ k) (fun _ h => False.elim h)) ⟨w.heap.size, 0, none⟩ x rfl) ⟨w.heap.size, 1, none⟩ y rfl).below (Nat.le_refl _) (fun k hk => by omega)
  have BLK : ∀ k x y, (((w2.alloc (.cells #[.int .i64 s.e, .int .i64 s.p] 54)).drewN k).setCell ⟨w.heap.size, 0, none⟩ x |>.setCell ⟨w.heap.size, 1, none⟩ y).heap[w.heap.size]? = some (.cells #[x, y] 54 (0, 0)) := fun k x y => blk_set (blk_set (blk_ch HB3.out (ch_drewN No _ k) id) 0 x) 1 y
  have FN := Lib.hid FIN; have BN := Lib.hid BLK
  clear FIN BLK hb3 hW
  by_cases he : s.e = 0
  · have g1 : (s.e == 0) = true := by simpa using he
    have HE := Lib.hid he
    clear he
    by_cases hlt : s.at_ < n
    · have hr : r = (4, (s.at_ : Int)) := by rw [HRR.out, if_pos ⟨HE.out, hlt⟩]
      have HR := Lib.hid hr
      clear hr
      have hlt' : (s.at_ : Int) < (n : Int) := by omega
      have g2 : decide ((s.at_ : Int) < (n : Int)) = true := decide_eq_true hlt'
      go_wp2
      go_quiet (fail)
      go_wp2
      have F1 := FN.out nq (.int .i64 4) (.int .i64 s.at_); have F2 := BN.out nq (.int .i64 4) (.int .i64 s.at_)
      exact bodyPost_ret (results_cell_row rfl _ _ w.heap.size 54 _ (0, 0) _ rfl F2 Try.underlying54 rfl (by kernel_rfl)) rfl ⟨by rw [HR.out], F1⟩
    · have hr : r = (s.e, s.p) := by rw [HRR.out, if_neg (fun e => hlt e.2)]
      have HR := Lib.hid hr
      clear hr
      have hlt' : ¬ ((s.at_ : Int) < (n : Int)) := by omega
      have g2 : decide ((s.at_ : Int) < (n : Int)) = false := decide_eq_false hlt'
      go_wp2
      go_quiet (fail)
      go_wp2
      have F1 := FN.out nq (.int .i64 s.e) (.int .i64 s.p); have F2 := BN.out nq (.int .i64 s.e) (.int .i64 s.p)
      exact bodyPost_ret (results_cell_row rfl _ _ w.heap.size 54 _ (0, 0) _ rfl F2 Try.underlying54 rfl (by kernel_rfl)) rfl ⟨by rw [HR.out], F1⟩
  · have hr : r = (s.e, s.p) := by rw [HRR.out, if_neg (fun e => he e.1)]
    have HR := Lib.hid hr
    have g1 : (s.e == 0) = false := by simpa using he
    clear hr
    go_wp2
    go_quiet (fail)
    go_wp2
    have F1 := FN.out nq (.int .i64 s.e) (.int .i64 s.p); have F2 := BN.out nq (.int .i64 s.e) (.int .i64 s.p)
    exact bodyPost_ret (results_cell_row rfl _ _ w.heap.size 54 _ (0, 0) _ rfl F2 Try.underlying54 rfl (by kernel_rfl)) rfl ⟨by rw [HR.out], F1⟩
end Go.Proofs.Ytondodhpmghogaa
