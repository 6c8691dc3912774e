/- Walk: is an act read as it was written. Conditions: the reader is as Open made it, of at most 10^9 bytes; the act is small. -/
import Derived.Test.YtondodhpmghogaaB1
namespace Go.Proofs.Ytondodhpmghogaa
open Go.RowKit
set_option linter.unusedVariables false
set_option linter.unusedSimpArgs false

def BackQ (w : World) (R : Nat) (A : Option Addr) (n c : Nat) (r : Bool × Rdr) (e : Ending) (w' : World) : Prop := ∃ bb, e = .returned (.bool bb) ∧ (r.1 = true → bb = true) ∧ RdB w' R A n c r.2 ∧ Ch (fun k => k = R) w w'
theorem backq_of {w w2 w' : World} {R : Nat} {A : Option Addr} {n c : Nat} {r : Bool × Rdr} {bb : Bool} (hb : Below w.heap.size w w2) (h1 : r.1 = true → bb = true) (h2 : RdB w' R A n c r.2) (h3 : Ch (fun k => k = R) w2 w') : BackQ w R A n c r (.returned (.bool bb)) w' :=
  ⟨bb, rfl, h1, h2, (Ch.of_below hb _).trans h3 (fun i hi => .inl hi)⟩
set_option maxRecDepth 100000 in
set_option maxHeartbeats 4000000 in
theorem back_any {w : World} {R : Nat} {A : Option Addr} {n c : Nat} {s : Rdr} (h : RdB w R A n c s) (hn9 : n ≤ 1000000000) (x : Ac) (hx : AcOk w x) (hM : ∀ a, x.M = some a → 0 < x.m → a.block ≠ R) :
    Calls Try.prog 41 #[.pointer (some ⟨R, 0, none⟩), .agg x.cells.toArray] w (BackQ w R A n c (backR s x)) := by
  obtain ⟨k, nn, t, M, m, d, l⟩ := x
  obtain ⟨hn, hs, hm, hr⟩ := hx
  simp only at hn hs hm hr hM
  have hl : l.length = m := by have := hr.len; simpa using this
  obtain ⟨r, hrr⟩ : ∃ r, r = backR s ⟨k, nn, t, M, m, d, l⟩ := ⟨_, rfl⟩
  rw [← hrr]
  unfold backR at hrr
  simp only at hrr
  have hR := rdb_lt h
  have hbx := box_below w (.cells #[.int .i64 k, .int .i64 nn, .string t, .slice M m d] 34)
  obtain ⟨w1, hw1⟩ : ∃ z, z = w.alloc (.cells #[.int .i64 k, .int .i64 nn, .string t, .slice M m d] 34) := ⟨_, rfl⟩
  have hblk : Blk w1 w.heap.size 34 #[.int .i64 k, .int .i64 nn, .string t, .slice M m d] := by rw [hw1]; exact blk_new _ _ _
  rw [← hw1] at hbx
  have c0 := blk_cell hblk 0 _ rfl
  have c1 := blk_cell hblk 1 _ rfl
  have c2 := blk_cell hblk 2 _ rfl
  have c3 := blk_cell hblk 3 _ rfl
  have H := Lib.hid (rdb_ch h (Ch.of_below hbx No) id (fun _ _ => id))
  have HRD := Lib.hid (hr.below hbx); have HBX := Lib.hid hbx; have HBLK := Lib.hid hblk; have HL := Lib.hid hl; have HM := Lib.hid hM
  have hk1 : ∀ w', Ch (fun k => k = R) w1 w' → Blk w' w.heap.size 34 #[.int .i64 k, .int .i64 nn, .string t, .slice M m d] := fun w' hc => blk_ch HBLK.out hc (by omega)
  have HK1 := Lib.hid hk1
  clear h hr hbx hblk hk1 hl hM
  show Calls Try.prog 41 #[.pointer (some ⟨R, 0, none⟩), .agg #[.int .i64 k, .int .i64 nn, .string t, .slice M m d]] w _
  by_cases h0 : k = 0
  · rw [if_pos h0] at hrr
    have g1 : (k == 0) = true := by simpa using h0
    generalize hq : rnum s nn nn = q at hrr
    have HQ := Lib.hid hq; have HRR := Lib.hid hrr
    clear h0 hq hrr
    go_enter Try.func41, Try.ntmps41
    go_wp2_with fail
    rw [← hw1]
    clear hw1
    go_region_held3 (fun W => W.cell? ⟨w.heap.size, 1, none⟩ = some (.int .i64 nn))
      (first | exact c1 | exact d1)
      (first | (go_at_call 37; refine (num_any (rdb_ch H.out (Ch.drew w1 No) id (fun _ _ => id)) nn nn).mono ?_; rw [HQ.out]; rintro e w2 ⟨rfl, hb2, hch2⟩; have hc2 : Ch (fun k => k = R) w1 w2 := (Ch.drew w1 _).trans hch2 (fun i hi => .inl hi); have hk2 := HK1.out w2 hc2; have d1 := blk_cell hk2 1 _ rfl))
    go_wp2
    go_ret
    exact backq_of HBX.out (by rw [HRR.out]; exact id) (by rw [HRR.out]; exact hb2) hc2
  rw [if_neg h0] at hrr
  have g1 : (k == 0) = false := by simpa using h0
  clear h0
  by_cases h1 : k = 1
  · rw [if_pos h1] at hrr
    have g2 : (k == 1) = true := by simpa using h1
    generalize hq : rraw s (t.size : Int) = q at hrr
    have HQ := Lib.hid hq; have HRR := Lib.hid hrr
    clear h1 hq hrr
    go_enter Try.func41, Try.ntmps41
    go_wp2_with fail
    rw [← hw1]
    clear hw1
    go_region_held3 (fun W => W.cell? ⟨w.heap.size, 2, none⟩ = some (.string t))
      (first | exact c2 | exact d2)
      (first | (go_at_call 38; refine (text_any (rdb_ch H.out (Ch.drew w1 No) id (fun _ _ => id)) hn9 (t.size : Int)).mono ?_; rw [HQ.out]; rintro e w2 ⟨rfl, hb2, hch2⟩; have hc2 : Ch (fun k => k = R) w1 w2 := (Ch.drew w1 _).trans hch2 (fun i hi => .inl hi); have hk2 := HK1.out w2 hc2; have d2 := blk_cell hk2 2 _ rfl))
    go_wp2
    go_ret
    refine backq_of HBX.out (fun e => ?_) (by rw [HRR.out]; exact hb2) hc2
    rw [HRR.out] at e
    have e1 : q.1 = t.data.toList := eq_of_beq e
    simp [e1, ByteArray.toList_eq]
  rw [if_neg h1] at hrr
  have g2 : (k == 1) = false := by simpa using h1
  rw [HL.out] at hrr
  generalize hq : rraw s (m : Int) = q at hrr
  have HQ := Lib.hid hq; have HRR := Lib.hid hrr
  clear h1 hq hrr
  go_enter Try.func41, Try.ntmps41
  go_wp2_with fail
  rw [← hw1]
  clear hw1
  go_region_held3 (fun W => W.cell? ⟨w.heap.size, 3, none⟩ = some (.slice M m d))
    (first | exact c3 | exact d3)
    (first | (go_at_call 39; refine (raw_any (rdb_ch H.out (Ch.drew w1 No) id (fun _ _ => id)) hn9 (m : Int)).mono ?_; rw [HQ.out]; rintro e w2 ⟨A2, n2, c2x, rfl, hh2, hb2, hch2⟩; have hc2 : Ch (fun k => k = R) w1 w2 := (Ch.drew w1 _).trans hch2 (fun i hi => .inl hi); have hk2 := HK1.out w2 hc2; have d3 := blk_cell hk2 3 _ rfl; have hrd2 := HRD.out.ch0 hc2 (fun a ha h0 e => HM.out a ha h0 e)) | (go_at_call 21; refine (same_any _ _ _ _ _ _ _ _ _ (held_rd hh2) hrd2).mono ?_; rintro e w3 ⟨rfl, rfl⟩))
  go_wp2
  go_ret
  exact backq_of HBX.out (by rw [HRR.out]; exact id) (by rw [HRR.out]; exact hb2) hc2
end Go.Proofs.Ytondodhpmghogaa
