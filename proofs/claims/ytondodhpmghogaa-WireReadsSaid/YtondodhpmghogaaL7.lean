/- Walk: the law of the reader. Conditions: the arguments are as they come in. -/
import Derived.Test.YtondodhpmghogaaL6
namespace Go.Proofs.Ytondodhpmghogaa
open Go.RowKit
set_option linter.unusedVariables false
set_option linter.unusedSimpArgs false

theorem rs_no {w w' : World} {R V : Nat} {A : Option Addr} {n c : Nat} {A2 : Option Addr} {n2 c2 : Nat} {s : Rdr} (h : Rs w R V A n c A2 n2 c2 s) (hc : Ch No w w') : Rs w' R V A n c A2 n2 c2 s := rs_ch h hc id id (fun _ _ _ => id) (fun _ _ _ => id)
set_option maxRecDepth 100000 in
set_option maxHeartbeats 8000000 in
theorem reads_any (A0 : Option Addr) (n0 c0 : Nat) (l : List UInt8) (A1 : Option Addr) (n1 c1 : Nat) (F : Nat → Ask) (w : World) (hr : Rd w A0 n0 c0 1 (u8s l)) (ha : Asks w A1 n1 c1 F) :
    Calls Try.prog 5 #[.slice A0 n0 c0, .slice A1 n1 c1] w fun e w' => e = .returned (.bool true) ∧ Below w.heap.size w w' := by
  have hl : l.length = n0 := by have := hr.len; simpa using this
  have hn63 := hr.small
  have hnc := ha.le
  have hc63 := ha.big
  have HR := Lib.hid hr; have HA := Lib.hid ha; have HL := Lib.hid hl
  clear hr ha hl
  by_cases hlong : 1000 < n0 ∨ 60 < n1
  · have g2 : ¬ (1000 < n0) → decide ((60 : Int) < (n1 : Int)) = true := fun h => decide_eq_true (by omega)
    by_cases h1 : 1000 < n0
    · have g1 : decide ((1000 : Int) < (n0 : Int)) = true := decide_eq_true (by omega)
      clear g2 hlong
      go_enter Try.func5, Try.ntmps5
      go_wp2_with fail
      refine (awake_any _).mono ?_
      rintro e w4 ⟨rfl, hb4⟩
      go_wp2
      go_ret
      exact ⟨rfl, hb4⟩
    · have g1 : decide ((1000 : Int) < (n0 : Int)) = false := decide_eq_false (by omega)
      have g3 := g2 h1
      clear g2 hlong
      go_enter Try.func5, Try.ntmps5
      go_wp2_with fail
      refine (awake_any _).mono ?_
      rintro e w4 ⟨rfl, hb4⟩
      go_wp2
      go_ret
      exact ⟨rfl, hb4⟩
  have g1 : decide ((1000 : Int) < (n0 : Int)) = false := decide_eq_false (by omega)
  have g2 : decide ((60 : Int) < (n1 : Int)) = false := decide_eq_false (by omega)
  have hn0 : n0 ≤ 1000 := by omega
  have hn1 : n1 ≤ 60 := by omega
  clear hlong
  go_enter Try.func5, Try.ntmps5
  go_wp2_with fail
  refine (lent_any _ _ _ l _ HR.out (by omega)).mono ?_
  rintro e w2 ⟨g, c', rfl, hg, hnc', hrow, hb2⟩
  have hrl : Rd w2 (some ⟨g, 0, none⟩) n0 (n0 + 3) 1 (u8s l) := hrow.rd 0 n0 (n0 + 3) (u8s l) (by rw [List.drop_zero, u8s_take, Nat.mul_one, ← HL.out]; simp) (by rw [u8s_length, List.length_append, HL.out]; omega) (by omega) (by have := hrow.big; omega)
  have HROW2 := Lib.hid hrow; have HB2 := Lib.hid hb2; have HRL := Lib.hid hrl
  have hglt := hrow.lt
  clear hrow hb2 hrl
  go_wp2_with fail
  refine (open_any HRL.out (by omega)).mono ?_
  rintro e w3 ⟨R, A, n, c, rfl, hrb, hR, hA, hb3⟩
  have hn : n = n0 := by have h9 : l.length = n := rdb_len hrb; have := HL.out; omega
  have HB3 := Lib.hid (HB2.out.trans (hb3.mono HB2.out.size)); have HROW3 := Lib.hid (HROW2.out.below hb3); have HRB := Lib.hid hrb; have HAA := Lib.hid hA
  have hsz2 := HB2.out.size
  have hsz3 := hb3.size
  have hRlt := rdb_lt hrb
  have HALT := Lib.hid (show ∀ a, A = some a → 0 < n → a.block < w3.heap.size from fun a ha h0 => rd_in hrb.rd a ha h0)
  clear hb3 hrb hA
  go_wp2_with fail
  refine (ropen_any (HR.out.below HB3.out) (fun a ha h0 => by have := rd_in HR.out a ha h0; omega)).mono ?_
  rintro e w4 ⟨V, rfl, hrr, hV, hb4⟩
  have hrs : Rs w4 R V A n c A0 n0 c0 ⟨l, 0, 0, 0⟩ := ⟨rdb_ch HRB.out (Ch.of_below hb4 No) id (fun _ _ => id), hrr, by omega, (fun a ha h0 => by have := HALT.out a ha h0; omega), fun a ha h0 => by have := rd_in HR.out a ha h0; omega⟩
  have HB4 := Lib.hid (HB3.out.trans (hb4.mono HB3.out.size)); have HROW4 := Lib.hid (HROW3.out.below hb4); have HRS4 := Lib.hid hrs
  have hgR : g ≠ R := by omega
  have hgV : g ≠ V := by omega
  have hRw : w.heap.size ≤ R := by omega
  have hVw : w.heap.size ≤ V := by omega
  clear hb4 hrr hrs
  go_wp2_with fail
  go_loopw [8] (fun i wr => ∃ (k : Nat) (s : Rdr), k ≤ n1 ∧ i = .int .i64 k ∧ Rs wr R V A n c A0 n0 c0 s ∧ Row wr g 5 c' 1 (u8s (l ++ lentTail)) ∧ Below w.heap.size w wr) (fun i _ => n1 - (intOf i).toNat)
  case atStart => exact ⟨0, _, Nat.zero_le _, rfl, HRS4.out, HROW4.out, HB4.out⟩
  case round =>
    obtain ⟨k, s, hk, rfl, hrs, hrow, hbr⟩ := hrel
    have HRS := Lib.hid hrs; have HROW := Lib.hid hrow; have HBR := Lib.hid hbr
    clear hrs hrow hbr
    by_cases hlt : k < n1
    · obtain ⟨b5, off, rfl, hin⟩ := HA.out.at_ k hlt
      have hb5 := World.block_lt_of_cell? w _ hin.1
      obtain ⟨y, hy⟩ : ∃ y, y = F k := ⟨_, rfl⟩
      rw [← hy] at hin
      obtain ⟨k1, lo, hi⟩ := y
      obtain ⟨q0, q1, q2⟩ := hin
      have c0' := (HBR.out.cell (p := ⟨b5, off + k * 3, none⟩) hb5).trans q0
      have c1' := (HBR.out.cell (p := ⟨b5, off + k * 3 + 1, none⟩) hb5).trans q1
      have c2' := (HBR.out.cell (p := ⟨b5, off + k * 3 + 2, none⟩) hb5).trans q2
      simp only at c0' c1' c2'
      clear hy q0 q1 q2
      obtain ⟨t, ht⟩ : ∃ t, t = askS s ⟨k1, lo, hi⟩ := ⟨_, rfl⟩
      have HT := Lib.hid ht
      clear ht
      have hk0 : (0 : Int) ≤ (k : Int) := by omega
      have hk1 : (k : Int) < (n1 : Int) := by omega
      go_wp2_with fail
      go_region_with (first | (go_at_call 29; refine (read_any (rs_no HRS.out (Ch.drew wr No)) (by omega) (by omega) ⟨k1, lo, hi⟩).mono ?_; rw [← HT.out]; rintro e w5 ⟨rfl, hrs5, hch5⟩; have hc5 : Ch (fun k => k = R ∨ k = V) wr w5 := (Ch.drew wr _).trans hch5 (fun i hi => .inl hi); have p1 := blk_cell hrs5.rr.blk 1 _ rfl; have p2 := blk_cell hrs5.rr.blk 2 _ rfl; have p3 := blk_cell hrs5.rr.blk 3 _ rfl) | (go_at_call 30; refine (rat_any hrs5.rb).mono ?_; rintro e w6 ⟨rfl, rfl⟩) | (go_at_call 31; refine (rleft_any hrs5.rb).mono ?_; rintro e w6 ⟨rfl, hch6⟩; have hrs6 := rs_no hrs5 hch6; have hc6 := hc5.trans hch6 (fun _ h => False.elim h)) | (go_at_call 32; refine (rrleft_any hrs6.rr).mono ?_; rintro e w7 ⟨rfl, hch7⟩; have hrs7 := rs_no hrs6 hch7; have hc7 := hc6.trans hch7 (fun _ h => False.elim h); have r2 := blk_cell hrs7.rr.blk 2 _ rfl; have r3 := blk_cell hrs7.rr.blk 3 _ rfl) | (go_at_call 33; refine (fault_any hrs7.rb).mono ?_; rintro e w8 ⟨rfl, hb8⟩; have hrs8 := rs_below hrs7 hb8; have hc8 := hc7.trans (Ch.of_below hb8 No) (fun _ h => False.elim h); have s2 := blk_cell hrs8.rr.blk 2 _ rfl; have s3 := blk_cell hrs8.rr.blk 3 _ rfl) | (go_at_call 34; refine (end_any hrs8.rb).mono ?_; rintro e w9 ⟨rfl, hb9⟩; have hrs9 := rs_below hrs8 hb9; have hc9 := hc8.trans (Ch.of_below hb9 No) (fun _ h => False.elim h)) | (go_at_call 35; refine (rrend_any hrs9.rr).mono ?_; rintro e wa ⟨rfl, hba⟩; have hrsa := rs_below hrs9 hba; have hca := hc9.trans (Ch.of_below hba No) (fun _ h => False.elim h)))
      all_goals
        have hrow9 := HROW.out.ch hca (by rintro (e | e); exact hgR e; exact hgV e)
        have hbl9 := ((Ch.of_below HBR.out (fun k => k = R ∨ k = V)).trans hca (fun i hi => .inl hi)).below (Nat.le_refl _) (fun k hk => by rcases hk with e | e <;> omega)
        clear hrs5 hrs6 hrs7 hrs8 hrs9 hc5 hc6 hc7 hc8 hc9 hca
        go_wp2
        go_roundw
        case rel => exact ⟨k + 1, t, by omega, by go_num, hrsa, hrow9, hbl9⟩
        case measure => simp [intOf]; omega
    · obtain rfl : k = n1 := by omega
      go_wp2_with fail
      refine (end_any HRS.out.rb).mono ?_
      rintro e w5 ⟨rfl, hb5⟩
      have HRS5 := Lib.hid (rs_below HRS.out hb5); have HB5 := Lib.hid (HBR.out.trans (hb5.mono HBR.out.size)); have HROW5 := Lib.hid (HROW.out.below hb5)
      clear hb5
      go_wp2_with fail
      refine (rrend_any HRS5.out.rr).mono ?_
      rintro e w6 ⟨rfl, hb6⟩
      have HRS6 := Lib.hid (rs_below HRS5.out hb6); have HB6 := Lib.hid (HB5.out.trans (hb6.mono HB5.out.size)); have HROW6 := Lib.hid (HROW5.out.below hb6)
      clear hb6
      go_wp2_with fail
      refine (rleft_any HRS6.out.rb).mono ?_
      rintro e w7 ⟨rfl, hch7⟩
      have HRS7 := Lib.hid (rs_no HRS6.out hch7); have HB7 := Lib.hid (HB6.out.trans (hch7.below HB6.out.size (fun _ h => False.elim h))); have HROW7 := Lib.hid (HROW6.out.ch hch7 id)
      clear hch7
      go_wp2_with fail
      refine (rrleft_any HRS7.out.rr).mono ?_
      rintro e w8 ⟨rfl, hch8⟩
      have HB8 := Lib.hid (HB7.out.trans (hch8.below HB7.out.size (fun _ h => False.elim h))); have HROW8 := Lib.hid (HROW7.out.ch hch8 id)
      clear hch8
      go_wp2_with fail
      refine (kept_any g c' A0 n0 c0 l _ HROW8.out (HR.out.below HB8.out) (by omega)).mono ?_
      rintro e w9 ⟨rfl, hb9⟩
      have HB9 := Lib.hid (HB8.out.trans (hb9.mono HB8.out.size))
      clear hb9
      go_wp2_with fail
      refine (awake_any _).mono ?_
      rintro e wa ⟨rfl, hba⟩
      go_wp2
      go_ret
      exact ⟨rfl, HB9.out.trans (hba.mono HB9.out.size)⟩
end Go.Proofs.Ytondodhpmghogaa
