/- Walk: what is read is written as it was read (WireAgain). Conditions: the arguments are as they come in, the bytes within the reach. -/
import Derived.Test.YtondodhpmghogaaB4
import Derived.Test.YtondodhpmghogaaB2
import Derived.Test.YtondodhpmghogaaL5
namespace Go.Proofs.Ytondodhpmghogaa
open Go.RowKit
set_option linter.unusedVariables false
set_option linter.unusedSimpArgs false

set_option maxRecDepth 100000 in
set_option maxHeartbeats 400000 in
theorem clone_wide (A : Option Addr) (n c : Nat) (l : List UInt8) (w : World) (h1 : Rd w A n c 1 (u8s l)) (hn : n ≤ 140737488351232) :
    Calls Try.prog 66 #[.slice A n c] w fun e w' => ∃ A' c', e = .returned (.slice A' n c') ∧ Rd w' A' n c' 1 (u8s l) ∧ Below w.heap.size w w' := by
  have hl : l.length = n := by have := h1.len; simpa using this
  cases A with
  | none =>
    obtain ⟨rfl, rfl, hl0⟩ := h1.nils rfl
    refine Calls.mono (R := fun e w' => e = .returned (.slice none 0 0) ∧ w = w') ?_ (fun e w' ⟨he, hw⟩ => ⟨none, 0, he, hw ▸ h1, hw ▸ Below.refl _ _⟩)
    have he : ∀ w : World, (binOp .eql 26 (.slice none 0 0) (.slice none 0 0)).run Try.prog w = .ok (.bool true) w := fun _ => rfl
    go_enter Try.func66, Try.ntmps66
    go_wp2
    go_ret
    exact ⟨rfl, rfl⟩
  | some a =>
    have HR := Lib.hid (h1.ch (Ch.alloc w (.cells #[] 5) No) (fun _ _ => id))
    have HO := Lib.hid (row_lit w #[] 5 0 1 rfl (by omega))
    have HL := Lib.hid hl
    clear h1 hl
    have he : ∀ w : World, (binOp .eql 26 (.slice (some a) n c) (.slice none 0 0)).run Try.prog w = .ok (.bool false) w := fun _ => rfl
    go_enter Try.func66, Try.ntmps66
    go_wp2_with (at_builtin; refine wpList_app_row _ rfl _ _ 26 rfl w.heap.size 5 _ 1 1 Try.underlying26 info5 rfl (by decide) _ 0 _ [] rfl HO.out (Nat.le_refl _) rfl (Nat.le_refl _) (some a) n c (u8s l) rfl HR.out (u8s_one l) (by simp [maxLen]; omega) (by omega) (by simp) ?_; intro g' c' w1 hrow hnc hbg hat hch)
    go_ret
    exact ⟨_, _, rfl, row_u8_rd (by simpa using hrow) HL.out (by omega), ((Ch.alloc w _ No).trans hch (fun i hi => .inr (by omega))).below (Nat.le_refl _) (fun k hk => hk.elim)⟩
set_option maxRecDepth 100000 in
set_option maxHeartbeats 400000 in
theorem open_wide {A : Option Addr} {n c : Nat} {l : List UInt8} {w : World} (hr : Rd w A n c 1 (u8s l)) (hn : n ≤ 140737488351232) : Calls Try.prog 27 #[.slice A n c] w fun e w' => ∃ R, e = .returned (.pointer (some ⟨R, 0, none⟩)) ∧ Below w.heap.size w w' := by
  have HR := Lib.hid hr
  clear hr
  go_enter Try.func27, Try.ntmps27
  go_wp2_with fail
  refine (clone_wide A n c l _ HR.out hn).mono ?_; rintro e w1 ⟨A', c', rfl, hh, hb1⟩
  go_wp2
  go_ret
  exact ⟨w1.heap.size, rfl, hb1.alloc hb1.size _⟩

set_option maxRecDepth 100000 in
set_option maxHeartbeats 8000000 in
theorem again_law (A0 : Option Addr) (n0 c0 : Nat) (l : List UInt8) (A1 : Option Addr) (n1 c1 : Nat) (F : Nat → Ask) (w : World) (hr : Rd w A0 n0 c0 1 (u8s l)) (ha : Asks w A1 n1 c1 F) (hreach : n0 ≤ 140737488351232) :
    Calls Try.prog 8 #[.slice A0 n0 c0, .slice A1 n1 c1] w fun e w' => e = .returned (.bool true) ∧ Below w.heap.size w w' := by
  have hl : l.length = n0 := by have := hr.len; simpa using this
  have hnc := ha.le
  have hc63 := ha.big
  have HR := Lib.hid hr; have HA := Lib.hid ha; have HL := Lib.hid hl
  clear hr ha hl
  by_cases hlong : 1000 < n0 ∨ 60 < n1
  · have g2 : ¬ (1000 < n0) → decide ((60 : Int) < (n1 : Int)) = true := fun h => decide_eq_true (by omega)
    by_cases h1 : 1000 < n0
    · have g1 : decide ((1000 : Int) < (n0 : Int)) = true := decide_eq_true (by omega)
      clear g2 hlong
      go_enter Try.func8, Try.ntmps8
      go_wp2_with fail
      refine (awake_any _).mono ?_
      rintro e w2 ⟨rfl, hb2⟩
      have HB2 := Lib.hid hb2; have HR2 := Lib.hid (HR.out.below hb2)
      clear hb2
      go_wp2_with fail
      refine (open_wide HR2.out hreach).mono ?_
      rintro e w3 ⟨R, rfl, hb3⟩
      have HB3 := Lib.hid (HB2.out.trans (hb3.mono HB2.out.size))
      clear hb3
      go_wp2_with fail
      refine (new_any _).mono ?_
      rintro e w4 ⟨B, rfl, _, _, hb4⟩
      go_wp2
      go_ret
      exact ⟨rfl, HB3.out.trans (hb4.mono HB3.out.size)⟩
    · have g1 : decide ((1000 : Int) < (n0 : Int)) = false := decide_eq_false (by omega)
      have g3 := g2 h1
      clear g2 hlong
      go_enter Try.func8, Try.ntmps8
      go_wp2_with fail
      refine (awake_any _).mono ?_
      rintro e w2 ⟨rfl, hb2⟩
      have HB2 := Lib.hid hb2; have HR2 := Lib.hid (HR.out.below hb2)
      clear hb2
      go_wp2_with fail
      refine (open_wide HR2.out hreach).mono ?_
      rintro e w3 ⟨R, rfl, hb3⟩
      have HB3 := Lib.hid (HB2.out.trans (hb3.mono HB2.out.size))
      clear hb3
      go_wp2_with fail
      refine (new_any _).mono ?_
      rintro e w4 ⟨B, rfl, _, _, hb4⟩
      go_wp2
      go_ret
      exact ⟨rfl, HB3.out.trans (hb4.mono HB3.out.size)⟩
  have g1 : decide ((1000 : Int) < (n0 : Int)) = false := decide_eq_false (by omega)
  have g2 : decide ((60 : Int) < (n1 : Int)) = false := decide_eq_false (by omega)
  have hn0 : n0 ≤ 1000 := by omega
  have hn1 : n1 ≤ 60 := by omega
  clear hlong hreach
  go_enter Try.func8, Try.ntmps8
  go_wp2_with fail
  refine (awake_any _).mono ?_
  rintro e w2 ⟨rfl, hb2⟩
  have HB2 := Lib.hid hb2; have HR2 := Lib.hid (HR.out.below hb2)
  clear hb2
  go_wp2_with fail
  refine (open_any HR2.out (by omega)).mono ?_
  rintro e w3 ⟨R, A6, n6, c6, rfl, hrb, hR, hA6, hb3⟩
  have hn6 : n6 = n0 := by have h9 : l.length = n6 := rdb_len hrb; have := HL.out; omega
  have HB3 := Lib.hid (HB2.out.trans (hb3.mono HB2.out.size)); have HRB3 := Lib.hid hrb
  have hz2 := HB2.out.size
  have hRlt := rdb_lt hrb
  have HAL := Lib.hid (show ∀ a, A6 = some a → 0 < n6 → a.block < w3.heap.size from fun a ha h0 => rd_in hrb.rd a ha h0)
  clear hrb hb3 hA6
  go_wp2_with fail
  refine (new_any _).mono ?_
  rintro e w4 ⟨B, rfl, hB, hwr, hb4⟩
  have HB4 := Lib.hid (HB3.out.trans (hb4.mono HB3.out.size)); have HRB4 := Lib.hid (rdb_ch HRB3.out (Ch.of_below hb4 No) id (fun _ _ => id)); have HWR4 := Lib.hid hwr
  have hRB : R < B := by omega
  have hRw : w.heap.size ≤ R := by omega
  have HAB := Lib.hid (show ∀ a, A6 = some a → 0 < n6 → a.block < B from fun a ha h0 => by have := HAL.out a ha h0; omega)
  clear hb4 hwr HRB3 HB3 HR2 HAL
  go_wp2_with fail
  go_loopw [8] (fun i wr => ∃ (k : Nat) (s : Rdr) (v : Value), k ≤ n1 ∧ i = .int .i64 k ∧ s.b = l ∧ RdB wr R A6 n6 c6 s ∧ Wr wr B v (l.take s.at_) 0 ∧ Below w.heap.size w wr) (fun i _ => n1 - (intOf i).toNat)
  case atStart => exact ⟨0, _, _, Nat.zero_le _, rfl, rfl, HRB4.out, HWR4.out, HB4.out⟩
  case round =>
    clear HRB4 HWR4 HB4 HB2
    obtain ⟨k, s, v, hk, rfl, hsb, hrb, hwr, hbr⟩ := hrel
    have HRB := Lib.hid hrb; have HWR := Lib.hid hwr; have HBR := Lib.hid hbr; have HSB := Lib.hid hsb
    clear hrb hwr hbr hsb
    by_cases hlt : k < n1
    · obtain ⟨b5, off, rfl, hin⟩ := HA.out.at_ k hlt
      have hb5 := World.block_lt_of_cell? w _ hin.1
      obtain ⟨y, hy⟩ : ∃ y, y = F k := ⟨_, rfl⟩
      rw [← hy] at hin
      clear hy
      obtain ⟨k1, lo, hi⟩ := y
      have HASK := Lib.hid (show ∀ w', Below w.heap.size w w' → AskIn w' b5 (off + k * 3) ⟨k1, lo, hi⟩ from fun w' hw => ⟨(hw.cell (p := ⟨b5, off + k * 3, none⟩) hb5).trans hin.1, (hw.cell (p := ⟨b5, off + k * 3 + 1, none⟩) hb5).trans hin.2.1, (hw.cell (p := ⟨b5, off + k * 3 + 2, none⟩) hb5).trans hin.2.2⟩)
      clear hin
      have hk0 : (0 : Int) ≤ (k : Int) := by omega
      have hk1 : (k : Int) < (n1 : Int) := by omega
      have hzr := HBR.out.size
      have hBlt := wr_lt HWR.out
      go_wp2_with fail
      refine (rat_any HRB.out).mono ?_
      rintro e w5 ⟨rfl, rfl⟩
      go_wp2_with fail
      refine (fault_any HRB.out).mono ?_
      rintro e w6 ⟨he6, hb6⟩
      have he6 : e = .returned (.agg #[.int .i64 s.e, .int .i64 s.p]) := he6
      subst he6
      have hz6 := hb6.size
      have HB6 := Lib.hid (HBR.out.trans (hb6.mono hzr)); have HRB6 := Lib.hid (rdb_ch HRB.out (Ch.of_below hb6 No) id (fun _ _ => id)); have HWR6 := Lib.hid (wr_ch HWR.out (Ch.of_below hb6 No) id (fun _ _ => id))
      clear hb6
      obtain ⟨w7, hw7⟩ : ∃ z, z = (w6.alloc (.cells #[.int .i64 s.e, .int .i64 s.p] 54)).alloc (.cells #[.int .i64 k1, .int .i64 0, .string ⟨#[]⟩, .slice none 0 0] 34) := ⟨_, rfl⟩
      have hb7 : Below w6.heap.size w6 w7 := by rw [hw7]; exact (box_below w6 _).alloc (by simp) _
      have hT : Blk w7 w6.heap.size 54 #[.int .i64 s.e, .int .i64 s.p] := by rw [hw7]; exact blk_below (blk_new _ _ _) (box_below _ _)
      have hU : Blk w7 (w6.heap.size + 1) 34 #[.int .i64 k1, .int .i64 0, .string ⟨#[]⟩, .slice none 0 0] := by
        rw [hw7]
        have := blk_new (w6.alloc (.cells #[.int .i64 s.e, .int .i64 s.p] 54)) 34 #[.int .i64 k1, .int .i64 0, .string ⟨#[]⟩, .slice none 0 0]
        rwa [World.size_alloc] at this
      have HB7 := Lib.hid (HB6.out.trans (hb7.mono HB6.out.size)); have HRB7 := Lib.hid (rdb_ch HRB6.out (Ch.of_below hb7 No) id (fun _ _ => id)); have HWR7 := Lib.hid (wr_ch HWR6.out (Ch.of_below hb7 No) id (fun _ _ => id))
      have HT7 := Lib.hid hT; have HU7 := Lib.hid hU
      have hz7 : w6.heap.size + 2 = w7.heap.size := by rw [hw7]; simp
      obtain ⟨a0, _, _⟩ := HASK.out (w6.alloc (.cells #[.int .i64 s.e, .int .i64 s.p] 54)) (HB6.out.trans ((box_below w6 _).mono HB6.out.size))
      have a0 : (w6.alloc (.cells #[.int .i64 s.e, .int .i64 s.p] 54)).cell? ⟨b5, off + k * 3, none⟩ = some (.int .i64 k1) := a0
      obtain ⟨q0, q1, q2⟩ := HASK.out w7 HB7.out
      have q1 : w7.cell? ⟨b5, off + k * 3 + 1, none⟩ = some (.int .i64 lo) := q1
      have q2 : w7.cell? ⟨b5, off + k * 3 + 2, none⟩ = some (.int .i64 hi) := q2
      have q2x := q2
      rw [hw7] at q2x
      have u0 := blk_cell hU 0 _ rfl
      have u1 := blk_cell hU 1 _ rfl
      have u2 := blk_cell hU 2 _ rfl
      have u3 := blk_cell hU 3 _ rfl
      have hAB := HAB.out
      clear hb7 hT hU HRB6 HWR6 HB6 q0
      have hbU : b5 ≠ w6.heap.size + 1 := by omega
      obtain ⟨t, ht⟩ : ∃ t, t = askS s ⟨k1, lo, hi⟩ := ⟨_, rfl⟩
      have htb : t.b = l := by rw [ht, askS_b]; exact HSB.out
      have HT := Lib.hid ht; have HTB := Lib.hid htb
      clear ht htb hAB
      by_cases h0 : k1 = 0
      · have hrn : rnum s lo hi = ((rnum s lo hi).1, t) := by rw [HT.out]; unfold askS; rw [if_pos h0]
        have hNle : (rnum s lo hi).1 ≤ 9223372036854775807 := by have := (rnum_range s lo hi).2; omega
        generalize (rnum s lo hi).1 = N at hrn hNle
        have g3 : (k1 == 0) = true := by simpa using h0
        have HRN := Lib.hid hrn; have H0 := Lib.hid h0; have HNLE := Lib.hid hNle
        clear hrn h0 hNle
        have hW8 : ∀ W, Ch (fun j => j = R) w7 W → RdB W R A6 n6 c6 t → Hid (RdB (W.setCell ⟨w6.heap.size + 1, 1, none⟩ (.int .i64 N)) R A6 n6 c6 t ∧ Wr (W.setCell ⟨w6.heap.size + 1, 1, none⟩ (.int .i64 N)) B v (l.take s.at_) 0 ∧ Below w.heap.size w (W.setCell ⟨w6.heap.size + 1, 1, none⟩ (.int .i64 N)) ∧ Blk (W.setCell ⟨w6.heap.size + 1, 1, none⟩ (.int .i64 N)) w6.heap.size 54 #[.int .i64 s.e, .int .i64 s.p] ∧ Blk (W.setCell ⟨w6.heap.size + 1, 1, none⟩ (.int .i64 N)) (w6.heap.size + 1) 34 #[.int .i64 k1, .int .i64 N, .string ⟨#[]⟩, .slice none 0 0]) := fun W hc hb => Lib.hid ⟨
          rdb_ch0 hb (Ch.setCell W ⟨w6.heap.size + 1, 1, none⟩ (.int .i64 N)) (fun e => by have e : R = w6.heap.size + 1 := e; omega) (fun a ha h0 e => by have h9 := HAB.out a ha h0; have e : a.block = w6.heap.size + 1 := e; omega),
          wr_ch (wr_ch HWR7.out hc (by omega) (fun j hj e => by have h9 := wr_own HWR7.out hj; have e : j = R := e; omega)) (Ch.setCell W ⟨w6.heap.size + 1, 1, none⟩ (.int .i64 N)) (fun e => by have e : B = w6.heap.size + 1 := e; omega) (fun j hj e => by have h9 := (wr_own HWR.out hj).2; have e : j = w6.heap.size + 1 := e; omega),
          (ch_set ((Ch.of_below HB7.out (fun j => j = R ∨ j = w6.heap.size + 1)).trans hc (fun i hi => .inl (.inl hi))) ⟨w6.heap.size + 1, 1, none⟩ (.int .i64 N) (.inr rfl)).below (Nat.le_refl _) (fun j hj => by omega),
          blk_ch (blk_ch HT7.out hc (by omega)) (Ch.setCell W ⟨w6.heap.size + 1, 1, none⟩ (.int .i64 N)) (fun e => by have e : w6.heap.size = w6.heap.size + 1 := e; omega),
          blk_set (blk_ch HU7.out hc (by omega)) 1 (.int .i64 N)⟩
        have HW8 := Lib.hid hW8
        clear hW8 u0 u1 u2 u3
        have hrb7 := HRB7.out
        go_wp2_with fail
        rw [← hw7]
        clear hw7 a0 q2x
        go_region_held3 (fun W => W.cell? ⟨b5, off + k * 3 + 1, none⟩ = some (.int .i64 lo) ∧ W.cell? ⟨b5, off + k * 3 + 2, none⟩ = some (.int .i64 hi))
          (first | exact ⟨q1, q2⟩ | exact ⟨d1, d2⟩ | exact ⟨(cell_far _ _ _ _ hbU).trans d1, (cell_far _ _ _ _ hbU).trans d2⟩)
          (first | (go_at_call 37; refine (num_any (rdb_ch hrb7 (Ch.drew w7 No) id (fun _ _ => id)) lo hi).mono ?_; rw [HRN.out]; rintro e w8 ⟨rfl, hb8, hch8⟩; have hc8 : Ch (fun j => j = R) w7 w8 := (Ch.drew w7 _).trans hch8 (fun i hi => .inl hi); have d1 := (World.cell?_of_block (a := ⟨b5, off + k * 3 + 1, none⟩) (hc8.block b5 (by omega) (by omega))).trans q1; have d2 := (World.cell?_of_block (a := ⟨b5, off + k * 3 + 2, none⟩) (hc8.block b5 (by omega) (by omega))).trans q2; have u1 := blk_cell (blk_ch HU7.out hc8 (by omega)) 1 _ rfl; have uf := blk_thawed (blk_ch HU7.out hc8 (by omega)) 1))
        have hW8 := HW8.out
        clear u1 uf d1 d2 q1 q2 hrb7
        obtain ⟨HRB8, HWR8, HB8, HT8, HU8⟩ := (hW8 w8 hc8 hb8).out
        have HRB8 := Lib.hid HRB8; have HWR8 := Lib.hid HWR8; have HB8 := Lib.hid HB8; have HT8 := Lib.hid HT8; have HU8 := Lib.hid HU8
        clear hW8 hc8 hb8 HRB HRB7 HWR7 HB7 HT7 HU7
        have u0 := blk_cell HU8.out 0 _ rfl
        have u1 := blk_cell HU8.out 1 _ rfl
        have u2 := blk_cell HU8.out 2 _ rfl
        have u3 := blk_cell HU8.out 3 _ rfl
        have t0 := blk_cell HT8.out 0 _ rfl
        have t1 := blk_cell HT8.out 1 _ rfl
        have htl : t.b.length = n0 := by rw [HTB.out, HL.out]
        have htf := HRB8.out.fit.le
        rw [htl] at htf
        have hleft : ((t.b.length : Int) - t.at_) = (n0 : Int) - t.at_ := by rw [htl]
        have hsum : IntKind.i64.wrap ((t.at_ : Int) + ((n0 : Int) - t.at_)) = (n0 : Int) := by rw [IntKind.wrap_i64]; omega
        have hmono : s.at_ ≤ t.at_ := by
          by_cases h : (askS s ⟨k1, lo, hi⟩).e = 0
          · have := (again_step s ⟨k1, lo, hi⟩ (askS_ok _ _ h) h).1
            rw [HT.out, this]; show s.at_ ≤ s.at_ + _; omega
          · rw [HT.out, (askS_fault _ _ h).1]; exact Nat.le_refl _
        have gm1 : decide ((t.at_ : Int) < (s.at_ : Int)) = false := decide_eq_false (by omega)
        have gm2 : decide ((n0 : Int) < (t.at_ : Int)) = false := decide_eq_false (by omega)
        have HLEFT := Lib.hid hleft
        clear hleft
        go_wp2_with fail
        refine (rat_any HRB8.out).mono ?_
        rintro e w9 ⟨rfl, rfl⟩
        go_wp2_with fail
        refine (rat_any HRB8.out).mono ?_
        rintro e w9 ⟨rfl, rfl⟩
        go_wp2_with fail
        refine (rat_any HRB8.out).mono ?_
        rintro e w9 ⟨rfl, rfl⟩
        go_wp2_with fail
        refine (rleft_any HRB8.out).mono ?_
        rw [HLEFT.out]
        rintro e w9 ⟨rfl, hch9⟩
        have HRB9 := Lib.hid (rdb_ch HRB8.out hch9 id (fun _ _ => id)); have HWR9 := Lib.hid (wr_ch HWR8.out hch9 id (fun _ _ => id)); have HB9 := Lib.hid (HB8.out.trans (hch9.below HB8.out.size (fun _ h => False.elim h)))
        have HU9 := Lib.hid (blk_ch HU8.out hch9 id); have HT9 := Lib.hid (blk_ch HT8.out hch9 id); have hz9 := hch9.size
        clear hch9 u0 u1 u2 u3 t0 t1
        go_wp2_with fail
        refine (fault_any HRB9.out).mono ?_
        rintro e w10 ⟨hea, hba⟩
        have hea : e = .returned (.agg #[.int .i64 t.e, .int .i64 t.p]) := hea
        subst hea
        have HRBa := Lib.hid (rdb_ch HRB9.out (Ch.of_below hba No) id (fun _ _ => id)); have HWRa := Lib.hid (wr_ch HWR9.out (Ch.of_below hba No) id (fun _ _ => id)); have HBa := Lib.hid (HB9.out.trans (hba.mono HB9.out.size))
        have HUa := Lib.hid (blk_below HU9.out hba); have HTa := Lib.hid (blk_below HT9.out hba); have hza := hba.size
        clear hba HRB9 HWR9 HU9 HT9 HB9
        have hfd : ∀ w, (Instr.field 54 (.agg #[.int .i64 t.e, .int .i64 t.p]) 0).run Try.prog w = .ok (.int .i64 t.e) w := fun _ => rfl
        have u0 := blk_cell HUa.out 0 _ rfl
        have u1 := blk_cell HUa.out 1 _ rfl
        have u2 := blk_cell HUa.out 2 _ rfl
        have u3 := blk_cell HUa.out 3 _ rfl
        have t0 := blk_cell HTa.out 0 _ rfl
        have t1 := blk_cell HTa.out 1 _ rfl
        by_cases he : t.e = 0
        · have ge : (t.e == 0) = true := by simpa using he
          have hstep : actW (l.take s.at_, 0) ⟨k1, N, ⟨#[]⟩, none, 0, 0, []⟩ = (l.take t.at_, 0) := by
            have := again_write s ⟨k1, lo, hi⟩ (by rw [← HT.out]; exact he) (by rw [HSB.out, HL.out]; omega) ⟨k1, N, ⟨#[]⟩, none, 0, 0, []⟩ rfl (fun _ => by rw [HRN.out]) (fun e => by have e : k1 = 1 := e; have := H0.out; omega) (fun e => absurd H0.out e)
            rw [HSB.out, ← HT.out] at this
            exact this
          have HST := Lib.hid hstep
          clear hstep he
          go_wp2_with fail
          refine (write_any (p := (l.take s.at_, 0)) HWRa.out (by show (l.take s.at_).length ≤ _; rw [List.length_take]; have := HL.out; omega) ⟨k1, N, ⟨#[]⟩, none, 0, 0, []⟩ (acOk_none _ _ _ _ HNLE.out (by decide)) (fun a ha => by cases ha)).mono ?_
          rw [HST.out]
          rintro e w11 ⟨rfl, v2, hwr2, hch2, ho2⟩
          have hrb2 := rdb_ch0 HRBa.out hch2 (by rintro (e | e); omega; have := wr_own HWRa.out e; omega) (fun a ha h0 => by have h9 := HAB.out a ha h0; rintro (e | e); omega; have := wr_own HWRa.out e; omega)
          have hbe := ((Ch.of_below HBa.out (fun j => j = B ∨ v.ownBlock = some j)).trans hch2 (fun i hi => .inl hi)).below (Nat.le_refl _) (fun j hj => by rcases hj with e | e; omega; have := wr_own HWRa.out e; omega)
          go_wp2
          go_roundw
          case rel => exact ⟨k + 1, t, v2, by omega, by go_num, HTB.out, hrb2, hwr2, hbe⟩
          case measure => simp [intOf]; omega
        · have ge : (t.e == 0) = false := by simpa using he
          have hfa := askS_fault s ⟨k1, lo, hi⟩ (by rw [← HT.out]; exact he)
          rw [← HT.out] at hfa
          obtain ⟨hat, hsame⟩ := hfa
          have hN0 : N = 0 := by
            have h9 := rnum_fault s lo hi (by rw [HRN.out]; exact he)
            rw [HRN.out] at h9
            exact h9.1
          subst hN0
          have hend := rend_bad t he
          have HEND := Lib.hid hend
          have gat : ((t.at_ : Int) != (s.at_ : Int)) = false := by rw [hat]; simp
          by_cases hs : s.e = 0
          · have gs : (s.e != 0) = false := by simpa using hs
            have gs2 : (s.e == 0) = true := by simpa using hs
            clear hend hs hsame
            go_wp2_with fail
            have sS0 : w10.drew.cell? ⟨w6.heap.size, 0, none⟩ = some (.int .i64 s.e) ∧ w10.drew.cell? ⟨w6.heap.size, 1, none⟩ = some (.int .i64 s.p) ∧ w10.drew.cell? ⟨w6.heap.size + 1, 1, none⟩ = some (.int .i64 0) ∧ w10.drew.cell? ⟨w6.heap.size + 1, 2, none⟩ = some (.string ⟨#[]⟩) ∧ w10.drew.cell? ⟨w6.heap.size + 1, 3, none⟩ = some (.slice none 0 0) := ⟨t0, t1, u1, u2, u3⟩
            refine wp_region_held_drew (S := fun W => W.cell? ⟨w6.heap.size, 0, none⟩ = some (.int .i64 s.e) ∧ W.cell? ⟨w6.heap.size, 1, none⟩ = some (.int .i64 s.p) ∧ W.cell? ⟨w6.heap.size + 1, 1, none⟩ = some (.int .i64 0) ∧ W.cell? ⟨w6.heap.size + 1, 2, none⟩ = some (.string ⟨#[]⟩) ∧ W.cell? ⟨w6.heap.size + 1, 3, none⟩ = some (.slice none 0 0)) (by kernel_rfl) sS0 (fun hHeld => ?_)
            refine wpAnyH_take (i := 0) (oi := { dst := some 122, op := Go.Op.fieldAddr 34 (Go.Operand.tmp 11) 1, type := 0, pos := "outright.go:143", after := #[], guard := none }) (v := .pointer (some ⟨w6.heap.size + 1, 1, none⟩)) rfl (by kernel_rfl) (by kernel_rfl) (by kernel_rfl) (fun _ _ _ h => h) (Or.inl ⟨by rfl, ?_⟩) (by assumption) ?_
            · intro W hSw
              go_simp
            simp only [Act.put, List.setIfInBounds_toArray, List.set_cons_zero, List.set_cons_succ]
            refine wpAnyH_take (i := 1) (oi := { dst := some 123, op := Go.Op.load 3 (Go.Operand.tmp 122), type := 3, pos := "outright.go:143", after := #[{ on := 0, ground := Go.Ground.data }], guard := none }) (v := .int .i64 0) rfl (by kernel_rfl) (by kernel_rfl) (by kernel_rfl) (fun _ _ _ h => h) (Or.inl ⟨by rfl, ?_⟩) (by assumption) ?_
            · intro W hSw
              go_simp
            simp only [Act.put, List.setIfInBounds_toArray, List.set_cons_zero, List.set_cons_succ]
            refine wpAnyH_take (i := 2) (oi := { dst := some 124, op := Go.Op.binOp Go.BinOp.neq 3 (Go.Operand.tmp 123) (Go.Operand.const (Go.Value.int Go.IntKind.i64 0)) 3, type := 4, pos := "outright.go:143", after := #[{ on := 1, ground := Go.Ground.data }], guard := none }) (v := .bool false) rfl (by kernel_rfl) (by kernel_rfl) (by kernel_rfl) (fun _ _ _ h => h) (Or.inl ⟨by rfl, ?_⟩) (by assumption) ?_
            · intro W hSw
              go_simp
            simp only [Act.put, List.setIfInBounds_toArray, List.set_cons_zero, List.set_cons_succ]
            refine wpAnyH_take (i := 3) (oi := { dst := some 125, op := Go.Op.move (Go.Operand.tmp 124), type := 4, pos := "outright.go:143", after := #[{ on := 2, ground := Go.Ground.data }], guard := none }) (v := .bool false) rfl (by kernel_rfl) (by kernel_rfl) (by kernel_rfl) (fun _ _ _ h => h) (Or.inl ⟨by rfl, ?_⟩) (by assumption) ?_
            · intro W hSw
              go_simp
            simp only [Act.put, List.setIfInBounds_toArray, List.set_cons_zero, List.set_cons_succ]
            refine wpAnyH_take (i := 4) (oi := { dst := some 126, op := Go.Op.fieldAddr 34 (Go.Operand.tmp 11) 2, type := 0, pos := "outright.go:143", after := #[{ on := 3, ground := Go.Ground.guard }], guard := some (3, false) }) (v := .pointer (some ⟨w6.heap.size + 1, 2, none⟩)) rfl (by kernel_rfl) (by kernel_rfl) (by kernel_rfl) (fun _ _ _ h => h) (Or.inl ⟨by rfl, ?_⟩) (by assumption) ?_
            · intro W hSw
              go_simp
            simp only [Act.put, List.setIfInBounds_toArray, List.set_cons_zero, List.set_cons_succ]
            refine wpAnyH_take (i := 5) (oi := { dst := some 127, op := Go.Op.load 9 (Go.Operand.tmp 126), type := 9, pos := "outright.go:143", after := #[{ on := 4, ground := Go.Ground.data }, { on := 3, ground := Go.Ground.guard }], guard := some (3, false) }) (v := .string ⟨#[]⟩) rfl (by kernel_rfl) (by kernel_rfl) (by kernel_rfl) (fun _ _ _ h => h) (Or.inl ⟨by rfl, ?_⟩) (by assumption) ?_
            · intro W hSw
              go_simp
            simp only [Act.put, List.setIfInBounds_toArray, List.set_cons_zero, List.set_cons_succ]
            refine wpAnyH_take (i := 6) (oi := { dst := some 128, op := Go.Op.binOp Go.BinOp.neq 9 (Go.Operand.tmp 127) (Go.Operand.const (Go.Value.string { data := #[] })) 9, type := 4, pos := "outright.go:143", after := #[{ on := 5, ground := Go.Ground.data }, { on := 3, ground := Go.Ground.guard }], guard := some (3, false) }) (v := .bool false) rfl (by kernel_rfl) (by kernel_rfl) (by kernel_rfl) (fun _ _ _ h => h) (Or.inl ⟨by rfl, ?_⟩) (by assumption) ?_
            · intro W hSw
              go_simp
            simp only [Act.put, List.setIfInBounds_toArray, List.set_cons_zero, List.set_cons_succ]
            refine wpAnyH_take (i := 7) (oi := { dst := some 129, op := Go.Op.pick (Go.Operand.tmp 125) (Go.Operand.const (Go.Value.bool true)) (Go.Operand.tmp 128), type := 4, pos := "outright.go:143", after := #[{ on := 3, ground := Go.Ground.data }, { on := 6, ground := Go.Ground.data }], guard := none }) (v := .bool false) rfl (by kernel_rfl) (by kernel_rfl) (by kernel_rfl) (fun _ _ _ h => h) (Or.inl ⟨by rfl, ?_⟩) (by assumption) ?_
            · intro W hSw
              go_simp
            simp only [Act.put, List.setIfInBounds_toArray, List.set_cons_zero, List.set_cons_succ]
            refine wpAnyH_take (i := 8) (oi := { dst := some 130, op := Go.Op.move (Go.Operand.tmp 129), type := 4, pos := "outright.go:143", after := #[{ on := 7, ground := Go.Ground.data }, { on := 3, ground := Go.Ground.chain }], guard := none }) (v := .bool false) rfl (by kernel_rfl) (by kernel_rfl) (by kernel_rfl) (fun _ _ _ h => h) (Or.inl ⟨by rfl, ?_⟩) (by assumption) ?_
            · intro W hSw
              go_simp
            simp only [Act.put, List.setIfInBounds_toArray, List.set_cons_zero, List.set_cons_succ]
            refine wpAnyH_take (i := 9) (oi := { dst := some 131, op := Go.Op.fieldAddr 34 (Go.Operand.tmp 11) 3, type := 0, pos := "outright.go:143", after := #[{ on := 8, ground := Go.Ground.guard }], guard := some (8, false) }) (v := .pointer (some ⟨w6.heap.size + 1, 3, none⟩)) rfl (by kernel_rfl) (by kernel_rfl) (by kernel_rfl) (fun _ _ _ h => h) (Or.inl ⟨by rfl, ?_⟩) (by assumption) ?_
            · intro W hSw
              go_simp
            simp only [Act.put, List.setIfInBounds_toArray, List.set_cons_zero, List.set_cons_succ]
            refine wpAnyH_take (i := 10) (oi := { dst := some 132, op := Go.Op.load 26 (Go.Operand.tmp 131), type := 26, pos := "outright.go:143", after := #[{ on := 9, ground := Go.Ground.data }, { on := 8, ground := Go.Ground.guard }], guard := some (8, false) }) (v := .slice none 0 0) rfl (by kernel_rfl) (by kernel_rfl) (by kernel_rfl) (fun _ _ _ h => h) (Or.inl ⟨by rfl, ?_⟩) (by assumption) ?_
            · intro W hSw
              go_simp
            simp only [Act.put, List.setIfInBounds_toArray, List.set_cons_zero, List.set_cons_succ]
            refine wpAnyH_take (i := 11) (oi := { dst := some 133, op := Go.Op.call { callee := Go.Callee.builtin Go.Builtin.len, args := #[Go.Operand.tmp 132], argTypes := #[26] }, type := 3, pos := "outright.go:143", after := #[{ on := 10, ground := Go.Ground.data }, { on := 8, ground := Go.Ground.guard }], guard := some (8, false) }) (v := .int .i64 0) rfl (by kernel_rfl) (by kernel_rfl) (by kernel_rfl) (fun _ _ _ h => h) (Or.inl ⟨by rfl, ?_⟩) (by assumption) ?_
            · intro W hSw
              go_simp
            simp only [Act.put, List.setIfInBounds_toArray, List.set_cons_zero, List.set_cons_succ]
            refine wpAnyH_take (i := 12) (oi := { dst := some 134, op := Go.Op.binOp Go.BinOp.gtr 3 (Go.Operand.tmp 133) (Go.Operand.const (Go.Value.int Go.IntKind.i64 0)) 3, type := 4, pos := "outright.go:143", after := #[{ on := 11, ground := Go.Ground.data }, { on := 8, ground := Go.Ground.guard }], guard := some (8, false) }) (v := .bool false) rfl (by kernel_rfl) (by kernel_rfl) (by kernel_rfl) (fun _ _ _ h => h) (Or.inl ⟨by rfl, ?_⟩) (by assumption) ?_
            · intro W hSw
              go_simp
            simp only [Act.put, List.setIfInBounds_toArray, List.set_cons_zero, List.set_cons_succ]
            refine wpAnyH_take (i := 13) (oi := { dst := some 135, op := Go.Op.pick (Go.Operand.tmp 130) (Go.Operand.const (Go.Value.bool true)) (Go.Operand.tmp 134), type := 4, pos := "outright.go:143", after := #[{ on := 8, ground := Go.Ground.data }, { on := 12, ground := Go.Ground.data }], guard := none }) (v := .bool false) rfl (by kernel_rfl) (by kernel_rfl) (by kernel_rfl) (fun _ _ _ h => h) (Or.inl ⟨by rfl, ?_⟩) (by assumption) ?_
            · intro W hSw
              go_simp
            simp only [Act.put, List.setIfInBounds_toArray, List.set_cons_zero, List.set_cons_succ]
            refine wpAnyH_take (i := 14) (oi := { dst := some 136, op := Go.Op.move (Go.Operand.tmp 135), type := 4, pos := "outright.go:143", after := #[{ on := 13, ground := Go.Ground.data }, { on := 8, ground := Go.Ground.chain }], guard := none }) (v := .bool false) rfl (by kernel_rfl) (by kernel_rfl) (by kernel_rfl) (fun _ _ _ h => h) (Or.inl ⟨by rfl, ?_⟩) (by assumption) ?_
            · intro W hSw
              go_simp
            simp only [Act.put, List.setIfInBounds_toArray, List.set_cons_zero, List.set_cons_succ]
            refine wpAnyH_take (i := 15) (oi := { dst := some 137, op := Go.Op.move (Go.Operand.tmp 6), type := 47, pos := "outright.go:143", after := #[{ on := 14, ground := Go.Ground.guard }], guard := some (14, false) }) (v := .pointer (some ⟨R, 0, none⟩)) rfl (by kernel_rfl) (by kernel_rfl) (by kernel_rfl) (fun _ _ _ h => h) (Or.inl ⟨by rfl, ?_⟩) (by assumption) ?_
            · intro W hSw
              go_simp
            simp only [Act.put, List.setIfInBounds_toArray, List.set_cons_zero, List.set_cons_succ]
            refine wpAnyH_take (i := 17) (oi := { dst := some 139, op := Go.Op.move (Go.Operand.tmp 9), type := 3, pos := "outright.go:143", after := #[{ on := 14, ground := Go.Ground.guard }], guard := some (14, false) }) (v := .int .i64 s.at_) rfl (by kernel_rfl) (by kernel_rfl) (by kernel_rfl) (fun _ _ _ h => h) (Or.inl ⟨by rfl, ?_⟩) (by assumption) ?_
            · intro W hSw
              go_simp
            simp only [Act.put, List.setIfInBounds_toArray, List.set_cons_zero, List.set_cons_succ]
            refine wpAnyH_ready (rs := [16]) (by kernel_rfl) (by simp) ?_
            refine AllReadyH.cons (o := { dst := some 138, op := Go.Op.call { callee := Go.Callee.value (Go.Operand.func 30), args := #[Go.Operand.tmp 137], argTypes := #[47] }, type := 3, pos := "outright.go:143", after := #[{ on := 15, ground := Go.Ground.data }, { on := 14, ground := Go.Ground.chain }, { on := 14, ground := Go.Ground.guard }], guard := some (14, false) }) rfl (fun K hK => ?_) AllReadyH.nil
            go_simp
            refine (rat_any (rdb_ch HRBa.out (Ch.drew w10 No) id (fun _ _ => id))).mono ?_; rintro e wx ⟨rfl, rfl⟩
            go_wp2_with fail
            refine hK.out _ _ sS0 (fun hHeld => ?_)
            clear hK K
            try simp only [Act.put, List.setIfInBounds_toArray, List.set_cons_zero, List.set_cons_succ]
            refine wpAnyH_take (i := 18) (oi := { dst := some 140, op := Go.Op.binOp Go.BinOp.neq 3 (Go.Operand.tmp 138) (Go.Operand.tmp 139) 3, type := 4, pos := "outright.go:143", after := #[{ on := 16, ground := Go.Ground.data }, { on := 17, ground := Go.Ground.data }, { on := 14, ground := Go.Ground.guard }], guard := some (14, false) }) (v := .bool false) rfl (by kernel_rfl) (by kernel_rfl) (by kernel_rfl) (fun _ _ _ h => h) (Or.inl ⟨by rfl, ?_⟩) (by assumption) ?_
            · intro W hSw
              go_simp
            simp only [Act.put, List.setIfInBounds_toArray, List.set_cons_zero, List.set_cons_succ]
            refine wpAnyH_take (i := 19) (oi := { dst := some 141, op := Go.Op.pick (Go.Operand.tmp 136) (Go.Operand.const (Go.Value.bool true)) (Go.Operand.tmp 140), type := 4, pos := "outright.go:143", after := #[{ on := 14, ground := Go.Ground.data }, { on := 18, ground := Go.Ground.data }], guard := none }) (v := .bool false) rfl (by kernel_rfl) (by kernel_rfl) (by kernel_rfl) (fun _ _ _ h => h) (Or.inl ⟨by rfl, ?_⟩) (by assumption) ?_
            · intro W hSw
              go_simp
            simp only [Act.put, List.setIfInBounds_toArray, List.set_cons_zero, List.set_cons_succ]
            refine wpAnyH_take (i := 20) (oi := { dst := some 142, op := Go.Op.move (Go.Operand.tmp 141), type := 4, pos := "outright.go:143", after := #[{ on := 19, ground := Go.Ground.data }, { on := 16, ground := Go.Ground.chain }], guard := none }) (v := .bool false) rfl (by kernel_rfl) (by kernel_rfl) (by kernel_rfl) (fun _ _ _ h => h) (Or.inl ⟨by rfl, ?_⟩) (by assumption) ?_
            · intro W hSw
              go_simp
            simp only [Act.put, List.setIfInBounds_toArray, List.set_cons_zero, List.set_cons_succ]
            refine wpAnyH_take (i := 21) (oi := { dst := some 143, op := Go.Op.fieldAddr 54 (Go.Operand.tmp 10) 0, type := 0, pos := "outright.go:143", after := #[{ on := 20, ground := Go.Ground.guard }], guard := some (20, false) }) (v := .pointer (some ⟨w6.heap.size, 0, none⟩)) rfl (by kernel_rfl) (by kernel_rfl) (by kernel_rfl) (fun _ _ _ h => h) (Or.inl ⟨by rfl, ?_⟩) (by assumption) ?_
            · intro W hSw
              go_simp
            simp only [Act.put, List.setIfInBounds_toArray, List.set_cons_zero, List.set_cons_succ]
            refine wpAnyH_take (i := 22) (oi := { dst := some 144, op := Go.Op.load 27 (Go.Operand.tmp 143), type := 27, pos := "outright.go:143", after := #[{ on := 21, ground := Go.Ground.data }, { on := 20, ground := Go.Ground.guard }], guard := some (20, false) }) (v := .int .i64 s.e) rfl (by kernel_rfl) (by kernel_rfl) (by kernel_rfl) (fun _ _ _ h => h) (Or.inl ⟨by rfl, ?_⟩) (by assumption) ?_
            · intro W hSw
              go_simp
            simp only [Act.put, List.setIfInBounds_toArray, List.set_cons_zero, List.set_cons_succ]
            refine wpAnyH_take (i := 23) (oi := { dst := some 145, op := Go.Op.binOp Go.BinOp.neq 27 (Go.Operand.tmp 144) (Go.Operand.const (Go.Value.int Go.IntKind.i64 0)) 27, type := 4, pos := "outright.go:143", after := #[{ on := 22, ground := Go.Ground.data }, { on := 20, ground := Go.Ground.guard }], guard := some (20, false) }) (v := .bool false) rfl (by kernel_rfl) (by kernel_rfl) (by kernel_rfl) (fun _ _ _ h => h) (Or.inl ⟨by rfl, ?_⟩) (by assumption) ?_
            · intro W hSw
              go_simp
            simp only [Act.put, List.setIfInBounds_toArray, List.set_cons_zero, List.set_cons_succ]
            refine wpAnyH_take (i := 24) (oi := { dst := some 146, op := Go.Op.move (Go.Operand.tmp 145), type := 4, pos := "outright.go:143", after := #[{ on := 23, ground := Go.Ground.data }, { on := 20, ground := Go.Ground.chain }, { on := 20, ground := Go.Ground.guard }], guard := some (20, false) }) (v := .bool false) rfl (by kernel_rfl) (by kernel_rfl) (by kernel_rfl) (fun _ _ _ h => h) (Or.inl ⟨by rfl, ?_⟩) (by assumption) ?_
            · intro W hSw
              go_simp
            simp only [Act.put, List.setIfInBounds_toArray, List.set_cons_zero, List.set_cons_succ]
            refine wpAnyH_take (i := 25) (oi := { dst := some 147, op := Go.Op.move (Go.Operand.tmp 6), type := 47, pos := "outright.go:143", after := #[{ on := 24, ground := Go.Ground.guard }], guard := some (24, true) }) (v := undef) rfl (by kernel_rfl) (by kernel_rfl) (by kernel_rfl) (fun _ _ _ h => h) (Or.inr ⟨by rfl, rfl⟩) (by assumption) ?_
            simp only [Act.put, List.setIfInBounds_toArray, List.set_cons_zero, List.set_cons_succ]
            refine wpAnyH_take (i := 26) (oi := { dst := some 148, op := Go.Op.call { callee := Go.Callee.value (Go.Operand.func 33), args := #[Go.Operand.tmp 147], argTypes := #[47] }, type := 54, pos := "outright.go:143", after := #[{ on := 25, ground := Go.Ground.data }, { on := 24, ground := Go.Ground.chain }, { on := 24, ground := Go.Ground.guard }], guard := some (24, true) }) (v := undef) rfl (by kernel_rfl) (by kernel_rfl) (by kernel_rfl) (fun _ _ _ h => h) (Or.inr ⟨by rfl, rfl⟩) (by assumption) ?_
            simp only [Act.put, List.setIfInBounds_toArray, List.set_cons_zero, List.set_cons_succ]
            refine wpAnyH_take (i := 27) (oi := { dst := some 149, op := Go.Op.load 54 (Go.Operand.tmp 10), type := 54, pos := "outright.go:143", after := #[{ on := 24, ground := Go.Ground.guard }], guard := some (24, true) }) (v := undef) rfl (by kernel_rfl) (by kernel_rfl) (by kernel_rfl) (fun _ _ _ h => h) (Or.inr ⟨by rfl, rfl⟩) (by assumption) ?_
            simp only [Act.put, List.setIfInBounds_toArray, List.set_cons_zero, List.set_cons_succ]
            refine wpAnyH_take (i := 28) (oi := { dst := some 150, op := Go.Op.binOp Go.BinOp.neq 54 (Go.Operand.tmp 148) (Go.Operand.tmp 149) 54, type := 4, pos := "outright.go:143", after := #[{ on := 26, ground := Go.Ground.data }, { on := 27, ground := Go.Ground.data }, { on := 24, ground := Go.Ground.guard }], guard := some (24, true) }) (v := undef) rfl (by kernel_rfl) (by kernel_rfl) (by kernel_rfl) (fun _ _ _ h => h) (Or.inr ⟨by rfl, rfl⟩) (by assumption) ?_
            simp only [Act.put, List.setIfInBounds_toArray, List.set_cons_zero, List.set_cons_succ]
            refine wpAnyH_take (i := 29) (oi := { dst := some 151, op := Go.Op.pick (Go.Operand.tmp 146) (Go.Operand.tmp 150) (Go.Operand.const (Go.Value.bool false)), type := 4, pos := "outright.go:143", after := #[{ on := 24, ground := Go.Ground.data }, { on := 28, ground := Go.Ground.data }, { on := 20, ground := Go.Ground.guard }], guard := some (20, false) }) (v := .bool false) rfl (by kernel_rfl) (by kernel_rfl) (by kernel_rfl) (fun _ _ _ h => h) (Or.inl ⟨by rfl, ?_⟩) (by assumption) ?_
            · intro W hSw
              go_simp
            simp only [Act.put, List.setIfInBounds_toArray, List.set_cons_zero, List.set_cons_succ]
            refine wpAnyH_take (i := 30) (oi := { dst := some 152, op := Go.Op.pick (Go.Operand.tmp 142) (Go.Operand.const (Go.Value.bool true)) (Go.Operand.tmp 151), type := 4, pos := "outright.go:143", after := #[{ on := 20, ground := Go.Ground.data }, { on := 29, ground := Go.Ground.data }], guard := none }) (v := .bool false) rfl (by kernel_rfl) (by kernel_rfl) (by kernel_rfl) (fun _ _ _ h => h) (Or.inl ⟨by rfl, ?_⟩) (by assumption) ?_
            · intro W hSw
              go_simp
            simp only [Act.put, List.setIfInBounds_toArray, List.set_cons_zero, List.set_cons_succ]
            refine wpAnyH_take (i := 31) (oi := { dst := some 153, op := Go.Op.move (Go.Operand.tmp 152), type := 4, pos := "outright.go:143", after := #[{ on := 30, ground := Go.Ground.data }, { on := 26, ground := Go.Ground.chain }], guard := none }) (v := .bool false) rfl (by kernel_rfl) (by kernel_rfl) (by kernel_rfl) (fun _ _ _ h => h) (Or.inl ⟨by rfl, ?_⟩) (by assumption) ?_
            · intro W hSw
              go_simp
            simp only [Act.put, List.setIfInBounds_toArray, List.set_cons_zero, List.set_cons_succ]
            refine wpAnyH_take (i := 32) (oi := { dst := some 154, op := Go.Op.move (Go.Operand.tmp 6), type := 47, pos := "outright.go:143", after := #[{ on := 31, ground := Go.Ground.guard }], guard := some (31, false) }) (v := .pointer (some ⟨R, 0, none⟩)) rfl (by kernel_rfl) (by kernel_rfl) (by kernel_rfl) (fun _ _ _ h => h) (Or.inl ⟨by rfl, ?_⟩) (by assumption) ?_
            · intro W hSw
              go_simp
            simp only [Act.put, List.setIfInBounds_toArray, List.set_cons_zero, List.set_cons_succ]
            refine wpAnyH_take (i := 34) (oi := { dst := some 156, op := Go.Op.move (Go.Operand.tmp 6), type := 47, pos := "outright.go:143", after := #[{ on := 31, ground := Go.Ground.guard }], guard := some (31, false) }) (v := .pointer (some ⟨R, 0, none⟩)) rfl (by kernel_rfl) (by kernel_rfl) (by kernel_rfl) (fun _ _ _ h => h) (Or.inl ⟨by rfl, ?_⟩) (by assumption) ?_
            · intro W hSw
              go_simp
            simp only [Act.put, List.setIfInBounds_toArray, List.set_cons_zero, List.set_cons_succ]
            refine wpAnyH_ready (rs := [33]) (by kernel_rfl) (by simp) ?_
            refine AllReadyH.cons (o := { dst := some 155, op := Go.Op.call { callee := Go.Callee.value (Go.Operand.func 34), args := #[Go.Operand.tmp 154], argTypes := #[47] }, type := 54, pos := "outright.go:143", after := #[{ on := 32, ground := Go.Ground.data }, { on := 31, ground := Go.Ground.chain }, { on := 31, ground := Go.Ground.guard }], guard := some (31, false) }) rfl (fun K hK => ?_) AllReadyH.nil
            go_simp
            refine (end_any (rdb_ch HRBa.out (Ch.drew w10 No) id (fun _ _ => id))).mono ?_; rw [HEND.out]; rintro e wE ⟨rfl, hbE'⟩
            have hbE : Below w10.heap.size w10 wE := ((Ch.drew w10 No).below (Nat.le_refl _) (fun _ h => h.elim)).trans hbE'
            go_wp2_with fail
            refine hK.out _ _ ⟨below_cell hbE t0, below_cell hbE t1, below_cell hbE u1, below_cell hbE u2, below_cell hbE u3⟩ (fun hHeld => ?_)
            clear hK K
            try simp only [Act.put, List.setIfInBounds_toArray, List.set_cons_zero, List.set_cons_succ]
            refine wpAnyH_ready (rs := [35]) (by kernel_rfl) (by simp) ?_
            refine AllReadyH.cons (o := { dst := some 157, op := Go.Op.call { callee := Go.Callee.value (Go.Operand.func 33), args := #[Go.Operand.tmp 156], argTypes := #[47] }, type := 54, pos := "outright.go:143", after := #[{ on := 34, ground := Go.Ground.data }, { on := 33, ground := Go.Ground.chain }, { on := 31, ground := Go.Ground.guard }], guard := some (31, false) }) rfl (fun K hK => ?_) AllReadyH.nil
            go_simp
            refine (fault_any (rdb_ch HRBa.out (Ch.of_below hbE No) id (fun _ _ => id))).mono ?_; rintro e wG ⟨rfl, hbG'⟩
            have hbG : Below w10.heap.size w10 wG := hbE.trans (hbG'.mono hbE.size)
            go_wp2_with fail
            refine hK.out _ _ ⟨below_cell hbG t0, below_cell hbG t1, below_cell hbG u1, below_cell hbG u2, below_cell hbG u3⟩ (fun hHeld => ?_)
            clear hK K
            try simp only [Act.put, List.setIfInBounds_toArray, List.set_cons_zero, List.set_cons_succ]
            refine wpAnyH_take (i := 36) (oi := { dst := some 158, op := Go.Op.binOp Go.BinOp.neq 54 (Go.Operand.tmp 155) (Go.Operand.tmp 157) 54, type := 4, pos := "outright.go:143", after := #[{ on := 33, ground := Go.Ground.data }, { on := 35, ground := Go.Ground.data }, { on := 31, ground := Go.Ground.guard }], guard := some (31, false) }) (v := .bool false) rfl (by kernel_rfl) (by kernel_rfl) (by kernel_rfl) (fun _ _ _ h => h) (Or.inl ⟨by rfl, ?_⟩) (by assumption) ?_
            · intro W hSw
              go_simp
            simp only [Act.put, List.setIfInBounds_toArray, List.set_cons_zero, List.set_cons_succ]
            refine wpAnyH_take (i := 37) (oi := { dst := some 159, op := Go.Op.pick (Go.Operand.tmp 153) (Go.Operand.const (Go.Value.bool true)) (Go.Operand.tmp 158), type := 4, pos := "outright.go:143", after := #[{ on := 31, ground := Go.Ground.data }, { on := 36, ground := Go.Ground.data }], guard := none }) (v := .bool false) rfl (by kernel_rfl) (by kernel_rfl) (by kernel_rfl) (fun _ _ _ h => h) (Or.inl ⟨by rfl, ?_⟩) (by assumption) ?_
            · intro W hSw
              go_simp
            simp only [Act.put, List.setIfInBounds_toArray, List.set_cons_zero, List.set_cons_succ]
            refine wpAnyH_done (by kernel_rfl) ?_ _
            all_goals
              go_wp2
              go_roundw
              case rel => exact ⟨k + 1, t, v, by omega, by go_num, HTB.out, rdb_ch HRBa.out (Ch.of_below hbG No) id (fun _ _ => id), by rw [hat]; exact wr_ch HWRa.out (Ch.of_below hbG No) id (fun _ _ => id), HBa.out.trans (hbG.mono HBa.out.size)⟩
              case measure => simp [intOf]; omega
          · have gs : (s.e != 0) = true := by simpa using hs
            have hts := hsame hs
            have hte : t.e = s.e ∧ t.p = s.p := by rw [hts]; exact ⟨rfl, rfl⟩
            have t0' : w10.cell? ⟨w6.heap.size, 0, none⟩ = some (.int .i64 t.e) := by rw [hte.1]; exact t0
            have t1' : w10.cell? ⟨w6.heap.size, 1, none⟩ = some (.int .i64 t.p) := by rw [hte.2]; exact t1
            have gt : (t.e != 0) = true := by simpa using he
            clear hend hs hsame t0 t1 hts hte gs
            go_wp2_with fail
            first
              | (go_region_held3 (fun W => W.cell? ⟨w6.heap.size, 0, none⟩ = some (.int .i64 t.e) ∧ W.cell? ⟨w6.heap.size, 1, none⟩ = some (.int .i64 t.p) ∧ W.cell? ⟨w6.heap.size + 1, 1, none⟩ = some (.int .i64 0) ∧ W.cell? ⟨w6.heap.size + 1, 2, none⟩ = some (.string ⟨#[]⟩) ∧ W.cell? ⟨w6.heap.size + 1, 3, none⟩ = some (.slice none 0 0)) (first | exact ⟨t0', t1', u1, u2, u3⟩ | exact ⟨below_cell hbD t0', below_cell hbD t1', below_cell hbD u1, below_cell hbD u2, below_cell hbD u3⟩ | exact ⟨below_cell hbE t0', below_cell hbE t1', below_cell hbE u1, below_cell hbE u2, below_cell hbE u3⟩ | exact ⟨below_cell hbG t0', below_cell hbG t1', below_cell hbG u1, below_cell hbG u2, below_cell hbG u3⟩) (first | (go_at_call 30; refine (rat_any (rdb_ch HRBa.out (Ch.drew w10 No) id (fun _ _ => id))).mono ?_; rintro e wx ⟨rfl, rfl⟩) | (go_at_call 33; refine (fault_any (rdb_ch HRBa.out (Ch.of_below hbE No) id (fun _ _ => id))).mono ?_; rintro e wG ⟨rfl, hbG'⟩; have hbG : Below w10.heap.size w10 wG := hbE.trans (hbG'.mono hbE.size)) | (go_at_call 33; refine (fault_any (rdb_ch HRBa.out (Ch.drew w10 No) id (fun _ _ => id))).mono ?_; rintro e wD ⟨rfl, hbD'⟩; have hbD : Below w10.heap.size w10 wD := ((Ch.drew w10 No).below (Nat.le_refl _) (fun _ h => h.elim)).trans hbD'; have t0D := below_cell hbD t0'; have t1D := below_cell hbD t1') | (go_at_call 34; refine (end_any (rdb_ch HRBa.out (Ch.of_below hbD No) id (fun _ _ => id))).mono ?_; rw [HEND.out]; rintro e wE ⟨rfl, hbE'⟩; have hbE : Below w10.heap.size w10 wE := hbD.trans (hbE'.mono hbD.size))))
            all_goals
              go_wp2
              go_roundw
              case rel => exact ⟨k + 1, t, v, by omega, by go_num, HTB.out, rdb_ch HRBa.out (Ch.of_below hbG No) id (fun _ _ => id), by rw [hat]; exact wr_ch HWRa.out (Ch.of_below hbG No) id (fun _ _ => id), HBa.out.trans (hbG.mono HBa.out.size)⟩
              case measure => simp [intOf]; omega
      by_cases h1 : k1 = 1
      · have hrn : rraw s hi = ((rraw s hi).1, t) := by rw [HT.out]; unfold askS; rw [if_neg h0]
        have hLle : (rraw s hi).1.length ≤ 1000 := by have := rraw_len s hi; rw [HSB.out, HL.out] at this; omega
        generalize (rraw s hi).1 = L at hrn hLle
        have g3 : (k1 == 0) = false := by simpa using h0
        have g4 : (k1 == 1) = true := by simpa using h1
        have HRN := Lib.hid hrn; have H0 := Lib.hid h0; have H1 := Lib.hid h1; have HLLE := Lib.hid hLle
        clear hrn h0 h1 hLle
        have hW8 : ∀ W, Ch (fun j => j = R) w7 W → RdB W R A6 n6 c6 t → Hid (RdB (W.setCell ⟨w6.heap.size + 1, 2, none⟩ (.string ⟨L.toArray⟩)) R A6 n6 c6 t ∧ Wr (W.setCell ⟨w6.heap.size + 1, 2, none⟩ (.string ⟨L.toArray⟩)) B v (l.take s.at_) 0 ∧ Below w.heap.size w (W.setCell ⟨w6.heap.size + 1, 2, none⟩ (.string ⟨L.toArray⟩)) ∧ Blk (W.setCell ⟨w6.heap.size + 1, 2, none⟩ (.string ⟨L.toArray⟩)) w6.heap.size 54 #[.int .i64 s.e, .int .i64 s.p] ∧ Blk (W.setCell ⟨w6.heap.size + 1, 2, none⟩ (.string ⟨L.toArray⟩)) (w6.heap.size + 1) 34 #[.int .i64 k1, .int .i64 0, .string ⟨L.toArray⟩, .slice none 0 0]) := fun W hc hb => Lib.hid ⟨
          rdb_ch0 hb (Ch.setCell W ⟨w6.heap.size + 1, 2, none⟩ (.string ⟨L.toArray⟩)) (fun e => by have e : R = w6.heap.size + 1 := e; omega) (fun a ha h0 e => by have h9 := HAB.out a ha h0; have e : a.block = w6.heap.size + 1 := e; omega),
          wr_ch (wr_ch HWR7.out hc (by omega) (fun j hj e => by have h9 := wr_own HWR7.out hj; have e : j = R := e; omega)) (Ch.setCell W ⟨w6.heap.size + 1, 2, none⟩ (.string ⟨L.toArray⟩)) (fun e => by have e : B = w6.heap.size + 1 := e; omega) (fun j hj e => by have h9 := (wr_own HWR.out hj).2; have e : j = w6.heap.size + 1 := e; omega),
          (ch_set ((Ch.of_below HB7.out (fun j => j = R ∨ j = w6.heap.size + 1)).trans hc (fun i hi => .inl (.inl hi))) ⟨w6.heap.size + 1, 2, none⟩ (.string ⟨L.toArray⟩) (.inr rfl)).below (Nat.le_refl _) (fun j hj => by omega),
          blk_ch (blk_ch HT7.out hc (by omega)) (Ch.setCell W ⟨w6.heap.size + 1, 2, none⟩ (.string ⟨L.toArray⟩)) (fun e => by have e : w6.heap.size = w6.heap.size + 1 := e; omega),
          blk_set (blk_ch HU7.out hc (by omega)) 2 (.string ⟨L.toArray⟩)⟩
        have HW8 := Lib.hid hW8
        clear hW8 u0 u1 u2 u3
        go_wp2_with fail
        rw [← hw7]
        clear hw7 a0 q2x
        refine (text_any HRB7.out (by omega) hi).mono ?_
        rw [HRN.out]
        rintro e w8 ⟨rfl, hb8, hc8⟩
        have u2 := blk_cell (blk_ch HU7.out hc8 (by omega)) 2 _ rfl
        have uf := blk_thawed (blk_ch HU7.out hc8 (by omega)) 2
        have hW8 := HW8.out
        clear q1 q2
        obtain ⟨HRB8, HWR8, HB8, HT8, HU8⟩ := (hW8 w8 hc8 hb8).out
        have HRB8 := Lib.hid HRB8; have HWR8 := Lib.hid HWR8; have HB8 := Lib.hid HB8; have HT8 := Lib.hid HT8; have HU8 := Lib.hid HU8
        clear HW8 hW8 hc8 hb8 HRB HRB7 HWR7 HB7 HT7 HU7
        have u0 := blk_cell HU8.out 0 _ rfl
        have u1 := blk_cell HU8.out 1 _ rfl
        have u2 := blk_cell HU8.out 2 _ rfl
        have u3 := blk_cell HU8.out 3 _ rfl
        have t0 := blk_cell HT8.out 0 _ rfl
        have t1 := blk_cell HT8.out 1 _ rfl
        have htl : t.b.length = n0 := by rw [HTB.out, HL.out]
        have htf := HRB8.out.fit.le
        rw [htl] at htf
        have hleft : ((t.b.length : Int) - t.at_) = (n0 : Int) - t.at_ := by rw [htl]
        have hsum : IntKind.i64.wrap ((t.at_ : Int) + ((n0 : Int) - t.at_)) = (n0 : Int) := by rw [IntKind.wrap_i64]; omega
        have hmono : s.at_ ≤ t.at_ := by
          by_cases h : (askS s ⟨k1, lo, hi⟩).e = 0
          · have := (again_step s ⟨k1, lo, hi⟩ (askS_ok _ _ h) h).1
            rw [HT.out, this]; show s.at_ ≤ s.at_ + _; omega
          · rw [HT.out, (askS_fault _ _ h).1]; exact Nat.le_refl _
        have gm1 : decide ((t.at_ : Int) < (s.at_ : Int)) = false := decide_eq_false (by omega)
        have gm2 : decide ((n0 : Int) < (t.at_ : Int)) = false := decide_eq_false (by omega)
        have HLEFT := Lib.hid hleft
        clear hleft
        go_wp2_with fail
        refine (rat_any HRB8.out).mono ?_
        rintro e w9 ⟨rfl, rfl⟩
        go_wp2_with fail
        refine (rat_any HRB8.out).mono ?_
        rintro e w9 ⟨rfl, rfl⟩
        go_wp2_with fail
        refine (rat_any HRB8.out).mono ?_
        rintro e w9 ⟨rfl, rfl⟩
        go_wp2_with fail
        refine (rleft_any HRB8.out).mono ?_
        rw [HLEFT.out]
        rintro e w9 ⟨rfl, hch9⟩
        have HRB9 := Lib.hid (rdb_ch HRB8.out hch9 id (fun _ _ => id)); have HWR9 := Lib.hid (wr_ch HWR8.out hch9 id (fun _ _ => id)); have HB9 := Lib.hid (HB8.out.trans (hch9.below HB8.out.size (fun _ h => False.elim h)))
        have HU9 := Lib.hid (blk_ch HU8.out hch9 id); have HT9 := Lib.hid (blk_ch HT8.out hch9 id); have hz9 := hch9.size
        clear hch9 u0 u1 u2 u3 t0 t1
        go_wp2_with fail
        refine (fault_any HRB9.out).mono ?_
        rintro e w10 ⟨hea, hba⟩
        have hea : e = .returned (.agg #[.int .i64 t.e, .int .i64 t.p]) := hea
        subst hea
        have HRBa := Lib.hid (rdb_ch HRB9.out (Ch.of_below hba No) id (fun _ _ => id)); have HWRa := Lib.hid (wr_ch HWR9.out (Ch.of_below hba No) id (fun _ _ => id)); have HBa := Lib.hid (HB9.out.trans (hba.mono HB9.out.size))
        have HUa := Lib.hid (blk_below HU9.out hba); have HTa := Lib.hid (blk_below HT9.out hba); have hza := hba.size
        clear hba HRB9 HWR9 HU9 HT9 HB9
        have hfd : ∀ w, (Instr.field 54 (.agg #[.int .i64 t.e, .int .i64 t.p]) 0).run Try.prog w = .ok (.int .i64 t.e) w := fun _ => rfl
        have u0 := blk_cell HUa.out 0 _ rfl
        have u1 := blk_cell HUa.out 1 _ rfl
        have u2 := blk_cell HUa.out 2 _ rfl
        have u3 := blk_cell HUa.out 3 _ rfl
        have t0 := blk_cell HTa.out 0 _ rfl
        have t1 := blk_cell HTa.out 1 _ rfl
        by_cases he : t.e = 0
        · have ge : (t.e == 0) = true := by simpa using he
          have hstep : actW (l.take s.at_, 0) ⟨k1, 0, ⟨L.toArray⟩, none, 0, 0, []⟩ = (l.take t.at_, 0) := by
            have := again_write s ⟨k1, lo, hi⟩ (by rw [← HT.out]; exact he) (by rw [HSB.out, HL.out]; omega) ⟨k1, 0, ⟨L.toArray⟩, none, 0, 0, []⟩ rfl (fun e => absurd e H0.out) (fun _ => by rw [HRN.out]) (fun _ e => absurd H1.out e)
            rw [HSB.out, ← HT.out] at this
            exact this
          have HST := Lib.hid hstep
          clear hstep he
          go_wp2_with fail
          refine (write_any (p := (l.take s.at_, 0)) HWRa.out (by show (l.take s.at_).length ≤ _; rw [List.length_take]; have := HL.out; omega) ⟨k1, 0, ⟨L.toArray⟩, none, 0, 0, []⟩ (acOk_none _ _ _ _ (by decide) (by have := HLLE.out; show L.toArray.size ≤ 100000000; rw [List.size_toArray]; omega)) (fun a ha => by cases ha)).mono ?_
          rw [HST.out]
          rintro e w11 ⟨rfl, v2, hwr2, hch2, ho2⟩
          have hrb2 := rdb_ch0 HRBa.out hch2 (by rintro (e | e); omega; have := wr_own HWRa.out e; omega) (fun a ha h0 => by have h9 := HAB.out a ha h0; rintro (e | e); omega; have := wr_own HWRa.out e; omega)
          have hbe := ((Ch.of_below HBa.out (fun j => j = B ∨ v.ownBlock = some j)).trans hch2 (fun i hi => .inl hi)).below (Nat.le_refl _) (fun j hj => by rcases hj with e | e; omega; have := wr_own HWRa.out e; omega)
          go_wp2
          go_roundw
          case rel => exact ⟨k + 1, t, v2, by omega, by go_num, HTB.out, hrb2, hwr2, hbe⟩
          case measure => simp [intOf]; omega
        · have ge : (t.e == 0) = false := by simpa using he
          have hfa := askS_fault s ⟨k1, lo, hi⟩ (by rw [← HT.out]; exact he)
          rw [← HT.out] at hfa
          obtain ⟨hat, hsame⟩ := hfa
          have hL0 : L = [] := by
            have h9 := rraw_fault s hi (by rw [HRN.out]; exact he)
            rw [HRN.out] at h9
            exact h9.1
          subst hL0
          have hend := rend_bad t he
          have HEND := Lib.hid hend
          have gat : ((t.at_ : Int) != (s.at_ : Int)) = false := by rw [hat]; simp
          by_cases hs : s.e = 0
          · have gs : (s.e != 0) = false := by simpa using hs
            have gs2 : (s.e == 0) = true := by simpa using hs
            clear hend hs hsame
            go_wp2_with fail
            have sS0 : w10.drew.cell? ⟨w6.heap.size, 0, none⟩ = some (.int .i64 s.e) ∧ w10.drew.cell? ⟨w6.heap.size, 1, none⟩ = some (.int .i64 s.p) ∧ w10.drew.cell? ⟨w6.heap.size + 1, 1, none⟩ = some (.int .i64 0) ∧ w10.drew.cell? ⟨w6.heap.size + 1, 2, none⟩ = some (.string ⟨#[]⟩) ∧ w10.drew.cell? ⟨w6.heap.size + 1, 3, none⟩ = some (.slice none 0 0) := ⟨t0, t1, u1, u2, u3⟩
            refine wp_region_held_drew (S := fun W => W.cell? ⟨w6.heap.size, 0, none⟩ = some (.int .i64 s.e) ∧ W.cell? ⟨w6.heap.size, 1, none⟩ = some (.int .i64 s.p) ∧ W.cell? ⟨w6.heap.size + 1, 1, none⟩ = some (.int .i64 0) ∧ W.cell? ⟨w6.heap.size + 1, 2, none⟩ = some (.string ⟨#[]⟩) ∧ W.cell? ⟨w6.heap.size + 1, 3, none⟩ = some (.slice none 0 0)) (by kernel_rfl) sS0 (fun hHeld => ?_)
            refine wpAnyH_take (i := 0) (oi := { dst := some 122, op := Go.Op.fieldAddr 34 (Go.Operand.tmp 11) 1, type := 0, pos := "outright.go:143", after := #[], guard := none }) (v := .pointer (some ⟨w6.heap.size + 1, 1, none⟩)) rfl (by kernel_rfl) (by kernel_rfl) (by kernel_rfl) (fun _ _ _ h => h) (Or.inl ⟨by rfl, ?_⟩) (by assumption) ?_
            · intro W hSw
              go_simp
            simp only [Act.put, List.setIfInBounds_toArray, List.set_cons_zero, List.set_cons_succ]
            refine wpAnyH_take (i := 1) (oi := { dst := some 123, op := Go.Op.load 3 (Go.Operand.tmp 122), type := 3, pos := "outright.go:143", after := #[{ on := 0, ground := Go.Ground.data }], guard := none }) (v := .int .i64 0) rfl (by kernel_rfl) (by kernel_rfl) (by kernel_rfl) (fun _ _ _ h => h) (Or.inl ⟨by rfl, ?_⟩) (by assumption) ?_
            · intro W hSw
              go_simp
            simp only [Act.put, List.setIfInBounds_toArray, List.set_cons_zero, List.set_cons_succ]
            refine wpAnyH_take (i := 2) (oi := { dst := some 124, op := Go.Op.binOp Go.BinOp.neq 3 (Go.Operand.tmp 123) (Go.Operand.const (Go.Value.int Go.IntKind.i64 0)) 3, type := 4, pos := "outright.go:143", after := #[{ on := 1, ground := Go.Ground.data }], guard := none }) (v := .bool false) rfl (by kernel_rfl) (by kernel_rfl) (by kernel_rfl) (fun _ _ _ h => h) (Or.inl ⟨by rfl, ?_⟩) (by assumption) ?_
            · intro W hSw
              go_simp
            simp only [Act.put, List.setIfInBounds_toArray, List.set_cons_zero, List.set_cons_succ]
            refine wpAnyH_take (i := 3) (oi := { dst := some 125, op := Go.Op.move (Go.Operand.tmp 124), type := 4, pos := "outright.go:143", after := #[{ on := 2, ground := Go.Ground.data }], guard := none }) (v := .bool false) rfl (by kernel_rfl) (by kernel_rfl) (by kernel_rfl) (fun _ _ _ h => h) (Or.inl ⟨by rfl, ?_⟩) (by assumption) ?_
            · intro W hSw
              go_simp
            simp only [Act.put, List.setIfInBounds_toArray, List.set_cons_zero, List.set_cons_succ]
            refine wpAnyH_take (i := 4) (oi := { dst := some 126, op := Go.Op.fieldAddr 34 (Go.Operand.tmp 11) 2, type := 0, pos := "outright.go:143", after := #[{ on := 3, ground := Go.Ground.guard }], guard := some (3, false) }) (v := .pointer (some ⟨w6.heap.size + 1, 2, none⟩)) rfl (by kernel_rfl) (by kernel_rfl) (by kernel_rfl) (fun _ _ _ h => h) (Or.inl ⟨by rfl, ?_⟩) (by assumption) ?_
            · intro W hSw
              go_simp
            simp only [Act.put, List.setIfInBounds_toArray, List.set_cons_zero, List.set_cons_succ]
            refine wpAnyH_take (i := 5) (oi := { dst := some 127, op := Go.Op.load 9 (Go.Operand.tmp 126), type := 9, pos := "outright.go:143", after := #[{ on := 4, ground := Go.Ground.data }, { on := 3, ground := Go.Ground.guard }], guard := some (3, false) }) (v := .string ⟨#[]⟩) rfl (by kernel_rfl) (by kernel_rfl) (by kernel_rfl) (fun _ _ _ h => h) (Or.inl ⟨by rfl, ?_⟩) (by assumption) ?_
            · intro W hSw
              go_simp
            simp only [Act.put, List.setIfInBounds_toArray, List.set_cons_zero, List.set_cons_succ]
            refine wpAnyH_take (i := 6) (oi := { dst := some 128, op := Go.Op.binOp Go.BinOp.neq 9 (Go.Operand.tmp 127) (Go.Operand.const (Go.Value.string { data := #[] })) 9, type := 4, pos := "outright.go:143", after := #[{ on := 5, ground := Go.Ground.data }, { on := 3, ground := Go.Ground.guard }], guard := some (3, false) }) (v := .bool false) rfl (by kernel_rfl) (by kernel_rfl) (by kernel_rfl) (fun _ _ _ h => h) (Or.inl ⟨by rfl, ?_⟩) (by assumption) ?_
            · intro W hSw
              go_simp
            simp only [Act.put, List.setIfInBounds_toArray, List.set_cons_zero, List.set_cons_succ]
            refine wpAnyH_take (i := 7) (oi := { dst := some 129, op := Go.Op.pick (Go.Operand.tmp 125) (Go.Operand.const (Go.Value.bool true)) (Go.Operand.tmp 128), type := 4, pos := "outright.go:143", after := #[{ on := 3, ground := Go.Ground.data }, { on := 6, ground := Go.Ground.data }], guard := none }) (v := .bool false) rfl (by kernel_rfl) (by kernel_rfl) (by kernel_rfl) (fun _ _ _ h => h) (Or.inl ⟨by rfl, ?_⟩) (by assumption) ?_
            · intro W hSw
              go_simp
            simp only [Act.put, List.setIfInBounds_toArray, List.set_cons_zero, List.set_cons_succ]
            refine wpAnyH_take (i := 8) (oi := { dst := some 130, op := Go.Op.move (Go.Operand.tmp 129), type := 4, pos := "outright.go:143", after := #[{ on := 7, ground := Go.Ground.data }, { on := 3, ground := Go.Ground.chain }], guard := none }) (v := .bool false) rfl (by kernel_rfl) (by kernel_rfl) (by kernel_rfl) (fun _ _ _ h => h) (Or.inl ⟨by rfl, ?_⟩) (by assumption) ?_
            · intro W hSw
              go_simp
            simp only [Act.put, List.setIfInBounds_toArray, List.set_cons_zero, List.set_cons_succ]
            refine wpAnyH_take (i := 9) (oi := { dst := some 131, op := Go.Op.fieldAddr 34 (Go.Operand.tmp 11) 3, type := 0, pos := "outright.go:143", after := #[{ on := 8, ground := Go.Ground.guard }], guard := some (8, false) }) (v := .pointer (some ⟨w6.heap.size + 1, 3, none⟩)) rfl (by kernel_rfl) (by kernel_rfl) (by kernel_rfl) (fun _ _ _ h => h) (Or.inl ⟨by rfl, ?_⟩) (by assumption) ?_
            · intro W hSw
              go_simp
            simp only [Act.put, List.setIfInBounds_toArray, List.set_cons_zero, List.set_cons_succ]
            refine wpAnyH_take (i := 10) (oi := { dst := some 132, op := Go.Op.load 26 (Go.Operand.tmp 131), type := 26, pos := "outright.go:143", after := #[{ on := 9, ground := Go.Ground.data }, { on := 8, ground := Go.Ground.guard }], guard := some (8, false) }) (v := .slice none 0 0) rfl (by kernel_rfl) (by kernel_rfl) (by kernel_rfl) (fun _ _ _ h => h) (Or.inl ⟨by rfl, ?_⟩) (by assumption) ?_
            · intro W hSw
              go_simp
            simp only [Act.put, List.setIfInBounds_toArray, List.set_cons_zero, List.set_cons_succ]
            refine wpAnyH_take (i := 11) (oi := { dst := some 133, op := Go.Op.call { callee := Go.Callee.builtin Go.Builtin.len, args := #[Go.Operand.tmp 132], argTypes := #[26] }, type := 3, pos := "outright.go:143", after := #[{ on := 10, ground := Go.Ground.data }, { on := 8, ground := Go.Ground.guard }], guard := some (8, false) }) (v := .int .i64 0) rfl (by kernel_rfl) (by kernel_rfl) (by kernel_rfl) (fun _ _ _ h => h) (Or.inl ⟨by rfl, ?_⟩) (by assumption) ?_
            · intro W hSw
              go_simp
            simp only [Act.put, List.setIfInBounds_toArray, List.set_cons_zero, List.set_cons_succ]
            refine wpAnyH_take (i := 12) (oi := { dst := some 134, op := Go.Op.binOp Go.BinOp.gtr 3 (Go.Operand.tmp 133) (Go.Operand.const (Go.Value.int Go.IntKind.i64 0)) 3, type := 4, pos := "outright.go:143", after := #[{ on := 11, ground := Go.Ground.data }, { on := 8, ground := Go.Ground.guard }], guard := some (8, false) }) (v := .bool false) rfl (by kernel_rfl) (by kernel_rfl) (by kernel_rfl) (fun _ _ _ h => h) (Or.inl ⟨by rfl, ?_⟩) (by assumption) ?_
            · intro W hSw
              go_simp
            simp only [Act.put, List.setIfInBounds_toArray, List.set_cons_zero, List.set_cons_succ]
            refine wpAnyH_take (i := 13) (oi := { dst := some 135, op := Go.Op.pick (Go.Operand.tmp 130) (Go.Operand.const (Go.Value.bool true)) (Go.Operand.tmp 134), type := 4, pos := "outright.go:143", after := #[{ on := 8, ground := Go.Ground.data }, { on := 12, ground := Go.Ground.data }], guard := none }) (v := .bool false) rfl (by kernel_rfl) (by kernel_rfl) (by kernel_rfl) (fun _ _ _ h => h) (Or.inl ⟨by rfl, ?_⟩) (by assumption) ?_
            · intro W hSw
              go_simp
            simp only [Act.put, List.setIfInBounds_toArray, List.set_cons_zero, List.set_cons_succ]
            refine wpAnyH_take (i := 14) (oi := { dst := some 136, op := Go.Op.move (Go.Operand.tmp 135), type := 4, pos := "outright.go:143", after := #[{ on := 13, ground := Go.Ground.data }, { on := 8, ground := Go.Ground.chain }], guard := none }) (v := .bool false) rfl (by kernel_rfl) (by kernel_rfl) (by kernel_rfl) (fun _ _ _ h => h) (Or.inl ⟨by rfl, ?_⟩) (by assumption) ?_
            · intro W hSw
              go_simp
            simp only [Act.put, List.setIfInBounds_toArray, List.set_cons_zero, List.set_cons_succ]
            refine wpAnyH_take (i := 15) (oi := { dst := some 137, op := Go.Op.move (Go.Operand.tmp 6), type := 47, pos := "outright.go:143", after := #[{ on := 14, ground := Go.Ground.guard }], guard := some (14, false) }) (v := .pointer (some ⟨R, 0, none⟩)) rfl (by kernel_rfl) (by kernel_rfl) (by kernel_rfl) (fun _ _ _ h => h) (Or.inl ⟨by rfl, ?_⟩) (by assumption) ?_
            · intro W hSw
              go_simp
            simp only [Act.put, List.setIfInBounds_toArray, List.set_cons_zero, List.set_cons_succ]
            refine wpAnyH_take (i := 17) (oi := { dst := some 139, op := Go.Op.move (Go.Operand.tmp 9), type := 3, pos := "outright.go:143", after := #[{ on := 14, ground := Go.Ground.guard }], guard := some (14, false) }) (v := .int .i64 s.at_) rfl (by kernel_rfl) (by kernel_rfl) (by kernel_rfl) (fun _ _ _ h => h) (Or.inl ⟨by rfl, ?_⟩) (by assumption) ?_
            · intro W hSw
              go_simp
            simp only [Act.put, List.setIfInBounds_toArray, List.set_cons_zero, List.set_cons_succ]
            refine wpAnyH_ready (rs := [16]) (by kernel_rfl) (by simp) ?_
            refine AllReadyH.cons (o := { dst := some 138, op := Go.Op.call { callee := Go.Callee.value (Go.Operand.func 30), args := #[Go.Operand.tmp 137], argTypes := #[47] }, type := 3, pos := "outright.go:143", after := #[{ on := 15, ground := Go.Ground.data }, { on := 14, ground := Go.Ground.chain }, { on := 14, ground := Go.Ground.guard }], guard := some (14, false) }) rfl (fun K hK => ?_) AllReadyH.nil
            go_simp
            refine (rat_any (rdb_ch HRBa.out (Ch.drew w10 No) id (fun _ _ => id))).mono ?_; rintro e wx ⟨rfl, rfl⟩
            go_wp2_with fail
            refine hK.out _ _ sS0 (fun hHeld => ?_)
            clear hK K
            try simp only [Act.put, List.setIfInBounds_toArray, List.set_cons_zero, List.set_cons_succ]
            refine wpAnyH_take (i := 18) (oi := { dst := some 140, op := Go.Op.binOp Go.BinOp.neq 3 (Go.Operand.tmp 138) (Go.Operand.tmp 139) 3, type := 4, pos := "outright.go:143", after := #[{ on := 16, ground := Go.Ground.data }, { on := 17, ground := Go.Ground.data }, { on := 14, ground := Go.Ground.guard }], guard := some (14, false) }) (v := .bool false) rfl (by kernel_rfl) (by kernel_rfl) (by kernel_rfl) (fun _ _ _ h => h) (Or.inl ⟨by rfl, ?_⟩) (by assumption) ?_
            · intro W hSw
              go_simp
            simp only [Act.put, List.setIfInBounds_toArray, List.set_cons_zero, List.set_cons_succ]
            refine wpAnyH_take (i := 19) (oi := { dst := some 141, op := Go.Op.pick (Go.Operand.tmp 136) (Go.Operand.const (Go.Value.bool true)) (Go.Operand.tmp 140), type := 4, pos := "outright.go:143", after := #[{ on := 14, ground := Go.Ground.data }, { on := 18, ground := Go.Ground.data }], guard := none }) (v := .bool false) rfl (by kernel_rfl) (by kernel_rfl) (by kernel_rfl) (fun _ _ _ h => h) (Or.inl ⟨by rfl, ?_⟩) (by assumption) ?_
            · intro W hSw
              go_simp
            simp only [Act.put, List.setIfInBounds_toArray, List.set_cons_zero, List.set_cons_succ]
            refine wpAnyH_take (i := 20) (oi := { dst := some 142, op := Go.Op.move (Go.Operand.tmp 141), type := 4, pos := "outright.go:143", after := #[{ on := 19, ground := Go.Ground.data }, { on := 16, ground := Go.Ground.chain }], guard := none }) (v := .bool false) rfl (by kernel_rfl) (by kernel_rfl) (by kernel_rfl) (fun _ _ _ h => h) (Or.inl ⟨by rfl, ?_⟩) (by assumption) ?_
            · intro W hSw
              go_simp
            simp only [Act.put, List.setIfInBounds_toArray, List.set_cons_zero, List.set_cons_succ]
            refine wpAnyH_take (i := 21) (oi := { dst := some 143, op := Go.Op.fieldAddr 54 (Go.Operand.tmp 10) 0, type := 0, pos := "outright.go:143", after := #[{ on := 20, ground := Go.Ground.guard }], guard := some (20, false) }) (v := .pointer (some ⟨w6.heap.size, 0, none⟩)) rfl (by kernel_rfl) (by kernel_rfl) (by kernel_rfl) (fun _ _ _ h => h) (Or.inl ⟨by rfl, ?_⟩) (by assumption) ?_
            · intro W hSw
              go_simp
            simp only [Act.put, List.setIfInBounds_toArray, List.set_cons_zero, List.set_cons_succ]
            refine wpAnyH_take (i := 22) (oi := { dst := some 144, op := Go.Op.load 27 (Go.Operand.tmp 143), type := 27, pos := "outright.go:143", after := #[{ on := 21, ground := Go.Ground.data }, { on := 20, ground := Go.Ground.guard }], guard := some (20, false) }) (v := .int .i64 s.e) rfl (by kernel_rfl) (by kernel_rfl) (by kernel_rfl) (fun _ _ _ h => h) (Or.inl ⟨by rfl, ?_⟩) (by assumption) ?_
            · intro W hSw
              go_simp
            simp only [Act.put, List.setIfInBounds_toArray, List.set_cons_zero, List.set_cons_succ]
            refine wpAnyH_take (i := 23) (oi := { dst := some 145, op := Go.Op.binOp Go.BinOp.neq 27 (Go.Operand.tmp 144) (Go.Operand.const (Go.Value.int Go.IntKind.i64 0)) 27, type := 4, pos := "outright.go:143", after := #[{ on := 22, ground := Go.Ground.data }, { on := 20, ground := Go.Ground.guard }], guard := some (20, false) }) (v := .bool false) rfl (by kernel_rfl) (by kernel_rfl) (by kernel_rfl) (fun _ _ _ h => h) (Or.inl ⟨by rfl, ?_⟩) (by assumption) ?_
            · intro W hSw
              go_simp
            simp only [Act.put, List.setIfInBounds_toArray, List.set_cons_zero, List.set_cons_succ]
            refine wpAnyH_take (i := 24) (oi := { dst := some 146, op := Go.Op.move (Go.Operand.tmp 145), type := 4, pos := "outright.go:143", after := #[{ on := 23, ground := Go.Ground.data }, { on := 20, ground := Go.Ground.chain }, { on := 20, ground := Go.Ground.guard }], guard := some (20, false) }) (v := .bool false) rfl (by kernel_rfl) (by kernel_rfl) (by kernel_rfl) (fun _ _ _ h => h) (Or.inl ⟨by rfl, ?_⟩) (by assumption) ?_
            · intro W hSw
              go_simp
            simp only [Act.put, List.setIfInBounds_toArray, List.set_cons_zero, List.set_cons_succ]
            refine wpAnyH_take (i := 25) (oi := { dst := some 147, op := Go.Op.move (Go.Operand.tmp 6), type := 47, pos := "outright.go:143", after := #[{ on := 24, ground := Go.Ground.guard }], guard := some (24, true) }) (v := undef) rfl (by kernel_rfl) (by kernel_rfl) (by kernel_rfl) (fun _ _ _ h => h) (Or.inr ⟨by rfl, rfl⟩) (by assumption) ?_
            simp only [Act.put, List.setIfInBounds_toArray, List.set_cons_zero, List.set_cons_succ]
            refine wpAnyH_take (i := 26) (oi := { dst := some 148, op := Go.Op.call { callee := Go.Callee.value (Go.Operand.func 33), args := #[Go.Operand.tmp 147], argTypes := #[47] }, type := 54, pos := "outright.go:143", after := #[{ on := 25, ground := Go.Ground.data }, { on := 24, ground := Go.Ground.chain }, { on := 24, ground := Go.Ground.guard }], guard := some (24, true) }) (v := undef) rfl (by kernel_rfl) (by kernel_rfl) (by kernel_rfl) (fun _ _ _ h => h) (Or.inr ⟨by rfl, rfl⟩) (by assumption) ?_
            simp only [Act.put, List.setIfInBounds_toArray, List.set_cons_zero, List.set_cons_succ]
            refine wpAnyH_take (i := 27) (oi := { dst := some 149, op := Go.Op.load 54 (Go.Operand.tmp 10), type := 54, pos := "outright.go:143", after := #[{ on := 24, ground := Go.Ground.guard }], guard := some (24, true) }) (v := undef) rfl (by kernel_rfl) (by kernel_rfl) (by kernel_rfl) (fun _ _ _ h => h) (Or.inr ⟨by rfl, rfl⟩) (by assumption) ?_
            simp only [Act.put, List.setIfInBounds_toArray, List.set_cons_zero, List.set_cons_succ]
            refine wpAnyH_take (i := 28) (oi := { dst := some 150, op := Go.Op.binOp Go.BinOp.neq 54 (Go.Operand.tmp 148) (Go.Operand.tmp 149) 54, type := 4, pos := "outright.go:143", after := #[{ on := 26, ground := Go.Ground.data }, { on := 27, ground := Go.Ground.data }, { on := 24, ground := Go.Ground.guard }], guard := some (24, true) }) (v := undef) rfl (by kernel_rfl) (by kernel_rfl) (by kernel_rfl) (fun _ _ _ h => h) (Or.inr ⟨by rfl, rfl⟩) (by assumption) ?_
            simp only [Act.put, List.setIfInBounds_toArray, List.set_cons_zero, List.set_cons_succ]
            refine wpAnyH_take (i := 29) (oi := { dst := some 151, op := Go.Op.pick (Go.Operand.tmp 146) (Go.Operand.tmp 150) (Go.Operand.const (Go.Value.bool false)), type := 4, pos := "outright.go:143", after := #[{ on := 24, ground := Go.Ground.data }, { on := 28, ground := Go.Ground.data }, { on := 20, ground := Go.Ground.guard }], guard := some (20, false) }) (v := .bool false) rfl (by kernel_rfl) (by kernel_rfl) (by kernel_rfl) (fun _ _ _ h => h) (Or.inl ⟨by rfl, ?_⟩) (by assumption) ?_
            · intro W hSw
              go_simp
            simp only [Act.put, List.setIfInBounds_toArray, List.set_cons_zero, List.set_cons_succ]
            refine wpAnyH_take (i := 30) (oi := { dst := some 152, op := Go.Op.pick (Go.Operand.tmp 142) (Go.Operand.const (Go.Value.bool true)) (Go.Operand.tmp 151), type := 4, pos := "outright.go:143", after := #[{ on := 20, ground := Go.Ground.data }, { on := 29, ground := Go.Ground.data }], guard := none }) (v := .bool false) rfl (by kernel_rfl) (by kernel_rfl) (by kernel_rfl) (fun _ _ _ h => h) (Or.inl ⟨by rfl, ?_⟩) (by assumption) ?_
            · intro W hSw
              go_simp
            simp only [Act.put, List.setIfInBounds_toArray, List.set_cons_zero, List.set_cons_succ]
            refine wpAnyH_take (i := 31) (oi := { dst := some 153, op := Go.Op.move (Go.Operand.tmp 152), type := 4, pos := "outright.go:143", after := #[{ on := 30, ground := Go.Ground.data }, { on := 26, ground := Go.Ground.chain }], guard := none }) (v := .bool false) rfl (by kernel_rfl) (by kernel_rfl) (by kernel_rfl) (fun _ _ _ h => h) (Or.inl ⟨by rfl, ?_⟩) (by assumption) ?_
            · intro W hSw
              go_simp
            simp only [Act.put, List.setIfInBounds_toArray, List.set_cons_zero, List.set_cons_succ]
            refine wpAnyH_take (i := 32) (oi := { dst := some 154, op := Go.Op.move (Go.Operand.tmp 6), type := 47, pos := "outright.go:143", after := #[{ on := 31, ground := Go.Ground.guard }], guard := some (31, false) }) (v := .pointer (some ⟨R, 0, none⟩)) rfl (by kernel_rfl) (by kernel_rfl) (by kernel_rfl) (fun _ _ _ h => h) (Or.inl ⟨by rfl, ?_⟩) (by assumption) ?_
            · intro W hSw
              go_simp
            simp only [Act.put, List.setIfInBounds_toArray, List.set_cons_zero, List.set_cons_succ]
            refine wpAnyH_take (i := 34) (oi := { dst := some 156, op := Go.Op.move (Go.Operand.tmp 6), type := 47, pos := "outright.go:143", after := #[{ on := 31, ground := Go.Ground.guard }], guard := some (31, false) }) (v := .pointer (some ⟨R, 0, none⟩)) rfl (by kernel_rfl) (by kernel_rfl) (by kernel_rfl) (fun _ _ _ h => h) (Or.inl ⟨by rfl, ?_⟩) (by assumption) ?_
            · intro W hSw
              go_simp
            simp only [Act.put, List.setIfInBounds_toArray, List.set_cons_zero, List.set_cons_succ]
            refine wpAnyH_ready (rs := [33]) (by kernel_rfl) (by simp) ?_
            refine AllReadyH.cons (o := { dst := some 155, op := Go.Op.call { callee := Go.Callee.value (Go.Operand.func 34), args := #[Go.Operand.tmp 154], argTypes := #[47] }, type := 54, pos := "outright.go:143", after := #[{ on := 32, ground := Go.Ground.data }, { on := 31, ground := Go.Ground.chain }, { on := 31, ground := Go.Ground.guard }], guard := some (31, false) }) rfl (fun K hK => ?_) AllReadyH.nil
            go_simp
            refine (end_any (rdb_ch HRBa.out (Ch.drew w10 No) id (fun _ _ => id))).mono ?_; rw [HEND.out]; rintro e wE ⟨rfl, hbE'⟩
            have hbE : Below w10.heap.size w10 wE := ((Ch.drew w10 No).below (Nat.le_refl _) (fun _ h => h.elim)).trans hbE'
            go_wp2_with fail
            refine hK.out _ _ ⟨below_cell hbE t0, below_cell hbE t1, below_cell hbE u1, below_cell hbE u2, below_cell hbE u3⟩ (fun hHeld => ?_)
            clear hK K
            try simp only [Act.put, List.setIfInBounds_toArray, List.set_cons_zero, List.set_cons_succ]
            refine wpAnyH_ready (rs := [35]) (by kernel_rfl) (by simp) ?_
            refine AllReadyH.cons (o := { dst := some 157, op := Go.Op.call { callee := Go.Callee.value (Go.Operand.func 33), args := #[Go.Operand.tmp 156], argTypes := #[47] }, type := 54, pos := "outright.go:143", after := #[{ on := 34, ground := Go.Ground.data }, { on := 33, ground := Go.Ground.chain }, { on := 31, ground := Go.Ground.guard }], guard := some (31, false) }) rfl (fun K hK => ?_) AllReadyH.nil
            go_simp
            refine (fault_any (rdb_ch HRBa.out (Ch.of_below hbE No) id (fun _ _ => id))).mono ?_; rintro e wG ⟨rfl, hbG'⟩
            have hbG : Below w10.heap.size w10 wG := hbE.trans (hbG'.mono hbE.size)
            go_wp2_with fail
            refine hK.out _ _ ⟨below_cell hbG t0, below_cell hbG t1, below_cell hbG u1, below_cell hbG u2, below_cell hbG u3⟩ (fun hHeld => ?_)
            clear hK K
            try simp only [Act.put, List.setIfInBounds_toArray, List.set_cons_zero, List.set_cons_succ]
            refine wpAnyH_take (i := 36) (oi := { dst := some 158, op := Go.Op.binOp Go.BinOp.neq 54 (Go.Operand.tmp 155) (Go.Operand.tmp 157) 54, type := 4, pos := "outright.go:143", after := #[{ on := 33, ground := Go.Ground.data }, { on := 35, ground := Go.Ground.data }, { on := 31, ground := Go.Ground.guard }], guard := some (31, false) }) (v := .bool false) rfl (by kernel_rfl) (by kernel_rfl) (by kernel_rfl) (fun _ _ _ h => h) (Or.inl ⟨by rfl, ?_⟩) (by assumption) ?_
            · intro W hSw
              go_simp
            simp only [Act.put, List.setIfInBounds_toArray, List.set_cons_zero, List.set_cons_succ]
            refine wpAnyH_take (i := 37) (oi := { dst := some 159, op := Go.Op.pick (Go.Operand.tmp 153) (Go.Operand.const (Go.Value.bool true)) (Go.Operand.tmp 158), type := 4, pos := "outright.go:143", after := #[{ on := 31, ground := Go.Ground.data }, { on := 36, ground := Go.Ground.data }], guard := none }) (v := .bool false) rfl (by kernel_rfl) (by kernel_rfl) (by kernel_rfl) (fun _ _ _ h => h) (Or.inl ⟨by rfl, ?_⟩) (by assumption) ?_
            · intro W hSw
              go_simp
            simp only [Act.put, List.setIfInBounds_toArray, List.set_cons_zero, List.set_cons_succ]
            refine wpAnyH_done (by kernel_rfl) ?_ _
            all_goals
              go_wp2
              go_roundw
              case rel => exact ⟨k + 1, t, v, by omega, by go_num, HTB.out, rdb_ch HRBa.out (Ch.of_below hbG No) id (fun _ _ => id), by rw [hat]; exact wr_ch HWRa.out (Ch.of_below hbG No) id (fun _ _ => id), HBa.out.trans (hbG.mono HBa.out.size)⟩
              case measure => simp [intOf]; omega
          · have gs : (s.e != 0) = true := by simpa using hs
            have hts := hsame hs
            have hte : t.e = s.e ∧ t.p = s.p := by rw [hts]; exact ⟨rfl, rfl⟩
            have t0' : w10.cell? ⟨w6.heap.size, 0, none⟩ = some (.int .i64 t.e) := by rw [hte.1]; exact t0
            have t1' : w10.cell? ⟨w6.heap.size, 1, none⟩ = some (.int .i64 t.p) := by rw [hte.2]; exact t1
            have gt : (t.e != 0) = true := by simpa using he
            clear hend hs hsame t0 t1 hts hte gs
            go_wp2_with fail
            first
              | (go_region_held3 (fun W => W.cell? ⟨w6.heap.size, 0, none⟩ = some (.int .i64 t.e) ∧ W.cell? ⟨w6.heap.size, 1, none⟩ = some (.int .i64 t.p) ∧ W.cell? ⟨w6.heap.size + 1, 1, none⟩ = some (.int .i64 0) ∧ W.cell? ⟨w6.heap.size + 1, 2, none⟩ = some (.string ⟨#[]⟩) ∧ W.cell? ⟨w6.heap.size + 1, 3, none⟩ = some (.slice none 0 0)) (first | exact ⟨t0', t1', u1, u2, u3⟩ | exact ⟨below_cell hbD t0', below_cell hbD t1', below_cell hbD u1, below_cell hbD u2, below_cell hbD u3⟩ | exact ⟨below_cell hbE t0', below_cell hbE t1', below_cell hbE u1, below_cell hbE u2, below_cell hbE u3⟩ | exact ⟨below_cell hbG t0', below_cell hbG t1', below_cell hbG u1, below_cell hbG u2, below_cell hbG u3⟩) (first | (go_at_call 30; refine (rat_any (rdb_ch HRBa.out (Ch.drew w10 No) id (fun _ _ => id))).mono ?_; rintro e wx ⟨rfl, rfl⟩) | (go_at_call 33; refine (fault_any (rdb_ch HRBa.out (Ch.of_below hbE No) id (fun _ _ => id))).mono ?_; rintro e wG ⟨rfl, hbG'⟩; have hbG : Below w10.heap.size w10 wG := hbE.trans (hbG'.mono hbE.size)) | (go_at_call 33; refine (fault_any (rdb_ch HRBa.out (Ch.drew w10 No) id (fun _ _ => id))).mono ?_; rintro e wD ⟨rfl, hbD'⟩; have hbD : Below w10.heap.size w10 wD := ((Ch.drew w10 No).below (Nat.le_refl _) (fun _ h => h.elim)).trans hbD'; have t0D := below_cell hbD t0'; have t1D := below_cell hbD t1') | (go_at_call 34; refine (end_any (rdb_ch HRBa.out (Ch.of_below hbD No) id (fun _ _ => id))).mono ?_; rw [HEND.out]; rintro e wE ⟨rfl, hbE'⟩; have hbE : Below w10.heap.size w10 wE := hbD.trans (hbE'.mono hbD.size))))
            all_goals
              go_wp2
              go_roundw
              case rel => exact ⟨k + 1, t, v, by omega, by go_num, HTB.out, rdb_ch HRBa.out (Ch.of_below hbG No) id (fun _ _ => id), by rw [hat]; exact wr_ch HWRa.out (Ch.of_below hbG No) id (fun _ _ => id), HBa.out.trans (hbG.mono HBa.out.size)⟩
              case measure => simp [intOf]; omega
      have hrn : rraw s hi = ((rraw s hi).1, t) := by rw [HT.out]; unfold askS; rw [if_neg h0]
      have hLle : (rraw s hi).1.length ≤ 1000 := by have := rraw_len s hi; rw [HSB.out, HL.out] at this; omega
      generalize (rraw s hi).1 = L at hrn hLle
      have g3 : (k1 == 0) = false := by simpa using h0
      have g4 : (k1 == 1) = false := by simpa using h1
      have HRN := Lib.hid hrn; have H0 := Lib.hid h0; have H1 := Lib.hid h1; have HLLE := Lib.hid hLle
      clear hrn h0 h1 hLle u0 u1 u2 u3
      go_wp2_with fail
      rw [← hw7]
      clear hw7 a0 q2x
      refine (raw_any HRB7.out (by omega) hi).mono ?_
      rw [HRN.out]
      rintro e w8 ⟨A7, n7, c7, rfl, hh8, hb8, hc8⟩
      have hLn : L.length = n7 := held_len hh8
      have HLN := Lib.hid hLn
      have HFR := Lib.hid (show ∀ a, A7 = some a → w7.heap.size ≤ a.block from fun a ha => (held_lt hh8 a ha).1)
      have HRX8 := Lib.hid ((held_rd hh8).ch (Ch.setCell w8 ⟨w6.heap.size + 1, 3, none⟩ (.slice A7 n7 c7)) (fun a ha e => by have h9 := (held_lt hh8 a ha).1; have e : a.block = w6.heap.size + 1 := e; omega))
      have hW8 : ∀ W, Ch (fun j => j = R) w7 W → RdB W R A6 n6 c6 t → Hid (RdB (W.setCell ⟨w6.heap.size + 1, 3, none⟩ (.slice A7 n7 c7)) R A6 n6 c6 t ∧ Wr (W.setCell ⟨w6.heap.size + 1, 3, none⟩ (.slice A7 n7 c7)) B v (l.take s.at_) 0 ∧ Below w.heap.size w (W.setCell ⟨w6.heap.size + 1, 3, none⟩ (.slice A7 n7 c7)) ∧ Blk (W.setCell ⟨w6.heap.size + 1, 3, none⟩ (.slice A7 n7 c7)) w6.heap.size 54 #[.int .i64 s.e, .int .i64 s.p] ∧ Blk (W.setCell ⟨w6.heap.size + 1, 3, none⟩ (.slice A7 n7 c7)) (w6.heap.size + 1) 34 #[.int .i64 k1, .int .i64 0, .string ⟨#[]⟩, .slice A7 n7 c7]) := fun W hc hb => Lib.hid ⟨
        rdb_ch0 hb (Ch.setCell W ⟨w6.heap.size + 1, 3, none⟩ (.slice A7 n7 c7)) (fun e => by have e : R = w6.heap.size + 1 := e; omega) (fun a ha h0 e => by have h9 := HAB.out a ha h0; have e : a.block = w6.heap.size + 1 := e; omega),
        wr_ch (wr_ch HWR7.out hc (by omega) (fun j hj e => by have h9 := wr_own HWR7.out hj; have e : j = R := e; omega)) (Ch.setCell W ⟨w6.heap.size + 1, 3, none⟩ (.slice A7 n7 c7)) (fun e => by have e : B = w6.heap.size + 1 := e; omega) (fun j hj e => by have h9 := (wr_own HWR.out hj).2; have e : j = w6.heap.size + 1 := e; omega),
        (ch_set ((Ch.of_below HB7.out (fun j => j = R ∨ j = w6.heap.size + 1)).trans hc (fun i hi => .inl (.inl hi))) ⟨w6.heap.size + 1, 3, none⟩ (.slice A7 n7 c7) (.inr rfl)).below (Nat.le_refl _) (fun j hj => by omega),
        blk_ch (blk_ch HT7.out hc (by omega)) (Ch.setCell W ⟨w6.heap.size + 1, 3, none⟩ (.slice A7 n7 c7)) (fun e => by have e : w6.heap.size = w6.heap.size + 1 := e; omega),
        blk_set (blk_ch HU7.out hc (by omega)) 3 (.slice A7 n7 c7)⟩
      have u3 := blk_cell (blk_ch HU7.out hc8 (by omega)) 3 _ rfl
      have uf := blk_thawed (blk_ch HU7.out hc8 (by omega)) 3
      clear q1 q2 hh8 hLn
      obtain ⟨HRB8, HWR8, HB8, HT8, HU8⟩ := (hW8 w8 hc8 hb8).out
      have HRB8 := Lib.hid HRB8; have HWR8 := Lib.hid HWR8; have HB8 := Lib.hid HB8; have HT8 := Lib.hid HT8; have HU8 := Lib.hid HU8
      clear hW8 hc8 hb8 HRB HRB7 HWR7 HB7 HT7 HU7
      have u0 := blk_cell HU8.out 0 _ rfl
      have u1 := blk_cell HU8.out 1 _ rfl
      have u2 := blk_cell HU8.out 2 _ rfl
      have u3 := blk_cell HU8.out 3 _ rfl
      have t0 := blk_cell HT8.out 0 _ rfl
      have t1 := blk_cell HT8.out 1 _ rfl
      have htl : t.b.length = n0 := by rw [HTB.out, HL.out]
      have htf := HRB8.out.fit.le
      rw [htl] at htf
      have hleft : ((t.b.length : Int) - t.at_) = (n0 : Int) - t.at_ := by rw [htl]
      have hsum : IntKind.i64.wrap ((t.at_ : Int) + ((n0 : Int) - t.at_)) = (n0 : Int) := by rw [IntKind.wrap_i64]; omega
      have hmono : s.at_ ≤ t.at_ := by
        by_cases h : (askS s ⟨k1, lo, hi⟩).e = 0
        · have := (again_step s ⟨k1, lo, hi⟩ (askS_ok _ _ h) h).1
          rw [HT.out, this]; show s.at_ ≤ s.at_ + _; omega
        · rw [HT.out, (askS_fault _ _ h).1]; exact Nat.le_refl _
      have gm1 : decide ((t.at_ : Int) < (s.at_ : Int)) = false := decide_eq_false (by omega)
      have gm2 : decide ((n0 : Int) < (t.at_ : Int)) = false := decide_eq_false (by omega)
      have HLEFT := Lib.hid hleft
      clear hleft
      go_wp2_with fail
      refine (rat_any HRB8.out).mono ?_
      rintro e w9 ⟨rfl, rfl⟩
      go_wp2_with fail
      refine (rat_any HRB8.out).mono ?_
      rintro e w9 ⟨rfl, rfl⟩
      go_wp2_with fail
      refine (rat_any HRB8.out).mono ?_
      rintro e w9 ⟨rfl, rfl⟩
      go_wp2_with fail
      refine (rleft_any HRB8.out).mono ?_
      rw [HLEFT.out]
      rintro e w9 ⟨rfl, hch9⟩
      have HRB9 := Lib.hid (rdb_ch HRB8.out hch9 id (fun _ _ => id)); have HWR9 := Lib.hid (wr_ch HWR8.out hch9 id (fun _ _ => id)); have HB9 := Lib.hid (HB8.out.trans (hch9.below HB8.out.size (fun _ h => False.elim h)))
      have HU9 := Lib.hid (blk_ch HU8.out hch9 id); have HT9 := Lib.hid (blk_ch HT8.out hch9 id); have hz9 := hch9.size
      have HRX9 := Lib.hid (HRX8.out.ch hch9 (fun _ _ => id))
      clear hch9 u0 u1 u2 u3 t0 t1
      go_wp2_with fail
      refine (fault_any HRB9.out).mono ?_
      rintro e w10 ⟨hea, hba⟩
      have hea : e = .returned (.agg #[.int .i64 t.e, .int .i64 t.p]) := hea
      subst hea
      have HRBa := Lib.hid (rdb_ch HRB9.out (Ch.of_below hba No) id (fun _ _ => id)); have HWRa := Lib.hid (wr_ch HWR9.out (Ch.of_below hba No) id (fun _ _ => id)); have HBa := Lib.hid (HB9.out.trans (hba.mono HB9.out.size))
      have HUa := Lib.hid (blk_below HU9.out hba); have HTa := Lib.hid (blk_below HT9.out hba); have hza := hba.size
      have HRXa := Lib.hid (HRX9.out.below hba)
      clear hba HRB9 HWR9 HU9 HT9 HB9
      have hfd : ∀ w, (Instr.field 54 (.agg #[.int .i64 t.e, .int .i64 t.p]) 0).run Try.prog w = .ok (.int .i64 t.e) w := fun _ => rfl
      have u0 := blk_cell HUa.out 0 _ rfl
      have u1 := blk_cell HUa.out 1 _ rfl
      have u2 := blk_cell HUa.out 2 _ rfl
      have u3 := blk_cell HUa.out 3 _ rfl
      have t0 := blk_cell HTa.out 0 _ rfl
      have t1 := blk_cell HTa.out 1 _ rfl
      by_cases he : t.e = 0
      · have ge : (t.e == 0) = true := by simpa using he
        have hstep : actW (l.take s.at_, 0) ⟨k1, 0, ⟨#[]⟩, A7, n7, c7, L⟩ = (l.take t.at_, 0) := by
          have := again_write s ⟨k1, lo, hi⟩ (by rw [← HT.out]; exact he) (by rw [HSB.out, HL.out]; omega) ⟨k1, 0, ⟨#[]⟩, A7, n7, c7, L⟩ rfl (fun e => absurd e H0.out) (fun e => absurd e H1.out) (fun _ _ => by rw [HRN.out])
          rw [HSB.out, ← HT.out] at this
          exact this
        have HST := Lib.hid hstep
        clear hstep he
        go_wp2_with fail
        refine (write_any (p := (l.take s.at_, 0)) HWRa.out (by show (l.take s.at_).length ≤ _; rw [List.length_take]; have := HL.out; omega) ⟨k1, 0, ⟨#[]⟩, A7, n7, c7, L⟩ ⟨show (0 : Int) ≤ _ by decide, show (0 : Nat) ≤ _ by decide, by show n7 ≤ _; have := HLN.out; have := HLLE.out; omega, HRXa.out⟩ (fun a ha h0 => by have h9 := HFR.out a ha; exact ⟨by omega, fun q hq => by have h8 := (wr_own HWR.out hq).2; omega⟩)).mono ?_
        rw [HST.out]
        rintro e w11 ⟨rfl, v2, hwr2, hch2, ho2⟩
        have hrb2 := rdb_ch0 HRBa.out hch2 (by rintro (e | e); omega; have := wr_own HWRa.out e; omega) (fun a ha h0 => by have h9 := HAB.out a ha h0; rintro (e | e); omega; have := wr_own HWRa.out e; omega)
        have hbe := ((Ch.of_below HBa.out (fun j => j = B ∨ v.ownBlock = some j)).trans hch2 (fun i hi => .inl hi)).below (Nat.le_refl _) (fun j hj => by rcases hj with e | e; omega; have := wr_own HWRa.out e; omega)
        go_wp2
        go_roundw
        case rel => exact ⟨k + 1, t, v2, by omega, by go_num, HTB.out, hrb2, hwr2, hbe⟩
        case measure => simp [intOf]; omega
      · have ge : (t.e == 0) = false := by simpa using he
        have hfa := askS_fault s ⟨k1, lo, hi⟩ (by rw [← HT.out]; exact he)
        rw [← HT.out] at hfa
        obtain ⟨hat, hsame⟩ := hfa
        have hL0 : L = [] := by
          have h9 := rraw_fault s hi (by rw [HRN.out]; exact he)
          rw [HRN.out] at h9
          exact h9.1
        have hn70 : n7 = 0 := by have := HLN.out; rw [hL0] at this; exact this.symm
        subst hn70
        have hend := rend_bad t he
        have HEND := Lib.hid hend
        have gat : ((t.at_ : Int) != (s.at_ : Int)) = false := by rw [hat]; simp
        by_cases hs : s.e = 0
        · have gs : (s.e != 0) = false := by simpa using hs
          have gs2 : (s.e == 0) = true := by simpa using hs
          clear hend hs hsame
          go_wp2_with fail
          have sS0 : w10.drew.cell? ⟨w6.heap.size, 0, none⟩ = some (.int .i64 s.e) ∧ w10.drew.cell? ⟨w6.heap.size, 1, none⟩ = some (.int .i64 s.p) ∧ w10.drew.cell? ⟨w6.heap.size + 1, 1, none⟩ = some (.int .i64 0) ∧ w10.drew.cell? ⟨w6.heap.size + 1, 2, none⟩ = some (.string ⟨#[]⟩) ∧ w10.drew.cell? ⟨w6.heap.size + 1, 3, none⟩ = some (.slice A7 0 c7) := ⟨t0, t1, u1, u2, u3⟩
          refine wp_region_held_drew (S := fun W => W.cell? ⟨w6.heap.size, 0, none⟩ = some (.int .i64 s.e) ∧ W.cell? ⟨w6.heap.size, 1, none⟩ = some (.int .i64 s.p) ∧ W.cell? ⟨w6.heap.size + 1, 1, none⟩ = some (.int .i64 0) ∧ W.cell? ⟨w6.heap.size + 1, 2, none⟩ = some (.string ⟨#[]⟩) ∧ W.cell? ⟨w6.heap.size + 1, 3, none⟩ = some (.slice A7 0 c7)) (by kernel_rfl) sS0 (fun hHeld => ?_)
          refine wpAnyH_take (i := 0) (oi := { dst := some 122, op := Go.Op.fieldAddr 34 (Go.Operand.tmp 11) 1, type := 0, pos := "outright.go:143", after := #[], guard := none }) (v := .pointer (some ⟨w6.heap.size + 1, 1, none⟩)) rfl (by kernel_rfl) (by kernel_rfl) (by kernel_rfl) (fun _ _ _ h => h) (Or.inl ⟨by rfl, ?_⟩) (by assumption) ?_
          · intro W hSw
            go_simp
          simp only [Act.put, List.setIfInBounds_toArray, List.set_cons_zero, List.set_cons_succ]
          refine wpAnyH_take (i := 1) (oi := { dst := some 123, op := Go.Op.load 3 (Go.Operand.tmp 122), type := 3, pos := "outright.go:143", after := #[{ on := 0, ground := Go.Ground.data }], guard := none }) (v := .int .i64 0) rfl (by kernel_rfl) (by kernel_rfl) (by kernel_rfl) (fun _ _ _ h => h) (Or.inl ⟨by rfl, ?_⟩) (by assumption) ?_
          · intro W hSw
            go_simp
          simp only [Act.put, List.setIfInBounds_toArray, List.set_cons_zero, List.set_cons_succ]
          refine wpAnyH_take (i := 2) (oi := { dst := some 124, op := Go.Op.binOp Go.BinOp.neq 3 (Go.Operand.tmp 123) (Go.Operand.const (Go.Value.int Go.IntKind.i64 0)) 3, type := 4, pos := "outright.go:143", after := #[{ on := 1, ground := Go.Ground.data }], guard := none }) (v := .bool false) rfl (by kernel_rfl) (by kernel_rfl) (by kernel_rfl) (fun _ _ _ h => h) (Or.inl ⟨by rfl, ?_⟩) (by assumption) ?_
          · intro W hSw
            go_simp
          simp only [Act.put, List.setIfInBounds_toArray, List.set_cons_zero, List.set_cons_succ]
          refine wpAnyH_take (i := 3) (oi := { dst := some 125, op := Go.Op.move (Go.Operand.tmp 124), type := 4, pos := "outright.go:143", after := #[{ on := 2, ground := Go.Ground.data }], guard := none }) (v := .bool false) rfl (by kernel_rfl) (by kernel_rfl) (by kernel_rfl) (fun _ _ _ h => h) (Or.inl ⟨by rfl, ?_⟩) (by assumption) ?_
          · intro W hSw
            go_simp
          simp only [Act.put, List.setIfInBounds_toArray, List.set_cons_zero, List.set_cons_succ]
          refine wpAnyH_take (i := 4) (oi := { dst := some 126, op := Go.Op.fieldAddr 34 (Go.Operand.tmp 11) 2, type := 0, pos := "outright.go:143", after := #[{ on := 3, ground := Go.Ground.guard }], guard := some (3, false) }) (v := .pointer (some ⟨w6.heap.size + 1, 2, none⟩)) rfl (by kernel_rfl) (by kernel_rfl) (by kernel_rfl) (fun _ _ _ h => h) (Or.inl ⟨by rfl, ?_⟩) (by assumption) ?_
          · intro W hSw
            go_simp
          simp only [Act.put, List.setIfInBounds_toArray, List.set_cons_zero, List.set_cons_succ]
          refine wpAnyH_take (i := 5) (oi := { dst := some 127, op := Go.Op.load 9 (Go.Operand.tmp 126), type := 9, pos := "outright.go:143", after := #[{ on := 4, ground := Go.Ground.data }, { on := 3, ground := Go.Ground.guard }], guard := some (3, false) }) (v := .string ⟨#[]⟩) rfl (by kernel_rfl) (by kernel_rfl) (by kernel_rfl) (fun _ _ _ h => h) (Or.inl ⟨by rfl, ?_⟩) (by assumption) ?_
          · intro W hSw
            go_simp
          simp only [Act.put, List.setIfInBounds_toArray, List.set_cons_zero, List.set_cons_succ]
          refine wpAnyH_take (i := 6) (oi := { dst := some 128, op := Go.Op.binOp Go.BinOp.neq 9 (Go.Operand.tmp 127) (Go.Operand.const (Go.Value.string { data := #[] })) 9, type := 4, pos := "outright.go:143", after := #[{ on := 5, ground := Go.Ground.data }, { on := 3, ground := Go.Ground.guard }], guard := some (3, false) }) (v := .bool false) rfl (by kernel_rfl) (by kernel_rfl) (by kernel_rfl) (fun _ _ _ h => h) (Or.inl ⟨by rfl, ?_⟩) (by assumption) ?_
          · intro W hSw
            go_simp
          simp only [Act.put, List.setIfInBounds_toArray, List.set_cons_zero, List.set_cons_succ]
          refine wpAnyH_take (i := 7) (oi := { dst := some 129, op := Go.Op.pick (Go.Operand.tmp 125) (Go.Operand.const (Go.Value.bool true)) (Go.Operand.tmp 128), type := 4, pos := "outright.go:143", after := #[{ on := 3, ground := Go.Ground.data }, { on := 6, ground := Go.Ground.data }], guard := none }) (v := .bool false) rfl (by kernel_rfl) (by kernel_rfl) (by kernel_rfl) (fun _ _ _ h => h) (Or.inl ⟨by rfl, ?_⟩) (by assumption) ?_
          · intro W hSw
            go_simp
          simp only [Act.put, List.setIfInBounds_toArray, List.set_cons_zero, List.set_cons_succ]
          refine wpAnyH_take (i := 8) (oi := { dst := some 130, op := Go.Op.move (Go.Operand.tmp 129), type := 4, pos := "outright.go:143", after := #[{ on := 7, ground := Go.Ground.data }, { on := 3, ground := Go.Ground.chain }], guard := none }) (v := .bool false) rfl (by kernel_rfl) (by kernel_rfl) (by kernel_rfl) (fun _ _ _ h => h) (Or.inl ⟨by rfl, ?_⟩) (by assumption) ?_
          · intro W hSw
            go_simp
          simp only [Act.put, List.setIfInBounds_toArray, List.set_cons_zero, List.set_cons_succ]
          refine wpAnyH_take (i := 9) (oi := { dst := some 131, op := Go.Op.fieldAddr 34 (Go.Operand.tmp 11) 3, type := 0, pos := "outright.go:143", after := #[{ on := 8, ground := Go.Ground.guard }], guard := some (8, false) }) (v := .pointer (some ⟨w6.heap.size + 1, 3, none⟩)) rfl (by kernel_rfl) (by kernel_rfl) (by kernel_rfl) (fun _ _ _ h => h) (Or.inl ⟨by rfl, ?_⟩) (by assumption) ?_
          · intro W hSw
            go_simp
          simp only [Act.put, List.setIfInBounds_toArray, List.set_cons_zero, List.set_cons_succ]
          refine wpAnyH_take (i := 10) (oi := { dst := some 132, op := Go.Op.load 26 (Go.Operand.tmp 131), type := 26, pos := "outright.go:143", after := #[{ on := 9, ground := Go.Ground.data }, { on := 8, ground := Go.Ground.guard }], guard := some (8, false) }) (v := .slice A7 0 c7) rfl (by kernel_rfl) (by kernel_rfl) (by kernel_rfl) (fun _ _ _ h => h) (Or.inl ⟨by rfl, ?_⟩) (by assumption) ?_
          · intro W hSw
            go_simp
          simp only [Act.put, List.setIfInBounds_toArray, List.set_cons_zero, List.set_cons_succ]
          refine wpAnyH_take (i := 11) (oi := { dst := some 133, op := Go.Op.call { callee := Go.Callee.builtin Go.Builtin.len, args := #[Go.Operand.tmp 132], argTypes := #[26] }, type := 3, pos := "outright.go:143", after := #[{ on := 10, ground := Go.Ground.data }, { on := 8, ground := Go.Ground.guard }], guard := some (8, false) }) (v := .int .i64 0) rfl (by kernel_rfl) (by kernel_rfl) (by kernel_rfl) (fun _ _ _ h => h) (Or.inl ⟨by rfl, ?_⟩) (by assumption) ?_
          · intro W hSw
            go_simp
          simp only [Act.put, List.setIfInBounds_toArray, List.set_cons_zero, List.set_cons_succ]
          refine wpAnyH_take (i := 12) (oi := { dst := some 134, op := Go.Op.binOp Go.BinOp.gtr 3 (Go.Operand.tmp 133) (Go.Operand.const (Go.Value.int Go.IntKind.i64 0)) 3, type := 4, pos := "outright.go:143", after := #[{ on := 11, ground := Go.Ground.data }, { on := 8, ground := Go.Ground.guard }], guard := some (8, false) }) (v := .bool false) rfl (by kernel_rfl) (by kernel_rfl) (by kernel_rfl) (fun _ _ _ h => h) (Or.inl ⟨by rfl, ?_⟩) (by assumption) ?_
          · intro W hSw
            go_simp
          simp only [Act.put, List.setIfInBounds_toArray, List.set_cons_zero, List.set_cons_succ]
          refine wpAnyH_take (i := 13) (oi := { dst := some 135, op := Go.Op.pick (Go.Operand.tmp 130) (Go.Operand.const (Go.Value.bool true)) (Go.Operand.tmp 134), type := 4, pos := "outright.go:143", after := #[{ on := 8, ground := Go.Ground.data }, { on := 12, ground := Go.Ground.data }], guard := none }) (v := .bool false) rfl (by kernel_rfl) (by kernel_rfl) (by kernel_rfl) (fun _ _ _ h => h) (Or.inl ⟨by rfl, ?_⟩) (by assumption) ?_
          · intro W hSw
            go_simp
          simp only [Act.put, List.setIfInBounds_toArray, List.set_cons_zero, List.set_cons_succ]
          refine wpAnyH_take (i := 14) (oi := { dst := some 136, op := Go.Op.move (Go.Operand.tmp 135), type := 4, pos := "outright.go:143", after := #[{ on := 13, ground := Go.Ground.data }, { on := 8, ground := Go.Ground.chain }], guard := none }) (v := .bool false) rfl (by kernel_rfl) (by kernel_rfl) (by kernel_rfl) (fun _ _ _ h => h) (Or.inl ⟨by rfl, ?_⟩) (by assumption) ?_
          · intro W hSw
            go_simp
          simp only [Act.put, List.setIfInBounds_toArray, List.set_cons_zero, List.set_cons_succ]
          refine wpAnyH_take (i := 15) (oi := { dst := some 137, op := Go.Op.move (Go.Operand.tmp 6), type := 47, pos := "outright.go:143", after := #[{ on := 14, ground := Go.Ground.guard }], guard := some (14, false) }) (v := .pointer (some ⟨R, 0, none⟩)) rfl (by kernel_rfl) (by kernel_rfl) (by kernel_rfl) (fun _ _ _ h => h) (Or.inl ⟨by rfl, ?_⟩) (by assumption) ?_
          · intro W hSw
            go_simp
          simp only [Act.put, List.setIfInBounds_toArray, List.set_cons_zero, List.set_cons_succ]
          refine wpAnyH_take (i := 17) (oi := { dst := some 139, op := Go.Op.move (Go.Operand.tmp 9), type := 3, pos := "outright.go:143", after := #[{ on := 14, ground := Go.Ground.guard }], guard := some (14, false) }) (v := .int .i64 s.at_) rfl (by kernel_rfl) (by kernel_rfl) (by kernel_rfl) (fun _ _ _ h => h) (Or.inl ⟨by rfl, ?_⟩) (by assumption) ?_
          · intro W hSw
            go_simp
          simp only [Act.put, List.setIfInBounds_toArray, List.set_cons_zero, List.set_cons_succ]
          refine wpAnyH_ready (rs := [16]) (by kernel_rfl) (by simp) ?_
          refine AllReadyH.cons (o := { dst := some 138, op := Go.Op.call { callee := Go.Callee.value (Go.Operand.func 30), args := #[Go.Operand.tmp 137], argTypes := #[47] }, type := 3, pos := "outright.go:143", after := #[{ on := 15, ground := Go.Ground.data }, { on := 14, ground := Go.Ground.chain }, { on := 14, ground := Go.Ground.guard }], guard := some (14, false) }) rfl (fun K hK => ?_) AllReadyH.nil
          go_simp
          refine (rat_any (rdb_ch HRBa.out (Ch.drew w10 No) id (fun _ _ => id))).mono ?_; rintro e wx ⟨rfl, rfl⟩
          go_wp2_with fail
          refine hK.out _ _ sS0 (fun hHeld => ?_)
          clear hK K
          try simp only [Act.put, List.setIfInBounds_toArray, List.set_cons_zero, List.set_cons_succ]
          refine wpAnyH_take (i := 18) (oi := { dst := some 140, op := Go.Op.binOp Go.BinOp.neq 3 (Go.Operand.tmp 138) (Go.Operand.tmp 139) 3, type := 4, pos := "outright.go:143", after := #[{ on := 16, ground := Go.Ground.data }, { on := 17, ground := Go.Ground.data }, { on := 14, ground := Go.Ground.guard }], guard := some (14, false) }) (v := .bool false) rfl (by kernel_rfl) (by kernel_rfl) (by kernel_rfl) (fun _ _ _ h => h) (Or.inl ⟨by rfl, ?_⟩) (by assumption) ?_
          · intro W hSw
            go_simp
          simp only [Act.put, List.setIfInBounds_toArray, List.set_cons_zero, List.set_cons_succ]
          refine wpAnyH_take (i := 19) (oi := { dst := some 141, op := Go.Op.pick (Go.Operand.tmp 136) (Go.Operand.const (Go.Value.bool true)) (Go.Operand.tmp 140), type := 4, pos := "outright.go:143", after := #[{ on := 14, ground := Go.Ground.data }, { on := 18, ground := Go.Ground.data }], guard := none }) (v := .bool false) rfl (by kernel_rfl) (by kernel_rfl) (by kernel_rfl) (fun _ _ _ h => h) (Or.inl ⟨by rfl, ?_⟩) (by assumption) ?_
          · intro W hSw
            go_simp
          simp only [Act.put, List.setIfInBounds_toArray, List.set_cons_zero, List.set_cons_succ]
          refine wpAnyH_take (i := 20) (oi := { dst := some 142, op := Go.Op.move (Go.Operand.tmp 141), type := 4, pos := "outright.go:143", after := #[{ on := 19, ground := Go.Ground.data }, { on := 16, ground := Go.Ground.chain }], guard := none }) (v := .bool false) rfl (by kernel_rfl) (by kernel_rfl) (by kernel_rfl) (fun _ _ _ h => h) (Or.inl ⟨by rfl, ?_⟩) (by assumption) ?_
          · intro W hSw
            go_simp
          simp only [Act.put, List.setIfInBounds_toArray, List.set_cons_zero, List.set_cons_succ]
          refine wpAnyH_take (i := 21) (oi := { dst := some 143, op := Go.Op.fieldAddr 54 (Go.Operand.tmp 10) 0, type := 0, pos := "outright.go:143", after := #[{ on := 20, ground := Go.Ground.guard }], guard := some (20, false) }) (v := .pointer (some ⟨w6.heap.size, 0, none⟩)) rfl (by kernel_rfl) (by kernel_rfl) (by kernel_rfl) (fun _ _ _ h => h) (Or.inl ⟨by rfl, ?_⟩) (by assumption) ?_
          · intro W hSw
            go_simp
          simp only [Act.put, List.setIfInBounds_toArray, List.set_cons_zero, List.set_cons_succ]
          refine wpAnyH_take (i := 22) (oi := { dst := some 144, op := Go.Op.load 27 (Go.Operand.tmp 143), type := 27, pos := "outright.go:143", after := #[{ on := 21, ground := Go.Ground.data }, { on := 20, ground := Go.Ground.guard }], guard := some (20, false) }) (v := .int .i64 s.e) rfl (by kernel_rfl) (by kernel_rfl) (by kernel_rfl) (fun _ _ _ h => h) (Or.inl ⟨by rfl, ?_⟩) (by assumption) ?_
          · intro W hSw
            go_simp
          simp only [Act.put, List.setIfInBounds_toArray, List.set_cons_zero, List.set_cons_succ]
          refine wpAnyH_take (i := 23) (oi := { dst := some 145, op := Go.Op.binOp Go.BinOp.neq 27 (Go.Operand.tmp 144) (Go.Operand.const (Go.Value.int Go.IntKind.i64 0)) 27, type := 4, pos := "outright.go:143", after := #[{ on := 22, ground := Go.Ground.data }, { on := 20, ground := Go.Ground.guard }], guard := some (20, false) }) (v := .bool false) rfl (by kernel_rfl) (by kernel_rfl) (by kernel_rfl) (fun _ _ _ h => h) (Or.inl ⟨by rfl, ?_⟩) (by assumption) ?_
          · intro W hSw
            go_simp
          simp only [Act.put, List.setIfInBounds_toArray, List.set_cons_zero, List.set_cons_succ]
          refine wpAnyH_take (i := 24) (oi := { dst := some 146, op := Go.Op.move (Go.Operand.tmp 145), type := 4, pos := "outright.go:143", after := #[{ on := 23, ground := Go.Ground.data }, { on := 20, ground := Go.Ground.chain }, { on := 20, ground := Go.Ground.guard }], guard := some (20, false) }) (v := .bool false) rfl (by kernel_rfl) (by kernel_rfl) (by kernel_rfl) (fun _ _ _ h => h) (Or.inl ⟨by rfl, ?_⟩) (by assumption) ?_
          · intro W hSw
            go_simp
          simp only [Act.put, List.setIfInBounds_toArray, List.set_cons_zero, List.set_cons_succ]
          refine wpAnyH_take (i := 25) (oi := { dst := some 147, op := Go.Op.move (Go.Operand.tmp 6), type := 47, pos := "outright.go:143", after := #[{ on := 24, ground := Go.Ground.guard }], guard := some (24, true) }) (v := undef) rfl (by kernel_rfl) (by kernel_rfl) (by kernel_rfl) (fun _ _ _ h => h) (Or.inr ⟨by rfl, rfl⟩) (by assumption) ?_
          simp only [Act.put, List.setIfInBounds_toArray, List.set_cons_zero, List.set_cons_succ]
          refine wpAnyH_take (i := 26) (oi := { dst := some 148, op := Go.Op.call { callee := Go.Callee.value (Go.Operand.func 33), args := #[Go.Operand.tmp 147], argTypes := #[47] }, type := 54, pos := "outright.go:143", after := #[{ on := 25, ground := Go.Ground.data }, { on := 24, ground := Go.Ground.chain }, { on := 24, ground := Go.Ground.guard }], guard := some (24, true) }) (v := undef) rfl (by kernel_rfl) (by kernel_rfl) (by kernel_rfl) (fun _ _ _ h => h) (Or.inr ⟨by rfl, rfl⟩) (by assumption) ?_
          simp only [Act.put, List.setIfInBounds_toArray, List.set_cons_zero, List.set_cons_succ]
          refine wpAnyH_take (i := 27) (oi := { dst := some 149, op := Go.Op.load 54 (Go.Operand.tmp 10), type := 54, pos := "outright.go:143", after := #[{ on := 24, ground := Go.Ground.guard }], guard := some (24, true) }) (v := undef) rfl (by kernel_rfl) (by kernel_rfl) (by kernel_rfl) (fun _ _ _ h => h) (Or.inr ⟨by rfl, rfl⟩) (by assumption) ?_
          simp only [Act.put, List.setIfInBounds_toArray, List.set_cons_zero, List.set_cons_succ]
          refine wpAnyH_take (i := 28) (oi := { dst := some 150, op := Go.Op.binOp Go.BinOp.neq 54 (Go.Operand.tmp 148) (Go.Operand.tmp 149) 54, type := 4, pos := "outright.go:143", after := #[{ on := 26, ground := Go.Ground.data }, { on := 27, ground := Go.Ground.data }, { on := 24, ground := Go.Ground.guard }], guard := some (24, true) }) (v := undef) rfl (by kernel_rfl) (by kernel_rfl) (by kernel_rfl) (fun _ _ _ h => h) (Or.inr ⟨by rfl, rfl⟩) (by assumption) ?_
          simp only [Act.put, List.setIfInBounds_toArray, List.set_cons_zero, List.set_cons_succ]
          refine wpAnyH_take (i := 29) (oi := { dst := some 151, op := Go.Op.pick (Go.Operand.tmp 146) (Go.Operand.tmp 150) (Go.Operand.const (Go.Value.bool false)), type := 4, pos := "outright.go:143", after := #[{ on := 24, ground := Go.Ground.data }, { on := 28, ground := Go.Ground.data }, { on := 20, ground := Go.Ground.guard }], guard := some (20, false) }) (v := .bool false) rfl (by kernel_rfl) (by kernel_rfl) (by kernel_rfl) (fun _ _ _ h => h) (Or.inl ⟨by rfl, ?_⟩) (by assumption) ?_
          · intro W hSw
            go_simp
          simp only [Act.put, List.setIfInBounds_toArray, List.set_cons_zero, List.set_cons_succ]
          refine wpAnyH_take (i := 30) (oi := { dst := some 152, op := Go.Op.pick (Go.Operand.tmp 142) (Go.Operand.const (Go.Value.bool true)) (Go.Operand.tmp 151), type := 4, pos := "outright.go:143", after := #[{ on := 20, ground := Go.Ground.data }, { on := 29, ground := Go.Ground.data }], guard := none }) (v := .bool false) rfl (by kernel_rfl) (by kernel_rfl) (by kernel_rfl) (fun _ _ _ h => h) (Or.inl ⟨by rfl, ?_⟩) (by assumption) ?_
          · intro W hSw
            go_simp
          simp only [Act.put, List.setIfInBounds_toArray, List.set_cons_zero, List.set_cons_succ]
          refine wpAnyH_take (i := 31) (oi := { dst := some 153, op := Go.Op.move (Go.Operand.tmp 152), type := 4, pos := "outright.go:143", after := #[{ on := 30, ground := Go.Ground.data }, { on := 26, ground := Go.Ground.chain }], guard := none }) (v := .bool false) rfl (by kernel_rfl) (by kernel_rfl) (by kernel_rfl) (fun _ _ _ h => h) (Or.inl ⟨by rfl, ?_⟩) (by assumption) ?_
          · intro W hSw
            go_simp
          simp only [Act.put, List.setIfInBounds_toArray, List.set_cons_zero, List.set_cons_succ]
          refine wpAnyH_take (i := 32) (oi := { dst := some 154, op := Go.Op.move (Go.Operand.tmp 6), type := 47, pos := "outright.go:143", after := #[{ on := 31, ground := Go.Ground.guard }], guard := some (31, false) }) (v := .pointer (some ⟨R, 0, none⟩)) rfl (by kernel_rfl) (by kernel_rfl) (by kernel_rfl) (fun _ _ _ h => h) (Or.inl ⟨by rfl, ?_⟩) (by assumption) ?_
          · intro W hSw
            go_simp
          simp only [Act.put, List.setIfInBounds_toArray, List.set_cons_zero, List.set_cons_succ]
          refine wpAnyH_take (i := 34) (oi := { dst := some 156, op := Go.Op.move (Go.Operand.tmp 6), type := 47, pos := "outright.go:143", after := #[{ on := 31, ground := Go.Ground.guard }], guard := some (31, false) }) (v := .pointer (some ⟨R, 0, none⟩)) rfl (by kernel_rfl) (by kernel_rfl) (by kernel_rfl) (fun _ _ _ h => h) (Or.inl ⟨by rfl, ?_⟩) (by assumption) ?_
          · intro W hSw
            go_simp
          simp only [Act.put, List.setIfInBounds_toArray, List.set_cons_zero, List.set_cons_succ]
          refine wpAnyH_ready (rs := [33]) (by kernel_rfl) (by simp) ?_
          refine AllReadyH.cons (o := { dst := some 155, op := Go.Op.call { callee := Go.Callee.value (Go.Operand.func 34), args := #[Go.Operand.tmp 154], argTypes := #[47] }, type := 54, pos := "outright.go:143", after := #[{ on := 32, ground := Go.Ground.data }, { on := 31, ground := Go.Ground.chain }, { on := 31, ground := Go.Ground.guard }], guard := some (31, false) }) rfl (fun K hK => ?_) AllReadyH.nil
          go_simp
          refine (end_any (rdb_ch HRBa.out (Ch.drew w10 No) id (fun _ _ => id))).mono ?_; rw [HEND.out]; rintro e wE ⟨rfl, hbE'⟩
          have hbE : Below w10.heap.size w10 wE := ((Ch.drew w10 No).below (Nat.le_refl _) (fun _ h => h.elim)).trans hbE'
          go_wp2_with fail
          refine hK.out _ _ ⟨below_cell hbE t0, below_cell hbE t1, below_cell hbE u1, below_cell hbE u2, below_cell hbE u3⟩ (fun hHeld => ?_)
          clear hK K
          try simp only [Act.put, List.setIfInBounds_toArray, List.set_cons_zero, List.set_cons_succ]
          refine wpAnyH_ready (rs := [35]) (by kernel_rfl) (by simp) ?_
          refine AllReadyH.cons (o := { dst := some 157, op := Go.Op.call { callee := Go.Callee.value (Go.Operand.func 33), args := #[Go.Operand.tmp 156], argTypes := #[47] }, type := 54, pos := "outright.go:143", after := #[{ on := 34, ground := Go.Ground.data }, { on := 33, ground := Go.Ground.chain }, { on := 31, ground := Go.Ground.guard }], guard := some (31, false) }) rfl (fun K hK => ?_) AllReadyH.nil
          go_simp
          refine (fault_any (rdb_ch HRBa.out (Ch.of_below hbE No) id (fun _ _ => id))).mono ?_; rintro e wG ⟨rfl, hbG'⟩
          have hbG : Below w10.heap.size w10 wG := hbE.trans (hbG'.mono hbE.size)
          go_wp2_with fail
          refine hK.out _ _ ⟨below_cell hbG t0, below_cell hbG t1, below_cell hbG u1, below_cell hbG u2, below_cell hbG u3⟩ (fun hHeld => ?_)
          clear hK K
          try simp only [Act.put, List.setIfInBounds_toArray, List.set_cons_zero, List.set_cons_succ]
          refine wpAnyH_take (i := 36) (oi := { dst := some 158, op := Go.Op.binOp Go.BinOp.neq 54 (Go.Operand.tmp 155) (Go.Operand.tmp 157) 54, type := 4, pos := "outright.go:143", after := #[{ on := 33, ground := Go.Ground.data }, { on := 35, ground := Go.Ground.data }, { on := 31, ground := Go.Ground.guard }], guard := some (31, false) }) (v := .bool false) rfl (by kernel_rfl) (by kernel_rfl) (by kernel_rfl) (fun _ _ _ h => h) (Or.inl ⟨by rfl, ?_⟩) (by assumption) ?_
          · intro W hSw
            go_simp
          simp only [Act.put, List.setIfInBounds_toArray, List.set_cons_zero, List.set_cons_succ]
          refine wpAnyH_take (i := 37) (oi := { dst := some 159, op := Go.Op.pick (Go.Operand.tmp 153) (Go.Operand.const (Go.Value.bool true)) (Go.Operand.tmp 158), type := 4, pos := "outright.go:143", after := #[{ on := 31, ground := Go.Ground.data }, { on := 36, ground := Go.Ground.data }], guard := none }) (v := .bool false) rfl (by kernel_rfl) (by kernel_rfl) (by kernel_rfl) (fun _ _ _ h => h) (Or.inl ⟨by rfl, ?_⟩) (by assumption) ?_
          · intro W hSw
            go_simp
          simp only [Act.put, List.setIfInBounds_toArray, List.set_cons_zero, List.set_cons_succ]
          refine wpAnyH_done (by kernel_rfl) ?_ _
          all_goals
            go_wp2
            go_roundw
            case rel => exact ⟨k + 1, t, v, by omega, by go_num, HTB.out, rdb_ch HRBa.out (Ch.of_below hbG No) id (fun _ _ => id), by rw [hat]; exact wr_ch HWRa.out (Ch.of_below hbG No) id (fun _ _ => id), HBa.out.trans (hbG.mono HBa.out.size)⟩
            case measure => simp [intOf]; omega
        · have gs : (s.e != 0) = true := by simpa using hs
          have hts := hsame hs
          have hte : t.e = s.e ∧ t.p = s.p := by rw [hts]; exact ⟨rfl, rfl⟩
          have t0' : w10.cell? ⟨w6.heap.size, 0, none⟩ = some (.int .i64 t.e) := by rw [hte.1]; exact t0
          have t1' : w10.cell? ⟨w6.heap.size, 1, none⟩ = some (.int .i64 t.p) := by rw [hte.2]; exact t1
          have gt : (t.e != 0) = true := by simpa using he
          clear hend hs hsame t0 t1 hts hte gs
          go_wp2_with fail
          first
            | (go_region_held3 (fun W => W.cell? ⟨w6.heap.size, 0, none⟩ = some (.int .i64 t.e) ∧ W.cell? ⟨w6.heap.size, 1, none⟩ = some (.int .i64 t.p) ∧ W.cell? ⟨w6.heap.size + 1, 1, none⟩ = some (.int .i64 0) ∧ W.cell? ⟨w6.heap.size + 1, 2, none⟩ = some (.string ⟨#[]⟩) ∧ W.cell? ⟨w6.heap.size + 1, 3, none⟩ = some (.slice A7 0 c7)) (first | exact ⟨t0', t1', u1, u2, u3⟩ | exact ⟨below_cell hbD t0', below_cell hbD t1', below_cell hbD u1, below_cell hbD u2, below_cell hbD u3⟩ | exact ⟨below_cell hbE t0', below_cell hbE t1', below_cell hbE u1, below_cell hbE u2, below_cell hbE u3⟩ | exact ⟨below_cell hbG t0', below_cell hbG t1', below_cell hbG u1, below_cell hbG u2, below_cell hbG u3⟩) (first | (go_at_call 30; refine (rat_any (rdb_ch HRBa.out (Ch.drew w10 No) id (fun _ _ => id))).mono ?_; rintro e wx ⟨rfl, rfl⟩) | (go_at_call 33; refine (fault_any (rdb_ch HRBa.out (Ch.of_below hbE No) id (fun _ _ => id))).mono ?_; rintro e wG ⟨rfl, hbG'⟩; have hbG : Below w10.heap.size w10 wG := hbE.trans (hbG'.mono hbE.size)) | (go_at_call 33; refine (fault_any (rdb_ch HRBa.out (Ch.drew w10 No) id (fun _ _ => id))).mono ?_; rintro e wD ⟨rfl, hbD'⟩; have hbD : Below w10.heap.size w10 wD := ((Ch.drew w10 No).below (Nat.le_refl _) (fun _ h => h.elim)).trans hbD'; have t0D := below_cell hbD t0'; have t1D := below_cell hbD t1') | (go_at_call 34; refine (end_any (rdb_ch HRBa.out (Ch.of_below hbD No) id (fun _ _ => id))).mono ?_; rw [HEND.out]; rintro e wE ⟨rfl, hbE'⟩; have hbE : Below w10.heap.size w10 wE := hbD.trans (hbE'.mono hbD.size))))
          all_goals
            go_wp2
            go_roundw
            case rel => exact ⟨k + 1, t, v, by omega, by go_num, HTB.out, rdb_ch HRBa.out (Ch.of_below hbG No) id (fun _ _ => id), by rw [hat]; exact wr_ch HWRa.out (Ch.of_below hbG No) id (fun _ _ => id), HBa.out.trans (hbG.mono HBa.out.size)⟩
            case measure => simp [intOf]; omega
    · obtain rfl : n1 = k := by omega
      have hlat : s.at_ ≤ n0 := by have h1 := HRB.out.fit.le; rw [HSB.out, HL.out] at h1; exact h1
      go_wp2_with fail
      refine (wout_any HWR.out (by rw [List.length_take]; omega)).mono ?_
      rintro e w5 ⟨A5, n5, c5, rfl, hh5, hb5⟩
      rw [if_pos rfl] at hh5
      have HHD := Lib.hid (held_rd hh5); have HB5 := Lib.hid (HBR.out.trans (hb5.mono HBR.out.size)); have HRB5 := Lib.hid (rdb_ch HRB.out (Ch.of_below hb5 No) id (fun _ _ => id))
      clear hh5 hb5
      go_wp2_with fail
      refine (rat_any HRB5.out).mono ?_
      rintro e w6 ⟨rfl, rfl⟩
      have hs1 : (0 : Int) ≤ (s.at_ : Int) := by omega
      have hs2 : (s.at_ : Int) ≤ (c0 : Int) := by have := HR.out.cap; omega
      have hcut : Rd w6 A0 s.at_ c0 1 (u8s (l.take s.at_)) := by
        have := (HR.out.below HB5.out).cut 0 s.at_ (by omega) (u8s (l.take s.at_)) (by rw [Nat.zero_mul, List.drop_zero, Nat.mul_one, u8s_take])
        cases A0 with
        | none => simpa using this
        | some a => simpa [Addr.add] using this
      have HCUT := Lib.hid hcut
      clear hcut
      go_wp2_with fail
      refine (same_any _ _ _ _ _ _ _ _ _ HHD.out HCUT.out).mono ?_
      rw [eqB_self]
      rintro e w7 ⟨rfl, rfl⟩
      go_wp2
      go_ret
      exact ⟨rfl, HB5.out⟩
end Go.Proofs.Ytondodhpmghogaa
