/- Walk: the law of Read. Conditions: the bytes are as they come in. -/
import Derived.Test.YtondodhpmghogaaE8
import Derived.Test.YtondodhpmghogaaL4
namespace Go.Proofs.Ytondodhpmghogaa
open Go.RowKit
set_option linter.unusedVariables false
set_option linter.unusedSimpArgs false

theorem sameE_self (k m : Int) (l : List UInt8) : sameE k m l k m l = true := by rw [sameE_ord, beq_iff_eq, ordE_zero]; exact ⟨rfl, rfl, rfl⟩
set_option maxRecDepth 100000 in
set_option maxHeartbeats 4000000 in
theorem ereads_law (A0 : Option Addr) (n0 c0 : Nat) (l : List UInt8) (w : World) (hr : Rd w A0 n0 c0 1 (u8s l)) :
    Calls Try.prog 10 #[.slice A0 n0 c0] w fun e w' => e = .returned (.bool true) ∧ Below w.heap.size w w' := by
  have hl : l.length = n0 := by have := hr.len; simpa using this
  have hn63 := hr.small
  have HR := Lib.hid hr; have HL := Lib.hid hl
  clear hr hl
  by_cases hlong : 2000 < n0
  · have g1 : decide ((2000 : Int) < (n0 : Int)) = true := decide_eq_true (by omega)
    go_enter Try.func10, Try.ntmps10
    go_wp2_with fail
    refine (eawake_any _).mono ?_
    rintro e w4 ⟨rfl, hb4⟩
    go_wp2
    go_ret
    exact ⟨rfl, hb4⟩
  have g1 : decide ((2000 : Int) < (n0 : Int)) = false := decide_eq_false (by omega)
  have hn0 : n0 ≤ 2000 := by omega
  clear hlong hn63
  go_enter Try.func10, Try.ntmps10
  go_wp2_with fail
  refine (lent_any _ _ _ l _ HR.out (by omega)).mono ?_
  rintro e w2 ⟨g, c', rfl, hg, hnc', hrow, hb2⟩
  have hrl : Rd w2 (some ⟨g, 0, none⟩) n0 (n0 + 3) 1 (u8s l) := hrow.rd 0 n0 (n0 + 3) (u8s l) (by rw [List.drop_zero, u8s_take, Nat.mul_one, ← HL.out]; simp) (by rw [u8s_length, List.length_append, HL.out]; omega) (by omega) (by have := hrow.big; omega)
  have HROW2 := Lib.hid hrow; have HB2 := Lib.hid hb2; have HRL := Lib.hid hrl
  have hglt := hrow.lt
  have hz2 := hb2.size
  clear hrow hb2 hrl
  go_wp2_with fail
  refine (eread_any HRL.out (by omega)).mono ?_
  obtain ⟨r, hr⟩ : ∃ z, z = effR l := ⟨_, rfl⟩
  rw [← hr]
  have HRR := Lib.hid hr
  clear hr
  rintro e w3 ⟨A, n, c, rfl, hh3, hb3⟩
  have hz3 := hb3.size
  have HB3 := Lib.hid (HB2.out.trans (hb3.mono HB2.out.size)); have HROW3 := Lib.hid (HROW2.out.below hb3); have HH3 := Lib.hid hh3
  obtain ⟨X, hX⟩ : ∃ z, z = w3.heap.size := ⟨_, rfl⟩
  obtain ⟨w4, hw4⟩ : ∃ z, z = (w3.alloc (.cells #[.int .i64 r.k, .int .i64 r.m, .slice A n c] 72)).alloc (.cells #[.int .i64 r.e, .int .i64 r.p] 54) := ⟨_, rfl⟩
  have hb4 : Below w3.heap.size w3 w4 := by rw [hw4]; exact (box_below w3 _).alloc (by simp) _
  have hX4 : Blk w4 X 72 #[.int .i64 r.k, .int .i64 r.m, .slice A n c] := by rw [hw4, hX]; exact blk_below (blk_new _ _ _) (box_below _ _)
  have hY4 : Blk w4 (X + 1) 54 #[.int .i64 r.e, .int .i64 r.p] := by
    rw [hw4, hX]
    have := blk_new (w3.alloc (.cells #[.int .i64 r.k, .int .i64 r.m, .slice A n c] 72)) 54 #[.int .i64 r.e, .int .i64 r.p]
    rwa [World.size_alloc] at this
  have HB4 := Lib.hid (HB3.out.trans (hb4.mono HB3.out.size)); have HROW4 := Lib.hid (HROW3.out.below hb4); have HH4 := Lib.hid (held_ch HH3.out (Ch.of_below hb4 No) (fun _ _ => id))
  have HX4 := Lib.hid hX4; have HY4 := Lib.hid hY4
  clear hb3 hh3 hb4 hX4 hY4
  go_wp2_with fail
  rw [← hw4, ← hX]
  clear hw4 hX
  refine (reread_any (HR.out.below HB4.out) (by omega)).mono ?_
  rw [← HRR.out]
  rintro e w5 ⟨A2, n2, c2, rfl, hh5, hf5, hb5⟩
  have HB5 := Lib.hid (HB4.out.trans (hb5.mono HB4.out.size)); have HROW5 := Lib.hid (HROW4.out.below hb5); have HH5 := Lib.hid (held_ch HH4.out (Ch.of_below hb5 No) (fun _ _ => id))
  have HX5 := Lib.hid (blk_below HX4.out hb5); have HY5 := Lib.hid (blk_below HY4.out hb5); have HS5 := Lib.hid hh5
  have hz5 := hb5.size
  obtain ⟨U, hU⟩ : ∃ z, z = w5.heap.size := ⟨_, rfl⟩
  obtain ⟨w6, hw6⟩ : ∃ z, z = (w5.alloc (.cells #[.int .i64 r.k, .int .i64 r.m, .slice A2 n2 c2] 72)).alloc (.cells #[.int .i64 r.e, .int .i64 r.p] 54) := ⟨_, rfl⟩
  have hb6 : Below w5.heap.size w5 w6 := by rw [hw6]; exact (box_below w5 _).alloc (by simp) _
  have hX6 := blk_below HX5.out hb6
  have hY6 := blk_below HY5.out hb6
  have HB6 := Lib.hid (HB5.out.trans (hb6.mono HB5.out.size)); have HROW6 := Lib.hid (HROW5.out.below hb6); have HH6 := Lib.hid (held_ch HH5.out (Ch.of_below hb6 No) (fun _ _ => id))
  have HS6 := Lib.hid (HS5.out.below hb6)
  have e0 : ((w5.alloc (.cells #[.int .i64 r.k, .int .i64 r.m, .slice A2 n2 c2] 72)).alloc (.cells #[.int .i64 r.e, .int .i64 r.p] 54)).cell? ⟨X, 0, none⟩ = some (.int .i64 r.k) := by rw [← hw6]; exact blk_cell hX6 0 _ rfl
  have e1 : ((w5.alloc (.cells #[.int .i64 r.k, .int .i64 r.m, .slice A2 n2 c2] 72)).alloc (.cells #[.int .i64 r.e, .int .i64 r.p] 54)).cell? ⟨X, 1, none⟩ = some (.int .i64 r.m) := by rw [← hw6]; exact blk_cell hX6 1 _ rfl
  have e2 : ((w5.alloc (.cells #[.int .i64 r.k, .int .i64 r.m, .slice A2 n2 c2] 72)).alloc (.cells #[.int .i64 r.e, .int .i64 r.p] 54)).cell? ⟨X, 2, none⟩ = some (.slice A n c) := by rw [← hw6]; exact blk_cell hX6 2 _ rfl
  have hU6 : Blk w6 U 72 #[.int .i64 r.k, .int .i64 r.m, .slice A2 n2 c2] := by rw [hw6, hU]; exact blk_below (blk_new _ _ _) (box_below _ _)
  have hV6 : Blk w6 (U + 1) 54 #[.int .i64 r.e, .int .i64 r.p] := by
    rw [hw6, hU]
    have := blk_new (w5.alloc (.cells #[.int .i64 r.k, .int .i64 r.m, .slice A2 n2 c2] 72)) 54 #[.int .i64 r.e, .int .i64 r.p]
    rwa [World.size_alloc] at this
  have HX6 := Lib.hid hX6; have HY6 := Lib.hid hY6; have HU6 := Lib.hid hU6; have HV6 := Lib.hid hV6
  clear hb5 hh5 hb6 hX6 hY6 hU6 hV6 hf5
  go_wp2_with fail
  rw [← hw6, ← hU]
  clear hw6 hU e0 e1 e2
  refine (esame_any r.k r.m r.k r.m (held_rd HH6.out) HS6.out).mono ?_
  rw [sameE_self]
  rintro e w7 ⟨rfl, hb7⟩
  have HB7 := Lib.hid (HB6.out.trans (hb7.mono HB6.out.size)); have HROW7 := Lib.hid (HROW6.out.below hb7); have HH7 := Lib.hid (held_ch HH6.out (Ch.of_below hb7 No) (fun _ _ => id))
  have hX7 := blk_below HX6.out hb7
  have hY7 := blk_below HY6.out hb7
  have hV7 := blk_below HV6.out hb7
  have x2 := blk_cell hX7 2 _ rfl
  have y0 := blk_cell hY7 0 _ rfl
  have y1 := blk_cell hY7 1 _ rfl
  have v0 := blk_cell hV7 0 _ rfl
  have v1 := blk_cell hV7 1 _ rfl
  clear hb7 hX7 hY7 hV7
  go_wp2_with fail
  refine (over_held HH7.out).mono ?_
  rintro e w8 ⟨rfl, hc8⟩
  have HB8 := Lib.hid (((Ch.of_below HB7.out (fun j => w2.heap.size ≤ j)).trans hc8 (fun i hi => .inl hi)).below (Nat.le_refl _) (fun j hj => by omega))
  have HROW8 := Lib.hid (HROW7.out.ch hc8 (fun e => by omega))
  clear hc8 x2 y0 y1 v0 v1
  go_wp2_with fail
  refine (kept_any _ _ _ _ _ _ _ HROW8.out (HR.out.below HB8.out) (by omega)).mono ?_
  rintro e w9 ⟨rfl, hb9⟩
  have HB9 := Lib.hid (HB8.out.trans (hb9.mono HB8.out.size))
  clear hb9
  go_wp2_with fail
  refine (eawake_any _).mono ?_
  rintro e wa ⟨rfl, hba⟩
  go_wp2
  go_ret
  exact ⟨rfl, HB9.out.trans (hba.mono HB9.out.size)⟩
end Go.Proofs.Ytondodhpmghogaa
