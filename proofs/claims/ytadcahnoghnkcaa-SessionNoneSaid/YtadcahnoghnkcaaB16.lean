/- Walk: without a session nothing is sent (SessionNone): the law. No conditions. -/
import Derived.Test.YtadcahnoghnkcaaB15
namespace Go.Proofs.Ytadcahnoghnkcaa
open Go.RowKit
set_option linter.unusedVariables false
set_option linter.unusedSimpArgs false

def NoneI (w : World) (B0 B1 B2 : Nat) (x : Ac) (wr : World) : Prop :=
  Blk wr B2 22 #[.pointer none, .pointer (some ⟨B1, 0, none⟩)] ∧ wr.cell? ⟨B1, 0, none⟩ = some (.int .i64 0) ∧ Blk wr B0 60 x.cells.toArray ∧ Below w.heap.size w wr
theorem noneI_below {w wr w' : World} {B0 B1 B2 : Nat} {x : Ac} (h : NoneI w B0 B1 B2 x wr) (hb : Below wr.heap.size wr w') : NoneI w B0 B1 B2 x w' :=
  ⟨blk_below h.1 hb, below_cell hb h.2.1, blk_below h.2.2.1 hb, h.2.2.2.trans (hb.mono h.2.2.2.size)⟩

set_option maxRecDepth 100000 in
set_option maxHeartbeats 4000000 in
theorem none6 (x : Ac) (w : World) (hr : Rd w x.M x.m x.d 1 (u8s x.l)) : Calls Try.prog 6 #[.agg x.cells.toArray] w (AwakeQ w) := by
  obtain ⟨k, fr, to, nu, ac, M, m, d, l⟩ := x
  simp only [Ac.cells] at hr ⊢
  have hb2 : Below w.heap.size w ((w.alloc (.cells #[.int .i64 k, .int .i64 fr, .int .i64 to, .int .i64 nu, .int .i64 ac, .slice M m d] 60)).alloc (.cells #[.int .i64 k, .int .i64 fr, .int .i64 to, .int .i64 nu, .int .i64 ac, .slice M m d] 60)) := ((Below.refl _ w).alloc (Nat.le_refl _) _).alloc (by simp) _
  have hT := blk_below (blk_new w 60 #[.int .i64 k, .int .i64 fr, .int .i64 to, .int .i64 nu, .int .i64 ac, .slice M m d]) ((Below.refl _ _).alloc (Nat.le_refl _) (.cells #[.int .i64 k, .int .i64 fr, .int .i64 to, .int .i64 nu, .int .i64 ac, .slice M m d] 60))
  have hR := blk_new (w.alloc (.cells #[.int .i64 k, .int .i64 fr, .int .i64 to, .int .i64 nu, .int .i64 ac, .slice M m d] 60)) 60 #[.int .i64 k, .int .i64 fr, .int .i64 to, .int .i64 nu, .int .i64 ac, .slice M m d]
  have hz : (w.alloc (.cells #[.int .i64 k, .int .i64 fr, .int .i64 to, .int .i64 nu, .int .i64 ac, .slice M m d] 60)).heap.size = w.heap.size + 1 := by simp
  rw [hz] at hR
  have hrd := hr.below hb2
  go_enter Try.func6, Try.ntmps6
  go_wp2_with fail
  obtain ⟨W0, hW0⟩ : ∃ x, x = ((w.alloc (.cells #[.int .i64 k, .int .i64 fr, .int .i64 to, .int .i64 nu, .int .i64 ac, .slice M m d] 60)).alloc (.cells #[.int .i64 k, .int .i64 fr, .int .i64 to, .int .i64 nu, .int .i64 ac, .slice M m d] 60)) := ⟨_, rfl⟩
  rw [← hW0] at hb2 hT hR hrd ⊢
  have hacs : Acs W0 (some ⟨w.heap.size + 1, 0, none⟩) 1 1 (fun _ => ⟨k, fr, to, nu, ac, M, m, d, l⟩) := by
    refine ⟨Nat.le_refl _, by omega, fun i hi => ?_⟩
    obtain rfl : i = 0 := by omega
    exact ⟨_, _, rfl, blk_cell hR 0 _ rfl, blk_cell hR 1 _ rfl, blk_cell hR 2 _ rfl, blk_cell hR 3 _ rfl, blk_cell hR 4 _ rfl, blk_cell hR 5 _ rfl, hrd⟩
  have HT := Lib.hid hT; have HB := Lib.hid hb2
  have hzw : w.heap.size < W0.heap.size := blk_lt hT
  clear hT hR hb2 hrd hW0 hz hr
  refine (long_any _ 1 1 _ W0 hacs).mono ?_; rintro e w1 ⟨⟨b, rfl, hb⟩, rfl⟩
  clear hacs
  cases b
  rotate_left
  · go_wp2_with fail
    refine (awake21 _).mono ?_; rintro e w1 ⟨rfl, hB⟩
    go_wp2
    go_ret
    exact ⟨rfl, HB.out.trans (hB.mono HB.out.size)⟩
  clear hb
  have k2 := blk_new W0 75 #[.int .i64 0, .int .i64 0, .slice none 0 0, .bool false, .int .i64 0, .slice none 0 0, .bool false, .int .i64 0, .slice none 0 0, .bool false, .int .i64 0, .slice none 0 0, .bool false, .int .i64 0, .slice none 0 0, .bool false, .int .i64 0, .slice none 0 0, .bool false, .int .i64 0, .slice none 0 0, .bool false, .int .i64 0, .slice none 0 0, .bool false, .int .i64 0, .int .i64 0, .int .i64 0, .int .i64 0, .int .u32 0, .slice none 0 0, .int .i64 0]
  have k3 := blk_new (W0.alloc (.cells #[.int .i64 0, .int .i64 0, .slice none 0 0, .bool false, .int .i64 0, .slice none 0 0, .bool false, .int .i64 0, .slice none 0 0, .bool false, .int .i64 0, .slice none 0 0, .bool false, .int .i64 0, .slice none 0 0, .bool false, .int .i64 0, .slice none 0 0, .bool false, .int .i64 0, .slice none 0 0, .bool false, .int .i64 0, .slice none 0 0, .bool false, .int .i64 0, .int .i64 0, .int .i64 0, .int .i64 0, .int .u32 0, .slice none 0 0, .int .i64 0] 75)) 22 #[.pointer none, .pointer (some ⟨W0.heap.size, 0, none⟩)]
  have hz2 : (W0.alloc (.cells #[.int .i64 0, .int .i64 0, .slice none 0 0, .bool false, .int .i64 0, .slice none 0 0, .bool false, .int .i64 0, .slice none 0 0, .bool false, .int .i64 0, .slice none 0 0, .bool false, .int .i64 0, .slice none 0 0, .bool false, .int .i64 0, .slice none 0 0, .bool false, .int .i64 0, .slice none 0 0, .bool false, .int .i64 0, .slice none 0 0, .bool false, .int .i64 0, .int .i64 0, .int .i64 0, .int .i64 0, .int .u32 0, .slice none 0 0, .int .i64 0] 75)).heap.size = W0.heap.size + 1 := by simp
  rw [hz2] at k3
  have hbel : Below W0.heap.size W0 ((W0.alloc (.cells #[.int .i64 0, .int .i64 0, .slice none 0 0, .bool false, .int .i64 0, .slice none 0 0, .bool false, .int .i64 0, .slice none 0 0, .bool false, .int .i64 0, .slice none 0 0, .bool false, .int .i64 0, .slice none 0 0, .bool false, .int .i64 0, .slice none 0 0, .bool false, .int .i64 0, .slice none 0 0, .bool false, .int .i64 0, .slice none 0 0, .bool false, .int .i64 0, .int .i64 0, .int .i64 0, .int .i64 0, .int .u32 0, .slice none 0 0, .int .i64 0] 75)).alloc (.cells #[.pointer none, .pointer (some ⟨W0.heap.size, 0, none⟩)] 22)) := ((Below.refl _ W0).alloc (Nat.le_refl _) _).alloc (by simp) _
  have hI : NoneI w w.heap.size W0.heap.size (W0.heap.size + 1) ⟨k, fr, to, nu, ac, M, m, d, l⟩ ((W0.alloc (.cells #[.int .i64 0, .int .i64 0, .slice none 0 0, .bool false, .int .i64 0, .slice none 0 0, .bool false, .int .i64 0, .slice none 0 0, .bool false, .int .i64 0, .slice none 0 0, .bool false, .int .i64 0, .slice none 0 0, .bool false, .int .i64 0, .slice none 0 0, .bool false, .int .i64 0, .slice none 0 0, .bool false, .int .i64 0, .slice none 0 0, .bool false, .int .i64 0, .int .i64 0, .int .i64 0, .int .i64 0, .int .u32 0, .slice none 0 0, .int .i64 0] 75)).alloc (.cells #[.pointer none, .pointer (some ⟨W0.heap.size, 0, none⟩)] 22)) :=
    ⟨k3, blk_cell (blk_below k2 ((Below.refl _ _).alloc (Nat.le_refl _) _)) 0 _ rfl, blk_below HT.out hbel, HB.out.trans (hbel.mono HB.out.size)⟩
  clear k2 k3 hz2 hbel
  go_wp2_with fail
  obtain ⟨W1, hW1⟩ : ∃ x, x = ((W0.alloc (.cells #[.int .i64 0, .int .i64 0, .slice none 0 0, .bool false, .int .i64 0, .slice none 0 0, .bool false, .int .i64 0, .slice none 0 0, .bool false, .int .i64 0, .slice none 0 0, .bool false, .int .i64 0, .slice none 0 0, .bool false, .int .i64 0, .slice none 0 0, .bool false, .int .i64 0, .slice none 0 0, .bool false, .int .i64 0, .slice none 0 0, .bool false, .int .i64 0, .int .i64 0, .int .i64 0, .int .i64 0, .int .u32 0, .slice none 0 0, .int .i64 0] 75)).alloc (.cells #[.pointer none, .pointer (some ⟨W0.heap.size, 0, none⟩)] 22)) := ⟨_, rfl⟩
  rw [← hW1] at hI ⊢
  clear hW1
  obtain ⟨B0, hB0⟩ : ∃ x, x = w.heap.size := ⟨_, rfl⟩
  obtain ⟨B1, hB1⟩ : ∃ x, x = W0.heap.size := ⟨_, rfl⟩
  obtain ⟨B2, hB2⟩ : ∃ x, x = W0.heap.size + 1 := ⟨_, rfl⟩
  have HI : Hid (NoneI w B0 B1 B2 ⟨k, fr, to, nu, ac, M, m, d, l⟩ W1) := Lib.hid (by rw [hB0, hB1, hB2]; exact hI)
  rw [← hB2, ← hB0]
  clear hI hB0 hB1 hB2 HT HB hzw
  go_loopw [4] (fun i wr => ∃ j : Nat, j ≤ 2 ∧ i = .int .i64 j ∧ Hid (NoneI w B0 B1 B2 ⟨k, fr, to, nu, ac, M, m, d, l⟩ wr)) (fun i _ => 2 - (intOf i).toNat)
  case atStart => exact ⟨0, Nat.zero_le _, rfl, HI⟩
  case round =>
    clear HI
    obtain ⟨j, hj, rfl, HI⟩ := hrel
    by_cases hlt : j < 2
    · obtain ⟨p, hp, hno⟩ : ∃ p, wr.cell? ⟨B2, j, none⟩ = some (.pointer p) ∧ NoSes wr p := by
        rcases Nat.lt_or_ge j 1 with h | h
        · obtain rfl : j = 0 := by omega
          exact ⟨none, blk_cell HI.out.1 0 _ rfl, .inl rfl⟩
        · obtain rfl : j = 1 := by omega
          exact ⟨_, blk_cell HI.out.1 1 _ rfl, .inr ⟨B1, rfl, HI.out.2.1⟩⟩
      have HNO := Lib.hid hno; clear hno
      have c1 : wr.cell? ⟨B0, 1, none⟩ = some (.int .i64 fr) := blk_cell HI.out.2.2.1 1 _ rfl
      have c2 : wr.cell? ⟨B0, 2, none⟩ = some (.int .i64 to) := blk_cell HI.out.2.2.1 2 _ rfl
      have c3 : wr.cell? ⟨B0, 3, none⟩ = some (.int .i64 nu) := blk_cell HI.out.2.2.1 3 _ rfl
      have c4 : wr.cell? ⟨B0, 4, none⟩ = some (.int .i64 ac) := blk_cell HI.out.2.2.1 4 _ rfl
      have c5 : wr.cell? ⟨B0, 5, none⟩ = some (.slice M m d) := blk_cell HI.out.2.2.1 5 _ rfl
      go_wp2_with fail
      refine (tick_no HNO.out).mono ?_; rintro e w2 ⟨rfl, rfl⟩
      go_wp2_with fail
      refine (recv_no HNO.out fr to nu ac M m d).mono ?_; rintro e w3 ⟨rfl, hb3⟩
      have HNO3 := Lib.hid (noSes_below HNO.out hb3)
      have HI3 := Lib.hid (noneI_below HI.out hb3)
      have d5 : w3.cell? ⟨B0, 5, none⟩ = some (.slice M m d) := blk_cell HI3.out.2.2.1 5 _ rfl
      clear hb3 HNO HI c1 c2 c3 c4 c5 hp
      go_wp2_with fail
      refine (send_no HNO3.out M m d).mono ?_; rintro e w4 ⟨rfl, rfl⟩
      go_wp2_with fail
      refine (out_no HNO3.out).mono ?_; rintro e w4 ⟨rfl, rfl⟩
      go_wp2_with fail
      refine (take_no HNO3.out).mono ?_; rintro e w4 ⟨rfl, rfl⟩
      go_wp2_with fail
      refine (peer_no HNO3.out).mono ?_; rintro e w4 ⟨rfl, rfl⟩
      go_wp2_with fail
      refine (wait_no HNO3.out).mono ?_; rintro e w4 ⟨rfl, rfl⟩
      go_wp2_with fail
      refine (turns_no HNO3.out).mono ?_; rintro e w4 ⟨rfl, rfl⟩
      go_wp2
      go_roundw
      case rel => exact ⟨j + 1, by omega, by go_num, HI3⟩
      case measure => simp [intOf]; omega
    · obtain rfl : j = 2 := by omega
      go_wp2_with fail
      refine (awake21 _).mono ?_; rintro e w6 ⟨rfl, hB6⟩
      have HB6 := Lib.hid (HI.out.2.2.2.trans (hB6.mono HI.out.2.2.2.size))
      go_wp2
      go_ret
      exact ⟨rfl, HB6.out⟩
end Go.Proofs.Ytadcahnoghnkcaa
