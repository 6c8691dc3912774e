/- Walk: a box never has more than its quota (ChunkRoom). No conditions. -/
import Derived.Test.YtnlninmjmjffcaaU1
import Derived.Test.YtnlninmjmjffcaaTv
import Derived.Test.YtnlninmjmjffcaaTg
namespace Go.Proofs.Ytnlninmjmjffcaa
open Go.RowKit
set_option linter.unusedVariables false
set_option linter.unusedSimpArgs false

theorem msgs_in {w : World} {A : Option Addr} {n c : Nat} {F : Nat → Msg} (h : Msgs w A n c F) (i : Nat) (hi : i < n) : ∀ b, (F i).M = some b → 0 < (F i).m → b.block < w.heap.size := by
  obtain ⟨_, _, _, _, _, _, _, _, hr⟩ := h.2.2 i hi
  exact rd_in (sz := 0) hr
theorem put_cases {q it sz : Int} {x : List UInt8} (k i s a : Int) (l : List UInt8) (h1 : (x.length : Int) ≤ q) (h2 : sz ≤ q) (h0 : 0 ≤ q) :
    ∃ r1 re rit rsz rx, putS q it sz x k i s a l = (r1, re, rit, rsz, rx) ∧ (rx.length : Int) ≤ q ∧ rsz ≤ q ∧
      (re = 0 ∨ (re = 2 ∧ rit = it ∧ rx = x) ∨ (re = 8 ∧ a = 0) ∨ (re = 9 ∧ a ≠ 0 ∧ rit = it ∧ rx = x)) := by
  unfold putS
  split
  · exact ⟨_, _, _, _, _, rfl, h1, h2, .inr (.inl ⟨rfl, rfl, rfl⟩)⟩
  · split
    · split
      · exact ⟨_, _, _, _, _, rfl, by simpa using h0, h0, .inr (.inr (.inl ⟨rfl, by assumption⟩))⟩
      · split
        · exact ⟨_, _, _, _, _, rfl, by omega, by omega, .inl rfl⟩
        · exact ⟨_, _, _, _, _, rfl, by simpa using h0, h0, .inl rfl⟩
    · split
      · exact ⟨_, _, _, _, _, rfl, h1, h2, .inr (.inr (.inr ⟨rfl, by assumption, rfl, rfl⟩))⟩
      · split
        · exact ⟨_, _, _, _, _, rfl, by rw [List.length_append]; omega, by omega, .inl rfl⟩
        · exact ⟨_, _, _, _, _, rfl, by simpa using h0, h0, .inl rfl⟩

/-- what the loop of ChunkRoom keeps -/
def RoomI (w : World) (mid B : Nat) (q : Int) (wr : World) : Prop :=
  ∃ it sz x, BoxS wr mid B q it sz x ∧ (x.length : Int) ≤ q ∧ sz ≤ q ∧ Below w.heap.size w wr ∧ mid ≤ wr.heap.size

set_option maxRecDepth 100000 in
set_option maxHeartbeats 4000000 in
theorem room14 (quota : Int) (A : Option Addr) (n c : Nat) (F : Nat → Msg) (w : World) (hr : Msgs w A n c F) : Calls Try.prog 14 #[.int .i64 quota, .slice A n c] w (AwakeQ w) := by
  have hnc := hr.1
  have hc63 := hr.2.1
  have HR := Lib.hid hr; clear hr
  go_enter Try.func14, Try.ntmps14
  go_wp2_with fail
  refine (awake32 w).mono ?_; rintro e w1 ⟨rfl, hB1⟩
  have HB1 := Lib.hid hB1
  clear hB1
  go_wp2_with fail
  refine (pick_any quota 1000 w1 (by omega)).mono ?_; rintro e w2 ⟨rfl, rfl⟩
  have hq := pick_range quota 1000 (by omega)
  obtain ⟨q, hqq⟩ : ∃ x, x = pick quota 1000 := ⟨_, rfl⟩
  rw [← hqq] at hq ⊢
  clear hqq
  obtain ⟨hq0, hq1⟩ := hq
  go_wp2_with fail
  refine (new_any q w1).mono ?_; rintro e w3 hq
  rcases hq with ⟨h, _⟩ | ⟨_, _, rfl, hbx, hB3⟩
  · omega
  have hsz := hB3.size
  have hwz := HB1.out.size
  have hBlt := blk_lt hbx
  have HI : Hid (RoomI w w3.heap.size w1.heap.size q w3) := Lib.hid ⟨0, 0, [], boxS_new hbx _, by simpa using hq0, hq0, HB1.out.trans (hB3.mono HB1.out.size), Nat.le_refl _⟩
  obtain ⟨mid, hmid⟩ : ∃ x, x = w3.heap.size := ⟨_, rfl⟩
  rw [← hmid] at HI
  obtain ⟨B, hB⟩ : ∃ x, x = w1.heap.size := ⟨_, rfl⟩
  rw [← hB] at HI hwz hBlt ⊢
  rw [← hmid] at hBlt
  clear hbx hB3 HB1 hmid hB hsz
  by_cases hbig : 40 < n
  · go_wp2
    go_ret
    obtain ⟨it, sz, x, _, _, _, h5, _⟩ := HI.out
    exact ⟨rfl, h5⟩
  have g0 : decide (40 < (n : Int)) = false := by simp; omega
  go_wp2_with fail
  go_loopw [8] (fun i wr => ∃ k : Nat, k ≤ n ∧ i = .int .i64 k ∧ Hid (RoomI w mid B q wr)) (fun i _ => n - (intOf i).toNat)
  case atStart => exact ⟨0, Nat.zero_le _, rfl, HI⟩
  case round =>
    clear HI
    obtain ⟨k, hk, rfl, HI⟩ := hrel
    by_cases hlt : k < n
    · obtain ⟨it, sz, x, hx, hx1, hx2, hbel, hmw⟩ := HI.out
      have hms := msgs_below HR.out hbel
      have hin := msgs_in HR.out k hlt
      obtain ⟨b, off, rfl, hmi⟩ := hms.2.2 k hlt
      obtain ⟨y, hy⟩ : ∃ y, y = F k := ⟨_, rfl⟩
      rw [← hy] at hmi hin
      obtain ⟨k1, i1, s1, a1, M1, m1, d1, l1⟩ := y
      have HY := Lib.hid hy; clear hy
      obtain ⟨c0, c1, c2, c3, c4, hrd⟩ := hmi
      simp only at c0 c1 c2 c3 c4 hrd hin
      have HX := Lib.hid hx; have HRD := Lib.hid hrd; have HBE := Lib.hid hbel
      obtain ⟨r1, re, rit, rsz, rx, hp, hp1, hp2, hp3⟩ := put_cases (it := it) k1 i1 s1 a1 l1 hx1 hx2 hq0
      have HP := Lib.hid hp
      have HIN := Lib.hid hin
      clear hx hrd hms hbel hp hin HI
      go_wp2_with fail
      refine (itemS HX.out).mono ?_; rintro e w4 ⟨rfl, rfl⟩
      go_wp2_with fail
      refine (usedS HX.out).mono ?_; rintro e w4 ⟨rfl, rfl⟩
      go_wp2_with fail
      have hput := putB2 (k := k1) (i := i1) (s := s1) (a := a1) (M := M1) (m := m1) (d := d1) HX.out hmw (l := l1) HRD.out (fun b hb h0 => by have := HIN.out b hb h0; omega)
      rw [HP.out] at hput
      refine hput.mono ?_; rintro e w4 ⟨R, rm, rd, rfl, hx4, _, hc4, -, -⟩
      simp only at hx4 ⊢
      have HX4 := Lib.hid hx4
      have HI4 : Hid (RoomI w mid B q w4) := Lib.hid ⟨rit, rsz, rx, hx4, hp1, hp2, HBE.out.trans (hc4.below (B := w.heap.size) HBE.out.size (fun k hk => by omega)), Nat.le_trans hmw hc4.size⟩
      have hd : decide (q < (rx.length : Int)) = false := by simp; omega
      have d3 : w4.cell? ⟨b, off + k * 5 + 3, none⟩ = some (.int .i64 a1) := by
        obtain ⟨b', off', e, hmi⟩ := (msgs_below HR.out (HBE.out.trans (hc4.below (B := w.heap.size) HBE.out.size (fun k hk => by omega)))).2.2 k hlt
        cases e
        exact hmi.2.2.2.1.trans (by rw [← HY.out])
      clear hput hx4 hc4 HX HBE HRD c0 c1 c2 c3 c4 HP HIN
      rcases hp3 with rfl | ⟨rfl, rfl, rfl⟩ | ⟨rfl, rfl⟩ | ⟨rfl, ha, rfl, rfl⟩
      · skip
        go_wp2_with (first | (go_at_call 46; refine (itemS HX4.out).mono ?_; rintro e w5 ⟨rfl, rfl⟩) | (go_at_call 47; refine (usedS HX4.out).mono ?_; rintro e w5 ⟨rfl, rfl⟩))
        go_roundw
        case rel => exact ⟨k + 1, by omega, by go_num, HI4⟩
        case measure => simp [intOf]; omega
      · by_cases ha : a1 = 0
        · subst ha
          go_wp2_with (first | (go_at_call 46; refine (itemS HX4.out).mono ?_; rintro e w5 ⟨rfl, rfl⟩) | (go_at_call 47; refine (usedS HX4.out).mono ?_; rintro e w5 ⟨rfl, rfl⟩))
          go_roundw
          case rel => exact ⟨k + 1, by omega, by go_num, HI4⟩
          case measure => simp [intOf]; omega
        · have hab : (a1 != 0) = true := by simpa using ha
          go_wp2_with (first | (go_at_call 46; refine (itemS HX4.out).mono ?_; rintro e w5 ⟨rfl, rfl⟩) | (go_at_call 47; refine (usedS HX4.out).mono ?_; rintro e w5 ⟨rfl, rfl⟩))
          go_roundw
          case rel => exact ⟨k + 1, by omega, by go_num, HI4⟩
          case measure => simp [intOf]; omega
      · skip
        go_wp2_with (first | (go_at_call 46; refine (itemS HX4.out).mono ?_; rintro e w5 ⟨rfl, rfl⟩) | (go_at_call 47; refine (usedS HX4.out).mono ?_; rintro e w5 ⟨rfl, rfl⟩))
        go_roundw
        case rel => exact ⟨k + 1, by omega, by go_num, HI4⟩
        case measure => simp [intOf]; omega
      · have hab : (a1 != 0) = true := by simpa using ha
        go_wp2_with (first | (go_at_call 46; refine (itemS HX4.out).mono ?_; rintro e w5 ⟨rfl, rfl⟩) | (go_at_call 47; refine (usedS HX4.out).mono ?_; rintro e w5 ⟨rfl, rfl⟩))
        go_roundw
        case rel => exact ⟨k + 1, by omega, by go_num, HI4⟩
        case measure => simp [intOf]; omega
    · obtain rfl : k = n := by omega
      go_wp2
      go_ret
      obtain ⟨it, sz, x, _, _, _, h5, _⟩ := HI.out
      exact ⟨rfl, h5⟩

end Go.Proofs.Ytnlninmjmjffcaa
