/- Walk: what was cut is put together by its pieces, whatever came ahead (ChunkBack). No conditions. -/
import Derived.Test.YtnlninmjmjffcaaU2
import Derived.Test.YtnlninmjmjffcaaTw
namespace Go.Proofs.Ytnlninmjmjffcaa
open Go.RowKit
set_option linter.unusedVariables false
set_option linter.unusedSimpArgs false

/-- the box when k pieces have come -/
def StB (q item : Int) (b : List UInt8) (k : Nat) (it sz : Int) (x : List UInt8) : Prop :=
  k = 0 ∨ (0 < k ∧ q < b.length ∧ it = 0 ∧ sz = 0 ∧ x = []) ∨ (0 < k ∧ ¬ q < b.length ∧ k < npc b.length ∧ it = item ∧ sz = b.length ∧ x = b.take (200 * k)) ∨ (0 < k ∧ k = npc b.length ∧ it = 0 ∧ sz = 0 ∧ x = [])
theorem stB_put {q item it sz t : Int} {b x : List UInt8} {k : Nat} (h : StB q item b k it sz x) (hk : k < npc b.length) (h1 : 1 ≤ item) (h2 : item ≤ 1099511627776) (h3 : b.length ≤ 60000) (ht : t = 200 * (k : Int)) :
    ∃ r1 re rit rsz rx, putS q it sz x 1 item b.length t (piece b k) = (r1, re, rit, rsz, rx) ∧ StB q item b (k + 1) rit rsz rx ∧
      ((q < b.length ∧ r1 = [] ∧ rx = [] ∧ ((k = 0 ∧ re = 8 ∧ rit = 0) ∨ (k ≠ 0 ∧ re = 9))) ∨ (¬ q < b.length ∧ re = 0 ∧ ((k + 1 = npc b.length ∧ r1 = b) ∨ (k + 1 ≠ npc b.length ∧ r1 = [])))) := by
  subst ht
  by_cases hk0 : k = 0
  · subst hk0
    have h0 := put_piece0 (q := q) (it := it) (sz := sz) (x := x) (b := b) h1 h2 h3 hk
    rw [show (200 * ((0 : Nat) : Int)) = 0 from rfl, h0]
    by_cases hq : q < b.length
    · rw [if_pos hq]
      exact ⟨_, _, _, _, _, rfl, .inr (.inl ⟨by omega, hq, rfl, rfl, rfl⟩), .inl ⟨hq, rfl, rfl, .inl ⟨rfl, rfl, rfl⟩⟩⟩
    · rw [if_neg hq]
      by_cases he : 1 = npc b.length
      · rw [if_pos he]
        exact ⟨_, _, _, _, _, rfl, .inr (.inr (.inr ⟨by omega, by omega, rfl, rfl, rfl⟩)), .inr ⟨hq, rfl, .inl ⟨by omega, rfl⟩⟩⟩
      · rw [if_neg he]
        exact ⟨_, _, _, _, _, rfl, .inr (.inr (.inl ⟨by omega, hq, by omega, rfl, rfl, rfl⟩)), .inr ⟨hq, rfl, .inr ⟨by omega, rfl⟩⟩⟩
  · rcases h with h | ⟨_, hq, rfl, rfl, rfl⟩ | ⟨_, hq, _, rfl, rfl, rfl⟩ | ⟨_, h, _⟩
    · omega
    · rw [put_none h1 h2 h3 hk (by omega)]
      exact ⟨_, _, _, _, _, rfl, .inr (.inl ⟨by omega, hq, rfl, rfl, rfl⟩), .inl ⟨hq, rfl, rfl, .inr ⟨hk0, rfl⟩⟩⟩
    · rw [put_piece h1 h2 h3 hk (by omega)]
      by_cases he : k + 1 = npc b.length
      · rw [if_pos he]
        exact ⟨_, _, _, _, _, rfl, .inr (.inr (.inr ⟨by omega, he, rfl, rfl, rfl⟩)), .inr ⟨hq, rfl, .inl ⟨he, rfl⟩⟩⟩
      · rw [if_neg he]
        exact ⟨_, _, _, _, _, rfl, .inr (.inr (.inl ⟨by omega, hq, by omega, rfl, rfl, rfl⟩)), .inr ⟨hq, rfl, .inr ⟨he, rfl⟩⟩⟩
    · omega
theorem stB_end {q item : Int} {b x : List UInt8} {it sz : Int} (h : StB q item b (npc b.length) it sz x) (hn : 0 < npc b.length) : it = 0 ∧ x = [] := by
  rcases h with h | ⟨_, _, h1, _, h2⟩ | ⟨_, _, h, _⟩ | ⟨_, _, h1, _, h2⟩
  · omega
  · exact ⟨h1, h2⟩
  · omega
  · exact ⟨h1, h2⟩

/-- what both loops of ChunkBack keep -/
def BackI (w : World) (base mid B : Nat) (q item : Int) (b : List UInt8) (N : Nat) (v : Value) (gs : List (Nat × Nat)) (it sz : Int) (x : List UInt8) (wr : World) : Prop :=
  BoxS wr mid B q it sz x ∧ PartsB wr base mid item b (fun j => 200 * j) N v gs ∧ Below w.heap.size w wr ∧ mid ≤ wr.heap.size
theorem backI_put {w wr w' : World} {base mid B N : Nat} {q item it sz it' sz' : Int} {b x x' : List UInt8} {v : Value} {gs : List (Nat × Nat)} (h : BackI w base mid B q item b N v gs it sz x wr) (hx : BoxS w' mid B q it' sz' x') (hc : Ch (fun j => j = B ∨ mid ≤ j) wr w')
    (hB : B < base) (hw : w.heap.size ≤ B) (hm : w.heap.size ≤ mid) : BackI w base mid B q item b N v gs it' sz' x' w' := by
  obtain ⟨h1, h2, h3, h4⟩ := h
  exact ⟨hx, partsB_ch h2 hc (fun k _ _ hk => by omega), h3.trans (hc.below h3.size (fun k hk => by omega)), Nat.le_trans h4 hc.size⟩
theorem backI_below {w wr w' : World} {base mid B N : Nat} {q item it sz : Int} {b x : List UInt8} {v : Value} {gs : List (Nat × Nat)} (h : BackI w base mid B q item b N v gs it sz x wr) (hb : Below wr.heap.size wr w') : BackI w base mid B q item b N v gs it sz x w' := by
  obtain ⟨h1, h2, h3, h4⟩ := h
  exact ⟨boxS_below h1 hb, partsB_below h2 hb, h3.trans (hb.mono h3.size), Nat.le_trans h4 hb.size⟩

set_option maxRecDepth 100000 in
set_option maxHeartbeats 4000000 in
theorem back13 (item0 : Int) (A : Option Addr) (n c : Nat) (b : List UInt8) (quota : Int) (A2 : Option Addr) (n2 c2 : Nat) (F : Nat → Msg) (w : World) (hr : Rd w A n c 1 (u8s b)) (hr2 : Msgs w A2 n2 c2 F) :
    Calls Try.prog 13 #[.int .i64 item0, .slice A n c, .int .i64 quota, .slice A2 n2 c2] w (AwakeQ w) := by
  have hlen : b.length = n := by have := hr.len; simpa using this
  have hnc := hr2.1
  have hc63 := hr2.2.1
  have hsm := hr.small
  have HR := Lib.hid hr; have HM := Lib.hid hr2; have HL := Lib.hid hlen
  clear hr hr2 hlen
  go_enter Try.func13, Try.ntmps13
  go_wp2_with fail
  refine (known12 w).mono ?_; rintro e w1 ⟨rfl, hB1⟩
  have HB1 := Lib.hid hB1
  clear hB1
  go_wp2_with fail
  refine (pick_any item0 1099511627776 w1 (by omega)).mono ?_; rintro e w2 ⟨rfl, rfl⟩
  have hq := pick_range item0 1099511627776 (by omega)
  obtain ⟨p, hpp⟩ : ∃ x, x = pick item0 1099511627776 := ⟨_, rfl⟩
  rw [← hpp] at hq ⊢
  clear hpp
  obtain ⟨hp0, hp1⟩ := hq
  go_wp2_with fail
  refine (pick_any quota 4000 w1 (by omega)).mono ?_; rintro e w2 ⟨rfl, rfl⟩
  have hq := pick_range quota 4000 (by omega)
  obtain ⟨q, hqq⟩ : ∃ x, x = pick quota 4000 := ⟨_, rfl⟩
  rw [← hqq] at hq ⊢
  clear hqq
  obtain ⟨hq0, hq1⟩ := hq
  go_wp2_with fail
  refine (new_any q w1).mono ?_; rintro e w3 hq
  rcases hq with ⟨h, _⟩ | ⟨_, _, rfl, hbx, hB3⟩
  · omega
  have HB3 := Lib.hid (HB1.out.trans (hB3.mono HB1.out.size))
  have HBX := Lib.hid hbx
  have hwz := HB1.out.size
  have hBlt := blk_lt hbx
  obtain ⟨B, hB⟩ : ∃ x, x = w1.heap.size := ⟨_, rfl⟩
  rw [← hB] at HBX hwz hBlt ⊢
  clear hbx hB3 HB1 hB
  by_cases hn0 : n = 0
  · subst hn0
    go_wp2
    go_ret
    exact ⟨rfl, HB3.out⟩
  have g0 : ((n : Int) == 0) = false := by simp; omega
  by_cases hn1 : 3000 < n
  · go_wp2
    go_ret
    exact ⟨rfl, HB3.out⟩
  have g1 : decide (3000 < (n : Int)) = false := by simp; omega
  by_cases hn2 : 20 < n2
  · go_wp2
    go_ret
    exact ⟨rfl, HB3.out⟩
  have g2 : decide (20 < (n2 : Int)) = false := by simp; omega
  obtain ⟨item, hitem⟩ : ∃ x, x = 1 + p := ⟨_, rfl⟩
  have hi1 : 1 ≤ item := by omega
  have hi2 : item ≤ 1099511627776 := by omega
  rw [← hitem]
  clear hitem
  go_wp2_with fail
  have hRD3 := HR.out.below HB3.out
  refine (cut_any item A n c b w3 hRD3).mono ?_; rintro e w4 hq
  rcases hq with (⟨h, _⟩ | ⟨_, _, h, _⟩) | ⟨_, _, _, _, v, gs, rfl, hP, hB4⟩
  · rw [HL.out] at h; omega
  · rw [HL.out] at h; omega
  obtain ⟨N, hNN⟩ : ∃ N, N = npc b.length := ⟨_, rfl⟩
  have hN : 1 ≤ N := by rw [hNN, HL.out]; unfold npc; omega
  have hN2 : N ≤ 100000 := by rw [hNN, HL.out]; unfold npc; omega
  have hdiv : ((n : Int) + 199).tdiv 200 = (N : Int) := by rw [hNN, HL.out, Int.tdiv_eq_ediv_of_nonneg (by omega)]; unfold npc; omega
  rw [← hNN] at hP
  obtain ⟨g, cv, rfl, _, _, _⟩ := own_row hP.own (own_some hP.own (by omega))
  have HNN := Lib.hid hNN
  have hs4 := hB4.size
  have HI : Hid (BackI w w3.heap.size w4.heap.size B q item b N (.slice (some ⟨g, 0, none⟩) N cv) gs 0 0 [] w4) := Lib.hid ⟨boxS_new (blk_below HBX.out hB4) _, partsB_mk hP, HB3.out.trans (hB4.mono HB3.out.size), Nat.le_refl _⟩
  obtain ⟨base, hbase⟩ : ∃ x, x = w3.heap.size := ⟨_, rfl⟩
  obtain ⟨mid, hmid⟩ : ∃ x, x = w4.heap.size := ⟨_, rfl⟩
  rw [← hbase, ← hmid] at HI
  rw [← hbase] at hBlt
  have hbm : base ≤ mid := by omega
  clear hB4 hP hRD3 HB3 HBX hNN hbase hmid hs4
  go_wp2_with fail
  go_loopw [14] (fun i wr => ∃ k : Nat, k ≤ n2 ∧ i = .int .i64 k ∧ ∃ it sz x, Hid (BackI w base mid B q item b N (.slice (some ⟨g, 0, none⟩) N cv) gs it sz x wr)) (fun i _ => n2 - (intOf i).toNat)
  case atStart => exact ⟨0, Nat.zero_le _, rfl, _, _, _, HI⟩
  case round =>
    clear HI
    obtain ⟨k, hk, rfl, it, sz, x, HI⟩ := hrel
    by_cases hlt : k < n2
    · obtain ⟨hx, hpb, hbel, hmw⟩ := HI.out
      have hms := msgs_below HM.out hbel
      have hin := msgs_in HM.out k hlt
      obtain ⟨b5, off, rfl, hmi⟩ := hms.2.2 k hlt
      obtain ⟨y, hy⟩ : ∃ y, y = F k := ⟨_, rfl⟩
      rw [← hy] at hmi hin
      obtain ⟨k1, i1, s1, a1, M1, m1, d1, l1⟩ := y
      clear hy
      obtain ⟨c0, c1, c2, c3, c4, hrd⟩ := hmi
      simp only at c0 c1 c2 c3 c4 hrd hin
      have HX := Lib.hid hx; have HRD := Lib.hid hrd; have HIN := Lib.hid hin
      clear hx hpb hbel hms hrd hin
      go_wp2_with fail
      refine (putB2 (k := k1) (i := i1) (s := s1) (a := a1) (M := M1) (m := m1) (d := d1) HX.out hmw (l := l1) HRD.out (fun b hb h0 => by have := HIN.out b hb h0; omega)).mono ?_
      rintro e w5 ⟨R, rm, rd, rfl, hx5, _, hc5, -, -⟩
      have HI5 := Lib.hid (backI_put HI.out hx5 hc5 hBlt hwz (by omega))
      clear hx5 hc5 HX HRD HIN c0 c1 c2 c3 c4 HI
      go_wp2
      go_roundw
      case rel => exact ⟨k + 1, by omega, by go_num, _, _, _, HI5⟩
      case measure => simp [intOf]; omega
    · obtain rfl : k = n2 := by omega
      clear hlt hk
      go_wp2_with fail
      go_loopw [15] (fun i wr => ∃ k : Nat, k ≤ N ∧ i = .int .i64 k ∧ ∃ it sz x, Hid (BackI w base mid B q item b N (.slice (some ⟨g, 0, none⟩) N cv) gs it sz x wr) ∧ Hid (StB q item b k it sz x)) (fun i _ => N - (intOf i).toNat)
      case atStart => exact ⟨0, Nat.zero_le _, rfl, _, _, _, HI, Lib.hid (.inl rfl)⟩
      case round =>
        clear HI
        obtain ⟨k, hk, rfl, it, sz, x, HI, HST⟩ := hrel
        by_cases hlt : k < N
        · obtain ⟨t, ht⟩ : ∃ t, t = 200 * (k : Int) := ⟨_, rfl⟩
          obtain ⟨m, hm⟩ : ∃ m, m = plen n k := ⟨_, rfl⟩
          obtain ⟨gk, ck, ⟨c0, c1, c2, c3, c4⟩, hrd, hl1, hl2⟩ := partsB_at HI.out.2.1 k hlt HL.out ht hm
          have hkn : k < npc b.length := by rw [← HNN.out]; exact hlt
          have hok : okM 1 item n t m := by rw [ht, hm]; rw [HL.out] at hkn; exact okM_piece hi1 hi2 (by omega) hkn
          obtain ⟨r1, re, rit, rsz, rx, hp, hst, hcs⟩ := stB_put HST.out hkn hi1 hi2 (by rw [HL.out]; omega) ht
          rw [← HNN.out] at hcs
          rw [HL.out] at hp hcs
          have hml : m ≤ 9223372036854775807 := by rw [hm]; unfold plen; omega
          have HT := Lib.hid ht; have HMM := Lib.hid hm; have HRD := Lib.hid hrd; have HOK := Lib.hid hok; have HP := Lib.hid hp; have HST7 := Lib.hid hst
          clear ht hm hrd hok hp hst hkn HST
          go_wp2_with fail
          refine (check_any 1 item n t (some ⟨gk, 0, none⟩) m ck _ hml).mono ?_; rintro e w6 ⟨rfl, hB6⟩
          rw [chk_ok HOK.out]
          have HI6 := Lib.hid (backI_below HI.out hB6)
          have HRD6 := Lib.hid (HRD.out.below hB6)
          have d0 := below_cell hB6 c0
          have d1 := below_cell hB6 c1
          have d2 := below_cell hB6 c2
          have d3 := below_cell hB6 c3
          have d4 := below_cell hB6 c4
          clear c0 c1 c2 c3 c4 hB6 HI HRD HOK
          go_wp2_with fail
          have hput := putB (k := 1) (i := item) (s := n) (a := t) (M := some ⟨gk, 0, none⟩) (m := m) (d := ck) HI6.out.1 HI6.out.2.2.2 (l := piece b k) HRD6.out (fun b hb => by cases hb; show gk ≠ B; omega)
          rw [HP.out] at hput
          refine hput.mono ?_; rintro e w7 ⟨R, rm, rd, rfl, hx7, hh7, hc7, -, -⟩
          simp only at hx7 hh7 ⊢
          have hr7 := held_len hh7
          have HI7 := Lib.hid (backI_put HI6.out hx7 hc7 hBlt hwz (by omega))
          have HX7 := Lib.hid hx7
          have HR7 := Lib.hid (held_rd hh7)
          have HRB7 := Lib.hid (HR.out.below HI7.out.2.2.1)
          clear hput hx7 hh7 hc7 HI6 HRD6 HP d0 d1 d2 d3 d4
          rcases hcs with ⟨hq, rfl, rfl, hcs⟩ | ⟨hq, rfl, hcs⟩
          · obtain rfl : rm = 0 := hr7.symm
            have hqd : decide (q < (n : Int)) = true := by simpa using hq
            rcases hcs with ⟨hk0, rfl, rfl⟩ | ⟨hk0, rfl⟩
            · have hkb : ((k : Int) == 0) = true := by simp; omega
              go_wp2_with (first | (go_at_call 46; refine (itemS HX7.out).mono ?_; rintro e w8 ⟨rfl, rfl⟩) | (go_at_call 47; refine (usedS HX7.out).mono ?_; rintro e w8 ⟨rfl, rfl⟩) | (go_at_call 44; refine (same_any _ _ _ _ _ _ _ _ _ HR7.out HRB7.out).mono ?_; rintro e w8 ⟨rfl, rfl⟩; rw [eqB_self]))
              go_roundw
              case rel => exact ⟨k + 1, by omega, by go_num, _, _, _, HI7, HST7⟩
              case measure => simp [intOf]; omega
            · have hkb : ((k : Int) == 0) = false := by simp; omega
              go_wp2_with (first | (go_at_call 46; refine (itemS HX7.out).mono ?_; rintro e w8 ⟨rfl, rfl⟩) | (go_at_call 47; refine (usedS HX7.out).mono ?_; rintro e w8 ⟨rfl, rfl⟩) | (go_at_call 44; refine (same_any _ _ _ _ _ _ _ _ _ HR7.out HRB7.out).mono ?_; rintro e w8 ⟨rfl, rfl⟩; rw [eqB_self]))
              go_roundw
              case rel => exact ⟨k + 1, by omega, by go_num, _, _, _, HI7, HST7⟩
              case measure => simp [intOf]; omega
          · have hqd : decide (q < (n : Int)) = false := by simpa using hq
            rcases hcs with ⟨hkN, rfl⟩ | ⟨hkN, rfl⟩
            · have hkb : ((k : Int) == (N : Int) - 1) = true := by simp; omega
              go_wp2_with (first | (go_at_call 46; refine (itemS HX7.out).mono ?_; rintro e w8 ⟨rfl, rfl⟩) | (go_at_call 47; refine (usedS HX7.out).mono ?_; rintro e w8 ⟨rfl, rfl⟩) | (go_at_call 44; refine (same_any _ _ _ _ _ _ _ _ _ HR7.out HRB7.out).mono ?_; rintro e w8 ⟨rfl, rfl⟩; rw [eqB_self]))
              go_roundw
              case rel => exact ⟨k + 1, by omega, by go_num, _, _, _, HI7, HST7⟩
              case measure => simp [intOf]; omega
            · obtain rfl : rm = 0 := hr7.symm
              have hkb : ((k : Int) == (N : Int) - 1) = false := by simp; omega
              go_wp2_with (first | (go_at_call 46; refine (itemS HX7.out).mono ?_; rintro e w8 ⟨rfl, rfl⟩) | (go_at_call 47; refine (usedS HX7.out).mono ?_; rintro e w8 ⟨rfl, rfl⟩) | (go_at_call 44; refine (same_any _ _ _ _ _ _ _ _ _ HR7.out HRB7.out).mono ?_; rintro e w8 ⟨rfl, rfl⟩; rw [eqB_self]))
              go_roundw
              case rel => exact ⟨k + 1, by omega, by go_num, _, _, _, HI7, HST7⟩
              case measure => simp [intOf]; omega
        · obtain rfl : k = N := by omega
          have hend : it = 0 ∧ x = [] := stB_end (by rw [← HNN.out]; exact HST.out) (by rw [← HNN.out]; omega)
          obtain ⟨rfl, rfl⟩ := hend
          have HX7 := Lib.hid HI.out.1
          go_wp2_with (first | (go_at_call 46; refine (itemS HX7.out).mono ?_; rintro e w8 ⟨rfl, rfl⟩) | (go_at_call 47; refine (usedS HX7.out).mono ?_; rintro e w8 ⟨rfl, rfl⟩))
          go_ret
          exact ⟨rfl, HI.out.2.2.1⟩

end Go.Proofs.Ytnlninmjmjffcaa
