/- Walk: what a box answers to any pieces, one behind the other (ChunkScript). No conditions. -/
import Derived.Test.YtnlninmjmjffcaaU4
import Derived.Deep.RegionHeld3
namespace Go.Proofs.Ytnlninmjmjffcaa
open Go.RowKit
set_option linter.unusedVariables false
set_option linter.unusedSimpArgs false

def Bools (w : World) (A : Option Addr) (n c : Nat) : Prop := n ≤ c ∧ c ≤ 9223372036854775807 ∧ ∀ i, i < n → ∃ b off d, A = some ⟨b, off, none⟩ ∧ w.cell? ⟨b, off + i, none⟩ = some (.bool d)

/-- what the loop of ChunkScript keeps -/
def ScriptI (w : World) (mid Bx Bw : Nat) (q : Int) (wr : World) : Prop := ∃ it sz x, TwoS wr (fun j => mid ≤ j) Bx Bw q it sz x ∧ Below w.heap.size w wr ∧ mid ≤ wr.heap.size

theorem over_held {w : World} {R : Option Addr} {m d : Nat} {y : List UInt8} (h : Held w 0 R m d y) : Calls Try.prog 36 #[.slice R m d] w fun e w' => e = .returned (.tuple #[]) ∧ Ch (fun j => ∃ b, R = some b ∧ j = b.block) w w' := by
  rcases h with ⟨rfl, rfl, rfl, _⟩ | ⟨g, rfl, hb, hm, _⟩
  · exact (over_nil w).mono fun e w' ⟨h1, h2⟩ => ⟨h1, h2 ▸ Ch.refl _ _⟩
  · exact (over_any hb (by rw [← hm]; exact byt_fits hb)).mono fun e w' ⟨h1, _, h2⟩ => ⟨h1, h2.mono fun i _ hi => ⟨_, rfl, hi⟩⟩

set_option maxRecDepth 100000 in
set_option maxHeartbeats 4000000 in
theorem script10 (quota : Int) (A : Option Addr) (n c : Nat) (F : Nat → Msg) (A2 : Option Addr) (n2 c2 : Nat) (w : World) (hr : Msgs w A n c F) (hb : Bools w A2 n2 c2) :
    Calls Try.prog 10 #[.int .i64 quota, .slice A n c, .slice A2 n2 c2] w (AwakeQ w) := by
  have hnc := hr.1
  have hc63 := hr.2.1
  have hnc2 := hb.1
  have hc632 := hb.2.1
  have HM := Lib.hid hr; have HBO := Lib.hid hb
  clear hr hb
  go_enter Try.func10, Try.ntmps10
  go_wp2_with fail
  go_loopw [7] (fun i wr => ∃ k : Nat, k ≤ n ∧ i = .int .i64 k ∧ Hid (∀ j, j < k → (F j).m ≤ 400) ∧ w = wr) (fun i _ => n - (intOf i).toNat)
  case atStart => exact ⟨0, Nat.zero_le _, rfl, Lib.hid (fun j h => by omega), rfl⟩
  case round =>
    obtain ⟨k, hk, rfl, HF, rfl⟩ := hrel
    by_cases hlt : k < n
    · obtain ⟨b5, off, rfl, hmi⟩ := HM.out.2.2 k hlt
      obtain ⟨y, hy⟩ : ∃ y, y = F k := ⟨_, rfl⟩
      rw [← hy] at hmi
      have HY := Lib.hid (show (F k).m = y.m by rw [hy])
      obtain ⟨k1, i1, s1, a1, M1, m1, d1, l1⟩ := y
      clear hy
      obtain ⟨c0, c1, c2', c3, c4, hrd⟩ := hmi
      simp only at c0 c1 c2' c3 c4 hrd
      have hm63 := hrd.small
      by_cases hm : 400 < m1
      · clear c0 c1 c2' c3 hrd
        go_wp2_with fail
        refine (awake32 _).mono ?_; rintro e w1 ⟨rfl, hB⟩
        go_wp2
        go_ret
        exact ⟨rfl, hB⟩
      · have hmd : decide (400 < (m1 : Int)) = false := by simp; omega
        have HF1 : Hid (∀ j, j < k + 1 → (F j).m ≤ 400) := Lib.hid (fun j hj => by
          rcases Nat.lt_or_ge j k with h | h
          · exact HF.out j h
          · obtain rfl : j = k := by omega
            rw [HY.out]; show m1 ≤ 400; omega)
        clear c0 c1 c2' c3 hrd HF
        go_wp2
        go_roundw
        case rel => exact ⟨k + 1, by omega, by go_num, HF1, trivial⟩
        case measure => simp [intOf]; omega
    · obtain rfl : k = n := by omega
      clear hlt hk
      go_wp2_with fail
      refine (new_any quota w).mono ?_; rintro e w3 hq
      rcases hq with ⟨hbad, rfl, rfl⟩ | ⟨hq0, hq1, rfl, hbx, hB3⟩
      · go_wp2_with fail
        refine (newr_any quota _).mono ?_; rintro e w4 hq
        rcases hq with ⟨_, rfl, rfl⟩ | ⟨hq0, hq1, _⟩
        · by_cases hbig : 40 < k
          · go_wp2_with fail
            refine (awake32 _).mono ?_; rintro e w1 ⟨rfl, hB⟩
            go_wp2
            go_ret
            exact ⟨rfl, hB⟩
          · have g0 : decide (40 < (k : Int)) = false := by simp; omega
            go_wp2_with fail
            refine (awake32 _).mono ?_; rintro e w1 ⟨rfl, hB⟩
            go_wp2
            go_ret
            exact ⟨rfl, hB⟩
        · omega
      have HX3 := Lib.hid hbx; have HB3 := Lib.hid hB3
      clear hbx hB3
      have hs3 := HB3.out.size
      have hx3 := blk_lt HX3.out
      go_wp2_with fail
      refine (newr_any quota w3).mono ?_; rintro e w4 hq
      rcases hq with ⟨h, _⟩ | ⟨_, _, rfl, hbx, hB4⟩
      · omega
      have hs4 := hB4.size
      have hx4 := blk_lt hbx
      have HI : Hid (ScriptI w w4.heap.size w.heap.size w3.heap.size quota w4) := Lib.hid ⟨0, 0, [], twoS_new (blk_below HX3.out hB4) hbx _, HB3.out.trans (hB4.mono HB3.out.size), Nat.le_refl _⟩
      obtain ⟨mid, hmid⟩ : ∃ x, x = w4.heap.size := ⟨_, rfl⟩
      obtain ⟨Bx, hBx⟩ : ∃ x, x = w.heap.size := ⟨_, rfl⟩
      obtain ⟨Bw, hBw⟩ : ∃ x, x = w3.heap.size := ⟨_, rfl⟩
      have hne : Bx ≠ Bw := by omega
      have hmx : Bx < mid := by omega
      have hmw : Bw < mid := by omega
      have hwx : w.heap.size ≤ Bx := by omega
      have hww : w.heap.size ≤ Bw := by omega
      rw [show ScriptI w w4.heap.size w.heap.size w3.heap.size quota w4 = ScriptI w mid Bx Bw quota w4 by rw [hmid, hBx, hBw]] at HI
      rw [← hBw, ← hBx]
      clear hbx hB4 HX3 HB3 hs3 hx3 hs4 hx4 hmid hBx hBw
      by_cases hbig : 40 < k
      · go_wp2_with fail
        refine (awake32 _).mono ?_; rintro e w1 ⟨rfl, hB⟩
        obtain ⟨_, _, _, _, hbel, _⟩ := HI.out
        go_wp2
        go_ret
        exact ⟨rfl, hbel.trans (hB.mono hbel.size)⟩
      have g0 : decide (40 < (k : Int)) = false := by simp; omega
      go_wp2_with fail
      go_loopw [12] (fun i wr => ∃ j : Nat, j ≤ k ∧ i = .int .i64 j ∧ Hid (ScriptI w mid Bx Bw quota wr)) (fun i _ => k - (intOf i).toNat)
      case atStart => exact ⟨0, Nat.zero_le _, rfl, HI⟩
      case round =>
        clear HI
        obtain ⟨j, hj, rfl, HI⟩ := hrel
        by_cases hlt : j < k
        · have hmj := HF.out j hlt
          have hin := msgs_in HM.out j hlt
          obtain ⟨it, sz, x, htwo, hbel, hmw⟩ := HI.out
          obtain ⟨b5, off, rfl, hmi⟩ := (msgs_below HM.out hbel).2.2 j hlt
          obtain ⟨y, hy⟩ : ∃ y, y = F j := ⟨_, rfl⟩
          rw [← hy] at hmi hin hmj
          have HMI := Lib.hid (show ∀ W, Below w.heap.size w W → MsgIn W b5 (off + j * 5) y from fun W hW => by
            obtain ⟨b', off', e, h⟩ := (msgs_below HM.out hW).2.2 j hlt
            cases e; rw [hy]; exact h)
          obtain ⟨k1, i1, s1, a1, M1, m1, d1, l1⟩ := y
          clear hy
          obtain ⟨c0, c1, c2', c3, c4, hrd⟩ := hmi
          simp only at c0 c1 c2' c3 c4 hrd hin hmj
          have hm63 := hrd.small
          have HT := Lib.hid (twoS_weak (P' := fun i => mid ≤ i ∧ i < wr.heap.size) htwo (fun i h h' => ⟨h', h⟩)); have HBE := Lib.hid hbel; have HRD := Lib.hid hrd; have HIN := Lib.hid hin
          clear htwo hbel hrd hin HI
          by_cases hk2 : j < n2
          · obtain ⟨bd, od, dd, rfl, hcd⟩ := HBO.out.2.2 j hk2
            have hcd1 := below_cell HBE.out hcd
            have hk2b : decide ((j : Int) < (n2 : Int)) = true := by simp; omega
            cases dd
            · clear hcd
              go_wp2_with fail
              refine (copyM_any k1 i1 s1 a1 M1 m1 d1 l1 _ HRD.out (by omega)).mono ?_; rintro e w2 ⟨gc, cc, rfl, hgc, hbc, hB2⟩
              have hll : l1.length = m1 := by have := HRD.out.len; simpa using this
              have hB1 : Below wr.heap.size wr (w2.alloc (.cells #[.int .i64 k1, .int .i64 i1, .int .i64 s1, .int .i64 a1, .slice (some ⟨gc, 0, none⟩) m1 cc] 50)) := hB2.alloc hB2.size _
              have hsa : (w2.alloc (.cells #[.int .i64 k1, .int .i64 i1, .int .i64 s1, .int .i64 a1, .slice (some ⟨gc, 0, none⟩) m1 cc] 50)).heap.size = w2.heap.size + 1 := by simp
              have hTB := blk_new w2 50 #[.int .i64 k1, .int .i64 i1, .int .i64 s1, .int .i64 a1, .slice (some ⟨gc, 0, none⟩) m1 cc]
              have hgB := byt_below hbc ((Below.refl _ w2).alloc (Nat.le_refl _) (.cells #[.int .i64 k1, .int .i64 i1, .int .i64 s1, .int .i64 a1, .slice (some ⟨gc, 0, none⟩) m1 cc] 50))
              have hgl := byt_lt hbc
              have hs2 := hB2.size
              have hsw := HBE.out.size
              obtain ⟨W1, hW1⟩ : ∃ x, x = (w2.alloc (.cells #[.int .i64 k1, .int .i64 i1, .int .i64 s1, .int .i64 a1, .slice (some ⟨gc, 0, none⟩) m1 cc] 50)) := ⟨_, rfl⟩
              rw [← hW1] at hB1 hTB hgB hsa
              have HW1 := Lib.hid hW1
              obtain ⟨T, hT⟩ : ∃ x, x = w2.heap.size := ⟨_, rfl⟩
              rw [← hT] at hTB hsa hs2 hgl
              have HTT := Lib.hid hT
              have HB1 := Lib.hid (HBE.out.trans (hB1.mono HBE.out.size))
              have HT1 := Lib.hid (twoS_below HT.out hB1)
              have HTB1 := Lib.hid hTB; have HGB1 := Lib.hid hgB
              have hP : ∀ i, (mid ≤ i ∧ i < wr.heap.size) → i ≠ Bx ∧ i ≠ Bw := fun i h => ⟨by omega, by omega⟩
              clear hB1 hTB hgB hbc hB2 hW1 hT HT HBE HRD c0 c1 c2' c3 c4
              go_wp2_with fail
              rw [← HW1.out, ← HTT.out]
              refine (twoPut1 HT1.out hP hne k1 i1 s1 a1 (some ⟨gc, 0, none⟩) m1 cc l1 (byt_rd HGB1.out hll) (fun b hb _ => by cases hb; show gc ≠ Bx; omega)).mono ?_
              rintro e w5 ⟨R, rm, rd, rfl, hh5, hc5⟩
              have HB5 := Lib.hid (HB1.out.trans (hc5.below (B := w.heap.size) HB1.out.size (fun k hk => by rcases hk with h | h <;> omega)))
              have HTB5 := Lib.hid (blk_ch HTB1.out hc5 (fun h => by rcases h with h | h <;> omega))
              have HGB5 := Lib.hid (byt_ch HGB1.out hc5 (fun h => by rcases h with h | h <;> omega))
              have HH5 := Lib.hid hh5
              have hs5 := hc5.size
              obtain ⟨c0, c1, c2', c3, c4, hrd⟩ := HMI.out w5 HB5.out
              simp only at c0 c1 c2' c3 c4 hrd
              have HRD5 := Lib.hid hrd
              have hP1 : ∀ i, ((mid ≤ i ∧ i < wr.heap.size) ∨ W1.heap.size ≤ i) → i ≠ Bx ∧ i ≠ Bw := fun i h => by rcases h with h | h <;> constructor <;> omega
              clear hc5 hh5 HT1 HTB1 HGB1 HB1 hrd
              go_wp2_with fail
              refine (twoPut2 hP1 hne k1 i1 s1 a1 M1 m1 d1 l1 HH5.out HRD5.out (fun b hb h0 => by have := HIN.out b hb h0; omega)).mono ?_
              rintro e w6 ⟨R2, m2, d2, rfl, ht6, hr26, hr6, hw6, hc6, hcl6⟩
              generalize putS quota it sz x k1 i1 s1 a1 l1 = SS at ht6 hr26 hr6 hcl6 ⊢
              obtain ⟨r1, re, rit, rsz, rx⟩ := SS
              simp only at ht6 hr26 hr6 hcl6 ⊢
              have HB6 := Lib.hid (HB5.out.trans (hc6.below (B := w.heap.size) HB5.out.size (fun k hk => by omega)))
              have htb6 := blk_ch HTB5.out hc6 (fun h => by omega)
              have HTB6 := Lib.hid htb6
              have HGB6 := Lib.hid (byt_ch HGB5.out hc6 (fun h => by omega))
              have HT6 := Lib.hid ht6; have HR6 := Lib.hid hr6; have HR26 := Lib.hid hr26; have HW6 := Lib.hid hw6; have HCL6 := Lib.hid hcl6
              have hs6 := hc6.size
              have hr63 := (held_rd hr6).small
              clear hc6 ht6 hr6 hr26 hw6 hcl6 HTB5 HGB5 HB5 HH5 HRD5 c0 c1 c2' c3 c4
              obtain ⟨c0, c1, c2', c3, c4, hrd⟩ := HMI.out w6 HB6.out
              simp only at c0 c1 c2' c3 c4 hrd
              have HRD6 := Lib.hid hrd
              have e0 := blk_cell htb6 0 _ rfl
              have e1 := blk_cell htb6 1 _ rfl
              have e2 := blk_cell htb6 2 _ rfl
              have e3 := blk_cell htb6 3 _ rfl
              have e4 := blk_cell htb6 4 _ rfl
              obtain ⟨Aw, cw, f1, f3, hx63⟩ := twoS_cells HT6.out
              clear hrd htb6
              go_wp2_with fail
              go_region_held3 (fun W => ((W.cell? ⟨T, 0, none⟩ = some (.int .i64 k1) ∧ W.cell? ⟨T, 1, none⟩ = some (.int .i64 i1) ∧ W.cell? ⟨T, 2, none⟩ = some (.int .i64 s1) ∧ W.cell? ⟨T, 3, none⟩ = some (.int .i64 a1) ∧ W.cell? ⟨T, 4, none⟩ = some (.slice (some ⟨gc, 0, none⟩) m1 cc)) ∧
                  (W.cell? ⟨b5, off + j * 5, none⟩ = some (.int .i64 k1) ∧ W.cell? ⟨b5, off + j * 5 + 1, none⟩ = some (.int .i64 i1) ∧ W.cell? ⟨b5, off + j * 5 + 2, none⟩ = some (.int .i64 s1) ∧ W.cell? ⟨b5, off + j * 5 + 3, none⟩ = some (.int .i64 a1) ∧ W.cell? ⟨b5, off + j * 5 + 4, none⟩ = some (.slice M1 m1 d1))) ∧
                  W.cell? ⟨Bw, 1, none⟩ = some (.int .i64 rit) ∧ W.cell? ⟨Bw, 3, none⟩ = some (.slice Aw rx.length cw))
                (first | exact ⟨⟨⟨e0, e1, e2, e3, e4⟩, c0, c1, c2', c3, c4⟩, f1, f3⟩ | exact ⟨⟨⟨below_cell hb7 e0, below_cell hb7 e1, below_cell hb7 e2, below_cell hb7 e3, below_cell hb7 e4⟩, below_cell hb7 c0, below_cell hb7 c1, below_cell hb7 c2', below_cell hb7 c3, below_cell hb7 c4⟩, below_cell hb7 f1, below_cell hb7 f3⟩)
                (first | (go_at_call 44; refine (same_any _ _ _ _ _ _ _ _ _ ((held_rd HR6.out).ch (Ch.drew _ No) (fun _ _ => id)) (HR26.out.ch (Ch.drew _ No) (fun _ _ => id))).mono ?_; rintro e w7 ⟨rfl, rfl⟩; rw [eqB_self]) | (go_at_call 45; refine (sameMsg_any k1 i1 s1 a1 k1 i1 s1 a1 _ _ _ _ _ _ l1 l1 _ ((byt_rd HGB6.out hll).ch (Ch.drew _ No) (fun _ _ => id)) (HRD6.out.ch (Ch.drew _ No) (fun _ _ => id))).mono ?_; rintro e w7 ⟨rfl, hb7⟩; rw [eqM_self]) | (go_at_call 46; refine (twoS_item (twoS_below (twoS_below HT6.out ((Ch.drew _ No).below (Nat.le_refl _) (fun _ h => h.elim))) hb7)).mono ?_; rintro e w8 ⟨rfl, rfl⟩) | (go_at_call 47; refine (twoS_used (twoS_below (twoS_below HT6.out ((Ch.drew _ No).below (Nat.le_refl _) (fun _ h => h.elim))) hb7)).mono ?_; rintro e w8 ⟨rfl, rfl⟩))
              have hb67 : Below w6.heap.size w6 w7 := ((Ch.drew w6 No).below (Nat.le_refl _) (fun _ h => h.elim)).trans hb7
              have g4 := below_cell hb67 e4
              have HR7 := Lib.hid (held_ch HR6.out (Ch.of_below hb67 No) (fun _ _ => id))
              have HGB7 := Lib.hid (byt_below HGB6.out hb67)
              have HTB7 := Lib.hid (blk_below HTB6.out hb67)
              have HB7 := Lib.hid (HB6.out.trans (hb67.mono HB6.out.size))
              have HB67 := Lib.hid hb67
              have hs7 := hb67.size
              clear hb67 hb7 e0 e1 e2 e3 e4 c0 c1 c2' c3 c4 f1 f3 HR6 HGB6 HTB6 HR26 HRD6 HT6 HB6 g4
              go_wp2_with fail
              refine (over_held HR7.out).mono ?_; rintro e w8 ⟨rfl, hc8⟩
              have hnR : ∀ i, (∃ b, R = some b ∧ i = b.block) → (mid ≤ i ∧ i < wr.heap.size) ∨ W1.heap.size ≤ i := fun i ⟨b, hb, e⟩ => by rw [e]; exact HW6.out b hb
              have HT8 := Lib.hid (HCL6.out w8 ((Ch.of_below HB67.out (fun j => ∃ b, R = some b ∧ j = b.block)).trans hc8 (fun i hi => .inl hi)))
              have htb8 := blk_ch HTB7.out hc8 (fun h => by rcases hnR _ h with h | h <;> omega)
              have g4 := blk_cell htb8 4 _ rfl
              have HGB8 := Lib.hid (byt_ch HGB7.out hc8 (fun h => by rcases hnR _ h with h | h <;> omega))
              have HB8 := Lib.hid (HB7.out.trans (hc8.below (B := w.heap.size) HB7.out.size (fun k hk => by rcases hnR _ hk with h | h <;> omega)))
              have hs8 := hc8.size
              clear hc8 htb8 hnR HB67 HCL6 HR7 HGB7 HTB7 HB7 HW6
              go_wp2_with fail
              refine (over_any HGB8.out (by rw [← hll]; exact byt_fits HGB8.out)).mono ?_; rintro e w9 ⟨rfl, _, hc9⟩
              have HI9 : Hid (ScriptI w mid Bx Bw quota w9) := Lib.hid ⟨rit, rsz, rx, twoS_weak (twoS_ch HT8.out hc9 (fun h => by omega) (fun h => by omega) (fun i h1 _ h2 => by rcases h1 with (h | h) | h <;> omega)) (fun i _ h1 => by rcases h1 with (h | h) | h <;> omega), HB8.out.trans (hc9.below HB8.out.size (fun k hk => by omega)), by have := hc9.size; omega⟩
              clear hc9 g4 HT8 HGB8 HB8
              go_wp2
              go_roundw
              case rel => exact ⟨j + 1, by omega, by go_num, HI9⟩
              case measure => simp [intOf]; omega
            · clear hcd c0 c1 c2' c3 c4 HRD
              go_wp2_with fail
              refine (twoS_drop HT.out hne).mono ?_; rintro e v1 ⟨rfl, hx1, ⟨A', n', c', hw1⟩, hcc1⟩
              have HX1 := Lib.hid hx1; have HW1 := Lib.hid hw1
              have HBE1 := Lib.hid (HBE.out.trans (hcc1.below (B := w.heap.size) HBE.out.size (fun k hk => by omega)))
              have hsv1 := hcc1.size
              clear hx1 hw1 hcc1 hcd1
              go_wp2_with fail
              refine (dropr_any HW1.out).mono ?_; rintro e v2 ⟨rfl, hw2, hcc2⟩
              have hx2 := blk_ch HX1.out hcc2 hne
              have HT2 := Lib.hid (twoS_new hx2 hw2 (fun i => mid ≤ i ∧ i < v2.heap.size))
              have HBE2 := Lib.hid (HBE1.out.trans (hcc2.below (B := w.heap.size) HBE1.out.size (fun k hk => by omega)))
              have hmv : mid ≤ v2.heap.size := by have := hcc2.size; omega
              clear hw2 hcc2 hx2 HX1 HW1 HBE HBE1 HT
              obtain ⟨c0, c1, c2', c3, c4, hrd⟩ := HMI.out v2 HBE2.out
              simp only at c0 c1 c2' c3 c4 hrd
              have HRD := Lib.hid hrd
              clear hrd
              go_wp2_with fail
              refine (copyM_any k1 i1 s1 a1 M1 m1 d1 l1 _ HRD.out (by omega)).mono ?_; rintro e w2 ⟨gc, cc, rfl, hgc, hbc, hB2⟩
              have hll : l1.length = m1 := by have := HRD.out.len; simpa using this
              have hB1 : Below v2.heap.size v2 (w2.alloc (.cells #[.int .i64 k1, .int .i64 i1, .int .i64 s1, .int .i64 a1, .slice (some ⟨gc, 0, none⟩) m1 cc] 50)) := hB2.alloc hB2.size _
              have hsa : (w2.alloc (.cells #[.int .i64 k1, .int .i64 i1, .int .i64 s1, .int .i64 a1, .slice (some ⟨gc, 0, none⟩) m1 cc] 50)).heap.size = w2.heap.size + 1 := by simp
              have hTB := blk_new w2 50 #[.int .i64 k1, .int .i64 i1, .int .i64 s1, .int .i64 a1, .slice (some ⟨gc, 0, none⟩) m1 cc]
              have hgB := byt_below hbc ((Below.refl _ w2).alloc (Nat.le_refl _) (.cells #[.int .i64 k1, .int .i64 i1, .int .i64 s1, .int .i64 a1, .slice (some ⟨gc, 0, none⟩) m1 cc] 50))
              have hgl := byt_lt hbc
              have hs2 := hB2.size
              have hsw := HBE2.out.size
              obtain ⟨W1, hW1⟩ : ∃ x, x = (w2.alloc (.cells #[.int .i64 k1, .int .i64 i1, .int .i64 s1, .int .i64 a1, .slice (some ⟨gc, 0, none⟩) m1 cc] 50)) := ⟨_, rfl⟩
              rw [← hW1] at hB1 hTB hgB hsa
              have HW1 := Lib.hid hW1
              obtain ⟨T, hT⟩ : ∃ x, x = w2.heap.size := ⟨_, rfl⟩
              rw [← hT] at hTB hsa hs2 hgl
              have HTT := Lib.hid hT
              have HB1 := Lib.hid (HBE2.out.trans (hB1.mono HBE2.out.size))
              have HT1 := Lib.hid (twoS_below HT2.out hB1)
              have HTB1 := Lib.hid hTB; have HGB1 := Lib.hid hgB
              have hP : ∀ i, (mid ≤ i ∧ i < v2.heap.size) → i ≠ Bx ∧ i ≠ Bw := fun i h => ⟨by omega, by omega⟩
              clear hB1 hTB hgB hbc hB2 hW1 hT HT2 HBE2 HRD c0 c1 c2' c3 c4
              go_wp2_with fail
              rw [← HW1.out, ← HTT.out]
              refine (twoPut1 HT1.out hP hne k1 i1 s1 a1 (some ⟨gc, 0, none⟩) m1 cc l1 (byt_rd HGB1.out hll) (fun b hb _ => by cases hb; show gc ≠ Bx; omega)).mono ?_
              rintro e w5 ⟨R, rm, rd, rfl, hh5, hc5⟩
              have HB5 := Lib.hid (HB1.out.trans (hc5.below (B := w.heap.size) HB1.out.size (fun k hk => by rcases hk with h | h <;> omega)))
              have HTB5 := Lib.hid (blk_ch HTB1.out hc5 (fun h => by rcases h with h | h <;> omega))
              have HGB5 := Lib.hid (byt_ch HGB1.out hc5 (fun h => by rcases h with h | h <;> omega))
              have HH5 := Lib.hid hh5
              have hs5 := hc5.size
              obtain ⟨c0, c1, c2', c3, c4, hrd⟩ := HMI.out w5 HB5.out
              simp only at c0 c1 c2' c3 c4 hrd
              have HRD5 := Lib.hid hrd
              have hP1 : ∀ i, ((mid ≤ i ∧ i < v2.heap.size) ∨ W1.heap.size ≤ i) → i ≠ Bx ∧ i ≠ Bw := fun i h => by rcases h with h | h <;> constructor <;> omega
              clear hc5 hh5 HT1 HTB1 HGB1 HB1 hrd
              go_wp2_with fail
              refine (twoPut2 hP1 hne k1 i1 s1 a1 M1 m1 d1 l1 HH5.out HRD5.out (fun b hb h0 => by have := HIN.out b hb h0; omega)).mono ?_
              rintro e w6 ⟨R2, m2, d2, rfl, ht6, hr26, hr6, hw6, hc6, hcl6⟩
              generalize putS quota 0 0 [] k1 i1 s1 a1 l1 = SS at ht6 hr26 hr6 hcl6 ⊢
              obtain ⟨r1, re, rit, rsz, rx⟩ := SS
              simp only at ht6 hr26 hr6 hcl6 ⊢
              have HB6 := Lib.hid (HB5.out.trans (hc6.below (B := w.heap.size) HB5.out.size (fun k hk => by omega)))
              have htb6 := blk_ch HTB5.out hc6 (fun h => by omega)
              have HTB6 := Lib.hid htb6
              have HGB6 := Lib.hid (byt_ch HGB5.out hc6 (fun h => by omega))
              have HT6 := Lib.hid ht6; have HR6 := Lib.hid hr6; have HR26 := Lib.hid hr26; have HW6 := Lib.hid hw6; have HCL6 := Lib.hid hcl6
              have hs6 := hc6.size
              have hr63 := (held_rd hr6).small
              clear hc6 ht6 hr6 hr26 hw6 hcl6 HTB5 HGB5 HB5 HH5 HRD5 c0 c1 c2' c3 c4
              obtain ⟨c0, c1, c2', c3, c4, hrd⟩ := HMI.out w6 HB6.out
              simp only at c0 c1 c2' c3 c4 hrd
              have HRD6 := Lib.hid hrd
              have e0 := blk_cell htb6 0 _ rfl
              have e1 := blk_cell htb6 1 _ rfl
              have e2 := blk_cell htb6 2 _ rfl
              have e3 := blk_cell htb6 3 _ rfl
              have e4 := blk_cell htb6 4 _ rfl
              obtain ⟨Aw, cw, f1, f3, hx63⟩ := twoS_cells HT6.out
              clear hrd htb6
              go_wp2_with fail
              go_region_held3 (fun W => ((W.cell? ⟨T, 0, none⟩ = some (.int .i64 k1) ∧ W.cell? ⟨T, 1, none⟩ = some (.int .i64 i1) ∧ W.cell? ⟨T, 2, none⟩ = some (.int .i64 s1) ∧ W.cell? ⟨T, 3, none⟩ = some (.int .i64 a1) ∧ W.cell? ⟨T, 4, none⟩ = some (.slice (some ⟨gc, 0, none⟩) m1 cc)) ∧
                  (W.cell? ⟨b5, off + j * 5, none⟩ = some (.int .i64 k1) ∧ W.cell? ⟨b5, off + j * 5 + 1, none⟩ = some (.int .i64 i1) ∧ W.cell? ⟨b5, off + j * 5 + 2, none⟩ = some (.int .i64 s1) ∧ W.cell? ⟨b5, off + j * 5 + 3, none⟩ = some (.int .i64 a1) ∧ W.cell? ⟨b5, off + j * 5 + 4, none⟩ = some (.slice M1 m1 d1))) ∧
                  W.cell? ⟨Bw, 1, none⟩ = some (.int .i64 rit) ∧ W.cell? ⟨Bw, 3, none⟩ = some (.slice Aw rx.length cw))
                (first | exact ⟨⟨⟨e0, e1, e2, e3, e4⟩, c0, c1, c2', c3, c4⟩, f1, f3⟩ | exact ⟨⟨⟨below_cell hb7 e0, below_cell hb7 e1, below_cell hb7 e2, below_cell hb7 e3, below_cell hb7 e4⟩, below_cell hb7 c0, below_cell hb7 c1, below_cell hb7 c2', below_cell hb7 c3, below_cell hb7 c4⟩, below_cell hb7 f1, below_cell hb7 f3⟩)
                (first | (go_at_call 44; refine (same_any _ _ _ _ _ _ _ _ _ ((held_rd HR6.out).ch (Ch.drew _ No) (fun _ _ => id)) (HR26.out.ch (Ch.drew _ No) (fun _ _ => id))).mono ?_; rintro e w7 ⟨rfl, rfl⟩; rw [eqB_self]) | (go_at_call 45; refine (sameMsg_any k1 i1 s1 a1 k1 i1 s1 a1 _ _ _ _ _ _ l1 l1 _ ((byt_rd HGB6.out hll).ch (Ch.drew _ No) (fun _ _ => id)) (HRD6.out.ch (Ch.drew _ No) (fun _ _ => id))).mono ?_; rintro e w7 ⟨rfl, hb7⟩; rw [eqM_self]) | (go_at_call 46; refine (twoS_item (twoS_below (twoS_below HT6.out ((Ch.drew _ No).below (Nat.le_refl _) (fun _ h => h.elim))) hb7)).mono ?_; rintro e w8 ⟨rfl, rfl⟩) | (go_at_call 47; refine (twoS_used (twoS_below (twoS_below HT6.out ((Ch.drew _ No).below (Nat.le_refl _) (fun _ h => h.elim))) hb7)).mono ?_; rintro e w8 ⟨rfl, rfl⟩))
              have hb67 : Below w6.heap.size w6 w7 := ((Ch.drew w6 No).below (Nat.le_refl _) (fun _ h => h.elim)).trans hb7
              have g4 := below_cell hb67 e4
              have HR7 := Lib.hid (held_ch HR6.out (Ch.of_below hb67 No) (fun _ _ => id))
              have HGB7 := Lib.hid (byt_below HGB6.out hb67)
              have HTB7 := Lib.hid (blk_below HTB6.out hb67)
              have HB7 := Lib.hid (HB6.out.trans (hb67.mono HB6.out.size))
              have HB67 := Lib.hid hb67
              have hs7 := hb67.size
              clear hb67 hb7 e0 e1 e2 e3 e4 c0 c1 c2' c3 c4 f1 f3 HR6 HGB6 HTB6 HR26 HRD6 HT6 HB6 g4
              go_wp2_with fail
              refine (over_held HR7.out).mono ?_; rintro e w8 ⟨rfl, hc8⟩
              have hnR : ∀ i, (∃ b, R = some b ∧ i = b.block) → (mid ≤ i ∧ i < v2.heap.size) ∨ W1.heap.size ≤ i := fun i ⟨b, hb, e⟩ => by rw [e]; exact HW6.out b hb
              have HT8 := Lib.hid (HCL6.out w8 ((Ch.of_below HB67.out (fun j => ∃ b, R = some b ∧ j = b.block)).trans hc8 (fun i hi => .inl hi)))
              have htb8 := blk_ch HTB7.out hc8 (fun h => by rcases hnR _ h with h | h <;> omega)
              have g4 := blk_cell htb8 4 _ rfl
              have HGB8 := Lib.hid (byt_ch HGB7.out hc8 (fun h => by rcases hnR _ h with h | h <;> omega))
              have HB8 := Lib.hid (HB7.out.trans (hc8.below (B := w.heap.size) HB7.out.size (fun k hk => by rcases hnR _ hk with h | h <;> omega)))
              have hs8 := hc8.size
              clear hc8 htb8 hnR HB67 HCL6 HR7 HGB7 HTB7 HB7 HW6
              go_wp2_with fail
              refine (over_any HGB8.out (by rw [← hll]; exact byt_fits HGB8.out)).mono ?_; rintro e w9 ⟨rfl, _, hc9⟩
              have HI9 : Hid (ScriptI w mid Bx Bw quota w9) := Lib.hid ⟨rit, rsz, rx, twoS_weak (twoS_ch HT8.out hc9 (fun h => by omega) (fun h => by omega) (fun i h1 _ h2 => by rcases h1 with (h | h) | h <;> omega)) (fun i _ h1 => by rcases h1 with (h | h) | h <;> omega), HB8.out.trans (hc9.below HB8.out.size (fun k hk => by omega)), by have := hc9.size; omega⟩
              clear hc9 g4 HT8 HGB8 HB8
              go_wp2
              go_roundw
              case rel => exact ⟨j + 1, by omega, by go_num, HI9⟩
              case measure => simp [intOf]; omega
          · have hk2b : decide ((j : Int) < (n2 : Int)) = false := by simp; omega
            go_wp2_with fail
            refine (copyM_any k1 i1 s1 a1 M1 m1 d1 l1 _ HRD.out (by omega)).mono ?_; rintro e w2 ⟨gc, cc, rfl, hgc, hbc, hB2⟩
            have hll : l1.length = m1 := by have := HRD.out.len; simpa using this
            have hB1 : Below wr.heap.size wr (w2.alloc (.cells #[.int .i64 k1, .int .i64 i1, .int .i64 s1, .int .i64 a1, .slice (some ⟨gc, 0, none⟩) m1 cc] 50)) := hB2.alloc hB2.size _
            have hsa : (w2.alloc (.cells #[.int .i64 k1, .int .i64 i1, .int .i64 s1, .int .i64 a1, .slice (some ⟨gc, 0, none⟩) m1 cc] 50)).heap.size = w2.heap.size + 1 := by simp
            have hTB := blk_new w2 50 #[.int .i64 k1, .int .i64 i1, .int .i64 s1, .int .i64 a1, .slice (some ⟨gc, 0, none⟩) m1 cc]
            have hgB := byt_below hbc ((Below.refl _ w2).alloc (Nat.le_refl _) (.cells #[.int .i64 k1, .int .i64 i1, .int .i64 s1, .int .i64 a1, .slice (some ⟨gc, 0, none⟩) m1 cc] 50))
            have hgl := byt_lt hbc
            have hs2 := hB2.size
            have hsw := HBE.out.size
            obtain ⟨W1, hW1⟩ : ∃ x, x = (w2.alloc (.cells #[.int .i64 k1, .int .i64 i1, .int .i64 s1, .int .i64 a1, .slice (some ⟨gc, 0, none⟩) m1 cc] 50)) := ⟨_, rfl⟩
            rw [← hW1] at hB1 hTB hgB hsa
            have HW1 := Lib.hid hW1
            obtain ⟨T, hT⟩ : ∃ x, x = w2.heap.size := ⟨_, rfl⟩
            rw [← hT] at hTB hsa hs2 hgl
            have HTT := Lib.hid hT
            have HB1 := Lib.hid (HBE.out.trans (hB1.mono HBE.out.size))
            have HT1 := Lib.hid (twoS_below HT.out hB1)
            have HTB1 := Lib.hid hTB; have HGB1 := Lib.hid hgB
            have hP : ∀ i, (mid ≤ i ∧ i < wr.heap.size) → i ≠ Bx ∧ i ≠ Bw := fun i h => ⟨by omega, by omega⟩
            clear hB1 hTB hgB hbc hB2 hW1 hT HT HBE HRD c0 c1 c2' c3 c4
            go_wp2_with fail
            rw [← HW1.out, ← HTT.out]
            refine (twoPut1 HT1.out hP hne k1 i1 s1 a1 (some ⟨gc, 0, none⟩) m1 cc l1 (byt_rd HGB1.out hll) (fun b hb _ => by cases hb; show gc ≠ Bx; omega)).mono ?_
            rintro e w5 ⟨R, rm, rd, rfl, hh5, hc5⟩
            have HB5 := Lib.hid (HB1.out.trans (hc5.below (B := w.heap.size) HB1.out.size (fun k hk => by rcases hk with h | h <;> omega)))
            have HTB5 := Lib.hid (blk_ch HTB1.out hc5 (fun h => by rcases h with h | h <;> omega))
            have HGB5 := Lib.hid (byt_ch HGB1.out hc5 (fun h => by rcases h with h | h <;> omega))
            have HH5 := Lib.hid hh5
            have hs5 := hc5.size
            obtain ⟨c0, c1, c2', c3, c4, hrd⟩ := HMI.out w5 HB5.out
            simp only at c0 c1 c2' c3 c4 hrd
            have HRD5 := Lib.hid hrd
            have hP1 : ∀ i, ((mid ≤ i ∧ i < wr.heap.size) ∨ W1.heap.size ≤ i) → i ≠ Bx ∧ i ≠ Bw := fun i h => by rcases h with h | h <;> constructor <;> omega
            clear hc5 hh5 HT1 HTB1 HGB1 HB1 hrd
            go_wp2_with fail
            refine (twoPut2 hP1 hne k1 i1 s1 a1 M1 m1 d1 l1 HH5.out HRD5.out (fun b hb h0 => by have := HIN.out b hb h0; omega)).mono ?_
            rintro e w6 ⟨R2, m2, d2, rfl, ht6, hr26, hr6, hw6, hc6, hcl6⟩
            generalize putS quota it sz x k1 i1 s1 a1 l1 = SS at ht6 hr26 hr6 hcl6 ⊢
            obtain ⟨r1, re, rit, rsz, rx⟩ := SS
            simp only at ht6 hr26 hr6 hcl6 ⊢
            have HB6 := Lib.hid (HB5.out.trans (hc6.below (B := w.heap.size) HB5.out.size (fun k hk => by omega)))
            have htb6 := blk_ch HTB5.out hc6 (fun h => by omega)
            have HTB6 := Lib.hid htb6
            have HGB6 := Lib.hid (byt_ch HGB5.out hc6 (fun h => by omega))
            have HT6 := Lib.hid ht6; have HR6 := Lib.hid hr6; have HR26 := Lib.hid hr26; have HW6 := Lib.hid hw6; have HCL6 := Lib.hid hcl6
            have hs6 := hc6.size
            have hr63 := (held_rd hr6).small
            clear hc6 ht6 hr6 hr26 hw6 hcl6 HTB5 HGB5 HB5 HH5 HRD5 c0 c1 c2' c3 c4
            obtain ⟨c0, c1, c2', c3, c4, hrd⟩ := HMI.out w6 HB6.out
            simp only at c0 c1 c2' c3 c4 hrd
            have HRD6 := Lib.hid hrd
            have e0 := blk_cell htb6 0 _ rfl
            have e1 := blk_cell htb6 1 _ rfl
            have e2 := blk_cell htb6 2 _ rfl
            have e3 := blk_cell htb6 3 _ rfl
            have e4 := blk_cell htb6 4 _ rfl
            obtain ⟨Aw, cw, f1, f3, hx63⟩ := twoS_cells HT6.out
            clear hrd htb6
            go_wp2_with fail
            go_region_held3 (fun W => ((W.cell? ⟨T, 0, none⟩ = some (.int .i64 k1) ∧ W.cell? ⟨T, 1, none⟩ = some (.int .i64 i1) ∧ W.cell? ⟨T, 2, none⟩ = some (.int .i64 s1) ∧ W.cell? ⟨T, 3, none⟩ = some (.int .i64 a1) ∧ W.cell? ⟨T, 4, none⟩ = some (.slice (some ⟨gc, 0, none⟩) m1 cc)) ∧
                (W.cell? ⟨b5, off + j * 5, none⟩ = some (.int .i64 k1) ∧ W.cell? ⟨b5, off + j * 5 + 1, none⟩ = some (.int .i64 i1) ∧ W.cell? ⟨b5, off + j * 5 + 2, none⟩ = some (.int .i64 s1) ∧ W.cell? ⟨b5, off + j * 5 + 3, none⟩ = some (.int .i64 a1) ∧ W.cell? ⟨b5, off + j * 5 + 4, none⟩ = some (.slice M1 m1 d1))) ∧
                W.cell? ⟨Bw, 1, none⟩ = some (.int .i64 rit) ∧ W.cell? ⟨Bw, 3, none⟩ = some (.slice Aw rx.length cw))
              (first | exact ⟨⟨⟨e0, e1, e2, e3, e4⟩, c0, c1, c2', c3, c4⟩, f1, f3⟩ | exact ⟨⟨⟨below_cell hb7 e0, below_cell hb7 e1, below_cell hb7 e2, below_cell hb7 e3, below_cell hb7 e4⟩, below_cell hb7 c0, below_cell hb7 c1, below_cell hb7 c2', below_cell hb7 c3, below_cell hb7 c4⟩, below_cell hb7 f1, below_cell hb7 f3⟩)
              (first | (go_at_call 44; refine (same_any _ _ _ _ _ _ _ _ _ ((held_rd HR6.out).ch (Ch.drew _ No) (fun _ _ => id)) (HR26.out.ch (Ch.drew _ No) (fun _ _ => id))).mono ?_; rintro e w7 ⟨rfl, rfl⟩; rw [eqB_self]) | (go_at_call 45; refine (sameMsg_any k1 i1 s1 a1 k1 i1 s1 a1 _ _ _ _ _ _ l1 l1 _ ((byt_rd HGB6.out hll).ch (Ch.drew _ No) (fun _ _ => id)) (HRD6.out.ch (Ch.drew _ No) (fun _ _ => id))).mono ?_; rintro e w7 ⟨rfl, hb7⟩; rw [eqM_self]) | (go_at_call 46; refine (twoS_item (twoS_below (twoS_below HT6.out ((Ch.drew _ No).below (Nat.le_refl _) (fun _ h => h.elim))) hb7)).mono ?_; rintro e w8 ⟨rfl, rfl⟩) | (go_at_call 47; refine (twoS_used (twoS_below (twoS_below HT6.out ((Ch.drew _ No).below (Nat.le_refl _) (fun _ h => h.elim))) hb7)).mono ?_; rintro e w8 ⟨rfl, rfl⟩))
            have hb67 : Below w6.heap.size w6 w7 := ((Ch.drew w6 No).below (Nat.le_refl _) (fun _ h => h.elim)).trans hb7
            have g4 := below_cell hb67 e4
            have HR7 := Lib.hid (held_ch HR6.out (Ch.of_below hb67 No) (fun _ _ => id))
            have HGB7 := Lib.hid (byt_below HGB6.out hb67)
            have HTB7 := Lib.hid (blk_below HTB6.out hb67)
            have HB7 := Lib.hid (HB6.out.trans (hb67.mono HB6.out.size))
            have HB67 := Lib.hid hb67
            have hs7 := hb67.size
            clear hb67 hb7 e0 e1 e2 e3 e4 c0 c1 c2' c3 c4 f1 f3 HR6 HGB6 HTB6 HR26 HRD6 HT6 HB6 g4
            go_wp2_with fail
            refine (over_held HR7.out).mono ?_; rintro e w8 ⟨rfl, hc8⟩
            have hnR : ∀ i, (∃ b, R = some b ∧ i = b.block) → (mid ≤ i ∧ i < wr.heap.size) ∨ W1.heap.size ≤ i := fun i ⟨b, hb, e⟩ => by rw [e]; exact HW6.out b hb
            have HT8 := Lib.hid (HCL6.out w8 ((Ch.of_below HB67.out (fun j => ∃ b, R = some b ∧ j = b.block)).trans hc8 (fun i hi => .inl hi)))
            have htb8 := blk_ch HTB7.out hc8 (fun h => by rcases hnR _ h with h | h <;> omega)
            have g4 := blk_cell htb8 4 _ rfl
            have HGB8 := Lib.hid (byt_ch HGB7.out hc8 (fun h => by rcases hnR _ h with h | h <;> omega))
            have HB8 := Lib.hid (HB7.out.trans (hc8.below (B := w.heap.size) HB7.out.size (fun k hk => by rcases hnR _ hk with h | h <;> omega)))
            have hs8 := hc8.size
            clear hc8 htb8 hnR HB67 HCL6 HR7 HGB7 HTB7 HB7 HW6
            go_wp2_with fail
            refine (over_any HGB8.out (by rw [← hll]; exact byt_fits HGB8.out)).mono ?_; rintro e w9 ⟨rfl, _, hc9⟩
            have HI9 : Hid (ScriptI w mid Bx Bw quota w9) := Lib.hid ⟨rit, rsz, rx, twoS_weak (twoS_ch HT8.out hc9 (fun h => by omega) (fun h => by omega) (fun i h1 _ h2 => by rcases h1 with (h | h) | h <;> omega)) (fun i _ h1 => by rcases h1 with (h | h) | h <;> omega), HB8.out.trans (hc9.below HB8.out.size (fun k hk => by omega)), by have := hc9.size; omega⟩
            clear hc9 g4 HT8 HGB8 HB8
            go_wp2
            go_roundw
            case rel => exact ⟨j + 1, by omega, by go_num, HI9⟩
            case measure => simp [intOf]; omega
        · obtain rfl : j = k := by omega
          obtain ⟨_, _, _, _, hbel, _⟩ := HI.out
          go_wp2_with fail
          refine (awake32 _).mono ?_; rintro e w1 ⟨rfl, hB⟩
          go_wp2
          go_ret
          exact ⟨rfl, hbel.trans (hB.mono hbel.size)⟩

end Go.Proofs.Ytnlninmjmjffcaa
