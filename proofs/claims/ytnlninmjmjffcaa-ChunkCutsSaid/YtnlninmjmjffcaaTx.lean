/- Walk: which pieces an item has (ChunkCuts). No conditions. -/
import Derived.Test.YtnlninmjmjffcaaTv
namespace Go.Proofs.Ytnlninmjmjffcaa
open Go.RowKit
set_option linter.unusedVariables false
set_option linter.unusedSimpArgs false

/-- a row of pieces of which some are overwritten -/
structure Worn (w : World) (base g N cv : Nat) (item : Int) (b : List UInt8) (gs : List (Nat × Nat)) : Prop where
  len : gs.length = N
  row : Row w g 50 cv 5 (pcells item b.length (fun j => 200 * j) gs)
  each : ∀ (j g' c : Nat), gs[j]? = some (g', c) → (∃ ys, ys.length = c ∧ Byt w g' 5 c ys) ∧ base ≤ g' ∧ g' ≠ g ∧ plen b.length j ≤ c
theorem worn_of {w : World} {base g N cv : Nat} {item : Int} {b : List UInt8} {gs : List (Nat × Nat)} (h : Parts w base item b (fun j => 200 * j) N (.slice (some ⟨g, 0, none⟩) N cv) gs) (hN : 1 ≤ N) : Worn w base g N cv item b gs := by
  obtain ⟨g', cv', e, _, _, hrow⟩ := own_row h.own (own_some h.own (by omega))
  cases e
  refine ⟨h.len, hrow, fun j g' c hj => ?_⟩
  obtain ⟨h1, h2, h3⟩ := h.each j g' c hj
  obtain ⟨ys, hy, _, hb⟩ := byt_full h1
  have := byt_fits h1
  rw [piece_len] at this
  exact ⟨⟨ys, hy, hb⟩, h2, fun e => h3 (congrArg some e.symm), this⟩
theorem worn_get {w : World} {base g N cv : Nat} {item : Int} {b : List UInt8} {gs : List (Nat × Nat)} (h : Worn w base g N cv item b gs) {k : Nat} (hk : k < N) :
    ∃ gk ck ys, w.cell? ⟨g, k * 5 + 4, none⟩ = some (.slice (some ⟨gk, 0, none⟩) (plen b.length k) ck) ∧ ys.length = ck ∧ Byt w gk 5 ck ys ∧ base ≤ gk ∧ gk ≠ g ∧ plen b.length k ≤ ck := by
  have hl := h.len
  have hgs : gs[k]? = some (gs[k]'(by omega)) := by simp
  obtain ⟨⟨ys, h1, h2⟩, h3, h4, h5⟩ := h.each k _ _ hgs
  refine ⟨_, _, ys, h.row.cell (j := k * 5 + 4) ?_, h1, h2, h3, h4, h5⟩
  rw [pcells_get _ _ _ _ _ _ (by omega), hgs, Option.bind_some]
  rfl
theorem worn_over {w w' : World} {base g N cv gk ck : Nat} {item : Int} {b : List UInt8} {gs : List (Nat × Nat)} (h : Worn w base g N cv item b gs) {ys zs : List UInt8} (hb : Byt w gk 5 ck ys) (hz : zs.length = ck) (hb' : Byt w' gk 5 ck zs) (hne : gk ≠ g) (hc : Ch (fun k => k = gk) w w') : Worn w' base g N cv item b gs := by
  refine ⟨h.len, h.row.ch hc (fun e => hne e.symm), fun j g' c hj => ?_⟩
  obtain ⟨⟨us, h1, h2⟩, h3, h4, h5⟩ := h.each j g' c hj
  refine ⟨?_, h3, h4, h5⟩
  by_cases e : g' = gk
  · subst e
    obtain rfl := byt_same_cap h2 hb
    exact ⟨zs, hz, hb'⟩
  · exact ⟨us, h1, byt_ch h2 hc e⟩

set_option maxRecDepth 100000 in
set_option maxHeartbeats 4000000 in
theorem cuts9 (item : Int) (A : Option Addr) (n c : Nat) (b : List UInt8) (w : World) (hr : Rd w A n c 1 (u8s b)) : Calls Try.prog 9 #[.int .i64 item, .slice A n c] w (AwakeQ w) := by
  have hlen : b.length = n := by have := hr.len; simpa using this
  have hsm := hr.small
  have HIN := Lib.hid (rd_in (sz := 0) hr)
  by_cases hbig : 3000 < n
  · clear hr
    go_enter Try.func9, Try.ntmps9
    go_wp2_with fail
    refine (awake32 w).mono ?_; rintro e w1 ⟨rfl, hB⟩
    go_wp2
    go_ret
    exact ⟨rfl, hB⟩
  have hn : n ≤ 3000 := by omega
  have g0 : decide (3000 < (n : Int)) = false := by simp; omega
  have HR := Lib.hid hr; have HL := Lib.hid hlen
  clear hr hlen hbig
  go_enter Try.func9, Try.ntmps9
  go_wp2_with fail
  refine (lent_any A n c b w HR.out (by omega)).mono ?_; rintro e w1 ⟨g, c', rfl, hg, hnc, hrow, hB1⟩
  have HW1 := Lib.hid hrow; have HB1 := Lib.hid hB1
  have HR1 := Lib.hid (HR.out.below hB1)
  have hgl := hrow.lt
  clear hrow hB1 HR
  go_wp2_with fail
  refine (cut_any item _ n (n + 3) b w1 (HW1.out.rd 0 n (n + 3) (u8s b) (by rw [List.drop_zero, u8s_take]; simp [HL.out]) (by simp [HL.out]) (by omega) (by omega))).mono ?_; rintro e w2 hq
  rcases hq with (⟨hno, rfl, hB2⟩ | ⟨_, _, h, _⟩) | ⟨hi1, hi2, hn1, _, v, gs, rfl, hP, hB2⟩
  · have HR2 := Lib.hid (HR1.out.below hB2)
    have HW2 := Lib.hid (HW1.out.below hB2)
    have HB2 := Lib.hid (HB1.out.trans (hB2.mono HB1.out.size))
    clear hB2 HR1 HW1 HB1
    go_wp2_with fail
    refine (cutr_any item A n c b w2 HR2.out).mono ?_; rintro e w3 hq
    rcases hq with (⟨_, rfl, hB3⟩ | ⟨_, _, h, _⟩) | ⟨hi1, hi2, hn1, _⟩
    rotate_left
    · rw [HL.out] at h; omega
    · omega
    have HR3 := Lib.hid (HR2.out.below hB3)
    have HW3 := Lib.hid (HW2.out.below hB3)
    have HB3 := Lib.hid (HB2.out.trans (hB3.mono HB2.out.size))
    clear hB3 HR2 HW2 HB2
    go_wp2_with fail
    refine (sameMsgs_nil w3).mono ?_; rintro e w4 ⟨rfl, rfl⟩
    go_wp2_with fail
    go_loop [11] (fun i => i = .int .i64 0) (fun _ => 0)
    case atStart => rfl
    case round =>
      subst hrel
      go_wp2_with fail
      refine (kept_any g c' A n c b _ HW3.out HR3.out (by omega)).mono ?_; rintro e w5 ⟨rfl, hB5⟩
      have HB5 := Lib.hid (HB3.out.trans (hB5.mono HB3.out.size))
      clear hB5
      go_wp2_with fail
      refine (awake32 w5).mono ?_; rintro e w6 ⟨rfl, hB6⟩
      have HB6 := Lib.hid (HB5.out.trans (hB6.mono HB5.out.size))
      go_wp2
      go_ret
      exact ⟨rfl, HB6.out⟩
  · rw [HL.out] at h; omega
  have hbl := HL.out
  have hn1' : 1 ≤ n := by omega
  have hN : 1 ≤ npc b.length := by unfold npc; omega
  have hN2 : npc b.length ≤ 100000 := by unfold npc; omega
  obtain ⟨N, hNN⟩ : ∃ N, N = npc b.length := ⟨_, rfl⟩
  rw [← hNN] at hP hN hN2
  obtain ⟨g2, cv, rfl, _, _, _⟩ := own_row hP.own (own_some hP.own (by omega))
  have HP2 := Lib.hid hP
  have HNN := Lib.hid hNN
  have HR2 := Lib.hid (HR1.out.below hB2)
  have HW2 := Lib.hid (HW1.out.below hB2)
  have HB2 := Lib.hid (HB1.out.trans (hB2.mono HB1.out.size))
  have hs2 := hB2.size
  have hs1 := HB1.out.size
  clear hB2 HR1 HW1 HB1 hP hNN hn1 hbl
  go_wp2_with fail
  refine (cutr_any item A n c b w2 HR2.out).mono ?_; rintro e w3 hq
  rcases hq with (⟨h, _⟩ | ⟨_, _, h, _⟩) | ⟨_, _, hn1, _, v', gs', rfl, hP', hB3⟩
  · rw [HL.out] at h; omega
  · rw [HL.out] at h; omega
  rw [← HNN.out] at hP'
  have HP3 := Lib.hid (parts_below HP2.out hB3)
  have HQ3 := Lib.hid hP'
  have HR3 := Lib.hid (HR2.out.below hB3)
  have HW3 := Lib.hid (HW2.out.below hB3)
  have HB3 := Lib.hid (HB2.out.trans (hB3.mono HB2.out.size))
  have hs3 := hB3.size
  clear hB3 hP' HR2 HW2 HB2 HP2
  go_wp2_with fail
  refine (sameMsgs_parts HP3.out HQ3.out hN hN2).mono ?_; rintro e w4 ⟨rfl, hB4⟩
  have HO4 := Lib.hid (worn_of (parts_below HP3.out hB4) hN)
  have HR4 := Lib.hid (HR3.out.below hB4)
  have HW4 := Lib.hid (HW3.out.below hB4)
  have HB4 := Lib.hid (HB3.out.trans (hB4.mono HB3.out.size))
  have hs4 := hB4.size
  clear hB4 HR3 HW3 HB3 HP3 HQ3 HNN hn1
  go_wp2_with fail
  go_loopw [11] (fun i wr => ∃ k : Nat, k ≤ N ∧ i = .int .i64 k ∧ Hid (Worn wr w1.heap.size g2 N cv item b gs ∧ Rd wr A n c 1 (u8s b) ∧ Row wr g 5 c' 1 (u8s (b ++ lentTail)) ∧ Below w.heap.size w wr)) (fun i _ => N - (intOf i).toNat)
  case atStart => exact ⟨0, Nat.zero_le _, rfl, ⟨HO4.out, HR4.out, HW4.out, HB4.out⟩⟩
  case round =>
    clear HO4 HR4 HW4 HB4
    obtain ⟨k, hk, rfl, HH⟩ := hrel
    by_cases hlt : k < N
    · obtain ⟨gk, ck, ys, c4, hy, hb, h1, h2, h3⟩ := worn_get HH.out.1 hlt
      have HB := Lib.hid hb
      clear hb
      go_wp2_with fail
      refine (over_any HB.out h3).mono ?_; rintro e w5 ⟨rfl, ⟨zs, hz, hb'⟩, hc5⟩
      have HH5 : Hid (Worn w5 w1.heap.size g2 N cv item b gs ∧ Rd w5 A n c 1 (u8s b) ∧ Row w5 g 5 c' 1 (u8s (b ++ lentTail)) ∧ Below w.heap.size w w5) :=
        Lib.hid ⟨worn_over HH.out.1 HB.out hz hb' h2 hc5, HH.out.2.1.keep (fun a ha hl => hc5.block a.block hl (fun e => by have := HIN.out a ha (by omega); omega)), HH.out.2.2.1.ch hc5 (fun e => by omega), HH.out.2.2.2.trans (hc5.below HH.out.2.2.2.size (fun k hk => by omega))⟩
      clear hc5 hb' HH HB
      go_wp2
      go_roundw
      case rel => exact ⟨k + 1, by omega, by go_num, HH5⟩
      case measure => simp [intOf]; omega
    · obtain rfl : k = N := by omega
      go_wp2_with fail
      refine (kept_any g c' A n c b _ HH.out.2.2.1 HH.out.2.1 (by omega)).mono ?_; rintro e w5 ⟨rfl, hB5⟩
      have HB5 := Lib.hid (HH.out.2.2.2.trans (hB5.mono HH.out.2.2.2.size))
      clear hB5
      go_wp2_with fail
      refine (awake32 w5).mono ?_; rintro e w6 ⟨rfl, hB6⟩
      have HB6 := Lib.hid (HB5.out.trans (hB6.mono HB5.out.size))
      go_wp2
      go_ret
      exact ⟨rfl, HB6.out⟩

end Go.Proofs.Ytnlninmjmjffcaa
