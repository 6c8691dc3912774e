/- Walk: the law of the writer. Conditions: the acts are as they come in. -/
import Derived.Test.YtondodhpmghogaaL3
namespace Go.Proofs.Ytondodhpmghogaa
open Go.RowKit
set_option linter.unusedVariables false
set_option linter.unusedSimpArgs false

/-- a slice of n acts, F i the one at i -/
structure Acs (w : World) (A : Option Addr) (n c : Nat) (F : Nat → Ac) : Prop where
  le : n ≤ c
  big : c ≤ 9223372036854775807
  at_ : ∀ i, i < n → ∃ b off, A = some ⟨b, off, none⟩ ∧ AcIn w b (off + i * 4) (F i) ∧ Rd w (F i).M (F i).m (F i).d 1 (u8s (F i).l) ∧ (F i).n ≤ 9223372036854775807
theorem acs_below {w w' : World} {A : Option Addr} {n c : Nat} {F : Nat → Ac} (h : Acs w A n c F) (hb : Below w.heap.size w w') : Acs w' A n c F :=
  ⟨h.le, h.big, fun i hi => by obtain ⟨b, off, h1, h2, h3, h4⟩ := h.at_ i hi; exact ⟨b, off, h1, acIn_below h2 hb, h3.below hb, h4⟩⟩
def LongQ (n : Nat) (F : Nat → Ac) (e : Ending) : Prop := ∃ b, e = .returned (.bool b) ∧ (b = false → n ≤ 60 ∧ ∀ i, i < n → (F i).s.size ≤ 300 ∧ (F i).m ≤ 300)
set_option maxRecDepth 100000 in
set_option maxHeartbeats 1000000 in
theorem long_any (A : Option Addr) (n c : Nat) (F : Nat → Ac) (w : World) (h : Acs w A n c F) : Calls Try.prog 15 #[.slice A n c] w fun e w' => LongQ n F e ∧ w = w' := by
  have hnc := h.le
  have hc63 := h.big
  have H := Lib.hid h; clear h
  go_enter Try.func15, Try.ntmps15
  go_wp2
  go_loopw [3] (fun i wr => ∃ k : Nat, k ≤ n ∧ i = .int .i64 k ∧ Hid (∀ j, j < k → (F j).s.size ≤ 300 ∧ (F j).m ≤ 300) ∧ w = wr) (fun i _ => n - (intOf i).toNat)
  case atStart => exact ⟨0, Nat.zero_le _, rfl, Lib.hid (fun j h => by omega), rfl⟩
  case round =>
    obtain ⟨k, hk, rfl, HF, rfl⟩ := hrel
    by_cases hlt : k < n
    · obtain ⟨b5, off, rfl, hmi, hrd, _⟩ := H.out.at_ k hlt
      obtain ⟨y, hy⟩ : ∃ y, y = F k := ⟨_, rfl⟩
      rw [← hy] at hmi hrd
      have HY := Lib.hid (show (F k).m = y.m ∧ (F k).s = y.s by rw [hy]; exact ⟨rfl, rfl⟩)
      obtain ⟨k1, n1, s1, M1, m1, d1, l1⟩ := y
      clear hy
      obtain ⟨_, _, c2, c3⟩ := hmi
      simp only at c2 c3 hrd
      have hm63 := hrd.small
      clear hrd
      have hk0 : (0 : Int) ≤ (k : Int) := by omega
      have hk1 : (k : Int) < (n : Int) := by omega
      by_cases hs : 300 < s1.size
      · have gs : decide ((300 : Int) < (s1.size : Int)) = true := decide_eq_true (by omega)
        go_wp2
        go_ret
        exact ⟨⟨true, rfl, fun h => by cases h⟩, rfl⟩
      · have gs : decide ((300 : Int) < (s1.size : Int)) = false := decide_eq_false (by omega)
        by_cases hm : 300 < m1
        · have gm : decide ((300 : Int) < (m1 : Int)) = true := decide_eq_true (by omega)
          go_wp2
          go_ret
          exact ⟨⟨true, rfl, fun h => by cases h⟩, rfl⟩
        · have gm : decide ((300 : Int) < (m1 : Int)) = false := decide_eq_false (by omega)
          have HF1 : Hid (∀ j, j < k + 1 → (F j).s.size ≤ 300 ∧ (F j).m ≤ 300) := Lib.hid (fun j hj => by
            rcases Nat.lt_or_ge j k with h | h
            · exact HF.out j h
            · obtain rfl : j = k := by omega
              rw [HY.out.1, HY.out.2]; exact ⟨by simpa using hs, by simpa using hm⟩)
          clear HF
          go_wp2
          go_roundw
          case rel => exact ⟨k + 1, by omega, by go_num, HF1, trivial⟩
          case measure => simp [intOf]; omega
    · obtain rfl : k = n := by omega
      by_cases h80 : 60 < k
      · have g80 : decide ((60 : Int) < (k : Int)) = true := decide_eq_true (by omega)
        go_wp2
        go_ret
        exact ⟨⟨_, rfl, fun h => by cases h⟩, rfl⟩
      · have g80 : decide ((60 : Int) < (k : Int)) = false := decide_eq_false (by omega)
        go_wp2
        go_ret
        exact ⟨⟨_, rfl, fun _ => ⟨by omega, HF.out⟩⟩, rfl⟩

/-- the two writers, apart from each other; the code's has written p, the document's q -/
structure Two (w : World) (base B V : Nat) (v v2 : Value) (p q : List UInt8 × Int) : Prop where
  wr : Wr w B v p.1 p.2
  rw : RW w V v2 q.1 q.2
  hB : base ≤ B
  hV : base ≤ V
  ne : B ≠ V
  o1 : ∀ k, v.ownBlock = some k → k ≠ V
  o2 : ∀ k, v2.ownBlock = some k → k ≠ B
  o3 : ∀ k, v.ownBlock = some k → v2.ownBlock ≠ some k
theorem two_ch {S : Nat → Prop} {w w' : World} {base B V : Nat} {v v2 : Value} {p q : List UInt8 × Int} (h : Two w base B V v v2 p q) (hc : Ch S w w') (hS : ∀ k, S k → k < w.heap.size → k < base) : Two w' base B V v v2 p q := by
  have h1 := wr_lt h.wr
  have h2 := rw_lt h.rw
  have h3 := h.hB
  have h4 := h.hV
  exact ⟨wr_ch h.wr hc (fun hs => by have := hS _ hs h1; omega) (fun k hk hs => by have h5 := wr_own h.wr hk; have := hS _ hs h5.2; omega), rw_ch h.rw hc (fun hs => by have := hS _ hs h2; omega) (fun k hk hs => by have h5 := rw_own h.rw hk; have := hS _ hs h5.2; omega), h.hB, h.hV, h.ne, h.o1, h.o2, h.o3⟩
theorem two_ch2 {S : Nat → Prop} {w w' : World} {base B V : Nat} {v v2 : Value} {p q : List UInt8 × Int} (h : Two w base B V v v2 p q) (hc : Ch S w w') (hS : ∀ k, (k = B ∨ k = V ∨ v.ownBlock = some k ∨ v2.ownBlock = some k) → ¬ S k) : Two w' base B V v v2 p q :=
  ⟨wr_ch h.wr hc (hS B (.inl rfl)) (fun k hk => hS k (.inr (.inr (.inl hk)))), rw_ch h.rw hc (hS V (.inr (.inl rfl))) (fun k hk => hS k (.inr (.inr (.inr hk)))), h.hB, h.hV, h.ne, h.o1, h.o2, h.o3⟩
theorem two_lt {w : World} {base B V : Nat} {v v2 : Value} {p q : List UInt8 × Int} (h : Two w base B V v v2 p q) : ∀ k, (k = B ∨ k = V ∨ v.ownBlock = some k ∨ v2.ownBlock = some k) → k < w.heap.size := by
  rintro k (rfl | rfl | e | e)
  · exact wr_lt h.wr
  · exact rw_lt h.rw
  · exact (wr_own h.wr e).2
  · exact (rw_own h.rw e).2
theorem two_write {w w' : World} {base B V : Nat} {v v' v2 : Value} {p q r : List UInt8 × Int} (h : Two w base B V v v2 p q) (hw : Wr w' B v' r.1 r.2) (hc : Ch (fun k => k = B ∨ v.ownBlock = some k) w w') (ho : v'.ownBlock = v.ownBlock ∨ ∃ x, v'.ownBlock = some x ∧ w.heap.size ≤ x) : Two w' base B V v' v2 r q ∧ Below base w w' := by
  have h2 := rw_lt h.rw
  have h3 := h.hB
  refine ⟨⟨hw, rw_ch h.rw hc (by rintro (e | e); exact h.ne e.symm; exact h.o1 _ e rfl) (fun k hk => by rintro (e | e); exact h.o2 _ hk e; exact h.o3 _ e hk), h.hB, h.hV, h.ne, fun k hk => ?_, h.o2, fun k hk hk2 => ?_⟩, ?_⟩
  · rcases ho with e | ⟨x, e, hx⟩
    · rw [e] at hk; exact h.o1 k hk
    · rw [e] at hk; cases hk; omega
  · rcases ho with e | ⟨x, e, hx⟩
    · rw [e] at hk; exact h.o3 k hk hk2
    · rw [e] at hk; cases hk; have := rw_own h.rw hk2; omega
  · have := wr_lt h.wr
    exact hc.below (by omega) (fun k hk => by rcases hk with e | e; omega; have := wr_own h.wr e; omega)
theorem two_say {w w' : World} {base B V : Nat} {v v2 v' : Value} {p q r : List UInt8 × Int} (h : Two w base B V v v2 p q) (hw : RW w' V v' r.1 r.2) (hc : Ch (fun k => k = V ∨ v2.ownBlock = some k) w w') (ho : v'.ownBlock = v2.ownBlock ∨ ∃ x, v'.ownBlock = some x ∧ w.heap.size ≤ x) : Two w' base B V v v' p r ∧ Below base w w' := by
  have h2 := wr_lt h.wr
  have h3 := h.hV
  refine ⟨⟨wr_ch h.wr hc (by rintro (e | e); exact h.ne e; exact h.o2 _ e rfl) (fun k hk => by rintro (e | e); exact h.o1 _ hk e; exact h.o3 _ hk e), hw, h.hB, h.hV, h.ne, h.o1, fun k hk => ?_, fun k hk hk2 => ?_⟩, ?_⟩
  · rcases ho with e | ⟨x, e, hx⟩
    · rw [e] at hk; exact h.o2 k hk
    · rw [e] at hk; cases hk; omega
  · rcases ho with e | ⟨x, e, hx⟩
    · rw [e] at hk2; exact h.o3 k hk hk2
    · rw [e] at hk2; cases hk2; have := wr_own h.wr hk; omega
  · have := rw_lt h.rw
    exact hc.below (by omega) (fun k hk => by rcases hk with e | e; omega; have := rw_own h.rw e; omega)
theorem over_held {w : World} {base : Nat} {A : Option Addr} {n c : Nat} {x : List UInt8} (h : Held w base A n c x) : Calls Try.prog 22 #[.slice A n c] w fun e w' => e = .returned (.tuple #[]) ∧ Ch (fun k => base ≤ k) w w' := by
  rcases h with ⟨rfl, rfl, rfl, rfl⟩ | ⟨g, rfl, hb, hn, hg⟩
  · exact (over_nil w).mono fun e w' ⟨h1, h2⟩ => ⟨h1, h2 ▸ Ch.refl _ _⟩
  · have := byt_fits hb
    exact (over_any hb (by omega)).mono fun e w' ⟨h1, _, h2⟩ => ⟨h1, h2.mono fun i _ hi => by rw [hi]; exact hg⟩

set_option maxRecDepth 100000 in
set_option maxHeartbeats 4000000 in
theorem writes_any (A : Option Addr) (n c : Nat) (F : Nat → Ac) (w : World) (h : Acs w A n c F) : Calls Try.prog 3 #[.slice A n c] w fun e w' => e = .returned (.bool true) ∧ Below w.heap.size w w' := by
  have hnc := h.le
  have hc63 := h.big
  have H := Lib.hid h; clear h
  go_enter Try.func3, Try.ntmps3
  go_wp2_with fail
  refine (new_any w).mono ?_
  rintro e w1 ⟨B, rfl, hB, hwr, hb1⟩
  have hbx := box_below w1 (.cells #[.slice none 0 0, .int .i64 0] 29)
  have htwo : Two (w1.alloc (.cells #[.slice none 0 0, .int .i64 0] 29)) w.heap.size B w1.heap.size (.slice none 0 0) (.slice none 0 0) ([], 0) ([], 0) := by
    have := wr_lt hwr
    exact ⟨wr_ch hwr (Ch.of_below hbx No) id (fun _ _ => id), ⟨blk_new w1 _ _, nil_own _ _ _⟩, hB, hb1.size, by omega, (fun k hk => by cases hk), (fun k hk => by cases hk), (fun k hk => by cases hk)⟩
  have hbb := hb1.trans (hbx.mono hb1.size)
  obtain ⟨V, hV⟩ : ∃ V, V = w1.heap.size := ⟨_, rfl⟩
  rw [← hV] at htwo
  have HT := Lib.hid htwo; have HBB := Lib.hid hbb
  clear hwr hbx htwo hbb hb1
  go_wp2_with fail
  rw [← hV]
  clear hV
  obtain ⟨w2, hw2⟩ : ∃ x, x = w1.alloc (.cells #[.slice none 0 0, .int .i64 0] 29) := ⟨_, rfl⟩
  rw [← hw2] at HT HBB ⊢
  clear hw2
  refine (long_any A n c F w2 (acs_below H.out HBB.out)).mono ?_
  rintro e w3 ⟨⟨b, rfl, hbF⟩, rfl⟩
  cases b with
  | true =>
    go_wp2_with fail
    refine (awake_any w2).mono ?_
    rintro e w4 ⟨rfl, hb4⟩
    go_wp2
    go_ret
    exact ⟨rfl, HBB.out.trans (hb4.mono HBB.out.size)⟩
  | false =>
    obtain ⟨hn60, hsm⟩ := hbF rfl
    have HSM := Lib.hid hsm
    clear hbF hsm
    go_wp2_with fail
    go_loopw [5] (fun i wr => ∃ (k : Nat) (v v2 : Value) (p : List UInt8 × Int), k ≤ n ∧ i = .int .i64 k ∧ p.1.length ≤ 1048576 ∧ Two wr w.heap.size B V v v2 p p ∧ Below w.heap.size w wr) (fun i _ => n - (intOf i).toNat)
    case atStart => exact ⟨0, _, _, _, Nat.zero_le _, rfl, by decide, HT.out, HBB.out⟩
    case round =>
      obtain ⟨k, v, v2, p, hk, rfl, hp, htwo, hbr⟩ := hrel
      have HBR := Lib.hid hbr; have HTW := Lib.hid htwo
      clear hbr htwo
      by_cases hlt : k < n
      · obtain ⟨b5, off, rfl, hmi, hrd, hn1⟩ := (acs_below H.out HBR.out).at_ k hlt
        obtain ⟨hs1, hm1⟩ := HSM.out k hlt
        obtain ⟨hrd0, hin0⟩ : Rd w (F k).M (F k).m (F k).d 1 (u8s (F k).l) ∧ b5 < w.heap.size := by
          obtain ⟨b', off', e', h2, h3, _⟩ := H.out.at_ k hlt
          cases e'
          exact ⟨h3, World.block_lt_of_cell? w _ h2.1⟩
        obtain ⟨y, hy⟩ : ∃ y, y = F k := ⟨_, rfl⟩
        rw [← hy] at hmi hrd hn1 hs1 hm1 hrd0
        clear hy
        have hMl : ∀ a, y.M = some a → 0 < y.m → a.block < w.heap.size := fun a ha h0 => rd_in hrd0 a ha h0
        have hok : ∀ w', Below w.heap.size w w' → AcOk w' y := fun w' hb => ⟨hn1, by omega, by omega, hrd0.below hb⟩
        have hok0 := hok
        have HOK := Lib.hid hok
        have HML := Lib.hid hMl
        have hin' : AcIn wr b5 (off + k * 4) y := hmi
        have HINW : Hid (∀ w', Below w.heap.size wr w' → AcIn w' b5 (off + k * 4) y) := Lib.hid (fun w' hb => ⟨(hb.cell hin0).trans hin'.1, (hb.cell hin0).trans hin'.2.1, (hb.cell hin0).trans hin'.2.2.1, (hb.cell hin0).trans hin'.2.2.2⟩)
        obtain ⟨k1, n1, s1, M1, m1, d1, l1⟩ := y
        obtain ⟨c0, c1, c2, c3⟩ := hmi
        simp only at c0 c1 c2 c3
        clear hrd hn1 hs1 hm1 hrd0 hMl hok hok0 hin'
        have hk0 : (0 : Int) ≤ (k : Int) := by omega
        have hk1 : (k : Int) < (n : Int) := by omega
        go_wp2_with fail
        refine (write_any HTW.out.wr hp ⟨k1, n1, s1, M1, m1, d1, l1⟩ (HOK.out _ HBR.out) (fun a ha h0 => ⟨by have := HML.out a ha h0; have := HTW.out.hB; omega, fun q hq => by have := HML.out a ha h0; have := HTW.out.hB; have := wr_own HTW.out.wr hq; omega⟩)).mono ?_
        obtain ⟨r, hr⟩ : ∃ r, r = actW p ⟨k1, n1, s1, M1, m1, d1, l1⟩ := ⟨_, rfl⟩
        rw [← hr]
        have hrl : r.1.length ≤ 1048576 := by rw [hr]; exact actW_len _ _ hp
        have HRR := Lib.hid hr
        clear hr c0 c1 c2 c3
        rintro e w3 ⟨rfl, v3, hwr3, hch3, ho3⟩
        obtain ⟨ht3, hb3⟩ := two_write HTW.out hwr3 hch3 ho3
        have HT3 := Lib.hid ht3; have HB3 := Lib.hid hb3
        clear hwr3 hch3 ho3 ht3 hb3
        obtain ⟨c0, c1, c2, c3⟩ := HINW.out w3 HB3.out
        simp only at c0 c1 c2 c3
        go_wp2_with fail
        refine (say_any HT3.out.rw hp ⟨k1, n1, s1, M1, m1, d1, l1⟩ (HOK.out _ (HBR.out.trans HB3.out))).mono ?_
        rw [← HRR.out]
        clear c0 c1 c2 c3
        rintro e w4 ⟨he4, v4, hrw4, hch4, ho4⟩
        cases he4
        obtain ⟨ht4, hb4⟩ := two_say HT3.out hrw4 hch4 ho4
        have HT4 := Lib.hid ht4; have HB4 := Lib.hid (HBR.out.trans (HB3.out.trans hb4))
        clear hrw4 hch4 ho4 ht4 hb4
        go_wp2_with fail
        refine (wout_any HT4.out.wr hrl).mono ?_
        rintro e w5 ⟨A5, n5, c5, rfl, hh5, hb5⟩
        have HT5 := Lib.hid (two_ch HT4.out (Ch.of_below hb5 No) (fun _ h => False.elim h))
        have HB5 := Lib.hid (HB4.out.trans (hb5.mono HB4.out.size))
        have hz5 := HB4.out.size
        have HH5 := Lib.hid hh5
        clear hh5 hb5
        go_wp2_with fail
        refine (rout_any HT5.out.rw hrl).mono ?_
        rintro e w6 ⟨A6, n6, c6, rfl, hh6, _, hb6⟩
        have HT6 := Lib.hid (two_ch HT5.out (Ch.of_below hb6 No) (fun _ h => False.elim h))
        have HB6 := Lib.hid (HB5.out.trans (hb6.mono HB5.out.size))
        have HH6 := Lib.hid (held_ch HH5.out (Ch.of_below hb6 No) (fun _ _ => id)); have HQ6 := Lib.hid hh6
        clear hh6 hb6
        go_wp2_with fail
        refine (same_any _ _ _ _ _ _ _ _ _ (held_rd HH6.out) HQ6.out).mono ?_
        rw [eqB_self]
        rintro e w7 ⟨rfl, rfl⟩
        have gE : (r.2 != r.2) = false := by simp
        go_wp2_with fail
        refine (over_held HH6.out).mono ?_
        rintro e w7 ⟨rfl, hch7⟩
        have HT7 := Lib.hid (two_ch2 HT6.out hch7 (fun k hk hs => by have := two_lt HT4.out k hk; omega))
        go_wp2
        go_roundw
        case rel => exact ⟨k + 1, v3, v4, r, by omega, by go_num, hrl, HT7.out, HB6.out.trans (hch7.below (by have := HB6.out.size; omega) (fun k hk => by omega))⟩
        case measure => simp [intOf]; omega
      · obtain rfl : k = n := by omega
        go_wp2_with fail
        refine (awake_any _).mono ?_
        rintro e w4 ⟨rfl, hb4⟩
        go_wp2
        go_ret
        exact ⟨rfl, HBR.out.trans (hb4.mono HBR.out.size)⟩
end Go.Proofs.Ytondodhpmghogaa
