/- Walk: an effect's bytes. Conditions: the bytes are short. -/
import Derived.Test.YtondodhpmghogaaE2
import Derived.Test.YtondodhpmghogaaL2
namespace Go.Proofs.Ytondodhpmghogaa
open Go.RowKit
set_option linter.unusedVariables false
set_option linter.unusedSimpArgs false

/-- an effect's bytes, or the error -/
def effW (k m : Int) (l : List UInt8) : List UInt8 × Int := wraw (wnum (wnum [] 0 k).1 (wnum [] 0 k).2 m).1 (wnum (wnum [] 0 k).1 (wnum [] 0 k).2 m).2 l
def effB (k m : Int) (l : List UInt8) : List UInt8 × Int := if chk k m l.length = 0 then effW k m l else ([], 2)
set_option maxRecDepth 100000 in
set_option maxHeartbeats 2000000 in
theorem ebytes_any (k m : Int) (hk : k ≤ 9223372036854775807) (hm : m ≤ 9223372036854775807) {A : Option Addr} {n c : Nat} {l : List UInt8} {w : World} (hr : Rd w A n c 1 (u8s l)) (hn : n ≤ 100000000) : Calls Try.prog 44 #[.agg #[.int .i64 k, .int .i64 m, .slice A n c]] w (ToldQ w (effB k m l)) := by
  have hl : l.length = n := by have := hr.len; simpa using this
  obtain ⟨r, hrr⟩ : ∃ r, r = effB k m l := ⟨_, rfl⟩
  rw [← hrr]
  unfold effB at hrr
  rw [hl] at hrr
  have hb1 := box_below w (.cells #[.int .i64 k, .int .i64 m, .slice A n c] 72)
  have hblk := blk_new w 72 #[.int .i64 k, .int .i64 m, .slice A n c]
  have c0 := blk_cell hblk 0 _ rfl
  have c1 := blk_cell hblk 1 _ rfl
  have c2 := blk_cell hblk 2 _ rfl
  have HR0 := Lib.hid hr; have HR := Lib.hid (hr.below hb1); have HB1 := Lib.hid hb1; have HBLK := Lib.hid hblk
  have hMl := fun a (ha : A = some a) (h0 : 0 < n) => rd_in hr a ha h0
  have HML := Lib.hid hMl
  clear hr hb1 hblk hMl
  by_cases hc : chk k m n = 0
  · rw [if_pos hc] at hrr
    have HC := Lib.hid hc; have HRR := Lib.hid hrr
    clear hc hrr
    go_enter Try.func44, Try.ntmps44
    go_wp2_with fail
    refine (check_any k m A n c _ (by omega)).mono ?_
    rw [HC.out]
    rintro e w2 ⟨rfl, hb2⟩
    have HB2 := Lib.hid (HB1.out.trans (hb2.mono (by simp))); have HBLK2 := Lib.hid (blk_below HBLK.out hb2); have HR2 := Lib.hid (HR.out.below hb2)
    clear hb2 c0 c1 c2
    go_wp2_with fail
    refine (new_any w2).mono ?_
    rintro e w3 ⟨B, rfl, hB, hwr, hb3⟩
    have hz := HB2.out.size
    have hBX : w.heap.size < B := by have := blk_lt HBLK2.out; omega
    have HB3 := Lib.hid (HB2.out.trans (hb3.mono hz)); have hblk3 := blk_below HBLK2.out hb3; have HW3 := Lib.hid hwr; have HR3 := Lib.hid (HR2.out.below hb3)
    have c0 := blk_cell hblk3 0 _ rfl
    have HBLK3 := Lib.hid hblk3
    clear hb3 hblk3 hwr
    go_wp2_with fail
    refine (wnum_any HW3.out (by decide) k hk).mono ?_
    obtain ⟨p, hp⟩ : ∃ p, p = wnum [] 0 k := ⟨_, rfl⟩
    rw [← hp]
    have hpl : p.1.length ≤ 1048576 := by rw [hp]; exact wnum_len _ _ _ (by decide)
    rintro e w4 ⟨he4, v4, hwr4, hch4, ho4⟩
    cases he4
    have hblk4 := blk_ch HBLK3.out hch4 (by rintro (e | e); omega; cases e)
    have c1 := blk_cell hblk4 1 _ rfl
    have HP := Lib.hid hp; have HW4 := Lib.hid hwr4; have HBLK4 := Lib.hid hblk4
    have HB4 := Lib.hid (((Ch.of_below HB3.out (fun j => j = B)).trans hch4 (fun i hi => by rcases hi with e | e; exact .inl e; cases e)).below (Nat.le_refl _) (fun j hj => by omega))
    clear hp hwr4 hblk4 hch4 ho4 c0
    go_wp2_with fail
    refine (wnum_any HW4.out hpl m hm).mono ?_
    obtain ⟨q, hq⟩ : ∃ q, q = wnum p.1 p.2 m := ⟨_, rfl⟩
    rw [← hq]
    have hql : q.1.length ≤ 1048576 := by rw [hq]; exact wnum_len _ _ _ hpl
    rintro e w5 ⟨he5, v5, hwr5, hch5, ho5⟩
    cases he5
    have hblk5 := blk_ch HBLK4.out hch5 (by rintro (e | e); omega; have := wr_own HW4.out e; omega)
    have c2 := blk_cell hblk5 2 _ rfl
    have HQ := Lib.hid hq; have HW5 := Lib.hid hwr5
    have HB5 := Lib.hid (((Ch.of_below HB4.out (fun j => j = B ∨ v4.ownBlock = some j)).trans hch5 (fun i hi => .inl hi)).below (Nat.le_refl _) (fun j hj => by rcases hj with e | e; omega; have := wr_own HW4.out e; omega))
    clear hq hwr5 hblk5 hch5 ho5 c1
    have hrd5 : Rd w5 A n c 1 (u8s l) := HR0.out.below HB5.out
    have HR5 := Lib.hid hrd5
    clear hrd5
    go_wp2_with fail
    refine (wraw_any HW5.out hql HR5.out hn (fun a ha h0 => by have h1 := HML.out a ha h0; exact ⟨by omega, fun j hj => by have := wr_own HW5.out hj; omega⟩)).mono ?_
    rw [show wraw q.1 q.2 l = r by rw [HRR.out, HQ.out, HP.out]; rfl]
    rintro e w6 ⟨he6, v6, hwr6, hch6, ho6⟩
    cases he6
    have hrl : r.1.length ≤ 1048576 := by rw [HRR.out]; unfold effW; exact wraw_len _ _ _ (wnum_len _ _ _ (wnum_len _ _ _ (by decide)))
    have HB6 := Lib.hid (((Ch.of_below HB5.out (fun j => j = B ∨ v5.ownBlock = some j)).trans hch6 (fun i hi => .inl hi)).below (Nat.le_refl _) (fun j hj => by rcases hj with e | e; omega; have := wr_own HW5.out e; omega))
    clear hch6 ho6 c2
    go_wp2_with fail
    refine (wout_any hwr6 hrl).mono ?_
    rintro e w7 ⟨A7, n7, c7, rfl, hh7, hb7⟩
    go_wp2
    go_ret2
    exact ⟨A7, n7, c7, rfl, held_in hh7 HB6.out.size, HB6.out.trans (hb7.mono HB6.out.size)⟩
  · rw [if_neg hc] at hrr
    have hc2 : chk k m n = 2 := by unfold chk at hc ⊢; split at hc; exact absurd rfl hc; rename_i h; rw [if_neg h]
    have HC := Lib.hid hc2; have HRR := Lib.hid hrr
    clear hc hc2 hrr
    go_enter Try.func44, Try.ntmps44
    go_wp2_with fail
    refine (check_any k m A n c _ (by omega)).mono ?_
    rw [HC.out]
    rintro e w2 ⟨rfl, hb2⟩
    go_wp2
    go_ret2
    have hrr := HRR.out
    subst hrr
    exact ⟨none, 0, 0, rfl, held_nil _ _, HB1.out.trans (hb2.mono (by simp))⟩
set_option maxRecDepth 100000 in
set_option maxHeartbeats 2000000 in
theorem rebytes_any (k m : Int) (hk : k ≤ 9223372036854775807) (hm : m ≤ 9223372036854775807) {A : Option Addr} {n c : Nat} {l : List UInt8} {w : World} (hr : Rd w A n c 1 (u8s l)) (hn : n ≤ 100000000) : Calls Try.prog 45 #[.agg #[.int .i64 k, .int .i64 m, .slice A n c]] w (ROutQ w (effB k m l).1 (effB k m l).2) := by
  have hl : l.length = n := by have := hr.len; simpa using this
  obtain ⟨r, hrr⟩ : ∃ r, r = effB k m l := ⟨_, rfl⟩
  rw [← hrr]
  unfold effB at hrr
  rw [hl] at hrr
  have hb1 := box_below w (.cells #[.int .i64 k, .int .i64 m, .slice A n c] 72)
  have hblk := blk_new w 72 #[.int .i64 k, .int .i64 m, .slice A n c]
  have c0 := blk_cell hblk 0 _ rfl
  have c1 := blk_cell hblk 1 _ rfl
  have c2 := blk_cell hblk 2 _ rfl
  have HR0 := Lib.hid hr; have HB1 := Lib.hid hb1; have HBLK := Lib.hid hblk
  clear hr hb1 hblk
  by_cases hc : chk k m n = 0
  · rw [if_pos hc] at hrr
    have HC := Lib.hid hc; have HRR := Lib.hid hrr
    clear hc hrr
    go_enter Try.func45, Try.ntmps45
    go_wp2_with fail
    refine (rcheck_any k m A n c _).mono ?_
    rw [HC.out]
    rintro e w2 ⟨rfl, hb2⟩
    have HB2 := Lib.hid (HB1.out.trans (hb2.mono (by simp))); have hblk2 := blk_below HBLK.out hb2
    have hbx := box_below w2 (.cells #[.slice none 0 0, .int .i64 0] 29)
    have hblk3 := blk_below hblk2 hbx
    have c0' := blk_cell hblk3 0 _ rfl
    have hBX : w.heap.size < w2.heap.size := blk_lt hblk2
    have hrw3 : RW (w2.alloc (.cells #[.slice none 0 0, .int .i64 0] 29)) w2.heap.size (.slice none 0 0) [] 0 := ⟨blk_new w2 _ _, nil_own _ _ _⟩
    obtain ⟨V, hV⟩ : ∃ V, V = w2.heap.size := ⟨_, rfl⟩
    have HB3 := Lib.hid (HB2.out.trans (hbx.mono HB2.out.size)); have HBLK3 := Lib.hid hblk3
    rw [← hV] at hrw3 hBX
    have HW3 := Lib.hid hrw3
    clear hb2 hbx hblk2 hblk3 hrw3 c0 c1 c2
    go_wp2_with fail
    rw [← hV]
    clear hV
    refine (rwnum_any HW3.out (by decide) k hk).mono ?_
    obtain ⟨p, hp⟩ : ∃ p, p = wnum [] 0 k := ⟨_, rfl⟩
    rw [← hp]
    have hpl : p.1.length ≤ 1048576 := by rw [hp]; exact wnum_len _ _ _ (by decide)
    rintro e w4 ⟨he4, v4, hwr4, hch4, ho4⟩
    cases he4
    have hblk4 := blk_ch HBLK3.out hch4 (by rintro (e | e); omega; cases e)
    have c1 := blk_cell hblk4 1 _ rfl
    have HP := Lib.hid hp; have HW4 := Lib.hid hwr4; have HBLK4 := Lib.hid hblk4
    have HB4 := Lib.hid (((Ch.of_below HB3.out (fun j => j = V)).trans hch4 (fun i hi => by rcases hi with e | e; exact .inl e; cases e)).below (Nat.le_refl _) (fun j hj => by omega))
    clear hp hwr4 hblk4 hch4 ho4 c0'
    go_wp2_with fail
    refine (rwnum_any HW4.out hpl m hm).mono ?_
    obtain ⟨q, hq⟩ : ∃ q, q = wnum p.1 p.2 m := ⟨_, rfl⟩
    rw [← hq]
    have hql : q.1.length ≤ 1048576 := by rw [hq]; exact wnum_len _ _ _ hpl
    rintro e w5 ⟨he5, v5, hwr5, hch5, ho5⟩
    cases he5
    have hblk5 := blk_ch HBLK4.out hch5 (by rintro (e | e); omega; have := rw_own HW4.out e; omega)
    have c2 := blk_cell hblk5 2 _ rfl
    have HQ := Lib.hid hq; have HW5 := Lib.hid hwr5
    have HB5 := Lib.hid (((Ch.of_below HB4.out (fun j => j = V ∨ v4.ownBlock = some j)).trans hch5 (fun i hi => .inl hi)).below (Nat.le_refl _) (fun j hj => by rcases hj with e | e; omega; have := rw_own HW4.out e; omega))
    clear hq hwr5 hblk5 hch5 ho5 c1
    have HR5 := Lib.hid (HR0.out.below HB5.out)
    go_wp2_with fail
    refine (rwraw_any HW5.out hql HR5.out hn).mono ?_
    rw [show wraw q.1 q.2 l = r by rw [HRR.out, HQ.out, HP.out]; rfl]
    rintro e w6 ⟨he6, v6, hwr6, hch6, ho6⟩
    cases he6
    have hrl : r.1.length ≤ 1048576 := by rw [HRR.out]; unfold effW; exact wraw_len _ _ _ (wnum_len _ _ _ (wnum_len _ _ _ (by decide)))
    have HB6 := Lib.hid (((Ch.of_below HB5.out (fun j => j = V ∨ v5.ownBlock = some j)).trans hch6 (fun i hi => .inl hi)).below (Nat.le_refl _) (fun j hj => by rcases hj with e | e; omega; have := rw_own HW5.out e; omega))
    clear hch6 ho6 c2
    go_wp2_with fail
    refine (rout_any hwr6 hrl).mono ?_
    rintro e w7 ⟨A7, n7, c7, rfl, hh7, hf7, hb7⟩
    have hz6 := HB6.out.size
    go_wp2
    go_ret2
    exact ⟨A7, n7, c7, rfl, hh7, (fun a ha => Nat.le_trans hz6 (hf7 a ha)), HB6.out.trans (hb7.mono hz6)⟩
  · rw [if_neg hc] at hrr
    have hc2 : chk k m n = 2 := by unfold chk at hc ⊢; split at hc; exact absurd rfl hc; rename_i h; rw [if_neg h]
    have HC := Lib.hid hc2; have HRR := Lib.hid hrr
    clear hc hc2 hrr
    go_enter Try.func45, Try.ntmps45
    go_wp2_with fail
    refine (rcheck_any k m A n c _).mono ?_
    rw [HC.out]
    rintro e w2 ⟨rfl, hb2⟩
    go_wp2
    go_ret2
    have hrr := HRR.out
    subst hrr
    exact ⟨none, 0, 0, rfl, nil_rd _ _, (fun a ha => by cases ha), HB1.out.trans (hb2.mono (by simp))⟩
end Go.Proofs.Ytondodhpmghogaa
