/- Walks: OverBytes, CopyMessage. No conditions beyond the lengths named in each theorem. -/
import Derived.Test.YtnlninmjmjffcaaTk
namespace Go.Proofs.Ytnlninmjmjffcaa
open Go.RowKit
set_option linter.unusedVariables false
set_option linter.unusedSimpArgs false

set_option maxHeartbeats 400000 in
theorem over_nil (w : World) : Calls Try.prog 36 #[.slice none 0 0] w fun e w' => e = .returned (.tuple #[]) ∧ w = w' := by
  go_enter Try.func36, Try.ntmps36
  go_wp2
  go_loop [3] (fun i => i = .int .i64 0) (fun _ => 0)
  case atStart => rfl
  case round =>
    subst hrel
    go_wp2
    exact bodyPost_end (results_none rfl _ _ _) rfl ⟨rfl, rfl⟩

def OverQ (w : World) (g c : Nat) (e : Ending) (w' : World) : Prop := e = .returned (.tuple #[]) ∧ (∃ ys, ys.length = c ∧ Byt w' g 5 c ys) ∧ Ch (fun k => k = g) w w'
set_option maxHeartbeats 1000000 in
theorem over_any {g n c : Nat} {l : List UInt8} {w : World} (h : Byt w g 5 c l) (hn : n ≤ c) : Calls Try.prog 36 #[.slice (some ⟨g, 0, none⟩) n c] w (OverQ w g c) := by
  obtain ⟨ys0, hy0, _, hb0⟩ := byt_full h
  have hbig := h.big
  have H0 := Lib.hid hb0; clear hb0 h
  go_enter Try.func36, Try.ntmps36
  go_wp2
  go_loopw [3] (fun i wr => ∃ k : Nat, k ≤ c ∧ i = .int .i64 k ∧ (∃ ys, ys.length = c ∧ Byt wr g 5 c ys) ∧ Ch (fun k => k = g) w wr) (fun i _ => c - (intOf i).toNat)
  case atStart => exact ⟨0, Nat.zero_le _, rfl, ⟨_, hy0, H0.out⟩, Ch.refl _ _⟩
  case round =>
    clear H0 hy0
    obtain ⟨k, hk, rfl, ⟨ys, hy1, hb⟩, hB⟩ := hrel
    by_cases hlt : k < c
    · have hc := (byt_row hb).cell (u8s_get ys k (by omega))
      have hf := (byt_row hb).thawed k
      have hS := Lib.hid (byt_set hb hy1 k (UInt8.ofNat ((ys[k]?.getD 0).toNat + 101)) hlt)
      have hC := Lib.hid (hB.trans (Ch.setCell wr ⟨g, k, none⟩ (.int .u8 ((UInt8.ofNat ((ys[k]?.getD 0).toNat + 101)).toNat : Int))) (fun i hi => .inl hi))
      have hv : ((UInt8.ofNat ((ys[k]?.getD 0).toNat + 101)).toNat : Int) = (((ys[k]?.getD 0).toNat : Int) + 101) % 256 := by simp
      have HV := Lib.hid hv; clear hv
      have Hb := Lib.hid hb; clear hb
      have HY := Lib.hid hy1; clear hy1
      go_wp2
      rw [← HV.out]
      go_roundw
      case rel => exact ⟨k + 1, by omega, by go_num, ⟨_, by rw [List.length_set]; exact HY.out, hS.out⟩, hC.out⟩
      case measure => simp [intOf]; omega
    · obtain rfl : k = c := by omega
      go_wp2
      exact bodyPost_end (results_none rfl _ _ _) rfl ⟨rfl, ⟨_, hy1, hb⟩, hB⟩

def CopyM (k i s a : Int) (n : Nat) (l : List UInt8) (w : World) (e : Ending) (w' : World) : Prop :=
  ∃ g c', e = .returned (.agg #[.int .i64 k, .int .i64 i, .int .i64 s, .int .i64 a, .slice (some ⟨g, 0, none⟩) n c']) ∧ w.heap.size ≤ g ∧ Byt w' g 5 c' l ∧ Below w.heap.size w w'
set_option maxHeartbeats 400000 in
theorem copyM_any (k i s a : Int) (A : Option Addr) (n c : Nat) (l : List UInt8) (w : World) (h1 : Rd w A n c 1 (u8s l)) (hn : n ≤ 1000000) :
    Calls Try.prog 41 #[.agg #[.int .i64 k, .int .i64 i, .int .i64 s, .int .i64 a, .slice A n c]] w (CopyM k i s a n l w) := by
  have hb2 : Below w.heap.size w ((w.alloc (.cells #[.int .i64 k, .int .i64 i, .int .i64 s, .int .i64 a, .slice A n c] 50)).alloc (.cells #[.int .i64 0, .int .i64 0, .int .i64 0, .int .i64 0, .slice none 0 0] 50)) := ((Below.refl _ w).alloc (Nat.le_refl _) _).alloc (by simp) _
  have h1' := Lib.hid (h1.below hb2)
  have m1 : Blk ((w.alloc (.cells #[.int .i64 k, .int .i64 i, .int .i64 s, .int .i64 a, .slice A n c] 50)).alloc (.cells #[.int .i64 0, .int .i64 0, .int .i64 0, .int .i64 0, .slice none 0 0] 50)) w.heap.size 50 #[.int .i64 k, .int .i64 i, .int .i64 s, .int .i64 a, .slice A n c] := blk_below (blk_new w _ _) ((Below.refl _ _).alloc (Nat.le_refl _) _)
  have m2 : Blk ((w.alloc (.cells #[.int .i64 k, .int .i64 i, .int .i64 s, .int .i64 a, .slice A n c] 50)).alloc (.cells #[.int .i64 0, .int .i64 0, .int .i64 0, .int .i64 0, .slice none 0 0] 50)) (w.heap.size + 1) 50 #[.int .i64 0, .int .i64 0, .int .i64 0, .int .i64 0, .slice none 0 0] := by
    have := blk_new (w.alloc (.cells #[.int .i64 k, .int .i64 i, .int .i64 s, .int .i64 a, .slice A n c] 50)) 50 #[.int .i64 0, .int .i64 0, .int .i64 0, .int .i64 0, .slice none 0 0]
    simpa using this
  have M1 := Lib.hid m1; have M2 := Lib.hid m2; have HB2 := Lib.hid hb2; clear h1 m1 m2 hb2
  go_enter Try.func41, Try.ntmps41
  go_wp2_with fail
  refine (copyb_any _ _ _ l _ h1'.out hn).mono ?_; rintro e w1 ⟨g, c', rfl, hbg, hbyt, hbel⟩
  have n1 := blk_below M1.out hbel
  have n2 := blk_below M2.out hbel
  have HB := Lib.hid (HB2.out.trans (hbel.mono HB2.out.size))
  have a0 := blk_cell n1 0 _ rfl
  have a1 := blk_cell n1 1 _ rfl
  have a2 := blk_cell n1 2 _ rfl
  have a3 := blk_cell n1 3 _ rfl
  have a4 := blk_cell n1 4 _ rfl
  have b0 := blk_cell n2 0 _ rfl
  have b1 := blk_cell n2 1 _ rfl
  have b2 := blk_cell n2 2 _ rfl
  have b3 := blk_cell n2 3 _ rfl
  have b4 := blk_cell n2 4 _ rfl
  have f4 := blk_thawed n1 4
  have g0 := blk_thawed n2 0
  have g1 := blk_thawed n2 1
  have g2 := blk_thawed n2 2
  have g3 := blk_thawed n2 3
  have g4 := blk_thawed n2 4
  have N1 := Lib.hid n1; have N2 := Lib.hid n2; have HB3 := Lib.hid hbyt; have HB4 := Lib.hid hbel; have HB5 := Lib.hid hbg
  clear n1 n2 hbyt hbel hbg M1 M2 HB2 h1'
  go_wp2
  refine bodyPost_ret (v := .agg #[.int .i64 k, .int .i64 i, .int .i64 s, .int .i64 a, .slice (some ⟨g, 0, none⟩) n c']) ?_ rfl ⟨g, c', rfl, ?_, ?_, ?_⟩
  · simp [results, Try.f41, go_sem, a0, a1, a2, a3, a4, b0, b1, b2, b3, b4]
  · have := HB5.out; simp at this; omega
  · exact byt_ch (S := fun k => k < w.heap.size + 2) HB3.out (ch_set (ch_set (ch_set (ch_set (ch_set (ch_set (Ch.refl _ _) _ _ (by simp)) _ _ (by simp)) _ _ (by simp)) _ _ (by simp)) _ _ (by simp)) _ _ (by simp)) (by have := HB5.out; simp at this; omega)
  · exact HB.out.trans (Ch.below (S := fun k => w.heap.size ≤ k) (ch_set (ch_set (ch_set (ch_set (ch_set (ch_set (Ch.refl _ _) _ _ (by simp)) _ _ (by simp)) _ _ (by simp)) _ _ (by simp)) _ _ (by simp)) _ _ (by simp)) HB.out.size (fun k hk => hk))

end Go.Proofs.Ytnlninmjmjffcaa
