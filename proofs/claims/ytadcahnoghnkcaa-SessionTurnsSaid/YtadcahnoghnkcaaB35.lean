/- Walk of turn: what happens at the second end. Conditions: the world is as turns make it. -/
import Derived.Test.YtadcahnoghnkcaaB33
namespace Go.Proofs.Ytadcahnoghnkcaa
open Go.RowKit
set_option linter.unusedVariables false
set_option linter.unusedSimpArgs false
attribute [local go_sem] Oper.semAt_some

set_option maxRecDepth 100000 in
set_option maxHeartbeats 8000000 in
theorem turn1k1 {w : World} {B : Nat} {T : Nat → Nat} {M : Nat} {x : Ws} {W : Wd} (h : WdI w B T M x W) (hM : M ≤ 400000) (hF : Fit W) (u : Tu) (hu : u.o = true) (hr : Rd w u.M u.m u.d 1 (u8s u.l)) (hm : u.m ≤ 400) (hT0 : ∀ b, u.M = some b → 0 < u.m → T b.block = 0 ∧ b.block < w.heap.size) (hk : u.k = 1) :
    Calls Try.prog 25 #[.pointer (some ⟨B, 0, none⟩), .agg #[.int .i64 u.k, .int .i64 u.wh, .bool u.o, .slice u.M u.m u.d]] w (StepQ w B T (M + 8) x.P (W.turn u)) := by
  obtain ⟨uk, uwh, uo, uM, um, ud, ul⟩ := u
  simp only at hu hr hm hT0 hk
  subst hu
  have HT1 := agr_ext T w.heap.size (fun _ => 0)
  obtain ⟨T1, hT1⟩ : ∃ T1, T1 = ext T w.heap.size (fun _ => 0) := ⟨_, rfl⟩
  have hz1 : ∀ k, w.heap.size ≤ k → T1 k = 0 := fun k hk => by rw [hT1]; exact ext_new _ _ _ hk
  rw [← hT1] at HT1
  have hb1 : Below w.heap.size w (w.alloc (.cells (Tu.cells (⟨uk, uwh, true, uM, um, ud, ul⟩ : Tu)).toArray 50)) := (Below.refl _ w).alloc (Nat.le_refl _) _
  have hX := blk_new w 50 (Tu.cells (⟨uk, uwh, true, uM, um, ud, ul⟩ : Tu)).toArray
  obtain ⟨W1, hW1⟩ : ∃ W1, W1 = w.alloc (.cells (Tu.cells (⟨uk, uwh, true, uM, um, ud, ul⟩ : Tu)).toArray 50) := ⟨_, rfl⟩
  rw [← hW1] at hb1 hX
  have HR1 := Lib.hid (hr.below hb1)
  have hs1 : TS w W1 B T T1 M x.P x W w.heap.size (Tu.cells (⟨uk, uwh, true, uM, um, ud, ul⟩ : Tu)).toArray := ⟨h.below hb1 HT1, rfl, Ch.of_below hb1 _, HT1, hX, hz1 _ (Nat.le_refl _)⟩
  have rI : (w.alloc (.cells #[.int .i64 uk, .int .i64 uwh, .bool true, .slice uM um ud] 50)).cell? ⟨B, 1, none⟩ = some (.pointer (some ⟨x.P true, 0, none⟩)) := by rw [show (w.alloc (.cells #[.int .i64 uk, .int .i64 uwh, .bool true, .slice uM um ud] 50)) = W1 from hW1.symm]; exact (wdi_cell hs1.wd).1 true
  have HS1 := Lib.hid hs1; have HW1 := Lib.hid hW1; have HZ1 := Lib.hid hz1; have HF := Lib.hid hF; have HMM := Lib.hid hM; have HM4 := Lib.hid hm
  have HL := Lib.hid (show ul.length = um from by have := hr.len; simpa using this)
  have HT0 := Lib.hid (show ∀ b, uM = some b → 0 < um → T1 b.block = 0 from fun b hb h0 => (HT1 _ (hT0 b hb h0).2).trans (hT0 b hb h0).1)
  clear h hT0 HT1 hT1 hz1 hb1 hX hW1 hs1 hF hM hr hm
  have g0 : (uk == 0) = false := by simp; omega
  have g1 : (uk == 1) = true := by simp; omega
  have HE := Lib.hid (show W.turn (⟨uk, uwh, true, uM, um, ud, ul⟩ : Tu) = W.tick true from by unfold Wd.turn; dsimp only; rw [if_neg (by omega), if_pos hk])
  clear hk
  go_enter Try.func25, Try.ntmps25
  go_wp2_with fail
  rw [show (w.alloc (.cells #[.int .i64 uk, .int .i64 uwh, .bool true, .slice uM um ud] 50)) = W1 from HW1.out.symm]
  obtain ⟨X, hX⟩ : ∃ X, X = w.heap.size := ⟨_, rfl⟩
  rw [← hX] at HS1 ⊢
  clear hX rI HW1
  refine (tickA (HS1.out.wd.ends true) (HF.out.ep true) (by have := HMM.out; omega)).mono ?_
  rintro e V ⟨rfl, hs, hc⟩
  have HFIN := Lib.hid (ts_step (ts_end HS1.out true hs (Nat.le_succ M) hc (agr_refl _ _)) HE.out (show M + 1 ≤ M + 8 by omega))
  clear hs hc HS1
  go_wp2
  exact bodyPost_end (results_none rfl _ _ _) rfl HFIN.out
set_option maxRecDepth 100000 in
set_option maxHeartbeats 8000000 in
theorem turn1k3 {w : World} {B : Nat} {T : Nat → Nat} {M : Nat} {x : Ws} {W : Wd} (h : WdI w B T M x W) (hM : M ≤ 400000) (hF : Fit W) (u : Tu) (hu : u.o = true) (hr : Rd w u.M u.m u.d 1 (u8s u.l)) (hm : u.m ≤ 400) (hT0 : ∀ b, u.M = some b → 0 < u.m → T b.block = 0 ∧ b.block < w.heap.size) (hk : u.k = 3) :
    Calls Try.prog 25 #[.pointer (some ⟨B, 0, none⟩), .agg #[.int .i64 u.k, .int .i64 u.wh, .bool u.o, .slice u.M u.m u.d]] w (StepQ w B T (M + 8) x.P (W.turn u)) := by
  obtain ⟨uk, uwh, uo, uM, um, ud, ul⟩ := u
  simp only at hu hr hm hT0 hk
  subst hu
  have HT1 := agr_ext T w.heap.size (fun _ => 0)
  obtain ⟨T1, hT1⟩ : ∃ T1, T1 = ext T w.heap.size (fun _ => 0) := ⟨_, rfl⟩
  have hz1 : ∀ k, w.heap.size ≤ k → T1 k = 0 := fun k hk => by rw [hT1]; exact ext_new _ _ _ hk
  rw [← hT1] at HT1
  have hb1 : Below w.heap.size w (w.alloc (.cells (Tu.cells (⟨uk, uwh, true, uM, um, ud, ul⟩ : Tu)).toArray 50)) := (Below.refl _ w).alloc (Nat.le_refl _) _
  have hX := blk_new w 50 (Tu.cells (⟨uk, uwh, true, uM, um, ud, ul⟩ : Tu)).toArray
  obtain ⟨W1, hW1⟩ : ∃ W1, W1 = w.alloc (.cells (Tu.cells (⟨uk, uwh, true, uM, um, ud, ul⟩ : Tu)).toArray 50) := ⟨_, rfl⟩
  rw [← hW1] at hb1 hX
  have HR1 := Lib.hid (hr.below hb1)
  have hs1 : TS w W1 B T T1 M x.P x W w.heap.size (Tu.cells (⟨uk, uwh, true, uM, um, ud, ul⟩ : Tu)).toArray := ⟨h.below hb1 HT1, rfl, Ch.of_below hb1 _, HT1, hX, hz1 _ (Nat.le_refl _)⟩
  have rI : (w.alloc (.cells #[.int .i64 uk, .int .i64 uwh, .bool true, .slice uM um ud] 50)).cell? ⟨B, 1, none⟩ = some (.pointer (some ⟨x.P true, 0, none⟩)) := by rw [show (w.alloc (.cells #[.int .i64 uk, .int .i64 uwh, .bool true, .slice uM um ud] 50)) = W1 from hW1.symm]; exact (wdi_cell hs1.wd).1 true
  have HS1 := Lib.hid hs1; have HW1 := Lib.hid hW1; have HZ1 := Lib.hid hz1; have HF := Lib.hid hF; have HMM := Lib.hid hM; have HM4 := Lib.hid hm
  have HL := Lib.hid (show ul.length = um from by have := hr.len; simpa using this)
  have HT0 := Lib.hid (show ∀ b, uM = some b → 0 < um → T1 b.block = 0 from fun b hb h0 => (HT1 _ (hT0 b hb h0).2).trans (hT0 b hb h0).1)
  clear h hT0 HT1 hT1 hz1 hb1 hX hW1 hs1 hF hM hr hm
  have g0 : (uk == 0) = false := by simp; omega
  have g1 : (uk == 1) = false := by simp; omega
  have g2 : (uk == 2) = false := by simp; omega
  have g3 : (uk == 3) = true := by simp; omega
  have HE := Lib.hid (show W.turn (⟨uk, uwh, true, uM, um, ud, ul⟩ : Tu) = W.hand uk (pick uwh (W.air.length : Int)).toNat from by unfold Wd.turn; dsimp only; rw [if_neg (by omega), if_neg (by omega), if_neg (by omega), if_pos (by omega)])
  clear hk
  go_enter Try.func25, Try.ntmps25
  go_wp2_with fail
  rw [show (w.alloc (.cells #[.int .i64 uk, .int .i64 uwh, .bool true, .slice uM um ud] 50)) = W1 from HW1.out.symm]
  obtain ⟨X, hX⟩ : ∃ X, X = w.heap.size := ⟨_, rfl⟩
  rw [← hX] at HS1 ⊢
  clear hX rI HW1
  refine (hand_any HS1.out.wd (by have := HMM.out; omega) HF.out (⟨uk, uwh, true, uM, um, ud, ul⟩ : Tu)).mono ?_
  intro e V hq
  have HFIN := Lib.hid (HE.out ▸ ts_hand HS1.out hq)
  obtain ⟨rfl, _⟩ := hq
  clear HS1
  go_wp2
  exact bodyPost_end (results_none rfl _ _ _) rfl HFIN.out
set_option maxRecDepth 100000 in
set_option maxHeartbeats 8000000 in
theorem turn1k4 {w : World} {B : Nat} {T : Nat → Nat} {M : Nat} {x : Ws} {W : Wd} (h : WdI w B T M x W) (hM : M ≤ 400000) (hF : Fit W) (u : Tu) (hu : u.o = true) (hr : Rd w u.M u.m u.d 1 (u8s u.l)) (hm : u.m ≤ 400) (hT0 : ∀ b, u.M = some b → 0 < u.m → T b.block = 0 ∧ b.block < w.heap.size) (hk : u.k = 4) :
    Calls Try.prog 25 #[.pointer (some ⟨B, 0, none⟩), .agg #[.int .i64 u.k, .int .i64 u.wh, .bool u.o, .slice u.M u.m u.d]] w (StepQ w B T (M + 8) x.P (W.turn u)) := by
  obtain ⟨uk, uwh, uo, uM, um, ud, ul⟩ := u
  simp only at hu hr hm hT0 hk
  subst hu
  have HT1 := agr_ext T w.heap.size (fun _ => 0)
  obtain ⟨T1, hT1⟩ : ∃ T1, T1 = ext T w.heap.size (fun _ => 0) := ⟨_, rfl⟩
  have hz1 : ∀ k, w.heap.size ≤ k → T1 k = 0 := fun k hk => by rw [hT1]; exact ext_new _ _ _ hk
  rw [← hT1] at HT1
  have hb1 : Below w.heap.size w (w.alloc (.cells (Tu.cells (⟨uk, uwh, true, uM, um, ud, ul⟩ : Tu)).toArray 50)) := (Below.refl _ w).alloc (Nat.le_refl _) _
  have hX := blk_new w 50 (Tu.cells (⟨uk, uwh, true, uM, um, ud, ul⟩ : Tu)).toArray
  obtain ⟨W1, hW1⟩ : ∃ W1, W1 = w.alloc (.cells (Tu.cells (⟨uk, uwh, true, uM, um, ud, ul⟩ : Tu)).toArray 50) := ⟨_, rfl⟩
  rw [← hW1] at hb1 hX
  have HR1 := Lib.hid (hr.below hb1)
  have hs1 : TS w W1 B T T1 M x.P x W w.heap.size (Tu.cells (⟨uk, uwh, true, uM, um, ud, ul⟩ : Tu)).toArray := ⟨h.below hb1 HT1, rfl, Ch.of_below hb1 _, HT1, hX, hz1 _ (Nat.le_refl _)⟩
  have rI : (w.alloc (.cells #[.int .i64 uk, .int .i64 uwh, .bool true, .slice uM um ud] 50)).cell? ⟨B, 1, none⟩ = some (.pointer (some ⟨x.P true, 0, none⟩)) := by rw [show (w.alloc (.cells #[.int .i64 uk, .int .i64 uwh, .bool true, .slice uM um ud] 50)) = W1 from hW1.symm]; exact (wdi_cell hs1.wd).1 true
  have HS1 := Lib.hid hs1; have HW1 := Lib.hid hW1; have HZ1 := Lib.hid hz1; have HF := Lib.hid hF; have HMM := Lib.hid hM; have HM4 := Lib.hid hm
  have HL := Lib.hid (show ul.length = um from by have := hr.len; simpa using this)
  have HT0 := Lib.hid (show ∀ b, uM = some b → 0 < um → T1 b.block = 0 from fun b hb h0 => (HT1 _ (hT0 b hb h0).2).trans (hT0 b hb h0).1)
  clear h hT0 HT1 hT1 hz1 hb1 hX hW1 hs1 hF hM hr hm
  have g0 : (uk == 0) = false := by simp; omega
  have g1 : (uk == 1) = false := by simp; omega
  have g2 : (uk == 2) = false := by simp; omega
  have g3 : (uk == 3) = false := by simp; omega
  have g4 : (uk == 4) = true := by simp; omega
  have HE := Lib.hid (show W.turn (⟨uk, uwh, true, uM, um, ud, ul⟩ : Tu) = W.hand uk (pick uwh (W.air.length : Int)).toNat from by unfold Wd.turn; dsimp only; rw [if_neg (by omega), if_neg (by omega), if_neg (by omega), if_pos (by omega)])
  clear hk
  go_enter Try.func25, Try.ntmps25
  go_wp2_with fail
  rw [show (w.alloc (.cells #[.int .i64 uk, .int .i64 uwh, .bool true, .slice uM um ud] 50)) = W1 from HW1.out.symm]
  obtain ⟨X, hX⟩ : ∃ X, X = w.heap.size := ⟨_, rfl⟩
  rw [← hX] at HS1 ⊢
  clear hX rI HW1
  refine (hand_any HS1.out.wd (by have := HMM.out; omega) HF.out (⟨uk, uwh, true, uM, um, ud, ul⟩ : Tu)).mono ?_
  intro e V hq
  have HFIN := Lib.hid (HE.out ▸ ts_hand HS1.out hq)
  obtain ⟨rfl, _⟩ := hq
  clear HS1
  go_wp2
  exact bodyPost_end (results_none rfl _ _ _) rfl HFIN.out
set_option maxRecDepth 100000 in
set_option maxHeartbeats 8000000 in
theorem turn1k5 {w : World} {B : Nat} {T : Nat → Nat} {M : Nat} {x : Ws} {W : Wd} (h : WdI w B T M x W) (hM : M ≤ 400000) (hF : Fit W) (u : Tu) (hu : u.o = true) (hr : Rd w u.M u.m u.d 1 (u8s u.l)) (hm : u.m ≤ 400) (hT0 : ∀ b, u.M = some b → 0 < u.m → T b.block = 0 ∧ b.block < w.heap.size) (hk : u.k = 5) :
    Calls Try.prog 25 #[.pointer (some ⟨B, 0, none⟩), .agg #[.int .i64 u.k, .int .i64 u.wh, .bool u.o, .slice u.M u.m u.d]] w (StepQ w B T (M + 8) x.P (W.turn u)) := by
  obtain ⟨uk, uwh, uo, uM, um, ud, ul⟩ := u
  simp only at hu hr hm hT0 hk
  subst hu
  have HT1 := agr_ext T w.heap.size (fun _ => 0)
  obtain ⟨T1, hT1⟩ : ∃ T1, T1 = ext T w.heap.size (fun _ => 0) := ⟨_, rfl⟩
  have hz1 : ∀ k, w.heap.size ≤ k → T1 k = 0 := fun k hk => by rw [hT1]; exact ext_new _ _ _ hk
  rw [← hT1] at HT1
  have hb1 : Below w.heap.size w (w.alloc (.cells (Tu.cells (⟨uk, uwh, true, uM, um, ud, ul⟩ : Tu)).toArray 50)) := (Below.refl _ w).alloc (Nat.le_refl _) _
  have hX := blk_new w 50 (Tu.cells (⟨uk, uwh, true, uM, um, ud, ul⟩ : Tu)).toArray
  obtain ⟨W1, hW1⟩ : ∃ W1, W1 = w.alloc (.cells (Tu.cells (⟨uk, uwh, true, uM, um, ud, ul⟩ : Tu)).toArray 50) := ⟨_, rfl⟩
  rw [← hW1] at hb1 hX
  have HR1 := Lib.hid (hr.below hb1)
  have hs1 : TS w W1 B T T1 M x.P x W w.heap.size (Tu.cells (⟨uk, uwh, true, uM, um, ud, ul⟩ : Tu)).toArray := ⟨h.below hb1 HT1, rfl, Ch.of_below hb1 _, HT1, hX, hz1 _ (Nat.le_refl _)⟩
  have rI : (w.alloc (.cells #[.int .i64 uk, .int .i64 uwh, .bool true, .slice uM um ud] 50)).cell? ⟨B, 1, none⟩ = some (.pointer (some ⟨x.P true, 0, none⟩)) := by rw [show (w.alloc (.cells #[.int .i64 uk, .int .i64 uwh, .bool true, .slice uM um ud] 50)) = W1 from hW1.symm]; exact (wdi_cell hs1.wd).1 true
  have HS1 := Lib.hid hs1; have HW1 := Lib.hid hW1; have HZ1 := Lib.hid hz1; have HF := Lib.hid hF; have HMM := Lib.hid hM; have HM4 := Lib.hid hm
  have HL := Lib.hid (show ul.length = um from by have := hr.len; simpa using this)
  have HT0 := Lib.hid (show ∀ b, uM = some b → 0 < um → T1 b.block = 0 from fun b hb h0 => (HT1 _ (hT0 b hb h0).2).trans (hT0 b hb h0).1)
  clear h hT0 HT1 hT1 hz1 hb1 hX hW1 hs1 hF hM hr hm
  have g0 : (uk == 0) = false := by simp; omega
  have g1 : (uk == 1) = false := by simp; omega
  have g2 : (uk == 2) = false := by simp; omega
  have g3 : (uk == 3) = false := by simp; omega
  have g4 : (uk == 4) = false := by simp; omega
  have g5 : (uk == 5) = true := by simp; omega
  have HE := Lib.hid (show W.turn (⟨uk, uwh, true, uM, um, ud, ul⟩ : Tu) = W.hand uk (pick uwh (W.air.length : Int)).toNat from by unfold Wd.turn; dsimp only; rw [if_neg (by omega), if_neg (by omega), if_neg (by omega), if_pos (by omega)])
  clear hk
  go_enter Try.func25, Try.ntmps25
  go_wp2_with fail
  rw [show (w.alloc (.cells #[.int .i64 uk, .int .i64 uwh, .bool true, .slice uM um ud] 50)) = W1 from HW1.out.symm]
  obtain ⟨X, hX⟩ : ∃ X, X = w.heap.size := ⟨_, rfl⟩
  rw [← hX] at HS1 ⊢
  clear hX rI HW1
  refine (hand_any HS1.out.wd (by have := HMM.out; omega) HF.out (⟨uk, uwh, true, uM, um, ud, ul⟩ : Tu)).mono ?_
  intro e V hq
  have HFIN := Lib.hid (HE.out ▸ ts_hand HS1.out hq)
  obtain ⟨rfl, _⟩ := hq
  clear HS1
  go_wp2
  exact bodyPost_end (results_none rfl _ _ _) rfl HFIN.out
set_option maxRecDepth 100000 in
set_option maxHeartbeats 8000000 in
theorem turn1k9 {w : World} {B : Nat} {T : Nat → Nat} {M : Nat} {x : Ws} {W : Wd} (h : WdI w B T M x W) (hM : M ≤ 400000) (hF : Fit W) (u : Tu) (hu : u.o = true) (hr : Rd w u.M u.m u.d 1 (u8s u.l)) (hm : u.m ≤ 400) (hT0 : ∀ b, u.M = some b → 0 < u.m → T b.block = 0 ∧ b.block < w.heap.size) (hk : u.k < 0 ∨ 5 < u.k) :
    Calls Try.prog 25 #[.pointer (some ⟨B, 0, none⟩), .agg #[.int .i64 u.k, .int .i64 u.wh, .bool u.o, .slice u.M u.m u.d]] w (StepQ w B T (M + 8) x.P (W.turn u)) := by
  obtain ⟨uk, uwh, uo, uM, um, ud, ul⟩ := u
  simp only at hu hr hm hT0 hk
  subst hu
  have HT1 := agr_ext T w.heap.size (fun _ => 0)
  obtain ⟨T1, hT1⟩ : ∃ T1, T1 = ext T w.heap.size (fun _ => 0) := ⟨_, rfl⟩
  have hz1 : ∀ k, w.heap.size ≤ k → T1 k = 0 := fun k hk => by rw [hT1]; exact ext_new _ _ _ hk
  rw [← hT1] at HT1
  have hb1 : Below w.heap.size w (w.alloc (.cells (Tu.cells (⟨uk, uwh, true, uM, um, ud, ul⟩ : Tu)).toArray 50)) := (Below.refl _ w).alloc (Nat.le_refl _) _
  have hX := blk_new w 50 (Tu.cells (⟨uk, uwh, true, uM, um, ud, ul⟩ : Tu)).toArray
  obtain ⟨W1, hW1⟩ : ∃ W1, W1 = w.alloc (.cells (Tu.cells (⟨uk, uwh, true, uM, um, ud, ul⟩ : Tu)).toArray 50) := ⟨_, rfl⟩
  rw [← hW1] at hb1 hX
  have HR1 := Lib.hid (hr.below hb1)
  have hs1 : TS w W1 B T T1 M x.P x W w.heap.size (Tu.cells (⟨uk, uwh, true, uM, um, ud, ul⟩ : Tu)).toArray := ⟨h.below hb1 HT1, rfl, Ch.of_below hb1 _, HT1, hX, hz1 _ (Nat.le_refl _)⟩
  have rI : (w.alloc (.cells #[.int .i64 uk, .int .i64 uwh, .bool true, .slice uM um ud] 50)).cell? ⟨B, 1, none⟩ = some (.pointer (some ⟨x.P true, 0, none⟩)) := by rw [show (w.alloc (.cells #[.int .i64 uk, .int .i64 uwh, .bool true, .slice uM um ud] 50)) = W1 from hW1.symm]; exact (wdi_cell hs1.wd).1 true
  have HS1 := Lib.hid hs1; have HW1 := Lib.hid hW1; have HZ1 := Lib.hid hz1; have HF := Lib.hid hF; have HMM := Lib.hid hM; have HM4 := Lib.hid hm
  have HL := Lib.hid (show ul.length = um from by have := hr.len; simpa using this)
  have HT0 := Lib.hid (show ∀ b, uM = some b → 0 < um → T1 b.block = 0 from fun b hb h0 => (HT1 _ (hT0 b hb h0).2).trans (hT0 b hb h0).1)
  clear h hT0 HT1 hT1 hz1 hb1 hX hW1 hs1 hF hM hr hm
  have g0 : (uk == 0) = false := by simp; omega
  have g1 : (uk == 1) = false := by simp; omega
  have g2 : (uk == 2) = false := by simp; omega
  have g3 : (uk == 3) = false := by simp; omega
  have g4 : (uk == 4) = false := by simp; omega
  have g5 : (uk == 5) = false := by simp; omega
  have HE := Lib.hid (show W.turn (⟨uk, uwh, true, uM, um, ud, ul⟩ : Tu) = W from by unfold Wd.turn; dsimp only; rw [if_neg (by omega), if_neg (by omega), if_neg (by omega), if_neg (by omega)])
  have HFIN := Lib.hid (ts_step HS1.out HE.out (show M ≤ M + 8 by omega))
  clear hk
  go_enter Try.func25, Try.ntmps25
  go_wp2
  rw [show (w.alloc (.cells #[.int .i64 uk, .int .i64 uwh, .bool true, .slice uM um ud] 50)) = W1 from HW1.out.symm]
  exact bodyPost_end (results_none rfl _ _ _) rfl HFIN.out
set_option maxRecDepth 100000 in
set_option maxHeartbeats 8000000 in
theorem turn1k0 {w : World} {B : Nat} {T : Nat → Nat} {M : Nat} {x : Ws} {W : Wd} (h : WdI w B T M x W) (hM : M ≤ 400000) (hF : Fit W) (u : Tu) (hu : u.o = true) (hr : Rd w u.M u.m u.d 1 (u8s u.l)) (hm : u.m ≤ 400) (hT0 : ∀ b, u.M = some b → 0 < u.m → T b.block = 0 ∧ b.block < w.heap.size) (hk : u.k = 0) :
    Calls Try.prog 25 #[.pointer (some ⟨B, 0, none⟩), .agg #[.int .i64 u.k, .int .i64 u.wh, .bool u.o, .slice u.M u.m u.d]] w (StepQ w B T (M + 8) x.P (W.turn u)) := by
  obtain ⟨uk, uwh, uo, uM, um, ud, ul⟩ := u
  simp only at hu hr hm hT0 hk
  subst hu
  have HT1 := agr_ext T w.heap.size (fun _ => 0)
  obtain ⟨T1, hT1⟩ : ∃ T1, T1 = ext T w.heap.size (fun _ => 0) := ⟨_, rfl⟩
  have hz1 : ∀ k, w.heap.size ≤ k → T1 k = 0 := fun k hk => by rw [hT1]; exact ext_new _ _ _ hk
  rw [← hT1] at HT1
  have hb1 : Below w.heap.size w (w.alloc (.cells (Tu.cells (⟨uk, uwh, true, uM, um, ud, ul⟩ : Tu)).toArray 50)) := (Below.refl _ w).alloc (Nat.le_refl _) _
  have hX := blk_new w 50 (Tu.cells (⟨uk, uwh, true, uM, um, ud, ul⟩ : Tu)).toArray
  obtain ⟨W1, hW1⟩ : ∃ W1, W1 = w.alloc (.cells (Tu.cells (⟨uk, uwh, true, uM, um, ud, ul⟩ : Tu)).toArray 50) := ⟨_, rfl⟩
  rw [← hW1] at hb1 hX
  have HR1 := Lib.hid (hr.below hb1)
  have hs1 : TS w W1 B T T1 M x.P x W w.heap.size (Tu.cells (⟨uk, uwh, true, uM, um, ud, ul⟩ : Tu)).toArray := ⟨h.below hb1 HT1, rfl, Ch.of_below hb1 _, HT1, hX, hz1 _ (Nat.le_refl _)⟩
  have rI : (w.alloc (.cells #[.int .i64 uk, .int .i64 uwh, .bool true, .slice uM um ud] 50)).cell? ⟨B, 1, none⟩ = some (.pointer (some ⟨x.P true, 0, none⟩)) := by rw [show (w.alloc (.cells #[.int .i64 uk, .int .i64 uwh, .bool true, .slice uM um ud] 50)) = W1 from hW1.symm]; exact (wdi_cell hs1.wd).1 true
  have HS1 := Lib.hid hs1; have HW1 := Lib.hid hW1; have HZ1 := Lib.hid hz1; have HF := Lib.hid hF; have HMM := Lib.hid hM; have HM4 := Lib.hid hm
  have HL := Lib.hid (show ul.length = um from by have := hr.len; simpa using this)
  have HT0 := Lib.hid (show ∀ b, uM = some b → 0 < um → T1 b.block = 0 from fun b hb h0 => (HT1 _ (hT0 b hb h0).2).trans (hT0 b hb h0).1)
  clear h hT0 HT1 hT1 hz1 hb1 hX hW1 hs1 hF hM hr hm
  have g0 : (uk == 0) = true := by simp; omega
  have HE := Lib.hid (show W.turn (⟨uk, uwh, true, uM, um, ud, ul⟩ : Tu) = W.send true ul from by unfold Wd.turn; dsimp only; rw [if_pos hk])
  clear hk
  go_enter Try.func25, Try.ntmps25
  go_wp2_with fail
  rw [show (w.alloc (.cells #[.int .i64 uk, .int .i64 uwh, .bool true, .slice uM um ud] 50)) = W1 from HW1.out.symm]
  obtain ⟨X, hX⟩ : ∃ X, X = w.heap.size := ⟨_, rfl⟩
  rw [← hX] at HS1 ⊢
  clear hX rI HW1
  have s0 : W1.cell? ⟨B, 1, none⟩ = some (.pointer (some ⟨x.P true, 0, none⟩)) := (wdi_cell HS1.out.wd).1 true
  have b3 : W1.cell? ⟨X, 3, none⟩ = some (.slice uM um ud) := blk_cell HS1.out.bx 3 _ rfl
  have HSE := Lib.hid ((HS1.out.wd.ends true).keep (Ch.drew W1 No) (fun _ _ => id) (agr_refl _ _))
  have HTB := Lib.hid (show T1 B ≠ tg true from by rw [HS1.out.wd.tag]; decide)
  have HTX := Lib.hid (show T1 X ≠ tg true from by rw [HS1.out.bxt]; decide)
  go_region_held3 (fun V => V.cell? ⟨B, 1, none⟩ = some (.pointer (some ⟨x.P true, 0, none⟩)) ∧ V.cell? ⟨X, 3, none⟩ = some (.slice uM um ud))
    (first | exact ⟨s0, b3⟩ | exact S1.out)
    (first
      | (go_at_call 15; refine (sendA HSE.out (HF.out.ep true) (by have := HMM.out; omega) uM um ud ul (HR1.out.ch (Ch.drew W1 No) (fun _ _ => id))).mono ?_; rintro e V ⟨rfl, T2, hT2, hs2, hc2⟩; have S1 := Lib.hid (And.intro (ch_cell hc2 s0 HTB.out) (ch_cell hc2 b3 HTX.out))))
  have hcV : Ch (Own T1 (tg true)) W1 V := (Ch.drew W1 (Own T1 (tg true))).trans hc2 (fun i hi => .inl hi)
  have HS2 := Lib.hid (ts_end HS1.out true hs2 (Nat.le_refl _) hcV hT2)
  have HSR := Lib.hid S1.out
  obtain ⟨sr, hsr⟩ : ∃ z, z = ((W.e true).send ul).1 := ⟨_, rfl⟩
  have HR2 := Lib.hid (rd_ch0 HR1.out hcV (fun b hb h0 e => by have e' : T1 b.block = tg true := e; rw [HT0.out b hb h0] at e'; cases e'))
  rw [← hsr]
  clear hc2 hT2 hs2 hcV S1 s0 b3 HSE HTB HTX HR1
  by_cases hz : sr = 0
  · have HE2 := Lib.hid (HE.out.trans (show W.send true ul = { e := bset W.e true ((W.e true).send ul).2, air := W.air, sent := bset W.sent true (W.sent true ++ [ul]), took := W.took } from by unfold Wd.send; rw [if_pos (by rw [← hsr]; exact hz)]))
    have gz : (sr == 0) = true := by simpa using hz
    clear hz hsr HE HS1
    go_wp2_with fail
    obtain ⟨As, cs, hvs, hrs, _⟩ := own_form (HS2.out.wd.sent true).own
    obtain ⟨ns, hns⟩ : ∃ q, q = (x.ls true).length := ⟨_, rfl⟩
    rw [← hns] at hvs hrs
    have hn5 : ns ≤ 100000 := by
      have h9 := congrArg List.length (HS2.out.wd.sentl true)
      rw [List.length_map, ← hns] at h9
      have h8 := HF.out.sent true
      have h7 : ns = (W.sent true).length := h9
      omega
    have t0 : V.cell? ⟨B, 4, none⟩ = some (.slice As ns cs) := by rw [← hvs]; exact (wdi_cell HS2.out.wd).2.2.1 true
    have b3 : V.cell? ⟨X, 3, none⟩ = some (.slice uM um ud) := blk_cell HS2.out.bx 3 _ rfl
    have HOS := Lib.hid (show V.ownsRow 0 27 1 (.slice As ns cs) ns ((x.ls true).map slc) from by rw [← hvs, hns]; exact (HS2.out.wd.sent true).own)
    have HVS := Lib.hid hvs; have HNS := Lib.hid hns; have HN5 := Lib.hid hn5
    have HBN := Lib.hid (show ∀ q, (Value.slice As ns cs).ownBlock = some q → q ≠ B ∧ q ≠ X from fun q hq => by
      rw [← hvs] at hq
      have h9 := (HS2.out.wd.sent true).row q hq
      refine ⟨fun e => ?_, fun e => ?_⟩
      · rw [e, HS2.out.wd.tag] at h9; cases h9
      · rw [e, HS2.out.bxt] at h9; cases h9)
    clear hvs hns hn5 hrs
    refine wp_region_held_drew (S := (fun V => V.cell? ⟨X, 3, none⟩ = some (.slice uM um ud))) (by kernel_rfl) (show V.drew.cell? _ = _ from b3) (fun hHeld => ?_)
    refine wpAnyH_take (i := 0) (oi := { dst := some 23, op := Go.Op.move (Go.Operand.tmp 0), type := 41, pos := "outright.go:123", after := #[], guard := none }) (v := .pointer (some ⟨B, 0, none⟩)) rfl (by kernel_rfl) (by kernel_rfl) (by kernel_rfl) (fun _ _ _ h => h) (Or.inl ⟨by rfl, ?_⟩) (by assumption) ?_
    · intro W hSw
      go_simp
      try with_reducible rfl
    simp only [Act.put, List.setIfInBounds_toArray, List.set_cons_zero, List.set_cons_succ]
    refine wpAnyH_take (i := 1) (oi := { dst := some 24, op := Go.Op.move (Go.Operand.tmp 4), type := 3, pos := "outright.go:123", after := #[], guard := none }) (v := .int .i64 1) rfl (by kernel_rfl) (by kernel_rfl) (by kernel_rfl) (fun _ _ _ h => h) (Or.inl ⟨by rfl, ?_⟩) (by assumption) ?_
    · intro W hSw
      go_simp
      try with_reducible rfl
    simp only [Act.put, List.setIfInBounds_toArray, List.set_cons_zero, List.set_cons_succ]
    refine wpAnyH_take (i := 2) (oi := { dst := some 25, op := Go.Op.move (Go.Operand.tmp 0), type := 41, pos := "outright.go:123", after := #[], guard := none }) (v := .pointer (some ⟨B, 0, none⟩)) rfl (by kernel_rfl) (by kernel_rfl) (by kernel_rfl) (fun _ _ _ h => h) (Or.inl ⟨by rfl, ?_⟩) (by assumption) ?_
    · intro W hSw
      go_simp
      try with_reducible rfl
    simp only [Act.put, List.setIfInBounds_toArray, List.set_cons_zero, List.set_cons_succ]
    refine wpAnyH_take (i := 3) (oi := { dst := some 26, op := Go.Op.move (Go.Operand.tmp 4), type := 3, pos := "outright.go:123", after := #[], guard := none }) (v := .int .i64 1) rfl (by kernel_rfl) (by kernel_rfl) (by kernel_rfl) (fun _ _ _ h => h) (Or.inl ⟨by rfl, ?_⟩) (by assumption) ?_
    · intro W hSw
      go_simp
      try with_reducible rfl
    simp only [Act.put, List.setIfInBounds_toArray, List.set_cons_zero, List.set_cons_succ]
    refine wpAnyH_take (i := 4) (oi := { dst := some 27, op := Go.Op.nilCheck (Go.Operand.tmp 25), type := 0, pos := "outright.go:123", after := #[{ on := 2, ground := Go.Ground.data }], guard := none }) (v := .pointer (some ⟨B, 0, none⟩)) rfl (by kernel_rfl) (by kernel_rfl) (by kernel_rfl) (fun _ _ _ h => h) (Or.inl ⟨by rfl, ?_⟩) (by assumption) ?_
    · intro W hSw
      go_simp
      try with_reducible rfl
    simp only [Act.put, List.setIfInBounds_toArray, List.set_cons_zero, List.set_cons_succ]
    refine wpAnyH_take (i := 5) (oi := { dst := some 28, op := Go.Op.fieldAddr 47 (Go.Operand.tmp 27) 2, type := 0, pos := "outright.go:123", after := #[{ on := 4, ground := Go.Ground.data }], guard := none }) (v := .pointer (some ⟨B, 3, none⟩)) rfl (by kernel_rfl) (by kernel_rfl) (by kernel_rfl) (fun _ _ _ h => h) (Or.inl ⟨by rfl, ?_⟩) (by assumption) ?_
    · intro W hSw
      go_simp
      try with_reducible rfl
    simp only [Act.put, List.setIfInBounds_toArray, List.set_cons_zero, List.set_cons_succ]
    refine wpAnyH_take (i := 6) (oi := { dst := some 29, op := Go.Op.indexAddr 45 (Go.Operand.tmp 28) (Go.Operand.tmp 26), type := 0, pos := "outright.go:123", after := #[{ on := 5, ground := Go.Ground.data }, { on := 3, ground := Go.Ground.data }], guard := none }) (v := .pointer (some ⟨B, 4, none⟩)) rfl (by kernel_rfl) (by kernel_rfl) (by kernel_rfl) (fun _ _ _ h => h) (Or.inl ⟨by rfl, ?_⟩) (by assumption) ?_
    · intro W hSw
      go_simp
      try with_reducible rfl
    simp only [Act.put, List.setIfInBounds_toArray, List.set_cons_zero, List.set_cons_succ]
    refine wpAnyH_take (i := 8) (oi := { dst := some 31, op := Go.Op.fieldAddr 50 (Go.Operand.tmp 3) 3, type := 0, pos := "outright.go:123", after := #[], guard := none }) (v := .pointer (some ⟨X, 3, none⟩)) rfl (by kernel_rfl) (by kernel_rfl) (by kernel_rfl) (fun _ _ _ h => h) (Or.inl ⟨by rfl, ?_⟩) (by assumption) ?_
    · intro W hSw
      go_simp
      try with_reducible rfl
    simp only [Act.put, List.setIfInBounds_toArray, List.set_cons_zero, List.set_cons_succ]
    refine wpAnyH_take (i := 9) (oi := { dst := some 32, op := Go.Op.load 27 (Go.Operand.tmp 31), type := 27, pos := "outright.go:123", after := #[{ on := 8, ground := Go.Ground.data }], guard := none }) (v := .slice uM um ud) rfl (by kernel_rfl) (by kernel_rfl) (by kernel_rfl) (fun _ _ _ h => h) (Or.inl ⟨by rfl, ?_⟩) (by assumption) ?_
    · intro W hSw
      go_simp
      try with_reducible rfl
    simp only [Act.put, List.setIfInBounds_toArray, List.set_cons_zero, List.set_cons_succ]
    refine wpAnyH_take (i := 13) (oi := { dst := some 36, op := Go.Op.nilCheck (Go.Operand.tmp 23), type := 0, pos := "outright.go:123", after := #[{ on := 0, ground := Go.Ground.data }], guard := none }) (v := .pointer (some ⟨B, 0, none⟩)) rfl (by kernel_rfl) (by kernel_rfl) (by kernel_rfl) (fun _ _ _ h => h) (Or.inl ⟨by rfl, ?_⟩) (by assumption) ?_
    · intro W hSw
      go_simp
      try with_reducible rfl
    simp only [Act.put, List.setIfInBounds_toArray, List.set_cons_zero, List.set_cons_succ]
    refine wpAnyH_take (i := 14) (oi := { dst := some 37, op := Go.Op.fieldAddr 47 (Go.Operand.tmp 36) 2, type := 0, pos := "outright.go:123", after := #[{ on := 13, ground := Go.Ground.data }], guard := none }) (v := .pointer (some ⟨B, 3, none⟩)) rfl (by kernel_rfl) (by kernel_rfl) (by kernel_rfl) (fun _ _ _ h => h) (Or.inl ⟨by rfl, ?_⟩) (by assumption) ?_
    · intro W hSw
      go_simp
      try with_reducible rfl
    simp only [Act.put, List.setIfInBounds_toArray, List.set_cons_zero, List.set_cons_succ]
    refine wpAnyH_ready (rs := [7, 10]) (by kernel_rfl) (by simp) ?_
    refine AllReadyH.cons (o := { dst := some 30, op := Go.Op.load 44 (Go.Operand.tmp 29), type := 44, pos := "outright.go:123", after := #[{ on := 6, ground := Go.Ground.data }], guard := none }) rfl (fun K hK => ?_) (AllReadyH.cons (o := { dst := some 33, op := Go.Op.call { callee := Go.Callee.value (Go.Operand.func 71), args := #[Go.Operand.tmp 32], argTypes := #[27] }, type := 27, pos := "outright.go:123", after := #[{ on := 9, ground := Go.Ground.data }], guard := none }) rfl (fun K hK => ?_) (AllReadyH.nil))
    · go_simp
      refine hK.out _ _ ((show V.drew.cell? _ = _ from b3)) (fun hHeld => ?_)
      clear hK K
      try simp only [Act.put, List.setIfInBounds_toArray, List.set_cons_zero, List.set_cons_succ]
      refine wpAnyH_ready (rs := [10]) (by kernel_rfl) (by simp) ?_
      refine AllReadyH.cons (o := { dst := some 33, op := Go.Op.call { callee := Go.Callee.value (Go.Operand.func 71), args := #[Go.Operand.tmp 32], argTypes := #[27] }, type := 27, pos := "outright.go:123", after := #[{ on := 9, ground := Go.Ground.data }], guard := none }) rfl (fun K hK => ?_) (AllReadyH.nil)
      go_simp
      refine (copyb_any uM um ud ul _ (HR2.out.ch (Ch.drew V No) (fun _ _ => id)) (by have := HM4.out; omega)).mono ?_
      rintro e Va ⟨ga, ca, rfl, hga, hby, hbe⟩
      have b4 := below_cell hbe (show V.drew.cell? _ = _ from b3)
      have t4 := below_cell hbe (show V.drew.cell? _ = _ from t0)
      have b5 : (Va.alloc (.cells #[.slice (some ⟨ga, 0, none⟩) um ca] 27)).cell? ⟨X, 3, none⟩ = some (.slice uM um ud) := below_cell ((Below.refl Va.heap.size Va).alloc (Nat.le_refl _) _) b4
      have t5 : (Va.alloc (.cells #[.slice (some ⟨ga, 0, none⟩) um ca] 27)).cell? ⟨B, 4, none⟩ = some (.slice As ns cs) := below_cell ((Below.refl Va.heap.size Va).alloc (Nat.le_refl _) _) t4
      have HBE := Lib.hid (show Below V.heap.size V Va from ((Ch.drew V No).below (Nat.le_refl _) (fun _ h => h.elim)).trans hbe)
      have HBY := Lib.hid hby; have HGA := Lib.hid (show V.heap.size ≤ ga from hga)
      clear hbe hby hga
      refine hK.out _ _ (b4) (fun hHeld => ?_)
      clear hK K
      try simp only [Act.put, List.setIfInBounds_toArray, List.set_cons_zero, List.set_cons_succ]
      refine wpAnyH_ready (rs := [11]) (by kernel_rfl) (by simp) ?_
      refine AllReadyH.cons (o := { dst := some 34, op := Go.Op.buildSlice 44 1 #[(0, Go.Operand.tmp 33)], type := 44, pos := "outright.go:123", after := #[{ on := 10, ground := Go.Ground.data }], guard := none }) rfl (fun K hK => ?_) (AllReadyH.nil)
      go_simp
      refine hK.out _ _ (b5) (fun hHeld => ?_)
      clear hK K
      try simp only [Act.put, List.setIfInBounds_toArray, List.set_cons_zero, List.set_cons_succ]
      refine wpAnyH_ready (rs := [12]) (by kernel_rfl) (by simp) ?_
      refine AllReadyH.cons (o := { dst := some 35, op := Go.Op.call { callee := Go.Callee.builtin Go.Builtin.append, args := #[Go.Operand.tmp 30, Go.Operand.tmp 34], argTypes := #[44, 44] }, type := 44, pos := "outright.go:123", after := #[{ on := 7, ground := Go.Ground.data }, { on := 11, ground := Go.Ground.data }, { on := 10, ground := Go.Ground.chain }], guard := none }) rfl (fun K hK => ?_) (AllReadyH.nil)
      refine step_add2 Va rfl (.tmp 30) (.tmp 34) 44 rfl 0 27 _ 1 24 Try.underlying44 info27 rfl (by decide) (.slice As ns cs) ns ((x.ls true).map slc) (by rfl) (own_ch HOS.out (Ch.of_below HBE.out No) (fun _ _ => id)) #[.slice (some ⟨ga, 0, none⟩) um ca] 27 (by rfl) rfl (by simp [Value.oneCell']) (by have := HN5.out; simp [maxLen]; omega) (by have := HN5.out; omega) (Nat.zero_le _) ?_
      intro v2 Vd hown2 hnn2 hch2 hat2
      obtain ⟨A2, c2, rfl, -, -⟩ := own_form hown2
      have hBd := blk_ch (blk_below HS2.out.wd.mem HBE.out) hch2 (fun e => (HBN.out _ e).1 rfl)
      have hXd := blk_ch (blk_below HS2.out.bx HBE.out) hch2 (fun e => (HBN.out _ e).2 rfl)
      have b6 : Vd.cell? ⟨X, 3, none⟩ = some (.slice uM um ud) := blk_cell hXd 3 _ rfl
      have t6 : Vd.cell? ⟨B, 4, none⟩ = some (.slice As ns cs) := by rw [← HVS.out]; exact blk_cell hBd 4 _ rfl
      have z6 := blk_thawed hBd 4
      have S3 := Lib.hid (show (Vd.setCell ⟨B, 4, none⟩ (.slice A2 (ns + 1) c2)).cell? ⟨X, 3, none⟩ = some (.slice uM um ud) from (cell_far Vd ⟨B, 4, none⟩ ⟨X, 3, none⟩ _ (fun e => by have e' : X = B := e; have h9 := HS2.out.bxt; rw [e', HS2.out.wd.tag] at h9; cases h9)).trans b6)
      have HO2 := Lib.hid hown2; have HC2 := Lib.hid hch2; have HA2 := Lib.hid (show (Value.slice A2 (ns + 1) c2).ownBlock = (Value.slice As ns cs).ownBlock ∨ ∃ q, (Value.slice A2 (ns + 1) c2).ownBlock = some q ∧ Va.heap.size ≤ q from hat2.imp id (fun e => ⟨Va.heap.size + 1, e, Nat.le_succ _⟩))
      clear hown2 hch2 hat2 hnn2 hBd hXd
      refine hK.out _ _ (b6) (fun hHeld => ?_)
      clear hK K
      try simp only [Act.put, List.setIfInBounds_toArray, List.set_cons_zero, List.set_cons_succ]
      refine wpAnyH_take (i := 15) (oi := { dst := some 38, op := Go.Op.indexAddr 45 (Go.Operand.tmp 37) (Go.Operand.tmp 24), type := 0, pos := "outright.go:123", after := #[{ on := 14, ground := Go.Ground.data }, { on := 1, ground := Go.Ground.data }, { on := 0, ground := Go.Ground.phase }, { on := 1, ground := Go.Ground.phase }, { on := 2, ground := Go.Ground.phase }, { on := 3, ground := Go.Ground.phase }, { on := 4, ground := Go.Ground.phase }, { on := 5, ground := Go.Ground.phase }, { on := 6, ground := Go.Ground.phase }, { on := 7, ground := Go.Ground.phase }, { on := 8, ground := Go.Ground.phase }, { on := 9, ground := Go.Ground.phase }, { on := 10, ground := Go.Ground.phase }, { on := 11, ground := Go.Ground.phase }, { on := 12, ground := Go.Ground.phase }], guard := none }) (v := .pointer (some ⟨B, 4, none⟩)) rfl (by kernel_rfl) (by kernel_rfl) (by kernel_rfl) (fun _ _ _ h => h) (Or.inl ⟨by rfl, ?_⟩) (by assumption) ?_
      · intro W hSw
        go_simp
        try with_reducible rfl
      simp only [Act.put, List.setIfInBounds_toArray, List.set_cons_zero, List.set_cons_succ]
      refine wpAnyH_ready (rs := [16]) (by kernel_rfl) (by simp) ?_
      refine AllReadyH.cons (o := { dst := none, op := Go.Op.store 44 (Go.Operand.tmp 38) (Go.Operand.tmp 35), type := 0, pos := "outright.go:123", after := #[{ on := 15, ground := Go.Ground.data }, { on := 12, ground := Go.Ground.data }, { on := 12, ground := Go.Ground.chain }, { on := 0, ground := Go.Ground.phase }, { on := 1, ground := Go.Ground.phase }, { on := 2, ground := Go.Ground.phase }, { on := 3, ground := Go.Ground.phase }, { on := 4, ground := Go.Ground.phase }, { on := 5, ground := Go.Ground.phase }, { on := 6, ground := Go.Ground.phase }, { on := 7, ground := Go.Ground.phase }, { on := 8, ground := Go.Ground.phase }, { on := 9, ground := Go.Ground.phase }, { on := 10, ground := Go.Ground.phase }, { on := 11, ground := Go.Ground.phase }, { on := 12, ground := Go.Ground.phase }], guard := none }) rfl (fun K hK => ?_) (AllReadyH.nil)
      go_simp
      refine hK.out _ _ (S3.out) (fun hHeld => ?_)
      clear hK K
      try simp only [Act.put, List.setIfInBounds_toArray, List.set_cons_zero, List.set_cons_succ]
      refine wpAnyH_done (by kernel_rfl) ?_ _
      clear hHeld
      obtain ⟨T9, x9, h9⟩ := ts_sent HS2.out true HBE.out HGA.out (show Held Va 0 (some ⟨ga, 0, none⟩) um ca ul from .inr ⟨ga, rfl, HBY.out, HL.out, Nat.zero_le _⟩) HNS.out HO2.out (by rw [HVS.out]; exact HC2.out) (by rw [HVS.out]; exact HA2.out)
      have HFIN := Lib.hid (ts_step h9 HE2.out (show M ≤ M + 8 by omega))
      clear h9 S3 HO2 HC2 HA2 b6 t6 z6
      go_wp2
      exact bodyPost_end (results_none rfl _ _ _) rfl HFIN.out
    · go_simp
      refine (copyb_any uM um ud ul _ (HR2.out.ch (Ch.drew V No) (fun _ _ => id)) (by have := HM4.out; omega)).mono ?_
      rintro e Va ⟨ga, ca, rfl, hga, hby, hbe⟩
      have b4 := below_cell hbe (show V.drew.cell? _ = _ from b3)
      have t4 := below_cell hbe (show V.drew.cell? _ = _ from t0)
      have b5 : (Va.alloc (.cells #[.slice (some ⟨ga, 0, none⟩) um ca] 27)).cell? ⟨X, 3, none⟩ = some (.slice uM um ud) := below_cell ((Below.refl Va.heap.size Va).alloc (Nat.le_refl _) _) b4
      have t5 : (Va.alloc (.cells #[.slice (some ⟨ga, 0, none⟩) um ca] 27)).cell? ⟨B, 4, none⟩ = some (.slice As ns cs) := below_cell ((Below.refl Va.heap.size Va).alloc (Nat.le_refl _) _) t4
      have HBE := Lib.hid (show Below V.heap.size V Va from ((Ch.drew V No).below (Nat.le_refl _) (fun _ h => h.elim)).trans hbe)
      have HBY := Lib.hid hby; have HGA := Lib.hid (show V.heap.size ≤ ga from hga)
      clear hbe hby hga
      refine hK.out _ _ (b4) (fun hHeld => ?_)
      clear hK K
      try simp only [Act.put, List.setIfInBounds_toArray, List.set_cons_zero, List.set_cons_succ]
      refine wpAnyH_ready (rs := [7, 11]) (by kernel_rfl) (by simp) ?_
      refine AllReadyH.cons (o := { dst := some 30, op := Go.Op.load 44 (Go.Operand.tmp 29), type := 44, pos := "outright.go:123", after := #[{ on := 6, ground := Go.Ground.data }], guard := none }) rfl (fun K hK => ?_) (AllReadyH.cons (o := { dst := some 34, op := Go.Op.buildSlice 44 1 #[(0, Go.Operand.tmp 33)], type := 44, pos := "outright.go:123", after := #[{ on := 10, ground := Go.Ground.data }], guard := none }) rfl (fun K hK => ?_) (AllReadyH.nil))
      · go_simp
        refine hK.out _ _ (b4) (fun hHeld => ?_)
        clear hK K
        try simp only [Act.put, List.setIfInBounds_toArray, List.set_cons_zero, List.set_cons_succ]
        refine wpAnyH_ready (rs := [11]) (by kernel_rfl) (by simp) ?_
        refine AllReadyH.cons (o := { dst := some 34, op := Go.Op.buildSlice 44 1 #[(0, Go.Operand.tmp 33)], type := 44, pos := "outright.go:123", after := #[{ on := 10, ground := Go.Ground.data }], guard := none }) rfl (fun K hK => ?_) (AllReadyH.nil)
        go_simp
        refine hK.out _ _ (b5) (fun hHeld => ?_)
        clear hK K
        try simp only [Act.put, List.setIfInBounds_toArray, List.set_cons_zero, List.set_cons_succ]
        refine wpAnyH_ready (rs := [12]) (by kernel_rfl) (by simp) ?_
        refine AllReadyH.cons (o := { dst := some 35, op := Go.Op.call { callee := Go.Callee.builtin Go.Builtin.append, args := #[Go.Operand.tmp 30, Go.Operand.tmp 34], argTypes := #[44, 44] }, type := 44, pos := "outright.go:123", after := #[{ on := 7, ground := Go.Ground.data }, { on := 11, ground := Go.Ground.data }, { on := 10, ground := Go.Ground.chain }], guard := none }) rfl (fun K hK => ?_) (AllReadyH.nil)
        refine step_add2 Va rfl (.tmp 30) (.tmp 34) 44 rfl 0 27 _ 1 24 Try.underlying44 info27 rfl (by decide) (.slice As ns cs) ns ((x.ls true).map slc) (by rfl) (own_ch HOS.out (Ch.of_below HBE.out No) (fun _ _ => id)) #[.slice (some ⟨ga, 0, none⟩) um ca] 27 (by rfl) rfl (by simp [Value.oneCell']) (by have := HN5.out; simp [maxLen]; omega) (by have := HN5.out; omega) (Nat.zero_le _) ?_
        intro v2 Vd hown2 hnn2 hch2 hat2
        obtain ⟨A2, c2, rfl, -, -⟩ := own_form hown2
        have hBd := blk_ch (blk_below HS2.out.wd.mem HBE.out) hch2 (fun e => (HBN.out _ e).1 rfl)
        have hXd := blk_ch (blk_below HS2.out.bx HBE.out) hch2 (fun e => (HBN.out _ e).2 rfl)
        have b6 : Vd.cell? ⟨X, 3, none⟩ = some (.slice uM um ud) := blk_cell hXd 3 _ rfl
        have t6 : Vd.cell? ⟨B, 4, none⟩ = some (.slice As ns cs) := by rw [← HVS.out]; exact blk_cell hBd 4 _ rfl
        have z6 := blk_thawed hBd 4
        have S3 := Lib.hid (show (Vd.setCell ⟨B, 4, none⟩ (.slice A2 (ns + 1) c2)).cell? ⟨X, 3, none⟩ = some (.slice uM um ud) from (cell_far Vd ⟨B, 4, none⟩ ⟨X, 3, none⟩ _ (fun e => by have e' : X = B := e; have h9 := HS2.out.bxt; rw [e', HS2.out.wd.tag] at h9; cases h9)).trans b6)
        have HO2 := Lib.hid hown2; have HC2 := Lib.hid hch2; have HA2 := Lib.hid (show (Value.slice A2 (ns + 1) c2).ownBlock = (Value.slice As ns cs).ownBlock ∨ ∃ q, (Value.slice A2 (ns + 1) c2).ownBlock = some q ∧ Va.heap.size ≤ q from hat2.imp id (fun e => ⟨Va.heap.size + 1, e, Nat.le_succ _⟩))
        clear hown2 hch2 hat2 hnn2 hBd hXd
        refine hK.out _ _ (b6) (fun hHeld => ?_)
        clear hK K
        try simp only [Act.put, List.setIfInBounds_toArray, List.set_cons_zero, List.set_cons_succ]
        refine wpAnyH_take (i := 15) (oi := { dst := some 38, op := Go.Op.indexAddr 45 (Go.Operand.tmp 37) (Go.Operand.tmp 24), type := 0, pos := "outright.go:123", after := #[{ on := 14, ground := Go.Ground.data }, { on := 1, ground := Go.Ground.data }, { on := 0, ground := Go.Ground.phase }, { on := 1, ground := Go.Ground.phase }, { on := 2, ground := Go.Ground.phase }, { on := 3, ground := Go.Ground.phase }, { on := 4, ground := Go.Ground.phase }, { on := 5, ground := Go.Ground.phase }, { on := 6, ground := Go.Ground.phase }, { on := 7, ground := Go.Ground.phase }, { on := 8, ground := Go.Ground.phase }, { on := 9, ground := Go.Ground.phase }, { on := 10, ground := Go.Ground.phase }, { on := 11, ground := Go.Ground.phase }, { on := 12, ground := Go.Ground.phase }], guard := none }) (v := .pointer (some ⟨B, 4, none⟩)) rfl (by kernel_rfl) (by kernel_rfl) (by kernel_rfl) (fun _ _ _ h => h) (Or.inl ⟨by rfl, ?_⟩) (by assumption) ?_
        · intro W hSw
          go_simp
          try with_reducible rfl
        simp only [Act.put, List.setIfInBounds_toArray, List.set_cons_zero, List.set_cons_succ]
        refine wpAnyH_ready (rs := [16]) (by kernel_rfl) (by simp) ?_
        refine AllReadyH.cons (o := { dst := none, op := Go.Op.store 44 (Go.Operand.tmp 38) (Go.Operand.tmp 35), type := 0, pos := "outright.go:123", after := #[{ on := 15, ground := Go.Ground.data }, { on := 12, ground := Go.Ground.data }, { on := 12, ground := Go.Ground.chain }, { on := 0, ground := Go.Ground.phase }, { on := 1, ground := Go.Ground.phase }, { on := 2, ground := Go.Ground.phase }, { on := 3, ground := Go.Ground.phase }, { on := 4, ground := Go.Ground.phase }, { on := 5, ground := Go.Ground.phase }, { on := 6, ground := Go.Ground.phase }, { on := 7, ground := Go.Ground.phase }, { on := 8, ground := Go.Ground.phase }, { on := 9, ground := Go.Ground.phase }, { on := 10, ground := Go.Ground.phase }, { on := 11, ground := Go.Ground.phase }, { on := 12, ground := Go.Ground.phase }], guard := none }) rfl (fun K hK => ?_) (AllReadyH.nil)
        go_simp
        refine hK.out _ _ (S3.out) (fun hHeld => ?_)
        clear hK K
        try simp only [Act.put, List.setIfInBounds_toArray, List.set_cons_zero, List.set_cons_succ]
        refine wpAnyH_done (by kernel_rfl) ?_ _
        clear hHeld
        obtain ⟨T9, x9, h9⟩ := ts_sent HS2.out true HBE.out HGA.out (show Held Va 0 (some ⟨ga, 0, none⟩) um ca ul from .inr ⟨ga, rfl, HBY.out, HL.out, Nat.zero_le _⟩) HNS.out HO2.out (by rw [HVS.out]; exact HC2.out) (by rw [HVS.out]; exact HA2.out)
        have HFIN := Lib.hid (ts_step h9 HE2.out (show M ≤ M + 8 by omega))
        clear h9 S3 HO2 HC2 HA2 b6 t6 z6
        go_wp2
        exact bodyPost_end (results_none rfl _ _ _) rfl HFIN.out
      · go_simp
        refine hK.out _ _ (b5) (fun hHeld => ?_)
        clear hK K
        try simp only [Act.put, List.setIfInBounds_toArray, List.set_cons_zero, List.set_cons_succ]
        refine wpAnyH_ready (rs := [7]) (by kernel_rfl) (by simp) ?_
        refine AllReadyH.cons (o := { dst := some 30, op := Go.Op.load 44 (Go.Operand.tmp 29), type := 44, pos := "outright.go:123", after := #[{ on := 6, ground := Go.Ground.data }], guard := none }) rfl (fun K hK => ?_) (AllReadyH.nil)
        go_simp
        refine hK.out _ _ (b5) (fun hHeld => ?_)
        clear hK K
        try simp only [Act.put, List.setIfInBounds_toArray, List.set_cons_zero, List.set_cons_succ]
        refine wpAnyH_ready (rs := [12]) (by kernel_rfl) (by simp) ?_
        refine AllReadyH.cons (o := { dst := some 35, op := Go.Op.call { callee := Go.Callee.builtin Go.Builtin.append, args := #[Go.Operand.tmp 30, Go.Operand.tmp 34], argTypes := #[44, 44] }, type := 44, pos := "outright.go:123", after := #[{ on := 7, ground := Go.Ground.data }, { on := 11, ground := Go.Ground.data }, { on := 10, ground := Go.Ground.chain }], guard := none }) rfl (fun K hK => ?_) (AllReadyH.nil)
        refine step_add2 Va rfl (.tmp 30) (.tmp 34) 44 rfl 0 27 _ 1 24 Try.underlying44 info27 rfl (by decide) (.slice As ns cs) ns ((x.ls true).map slc) (by rfl) (own_ch HOS.out (Ch.of_below HBE.out No) (fun _ _ => id)) #[.slice (some ⟨ga, 0, none⟩) um ca] 27 (by rfl) rfl (by simp [Value.oneCell']) (by have := HN5.out; simp [maxLen]; omega) (by have := HN5.out; omega) (Nat.zero_le _) ?_
        intro v2 Vd hown2 hnn2 hch2 hat2
        obtain ⟨A2, c2, rfl, -, -⟩ := own_form hown2
        have hBd := blk_ch (blk_below HS2.out.wd.mem HBE.out) hch2 (fun e => (HBN.out _ e).1 rfl)
        have hXd := blk_ch (blk_below HS2.out.bx HBE.out) hch2 (fun e => (HBN.out _ e).2 rfl)
        have b6 : Vd.cell? ⟨X, 3, none⟩ = some (.slice uM um ud) := blk_cell hXd 3 _ rfl
        have t6 : Vd.cell? ⟨B, 4, none⟩ = some (.slice As ns cs) := by rw [← HVS.out]; exact blk_cell hBd 4 _ rfl
        have z6 := blk_thawed hBd 4
        have S3 := Lib.hid (show (Vd.setCell ⟨B, 4, none⟩ (.slice A2 (ns + 1) c2)).cell? ⟨X, 3, none⟩ = some (.slice uM um ud) from (cell_far Vd ⟨B, 4, none⟩ ⟨X, 3, none⟩ _ (fun e => by have e' : X = B := e; have h9 := HS2.out.bxt; rw [e', HS2.out.wd.tag] at h9; cases h9)).trans b6)
        have HO2 := Lib.hid hown2; have HC2 := Lib.hid hch2; have HA2 := Lib.hid (show (Value.slice A2 (ns + 1) c2).ownBlock = (Value.slice As ns cs).ownBlock ∨ ∃ q, (Value.slice A2 (ns + 1) c2).ownBlock = some q ∧ Va.heap.size ≤ q from hat2.imp id (fun e => ⟨Va.heap.size + 1, e, Nat.le_succ _⟩))
        clear hown2 hch2 hat2 hnn2 hBd hXd
        refine hK.out _ _ (b6) (fun hHeld => ?_)
        clear hK K
        try simp only [Act.put, List.setIfInBounds_toArray, List.set_cons_zero, List.set_cons_succ]
        refine wpAnyH_take (i := 15) (oi := { dst := some 38, op := Go.Op.indexAddr 45 (Go.Operand.tmp 37) (Go.Operand.tmp 24), type := 0, pos := "outright.go:123", after := #[{ on := 14, ground := Go.Ground.data }, { on := 1, ground := Go.Ground.data }, { on := 0, ground := Go.Ground.phase }, { on := 1, ground := Go.Ground.phase }, { on := 2, ground := Go.Ground.phase }, { on := 3, ground := Go.Ground.phase }, { on := 4, ground := Go.Ground.phase }, { on := 5, ground := Go.Ground.phase }, { on := 6, ground := Go.Ground.phase }, { on := 7, ground := Go.Ground.phase }, { on := 8, ground := Go.Ground.phase }, { on := 9, ground := Go.Ground.phase }, { on := 10, ground := Go.Ground.phase }, { on := 11, ground := Go.Ground.phase }, { on := 12, ground := Go.Ground.phase }], guard := none }) (v := .pointer (some ⟨B, 4, none⟩)) rfl (by kernel_rfl) (by kernel_rfl) (by kernel_rfl) (fun _ _ _ h => h) (Or.inl ⟨by rfl, ?_⟩) (by assumption) ?_
        · intro W hSw
          go_simp
          try with_reducible rfl
        simp only [Act.put, List.setIfInBounds_toArray, List.set_cons_zero, List.set_cons_succ]
        refine wpAnyH_ready (rs := [16]) (by kernel_rfl) (by simp) ?_
        refine AllReadyH.cons (o := { dst := none, op := Go.Op.store 44 (Go.Operand.tmp 38) (Go.Operand.tmp 35), type := 0, pos := "outright.go:123", after := #[{ on := 15, ground := Go.Ground.data }, { on := 12, ground := Go.Ground.data }, { on := 12, ground := Go.Ground.chain }, { on := 0, ground := Go.Ground.phase }, { on := 1, ground := Go.Ground.phase }, { on := 2, ground := Go.Ground.phase }, { on := 3, ground := Go.Ground.phase }, { on := 4, ground := Go.Ground.phase }, { on := 5, ground := Go.Ground.phase }, { on := 6, ground := Go.Ground.phase }, { on := 7, ground := Go.Ground.phase }, { on := 8, ground := Go.Ground.phase }, { on := 9, ground := Go.Ground.phase }, { on := 10, ground := Go.Ground.phase }, { on := 11, ground := Go.Ground.phase }, { on := 12, ground := Go.Ground.phase }], guard := none }) rfl (fun K hK => ?_) (AllReadyH.nil)
        go_simp
        refine hK.out _ _ (S3.out) (fun hHeld => ?_)
        clear hK K
        try simp only [Act.put, List.setIfInBounds_toArray, List.set_cons_zero, List.set_cons_succ]
        refine wpAnyH_done (by kernel_rfl) ?_ _
        clear hHeld
        obtain ⟨T9, x9, h9⟩ := ts_sent HS2.out true HBE.out HGA.out (show Held Va 0 (some ⟨ga, 0, none⟩) um ca ul from .inr ⟨ga, rfl, HBY.out, HL.out, Nat.zero_le _⟩) HNS.out HO2.out (by rw [HVS.out]; exact HC2.out) (by rw [HVS.out]; exact HA2.out)
        have HFIN := Lib.hid (ts_step h9 HE2.out (show M ≤ M + 8 by omega))
        clear h9 S3 HO2 HC2 HA2 b6 t6 z6
        go_wp2
        exact bodyPost_end (results_none rfl _ _ _) rfl HFIN.out
  have gz : (sr == 0) = false := by simpa using hz
  have HFIN := Lib.hid (ts_step HS2.out (HE.out.trans (by unfold Wd.send; rw [if_neg (by rw [← hsr]; exact hz)])) (show M ≤ M + 8 by omega))
  clear HS1 HS2
  go_wp2
  exact bodyPost_end (results_none rfl _ _ _) rfl HFIN.out
end Go.Proofs.Ytadcahnoghnkcaa
