/- Walk: Num of the reference's reader, nought; all cases joined. Conditions: the reader as Open made it. -/
import Derived.Test.YtondodhpmghogaaR3
import Derived.Test.YtondodhpmghogaaR4
import Derived.Test.YtondodhpmghogaaR5
import Derived.Test.YtondodhpmghogaaR6
namespace Go.Proofs.Ytondodhpmghogaa
open Go.RowKit
set_option linter.unusedVariables false
set_option linter.unusedSimpArgs false

set_option maxRecDepth 100000 in
set_option maxHeartbeats 4000000 in
theorem rn_zlow {w : World} {V : Nat} {b off : Nat} {n c : Nat} {s : Rdr} (h : RRd w V (some ⟨b, off, none⟩) n c s) (lo hi : Int) (he0 : s.e = 0) (hm : (s.b[s.at_]?.getD 0).toNat = 0) (hsh : s.at_ + 1 ≤ s.b.length) (hv2 : (0 : Int) < lo) (hF : Fit ⟨s.b, s.at_, 5, s.at_⟩) :
    Calls Try.prog 68 #[.pointer (some ⟨V, 0, none⟩), .int .i64 lo, .int .i64 hi] w (RRNumQ w V (some ⟨b, off, none⟩) n c (0, ⟨s.b, s.at_, 5, s.at_⟩)) := by
  have HV2_ := Lib.hid hv2
  clear hv2
  have c0 : w.cell? ⟨V, 0, none⟩ = some (.slice (some ⟨b, off, none⟩) n c) := blk_cell h.blk 0 _ rfl
  have c1 : w.cell? ⟨V, 1, none⟩ = some (.int .i64 s.at_) := blk_cell h.blk 1 _ rfl
  have c2 : w.cell? ⟨V, 2, none⟩ = some (.int .i64 s.e) := blk_cell h.blk 2 _ rfl
  have c3 : w.cell? ⟨V, 3, none⟩ = some (.int .i64 s.p) := blk_cell h.blk 3 _ rfl
  have f1 : w.frozen? ⟨V, 1, none⟩ = false := blk_thawed h.blk 1
  have hl := rrd_len h
  have h2 := h.fit.big
  rw [hl] at h2
  have H := Lib.hid h
  rw [hl] at hsh
  have hlt : s.at_ < n := by omega
  have hI0 : (0 : Int) ≤ (s.at_ : Int) := by omega
  have hI1 : (s.at_ : Int) < (n : Int) := by omega
  have hge : ¬ ((n : Int) ≤ (s.at_ : Int)) := by omega
  have g1 : (s.e != 0) = false := by simpa using he0
  have hcell := (h.rd.cells s.at_ _ (u8s_get s.b s.at_ (by omega)))
  obtain ⟨b', off', e', hcell⟩ := hcell
  cases e'
  rw [hm] at hcell
  have hcell : w.cell? ⟨b, off + s.at_, none⟩ = some (.int .u8 0) := hcell
  have hw1 : IntKind.i64.wrap ((n : Int) - s.at_) = (n : Int) - s.at_ := by rw [IntKind.wrap_i64]; omega
  have hw2 : IntKind.i64.wrap ((n : Int) - s.at_ - 1) = (n : Int) - s.at_ - 1 := by rw [IntKind.wrap_i64]; omega
  have hsh' : ¬ ((n : Int) - s.at_ - 1 < 0) := by omega
  have g3 : decide ((n : Int) - s.at_ - 1 < 0) = false := decide_eq_false hsh'
  have hw3 : IntKind.i64.wrap ((s.at_ : Int) + 1) = (s.at_ : Int) + 1 := by rw [IntKind.wrap_i64]; omega
  have HE0_ := Lib.hid he0
  clear he0 hm
  have g6 : decide ((0 : Int) < lo) = true := decide_eq_true HV2_.out
  have HF := Lib.hid hF
  clear hF h
  go_enter Try.func68, Try.ntmps68
  go_wp2_with fail
  go_quiet (fail)
  go_wp2_with fail
  go_quiet (fail)
  go_wp2_with fail
  go_quiet (fail)
  go_wp2_with fail
  go_quiet (fail)
  go_wp2_with fail
  go_quiet (fail)
  go_wp2_with fail
  go_loopw [8, 9] (fun v i wr => ∃ k : Nat, wr = w.drewN k ∧ i = .int .i64 0 ∧ v = .int .i64 0) (fun _ _ _ => 0)
  case atStart => exact ⟨_, drewN4 _ _ _ _ _, rfl, rfl⟩
  case round =>
    obtain ⟨k, rfl, rfl, rfl⟩ := hrel
    go_wp2_with fail
    refine (fail_any (rrd_ch H.out (ch_drewN No _ _) id (fun _ _ _ => id)) HE0_.out 5 s.at_ HF.out).mono ?_
    rintro e w2 hQ
    obtain ⟨he, hQ2⟩ := rrnumq_of (ch_drewN _ _ _) hQ
    cases he
    go_wp2
    go_ret
    exact ⟨rfl, hQ2⟩
set_option maxRecDepth 100000 in
set_option maxHeartbeats 4000000 in
theorem rn_zhigh {w : World} {V : Nat} {b off : Nat} {n c : Nat} {s : Rdr} (h : RRd w V (some ⟨b, off, none⟩) n c s) (lo hi : Int) (he0 : s.e = 0) (hm : (s.b[s.at_]?.getD 0).toNat = 0) (hsh : s.at_ + 1 ≤ s.b.length) (hv2 : ¬ (0 : Int) < lo) (hv3 : hi < (0 : Int)) (hF : Fit ⟨s.b, s.at_, 5, s.at_⟩) :
    Calls Try.prog 68 #[.pointer (some ⟨V, 0, none⟩), .int .i64 lo, .int .i64 hi] w (RRNumQ w V (some ⟨b, off, none⟩) n c (0, ⟨s.b, s.at_, 5, s.at_⟩)) := by
  have HV3_ := Lib.hid hv3
  clear hv3
  have HV2_ := Lib.hid hv2
  clear hv2
  have c0 : w.cell? ⟨V, 0, none⟩ = some (.slice (some ⟨b, off, none⟩) n c) := blk_cell h.blk 0 _ rfl
  have c1 : w.cell? ⟨V, 1, none⟩ = some (.int .i64 s.at_) := blk_cell h.blk 1 _ rfl
  have c2 : w.cell? ⟨V, 2, none⟩ = some (.int .i64 s.e) := blk_cell h.blk 2 _ rfl
  have c3 : w.cell? ⟨V, 3, none⟩ = some (.int .i64 s.p) := blk_cell h.blk 3 _ rfl
  have f1 : w.frozen? ⟨V, 1, none⟩ = false := blk_thawed h.blk 1
  have hl := rrd_len h
  have h2 := h.fit.big
  rw [hl] at h2
  have H := Lib.hid h
  rw [hl] at hsh
  have hlt : s.at_ < n := by omega
  have hI0 : (0 : Int) ≤ (s.at_ : Int) := by omega
  have hI1 : (s.at_ : Int) < (n : Int) := by omega
  have hge : ¬ ((n : Int) ≤ (s.at_ : Int)) := by omega
  have g1 : (s.e != 0) = false := by simpa using he0
  have hcell := (h.rd.cells s.at_ _ (u8s_get s.b s.at_ (by omega)))
  obtain ⟨b', off', e', hcell⟩ := hcell
  cases e'
  rw [hm] at hcell
  have hcell : w.cell? ⟨b, off + s.at_, none⟩ = some (.int .u8 0) := hcell
  have hw1 : IntKind.i64.wrap ((n : Int) - s.at_) = (n : Int) - s.at_ := by rw [IntKind.wrap_i64]; omega
  have hw2 : IntKind.i64.wrap ((n : Int) - s.at_ - 1) = (n : Int) - s.at_ - 1 := by rw [IntKind.wrap_i64]; omega
  have hsh' : ¬ ((n : Int) - s.at_ - 1 < 0) := by omega
  have g3 : decide ((n : Int) - s.at_ - 1 < 0) = false := decide_eq_false hsh'
  have hw3 : IntKind.i64.wrap ((s.at_ : Int) + 1) = (s.at_ : Int) + 1 := by rw [IntKind.wrap_i64]; omega
  have HE0_ := Lib.hid he0
  clear he0 hm
  have g6 : decide ((0 : Int) < lo) = false := decide_eq_false HV2_.out
  have g7 : decide (hi < (0 : Int)) = true := decide_eq_true HV3_.out
  have HF := Lib.hid hF
  clear hF h
  go_enter Try.func68, Try.ntmps68
  go_wp2_with fail
  go_quiet (fail)
  go_wp2_with fail
  go_quiet (fail)
  go_wp2_with fail
  go_quiet (fail)
  go_wp2_with fail
  go_quiet (fail)
  go_wp2_with fail
  go_quiet (fail)
  go_wp2_with fail
  go_loopw [8, 9] (fun v i wr => ∃ k : Nat, wr = w.drewN k ∧ i = .int .i64 0 ∧ v = .int .i64 0) (fun _ _ _ => 0)
  case atStart => exact ⟨_, drewN4 _ _ _ _ _, rfl, rfl⟩
  case round =>
    obtain ⟨k, rfl, rfl, rfl⟩ := hrel
    go_wp2_with fail
    refine (fail_any (rrd_ch H.out (ch_drewN No _ _) id (fun _ _ _ => id)) HE0_.out 5 s.at_ HF.out).mono ?_
    rintro e w2 hQ
    obtain ⟨he, hQ2⟩ := rrnumq_of (ch_drewN _ _ _) hQ
    cases he
    go_wp2
    go_ret
    exact ⟨rfl, hQ2⟩
set_option maxRecDepth 100000 in
set_option maxHeartbeats 4000000 in
theorem rn_zfine {w : World} {V : Nat} {b off : Nat} {n c : Nat} {s : Rdr} (h : RRd w V (some ⟨b, off, none⟩) n c s) (lo hi : Int) (he0 : s.e = 0) (hm : (s.b[s.at_]?.getD 0).toNat = 0) (hsh : s.at_ + 1 ≤ s.b.length) (hv2 : ¬ (0 : Int) < lo) (hv3 : ¬ hi < (0 : Int)) (hF : Fit ⟨s.b, s.at_ + 1, 0, s.p⟩) :
    Calls Try.prog 68 #[.pointer (some ⟨V, 0, none⟩), .int .i64 lo, .int .i64 hi] w (RRNumQ w V (some ⟨b, off, none⟩) n c (0, ⟨s.b, s.at_ + 1, 0, s.p⟩)) := by
  have HV3_ := Lib.hid hv3
  clear hv3
  have HV2_ := Lib.hid hv2
  clear hv2
  have c0 : w.cell? ⟨V, 0, none⟩ = some (.slice (some ⟨b, off, none⟩) n c) := blk_cell h.blk 0 _ rfl
  have c1 : w.cell? ⟨V, 1, none⟩ = some (.int .i64 s.at_) := blk_cell h.blk 1 _ rfl
  have c2 : w.cell? ⟨V, 2, none⟩ = some (.int .i64 s.e) := blk_cell h.blk 2 _ rfl
  have c3 : w.cell? ⟨V, 3, none⟩ = some (.int .i64 s.p) := blk_cell h.blk 3 _ rfl
  have f1 : w.frozen? ⟨V, 1, none⟩ = false := blk_thawed h.blk 1
  have hl := rrd_len h
  have h2 := h.fit.big
  rw [hl] at h2
  have H := Lib.hid h
  rw [hl] at hsh
  have hlt : s.at_ < n := by omega
  have hI0 : (0 : Int) ≤ (s.at_ : Int) := by omega
  have hI1 : (s.at_ : Int) < (n : Int) := by omega
  have hge : ¬ ((n : Int) ≤ (s.at_ : Int)) := by omega
  have g1 : (s.e != 0) = false := by simpa using he0
  have hcell := (h.rd.cells s.at_ _ (u8s_get s.b s.at_ (by omega)))
  obtain ⟨b', off', e', hcell⟩ := hcell
  cases e'
  rw [hm] at hcell
  have hcell : w.cell? ⟨b, off + s.at_, none⟩ = some (.int .u8 0) := hcell
  have hw1 : IntKind.i64.wrap ((n : Int) - s.at_) = (n : Int) - s.at_ := by rw [IntKind.wrap_i64]; omega
  have hw2 : IntKind.i64.wrap ((n : Int) - s.at_ - 1) = (n : Int) - s.at_ - 1 := by rw [IntKind.wrap_i64]; omega
  have hsh' : ¬ ((n : Int) - s.at_ - 1 < 0) := by omega
  have g3 : decide ((n : Int) - s.at_ - 1 < 0) = false := decide_eq_false hsh'
  have hw3 : IntKind.i64.wrap ((s.at_ : Int) + 1) = (s.at_ : Int) + 1 := by rw [IntKind.wrap_i64]; omega
  have HE0_ := Lib.hid he0
  clear he0 hm
  have g6 : decide ((0 : Int) < lo) = false := decide_eq_false HV2_.out
  have g7 : decide (hi < (0 : Int)) = false := decide_eq_false HV3_.out
  have HF := Lib.hid hF
  clear hF h
  go_enter Try.func68, Try.ntmps68
  go_wp2_with fail
  go_quiet (fail)
  go_wp2_with fail
  go_quiet (fail)
  go_wp2_with fail
  go_quiet (fail)
  go_wp2_with fail
  go_quiet (fail)
  go_wp2_with fail
  go_quiet (fail)
  go_wp2_with fail
  go_loopw [8, 9] (fun v i wr => ∃ k : Nat, wr = w.drewN k ∧ i = .int .i64 0 ∧ v = .int .i64 0) (fun _ _ _ => 0)
  case atStart => exact ⟨_, drewN4 _ _ _ _ _, rfl, rfl⟩
  case round =>
    obtain ⟨k, rfl, rfl, rfl⟩ := hrel
    have hcc := ch_set (ch_drewN (fun k => k = V) w k) ⟨V, 1, none⟩ (.int .i64 ((s.at_ : Int) + 1)) rfl
    have hbl := blk_set (blk_ch H.out.blk (ch_drewN No w k) id) 1 (.int .i64 ((s.at_ : Int) + 1))
    go_wp2_with fail
    go_ret
    refine ⟨rfl, rrd_set H.out _ _ rfl HF.out hcc ?_, hcc⟩
    have e9 : ((s.at_ + 1 : Nat) : Int) = (s.at_ : Int) + 1 := by omega
    rw [HE0_.out] at hbl
    simp only [e9]
    exact hbl
theorem rn_any {w : World} {V : Nat} {A : Option Addr} {n c : Nat} {s : Rdr} (h : RRd w V A n c s) (lo hi : Int) : Calls Try.prog 68 #[.pointer (some ⟨V, 0, none⟩), .int .i64 lo, .int .i64 hi] w (RRNumQ w V A n c (rnum s lo hi)) := by
  obtain ⟨r, hr⟩ : ∃ r, r = rnum s lo hi := ⟨_, rfl⟩
  have hf := rnum_fit s lo hi h.fit
  rw [← hr] at hf ⊢
  unfold rnum at hr
  by_cases k1 : s.e ≠ 0
  · rw [if_pos k1] at hr
    subst hr
    exact rn_err h lo hi k1
  have he0 : s.e = 0 := Decidable.not_not.1 k1
  rw [if_neg k1] at hr
  by_cases k2 : s.b.length ≤ s.at_
  · rw [if_pos k2] at hr
    subst hr
    exact rn_end h lo hi he0 k2 hf
  rw [if_neg k2] at hr
  have hl := rrd_len h
  obtain ⟨b, off, rfl, hcell⟩ := h.rd.cells s.at_ _ (u8s_get s.b s.at_ (by omega))
  obtain ⟨m, hm⟩ : ∃ m, m = (s.b[s.at_]?.getD 0).toNat := ⟨_, rfl⟩
  obtain ⟨xs, hxs⟩ : ∃ xs, xs = (s.b.drop (s.at_ + 1)).take m := ⟨_, rfl⟩
  obtain ⟨U, hU⟩ : ∃ U, U = valB xs := ⟨_, rfl⟩
  rw [← hm] at hr
  rw [← hxs, ← hU] at hr
  by_cases k3 : 8 < m
  · rw [if_pos k3] at hr
    subst hr
    exact rn_many h lo hi he0 m hm k3 (by omega) hf
  rw [if_neg k3] at hr
  by_cases k4 : s.b.length < s.at_ + 1 + m
  · rw [if_pos k4] at hr
    subst hr
    exact rn_short h lo hi he0 m hm (by omega) (by omega) k4 hf
  rw [if_neg k4] at hr
  by_cases hm0 : m = 0
  · subst hm0
    have hx0 : xs = [] := by rw [hxs]; rfl
    rw [hx0] at hU
    have hU0 : U = 0 := hU
    subst hU0
    rw [if_neg (by omega)] at hr
    by_cases h2 : (0 : Int) < lo
    · rw [if_pos (by omega)] at hr
      subst hr
      exact rn_zlow h lo hi he0 hm.symm (by omega) h2 hf
    · by_cases h3 : hi < (0 : Int)
      · rw [if_pos (by omega)] at hr
        subst hr
        exact rn_zhigh h lo hi he0 hm.symm (by omega) h2 h3 hf
      · rw [if_neg (by omega)] at hr
        rw [he0] at hr
        subst hr
        exact rn_zfine h lo hi he0 hm.symm (by omega) h2 h3 hf
  · have hmp : 0 < m := by omega
    have hxl : xs.length = m := by rw [hxs, List.length_take, List.length_drop]; omega
    have hx0 : (xs[0]?.getD 0).toNat = (s.b[s.at_ + 1]?.getD 0).toNat := by rw [hxj xs s.b s.at_ m 0 hxs hmp]
    by_cases hy : s.b[s.at_ + 1]?.getD 0 = 0
    · rw [if_pos ⟨hmp, hy⟩] at hr
      subst hr
      exact rn_nought h lo hi he0 m hm (by omega) (by omega) xs hxs U hU hmp hy hf
    · rw [if_neg (fun e => hy e.2)] at hr
      by_cases h1 : 4611686018427387903 < U
      · rw [if_pos (.inl h1)] at hr
        have hm8 : m = 8 := by
          rcases Nat.lt_or_ge m 8 with h | h
          · have := small7 xs (by omega); omega
          · omega
        have hk := (top_iff xs (by omega)).1 (by rw [← hU]; exact h1)
        rw [hx0] at hk
        subst hr
        exact rn_top h lo hi he0 m hm (by omega) hm8 (by omega) xs hxs U hU hy hk hf
      · have hk : m = 8 → (s.b[s.at_ + 1]?.getD 0).toNat ≤ 63 := fun e => by
          rcases Nat.lt_or_ge 63 ((s.b[s.at_ + 1]?.getD 0).toNat) with h | h
          · rw [← hx0] at h
            have := (top_iff xs (by omega)).2 h
            omega
          · exact h
        by_cases h2 : (U : Int) < lo
        · rw [if_pos (.inr (.inl h2))] at hr
          subst hr
          exact rn_low h lo hi he0 m hm (by omega) (by omega) xs hxs U hU hmp hy hk (by omega) h2 hf
        · by_cases h3 : hi < (U : Int)
          · rw [if_pos (.inr (.inr h3))] at hr
            subst hr
            exact rn_high h lo hi he0 m hm (by omega) (by omega) xs hxs U hU hmp hy hk (by omega) h2 h3 hf
          · rw [if_neg (by rintro (e | e | e); exact h1 e; exact h2 e; exact h3 e)] at hr
            rw [he0] at hr
            subst hr
            exact rn_fine h lo hi he0 m hm (by omega) (by omega) xs hxs U hU hmp hy hk (by omega) h2 h3 hf
end Go.Proofs.Ytondodhpmghogaa
