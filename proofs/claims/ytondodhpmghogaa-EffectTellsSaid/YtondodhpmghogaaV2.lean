/- Walk: Num of the reader. Conditions: the reader is as Open made it. -/
import Derived.Test.YtondodhpmghogaaV1
import Derived.ScopeJumps
import Derived.WalkMore
namespace Go.Proofs.Ytondodhpmghogaa
open Go.RowKit
set_option linter.unusedVariables false
set_option linter.unusedSimpArgs false

/-- a scope whose one label is jumped to from ahead alone -/
theorem wp_scope_fwd {P : Program} {a : Act} {w : World} {Q : Exit → Act → World → Prop} {c rest : Code} (l : Nat) (hf : findLabel c l = some rest)
    (first : c.wp P (Exit.jump l (fun a w => rest.wp P (Exit.jump l (fun _ _ => False) Q) a w) Q) a w) : (Code.scope c).wp P Q a w := by
  refine wp_scope_jumps l _ (fun _ _ => 0) hf first (fun a w hJ => ?_)
  intro b k cs
  obtain ⟨e, a1, w1, hq, harr⟩ := hJ b k cs
  refine ⟨e, a1, w1, ?_, harr⟩
  cases e with
  | goto l' => exact hq.2.elim
  | normal => exact hq
  | exit id => exact hq
  | ret => exact hq
  | panic ch => exact hq
  | outgrown => exact hq

def RNumQ (w : World) (R : Nat) (A : Option Addr) (n c : Nat) (r : Int × Rdr) (e : Ending) (w' : World) : Prop := e = .returned (.int .i64 r.1) ∧ RdB w' R A n c r.2 ∧ Ch (fun k => k = R) w w'
theorem num_fault {w : World} {R : Nat} {A : Option Addr} {n c : Nat} {s : Rdr} (h : RdB w R A n c s) (k : Nat) (E P : Int) (hf : Fit ⟨s.b, s.at_, E, P⟩) :
    RNumQ w R A n c (0, ⟨s.b, s.at_, E, P⟩) (.returned (.int .i64 0)) (((w.drewN k).setCell ⟨R, 3, none⟩ (.int .i64 E)).setCell ⟨R, 4, none⟩ (.int .i64 P)) := by
  have hc := ch_set (ch_set (ch_drewN (fun k => k = R) w k) ⟨R, 3, none⟩ (.int .i64 E) rfl) ⟨R, 4, none⟩ (.int .i64 P) rfl
  exact ⟨rfl, rdb_set h _ _ rfl hf hc (blk_set (blk_set (blk_ch h.blk (ch_drewN No w k) id) 3 _) 4 _), hc⟩
theorem num_ok {w : World} {R : Nat} {A : Option Addr} {n c : Nat} {s : Rdr} (h : RdB w R A n c s) (k m V : Nat) (he : s.e = 0) (hf : Fit ⟨s.b, s.at_ + 1 + m, 0, s.p⟩) :
    RNumQ w R A n c ((V : Int), ⟨s.b, s.at_ + 1 + m, 0, s.p⟩) (.returned (.int .i64 V)) ((w.drewN k).setCell ⟨R, 2, none⟩ (.int .i64 ((s.at_ : Int) + (1 + m)))) := by
  have hc := ch_set (ch_drewN (fun k => k = R) w k) ⟨R, 2, none⟩ (.int .i64 ((s.at_ : Int) + (1 + m))) rfl
  have e : ((s.at_ + 1 + m : Nat) : Int) = (s.at_ : Int) + (1 + m) := by omega
  exact ⟨rfl, rdb_set h _ _ rfl hf hc (by have := blk_set (blk_ch h.blk (ch_drewN No w k) id) 2 (.int .i64 ((s.at_ : Int) + (1 + m))); simp only [e]; rw [he] at this; exact this), hc⟩
theorem num_ok0 {w : World} {R : Nat} {A : Option Addr} {n c : Nat} {s : Rdr} (h : RdB w R A n c s) (k : Nat) (he : s.e = 0) (hf : Fit ⟨s.b, s.at_ + 1, 0, s.p⟩) :
    RNumQ w R A n c (0, ⟨s.b, s.at_ + 1, 0, s.p⟩) (.returned (.int .i64 0)) ((w.drewN k).setCell ⟨R, 2, none⟩ (.int .i64 ((s.at_ : Int) + 1))) := by
  have := num_ok h k 0 0 he hf
  simpa using this
theorem wrap64_id (x : Int) (h1 : -9223372036854775808 ≤ x) (h2 : x ≤ 9223372036854775807) : Go.RowKit.wrap64 x = x := by unfold Go.RowKit.wrap64; omega
/-- bits: a byte behind a number -/
theorem shl_or (a c : Nat) (hc : c < 256) : (a * 256) ||| c = a * 256 + c := by
  have := Nat.two_pow_add_eq_or_of_lt (i := 8) (b := c) (by simpa using hc) a
  rw [show (2 : Nat) ^ 8 = 256 from rfl] at this
  rw [Nat.mul_comm a 256]
  exact this.symm
theorem shl_step (W x : Nat) (hW : W < 72057594037927936) (hx : x < 256) : bits .or .u64 (IntKind.u64.wrap ((W : Int) * 256)) (x : Int) = ((W * 256 + x : Nat) : Int) := by
  have e : IntKind.u64.wrap ((W : Int) * 256) = ((W * 256 : Nat) : Int) := by rw [IntKind.wrap_u64]; omega
  rw [e, bits_or_u64_nat _ _ (by omega) (by omega), shl_or W x hx]
theorem valB_step (xs : List UInt8) (j : Nat) (hj : j < xs.length) (h8 : xs.length ≤ 8) : valB (xs.take (j + 1)) = valB (xs.take j) * 256 + (xs[j]?.getD 0).toNat ∧ valB (xs.take j) < 72057594037927936 := by
  constructor
  · rw [u8s_snoc xs j hj, valB_snoc]; omega
  · have h1 := valB_lt (xs.take j)
    rw [List.length_take, Nat.min_eq_left (by omega)] at h1
    exact Nat.lt_of_lt_of_le h1 (Nat.le_trans (Nat.pow_le_pow_right (by decide) (show j ≤ 7 by omega)) (by decide))
theorem hxj (xs l : List UInt8) (a m j : Nat) (h : xs = (l.drop (a + 1)).take m) (hj : j < m) : (xs[j]?.getD 0).toNat = (l[a + 1 + j]?.getD 0).toNat := by
  rw [h, List.getElem?_take_of_lt hj, List.getElem?_drop]
set_option maxRecDepth 100000 in
set_option maxHeartbeats 4000000 in
theorem num_few {w : World} {R : Nat} {A : Option Addr} {n c : Nat} {s : Rdr} (h : RdB w R A n c s) (lo hi : Int) (hsome : s.e ≠ 0 ∨ s.b.length ≤ s.at_ ∨ 8 < (s.b[s.at_]?.getD 0).toNat ∨ s.b.length < s.at_ + 1 + (s.b[s.at_]?.getD 0).toNat) : Calls Try.prog 37 #[.pointer (some ⟨R, 0, none⟩), .int .i64 lo, .int .i64 hi] w (RNumQ w R A n c (rnum s lo hi)) := by
  have c0 : w.cell? ⟨R, 0, none⟩ = some (.bool true) := blk_cell h.blk 0 _ rfl
  have c1 : w.cell? ⟨R, 1, none⟩ = some (.slice A n c) := blk_cell h.blk 1 _ rfl
  have c2 : w.cell? ⟨R, 2, none⟩ = some (.int .i64 s.at_) := blk_cell h.blk 2 _ rfl
  have c3 : w.cell? ⟨R, 3, none⟩ = some (.int .i64 s.e) := blk_cell h.blk 3 _ rfl
  have c4 : w.cell? ⟨R, 4, none⟩ = some (.int .i64 s.p) := blk_cell h.blk 4 _ rfl
  have f2 : w.frozen? ⟨R, 2, none⟩ = false := blk_thawed h.blk 2
  have f3 : w.frozen? ⟨R, 3, none⟩ = false := blk_thawed h.blk 3
  have f4 : w.frozen? ⟨R, 4, none⟩ = false := blk_thawed h.blk 4
  have hl := rdb_len h
  have h1 := h.fit.le
  have h2 := h.fit.big
  rw [hl] at h1 h2
  obtain ⟨r, hrr⟩ : ∃ r, r = rnum s lo hi := ⟨_, rfl⟩
  have hfit := rnum_fit s lo hi h.fit
  rw [← hrr] at hfit ⊢
  unfold rnum at hrr
  have H := Lib.hid h
  have hc := h.rd.cap
  have hbig := h.rd.big
  have HF := Lib.hid hfit
  clear h hfit
  by_cases he : s.e ≠ 0
  · have g1 : (s.e != 0) = true := by simpa using he
    rw [if_pos he] at hrr
    go_enter Try.func37, Try.ntmps37
    go_wp2_with fail
    refine wp_scope_fwd 0 rfl ?_
    go_wp2_with (go_at_call 71; refine (none_any c0).mono ?_; rintro e w1 ⟨rfl, rfl⟩)
    simp only [Exit.jump]
    go_ret
    subst hrr
    exact ⟨rfl, H.out, Ch.refl _ _⟩
  rw [if_neg he] at hrr
  have he0 : s.e = 0 := Decidable.not_not.1 he
  have g1 : (s.e != 0) = false := by simpa using he0
  clear he
  by_cases hend : s.b.length ≤ s.at_
  · rw [if_pos hend] at hrr
    rw [hl] at hend hrr
    have HRR := Lib.hid hrr
    clear hrr
    go_enter Try.func37, Try.ntmps37
    go_wp2_with fail
    refine wp_scope_fwd 0 rfl ?_
    go_wp2_with (go_at_call 71; refine (none_any c0).mono ?_; rintro e w1 ⟨rfl, rfl⟩)
    go_quiet (fail)
    go_wp2
    go_quiet (fail)
    go_wp2
    go_step3
    refine ⟨rfl, ?_⟩
    go_wp2
    simp only [Exit.jump]
    go_ret
    have hrr := HRR.out
    subst hrr
    exact num_fault H.out _ _ _ HF.out
  rw [if_neg hend] at hrr
  have hlt : s.at_ < n := by omega
  have hI0 : (0 : Int) ≤ (s.at_ : Int) := by omega
  have hI1 : (s.at_ : Int) < (n : Int) := by omega
  have hge : ¬ ((n : Int) ≤ (s.at_ : Int)) := by omega
  obtain ⟨b, off, rfl, hcell⟩ := H.out.rd.cells s.at_ _ (u8s_get s.b s.at_ (by omega))
  obtain ⟨m, hm⟩ : ∃ m, m = (s.b[s.at_]?.getD 0).toNat := ⟨_, rfl⟩
  have hm256 : m < 256 := by rw [hm]; exact UInt8.toNat_lt _
  rw [← hm] at hcell hrr hsome
  have HM := Lib.hid hm
  clear hm
  have hwm : Go.RowKit.wrap64 (m : Int) = (m : Int) := by unfold Go.RowKit.wrap64; omega
  by_cases h8 : 8 < m
  · rw [if_pos h8] at hrr
    have h8' : (8 : Int) < (m : Int) := by omega
    have g2 : decide ((8 : Int) < (m : Int)) = true := decide_eq_true h8'
    have HRR := Lib.hid hrr
    clear hrr
    go_enter Try.func37, Try.ntmps37
    go_wp2_with fail
    refine wp_scope_fwd 0 rfl ?_
    go_wp2_with (go_at_call 71; refine (none_any c0).mono ?_; rintro e w1 ⟨rfl, rfl⟩)
    go_quiet (fail)
    go_wp2
    go_quiet (fail)
    go_wp2
    go_quiet (fail)
    go_wp2
    go_quiet (fail)
    go_wp2
    go_step3
    refine ⟨rfl, ?_⟩
    go_wp2
    simp only [Exit.jump]
    go_ret
    have hrr := HRR.out
    subst hrr
    exact num_fault H.out _ _ _ HF.out
  rw [if_neg h8] at hrr
  have h8' : ¬ ((8 : Int) < (m : Int)) := by omega
  have g2 : decide ((8 : Int) < (m : Int)) = false := decide_eq_false h8'
  have hw1 : IntKind.i64.wrap ((n : Int) - s.at_) = (n : Int) - s.at_ := by rw [IntKind.wrap_i64]; omega
  have hw2 : IntKind.i64.wrap ((n : Int) - s.at_ - 1) = (n : Int) - s.at_ - 1 := by rw [IntKind.wrap_i64]; omega
  by_cases hsh : s.b.length < s.at_ + 1 + m
  · rw [if_pos hsh] at hrr
    rw [hl] at hrr hsh
    have g3 : decide ((n : Int) - s.at_ - 1 < (m : Int)) = true := by simp; omega
    have HRR := Lib.hid hrr
    clear hrr
    go_enter Try.func37, Try.ntmps37
    go_wp2_with fail
    refine wp_scope_fwd 0 rfl ?_
    go_wp2_with (go_at_call 71; refine (none_any c0).mono ?_; rintro e w1 ⟨rfl, rfl⟩)
    go_quiet (fail)
    go_wp2
    go_quiet (fail)
    go_wp2
    go_quiet (fail)
    go_wp2
    go_quiet (fail)
    go_wp2
    go_step3
    refine ⟨rfl, ?_⟩
    go_wp2
    simp only [Exit.jump]
    go_ret
    have hrr := HRR.out
    subst hrr
    exact num_fault H.out _ _ _ HF.out
  omega
end Go.Proofs.Ytondodhpmghogaa
