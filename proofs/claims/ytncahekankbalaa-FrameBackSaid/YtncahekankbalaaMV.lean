/- Walks: a reader of bytes: Open, none, At, Left. Conditions: the reader is as Open made it. | Walk: Num of the reader. Conditions: the reader is as Open made it. | Walk: Num of the reader, where the number begins with a nought. Conditions: the reader is as Open made it. | Walk: Num of the reader, where the number is out of bounds. Conditions: the reader is as Open made it. | Walk: Num of the reader, where the number is told. Conditions: the reader is as Open made it. | Walk: Num of the reader, where the number is nought. Conditions: the reader is as Open made it. | Walk: Num of the reader, all cases joined. Conditions: the reader is as Open made it. | Walk: Raw of the reader. Conditions: the reader is as Open made it; at most 10^9 bytes. | Walks: Text, Fault, End of the reader. Conditions: the reader is as Open made it; at most 10^9 bytes. -/
import Derived.Test.YtncahekankbalaaMW
import Derived.ScopeJumps
import Derived.WalkMore
import Derived.Deep.RegionHeld3
section
namespace Go.Proofs.Ytncahekankbalaa
open Go.RowKit
set_option linter.unusedVariables false
set_option linter.unusedSimpArgs false

/-- block R is a reader that Open made, over the slice (A, n, c) of bytes -/
structure RdB (w : World) (R : Nat) (A : Option Addr) (n c : Nat) (s : Rdr) : Prop where
  blk : Blk w R 84 #[.bool true, .slice A n c, .int .i64 s.at_, .int .i64 s.e, .int .i64 s.p]
  rd : Rd w A n c 1 (u8s s.b)
  far : ∀ a, A = some a → a.block ≠ R
  fit : Fit s
theorem rdb_lt {w : World} {R : Nat} {A : Option Addr} {n c : Nat} {s : Rdr} (h : RdB w R A n c s) : R < w.heap.size := blk_lt h.blk
theorem rdb_len {w : World} {R : Nat} {A : Option Addr} {n c : Nat} {s : Rdr} (h : RdB w R A n c s) : s.b.length = n := by have := h.rd.len; simpa using this
theorem rdb_ch {S : Nat → Prop} {w w' : World} {R : Nat} {A : Option Addr} {n c : Nat} {s : Rdr} (h : RdB w R A n c s) (hc : Ch S w w') (h1 : ¬ S R) (h2 : ∀ a, A = some a → ¬ S a.block) : RdB w' R A n c s := ⟨blk_ch h.blk hc h1, h.rd.ch hc h2, h.far, h.fit⟩
theorem rdb_set {w : World} {R : Nat} {A : Option Addr} {n c : Nat} {s : Rdr} (h : RdB w R A n c s) (s' : Rdr) (w' : World) (hb : s'.b = s.b) (hf : Fit s') (hc : Ch (fun k => k = R) w w') (hblk : Blk w' R 84 #[.bool true, .slice A n c, .int .i64 s'.at_, .int .i64 s'.e, .int .i64 s'.p]) : RdB w' R A n c s' :=
  ⟨hblk, by rw [hb]; exact h.rd.ch hc h.far, h.far, hf⟩

def OpenQ (w : World) (l : List UInt8) (e : Ending) (w' : World) : Prop := ∃ R A n c, e = .returned (.pointer (some ⟨R, 0, none⟩)) ∧ RdB w' R A n c ⟨l, 0, 0, 0⟩ ∧ w.heap.size ≤ R ∧ (∀ a, A = some a → w.heap.size ≤ a.block) ∧ Below w.heap.size w w'
set_option maxRecDepth 100000 in
set_option maxHeartbeats 1000000 in
theorem open_any {A : Option Addr} {n c : Nat} {l : List UInt8} {w : World} (hr : Rd w A n c 1 (u8s l)) (hn : n ≤ 1000000000) : Calls Try.prog 42 #[.slice A n c] w (OpenQ w l) := by
  have hl : l.length = n := by have := hr.len; simpa using this
  have HR := Lib.hid hr
  clear hr
  go_enter Try.func42, Try.ntmps42
  go_wp2_with fail
  refine (clone_held A n c l _ HR.out hn).mono ?_; rintro e w1 ⟨A', c', rfl, hh, hb1⟩
  go_wp2
  go_ret
  have hsz := hb1.size
  refine ⟨w1.heap.size, A', n, c', rfl, ⟨blk_new w1 _ _, (held_rd hh).ch (Ch.alloc w1 _ No) (fun _ _ => id), (fun a ha => by have := held_lt hh a ha; omega), ⟨Nat.zero_le _, by simp; omega, by simp⟩⟩, hsz, (fun a ha => (held_lt hh a ha).1), hb1.alloc hsz _⟩

set_option maxHeartbeats 400000 in
theorem none_any {w : World} {R : Nat} (h : w.cell? ⟨R, 0, none⟩ = some (.bool true)) : Calls Try.prog 60 #[.pointer (some ⟨R, 0, none⟩)] w fun e w' => e = .returned (.bool false) ∧ w' = w := by
  go_enter Try.func60, Try.ntmps60
  go_wp2
  go_ret
  exact ⟨rfl, rfl⟩
end Go.Proofs.Ytncahekankbalaa
end
section
namespace Go.Proofs.Ytncahekankbalaa
open Go.RowKit
set_option linter.unusedVariables false
set_option linter.unusedSimpArgs false

/-- a scope whose one label is jumped to from ahead alone -/
theorem wp_scope_fwd {P : Program} {a : Act} {w : World} {Q : Exit → Act → World → Prop} {c rest : Code} (l : Nat) (hf : findLabel c l = some rest)
    (first : c.wp P (Exit.jump l (fun a w => rest.wp P (Exit.jump l (fun _ _ => False) Q) a w) Q) a w) : (Code.scope c).wp P Q a w := by
  refine wp_scope_jumps l _ (fun _ _ => 0) hf first (fun a w hJ => ?_)
  intro b k cs
  obtain ⟨e, a1, w1, hq, harr⟩ := hJ b k cs
  refine ⟨e, a1, w1, ?_, harr⟩
  cases e with
  | goto l' => exact hq.2.elim
  | normal => exact hq
  | exit id => exact hq
  | ret => exact hq
  | panic ch => exact hq
  | outgrown => exact hq

def RNumQ (w : World) (R : Nat) (A : Option Addr) (n c : Nat) (r : Int × Rdr) (e : Ending) (w' : World) : Prop := e = .returned (.int .i64 r.1) ∧ RdB w' R A n c r.2 ∧ Ch (fun k => k = R) w w'
theorem num_fault {w : World} {R : Nat} {A : Option Addr} {n c : Nat} {s : Rdr} (h : RdB w R A n c s) (k : Nat) (E P : Int) (hf : Fit ⟨s.b, s.at_, E, P⟩) :
    RNumQ w R A n c (0, ⟨s.b, s.at_, E, P⟩) (.returned (.int .i64 0)) (((w.drewN k).setCell ⟨R, 3, none⟩ (.int .i64 E)).setCell ⟨R, 4, none⟩ (.int .i64 P)) := by
  have hc := ch_set (ch_set (ch_drewN (fun k => k = R) w k) ⟨R, 3, none⟩ (.int .i64 E) rfl) ⟨R, 4, none⟩ (.int .i64 P) rfl
  exact ⟨rfl, rdb_set h _ _ rfl hf hc (blk_set (blk_set (blk_ch h.blk (ch_drewN No w k) id) 3 _) 4 _), hc⟩
theorem num_ok {w : World} {R : Nat} {A : Option Addr} {n c : Nat} {s : Rdr} (h : RdB w R A n c s) (k m V : Nat) (he : s.e = 0) (hf : Fit ⟨s.b, s.at_ + 1 + m, 0, s.p⟩) :
    RNumQ w R A n c ((V : Int), ⟨s.b, s.at_ + 1 + m, 0, s.p⟩) (.returned (.int .i64 V)) ((w.drewN k).setCell ⟨R, 2, none⟩ (.int .i64 ((s.at_ : Int) + (1 + m)))) := by
  have hc := ch_set (ch_drewN (fun k => k = R) w k) ⟨R, 2, none⟩ (.int .i64 ((s.at_ : Int) + (1 + m))) rfl
  have e : ((s.at_ + 1 + m : Nat) : Int) = (s.at_ : Int) + (1 + m) := by omega
  exact ⟨rfl, rdb_set h _ _ rfl hf hc (by have := blk_set (blk_ch h.blk (ch_drewN No w k) id) 2 (.int .i64 ((s.at_ : Int) + (1 + m))); simp only [e]; rw [he] at this; exact this), hc⟩
theorem num_ok0 {w : World} {R : Nat} {A : Option Addr} {n c : Nat} {s : Rdr} (h : RdB w R A n c s) (k : Nat) (he : s.e = 0) (hf : Fit ⟨s.b, s.at_ + 1, 0, s.p⟩) :
    RNumQ w R A n c (0, ⟨s.b, s.at_ + 1, 0, s.p⟩) (.returned (.int .i64 0)) ((w.drewN k).setCell ⟨R, 2, none⟩ (.int .i64 ((s.at_ : Int) + 1))) := by
  have := num_ok h k 0 0 he hf
  simpa using this
theorem wrap64_id (x : Int) (h1 : -9223372036854775808 ≤ x) (h2 : x ≤ 9223372036854775807) : Go.RowKit.wrap64 x = x := by unfold Go.RowKit.wrap64; omega
/-- bits: a byte behind a number -/
theorem shl_or (a c : Nat) (hc : c < 256) : (a * 256) ||| c = a * 256 + c := by
  have := Nat.two_pow_add_eq_or_of_lt (i := 8) (b := c) (by simpa using hc) a
  rw [show (2 : Nat) ^ 8 = 256 from rfl] at this
  rw [Nat.mul_comm a 256]
  exact this.symm
theorem shl_step (W x : Nat) (hW : W < 72057594037927936) (hx : x < 256) : bits .or .u64 (IntKind.u64.wrap ((W : Int) * 256)) (x : Int) = ((W * 256 + x : Nat) : Int) := by
  have e : IntKind.u64.wrap ((W : Int) * 256) = ((W * 256 : Nat) : Int) := by rw [IntKind.wrap_u64]; omega
  rw [e, bits_or_u64_nat _ _ (by omega) (by omega), shl_or W x hx]
theorem valB_step (xs : List UInt8) (j : Nat) (hj : j < xs.length) (h8 : xs.length ≤ 8) : valB (xs.take (j + 1)) = valB (xs.take j) * 256 + (xs[j]?.getD 0).toNat ∧ valB (xs.take j) < 72057594037927936 := by
  constructor
  · rw [u8s_snoc xs j hj, valB_snoc]; omega
  · have h1 := valB_lt (xs.take j)
    rw [List.length_take, Nat.min_eq_left (by omega)] at h1
    exact Nat.lt_of_lt_of_le h1 (Nat.le_trans (Nat.pow_le_pow_right (by decide) (show j ≤ 7 by omega)) (by decide))
theorem hxj (xs l : List UInt8) (a m j : Nat) (h : xs = (l.drop (a + 1)).take m) (hj : j < m) : (xs[j]?.getD 0).toNat = (l[a + 1 + j]?.getD 0).toNat := by
  rw [h, List.getElem?_take_of_lt hj, List.getElem?_drop]
set_option maxRecDepth 100000 in
set_option maxHeartbeats 4000000 in
theorem num_few {w : World} {R : Nat} {A : Option Addr} {n c : Nat} {s : Rdr} (h : RdB w R A n c s) (lo hi : Int) (hsome : s.e ≠ 0 ∨ s.b.length ≤ s.at_ ∨ 8 < (s.b[s.at_]?.getD 0).toNat ∨ s.b.length < s.at_ + 1 + (s.b[s.at_]?.getD 0).toNat) : Calls Try.prog 43 #[.pointer (some ⟨R, 0, none⟩), .int .i64 lo, .int .i64 hi] w (RNumQ w R A n c (rnum s lo hi)) := by
  have c0 : w.cell? ⟨R, 0, none⟩ = some (.bool true) := blk_cell h.blk 0 _ rfl
  have c1 : w.cell? ⟨R, 1, none⟩ = some (.slice A n c) := blk_cell h.blk 1 _ rfl
  have c2 : w.cell? ⟨R, 2, none⟩ = some (.int .i64 s.at_) := blk_cell h.blk 2 _ rfl
  have c3 : w.cell? ⟨R, 3, none⟩ = some (.int .i64 s.e) := blk_cell h.blk 3 _ rfl
  have c4 : w.cell? ⟨R, 4, none⟩ = some (.int .i64 s.p) := blk_cell h.blk 4 _ rfl
  have f2 : w.frozen? ⟨R, 2, none⟩ = false := blk_thawed h.blk 2
  have f3 : w.frozen? ⟨R, 3, none⟩ = false := blk_thawed h.blk 3
  have f4 : w.frozen? ⟨R, 4, none⟩ = false := blk_thawed h.blk 4
  have hl := rdb_len h
  have h1 := h.fit.le
  have h2 := h.fit.big
  rw [hl] at h1 h2
  obtain ⟨r, hrr⟩ : ∃ r, r = rnum s lo hi := ⟨_, rfl⟩
  have hfit := rnum_fit s lo hi h.fit
  rw [← hrr] at hfit ⊢
  unfold rnum at hrr
  have H := Lib.hid h
  have hc := h.rd.cap
  have hbig := h.rd.big
  have HF := Lib.hid hfit
  clear h hfit
  by_cases he : s.e ≠ 0
  · have g1 : (s.e != 0) = true := by simpa using he
    rw [if_pos he] at hrr
    go_enter Try.func43, Try.ntmps43
    go_wp2_with fail
    refine wp_scope_fwd 0 rfl ?_
    go_wp2_with (go_at_call 60; refine (none_any c0).mono ?_; rintro e w1 ⟨rfl, rfl⟩)
    simp only [Exit.jump]
    go_ret
    subst hrr
    exact ⟨rfl, H.out, Ch.refl _ _⟩
  rw [if_neg he] at hrr
  have he0 : s.e = 0 := Decidable.not_not.1 he
  have g1 : (s.e != 0) = false := by simpa using he0
  clear he
  by_cases hend : s.b.length ≤ s.at_
  · rw [if_pos hend] at hrr
    rw [hl] at hend hrr
    have HRR := Lib.hid hrr
    clear hrr
    go_enter Try.func43, Try.ntmps43
    go_wp2_with fail
    refine wp_scope_fwd 0 rfl ?_
    go_wp2_with (go_at_call 60; refine (none_any c0).mono ?_; rintro e w1 ⟨rfl, rfl⟩)
    go_quiet (fail)
    go_wp2
    go_quiet (fail)
    go_wp2
    go_step3
    refine ⟨rfl, ?_⟩
    go_wp2
    simp only [Exit.jump]
    go_ret
    have hrr := HRR.out
    subst hrr
    exact num_fault H.out _ _ _ HF.out
  rw [if_neg hend] at hrr
  have hlt : s.at_ < n := by omega
  have hI0 : (0 : Int) ≤ (s.at_ : Int) := by omega
  have hI1 : (s.at_ : Int) < (n : Int) := by omega
  have hge : ¬ ((n : Int) ≤ (s.at_ : Int)) := by omega
  obtain ⟨b, off, rfl, hcell⟩ := H.out.rd.cells s.at_ _ (u8s_get s.b s.at_ (by omega))
  obtain ⟨m, hm⟩ : ∃ m, m = (s.b[s.at_]?.getD 0).toNat := ⟨_, rfl⟩
  have hm256 : m < 256 := by rw [hm]; exact UInt8.toNat_lt _
  rw [← hm] at hcell hrr hsome
  have HM := Lib.hid hm
  clear hm
  have hwm : Go.RowKit.wrap64 (m : Int) = (m : Int) := by unfold Go.RowKit.wrap64; omega
  by_cases h8 : 8 < m
  · rw [if_pos h8] at hrr
    have h8' : (8 : Int) < (m : Int) := by omega
    have g2 : decide ((8 : Int) < (m : Int)) = true := decide_eq_true h8'
    have HRR := Lib.hid hrr
    clear hrr
    go_enter Try.func43, Try.ntmps43
    go_wp2_with fail
    refine wp_scope_fwd 0 rfl ?_
    go_wp2_with (go_at_call 60; refine (none_any c0).mono ?_; rintro e w1 ⟨rfl, rfl⟩)
    go_quiet (fail)
    go_wp2
    go_quiet (fail)
    go_wp2
    go_quiet (fail)
    go_wp2
    go_quiet (fail)
    go_wp2
    go_step3
    refine ⟨rfl, ?_⟩
    go_wp2
    simp only [Exit.jump]
    go_ret
    have hrr := HRR.out
    subst hrr
    exact num_fault H.out _ _ _ HF.out
  rw [if_neg h8] at hrr
  have h8' : ¬ ((8 : Int) < (m : Int)) := by omega
  have g2 : decide ((8 : Int) < (m : Int)) = false := decide_eq_false h8'
  have hw1 : IntKind.i64.wrap ((n : Int) - s.at_) = (n : Int) - s.at_ := by rw [IntKind.wrap_i64]; omega
  have hw2 : IntKind.i64.wrap ((n : Int) - s.at_ - 1) = (n : Int) - s.at_ - 1 := by rw [IntKind.wrap_i64]; omega
  by_cases hsh : s.b.length < s.at_ + 1 + m
  · rw [if_pos hsh] at hrr
    rw [hl] at hrr hsh
    have g3 : decide ((n : Int) - s.at_ - 1 < (m : Int)) = true := by simp; omega
    have HRR := Lib.hid hrr
    clear hrr
    go_enter Try.func43, Try.ntmps43
    go_wp2_with fail
    refine wp_scope_fwd 0 rfl ?_
    go_wp2_with (go_at_call 60; refine (none_any c0).mono ?_; rintro e w1 ⟨rfl, rfl⟩)
    go_quiet (fail)
    go_wp2
    go_quiet (fail)
    go_wp2
    go_quiet (fail)
    go_wp2
    go_quiet (fail)
    go_wp2
    go_step3
    refine ⟨rfl, ?_⟩
    go_wp2
    simp only [Exit.jump]
    go_ret
    have hrr := HRR.out
    subst hrr
    exact num_fault H.out _ _ _ HF.out
  omega
end Go.Proofs.Ytncahekankbalaa
end
section
namespace Go.Proofs.Ytncahekankbalaa
open Go.RowKit
set_option linter.unusedVariables false
set_option linter.unusedSimpArgs false

set_option maxRecDepth 100000 in
set_option maxHeartbeats 4000000 in
theorem num_nought {w : World} {R : Nat} {b off : Nat} {n c : Nat} {s : Rdr} (h : RdB w R (some ⟨b, off, none⟩) n c s) (lo hi : Int) (he0 : s.e = 0) (m : Nat) (hm : m = (s.b[s.at_]?.getD 0).toNat) (h8 : m ≤ 8) (hsh : s.at_ + 1 + m ≤ s.b.length) (xs : List UInt8) (hxs : xs = (s.b.drop (s.at_ + 1)).take m) (V : Nat) (hV : V = valB xs) (hmp : 0 < m) (hy : s.b[s.at_ + 1]?.getD 0 = 0) (hF : Fit ⟨s.b, s.at_, 2, s.at_⟩) :
    Calls Try.prog 43 #[.pointer (some ⟨R, 0, none⟩), .int .i64 lo, .int .i64 hi] w (RNumQ w R (some ⟨b, off, none⟩) n c (0, ⟨s.b, s.at_, 2, s.at_⟩)) := by
  have c0 : w.cell? ⟨R, 0, none⟩ = some (.bool true) := blk_cell h.blk 0 _ rfl
  have c1 : w.cell? ⟨R, 1, none⟩ = some (.slice (some ⟨b, off, none⟩) n c) := blk_cell h.blk 1 _ rfl
  have c2 : w.cell? ⟨R, 2, none⟩ = some (.int .i64 s.at_) := blk_cell h.blk 2 _ rfl
  have c3 : w.cell? ⟨R, 3, none⟩ = some (.int .i64 s.e) := blk_cell h.blk 3 _ rfl
  have c4 : w.cell? ⟨R, 4, none⟩ = some (.int .i64 s.p) := blk_cell h.blk 4 _ rfl
  have f2 : w.frozen? ⟨R, 2, none⟩ = false := blk_thawed h.blk 2
  have f3 : w.frozen? ⟨R, 3, none⟩ = false := blk_thawed h.blk 3
  have f4 : w.frozen? ⟨R, 4, none⟩ = false := blk_thawed h.blk 4
  have hl := rdb_len h
  have h2 := h.fit.big
  have hc := h.rd.cap
  have hbig := h.rd.big
  rw [hl] at h2
  have H := Lib.hid h
  have hlt : s.at_ < n := by omega
  have hI0 : (0 : Int) ≤ (s.at_ : Int) := by omega
  have hI1 : (s.at_ : Int) < (n : Int) := by omega
  have hge : ¬ ((n : Int) ≤ (s.at_ : Int)) := by omega
  have g1 : (s.e != 0) = false := by simpa using he0
  have hcell := (h.rd.cells s.at_ _ (u8s_get s.b s.at_ (by omega)))
  obtain ⟨b', off', e', hcell⟩ := hcell
  cases e'
  rw [← hm] at hcell
  have hwm : Go.RowKit.wrap64 (m : Int) = (m : Int) := by unfold Go.RowKit.wrap64; omega
  have h8' : ¬ ((8 : Int) < (m : Int)) := by omega
  have g2 : decide ((8 : Int) < (m : Int)) = false := decide_eq_false h8'
  have hw1 : IntKind.i64.wrap ((n : Int) - s.at_) = (n : Int) - s.at_ := by rw [IntKind.wrap_i64]; omega
  have hw2 : IntKind.i64.wrap ((n : Int) - s.at_ - 1) = (n : Int) - s.at_ - 1 := by rw [IntKind.wrap_i64]; omega
  have g3 : decide ((n : Int) - s.at_ - 1 < (m : Int)) = false := by simp; omega
  have hw3 : IntKind.i64.wrap ((s.at_ : Int) + 1) = (s.at_ : Int) + 1 := by rw [IntKind.wrap_i64]; omega
  have hw4 : IntKind.i64.wrap ((s.at_ : Int) + 1 + m) = (s.at_ : Int) + 1 + m := by rw [IntKind.wrap_i64]; omega
  have hxl : xs.length = m := by rw [hxs, List.length_take, List.length_drop]; omega
  have hVb : V < 18446744073709551616 := by rw [hV]; exact valB_lt8 xs (by omega)
  have HXS := Lib.hid hxs; have HXL := Lib.hid hxl; have HV := Lib.hid hV; have HM := Lib.hid hm
  have HF := Lib.hid hF
  clear hxs hxl hV hm h hF
  have hcy := H.out.rd.cells (s.at_ + 1) _ (u8s_get s.b (s.at_ + 1) (by omega))
  obtain ⟨b', off', e', hcy⟩ := hcy
  cases e'
  have hJ0 : (0 : Int) ≤ (s.at_ : Int) + 1 := by omega
  have hJ1 : (s.at_ : Int) + 1 < (n : Int) := by omega
  have hmp' : (0 : Int) < (m : Int) := by omega
  rw [hy] at hcy
  have hcy : w.cell? ⟨b, off + (s.at_ + 1), none⟩ = some (.int .u8 0) := hcy
  have hca : c ≠ s.at_ + 1 := by omega
  go_enter Try.func43, Try.ntmps43
  go_wp2_with fail
  refine wp_scope_fwd 0 rfl ?_
  go_wp2_with (go_at_call 60; refine (none_any c0).mono ?_; rintro e w1 ⟨rfl, rfl⟩)
  go_quiet (fail)
  go_wp2
  go_quiet (fail)
  go_wp2
  go_quiet (fail)
  go_wp2
  go_quiet (fail)
  go_wp2
  go_quiet (fail)
  go_wp2
  go_loop [7, 12, 86] (fun v x i => ∃ j : Nat, j ≤ m ∧ i = .int .i64 j ∧ v = .int .u64 ((valB (xs.take j) : Nat) : Int)) (fun _ _ i => m - (intOf i).toNat)
  case atStart => exact ⟨0, Nat.zero_le _, rfl, rfl⟩
  case round =>
    obtain ⟨j, hj, rfl, rfl⟩ := hrel
    by_cases hlt2 : j < m
    · have HSTEP := Lib.hid (valB_step xs j (by rw [HXL.out]; exact hlt2) (by rw [HXL.out]; omega))
      have hcj := H.out.rd.cells (s.at_ + 1 + j) _ (u8s_get s.b (s.at_ + 1 + j) (by omega))
      obtain ⟨b', off', e', hcj⟩ := hcj
      cases e'
      rw [show off + (s.at_ + 1 + j) = off + (s.at_ + 1) + j by omega] at hcj
      rw [← hxj xs s.b s.at_ m j HXS.out hlt2] at hcj
      generalize hxv : (xs[j]?.getD 0).toNat = x at hcj HSTEP
      generalize hvv : valB (xs.take j) = W at HSTEP
      have hx256 : x < 256 := by rw [← hxv]; exact UInt8.toNat_lt _
      clear hxv hvv
      have hi0 : (0 : Int) ≤ (j : Int) := by omega
      have hi1 : (j : Int) < (m : Int) := by omega
      have HO := Lib.hid (shl_step W x HSTEP.out.2 hx256)
      go_wp2
      go_round
      case rel => exact ⟨_, _, _, ⟨j + 1, by omega, by go_num, by rw [HSTEP.out.1, HO.out]⟩, rfl, rfl, rfl⟩
      case measure => simp [intOf]; omega
    · obtain rfl : m = j := by omega
      rw [List.take_of_length_le (by rw [HXL.out]; exact Nat.le_refl _), ← HV.out]
      clear hlt2 hj
      go_wp2
      go_quiet (fail)
      go_wp2
      go_quiet (fail)
      go_wp2
      go_step3
      refine ⟨rfl, ?_⟩
      go_wp2
      simp only [Exit.jump]
      go_ret
      exact num_fault H.out _ _ _ HF.out
end Go.Proofs.Ytncahekankbalaa
end
section
namespace Go.Proofs.Ytncahekankbalaa
open Go.RowKit
set_option linter.unusedVariables false
set_option linter.unusedSimpArgs false

set_option maxRecDepth 100000 in
set_option maxHeartbeats 4000000 in
theorem num_big {w : World} {R : Nat} {b off : Nat} {n c : Nat} {s : Rdr} (h : RdB w R (some ⟨b, off, none⟩) n c s) (lo hi : Int) (he0 : s.e = 0) (m : Nat) (hm : m = (s.b[s.at_]?.getD 0).toNat) (h8 : m ≤ 8) (hsh : s.at_ + 1 + m ≤ s.b.length) (xs : List UInt8) (hxs : xs = (s.b.drop (s.at_ + 1)).take m) (V : Nat) (hV : V = valB xs) (hmp : 0 < m) (hy : s.b[s.at_ + 1]?.getD 0 ≠ 0) (hv : 4611686018427387903 < V) (hF : Fit ⟨s.b, s.at_, 5, s.at_⟩) :
    Calls Try.prog 43 #[.pointer (some ⟨R, 0, none⟩), .int .i64 lo, .int .i64 hi] w (RNumQ w R (some ⟨b, off, none⟩) n c (0, ⟨s.b, s.at_, 5, s.at_⟩)) := by
  have HV_ := Lib.hid hv
  clear hv
  have c0 : w.cell? ⟨R, 0, none⟩ = some (.bool true) := blk_cell h.blk 0 _ rfl
  have c1 : w.cell? ⟨R, 1, none⟩ = some (.slice (some ⟨b, off, none⟩) n c) := blk_cell h.blk 1 _ rfl
  have c2 : w.cell? ⟨R, 2, none⟩ = some (.int .i64 s.at_) := blk_cell h.blk 2 _ rfl
  have c3 : w.cell? ⟨R, 3, none⟩ = some (.int .i64 s.e) := blk_cell h.blk 3 _ rfl
  have c4 : w.cell? ⟨R, 4, none⟩ = some (.int .i64 s.p) := blk_cell h.blk 4 _ rfl
  have f2 : w.frozen? ⟨R, 2, none⟩ = false := blk_thawed h.blk 2
  have f3 : w.frozen? ⟨R, 3, none⟩ = false := blk_thawed h.blk 3
  have f4 : w.frozen? ⟨R, 4, none⟩ = false := blk_thawed h.blk 4
  have hl := rdb_len h
  have h2 := h.fit.big
  have hc := h.rd.cap
  have hbig := h.rd.big
  rw [hl] at h2
  have H := Lib.hid h
  have hlt : s.at_ < n := by omega
  have hI0 : (0 : Int) ≤ (s.at_ : Int) := by omega
  have hI1 : (s.at_ : Int) < (n : Int) := by omega
  have hge : ¬ ((n : Int) ≤ (s.at_ : Int)) := by omega
  have g1 : (s.e != 0) = false := by simpa using he0
  have hcell := (h.rd.cells s.at_ _ (u8s_get s.b s.at_ (by omega)))
  obtain ⟨b', off', e', hcell⟩ := hcell
  cases e'
  rw [← hm] at hcell
  have hwm : Go.RowKit.wrap64 (m : Int) = (m : Int) := by unfold Go.RowKit.wrap64; omega
  have h8' : ¬ ((8 : Int) < (m : Int)) := by omega
  have g2 : decide ((8 : Int) < (m : Int)) = false := decide_eq_false h8'
  have hw1 : IntKind.i64.wrap ((n : Int) - s.at_) = (n : Int) - s.at_ := by rw [IntKind.wrap_i64]; omega
  have hw2 : IntKind.i64.wrap ((n : Int) - s.at_ - 1) = (n : Int) - s.at_ - 1 := by rw [IntKind.wrap_i64]; omega
  have g3 : decide ((n : Int) - s.at_ - 1 < (m : Int)) = false := by simp; omega
  have hw3 : IntKind.i64.wrap ((s.at_ : Int) + 1) = (s.at_ : Int) + 1 := by rw [IntKind.wrap_i64]; omega
  have hw4 : IntKind.i64.wrap ((s.at_ : Int) + 1 + m) = (s.at_ : Int) + 1 + m := by rw [IntKind.wrap_i64]; omega
  have hxl : xs.length = m := by rw [hxs, List.length_take, List.length_drop]; omega
  have hVb : V < 18446744073709551616 := by rw [hV]; exact valB_lt8 xs (by omega)
  have HXS := Lib.hid hxs; have HXL := Lib.hid hxl; have HV := Lib.hid hV; have HM := Lib.hid hm
  have HF := Lib.hid hF
  clear hxs hxl hV hm h hF
  have hcy := H.out.rd.cells (s.at_ + 1) _ (u8s_get s.b (s.at_ + 1) (by omega))
  obtain ⟨b', off', e', hcy⟩ := hcy
  cases e'
  have hJ0 : (0 : Int) ≤ (s.at_ : Int) + 1 := by omega
  have hJ1 : (s.at_ : Int) + 1 < (n : Int) := by omega
  have hmp' : (0 : Int) < (m : Int) := by omega
  have hyn : (s.b[s.at_ + 1]?.getD 0).toNat ≠ 0 := fun e => hy (UInt8.toNat_inj.1 (by simpa using e))
  generalize (s.b[s.at_ + 1]?.getD 0).toNat = Y at hcy hyn
  have hy0 : ((Y : Int) == 0) = false := by simp; omega
  have hca : c ≠ s.at_ + 1 := by omega
  have hv1' : (4611686018427387903 : Int) < (V : Int) := by have := HV_.out; omega
  have g5 : decide ((4611686018427387903 : Int) < (V : Int)) = true := decide_eq_true hv1'
  go_enter Try.func43, Try.ntmps43
  go_wp2_with fail
  refine wp_scope_fwd 0 rfl ?_
  go_wp2_with (go_at_call 60; refine (none_any c0).mono ?_; rintro e w1 ⟨rfl, rfl⟩)
  go_quiet (fail)
  go_wp2
  go_quiet (fail)
  go_wp2
  go_quiet (fail)
  go_wp2
  go_quiet (fail)
  go_wp2
  go_quiet (fail)
  go_wp2
  go_loop [7, 12, 86] (fun v x i => ∃ j : Nat, j ≤ m ∧ i = .int .i64 j ∧ v = .int .u64 ((valB (xs.take j) : Nat) : Int)) (fun _ _ i => m - (intOf i).toNat)
  case atStart => exact ⟨0, Nat.zero_le _, rfl, rfl⟩
  case round =>
    obtain ⟨j, hj, rfl, rfl⟩ := hrel
    by_cases hlt2 : j < m
    · have HSTEP := Lib.hid (valB_step xs j (by rw [HXL.out]; exact hlt2) (by rw [HXL.out]; omega))
      have hcj := H.out.rd.cells (s.at_ + 1 + j) _ (u8s_get s.b (s.at_ + 1 + j) (by omega))
      obtain ⟨b', off', e', hcj⟩ := hcj
      cases e'
      rw [show off + (s.at_ + 1 + j) = off + (s.at_ + 1) + j by omega] at hcj
      rw [← hxj xs s.b s.at_ m j HXS.out hlt2] at hcj
      generalize hxv : (xs[j]?.getD 0).toNat = x at hcj HSTEP
      generalize hvv : valB (xs.take j) = W at HSTEP
      have hx256 : x < 256 := by rw [← hxv]; exact UInt8.toNat_lt _
      clear hxv hvv
      have hi0 : (0 : Int) ≤ (j : Int) := by omega
      have hi1 : (j : Int) < (m : Int) := by omega
      have HO := Lib.hid (shl_step W x HSTEP.out.2 hx256)
      go_wp2
      go_round
      case rel => exact ⟨_, _, _, ⟨j + 1, by omega, by go_num, by rw [HSTEP.out.1, HO.out]⟩, rfl, rfl, rfl⟩
      case measure => simp [intOf]; omega
    · obtain rfl : m = j := by omega
      rw [List.take_of_length_le (by rw [HXL.out]; exact Nat.le_refl _), ← HV.out]
      clear hlt2 hj
      go_wp2
      go_quiet (fail)
      clear hVb hv1'
      go_wp2
      go_quiet (fail)
      go_wp2
      go_step3
      refine ⟨rfl, ?_⟩
      go_wp2
      simp only [Exit.jump]
      go_ret
      exact num_fault H.out _ _ _ HF.out
set_option maxRecDepth 100000 in
set_option maxHeartbeats 4000000 in
theorem num_low {w : World} {R : Nat} {b off : Nat} {n c : Nat} {s : Rdr} (h : RdB w R (some ⟨b, off, none⟩) n c s) (lo hi : Int) (he0 : s.e = 0) (m : Nat) (hm : m = (s.b[s.at_]?.getD 0).toNat) (h8 : m ≤ 8) (hsh : s.at_ + 1 + m ≤ s.b.length) (xs : List UInt8) (hxs : xs = (s.b.drop (s.at_ + 1)).take m) (V : Nat) (hV : V = valB xs) (hmp : 0 < m) (hy : s.b[s.at_ + 1]?.getD 0 ≠ 0) (hv : V ≤ 4611686018427387903) (hv2 : (V : Int) < lo) (hF : Fit ⟨s.b, s.at_, 5, s.at_⟩) :
    Calls Try.prog 43 #[.pointer (some ⟨R, 0, none⟩), .int .i64 lo, .int .i64 hi] w (RNumQ w R (some ⟨b, off, none⟩) n c (0, ⟨s.b, s.at_, 5, s.at_⟩)) := by
  have HV2_ := Lib.hid hv2
  clear hv2
  have HV_ := Lib.hid hv
  clear hv
  have c0 : w.cell? ⟨R, 0, none⟩ = some (.bool true) := blk_cell h.blk 0 _ rfl
  have c1 : w.cell? ⟨R, 1, none⟩ = some (.slice (some ⟨b, off, none⟩) n c) := blk_cell h.blk 1 _ rfl
  have c2 : w.cell? ⟨R, 2, none⟩ = some (.int .i64 s.at_) := blk_cell h.blk 2 _ rfl
  have c3 : w.cell? ⟨R, 3, none⟩ = some (.int .i64 s.e) := blk_cell h.blk 3 _ rfl
  have c4 : w.cell? ⟨R, 4, none⟩ = some (.int .i64 s.p) := blk_cell h.blk 4 _ rfl
  have f2 : w.frozen? ⟨R, 2, none⟩ = false := blk_thawed h.blk 2
  have f3 : w.frozen? ⟨R, 3, none⟩ = false := blk_thawed h.blk 3
  have f4 : w.frozen? ⟨R, 4, none⟩ = false := blk_thawed h.blk 4
  have hl := rdb_len h
  have h2 := h.fit.big
  have hc := h.rd.cap
  have hbig := h.rd.big
  rw [hl] at h2
  have H := Lib.hid h
  have hlt : s.at_ < n := by omega
  have hI0 : (0 : Int) ≤ (s.at_ : Int) := by omega
  have hI1 : (s.at_ : Int) < (n : Int) := by omega
  have hge : ¬ ((n : Int) ≤ (s.at_ : Int)) := by omega
  have g1 : (s.e != 0) = false := by simpa using he0
  have hcell := (h.rd.cells s.at_ _ (u8s_get s.b s.at_ (by omega)))
  obtain ⟨b', off', e', hcell⟩ := hcell
  cases e'
  rw [← hm] at hcell
  have hwm : Go.RowKit.wrap64 (m : Int) = (m : Int) := by unfold Go.RowKit.wrap64; omega
  have h8' : ¬ ((8 : Int) < (m : Int)) := by omega
  have g2 : decide ((8 : Int) < (m : Int)) = false := decide_eq_false h8'
  have hw1 : IntKind.i64.wrap ((n : Int) - s.at_) = (n : Int) - s.at_ := by rw [IntKind.wrap_i64]; omega
  have hw2 : IntKind.i64.wrap ((n : Int) - s.at_ - 1) = (n : Int) - s.at_ - 1 := by rw [IntKind.wrap_i64]; omega
  have g3 : decide ((n : Int) - s.at_ - 1 < (m : Int)) = false := by simp; omega
  have hw3 : IntKind.i64.wrap ((s.at_ : Int) + 1) = (s.at_ : Int) + 1 := by rw [IntKind.wrap_i64]; omega
  have hw4 : IntKind.i64.wrap ((s.at_ : Int) + 1 + m) = (s.at_ : Int) + 1 + m := by rw [IntKind.wrap_i64]; omega
  have hxl : xs.length = m := by rw [hxs, List.length_take, List.length_drop]; omega
  have hVb : V < 18446744073709551616 := by rw [hV]; exact valB_lt8 xs (by omega)
  have HXS := Lib.hid hxs; have HXL := Lib.hid hxl; have HV := Lib.hid hV; have HM := Lib.hid hm
  have HF := Lib.hid hF
  clear hxs hxl hV hm h hF
  have hcy := H.out.rd.cells (s.at_ + 1) _ (u8s_get s.b (s.at_ + 1) (by omega))
  obtain ⟨b', off', e', hcy⟩ := hcy
  cases e'
  have hJ0 : (0 : Int) ≤ (s.at_ : Int) + 1 := by omega
  have hJ1 : (s.at_ : Int) + 1 < (n : Int) := by omega
  have hmp' : (0 : Int) < (m : Int) := by omega
  have hyn : (s.b[s.at_ + 1]?.getD 0).toNat ≠ 0 := fun e => hy (UInt8.toNat_inj.1 (by simpa using e))
  generalize (s.b[s.at_ + 1]?.getD 0).toNat = Y at hcy hyn
  have hy0 : ((Y : Int) == 0) = false := by simp; omega
  have hca : c ≠ s.at_ + 1 := by omega
  have hv1' : ¬ ((4611686018427387903 : Int) < (V : Int)) := by have := HV_.out; omega
  have g5 : decide ((4611686018427387903 : Int) < (V : Int)) = false := decide_eq_false hv1'
  have hwV : Go.RowKit.wrap64 (V : Int) = (V : Int) := wrap64_id _ (by omega) (by omega)
  have g6 : decide ((V : Int) < lo) = true := decide_eq_true HV2_.out
  go_enter Try.func43, Try.ntmps43
  go_wp2_with fail
  refine wp_scope_fwd 0 rfl ?_
  go_wp2_with (go_at_call 60; refine (none_any c0).mono ?_; rintro e w1 ⟨rfl, rfl⟩)
  go_quiet (fail)
  go_wp2
  go_quiet (fail)
  go_wp2
  go_quiet (fail)
  go_wp2
  go_quiet (fail)
  go_wp2
  go_quiet (fail)
  go_wp2
  go_loop [7, 12, 86] (fun v x i => ∃ j : Nat, j ≤ m ∧ i = .int .i64 j ∧ v = .int .u64 ((valB (xs.take j) : Nat) : Int)) (fun _ _ i => m - (intOf i).toNat)
  case atStart => exact ⟨0, Nat.zero_le _, rfl, rfl⟩
  case round =>
    obtain ⟨j, hj, rfl, rfl⟩ := hrel
    by_cases hlt2 : j < m
    · have HSTEP := Lib.hid (valB_step xs j (by rw [HXL.out]; exact hlt2) (by rw [HXL.out]; omega))
      have hcj := H.out.rd.cells (s.at_ + 1 + j) _ (u8s_get s.b (s.at_ + 1 + j) (by omega))
      obtain ⟨b', off', e', hcj⟩ := hcj
      cases e'
      rw [show off + (s.at_ + 1 + j) = off + (s.at_ + 1) + j by omega] at hcj
      rw [← hxj xs s.b s.at_ m j HXS.out hlt2] at hcj
      generalize hxv : (xs[j]?.getD 0).toNat = x at hcj HSTEP
      generalize hvv : valB (xs.take j) = W at HSTEP
      have hx256 : x < 256 := by rw [← hxv]; exact UInt8.toNat_lt _
      clear hxv hvv
      have hi0 : (0 : Int) ≤ (j : Int) := by omega
      have hi1 : (j : Int) < (m : Int) := by omega
      have HO := Lib.hid (shl_step W x HSTEP.out.2 hx256)
      go_wp2
      go_round
      case rel => exact ⟨_, _, _, ⟨j + 1, by omega, by go_num, by rw [HSTEP.out.1, HO.out]⟩, rfl, rfl, rfl⟩
      case measure => simp [intOf]; omega
    · obtain rfl : m = j := by omega
      rw [List.take_of_length_le (by rw [HXL.out]; exact Nat.le_refl _), ← HV.out]
      clear hlt2 hj
      go_wp2
      go_quiet (fail)
      clear hVb hv1'
      go_wp2
      go_quiet (fail)
      go_wp2
      go_step3
      refine ⟨rfl, ?_⟩
      go_wp2
      simp only [Exit.jump]
      go_ret
      exact num_fault H.out _ _ _ HF.out
set_option maxRecDepth 100000 in
set_option maxHeartbeats 4000000 in
theorem num_high {w : World} {R : Nat} {b off : Nat} {n c : Nat} {s : Rdr} (h : RdB w R (some ⟨b, off, none⟩) n c s) (lo hi : Int) (he0 : s.e = 0) (m : Nat) (hm : m = (s.b[s.at_]?.getD 0).toNat) (h8 : m ≤ 8) (hsh : s.at_ + 1 + m ≤ s.b.length) (xs : List UInt8) (hxs : xs = (s.b.drop (s.at_ + 1)).take m) (V : Nat) (hV : V = valB xs) (hmp : 0 < m) (hy : s.b[s.at_ + 1]?.getD 0 ≠ 0) (hv : V ≤ 4611686018427387903) (hv2 : ¬ (V : Int) < lo) (hv3 : hi < (V : Int)) (hF : Fit ⟨s.b, s.at_, 5, s.at_⟩) :
    Calls Try.prog 43 #[.pointer (some ⟨R, 0, none⟩), .int .i64 lo, .int .i64 hi] w (RNumQ w R (some ⟨b, off, none⟩) n c (0, ⟨s.b, s.at_, 5, s.at_⟩)) := by
  have HV3_ := Lib.hid hv3
  clear hv3
  have HV2_ := Lib.hid hv2
  clear hv2
  have HV_ := Lib.hid hv
  clear hv
  have c0 : w.cell? ⟨R, 0, none⟩ = some (.bool true) := blk_cell h.blk 0 _ rfl
  have c1 : w.cell? ⟨R, 1, none⟩ = some (.slice (some ⟨b, off, none⟩) n c) := blk_cell h.blk 1 _ rfl
  have c2 : w.cell? ⟨R, 2, none⟩ = some (.int .i64 s.at_) := blk_cell h.blk 2 _ rfl
  have c3 : w.cell? ⟨R, 3, none⟩ = some (.int .i64 s.e) := blk_cell h.blk 3 _ rfl
  have c4 : w.cell? ⟨R, 4, none⟩ = some (.int .i64 s.p) := blk_cell h.blk 4 _ rfl
  have f2 : w.frozen? ⟨R, 2, none⟩ = false := blk_thawed h.blk 2
  have f3 : w.frozen? ⟨R, 3, none⟩ = false := blk_thawed h.blk 3
  have f4 : w.frozen? ⟨R, 4, none⟩ = false := blk_thawed h.blk 4
  have hl := rdb_len h
  have h2 := h.fit.big
  have hc := h.rd.cap
  have hbig := h.rd.big
  rw [hl] at h2
  have H := Lib.hid h
  have hlt : s.at_ < n := by omega
  have hI0 : (0 : Int) ≤ (s.at_ : Int) := by omega
  have hI1 : (s.at_ : Int) < (n : Int) := by omega
  have hge : ¬ ((n : Int) ≤ (s.at_ : Int)) := by omega
  have g1 : (s.e != 0) = false := by simpa using he0
  have hcell := (h.rd.cells s.at_ _ (u8s_get s.b s.at_ (by omega)))
  obtain ⟨b', off', e', hcell⟩ := hcell
  cases e'
  rw [← hm] at hcell
  have hwm : Go.RowKit.wrap64 (m : Int) = (m : Int) := by unfold Go.RowKit.wrap64; omega
  have h8' : ¬ ((8 : Int) < (m : Int)) := by omega
  have g2 : decide ((8 : Int) < (m : Int)) = false := decide_eq_false h8'
  have hw1 : IntKind.i64.wrap ((n : Int) - s.at_) = (n : Int) - s.at_ := by rw [IntKind.wrap_i64]; omega
  have hw2 : IntKind.i64.wrap ((n : Int) - s.at_ - 1) = (n : Int) - s.at_ - 1 := by rw [IntKind.wrap_i64]; omega
  have g3 : decide ((n : Int) - s.at_ - 1 < (m : Int)) = false := by simp; omega
  have hw3 : IntKind.i64.wrap ((s.at_ : Int) + 1) = (s.at_ : Int) + 1 := by rw [IntKind.wrap_i64]; omega
  have hw4 : IntKind.i64.wrap ((s.at_ : Int) + 1 + m) = (s.at_ : Int) + 1 + m := by rw [IntKind.wrap_i64]; omega
  have hxl : xs.length = m := by rw [hxs, List.length_take, List.length_drop]; omega
  have hVb : V < 18446744073709551616 := by rw [hV]; exact valB_lt8 xs (by omega)
  have HXS := Lib.hid hxs; have HXL := Lib.hid hxl; have HV := Lib.hid hV; have HM := Lib.hid hm
  have HF := Lib.hid hF
  clear hxs hxl hV hm h hF
  have hcy := H.out.rd.cells (s.at_ + 1) _ (u8s_get s.b (s.at_ + 1) (by omega))
  obtain ⟨b', off', e', hcy⟩ := hcy
  cases e'
  have hJ0 : (0 : Int) ≤ (s.at_ : Int) + 1 := by omega
  have hJ1 : (s.at_ : Int) + 1 < (n : Int) := by omega
  have hmp' : (0 : Int) < (m : Int) := by omega
  have hyn : (s.b[s.at_ + 1]?.getD 0).toNat ≠ 0 := fun e => hy (UInt8.toNat_inj.1 (by simpa using e))
  generalize (s.b[s.at_ + 1]?.getD 0).toNat = Y at hcy hyn
  have hy0 : ((Y : Int) == 0) = false := by simp; omega
  have hca : c ≠ s.at_ + 1 := by omega
  have hv1' : ¬ ((4611686018427387903 : Int) < (V : Int)) := by have := HV_.out; omega
  have g5 : decide ((4611686018427387903 : Int) < (V : Int)) = false := decide_eq_false hv1'
  have hwV : Go.RowKit.wrap64 (V : Int) = (V : Int) := wrap64_id _ (by omega) (by omega)
  have g6 : decide ((V : Int) < lo) = false := decide_eq_false HV2_.out
  have g7 : decide (hi < (V : Int)) = true := decide_eq_true HV3_.out
  go_enter Try.func43, Try.ntmps43
  go_wp2_with fail
  refine wp_scope_fwd 0 rfl ?_
  go_wp2_with (go_at_call 60; refine (none_any c0).mono ?_; rintro e w1 ⟨rfl, rfl⟩)
  go_quiet (fail)
  go_wp2
  go_quiet (fail)
  go_wp2
  go_quiet (fail)
  go_wp2
  go_quiet (fail)
  go_wp2
  go_quiet (fail)
  go_wp2
  go_loop [7, 12, 86] (fun v x i => ∃ j : Nat, j ≤ m ∧ i = .int .i64 j ∧ v = .int .u64 ((valB (xs.take j) : Nat) : Int)) (fun _ _ i => m - (intOf i).toNat)
  case atStart => exact ⟨0, Nat.zero_le _, rfl, rfl⟩
  case round =>
    obtain ⟨j, hj, rfl, rfl⟩ := hrel
    by_cases hlt2 : j < m
    · have HSTEP := Lib.hid (valB_step xs j (by rw [HXL.out]; exact hlt2) (by rw [HXL.out]; omega))
      have hcj := H.out.rd.cells (s.at_ + 1 + j) _ (u8s_get s.b (s.at_ + 1 + j) (by omega))
      obtain ⟨b', off', e', hcj⟩ := hcj
      cases e'
      rw [show off + (s.at_ + 1 + j) = off + (s.at_ + 1) + j by omega] at hcj
      rw [← hxj xs s.b s.at_ m j HXS.out hlt2] at hcj
      generalize hxv : (xs[j]?.getD 0).toNat = x at hcj HSTEP
      generalize hvv : valB (xs.take j) = W at HSTEP
      have hx256 : x < 256 := by rw [← hxv]; exact UInt8.toNat_lt _
      clear hxv hvv
      have hi0 : (0 : Int) ≤ (j : Int) := by omega
      have hi1 : (j : Int) < (m : Int) := by omega
      have HO := Lib.hid (shl_step W x HSTEP.out.2 hx256)
      go_wp2
      go_round
      case rel => exact ⟨_, _, _, ⟨j + 1, by omega, by go_num, by rw [HSTEP.out.1, HO.out]⟩, rfl, rfl, rfl⟩
      case measure => simp [intOf]; omega
    · obtain rfl : m = j := by omega
      rw [List.take_of_length_le (by rw [HXL.out]; exact Nat.le_refl _), ← HV.out]
      clear hlt2 hj
      go_wp2
      go_quiet (fail)
      clear hVb hv1'
      go_wp2
      go_quiet (fail)
      go_wp2
      go_step3
      refine ⟨rfl, ?_⟩
      go_wp2
      simp only [Exit.jump]
      go_ret
      exact num_fault H.out _ _ _ HF.out
end Go.Proofs.Ytncahekankbalaa
end
section
namespace Go.Proofs.Ytncahekankbalaa
open Go.RowKit
set_option linter.unusedVariables false
set_option linter.unusedSimpArgs false

set_option maxRecDepth 100000 in
set_option maxHeartbeats 4000000 in
theorem num_fine {w : World} {R : Nat} {b off : Nat} {n c : Nat} {s : Rdr} (h : RdB w R (some ⟨b, off, none⟩) n c s) (lo hi : Int) (he0 : s.e = 0) (m : Nat) (hm : m = (s.b[s.at_]?.getD 0).toNat) (h8 : m ≤ 8) (hsh : s.at_ + 1 + m ≤ s.b.length) (xs : List UInt8) (hxs : xs = (s.b.drop (s.at_ + 1)).take m) (V : Nat) (hV : V = valB xs) (hmp : 0 < m) (hy : s.b[s.at_ + 1]?.getD 0 ≠ 0) (hv : V ≤ 4611686018427387903) (hv2 : ¬ (V : Int) < lo) (hv3 : ¬ hi < (V : Int)) (hF : Fit ⟨s.b, s.at_ + 1 + m, 0, s.p⟩) :
    Calls Try.prog 43 #[.pointer (some ⟨R, 0, none⟩), .int .i64 lo, .int .i64 hi] w (RNumQ w R (some ⟨b, off, none⟩) n c ((V : Int), ⟨s.b, s.at_ + 1 + m, 0, s.p⟩)) := by
  have HV3_ := Lib.hid hv3
  clear hv3
  have HV2_ := Lib.hid hv2
  clear hv2
  have HV_ := Lib.hid hv
  clear hv
  have c0 : w.cell? ⟨R, 0, none⟩ = some (.bool true) := blk_cell h.blk 0 _ rfl
  have c1 : w.cell? ⟨R, 1, none⟩ = some (.slice (some ⟨b, off, none⟩) n c) := blk_cell h.blk 1 _ rfl
  have c2 : w.cell? ⟨R, 2, none⟩ = some (.int .i64 s.at_) := blk_cell h.blk 2 _ rfl
  have c3 : w.cell? ⟨R, 3, none⟩ = some (.int .i64 s.e) := blk_cell h.blk 3 _ rfl
  have c4 : w.cell? ⟨R, 4, none⟩ = some (.int .i64 s.p) := blk_cell h.blk 4 _ rfl
  have f2 : w.frozen? ⟨R, 2, none⟩ = false := blk_thawed h.blk 2
  have f3 : w.frozen? ⟨R, 3, none⟩ = false := blk_thawed h.blk 3
  have f4 : w.frozen? ⟨R, 4, none⟩ = false := blk_thawed h.blk 4
  have hl := rdb_len h
  have h2 := h.fit.big
  have hc := h.rd.cap
  have hbig := h.rd.big
  rw [hl] at h2
  have H := Lib.hid h
  have hlt : s.at_ < n := by omega
  have hI0 : (0 : Int) ≤ (s.at_ : Int) := by omega
  have hI1 : (s.at_ : Int) < (n : Int) := by omega
  have hge : ¬ ((n : Int) ≤ (s.at_ : Int)) := by omega
  have g1 : (s.e != 0) = false := by simpa using he0
  have hcell := (h.rd.cells s.at_ _ (u8s_get s.b s.at_ (by omega)))
  obtain ⟨b', off', e', hcell⟩ := hcell
  cases e'
  rw [← hm] at hcell
  have hwm : Go.RowKit.wrap64 (m : Int) = (m : Int) := by unfold Go.RowKit.wrap64; omega
  have h8' : ¬ ((8 : Int) < (m : Int)) := by omega
  have g2 : decide ((8 : Int) < (m : Int)) = false := decide_eq_false h8'
  have hw1 : IntKind.i64.wrap ((n : Int) - s.at_) = (n : Int) - s.at_ := by rw [IntKind.wrap_i64]; omega
  have hw2 : IntKind.i64.wrap ((n : Int) - s.at_ - 1) = (n : Int) - s.at_ - 1 := by rw [IntKind.wrap_i64]; omega
  have g3 : decide ((n : Int) - s.at_ - 1 < (m : Int)) = false := by simp; omega
  have hw3 : IntKind.i64.wrap ((s.at_ : Int) + 1) = (s.at_ : Int) + 1 := by rw [IntKind.wrap_i64]; omega
  have hw4 : IntKind.i64.wrap ((s.at_ : Int) + 1 + m) = (s.at_ : Int) + 1 + m := by rw [IntKind.wrap_i64]; omega
  have hxl : xs.length = m := by rw [hxs, List.length_take, List.length_drop]; omega
  have hVb : V < 18446744073709551616 := by rw [hV]; exact valB_lt8 xs (by omega)
  have HXS := Lib.hid hxs; have HXL := Lib.hid hxl; have HV := Lib.hid hV; have HM := Lib.hid hm
  have HF := Lib.hid hF
  clear hxs hxl hV hm h hF
  have hcy := H.out.rd.cells (s.at_ + 1) _ (u8s_get s.b (s.at_ + 1) (by omega))
  obtain ⟨b', off', e', hcy⟩ := hcy
  cases e'
  have hJ0 : (0 : Int) ≤ (s.at_ : Int) + 1 := by omega
  have hJ1 : (s.at_ : Int) + 1 < (n : Int) := by omega
  have hmp' : (0 : Int) < (m : Int) := by omega
  have hyn : (s.b[s.at_ + 1]?.getD 0).toNat ≠ 0 := fun e => hy (UInt8.toNat_inj.1 (by simpa using e))
  generalize (s.b[s.at_ + 1]?.getD 0).toNat = Y at hcy hyn
  have hy0 : ((Y : Int) == 0) = false := by simp; omega
  have hca : c ≠ s.at_ + 1 := by omega
  have hv1' : ¬ ((4611686018427387903 : Int) < (V : Int)) := by have := HV_.out; omega
  have g5 : decide ((4611686018427387903 : Int) < (V : Int)) = false := decide_eq_false hv1'
  have hwV : Go.RowKit.wrap64 (V : Int) = (V : Int) := wrap64_id _ (by omega) (by omega)
  have g6 : decide ((V : Int) < lo) = false := decide_eq_false HV2_.out
  have g7 : decide (hi < (V : Int)) = false := decide_eq_false HV3_.out
  have hb1 : IntKind.i64.wrap ((1 : Int) + m) = 1 + m := by rw [IntKind.wrap_i64]; omega
  have hb2 : IntKind.i64.wrap ((s.at_ : Int) + (1 + m)) = s.at_ + (1 + m) := by rw [IntKind.wrap_i64]; omega
  go_enter Try.func43, Try.ntmps43
  go_wp2_with fail
  refine wp_scope_fwd 0 rfl ?_
  go_wp2_with (go_at_call 60; refine (none_any c0).mono ?_; rintro e w1 ⟨rfl, rfl⟩)
  go_quiet (fail)
  go_wp2
  go_quiet (fail)
  go_wp2
  go_quiet (fail)
  go_wp2
  go_quiet (fail)
  go_wp2
  go_quiet (fail)
  go_wp2
  go_loop [7, 12, 86] (fun v x i => ∃ j : Nat, j ≤ m ∧ i = .int .i64 j ∧ v = .int .u64 ((valB (xs.take j) : Nat) : Int)) (fun _ _ i => m - (intOf i).toNat)
  case atStart => exact ⟨0, Nat.zero_le _, rfl, rfl⟩
  case round =>
    obtain ⟨j, hj, rfl, rfl⟩ := hrel
    by_cases hlt2 : j < m
    · have HSTEP := Lib.hid (valB_step xs j (by rw [HXL.out]; exact hlt2) (by rw [HXL.out]; omega))
      have hcj := H.out.rd.cells (s.at_ + 1 + j) _ (u8s_get s.b (s.at_ + 1 + j) (by omega))
      obtain ⟨b', off', e', hcj⟩ := hcj
      cases e'
      rw [show off + (s.at_ + 1 + j) = off + (s.at_ + 1) + j by omega] at hcj
      rw [← hxj xs s.b s.at_ m j HXS.out hlt2] at hcj
      generalize hxv : (xs[j]?.getD 0).toNat = x at hcj HSTEP
      generalize hvv : valB (xs.take j) = W at HSTEP
      have hx256 : x < 256 := by rw [← hxv]; exact UInt8.toNat_lt _
      clear hxv hvv
      have hi0 : (0 : Int) ≤ (j : Int) := by omega
      have hi1 : (j : Int) < (m : Int) := by omega
      have HO := Lib.hid (shl_step W x HSTEP.out.2 hx256)
      go_wp2
      go_round
      case rel => exact ⟨_, _, _, ⟨j + 1, by omega, by go_num, by rw [HSTEP.out.1, HO.out]⟩, rfl, rfl, rfl⟩
      case measure => simp [intOf]; omega
    · obtain rfl : m = j := by omega
      rw [List.take_of_length_le (by rw [HXL.out]; exact Nat.le_refl _), ← HV.out]
      clear hlt2 hj
      go_wp2
      go_quiet (fail)
      clear hVb hv1'
      go_wp2
      simp only [Exit.jump]
      go_ret
      rw [hwV]
      exact num_ok H.out _ _ _ he0 HF.out
end Go.Proofs.Ytncahekankbalaa
end
section
namespace Go.Proofs.Ytncahekankbalaa
open Go.RowKit
set_option linter.unusedVariables false
set_option linter.unusedSimpArgs false

set_option maxRecDepth 100000 in
set_option maxHeartbeats 4000000 in
theorem num_zlow {w : World} {R : Nat} {b off : Nat} {n c : Nat} {s : Rdr} (h : RdB w R (some ⟨b, off, none⟩) n c s) (lo hi : Int) (he0 : s.e = 0) (hm : (s.b[s.at_]?.getD 0).toNat = 0) (hsh : s.at_ + 1 ≤ s.b.length) (hv2 : (0 : Int) < lo) (hF : Fit ⟨s.b, s.at_, 5, s.at_⟩) :
    Calls Try.prog 43 #[.pointer (some ⟨R, 0, none⟩), .int .i64 lo, .int .i64 hi] w (RNumQ w R (some ⟨b, off, none⟩) n c (0, ⟨s.b, s.at_, 5, s.at_⟩)) := by
  have HV2_ := Lib.hid hv2
  clear hv2
  have c0 : w.cell? ⟨R, 0, none⟩ = some (.bool true) := blk_cell h.blk 0 _ rfl
  have c1 : w.cell? ⟨R, 1, none⟩ = some (.slice (some ⟨b, off, none⟩) n c) := blk_cell h.blk 1 _ rfl
  have c2 : w.cell? ⟨R, 2, none⟩ = some (.int .i64 s.at_) := blk_cell h.blk 2 _ rfl
  have c3 : w.cell? ⟨R, 3, none⟩ = some (.int .i64 s.e) := blk_cell h.blk 3 _ rfl
  have c4 : w.cell? ⟨R, 4, none⟩ = some (.int .i64 s.p) := blk_cell h.blk 4 _ rfl
  have f2 : w.frozen? ⟨R, 2, none⟩ = false := blk_thawed h.blk 2
  have f3 : w.frozen? ⟨R, 3, none⟩ = false := blk_thawed h.blk 3
  have f4 : w.frozen? ⟨R, 4, none⟩ = false := blk_thawed h.blk 4
  have hl := rdb_len h
  have h2 := h.fit.big
  have hc := h.rd.cap
  have hbig := h.rd.big
  rw [hl] at h2
  have H := Lib.hid h
  have hlt : s.at_ < n := by omega
  have hI0 : (0 : Int) ≤ (s.at_ : Int) := by omega
  have hI1 : (s.at_ : Int) < (n : Int) := by omega
  have hge : ¬ ((n : Int) ≤ (s.at_ : Int)) := by omega
  have g1 : (s.e != 0) = false := by simpa using he0
  have hcell := (h.rd.cells s.at_ _ (u8s_get s.b s.at_ (by omega)))
  obtain ⟨b', off', e', hcell⟩ := hcell
  cases e'
  rw [hm] at hcell
  have hcell : w.cell? ⟨b, off + s.at_, none⟩ = some (.int .u8 0) := hcell
  have hw1 : IntKind.i64.wrap ((n : Int) - s.at_) = (n : Int) - s.at_ := by rw [IntKind.wrap_i64]; omega
  have hw2 : IntKind.i64.wrap ((n : Int) - s.at_ - 1) = (n : Int) - s.at_ - 1 := by rw [IntKind.wrap_i64]; omega
  have g3 : decide ((n : Int) - s.at_ - 1 < 0) = false := by simp; omega
  have hw3 : IntKind.i64.wrap ((s.at_ : Int) + 1) = (s.at_ : Int) + 1 := by rw [IntKind.wrap_i64]; omega
  have HF := Lib.hid hF
  clear hF h hm
  have g6 : decide ((0 : Int) < lo) = true := decide_eq_true HV2_.out
  by_cases hca : c = s.at_ + 1
  · subst hca
    go_enter Try.func43, Try.ntmps43
    go_wp2_with fail
    refine wp_scope_fwd 0 rfl ?_
    go_wp2_with (go_at_call 60; refine (none_any c0).mono ?_; rintro e w1 ⟨rfl, rfl⟩)
    go_quiet (fail)
    go_wp2
    go_quiet (fail)
    go_wp2
    go_quiet (fail)
    go_wp2
    go_quiet (fail)
    go_wp2
    go_quiet (fail)
    go_wp2
    go_loop [7, 12, 86] (fun v x i => i = .int .i64 0 ∧ v = .int .u64 0) (fun _ _ _ => 0)
    case atStart => exact ⟨rfl, rfl⟩
    case round =>
      obtain ⟨rfl, rfl⟩ := hrel
      go_wp2
      go_quiet (fail)
      go_wp2
      go_quiet (fail)
      go_wp2
      go_step3
      refine ⟨rfl, ?_⟩
      go_wp2
      simp only [Exit.jump]
      go_ret
      exact num_fault H.out _ _ _ HF.out
  · go_enter Try.func43, Try.ntmps43
    go_wp2_with fail
    refine wp_scope_fwd 0 rfl ?_
    go_wp2_with (go_at_call 60; refine (none_any c0).mono ?_; rintro e w1 ⟨rfl, rfl⟩)
    go_quiet (fail)
    go_wp2
    go_quiet (fail)
    go_wp2
    go_quiet (fail)
    go_wp2
    go_quiet (fail)
    go_wp2
    go_quiet (fail)
    go_wp2
    go_loop [7, 12, 86] (fun v x i => i = .int .i64 0 ∧ v = .int .u64 0) (fun _ _ _ => 0)
    case atStart => exact ⟨rfl, rfl⟩
    case round =>
      obtain ⟨rfl, rfl⟩ := hrel
      go_wp2
      go_quiet (fail)
      go_wp2
      go_quiet (fail)
      go_wp2
      go_step3
      refine ⟨rfl, ?_⟩
      go_wp2
      simp only [Exit.jump]
      go_ret
      exact num_fault H.out _ _ _ HF.out
set_option maxRecDepth 100000 in
set_option maxHeartbeats 4000000 in
theorem num_zhigh {w : World} {R : Nat} {b off : Nat} {n c : Nat} {s : Rdr} (h : RdB w R (some ⟨b, off, none⟩) n c s) (lo hi : Int) (he0 : s.e = 0) (hm : (s.b[s.at_]?.getD 0).toNat = 0) (hsh : s.at_ + 1 ≤ s.b.length) (hv2 : ¬ (0 : Int) < lo) (hv3 : hi < (0 : Int)) (hF : Fit ⟨s.b, s.at_, 5, s.at_⟩) :
    Calls Try.prog 43 #[.pointer (some ⟨R, 0, none⟩), .int .i64 lo, .int .i64 hi] w (RNumQ w R (some ⟨b, off, none⟩) n c (0, ⟨s.b, s.at_, 5, s.at_⟩)) := by
  have HV3_ := Lib.hid hv3
  clear hv3
  have HV2_ := Lib.hid hv2
  clear hv2
  have c0 : w.cell? ⟨R, 0, none⟩ = some (.bool true) := blk_cell h.blk 0 _ rfl
  have c1 : w.cell? ⟨R, 1, none⟩ = some (.slice (some ⟨b, off, none⟩) n c) := blk_cell h.blk 1 _ rfl
  have c2 : w.cell? ⟨R, 2, none⟩ = some (.int .i64 s.at_) := blk_cell h.blk 2 _ rfl
  have c3 : w.cell? ⟨R, 3, none⟩ = some (.int .i64 s.e) := blk_cell h.blk 3 _ rfl
  have c4 : w.cell? ⟨R, 4, none⟩ = some (.int .i64 s.p) := blk_cell h.blk 4 _ rfl
  have f2 : w.frozen? ⟨R, 2, none⟩ = false := blk_thawed h.blk 2
  have f3 : w.frozen? ⟨R, 3, none⟩ = false := blk_thawed h.blk 3
  have f4 : w.frozen? ⟨R, 4, none⟩ = false := blk_thawed h.blk 4
  have hl := rdb_len h
  have h2 := h.fit.big
  have hc := h.rd.cap
  have hbig := h.rd.big
  rw [hl] at h2
  have H := Lib.hid h
  have hlt : s.at_ < n := by omega
  have hI0 : (0 : Int) ≤ (s.at_ : Int) := by omega
  have hI1 : (s.at_ : Int) < (n : Int) := by omega
  have hge : ¬ ((n : Int) ≤ (s.at_ : Int)) := by omega
  have g1 : (s.e != 0) = false := by simpa using he0
  have hcell := (h.rd.cells s.at_ _ (u8s_get s.b s.at_ (by omega)))
  obtain ⟨b', off', e', hcell⟩ := hcell
  cases e'
  rw [hm] at hcell
  have hcell : w.cell? ⟨b, off + s.at_, none⟩ = some (.int .u8 0) := hcell
  have hw1 : IntKind.i64.wrap ((n : Int) - s.at_) = (n : Int) - s.at_ := by rw [IntKind.wrap_i64]; omega
  have hw2 : IntKind.i64.wrap ((n : Int) - s.at_ - 1) = (n : Int) - s.at_ - 1 := by rw [IntKind.wrap_i64]; omega
  have g3 : decide ((n : Int) - s.at_ - 1 < 0) = false := by simp; omega
  have hw3 : IntKind.i64.wrap ((s.at_ : Int) + 1) = (s.at_ : Int) + 1 := by rw [IntKind.wrap_i64]; omega
  have HF := Lib.hid hF
  clear hF h hm
  have g6 : decide ((0 : Int) < lo) = false := decide_eq_false HV2_.out
  have g7 : decide (hi < (0 : Int)) = true := decide_eq_true HV3_.out
  by_cases hca : c = s.at_ + 1
  · subst hca
    go_enter Try.func43, Try.ntmps43
    go_wp2_with fail
    refine wp_scope_fwd 0 rfl ?_
    go_wp2_with (go_at_call 60; refine (none_any c0).mono ?_; rintro e w1 ⟨rfl, rfl⟩)
    go_quiet (fail)
    go_wp2
    go_quiet (fail)
    go_wp2
    go_quiet (fail)
    go_wp2
    go_quiet (fail)
    go_wp2
    go_quiet (fail)
    go_wp2
    go_loop [7, 12, 86] (fun v x i => i = .int .i64 0 ∧ v = .int .u64 0) (fun _ _ _ => 0)
    case atStart => exact ⟨rfl, rfl⟩
    case round =>
      obtain ⟨rfl, rfl⟩ := hrel
      go_wp2
      go_quiet (fail)
      go_wp2
      go_quiet (fail)
      go_wp2
      go_step3
      refine ⟨rfl, ?_⟩
      go_wp2
      simp only [Exit.jump]
      go_ret
      exact num_fault H.out _ _ _ HF.out
  · go_enter Try.func43, Try.ntmps43
    go_wp2_with fail
    refine wp_scope_fwd 0 rfl ?_
    go_wp2_with (go_at_call 60; refine (none_any c0).mono ?_; rintro e w1 ⟨rfl, rfl⟩)
    go_quiet (fail)
    go_wp2
    go_quiet (fail)
    go_wp2
    go_quiet (fail)
    go_wp2
    go_quiet (fail)
    go_wp2
    go_quiet (fail)
    go_wp2
    go_loop [7, 12, 86] (fun v x i => i = .int .i64 0 ∧ v = .int .u64 0) (fun _ _ _ => 0)
    case atStart => exact ⟨rfl, rfl⟩
    case round =>
      obtain ⟨rfl, rfl⟩ := hrel
      go_wp2
      go_quiet (fail)
      go_wp2
      go_quiet (fail)
      go_wp2
      go_step3
      refine ⟨rfl, ?_⟩
      go_wp2
      simp only [Exit.jump]
      go_ret
      exact num_fault H.out _ _ _ HF.out
set_option maxRecDepth 100000 in
set_option maxHeartbeats 4000000 in
theorem num_zfine {w : World} {R : Nat} {b off : Nat} {n c : Nat} {s : Rdr} (h : RdB w R (some ⟨b, off, none⟩) n c s) (lo hi : Int) (he0 : s.e = 0) (hm : (s.b[s.at_]?.getD 0).toNat = 0) (hsh : s.at_ + 1 ≤ s.b.length) (hv2 : ¬ (0 : Int) < lo) (hv3 : ¬ hi < (0 : Int)) (hF : Fit ⟨s.b, s.at_ + 1, 0, s.p⟩) :
    Calls Try.prog 43 #[.pointer (some ⟨R, 0, none⟩), .int .i64 lo, .int .i64 hi] w (RNumQ w R (some ⟨b, off, none⟩) n c (0, ⟨s.b, s.at_ + 1, 0, s.p⟩)) := by
  have HV3_ := Lib.hid hv3
  clear hv3
  have HV2_ := Lib.hid hv2
  clear hv2
  have c0 : w.cell? ⟨R, 0, none⟩ = some (.bool true) := blk_cell h.blk 0 _ rfl
  have c1 : w.cell? ⟨R, 1, none⟩ = some (.slice (some ⟨b, off, none⟩) n c) := blk_cell h.blk 1 _ rfl
  have c2 : w.cell? ⟨R, 2, none⟩ = some (.int .i64 s.at_) := blk_cell h.blk 2 _ rfl
  have c3 : w.cell? ⟨R, 3, none⟩ = some (.int .i64 s.e) := blk_cell h.blk 3 _ rfl
  have c4 : w.cell? ⟨R, 4, none⟩ = some (.int .i64 s.p) := blk_cell h.blk 4 _ rfl
  have f2 : w.frozen? ⟨R, 2, none⟩ = false := blk_thawed h.blk 2
  have f3 : w.frozen? ⟨R, 3, none⟩ = false := blk_thawed h.blk 3
  have f4 : w.frozen? ⟨R, 4, none⟩ = false := blk_thawed h.blk 4
  have hl := rdb_len h
  have h2 := h.fit.big
  have hc := h.rd.cap
  have hbig := h.rd.big
  rw [hl] at h2
  have H := Lib.hid h
  have hlt : s.at_ < n := by omega
  have hI0 : (0 : Int) ≤ (s.at_ : Int) := by omega
  have hI1 : (s.at_ : Int) < (n : Int) := by omega
  have hge : ¬ ((n : Int) ≤ (s.at_ : Int)) := by omega
  have g1 : (s.e != 0) = false := by simpa using he0
  have hcell := (h.rd.cells s.at_ _ (u8s_get s.b s.at_ (by omega)))
  obtain ⟨b', off', e', hcell⟩ := hcell
  cases e'
  rw [hm] at hcell
  have hcell : w.cell? ⟨b, off + s.at_, none⟩ = some (.int .u8 0) := hcell
  have hw1 : IntKind.i64.wrap ((n : Int) - s.at_) = (n : Int) - s.at_ := by rw [IntKind.wrap_i64]; omega
  have hw2 : IntKind.i64.wrap ((n : Int) - s.at_ - 1) = (n : Int) - s.at_ - 1 := by rw [IntKind.wrap_i64]; omega
  have g3 : decide ((n : Int) - s.at_ - 1 < 0) = false := by simp; omega
  have hw3 : IntKind.i64.wrap ((s.at_ : Int) + 1) = (s.at_ : Int) + 1 := by rw [IntKind.wrap_i64]; omega
  have HF := Lib.hid hF
  clear hF h hm
  have g6 : decide ((0 : Int) < lo) = false := decide_eq_false HV2_.out
  have g7 : decide (hi < (0 : Int)) = false := decide_eq_false HV3_.out
  by_cases hca : c = s.at_ + 1
  · subst hca
    go_enter Try.func43, Try.ntmps43
    go_wp2_with fail
    refine wp_scope_fwd 0 rfl ?_
    go_wp2_with (go_at_call 60; refine (none_any c0).mono ?_; rintro e w1 ⟨rfl, rfl⟩)
    go_quiet (fail)
    go_wp2
    go_quiet (fail)
    go_wp2
    go_quiet (fail)
    go_wp2
    go_quiet (fail)
    go_wp2
    go_quiet (fail)
    go_wp2
    go_loop [7, 12, 86] (fun v x i => i = .int .i64 0 ∧ v = .int .u64 0) (fun _ _ _ => 0)
    case atStart => exact ⟨rfl, rfl⟩
    case round =>
      obtain ⟨rfl, rfl⟩ := hrel
      go_wp2
      go_quiet (fail)
      go_wp2
      simp only [Exit.jump]
      go_ret
      exact num_ok0 H.out _ he0 HF.out
  · go_enter Try.func43, Try.ntmps43
    go_wp2_with fail
    refine wp_scope_fwd 0 rfl ?_
    go_wp2_with (go_at_call 60; refine (none_any c0).mono ?_; rintro e w1 ⟨rfl, rfl⟩)
    go_quiet (fail)
    go_wp2
    go_quiet (fail)
    go_wp2
    go_quiet (fail)
    go_wp2
    go_quiet (fail)
    go_wp2
    go_quiet (fail)
    go_wp2
    go_loop [7, 12, 86] (fun v x i => i = .int .i64 0 ∧ v = .int .u64 0) (fun _ _ _ => 0)
    case atStart => exact ⟨rfl, rfl⟩
    case round =>
      obtain ⟨rfl, rfl⟩ := hrel
      go_wp2
      go_quiet (fail)
      go_wp2
      simp only [Exit.jump]
      go_ret
      exact num_ok0 H.out _ he0 HF.out
end Go.Proofs.Ytncahekankbalaa
end
section
namespace Go.Proofs.Ytncahekankbalaa
open Go.RowKit
set_option linter.unusedVariables false
set_option linter.unusedSimpArgs false

theorem num_any {w : World} {R : Nat} {A : Option Addr} {n c : Nat} {s : Rdr} (h : RdB w R A n c s) (lo hi : Int) : Calls Try.prog 43 #[.pointer (some ⟨R, 0, none⟩), .int .i64 lo, .int .i64 hi] w (RNumQ w R A n c (rnum s lo hi)) := by
  by_cases hsome : s.e ≠ 0 ∨ s.b.length ≤ s.at_ ∨ 8 < (s.b[s.at_]?.getD 0).toNat ∨ s.b.length < s.at_ + 1 + (s.b[s.at_]?.getD 0).toNat
  · exact num_few h lo hi hsome
  obtain ⟨k1, k2⟩ := not_or.1 hsome
  obtain ⟨k2, k3⟩ := not_or.1 k2
  obtain ⟨k3, k4⟩ := not_or.1 k3
  have he0 : s.e = 0 := Decidable.not_not.1 k1
  have hl := rdb_len h
  obtain ⟨b, off, rfl, hcell⟩ := h.rd.cells s.at_ _ (u8s_get s.b s.at_ (by omega))
  obtain ⟨r, hr⟩ : ∃ r, r = rnum s lo hi := ⟨_, rfl⟩
  have hf := rnum_fit s lo hi h.fit
  rw [← hr] at hf ⊢
  unfold rnum at hr
  rw [if_neg k1, if_neg k2, if_neg k3, if_neg k4] at hr
  obtain ⟨m, hm⟩ : ∃ m, m = (s.b[s.at_]?.getD 0).toNat := ⟨_, rfl⟩
  obtain ⟨xs, hxs⟩ : ∃ xs, xs = (s.b.drop (s.at_ + 1)).take m := ⟨_, rfl⟩
  obtain ⟨V, hV⟩ : ∃ V, V = valB xs := ⟨_, rfl⟩
  rw [← hm] at hr k3 k4
  rw [← hxs, ← hV] at hr
  by_cases hm0 : m = 0
  · subst hm0
    have hx0 : xs = [] := by rw [hxs]; rfl
    rw [hx0] at hV
    have hV0 : V = 0 := hV
    subst hV0
    rw [if_neg (by omega)] at hr
    by_cases h2 : (0 : Int) < lo
    · rw [if_pos (by omega)] at hr
      subst hr
      exact num_zlow h lo hi he0 hm.symm (by omega) h2 hf
    · by_cases h3 : hi < (0 : Int)
      · rw [if_pos (by omega)] at hr
        subst hr
        exact num_zhigh h lo hi he0 hm.symm (by omega) h2 h3 hf
      · rw [if_neg (by omega)] at hr
        rw [he0] at hr
        subst hr
        exact num_zfine h lo hi he0 hm.symm (by omega) h2 h3 hf
  · have hmp : 0 < m := by omega
    by_cases hy : s.b[s.at_ + 1]?.getD 0 = 0
    · rw [if_pos ⟨hmp, hy⟩] at hr
      subst hr
      exact num_nought h lo hi he0 m hm (by omega) (by omega) xs hxs V hV hmp hy hf
    · rw [if_neg (fun e => hy e.2)] at hr
      by_cases h1 : 4611686018427387903 < V
      · rw [if_pos (.inl h1)] at hr
        subst hr
        exact num_big h lo hi he0 m hm (by omega) (by omega) xs hxs V hV hmp hy h1 hf
      · by_cases h2 : (V : Int) < lo
        · rw [if_pos (.inr (.inl h2))] at hr
          subst hr
          exact num_low h lo hi he0 m hm (by omega) (by omega) xs hxs V hV hmp hy (by omega) h2 hf
        · by_cases h3 : hi < (V : Int)
          · rw [if_pos (.inr (.inr h3))] at hr
            subst hr
            exact num_high h lo hi he0 m hm (by omega) (by omega) xs hxs V hV hmp hy (by omega) h2 h3 hf
          · rw [if_neg (by rintro (e | e | e); exact h1 e; exact h2 e; exact h3 e)] at hr
            rw [he0] at hr
            subst hr
            exact num_fine h lo hi he0 m hm (by omega) (by omega) xs hxs V hV hmp hy (by omega) h2 h3 hf
end Go.Proofs.Ytncahekankbalaa
end
section
namespace Go.Proofs.Ytncahekankbalaa
open Go.RowKit
set_option linter.unusedVariables false
set_option linter.unusedSimpArgs false

def RRawQ (w : World) (R : Nat) (A : Option Addr) (n c : Nat) (r : List UInt8 × Rdr) (e : Ending) (w' : World) : Prop := ∃ A' n' c', e = .returned (.slice A' n' c') ∧ Held w' w.heap.size A' n' c' r.1 ∧ RdB w' R A n c r.2 ∧ Ch (fun k => k = R) w w'
theorem held_in {w w' : World} {B : Nat} {A : Option Addr} {n c : Nat} {x : List UInt8} (h : Held w' w.heap.size A n c x) (hb : B ≤ w.heap.size) : Held w' B A n c x := by
  rcases h with h | ⟨g, rfl, h1, h2, h3⟩
  · exact .inl h
  · exact .inr ⟨g, rfl, h1, h2, by omega⟩
set_option maxRecDepth 100000 in
set_option maxHeartbeats 4000000 in
theorem raw_any {w : World} {R : Nat} {A : Option Addr} {n c : Nat} {s : Rdr} (h : RdB w R A n c s) (hn9 : n ≤ 1000000000) (m : Int) : Calls Try.prog 44 #[.pointer (some ⟨R, 0, none⟩), .int .i64 m] w (RRawQ w R A n c (rraw s m)) := by
  have c0 : w.cell? ⟨R, 0, none⟩ = some (.bool true) := blk_cell h.blk 0 _ rfl
  have c2 : w.cell? ⟨R, 2, none⟩ = some (.int .i64 s.at_) := blk_cell h.blk 2 _ rfl
  have c3 : w.cell? ⟨R, 3, none⟩ = some (.int .i64 s.e) := blk_cell h.blk 3 _ rfl
  have H := Lib.hid h
  by_cases he : s.e ≠ 0
  · have g1 : (s.e != 0) = true := by simpa using he
    have hr : rraw s m = ([], s) := by unfold rraw; rw [if_pos he]
    rw [hr]
    clear hr h
    go_enter Try.func44, Try.ntmps44
    go_wp2_with (first | (go_at_call 60; refine (none_any c0).mono ?_; rintro e w1 ⟨rfl, rfl⟩))
    go_ret
    exact ⟨none, 0, 0, rfl, held_nil _ _, H.out, Ch.refl _ _⟩
  have he0 : s.e = 0 := Decidable.not_not.1 he
  have g1 : (s.e != 0) = false := by simpa using he0
  have hr : rraw s m = rrawB s.at_ m (rnum s 0 4611686018427387903) := by unfold rraw; rw [if_neg he]
  have hfit := rraw_fit s m h.fit
  rw [hr] at hfit ⊢
  have hqb := rnum_b s 0 4611686018427387903
  have hqr := rnum_range s 0 4611686018427387903
  have hl := rdb_len h
  clear he hr
  generalize hq : rnum s 0 4611686018427387903 = q at *
  obtain ⟨v, t⟩ := q
  simp only at hqb hqr
  obtain ⟨V, rfl⟩ : ∃ V : Nat, v = V := ⟨v.toNat, by omega⟩
  have HQ := Lib.hid hq
  have hfrom := h.fit.le
  rw [hl] at hfrom
  have hlt : t.b.length = n := by rw [hqb]; exact hl
  clear h hq hqb
  obtain ⟨r, hrr⟩ : ∃ r, r = rrawB s.at_ m ((V : Int), t) := ⟨_, rfl⟩
  rw [← hrr] at hfit ⊢
  have HF := Lib.hid hfit
  unfold rrawB at hrr
  simp only at hrr
  clear hfit
  by_cases he1 : t.e ≠ 0
  · rw [if_pos he1] at hrr
    have HRR := Lib.hid hrr
    have g2 : (t.e != 0) = true := by simpa using he1
    clear hrr
    go_enter Try.func44, Try.ntmps44
    go_wp2_with (first | (go_at_call 60; refine (none_any c0).mono ?_; rintro e w1 ⟨rfl, rfl⟩))
    refine (num_any H.out 0 4611686018427387903).mono ?_
    rw [HQ.out]
    rintro e w2 ⟨rfl, hb2, hch2⟩
    have d2 : w2.cell? ⟨R, 2, none⟩ = some (.int .i64 t.at_) := blk_cell hb2.blk 2 _ rfl
    have d3 : w2.cell? ⟨R, 3, none⟩ = some (.int .i64 t.e) := blk_cell hb2.blk 3 _ rfl
    have f2 : w2.frozen? ⟨R, 2, none⟩ = false := blk_thawed hb2.blk 2
    have HB2 := Lib.hid hb2; have HC2 := Lib.hid hch2
    clear hb2 hch2
    go_wp2_with fail
    go_ret
    have hrr := HRR.out
    subst hrr
    exact ⟨none, 0, 0, rfl, held_nil _ _, rdb_set HB2.out _ _ rfl HF.out (Ch.setCell w2 ⟨R, 2, none⟩ _) (blk_set HB2.out.blk 2 (.int .i64 s.at_)), ch_set HC2.out ⟨R, 2, none⟩ _ rfl⟩
  rw [if_neg he1] at hrr
  have he10 : t.e = 0 := Decidable.not_not.1 he1
  have g2 : (t.e != 0) = false := by simpa using he10
  clear he1
  by_cases hm : m < (V : Int)
  · rw [if_pos hm] at hrr
    have HRR := Lib.hid hrr
    have g3 : decide (m < (V : Int)) = true := decide_eq_true hm
    clear hrr
    go_enter Try.func44, Try.ntmps44
    go_wp2_with (first | (go_at_call 60; refine (none_any c0).mono ?_; rintro e w1 ⟨rfl, rfl⟩))
    refine (num_any H.out 0 4611686018427387903).mono ?_
    rw [HQ.out]
    rintro e w2 ⟨rfl, hb2, hch2⟩
    have d2 : w2.cell? ⟨R, 2, none⟩ = some (.int .i64 t.at_) := blk_cell hb2.blk 2 _ rfl
    have d3 : w2.cell? ⟨R, 3, none⟩ = some (.int .i64 t.e) := blk_cell hb2.blk 3 _ rfl
    have d4 : w2.cell? ⟨R, 4, none⟩ = some (.int .i64 t.p) := blk_cell hb2.blk 4 _ rfl
    have f2 : w2.frozen? ⟨R, 2, none⟩ = false := blk_thawed hb2.blk 2
    have f3 : w2.frozen? ⟨R, 3, none⟩ = false := blk_thawed hb2.blk 3
    have f4 : w2.frozen? ⟨R, 4, none⟩ = false := blk_thawed hb2.blk 4
    have HB2 := Lib.hid hb2; have HC2 := Lib.hid hch2
    clear hb2 hch2
    go_wp2_with fail
    go_ret
    have hrr := HRR.out
    subst hrr
    exact ⟨none, 0, 0, rfl, held_nil _ _, rdb_set HB2.out _ _ rfl HF.out (ch_set (ch_set (ch_set (Ch.refl (fun k => k = R) w2) ⟨R, 3, none⟩ (.int .i64 3) rfl) ⟨R, 4, none⟩ (.int .i64 s.at_) rfl) ⟨R, 2, none⟩ (.int .i64 s.at_) rfl) (blk_set (blk_set (blk_set HB2.out.blk 3 (.int .i64 3)) 4 (.int .i64 s.at_)) 2 (.int .i64 s.at_)), ch_set (ch_set (ch_set HC2.out ⟨R, 3, none⟩ _ rfl) ⟨R, 4, none⟩ _ rfl) ⟨R, 2, none⟩ _ rfl⟩
  rw [if_neg hm] at hrr
  have g3 : decide (m < (V : Int)) = false := decide_eq_false hm
  clear hm
  have hfin := (rnum_fit s 0 4611686018427387903 H.out.fit).le
  rw [HQ.out] at hfin
  simp only at hfin
  rw [hlt] at hfin
  have hw1 : IntKind.i64.wrap ((n : Int) - t.at_) = (n : Int) - t.at_ := by rw [IntKind.wrap_i64]; omega
  by_cases hsh : (t.b.length : Int) < t.at_ + V
  · rw [if_pos hsh] at hrr
    rw [hlt] at hrr hsh
    have hsh' : (n : Int) - t.at_ < (V : Int) := by omega
    have g4 : decide ((n : Int) - t.at_ < (V : Int)) = true := decide_eq_true hsh'
    have HRR := Lib.hid hrr
    clear hrr hsh hsh'
    go_enter Try.func44, Try.ntmps44
    go_wp2_with (first | (go_at_call 60; refine (none_any c0).mono ?_; rintro e w1 ⟨rfl, rfl⟩))
    refine (num_any H.out 0 4611686018427387903).mono ?_
    rw [HQ.out]
    rintro e w2 ⟨rfl, hb2, hch2⟩
    have d1 : w2.cell? ⟨R, 1, none⟩ = some (.slice A n c) := blk_cell hb2.blk 1 _ rfl
    have d2 : w2.cell? ⟨R, 2, none⟩ = some (.int .i64 t.at_) := blk_cell hb2.blk 2 _ rfl
    have d3 : w2.cell? ⟨R, 3, none⟩ = some (.int .i64 t.e) := blk_cell hb2.blk 3 _ rfl
    have d4 : w2.cell? ⟨R, 4, none⟩ = some (.int .i64 t.p) := blk_cell hb2.blk 4 _ rfl
    have f2 : w2.frozen? ⟨R, 2, none⟩ = false := blk_thawed hb2.blk 2
    have f3 : w2.frozen? ⟨R, 3, none⟩ = false := blk_thawed hb2.blk 3
    have f4 : w2.frozen? ⟨R, 4, none⟩ = false := blk_thawed hb2.blk 4
    have HB2 := Lib.hid hb2; have HC2 := Lib.hid hch2
    clear hb2 hch2
    go_wp2_with fail
    go_quiet (fail)
    go_wp2_with fail
    go_ret
    have hrr := HRR.out
    subst hrr
    exact ⟨none, 0, 0, rfl, held_nil _ _, rdb_set HB2.out _ _ rfl HF.out (ch_set (ch_set (ch_set (ch_drewN (fun k => k = R) _ _) ⟨R, 3, none⟩ (.int .i64 4) rfl) ⟨R, 4, none⟩ (.int .i64 n) rfl) ⟨R, 2, none⟩ (.int .i64 s.at_) rfl) (blk_set (blk_set (blk_set (blk_ch HB2.out.blk (ch_drewN No _ _) id) 3 (.int .i64 4)) 4 (.int .i64 n)) 2 (.int .i64 s.at_)), ch_set (ch_set (ch_set (HC2.out.trans (ch_drewN No _ _) (fun _ h => h.elim)) ⟨R, 3, none⟩ _ rfl) ⟨R, 4, none⟩ _ rfl) ⟨R, 2, none⟩ _ rfl⟩
  rw [if_neg hsh] at hrr
  rw [hlt] at hsh
  have hsh' : ¬ ((n : Int) - t.at_ < (V : Int)) := by omega
  have g4 : decide ((n : Int) - t.at_ < (V : Int)) = false := decide_eq_false hsh'
  have HRR := Lib.hid hrr
  have hb1 : IntKind.i64.wrap ((t.at_ : Int) + V) = (t.at_ : Int) + V := by rw [IntKind.wrap_i64]; omega
  have hb2' : IntKind.i64.wrap ((t.at_ : Int) + V - V) = (t.at_ : Int) := by rw [IntKind.wrap_i64]; omega
  have hlV : t.at_ + V ≤ n := by omega
  clear hrr hsh hsh'
  obtain ⟨lo, hlo⟩ : ∃ lo, lo = t.at_ := ⟨_, rfl⟩
  rw [← hlo] at hb1 hb2' g4 hw1 hfin hlV
  have HLO := Lib.hid hlo
  clear hlo
  have hcap := H.out.rd.cap
  cases hA : A with
  | none =>
    subst hA
    have HN := Lib.hid (show n = 0 ∧ c = 0 from ⟨(H.out.rd.nils rfl).1, (H.out.rd.nils rfl).2.1⟩)
    have hs9 : (n : Int) ≤ c := by omega
    go_enter Try.func44, Try.ntmps44
    go_wp2_with (first | (go_at_call 60; refine (none_any c0).mono ?_; rintro e w1 ⟨rfl, rfl⟩))
    refine (num_any H.out 0 4611686018427387903).mono ?_
    rw [HQ.out]
    rintro e w2 ⟨rfl, hb2, hch2⟩
    have d1 : w2.cell? ⟨R, 1, none⟩ = some (.slice none n c) := blk_cell hb2.blk 1 _ rfl
    have d2 : w2.cell? ⟨R, 2, none⟩ = some (.int .i64 lo) := by rw [HLO.out]; exact blk_cell hb2.blk 2 _ rfl
    have d3 : w2.cell? ⟨R, 3, none⟩ = some (.int .i64 t.e) := blk_cell hb2.blk 3 _ rfl
    have f2 : w2.frozen? ⟨R, 2, none⟩ = false := blk_thawed hb2.blk 2
    have hcut : Rd w2 none V (c - lo) 1 (u8s ((t.b.drop lo).take V)) := by
      have hV0 : V = 0 := by have := HN.out; omega
      have hc0 : c - lo = 0 := by have := HN.out; omega
      rw [hV0, hc0]; exact ⟨by simp, Nat.le_refl _, by omega, fun _ => rfl, fun j u hu => by simp [u8s] at hu⟩
    have hfar : ∀ x, (none : Option Addr) = some x → ¬ x.block = R := fun x hx => by cases hx
    have hbk : ∀ k, Blk ((w2.drewN k).setCell ⟨R, 2, none⟩ (.int .i64 ((lo : Int) + V))) R 84 #[.bool true, .slice none n c, .int .i64 ((lo : Int) + V), .int .i64 t.e, .int .i64 t.p] := fun k => blk_set (blk_ch hb2.blk (ch_drewN No _ k) id) 2 _
    have HBK := Lib.hid hbk
    have HCUT := Lib.hid (fun k => hcut.ch (ch_set (ch_drewN (fun k => k = R) w2 k) ⟨R, 2, none⟩ (.int .i64 ((lo : Int) + V)) rfl) hfar)
    have HB2 := Lib.hid hb2; have HC2 := Lib.hid hch2
    clear hb2 hch2 hcut hbk hfar
    go_wp2_with fail
    go_quiet (fail)
    have hs1 : (0 : Int) ≤ (lo : Int) := by omega
    have hs2 : (lo : Int) ≤ (lo : Int) + V := by omega
    have hs3 : (lo : Int) + V ≤ (c : Int) := by omega
    have hs4 : (0 : Int) ≤ (lo : Int) + V := by omega
    have hs5 : IntKind.i64.wrap (lo : Int) = (lo : Int) := by rw [IntKind.wrap_i64]; omega
    have hs6 : max ((lo : Int) + V) 0 = (lo : Int) + V := by omega
    have hs7 : ((lo : Int) + V).toNat = lo + V := by omega
    go_wp2_with fail
    have e1 := blk_cell (HBK.out nq) 1 _ rfl
    have e2 := blk_cell (HBK.out nq) 2 _ rfl
    go_region_held3 (fun W => W.cell? ⟨R, 1, none⟩ = some (.slice none n c) ∧ W.cell? ⟨R, 2, none⟩ = some (.int .i64 ((lo : Int) + V)))
      (first | exact ⟨e1, e2⟩ | exact ⟨below_cell hb6 e1, below_cell hb6 e2⟩)
      (first | (go_at_call 55; refine (clone_held _ _ _ _ _ ((HCUT.out nq).ch (Ch.drew _ No) (fun _ _ => id)) (by omega)).mono ?_; rintro e w6 ⟨A6, c6, rfl, hh6, hb6⟩))
    go_wp2
    go_ret
    have hr1 : r = ((t.b.drop lo).take V, ⟨t.b, lo + V, t.e, t.p⟩) := by rw [HRR.out, HLO.out]; simp
    have hD : Ch (fun k => k = R) w2 (((w2.drewN nq).setCell ⟨R, 2, none⟩ (.int .i64 ((lo : Int) + V))).drew) := (ch_set (ch_drewN (fun k => k = R) w2 nq) ⟨R, 2, none⟩ _ rfl).trans (Ch.drew _ No) (fun _ h => False.elim h)
    have hcc : Ch (fun k => k = R) w2 w6 := hD.trans (Ch.of_below hb6 No) (fun _ h => False.elim h)
    have hbl := blk_ch (blk_ch (HBK.out nq) (Ch.drew _ No) id) (Ch.of_below hb6 No) id
    have hsz := HC2.out.size
    have hsz2 := hD.size
    clear e1 e2
    subst hr1
    refine ⟨A6, _, c6, rfl, held_in (by simpa using hh6) (by omega), rdb_set HB2.out _ _ rfl HF.out hcc ?_, HC2.out.trans hcc (fun i hi => .inl hi)⟩
    have e9 : ((lo + V : Nat) : Int) = (lo : Int) + V := by omega
    simp only [e9]
    exact hbl
  | some a =>
    subst hA
    by_cases hca : c = lo
    · obtain rfl : lo = c := hca.symm
      have HV0 := Lib.hid (show V = 0 by omega)
      go_enter Try.func44, Try.ntmps44
      go_wp2_with (first | (go_at_call 60; refine (none_any c0).mono ?_; rintro e w1 ⟨rfl, rfl⟩))
      refine (num_any H.out 0 4611686018427387903).mono ?_
      rw [HQ.out]
      rintro e w2 ⟨rfl, hb2, hch2⟩
      have d1 : w2.cell? ⟨R, 1, none⟩ = some (.slice (some a) n lo) := blk_cell hb2.blk 1 _ rfl
      have d2 : w2.cell? ⟨R, 2, none⟩ = some (.int .i64 lo) := by rw [HLO.out]; exact blk_cell hb2.blk 2 _ rfl
      have d3 : w2.cell? ⟨R, 3, none⟩ = some (.int .i64 t.e) := blk_cell hb2.blk 3 _ rfl
      have f2 : w2.frozen? ⟨R, 2, none⟩ = false := blk_thawed hb2.blk 2
      have hcut : Rd w2 (some a) V 0 1 (u8s ((t.b.drop lo).take V)) := by
        have hV0 : V = 0 := HV0.out
        rw [hV0]; exact ⟨by simp, Nat.le_refl _, by omega, (fun e => by cases e), fun j u hu => by simp [u8s] at hu⟩
      have hfar : ∀ x, some a = some x → ¬ x.block = R := hb2.far
      have hbk : ∀ k, Blk ((w2.drewN k).setCell ⟨R, 2, none⟩ (.int .i64 ((lo : Int) + V))) R 84 #[.bool true, .slice (some a) n lo, .int .i64 ((lo : Int) + V), .int .i64 t.e, .int .i64 t.p] := fun k => blk_set (blk_ch hb2.blk (ch_drewN No _ k) id) 2 _
      have HBK := Lib.hid hbk
      have HCUT := Lib.hid (fun k => hcut.ch (ch_set (ch_drewN (fun k => k = R) w2 k) ⟨R, 2, none⟩ (.int .i64 ((lo : Int) + V)) rfl) hfar)
      have HB2 := Lib.hid hb2; have HC2 := Lib.hid hch2
      clear hb2 hch2 hcut hbk hfar
      go_wp2_with fail
      go_quiet (fail)
      have hs1 : (0 : Int) ≤ (lo : Int) := by omega
      have hs2 : (lo : Int) ≤ (lo : Int) + V := by omega
      have hs3 : (lo : Int) + V ≤ (lo : Int) := by omega
      have hs4 : (0 : Int) ≤ (lo : Int) + V := by omega
      have hs5 : IntKind.i64.wrap (lo : Int) = (lo : Int) := by rw [IntKind.wrap_i64]; omega
      have hs6 : max ((lo : Int) + V) 0 = (lo : Int) + V := by omega
      have hs7 : ((lo : Int) + V).toNat = lo + V := by omega
      go_wp2_with fail
      have e1 := blk_cell (HBK.out nq) 1 _ rfl
      have e2 := blk_cell (HBK.out nq) 2 _ rfl
      go_region_held3 (fun W => W.cell? ⟨R, 1, none⟩ = some (.slice (some a) n lo) ∧ W.cell? ⟨R, 2, none⟩ = some (.int .i64 ((lo : Int) + V)))
        (first | exact ⟨e1, e2⟩ | exact ⟨below_cell hb6 e1, below_cell hb6 e2⟩)
        (first | (go_at_call 55; refine (clone_held _ _ _ _ _ ((HCUT.out nq).ch (Ch.drew _ No) (fun _ _ => id)) (by omega)).mono ?_; rintro e w6 ⟨A6, c6, rfl, hh6, hb6⟩))
      go_wp2
      go_ret
      have hr1 : r = ((t.b.drop lo).take V, ⟨t.b, lo + V, t.e, t.p⟩) := by rw [HRR.out, HLO.out]; simp
      have hD : Ch (fun k => k = R) w2 (((w2.drewN nq).setCell ⟨R, 2, none⟩ (.int .i64 ((lo : Int) + V))).drew) := (ch_set (ch_drewN (fun k => k = R) w2 nq) ⟨R, 2, none⟩ _ rfl).trans (Ch.drew _ No) (fun _ h => False.elim h)
      have hcc : Ch (fun k => k = R) w2 w6 := hD.trans (Ch.of_below hb6 No) (fun _ h => False.elim h)
      have hbl := blk_ch (blk_ch (HBK.out nq) (Ch.drew _ No) id) (Ch.of_below hb6 No) id
      have hsz := HC2.out.size
      have hsz2 := hD.size
      clear e1 e2
      subst hr1
      refine ⟨A6, _, c6, rfl, held_in (by simpa using hh6) (by omega), rdb_set HB2.out _ _ rfl HF.out hcc ?_, HC2.out.trans hcc (fun i hi => .inl hi)⟩
      have e9 : ((lo + V : Nat) : Int) = (lo : Int) + V := by omega
      simp only [e9]
      exact hbl
    · go_enter Try.func44, Try.ntmps44
      go_wp2_with (first | (go_at_call 60; refine (none_any c0).mono ?_; rintro e w1 ⟨rfl, rfl⟩))
      refine (num_any H.out 0 4611686018427387903).mono ?_
      rw [HQ.out]
      rintro e w2 ⟨rfl, hb2, hch2⟩
      have d1 : w2.cell? ⟨R, 1, none⟩ = some (.slice (some a) n c) := blk_cell hb2.blk 1 _ rfl
      have d2 : w2.cell? ⟨R, 2, none⟩ = some (.int .i64 lo) := by rw [HLO.out]; exact blk_cell hb2.blk 2 _ rfl
      have d3 : w2.cell? ⟨R, 3, none⟩ = some (.int .i64 t.e) := blk_cell hb2.blk 3 _ rfl
      have f2 : w2.frozen? ⟨R, 2, none⟩ = false := blk_thawed hb2.blk 2
      have hcut : Rd w2 (some (a.add lo)) V (c - lo) 1 (u8s ((t.b.drop lo).take V)) := by
        have := hb2.rd.cut lo V hlV _ rfl
        simpa [u8s_take, u8s_drop] using this
      have hfar : ∀ x, some (a.add lo) = some x → ¬ x.block = R := fun x hx e => by cases hx; exact hb2.far a rfl ((by unfold Addr.add; split <;> rfl : (a.add lo).block = a.block) ▸ e)
      have hbk : ∀ k, Blk ((w2.drewN k).setCell ⟨R, 2, none⟩ (.int .i64 ((lo : Int) + V))) R 84 #[.bool true, .slice (some a) n c, .int .i64 ((lo : Int) + V), .int .i64 t.e, .int .i64 t.p] := fun k => blk_set (blk_ch hb2.blk (ch_drewN No _ k) id) 2 _
      have HBK := Lib.hid hbk
      have HCUT := Lib.hid (fun k => hcut.ch (ch_set (ch_drewN (fun k => k = R) w2 k) ⟨R, 2, none⟩ (.int .i64 ((lo : Int) + V)) rfl) hfar)
      have HB2 := Lib.hid hb2; have HC2 := Lib.hid hch2
      clear hb2 hch2 hcut hbk hfar
      go_wp2_with fail
      go_quiet (fail)
      have hs1 : (0 : Int) ≤ (lo : Int) := by omega
      have hs2 : (lo : Int) ≤ (lo : Int) + V := by omega
      have hs3 : (lo : Int) + V ≤ (c : Int) := by omega
      have hs4 : (0 : Int) ≤ (lo : Int) + V := by omega
      have hs5 : IntKind.i64.wrap (lo : Int) = (lo : Int) := by rw [IntKind.wrap_i64]; omega
      have hs6 : max ((lo : Int) + V) 0 = (lo : Int) + V := by omega
      have hs7 : ((lo : Int) + V).toNat = lo + V := by omega
      go_wp2_with fail
      have e1 := blk_cell (HBK.out nq) 1 _ rfl
      have e2 := blk_cell (HBK.out nq) 2 _ rfl
      go_region_held3 (fun W => W.cell? ⟨R, 1, none⟩ = some (.slice (some a) n c) ∧ W.cell? ⟨R, 2, none⟩ = some (.int .i64 ((lo : Int) + V)))
        (first | exact ⟨e1, e2⟩ | exact ⟨below_cell hb6 e1, below_cell hb6 e2⟩)
        (first | (go_at_call 55; refine (clone_held _ _ _ _ _ ((HCUT.out nq).ch (Ch.drew _ No) (fun _ _ => id)) (by omega)).mono ?_; rintro e w6 ⟨A6, c6, rfl, hh6, hb6⟩))
      go_wp2
      go_ret
      have hr1 : r = ((t.b.drop lo).take V, ⟨t.b, lo + V, t.e, t.p⟩) := by rw [HRR.out, HLO.out]; simp
      have hD : Ch (fun k => k = R) w2 (((w2.drewN nq).setCell ⟨R, 2, none⟩ (.int .i64 ((lo : Int) + V))).drew) := (ch_set (ch_drewN (fun k => k = R) w2 nq) ⟨R, 2, none⟩ _ rfl).trans (Ch.drew _ No) (fun _ h => False.elim h)
      have hcc : Ch (fun k => k = R) w2 w6 := hD.trans (Ch.of_below hb6 No) (fun _ h => False.elim h)
      have hbl := blk_ch (blk_ch (HBK.out nq) (Ch.drew _ No) id) (Ch.of_below hb6 No) id
      have hsz := HC2.out.size
      have hsz2 := hD.size
      clear e1 e2
      subst hr1
      refine ⟨A6, _, c6, rfl, held_in (by simpa using hh6) (by omega), rdb_set HB2.out _ _ rfl HF.out hcc ?_, HC2.out.trans hcc (fun i hi => .inl hi)⟩
      have e9 : ((lo + V : Nat) : Int) = (lo : Int) + V := by omega
      simp only [e9]
      exact hbl
end Go.Proofs.Ytncahekankbalaa
end
section
namespace Go.Proofs.Ytncahekankbalaa
open Go.RowKit
set_option linter.unusedVariables false
set_option linter.unusedSimpArgs false

def RTextQ (w : World) (R : Nat) (A : Option Addr) (n c : Nat) (r : List UInt8 × Rdr) (e : Ending) (w' : World) : Prop := e = .returned (.string ⟨r.1.toArray⟩) ∧ RdB w' R A n c r.2 ∧ Ch (fun k => k = R) w w'
def FaultQ (w : World) (x : Int × Int) (e : Ending) (w' : World) : Prop := e = .returned (.agg #[.int .i64 x.1, .int .i64 x.2]) ∧ Below w.heap.size w w'
set_option maxRecDepth 100000 in
set_option maxHeartbeats 1000000 in
theorem fault_any {w : World} {R : Nat} {A : Option Addr} {n c : Nat} {s : Rdr} (h : RdB w R A n c s) : Calls Try.prog 61 #[.pointer (some ⟨R, 0, none⟩)] w (FaultQ w (s.e, s.p)) := by
  have hb : ∀ o, Below w.heap.size w (w.alloc o) := fun o => (Below.refl w.heap.size w).alloc (Nat.le_refl _) o
  have c0 : ∀ o, (w.alloc o).cell? ⟨R, 0, none⟩ = some (.bool true) := fun o => below_cell (hb o) (blk_cell h.blk 0 _ rfl)
  have c3 : ∀ o, (w.alloc o).cell? ⟨R, 3, none⟩ = some (.int .i64 s.e) := fun o => below_cell (hb o) (blk_cell h.blk 3 _ rfl)
  have c4 : ∀ o, (w.alloc o).cell? ⟨R, 4, none⟩ = some (.int .i64 s.p) := fun o => below_cell (hb o) (blk_cell h.blk 4 _ rfl)
  have H := Lib.hid h
  clear h
  go_enter Try.func61, Try.ntmps61
  go_wp2_with fail
  refine (none_any (c0 _)).mono ?_; rintro e w1 ⟨rfl, rfl⟩
  have d3 := c3 (.cells #[.int .i64 0, .int .i64 0] 32)
  have d4 := c4 (.cells #[.int .i64 0, .int .i64 0] 32)
  go_wp2
  exact bodyPost_ret (results_cell_row rfl _ _ w.heap.size 32 _ (0, 0) _ rfl (heap_alloc_new w _) Try.underlying32 rfl (by kernel_rfl)) rfl ⟨rfl, hb _⟩

set_option maxRecDepth 100000 in
set_option maxHeartbeats 2000000 in
theorem end_any {w : World} {R : Nat} {A : Option Addr} {n c : Nat} {s : Rdr} (h : RdB w R A n c s) : Calls Try.prog 45 #[.pointer (some ⟨R, 0, none⟩)] w (FaultQ w (rend s)) := by
  have hl := rdb_len h
  have h1 := h.fit.le
  rw [hl] at h1
  have hb : Below w.heap.size w (w.alloc (.cells #[.int .i64 0, .int .i64 0] 32)) := (Below.refl w.heap.size w).alloc (Nat.le_refl _) _
  have H := Lib.hid h
  have H1 := Lib.hid (rdb_ch h (Ch.of_below hb No) id (fun _ _ => id))
  obtain ⟨r, hrr⟩ : ∃ r, r = rend s := ⟨_, rfl⟩
  rw [← hrr]
  unfold rend at hrr
  rw [hl] at hrr
  have HRR := Lib.hid hrr
  clear h hrr
  have hbn := blk_new w 32 #[.int .i64 0, .int .i64 0]
  have HBN := Lib.hid hbn
  clear hbn
  go_enter Try.func45, Try.ntmps45
  go_wp2_with fail
  refine (fault_any H1.out).mono ?_; rintro e w2 ⟨rfl, hb2⟩
  have hB2 := hb.trans (hb2.mono (by simp))
  have H2 := rdb_ch H1.out (Ch.of_below hb2 No) id (fun _ _ => id)
  have hR : R < w.heap.size := rdb_lt H.out
  have hsz := hb2.size
  rw [World.size_alloc] at hsz
  have hk := hb2
  have hbn2 : Blk w2 w.heap.size 32 #[.int .i64 0, .int .i64 0] := blk_below HBN.out hb2
  have hW : ∀ o, Below w2.heap.size w2 (w2.alloc o) := fun o => (Below.refl w2.heap.size w2).alloc (Nat.le_refl _) o
  have d1 : (w2.alloc (.cells #[.int .i64 s.e, .int .i64 s.p] 32)).cell? ⟨R, 1, none⟩ = some (.slice A n c) := below_cell (hW _) (blk_cell H2.blk 1 _ rfl)
  have d2 : (w2.alloc (.cells #[.int .i64 s.e, .int .i64 s.p] 32)).cell? ⟨R, 2, none⟩ = some (.int .i64 s.at_) := below_cell (hW _) (blk_cell H2.blk 2 _ rfl)
  have hbn3 := blk_below hbn2 (hW (.cells #[.int .i64 s.e, .int .i64 s.p] 32))
  have r0 := blk_cell hbn3 0 _ rfl
  have r1 := blk_cell hbn3 1 _ rfl
  have q0 := blk_thawed hbn3 0
  have q1 := blk_thawed hbn3 1
  have hb3 := hbn3
  have s0 := blk_cell (blk_new w2 32 #[.int .i64 s.e, .int .i64 s.p]) 0 _ rfl
  have s1 := blk_cell (blk_new w2 32 #[.int .i64 s.e, .int .i64 s.p]) 1 _ rfl
  have HB2 := Lib.hid hB2; have HH2 := Lib.hid H2
  clear hb2 H2 hbn2 hbn3 hB2 hk hb
  have HB3 := Lib.hid hb3
  have FIN : ∀ k x y, Below w.heap.size w (((w2.alloc (.cells #[.int .i64 s.e, .int .i64 s.p] 32)).drewN k).setCell ⟨w.heap.size, 0, none⟩ x |>.setCell ⟨w.heap.size, 1, none⟩ y) := fun k x y =>
    (ch_set (ch_set (((Ch.of_below HB2.out (fun k => k = w.heap.size)).trans (Ch.of_below (hW _) No) (fun _ h => False.elim h)).trans (ch_drewN No _ k) (fun _ h => False.elim h)) ⟨w.heap.size, 0, none⟩ x rfl) ⟨w.heap.size, 1, none⟩ y rfl).below (Nat.le_refl _) (fun k hk => by omega)
  have BLK : ∀ k x y, (((w2.alloc (.cells #[.int .i64 s.e, .int .i64 s.p] 32)).drewN k).setCell ⟨w.heap.size, 0, none⟩ x |>.setCell ⟨w.heap.size, 1, none⟩ y).heap[w.heap.size]? = some (.cells #[x, y] 32 (0, 0)) := fun k x y => blk_set (blk_set (blk_ch HB3.out (ch_drewN No _ k) id) 0 x) 1 y
  have FN := Lib.hid FIN; have BN := Lib.hid BLK
  clear FIN BLK hb3 hW
  by_cases he : s.e = 0
  · have g1 : (s.e == 0) = true := by simpa using he
    have HE := Lib.hid he
    clear he
    by_cases hlt : s.at_ < n
    · have hr : r = (4, (s.at_ : Int)) := by rw [HRR.out, if_pos ⟨HE.out, hlt⟩]
      have HR := Lib.hid hr
      clear hr
      have hlt' : (s.at_ : Int) < (n : Int) := by omega
      have g2 : decide ((s.at_ : Int) < (n : Int)) = true := decide_eq_true hlt'
      go_wp2
      go_quiet (fail)
      go_wp2
      have F1 := FN.out nq (.int .i64 4) (.int .i64 s.at_); have F2 := BN.out nq (.int .i64 4) (.int .i64 s.at_)
      exact bodyPost_ret (results_cell_row rfl _ _ w.heap.size 32 _ (0, 0) _ rfl F2 Try.underlying32 rfl (by kernel_rfl)) rfl ⟨by rw [HR.out], F1⟩
    · have hr : r = (s.e, s.p) := by rw [HRR.out, if_neg (fun e => hlt e.2)]
      have HR := Lib.hid hr
      clear hr
      have hlt' : ¬ ((s.at_ : Int) < (n : Int)) := by omega
      have g2 : decide ((s.at_ : Int) < (n : Int)) = false := decide_eq_false hlt'
      go_wp2
      go_quiet (fail)
      go_wp2
      have F1 := FN.out nq (.int .i64 s.e) (.int .i64 s.p); have F2 := BN.out nq (.int .i64 s.e) (.int .i64 s.p)
      exact bodyPost_ret (results_cell_row rfl _ _ w.heap.size 32 _ (0, 0) _ rfl F2 Try.underlying32 rfl (by kernel_rfl)) rfl ⟨by rw [HR.out], F1⟩
  · have hr : r = (s.e, s.p) := by rw [HRR.out, if_neg (fun e => he e.1)]
    have HR := Lib.hid hr
    have g1 : (s.e == 0) = false := by simpa using he
    clear hr
    go_wp2
    go_quiet (fail)
    go_wp2
    have F1 := FN.out nq (.int .i64 s.e) (.int .i64 s.p); have F2 := BN.out nq (.int .i64 s.e) (.int .i64 s.p)
    exact bodyPost_ret (results_cell_row rfl _ _ w.heap.size 32 _ (0, 0) _ rfl F2 Try.underlying32 rfl (by kernel_rfl)) rfl ⟨by rw [HR.out], F1⟩
end Go.Proofs.Ytncahekankbalaa
end
