/- Walks: a reader of bytes: Open, none, At, Left. Conditions: the reader is as Open made it. -/
import Derived.Test.YtondodhpmghogaaW7
namespace Go.Proofs.Ytondodhpmghogaa
open Go.RowKit
set_option linter.unusedVariables false
set_option linter.unusedSimpArgs false

/-- block R is a reader that Open made, over the slice (A, n, c) of bytes -/
structure RdB (w : World) (R : Nat) (A : Option Addr) (n c : Nat) (s : Rdr) : Prop where
  blk : Blk w R 63 #[.bool true, .slice A n c, .int .i64 s.at_, .int .i64 s.e, .int .i64 s.p]
  rd : Rd w A n c 1 (u8s s.b)
  far : ∀ a, A = some a → a.block ≠ R
  fit : Fit s
theorem rdb_lt {w : World} {R : Nat} {A : Option Addr} {n c : Nat} {s : Rdr} (h : RdB w R A n c s) : R < w.heap.size := blk_lt h.blk
theorem rdb_len {w : World} {R : Nat} {A : Option Addr} {n c : Nat} {s : Rdr} (h : RdB w R A n c s) : s.b.length = n := by have := h.rd.len; simpa using this
theorem rdb_ch {S : Nat → Prop} {w w' : World} {R : Nat} {A : Option Addr} {n c : Nat} {s : Rdr} (h : RdB w R A n c s) (hc : Ch S w w') (h1 : ¬ S R) (h2 : ∀ a, A = some a → ¬ S a.block) : RdB w' R A n c s := ⟨blk_ch h.blk hc h1, h.rd.ch hc h2, h.far, h.fit⟩
theorem rdb_set {w : World} {R : Nat} {A : Option Addr} {n c : Nat} {s : Rdr} (h : RdB w R A n c s) (s' : Rdr) (w' : World) (hb : s'.b = s.b) (hf : Fit s') (hc : Ch (fun k => k = R) w w') (hblk : Blk w' R 63 #[.bool true, .slice A n c, .int .i64 s'.at_, .int .i64 s'.e, .int .i64 s'.p]) : RdB w' R A n c s' :=
  ⟨hblk, by rw [hb]; exact h.rd.ch hc h.far, h.far, hf⟩

def OpenQ (w : World) (l : List UInt8) (e : Ending) (w' : World) : Prop := ∃ R A n c, e = .returned (.pointer (some ⟨R, 0, none⟩)) ∧ RdB w' R A n c ⟨l, 0, 0, 0⟩ ∧ w.heap.size ≤ R ∧ (∀ a, A = some a → w.heap.size ≤ a.block) ∧ Below w.heap.size w w'
set_option maxRecDepth 100000 in
set_option maxHeartbeats 1000000 in
theorem open_any {A : Option Addr} {n c : Nat} {l : List UInt8} {w : World} (hr : Rd w A n c 1 (u8s l)) (hn : n ≤ 1000000000) : Calls Try.prog 27 #[.slice A n c] w (OpenQ w l) := by
  have hl : l.length = n := by have := hr.len; simpa using this
  have HR := Lib.hid hr
  clear hr
  go_enter Try.func27, Try.ntmps27
  go_wp2_with fail
  refine (clone_held A n c l _ HR.out hn).mono ?_; rintro e w1 ⟨A', c', rfl, hh, hb1⟩
  go_wp2
  go_ret
  have hsz := hb1.size
  refine ⟨w1.heap.size, A', n, c', rfl, ⟨blk_new w1 _ _, (held_rd hh).ch (Ch.alloc w1 _ No) (fun _ _ => id), (fun a ha => by have := held_lt hh a ha; omega), ⟨Nat.zero_le _, by simp; omega, by simp⟩⟩, hsz, (fun a ha => (held_lt hh a ha).1), hb1.alloc hsz _⟩

set_option maxHeartbeats 400000 in
theorem none_any {w : World} {R : Nat} (h : w.cell? ⟨R, 0, none⟩ = some (.bool true)) : Calls Try.prog 71 #[.pointer (some ⟨R, 0, none⟩)] w fun e w' => e = .returned (.bool false) ∧ w' = w := by
  go_enter Try.func71, Try.ntmps71
  go_wp2
  go_ret
  exact ⟨rfl, rfl⟩
set_option maxHeartbeats 400000 in
theorem rat_any {w : World} {R : Nat} {A : Option Addr} {n c : Nat} {s : Rdr} (h : RdB w R A n c s) : Calls Try.prog 30 #[.pointer (some ⟨R, 0, none⟩)] w fun e w' => e = .returned (.int .i64 s.at_) ∧ w' = w := by
  have c0 : w.cell? ⟨R, 0, none⟩ = some (.bool true) := blk_cell h.blk 0 _ rfl
  have c2 : w.cell? ⟨R, 2, none⟩ = some (.int .i64 s.at_) := blk_cell h.blk 2 _ rfl
  go_enter Try.func30, Try.ntmps30
  go_wp2_with (go_at_call 71; refine (none_any c0).mono ?_; rintro e w1 ⟨rfl, rfl⟩)
  go_ret
  exact ⟨rfl, rfl⟩
set_option maxHeartbeats 400000 in
theorem rleft_any {w : World} {R : Nat} {A : Option Addr} {n c : Nat} {s : Rdr} (h : RdB w R A n c s) : Calls Try.prog 31 #[.pointer (some ⟨R, 0, none⟩)] w fun e w' => e = .returned (.int .i64 ((s.b.length : Int) - s.at_)) ∧ Ch No w w' := by
  have c0 : w.cell? ⟨R, 0, none⟩ = some (.bool true) := blk_cell h.blk 0 _ rfl
  have c1 : w.cell? ⟨R, 1, none⟩ = some (.slice A n c) := blk_cell h.blk 1 _ rfl
  have c2 : w.cell? ⟨R, 2, none⟩ = some (.int .i64 s.at_) := blk_cell h.blk 2 _ rfl
  have hl := rdb_len h
  have h1 := h.fit.le
  have h2 := h.fit.big
  rw [hl] at h1 h2
  have hw : IntKind.i64.wrap ((n : Int) - s.at_) = (n : Int) - s.at_ := by rw [IntKind.wrap_i64]; omega
  go_enter Try.func31, Try.ntmps31
  go_wp2_with (go_at_call 71; refine (none_any c0).mono ?_; rintro e w1 ⟨rfl, rfl⟩)
  go_quiet (fail)
  go_wp2
  go_ret
  exact ⟨by rw [hl]; rfl, ch_drewN No _ _⟩
end Go.Proofs.Ytondodhpmghogaa
