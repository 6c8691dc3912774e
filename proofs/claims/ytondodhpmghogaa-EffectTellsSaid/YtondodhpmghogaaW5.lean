/- Walks: Out of the writer; the reference's form of a number. Conditions: the writer is as New made it; the number below 2^63. -/
import Derived.Test.YtondodhpmghogaaW4
import Derived.Test.YtondodhpmghogaaLib5
import Derived.Deep.QuietTactic
import Derived.BigQuiet
namespace Go.Proofs.Ytondodhpmghogaa
open Go.RowKit
set_option linter.unusedVariables false
set_option linter.unusedSimpArgs false

def OutWQ (w : World) (b : List UInt8) (e : Int) (E : Ending) (w' : World) : Prop := ∃ A n c, E = .returned (.tuple #[.slice A n c, .int .i64 e]) ∧ Held w' w.heap.size A n c (if e = 0 then b else []) ∧ Below w.heap.size w w'
set_option maxRecDepth 100000 in
set_option maxHeartbeats 1000000 in
theorem wout_any {w : World} {B : Nat} {v : Value} {b : List UInt8} {e : Int} (h : Wr w B v b e) (hb : b.length ≤ 1048576) :
    Calls Try.prog 19 #[.pointer (some ⟨B, 0, none⟩)] w (OutWQ w b e) := by
  have c0 : w.cell? ⟨B, 0, none⟩ = some (.bool true) := blk_cell h.blk 0 _ rfl
  have c2 : w.cell? ⟨B, 2, none⟩ = some (.int .i64 e) := blk_cell h.blk 2 _ rfl
  by_cases he : e ≠ 0
  · have g2 : (e != 0) = true := by simpa using he
    go_enter Try.func19, Try.ntmps19
    go_wp2
    go_quiet (fail)
    go_wp2
    go_ret2
    exact ⟨none, 0, 0, rfl, by rw [if_neg he]; exact held_nil _ _, (ch_drewN No w _).below (Nat.le_refl _) (fun _ h => h.elim)⟩
  obtain rfl : e = 0 := Decidable.not_not.1 he
  clear he
  obtain ⟨A, c, rfl, hr, hA⟩ := wr_form h
  have c1 : w.cell? ⟨B, 1, none⟩ = some (.slice A b.length c) := blk_cell h.blk 1 _ rfl
  have HR := Lib.hid hr
  clear hr
  go_enter Try.func19, Try.ntmps19
  go_wp2_with fail
  refine (clone_held A b.length c b _ HR.out (by omega)).mono ?_; rintro e w1 ⟨A', c', rfl, hh, hb1⟩
  go_wp2
  go_ret2
  exact ⟨_, _, _, rfl, by rw [if_pos rfl]; exact hh, hb1⟩

set_option maxRecDepth 100000 in
set_option maxHeartbeats 4000000 in
theorem rform_any (n : Nat) (hn : n < 9223372036854775808) (w : World) : Calls Try.prog 78 #[.int .i64 n] w (FormQ w n) := by
  go_enter Try.func78, Try.ntmps78
  go_wp2_with fail
  go_loopw [0, 3] (fun i v wr => ∃ (N m c : Nat) (A : Option Addr) (ys : List UInt8), i = .int .i64 N ∧ N ≤ n ∧ v = .slice A m c ∧ be n = be N ++ ys ∧ Rd wr A m c 1 (u8s ys) ∧ Below w.heap.size w wr) (fun i _ _ => (intOf i).toNat)
  case atStart => exact ⟨n, 0, 0, none, [], rfl, Nat.le_refl _, rfl, by simp, nil_rd _ _, Below.refl _ _⟩
  case round =>
    obtain ⟨N, m, c, A, ys, rfl, hN, rfl, hbe, hr, hB⟩ := hrel
    have hm : ys.length = m := by have := hr.len; simpa using this
    have hm8 : m ≤ 8 := by have := be_len8 n; rw [hbe, List.length_append] at this; omega
    have hsz := hB.size
    by_cases h0 : 0 < N
    · have hst := be_step N (by omega) (by omega)
      have HR := Lib.hid hr; have HB := Lib.hid hB; have HE := Lib.hid hbe; have HS := Lib.hid hst
      clear hr hB hbe hst
      have g1 : decide ((0 : Int) < N) = true := by simp; omega
      go_wp2_with (at_builtin; refine wpList_app_row (wr.alloc (.cells #[.int .u8 ((N : Int) % 256)] 5)) rfl _ _ 26 rfl w.heap.size 5 _ 1 1 Try.underlying26 info5 rfl (by decide) wr.heap.size 1 1 [.int .u8 ((N : Int) % 256)] rfl (row_lit wr _ 5 1 1 rfl (by decide)) hsz rfl (Nat.le_refl _) A m c (u8s ys) rfl (HR.out.ch (Ch.alloc wr _ No) (fun _ _ => id)) (u8s_one _) (by simp [maxLen]; omega) (by omega) (by simp; omega) ?_; intro g' c' w' hrow' hnc' hbg' hat' hch')
      have hB' : Below w.heap.size w w' := (HB.out.alloc hsz _).trans (hch'.below (by simp; omega) (fun k hk => by omega))
      have he : u8s (UInt8.ofNat (N % 256) :: ys) = [.int .u8 ((N : Int) % 256)] ++ u8s ys := by
        have : (UInt8.ofNat (N % 256)).toNat = N % 256 := by simp
        simp [u8s, this]
      rw [← he] at hrow'
      have hN2 : ((N / 256 : Nat) : Int) = (N : Int) / 256 := by omega
      have hrd := row_u8_rd hrow' (n := 1 + m) (by simp; omega) hnc'
      go_wp2
      go_roundw
      case rel => exact ⟨N / 256, 1 + m, c', _, UInt8.ofNat (N % 256) :: ys, by rw [hN2], by omega, rfl, by rw [HE.out, HS.out]; simp, hrd, hB'⟩
      case measure => simp [intOf]; omega
    · obtain rfl : N = 0 := by omega
      rw [be_zero, List.nil_append] at hbe
      have hlen : (be n).length = m := by rw [hbe]; exact hm
      have HLEN := Lib.hid hlen
      subst hbe
      have HR := Lib.hid hr; have HB := Lib.hid hB
      clear hr hB hlen
      have g3 : (m : Int) % 256 = m := by omega
      go_wp2_with (at_builtin; refine wpList_app_row (wr.alloc (.cells #[.int .u8 (m : Int)] 5)) rfl _ _ 26 rfl w.heap.size 5 _ 1 1 Try.underlying26 info5 rfl (by decide) wr.heap.size 1 1 [.int .u8 (m : Int)] rfl (row_lit wr _ 5 1 1 rfl (by decide)) hsz rfl (Nat.le_refl _) A m c (u8s (be n)) rfl (HR.out.ch (Ch.alloc wr _ No) (fun _ _ => id)) (u8s_one _) (by simp [maxLen]; omega) (by omega) (by simp; omega) ?_; intro g' c' w' hrow' hnc' hbg' hat' hch')
      have hB' : Below w.heap.size w w' := (HB.out.alloc hsz _).trans (hch'.below (by simp; omega) (fun k hk => by omega))
      go_ret
      have hfl : (frm n).length = 1 + m := by rw [frm_len, HLEN.out]; omega
      have he : u8s (frm n) = [.int .u8 (m : Int)] ++ u8s (be n) := by
        have : (UInt8.ofNat m).toNat = m := by simp; omega
        unfold frm; rw [HLEN.out]; simp [u8s, this]
      exact ⟨g', c', by rw [hfl]; rfl, hbg', by omega, by rw [he]; exact hrow', hB'⟩
end Go.Proofs.Ytondodhpmghogaa
