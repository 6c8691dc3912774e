/- Words for a session's memory; walks: its small functions. Conditions: the session is as New makes it. -/
import Derived.Test.YtadcahnoghnkcaaB1
import Derived.Test.YtadcahnoghnkcaaB2
import Derived.Deep.QuietTactic
import Derived.BigQuiet
namespace Go.Proofs.Ytadcahnoghnkcaa
open Go.RowKit
set_option linter.unusedVariables false
set_option linter.unusedSimpArgs false

/-- a place of the ring -/
structure Pl where
  A : Option Addr
  n : Nat
  c : Nat
  o : Bool
  t : Int
def Pl.cells (p : Pl) : List Value := [.slice p.A p.n p.c, .bool p.o, .int .i64 p.t]
/-- a session's words -/
structure Ses where
  ep : Int
  pe : Int
  r : Nat → Pl
  ba : Nat
  ma : Nat
  ca : Int
  ow : Bool
  inn : Value
  tu : Int
def Ses.cells (s : Ses) : List Value :=
  [.int .i64 s.ep, .int .i64 s.pe] ++ ((s.r 0).cells ++ (s.r 1).cells ++ (s.r 2).cells ++ (s.r 3).cells ++ (s.r 4).cells ++ (s.r 5).cells ++ (s.r 6).cells ++ (s.r 7).cells) ++
    [.int .i64 (s.ba : Int), .int .i64 (s.ma : Int), .int .i64 s.ca, .int .u32 (bit s.ow), s.inn, .int .i64 s.tu]
def SesB (w : World) (B : Nat) (s : Ses) : Prop := Blk w B 75 s.cells.toArray
theorem sesB_ch {S : Nat → Prop} {w w' : World} {B : Nat} {s : Ses} (h : SesB w B s) (hc : Ch S w w') (hS : ¬ S B) : SesB w' B s := blk_ch h hc hS
theorem sesB_below {w w' : World} {B : Nat} {s : Ses} (h : SesB w B s) (hc : Below w.heap.size w w') : SesB w' B s := blk_below h hc
theorem ses_ep {w : World} {B : Nat} {s : Ses} (h : SesB w B s) : w.cell? ⟨B, 0, none⟩ = some (.int .i64 s.ep) := blk_cell h 0 _ rfl
theorem ses_pe {w : World} {B : Nat} {s : Ses} (h : SesB w B s) : w.cell? ⟨B, 1, none⟩ = some (.int .i64 s.pe) := blk_cell h 1 _ rfl
theorem ses_ba {w : World} {B : Nat} {s : Ses} (h : SesB w B s) : w.cell? ⟨B, 26, none⟩ = some (.int .i64 (s.ba : Int)) := blk_cell h 26 _ rfl
theorem ses_ma {w : World} {B : Nat} {s : Ses} (h : SesB w B s) : w.cell? ⟨B, 27, none⟩ = some (.int .i64 (s.ma : Int)) := blk_cell h 27 _ rfl
theorem ses_ca {w : World} {B : Nat} {s : Ses} (h : SesB w B s) : w.cell? ⟨B, 28, none⟩ = some (.int .i64 s.ca) := blk_cell h 28 _ rfl
theorem ses_ow {w : World} {B : Nat} {s : Ses} (h : SesB w B s) : w.cell? ⟨B, 29, none⟩ = some (.int .u32 (bit s.ow)) := blk_cell h 29 _ rfl
theorem ses_in {w : World} {B : Nat} {s : Ses} (h : SesB w B s) : w.cell? ⟨B, 30, none⟩ = some s.inn := blk_cell h 30 _ rfl
theorem ses_tu {w : World} {B : Nat} {s : Ses} (h : SesB w B s) : w.cell? ⟨B, 31, none⟩ = some (.int .i64 s.tu) := blk_cell h 31 _ rfl
theorem ses_fz {w : World} {B : Nat} {s : Ses} (h : SesB w B s) (j : Nat) : w.frozen? ⟨B, j, none⟩ = false := blk_thawed h j
theorem ses_ring {w : World} {B : Nat} {s : Ses} (h : SesB w B s) {j : Nat} (hj : j < 8) :
    w.cell? ⟨B, 2 + j * 3, none⟩ = some (.slice (s.r j).A (s.r j).n (s.r j).c) ∧ w.cell? ⟨B, 2 + j * 3 + 1, none⟩ = some (.bool (s.r j).o) ∧ w.cell? ⟨B, 2 + j * 3 + 2, none⟩ = some (.int .i64 (s.r j).t) := by
  match j, hj with
  | 0, _ => exact ⟨blk_cell h 2 _ rfl, blk_cell h 3 _ rfl, blk_cell h 4 _ rfl⟩
  | 1, _ => exact ⟨blk_cell h 5 _ rfl, blk_cell h 6 _ rfl, blk_cell h 7 _ rfl⟩
  | 2, _ => exact ⟨blk_cell h 8 _ rfl, blk_cell h 9 _ rfl, blk_cell h 10 _ rfl⟩
  | 3, _ => exact ⟨blk_cell h 11 _ rfl, blk_cell h 12 _ rfl, blk_cell h 13 _ rfl⟩
  | 4, _ => exact ⟨blk_cell h 14 _ rfl, blk_cell h 15 _ rfl, blk_cell h 16 _ rfl⟩
  | 5, _ => exact ⟨blk_cell h 17 _ rfl, blk_cell h 18 _ rfl, blk_cell h 19 _ rfl⟩
  | 6, _ => exact ⟨blk_cell h 20 _ rfl, blk_cell h 21 _ rfl, blk_cell h 22 _ rfl⟩
  | 7, _ => exact ⟨blk_cell h 23 _ rfl, blk_cell h 24 _ rfl, blk_cell h 25 _ rfl⟩
def upd (r : Nat → Pl) (j : Nat) (p : Pl) : Nat → Pl := fun i => if i = j then p else r i
theorem upd_at (r : Nat → Pl) (j : Nat) (p : Pl) : upd r j p j = p := if_pos rfl
theorem upd_off (r : Nat → Pl) {i j : Nat} (p : Pl) (h : i ≠ j) : upd r j p i = r i := if_neg h
theorem ses_set0 {w : World} {B : Nat} {s : Ses} (h : SesB w B s) {j : Nat} (hj : j < 8) (A : Option Addr) (n c : Nat) : SesB (w.setCell ⟨B, 2 + j * 3, none⟩ (.slice A n c)) B { s with r := upd s.r j { s.r j with A := A, n := n, c := c } } := by
  have := blk_set h (2 + j * 3) (.slice A n c)
  match j, hj with
  | 0, _ | 1, _ | 2, _ | 3, _ | 4, _ | 5, _ | 6, _ | 7, _ => exact this
theorem ses_set1 {w : World} {B : Nat} {s : Ses} (h : SesB w B s) {j : Nat} (hj : j < 8) (o : Bool) : SesB (w.setCell ⟨B, 2 + j * 3 + 1, none⟩ (.bool o)) B { s with r := upd s.r j { s.r j with o := o } } := by
  have := blk_set h (2 + j * 3 + 1) (.bool o)
  match j, hj with
  | 0, _ | 1, _ | 2, _ | 3, _ | 4, _ | 5, _ | 6, _ | 7, _ => exact this
theorem ses_set2 {w : World} {B : Nat} {s : Ses} (h : SesB w B s) {j : Nat} (hj : j < 8) (t : Int) : SesB (w.setCell ⟨B, 2 + j * 3 + 2, none⟩ (.int .i64 t)) B { s with r := upd s.r j { s.r j with t := t } } := by
  have := blk_set h (2 + j * 3 + 2) (.int .i64 t)
  match j, hj with
  | 0, _ | 1, _ | 2, _ | 3, _ | 4, _ | 5, _ | 6, _ | 7, _ => exact this

set_option maxHeartbeats 400000 in
theorem snone_any {B : Nat} {s : Ses} {w : World} (h : SesB w B s) (h0 : s.ep ≠ 0) : Calls Try.prog 64 #[.pointer (some ⟨B, 0, none⟩)] w fun e w' => e = .returned (.bool false) ∧ w = w' := by
  have c0 := ses_ep h
  have hb : (s.ep == 0) = false := by simpa using h0
  clear h
  go_enter Try.func64, Try.ntmps64
  go_wp2
  go_ret
  exact ⟨rfl, rfl⟩
set_option maxHeartbeats 400000 in
theorem snone_nil (w : World) : Calls Try.prog 64 #[.pointer none] w fun e w' => e = .returned (.bool true) ∧ w = w' := by
  go_enter Try.func64, Try.ntmps64
  go_wp2
  go_ret
  exact ⟨rfl, rfl⟩
set_option maxHeartbeats 400000 in
theorem at_any {B : Nat} {s : Ses} {w : World} (h : SesB w B s) (i : Nat) (hi : s.ba + i ≤ 4611686018427387904) :
    Calls Try.prog 66 #[.pointer (some ⟨B, 0, none⟩), .int .i64 (i : Int)] w fun e w' => e = .returned (.pointer (some ⟨B, 2 + ((s.ba + i) % 8) * 3, none⟩)) ∧ Ch No w w' := by
  have c0 := ses_ba h
  obtain ⟨j, hj⟩ : ∃ j, j = (s.ba + i) % 8 := ⟨_, rfl⟩
  have hj8 : j < 8 := by omega
  have hm : ((s.ba : Int) + (i : Int)).tmod 8 = (j : Int) := by rw [Int.tmod_eq_emod_of_nonneg (by omega)]; omega
  rw [← hj]
  clear h hj
  go_enter Try.func66, Try.ntmps66
  go_wp2
  go_quiet (fail)
  go_wp2
  go_ret
  exact ⟨rfl, ch_drewN _ _ _⟩
end Go.Proofs.Ytadcahnoghnkcaa
