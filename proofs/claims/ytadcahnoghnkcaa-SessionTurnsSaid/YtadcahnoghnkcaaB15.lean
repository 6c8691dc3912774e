/- Walk: without a session nothing is sent (SessionNone). No conditions. -/
import Derived.Test.YtadcahnoghnkcaaB13
namespace Go.Proofs.Ytadcahnoghnkcaa
open Go.RowKit
set_option linter.unusedVariables false
set_option linter.unusedSimpArgs false

def NoSes (w : World) (p : Option Addr) : Prop := p = none ∨ ∃ B, p = some ⟨B, 0, none⟩ ∧ w.cell? ⟨B, 0, none⟩ = some (.int .i64 0)
theorem noSes_below {w w' : World} {p : Option Addr} (h : NoSes w p) (hb : Below w.heap.size w w') : NoSes w' p := h.imp id fun ⟨B, h1, h2⟩ => ⟨B, h1, below_cell hb h2⟩
theorem noSes_drewN {w : World} {p : Option Addr} (h : NoSes w p) (n : Nat) : NoSes (w.drewN n) p := noSes_below h (ch_below (ch_drewN No w n))
set_option maxHeartbeats 400000 in
theorem snone_off (B : Nat) (w : World) (h : w.cell? ⟨B, 0, none⟩ = some (.int .i64 0)) : Calls Try.prog 64 #[.pointer (some ⟨B, 0, none⟩)] w fun e w' => e = .returned (.bool true) ∧ w = w' := by
  go_enter Try.func64, Try.ntmps64
  go_wp2
  go_ret
  exact ⟨rfl, rfl⟩
theorem snone_no {p : Option Addr} {w : World} (h : NoSes w p) : Calls Try.prog 64 #[.pointer p] w fun e w' => e = .returned (.bool true) ∧ w = w' := by
  rcases h with rfl | ⟨B, rfl, h⟩
  · exact snone_nil w
  · exact snone_off B w h
set_option maxHeartbeats 400000 in
theorem peer_no {p : Option Addr} {w : World} (h : NoSes w p) : Calls Try.prog 19 #[.pointer p] w fun e w' => e = .returned (.int .i64 0) ∧ w = w' := by
  have H := Lib.hid h; clear h
  go_enter Try.func19, Try.ntmps19
  go_wp2_with fail
  refine (snone_no H.out).mono ?_; rintro e w1 ⟨rfl, rfl⟩
  go_wp2
  go_ret
  exact ⟨rfl, rfl⟩
set_option maxHeartbeats 400000 in
theorem wait_no {p : Option Addr} {w : World} (h : NoSes w p) : Calls Try.prog 22 #[.pointer p] w fun e w' => e = .returned (.int .i64 0) ∧ w = w' := by
  have H := Lib.hid h; clear h
  go_enter Try.func22, Try.ntmps22
  go_wp2_with fail
  refine (snone_no H.out).mono ?_; rintro e w1 ⟨rfl, rfl⟩
  go_wp2
  go_ret
  exact ⟨rfl, rfl⟩
set_option maxHeartbeats 400000 in
theorem turns_no {p : Option Addr} {w : World} (h : NoSes w p) : Calls Try.prog 35 #[.pointer p] w fun e w' => e = .returned (.int .i64 0) ∧ w = w' := by
  have H := Lib.hid h; clear h
  go_enter Try.func35, Try.ntmps35
  go_wp2_with fail
  refine (snone_no H.out).mono ?_; rintro e w1 ⟨rfl, rfl⟩
  go_wp2
  go_ret
  exact ⟨rfl, rfl⟩
set_option maxHeartbeats 400000 in
theorem take_no {p : Option Addr} {w : World} (h : NoSes w p) : Calls Try.prog 27 #[.pointer p] w fun e w' => e = .returned (.slice none 0 0) ∧ w = w' := by
  have H := Lib.hid h; clear h
  go_enter Try.func27, Try.ntmps27
  go_wp2_with fail
  refine (snone_no H.out).mono ?_; rintro e w1 ⟨rfl, rfl⟩
  go_wp2
  go_ret
  exact ⟨rfl, rfl⟩
set_option maxRecDepth 100000 in
set_option maxHeartbeats 400000 in
theorem out_no {p : Option Addr} {w : World} (h : NoSes w p) : Calls Try.prog 16 #[.pointer p] w fun e w' => e = .returned (.slice none 0 0) ∧ w = w' := by
  have H := Lib.hid h; clear h
  go_enter Try.func16, Try.ntmps16
  go_wp2_with fail
  refine (snone_no H.out).mono ?_; rintro e w1 ⟨rfl, rfl⟩
  go_wp2
  go_ret
  exact ⟨rfl, rfl⟩
set_option maxRecDepth 100000 in
set_option maxHeartbeats 400000 in
theorem tick_no {p : Option Addr} {w : World} (h : NoSes w p) : Calls Try.prog 26 #[.pointer p] w fun e w' => e = .returned (.tuple #[]) ∧ w = w' := by
  have H := Lib.hid h; clear h
  go_enter Try.func26, Try.ntmps26
  go_wp2_with fail
  refine (snone_no H.out).mono ?_; rintro e w1 ⟨rfl, rfl⟩
  go_wp2
  exact bodyPost_ret (results_none rfl _ _ _) rfl ⟨rfl, rfl⟩
set_option maxRecDepth 100000 in
set_option maxHeartbeats 400000 in
theorem send_no {p : Option Addr} {w : World} (h : NoSes w p) (A : Option Addr) (n c : Nat) : Calls Try.prog 15 #[.pointer p, .slice A n c] w fun e w' => e = .returned (.int .i64 1) ∧ w = w' := by
  have H := Lib.hid h; clear h
  go_enter Try.func15, Try.ntmps15
  go_wp2_with fail
  refine (snone_no H.out).mono ?_; rintro e w1 ⟨rfl, rfl⟩
  go_wp2
  go_ret
  exact ⟨rfl, rfl⟩
set_option maxRecDepth 100000 in
set_option maxHeartbeats 2000000 in
theorem recv_no {p : Option Addr} {w : World} (h : NoSes w p) (fr to nu ac : Int) (A : Option Addr) (n c : Nat) : Calls Try.prog 18 #[.pointer p, .agg #[.int .i64 fr, .int .i64 to, .int .i64 nu, .int .i64 ac, .slice A n c]] w fun e w' => e = .returned (.tuple #[]) ∧ Below w.heap.size w w' := by
  have hb : Below w.heap.size w (w.alloc (.cells #[.int .i64 fr, .int .i64 to, .int .i64 nu, .int .i64 ac, .slice A n c] 33)) := (Below.refl _ w).alloc (Nat.le_refl _) _
  have H := Lib.hid (noSes_below h hb)
  have FIN := Lib.hid (show ∀ nq, Below w.heap.size w ((w.alloc (.cells #[.int .i64 fr, .int .i64 to, .int .i64 nu, .int .i64 ac, .slice A n c] 33)).drewN nq) from fun nq => hb.trans ((ch_drewN No _ nq).below hb.size (fun _ h => h.elim)))
  clear h hb
  go_enter Try.func18, Try.ntmps18
  go_wp2_with fail
  go_quiet ((go_at_call 64; exact Calls.quiet_of_same ((snone_no (noSes_drewN H.out _)).mono fun e w' h => ⟨h.1, h.2.symm⟩)))
  go_wp2
  exact bodyPost_ret (results_none rfl _ _ _) rfl ⟨rfl, FIN.out nq⟩

/-- an act's value -/
structure Ac where
  k : Int
  fr : Int
  to : Int
  nu : Int
  ac : Int
  M : Option Addr
  m : Nat
  d : Nat
  l : List UInt8
def Ac.cells (x : Ac) : List Value := [.int .i64 x.k, .int .i64 x.fr, .int .i64 x.to, .int .i64 x.nu, .int .i64 x.ac, .slice x.M x.m x.d]
def AcIn (w : World) (b o : Nat) (x : Ac) : Prop :=
  w.cell? ⟨b, o, none⟩ = some (.int .i64 x.k) ∧ w.cell? ⟨b, o + 1, none⟩ = some (.int .i64 x.fr) ∧ w.cell? ⟨b, o + 2, none⟩ = some (.int .i64 x.to) ∧ w.cell? ⟨b, o + 3, none⟩ = some (.int .i64 x.nu) ∧ w.cell? ⟨b, o + 4, none⟩ = some (.int .i64 x.ac) ∧ w.cell? ⟨b, o + 5, none⟩ = some (.slice x.M x.m x.d) ∧ Rd w x.M x.m x.d 1 (u8s x.l)
def Acs (w : World) (A : Option Addr) (n c : Nat) (F : Nat → Ac) : Prop := n ≤ c ∧ c ≤ 9223372036854775807 ∧ ∀ i, i < n → ∃ b off, A = some ⟨b, off, none⟩ ∧ AcIn w b (off + i * 6) (F i)
def LongQ (n : Nat) (F : Nat → Ac) (e : Ending) : Prop := ∃ b, e = .returned (.bool b) ∧ (b = false → n ≤ 80 ∧ ∀ i, i < n → (F i).m ≤ 500)
set_option maxHeartbeats 1000000 in
theorem long_any (A : Option Addr) (n c : Nat) (F : Nat → Ac) (w : World) (h : Acs w A n c F) : Calls Try.prog 30 #[.slice A n c] w fun e w' => LongQ n F e ∧ w = w' := by
  have hnc := h.1
  have hc63 := h.2.1
  have H := Lib.hid h; clear h
  go_enter Try.func30, Try.ntmps30
  go_wp2
  go_loopw [3] (fun i wr => ∃ k : Nat, k ≤ n ∧ i = .int .i64 k ∧ Hid (∀ j, j < k → (F j).m ≤ 500) ∧ w = wr) (fun i _ => n - (intOf i).toNat)
  case atStart => exact ⟨0, Nat.zero_le _, rfl, Lib.hid (fun j h => by omega), rfl⟩
  case round =>
    obtain ⟨k, hk, rfl, HF, rfl⟩ := hrel
    by_cases hlt : k < n
    · obtain ⟨b5, off, rfl, hmi⟩ := H.out.2.2 k hlt
      obtain ⟨y, hy⟩ : ∃ y, y = F k := ⟨_, rfl⟩
      rw [← hy] at hmi
      have HY := Lib.hid (show (F k).m = y.m by rw [hy])
      obtain ⟨k1, i1, s1, a1, b1, M1, m1, d1, l1⟩ := y
      clear hy
      obtain ⟨_, _, _, _, _, c5, hrd⟩ := hmi
      simp only at c5 hrd
      have hm63 := hrd.small
      have hadd : off + k * 6 + 5 = off + k * 6 + 1 + 4 := by omega
      rw [hadd] at c5
      clear hrd
      by_cases hm : 500 < m1
      · go_wp2
        go_ret
        exact ⟨⟨true, rfl, fun h => by cases h⟩, rfl⟩
      · have hmd : decide (500 < (m1 : Int)) = false := by simp; omega
        have HF1 : Hid (∀ j, j < k + 1 → (F j).m ≤ 500) := Lib.hid (fun j hj => by
          rcases Nat.lt_or_ge j k with h | h
          · exact HF.out j h
          · obtain rfl : j = k := by omega
            rw [HY.out]; show m1 ≤ 500; omega)
        clear HF
        go_wp2
        go_roundw
        case rel => exact ⟨k + 1, by omega, by go_num, HF1, trivial⟩
        case measure => simp [intOf]; omega
    · obtain rfl : k = n := by omega
      by_cases h80 : 80 < k
      · go_wp2
        go_ret
        exact ⟨⟨_, rfl, fun h => by have h' : ¬ (80 < (k : Int)) := of_decide_eq_false h; omega⟩, rfl⟩
      · have g80 : decide (80 < (k : Int)) = false := by simp; omega
        go_wp2
        go_ret
        exact ⟨⟨_, rfl, fun _ => ⟨by omega, HF.out⟩⟩, rfl⟩
end Go.Proofs.Ytadcahnoghnkcaa
