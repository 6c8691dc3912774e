/- Walk: met: two sessions that know one another. Conditions: both epochs may be. -/
import Derived.Test.YtadcahnoghnkcaaB11
namespace Go.Proofs.Ytadcahnoghnkcaa
open Go.RowKit
set_option linter.unusedVariables false
set_option linter.unusedSimpArgs false

/-- a session that has met another one, and nothing else -/
def sesM (ep pe : Int) (ow : Bool) : Ses := ⟨ep, pe, fun _ => ⟨none, 0, 0, false, 0⟩, 1, 0, 0, ow, .slice none 0 0, 1⟩
theorem out_ses0 (ep : Int) (bd : Nat → List UInt8) : outAll (ses0 ep) bd = [⟨ep, 0, 0, 0, []⟩] := by unfold outAll; rw [if_pos ⟨rfl, .inl rfl⟩]; rfl
theorem out_sesM (ep pe : Int) (bd : Nat → List UInt8) : outAll (sesM ep pe true) bd = [⟨ep, pe, 0, 0, []⟩] := by unfold outAll; rw [if_pos ⟨rfl, .inl rfl⟩]; rfl
theorem recv_first (ep fr : Int) (b : Bool) (h1 : 1 ≤ fr) (h2 : fr ≤ 1099511627776) (h3 : 1 ≤ ep) : recvS (sesI ep b) fr 0 0 0 0 = (sesM ep fr true, false) := by
  unfold recvS
  rw [if_neg (by unfold Bad sesI; simp only; omega), if_pos (show (0 : Int) ≠ (sesI ep b).ep from fun e => by have e' : (0 : Int) = ep := e; omega), if_pos (show (sesI ep b).pe < fr from by show (0 : Int) < fr; omega)]
  rfl
theorem recv_second (ep fr : Int) (b : Bool) (h1 : 1 ≤ fr) (h2 : fr ≤ 1099511627776) (h3 : 1 ≤ ep) : recvS (sesI ep b) fr ep 0 0 0 = (sesM ep fr true, false) := by
  unfold recvS
  rw [if_neg (by unfold Bad sesI; simp only; omega), if_neg (fun h => h rfl), if_pos rfl, if_pos (show (sesI ep b).pe < fr from by show (0 : Int) < fr; omega)]
  unfold Ses.acked
  rw [if_neg (fun h => by have h1 : ((1 : Nat) : Int) ≤ 0 := h.1; omega)]
  rfl
def MetQ (w : World) (one other : Int) (e : Ending) (w' : World) : Prop :=
  ∃ Ba Bb, e = .returned (.tuple #[.pointer (some ⟨Ba, 0, none⟩), .pointer (some ⟨Bb, 0, none⟩)]) ∧ w.heap.size ≤ Ba ∧ w.heap.size ≤ Bb ∧ Ba ≠ Bb ∧ SesB w' Ba (sesM one other true) ∧ SesB w' Bb (sesM other one false) ∧ Below w.heap.size w w'
set_option maxRecDepth 100000 in
set_option maxHeartbeats 4000000 in
theorem met_any (one other : Int) (w : World) (h1 : 1 ≤ one) (h2 : one ≤ 1099511627776) (h3 : 1 ≤ other) (h4 : other ≤ 1099511627776) : Calls Try.prog 23 #[.int .i64 one, .int .i64 other] w (MetQ w one other) := by
  go_enter Try.func23, Try.ntmps23
  go_wp2_with fail
  refine (snew_any one w).mono ?_; rintro e w1 hq
  rcases hq with ⟨h, _⟩ | ⟨_, _, rfl, hs1, hB1⟩
  · omega
  have HS1 := Lib.hid hs1; have HB1 := Lib.hid hB1
  have hz1 := blk_lt hs1
  clear hs1 hB1
  go_wp2_with fail
  refine (snew_any other w1).mono ?_; rintro e w2 hq
  rcases hq with ⟨h, _⟩ | ⟨_, _, rfl, hs2, hB2⟩
  · omega
  obtain ⟨Ba, hBa⟩ : ∃ x, x = w.heap.size := ⟨_, rfl⟩
  obtain ⟨Bb, hBb⟩ : ∃ x, x = w1.heap.size := ⟨_, rfl⟩
  have hne : Ba ≠ Bb := by omega
  have hbb : w.heap.size ≤ Bb := by omega
  have hba : w.heap.size ≤ Ba := by omega
  have ha2 := sesB_below HS1.out hB2
  rw [← hBa] at ha2
  rw [← hBb] at hs2
  have HA2 := Lib.hid ha2; have HS2 := Lib.hid hs2
  have HB2 := Lib.hid (HB1.out.trans (hB2.mono HB1.out.size))
  have HBW := Lib.hid hBa
  rw [← hBb, ← hBa]
  clear ha2 hs2 hB2 HS1 HB1 hz1 hBb hBa
  go_wp2_with fail
  refine (hands_one HA2.out HS2.out hne (show one ≠ 0 by omega) (by simp [ses0, sesI, sesM]) (by simp [ses0, sesI, sesM]) (fun _ => []) (fun k hk => absurd hk (Nat.not_lt_zero k)) ⟨one, 0, 0, 0, []⟩ (out_ses0 one _) (show other ≠ 0 by omega) rfl (by simp [ses0, sesI, sesM]) (by simp [ses0, sesI, sesM]) (by simp [ses0, sesI, sesM]) (by simp [ses0, sesI, sesM]) (by simp [ses0, sesI, sesM]) (by simp [ses0, sesI, sesM])).mono ?_
  rintro e w3 ⟨rfl, ha3, hc3, hq⟩
  have hr1 : recvS (ses0 other) one 0 0 0 0 = (sesM other one true, false) := recv_first other one true h1 h2 h3
  have hb3 : SesB w3 Bb (sesM other one true) := by
    rcases hq with ⟨_, h⟩ | ⟨h, _⟩
    · have h' : SesB w3 Bb (recvS (ses0 other) one 0 0 0 0).1 := h
      rw [hr1] at h'
      exact h'
    · have h' : (recvS (ses0 other) one 0 0 0 0).2 = true := h
      rw [hr1] at h'
      cases h'
  have HA3 := Lib.hid (show SesB w3 Ba (sesI one false) from ha3)
  have HB3 := Lib.hid hb3
  have HW3 := Lib.hid (HB2.out.trans (hc3.below (B := w.heap.size) HB2.out.size (fun k hk => by omega)))
  clear ha3 hb3 hc3 hq HA2 HS2 HB2 hr1
  go_wp2_with fail
  refine (hands_one HB3.out HA3.out (fun e => hne e.symm) (show other ≠ 0 by omega) (by simp [ses0, sesI, sesM]) (by simp [ses0, sesI, sesM]) (fun _ => []) (fun k hk => absurd hk (Nat.not_lt_zero k)) ⟨other, one, 0, 0, []⟩ (out_sesM other one _) (show one ≠ 0 by omega) rfl (by simp [ses0, sesI, sesM]) (by simp [ses0, sesI, sesM]) (by simp [ses0, sesI, sesM]) (by simp [ses0, sesI, sesM]) (by simp [ses0, sesI, sesM]) (by simp [ses0, sesI, sesM])).mono ?_
  rintro e w4 ⟨rfl, hb4, hc4, hq⟩
  have hr2 : recvS (sesI one false) other one 0 0 0 = (sesM one other true, false) := recv_second one other false h3 h4 h1
  have ha4 : SesB w4 Ba (sesM one other true) := by
    rcases hq with ⟨_, h⟩ | ⟨h, _⟩
    · have h' : SesB w4 Ba (recvS (sesI one false) other one 0 0 0).1 := h
      rw [hr2] at h'
      exact h'
    · have h' : (recvS (sesI one false) other one 0 0 0).2 = true := h
      rw [hr2] at h'
      cases h'
  have HA4 := Lib.hid ha4
  have HB4 := Lib.hid (show SesB w4 Bb (sesM other one false) from hb4)
  have HW4 := Lib.hid (HW3.out.trans (hc4.below (B := w.heap.size) HW3.out.size (fun k hk => by omega)))
  clear ha4 hb4 hc4 hq HA3 HB3 HW3 hr2
  go_wp2_with fail
  refine (speer_any HA4.out (show one ≠ 0 by omega)).mono ?_; rintro e w5 ⟨rfl, rfl⟩
  rw [show (sesM one other true).pe = other from rfl]
  go_wp2_with fail
  refine (speer_any HB4.out (show other ≠ 0 by omega)).mono ?_; rintro e w5 ⟨rfl, rfl⟩
  rw [show (sesM other one false).pe = one from rfl]
  go_wp2
  go_ret2
  exact ⟨Ba, Bb, rfl, hba, hbb, hne, HA4.out, HB4.out, HW4.out⟩
end Go.Proofs.Ytadcahnoghnkcaa
