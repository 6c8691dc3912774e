/- Walk: a session's Tick. Conditions: the session is as New makes it. -/
import Derived.Test.YtadcahnoghnkcaaB5
namespace Go.Proofs.Ytadcahnoghnkcaa
open Go.RowKit
set_option linter.unusedVariables false
set_option linter.unusedSimpArgs false

/-- the ring when k places have been gone through -/
def tickR (s : Ses) : Nat → (Nat → Pl)
  | 0 => s.r
  | k + 1 => if (tickR s k ((s.ba + k) % 8)).o then upd (tickR s k) ((s.ba + k) % 8) { tickR s k ((s.ba + k) % 8) with t := (tickR s k ((s.ba + k) % 8)).t + 1 } else tickR s k
theorem tickR_off (s : Ses) (j : Nat) : ∀ k, (∀ m, m < k → (s.ba + m) % 8 ≠ j) → tickR s k j = s.r j := by
  intro k
  induction k with
  | zero => intro _; rfl
  | succ k ih =>
    intro h
    have h1 := ih (fun m hm => h m (by omega))
    unfold tickR
    split
    · rw [upd_off _ _ (fun e => h k (by omega) e.symm), h1]
    · exact h1
theorem tickR_at (s : Ses) {k : Nat} (hk : k < 8) : tickR s k ((s.ba + k) % 8) = s.r ((s.ba + k) % 8) := tickR_off s _ k (fun m hm => by omega)
set_option maxRecDepth 100000 in
set_option maxHeartbeats 4000000 in
theorem stick_any {B : Nat} {s : Ses} {w : World} (h : SesB w B s) (h0 : s.ep ≠ 0) (hm : s.ma ≤ 8) (hb : s.ba ≤ 1000000000) (ht : ∀ j, 0 ≤ (s.r j).t ∧ (s.r j).t ≤ 1000000000) :
    Calls Try.prog 26 #[.pointer (some ⟨B, 0, none⟩)] w fun e w' => e = .returned (.tuple #[]) ∧ SesB w' B { s with r := tickR s s.ma } ∧ Ch (fun k => k = B) w w' := by
  have b1 := ses_ma h
  have H := Lib.hid h; have HT := Lib.hid ht
  clear h ht
  go_enter Try.func26, Try.ntmps26
  go_wp2_with fail
  refine (snone_any H.out h0).mono ?_; rintro e w1 ⟨rfl, rfl⟩
  go_wp2_with fail
  go_loopw [10] (fun i wr => ∃ k : Nat, k ≤ s.ma ∧ i = .int .i64 k ∧ Hid (SesB wr B { s with r := tickR s k } ∧ Ch (fun k => k = B) w wr)) (fun i _ => s.ma - (intOf i).toNat)
  case atStart => exact ⟨0, Nat.zero_le _, rfl, Lib.hid ⟨H.out, Ch.refl _ _⟩⟩
  case round =>
    clear b1
    obtain ⟨k, hk, rfl, HI⟩ := hrel
    by_cases hlt : k < s.ma
    · obtain ⟨j, hj⟩ : ∃ j, j = (s.ba + k) % 8 := ⟨_, rfl⟩
      have hj8 : j < 8 := by omega
      have hpj : tickR s k j = s.r j := by rw [hj]; exact tickR_at s (by omega)
      have HAT := Lib.hid (show Calls Try.prog 66 #[.pointer (some ⟨B, 0, none⟩), .int .i64 (k : Int)] wr fun e w' => e = .returned (.pointer (some ⟨B, 2 + j * 3, none⟩)) ∧ Ch No wr w' from by rw [hj]; exact at_any HI.out.1 k (show s.ba + k ≤ 4611686018427387904 by omega))
      have HJ := Lib.hid hj
      clear hj
      go_wp2_with fail
      refine HAT.out.mono ?_; rintro e V0 ⟨rfl, hc0⟩
      have hs0 := sesB_ch HI.out.1 hc0 id
      have HCH := Lib.hid (ch_thenno HI.out.2 hc0)
      have hring := ses_ring hs0 hj8
      simp only [hpj] at hring
      obtain ⟨q0, q1, q2⟩ := hring
      have htj := HT.out j
      obtain ⟨p, hp⟩ : ∃ p, p = s.r j := ⟨_, rfl⟩
      rw [← hp] at q0 q1 q2 htj hpj
      obtain ⟨A, n, c, o, t⟩ := p
      simp only at q0 q1 q2 htj
      have f2 := ses_fz hs0 (2 + j * 3 + 2)
      have HS0 := Lib.hid hs0
      clear hs0 hc0 HAT hp q0
      cases o
      · have HIN : Hid (SesB V0 B { s with r := tickR s (k + 1) } ∧ Ch (fun k => k = B) w V0) := Lib.hid ⟨by unfold tickR; rw [← HJ.out, hpj]; exact HS0.out, HCH.out⟩
        go_wp2
        go_roundw
        case rel => exact ⟨k + 1, by omega, by go_num, HIN⟩
        case measure => simp [intOf]; omega
      · have hs1 := ses_set2 HS0.out hj8 (t + 1)
        have HIN : Hid (SesB (V0.setCell ⟨B, 2 + j * 3 + 2, none⟩ (.int .i64 (t + 1))) B { s with r := tickR s (k + 1) } ∧ Ch (fun k => k = B) w (V0.setCell ⟨B, 2 + j * 3 + 2, none⟩ (.int .i64 (t + 1)))) := Lib.hid ⟨by
          unfold tickR
          rw [← HJ.out, hpj]
          simp only [hpj] at hs1
          exact hs1, ch_one HCH.out _ _⟩
        clear hs1
        go_wp2
        go_roundw
        case rel => exact ⟨k + 1, by omega, by go_num, HIN⟩
        case measure => simp [intOf]; omega
    · obtain rfl : k = s.ma := by omega
      go_wp2
      exact bodyPost_end (results_none rfl _ _ _) rfl ⟨rfl, HI.out.1, HI.out.2⟩
end Go.Proofs.Ytadcahnoghnkcaa
