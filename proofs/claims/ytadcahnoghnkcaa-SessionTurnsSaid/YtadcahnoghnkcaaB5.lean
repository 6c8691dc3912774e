/- Walks: a session's Send and Tick. Conditions: the session is as New makes it. -/
import Derived.Test.YtadcahnoghnkcaaB4
namespace Go.Proofs.Ytadcahnoghnkcaa
open Go.RowKit
set_option linter.unusedVariables false
set_option linter.unusedSimpArgs false

theorem upd_upd (r : Nat → Pl) (j : Nat) (p q : Pl) : upd (upd r j p) j q = upd r j q := by
  funext i
  unfold upd
  split <;> rfl
theorem drew_below (w : World) : Below w.heap.size w w.drew := (Ch.drew w No).below (Nat.le_refl _) (fun _ h => h.elim)
theorem ch_below {w w' : World} (h : Ch No w w') : Below w.heap.size w w' := h.below (Nat.le_refl _) (fun _ h => h.elim)

/-- what Send tells, and the session then -/
def SendQ (w : World) (B : Nat) (s : Ses) (n : Nat) (l : List UInt8) (e : Ending) (w' : World) : Prop :=
  (400 < n ∧ e = .returned (.int .i64 3) ∧ w = w') ∨ (n ≤ 400 ∧ s.pe = 0 ∧ e = .returned (.int .i64 9) ∧ w = w') ∨ (n ≤ 400 ∧ s.pe ≠ 0 ∧ s.ma = 8 ∧ e = .returned (.int .i64 8) ∧ w = w') ∨
  (n ≤ 400 ∧ s.pe ≠ 0 ∧ s.ma ≠ 8 ∧ e = .returned (.int .i64 0) ∧ ∃ A' c', SesB w' B { s with r := upd s.r ((s.ba + s.ma) % 8) ⟨A', n, c', false, 0⟩, ma := s.ma + 1 } ∧ Held w' w.heap.size A' n c' l ∧ Ch (fun k => k = B) w w')
set_option maxRecDepth 100000 in
set_option maxHeartbeats 1000000 in
theorem ssend_any {B : Nat} {s : Ses} {w : World} (h : SesB w B s) (h0 : s.ep ≠ 0) (A : Option Addr) (n c : Nat) (l : List UInt8) (hr : Rd w A n c 1 (u8s l)) (hm : s.ma ≤ 8) (hb : s.ba ≤ 1000000000) :
    Calls Try.prog 15 #[.pointer (some ⟨B, 0, none⟩), .slice A n c] w (SendQ w B s n l) := by
  have hn := hr.small
  have c1 := ses_pe h
  have c27 := ses_ma h
  have H := Lib.hid h; have HR := Lib.hid hr
  have hBl := blk_lt h
  clear h hr
  by_cases h1 : 400 < n
  · go_enter Try.func15, Try.ntmps15
    go_wp2_with fail
    refine (snone_any H.out h0).mono ?_; rintro e w1 ⟨rfl, rfl⟩
    go_wp2
    go_ret
    exact .inl ⟨h1, rfl, rfl⟩
  have g1 : decide (400 < (n : Int)) = false := by simp; omega
  by_cases h2 : s.pe = 0
  · have g2 : (s.pe == 0) = true := by simpa using h2
    go_enter Try.func15, Try.ntmps15
    go_wp2_with fail
    refine (snone_any H.out h0).mono ?_; rintro e w1 ⟨rfl, rfl⟩
    go_wp2
    go_ret
    exact .inr (.inl ⟨by omega, h2, rfl, rfl⟩)
  have g2 : (s.pe == 0) = false := by simpa using h2
  by_cases h3 : s.ma = 8
  · have g3 : ((s.ma : Int) == 8) = true := by simp; omega
    go_enter Try.func15, Try.ntmps15
    go_wp2_with fail
    refine (snone_any H.out h0).mono ?_; rintro e w1 ⟨rfl, rfl⟩
    go_wp2
    go_ret
    exact .inr (.inr (.inl ⟨by omega, h2, h3, rfl, rfl⟩))
  have g3 : ((s.ma : Int) == 8) = false := by simp; omega
  obtain ⟨j, hj⟩ : ∃ j, j = (s.ba + s.ma) % 8 := ⟨_, rfl⟩
  have hj8 : j < 8 := by omega
  have hat := Lib.hid (show ∀ (W : World) (hW : SesB W B s), Calls Try.prog 66 #[.pointer (some ⟨B, 0, none⟩), .int .i64 (s.ma : Int)] W fun e w' => e = .returned (.pointer (some ⟨B, 2 + j * 3, none⟩)) ∧ Ch No W w' from fun W hW => by rw [hj]; exact at_any hW s.ma (by omega))
  have HJ := Lib.hid hj; clear hj
  go_enter Try.func15, Try.ntmps15
  go_wp2_with fail
  refine (snone_any H.out h0).mono ?_; rintro e w1 ⟨rfl, rfl⟩
  go_wp2_with fail
  refine (hat.out _ H.out).mono ?_; rintro e w1 ⟨rfl, hc1⟩
  have H1 := Lib.hid (sesB_ch H.out hc1 id); have HR1 := Lib.hid (HR.out.ch hc1 (fun _ _ => id))
  have HC1 := Lib.hid hc1
  clear hc1
  go_wp2_with fail
  refine (clone_held A n c l w1 HR1.out (by omega)).mono ?_; rintro e w2 ⟨A', c', rfl, hh, hb2⟩
  have h2' := sesB_below H1.out hb2
  have hc2 : Ch (fun k => k = B) w w2 := (HC1.out.mono (S' := fun k => k = B) (fun _ _ h => h.elim)).trans (Ch.of_below hb2 No) (fun _ h => h.elim)
  have hs1 := ses_set0 h2' hj8 A' n c'
  have hs2 := ses_set1 hs1 hj8 false
  have hs3 := ses_set2 hs2 hj8 0
  simp only [upd_upd, upd_at] at hs3
  have hA' : ∀ b, A' = some b → b.block ≠ B := fun b hb => by have := (held_lt hh b hb).1; have := HC1.out.size; omega
  have f0 := ses_fz h2' (2 + j * 3)
  have f1 := ses_fz h2' (2 + j * 3 + 1)
  have f2 := ses_fz h2' (2 + j * 3 + 2)
  have k0 := (ses_ring h2' hj8).1
  have k1 := (ses_ring h2' hj8).2.1
  have k2 := (ses_ring h2' hj8).2.2
  have d27 := ses_ma hs3
  have f27 := ses_fz h2' 27
  simp only at d27
  have HC2 := Lib.hid hc2; have HS3 := Lib.hid hs3; have HH := Lib.hid hh; have HA := Lib.hid hA'
  clear hc2 hs1 hs2 hs3 hh hb2 h2' hA' H1 HR1
  go_wp2
  go_ret
  refine .inr (.inr (.inr ⟨by omega, h2, h3, rfl, A', c', ?_, ?_, ?_⟩))
  · rw [← HJ.out]
    exact blk_set HS3.out 27 (.int .i64 ((s.ma : Int) + 1))
  · have hq := ((((Ch.setCell w2 ⟨B, 2 + j * 3, none⟩ (.slice A' n c')).trans (Ch.setCell _ ⟨B, 2 + j * 3 + 1, none⟩ (.bool false)) (fun i hi => .inl hi)).trans (Ch.setCell _ ⟨B, 2 + j * 3 + 2, none⟩ (.int .i64 0)) (fun i hi => .inl hi)).trans (Ch.setCell _ ⟨B, 27, none⟩ (.int .i64 ((s.ma : Int) + 1))) (fun i hi => .inl hi))
    exact held_base (held_ch HH.out hq (fun a ha e => HA.out a ha e)) (fun b hb => by have := (held_lt HH.out b hb).1; have := HC1.out.size; omega)
  · exact ch_one (ch_one (ch_one (ch_one HC2.out (2 + j * 3) _) (2 + j * 3 + 1) _) (2 + j * 3 + 2) _) 27 _
end Go.Proofs.Ytadcahnoghnkcaa
