/- Walk: a session's Receive. Conditions: the session is as New makes it; its list of what came is its own. -/
import Derived.Test.YtadcahnoghnkcaaB5
import Derived.Test.YtadcahnoghnkcaaLib4
import Derived.Deep.RegionLaw
import Derived.Deep.RegionHeld3
namespace Go.Proofs.Ytadcahnoghnkcaa
open Go.RowKit
set_option linter.unusedVariables false
set_option linter.unusedSimpArgs false

theorem info27 : (Try.prog.info? 27).map (fun i => (i.zero, i.size, i.bytes)) = some (some (.slice none 0 0), 1, 24) := by kernel_rfl
def Bad (s : Ses) (fr to nu ac : Int) (n : Nat) : Prop := fr < 1 ∨ 1099511627776 < fr ∨ fr < s.pe ∨ to < 0 ∨ nu < 0 ∨ ac < 0 ∨ 1099511627776 < nu ∨ 400 < n
instance (s : Ses) (fr to nu ac : Int) (n : Nat) : Decidable (Bad s fr to nu ac n) := by unfold Bad; infer_instance
/-- the queue's beginning that is known to have come goes -/
def Ses.acked (s : Ses) (ac : Int) : Ses := if (s.ba : Int) ≤ ac ∧ ac < s.ba + s.ma then { s with ba := ac.toNat + 1, ma := s.ba + s.ma - (ac.toNat + 1) } else s
/-- what Receive makes of a session, but for the list of what came; and whether the body is taken in -/
def recvS (s : Ses) (fr to nu ac : Int) (n : Nat) : Ses × Bool :=
  if Bad s fr to nu ac n then (s, false) else
  if to ≠ s.ep then ({ (if s.pe < fr then s.turned fr else s) with ow := true }, false) else
  if nu = 0 then ((if s.pe < fr then s.turned fr else s).acked ac, false) else
  if nu = ((if s.pe < fr then s.turned fr else s).acked ac).ca + 1 then ({ ((if s.pe < fr then s.turned fr else s).acked ac) with ow := true, ca := nu }, true)
  else ({ ((if s.pe < fr then s.turned fr else s).acked ac) with ow := true }, false)
def RecvQ (w : World) (B : Nat) (s : Ses) (fr to nu ac : Int) (n : Nat) (l : List UInt8) (bas m : Nat) (xs : List Value) (e : Ending) (w' : World) : Prop :=
  e = .returned (.tuple #[]) ∧ Ch (fun k => k = B ∨ s.inn.ownBlock = some k) w w' ∧
  (((recvS s fr to nu ac n).2 = false ∧ SesB w' B (recvS s fr to nu ac n).1 ∧ w'.ownsRow bas 27 1 s.inn m xs) ∨
   ((recvS s fr to nu ac n).2 = true ∧ ∃ v' A' c', SesB w' B { (recvS s fr to nu ac n).1 with inn := v' } ∧ w'.ownsRow bas 27 1 v' (m + 1) (xs ++ [.slice A' n c']) ∧ Held w' w.heap.size A' n c' l ∧
     (v'.ownBlock = s.inn.ownBlock ∨ ∃ x, v'.ownBlock = some x ∧ w.heap.size ≤ x) ∧ ∀ a, A' = some a → v'.ownBlock ≠ some a.block))

set_option maxRecDepth 100000 in
set_option maxHeartbeats 4000000 in
theorem srecv_bad {B : Nat} {s : Ses} {w : World} (h : SesB w B s) (h0 : s.ep ≠ 0) (fr to nu ac : Int) (A : Option Addr) (n c : Nat) (hn63 : n ≤ 9223372036854775807) (hbad : Bad s fr to nu ac n) :
    Calls Try.prog 18 #[.pointer (some ⟨B, 0, none⟩), .agg #[.int .i64 fr, .int .i64 to, .int .i64 nu, .int .i64 ac, .slice A n c]] w fun e w' => e = .returned (.tuple #[]) ∧ Below w.heap.size w w' := by
  have hb : Below w.heap.size w (w.alloc (.cells #[.int .i64 fr, .int .i64 to, .int .i64 nu, .int .i64 ac, .slice A n c] 33)) := (Below.refl _ w).alloc (Nat.le_refl _) _
  have hB := sesB_below h hb
  have c1 := ses_pe hB
  have H := Lib.hid hB; have HB := Lib.hid hb
  clear h hB hb
  have FIN := Lib.hid (show ∀ nq, Below w.heap.size w ((w.alloc (.cells #[.int .i64 fr, .int .i64 to, .int .i64 nu, .int .i64 ac, .slice A n c] 33)).drewN nq) from fun nq => HB.out.trans ((ch_drewN No _ nq).below HB.out.size (fun _ h => h.elim)))
  by_cases h1 : fr < 1
  · have g1 : decide (fr < 1) = true := by simpa using h1
    go_enter Try.func18, Try.ntmps18
    go_wp2_with fail
    go_quiet ((go_at_call 64; exact Calls.quiet_of_same ((snone_any (sesB_ch H.out (ch_drewN No _ _) id) h0).mono fun e w' h => ⟨h.1, h.2.symm⟩)))
    go_wp2
    exact bodyPost_ret (results_none rfl _ _ _) rfl ⟨rfl, FIN.out nq⟩
  have g1 : decide (fr < 1) = false := by simpa using h1
  by_cases h2 : 1099511627776 < fr
  · have g2 : decide (1099511627776 < fr) = true := by simpa using h2
    go_enter Try.func18, Try.ntmps18
    go_wp2_with fail
    go_quiet ((go_at_call 64; exact Calls.quiet_of_same ((snone_any (sesB_ch H.out (ch_drewN No _ _) id) h0).mono fun e w' h => ⟨h.1, h.2.symm⟩)))
    go_wp2
    exact bodyPost_ret (results_none rfl _ _ _) rfl ⟨rfl, FIN.out nq⟩
  have g2 : decide (1099511627776 < fr) = false := by simpa using h2
  by_cases h3 : fr < s.pe
  · have g3 : decide (fr < s.pe) = true := by simpa using h3
    go_enter Try.func18, Try.ntmps18
    go_wp2_with fail
    go_quiet ((go_at_call 64; exact Calls.quiet_of_same ((snone_any (sesB_ch H.out (ch_drewN No _ _) id) h0).mono fun e w' h => ⟨h.1, h.2.symm⟩)))
    go_wp2
    exact bodyPost_ret (results_none rfl _ _ _) rfl ⟨rfl, FIN.out nq⟩
  have g3 : decide (fr < s.pe) = false := by simpa using h3
  by_cases h4 : to < 0
  · have g4 : decide (to < 0) = true := by simpa using h4
    go_enter Try.func18, Try.ntmps18
    go_wp2_with fail
    go_quiet ((go_at_call 64; exact Calls.quiet_of_same ((snone_any (sesB_ch H.out (ch_drewN No _ _) id) h0).mono fun e w' h => ⟨h.1, h.2.symm⟩)))
    go_wp2
    exact bodyPost_ret (results_none rfl _ _ _) rfl ⟨rfl, FIN.out nq⟩
  have g4 : decide (to < 0) = false := by simpa using h4
  by_cases h5 : nu < 0
  · have g5 : decide (nu < 0) = true := by simpa using h5
    go_enter Try.func18, Try.ntmps18
    go_wp2_with fail
    go_quiet ((go_at_call 64; exact Calls.quiet_of_same ((snone_any (sesB_ch H.out (ch_drewN No _ _) id) h0).mono fun e w' h => ⟨h.1, h.2.symm⟩)))
    go_wp2
    exact bodyPost_ret (results_none rfl _ _ _) rfl ⟨rfl, FIN.out nq⟩
  have g5 : decide (nu < 0) = false := by simpa using h5
  by_cases h6 : ac < 0
  · have g6 : decide (ac < 0) = true := by simpa using h6
    go_enter Try.func18, Try.ntmps18
    go_wp2_with fail
    go_quiet ((go_at_call 64; exact Calls.quiet_of_same ((snone_any (sesB_ch H.out (ch_drewN No _ _) id) h0).mono fun e w' h => ⟨h.1, h.2.symm⟩)))
    go_wp2
    exact bodyPost_ret (results_none rfl _ _ _) rfl ⟨rfl, FIN.out nq⟩
  have g6 : decide (ac < 0) = false := by simpa using h6
  by_cases h7 : 1099511627776 < nu
  · have g7 : decide (1099511627776 < nu) = true := by simpa using h7
    go_enter Try.func18, Try.ntmps18
    go_wp2_with fail
    go_quiet ((go_at_call 64; exact Calls.quiet_of_same ((snone_any (sesB_ch H.out (ch_drewN No _ _) id) h0).mono fun e w' h => ⟨h.1, h.2.symm⟩)))
    go_wp2
    exact bodyPost_ret (results_none rfl _ _ _) rfl ⟨rfl, FIN.out nq⟩
  have g7 : decide (1099511627776 < nu) = false := by simpa using h7
  by_cases h8 : 400 < n
  · have g8 : decide (400 < (n : Int)) = true := by simp; omega
    go_enter Try.func18, Try.ntmps18
    go_wp2_with fail
    go_quiet ((go_at_call 64; exact Calls.quiet_of_same ((snone_any (sesB_ch H.out (ch_drewN No _ _) id) h0).mono fun e w' h => ⟨h.1, h.2.symm⟩)))
    go_wp2
    exact bodyPost_ret (results_none rfl _ _ _) rfl ⟨rfl, FIN.out nq⟩
  have g8 : decide (400 < (n : Int)) = false := by simp; omega
  unfold Bad at hbad
  omega
end Go.Proofs.Ytadcahnoghnkcaa
