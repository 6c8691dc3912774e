/- Walks: the atomic words of a session. No conditions beyond the cells named. -/
import Derived.Test.YtadcahnoghnkcaaChecked
import Derived.Test.YtadcahnoghnkcaaLib2
import Derived.WalkKit
import Derived.RegionCalls
import Derived.Deep.RegionLaw
import Derived.Deep.RegionWith
import Derived.Laws.LoneSync
namespace Go.Proofs.Ytadcahnoghnkcaa
open Go.RowKit
set_option linter.unusedVariables false
set_option linter.unusedSimpArgs false

theorem run_swap {f : FuncId} {fn : Func} {P : Program} (hf : P.funcs[f]? = some fn) (hname : (fn.name == "runtime.NumGoroutine") = false) (hb : fn.body.isNone = true) (hn : Extern.findNext fn = none)
    (T : Extern.Atomic.T) (k : IntKind) (hT : T = .int k) (he : Extern.find fn = some (Extern.Atomic.swapT T)) {a : Addr} {x y : Int} {w : World} (hc : w.cell? a = some (.int k x)) (hz : w.frozen? a = false) :
    (callFunc f #[.pointer (some a), .int k y]).run P w = .ok (.value (.int k x)) (w.setCell a (.int k y)) := by
  subst hT
  rw [run_callFunc_extern hf hname hb hn he]
  change (Sem.run P (do
    let a' ← asAddr (.pointer (some a))
    let old ← Extern.Atomic.read (.int k) a'
    store a' (.int k y) .atomic
    pure old) w).andThen _ = _
  simp [Extern.Atomic.read, asAddr, hc, hz, run_store P w a (.int k y) .atomic rfl, Result.andThen]

/-- a truth as a word -/
def bit (b : Bool) : Int := if b then 1 else 0
set_option maxHeartbeats 400000 in
theorem b32_any (b : Bool) (w : World) : Calls Try.prog 91 #[.bool b] w fun e w' => e = .returned (.int .u32 (bit b)) ∧ w = w' := by
  cases b
  · go_enter Try.func91, Try.ntmps91
    go_wp2
    go_ret
    exact ⟨rfl, rfl⟩
  · go_enter Try.func91, Try.ntmps91
    go_wp2
    go_ret
    exact ⟨rfl, rfl⟩
set_option maxHeartbeats 400000 in
theorem bstore_any (B j : Nat) (b : Bool) (u : Value) (w : World) (hc : w.cell? ⟨B, j, none⟩ = some u) (hz : w.frozen? ⟨B, j, none⟩ = false) :
    Calls Try.prog 63 #[.pointer (some ⟨B, j, none⟩), .bool b] w fun e w' => e = .returned (.tuple #[]) ∧ w' = w.drew.setCell ⟨B, j, none⟩ (.int .u32 (bit b)) := by
  have hst : ∀ y, (callFunc 90 #[.pointer (some ⟨B, j, none⟩), .int .u32 y]).run Try.prog w.drew = .ok (.value (.tuple #[])) (w.drew.setCell ⟨B, j, none⟩ (.int .u32 y)) := fun y =>
    run_call_store (P := Try.prog) Try.func90 (by kernel_rfl) (by kernel_rfl) (by kernel_rfl) (by kernel_rfl) (u := u) hc hz
  go_enter Try.func63, Try.ntmps63
  go_wp2
  go_region_with (first | (go_at_call 91; refine (b32_any b _).mono ?_; rintro e w1 ⟨rfl, rfl⟩))
  go_end0
  exact ⟨rfl, rfl⟩
set_option maxHeartbeats 400000 in
theorem bswap_any (B j : Nat) (b c : Bool) (w : World) (hc : w.cell? ⟨B, j, none⟩ = some (.int .u32 (bit c))) (hz : w.frozen? ⟨B, j, none⟩ = false) :
    Calls Try.prog 68 #[.pointer (some ⟨B, j, none⟩), .bool b] w fun e w' => e = .returned (.bool c) ∧ w' = w.drew.setCell ⟨B, j, none⟩ (.int .u32 (bit b)) := by
  have hst : ∀ y, (callFunc 93 #[.pointer (some ⟨B, j, none⟩), .int .u32 y]).run Try.prog w.drew = .ok (.value (.int .u32 (bit c))) (w.drew.setCell ⟨B, j, none⟩ (.int .u32 y)) := fun y =>
    run_swap (P := Try.prog) Try.func93 (by kernel_rfl) (by kernel_rfl) (by kernel_rfl) _ .u32 rfl (by kernel_rfl) hc hz
  have hb : (bit c != 0) = c := by cases c <;> rfl
  go_enter Try.func68, Try.ntmps68
  go_wp2
  go_region_with (first | (go_at_call 91; refine (b32_any b _).mono ?_; rintro e w1 ⟨rfl, rfl⟩))
  go_wp2
  go_ret
  exact ⟨rfl, rfl⟩
set_option maxHeartbeats 400000 in
theorem iload_any (B j : Nat) (x : Int) (w : World) (hc : w.cell? ⟨B, j, none⟩ = some (.int .i64 x)) :
    Calls Try.prog 67 #[.pointer (some ⟨B, j, none⟩)] w fun e w' => e = .returned (.int .i64 x) ∧ w = w' := by
  have hst := run_call_load (P := Try.prog) Try.func92 (by kernel_rfl) (by kernel_rfl) (by kernel_rfl) .i64 (by kernel_rfl) hc
  go_enter Try.func67, Try.ntmps67
  go_wp2
  go_ret
  exact ⟨rfl, rfl⟩
set_option maxHeartbeats 400000 in
theorem istore_any (B j : Nat) (x : Int) (u : Value) (w : World) (hc : w.cell? ⟨B, j, none⟩ = some u) (hz : w.frozen? ⟨B, j, none⟩ = false) :
    Calls Try.prog 94 #[.pointer (some ⟨B, j, none⟩), .int .i64 x] w fun e w' => e = .returned (.tuple #[]) ∧ w' = w.setCell ⟨B, j, none⟩ (.int .i64 x) := by
  have hst := run_call_store (P := Try.prog) Try.func100 (by kernel_rfl) (by kernel_rfl) (by kernel_rfl) (by kernel_rfl) (k := .i64) (y := x) (u := u) hc hz
  go_enter Try.func94, Try.ntmps94
  go_wp2
  exact bodyPost_end (results_none rfl _ _ _) rfl ⟨rfl, rfl⟩
set_option maxHeartbeats 400000 in
theorem cas_any (B j : Nat) (x y : Int) (w : World) (hc : w.cell? ⟨B, j, none⟩ = some (.int .i64 x)) (hz : w.frozen? ⟨B, j, none⟩ = false) :
    Calls Try.prog 70 #[.pointer (some ⟨B, j, none⟩), .int .i64 x, .int .i64 y] w fun e w' => e = .returned (.bool true) ∧ w' = w.setCell ⟨B, j, none⟩ (.int .i64 y) := by
  have hst := run_call_cas_hit (P := Try.prog) Try.func95 (by kernel_rfl) (by kernel_rfl) (by kernel_rfl) .i64 (by kernel_rfl) (y := y) hc hz
  go_enter Try.func70, Try.ntmps70
  go_wp2
  go_ret
  exact ⟨rfl, rfl⟩
end Go.Proofs.Ytadcahnoghnkcaa
