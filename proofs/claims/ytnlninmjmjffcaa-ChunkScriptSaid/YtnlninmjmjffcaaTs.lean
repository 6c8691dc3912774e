/- Walks: chunk.Cut whole; SameMessages. No conditions. -/
import Derived.Test.YtnlninmjmjffcaaTr
namespace Go.Proofs.Ytnlninmjmjffcaa
open Go.RowKit
set_option linter.unusedVariables false
set_option linter.unusedSimpArgs false

set_option maxRecDepth 100000 in
set_option maxHeartbeats 4000000 in
theorem cut_any (item : Int) (A : Option Addr) (n c : Nat) (b : List UInt8) (w : World) (hr : Rd w A n c 1 (u8s b)) :
    Calls Try.prog 33 #[.int .i64 item, .slice A n c] w (CutQ w item b) := by
  have hn := hr.small
  have hlen : b.length = n := by have := hr.len; simpa using this
  have hbel : Below w.heap.size w ((w.alloc (.cells #[.int .i64 item] 3)).alloc (.cells #[.slice A n c] 22)) := ((Below.refl _ w).alloc (Nat.le_refl _) _).alloc (by simp) _
  by_cases hok : 1 ≤ item ∧ item ≤ 1099511627776 ∧ 1 ≤ n ∧ n ≤ 60000
  · obtain ⟨b', off, rfl, _⟩ := hr.cells 0 _ (u8s_get b 0 (by omega))
    exact cut_main item b' off n c b w hr hok.1 hok.2.1 hok.2.2.1 hok.2.2.2
  have HN := Lib.hid hlen
  have HB := Lib.hid hbel
  clear hr hlen hbel
  have fin2 : ∀ W, (item < 1 ∨ 1099511627776 < item ∨ n = 0) → Below w.heap.size w W → CutQ w item b (.returned (.tuple #[.slice none 0 0, .int .i64 2])) W := fun W h hW => .inl (.inl ⟨by rw [HN.out]; exact h, rfl, hW⟩)
  have FIN2 := Lib.hid fin2; clear fin2
  by_cases h1 : item < 1
  · clear hok
    go_enter Try.func33, Try.ntmps33
    go_wp2
    go_ret2
    exact FIN2.out _ (.inl h1) HB.out
  by_cases h2 : 1099511627776 < item
  · clear hok
    go_enter Try.func33, Try.ntmps33
    go_wp2
    go_ret2
    exact FIN2.out _ (.inr (.inl h2)) HB.out
  by_cases h3 : n = 0
  · clear hok
    subst h3
    go_enter Try.func33, Try.ntmps33
    go_wp2
    go_ret2
    exact FIN2.out _ (by simp) HB.out
  have g3 : ((n : Int) == 0) = false := by simp; omega
  have h4 : 60000 < n := by omega
  clear hok
  go_enter Try.func33, Try.ntmps33
  go_wp2
  go_ret2
  exact .inl (.inr ⟨by omega, by omega, by rw [HN.out]; exact h4, rfl, HB.out⟩)

end Go.Proofs.Ytnlninmjmjffcaa
