/- Walks: comparing, copying, lending bytes (tributarykit). No conditions beyond the lengths named in each theorem. -/
import Derived.Test.YtnlninmjmjffcaaProg
import Derived.Test.YtnlninmjmjffcaaLib
namespace Go.Proofs.Ytnlninmjmjffcaa
open Go.RowKit
set_option linter.unusedVariables false
set_option linter.unusedSimpArgs false

theorem info5 : (Try.prog.info? 5).map (fun i => (i.zero, i.size, i.bytes)) = some (some (.int .u8 0), 1, 1) := by kernel_rfl
def eqB (l k : List UInt8) : Bool := l == k
theorem eqB_self (l : List UInt8) : eqB l l = true := by simp [eqB]

set_option maxHeartbeats 400000 in
theorem same_any (A B : Option Addr) (n c m d : Nat) (l k : List UInt8) (w : World) (h1 : Rd w A n c 1 (u8s l)) (h2 : Rd w B m d 1 (u8s k)) :
    Calls Try.prog 44 #[.slice A n c, .slice B m d] w fun e w' => e = .returned (.bool (eqB l k)) ∧ w = w' := by
  have e1 := h1.str (P := Try.prog) 22 5 9 Try.underlying22 Try.underlying5 Try.underlying9
  have e2 := h2.str (P := Try.prog) 22 5 9 Try.underlying22 Try.underlying5 Try.underlying9
  clear h1 h2
  go_enter Try.func44, Try.ntmps44
  go_wp2
  go_ret
  exact ⟨rfl, rfl⟩

def CopyQ (w : World) (n : Nat) (l : List UInt8) (e : Ending) (w' : World) : Prop := ∃ g c', e = .returned (.slice (some ⟨g, 0, none⟩) n c') ∧ w.heap.size ≤ g ∧ n ≤ c' ∧ Row w' g 5 c' 1 (u8s l) ∧ Below w.heap.size w w'
set_option maxHeartbeats 400000 in
theorem copy_any (A : Option Addr) (n c : Nat) (l : List UInt8) (w : World) (h1 : Rd w A n c 1 (u8s l)) (hn : n ≤ 1000000) :
    Calls Try.prog 26 #[.slice A n c] w (CopyQ w n l) := by
  have HR := Lib.hid (h1.below ((Below.refl w.heap.size w).alloc (Nat.le_refl _) (.cells #[] 5)))
  have HO := Lib.hid (row_lit w #[] 5 0 1 rfl (by omega))
  clear h1
  go_enter Try.func26, Try.ntmps26
  go_wp2_with (at_builtin; refine wpList_app_row _ rfl _ _ 22 rfl w.heap.size 5 _ 1 1 Try.underlying22 info5 rfl (by decide) _ 0 _ [] rfl HO.out (Nat.le_refl _) rfl (Nat.le_refl _) A n c (u8s l) rfl HR.out (u8s_one l) (by simp [maxLen]; omega) (by omega) (by simp) ?_; intro g' c' w1 hrow hnc hbg hat hch)
  go_ret
  exact ⟨g', c', rfl, hbg, by omega, by simpa using hrow, ((Ch.alloc w _ No).trans hch (fun i hi => .inr (by omega))).below (Nat.le_refl _) (fun k hk => hk.elim)⟩

def lentTail : List UInt8 := [201, 17, 99]

def LentQ (w : World) (n : Nat) (l : List UInt8) (e : Ending) (w' : World) : Prop := ∃ g c', e = .returned (.slice (some ⟨g, 0, none⟩) n (n + 3)) ∧ w.heap.size ≤ g ∧ n + 3 ≤ c' ∧ Row w' g 5 c' 1 (u8s (l ++ lentTail)) ∧ Below w.heap.size w w'
set_option maxHeartbeats 400000 in
theorem lent_any (A : Option Addr) (n c : Nat) (l : List UInt8) (w : World) (h1 : Rd w A n c 1 (u8s l)) (hn : n ≤ 1000000) :
    Calls Try.prog 16 #[.slice A n c] w (LentQ w n l) := by
  have hl : l.length = n := by have := h1.len; simpa using this
  have H1 := Lib.hid h1; clear h1
  have HL := Lib.hid hl; clear hl
  go_enter Try.func16, Try.ntmps16
  go_wp2_with (first | (go_at_call 26; refine (copy_any _ _ _ l _ H1.out hn).mono ?_; rintro e w1 ⟨g, c', rfl, hbg, hnc, hrow, hbel⟩) | (at_builtin; refine wpList_app_row _ rfl _ _ 22 rfl w.heap.size 5 _ 1 1 Try.underlying22 info5 rfl (by decide) g n c' (u8s l) rfl (hrow.ch (Ch.alloc w1 _ No) id) hbg (by simpa using HL.out) hnc _ 3 3 _ rfl (rd_lit w1 _ 5 3 1 rfl (by omega)) (by simp [Value.oneCell']) (by simp [maxLen]; omega) (by omega) (by have := hbel.size; simp; omega) ?_; intro g2 c2 w2 hrow2 hnc2 hbg2 hat2 hch2))
  go_ret
  exact ⟨g2, c2, rfl, hbg2, hnc2, by rw [u8s_append]; exact hrow2, ((hbel.alloc hbel.size _).trans (hch2.below (by have := hbel.size; simp; omega) (fun k hk => by omega)))⟩

set_option maxHeartbeats 400000 in
theorem kept_any (g c' : Nat) (A : Option Addr) (n c : Nat) (l : List UInt8) (w : World) (hrow : Row w g 5 c' 1 (u8s (l ++ lentTail))) (h1 : Rd w A n c 1 (u8s l)) (hn : n ≤ 1000000) :
    Calls Try.prog 25 #[.slice (some ⟨g, 0, none⟩) n (n + 3), .slice A n c] w fun e w' => e = .returned (.bool true) ∧ Below w.heap.size w w' := by
  have hl : l.length = n := by have := h1.len; simpa using this
  have r0 := Lib.hid (hrow.rd 0 n (n + 3) (u8s l) (by rw [List.drop_zero, u8s_take]; simp [hl]) (by simp [hl]) (by omega) (by omega))
  have r3 := Lib.hid ((hrow.ch (Ch.alloc w (.cells #[.int .u8 201, .int .u8 17, .int .u8 99] 5) No) id).rd n 3 3 (u8s lentTail) (by rw [u8s_drop, u8s_take]; simp [← hl]; rfl) (by simp [hl, lentTail]) (by omega) (by omega))
  have H1 := Lib.hid h1; clear h1 hl hrow
  go_enter Try.func25, Try.ntmps25
  go_wp2_with fail
  refine (same_any _ _ _ _ _ _ l l _ r0.out H1.out).mono ?_; rintro e w1 ⟨rfl, rfl⟩; rw [eqB_self]
  go_wp2_with fail
  refine (same_any _ _ _ _ _ _ lentTail lentTail _ r3.out (rd_lit w _ 5 3 1 rfl (by omega))).mono ?_; rintro e w1 ⟨rfl, rfl⟩; rw [eqB_self]
  go_wp2
  go_ret
  exact ⟨rfl, (Below.refl _ _).alloc (Nat.le_refl _) _⟩

end Go.Proofs.Ytnlninmjmjffcaa
