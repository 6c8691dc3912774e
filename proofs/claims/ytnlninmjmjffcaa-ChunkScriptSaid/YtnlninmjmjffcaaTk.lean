/- Walks: copying bytes, some, OverBytes. No conditions beyond the lengths named in each theorem. -/
import Derived.Test.YtnlninmjmjffcaaTj
namespace Go.Proofs.Ytnlninmjmjffcaa
open Go.RowKit
set_option linter.unusedVariables false
set_option linter.unusedSimpArgs false

def CopyB (w : World) (n : Nat) (l : List UInt8) (e : Ending) (w' : World) : Prop := ∃ g c', e = .returned (.slice (some ⟨g, 0, none⟩) n c') ∧ w.heap.size ≤ g ∧ Byt w' g 5 c' l ∧ Below w.heap.size w w'
set_option maxHeartbeats 400000 in
theorem copyb_any (A : Option Addr) (n c : Nat) (l : List UInt8) (w : World) (h1 : Rd w A n c 1 (u8s l)) (hn : n ≤ 1000000) :
    Calls Try.prog 26 #[.slice A n c] w (CopyB w n l) := by
  have HR := Lib.hid (h1.below ((Below.refl w.heap.size w).alloc (Nat.le_refl _) (.cells #[] 5)))
  have HO := Lib.hid (byt_none w 5)
  clear h1
  go_enter Try.func26, Try.ntmps26
  go_wp2_with (at_builtin; refine wpList_app_b _ rfl _ _ 22 rfl 5 Try.underlying22 info5 _ 0 0 [] rfl HO.out rfl A n c l rfl HR.out (by omega) ?_; intro g' c' w1 hb hat hch)
  go_ret
  simp only [Nat.zero_add, List.nil_append] at *
  refine ⟨g', c', rfl, ?_, hb, ((Ch.alloc w _ No).trans hch (fun i hi => .inr (by omega))).below (Nat.le_refl _) (fun k hk => hk.elim)⟩
  rcases hat with ⟨rfl, _⟩ | ⟨rfl, _⟩ <;> simp
set_option maxRecDepth 100000 in
set_option maxHeartbeats 400000 in
theorem clone_any (b off n c : Nat) (l : List UInt8) (w : World) (h1 : Rd w (some ⟨b, off, none⟩) n c 1 (u8s l)) (hn : n ≤ 1000000) :
    Calls Try.prog 60 #[.slice (some ⟨b, off, none⟩) n c] w (CopyB w n l) := by
  have HR := Lib.hid (h1.below ((Below.refl w.heap.size w).alloc (Nat.le_refl _) (.cells #[] 5)))
  have HO := Lib.hid (byt_none w 5)
  clear h1
  have he : ∀ w : World, (binOp .eql 22 (.slice (some ⟨b, off, none⟩) n c) (.slice none 0 0)).run Try.prog w = .ok (.bool false) w := fun _ => rfl
  go_enter Try.func60, Try.ntmps60
  go_wp2_with (at_builtin; refine wpList_app_b _ rfl _ _ 22 rfl 5 Try.underlying22 info5 _ 0 0 [] rfl HO.out rfl _ n c l rfl HR.out (by omega) ?_; intro g' c' w1 hb hat hch)
  go_ret
  simp only [Nat.zero_add, List.nil_append] at *
  refine ⟨g', c', rfl, ?_, hb, ((Ch.alloc w _ No).trans hch (fun i hi => .inr (by omega))).below (Nat.le_refl _) (fun k hk => hk.elim)⟩
  rcases hat with ⟨rfl, _⟩ | ⟨rfl, _⟩ <;> simp

/-- writing one byte into such a block -/
theorem byt_set {w : World} {g : Nat} {e : TypeId} {c : Nat} {ys : List UInt8} (h : Byt w g e c ys) (hl : ys.length = c) (j : Nat) (x : UInt8) (hj : j < c) : Byt (w.setCell ⟨g, j, none⟩ (.int .u8 (x.toNat : Int))) g e c (ys.set j x) := by
  obtain ⟨zs, h1, h2, h3⟩ := h.ex
  have hz : zs = ys := by rw [hl, ← h1, List.take_length] at h2; exact h2
  subst hz
  refine ⟨⟨zs.set j x, by simpa using h1, List.take_length, ?_⟩, h.big⟩
  simp [World.setCell, Array.getElem?_modify, h3]
  simp [u8s, List.map_set]
def bytesTo (n : Nat) : List UInt8 := (List.range n).map fun j => UInt8.ofNat j
theorem bytes_step {ys : List UInt8} {n k : Nat} (h : ys.length = n) (hk : k < n) (ht : ys.take k = bytesTo k) : (ys.set k (UInt8.ofNat k)).take (k + 1) = bytesTo (k + 1) := by
  rw [List.take_succ_eq_append_getElem (by simpa [h] using hk), List.take_set_of_le (Nat.le_refl _), ht]
  simp [bytesTo, List.range_succ]
def SomeQ (w : World) (n : Nat) (e : Ending) (w' : World) : Prop := e = .returned (.slice (some ⟨w.heap.size, 0, none⟩) n n) ∧ Byt w' w.heap.size 5 n (bytesTo n) ∧ Below w.heap.size w w'
set_option maxHeartbeats 1000000 in
theorem some_any (n : Nat) (hn : n ≤ 1000000) (w : World) : Calls Try.prog 48 #[.int .i64 (n : Int)] w (SomeQ w n) := by
  have hmk : ∀ W, (Instr.makeSlice 22 (.int .i64 (n : Int)) (.int .i64 (n : Int))).run Try.prog W = .ok (.slice (some ⟨W.heap.size, 0, none⟩) n n) (W.alloc (.cells (madeB n) 5)) := run_madeB 22 5 Try.underlying22 info5 n (by omega)
  have H0 := Lib.hid (byt_made w 5 n (by omega))
  have hB0 : Below w.heap.size w (w.alloc (.cells (madeB n) 5)) := (Below.refl _ w).alloc (Nat.le_refl _) _
  go_enter Try.func48, Try.ntmps48
  go_wp2
  go_loopw [4] (fun i wr => ∃ k : Nat, k ≤ n ∧ i = .int .i64 k ∧ (∃ ys, ys.length = n ∧ ys.take k = bytesTo k ∧ Byt wr w.heap.size 5 n ys) ∧ Below w.heap.size w wr) (fun i _ => n - (intOf i).toNat)
  case atStart => exact ⟨0, Nat.zero_le _, rfl, ⟨_, by simp, rfl, H0.out⟩, hB0⟩
  case round =>
    clear hB0 H0 hmk
    obtain ⟨k, hk, rfl, ⟨ys, hy1, hy2, hb⟩, hB⟩ := hrel
    by_cases hlt : k < n
    · have hc := (byt_row hb).cell (u8s_get ys k (by omega))
      have hf := (byt_row hb).thawed k
      have hS := Lib.hid (byt_set hb hy1 k (UInt8.ofNat k) hlt)
      have hC := Lib.hid ((Ch.setCell wr ⟨w.heap.size, k, none⟩ (.int .u8 ((UInt8.ofNat k).toNat : Int))).below (B := w.heap.size) (by have := hB.size; omega) (fun i hi => Nat.le_of_eq hi.symm))
      have hv : ((UInt8.ofNat k).toNat : Int) = (k : Int) % 256 := by simp
      have HV := Lib.hid hv; clear hv
      have Hb := Lib.hid hb; clear hb
      go_wp2
      rw [← HV.out]
      go_roundw
      case rel => exact ⟨k + 1, by omega, by go_num, ⟨_, by simpa using hy1, bytes_step hy1 hlt hy2, hS.out⟩, hB.trans hC.out⟩
      case measure => simp [intOf]; omega
    · obtain rfl : k = n := by omega
      have hys : ys = bytesTo k := by rw [← hy2, ← hy1, List.take_length]
      subst hys
      go_wp2
      go_ret
      exact ⟨rfl, hb, hB⟩

end Go.Proofs.Ytnlninmjmjffcaa
