/- Walks: Raw and Text of the writer. Conditions: the writer is as New made it; what is handed in is short and lies apart from it. -/
import Derived.Test.YtondodhpmghogaaW3
import Derived.Laws.IdiomStrings
namespace Go.Proofs.Ytondodhpmghogaa
open Go.RowKit
set_option linter.unusedVariables false
set_option linter.unusedSimpArgs false

/-- []byte(s) -/
theorem conv_bytes {P : Program} (w : World) (src dst e : TypeId) (s : ByteArray) (hs : P.underlying src = some .string) (hd : P.underlying dst = some (.slice e)) (he : P.underlying e = some (.int .u8)) (hn : s.size ≤ 9223372036854775807) :
    ∃ c w', (convert src dst (.string s)).run P w = .ok (.slice (some ⟨w.heap.size, 0, none⟩) s.size c) w' ∧ Rd w' (some ⟨w.heap.size, 0, none⟩) s.size c 1 (u8s s.data.toList) ∧ Below w.heap.size w w' := by
  have hge := grownCap_ge w s.size 0 e
  have hle := grownCap_le_maxLen w s.size 0 e (by simpa only [maxLen] using hn)
  refine ⟨_, _, run_bytes_of_string w src dst e s hs hd he, ?_, ((Below.refl w.heap.size w).drew).alloc (Nat.le_refl _) _⟩
  have hsz : s.data.toList.length = s.size := by simp
  refine ⟨by simp, hge, (by simpa only [maxLen] using hle), (fun h => by cases h), fun j u hu => ⟨_, 0, rfl, ?_⟩⟩
  rw [Nat.zero_add, cell_of_row _ w.heap.size j (bytesRow s (grownCap w s.size 0 e)) e _ (heap_alloc_new w.drew _)]
  have hj : j < s.data.size := by
    rcases Nat.lt_or_ge j s.data.size with h | h
    · exact h
    · rw [List.getElem?_eq_none (by simp [u8s]; exact h)] at hu; cases hu
  unfold bytesRow
  rw [Array.getElem?_append_left (by simpa using hj)]
  simp [u8s, hj] at hu ⊢
  exact hu

set_option maxRecDepth 100000 in
set_option maxHeartbeats 1000000 in
theorem wraw_any {w : World} {B : Nat} {v : Value} {b : List UInt8} {e : Int} (h : Wr w B v b e) (hb : b.length ≤ 1048576) {A : Option Addr} {n c : Nat} {l : List UInt8} (hr : Rd w A n c 1 (u8s l)) (hn : n ≤ 100000000)
    (hA : ∀ a, A = some a → 0 < n → a.block ≠ B ∧ ∀ k, v.ownBlock = some k → a.block ≠ k) :
    Calls Try.prog 62 #[.pointer (some ⟨B, 0, none⟩), .slice A n c] w (PutQ w B v (wraw b e l)) := by
  have hmf : ∀ (fn : Fn) (first cap : Array Value) (w : World), (Instr.makeFunc fn first cap).run Try.prog w = .ok (.func fn first cap) w := fun _ _ _ _ => rfl
  have hl : l.length = n := by have := hr.len; simpa using this
  have HL := Lib.hid hl
  have H := Lib.hid h
  have HR := Lib.hid hr
  have HA := Lib.hid hA
  obtain ⟨r, hrr⟩ : ∃ r, r = wraw b e l := ⟨_, rfl⟩
  rw [← hrr]
  have hr1 : r = wput b e (ptAll [((none, 0, 0, frm n) : Pt), (none, 0, 0, l)]) := by rw [hrr]; unfold wraw; rw [hl]; simp [ptAll]
  have HRR := Lib.hid hr1
  have h9 := frm_len9 n
  clear hrr hr1 h hr hl hA
  go_enter Try.func62, Try.ntmps62
  go_wp2_with (go_at_call 76; refine (form_any n (by omega) _).mono ?_; rintro e w1 ⟨g, c', rfl, hg, hc', hrow, hbel⟩)
  have hsz := hbel.size
  have hwr := wr_ch (H.out) ((Ch.of_below hbel No).trans (Ch.alloc w1 (.cells #[.slice (some ⟨g, 0, none⟩) (frm n).length c', .slice A n c] 26) No) (fun i hi => .inl hi)) id (fun _ _ => id)
  have hBw := wr_lt H.out
  refine (put_any hwr hb (pts_two (x := (some ⟨g, 0, none⟩, (frm n).length, c', frm n)) (y := (A, n, c, l)) (row_u8_rd hrow rfl hc') (HR.out.below hbel)) ⟨by omega, by intro x hx a ha h0; simp at hx; rcases hx with rfl | rfl; (cases ha; simp; omega); exact (HA.out a ha h0).1⟩ (fun k hk => ⟨by have := wr_own H.out hk; omega, by intro x hx a ha h0; simp at hx; have := wr_own H.out hk; rcases hx with rfl | rfl; (cases ha; simp; omega); exact (HA.out a ha h0).2 k hk⟩) 2 rfl (by decide) (by have := HL.out; simp [ptAll]; omega)).mono ?_
  rintro e2 w2 hput
  have hput' := putq_of (hbel.alloc hsz _) hput
  have e1 : wput b e (ptAll [((some ⟨g, 0, none⟩, (frm n).length, c', frm n) : Pt), (A, n, c, l)]) = r := by rw [HRR.out]; rfl
  rw [e1] at hput'
  obtain ⟨he, v', hQ⟩ := hput'
  cases he
  go_wp2
  exact bodyPost_end (results_none rfl _ _ _) rfl ⟨rfl, v', hQ⟩

set_option maxRecDepth 100000 in
set_option maxHeartbeats 1000000 in
theorem wtext_any {w : World} {B : Nat} {v : Value} {b : List UInt8} {e : Int} (h : Wr w B v b e) (hb : b.length ≤ 1048576) (s : ByteArray) (hn : s.size ≤ 100000000) :
    Calls Try.prog 61 #[.pointer (some ⟨B, 0, none⟩), .string s] w (PutQ w B v (wraw b e s.data.toList)) := by
  have H := Lib.hid h
  obtain ⟨r, hrr⟩ : ∃ r, r = wraw b e s.data.toList := ⟨_, rfl⟩
  have HRR := Lib.hid hrr
  rw [← hrr]
  clear h hrr
  obtain ⟨c, w1, hcv, hrd, hbel⟩ := conv_bytes (P := Try.prog) w 9 26 5 s Try.underlying9 Try.underlying26 Try.underlying5 (by omega)
  have HR := Lib.hid hrd
  have HBel := Lib.hid hbel
  clear hrd hbel
  go_enter Try.func61, Try.ntmps61
  go_wp2_with fail
  have hwr := wr_ch (H.out) (Ch.of_below HBel.out No) id (fun _ _ => id)
  have hBw := wr_lt H.out
  refine (wraw_any hwr hb HR.out (by omega) (fun a ha _ => by cases ha; exact ⟨by simp; omega, fun k hk => by have := wr_own H.out hk; simp; omega⟩)).mono ?_
  rintro e2 w2 hput
  have hput' := putq_of HBel.out hput
  rw [← HRR.out] at hput'
  obtain ⟨he, v', hQ⟩ := hput'
  cases he
  go_wp2
  exact bodyPost_end (results_none rfl _ _ _) rfl ⟨rfl, v', hQ⟩
end Go.Proofs.Ytondodhpmghogaa
