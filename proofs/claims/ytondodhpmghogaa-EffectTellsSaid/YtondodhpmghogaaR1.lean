/- Walks: the reference's reader: Open, fail, Left, End. Conditions: the reader as Open made it. -/
import Derived.Test.YtondodhpmghogaaV9
namespace Go.Proofs.Ytondodhpmghogaa
open Go.RowKit
set_option linter.unusedVariables false
set_option linter.unusedSimpArgs false

/-- block V is the reference's reader over the slice (A, n, c) of bytes -/
structure RRd (w : World) (V : Nat) (A : Option Addr) (n c : Nat) (s : Rdr) : Prop where
  blk : Blk w V 56 #[.slice A n c, .int .i64 s.at_, .int .i64 s.e, .int .i64 s.p]
  rd : Rd w A n c 1 (u8s s.b)
  far : ∀ a, A = some a → 0 < n → a.block ≠ V
  fit : Fit s
theorem rrd_lt {w : World} {V : Nat} {A : Option Addr} {n c : Nat} {s : Rdr} (h : RRd w V A n c s) : V < w.heap.size := blk_lt h.blk
theorem rrd_len {w : World} {V : Nat} {A : Option Addr} {n c : Nat} {s : Rdr} (h : RRd w V A n c s) : s.b.length = n := by have := h.rd.len; simpa using this
theorem rrd_ch {S : Nat → Prop} {w w' : World} {V : Nat} {A : Option Addr} {n c : Nat} {s : Rdr} (h : RRd w V A n c s) (hc : Ch S w w') (h1 : ¬ S V) (h2 : ∀ a, A = some a → 0 < n → ¬ S a.block) : RRd w' V A n c s := ⟨blk_ch h.blk hc h1, h.rd.ch0 hc h2, h.far, h.fit⟩
theorem rrd_set {w : World} {V : Nat} {A : Option Addr} {n c : Nat} {s : Rdr} (h : RRd w V A n c s) (s' : Rdr) (w' : World) (hb : s'.b = s.b) (hf : Fit s') (hc : Ch (fun k => k = V) w w') (hblk : Blk w' V 56 #[.slice A n c, .int .i64 s'.at_, .int .i64 s'.e, .int .i64 s'.p]) : RRd w' V A n c s' :=
  ⟨hblk, by rw [hb]; exact h.rd.ch0 hc h.far, h.far, hf⟩
def ROpenQ (w : World) (A : Option Addr) (n c : Nat) (l : List UInt8) (e : Ending) (w' : World) : Prop := ∃ V, e = .returned (.pointer (some ⟨V, 0, none⟩)) ∧ RRd w' V A n c ⟨l, 0, 0, 0⟩ ∧ w.heap.size ≤ V ∧ Below w.heap.size w w'
set_option maxHeartbeats 1000000 in
theorem ropen_any {A : Option Addr} {n c : Nat} {l : List UInt8} {w : World} (hr : Rd w A n c 1 (u8s l)) (hA : ∀ a, A = some a → 0 < n → a.block < w.heap.size) : Calls Try.prog 28 #[.slice A n c] w (ROpenQ w A n c l) := by
  have hl : l.length = n := by have := hr.len; simpa using this
  have hs := hr.small
  have HR := Lib.hid hr; have HA := Lib.hid hA
  clear hr hA
  go_enter Try.func28, Try.ntmps28
  go_wp2
  go_ret
  exact ⟨w.heap.size, rfl, ⟨blk_new w _ _, HR.out.ch (Ch.alloc w _ No) (fun _ _ => id), (fun a ha h0 => by have := HA.out a ha h0; omega), ⟨Nat.zero_le _, by simp; omega, by simp⟩⟩, Nat.le_refl _, (Below.refl w.heap.size w).alloc (Nat.le_refl _) _⟩

def RRNumQ (w : World) (V : Nat) (A : Option Addr) (n c : Nat) (r : Int × Rdr) (e : Ending) (w' : World) : Prop := e = .returned (.int .i64 r.1) ∧ RRd w' V A n c r.2 ∧ Ch (fun k => k = V) w w'
theorem rrnumq_of {w w2 w' : World} {V : Nat} {A : Option Addr} {n c : Nat} {r : Int × Rdr} {e : Ending} (hc : Ch (fun k => k = V) w w2) (h : RRNumQ w2 V A n c r e w') : RRNumQ w V A n c r e w' := ⟨h.1, h.2.1, hc.trans h.2.2 (fun _ h => .inl h)⟩
set_option maxRecDepth 100000 in
set_option maxHeartbeats 1000000 in
theorem fail_any {w : World} {V : Nat} {A : Option Addr} {n c : Nat} {s : Rdr} (h : RRd w V A n c s) (he : s.e = 0) (E P : Int) (hf : Fit ⟨s.b, s.at_, E, P⟩) : Calls Try.prog 79 #[.pointer (some ⟨V, 0, none⟩), .int .i64 E, .int .i64 P] w (RRNumQ w V A n c (0, ⟨s.b, s.at_, E, P⟩)) := by
  have c2 : w.cell? ⟨V, 2, none⟩ = some (.int .i64 s.e) := blk_cell h.blk 2 _ rfl
  have c3 : w.cell? ⟨V, 3, none⟩ = some (.int .i64 s.p) := blk_cell h.blk 3 _ rfl
  have f2 : w.frozen? ⟨V, 2, none⟩ = false := blk_thawed h.blk 2
  have f3 : w.frozen? ⟨V, 3, none⟩ = false := blk_thawed h.blk 3
  have g1 : (s.e == 0) = true := by simpa using he
  have H := Lib.hid h; have HF := Lib.hid hf
  clear h hf he
  go_enter Try.func79, Try.ntmps79
  go_wp2
  go_ret
  have hc := ch_set (ch_set (Ch.refl (fun k => k = V) w) ⟨V, 2, none⟩ (.int .i64 E) rfl) ⟨V, 3, none⟩ (.int .i64 P) rfl
  exact ⟨rfl, rrd_set H.out _ _ rfl HF.out hc (blk_set (blk_set H.out.blk 2 _) 3 _), hc⟩
set_option maxHeartbeats 400000 in
theorem rrleft_any {w : World} {V : Nat} {A : Option Addr} {n c : Nat} {s : Rdr} (h : RRd w V A n c s) : Calls Try.prog 32 #[.pointer (some ⟨V, 0, none⟩)] w fun e w' => e = .returned (.int .i64 ((s.b.length : Int) - s.at_)) ∧ Ch No w w' := by
  have c0 : w.cell? ⟨V, 0, none⟩ = some (.slice A n c) := blk_cell h.blk 0 _ rfl
  have c1 : w.cell? ⟨V, 1, none⟩ = some (.int .i64 s.at_) := blk_cell h.blk 1 _ rfl
  have hl := rrd_len h
  have h1 := h.fit.le
  have h2 := h.fit.big
  rw [hl] at h1 h2
  have hw : IntKind.i64.wrap ((n : Int) - s.at_) = (n : Int) - s.at_ := by rw [IntKind.wrap_i64]; omega
  go_enter Try.func32, Try.ntmps32
  go_wp2_with fail
  go_quiet (fail)
  go_wp2
  go_ret
  exact ⟨by rw [hl]; rfl, ch_drewN No _ _⟩
set_option maxRecDepth 100000 in
set_option maxHeartbeats 2000000 in
theorem rrend_any {w : World} {V : Nat} {A : Option Addr} {n c : Nat} {s : Rdr} (h : RRd w V A n c s) : Calls Try.prog 35 #[.pointer (some ⟨V, 0, none⟩)] w (FaultQ w (rend s)) := by
  have hl := rrd_len h
  have hb : Below w.heap.size w (w.alloc (.cells #[.int .i64 0, .int .i64 0] 54)) := (Below.refl w.heap.size w).alloc (Nat.le_refl _) _
  have H1 := rrd_ch h (Ch.of_below hb No) id (fun _ _ _ => id)
  obtain ⟨r, hrr⟩ : ∃ r, r = rend s := ⟨_, rfl⟩
  rw [← hrr]
  unfold rend at hrr
  rw [hl] at hrr
  have HRR := Lib.hid hrr
  clear hrr
  have d0 : (w.alloc (.cells #[.int .i64 0, .int .i64 0] 54)).cell? ⟨V, 0, none⟩ = some (.slice A n c) := blk_cell H1.blk 0 _ rfl
  have d1 : (w.alloc (.cells #[.int .i64 0, .int .i64 0] 54)).cell? ⟨V, 1, none⟩ = some (.int .i64 s.at_) := blk_cell H1.blk 1 _ rfl
  have d2 : (w.alloc (.cells #[.int .i64 0, .int .i64 0] 54)).cell? ⟨V, 2, none⟩ = some (.int .i64 s.e) := blk_cell H1.blk 2 _ rfl
  have d3 : (w.alloc (.cells #[.int .i64 0, .int .i64 0] 54)).cell? ⟨V, 3, none⟩ = some (.int .i64 s.p) := blk_cell H1.blk 3 _ rfl
  have hbn := blk_new w 54 #[.int .i64 0, .int .i64 0]
  have r0 := blk_cell hbn 0 _ rfl
  have r1 := blk_cell hbn 1 _ rfl
  have q0 := blk_thawed hbn 0
  have q1 := blk_thawed hbn 1
  have FIN : ∀ k x y, Below w.heap.size w (((w.alloc (.cells #[.int .i64 0, .int .i64 0] 54)).drewN k).setCell ⟨w.heap.size, 0, none⟩ x |>.setCell ⟨w.heap.size, 1, none⟩ y) := fun k x y =>
    (ch_set (ch_set ((Ch.of_below hb (fun k => k = w.heap.size)).trans (ch_drewN No _ k) (fun _ h => False.elim h)) ⟨w.heap.size, 0, none⟩ x rfl) ⟨w.heap.size, 1, none⟩ y rfl).below (Nat.le_refl _) (fun k hk => by omega)
  have BLK : ∀ k x y, (((w.alloc (.cells #[.int .i64 0, .int .i64 0] 54)).drewN k).setCell ⟨w.heap.size, 0, none⟩ x |>.setCell ⟨w.heap.size, 1, none⟩ y).heap[w.heap.size]? = some (.cells #[x, y] 54 (0, 0)) := fun k x y => blk_set (blk_set (blk_ch hbn (ch_drewN No _ k) id) 0 x) 1 y
  have FN := Lib.hid FIN; have BN := Lib.hid BLK
  clear FIN BLK hb hbn h H1
  by_cases he : s.e = 0
  · have g1 : (s.e == 0) = true := by simpa using he
    have HE := Lib.hid he
    clear he
    by_cases hlt : s.at_ < n
    · have hr : r = (4, (s.at_ : Int)) := by rw [HRR.out, if_pos ⟨HE.out, hlt⟩]
      have HR := Lib.hid hr
      clear hr
      have hlt' : (s.at_ : Int) < (n : Int) := by omega
      have g2 : decide ((s.at_ : Int) < (n : Int)) = true := decide_eq_true hlt'
      go_enter Try.func35, Try.ntmps35
      go_wp2_with fail
      go_quiet (fail)
      go_wp2
      exact bodyPost_ret (results_cell_row rfl _ _ w.heap.size 54 _ (0, 0) _ rfl (BN.out nq (.int .i64 4) (.int .i64 s.at_)) Try.underlying54 rfl (by kernel_rfl)) rfl ⟨by rw [HR.out], FN.out nq (.int .i64 4) (.int .i64 s.at_)⟩
    · have hr : r = (s.e, s.p) := by rw [HRR.out, if_neg (fun e => hlt e.2)]
      have HR := Lib.hid hr
      clear hr
      have hlt' : ¬ ((s.at_ : Int) < (n : Int)) := by omega
      have g2 : decide ((s.at_ : Int) < (n : Int)) = false := decide_eq_false hlt'
      go_enter Try.func35, Try.ntmps35
      go_wp2_with fail
      go_quiet (fail)
      go_wp2
      exact bodyPost_ret (results_cell_row rfl _ _ w.heap.size 54 _ (0, 0) _ rfl (BN.out nq (.int .i64 s.e) (.int .i64 s.p)) Try.underlying54 rfl (by kernel_rfl)) rfl ⟨by rw [HR.out], FN.out nq (.int .i64 s.e) (.int .i64 s.p)⟩
  · have hr : r = (s.e, s.p) := by rw [HRR.out, if_neg (fun e => he e.1)]
    have HR := Lib.hid hr
    have g1 : (s.e == 0) = false := by simpa using he
    clear hr
    go_enter Try.func35, Try.ntmps35
    go_wp2_with fail
    go_quiet (fail)
    go_wp2
    exact bodyPost_ret (results_cell_row rfl _ _ w.heap.size 54 _ (0, 0) _ rfl (BN.out nq (.int .i64 s.e) (.int .i64 s.p)) Try.underlying54 rfl (by kernel_rfl)) rfl ⟨by rw [HR.out], FN.out nq (.int .i64 s.e) (.int .i64 s.p)⟩
end Go.Proofs.Ytondodhpmghogaa
