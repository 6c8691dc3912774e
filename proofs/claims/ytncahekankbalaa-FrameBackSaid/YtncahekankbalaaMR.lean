/- Walks: the reference's reader: Open, fail, Left, End. Conditions: the reader as Open made it. | Walk: Num of the reference's reader, the first faults. Conditions: the reader as Open made it. | Walk: Num of the reference's reader, a leading nought, a number too great. Conditions: the reader as Open made it. | Walk: Num of the reference's reader, a number below the bounds. Conditions: the reader as Open made it. | Walk: Num of the reference's reader, a number above the bounds. Conditions: the reader as Open made it. | Walk: Num of the reference's reader, a number that is told. Conditions: the reader as Open made it. | Walk: Num of the reference's reader, nought; all cases joined. Conditions: the reader as Open made it. | Walk: Raw and Text of the reference's reader. Conditions: the reader as Open made it; at most 10^9 bytes. -/
import Derived.Test.YtncahekankbalaaMV
import Derived.Deep.RegionHeld3
import Derived.Deep.RegionLaw
section
namespace Go.Proofs.Ytncahekankbalaa
open Go.RowKit
set_option linter.unusedVariables false
set_option linter.unusedSimpArgs false

/-- block V is the reference's reader over the slice (A, n, c) of bytes -/
structure RRd (w : World) (V : Nat) (A : Option Addr) (n c : Nat) (s : Rdr) : Prop where
  blk : Blk w V 87 #[.slice A n c, .int .i64 s.at_, .int .i64 s.e, .int .i64 s.p]
  rd : Rd w A n c 1 (u8s s.b)
  far : ∀ a, A = some a → 0 < n → a.block ≠ V
  fit : Fit s
theorem rrd_lt {w : World} {V : Nat} {A : Option Addr} {n c : Nat} {s : Rdr} (h : RRd w V A n c s) : V < w.heap.size := blk_lt h.blk
theorem rrd_len {w : World} {V : Nat} {A : Option Addr} {n c : Nat} {s : Rdr} (h : RRd w V A n c s) : s.b.length = n := by have := h.rd.len; simpa using this
theorem rrd_ch {S : Nat → Prop} {w w' : World} {V : Nat} {A : Option Addr} {n c : Nat} {s : Rdr} (h : RRd w V A n c s) (hc : Ch S w w') (h1 : ¬ S V) (h2 : ∀ a, A = some a → 0 < n → ¬ S a.block) : RRd w' V A n c s := ⟨blk_ch h.blk hc h1, h.rd.ch0 hc h2, h.far, h.fit⟩
theorem rrd_set {w : World} {V : Nat} {A : Option Addr} {n c : Nat} {s : Rdr} (h : RRd w V A n c s) (s' : Rdr) (w' : World) (hb : s'.b = s.b) (hf : Fit s') (hc : Ch (fun k => k = V) w w') (hblk : Blk w' V 87 #[.slice A n c, .int .i64 s'.at_, .int .i64 s'.e, .int .i64 s'.p]) : RRd w' V A n c s' :=
  ⟨hblk, by rw [hb]; exact h.rd.ch0 hc h.far, h.far, hf⟩
def ROpenQ (w : World) (A : Option Addr) (n c : Nat) (l : List UInt8) (e : Ending) (w' : World) : Prop := ∃ V, e = .returned (.pointer (some ⟨V, 0, none⟩)) ∧ RRd w' V A n c ⟨l, 0, 0, 0⟩ ∧ w.heap.size ≤ V ∧ Below w.heap.size w w'
set_option maxHeartbeats 1000000 in
theorem ropen_any {A : Option Addr} {n c : Nat} {l : List UInt8} {w : World} (hr : Rd w A n c 1 (u8s l)) (hA : ∀ a, A = some a → 0 < n → a.block < w.heap.size) : Calls Try.prog 46 #[.slice A n c] w (ROpenQ w A n c l) := by
  have hl : l.length = n := by have := hr.len; simpa using this
  have hs := hr.small
  have HR := Lib.hid hr; have HA := Lib.hid hA
  clear hr hA
  go_enter Try.func46, Try.ntmps46
  go_wp2
  go_ret
  exact ⟨w.heap.size, rfl, ⟨blk_new w _ _, HR.out.ch (Ch.alloc w _ No) (fun _ _ => id), (fun a ha h0 => by have := HA.out a ha h0; omega), ⟨Nat.zero_le _, by simp; omega, by simp⟩⟩, Nat.le_refl _, (Below.refl w.heap.size w).alloc (Nat.le_refl _) _⟩

def RRNumQ (w : World) (V : Nat) (A : Option Addr) (n c : Nat) (r : Int × Rdr) (e : Ending) (w' : World) : Prop := e = .returned (.int .i64 r.1) ∧ RRd w' V A n c r.2 ∧ Ch (fun k => k = V) w w'
theorem rrnumq_of {w w2 w' : World} {V : Nat} {A : Option Addr} {n c : Nat} {r : Int × Rdr} {e : Ending} (hc : Ch (fun k => k = V) w w2) (h : RRNumQ w2 V A n c r e w') : RRNumQ w V A n c r e w' := ⟨h.1, h.2.1, hc.trans h.2.2 (fun _ h => .inl h)⟩
set_option maxRecDepth 100000 in
set_option maxHeartbeats 1000000 in
theorem fail_any {w : World} {V : Nat} {A : Option Addr} {n c : Nat} {s : Rdr} (h : RRd w V A n c s) (he : s.e = 0) (E P : Int) (hf : Fit ⟨s.b, s.at_, E, P⟩) : Calls Try.prog 62 #[.pointer (some ⟨V, 0, none⟩), .int .i64 E, .int .i64 P] w (RRNumQ w V A n c (0, ⟨s.b, s.at_, E, P⟩)) := by
  have c2 : w.cell? ⟨V, 2, none⟩ = some (.int .i64 s.e) := blk_cell h.blk 2 _ rfl
  have c3 : w.cell? ⟨V, 3, none⟩ = some (.int .i64 s.p) := blk_cell h.blk 3 _ rfl
  have f2 : w.frozen? ⟨V, 2, none⟩ = false := blk_thawed h.blk 2
  have f3 : w.frozen? ⟨V, 3, none⟩ = false := blk_thawed h.blk 3
  have g1 : (s.e == 0) = true := by simpa using he
  have H := Lib.hid h; have HF := Lib.hid hf
  clear h hf he
  go_enter Try.func62, Try.ntmps62
  go_wp2
  go_ret
  have hc := ch_set (ch_set (Ch.refl (fun k => k = V) w) ⟨V, 2, none⟩ (.int .i64 E) rfl) ⟨V, 3, none⟩ (.int .i64 P) rfl
  exact ⟨rfl, rrd_set H.out _ _ rfl HF.out hc (blk_set (blk_set H.out.blk 2 _) 3 _), hc⟩
set_option maxRecDepth 100000 in
set_option maxHeartbeats 2000000 in
theorem rrend_any {w : World} {V : Nat} {A : Option Addr} {n c : Nat} {s : Rdr} (h : RRd w V A n c s) : Calls Try.prog 49 #[.pointer (some ⟨V, 0, none⟩)] w (FaultQ w (rend s)) := by
  have hl := rrd_len h
  have hb : Below w.heap.size w (w.alloc (.cells #[.int .i64 0, .int .i64 0] 32)) := (Below.refl w.heap.size w).alloc (Nat.le_refl _) _
  have H1 := rrd_ch h (Ch.of_below hb No) id (fun _ _ _ => id)
  obtain ⟨r, hrr⟩ : ∃ r, r = rend s := ⟨_, rfl⟩
  rw [← hrr]
  unfold rend at hrr
  rw [hl] at hrr
  have HRR := Lib.hid hrr
  clear hrr
  have d0 : (w.alloc (.cells #[.int .i64 0, .int .i64 0] 32)).cell? ⟨V, 0, none⟩ = some (.slice A n c) := blk_cell H1.blk 0 _ rfl
  have d1 : (w.alloc (.cells #[.int .i64 0, .int .i64 0] 32)).cell? ⟨V, 1, none⟩ = some (.int .i64 s.at_) := blk_cell H1.blk 1 _ rfl
  have d2 : (w.alloc (.cells #[.int .i64 0, .int .i64 0] 32)).cell? ⟨V, 2, none⟩ = some (.int .i64 s.e) := blk_cell H1.blk 2 _ rfl
  have d3 : (w.alloc (.cells #[.int .i64 0, .int .i64 0] 32)).cell? ⟨V, 3, none⟩ = some (.int .i64 s.p) := blk_cell H1.blk 3 _ rfl
  have hbn := blk_new w 32 #[.int .i64 0, .int .i64 0]
  have r0 := blk_cell hbn 0 _ rfl
  have r1 := blk_cell hbn 1 _ rfl
  have q0 := blk_thawed hbn 0
  have q1 := blk_thawed hbn 1
  have FIN : ∀ k x y, Below w.heap.size w (((w.alloc (.cells #[.int .i64 0, .int .i64 0] 32)).drewN k).setCell ⟨w.heap.size, 0, none⟩ x |>.setCell ⟨w.heap.size, 1, none⟩ y) := fun k x y =>
    (ch_set (ch_set ((Ch.of_below hb (fun k => k = w.heap.size)).trans (ch_drewN No _ k) (fun _ h => False.elim h)) ⟨w.heap.size, 0, none⟩ x rfl) ⟨w.heap.size, 1, none⟩ y rfl).below (Nat.le_refl _) (fun k hk => by omega)
  have BLK : ∀ k x y, (((w.alloc (.cells #[.int .i64 0, .int .i64 0] 32)).drewN k).setCell ⟨w.heap.size, 0, none⟩ x |>.setCell ⟨w.heap.size, 1, none⟩ y).heap[w.heap.size]? = some (.cells #[x, y] 32 (0, 0)) := fun k x y => blk_set (blk_set (blk_ch hbn (ch_drewN No _ k) id) 0 x) 1 y
  have FN := Lib.hid FIN; have BN := Lib.hid BLK
  clear FIN BLK hb hbn h H1
  by_cases he : s.e = 0
  · have g1 : (s.e == 0) = true := by simpa using he
    have HE := Lib.hid he
    clear he
    by_cases hlt : s.at_ < n
    · have hr : r = (4, (s.at_ : Int)) := by rw [HRR.out, if_pos ⟨HE.out, hlt⟩]
      have HR := Lib.hid hr
      clear hr
      have hlt' : (s.at_ : Int) < (n : Int) := by omega
      have g2 : decide ((s.at_ : Int) < (n : Int)) = true := decide_eq_true hlt'
      go_enter Try.func49, Try.ntmps49
      go_wp2_with fail
      go_quiet (fail)
      go_wp2
      exact bodyPost_ret (results_cell_row rfl _ _ w.heap.size 32 _ (0, 0) _ rfl (BN.out nq (.int .i64 4) (.int .i64 s.at_)) Try.underlying32 rfl (by kernel_rfl)) rfl ⟨by rw [HR.out], FN.out nq (.int .i64 4) (.int .i64 s.at_)⟩
    · have hr : r = (s.e, s.p) := by rw [HRR.out, if_neg (fun e => hlt e.2)]
      have HR := Lib.hid hr
      clear hr
      have hlt' : ¬ ((s.at_ : Int) < (n : Int)) := by omega
      have g2 : decide ((s.at_ : Int) < (n : Int)) = false := decide_eq_false hlt'
      go_enter Try.func49, Try.ntmps49
      go_wp2_with fail
      go_quiet (fail)
      go_wp2
      exact bodyPost_ret (results_cell_row rfl _ _ w.heap.size 32 _ (0, 0) _ rfl (BN.out nq (.int .i64 s.e) (.int .i64 s.p)) Try.underlying32 rfl (by kernel_rfl)) rfl ⟨by rw [HR.out], FN.out nq (.int .i64 s.e) (.int .i64 s.p)⟩
  · have hr : r = (s.e, s.p) := by rw [HRR.out, if_neg (fun e => he e.1)]
    have HR := Lib.hid hr
    have g1 : (s.e == 0) = false := by simpa using he
    clear hr
    go_enter Try.func49, Try.ntmps49
    go_wp2_with fail
    go_quiet (fail)
    go_wp2
    exact bodyPost_ret (results_cell_row rfl _ _ w.heap.size 32 _ (0, 0) _ rfl (BN.out nq (.int .i64 s.e) (.int .i64 s.p)) Try.underlying32 rfl (by kernel_rfl)) rfl ⟨by rw [HR.out], FN.out nq (.int .i64 s.e) (.int .i64 s.p)⟩
end Go.Proofs.Ytncahekankbalaa
end
section
namespace Go.Proofs.Ytncahekankbalaa
open Go.RowKit
set_option linter.unusedVariables false
set_option linter.unusedSimpArgs false

theorem drewN4 (w : World) (a b c d : Nat) : (((w.drewN a).drewN b).drewN c).drewN d = w.drewN (a + b + c + d) := by simp
theorem valB_take_le (xs : List UInt8) (j : Nat) : valB (xs.take j) ≤ valB xs := by
  have h := valB_append (xs.take j) (xs.drop j)
  rw [List.take_append_drop] at h
  rw [h]
  have := Nat.pow_pos (n := (xs.drop j).length) (show 0 < 256 by decide)
  exact Nat.le_trans (Nat.le_mul_of_pos_right _ this) (Nat.le_add_right _ _)
theorem top_iff (xs : List UInt8) (h : xs.length = 8) : 4611686018427387903 < valB xs ↔ 63 < (xs[0]?.getD 0).toNat := by
  cases xs with
  | nil => simp at h
  | cons y t =>
    have ht : t.length = 7 := by simpa using h
    have h1 := valB_lt t
    rw [ht] at h1
    rw [valB_cons, ht]
    simp at h1 ⊢
    omega
theorem small7 (xs : List UInt8) (h : xs.length ≤ 7) : valB xs ≤ 4611686018427387903 :=
  Nat.le_of_lt (Nat.lt_of_lt_of_le (valB_lt xs) (Nat.le_trans (Nat.pow_le_pow_right (by decide) h) (by decide)))
set_option maxRecDepth 100000 in
set_option maxHeartbeats 4000000 in
theorem rn_err {w : World} {V : Nat} {A : Option Addr} {n c : Nat} {s : Rdr} (h : RRd w V A n c s) (lo hi : Int) (he : s.e ≠ 0) :
    Calls Try.prog 47 #[.pointer (some ⟨V, 0, none⟩), .int .i64 lo, .int .i64 hi] w (RRNumQ w V A n c (0, s)) := by
  have c0 : w.cell? ⟨V, 0, none⟩ = some (.slice A n c) := blk_cell h.blk 0 _ rfl
  have c1 : w.cell? ⟨V, 1, none⟩ = some (.int .i64 s.at_) := blk_cell h.blk 1 _ rfl
  have c2 : w.cell? ⟨V, 2, none⟩ = some (.int .i64 s.e) := blk_cell h.blk 2 _ rfl
  have c3 : w.cell? ⟨V, 3, none⟩ = some (.int .i64 s.p) := blk_cell h.blk 3 _ rfl
  have f1 : w.frozen? ⟨V, 1, none⟩ = false := blk_thawed h.blk 1
  have hl := rrd_len h
  have h2 := h.fit.big
  rw [hl] at h2
  have H := Lib.hid h
  have g1 : (s.e != 0) = true := by simpa using he
  clear h he
  go_enter Try.func47, Try.ntmps47
  go_wp2_with fail
  go_ret
  exact ⟨rfl, H.out, Ch.refl _ _⟩
set_option maxRecDepth 100000 in
set_option maxHeartbeats 4000000 in
theorem rn_end {w : World} {V : Nat} {A : Option Addr} {n c : Nat} {s : Rdr} (h : RRd w V A n c s) (lo hi : Int) (he0 : s.e = 0) (hend : s.b.length ≤ s.at_) (hF : Fit ⟨s.b, s.at_, 4, s.b.length⟩) :
    Calls Try.prog 47 #[.pointer (some ⟨V, 0, none⟩), .int .i64 lo, .int .i64 hi] w (RRNumQ w V A n c (0, ⟨s.b, s.at_, 4, s.b.length⟩)) := by
  have c0 : w.cell? ⟨V, 0, none⟩ = some (.slice A n c) := blk_cell h.blk 0 _ rfl
  have c1 : w.cell? ⟨V, 1, none⟩ = some (.int .i64 s.at_) := blk_cell h.blk 1 _ rfl
  have c2 : w.cell? ⟨V, 2, none⟩ = some (.int .i64 s.e) := blk_cell h.blk 2 _ rfl
  have c3 : w.cell? ⟨V, 3, none⟩ = some (.int .i64 s.p) := blk_cell h.blk 3 _ rfl
  have f1 : w.frozen? ⟨V, 1, none⟩ = false := blk_thawed h.blk 1
  have hl := rrd_len h
  have h2 := h.fit.big
  rw [hl] at h2
  have H := Lib.hid h
  have g1 : (s.e != 0) = false := by simpa using he0
  rw [hl] at hend hF ⊢
  have HF := Lib.hid hF
  clear hF h
  have HE0_ := Lib.hid he0
  clear he0
  go_enter Try.func47, Try.ntmps47
  go_wp2_with fail
  go_quiet (fail)
  go_wp2_with fail
  refine (fail_any (rrd_ch H.out (ch_drewN No _ _) id (fun _ _ _ => id)) HE0_.out 4 n HF.out).mono ?_
  rintro e w2 hQ
  obtain ⟨he, hQ2⟩ := rrnumq_of (ch_drewN _ _ _) hQ
  cases he
  go_wp2
  go_ret
  exact ⟨rfl, hQ2⟩
set_option maxRecDepth 100000 in
set_option maxHeartbeats 4000000 in
theorem rn_many {w : World} {V : Nat} {b off : Nat} {n c : Nat} {s : Rdr} (h : RRd w V (some ⟨b, off, none⟩) n c s) (lo hi : Int) (he0 : s.e = 0) (m : Nat) (hm : m = (s.b[s.at_]?.getD 0).toNat) (h8 : 8 < m) (hend : s.at_ < s.b.length) (hF : Fit ⟨s.b, s.at_, 2, s.at_⟩) :
    Calls Try.prog 47 #[.pointer (some ⟨V, 0, none⟩), .int .i64 lo, .int .i64 hi] w (RRNumQ w V (some ⟨b, off, none⟩) n c (0, ⟨s.b, s.at_, 2, s.at_⟩)) := by
  have c0 : w.cell? ⟨V, 0, none⟩ = some (.slice (some ⟨b, off, none⟩) n c) := blk_cell h.blk 0 _ rfl
  have c1 : w.cell? ⟨V, 1, none⟩ = some (.int .i64 s.at_) := blk_cell h.blk 1 _ rfl
  have c2 : w.cell? ⟨V, 2, none⟩ = some (.int .i64 s.e) := blk_cell h.blk 2 _ rfl
  have c3 : w.cell? ⟨V, 3, none⟩ = some (.int .i64 s.p) := blk_cell h.blk 3 _ rfl
  have f1 : w.frozen? ⟨V, 1, none⟩ = false := blk_thawed h.blk 1
  have hl := rrd_len h
  have h2 := h.fit.big
  rw [hl] at h2
  have H := Lib.hid h
  have hm256 : m < 256 := by rw [hm]; exact UInt8.toNat_lt _
  have hlt : s.at_ < n := by omega
  have hI0 : (0 : Int) ≤ (s.at_ : Int) := by omega
  have hI1 : (s.at_ : Int) < (n : Int) := by omega
  have hge : ¬ ((n : Int) ≤ (s.at_ : Int)) := by omega
  have g1 : (s.e != 0) = false := by simpa using he0
  have hcell := (h.rd.cells s.at_ _ (u8s_get s.b s.at_ (by omega)))
  obtain ⟨b', off', e', hcell⟩ := hcell
  cases e'
  rw [← hm] at hcell
  have hwm : Go.RowKit.wrap64 (m : Int) = (m : Int) := wrap64_id _ (by omega) (by omega)
  have h8' : (8 : Int) < (m : Int) := by omega
  have g2 : decide ((8 : Int) < (m : Int)) = true := decide_eq_true h8'
  have HE0_ := Lib.hid he0
  clear he0 hm
  have HF := Lib.hid hF
  clear hF h
  go_enter Try.func47, Try.ntmps47
  go_wp2_with fail
  go_quiet (fail)
  go_wp2_with fail
  go_quiet (fail)
  go_wp2_with fail
  refine (fail_any (rrd_ch H.out (ch_drewN No _ _) id (fun _ _ _ => id)) HE0_.out 2 s.at_ HF.out).mono ?_
  rintro e w2 hQ
  obtain ⟨he, hQ2⟩ := rrnumq_of (ch_drewN _ _ _) hQ
  cases he
  go_wp2
  go_ret
  exact ⟨rfl, hQ2⟩
set_option maxRecDepth 100000 in
set_option maxHeartbeats 4000000 in
theorem rn_short {w : World} {V : Nat} {b off : Nat} {n c : Nat} {s : Rdr} (h : RRd w V (some ⟨b, off, none⟩) n c s) (lo hi : Int) (he0 : s.e = 0) (m : Nat) (hm : m = (s.b[s.at_]?.getD 0).toNat) (h8 : m ≤ 8) (hend : s.at_ < s.b.length) (hsh : s.b.length < s.at_ + 1 + m) (hF : Fit ⟨s.b, s.at_, 4, s.b.length⟩) :
    Calls Try.prog 47 #[.pointer (some ⟨V, 0, none⟩), .int .i64 lo, .int .i64 hi] w (RRNumQ w V (some ⟨b, off, none⟩) n c (0, ⟨s.b, s.at_, 4, s.b.length⟩)) := by
  have c0 : w.cell? ⟨V, 0, none⟩ = some (.slice (some ⟨b, off, none⟩) n c) := blk_cell h.blk 0 _ rfl
  have c1 : w.cell? ⟨V, 1, none⟩ = some (.int .i64 s.at_) := blk_cell h.blk 1 _ rfl
  have c2 : w.cell? ⟨V, 2, none⟩ = some (.int .i64 s.e) := blk_cell h.blk 2 _ rfl
  have c3 : w.cell? ⟨V, 3, none⟩ = some (.int .i64 s.p) := blk_cell h.blk 3 _ rfl
  have f1 : w.frozen? ⟨V, 1, none⟩ = false := blk_thawed h.blk 1
  have hl := rrd_len h
  have h2 := h.fit.big
  rw [hl] at h2
  have H := Lib.hid h
  rw [hl] at hend hsh hF ⊢
  have hlt : s.at_ < n := by omega
  have hI0 : (0 : Int) ≤ (s.at_ : Int) := by omega
  have hI1 : (s.at_ : Int) < (n : Int) := by omega
  have hge : ¬ ((n : Int) ≤ (s.at_ : Int)) := by omega
  have g1 : (s.e != 0) = false := by simpa using he0
  have hcell := (h.rd.cells s.at_ _ (u8s_get s.b s.at_ (by omega)))
  obtain ⟨b', off', e', hcell⟩ := hcell
  cases e'
  rw [← hm] at hcell
  have hwm : Go.RowKit.wrap64 (m : Int) = (m : Int) := wrap64_id _ (by omega) (by omega)
  have h8' : ¬ ((8 : Int) < (m : Int)) := by omega
  have g2 : decide ((8 : Int) < (m : Int)) = false := decide_eq_false h8'
  have hw1 : IntKind.i64.wrap ((n : Int) - s.at_) = (n : Int) - s.at_ := by rw [IntKind.wrap_i64]; omega
  have hw2 : IntKind.i64.wrap ((n : Int) - s.at_ - 1) = (n : Int) - s.at_ - 1 := by rw [IntKind.wrap_i64]; omega
  have hsh' : (n : Int) - s.at_ - 1 < (m : Int) := by omega
  have g3 : decide ((n : Int) - s.at_ - 1 < (m : Int)) = true := decide_eq_true hsh'
  have HE0_ := Lib.hid he0
  clear he0 hm
  have HF := Lib.hid hF
  clear hF h
  go_enter Try.func47, Try.ntmps47
  go_wp2_with fail
  go_quiet (fail)
  go_wp2_with fail
  go_quiet (fail)
  go_wp2_with fail
  go_quiet (fail)
  go_wp2_with fail
  refine (fail_any (rrd_ch H.out (ch_drewN No _ _) id (fun _ _ _ => id)) HE0_.out 4 n HF.out).mono ?_
  rintro e w2 hQ
  obtain ⟨he, hQ2⟩ := rrnumq_of (ch_drewN _ _ _) hQ
  cases he
  go_wp2
  go_ret
  exact ⟨rfl, hQ2⟩
end Go.Proofs.Ytncahekankbalaa
end
section
namespace Go.Proofs.Ytncahekankbalaa
open Go.RowKit
set_option linter.unusedVariables false
set_option linter.unusedSimpArgs false

set_option maxRecDepth 100000 in
set_option maxHeartbeats 4000000 in
theorem rn_nought {w : World} {V : Nat} {b off : Nat} {n c : Nat} {s : Rdr} (h : RRd w V (some ⟨b, off, none⟩) n c s) (lo hi : Int) (he0 : s.e = 0) (m : Nat) (hm : m = (s.b[s.at_]?.getD 0).toNat) (h8 : m ≤ 8) (hsh : s.at_ + 1 + m ≤ s.b.length) (xs : List UInt8) (hxs : xs = (s.b.drop (s.at_ + 1)).take m) (U : Nat) (hU : U = valB xs) (hmp : 0 < m) (hy : s.b[s.at_ + 1]?.getD 0 = 0) (hF : Fit ⟨s.b, s.at_, 2, s.at_⟩) :
    Calls Try.prog 47 #[.pointer (some ⟨V, 0, none⟩), .int .i64 lo, .int .i64 hi] w (RRNumQ w V (some ⟨b, off, none⟩) n c (0, ⟨s.b, s.at_, 2, s.at_⟩)) := by
  have c0 : w.cell? ⟨V, 0, none⟩ = some (.slice (some ⟨b, off, none⟩) n c) := blk_cell h.blk 0 _ rfl
  have c1 : w.cell? ⟨V, 1, none⟩ = some (.int .i64 s.at_) := blk_cell h.blk 1 _ rfl
  have c2 : w.cell? ⟨V, 2, none⟩ = some (.int .i64 s.e) := blk_cell h.blk 2 _ rfl
  have c3 : w.cell? ⟨V, 3, none⟩ = some (.int .i64 s.p) := blk_cell h.blk 3 _ rfl
  have f1 : w.frozen? ⟨V, 1, none⟩ = false := blk_thawed h.blk 1
  have hl := rrd_len h
  have h2 := h.fit.big
  rw [hl] at h2
  have H := Lib.hid h
  rw [hl] at hsh
  have hlt : s.at_ < n := by omega
  have hI0 : (0 : Int) ≤ (s.at_ : Int) := by omega
  have hI1 : (s.at_ : Int) < (n : Int) := by omega
  have hge : ¬ ((n : Int) ≤ (s.at_ : Int)) := by omega
  have g1 : (s.e != 0) = false := by simpa using he0
  have hcell := (h.rd.cells s.at_ _ (u8s_get s.b s.at_ (by omega)))
  obtain ⟨b', off', e', hcell⟩ := hcell
  cases e'
  rw [← hm] at hcell
  have hwm : Go.RowKit.wrap64 (m : Int) = (m : Int) := wrap64_id _ (by omega) (by omega)
  have h8' : ¬ ((8 : Int) < (m : Int)) := by omega
  have g2 : decide ((8 : Int) < (m : Int)) = false := decide_eq_false h8'
  have hw1 : IntKind.i64.wrap ((n : Int) - s.at_) = (n : Int) - s.at_ := by rw [IntKind.wrap_i64]; omega
  have hw2 : IntKind.i64.wrap ((n : Int) - s.at_ - 1) = (n : Int) - s.at_ - 1 := by rw [IntKind.wrap_i64]; omega
  have hsh' : ¬ ((n : Int) - s.at_ - 1 < (m : Int)) := by omega
  have g3 : decide ((n : Int) - s.at_ - 1 < (m : Int)) = false := decide_eq_false hsh'
  have hw3 : IntKind.i64.wrap ((s.at_ : Int) + 1) = (s.at_ : Int) + 1 := by rw [IntKind.wrap_i64]; omega
  have hw4 : IntKind.i64.wrap ((s.at_ : Int) + 1 + m) = (s.at_ : Int) + 1 + m := by rw [IntKind.wrap_i64]; omega
  have hxl : xs.length = m := by rw [hxs, List.length_take, List.length_drop]; omega
  have hcy := h.rd.cells (s.at_ + 1) _ (u8s_get s.b (s.at_ + 1) (by omega))
  obtain ⟨b', off', e', hcy⟩ := hcy
  cases e'
  have hJ0 : (0 : Int) ≤ (s.at_ : Int) + 1 := by omega
  have hJ1 : (s.at_ : Int) + 1 < (n : Int) := by omega
  have hmp' : (0 : Int) < (m : Int) := by omega
  rw [hy] at hcy
  have hcy : w.cell? ⟨b, off + (s.at_ + 1), none⟩ = some (.int .u8 0) := hcy
  have HE0_ := Lib.hid he0
  have HXS := Lib.hid hxs; have HXL := Lib.hid hxl; have HU := Lib.hid hU; have HM := Lib.hid hm
  clear he0 hm hxs hxl hU
  have HF := Lib.hid hF
  clear hF h
  go_enter Try.func47, Try.ntmps47
  go_wp2_with fail
  go_quiet (fail)
  go_wp2_with fail
  go_quiet (fail)
  go_wp2_with fail
  go_quiet (fail)
  go_wp2_with fail
  go_quiet (fail)
  go_wp2_with fail
  refine (fail_any (rrd_ch H.out (ch_drewN No _ _) id (fun _ _ _ => id)) HE0_.out 2 s.at_ HF.out).mono ?_
  rintro e w2 hQ
  obtain ⟨he, hQ2⟩ := rrnumq_of (ch_drewN _ _ _) hQ
  cases he
  go_wp2
  go_ret
  exact ⟨rfl, hQ2⟩
set_option maxRecDepth 100000 in
set_option maxHeartbeats 4000000 in
theorem rn_top {w : World} {V : Nat} {b off : Nat} {n c : Nat} {s : Rdr} (h : RRd w V (some ⟨b, off, none⟩) n c s) (lo hi : Int) (he0 : s.e = 0) (m : Nat) (hm : m = (s.b[s.at_]?.getD 0).toNat) (h8 : m ≤ 8) (hm8 : m = 8) (hsh : s.at_ + 1 + m ≤ s.b.length) (xs : List UInt8) (hxs : xs = (s.b.drop (s.at_ + 1)).take m) (U : Nat) (hU : U = valB xs) (hy : s.b[s.at_ + 1]?.getD 0 ≠ 0) (hk : 63 < (s.b[s.at_ + 1]?.getD 0).toNat) (hF : Fit ⟨s.b, s.at_, 5, s.at_⟩) :
    Calls Try.prog 47 #[.pointer (some ⟨V, 0, none⟩), .int .i64 lo, .int .i64 hi] w (RRNumQ w V (some ⟨b, off, none⟩) n c (0, ⟨s.b, s.at_, 5, s.at_⟩)) := by
  have c0 : w.cell? ⟨V, 0, none⟩ = some (.slice (some ⟨b, off, none⟩) n c) := blk_cell h.blk 0 _ rfl
  have c1 : w.cell? ⟨V, 1, none⟩ = some (.int .i64 s.at_) := blk_cell h.blk 1 _ rfl
  have c2 : w.cell? ⟨V, 2, none⟩ = some (.int .i64 s.e) := blk_cell h.blk 2 _ rfl
  have c3 : w.cell? ⟨V, 3, none⟩ = some (.int .i64 s.p) := blk_cell h.blk 3 _ rfl
  have f1 : w.frozen? ⟨V, 1, none⟩ = false := blk_thawed h.blk 1
  have hl := rrd_len h
  have h2 := h.fit.big
  rw [hl] at h2
  have H := Lib.hid h
  rw [hl] at hsh
  have hlt : s.at_ < n := by omega
  have hI0 : (0 : Int) ≤ (s.at_ : Int) := by omega
  have hI1 : (s.at_ : Int) < (n : Int) := by omega
  have hge : ¬ ((n : Int) ≤ (s.at_ : Int)) := by omega
  have g1 : (s.e != 0) = false := by simpa using he0
  have hcell := (h.rd.cells s.at_ _ (u8s_get s.b s.at_ (by omega)))
  obtain ⟨b', off', e', hcell⟩ := hcell
  cases e'
  rw [← hm] at hcell
  have hwm : Go.RowKit.wrap64 (m : Int) = (m : Int) := wrap64_id _ (by omega) (by omega)
  have h8' : ¬ ((8 : Int) < (m : Int)) := by omega
  have g2 : decide ((8 : Int) < (m : Int)) = false := decide_eq_false h8'
  have hw1 : IntKind.i64.wrap ((n : Int) - s.at_) = (n : Int) - s.at_ := by rw [IntKind.wrap_i64]; omega
  have hw2 : IntKind.i64.wrap ((n : Int) - s.at_ - 1) = (n : Int) - s.at_ - 1 := by rw [IntKind.wrap_i64]; omega
  have hsh' : ¬ ((n : Int) - s.at_ - 1 < (m : Int)) := by omega
  have g3 : decide ((n : Int) - s.at_ - 1 < (m : Int)) = false := decide_eq_false hsh'
  have hw3 : IntKind.i64.wrap ((s.at_ : Int) + 1) = (s.at_ : Int) + 1 := by rw [IntKind.wrap_i64]; omega
  have hw4 : IntKind.i64.wrap ((s.at_ : Int) + 1 + m) = (s.at_ : Int) + 1 + m := by rw [IntKind.wrap_i64]; omega
  have hxl : xs.length = m := by rw [hxs, List.length_take, List.length_drop]; omega
  have hcy := h.rd.cells (s.at_ + 1) _ (u8s_get s.b (s.at_ + 1) (by omega))
  obtain ⟨b', off', e', hcy⟩ := hcy
  cases e'
  have hJ0 : (0 : Int) ≤ (s.at_ : Int) + 1 := by omega
  have hJ1 : (s.at_ : Int) + 1 < (n : Int) := by omega
  have hmp' : (0 : Int) < (m : Int) := by omega
  have hyn : (s.b[s.at_ + 1]?.getD 0).toNat ≠ 0 := fun e => hy (UInt8.toNat_inj.1 (by simpa using e))
  obtain ⟨Y, hY⟩ : ∃ Y, Y = (s.b[s.at_ + 1]?.getD 0).toNat := ⟨_, rfl⟩
  rw [← hY] at hcy hyn hk
  have hy0 : ((Y : Int) == 0) = false := by simp; omega
  have HY := Lib.hid hY
  clear hY hy hyn
  have hk' : (63 : Int) < (Y : Int) := by omega
  have gk : decide ((63 : Int) < (Y : Int)) = true := decide_eq_true hk'
  have g8 : ((m : Int) == 8) = true := by simp; omega
  have hmp : 0 < m := by omega
  clear hk hm8
  have HE0_ := Lib.hid he0
  have HXS := Lib.hid hxs; have HXL := Lib.hid hxl; have HU := Lib.hid hU; have HM := Lib.hid hm
  clear he0 hm hxs hxl hU
  have HF := Lib.hid hF
  clear hF h
  go_enter Try.func47, Try.ntmps47
  go_wp2_with fail
  go_quiet (fail)
  go_wp2_with fail
  go_quiet (fail)
  go_wp2_with fail
  go_quiet (fail)
  go_wp2_with fail
  go_quiet (fail)
  go_wp2_with fail
  go_quiet (fail)
  go_wp2_with fail
  refine (fail_any (rrd_ch H.out (ch_drewN No _ _) id (fun _ _ _ => id)) HE0_.out 5 s.at_ HF.out).mono ?_
  rintro e w2 hQ
  obtain ⟨he, hQ2⟩ := rrnumq_of (ch_drewN _ _ _) hQ
  cases he
  go_wp2
  go_ret
  exact ⟨rfl, hQ2⟩
end Go.Proofs.Ytncahekankbalaa
end
section
namespace Go.Proofs.Ytncahekankbalaa
open Go.RowKit
set_option linter.unusedVariables false
set_option linter.unusedSimpArgs false

set_option maxRecDepth 100000 in
set_option maxHeartbeats 4000000 in
theorem rn_low {w : World} {V : Nat} {b off : Nat} {n c : Nat} {s : Rdr} (h : RRd w V (some ⟨b, off, none⟩) n c s) (lo hi : Int) (he0 : s.e = 0) (m : Nat) (hm : m = (s.b[s.at_]?.getD 0).toNat) (h8 : m ≤ 8) (hsh : s.at_ + 1 + m ≤ s.b.length) (xs : List UInt8) (hxs : xs = (s.b.drop (s.at_ + 1)).take m) (U : Nat) (hU : U = valB xs) (hmp : 0 < m) (hy : s.b[s.at_ + 1]?.getD 0 ≠ 0) (hk : m = 8 → (s.b[s.at_ + 1]?.getD 0).toNat ≤ 63) (hv : U ≤ 4611686018427387903) (hv2 : (U : Int) < lo) (hF : Fit ⟨s.b, s.at_, 5, s.at_⟩) :
    Calls Try.prog 47 #[.pointer (some ⟨V, 0, none⟩), .int .i64 lo, .int .i64 hi] w (RRNumQ w V (some ⟨b, off, none⟩) n c (0, ⟨s.b, s.at_, 5, s.at_⟩)) := by
  have HV2_ := Lib.hid hv2
  clear hv2
  have HV_ := Lib.hid hv
  clear hv
  have c0 : w.cell? ⟨V, 0, none⟩ = some (.slice (some ⟨b, off, none⟩) n c) := blk_cell h.blk 0 _ rfl
  have c1 : w.cell? ⟨V, 1, none⟩ = some (.int .i64 s.at_) := blk_cell h.blk 1 _ rfl
  have c2 : w.cell? ⟨V, 2, none⟩ = some (.int .i64 s.e) := blk_cell h.blk 2 _ rfl
  have c3 : w.cell? ⟨V, 3, none⟩ = some (.int .i64 s.p) := blk_cell h.blk 3 _ rfl
  have f1 : w.frozen? ⟨V, 1, none⟩ = false := blk_thawed h.blk 1
  have hl := rrd_len h
  have h2 := h.fit.big
  rw [hl] at h2
  have H := Lib.hid h
  rw [hl] at hsh
  have hlt : s.at_ < n := by omega
  have hI0 : (0 : Int) ≤ (s.at_ : Int) := by omega
  have hI1 : (s.at_ : Int) < (n : Int) := by omega
  have hge : ¬ ((n : Int) ≤ (s.at_ : Int)) := by omega
  have g1 : (s.e != 0) = false := by simpa using he0
  have hcell := (h.rd.cells s.at_ _ (u8s_get s.b s.at_ (by omega)))
  obtain ⟨b', off', e', hcell⟩ := hcell
  cases e'
  rw [← hm] at hcell
  have hwm : Go.RowKit.wrap64 (m : Int) = (m : Int) := wrap64_id _ (by omega) (by omega)
  have h8' : ¬ ((8 : Int) < (m : Int)) := by omega
  have g2 : decide ((8 : Int) < (m : Int)) = false := decide_eq_false h8'
  have hw1 : IntKind.i64.wrap ((n : Int) - s.at_) = (n : Int) - s.at_ := by rw [IntKind.wrap_i64]; omega
  have hw2 : IntKind.i64.wrap ((n : Int) - s.at_ - 1) = (n : Int) - s.at_ - 1 := by rw [IntKind.wrap_i64]; omega
  have hsh' : ¬ ((n : Int) - s.at_ - 1 < (m : Int)) := by omega
  have g3 : decide ((n : Int) - s.at_ - 1 < (m : Int)) = false := decide_eq_false hsh'
  have hw3 : IntKind.i64.wrap ((s.at_ : Int) + 1) = (s.at_ : Int) + 1 := by rw [IntKind.wrap_i64]; omega
  have hw4 : IntKind.i64.wrap ((s.at_ : Int) + 1 + m) = (s.at_ : Int) + 1 + m := by rw [IntKind.wrap_i64]; omega
  have hxl : xs.length = m := by rw [hxs, List.length_take, List.length_drop]; omega
  have hcy := h.rd.cells (s.at_ + 1) _ (u8s_get s.b (s.at_ + 1) (by omega))
  obtain ⟨b', off', e', hcy⟩ := hcy
  cases e'
  have hJ0 : (0 : Int) ≤ (s.at_ : Int) + 1 := by omega
  have hJ1 : (s.at_ : Int) + 1 < (n : Int) := by omega
  have hmp' : (0 : Int) < (m : Int) := by omega
  have hyn : (s.b[s.at_ + 1]?.getD 0).toNat ≠ 0 := fun e => hy (UInt8.toNat_inj.1 (by simpa using e))
  obtain ⟨Y, hY⟩ : ∃ Y, Y = (s.b[s.at_ + 1]?.getD 0).toNat := ⟨_, rfl⟩
  rw [← hY] at hcy hyn hk
  have hy0 : ((Y : Int) == 0) = false := by simp; omega
  have HY := Lib.hid hY
  clear hY hy hyn
  have HK_ := Lib.hid hk
  clear hk
  have g6 : decide ((U : Int) < lo) = true := decide_eq_true HV2_.out
  have HE0_ := Lib.hid he0
  have HXS := Lib.hid hxs; have HXL := Lib.hid hxl; have HU := Lib.hid hU; have HM := Lib.hid hm
  clear he0 hm hxs hxl hU
  have HF := Lib.hid hF
  clear hF h
  by_cases hm8 : m = 8
  · have g8 : ((m : Int) == 8) = true := by simp; omega
    have hk' : ¬ ((63 : Int) < (Y : Int)) := by have := HK_.out; omega
    have gk : decide ((63 : Int) < (Y : Int)) = false := decide_eq_false hk'
    clear hm8
    go_enter Try.func47, Try.ntmps47
    go_wp2_with fail
    go_quiet (fail)
    go_wp2_with fail
    go_quiet (fail)
    go_wp2_with fail
    go_quiet (fail)
    go_wp2_with fail
    go_quiet (fail)
    go_wp2_with fail
    go_quiet (fail)
    go_wp2_with fail
    go_loopw [8, 9] (fun v i wr => ∃ k j : Nat, wr = w.drewN k ∧ j ≤ m ∧ i = .int .i64 j ∧ v = .int .i64 ((valB (xs.take j) : Nat) : Int)) (fun _ i _ => m - (intOf i).toNat)
    case atStart => exact ⟨_, 0, drewN4 _ _ _ _ _, Nat.zero_le _, rfl, rfl⟩
    case round =>
      obtain ⟨k, j, rfl, hj, rfl, rfl⟩ := hrel
      by_cases hlt2 : j < m
      · have HSTEP := Lib.hid (valB_step xs j (by rw [HXL.out]; exact hlt2) (by rw [HXL.out]; omega)).1
        have hle := valB_take_le xs (j + 1)
        rw [HSTEP.out, ← HU.out] at hle
        have hcj := H.out.rd.cells (s.at_ + 1 + j) _ (u8s_get s.b (s.at_ + 1 + j) (by omega))
        obtain ⟨b', off', e', hcj⟩ := hcj
        cases e'
        rw [← hxj xs s.b s.at_ m j HXS.out hlt2] at hcj
        have hx256 : (xs[j]?.getD 0).toNat < 256 := UInt8.toNat_lt _
        generalize (xs[j]?.getD 0).toNat = x at hcj HSTEP hle hx256
        generalize valB (xs.take j) = W at HSTEP hle
        have hle2 := HV_.out
        have hp1 : IntKind.i64.wrap (256 * (W : Int)) = 256 * (W : Int) := by rw [IntKind.wrap_i64]; omega
        have hp2 : IntKind.i64.wrap (256 * (W : Int) + x) = 256 * (W : Int) + x := by rw [IntKind.wrap_i64]; omega
        have hp3 : IntKind.i64.wrap ((s.at_ : Int) + 1 + j) = (s.at_ : Int) + 1 + j := by rw [IntKind.wrap_i64]; omega
        have hi0 : (0 : Int) ≤ (s.at_ : Int) + 1 + j := by omega
        have hi1 : (s.at_ : Int) + 1 + j < (n : Int) := by omega
        have hi2 : (j : Int) < (m : Int) := by omega
        clear hle hle2
        go_wp2_with fail
        go_quiet (fail)
        go_wp2
        go_roundw
        case rel => exact ⟨_, j + 1, rfl, by omega, by go_num, by rw [HSTEP.out]; go_num⟩
        case measure => simp [intOf]; omega
      · obtain rfl : m = j := by omega
        rw [List.take_of_length_le (by rw [HXL.out]; exact Nat.le_refl _), ← HU.out]
        clear hlt2 hj
        go_wp2_with fail
        refine (fail_any (rrd_ch H.out (ch_drewN No _ _) id (fun _ _ _ => id)) HE0_.out 5 s.at_ HF.out).mono ?_
        rintro e w2 hQ
        obtain ⟨he, hQ2⟩ := rrnumq_of (ch_drewN _ _ _) hQ
        cases he
        go_wp2
        go_ret
        exact ⟨rfl, hQ2⟩
  · have g8 : ((m : Int) == 8) = false := by simp; omega
    clear hm8
    go_enter Try.func47, Try.ntmps47
    go_wp2_with fail
    go_quiet (fail)
    go_wp2_with fail
    go_quiet (fail)
    go_wp2_with fail
    go_quiet (fail)
    go_wp2_with fail
    go_quiet (fail)
    go_wp2_with fail
    go_quiet (fail)
    go_wp2_with fail
    go_loopw [8, 9] (fun v i wr => ∃ k j : Nat, wr = w.drewN k ∧ j ≤ m ∧ i = .int .i64 j ∧ v = .int .i64 ((valB (xs.take j) : Nat) : Int)) (fun _ i _ => m - (intOf i).toNat)
    case atStart => exact ⟨_, 0, drewN4 _ _ _ _ _, Nat.zero_le _, rfl, rfl⟩
    case round =>
      obtain ⟨k, j, rfl, hj, rfl, rfl⟩ := hrel
      by_cases hlt2 : j < m
      · have HSTEP := Lib.hid (valB_step xs j (by rw [HXL.out]; exact hlt2) (by rw [HXL.out]; omega)).1
        have hle := valB_take_le xs (j + 1)
        rw [HSTEP.out, ← HU.out] at hle
        have hcj := H.out.rd.cells (s.at_ + 1 + j) _ (u8s_get s.b (s.at_ + 1 + j) (by omega))
        obtain ⟨b', off', e', hcj⟩ := hcj
        cases e'
        rw [← hxj xs s.b s.at_ m j HXS.out hlt2] at hcj
        have hx256 : (xs[j]?.getD 0).toNat < 256 := UInt8.toNat_lt _
        generalize (xs[j]?.getD 0).toNat = x at hcj HSTEP hle hx256
        generalize valB (xs.take j) = W at HSTEP hle
        have hle2 := HV_.out
        have hp1 : IntKind.i64.wrap (256 * (W : Int)) = 256 * (W : Int) := by rw [IntKind.wrap_i64]; omega
        have hp2 : IntKind.i64.wrap (256 * (W : Int) + x) = 256 * (W : Int) + x := by rw [IntKind.wrap_i64]; omega
        have hp3 : IntKind.i64.wrap ((s.at_ : Int) + 1 + j) = (s.at_ : Int) + 1 + j := by rw [IntKind.wrap_i64]; omega
        have hi0 : (0 : Int) ≤ (s.at_ : Int) + 1 + j := by omega
        have hi1 : (s.at_ : Int) + 1 + j < (n : Int) := by omega
        have hi2 : (j : Int) < (m : Int) := by omega
        clear hle hle2
        go_wp2_with fail
        go_quiet (fail)
        go_wp2
        go_roundw
        case rel => exact ⟨_, j + 1, rfl, by omega, by go_num, by rw [HSTEP.out]; go_num⟩
        case measure => simp [intOf]; omega
      · obtain rfl : m = j := by omega
        rw [List.take_of_length_le (by rw [HXL.out]; exact Nat.le_refl _), ← HU.out]
        clear hlt2 hj
        go_wp2_with fail
        refine (fail_any (rrd_ch H.out (ch_drewN No _ _) id (fun _ _ _ => id)) HE0_.out 5 s.at_ HF.out).mono ?_
        rintro e w2 hQ
        obtain ⟨he, hQ2⟩ := rrnumq_of (ch_drewN _ _ _) hQ
        cases he
        go_wp2
        go_ret
        exact ⟨rfl, hQ2⟩
end Go.Proofs.Ytncahekankbalaa
end
section
namespace Go.Proofs.Ytncahekankbalaa
open Go.RowKit
set_option linter.unusedVariables false
set_option linter.unusedSimpArgs false

set_option maxRecDepth 100000 in
set_option maxHeartbeats 4000000 in
theorem rn_high {w : World} {V : Nat} {b off : Nat} {n c : Nat} {s : Rdr} (h : RRd w V (some ⟨b, off, none⟩) n c s) (lo hi : Int) (he0 : s.e = 0) (m : Nat) (hm : m = (s.b[s.at_]?.getD 0).toNat) (h8 : m ≤ 8) (hsh : s.at_ + 1 + m ≤ s.b.length) (xs : List UInt8) (hxs : xs = (s.b.drop (s.at_ + 1)).take m) (U : Nat) (hU : U = valB xs) (hmp : 0 < m) (hy : s.b[s.at_ + 1]?.getD 0 ≠ 0) (hk : m = 8 → (s.b[s.at_ + 1]?.getD 0).toNat ≤ 63) (hv : U ≤ 4611686018427387903) (hv2 : ¬ (U : Int) < lo) (hv3 : hi < (U : Int)) (hF : Fit ⟨s.b, s.at_, 5, s.at_⟩) :
    Calls Try.prog 47 #[.pointer (some ⟨V, 0, none⟩), .int .i64 lo, .int .i64 hi] w (RRNumQ w V (some ⟨b, off, none⟩) n c (0, ⟨s.b, s.at_, 5, s.at_⟩)) := by
  have HV3_ := Lib.hid hv3
  clear hv3
  have HV2_ := Lib.hid hv2
  clear hv2
  have HV_ := Lib.hid hv
  clear hv
  have c0 : w.cell? ⟨V, 0, none⟩ = some (.slice (some ⟨b, off, none⟩) n c) := blk_cell h.blk 0 _ rfl
  have c1 : w.cell? ⟨V, 1, none⟩ = some (.int .i64 s.at_) := blk_cell h.blk 1 _ rfl
  have c2 : w.cell? ⟨V, 2, none⟩ = some (.int .i64 s.e) := blk_cell h.blk 2 _ rfl
  have c3 : w.cell? ⟨V, 3, none⟩ = some (.int .i64 s.p) := blk_cell h.blk 3 _ rfl
  have f1 : w.frozen? ⟨V, 1, none⟩ = false := blk_thawed h.blk 1
  have hl := rrd_len h
  have h2 := h.fit.big
  rw [hl] at h2
  have H := Lib.hid h
  rw [hl] at hsh
  have hlt : s.at_ < n := by omega
  have hI0 : (0 : Int) ≤ (s.at_ : Int) := by omega
  have hI1 : (s.at_ : Int) < (n : Int) := by omega
  have hge : ¬ ((n : Int) ≤ (s.at_ : Int)) := by omega
  have g1 : (s.e != 0) = false := by simpa using he0
  have hcell := (h.rd.cells s.at_ _ (u8s_get s.b s.at_ (by omega)))
  obtain ⟨b', off', e', hcell⟩ := hcell
  cases e'
  rw [← hm] at hcell
  have hwm : Go.RowKit.wrap64 (m : Int) = (m : Int) := wrap64_id _ (by omega) (by omega)
  have h8' : ¬ ((8 : Int) < (m : Int)) := by omega
  have g2 : decide ((8 : Int) < (m : Int)) = false := decide_eq_false h8'
  have hw1 : IntKind.i64.wrap ((n : Int) - s.at_) = (n : Int) - s.at_ := by rw [IntKind.wrap_i64]; omega
  have hw2 : IntKind.i64.wrap ((n : Int) - s.at_ - 1) = (n : Int) - s.at_ - 1 := by rw [IntKind.wrap_i64]; omega
  have hsh' : ¬ ((n : Int) - s.at_ - 1 < (m : Int)) := by omega
  have g3 : decide ((n : Int) - s.at_ - 1 < (m : Int)) = false := decide_eq_false hsh'
  have hw3 : IntKind.i64.wrap ((s.at_ : Int) + 1) = (s.at_ : Int) + 1 := by rw [IntKind.wrap_i64]; omega
  have hw4 : IntKind.i64.wrap ((s.at_ : Int) + 1 + m) = (s.at_ : Int) + 1 + m := by rw [IntKind.wrap_i64]; omega
  have hxl : xs.length = m := by rw [hxs, List.length_take, List.length_drop]; omega
  have hcy := h.rd.cells (s.at_ + 1) _ (u8s_get s.b (s.at_ + 1) (by omega))
  obtain ⟨b', off', e', hcy⟩ := hcy
  cases e'
  have hJ0 : (0 : Int) ≤ (s.at_ : Int) + 1 := by omega
  have hJ1 : (s.at_ : Int) + 1 < (n : Int) := by omega
  have hmp' : (0 : Int) < (m : Int) := by omega
  have hyn : (s.b[s.at_ + 1]?.getD 0).toNat ≠ 0 := fun e => hy (UInt8.toNat_inj.1 (by simpa using e))
  obtain ⟨Y, hY⟩ : ∃ Y, Y = (s.b[s.at_ + 1]?.getD 0).toNat := ⟨_, rfl⟩
  rw [← hY] at hcy hyn hk
  have hy0 : ((Y : Int) == 0) = false := by simp; omega
  have HY := Lib.hid hY
  clear hY hy hyn
  have HK_ := Lib.hid hk
  clear hk
  have g6 : decide ((U : Int) < lo) = false := decide_eq_false HV2_.out
  have g7 : decide (hi < (U : Int)) = true := decide_eq_true HV3_.out
  have HE0_ := Lib.hid he0
  have HXS := Lib.hid hxs; have HXL := Lib.hid hxl; have HU := Lib.hid hU; have HM := Lib.hid hm
  clear he0 hm hxs hxl hU
  have HF := Lib.hid hF
  clear hF h
  by_cases hm8 : m = 8
  · have g8 : ((m : Int) == 8) = true := by simp; omega
    have hk' : ¬ ((63 : Int) < (Y : Int)) := by have := HK_.out; omega
    have gk : decide ((63 : Int) < (Y : Int)) = false := decide_eq_false hk'
    clear hm8
    go_enter Try.func47, Try.ntmps47
    go_wp2_with fail
    go_quiet (fail)
    go_wp2_with fail
    go_quiet (fail)
    go_wp2_with fail
    go_quiet (fail)
    go_wp2_with fail
    go_quiet (fail)
    go_wp2_with fail
    go_quiet (fail)
    go_wp2_with fail
    go_loopw [8, 9] (fun v i wr => ∃ k j : Nat, wr = w.drewN k ∧ j ≤ m ∧ i = .int .i64 j ∧ v = .int .i64 ((valB (xs.take j) : Nat) : Int)) (fun _ i _ => m - (intOf i).toNat)
    case atStart => exact ⟨_, 0, drewN4 _ _ _ _ _, Nat.zero_le _, rfl, rfl⟩
    case round =>
      obtain ⟨k, j, rfl, hj, rfl, rfl⟩ := hrel
      by_cases hlt2 : j < m
      · have HSTEP := Lib.hid (valB_step xs j (by rw [HXL.out]; exact hlt2) (by rw [HXL.out]; omega)).1
        have hle := valB_take_le xs (j + 1)
        rw [HSTEP.out, ← HU.out] at hle
        have hcj := H.out.rd.cells (s.at_ + 1 + j) _ (u8s_get s.b (s.at_ + 1 + j) (by omega))
        obtain ⟨b', off', e', hcj⟩ := hcj
        cases e'
        rw [← hxj xs s.b s.at_ m j HXS.out hlt2] at hcj
        have hx256 : (xs[j]?.getD 0).toNat < 256 := UInt8.toNat_lt _
        generalize (xs[j]?.getD 0).toNat = x at hcj HSTEP hle hx256
        generalize valB (xs.take j) = W at HSTEP hle
        have hle2 := HV_.out
        have hp1 : IntKind.i64.wrap (256 * (W : Int)) = 256 * (W : Int) := by rw [IntKind.wrap_i64]; omega
        have hp2 : IntKind.i64.wrap (256 * (W : Int) + x) = 256 * (W : Int) + x := by rw [IntKind.wrap_i64]; omega
        have hp3 : IntKind.i64.wrap ((s.at_ : Int) + 1 + j) = (s.at_ : Int) + 1 + j := by rw [IntKind.wrap_i64]; omega
        have hi0 : (0 : Int) ≤ (s.at_ : Int) + 1 + j := by omega
        have hi1 : (s.at_ : Int) + 1 + j < (n : Int) := by omega
        have hi2 : (j : Int) < (m : Int) := by omega
        clear hle hle2
        go_wp2_with fail
        go_quiet (fail)
        go_wp2
        go_roundw
        case rel => exact ⟨_, j + 1, rfl, by omega, by go_num, by rw [HSTEP.out]; go_num⟩
        case measure => simp [intOf]; omega
      · obtain rfl : m = j := by omega
        rw [List.take_of_length_le (by rw [HXL.out]; exact Nat.le_refl _), ← HU.out]
        clear hlt2 hj
        go_wp2_with fail
        refine (fail_any (rrd_ch H.out (ch_drewN No _ _) id (fun _ _ _ => id)) HE0_.out 5 s.at_ HF.out).mono ?_
        rintro e w2 hQ
        obtain ⟨he, hQ2⟩ := rrnumq_of (ch_drewN _ _ _) hQ
        cases he
        go_wp2
        go_ret
        exact ⟨rfl, hQ2⟩
  · have g8 : ((m : Int) == 8) = false := by simp; omega
    clear hm8
    go_enter Try.func47, Try.ntmps47
    go_wp2_with fail
    go_quiet (fail)
    go_wp2_with fail
    go_quiet (fail)
    go_wp2_with fail
    go_quiet (fail)
    go_wp2_with fail
    go_quiet (fail)
    go_wp2_with fail
    go_quiet (fail)
    go_wp2_with fail
    go_loopw [8, 9] (fun v i wr => ∃ k j : Nat, wr = w.drewN k ∧ j ≤ m ∧ i = .int .i64 j ∧ v = .int .i64 ((valB (xs.take j) : Nat) : Int)) (fun _ i _ => m - (intOf i).toNat)
    case atStart => exact ⟨_, 0, drewN4 _ _ _ _ _, Nat.zero_le _, rfl, rfl⟩
    case round =>
      obtain ⟨k, j, rfl, hj, rfl, rfl⟩ := hrel
      by_cases hlt2 : j < m
      · have HSTEP := Lib.hid (valB_step xs j (by rw [HXL.out]; exact hlt2) (by rw [HXL.out]; omega)).1
        have hle := valB_take_le xs (j + 1)
        rw [HSTEP.out, ← HU.out] at hle
        have hcj := H.out.rd.cells (s.at_ + 1 + j) _ (u8s_get s.b (s.at_ + 1 + j) (by omega))
        obtain ⟨b', off', e', hcj⟩ := hcj
        cases e'
        rw [← hxj xs s.b s.at_ m j HXS.out hlt2] at hcj
        have hx256 : (xs[j]?.getD 0).toNat < 256 := UInt8.toNat_lt _
        generalize (xs[j]?.getD 0).toNat = x at hcj HSTEP hle hx256
        generalize valB (xs.take j) = W at HSTEP hle
        have hle2 := HV_.out
        have hp1 : IntKind.i64.wrap (256 * (W : Int)) = 256 * (W : Int) := by rw [IntKind.wrap_i64]; omega
        have hp2 : IntKind.i64.wrap (256 * (W : Int) + x) = 256 * (W : Int) + x := by rw [IntKind.wrap_i64]; omega
        have hp3 : IntKind.i64.wrap ((s.at_ : Int) + 1 + j) = (s.at_ : Int) + 1 + j := by rw [IntKind.wrap_i64]; omega
        have hi0 : (0 : Int) ≤ (s.at_ : Int) + 1 + j := by omega
        have hi1 : (s.at_ : Int) + 1 + j < (n : Int) := by omega
        have hi2 : (j : Int) < (m : Int) := by omega
        clear hle hle2
        go_wp2_with fail
        go_quiet (fail)
        go_wp2
        go_roundw
        case rel => exact ⟨_, j + 1, rfl, by omega, by go_num, by rw [HSTEP.out]; go_num⟩
        case measure => simp [intOf]; omega
      · obtain rfl : m = j := by omega
        rw [List.take_of_length_le (by rw [HXL.out]; exact Nat.le_refl _), ← HU.out]
        clear hlt2 hj
        go_wp2_with fail
        refine (fail_any (rrd_ch H.out (ch_drewN No _ _) id (fun _ _ _ => id)) HE0_.out 5 s.at_ HF.out).mono ?_
        rintro e w2 hQ
        obtain ⟨he, hQ2⟩ := rrnumq_of (ch_drewN _ _ _) hQ
        cases he
        go_wp2
        go_ret
        exact ⟨rfl, hQ2⟩
end Go.Proofs.Ytncahekankbalaa
end
section
namespace Go.Proofs.Ytncahekankbalaa
open Go.RowKit
set_option linter.unusedVariables false
set_option linter.unusedSimpArgs false

set_option maxRecDepth 100000 in
set_option maxHeartbeats 4000000 in
theorem rn_fine {w : World} {V : Nat} {b off : Nat} {n c : Nat} {s : Rdr} (h : RRd w V (some ⟨b, off, none⟩) n c s) (lo hi : Int) (he0 : s.e = 0) (m : Nat) (hm : m = (s.b[s.at_]?.getD 0).toNat) (h8 : m ≤ 8) (hsh : s.at_ + 1 + m ≤ s.b.length) (xs : List UInt8) (hxs : xs = (s.b.drop (s.at_ + 1)).take m) (U : Nat) (hU : U = valB xs) (hmp : 0 < m) (hy : s.b[s.at_ + 1]?.getD 0 ≠ 0) (hk : m = 8 → (s.b[s.at_ + 1]?.getD 0).toNat ≤ 63) (hv : U ≤ 4611686018427387903) (hv2 : ¬ (U : Int) < lo) (hv3 : ¬ hi < (U : Int)) (hF : Fit ⟨s.b, s.at_ + 1 + m, 0, s.p⟩) :
    Calls Try.prog 47 #[.pointer (some ⟨V, 0, none⟩), .int .i64 lo, .int .i64 hi] w (RRNumQ w V (some ⟨b, off, none⟩) n c ((U : Int), ⟨s.b, s.at_ + 1 + m, 0, s.p⟩)) := by
  have HV3_ := Lib.hid hv3
  clear hv3
  have HV2_ := Lib.hid hv2
  clear hv2
  have HV_ := Lib.hid hv
  clear hv
  have c0 : w.cell? ⟨V, 0, none⟩ = some (.slice (some ⟨b, off, none⟩) n c) := blk_cell h.blk 0 _ rfl
  have c1 : w.cell? ⟨V, 1, none⟩ = some (.int .i64 s.at_) := blk_cell h.blk 1 _ rfl
  have c2 : w.cell? ⟨V, 2, none⟩ = some (.int .i64 s.e) := blk_cell h.blk 2 _ rfl
  have c3 : w.cell? ⟨V, 3, none⟩ = some (.int .i64 s.p) := blk_cell h.blk 3 _ rfl
  have f1 : w.frozen? ⟨V, 1, none⟩ = false := blk_thawed h.blk 1
  have hl := rrd_len h
  have h2 := h.fit.big
  rw [hl] at h2
  have H := Lib.hid h
  rw [hl] at hsh
  have hlt : s.at_ < n := by omega
  have hI0 : (0 : Int) ≤ (s.at_ : Int) := by omega
  have hI1 : (s.at_ : Int) < (n : Int) := by omega
  have hge : ¬ ((n : Int) ≤ (s.at_ : Int)) := by omega
  have g1 : (s.e != 0) = false := by simpa using he0
  have hcell := (h.rd.cells s.at_ _ (u8s_get s.b s.at_ (by omega)))
  obtain ⟨b', off', e', hcell⟩ := hcell
  cases e'
  rw [← hm] at hcell
  have hwm : Go.RowKit.wrap64 (m : Int) = (m : Int) := wrap64_id _ (by omega) (by omega)
  have h8' : ¬ ((8 : Int) < (m : Int)) := by omega
  have g2 : decide ((8 : Int) < (m : Int)) = false := decide_eq_false h8'
  have hw1 : IntKind.i64.wrap ((n : Int) - s.at_) = (n : Int) - s.at_ := by rw [IntKind.wrap_i64]; omega
  have hw2 : IntKind.i64.wrap ((n : Int) - s.at_ - 1) = (n : Int) - s.at_ - 1 := by rw [IntKind.wrap_i64]; omega
  have hsh' : ¬ ((n : Int) - s.at_ - 1 < (m : Int)) := by omega
  have g3 : decide ((n : Int) - s.at_ - 1 < (m : Int)) = false := decide_eq_false hsh'
  have hw3 : IntKind.i64.wrap ((s.at_ : Int) + 1) = (s.at_ : Int) + 1 := by rw [IntKind.wrap_i64]; omega
  have hw4 : IntKind.i64.wrap ((s.at_ : Int) + 1 + m) = (s.at_ : Int) + 1 + m := by rw [IntKind.wrap_i64]; omega
  have hxl : xs.length = m := by rw [hxs, List.length_take, List.length_drop]; omega
  have hcy := h.rd.cells (s.at_ + 1) _ (u8s_get s.b (s.at_ + 1) (by omega))
  obtain ⟨b', off', e', hcy⟩ := hcy
  cases e'
  have hJ0 : (0 : Int) ≤ (s.at_ : Int) + 1 := by omega
  have hJ1 : (s.at_ : Int) + 1 < (n : Int) := by omega
  have hmp' : (0 : Int) < (m : Int) := by omega
  have hyn : (s.b[s.at_ + 1]?.getD 0).toNat ≠ 0 := fun e => hy (UInt8.toNat_inj.1 (by simpa using e))
  obtain ⟨Y, hY⟩ : ∃ Y, Y = (s.b[s.at_ + 1]?.getD 0).toNat := ⟨_, rfl⟩
  rw [← hY] at hcy hyn hk
  have hy0 : ((Y : Int) == 0) = false := by simp; omega
  have HY := Lib.hid hY
  clear hY hy hyn
  have HK_ := Lib.hid hk
  clear hk
  have g6 : decide ((U : Int) < lo) = false := decide_eq_false HV2_.out
  have g7 : decide (hi < (U : Int)) = false := decide_eq_false HV3_.out
  have HE0_ := Lib.hid he0
  have HXS := Lib.hid hxs; have HXL := Lib.hid hxl; have HU := Lib.hid hU; have HM := Lib.hid hm
  clear he0 hm hxs hxl hU
  have HF := Lib.hid hF
  clear hF h
  by_cases hm8 : m = 8
  · have g8 : ((m : Int) == 8) = true := by simp; omega
    have hk' : ¬ ((63 : Int) < (Y : Int)) := by have := HK_.out; omega
    have gk : decide ((63 : Int) < (Y : Int)) = false := decide_eq_false hk'
    clear hm8
    go_enter Try.func47, Try.ntmps47
    go_wp2_with fail
    go_quiet (fail)
    go_wp2_with fail
    go_quiet (fail)
    go_wp2_with fail
    go_quiet (fail)
    go_wp2_with fail
    go_quiet (fail)
    go_wp2_with fail
    go_quiet (fail)
    go_wp2_with fail
    go_loopw [8, 9] (fun v i wr => ∃ k j : Nat, wr = w.drewN k ∧ j ≤ m ∧ i = .int .i64 j ∧ v = .int .i64 ((valB (xs.take j) : Nat) : Int)) (fun _ i _ => m - (intOf i).toNat)
    case atStart => exact ⟨_, 0, drewN4 _ _ _ _ _, Nat.zero_le _, rfl, rfl⟩
    case round =>
      obtain ⟨k, j, rfl, hj, rfl, rfl⟩ := hrel
      by_cases hlt2 : j < m
      · have HSTEP := Lib.hid (valB_step xs j (by rw [HXL.out]; exact hlt2) (by rw [HXL.out]; omega)).1
        have hle := valB_take_le xs (j + 1)
        rw [HSTEP.out, ← HU.out] at hle
        have hcj := H.out.rd.cells (s.at_ + 1 + j) _ (u8s_get s.b (s.at_ + 1 + j) (by omega))
        obtain ⟨b', off', e', hcj⟩ := hcj
        cases e'
        rw [← hxj xs s.b s.at_ m j HXS.out hlt2] at hcj
        have hx256 : (xs[j]?.getD 0).toNat < 256 := UInt8.toNat_lt _
        generalize (xs[j]?.getD 0).toNat = x at hcj HSTEP hle hx256
        generalize valB (xs.take j) = W at HSTEP hle
        have hle2 := HV_.out
        have hp1 : IntKind.i64.wrap (256 * (W : Int)) = 256 * (W : Int) := by rw [IntKind.wrap_i64]; omega
        have hp2 : IntKind.i64.wrap (256 * (W : Int) + x) = 256 * (W : Int) + x := by rw [IntKind.wrap_i64]; omega
        have hp3 : IntKind.i64.wrap ((s.at_ : Int) + 1 + j) = (s.at_ : Int) + 1 + j := by rw [IntKind.wrap_i64]; omega
        have hi0 : (0 : Int) ≤ (s.at_ : Int) + 1 + j := by omega
        have hi1 : (s.at_ : Int) + 1 + j < (n : Int) := by omega
        have hi2 : (j : Int) < (m : Int) := by omega
        clear hle hle2
        go_wp2_with fail
        go_quiet (fail)
        go_wp2
        go_roundw
        case rel => exact ⟨_, j + 1, rfl, by omega, by go_num, by rw [HSTEP.out]; go_num⟩
        case measure => simp [intOf]; omega
      · obtain rfl : m = j := by omega
        rw [List.take_of_length_le (by rw [HXL.out]; exact Nat.le_refl _), ← HU.out]
        clear hlt2 hj
        have hcc := ch_set (ch_drewN (fun k => k = V) w k) ⟨V, 1, none⟩ (.int .i64 ((s.at_ : Int) + 1 + m)) rfl
        have hbl := blk_set (blk_ch H.out.blk (ch_drewN No w k) id) 1 (.int .i64 ((s.at_ : Int) + 1 + m))
        go_wp2_with fail
        go_ret
        refine ⟨rfl, rrd_set H.out _ _ rfl HF.out hcc ?_, hcc⟩
        have e9 : ((s.at_ + 1 + m : Nat) : Int) = (s.at_ : Int) + 1 + m := by omega
        rw [HE0_.out] at hbl
        simp only [e9]
        exact hbl
  · have g8 : ((m : Int) == 8) = false := by simp; omega
    clear hm8
    go_enter Try.func47, Try.ntmps47
    go_wp2_with fail
    go_quiet (fail)
    go_wp2_with fail
    go_quiet (fail)
    go_wp2_with fail
    go_quiet (fail)
    go_wp2_with fail
    go_quiet (fail)
    go_wp2_with fail
    go_quiet (fail)
    go_wp2_with fail
    go_loopw [8, 9] (fun v i wr => ∃ k j : Nat, wr = w.drewN k ∧ j ≤ m ∧ i = .int .i64 j ∧ v = .int .i64 ((valB (xs.take j) : Nat) : Int)) (fun _ i _ => m - (intOf i).toNat)
    case atStart => exact ⟨_, 0, drewN4 _ _ _ _ _, Nat.zero_le _, rfl, rfl⟩
    case round =>
      obtain ⟨k, j, rfl, hj, rfl, rfl⟩ := hrel
      by_cases hlt2 : j < m
      · have HSTEP := Lib.hid (valB_step xs j (by rw [HXL.out]; exact hlt2) (by rw [HXL.out]; omega)).1
        have hle := valB_take_le xs (j + 1)
        rw [HSTEP.out, ← HU.out] at hle
        have hcj := H.out.rd.cells (s.at_ + 1 + j) _ (u8s_get s.b (s.at_ + 1 + j) (by omega))
        obtain ⟨b', off', e', hcj⟩ := hcj
        cases e'
        rw [← hxj xs s.b s.at_ m j HXS.out hlt2] at hcj
        have hx256 : (xs[j]?.getD 0).toNat < 256 := UInt8.toNat_lt _
        generalize (xs[j]?.getD 0).toNat = x at hcj HSTEP hle hx256
        generalize valB (xs.take j) = W at HSTEP hle
        have hle2 := HV_.out
        have hp1 : IntKind.i64.wrap (256 * (W : Int)) = 256 * (W : Int) := by rw [IntKind.wrap_i64]; omega
        have hp2 : IntKind.i64.wrap (256 * (W : Int) + x) = 256 * (W : Int) + x := by rw [IntKind.wrap_i64]; omega
        have hp3 : IntKind.i64.wrap ((s.at_ : Int) + 1 + j) = (s.at_ : Int) + 1 + j := by rw [IntKind.wrap_i64]; omega
        have hi0 : (0 : Int) ≤ (s.at_ : Int) + 1 + j := by omega
        have hi1 : (s.at_ : Int) + 1 + j < (n : Int) := by omega
        have hi2 : (j : Int) < (m : Int) := by omega
        clear hle hle2
        go_wp2_with fail
        go_quiet (fail)
        go_wp2
        go_roundw
        case rel => exact ⟨_, j + 1, rfl, by omega, by go_num, by rw [HSTEP.out]; go_num⟩
        case measure => simp [intOf]; omega
      · obtain rfl : m = j := by omega
        rw [List.take_of_length_le (by rw [HXL.out]; exact Nat.le_refl _), ← HU.out]
        clear hlt2 hj
        have hcc := ch_set (ch_drewN (fun k => k = V) w k) ⟨V, 1, none⟩ (.int .i64 ((s.at_ : Int) + 1 + m)) rfl
        have hbl := blk_set (blk_ch H.out.blk (ch_drewN No w k) id) 1 (.int .i64 ((s.at_ : Int) + 1 + m))
        go_wp2_with fail
        go_ret
        refine ⟨rfl, rrd_set H.out _ _ rfl HF.out hcc ?_, hcc⟩
        have e9 : ((s.at_ + 1 + m : Nat) : Int) = (s.at_ : Int) + 1 + m := by omega
        rw [HE0_.out] at hbl
        simp only [e9]
        exact hbl
end Go.Proofs.Ytncahekankbalaa
end
section
namespace Go.Proofs.Ytncahekankbalaa
open Go.RowKit
set_option linter.unusedVariables false
set_option linter.unusedSimpArgs false

set_option maxRecDepth 100000 in
set_option maxHeartbeats 4000000 in
theorem rn_zlow {w : World} {V : Nat} {b off : Nat} {n c : Nat} {s : Rdr} (h : RRd w V (some ⟨b, off, none⟩) n c s) (lo hi : Int) (he0 : s.e = 0) (hm : (s.b[s.at_]?.getD 0).toNat = 0) (hsh : s.at_ + 1 ≤ s.b.length) (hv2 : (0 : Int) < lo) (hF : Fit ⟨s.b, s.at_, 5, s.at_⟩) :
    Calls Try.prog 47 #[.pointer (some ⟨V, 0, none⟩), .int .i64 lo, .int .i64 hi] w (RRNumQ w V (some ⟨b, off, none⟩) n c (0, ⟨s.b, s.at_, 5, s.at_⟩)) := by
  have HV2_ := Lib.hid hv2
  clear hv2
  have c0 : w.cell? ⟨V, 0, none⟩ = some (.slice (some ⟨b, off, none⟩) n c) := blk_cell h.blk 0 _ rfl
  have c1 : w.cell? ⟨V, 1, none⟩ = some (.int .i64 s.at_) := blk_cell h.blk 1 _ rfl
  have c2 : w.cell? ⟨V, 2, none⟩ = some (.int .i64 s.e) := blk_cell h.blk 2 _ rfl
  have c3 : w.cell? ⟨V, 3, none⟩ = some (.int .i64 s.p) := blk_cell h.blk 3 _ rfl
  have f1 : w.frozen? ⟨V, 1, none⟩ = false := blk_thawed h.blk 1
  have hl := rrd_len h
  have h2 := h.fit.big
  rw [hl] at h2
  have H := Lib.hid h
  rw [hl] at hsh
  have hlt : s.at_ < n := by omega
  have hI0 : (0 : Int) ≤ (s.at_ : Int) := by omega
  have hI1 : (s.at_ : Int) < (n : Int) := by omega
  have hge : ¬ ((n : Int) ≤ (s.at_ : Int)) := by omega
  have g1 : (s.e != 0) = false := by simpa using he0
  have hcell := (h.rd.cells s.at_ _ (u8s_get s.b s.at_ (by omega)))
  obtain ⟨b', off', e', hcell⟩ := hcell
  cases e'
  rw [hm] at hcell
  have hcell : w.cell? ⟨b, off + s.at_, none⟩ = some (.int .u8 0) := hcell
  have hw1 : IntKind.i64.wrap ((n : Int) - s.at_) = (n : Int) - s.at_ := by rw [IntKind.wrap_i64]; omega
  have hw2 : IntKind.i64.wrap ((n : Int) - s.at_ - 1) = (n : Int) - s.at_ - 1 := by rw [IntKind.wrap_i64]; omega
  have hsh' : ¬ ((n : Int) - s.at_ - 1 < 0) := by omega
  have g3 : decide ((n : Int) - s.at_ - 1 < 0) = false := decide_eq_false hsh'
  have hw3 : IntKind.i64.wrap ((s.at_ : Int) + 1) = (s.at_ : Int) + 1 := by rw [IntKind.wrap_i64]; omega
  have HE0_ := Lib.hid he0
  clear he0 hm
  have g6 : decide ((0 : Int) < lo) = true := decide_eq_true HV2_.out
  have HF := Lib.hid hF
  clear hF h
  go_enter Try.func47, Try.ntmps47
  go_wp2_with fail
  go_quiet (fail)
  go_wp2_with fail
  go_quiet (fail)
  go_wp2_with fail
  go_quiet (fail)
  go_wp2_with fail
  go_quiet (fail)
  go_wp2_with fail
  go_quiet (fail)
  go_wp2_with fail
  go_loopw [8, 9] (fun v i wr => ∃ k : Nat, wr = w.drewN k ∧ i = .int .i64 0 ∧ v = .int .i64 0) (fun _ _ _ => 0)
  case atStart => exact ⟨_, drewN4 _ _ _ _ _, rfl, rfl⟩
  case round =>
    obtain ⟨k, rfl, rfl, rfl⟩ := hrel
    go_wp2_with fail
    refine (fail_any (rrd_ch H.out (ch_drewN No _ _) id (fun _ _ _ => id)) HE0_.out 5 s.at_ HF.out).mono ?_
    rintro e w2 hQ
    obtain ⟨he, hQ2⟩ := rrnumq_of (ch_drewN _ _ _) hQ
    cases he
    go_wp2
    go_ret
    exact ⟨rfl, hQ2⟩
set_option maxRecDepth 100000 in
set_option maxHeartbeats 4000000 in
theorem rn_zhigh {w : World} {V : Nat} {b off : Nat} {n c : Nat} {s : Rdr} (h : RRd w V (some ⟨b, off, none⟩) n c s) (lo hi : Int) (he0 : s.e = 0) (hm : (s.b[s.at_]?.getD 0).toNat = 0) (hsh : s.at_ + 1 ≤ s.b.length) (hv2 : ¬ (0 : Int) < lo) (hv3 : hi < (0 : Int)) (hF : Fit ⟨s.b, s.at_, 5, s.at_⟩) :
    Calls Try.prog 47 #[.pointer (some ⟨V, 0, none⟩), .int .i64 lo, .int .i64 hi] w (RRNumQ w V (some ⟨b, off, none⟩) n c (0, ⟨s.b, s.at_, 5, s.at_⟩)) := by
  have HV3_ := Lib.hid hv3
  clear hv3
  have HV2_ := Lib.hid hv2
  clear hv2
  have c0 : w.cell? ⟨V, 0, none⟩ = some (.slice (some ⟨b, off, none⟩) n c) := blk_cell h.blk 0 _ rfl
  have c1 : w.cell? ⟨V, 1, none⟩ = some (.int .i64 s.at_) := blk_cell h.blk 1 _ rfl
  have c2 : w.cell? ⟨V, 2, none⟩ = some (.int .i64 s.e) := blk_cell h.blk 2 _ rfl
  have c3 : w.cell? ⟨V, 3, none⟩ = some (.int .i64 s.p) := blk_cell h.blk 3 _ rfl
  have f1 : w.frozen? ⟨V, 1, none⟩ = false := blk_thawed h.blk 1
  have hl := rrd_len h
  have h2 := h.fit.big
  rw [hl] at h2
  have H := Lib.hid h
  rw [hl] at hsh
  have hlt : s.at_ < n := by omega
  have hI0 : (0 : Int) ≤ (s.at_ : Int) := by omega
  have hI1 : (s.at_ : Int) < (n : Int) := by omega
  have hge : ¬ ((n : Int) ≤ (s.at_ : Int)) := by omega
  have g1 : (s.e != 0) = false := by simpa using he0
  have hcell := (h.rd.cells s.at_ _ (u8s_get s.b s.at_ (by omega)))
  obtain ⟨b', off', e', hcell⟩ := hcell
  cases e'
  rw [hm] at hcell
  have hcell : w.cell? ⟨b, off + s.at_, none⟩ = some (.int .u8 0) := hcell
  have hw1 : IntKind.i64.wrap ((n : Int) - s.at_) = (n : Int) - s.at_ := by rw [IntKind.wrap_i64]; omega
  have hw2 : IntKind.i64.wrap ((n : Int) - s.at_ - 1) = (n : Int) - s.at_ - 1 := by rw [IntKind.wrap_i64]; omega
  have hsh' : ¬ ((n : Int) - s.at_ - 1 < 0) := by omega
  have g3 : decide ((n : Int) - s.at_ - 1 < 0) = false := decide_eq_false hsh'
  have hw3 : IntKind.i64.wrap ((s.at_ : Int) + 1) = (s.at_ : Int) + 1 := by rw [IntKind.wrap_i64]; omega
  have HE0_ := Lib.hid he0
  clear he0 hm
  have g6 : decide ((0 : Int) < lo) = false := decide_eq_false HV2_.out
  have g7 : decide (hi < (0 : Int)) = true := decide_eq_true HV3_.out
  have HF := Lib.hid hF
  clear hF h
  go_enter Try.func47, Try.ntmps47
  go_wp2_with fail
  go_quiet (fail)
  go_wp2_with fail
  go_quiet (fail)
  go_wp2_with fail
  go_quiet (fail)
  go_wp2_with fail
  go_quiet (fail)
  go_wp2_with fail
  go_quiet (fail)
  go_wp2_with fail
  go_loopw [8, 9] (fun v i wr => ∃ k : Nat, wr = w.drewN k ∧ i = .int .i64 0 ∧ v = .int .i64 0) (fun _ _ _ => 0)
  case atStart => exact ⟨_, drewN4 _ _ _ _ _, rfl, rfl⟩
  case round =>
    obtain ⟨k, rfl, rfl, rfl⟩ := hrel
    go_wp2_with fail
    refine (fail_any (rrd_ch H.out (ch_drewN No _ _) id (fun _ _ _ => id)) HE0_.out 5 s.at_ HF.out).mono ?_
    rintro e w2 hQ
    obtain ⟨he, hQ2⟩ := rrnumq_of (ch_drewN _ _ _) hQ
    cases he
    go_wp2
    go_ret
    exact ⟨rfl, hQ2⟩
set_option maxRecDepth 100000 in
set_option maxHeartbeats 4000000 in
theorem rn_zfine {w : World} {V : Nat} {b off : Nat} {n c : Nat} {s : Rdr} (h : RRd w V (some ⟨b, off, none⟩) n c s) (lo hi : Int) (he0 : s.e = 0) (hm : (s.b[s.at_]?.getD 0).toNat = 0) (hsh : s.at_ + 1 ≤ s.b.length) (hv2 : ¬ (0 : Int) < lo) (hv3 : ¬ hi < (0 : Int)) (hF : Fit ⟨s.b, s.at_ + 1, 0, s.p⟩) :
    Calls Try.prog 47 #[.pointer (some ⟨V, 0, none⟩), .int .i64 lo, .int .i64 hi] w (RRNumQ w V (some ⟨b, off, none⟩) n c (0, ⟨s.b, s.at_ + 1, 0, s.p⟩)) := by
  have HV3_ := Lib.hid hv3
  clear hv3
  have HV2_ := Lib.hid hv2
  clear hv2
  have c0 : w.cell? ⟨V, 0, none⟩ = some (.slice (some ⟨b, off, none⟩) n c) := blk_cell h.blk 0 _ rfl
  have c1 : w.cell? ⟨V, 1, none⟩ = some (.int .i64 s.at_) := blk_cell h.blk 1 _ rfl
  have c2 : w.cell? ⟨V, 2, none⟩ = some (.int .i64 s.e) := blk_cell h.blk 2 _ rfl
  have c3 : w.cell? ⟨V, 3, none⟩ = some (.int .i64 s.p) := blk_cell h.blk 3 _ rfl
  have f1 : w.frozen? ⟨V, 1, none⟩ = false := blk_thawed h.blk 1
  have hl := rrd_len h
  have h2 := h.fit.big
  rw [hl] at h2
  have H := Lib.hid h
  rw [hl] at hsh
  have hlt : s.at_ < n := by omega
  have hI0 : (0 : Int) ≤ (s.at_ : Int) := by omega
  have hI1 : (s.at_ : Int) < (n : Int) := by omega
  have hge : ¬ ((n : Int) ≤ (s.at_ : Int)) := by omega
  have g1 : (s.e != 0) = false := by simpa using he0
  have hcell := (h.rd.cells s.at_ _ (u8s_get s.b s.at_ (by omega)))
  obtain ⟨b', off', e', hcell⟩ := hcell
  cases e'
  rw [hm] at hcell
  have hcell : w.cell? ⟨b, off + s.at_, none⟩ = some (.int .u8 0) := hcell
  have hw1 : IntKind.i64.wrap ((n : Int) - s.at_) = (n : Int) - s.at_ := by rw [IntKind.wrap_i64]; omega
  have hw2 : IntKind.i64.wrap ((n : Int) - s.at_ - 1) = (n : Int) - s.at_ - 1 := by rw [IntKind.wrap_i64]; omega
  have hsh' : ¬ ((n : Int) - s.at_ - 1 < 0) := by omega
  have g3 : decide ((n : Int) - s.at_ - 1 < 0) = false := decide_eq_false hsh'
  have hw3 : IntKind.i64.wrap ((s.at_ : Int) + 1) = (s.at_ : Int) + 1 := by rw [IntKind.wrap_i64]; omega
  have HE0_ := Lib.hid he0
  clear he0 hm
  have g6 : decide ((0 : Int) < lo) = false := decide_eq_false HV2_.out
  have g7 : decide (hi < (0 : Int)) = false := decide_eq_false HV3_.out
  have HF := Lib.hid hF
  clear hF h
  go_enter Try.func47, Try.ntmps47
  go_wp2_with fail
  go_quiet (fail)
  go_wp2_with fail
  go_quiet (fail)
  go_wp2_with fail
  go_quiet (fail)
  go_wp2_with fail
  go_quiet (fail)
  go_wp2_with fail
  go_quiet (fail)
  go_wp2_with fail
  go_loopw [8, 9] (fun v i wr => ∃ k : Nat, wr = w.drewN k ∧ i = .int .i64 0 ∧ v = .int .i64 0) (fun _ _ _ => 0)
  case atStart => exact ⟨_, drewN4 _ _ _ _ _, rfl, rfl⟩
  case round =>
    obtain ⟨k, rfl, rfl, rfl⟩ := hrel
    have hcc := ch_set (ch_drewN (fun k => k = V) w k) ⟨V, 1, none⟩ (.int .i64 ((s.at_ : Int) + 1)) rfl
    have hbl := blk_set (blk_ch H.out.blk (ch_drewN No w k) id) 1 (.int .i64 ((s.at_ : Int) + 1))
    go_wp2_with fail
    go_ret
    refine ⟨rfl, rrd_set H.out _ _ rfl HF.out hcc ?_, hcc⟩
    have e9 : ((s.at_ + 1 : Nat) : Int) = (s.at_ : Int) + 1 := by omega
    rw [HE0_.out] at hbl
    simp only [e9]
    exact hbl
theorem rn_any {w : World} {V : Nat} {A : Option Addr} {n c : Nat} {s : Rdr} (h : RRd w V A n c s) (lo hi : Int) : Calls Try.prog 47 #[.pointer (some ⟨V, 0, none⟩), .int .i64 lo, .int .i64 hi] w (RRNumQ w V A n c (rnum s lo hi)) := by
  obtain ⟨r, hr⟩ : ∃ r, r = rnum s lo hi := ⟨_, rfl⟩
  have hf := rnum_fit s lo hi h.fit
  rw [← hr] at hf ⊢
  unfold rnum at hr
  by_cases k1 : s.e ≠ 0
  · rw [if_pos k1] at hr
    subst hr
    exact rn_err h lo hi k1
  have he0 : s.e = 0 := Decidable.not_not.1 k1
  rw [if_neg k1] at hr
  by_cases k2 : s.b.length ≤ s.at_
  · rw [if_pos k2] at hr
    subst hr
    exact rn_end h lo hi he0 k2 hf
  rw [if_neg k2] at hr
  have hl := rrd_len h
  obtain ⟨b, off, rfl, hcell⟩ := h.rd.cells s.at_ _ (u8s_get s.b s.at_ (by omega))
  obtain ⟨m, hm⟩ : ∃ m, m = (s.b[s.at_]?.getD 0).toNat := ⟨_, rfl⟩
  obtain ⟨xs, hxs⟩ : ∃ xs, xs = (s.b.drop (s.at_ + 1)).take m := ⟨_, rfl⟩
  obtain ⟨U, hU⟩ : ∃ U, U = valB xs := ⟨_, rfl⟩
  rw [← hm] at hr
  rw [← hxs, ← hU] at hr
  by_cases k3 : 8 < m
  · rw [if_pos k3] at hr
    subst hr
    exact rn_many h lo hi he0 m hm k3 (by omega) hf
  rw [if_neg k3] at hr
  by_cases k4 : s.b.length < s.at_ + 1 + m
  · rw [if_pos k4] at hr
    subst hr
    exact rn_short h lo hi he0 m hm (by omega) (by omega) k4 hf
  rw [if_neg k4] at hr
  by_cases hm0 : m = 0
  · subst hm0
    have hx0 : xs = [] := by rw [hxs]; rfl
    rw [hx0] at hU
    have hU0 : U = 0 := hU
    subst hU0
    rw [if_neg (by omega)] at hr
    by_cases h2 : (0 : Int) < lo
    · rw [if_pos (by omega)] at hr
      subst hr
      exact rn_zlow h lo hi he0 hm.symm (by omega) h2 hf
    · by_cases h3 : hi < (0 : Int)
      · rw [if_pos (by omega)] at hr
        subst hr
        exact rn_zhigh h lo hi he0 hm.symm (by omega) h2 h3 hf
      · rw [if_neg (by omega)] at hr
        rw [he0] at hr
        subst hr
        exact rn_zfine h lo hi he0 hm.symm (by omega) h2 h3 hf
  · have hmp : 0 < m := by omega
    have hxl : xs.length = m := by rw [hxs, List.length_take, List.length_drop]; omega
    have hx0 : (xs[0]?.getD 0).toNat = (s.b[s.at_ + 1]?.getD 0).toNat := by rw [hxj xs s.b s.at_ m 0 hxs hmp]
    by_cases hy : s.b[s.at_ + 1]?.getD 0 = 0
    · rw [if_pos ⟨hmp, hy⟩] at hr
      subst hr
      exact rn_nought h lo hi he0 m hm (by omega) (by omega) xs hxs U hU hmp hy hf
    · rw [if_neg (fun e => hy e.2)] at hr
      by_cases h1 : 4611686018427387903 < U
      · rw [if_pos (.inl h1)] at hr
        have hm8 : m = 8 := by
          rcases Nat.lt_or_ge m 8 with h | h
          · have := small7 xs (by omega); omega
          · omega
        have hk := (top_iff xs (by omega)).1 (by rw [← hU]; exact h1)
        rw [hx0] at hk
        subst hr
        exact rn_top h lo hi he0 m hm (by omega) hm8 (by omega) xs hxs U hU hy hk hf
      · have hk : m = 8 → (s.b[s.at_ + 1]?.getD 0).toNat ≤ 63 := fun e => by
          rcases Nat.lt_or_ge 63 ((s.b[s.at_ + 1]?.getD 0).toNat) with h | h
          · rw [← hx0] at h
            have := (top_iff xs (by omega)).2 h
            omega
          · exact h
        by_cases h2 : (U : Int) < lo
        · rw [if_pos (.inr (.inl h2))] at hr
          subst hr
          exact rn_low h lo hi he0 m hm (by omega) (by omega) xs hxs U hU hmp hy hk (by omega) h2 hf
        · by_cases h3 : hi < (U : Int)
          · rw [if_pos (.inr (.inr h3))] at hr
            subst hr
            exact rn_high h lo hi he0 m hm (by omega) (by omega) xs hxs U hU hmp hy hk (by omega) h2 h3 hf
          · rw [if_neg (by rintro (e | e | e); exact h1 e; exact h2 e; exact h3 e)] at hr
            rw [he0] at hr
            subst hr
            exact rn_fine h lo hi he0 m hm (by omega) (by omega) xs hxs U hU hmp hy hk (by omega) h2 h3 hf
end Go.Proofs.Ytncahekankbalaa
end
section
namespace Go.Proofs.Ytncahekankbalaa
open Go.RowKit
set_option linter.unusedVariables false
set_option linter.unusedSimpArgs false

def RRRawQ (w : World) (V : Nat) (A : Option Addr) (n c : Nat) (r : List UInt8 × Rdr) (e : Ending) (w' : World) : Prop := ∃ A' n' c', e = .returned (.slice A' n' c') ∧ Rd w' A' n' c' 1 (u8s r.1) ∧ (∀ a, A' = some a → w.heap.size ≤ a.block) ∧ RRd w' V A n c r.2 ∧ Ch (fun k => k = V) w w'
set_option maxRecDepth 100000 in
set_option maxHeartbeats 4000000 in
theorem rrraw_any {w : World} {V : Nat} {A : Option Addr} {n c : Nat} {s : Rdr} (h : RRd w V A n c s) (hn9 : n ≤ 1000000000) (m : Int) : Calls Try.prog 48 #[.pointer (some ⟨V, 0, none⟩), .int .i64 m] w (RRRawQ w V A n c (rraw s m)) := by
  have c1 : w.cell? ⟨V, 1, none⟩ = some (.int .i64 s.at_) := blk_cell h.blk 1 _ rfl
  have H := Lib.hid h
  have hqb := rnum_b s 0 4611686018427387903
  have hqr := rnum_range s 0 4611686018427387903
  have hqf := rnum_fit s 0 4611686018427387903 h.fit
  have hl := rrd_len h
  have hfit := rraw_fit s m h.fit
  have hraw : rraw s m = rrawB s.at_ m (rnum s 0 4611686018427387903) := by
    unfold rraw
    by_cases he : s.e ≠ 0
    · rw [if_pos he]
      have : rnum s 0 4611686018427387903 = (0, s) := by unfold rnum; rw [if_pos he]
      rw [this]; unfold rrawB; simp [he]
    · rw [if_neg he]
  rw [hraw] at hfit ⊢
  have hfrom := h.fit.le
  have hpl := h.fit.pl
  generalize hq : rnum s 0 4611686018427387903 = q at *
  obtain ⟨v, t⟩ := q
  simp only at hqb hqr hqf
  obtain ⟨U, rfl⟩ : ∃ U : Nat, v = U := ⟨v.toNat, by omega⟩
  have HQ := Lib.hid hq
  have hlt : t.b.length = n := by rw [hqb]; exact hl
  rw [hl] at hfrom
  have hfin := hqf.le
  rw [hlt] at hfin
  have HT := Lib.hid hqb
  clear h hq hqb hraw
  obtain ⟨r, hrr⟩ : ∃ r, r = rrawB s.at_ m ((U : Int), t) := ⟨_, rfl⟩
  rw [← hrr] at hfit ⊢
  have HF := Lib.hid hfit
  unfold rrawB at hrr
  simp only at hrr
  have HQF := Lib.hid hqf
  clear hfit hqf hpl
  by_cases he1 : t.e ≠ 0
  · rw [if_pos he1] at hrr
    have HRR := Lib.hid hrr
    have g2 : (t.e != 0) = true := by simpa using he1
    have g3 : (t.e == 0) = false := by simpa using he1
    clear hrr
    go_enter Try.func48, Try.ntmps48
    go_wp2_with fail
    refine (rn_any H.out 0 4611686018427387903).mono ?_
    rw [HQ.out]
    rintro e w2 ⟨rfl, hb2, hch2⟩
    have d0 : w2.cell? ⟨V, 0, none⟩ = some (.slice A n c) := blk_cell hb2.blk 0 _ rfl
    have d1 : w2.cell? ⟨V, 1, none⟩ = some (.int .i64 t.at_) := blk_cell hb2.blk 1 _ rfl
    have d2 : w2.cell? ⟨V, 2, none⟩ = some (.int .i64 t.e) := blk_cell hb2.blk 2 _ rfl
    have d3 : w2.cell? ⟨V, 3, none⟩ = some (.int .i64 t.p) := blk_cell hb2.blk 3 _ rfl
    have f1 : w2.frozen? ⟨V, 1, none⟩ = false := blk_thawed hb2.blk 1
    have HB2 := Lib.hid hb2; have HC2 := Lib.hid hch2
    clear hb2 hch2
    go_wp2_with fail
    go_quiet (fail)
    go_wp2_with fail
    go_ret
    have hrr := HRR.out
    subst hrr
    have hcc := ch_set (ch_drewN (fun k => k = V) w2 nq) ⟨V, 1, none⟩ (.int .i64 s.at_) rfl
    exact ⟨none, 0, 0, rfl, nil_rd _ _, (fun a ha => by cases ha), rrd_set HB2.out _ _ rfl HF.out hcc (blk_set (blk_ch HB2.out.blk (ch_drewN No w2 nq) id) 1 (.int .i64 s.at_)), HC2.out.trans hcc (fun i hi => .inl hi)⟩
  rw [if_neg he1] at hrr
  have he10 : t.e = 0 := Decidable.not_not.1 he1
  have g2 : (t.e != 0) = false := by simpa using he10
  have g3 : (t.e == 0) = true := by simpa using he10
  have HE := Lib.hid he10
  clear he1 he10
  by_cases hm : m < (U : Int)
  · rw [if_pos hm] at hrr
    have HRR := Lib.hid hrr
    have g4 : decide (m < (U : Int)) = true := decide_eq_true hm
    have hff : Fit ⟨t.b, t.at_, 3, s.at_⟩ := ⟨HQF.out.le, HQF.out.big, by rw [hlt]; simp; omega⟩
    have HFF := Lib.hid hff
    clear hrr hff
    go_enter Try.func48, Try.ntmps48
    go_wp2_with fail
    refine (rn_any H.out 0 4611686018427387903).mono ?_
    rw [HQ.out]
    rintro e w2 ⟨rfl, hb2, hch2⟩
    have d0 : w2.cell? ⟨V, 0, none⟩ = some (.slice A n c) := blk_cell hb2.blk 0 _ rfl
    have d1 : w2.cell? ⟨V, 1, none⟩ = some (.int .i64 t.at_) := blk_cell hb2.blk 1 _ rfl
    have d2 : w2.cell? ⟨V, 2, none⟩ = some (.int .i64 t.e) := blk_cell hb2.blk 2 _ rfl
    have d3 : w2.cell? ⟨V, 3, none⟩ = some (.int .i64 t.p) := blk_cell hb2.blk 3 _ rfl
    have f1 : w2.frozen? ⟨V, 1, none⟩ = false := blk_thawed hb2.blk 1
    have HB2 := Lib.hid hb2; have HC2 := Lib.hid hch2
    clear hb2 hch2
    go_wp2_with fail
    refine (fail_any HB2.out HE.out 3 s.at_ HFF.out).mono ?_
    rintro e w3 ⟨he3, hb3, hch3⟩
    cases he3
    have k0 : w3.cell? ⟨V, 0, none⟩ = some (.slice A n c) := blk_cell hb3.blk 0 _ rfl
    have k1 : w3.cell? ⟨V, 1, none⟩ = some (.int .i64 t.at_) := blk_cell hb3.blk 1 _ rfl
    have k2 : w3.cell? ⟨V, 2, none⟩ = some (.int .i64 3) := blk_cell hb3.blk 2 _ rfl
    have k3 : w3.frozen? ⟨V, 1, none⟩ = false := blk_thawed hb3.blk 1
    have HB3 := Lib.hid hb3; have HC3 := Lib.hid hch3
    clear hb3 hch3
    go_wp2_with fail
    go_quiet (fail)
    go_wp2_with fail
    go_ret
    have hrr := HRR.out
    subst hrr
    have hcc := ch_set (ch_drewN (fun k => k = V) w3 nq) ⟨V, 1, none⟩ (.int .i64 s.at_) rfl
    exact ⟨none, 0, 0, rfl, nil_rd _ _, (fun a ha => by cases ha), rrd_set HB3.out _ _ rfl HF.out hcc (blk_set (blk_ch HB3.out.blk (ch_drewN No w3 nq) id) 1 (.int .i64 s.at_)), (HC2.out.trans HC3.out (fun i hi => .inl hi)).trans hcc (fun i hi => .inl hi)⟩
  rw [if_neg hm] at hrr
  have g4 : decide (m < (U : Int)) = false := decide_eq_false hm
  have HMU := Lib.hid hm
  clear hm
  have hw1 : IntKind.i64.wrap ((n : Int) - t.at_) = (n : Int) - t.at_ := by rw [IntKind.wrap_i64]; omega
  by_cases hsh : (t.b.length : Int) < t.at_ + U
  · rw [if_pos hsh] at hrr
    rw [hlt] at hrr hsh
    have hsh' : (n : Int) - t.at_ < (U : Int) := by omega
    have g5 : decide ((n : Int) - t.at_ < (U : Int)) = true := decide_eq_true hsh'
    have hff : Fit ⟨t.b, t.at_, 4, n⟩ := ⟨HQF.out.le, HQF.out.big, by rw [hlt]; simp⟩
    have HFF := Lib.hid hff
    have HRR := Lib.hid hrr
    clear hrr hsh hff
    go_enter Try.func48, Try.ntmps48
    go_wp2_with fail
    refine (rn_any H.out 0 4611686018427387903).mono ?_
    rw [HQ.out]
    rintro e w2 ⟨rfl, hb2, hch2⟩
    have d0 : w2.cell? ⟨V, 0, none⟩ = some (.slice A n c) := blk_cell hb2.blk 0 _ rfl
    have d1 : w2.cell? ⟨V, 1, none⟩ = some (.int .i64 t.at_) := blk_cell hb2.blk 1 _ rfl
    have d2 : w2.cell? ⟨V, 2, none⟩ = some (.int .i64 t.e) := blk_cell hb2.blk 2 _ rfl
    have d3 : w2.cell? ⟨V, 3, none⟩ = some (.int .i64 t.p) := blk_cell hb2.blk 3 _ rfl
    have f1 : w2.frozen? ⟨V, 1, none⟩ = false := blk_thawed hb2.blk 1
    have HB2 := Lib.hid hb2; have HC2 := Lib.hid hch2
    clear hb2 hch2
    go_wp2_with fail
    go_quiet (fail)
    go_wp2_with fail
    refine (fail_any (rrd_ch HB2.out (ch_drewN No _ _) id (fun _ _ _ => id)) HE.out 4 n HFF.out).mono ?_
    rintro e w3 ⟨he3, hb3, hch3⟩
    cases he3
    have k0 : w3.cell? ⟨V, 0, none⟩ = some (.slice A n c) := blk_cell hb3.blk 0 _ rfl
    have k1 : w3.cell? ⟨V, 1, none⟩ = some (.int .i64 t.at_) := blk_cell hb3.blk 1 _ rfl
    have k2 : w3.cell? ⟨V, 2, none⟩ = some (.int .i64 4) := blk_cell hb3.blk 2 _ rfl
    have k3 : w3.frozen? ⟨V, 1, none⟩ = false := blk_thawed hb3.blk 1
    have HB3 := Lib.hid hb3; have HC3 := Lib.hid hch3
    clear hb3 hch3
    go_wp2_with fail
    go_ret
    have hrr := HRR.out
    subst hrr
    have hcc := ch_set (Ch.refl (fun k => k = V) w3) ⟨V, 1, none⟩ (.int .i64 s.at_) rfl
    exact ⟨none, 0, 0, rfl, nil_rd _ _, (fun a ha => by cases ha), rrd_set HB3.out _ _ rfl HF.out hcc (blk_set HB3.out.blk 1 (.int .i64 s.at_)), ((HC2.out.trans (ch_drewN No _ _) (fun _ h => False.elim h)).trans HC3.out (fun i hi => .inl hi)).trans hcc (fun i hi => .inl hi)⟩
  rw [if_neg hsh] at hrr
  rw [hlt] at hsh
  have hsh' : ¬ ((n : Int) - t.at_ < (U : Int)) := by omega
  have g5 : decide ((n : Int) - t.at_ < (U : Int)) = false := decide_eq_false hsh'
  have HRR := Lib.hid hrr
  have hb1 : IntKind.i64.wrap ((t.at_ : Int) + U) = (t.at_ : Int) + U := by rw [IntKind.wrap_i64]; omega
  have hb2' : IntKind.i64.wrap ((t.at_ : Int) + U - U) = (t.at_ : Int) := by rw [IntKind.wrap_i64]; omega
  have hlV : t.at_ + U ≤ n := by omega
  clear hrr hsh hsh'
  obtain ⟨lo, hlo⟩ : ∃ lo, lo = t.at_ := ⟨_, rfl⟩
  rw [← hlo] at hb1 hb2' g5 hw1 hfin hlV
  have HLO := Lib.hid hlo
  clear hlo
  have hcap := H.out.rd.cap
  cases hA : A with
  | none =>
    subst hA
    have HN := Lib.hid (show n = 0 ∧ c = 0 from ⟨(H.out.rd.nils rfl).1, (H.out.rd.nils rfl).2.1⟩)
    have hs9 : (n : Int) ≤ c := by omega
    go_enter Try.func48, Try.ntmps48
    go_wp2_with fail
    refine (rn_any H.out 0 4611686018427387903).mono ?_
    rw [HQ.out]
    rintro e w2 ⟨rfl, hb2, hch2⟩
    have d0 : w2.cell? ⟨V, 0, none⟩ = some (.slice none n c) := blk_cell hb2.blk 0 _ rfl
    have d1 : w2.cell? ⟨V, 1, none⟩ = some (.int .i64 lo) := by rw [HLO.out]; exact blk_cell hb2.blk 1 _ rfl
    have d2 : w2.cell? ⟨V, 2, none⟩ = some (.int .i64 t.e) := blk_cell hb2.blk 2 _ rfl
    have d3 : w2.cell? ⟨V, 3, none⟩ = some (.int .i64 t.p) := blk_cell hb2.blk 3 _ rfl
    have f1 : w2.frozen? ⟨V, 1, none⟩ = false := blk_thawed hb2.blk 1
    have hcut : Rd w2 none U (c - lo) 1 (u8s ((t.b.drop lo).take U)) := by
      have hV0 : U = 0 := by have := HN.out; omega
      have hc0 : c - lo = 0 := by have := HN.out; omega
      rw [hV0, hc0]; exact ⟨by simp, Nat.le_refl _, by omega, fun _ => rfl, fun j u hu => by simp [u8s] at hu⟩
    have hfar : ∀ x, (none : Option Addr) = some x → 0 < U → ¬ x.block = V := fun x hx _ => by cases hx
    have hbk := fun k => blk_set (blk_ch hb2.blk (ch_drewN No w2 k) id) 1 (.int .i64 ((lo : Int) + U))
    have hcutk := fun k => hcut.ch0 (ch_set (ch_drewN (fun k => k = V) w2 k) ⟨V, 1, none⟩ (.int .i64 ((lo : Int) + U)) rfl) hfar
    have hD := fun k => ch_set (ch_drewN (fun k => k = V) w2 k) ⟨V, 1, none⟩ (.int .i64 ((lo : Int) + U)) rfl
    have HBK := Lib.hid hbk; have HCUT := Lib.hid hcutk; have HD := Lib.hid hD
    have hVlt := rrd_lt hb2
    have HB2 := Lib.hid hb2; have HC2 := Lib.hid hch2
    clear hb2 hch2
    clear hcut hcutk hbk hfar hD
    have hs1 : (0 : Int) ≤ (lo : Int) := by omega
    have hs2 : (lo : Int) ≤ (lo : Int) + U := by omega
    have hs3 : (lo : Int) + U ≤ (c : Int) := by omega
    have hs4 : (0 : Int) ≤ (lo : Int) + U := by omega
    have hs5 : IntKind.i64.wrap (lo : Int) = (lo : Int) := by rw [IntKind.wrap_i64]; omega
    have hs6 : max ((lo : Int) + U) 0 = (lo : Int) + U := by omega
    have hs7 : ((lo : Int) + U).toNat = lo + U := by omega
    go_wp2_with fail
    go_quiet (fail)
    go_wp2_with fail
    have hBK := HBK.out nq; have hCUT := HCUT.out nq; have hDD := HD.out nq
    have hVlt5 : V < ((w2.drewN nq).setCell ⟨V, 1, none⟩ (.int .i64 ((lo : Int) + U))).heap.size := by simp; omega
    have hz5 : w2.heap.size = ((w2.drewN nq).setCell ⟨V, 1, none⟩ (.int .i64 ((lo : Int) + U))).heap.size := by simp
    obtain ⟨w5, hw5⟩ : ∃ x, x = (w2.drewN nq).setCell ⟨V, 1, none⟩ (.int .i64 ((lo : Int) + U)) := ⟨_, rfl⟩
    rw [← hw5] at hBK hCUT hDD hz5 hVlt5 ⊢
    clear hw5
    have hBK6 := blk_ch (blk_ch hBK (Ch.drew w5 No) id) (Ch.alloc w5.drew (.cells #[] 5) No) id
    have e0 := blk_cell hBK 0 _ rfl
    have e1 := blk_cell hBK 1 _ rfl
    have k0 := blk_cell hBK6 0 _ rfl
    have k1 := blk_cell hBK6 1 _ rfl
    have HB5 := Lib.hid hBK; have HC5 := Lib.hid hCUT; have HD5 := Lib.hid hDD; have HB6 := Lib.hid hBK6
    clear hBK hBK6 hCUT hDD
    go_region_held3 (fun W => W.cell? ⟨V, 0, none⟩ = some (.slice none n c) ∧ W.cell? ⟨V, 1, none⟩ = some (.int .i64 ((lo : Int) + U)))
      (first | exact ⟨e0, e1⟩ | exact ⟨k0, k1⟩ | exact ⟨x0, x1⟩)
      (first | (refine step_app_b _ rfl (.tmp 73) (.tmp 88) 22 rfl 5 Try.underlying22 info5 w5.heap.size 0 0 [] (by simp [Act.eval, Act.put]) (byt_none w5.drew 5) rfl none U (c - lo) ((t.b.drop lo).take U) (by simp [Act.eval, Act.put]) ((HC5.out.ch (Ch.drew _ No) (fun _ _ => id)).ch (Ch.alloc _ _ No) (fun _ _ => id)) (by omega) ?_; intro g1 c1' w6 hb6 hat6 hch6; have hbk7 := blk_ch HB6.out hch6 (Nat.ne_of_lt hVlt5); have x0 := blk_cell hbk7 0 _ rfl; have x1 := blk_cell hbk7 1 _ rfl))
    all_goals
      go_wp2
      go_ret
      have hr1 : r = ((t.b.drop lo).take U, ⟨t.b, lo + U, t.e, t.p⟩) := by rw [HRR.out, HLO.out]; simp
      subst hr1
      have hge : w5.heap.size ≤ g1 := by
        rcases hat6 with ⟨h, _⟩ | ⟨h, _⟩
        · omega
        · rw [h]; simp
      have hc56 : Ch No w5 w6 := ((Ch.drew w5 No).trans (Ch.alloc _ _ No) (fun _ h => h.elim)).trans hch6 (fun i hi => .inr (by omega))
      have hlen : ((t.b.drop lo).take U).length = U := by rw [List.length_take, List.length_drop, hlt]; omega
      have hcc : Ch (fun k => k = V) w2 w6 := HD5.out.trans hc56 (fun _ h => False.elim h)
      have hsz := HC2.out.size
      refine ⟨some ⟨g1, 0, none⟩, U, c1', rfl, byt_rd (by simpa using hb6) hlen, (fun a ha => by cases ha; simp; omega), rrd_set HB2.out _ _ rfl HF.out hcc ?_, HC2.out.trans hcc (fun i hi => .inl hi)⟩
      have e9 : ((lo + U : Nat) : Int) = (lo : Int) + U := by omega
      simp only [e9]
      exact blk_ch HB5.out hc56 id
  | some a =>
    subst hA
    by_cases hca : c = lo
    · obtain rfl : lo = c := hca.symm
      have HV0 := Lib.hid (show U = 0 by omega)
      go_enter Try.func48, Try.ntmps48
      go_wp2_with fail
      refine (rn_any H.out 0 4611686018427387903).mono ?_
      rw [HQ.out]
      rintro e w2 ⟨rfl, hb2, hch2⟩
      have d0 : w2.cell? ⟨V, 0, none⟩ = some (.slice (some a) n lo) := blk_cell hb2.blk 0 _ rfl
      have d1 : w2.cell? ⟨V, 1, none⟩ = some (.int .i64 lo) := by rw [HLO.out]; exact blk_cell hb2.blk 1 _ rfl
      have d2 : w2.cell? ⟨V, 2, none⟩ = some (.int .i64 t.e) := blk_cell hb2.blk 2 _ rfl
      have d3 : w2.cell? ⟨V, 3, none⟩ = some (.int .i64 t.p) := blk_cell hb2.blk 3 _ rfl
      have f1 : w2.frozen? ⟨V, 1, none⟩ = false := blk_thawed hb2.blk 1
      have hcut : Rd w2 (some a) U 0 1 (u8s ((t.b.drop lo).take U)) := by
        have hV0 : U = 0 := HV0.out
        rw [hV0]; exact ⟨by simp, Nat.le_refl _, by omega, (fun e => by cases e), fun j u hu => by simp [u8s] at hu⟩
      have hfar : ∀ x, some a = some x → 0 < U → ¬ x.block = V := fun x hx h0 => hb2.far x hx (by omega)
      have hbk := fun k => blk_set (blk_ch hb2.blk (ch_drewN No w2 k) id) 1 (.int .i64 ((lo : Int) + U))
      have hcutk := fun k => hcut.ch0 (ch_set (ch_drewN (fun k => k = V) w2 k) ⟨V, 1, none⟩ (.int .i64 ((lo : Int) + U)) rfl) hfar
      have hD := fun k => ch_set (ch_drewN (fun k => k = V) w2 k) ⟨V, 1, none⟩ (.int .i64 ((lo : Int) + U)) rfl
      have HBK := Lib.hid hbk; have HCUT := Lib.hid hcutk; have HD := Lib.hid hD
      have hVlt := rrd_lt hb2
      have HB2 := Lib.hid hb2; have HC2 := Lib.hid hch2
      clear hb2 hch2
      clear hcut hcutk hbk hfar hD
      have hs1 : (0 : Int) ≤ (lo : Int) := by omega
      have hs2 : (lo : Int) ≤ (lo : Int) + U := by omega
      have hs3 : (lo : Int) + U ≤ (lo : Int) := by omega
      have hs4 : (0 : Int) ≤ (lo : Int) + U := by omega
      have hs5 : IntKind.i64.wrap (lo : Int) = (lo : Int) := by rw [IntKind.wrap_i64]; omega
      have hs6 : max ((lo : Int) + U) 0 = (lo : Int) + U := by omega
      have hs7 : ((lo : Int) + U).toNat = lo + U := by omega
      go_wp2_with fail
      go_quiet (fail)
      go_wp2_with fail
      have hBK := HBK.out nq; have hCUT := HCUT.out nq; have hDD := HD.out nq
      have hVlt5 : V < ((w2.drewN nq).setCell ⟨V, 1, none⟩ (.int .i64 ((lo : Int) + U))).heap.size := by simp; omega
      have hz5 : w2.heap.size = ((w2.drewN nq).setCell ⟨V, 1, none⟩ (.int .i64 ((lo : Int) + U))).heap.size := by simp
      obtain ⟨w5, hw5⟩ : ∃ x, x = (w2.drewN nq).setCell ⟨V, 1, none⟩ (.int .i64 ((lo : Int) + U)) := ⟨_, rfl⟩
      rw [← hw5] at hBK hCUT hDD hz5 hVlt5 ⊢
      clear hw5
      have hBK6 := blk_ch (blk_ch hBK (Ch.drew w5 No) id) (Ch.alloc w5.drew (.cells #[] 5) No) id
      have e0 := blk_cell hBK 0 _ rfl
      have e1 := blk_cell hBK 1 _ rfl
      have k0 := blk_cell hBK6 0 _ rfl
      have k1 := blk_cell hBK6 1 _ rfl
      have HB5 := Lib.hid hBK; have HC5 := Lib.hid hCUT; have HD5 := Lib.hid hDD; have HB6 := Lib.hid hBK6
      clear hBK hBK6 hCUT hDD
      go_region_held3 (fun W => W.cell? ⟨V, 0, none⟩ = some (.slice (some a) n lo) ∧ W.cell? ⟨V, 1, none⟩ = some (.int .i64 ((lo : Int) + U)))
        (first | exact ⟨e0, e1⟩ | exact ⟨k0, k1⟩ | exact ⟨x0, x1⟩)
        (first | (refine step_app_b _ rfl (.tmp 73) (.tmp 88) 22 rfl 5 Try.underlying22 info5 w5.heap.size 0 0 [] (by simp [Act.eval, Act.put]) (byt_none w5.drew 5) rfl (some a) U (0) ((t.b.drop lo).take U) (by simp [Act.eval, Act.put]) ((HC5.out.ch (Ch.drew _ No) (fun _ _ => id)).ch (Ch.alloc _ _ No) (fun _ _ => id)) (by omega) ?_; intro g1 c1' w6 hb6 hat6 hch6; have hbk7 := blk_ch HB6.out hch6 (Nat.ne_of_lt hVlt5); have x0 := blk_cell hbk7 0 _ rfl; have x1 := blk_cell hbk7 1 _ rfl))
      all_goals
        go_wp2
        go_ret
        have hr1 : r = ((t.b.drop lo).take U, ⟨t.b, lo + U, t.e, t.p⟩) := by rw [HRR.out, HLO.out]; simp
        subst hr1
        have hge : w5.heap.size ≤ g1 := by
          rcases hat6 with ⟨h, _⟩ | ⟨h, _⟩
          · omega
          · rw [h]; simp
        have hc56 : Ch No w5 w6 := ((Ch.drew w5 No).trans (Ch.alloc _ _ No) (fun _ h => h.elim)).trans hch6 (fun i hi => .inr (by omega))
        have hlen : ((t.b.drop lo).take U).length = U := by rw [List.length_take, List.length_drop, hlt]; omega
        have hcc : Ch (fun k => k = V) w2 w6 := HD5.out.trans hc56 (fun _ h => False.elim h)
        have hsz := HC2.out.size
        refine ⟨some ⟨g1, 0, none⟩, U, c1', rfl, byt_rd (by simpa using hb6) hlen, (fun a ha => by cases ha; simp; omega), rrd_set HB2.out _ _ rfl HF.out hcc ?_, HC2.out.trans hcc (fun i hi => .inl hi)⟩
        have e9 : ((lo + U : Nat) : Int) = (lo : Int) + U := by omega
        simp only [e9]
        exact blk_ch HB5.out hc56 id
    · go_enter Try.func48, Try.ntmps48
      go_wp2_with fail
      refine (rn_any H.out 0 4611686018427387903).mono ?_
      rw [HQ.out]
      rintro e w2 ⟨rfl, hb2, hch2⟩
      have d0 : w2.cell? ⟨V, 0, none⟩ = some (.slice (some a) n c) := blk_cell hb2.blk 0 _ rfl
      have d1 : w2.cell? ⟨V, 1, none⟩ = some (.int .i64 lo) := by rw [HLO.out]; exact blk_cell hb2.blk 1 _ rfl
      have d2 : w2.cell? ⟨V, 2, none⟩ = some (.int .i64 t.e) := blk_cell hb2.blk 2 _ rfl
      have d3 : w2.cell? ⟨V, 3, none⟩ = some (.int .i64 t.p) := blk_cell hb2.blk 3 _ rfl
      have f1 : w2.frozen? ⟨V, 1, none⟩ = false := blk_thawed hb2.blk 1
      have hcut : Rd w2 (some (a.add lo)) U (c - lo) 1 (u8s ((t.b.drop lo).take U)) := by
        have := hb2.rd.cut lo U hlV _ rfl
        simpa [u8s_take, u8s_drop] using this
      have hfar : ∀ x, some (a.add lo) = some x → 0 < U → ¬ x.block = V := fun x hx h0 e => by cases hx; exact hb2.far a rfl (by omega) ((by unfold Addr.add; split <;> rfl : (a.add lo).block = a.block) ▸ e)
      have hbk := fun k => blk_set (blk_ch hb2.blk (ch_drewN No w2 k) id) 1 (.int .i64 ((lo : Int) + U))
      have hcutk := fun k => hcut.ch0 (ch_set (ch_drewN (fun k => k = V) w2 k) ⟨V, 1, none⟩ (.int .i64 ((lo : Int) + U)) rfl) hfar
      have hD := fun k => ch_set (ch_drewN (fun k => k = V) w2 k) ⟨V, 1, none⟩ (.int .i64 ((lo : Int) + U)) rfl
      have HBK := Lib.hid hbk; have HCUT := Lib.hid hcutk; have HD := Lib.hid hD
      have hVlt := rrd_lt hb2
      have HB2 := Lib.hid hb2; have HC2 := Lib.hid hch2
      clear hb2 hch2
      clear hcut hcutk hbk hfar hD
      have hs1 : (0 : Int) ≤ (lo : Int) := by omega
      have hs2 : (lo : Int) ≤ (lo : Int) + U := by omega
      have hs3 : (lo : Int) + U ≤ (c : Int) := by omega
      have hs4 : (0 : Int) ≤ (lo : Int) + U := by omega
      have hs5 : IntKind.i64.wrap (lo : Int) = (lo : Int) := by rw [IntKind.wrap_i64]; omega
      have hs6 : max ((lo : Int) + U) 0 = (lo : Int) + U := by omega
      have hs7 : ((lo : Int) + U).toNat = lo + U := by omega
      go_wp2_with fail
      go_quiet (fail)
      go_wp2_with fail
      have hBK := HBK.out nq; have hCUT := HCUT.out nq; have hDD := HD.out nq
      have hVlt5 : V < ((w2.drewN nq).setCell ⟨V, 1, none⟩ (.int .i64 ((lo : Int) + U))).heap.size := by simp; omega
      have hz5 : w2.heap.size = ((w2.drewN nq).setCell ⟨V, 1, none⟩ (.int .i64 ((lo : Int) + U))).heap.size := by simp
      obtain ⟨w5, hw5⟩ : ∃ x, x = (w2.drewN nq).setCell ⟨V, 1, none⟩ (.int .i64 ((lo : Int) + U)) := ⟨_, rfl⟩
      rw [← hw5] at hBK hCUT hDD hz5 hVlt5 ⊢
      clear hw5
      have hBK6 := blk_ch (blk_ch hBK (Ch.drew w5 No) id) (Ch.alloc w5.drew (.cells #[] 5) No) id
      have e0 := blk_cell hBK 0 _ rfl
      have e1 := blk_cell hBK 1 _ rfl
      have k0 := blk_cell hBK6 0 _ rfl
      have k1 := blk_cell hBK6 1 _ rfl
      have HB5 := Lib.hid hBK; have HC5 := Lib.hid hCUT; have HD5 := Lib.hid hDD; have HB6 := Lib.hid hBK6
      clear hBK hBK6 hCUT hDD
      go_region_held3 (fun W => W.cell? ⟨V, 0, none⟩ = some (.slice (some a) n c) ∧ W.cell? ⟨V, 1, none⟩ = some (.int .i64 ((lo : Int) + U)))
        (first | exact ⟨e0, e1⟩ | exact ⟨k0, k1⟩ | exact ⟨x0, x1⟩)
        (first | (refine step_app_b _ rfl (.tmp 73) (.tmp 88) 22 rfl 5 Try.underlying22 info5 w5.heap.size 0 0 [] (by simp [Act.eval, Act.put]) (byt_none w5.drew 5) rfl (some (a.add lo)) U (c - lo) ((t.b.drop lo).take U) (by simp [Act.eval, Act.put]) ((HC5.out.ch (Ch.drew _ No) (fun _ _ => id)).ch (Ch.alloc _ _ No) (fun _ _ => id)) (by omega) ?_; intro g1 c1' w6 hb6 hat6 hch6; have hbk7 := blk_ch HB6.out hch6 (Nat.ne_of_lt hVlt5); have x0 := blk_cell hbk7 0 _ rfl; have x1 := blk_cell hbk7 1 _ rfl))
      all_goals
        go_wp2
        go_ret
        have hr1 : r = ((t.b.drop lo).take U, ⟨t.b, lo + U, t.e, t.p⟩) := by rw [HRR.out, HLO.out]; simp
        subst hr1
        have hge : w5.heap.size ≤ g1 := by
          rcases hat6 with ⟨h, _⟩ | ⟨h, _⟩
          · omega
          · rw [h]; simp
        have hc56 : Ch No w5 w6 := ((Ch.drew w5 No).trans (Ch.alloc _ _ No) (fun _ h => h.elim)).trans hch6 (fun i hi => .inr (by omega))
        have hlen : ((t.b.drop lo).take U).length = U := by rw [List.length_take, List.length_drop, hlt]; omega
        have hcc : Ch (fun k => k = V) w2 w6 := HD5.out.trans hc56 (fun _ h => False.elim h)
        have hsz := HC2.out.size
        refine ⟨some ⟨g1, 0, none⟩, U, c1', rfl, byt_rd (by simpa using hb6) hlen, (fun a ha => by cases ha; simp; omega), rrd_set HB2.out _ _ rfl HF.out hcc ?_, HC2.out.trans hcc (fun i hi => .inl hi)⟩
        have e9 : ((lo + U : Nat) : Int) = (lo : Int) + U := by omega
        simp only [e9]
        exact blk_ch HB5.out hc56 id

def RRTextQ (w : World) (V : Nat) (A : Option Addr) (n c : Nat) (r : List UInt8 × Rdr) (e : Ending) (w' : World) : Prop := e = .returned (.string ⟨r.1.toArray⟩) ∧ RRd w' V A n c r.2 ∧ Ch (fun k => k = V) w w'
end Go.Proofs.Ytncahekankbalaa
end
