/- turn in all cases; the worlds that turns make; the beginning. No conditions beyond those named. -/
import Derived.Test.YtadcahnoghnkcaaB34
import Derived.Test.YtadcahnoghnkcaaB35
import Derived.Test.YtadcahnoghnkcaaB36
import Derived.Test.YtadcahnoghnkcaaB37
import Derived.Test.YtadcahnoghnkcaaB14
namespace Go.Proofs.Ytadcahnoghnkcaa
open Go.RowKit
set_option linter.unusedVariables false
set_option linter.unusedSimpArgs false

theorem turn_any {w : World} {B : Nat} {T : Nat → Nat} {M : Nat} {x : Ws} {W : Wd} (h : WdI w B T M x W) (hM : M ≤ 400000) (hF : Fit W) (u : Tu) (hr : Rd w u.M u.m u.d 1 (u8s u.l)) (hm : u.m ≤ 400) (hT0 : ∀ b, u.M = some b → 0 < u.m → T b.block = 0 ∧ b.block < w.heap.size) :
    Calls Try.prog 25 #[.pointer (some ⟨B, 0, none⟩), .agg #[.int .i64 u.k, .int .i64 u.wh, .bool u.o, .slice u.M u.m u.d]] w (StepQ w B T (M + 8) x.P (W.turn u)) := by
  have hc : u.k = 0 ∨ u.k = 1 ∨ u.k = 2 ∨ u.k = 3 ∨ u.k = 4 ∨ u.k = 5 ∨ (u.k < 0 ∨ 5 < u.k) := by omega
  cases ho : u.o
  · rw [← ho]
    rcases hc with hk | hk | hk | hk | hk | hk | hk
    · exact turn0k0 h hM hF u ho hr hm hT0 hk
    · exact turn0k1 h hM hF u ho hr hm hT0 hk
    · exact turn0k2 h hM hF u ho hr hm hT0 hk
    · exact turn0k3 h hM hF u ho hr hm hT0 hk
    · exact turn0k4 h hM hF u ho hr hm hT0 hk
    · exact turn0k5 h hM hF u ho hr hm hT0 hk
    · exact turn0k9 h hM hF u ho hr hm hT0 hk
  · rw [← ho]
    rcases hc with hk | hk | hk | hk | hk | hk | hk
    · exact turn1k0 h hM hF u ho hr hm hT0 hk
    · exact turn1k1 h hM hF u ho hr hm hT0 hk
    · exact turn1k2 h hM hF u ho hr hm hT0 hk
    · exact turn1k3 h hM hF u ho hr hm hT0 hk
    · exact turn1k4 h hM hF u ho hr hm hT0 hk
    · exact turn1k5 h hM hF u ho hr hm hT0 hk
    · exact turn1k9 h hM hF u ho hr hm hT0 hk
/-- a world as turns make it -/
structure Good (ep : Bool → Int) (n : Nat) (W : Wd) : Prop where
  inv : Inv ep n W
  air : W.air.length ≤ 200
theorem good_turn {ep : Bool → Int} {n : Nat} {W : Wd} (h : Good ep n W) (u : Tu) : Good ep (n + 1) (W.turn u) := by
  unfold Wd.turn
  split
  · exact ⟨inv_send h.inv u.o u.l, h.air⟩
  split
  · exact ⟨inv_up (inv_tick h.inv u.o) (Nat.le_succ _), h.air⟩
  split
  · refine ⟨inv_up (inv_out h.inv u.o) (Nat.le_succ _), ?_⟩
    show (W.air ++ ((W.e u.o).outP.take (200 - W.air.length)).map (fun p => (p, !u.o))).length ≤ 200
    rw [List.length_append, List.length_map, List.length_take]
    have := h.air
    omega
  split
  · refine ⟨inv_up (inv_hand h.inv _ _) (Nat.le_succ _), ?_⟩
    unfold Wd.hand
    split
    · exact h.air
    · show (if u.k ≠ 4 then W.air.eraseIdx _ else W.air).length ≤ 200
      have := h.air
      split
      · exact Nat.le_trans (List.length_eraseIdx_le _ _) this
      · exact this
  · exact ⟨inv_up h.inv (Nat.le_succ _), h.air⟩
theorem good_fit {ep : Bool → Int} {n : Nat} {W : Wd} (h : Good ep n W) (hep : ∀ i, ep i ≠ 0) (hn : n ≤ 100000) : Fit W := by
  refine ⟨h.air, fun i => by rw [h.inv.ep]; exact hep i, fun i => ?_, fun i => Nat.le_trans (h.inv.n i) hn, fun f hf => (h.inv.air f hf).n⟩
  have h1 := inv_begins h.inv (!i)
  rw [Bool.not_not] at h1
  have h2 := congrArg List.length h1
  rw [List.length_take] at h2
  have := h.inv.n (!i)
  omega
/-- a session that has met another one -/
def abM (ep pe : Int) (ow : Bool) : Ab := ⟨ep, pe, [], 1, 0, ow, [], 1⟩
theorem sesM_A {w : World} {B : Nat} {ep pe : Int} {ow : Bool} {T : Nat → Nat} {t M : Nat} (h : SesB w B (sesM ep pe ow)) (hT : T B = t) (ht : t ≠ 1) (hM : 1 ≤ M) : SesA w B T t M (abM ep pe ow) :=
  ⟨_, [], { mem := h, tag := hT, t1 := ht, ep := rfl, pe := rfl, ba := rfl, ma := rfl, ca := rfl, ow := rfl, tu := rfl, q := (fun k x hx => by cases hx), ts := (fun j => ⟨Int.le_refl _, by show (0 : Int) ≤ _; omega⟩), inn := lists_nil _ _, inl := rfl, row := (fun k hk => by cases hk), bod := (fun p hp => by cases hp), q8 := Nat.zero_le _, qn := (fun x hx => by cases hx), baM := hM, caM := ⟨Int.le_refl _, by show (0 : Int) ≤ _; omega⟩, tuM := ⟨by show (0 : Int) ≤ 1; decide, by show (1 : Int) ≤ _; omega⟩, inM := Nat.zero_le _ }⟩
def wd0 (one other : Int) : Wd := ⟨fun i => if i then abM other one false else abM one other true, [], fun _ => [], fun _ => []⟩
def eps (one other : Int) : Bool → Int := fun i => if i then other else one
theorem good0 (one other : Int) : Good (eps one other) 0 (wd0 one other) := by
  refine ⟨⟨fun i => by cases i <;> rfl, fun i => by cases i <;> rfl, fun i => by cases i <;> rfl, fun i => ?_, (fun f hf => by cases hf), fun i => Nat.le_refl _⟩, Nat.zero_le _⟩
  cases i <;> exact ⟨rfl, Nat.le_refl _, Nat.le_refl _, rfl, (fun x hx => by cases hx), (fun x hx => by cases hx), Int.le_refl _, Int.le_refl _, Int.le_refl _, rfl⟩
/-- the marks at the beginning -/
def mark0 (Ba Bb Bw : Nat) : Nat → Nat := fun k => if k = Ba then 2 else if k = Bb then 3 else if k = Bw then 4 else 0
def ws0 (Ba Bb : Nat) : Ws := ⟨fun i => if i then Bb else Ba, .slice none 0 0, fun _ => .slice none 0 0, fun _ => .slice none 0 0, [], fun _ => [], fun _ => []⟩
theorem wdi0 {w : World} {Ba Bb Bw : Nat} {one other : Int} (ha : SesB w Ba (sesM one other true)) (hb : SesB w Bb (sesM other one false)) (hw : Blk w Bw 47 (ws0 Ba Bb).cells.toArray) (h1 : Ba ≠ Bb) (h2 : Ba ≠ Bw) (h3 : Bb ≠ Bw) : WdI w Bw (mark0 Ba Bb Bw) 1 (ws0 Ba Bb) (wd0 one other) := by
  have ta : mark0 Ba Bb Bw Ba = 2 := if_pos rfl
  have tb : mark0 Ba Bb Bw Bb = 3 := by unfold mark0; rw [if_neg (fun e => h1 e.symm), if_pos rfl]
  have tw : mark0 Ba Bb Bw Bw = 4 := by unfold mark0; rw [if_neg (fun e => h2 e.symm), if_neg (fun e => h3 e.symm), if_pos rfl]
  refine ⟨hw, tw, fun i => ?_, flies_nil _ _ _, rfl, fun i => rowL_nil _ _ _, fun i => rfl, fun i => rowL_nil _ _ _, fun i => rfl⟩
  cases i
  · exact sesM_A ha ta (by decide) (Nat.le_refl _)
  · exact sesM_A hb tb (by decide) (Nat.le_refl _)
/-- the world behind the first k turns -/
def runs (F : Nat → Tu) (W : Wd) : Nat → Wd
  | 0 => W
  | k + 1 => (runs F W k).turn (F k)
theorem good_runs {ep : Bool → Int} {W : Wd} (h : Good ep 0 W) (F : Nat → Tu) : ∀ k, Good ep k (runs F W k) := by
  intro k
  induction k with
  | zero => exact h
  | succ k ih => exact good_turn ih (F k)
/-- what a loop over turns keeps: w0 the world ahead of it -/
structure RunI (w w0 wr : World) (Bw : Nat) (T0 : Nat → Nat) (P : Bool → Nat) (W : Wd) (F : Nat → Tu) (k : Nat) : Prop where
  bel : Below w.heap.size w wr
  ex : ∃ T x, x.P = P ∧ Agr w0.heap.size T0 T ∧ WdI wr Bw T (1 + 8 * k) x (runs F W k)
theorem runI_next {w w0 wr w2 : World} {Bw : Nat} {T0 : Nat → Nat} {P : Bool → Nat} {W : Wd} {F : Nat → Tu} {k : Nat} (h : RunI w w0 wr Bw T0 P W F k) {T : Nat → Nat} {x : Ws} (hx : x.P = P) (hA : Agr w0.heap.size T0 T) (hz : w0.heap.size ≤ wr.heap.size) (hw : w.heap.size ≤ w0.heap.size) (hlow : ∀ q, q < w.heap.size → T0 q < 2) {e : Ending}
    (hq : StepQ wr Bw T (1 + 8 * k + 8) x.P (runs F W (k + 1)) e w2) : RunI w w0 w2 Bw T0 P W F (k + 1) ∧ wr.heap.size ≤ w2.heap.size := by
  obtain ⟨_, T', hT', ⟨x', hx', hw'⟩, hc⟩ := hq
  refine ⟨⟨h.bel.trans (hc.below h.bel.size (fun q hq => ?_)), T', x', hx'.trans hx, agr_trans hA hT' hz, by rw [show 1 + 8 * (k + 1) = 1 + 8 * k + 8 by omega]; exact hw'⟩, hc.size⟩
  rcases Nat.lt_or_ge q w.heap.size with h1 | h1
  · have h2 := hlow q h1
    have h3 : 2 ≤ T q := hq
    rw [hA q (by omega)] at h3
    omega
  · exact h1
end Go.Proofs.Ytadcahnoghnkcaa
