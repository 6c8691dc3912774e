/- A range over an iterator that has no end of its own, where the body's own invariant bounds how often it goes on. -/
import Derived.RangeFuncNested
import Derived.RangeFuncBound
import Derived.RangeFuncCalls
import Derived.RangeFuncLeaves
import Derived.RangeFuncWrites
import Derived.Shelf.Abstract
import Derived.Shelf.RegionOpen
import Derived.WalkKit
import Derived.OwnWalkIn
import Derived.TacticsInMore
import Derived.LoopNIn
import Derived.LoopIn
namespace Go.Proofs.Ytadcahnoghnkcaa
open Go Go.RowKit
set_option linter.unusedVariables false
set_option linter.unusedSimpArgs false

/-- the iterator's side: it ends, if the caller's invariant lets no more than N come -/
def SeqB {α : Type} (F : Fence) (n : Nat) (P : Program) (g : Nat) (lb : Array Value) (encs : α → Array Value) (Kp St : World → World → Prop) (N : Nat) (S Sp : List α → Prop) (w : World) : Prop :=
  ∀ (l : Nat) (J Jx : List α → World → Prop) (W : World), Below w.heap.size w W → (∀ pre W1, J pre W1 → pre.length ≤ N) → (∀ pre W1 W2, J pre W1 → St W1 W2 → J pre W2) →
    (∀ pre x W1, J pre W1 → YieldAt F (n - 1) P l (encs x) W1 fun e W' =>
      (e = .returned (.bool true) ∧ J (pre ++ [x]) W' ∧ Kp W1 W') ∨ (e = .returned (.bool false) ∧ Jx (pre ++ [x]) W')) → J [] W →
    CallsIn F n P g (#[.func (.yield l) #[] #[]] ++ lb) W fun e W' => (∃ v, e = .returned v) ∧ ((∃ pre, S pre ∧ J pre W') ∨ (∃ pre, Sp pre ∧ Jx pre W'))

variable {F : Fence} {n : Nat} {P : Program}
/-- how the loop's body is left -/
def bodyB {α : Type} (B : Nat) (Kp : World → World → Prop) (I : List α → World → Prop) (Ix : Nat → List α → World → Prop) (xs : List α) (W : World) : Exit → Act → World → Prop
  | .normal, _, W' => KeepsFrom B W W' ∧ Kp W W' ∧ I xs W'
  | .exit id, _, W' => KeepsFrom B W W' ∧ Ix id xs W'
  | _, _, _ => False

theorem wpIn_rangeB {α : Type} {g : Operand} {ps : Array Tmp} {assign body : Code} {Q : Exit → Act → World → Prop} {a : Act} {w : World}
    (hro : F.round = none) (h1 : 1 ≤ n) {gf : Nat} {lb : Array Value} (hg : a.eval g = .func (.func gf) #[] lb) (hFg : F.fn gf) (eg : ∀ args w, (callFunc gf args).run P w = .ok (.enter gf args) w)
    {encs : α → Array Value} {Kp St : World → World → Prop} {N : Nat} {S Sp : List α → Prop} (hseq : SeqB F (n - 1) P gf lb encs Kp St N S Sp w)
    (hKt : ∀ {A B C : World}, Kp A B → Kp B C → Kp A C) (hKb : ∀ (W : World) (l : Nat) (o : Obj), w.heap.size ≤ l → l < W.heap.size → Kp W (W.putObj l o)) (hSt : ∀ W W', St W W' → ∀ k, w.heap.size ≤ k → W'.heap[k]? = W.heap[k]?) (hps : ∀ x, (encs x).size = ps.size)
    (I : List α → World → Prop) (Ix : Nat → List α → World → Prop) (hI : OwnFrom w.heap.size I) (hIx : ∀ c, OwnFrom w.heap.size (Ix c)) (hN : ∀ pre W, I pre W → pre.length ≤ N) (hIS : ∀ pre W W', I pre W → St W W' → I pre W') (h0 : I [] w) (a₁ : α → Act)
    (hassign : ∀ (l : Nat) (x : α) (W : World) (K : Act → World → Prop), K (a₁ x) W →
      assign.wpIn (F.inRound l) (n - 1 - 1) P (Exit.then K (fun _ _ _ => False)) { tmps := (ps.zip (encs x)).foldl (fun t (p, v) => t.setIfInBounds p v) a.tmps, defers := [] } W)
    (hbody : ∀ (l : Nat) (pre : List α) (x : α) (W : World), I pre W → body.wpIn (F.inRound l) (n - 1 - 1) P (bodyB w.heap.size Kp I Ix (pre ++ [x]) W) (a₁ x) W)
    (hdone : ∀ (D : Nat) (xs : List α) (W : World), w.heap.size ≤ D → S xs → I xs W → W.heap[D]? = some (.deferred (some [])) → Q .normal { a with defers := { target := .collected D, args := #[] } :: a.defers } W)
    (hstop : ∀ (D c : Nat) (xs : List α) (W : World), w.heap.size ≤ D → Sp xs → Ix c xs W → W.heap[D]? = some (.deferred (some [])) → (Code.exit c).wpIn F n P Q { a with defers := { target := .collected D, args := #[] } :: a.defers } W) :
    (Code.rangeFunc g ps assign body).wpIn F n P Q a w := by
  refine wpIn_rangeFunc fun fn hfn => ?_
  rw [hro]
  obtain ⟨D, hD⟩ : ∃ D, D = w.heap.size := ⟨_, rfl⟩
  obtain ⟨rec, hrec⟩ : ∃ rec : LoopState → Option Code → Obj, rec = fun st pe => .loop { state := st, pending := pe, fn, tmps := a.tmps, params := ps, assign, body, defers := D } := ⟨_, rfl⟩
  have hrc : ∀ st pe, (rec st pe).isCells = false := fun st pe => by rw [hrec]; rfl
  obtain ⟨W1, hW1⟩ : ∃ W1, W1 = (w.alloc (.deferred (some []))).alloc (rec .ready none) := ⟨_, rfl⟩
  have hz1 : W1.heap.size = D + 2 := by rw [hW1, hD]; simp
  have hb1 : Below w.heap.size w W1 := by rw [hW1]; exact ((Below.refl _ w).alloc (Nat.le_refl _) _).alloc (by simp) _
  have hL1 : W1.heap[D + 1]? = some (rec .ready none) := by
    have := heap_alloc_new (w.alloc (.deferred (some []))) (rec .ready none)
    rw [World.size_alloc, ← hW1, ← hD] at this; exact this
  have hK1 : W1.heap[D]? = some (.deferred (some [])) := by
    rw [hW1, hD]; exact (heap_alloc_old _ _ _ (show w.heap.size < (w.alloc (.deferred (some []))).heap.size by simp)).trans (heap_alloc_new w _)
  have hI1 : I [] W1 := by rw [hW1]; exact hI.alloc _ (hI.alloc _ h0)
  refine ⟨D + 1, [{ target := .collected D, args := #[] }], W1, { target := .fn (.func gf) lb, args := #[.func (.yield (D + 1)) #[] #[]] }, W1, gf, #[.func (.yield (D + 1)) #[] #[]] ++ lb, W1, ?_, ?_, ?_, ?_, fun _ => h1, ?_⟩
  · have := run_enterLoop_outer (P := P) (w := w) fn a.tmps ps assign body
    rw [this, hW1, hrec, hD]
  · simp only [resolve, hg]
    simp [go_sem]
  · intro f' hf'
    simp [Target.leads] at hf'
    exact hf' ▸ hFg
  · simp [invoke, go_sem, eg]
  have turn : ∀ (W : World) (st : LoopState) (pe : Option Code) (o : Obj), W.heap[D + 1]? = some (rec st pe) → W.heap[D]? = some (.deferred (some [])) →
      (W.putObj (D + 1) o).heap[D + 1]? = some o ∧ (W.putObj (D + 1) o).heap[D]? = some (.deferred (some [])) ∧ Kp W (W.putObj (D + 1) o) := fun W st pe o hl hk => by
    have hlt : D + 1 < W.heap.size := (Array.getElem?_eq_some_iff.1 hl).1
    refine ⟨World.putObj_heap_same hlt, (World.putObj_heap_other (by omega)).trans hk, hKb _ _ _ (by omega) hlt⟩
  refine (hseq (D + 1) (fun pre W => I pre W ∧ W.heap[D + 1]? = some (rec .ready none) ∧ W.heap[D]? = some (.deferred (some [])))
    (fun pre W => ∃ c, Ix c pre W ∧ W.heap[D + 1]? = some (rec .done (some (.exit c))) ∧ W.heap[D]? = some (.deferred (some []))) W1 hb1 (fun pre W h => hN pre W h.1) (fun pre W1 W2 h hs => ⟨hIS _ _ _ h.1 hs, (hSt _ _ hs _ (by omega)).trans h.2.1, (hSt _ _ hs _ (by omega)).trans h.2.2⟩) ?_ ⟨hI1, hL1, hK1⟩).mono ?_
  · rintro pre x W ⟨hi, hl, hk⟩
    have hl' := hl
    rw [hrec] at hl'
    have hy := run_yield (P := P) (args := encs x) hl' (hps x)
    have hbr := run_beginRound (P := P) hl' rfl
    refine ⟨fn, _, assign, body, hy, roundIn_of_wpIn hfn (hassign _ x W _ ⟨_, hbr, ?_⟩)⟩
    obtain ⟨t1, t2, t3⟩ := turn W _ _ (rec .busy none) hl hk
    have hi2 : I pre (W.putObj (D + 1) (rec .busy none)) := hI.putObj _ hi (by omega) hl (hrc _ _)
    rw [show (Obj.loop { state := .busy, pending := none, fn, tmps := a.tmps, params := ps, assign, body, defers := D }) = rec .busy none by rw [hrec]]
    refine wpIn_mono (hbody _ pre x _ hi2) ?_
    intro e a3 W3 hp
    have fin : ∀ jump, KeepsFrom w.heap.size (W.putObj (D + 1) (rec .busy none)) W3 → W3.heap[D + 1]? = some (rec .busy none) ∧ W3.heap[D]? = some (.deferred (some [])) ∧
        (Instr.endRound (D + 1) jump).run P W3 = .ok (.bool jump.isNone) (W3.putObj (D + 1) (rec (if jump.isNone then .ready else .done) jump)) := fun jump hk3 => by
      have q1 := hk3.same (D + 1) _ (by omega) t1 (hrc _ _)
      have q2 := hk3.same D _ (by omega) t2 rfl
      refine ⟨q1, q2, ?_⟩
      rw [hrec] at q1
      have := run_endRound (P := P) jump q1
      rw [this, hrec]
    cases e with
    | normal =>
      obtain ⟨hk3, hb3, hi3⟩ := hp
      obtain ⟨q1, q2, q3⟩ := fin none hk3
      obtain ⟨u1, u2, u3⟩ := turn W3 _ _ (rec .ready none) q1 q2
      exact ⟨_, _, q3, .inl ⟨rfl, ⟨hI.putObj _ hi3 (by omega) q1 (hrc _ _), u1, u2⟩, hKt (hKt t3 hb3) u3⟩⟩
    | exit c =>
      obtain ⟨hk3, hi3⟩ := hp
      obtain ⟨q1, q2, q3⟩ := fin (some (.exit c)) hk3
      obtain ⟨u1, u2, u3⟩ := turn W3 _ _ (rec .done (some (.exit c))) q1 q2
      exact ⟨_, _, q3, .inr ⟨rfl, c, (hIx c).putObj _ hi3 (by omega) q1 (hrc _ _), u1, u2⟩⟩
    | ret => exact hp.elim
    | goto t => exact hp.elim
    | panic c => exact hp.elim
    | outgrown => exact hp.elim
  · rintro e W2 ⟨⟨v, rfl⟩, (⟨xs, hS, hi, hl, hk⟩ | ⟨xs, hS, c, hi, hl, hk⟩)⟩
    · obtain ⟨u1, u2, u3⟩ := turn W2 _ _ (rec .exhausted none) hl hk
      have hl' := hl
      rw [hrec] at hl'
      have := run_endLoop (P := P) hl' (by simp)
      refine ⟨none, _, this, ?_⟩
      rw [show (Obj.loop { state := .exhausted, pending := none, fn, tmps := a.tmps, params := ps, assign, body, defers := D }) = rec .exhausted none by rw [hrec]]
      exact hdone D xs _ (by omega) hS (hI.putObj _ hi (by omega) hl (hrc _ _)) u2
    · obtain ⟨u1, u2, u3⟩ := turn W2 _ _ (rec .exhausted (some (.exit c))) hl hk
      have hl' := hl
      rw [hrec] at hl'
      have := run_endLoop (P := P) hl' (by simp)
      refine ⟨some (.exit c), _, this, ?_⟩
      rw [show (Obj.loop { state := .exhausted, pending := some (.exit c), fn, tmps := a.tmps, params := ps, assign, body, defers := D }) = rec .exhausted (some (.exit c)) by rw [hrec]]
      exact hstop D c xs _ (by omega) hS ((hIx c).putObj _ hi (by omega) hl (hrc _ _)) u2
end Go.Proofs.Ytadcahnoghnkcaa
