/- Words for the world of two ends: where it lies, and what a change of one part leaves. No conditions. -/
import Derived.Test.YtadcahnoghnkcaaB28
namespace Go.Proofs.Ytadcahnoghnkcaa
open Go.RowKit
set_option linter.unusedVariables false
set_option linter.unusedSimpArgs false

def tg (i : Bool) : Nat := if i then 3 else 2
def ix (i : Bool) : Nat := if i then 1 else 0
abbrev Lb := List UInt8 × Option Addr × Nat × Nat
/-- the words of the world: its two ends, its rows -/
structure Ws where
  P : Bool → Nat
  va : Value
  vs : Bool → Value
  vt : Bool → Value
  fs : List Fl
  ls : Bool → List Lb
  lt : Bool → List Lb
def Ws.cells (x : Ws) : List Value := [.pointer (some ⟨x.P false, 0, none⟩), .pointer (some ⟨x.P true, 0, none⟩), x.va, x.vs false, x.vs true, x.vt false, x.vt true]
structure WdI (w : World) (B : Nat) (T : Nat → Nat) (M : Nat) (x : Ws) (W : Wd) : Prop where
  mem : Blk w B 47 x.cells.toArray
  tag : T B = 4
  ends : ∀ i, SesA w (x.P i) T (tg i) M (W.e i)
  air : Flies w T 5 x.va x.fs
  airl : x.fs.map (·.1) = W.air
  sent : ∀ i, RowL w T (6 + ix i) (x.vs i) (x.ls i)
  sentl : ∀ i, (x.ls i).map (·.1) = W.sent i
  took : ∀ i, RowL w T (8 + ix i) (x.vt i) (x.lt i)
  tookl : ∀ i, (x.lt i).map (·.1) = W.took i
/-- marks from 1 on are what the world holds -/
theorem WdI.keep {S : Nat → Prop} {w w' : World} {B : Nat} {T T' : Nat → Nat} {M : Nat} {x : Ws} {W : Wd} (h : WdI w B T M x W) (hc : Ch S w w') (hS : ∀ k, 1 ≤ T k → ¬ S k) (hT : Agr w.heap.size T T') : WdI w' B T' M x W :=
  ⟨blk_ch h.mem hc (hS _ (by rw [h.tag]; omega)), (hT _ (blk_lt h.mem)).trans h.tag, fun i => (h.ends i).keep hc (fun k hk => hS k (by unfold tg at hk; split at hk <;> omega)) hT,
    h.air.keep hc (fun k hk => hS k (by omega)) hT, h.airl, fun i => (h.sent i).keep hc (fun k hk => hS k (by omega)) hT, h.sentl, fun i => (h.took i).keep hc (fun k hk => hS k (by omega)) hT, h.tookl⟩
theorem WdI.below {w w' : World} {B : Nat} {T T' : Nat → Nat} {M : Nat} {x : Ws} {W : Wd} (h : WdI w B T M x W) (hb : Below w.heap.size w w') (hT : Agr w.heap.size T T') : WdI w' B T' M x W := h.keep (Ch.of_below hb No) (fun _ _ => id) hT
theorem WdI.up {w : World} {B : Nat} {T : Nat → Nat} {M M' : Nat} {x : Ws} {W : Wd} (h : WdI w B T M x W) (hM : M ≤ M') : WdI w B T M' x W := { h with ends := fun i => (h.ends i).up hM }
theorem WdI.retag {w : World} {B : Nat} {T T' : Nat → Nat} {M : Nat} {x : Ws} {W : Wd} (h : WdI w B T M x W) (hT : Agr w.heap.size T T') : WdI w B T' M x W := h.keep (Ch.refl No w) (fun _ _ => id) hT
theorem wdi_cell {w : World} {B : Nat} {T : Nat → Nat} {M : Nat} {x : Ws} {W : Wd} (h : WdI w B T M x W) :
    (∀ i, w.cell? ⟨B, ix i, none⟩ = some (.pointer (some ⟨x.P i, 0, none⟩))) ∧ w.cell? ⟨B, 2, none⟩ = some x.va ∧ (∀ i, w.cell? ⟨B, 3 + ix i, none⟩ = some (x.vs i)) ∧ (∀ i, w.cell? ⟨B, 5 + ix i, none⟩ = some (x.vt i)) ∧ ∀ j, w.frozen? ⟨B, j, none⟩ = false :=
  ⟨fun i => by cases i <;> exact blk_cell h.mem _ _ rfl, blk_cell h.mem 2 _ rfl, fun i => by cases i <;> exact blk_cell h.mem _ _ rfl, fun i => by cases i <;> exact blk_cell h.mem _ _ rfl, blk_thawed h.mem⟩
theorem bset_eta {α : Type} (f : Bool → α) (i : Bool) : bset f i (f i) = f := by
  funext j
  unfold bset
  split
  · rename_i e; rw [e]
  · rfl
/-- an end changes -/
theorem wdi_end {w w' : World} {B : Nat} {T T' : Nat → Nat} {M M' : Nat} {x : Ws} {W : Wd} (h : WdI w B T M x W) (i : Bool) {a : Ab} (ha : SesA w' (x.P i) T' (tg i) M' a) (hM : M ≤ M') (hc : Ch (Own T (tg i)) w w') (hT : Agr w.heap.size T T') : WdI w' B T' M' x { W with e := bset W.e i a } := by
  have key : ∀ k t, (t ≠ tg i) → t ≠ 1 → T k = t ∨ T k = 1 → ¬ Own T (tg i) k := fun k t h1 h2 hk e => by
    have e' : T k = tg i := e
    have h3 : tg i ≠ 1 := by unfold tg; split <;> omega
    rcases hk with hk | hk
    · exact h1 (hk.symm.trans e')
    · exact h3 (e'.symm.trans hk)
  have htg : tg i < 4 := by unfold tg; split <;> omega
  refine ⟨blk_ch h.mem hc (key _ 4 (by omega) (by omega) (.inl h.tag)), (hT _ (blk_lt h.mem)).trans h.tag, fun j => ?_, h.air.keep hc (fun k hk => key k 5 (by omega) (by omega) hk) hT, h.airl, fun j => (h.sent j).keep hc (fun k hk => key k (6 + ix j) (by omega) (by omega) hk) hT, h.sentl, fun j => (h.took j).keep hc (fun k hk => key k (8 + ix j) (by omega) (by omega) hk) hT, h.tookl⟩
  by_cases e : j = i
  · subst e
    show SesA w' (x.P j) T' (tg j) M' (bset W.e j a j)
    rw [bset_at]
    exact ha
  · have hb : bset W.e i a j = W.e j := if_neg e
    show SesA w' (x.P j) T' (tg j) M' (bset W.e i a j)
    rw [hb]
    have hne : tg j ≠ tg i := by cases j <;> cases i <;> simp_all [tg]
    exact ((h.ends j).keep hc (fun k hk => key k (tg j) hne (by unfold tg; split <;> omega) hk) hT).up hM
/-- the air changes: its row, and the world's word for it -/
theorem wdi_air {w w' : World} {B : Nat} {T T' : Nat → Nat} {M : Nat} {x : Ws} {W : Wd} (h : WdI w B T M x W) {va : Value} {fs : List Fl} (ha : Flies w' T' 5 va fs) (hc : Ch (Own T 5) w w') (hT : Agr w.heap.size T T') : WdI (w'.setCell ⟨B, 2, none⟩ va) B T' M { x with va := va, fs := fs } { W with air := fs.map (·.1) } := by
  have key : ∀ k t, (t ≠ 5) → T k = t ∨ T k = 1 → ¬ Own T 5 k := fun k t h1 hk e => by
    have e' : T k = 5 := e
    omega
  have hcB : Ch (fun k => k = B) w' (w'.setCell ⟨B, 2, none⟩ va) := Ch.setCell w' ⟨B, 2, none⟩ va
  have hBT : T' B = 4 := (hT _ (blk_lt h.mem)).trans h.tag
  have keyB : ∀ k t, t ≠ 4 → T' k = t ∨ T' k = 1 → ¬ k = B := fun k t h1 hk e => by rw [e, hBT] at hk; omega
  have hm' := blk_ch h.mem hc (key _ 4 (by omega) (.inl h.tag))
  refine ⟨?_, hBT, fun j => ?_, ha.keep hcB (fun k hk => keyB k 5 (by omega) hk) (agr_refl _ _), rfl, fun j => ?_, h.sentl, fun j => ?_, h.tookl⟩
  · exact blk_set hm' 2 va
  · have h3 : tg j < 4 := by unfold tg; split <;> omega
    exact ((h.ends j).keep hc (fun k hk => key k (tg j) (by omega) hk) hT).keep hcB (fun k hk => keyB k (tg j) (by omega) hk) (agr_refl _ _)
  · exact ((h.sent j).keep hc (fun k hk => key k (6 + ix j) (by omega) hk) hT).keep hcB (fun k hk => keyB k (6 + ix j) (by omega) hk) (agr_refl _ _)
  · exact ((h.took j).keep hc (fun k hk => key k (8 + ix j) (by omega) hk) hT).keep hcB (fun k hk => keyB k (8 + ix j) (by omega) hk) (agr_refl _ _)
theorem ix_lt (i : Bool) : ix i < 2 := by unfold ix; split <;> omega
theorem ix_ne {i j : Bool} (h : j ≠ i) : ix j ≠ ix i := by cases j <;> cases i <;> simp_all [ix]
/-- what an end was sent to send grows -/
theorem wdi_sent {w w' : World} {B : Nat} {T T' : Nat → Nat} {M : Nat} {x : Ws} {W : Wd} (h : WdI w B T M x W) (i : Bool) {v : Value} {ls : List Lb} (ha : RowL w' T' (6 + ix i) v ls) (hc : Ch (Own T (6 + ix i)) w w') (hT : Agr w.heap.size T T') : WdI (w'.setCell ⟨B, 3 + ix i, none⟩ v) B T' M { x with vs := bset x.vs i v, ls := bset x.ls i ls } { W with sent := bset W.sent i (ls.map (·.1)) } := by
  have hi := ix_lt i
  have key : ∀ k t, (t ≠ 6 + ix i) → T k = t ∨ T k = 1 → ¬ Own T (6 + ix i) k := fun k t h1 hk e => by
    have e' : T k = 6 + ix i := e
    omega
  have hcB : Ch (fun k => k = B) w' (w'.setCell ⟨B, 3 + ix i, none⟩ v) := Ch.setCell w' ⟨B, 3 + ix i, none⟩ v
  have hBT : T' B = 4 := (hT _ (blk_lt h.mem)).trans h.tag
  have keyB : ∀ k t, t ≠ 4 → T' k = t ∨ T' k = 1 → ¬ k = B := fun k t h1 hk e => by rw [e, hBT] at hk; omega
  have hm' := blk_ch h.mem hc (key _ 4 (by omega) (.inl h.tag))
  refine ⟨?_, hBT, fun j => ?_, (h.air.keep hc (fun k hk => key k 5 (by omega) hk) hT).keep hcB (fun k hk => keyB k 5 (by omega) hk) (agr_refl _ _), h.airl, fun j => ?_, fun j => ?_, fun j => ?_, h.tookl⟩
  · have := blk_set hm' (3 + ix i) v
    cases i
    · exact this
    · exact this
  · have h3 : tg j < 4 := by unfold tg; split <;> omega
    exact ((h.ends j).keep hc (fun k hk => key k (tg j) (by omega) hk) hT).keep hcB (fun k hk => keyB k (tg j) (by omega) hk) (agr_refl _ _)
  · by_cases e : j = i
    · subst e
      show RowL _ T' _ (bset x.vs j v j) (bset x.ls j ls j)
      rw [bset_at, bset_at]
      exact ha.keep hcB (fun k hk => keyB k (6 + ix j) (by omega) hk) (agr_refl _ _)
    · have e1 : bset x.vs i v j = x.vs j := if_neg e
      have e2 : bset x.ls i ls j = x.ls j := if_neg e
      show RowL _ T' _ (bset x.vs i v j) (bset x.ls i ls j)
      rw [e1, e2]
      have := ix_ne e
      exact ((h.sent j).keep hc (fun k hk => key k (6 + ix j) (by omega) hk) hT).keep hcB (fun k hk => keyB k (6 + ix j) (by omega) hk) (agr_refl _ _)
  · show (bset x.ls i ls j).map (·.1) = bset W.sent i (ls.map (·.1)) j
    unfold bset
    split
    · rfl
    · exact h.sentl j
  · exact ((h.took j).keep hc (fun k hk => key k (8 + ix j) (by omega) hk) hT).keep hcB (fun k hk => keyB k (8 + ix j) (by omega) hk) (agr_refl _ _)
/-- what an end took grows -/
theorem wdi_took {w w' : World} {B : Nat} {T T' : Nat → Nat} {M : Nat} {x : Ws} {W : Wd} (h : WdI w B T M x W) (i : Bool) {v : Value} {ls : List Lb} (ha : RowL w' T' (8 + ix i) v ls) (hc : Ch (Own T (8 + ix i)) w w') (hT : Agr w.heap.size T T') : WdI (w'.setCell ⟨B, 5 + ix i, none⟩ v) B T' M { x with vt := bset x.vt i v, lt := bset x.lt i ls } { W with took := bset W.took i (ls.map (·.1)) } := by
  have hi := ix_lt i
  have key : ∀ k t, (t ≠ 8 + ix i) → T k = t ∨ T k = 1 → ¬ Own T (8 + ix i) k := fun k t h1 hk e => by
    have e' : T k = 8 + ix i := e
    omega
  have hcB : Ch (fun k => k = B) w' (w'.setCell ⟨B, 5 + ix i, none⟩ v) := Ch.setCell w' ⟨B, 5 + ix i, none⟩ v
  have hBT : T' B = 4 := (hT _ (blk_lt h.mem)).trans h.tag
  have keyB : ∀ k t, t ≠ 4 → T' k = t ∨ T' k = 1 → ¬ k = B := fun k t h1 hk e => by rw [e, hBT] at hk; omega
  have hm' := blk_ch h.mem hc (key _ 4 (by omega) (.inl h.tag))
  refine ⟨?_, hBT, fun j => ?_, (h.air.keep hc (fun k hk => key k 5 (by omega) hk) hT).keep hcB (fun k hk => keyB k 5 (by omega) hk) (agr_refl _ _), h.airl, fun j => ?_, h.sentl, fun j => ?_, fun j => ?_⟩
  · have := blk_set hm' (5 + ix i) v
    cases i
    · exact this
    · exact this
  · have h3 : tg j < 4 := by unfold tg; split <;> omega
    exact ((h.ends j).keep hc (fun k hk => key k (tg j) (by omega) hk) hT).keep hcB (fun k hk => keyB k (tg j) (by omega) hk) (agr_refl _ _)
  · have := ix_lt j
    exact ((h.sent j).keep hc (fun k hk => key k (6 + ix j) (by omega) hk) hT).keep hcB (fun k hk => keyB k (6 + ix j) (by omega) hk) (agr_refl _ _)
  · by_cases e : j = i
    · subst e
      show RowL _ T' _ (bset x.vt j v j) (bset x.lt j ls j)
      rw [bset_at, bset_at]
      exact ha.keep hcB (fun k hk => keyB k (8 + ix j) (by omega) hk) (agr_refl _ _)
    · have e1 : bset x.vt i v j = x.vt j := if_neg e
      have e2 : bset x.lt i ls j = x.lt j := if_neg e
      show RowL _ T' _ (bset x.vt i v j) (bset x.lt i ls j)
      rw [e1, e2]
      have := ix_ne e
      exact ((h.took j).keep hc (fun k hk => key k (8 + ix j) (by omega) hk) hT).keep hcB (fun k hk => keyB k (8 + ix j) (by omega) hk) (agr_refl _ _)
  · show (bset x.lt i ls j).map (·.1) = bset W.took i (ls.map (·.1)) j
    unfold bset
    split
    · rfl
    · exact h.tookl j
def WdA (w : World) (B : Nat) (T : Nat → Nat) (M : Nat) (P : Bool → Nat) (W : Wd) : Prop := ∃ x, x.P = P ∧ WdI w B T M x W
/-- what a call of the world may change -/
abbrev Held2 (T : Nat → Nat) : Nat → Prop := fun k => 2 ≤ T k
def StepQ (w : World) (B : Nat) (T : Nat → Nat) (M : Nat) (P : Bool → Nat) (W' : Wd) (e : Ending) (w' : World) : Prop :=
  e = .returned (.tuple #[]) ∧ ∃ T', Agr w.heap.size T T' ∧ WdA w' B T' M P W' ∧ Ch (Held2 T) w w'
theorem ch_held2 {S : Nat → Prop} {w0 w w' : World} {T0 T : Nat → Nat} (h : Ch (Held2 T0) w0 w) (hT : Agr w0.heap.size T0 T) (hc : Ch S w w') (hS : ∀ k, S k → 2 ≤ T k) : Ch (Held2 T0) w0 w' := by
  refine h.trans hc (fun i hi => ?_)
  rcases Nat.lt_or_ge i w0.heap.size with h1 | h1
  · exact .inl (by have := hS i hi; rw [hT i h1] at this; exact this)
  · exact .inr h1
end Go.Proofs.Ytadcahnoghnkcaa
