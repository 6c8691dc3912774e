/- Words for the walk of hand: what the world is between its steps. No conditions. -/
import Derived.Test.YtadcahnoghnkcaaB29
import Derived.Deep.RegionLaw
import Derived.Deep.RegionHeld3
namespace Go.Proofs.Ytadcahnoghnkcaa
open Go.RowKit
set_option linter.unusedVariables false
set_option linter.unusedSimpArgs false

section
variable {P : Program}
/-- xs[:j] of a slice -/
theorem head_run (t e : TypeId) (k : IntKind) {i : TypeInfo} (ht : P.underlying t = some (.slice e)) (hi : P.info? e = some i) (A : Option Addr) (n c j : Nat) (hj : j ≤ n) (hc : n ≤ c) (W : World) :
    (Instr.slice t (.slice A n c) none (some (.int k (j : Int))) none).run P W = .ok (.slice A j c) W := by
  have hel : P.elem t = e := by simp [Program.elem, ht]
  have hu : P.underlying t = some (.slice (P.elem t)) := by rw [hel]; exact ht
  rw [run_slice_h W t A n c hu k (j : Int) (by omega) (by omega), hel]
  cases A <;> simp [sizeOf, typeInfo, hi, sliced, Result.andThen, Addr.add]
/-- xs[j:] of a slice -/
theorem tail_run (t e : TypeId) (k : IntKind) {i : TypeInfo} (ht : P.underlying t = some (.slice e)) (hi : P.info? e = some i) (A : Option Addr) (n c j : Nat) (hj : j ≤ n) (W : World) :
    (Instr.slice t (.slice A n c) (some (.int k (j : Int))) none none).run P W = .ok (.slice (if c = j then A else A.map (·.add (j * i.size))) (n - j) (c - j)) W := by
  have hel : P.elem t = e := by simp [Program.elem, ht]
  have hu : P.underlying t = some (.slice (P.elem t)) := by rw [hel]; exact ht
  rw [run_slice_l W t A n c hu k (j : Int) (by omega) (by omega), hel]
  simp [sizeOf, typeInfo, hi, sliced, Result.andThen]
end
/-- the later part of what is read -/
theorem rd_tail {w : World} {A : Option Addr} {n c sz : Nat} {xs : List Value} (h : Rd w A n c sz xs) (j : Nat) (hj : j ≤ n) : Rd w (if c = j then A else A.map fun x => x.add (j * sz)) (n - j) (c - j) sz (xs.drop (j * sz)) := by
  have hl := h.len
  have hcap := h.cap
  split
  · rename_i e
    have hn : n - j = 0 := by omega
    refine ⟨by rw [List.length_drop, hl, hn, Nat.zero_mul]; have : n * sz ≤ j * sz := Nat.mul_le_mul_right _ (by omega); omega, by omega, by have := h.big; omega, fun _ => by omega, fun q u hu => ?_⟩
    have : (xs.drop (j * sz)).length = 0 := by rw [List.length_drop, hl]; have : n * sz ≤ j * sz := Nat.mul_le_mul_right _ (by omega); omega
    rw [List.getElem?_eq_none (by omega)] at hu
    cases hu
  · have := h.cut j (n - j) (by omega) (xs.drop (j * sz)) (by rw [List.take_of_length_le]; rw [List.length_drop, hl, Nat.sub_mul]; exact Nat.le_refl _)
    exact this
theorem rd_head {w : World} {A : Option Addr} {n c sz : Nat} {xs : List Value} (h : Rd w A n c sz xs) (j : Nat) (hj : j ≤ n) : Rd w A j c sz (xs.take (j * sz)) := by
  have hl := h.len
  have hcap := h.cap
  have hm : j * sz ≤ n * sz := Nat.mul_le_mul_right _ hj
  refine ⟨by rw [List.length_take]; omega, by omega, h.big, fun e => (h.nils e).2.1, fun q u hu => ?_⟩
  rw [List.getElem?_take] at hu
  split at hu
  · exact h.cells q u hu
  · cases hu
theorem fl_take (fs : List Fl) (k : Nat) : (fs.flatMap flCells).take (k * 6) = (fs.take k).flatMap flCells := by
  induction fs generalizing k with
  | nil => simp
  | cons p t ih =>
    cases k with
    | zero => simp
    | succ k =>
      have h1 := ih k
      simp only [List.flatMap_cons, List.take_succ_cons, ← h1]
      rw [List.take_append]
      simp only [flCells, List.length_cons, List.length_nil]
      rw [show (k + 1) * 6 - 6 = k * 6 by omega, List.take_of_length_le (by simp; omega)]
theorem fl_drop (fs : List Fl) (k : Nat) : (fs.flatMap flCells).drop (k * 6) = (fs.drop k).flatMap flCells := by
  induction fs generalizing k with
  | nil => simp
  | cons p t ih =>
    cases k with
    | zero => simp
    | succ k =>
      have h1 := ih k
      simp only [List.flatMap_cons, List.drop_succ_cons, ← h1]
      rw [List.drop_append]
      simp only [flCells, List.length_cons, List.length_nil]
      rw [show (k + 1) * 6 - 6 = k * 6 by omega, List.drop_of_length_le (by simp; omega), List.nil_append]

/-- a walk whose ends are alike goes on once -/
theorem join4 {α β γ δ : Type} {G : α → β → γ → δ → Prop} {C : Prop} (Ok : α → β → γ → δ → Prop) (h1 : (∀ a b c d, Ok a b c d → G a b c d) → C) (h2 : ∀ a b c d, Ok a b c d → G a b c d) : C := h1 h2
theorem join3 {α β γ : Type} {G : α → β → γ → Prop} {C : Prop} (Ok : α → β → γ → Prop) (h1 : (∀ a b c, Ok a b c → G a b c) → C) (h2 : ∀ a b c, Ok a b c → G a b c) : C := h1 h2
/-- between the steps: the world, the two boxes -/
structure HS (w V : World) (B : Nat) (T Tn : Nat → Nat) (M : Nat) (x : Ws) (W : Wd) (X F : Nat) (tc fc : Array Value) : Prop where
  wd : WdI V B Tn M x W
  ch : Ch (Held2 T) w V
  agr : Agr w.heap.size T Tn
  bx : Blk V X 50 tc
  bxt : Tn X = 0
  bf : Blk V F 81 fc
  bft : Tn F = 0
theorem hs_two {w V V' : World} {B : Nat} {T Tn T' : Nat → Nat} {M M' : Nat} {x x' : Ws} {W W' : Wd} {X F : Nat} {tc fc : Array Value} {S : Nat → Prop} (h : HS w V B T Tn M x W X F tc fc) (hw : WdI V' B T' M' x' W') (hc : Ch S V V') (hS : ∀ k, S k → 2 ≤ Tn k) (hT : Agr V.heap.size Tn T') : HS w V' B T T' M' x' W' X F tc fc :=
  ⟨hw, ch_held2 h.ch h.agr hc hS, agr_trans h.agr hT h.ch.size, blk_ch h.bx hc (fun e => by have := hS _ e; rw [h.bxt] at this; omega), (hT _ (blk_lt h.bx)).trans h.bxt, blk_ch h.bf hc (fun e => by have := hS _ e; rw [h.bft] at this; omega), (hT _ (blk_lt h.bf)).trans h.bft⟩
/-- the air has lost one -/
theorem hs_air {w V V' : World} {B : Nat} {T Tn : Nat → Nat} {M : Nat} {x : Ws} {W : Wd} {X F : Nat} {tc fc : Array Value} (h : HS w V B T Tn M x W X F tc fc) {k : Nat} {v : Value} {n : Nat} (hk : k < x.fs.length) (hn : n = (x.fs.take k ++ x.fs.drop (k + 1)).length)
    (hown : V'.ownsRow V.heap.size 81 6 v n ((x.fs.take k).flatMap flCells ++ (x.fs.drop (k + 1)).flatMap flCells)) (hc : Ch No V V') :
    ∃ T' x', x'.P = x.P ∧ Agr V.heap.size Tn T' ∧ HS w (V'.setCell ⟨B, 2, none⟩ v) B T T' M x' { W with air := W.air.eraseIdx k } X F tc fc := by
  subst hn
  have hT := agr_ext Tn V.heap.size (fun k => if v.ownBlock = some k then 5 else 0)
  have hmem : ∀ p ∈ x.fs.take k ++ x.fs.drop (k + 1), p ∈ x.fs := fun p hp => (List.mem_append.1 hp).elim List.mem_of_mem_take List.mem_of_mem_drop
  have hf : Flies V' (ext Tn V.heap.size (fun k => if v.ownBlock = some k then 5 else 0)) 5 v (x.fs.take k ++ x.fs.drop (k + 1)) := by
    refine ⟨own_base (by rw [List.flatMap_append]; exact hown) (Nat.zero_le _), fun p hp => held_ch (h.wd.air.held p (hmem p hp)) hc (fun _ _ => id), fun k' hk' => ?_, fun p hp b hb => ?_⟩
    · have := (hown.lt k' hk').1
      rw [ext_new _ _ _ this, if_pos hk']
    · exact (hT _ (held_lt (h.wd.air.held p (hmem p hp)) b hb).2).trans (h.wd.air.bod p (hmem p hp) b hb)
  have hw := wdi_air h.wd hf (hc.mono (fun _ _ e => e.elim)) hT
  have he : (x.fs.take k ++ x.fs.drop (k + 1)).map (·.1) = W.air.eraseIdx k := by
    rw [← h.wd.airl, List.eraseIdx_eq_take_drop_succ, List.map_append, List.map_take, List.map_drop]
  rw [he] at hw
  refine ⟨_, { x with va := v, fs := x.fs.take k ++ x.fs.drop (k + 1) }, rfl, hT, hs_two h hw (S := fun k => k = B) ((hc.mono (fun _ _ e => e.elim)).trans (Ch.setCell V' ⟨B, 2, none⟩ v) (fun i hi => .inl hi)) (fun i hi => by rw [hi, h.wd.tag]; omega) hT⟩
/-- an end has taken something in -/
theorem hs_end {w V V' : World} {B : Nat} {T Tn T' : Nat → Nat} {M M' : Nat} {x : Ws} {W : Wd} {X F : Nat} {tc fc : Array Value} (h : HS w V B T Tn M x W X F tc fc) (i : Bool) {a : Ab} (ha : SesA V' (x.P i) T' (tg i) M' a) (hM : M ≤ M') (hc : Ch (Own Tn (tg i)) V V') (hT : Agr V.heap.size Tn T') : HS w V' B T T' M' x { W with e := bset W.e i a } X F tc fc :=
  hs_two h (wdi_end h.wd i ha hM hc hT) hc (fun k hk => by have e : Tn k = tg i := hk; rw [e]; unfold tg; split <;> omega) hT
/-- an end took what came -/
theorem hs_took {w V V1 V2 : World} {B : Nat} {T Tn : Nat → Nat} {M : Nat} {x : Ws} {W : Wd} {X F : Nat} {tc fc : Array Value} (h : HS w V B T Tn M x W X F tc fc) (i : Bool) {ks : List Lb} {v : Value} {m : Nat} (h1 : SesA V1 (x.P i) Tn (tg i) M (W.e i).take) (hc1 : Ch (fun k => k = x.P i) V V1)
    (hks : ks.map (·.1) = (W.e i).inn) (hm : m = ks.length) (hk : ∀ p ∈ ks, Held V1 0 p.2.1 p.2.2.1 p.2.2.2 p.1 ∧ ∀ b, p.2.1 = some b → Tn b.block = 1)
    (hown : V2.ownsRow 0 27 1 v ((x.lt i).length + m) ((x.lt i).map slc ++ ks.map slc)) (hc2 : Ch (fun k => (x.vt i).ownBlock = some k) V1 V2) (hat : v.ownBlock = (x.vt i).ownBlock ∨ v.ownBlock = some V1.heap.size) :
    ∃ T' x', x'.P = x.P ∧ HS w (V2.setCell ⟨B, 5 + ix i, none⟩ v) B T T' M x' { W with e := bset W.e i (W.e i).take, took := bset W.took i (W.took i ++ (W.e i).inn) } X F tc fc := by
  have htg : tg i < 4 ∧ 2 ≤ tg i := by unfold tg; split <;> omega
  have hix := ix_lt i
  have hPi : Tn (x.P i) = tg i := (h.wd.ends i).tag
  have hA := hs_end h i h1 (Nat.le_refl _) (hc1.mono (fun k _ hk => by rw [hk]; exact hPi)) (agr_refl _ _)
  have hT := agr_ext Tn V1.heap.size (fun _ => 8 + ix i)
  have hR := (h.wd.took i).keep hc1 (fun k hk e => by rw [e, hPi] at hk; omega) (agr_refl _ _)
  have hL := rowL_app hR (by omega) hm hk hown hc2 hT (fun k hk _ => ext_new _ _ _ hk) (hat.imp id (fun e => ⟨_, e, Nat.le_refl _⟩))
  have hcO : Ch (Own Tn (8 + ix i)) V1 V2 := hc2.mono (fun k _ hk => (h.wd.took i).row k hk)
  have hw := wdi_took hA.wd i hL hcO hT
  rw [List.map_append, h.wd.tookl, hks] at hw
  refine ⟨_, { x with vt := bset x.vt i v, lt := bset x.lt i (x.lt i ++ ks) }, rfl, hs_two hA hw (S := fun k => Tn k = 8 + ix i ∨ k = B) ((hcO.mono (fun k _ hk => .inl hk)).trans (Ch.setCell V2 ⟨B, 5 + ix i, none⟩ v) (fun k hk => .inl (.inr hk))) (fun k hk => ?_) hT⟩
  rcases hk with hk | hk
  · omega
  · rw [hk, h.wd.tag]; omega
theorem hs_step {w V : World} {B : Nat} {T Tn : Nat → Nat} {M : Nat} {x : Ws} {W : Wd} {X F : Nat} {tc fc : Array Value} (h : HS w V B T Tn M x W X F tc fc) {P : Bool → Nat} (hP : x.P = P) : StepQ w B T M P W (.returned (.tuple #[])) V := ⟨rfl, Tn, h.agr, ⟨x, hP, h.wd⟩, h.ch⟩
theorem hs_same {w V : World} {B : Nat} {T Tn : Nat → Nat} {M M' : Nat} {x : Ws} {W : Wd} {X F : Nat} {tc fc : Array Value} (h : HS w V B T Tn M x W X F tc fc) (d : Bool) (hM : M ≤ M') : HS w V B T Tn M' x { W with e := bset W.e d (W.e d) } X F tc fc := by
  rw [bset_eta]
  exact { h with wd := h.wd.up hM }
theorem ch_cell {S : Nat → Prop} {w w' : World} (hc : Ch S w w') {a : Addr} {v : Value} (h : w.cell? a = some v) (hS : ¬ S a.block) : w'.cell? a = some v := (World.cell?_of_block (hc.block _ (World.block_lt_of_cell? w a h) hS)).trans h
theorem bset_bset {α : Type} (f : Bool → α) (i : Bool) (x y : α) : bset (bset f i x) i y = bset f i y := by
  funext j
  unfold bset
  split <;> rfl
theorem hs_recv {w V Va Vb : World} {B : Nat} {T Tn Tc T3 : Nat → Nat} {M M' : Nat} {x : Ws} {W : Wd} {X F : Nat} {tc fc : Array Value} (h : HS w V B T Tn M x W X F tc fc) (i : Bool) {a : Ab} (hTc : Agr V.heap.size Tn Tc) (hab : Ch No V Va) (hT3 : Agr Va.heap.size Tc T3) (hs : SesA Vb (x.P i) T3 (tg i) M' a) (hM : M ≤ M') (hc : Ch (Own Tc (tg i)) Va Vb) : HS w Vb B T T3 M' x { W with e := bset W.e i a } X F tc fc := by
  refine hs_end h i hs hM ((hab.mono (fun _ _ e => e.elim)).trans hc (fun k hk => ?_)) (agr_trans hTc hT3 hab.size)
  rcases Nat.lt_or_ge k V.heap.size with h1 | h1
  · exact .inl ((hTc k h1).symm.trans hk)
  · exact .inr h1
theorem wd_hand {W : Wd} {kind : Int} {k : Nat} {p : Pk} {d : Bool} (h : W.air[k]? = some (p, d)) {a : Ab} {air : List (Pk × Bool)} (ha : a = (if kind ≠ 5 then (W.e d).recv p else W.e d)) (hair : air = (if kind ≠ 4 then W.air.eraseIdx k else W.air)) :
    W.hand kind k = { e := bset W.e d a.take, air := air, sent := W.sent, took := bset W.took d (W.took d ++ a.inn) } := by
  unfold Wd.hand
  rw [h, ha, hair]
/-- the last step of hand -/
theorem hs_last {w V V1 V2 : World} {B : Nat} {T Tn : Nat → Nat} {M : Nat} {x : Ws} {W W0 : Wd} {X F : Nat} {tc fc : Array Value} {d : Bool} {a : Ab} {kind : Int} {k : Nat} (h : HS w V B T Tn M x { W with e := bset W.e d a } X F tc fc) {ks : List Lb} {v : Value} {m n : Nat} (h1 : SesA V1 (x.P d) Tn (tg d) M a.take) (hc1 : Ch (fun k => k = x.P d) V V1)
    (hks : ks.map (·.1) = a.inn) (hm : m = ks.length) (hn : n = (x.lt d).length) (hk : ∀ p ∈ ks, Held V1 0 p.2.1 p.2.2.1 p.2.2.2 p.1 ∧ ∀ b, p.2.1 = some b → Tn b.block = 1)
    (hown : V2.ownsRow 0 27 1 v (n + m) ((x.lt d).map slc ++ ks.map slc)) (hc2 : Ch (fun k => (x.vt d).ownBlock = some k) V1 V2) (hat : v.ownBlock = (x.vt d).ownBlock ∨ v.ownBlock = some V1.heap.size)
    (hW : W0.hand kind k = { e := bset W.e d a.take, air := W.air, sent := W.sent, took := bset W.took d (W.took d ++ a.inn) }) {P : Bool → Nat} (hP : x.P = P) :
    StepQ w B T M P (W0.hand kind k) (.returned (.tuple #[])) (V2.setCell ⟨B, 5 + ix d, none⟩ v) := by
  subst hn
  have e1 : bset W.e d a d = a := bset_at _ _ _
  obtain ⟨T', x', hx', hs⟩ := hs_took h d (ks := ks) (by show SesA V1 _ _ _ _ (bset W.e d a d).take; rw [e1]; exact h1) hc1 (by show _ = (bset W.e d a d).inn; rw [e1]; exact hks) hm hk hown hc2 hat
  have := hs_step hs (hx'.trans hP)
  rw [hW]
  have e2 : ({ W with e := bset (bset W.e d a) d (bset W.e d a d).take, took := bset W.took d (W.took d ++ (bset W.e d a d).inn) } : Wd) = { e := bset W.e d a.take, air := W.air, sent := W.sent, took := bset W.took d (W.took d ++ a.inn) } := by rw [e1, bset_bset]
  exact e2 ▸ this
end Go.Proofs.Ytadcahnoghnkcaa
