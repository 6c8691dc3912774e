/- hand in all cases; words for the walk of turn. Conditions: the world is as turns make it. -/
import Derived.Test.YtadcahnoghnkcaaB31
import Derived.Test.YtadcahnoghnkcaaB32
namespace Go.Proofs.Ytadcahnoghnkcaa
open Go.RowKit
set_option linter.unusedVariables false
set_option linter.unusedSimpArgs false

/-- what the walks ask of a world, beyond where it lies -/
structure Fit (W : Wd) : Prop where
  air : W.air.length ≤ 200
  ep : ∀ i, (W.e i).ep ≠ 0
  took : ∀ i, (W.took i).length ≤ 100000
  sent : ∀ i, (W.sent i).length ≤ 100000
  pl : ∀ f ∈ W.air, f.1.l.length ≤ 400
theorem hand_none {W : Wd} {kind : Int} {k : Nat} (h : W.air[k]? = none) : W.hand kind k = W := by
  unfold Wd.hand
  rw [h]
set_option maxRecDepth 100000 in
set_option maxHeartbeats 4000000 in
theorem hand_empty {w : World} {B : Nat} {T : Nat → Nat} {M : Nat} {x : Ws} {W : Wd} (h : WdI w B T M x W) (h0 : W.air.length = 0) (u : Tu) (W' : Wd) (hW : W' = W) :
    Calls Try.prog 72 #[.pointer (some ⟨B, 0, none⟩), .agg #[.int .i64 u.k, .int .i64 u.wh, .bool u.o, .slice u.M u.m u.d]] w (StepQ w B T (M + 8) x.P W') := by
  subst hW
  have hfl : x.fs.length = 0 := by rw [← h0, ← h.airl, List.length_map]
  obtain ⟨A, c, hva, hr, _⟩ := own_form h.air.own
  have hb1 : Below w.heap.size w (w.alloc (.cells u.cells.toArray 50)) := (Below.refl _ w).alloc (Nat.le_refl _) _
  have r2 : (w.alloc (.cells #[.int .i64 u.k, .int .i64 u.wh, .bool u.o, .slice u.M u.m u.d] 50)).cell? ⟨B, 2, none⟩ = some (.slice A 0 c) := by
    refine below_cell hb1 ?_
    rw [← hfl, ← hva]
    exact (wdi_cell h).2.1
  have HF := Lib.hid (show StepQ w B T (M + 8) x.P W' (.returned (.tuple #[])) (w.alloc (.cells #[.int .i64 u.k, .int .i64 u.wh, .bool u.o, .slice u.M u.m u.d] 50)) from ⟨rfl, T, agr_refl _ _, ⟨x, rfl, (h.below hb1 (agr_refl _ _)).up (Nat.le_add_right _ _)⟩, Ch.of_below hb1 _⟩)
  clear h h0 hfl hva hr hb1
  go_enter Try.func72, Try.ntmps72
  go_wp2
  exact bodyPost_ret (results_none rfl _ _ _) rfl HF.out
theorem hand_any {w : World} {B : Nat} {T : Nat → Nat} {M : Nat} {x : Ws} {W : Wd} (h : WdI w B T M x W) (hM : M ≤ 500000) (hF : Fit W) (u : Tu) :
    Calls Try.prog 72 #[.pointer (some ⟨B, 0, none⟩), .agg #[.int .i64 u.k, .int .i64 u.wh, .bool u.o, .slice u.M u.m u.d]] w (StepQ w B T (M + 8) x.P (W.hand u.k (pick u.wh (W.air.length : Int)).toNat)) := by
  by_cases h0 : W.air.length = 0
  · exact hand_empty h h0 u _ (hand_none (List.getElem?_eq_none (by omega)))
  · have hp := pick_range u.wh (W.air.length : Int) (by omega)
    obtain ⟨k, hk⟩ : ∃ k, k = (pick u.wh (W.air.length : Int)).toNat := ⟨_, rfl⟩
    have hkl : k < W.air.length := by omega
    rw [← hk]
    obtain ⟨⟨p, d⟩, hf⟩ : ∃ f, W.air[k]? = some f := ⟨W.air[k]'hkl, by simp⟩
    have hpl : p.l.length ≤ 1000000 := Nat.le_trans (hF.pl _ (List.mem_of_getElem? hf)) (by omega)
    cases d
    · exact hand0_any h hM hF.air hF.ep hF.took u k hkl (by omega) hf hpl
    · exact hand1_any h hM hF.air hF.ep hF.took u k hkl (by omega) hf hpl
/-- between the steps of turn: the world, the box of what is asked -/
structure TS (w V : World) (B : Nat) (T Tn : Nat → Nat) (M : Nat) (P : Bool → Nat) (x : Ws) (W : Wd) (X : Nat) (tc : Array Value) : Prop where
  wd : WdI V B Tn M x W
  P : x.P = P
  ch : Ch (Held2 T) w V
  agr : Agr w.heap.size T Tn
  bx : Blk V X 50 tc
  bxt : Tn X = 0
theorem ts_two {w V V' : World} {B : Nat} {T Tn T' : Nat → Nat} {M M' : Nat} {P : Bool → Nat} {x x' : Ws} {W W' : Wd} {X : Nat} {tc : Array Value} {S : Nat → Prop} (h : TS w V B T Tn M P x W X tc) (hw : WdI V' B T' M' x' W') (hP : x'.P = x.P) (hc : Ch S V V') (hS : ∀ k, S k → 2 ≤ Tn k) (hT : Agr V.heap.size Tn T') : TS w V' B T T' M' P x' W' X tc :=
  ⟨hw, hP.trans h.P, ch_held2 h.ch h.agr hc hS, agr_trans h.agr hT h.ch.size, blk_ch h.bx hc (fun e => by have := hS _ e; rw [h.bxt] at this; omega), (hT _ (blk_lt h.bx)).trans h.bxt⟩
theorem ts_step {w V : World} {B : Nat} {T Tn : Nat → Nat} {M : Nat} {P : Bool → Nat} {x : Ws} {W : Wd} {X : Nat} {tc : Array Value} (h : TS w V B T Tn M P x W X tc) {W' : Wd} (hW : W' = W) {M' : Nat} (hM : M ≤ M') : StepQ w B T M' P W' (.returned (.tuple #[])) V := ⟨rfl, Tn, h.agr, ⟨x, h.P, hW ▸ h.wd.up hM⟩, h.ch⟩
theorem ts_end {w V V' : World} {B : Nat} {T Tn T' : Nat → Nat} {M M' : Nat} {P : Bool → Nat} {x : Ws} {W : Wd} {X : Nat} {tc : Array Value} (h : TS w V B T Tn M P x W X tc) (i : Bool) {a : Ab} (ha : SesA V' (x.P i) T' (tg i) M' a) (hM : M ≤ M') (hc : Ch (Own Tn (tg i)) V V') (hT : Agr V.heap.size Tn T') : TS w V' B T T' M' P x { W with e := bset W.e i a } X tc :=
  ts_two h (wdi_end h.wd i ha hM hc hT) rfl hc (fun k hk => by have e : Tn k = tg i := hk; rw [e]; unfold tg; split <;> omega) hT
theorem ts_hand {w V V' : World} {B : Nat} {T Tn : Nat → Nat} {M M' : Nat} {P : Bool → Nat} {x : Ws} {W W' : Wd} {X : Nat} {tc : Array Value} (h : TS w V B T Tn M P x W X tc) {e : Ending} (hq : StepQ V B Tn M' x.P W' e V') : StepQ w B T M' P W' e V' := by
  obtain ⟨he, T', hT, ⟨x', hx, hw⟩, hc⟩ := hq
  exact ⟨he, T', agr_trans h.agr hT h.ch.size, ⟨x', hx.trans h.P, hw⟩, ch_held2 h.ch h.agr hc (fun k hk => hk)⟩
/-- what an end was sent to send has grown -/
theorem ts_sent {w V V1 V2 : World} {B : Nat} {T Tn : Nat → Nat} {M : Nat} {P : Bool → Nat} {x : Ws} {W : Wd} {X : Nat} {tc : Array Value} (h : TS w V B T Tn M P x W X tc) (i : Bool) {l : List UInt8} {g n c m : Nat} {v : Value} (hb : Below V.heap.size V V1) (hg : V.heap.size ≤ g) (hh : Held V1 0 (some ⟨g, 0, none⟩) n c l) (hm : m = (x.ls i).length)
    (hown : V2.ownsRow 0 27 1 v (m + 1) ((x.ls i).map slc ++ [.slice (some ⟨g, 0, none⟩) n c])) (hc : Ch (fun k => (x.vs i).ownBlock = some k) V1 V2) (hat : v.ownBlock = (x.vs i).ownBlock ∨ ∃ q, v.ownBlock = some q ∧ V1.heap.size ≤ q) :
    ∃ T' x', TS w (V2.setCell ⟨B, 3 + ix i, none⟩ v) B T T' M P x' { W with sent := bset W.sent i (W.sent i ++ [l]) } X tc := by
  subst hm
  have hix := ix_lt i
  have hgl := (held_lt hh _ rfl).2
  have hT0 := agr_ext Tn V.heap.size (fun k => 1)
  have hT1 : Agr V1.heap.size (ext Tn V.heap.size (fun k => 1)) (ext (ext Tn V.heap.size (fun k => 1)) V1.heap.size (fun _ => 6 + ix i)) := agr_ext _ _ _
  have hR := (h.wd.sent i).keep (Ch.of_below hb No) (fun _ _ => id) hT0
  have hL := rowL_app (ks := [(l, some ⟨g, 0, none⟩, n, c)]) hR (by omega) rfl (fun p hp => by
    rw [List.mem_singleton] at hp
    subst hp
    exact ⟨hh, fun b hb => by cases hb; exact ext_new _ _ _ hg⟩) hown hc hT1 (fun k hk _ => ext_new _ _ _ hk) hat
  have hw1 := h.wd.below hb hT0
  have hrow : ∀ k, (x.vs i).ownBlock = some k → ext Tn V.heap.size (fun k => 1) k = 6 + ix i := fun k hk => (hw1.sent i).row k hk
  have hcO : Ch (Own (ext Tn V.heap.size (fun k => 1)) (6 + ix i)) V1 V2 := hc.mono (fun k _ hk => hrow k hk)
  have hw := wdi_sent hw1 i hL hcO hT1
  rw [List.map_append, h.wd.sentl] at hw
  refine ⟨_, { x with vs := bset x.vs i v, ls := bset x.ls i (x.ls i ++ [(l, some ⟨g, 0, none⟩, n, c)]) }, ts_two h hw rfl (S := fun k => Tn k = 6 + ix i ∨ k = B) ?_ (fun k hk => ?_) (agr_trans hT0 hT1 hb.size)⟩
  · refine ((Ch.of_below hb (fun k => Tn k = 6 + ix i ∨ k = B)).trans hc (fun k hk => ?_)).trans (Ch.setCell V2 ⟨B, 3 + ix i, none⟩ v) (fun k hk => .inl (.inr hk))
    have h1 := ((h.wd.sent i).own.lt k hk).2
    have h2 := (h.wd.sent i).row k hk
    exact .inl (.inl h2)
  · rcases hk with hk | hk
    · omega
    · rw [hk, h.wd.tag]; omega
/-- what is out goes into the air, one packet -/
theorem ts_air {w V V1 V2 : World} {B : Nat} {T Tn : Nat → Nat} {M : Nat} {P : Bool → Nat} {x : Ws} {W : Wd} {X : Nat} {tc : Array Value} (h : TS w V B T Tn M P x W X tc) {f : Fl} {m : Nat} {v : Value} (hc1 : Ch No V V1) (hf : Held V 0 f.2.1 f.2.2.1 f.2.2.2 f.1.1.l ∧ ∀ b, f.2.1 = some b → Tn b.block = 1) (hm : m = x.fs.length)
    (hown : V2.ownsRow 0 81 6 v (m + 1) (x.fs.flatMap flCells ++ flCells f)) (hc : Ch (fun k => x.va.ownBlock = some k) V1 V2) (hat : v.ownBlock = x.va.ownBlock ∨ ∃ q, v.ownBlock = some q ∧ V1.heap.size ≤ q) :
    ∃ T' x', Agr V.heap.size Tn T' ∧ TS w (V2.setCell ⟨B, 2, none⟩ v) B T T' M P x' { W with air := W.air ++ [f.1] } X tc := by
  subst hm
  have hz := hc1.size
  have hT : Agr V.heap.size Tn (ext Tn V.heap.size (fun _ => 5)) := agr_ext _ _ _
  have hS : ∀ k, Tn k = 1 → ¬ x.va.ownBlock = some k := fun k hk e => by have := h.wd.air.row k e; omega
  have hcc : Ch (fun k => x.va.ownBlock = some k) V V2 := (hc1.mono (fun _ _ e => e.elim)).trans hc (fun k hk => .inl hk)
  have key : ∀ p ∈ x.fs ++ [f], Held V 0 p.2.1 p.2.2.1 p.2.2.2 p.1.1.l ∧ ∀ b, p.2.1 = some b → Tn b.block = 1 := fun p hp => (List.mem_append.1 hp).elim (fun hp => ⟨h.wd.air.held p hp, h.wd.air.bod p hp⟩) (fun hp => by rw [List.mem_singleton] at hp; subst hp; exact hf)
  have hF : Flies V2 (ext Tn V.heap.size (fun _ => 5)) 5 v (x.fs ++ [f]) := by
    refine ⟨by rw [List.length_append, List.flatMap_append, show [f].flatMap flCells = flCells f from by simp]; exact hown, fun p hp => held_ch (key p hp).1 hcc (fun b hb => hS _ ((key p hp).2 b hb)), fun k hk => ?_, fun p hp b hb => (hT _ (held_lt (key p hp).1 b hb).2).trans ((key p hp).2 b hb)⟩
    rcases hat with e | ⟨q, e, hq⟩
    · have h1 := h.wd.air.own.lt k (e ▸ hk)
      exact (hT _ h1.2).trans (h.wd.air.row k (e ▸ hk))
    · rw [e] at hk
      have hk2 : q = k := Option.some.inj hk
      exact ext_new _ _ _ (by omega)
  have hw := wdi_air h.wd hF (hcc.mono (fun k _ hk => h.wd.air.row k hk)) hT
  rw [List.map_append, h.wd.airl] at hw
  refine ⟨_, { x with va := v, fs := x.fs ++ [f] }, hT, ts_two h hw rfl (S := fun k => Tn k = 5 ∨ k = B) ?_ (fun k hk => ?_) hT⟩
  · exact (hcc.mono (fun k _ hk => .inl (h.wd.air.row k hk))).trans (Ch.setCell V2 ⟨B, 2, none⟩ v) (fun k hk => .inl (.inr hk))
  · rcases hk with hk | hk
    · omega
    · rw [hk, h.wd.tag]; omega
/-- marks of what nobody holds may change -/
theorem PlI.free {w : World} {T T' : Nat → Nat} {p : Pl} {x : Qx} (h : PlI w T p x) (hT : ∀ k, 1 ≤ T k → T' k = T k) : PlI w T' p x :=
  ⟨h.o, h.t, h.held, fun b hb => (hT _ (by rw [h.tag b hb]; exact Nat.le_refl _)).trans (h.tag b hb)⟩
theorem SesA.free {w : World} {B : Nat} {T T' : Nat → Nat} {t M : Nat} {a : Ab} (h : SesA w B T t M a) (ht : 1 ≤ t) (hT : ∀ k, 1 ≤ T k → T' k = T k) : SesA w B T' t M a := by
  obtain ⟨s, ls, h⟩ := h
  exact ⟨s, ls, { h with
    tag := (hT _ (by rw [h.tag]; exact ht)).trans h.tag
    q := fun k x hx => (h.q k x hx).free hT
    row := fun k hk => ⟨(hT _ (by rw [(h.row k hk).1]; exact ht)).trans (h.row k hk).1, (h.row k hk).2⟩
    bod := fun p hp b hb => (hT _ (by rw [h.bod p hp b hb]; exact Nat.le_refl _)).trans (h.bod p hp b hb) }⟩
theorem RowL.free {w : World} {T T' : Nat → Nat} {t : Nat} {v : Value} {ls : List Lb} (h : RowL w T t v ls) (ht : 1 ≤ t) (hT : ∀ k, 1 ≤ T k → T' k = T k) : RowL w T' t v ls :=
  ⟨h.own, h.held, fun k hk => (hT _ (by rw [h.row k hk]; exact ht)).trans (h.row k hk), fun p hp b hb => (hT _ (by rw [h.bod p hp b hb]; exact Nat.le_refl _)).trans (h.bod p hp b hb)⟩
theorem Flies.free {w : World} {T T' : Nat → Nat} {t : Nat} {v : Value} {fs : List Fl} (h : Flies w T t v fs) (ht : 1 ≤ t) (hT : ∀ k, 1 ≤ T k → T' k = T k) : Flies w T' t v fs :=
  ⟨h.own, h.held, fun k hk => (hT _ (by rw [h.row k hk]; exact ht)).trans (h.row k hk), fun p hp b hb => (hT _ (by rw [h.bod p hp b hb]; exact Nat.le_refl _)).trans (h.bod p hp b hb)⟩
theorem WdI.free {w : World} {B : Nat} {T T' : Nat → Nat} {M : Nat} {x : Ws} {W : Wd} (h : WdI w B T M x W) (hT : ∀ k, 1 ≤ T k → T' k = T k) : WdI w B T' M x W :=
  { h with
    tag := (hT _ (by rw [h.tag]; omega)).trans h.tag
    ends := fun i => (h.ends i).free (by unfold tg; split <;> omega) hT
    air := h.air.free (by omega) hT
    sent := fun i => (h.sent i).free (by omega) hT
    took := fun i => (h.took i).free (by omega) hT }
theorem rd_ch0 {S : Nat → Prop} {w w' : World} {A : Option Addr} {n c : Nat} {xs : List Value} (h : Rd w A n c 1 xs) (hc : Ch S w w') (hS : ∀ a, A = some a → 0 < n → ¬ S a.block) : Rd w' A n c 1 xs := by
  rcases Nat.eq_zero_or_pos n with h0 | h0
  · refine ⟨h.len, h.cap, h.big, fun e => (h.nils e).2.1, fun j u hu => ?_⟩
    have hx : xs.length = 0 := by rw [h.len, h0, Nat.zero_mul]
    rw [List.getElem?_eq_none (by omega)] at hu
    cases hu
  · exact h.ch hc (fun a ha => hS a ha h0)
/-- what happens -/
def Wd.turn (W : Wd) (u : Tu) : Wd :=
  if u.k = 0 then W.send u.o u.l else if u.k = 1 then W.tick u.o else if u.k = 2 then W.out u.o else
  if u.k = 3 ∨ u.k = 4 ∨ u.k = 5 then W.hand u.k (pick u.wh (W.air.length : Int)).toNat else W
/-- behind Out: the packets are new, their bodies may be kept -/
theorem ts_out {w V V1 : World} {B : Nat} {T Tn T0 : Nat → Nat} {M : Nat} {P : Bool → Nat} {x : Ws} {W : Wd} {X : Nat} {tc : Array Value} (h : TS w V B T Tn M P x W X tc) (i : Bool) (hT0 : T0 = ext Tn V.heap.size (fun _ => 0)) {a : Ab} (hs : SesA V1 (x.P i) T0 (tg i) M a) (hc : Ch (fun k => k = x.P i) V V1) {v : Value} {ps : List (Pk × Option Addr × Nat × Nat)} (hp : Packs V1 V.heap.size v ps) :
    ∃ T2, TS w V1 B T T2 M P x { W with e := bset W.e i a } X tc ∧ (∀ k, V.heap.size ≤ k → T2 k < 2) ∧ ∀ p ∈ ps, ∀ b, p.2.1 = some b → T2 b.block = 1 := by
  have hA0 : Agr V.heap.size Tn T0 := by rw [hT0]; exact agr_ext _ _ _
  have h1 := ts_end h i hs (Nat.le_refl _) (hc.mono (fun k _ hk => by rw [hk]; exact (h.wd.ends i).tag)) hA0
  have hz : ∀ k, V.heap.size ≤ k → T0 k = 0 := fun k hk => by rw [hT0]; exact ext_new _ _ _ hk
  have hX := blk_lt h.bx
  have hw := h.ch.size
  refine ⟨ext T0 V.heap.size (fun k => if v.ownBlock = some k then 0 else 1), ⟨h1.wd.free (fun k hk => ?_), h1.P, h1.ch, agr_trans h1.agr (agr_ext _ _ _) hw, h1.bx, (agr_ext _ _ _ X hX).trans h1.bxt⟩, fun k hk => ?_, fun p hpp b hb => ?_⟩
  · rcases Nat.lt_or_ge k V.heap.size with h2 | h2
    · exact agr_ext _ _ _ k h2
    · rw [hz k h2] at hk; omega
  · rw [ext_new _ _ _ hk]
    split <;> omega
  · have h2 := hp.each p hpp
    rw [ext_new _ _ _ (held_lt h2.1 b hb).1, if_neg (h2.2 b hb)]
end Go.Proofs.Ytadcahnoghnkcaa
