/- Words for the walk of SessionFair: the world, further; its end. No conditions. -/
import Derived.Test.YtadcahnoghnkcaaB39
import Derived.Test.YtadcahnoghnkcaaB41
namespace Go.Proofs.Ytadcahnoghnkcaa
open Go.RowKit
set_option linter.unusedVariables false
set_option linter.unusedSimpArgs false

structure FS (w V : World) (B : Nat) (T : Nat → Nat) (M : Nat) (x : Ws) (W : Wd) : Prop where
  wd : WdI V B T M x W
  bel : Below w.heap.size w V
  low : ∀ q, q < w.heap.size → T q = 0
theorem fs_two {w V V' : World} {B : Nat} {T T' : Nat → Nat} {M M' : Nat} {x x' : Ws} {W W' : Wd} {S : Nat → Prop} (h : FS w V B T M x W) (hw : WdI V' B T' M' x' W') (hc : Ch S V V') (hS : ∀ k, S k → 2 ≤ T k) (hT : Agr V.heap.size T T') : FS w V' B T' M' x' W' :=
  ⟨hw, h.bel.trans (hc.below h.bel.size (fun k hk => by
    rcases Nat.lt_or_ge k w.heap.size with h1 | h1
    · have h2 := h.low k h1
      have h3 := hS k hk
      omega
    · exact h1)), fun q hq => (hT q (Nat.lt_of_lt_of_le hq h.bel.size)).trans (h.low q hq)⟩
theorem fs_runs {w w0 wr : World} {Bw : Nat} {T0 : Nat → Nat} {P : Bool → Nat} {W : Wd} {F : Nat → Tu} {k : Nat} (h : RunI w w0 wr Bw T0 P W F k) (hw : w.heap.size ≤ w0.heap.size) (hlow : ∀ q, q < w.heap.size → T0 q = 0) : ∃ T x, x.P = P ∧ FS w wr Bw T (1 + 8 * k) x (runs F W k) := by
  obtain ⟨T, x, hx, hA, hwd⟩ := h.ex
  exact ⟨T, x, hx, hwd, h.bel, fun q hq => (hA q (by omega)).trans (hlow q hq)⟩
/-- both ends change -/
theorem wdi_ends {w w' : World} {B : Nat} {T T' : Nat → Nat} {M M' : Nat} {x : Ws} {W : Wd} (h : WdI w B T M x W) {e' : Bool → Ab} (ha : ∀ i, SesA w' (x.P i) T' (tg i) M' (e' i)) (hc : Ch (fun k => T k = 2 ∨ T k = 3) w w') (hT : Agr w.heap.size T T') : WdI w' B T' M' x { W with e := e' } := by
  have key : ∀ k t, (4 ≤ t) → T k = t ∨ T k = 1 → ¬ (T k = 2 ∨ T k = 3) := fun k t h1 hk e => by omega
  exact ⟨blk_ch h.mem hc (key _ 4 (by omega) (.inl h.tag)), (hT _ (blk_lt h.mem)).trans h.tag, ha, h.air.keep hc (fun k hk => key k 5 (by omega) hk) hT, h.airl, fun j => (h.sent j).keep hc (fun k hk => key k (6 + ix j) (by omega) hk) hT, h.sentl, fun j => (h.took j).keep hc (fun k hk => key k (8 + ix j) (by omega) hk) hT, h.tookl⟩
def handB (e : Bool → Ab) (i : Bool) : Bool → Ab := bset (bset e i (e i).out) (!i) ((e i).outP.foldl Ab.recv (e (!i)))
theorem fs_hands {w V V' : World} {B : Nat} {T : Nat → Nat} {M : Nat} {x : Ws} {W : Wd} (h : FS w V B T M x W) (i : Bool) {e : Ending} (hq : HandsQA V (x.P i) (x.P (!i)) T (tg i) (tg (!i)) M (W.e i) (W.e (!i)) e V') : e = .returned (.tuple #[]) ∧ ∃ T', FS w V' B T' (M + 64) x { W with e := handB W.e i } := by
  obtain ⟨he, T', hT, h1, h2, hc⟩ := hq
  refine ⟨he, T', fs_two h (wdi_ends h.wd (fun j => ?_) (hc.mono (fun k _ hk => ?_)) hT) hc (fun k hk => ?_) hT⟩
  · unfold handB
    by_cases e : j = !i
    · subst e; rw [bset_at]; exact h2
    · have e2 : j = i := by cases j <;> cases i <;> simp_all
      subst e2
      rw [bset_off', bset_at]
      exact h1
  · cases i <;> simp [tg] at hk <;> omega
  · cases i <;> simp [tg] at hk <;> omega
theorem hands_call {w V : World} {B : Nat} {T : Nat → Nat} {M : Nat} {x : Ws} {W : Wd} (h : FS w V B T M x W) (i : Bool) (hep : ∀ i, (W.e i).ep ≠ 0) (hM : M ≤ 900000) : Calls Try.prog 20 #[.pointer (some ⟨x.P i, 0, none⟩), .pointer (some ⟨x.P (!i), 0, none⟩), .bool false] V fun e V' => e = .returned (.tuple #[]) ∧ ∃ T', FS w V' B T' (M + 64) x { W with e := handB W.e i } :=
  (handsA (h.wd.ends i) (h.wd.ends (!i)) (by cases i <;> decide) (by cases i <;> decide) (hep i) (hep (!i)) hM).mono fun e V' hq => fs_hands h i hq
def tickN : Nat → Ab → Ab
  | 0, a => a
  | k + 1, a => (tickN k a).tick
theorem tickN_ep (k : Nat) (a : Ab) : (tickN k a).ep = a.ep := by
  induction k with
  | zero => rfl
  | succ k ih => exact ih
theorem handB_ep (e : Bool → Ab) (i j : Bool) : (handB e i j).ep = (e j).ep := by
  unfold handB
  by_cases h : j = !i
  · subst h; rw [bset_at]; exact foldl_ep _ _
  · have e2 : j = i := by cases j <;> cases i <;> simp_all
    subst e2
    rw [bset_off', bset_at]
    rfl
/-- a tick of one end -/
theorem tick_call {w V : World} {B : Nat} {T : Nat → Nat} {M : Nat} {x : Ws} {W : Wd} (h : FS w V B T M x W) (i : Bool) (hep : (W.e i).ep ≠ 0) (hM : M ≤ 900000) : Calls Try.prog 26 #[.pointer (some ⟨x.P i, 0, none⟩)] V fun e V' => e = .returned (.tuple #[]) ∧ FS w V' B T (M + 1) x { W with e := bset W.e i (W.e i).tick } :=
  (tickA (h.wd.ends i) hep (by omega)).mono fun e V' ⟨he, hs, hc⟩ => ⟨he, fs_two h (wdi_end h.wd i hs (Nat.le_succ M) hc (agr_refl _ _)) hc (fun k hk => by have e : T k = tg i := hk; rw [e]; unfold tg; split <;> omega) (agr_refl _ _)⟩
/-- an end took what came: the world's word for it -/
theorem fs_took {w V V1 V2 : World} {B : Nat} {T : Nat → Nat} {M : Nat} {x : Ws} {W : Wd} (h : FS w V B T M x W) (i : Bool) {ks : List Lb} {v : Value} {m n : Nat} (h1 : SesA V1 (x.P i) T (tg i) M (W.e i).take) (hc1 : Ch (fun k => k = x.P i) V V1)
    (hks : ks.map (·.1) = (W.e i).inn) (hm : m = ks.length) (hn : n = (x.lt i).length) (hk : ∀ p ∈ ks, Held V1 0 p.2.1 p.2.2.1 p.2.2.2 p.1 ∧ ∀ b, p.2.1 = some b → T b.block = 1)
    (hown : V2.ownsRow 0 27 1 v (n + m) ((x.lt i).map slc ++ ks.map slc)) (hc2 : Ch (fun k => (x.vt i).ownBlock = some k) V1 V2) (hat : v.ownBlock = (x.vt i).ownBlock ∨ v.ownBlock = some V1.heap.size) :
    ∃ T' x', x'.P = x.P ∧ FS w (V2.setCell ⟨B, 5 + ix i, none⟩ v) B T' M x' { W with e := bset W.e i (W.e i).take, took := bset W.took i (W.took i ++ (W.e i).inn) } := by
  subst hn
  have htg : tg i < 4 ∧ 2 ≤ tg i := by unfold tg; split <;> omega
  have hix := ix_lt i
  have hPi : T (x.P i) = tg i := (h.wd.ends i).tag
  have hcO1 : Ch (Own T (tg i)) V V1 := hc1.mono (fun k _ hk => by rw [hk]; exact hPi)
  have hA := fs_two h (wdi_end h.wd i h1 (Nat.le_refl _) hcO1 (agr_refl _ _)) hcO1 (fun k hk => by have e : T k = tg i := hk; omega) (agr_refl _ _)
  have hT := agr_ext T V1.heap.size (fun _ => 8 + ix i)
  have hR := (h.wd.took i).keep hc1 (fun k hk e => by rw [e, hPi] at hk; omega) (agr_refl _ _)
  have hL := rowL_app hR (by omega) hm hk hown hc2 hT (fun k hk _ => ext_new _ _ _ hk) (hat.imp id (fun e => ⟨_, e, Nat.le_refl _⟩))
  have hcO : Ch (Own T (8 + ix i)) V1 V2 := hc2.mono (fun k _ hk => (h.wd.took i).row k hk)
  have hw := wdi_took hA.wd i hL hcO hT
  rw [List.map_append, h.wd.tookl, hks] at hw
  refine ⟨_, { x with vt := bset x.vt i v, lt := bset x.lt i (x.lt i ++ ks) }, rfl, fs_two hA hw (S := fun k => T k = 8 + ix i ∨ k = B) ((hcO.mono (fun k _ hk => .inl hk)).trans (Ch.setCell V2 ⟨B, 5 + ix i, none⟩ v) (fun k hk => .inl (.inr hk))) (fun k hk => ?_) hT⟩
  rcases hk with hk | hk
  · omega
  · rw [hk, h.wd.tag]; omega
/-- the two ends behind ticks, and hands, twice -/
def fairE (W : Wd) : Bool → Ab := handB (handB (handB (handB (fun i => tickN 4 (W.e i)) false) true) false) true
theorem fair_end {one other : Int} {n : Nat} {W : Wd} (h : Good (eps one other) n W) (h1 : 1 ≤ one ∧ one ≤ 1099511627776) (h2 : 1 ≤ other ∧ other ≤ 1099511627776) (hn : n ≤ 1000000) :
    (fairE W false).q = [] ∧ (fairE W true).q = [] ∧ W.took true ++ (fairE W true).inn = W.sent false ∧ W.took false ++ (fairE W false).inn = W.sent true := by
  have lane : ∀ i, Lane (tickN 4 (W.e i)) (tickN 4 (W.e (!i))) (W.sent i) (W.took (!i) ++ (tickN 4 (W.e (!i))).inn) := by
    intro i
    have hl := h.inv.lane i
    have hi : (tickN 4 (W.e (!i))).inn = [] := h.inv.inn (!i)
    rw [hi, List.append_nil]
    refine lane_dst (lane_src hl rfl rfl ?_ ?_) rfl rfl
    · show (((((W.e i).q.map tickX).map tickX).map tickX).map tickX).map (fun x : Qx => x.1) = _
      simp only [List.map_map]
      rfl
    · intro x hx
      have hx' : x ∈ ((((W.e i).q.map tickX).map tickX).map tickX).map tickX := hx
      simp only [List.map_map] at hx'
      obtain ⟨y, hy, rfl⟩ := List.mem_map.1 hx'
      refine ⟨?_, hl.n y hy⟩
      have := hl.t y hy
      obtain ⟨l, o, t⟩ := y
      cases o
      · exact this
      · show 0 ≤ t + 1 + 1 + 1 + 1
        have h9 : 0 ≤ t := this
        omega
  have due : ∀ i, ∀ x ∈ (tickN 4 (W.e i)).q, dueX x = true := by
    intro i x hx
    have hx' : x ∈ ((((W.e i).q.map tickX).map tickX).map tickX).map tickX := hx
    simp only [List.map_map] at hx'
    obtain ⟨y, hy, rfl⟩ := List.mem_map.1 hx'
    exact tick4 y ((h.inv.lane i).t y hy)
  have hP : Pair (tickN 4 (W.e false)) (tickN 4 (W.e true)) (W.sent false) (W.sent true) (W.took true) (W.took false) := by
    refine ⟨⟨lane false, lane true⟩, ?_, ?_, Nat.le_trans (h.inv.n false) hn, Nat.le_trans (h.inv.n true) hn⟩
    · rw [tickN_ep, h.inv.ep]; exact h1
    · rw [tickN_ep, h.inv.ep]; exact h2
  exact fair_law hP (due false) (due true) rfl rfl rfl rfl
end Go.Proofs.Ytadcahnoghnkcaa
