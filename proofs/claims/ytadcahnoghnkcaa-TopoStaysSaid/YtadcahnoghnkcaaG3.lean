/- Walk: the way up from a node, over an iterator that has no end of its own. Conditions: fewer than a million nodes. -/
import Derived.Test.YtadcahnoghnkcaaP27x0
import Derived.Test.YtadcahnoghnkcaaG0
import Derived.Scope
import Derived.Deep.LoopGhost
import Derived.Lib.Hide
import Derived.Test.YtadcahnoghnkcaaLib
namespace Go.Proofs.YtadcahnoghnkcaaX.P27
open Go.RowKit Go.Shelf Go.Proofs.Ytadcahnoghnkcaa Go.Proofs.YtadcahnoghnkcaaW.PrintWords Go.Proofs.YtadcahnoghnkcaaW.PrintLast Go.Proofs.YtadcahnoghnkcaaW.PrintMore
set_option linter.unusedVariables false
set_option linter.unusedSimpArgs false
attribute [local go_sem] Oper.semAt_some

/-- a node, and those above it, at most k -/
def chn (l : List S109) : Nat → Int → List Int
  | 0, _ => []
  | k + 1, n => if 1 ≤ n ∧ n ≤ l.length then n :: chn l k (rd_T109 l (n - 1)).f1 else []
/-- the iterator's own steps -/
def StU (B : Nat) (W W' : World) : Prop := ∃ v, W' = W.setCell ⟨B, 0, none⟩ v
/-- what a round keeps of what lay ahead -/
def KpU (n₀ Bo : Nat) (W W' : World) : Prop := ∀ k, k < n₀ → k ≠ Bo → W'.heap[k]? = W.heap[k]?
theorem there_any (A : Option Addr) (n c : Nat) (a : Int) (w : World) (hn : n < 1000000) :
    Calls Try.prog 81 #[.slice A n c, .int .i64 a] w fun e w' => e = .returned (.bool (decide (1 ≤ a ∧ a ≤ (n : Int)))) ∧ w = w' := by
  by_cases h1 : 1 ≤ a
  · by_cases h2 : a ≤ (n : Int)
    · have g1 : decide (1 ≤ a) = true := by simpa using h1
      have g2 : decide (a ≤ (n : Int)) = true := by simpa using h2
      go_enter Try.func81, Try.ntmps81
      go_wp2
      go_ret
      exact ⟨by simp [h1, h2], rfl⟩
    · have g1 : decide (1 ≤ a) = true := by simpa using h1
      have g2 : decide (a ≤ (n : Int)) = false := by simpa using h2
      go_enter Try.func81, Try.ntmps81
      go_wp2
      go_ret
      exact ⟨by simp [h1, h2], rfl⟩
  · have g1 : decide (1 ≤ a) = false := by simpa using h1
    go_enter Try.func81, Try.ntmps81
    go_wp2
    go_ret
    exact ⟨by simp [h1], rfl⟩
theorem chn_len (l : List S109) : ∀ k a, (chn l k a).length ≤ k
  | 0, _ => Nat.le_refl _
  | k + 1, a => by
    unfold chn
    split
    · simp; exact chn_len l k _
    · simp
theorem up1_seq (l0 : List S109) (A0 : Option Addr) (c0 B1 B2 n₀ Bo : Nat) (a1 : Int) (w : World) (h1 : B1 < n₀) (h2 : B2 < n₀) (h12 : B1 ≠ B2) (ho1 : B1 ≠ Bo) (ho2 : B2 ≠ Bo) (hn : l0.length < 1000000)
    (c1 : w.cell? ⟨B1, 0, none⟩ = some (.slice A0 l0.length c0)) (c2 : w.cell? ⟨B2, 0, none⟩ = some (.int .i64 a1)) (f2 : w.frozen? ⟨B2, 0, none⟩ = false) (hlt : n₀ ≤ w.heap.size)
    (hr0 : ∀ i : Nat, i < l0.length → ∃ b off, A0 = some ⟨b, off, none⟩ ∧ b < n₀ ∧ b ≠ B2 ∧ b ≠ Bo ∧ w.cell? ⟨b, off + i * 3 + 1, none⟩ = some (.int .i64 (rd_T109 l0 i).f1)) :
    SeqB Fence.wide 4 Try.prog 101 #[.pointer (some ⟨B1, 0, none⟩), .pointer (some ⟨B2, 0, none⟩)] (fun x : Int => #[.int .i64 x]) (KpU n₀ Bo) (StU B2) l0.length (fun pre => pre = chn l0 (l0.length + 1) a1) (fun pre => pre <+: chn l0 (l0.length + 1) a1) w := by
  intro l J Jx W hW hN hJS hY hJ0
  refine callsIn_of_wp Try.func101 rfl trivial ?_ rfl
  simp only [Try.ntmps101, List.size_toArray, List.length_cons, List.length_nil, Nat.reduceAdd, Nat.reduceSub, Array.replicate_succ, Array.replicate_zero, List.push_toArray, List.append_toArray, List.nil_append, List.cons_append]
  obtain ⟨Pm, hPm⟩ : ∃ Pm : Nat → World → Prop, Pm = fun m wr => ∃ (pre : List Int) (cur : Int), m + pre.length = l0.length ∧ J pre wr ∧ chn l0 (l0.length + 1) a1 = pre ++ chn l0 (l0.length + 1 - pre.length) cur ∧ wr.cell? ⟨B2, 0, none⟩ = some (.int .i64 cur) ∧ wr.frozen? ⟨B2, 0, none⟩ = false ∧ wr.cell? ⟨B1, 0, none⟩ = some (.slice A0 l0.length c0) ∧
      (∀ k, k < n₀ → k ≠ B2 → k ≠ Bo → wr.heap[k]? = w.heap[k]?) := ⟨_, rfl⟩
  have hW1 : W.cell? ⟨B1, 0, none⟩ = some (.slice A0 l0.length c0) := below_cell hW c1
  have hW2 : W.cell? ⟨B2, 0, none⟩ = some (.int .i64 a1) := below_cell hW c2
  have hW3 : W.frozen? ⟨B2, 0, none⟩ = false := below_thawed hW c2 f2
  have hst : Pm l0.length W := by
    rw [hPm]
    exact ⟨[], a1, by simp, hJ0, by simp, hW2, hW3, hW1, fun k hk _ _ => hW.block k (by omega)⟩
  have HPm := Lib.hid hPm
  have HS := Lib.hid hst
  clear hPm hst hW1 hW2 hW3 c1 c2 f2
  gi_wp2
  gi_loopw [] (fun wr => ∃ m, Hid (Pm m wr)) (fun wr => leastOf fun m => Pm m wr)
  case atStart => exact ⟨_, HS⟩
  case round =>
    obtain ⟨m0, hm0⟩ := hrel
    have hsp := leastOf_spec (p := fun m => Pm m wr) ⟨m0, hm0.out⟩
    obtain ⟨M, hM⟩ : ∃ M, M = leastOf (fun m => Pm m wr) := ⟨_, rfl⟩
    have hP := hsp.1
    have hHM := Lib.hid hM
    rw [← hM] at hP
    clear hsp hM hm0 m0
    have hP' := hP
    rw [HPm.out] at hP'
    obtain ⟨pre, cur, e1, hj, e2, d2, d3, d1, dk⟩ := hP'
    have E1 := Lib.hid e1; have E2 := Lib.hid e2; have DK := Lib.hid dk
    have hle : pre.length ≤ l0.length := hN pre wr hj
    clear e1 e2 dk hP
    by_cases hc : 1 ≤ cur ∧ cur ≤ (l0.length : Int)
    · have g1 : decide (1 ≤ cur ∧ cur ≤ (l0.length : Int)) = true := decide_eq_true hc
      obtain ⟨i, hi⟩ : ∃ i : Nat, cur = (i : Int) + 1 := ⟨(cur - 1).toNat, by omega⟩
      have hil : i < l0.length := by omega
      obtain ⟨b, off, rfl, hb1, hb2, hb3, hcell⟩ := hr0 i hil
      obtain ⟨fn, tmps, assign, body, hy, hR⟩ := hY pre cur wr hj
      obtain ⟨nx, hnx⟩ : ∃ nx, nx = (rd_T109 l0 (i : Int)).f1 := ⟨_, rfl⟩
      rw [← hnx] at hcell
      have HNX := Lib.hid hnx; have HCE := Lib.hid hcell; have HI := Lib.hid hi
      have HCC := Lib.hid hc
      have hcur0 : 0 ≤ cur - 1 := by omega
      have hcur1 : cur - 1 < (l0.length : Int) := by omega
      clear hnx hcell hi hc
      gi_wp2_with (refine ⟨trivial, ?_⟩; gi_at_call 81; refine (callsIn_wide.2 (there_any _ _ _ _ _ hn)).mono ?_; rintro e w' ⟨rfl, rfl⟩)
      refine hR.mono ?_
      have hk1 : chn l0 (l0.length + 1) a1 = pre ++ cur :: chn l0 (l0.length - pre.length) nx := by
        rw [E2.out, show l0.length + 1 - pre.length = (l0.length - pre.length) + 1 by omega]
        congr 1
        conv => lhs; unfold chn
        rw [if_pos HCC.out, HNX.out, HI.out]
        simp
      rintro e W3 (⟨rfl, hJ3, hk3⟩ | ⟨rfl, hJx3⟩)
      · have hl3 := hN _ _ hJ3
        simp only [List.length_append, List.length_cons, List.length_nil] at hl3
        have b1 : W3.heap[B1]? = wr.heap[B1]? := hk3 B1 h1 ho1
        have b2 : W3.heap[B2]? = wr.heap[B2]? := hk3 B2 h2 ho2
        have b3 : W3.heap[b]? = w.heap[b]? := (hk3 b hb1 hb3).trans (DK.out b hb1 hb2 hb3)
        have q1 : W3.cell? ⟨B1, 0, none⟩ = some (.slice (some ⟨b, off, none⟩) l0.length c0) := (World.cell?_of_block (a := ⟨B1, 0, none⟩) b1).trans d1
        have q2 : W3.cell? ⟨B2, 0, none⟩ = some (.int .i64 cur) := (World.cell?_of_block (a := ⟨B2, 0, none⟩) b2).trans d2
        have q3 : W3.frozen? ⟨B2, 0, none⟩ = false := (World.frozen?_of_block (a := ⟨B2, 0, none⟩) b2).trans d3
        have q4 : W3.cell? ⟨b, off + i * 3 + 1, none⟩ = some (.int .i64 nx) := (World.cell?_of_block (a := ⟨b, off + i * 3 + 1, none⟩) b3).trans HCE.out
        have hi1 : (cur - 1).toNat = i := by rw [HI.out]; omega
        have hfin : Hid (Pm (l0.length - (pre.length + 1)) (W3.setCell ⟨B2, 0, none⟩ (.int .i64 nx)) ∧ l0.length - (pre.length + 1) < M) := Lib.hid (by
          refine ⟨?_, by have := E1.out; omega⟩
          rw [HPm.out]
          refine ⟨pre ++ [cur], nx, by simp; omega, hJS _ _ _ hJ3 ⟨_, rfl⟩, ?_, World.cell?_setCell_same' _ _ _ (by rw [q2]; rfl), by rw [World.frozen?_setCell]; exact q3, ?_, fun k hk k2 ko => ?_⟩
          · rw [hk1]; simp
          · rw [cell_far _ _ _ _ h12]; exact q1
          · rw [Below.heap_setCell W3 ⟨B2, 0, none⟩ _ k (by simpa using k2)]
            exact (hk3 k hk ko).trans (DK.out k hk k2 ko))
        clear hk1 b1 b2 b3 hJ3 hk3
        gi_wp2
        go_roundw
        case rel => exact ⟨_, Lib.hid hfin.out.1⟩
        case measure => exact Nat.lt_of_le_of_lt ((leastOf_spec ⟨_, hfin.out.1⟩).2 _ hfin.out.1) (by have := hfin.out.2; rw [← hHM.out]; exact this)
      · gi_wp2
        exact bodyPost_end (results_none rfl _ _ _) rfl ⟨⟨_, rfl⟩, .inr ⟨_, by rw [hk1]; exact ⟨chn l0 (l0.length - pre.length) nx, by simp⟩, hJx3⟩⟩
    · have g1 : decide (1 ≤ cur ∧ cur ≤ (l0.length : Int)) = false := decide_eq_false hc
      gi_wp2_with (refine ⟨trivial, ?_⟩; gi_at_call 81; refine (callsIn_wide.2 (there_any _ _ _ _ _ hn)).mono ?_; rintro e w' ⟨rfl, rfl⟩)
      refine ⟨fun _ h => (by cases h), ?_⟩
      gi_wp2
      exact bodyPost_end (results_none rfl _ _ _) rfl ⟨⟨_, rfl⟩, .inl ⟨_, by
        rw [E2.out, show l0.length + 1 - pre.length = (l0.length - pre.length) + 1 by omega]
        unfold chn
        rw [if_neg hc]
        simp, hj⟩⟩

theorem cells109 {w : World} {A : Option Addr} {n : Nat} {xs : List S109} (h : Kd.C k109 w A n xs) (hn : 0 < xs.length) : ∃ b off, A = some ⟨b, off, none⟩ ∧ ∀ i : Nat, i < xs.length →
    w.cell? ⟨b, off + i * 3, none⟩ = some (.int .i64 (rd_T109 xs i).f0) ∧ w.cell? ⟨b, off + i * 3 + 1, none⟩ = some (.int .i64 (rd_T109 xs i).f1) ∧ w.cell? ⟨b, off + i * 3 + 2, none⟩ = some (.bool (rd_T109 xs i).f2) := by
  have hl : xs.length = n := h.1
  obtain ⟨ad, rfl, q0, _⟩ := at_T109 h 0 (by omega) (by omega)
  obtain ⟨b, off, rfl⟩ : ∃ b off, ad = ⟨b, off, none⟩ := by
    obtain ⟨b, off, sp⟩ := ad
    cases sp with
    | none => exact ⟨b, off, rfl⟩
    | some z => simp [World.cell?, Addr.add] at q0; split at q0 <;> simp_all
  refine ⟨b, off, rfl, fun i hi => ?_⟩
  obtain ⟨ad, e, r0, r1, r2⟩ := at_T109 h (i : Int) (by omega) (by omega)
  cases e
  have hadd : (⟨b, off, none⟩ : Addr).add (i * 3) = ⟨b, off + i * 3, none⟩ := by unfold Addr.add; split <;> simp_all
  simp only [Int.toNat_natCast, hadd] at r0 r1 r2
  exact ⟨r0, r1, r2⟩
theorem up_any (A : Option Addr) (n c : Nat) (a : Int) (w : World) :
    Calls Try.prog 96 #[.slice A n c, .int .i64 a] w fun e w' => e = .returned (.func (.func 101) #[] #[.pointer (some ⟨w.heap.size, 0, none⟩), .pointer (some ⟨w.heap.size + 1, 0, none⟩)]) ∧ w' = (w.alloc (.cells #[.slice A n c] 83)).alloc (.cells #[.int .i64 a] 3) := by
  go_enter Try.func96, Try.ntmps96
  go_wp2
  go_ret
  exact ⟨by simp, rfl⟩

theorem box_own {β : Type} (B : Nat) (t : TypeId) (v : Value) : Own (fun (_ : β) W => Boxed W B t v) := by
  rintro s X Y row hv hg hrow
  refine hv.kept hg (fun e' => ?_)
  obtain ⟨o, ho, hc⟩ := hrow B e'.symm
  rw [show X.heap[B]? = _ from hv] at ho; cases ho; cases hc
theorem holdsBox_own (n₀ B : Nat) : Own (fun (pre : List Int) W => ∃ v, Boxed W B 84 v ∧ W.ownsRow n₀ 3 1 v pre.length (pre.map (Value.int .i64))) := by
  intro s X Y row ⟨v, hv, hr⟩ hg hrow
  obtain ⟨v', h1, h2, _⟩ := holdsRow_own n₀ B 84 3 1 (fun pre : List Int => pre.length) (fun pre => pre.map (Value.int .i64)) (fun _ _ => True) s X Y row ⟨v, hv, hr, trivial⟩ hg hrow
  exact ⟨v', h1, h2⟩
theorem fin82 {w W : World} {B D : Nat} {v : Value} {xs : List Int} (hrow : W.ownsRow (B + 4) 3 1 v xs.length (xs.map (Value.int .i64))) (hK : W.heap[D]? = some (.deferred (some []))) (hb : Below B w W) (hD : B ≤ D) (hB : B = w.heap.size) :
    Kd.R (Kd.int .i64) 3 (W.putObj D (.deferred none)) w.heap.size (fun _ => True) v xs ∧ Below w.heap.size w (W.putObj D (.deferred none)) := by
  subst hB
  refine ⟨Kd.R_of_own (own_base (ownsRow_putObj hrow _ hK rfl) (by omega)) (fun _ _ => trivial), ?_⟩
  exact hb.grown (grownBy_putObj' W D _) hb.size (fun k e => by cases e; exact hD)
set_option maxRecDepth 100000 in
set_option maxHeartbeats 1000000 in
theorem way1 (A0 : Option Addr) (c0 : Nat) (l0 : List (S109)) (a1 : Int) (w : World) (hr0 : Kd.C k109 w A0 l0.length l0) (hc0 : l0.length ≤ c0) (hn : l0.length < 1000000) :
    Calls Try.prog 82 #[.slice A0 l0.length c0, .int .i64 a1] w fun e w' => ∃ v0_ : Value, e = .returned (v0_) ∧ Kd.R (Kd.int .i64) 3 w' w.heap.size (fun _ => True) v0_ (chn l0 (l0.length + 1) a1) ∧ Below w.heap.size w w' := by
  refine (callsIn_wide (n := 5)).1 ?_
  refine callsIn_of_wp_marks Try.func82 rfl trivial ?_ rfl
  simp only [Try.ntmps82, List.size_toArray, List.length_cons, List.length_nil, Nat.reduceAdd, Nat.reduceSub, Array.replicate_succ, Array.replicate_zero, List.push_toArray, List.append_toArray, List.nil_append, List.cons_append]
  gi_wp2
  refine wpIn_wide.2 (wp_scope_straight ((wpIn_wide (n := 5)).1 ?_))
  gi_wp2_with (refine ⟨trivial, ?_⟩; gi_at_call 96; refine (callsIn_wide.2 (up_any _ _ _ _ _)).mono ?_; rintro e w' ⟨rfl, rfl⟩)
  refine wpIn_label ?_
  gi_wp2_with (refine ⟨trivial, ?_⟩; gi_at_call 96; refine (callsIn_wide.2 (up_any _ _ _ _ _)).mono ?_; rintro e w' ⟨rfl, rfl⟩)
  obtain ⟨B, hB⟩ : ∃ B, B = w.heap.size := ⟨_, rfl⟩
  obtain ⟨W0, hW0⟩ : ∃ W0, W0 = ((((w.alloc (Obj.cells #[Value.slice A0 l0.length c0] 83)).alloc (Obj.cells #[Value.slice none 0 0] 84)).alloc (Obj.cells #[Value.slice A0 l0.length c0] 83)).alloc (Obj.cells #[Value.int IntKind.i64 a1] 3)) := ⟨_, rfl⟩
  have x0 : Boxed W0 B 83 (.slice A0 l0.length c0) := by rw [hW0, hB]; exact (((Boxed.new w 83 _).alloc _).alloc _).alloc _
  have x1 : Boxed W0 (B + 1) 84 (.slice none 0 0) := by
    have := ((Boxed.new (w.alloc (Obj.cells #[Value.slice A0 l0.length c0] 83)) 84 (.slice none 0 0)).alloc (Obj.cells #[Value.slice A0 l0.length c0] 83)).alloc (Obj.cells #[Value.int IntKind.i64 a1] 3)
    rw [World.size_alloc, ← hB] at this
    rw [hW0]; exact this
  have x2 : Boxed W0 (B + 2) 83 (.slice A0 l0.length c0) := by
    have := (Boxed.new ((w.alloc (Obj.cells #[Value.slice A0 l0.length c0] 83)).alloc (Obj.cells #[Value.slice none 0 0] 84)) 83 (.slice A0 l0.length c0)).alloc (Obj.cells #[Value.int IntKind.i64 a1] 3)
    rw [World.size_alloc, World.size_alloc, ← hB] at this
    rw [hW0]; exact this
  have x3 : Boxed W0 (B + 3) 3 (.int .i64 a1) := by
    have := Boxed.new (((w.alloc (Obj.cells #[Value.slice A0 l0.length c0] 83)).alloc (Obj.cells #[Value.slice none 0 0] 84)).alloc (Obj.cells #[Value.slice A0 l0.length c0] 83)) 3 (.int .i64 a1)
    rw [World.size_alloc, World.size_alloc, World.size_alloc, ← hB] at this
    rw [hW0]; exact this
  have hz : W0.heap.size = B + 4 := by rw [hW0, hB]; simp
  have hbel : Below B w W0 := by
    rw [hW0, hB]
    exact ((((Below.refl _ w).alloc (Nat.le_refl _) _).alloc (by simp) _).alloc (by simp; omega) _).alloc (by simp; omega) _
  have hcell : ∀ i : Nat, i < l0.length → ∃ b off, A0 = some ⟨b, off, none⟩ ∧ b < B ∧ W0.cell? ⟨b, off + i * 3 + 1, none⟩ = some (.int .i64 (rd_T109 l0 i).f1) := fun i hi => by
    obtain ⟨b, off, rfl, hc⟩ := cells109 hr0 (by omega)
    obtain ⟨_, q1, _⟩ := hc i hi
    have hlt : b < w.heap.size := World.block_lt_of_cell? w ⟨b, off + i * 3 + 1, none⟩ q1
    exact ⟨b, off, rfl, by omega, (hbel.cell (p := ⟨b, off + i * 3 + 1, none⟩) (by simpa [hB] using hlt)).trans q1⟩
  rw [← hW0, ← hB]
  have HW0 := Lib.hid hW0; have HB := Lib.hid hB
  clear hW0 hB hr0
  have hseq := up1_seq l0 A0 c0 (B + 2) (B + 3) (B + 4) (B + 1) a1 W0 (by omega) (by omega) (by omega) (by omega) (by omega) hn x2.cell x3.cell x3.frozen (by omega)
    (fun i hi => by obtain ⟨b, off, h1, h2, h3⟩ := hcell i hi; exact ⟨b, off, h1, by omega, by omega, by omega, h3⟩)
  obtain ⟨i0, hi, hz0, hz1, hz2⟩ := info_parts info3
  refine wpIn_rangeB rfl (by omega) (gf := 101) (lb := #[.pointer (some ⟨B + 2, 0, none⟩), .pointer (some ⟨B + 3, 0, none⟩)]) rfl trivial (enters_of Try.func101 (by kernel_rfl) rfl) hseq
    (fun h k i hi hne => (k i hi hne).trans (h i hi hne)) (fun W l o hl hlt k hk _ => World.putObj_heap_other (by omega)) (fun W W' ⟨v, h⟩ k hk => by rw [h]; exact Below.heap_setCell W _ _ k (by simp; omega)) (fun _ => rfl)
    (fun pre W => (∃ v, Boxed W (B + 1) 84 v ∧ W.ownsRow (B + 4) 3 1 v pre.length (pre.map (Value.int .i64))) ∧ Boxed W B 83 (.slice A0 l0.length c0) ∧ pre.length ≤ l0.length ∧ Below B w W ∧ B + 4 ≤ W.heap.size)
    (fun c pre W => c = 0 ∧ (∃ v, Boxed W (B + 1) 84 v ∧ W.ownsRow (B + 4) 3 1 v pre.length (pre.map (Value.int .i64))) ∧ pre.length = l0.length + 1 ∧ Below B w W ∧ B + 4 ≤ W.heap.size)
    ?own ?ownx (fun pre W h => h.2.2.1) ?keep ⟨⟨_, x1, World.ownsRow_nil W0 (B + 4) 3 1⟩, x0, Nat.zero_le _, hbel, by omega⟩
    (fun x => { tmps := #[.slice A0 l0.length c0, .int .i64 a1, .pointer (some ⟨B, 0, none⟩), undef, .slice none 0 0, .pointer (some ⟨B + 1, 0, none⟩), .int .i64 x, .slice A0 l0.length c0, .int .i64 a1, .func (.func 101) #[] #[.pointer (some ⟨B + 2, 0, none⟩), .pointer (some ⟨B + 3, 0, none⟩)], .int .i64 x, undef, undef, undef, undef, undef, undef, undef, undef, undef, undef], defers := [] }) ?assign ?body ?done ?stop
  case own =>
    refine OwnFrom.and (Own.from (holdsBox_own (B + 4) (B + 1)) _) (OwnFrom.and (Own.from (box_own B 83 _) _) (OwnFrom.and (fun pre A C row h _ _ => h) (OwnFrom.and (fun pre A C row h hg hr => h.grown hg (Nat.le_trans (by rw [HB.out]; exact Nat.le_refl _) h.size) ?_) (fun pre A C row h hg hr => Nat.le_trans h hg.size))))
    intro k e
    have := (hr k e).1
    omega
  case ownx =>
    intro c
    refine OwnFrom.and (fun pre A C row h _ _ => h) (OwnFrom.and (Own.from (holdsBox_own (B + 4) (B + 1)) _) (OwnFrom.and (fun pre A C row h _ _ => h) (OwnFrom.and (fun pre A C row h hg hr => h.grown hg (Nat.le_trans (by rw [HB.out]; exact Nat.le_refl _) h.size) ?_) (fun pre A C row h hg hr => Nat.le_trans h hg.size))))
    intro k e
    have := (hr k e).1
    omega
  case keep =>
    rintro pre W W' ⟨⟨v, hv, hrow⟩, hx0, hlen, hbW, hzW⟩ ⟨u, rfl⟩
    have hgr := grownBy_setCell' W (B + 3) u
    have hob : ∀ k, v.ownBlock = some k → B + 4 ≤ k := fun k hk => (hrow.lt k hk).1
    exact ⟨⟨v, hv.kept hgr (fun e => by injection e with e; omega), hrow.kept hgr (.inr (fun e => by have := hob _ e; omega))⟩, hx0.kept hgr (fun e => by injection e with e; omega), hlen, hbW.setCell (p := ⟨B + 3, 0, none⟩) (by simp) u, Nat.le_trans hzW hgr.size⟩
  case assign =>
    intro l x W K hK
    gi_wp2
    exact hK
  case body =>
    rintro l pre x W ⟨⟨v, hv, hrow⟩, hx0, hlen, hbW, hzW⟩
    have hc0' := hx0.cell
    have hcv := hv.cell
    have ARM : ∀ (v' : Value) (w1 : World), w1.ownsRow (B + 4) 3 1 v' (pre.length + 1) (pre.map (Value.int .i64) ++ [.int .i64 x]) → (W.alloc (.cells #[.int .i64 x] 3)).grownBy w1 v.ownBlock →
        Boxed w1 (B + 1) 84 v ∧ Boxed w1 B 83 (.slice A0 l0.length c0) ∧ ∀ v2, v2 = v' → Boxed (w1.setCell ⟨B + 1, 0, none⟩ v2) (B + 1) 84 v2 ∧ (w1.setCell ⟨B + 1, 0, none⟩ v2).ownsRow (B + 4) 3 1 v2 (pre.length + 1) ((pre ++ [x]).map (Value.int .i64)) ∧ Boxed (w1.setCell ⟨B + 1, 0, none⟩ v2) B 83 (.slice A0 l0.length c0) ∧ KeepsFrom W0.heap.size W (w1.setCell ⟨B + 1, 0, none⟩ v2) ∧
          KpU (B + 4) (B + 1) W (w1.setCell ⟨B + 1, 0, none⟩ v2) ∧ Below B w (w1.setCell ⟨B + 1, 0, none⟩ v2) ∧ B + 4 ≤ (w1.setCell ⟨B + 1, 0, none⟩ v2).heap.size := by
      intro v' w1 hown' hgrow
      have hle : B ≤ W.heap.size := by omega
      have hob : ∀ k, v.ownBlock = some k → B + 4 ≤ k := fun k hk => (hrow.lt k hk).1
      obtain ⟨e1, e2, e3, e4, e5⟩ := hv.appended (n₀ := B) (by decide) (own_base hrow (by omega)) hle (by omega) (own_base hown' (by omega)) hgrow
      have hx1 : Boxed w1 B 83 (.slice A0 l0.length c0) := (hx0.alloc _).kept hgrow (fun e => by have := hob B e.symm; omega)
      have hg2 := grownBy_setCell' w1 (B + 1) v'
      refine ⟨e1, hx1, ?_⟩
      rintro v2 rfl
      refine ⟨e2, ?_, hx1.kept hg2 (fun e => by injection e with e; omega), e4.from _, ?_, hbW.trans e5, ?_⟩
      · rw [List.map_append]
        exact hown'.kept hg2 (.inr (fun e => by have := (hown'.lt _ e).1; omega))
      · intro k hk hne
        refine (Below.heap_setCell w1 ⟨B + 1, 0, none⟩ _ k (by simpa using hne)).trans ?_
        refine (hgrow.block k (by simp; omega) (fun e => by have := hob k e.symm; omega)).trans ?_
        exact _root_.Go.heap_alloc_old W _ (by omega)
      · have h1 := hgrow.size; have h2 := hg2.size; simp at h1; omega
    have HARM := Lib.hid ARM; have HZ := Lib.hid hz; have HI0 := Lib.hid hi; have HZ0 := Lib.hid hz0; have HZ1 := Lib.hid hz1; have HZ2 := Lib.hid hz2; have HX := Lib.hid hx0; have HV := Lib.hid hv; have HROW := Lib.hid (hrow.alloc (.cells #[.int .i64 x] 3))
    clear ARM hz hi hz0 hz1 hz2 hx0 hv hrow hseq hcell x0 x1 x2 x3 hbel HW0 hbW
    by_cases hlt : pre.length < l0.length
    · gi_wp2_with (gi_at_builtin; refine wpListIn_append_own _ rfl _ _ 84 rfl (B + 4) 3 i0 (.int .i64 0) 1 8 Try.underlying84 HI0.out HZ0.out HZ1.out HZ2.out rfl (by decide) _ _ _ rfl HROW.out ⟨W.heap.size, 0, none⟩ 1 1 [.int .i64 x] rfl rfl (cell_one_new _ _ _) (by simp [Value.oneCell']) (by unfold maxLen; omega) (by omega) (by simp; omega) ?_; intro v' w1 hown' hgrow _; obtain ⟨y1, y2, y3⟩ := HARM.out v' w1 hown' hgrow; obtain ⟨g', cap', rfl⟩ := ownsRow_succ hown'; obtain ⟨b1, b2, b3, b4, b5, b6, b7⟩ := y3 _ rfl; have hc1 := y1.cell; have hf1 := y1.frozen; have hc2 := b1.cell; have hc3 := b3.cell; have B2 := Lib.hid b2; have B1 := Lib.hid b1; have B3 := Lib.hid b3; have B4 := Lib.hid b4; have B5 := Lib.hid b5; have B6 := Lib.hid b6; have B7 := Lib.hid b7; clear y1 y2 y3 b1 b2 b3 b4 b5 b6 b7 hown' hgrow)
      exact ⟨B4.out, B5.out, ⟨_, B1.out, by rw [List.length_append]; exact B2.out⟩, B3.out, by simp; omega, B6.out, B7.out⟩
    · gi_wp2_with (gi_at_builtin; refine wpListIn_append_own _ rfl _ _ 84 rfl (B + 4) 3 i0 (.int .i64 0) 1 8 Try.underlying84 HI0.out HZ0.out HZ1.out HZ2.out rfl (by decide) _ _ _ rfl HROW.out ⟨W.heap.size, 0, none⟩ 1 1 [.int .i64 x] rfl rfl (cell_one_new _ _ _) (by simp [Value.oneCell']) (by unfold maxLen; omega) (by omega) (by simp; omega) ?_; intro v' w1 hown' hgrow _; obtain ⟨y1, y2, y3⟩ := HARM.out v' w1 hown' hgrow; obtain ⟨g', cap', rfl⟩ := ownsRow_succ hown'; obtain ⟨b1, b2, b3, b4, b5, b6, b7⟩ := y3 _ rfl; have hc1 := y1.cell; have hf1 := y1.frozen; have hc2 := b1.cell; have hc3 := b3.cell; have B2 := Lib.hid b2; have B1 := Lib.hid b1; have B3 := Lib.hid b3; have B4 := Lib.hid b4; have B5 := Lib.hid b5; have B6 := Lib.hid b6; have B7 := Lib.hid b7; clear y1 y2 y3 b1 b2 b3 b4 b5 b6 b7 hown' hgrow)
      exact ⟨B4.out, rfl, ⟨_, B1.out, by rw [List.length_append]; exact B2.out⟩, by simp; omega, B6.out, B7.out⟩
  case done =>
    rintro D xs W hD rfl ⟨⟨v, hv, hrow⟩, hx0, hlen, hbW, hzW⟩ hK
    have hcv := hv.cell
    have HFIN := Lib.hid (fin82 hrow hK hbW (by omega) HB.out)
    clear hseq hcell x0 x1 x2 x3 hbel HW0 hbW hrow hi hz0 hz1 hz2 hz
    gi_wp2
    refine ⟨by simp, .inl ⟨_, _, rfl, run_takeDeferred hK, ?_⟩⟩
    exact ⟨_, results_tmp rfl _ _ _, v, rfl, HFIN.out⟩
  case stop =>
    rintro D c xs W hD hpre ⟨rfl, ⟨v, hv, hrow⟩, hlen, hbW, hzW⟩ hK
    have hxs : xs = chn l0 (l0.length + 1) a1 := by
      obtain ⟨t, ht⟩ := hpre
      have h1 := chn_len l0 (l0.length + 1) a1
      rw [← ht, List.length_append] at h1
      have : t = [] := List.eq_nil_of_length_eq_zero (by omega)
      rw [← ht, this, List.append_nil]
    subst hxs
    have hcv := hv.cell
    have HFIN := Lib.hid (fin82 hrow hK hbW (by omega) HB.out)
    clear hseq hcell x0 x1 x2 x3 hbel HW0 hbW hrow hi hz0 hz1 hz2 hz
    gi_wp2
    refine ⟨by simp, .inl ⟨_, _, rfl, run_takeDeferred hK, ?_⟩⟩
    exact ⟨_, results_tmp rfl _ _ _, v, rfl, HFIN.out⟩
end Go.Proofs.YtadcahnoghnkcaaX.P27
