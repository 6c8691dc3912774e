/- Words, walks and plain laws for the row, packed: each text in a section of its own. Conditions stand with each theorem. -/
import Derived.Shelf.SlGeneric
import Derived.Shelf.SlSortCmp.NoneTotal
import Derived.Test.YtdelfhahbngcfaaProg
import Derived.Scope
import Derived.Deep.LoopGhost
import Derived.Deep.RegionHeld3
import Derived.Shelf.Abstract
import Derived.Shelf.RegionOpen
import Derived.Lib.Hide
import Derived.Lib.Small
import Derived.Lib.SlicesCompact
import Derived.Lib.SliceRun
import Derived.Deep.RegionLaw
import Derived.Deep.DeepCutAuto
import Derived.Deep.QuietTactic
import Derived.BigQuiet
import Derived.RegionTactic
import Derived.StillTailTactics
import Derived.Test.YtdelfhahbngcfaaKPastHasa
import Derived.Test.YtdelfhahbngcfaaKPastHasb
section
namespace Go.Proofs.YtdelfhahbngcfaaX.P07
open Go.Shelf
def sortDot_ren : Go.Shelf.Ren := ⟨fun | 6 => 66 | 15 => 76 | 14 => 75 | 28 => 89 | 29 => 90 | 20 => 81 | 21 => 82 | 22 => 83 | 23 => 84 | 24 => 85 | 25 => 86 | 26 => 87 | 27 => 88 | 46 => 92 | 47 => 93 | 48 => 94 | 49 => 95 | 50 => 96 | 57 => 97 | n => n, fun | 22 => 47 | 24 => 41 | 25 => 82 | 3 => 3 | 39 => 62 | 0 => 0 | 53 => 107 | 55 => 109 | 4 => 4 | 46 => 100 | 45 => 99 | 50 => 104 | 5 => 5 | 9 => 9 | 66 => 111 | 70 => 115 | 76 => 117 | 77 => 118 | n => n, fun | n => n⟩
theorem sortDot : Go.Proofs.SlLaysF0.n6 Try.prog sortDot_ren := {
  mixed := by kernel_rfl
  f6 := ⟨Try.f66.name, by decide, Try.func66.trans (congrArg some (by kernel_rfl))⟩
  f14 := ⟨Try.f75.name, by decide, Try.func75.trans (congrArg some (by kernel_rfl))⟩
  f15 := Try.func76.trans (congrArg some (by kernel_rfl))
  f20 := ⟨Try.f81.name, by decide, Try.func81.trans (congrArg some (by kernel_rfl))⟩
  f21 := ⟨Try.f82.name, by decide, Try.func82.trans (congrArg some (by kernel_rfl))⟩
  f22 := ⟨Try.f83.name, by decide, Try.func83.trans (congrArg some (by kernel_rfl))⟩
  f23 := ⟨Try.f84.name, by decide, Try.func84.trans (congrArg some (by kernel_rfl))⟩
  f24 := ⟨Try.f85.name, by decide, Try.func85.trans (congrArg some (by kernel_rfl))⟩
  f25 := ⟨Try.f86.name, by decide, Try.func86.trans (congrArg some (by kernel_rfl))⟩
  f26 := ⟨Try.f87.name, by decide, Try.func87.trans (congrArg some (by kernel_rfl))⟩
  f27 := ⟨Try.f88.name, by decide, Try.func88.trans (congrArg some (by kernel_rfl))⟩
  f28 := Try.func89.trans (congrArg some (by kernel_rfl))
  f29 := Try.func90.trans (congrArg some (by kernel_rfl))
  f46 := ⟨Try.f92.name, by decide, Try.func92.trans (congrArg some (by kernel_rfl))⟩
  f47 := Try.func93.trans (congrArg some (by kernel_rfl))
  f48 := Try.func94.trans (congrArg some (by kernel_rfl))
  f49 := ⟨Try.f95.name, by decide, Try.func95.trans (congrArg some (by kernel_rfl))⟩
  f50 := ⟨Try.f96.name, by decide, Try.func96.trans (congrArg some (by kernel_rfl))⟩
  f57 := ⟨Try.f97.name, by decide, Try.func97.trans (congrArg some (by kernel_rfl))⟩
  t0 := Try.underlying0
  a0 := Try.isAgg0
  z0 := Try.sizeOf0
  v0 := Try.zeroValue0
  t3 := Try.underlying3
  a3 := Try.isAgg3
  z3 := Try.sizeOf3
  v3 := Try.zeroValue3
  t4 := Try.underlying4
  a4 := Try.isAgg4
  z4 := Try.sizeOf4
  v4 := Try.zeroValue4
  t5 := Try.underlying5
  a5 := Try.isAgg5
  z5 := Try.sizeOf5
  v5 := Try.zeroValue5
  t9 := Try.underlying9
  a9 := Try.isAgg9
  z9 := Try.sizeOf9
  v9 := Try.zeroValue9
  t22 := Try.underlying47
  a22 := Try.isAgg47
  z22 := Try.sizeOf47
  v22 := Try.zeroValue47
  t25 := Try.underlying82
  a25 := Try.isAgg82
  z25 := Try.sizeOf82
  v25 := Try.zeroValue82
  t39 := Try.underlying62
  a39 := Try.isAgg62
  z39 := Try.sizeOf62
  v39 := Try.zeroValue62
  t45 := Try.underlying99
  a45 := Try.isAgg99
  z45 := Try.sizeOf99
  v45 := Try.zeroValue99
  t46 := Try.underlying100
  a46 := Try.isAgg100
  z46 := Try.sizeOf100
  v46 := Try.zeroValue100
  t50 := Try.underlying104
  a50 := Try.isAgg104
  z50 := Try.sizeOf104
  v50 := Try.zeroValue104
  t53 := Try.underlying107
  a53 := Try.isAgg107
  z53 := Try.sizeOf107
  v53 := Try.zeroValue107
  t55 := Try.underlying109
  a55 := Try.isAgg109
  z55 := Try.sizeOf109
  v55 := Try.zeroValue109
  t66 := Try.underlying111
  a66 := Try.isAgg111
  z66 := Try.sizeOf111
  v66 := Try.zeroValue111
  t70 := Try.underlying115
  a70 := Try.isAgg115
  z70 := Try.sizeOf115
  v70 := Try.zeroValue115
  t76 := Try.underlying117
  a76 := Try.isAgg117
  z76 := Try.sizeOf117
  v76 := Try.zeroValue117
  t77 := Try.underlying118
  a77 := Try.isAgg118
  z77 := Try.sizeOf118
  v77 := Try.zeroValue118 }
end Go.Proofs.YtdelfhahbngcfaaX.P07
end
section
namespace Go.Proofs.YtdelfhahbngcfaaX.P07
open Go.RowKit Go.Shelf Go.Sort Go.Proofs.Ytdelfhahbngcfaa Go.Proofs.YtdelfhahbngcfaaW.PrintWords Go.Proofs.YtdelfhahbngcfaaW.PrintLast Go.Proofs.YtdelfhahbngcfaaW.PrintMore
set_option linter.unusedVariables false
set_option linter.unusedSimpArgs false
attribute [local go_sem] Oper.semAt_some
def ordD (x y : S41) : Int := if Lib.compareInt x.f0 y.f0 = 0 then Lib.compareInt x.f1 y.f1 else Lib.compareInt x.f0 y.f0
def c41 (x : S41) : List Value := [.int .i64 x.f0, .int .i64 x.f1]
theorem cmp_any (x y : Int) (w : World) :
    Calls Try.prog 78 #[.int .i64 x, .int .i64 y] w fun e w' => e = .returned (.int .i64 (Lib.compareInt x y)) ∧ w = w' := by
  go_enter Try.func78, Try.ntmps78
  go_wp2
  all_goals (go_ret; refine ⟨?_, rfl⟩; unfold Lib.compareInt; (repeat' split) <;> first | rfl | (exfalso; omega))
theorem or_any (x y : Int) (B : Nat) (w : World) (h0 : w.cell? ⟨B, 0, none⟩ = some (.int .i64 x)) (h1 : w.cell? ⟨B, 1, none⟩ = some (.int .i64 y)) :
    Calls Try.prog 77 #[.slice (some ⟨B, 0, none⟩) 2 2] w fun e w' => e = .returned (.int .i64 (if x = 0 then y else x)) ∧ w = w' := by
  by_cases hx : x = 0
  · subst hx
    rw [if_pos rfl]
    by_cases hy : y = 0
    · subst hy
      go_enter Try.func77, Try.ntmps77
      go_wp2
      go_loop [8] (fun i => ∃ k : Nat, k ≤ 2 ∧ i = .int .i64 k) (fun i => 2 - (intOf i).toNat)
      case atStart => exact ⟨0, by omega, rfl⟩
      case round =>
        obtain ⟨k, hk, rfl⟩ := hrel
        by_cases k0 : k = 0
        · subst k0
          go_wp2
          go_round
          case rel => exact ⟨1, by omega, rfl⟩
          case measure => simp [intOf]
        · by_cases k1 : k = 1
          · subst k1
            go_wp2
            go_round
            case rel => exact ⟨2, by omega, rfl⟩
            case measure => simp [intOf]
          · obtain rfl : k = 2 := by omega
            go_wp2
            go_ret
            exact ⟨rfl, rfl⟩
    · have g : (y != 0) = true := by simpa using hy
      go_enter Try.func77, Try.ntmps77
      go_wp2
      go_loop [8] (fun i => ∃ k : Nat, k ≤ 1 ∧ i = .int .i64 k) (fun i => 2 - (intOf i).toNat)
      case atStart => exact ⟨0, by omega, rfl⟩
      case round =>
        obtain ⟨k, hk, rfl⟩ := hrel
        by_cases k0 : k = 0
        · subst k0
          go_wp2
          go_round
          case rel => exact ⟨1, by omega, rfl⟩
          case measure => simp [intOf]
        · obtain rfl : k = 1 := by omega
          go_wp2
          go_ret
          exact ⟨rfl, rfl⟩
  · have g : (x != 0) = true := by simpa using hx
    rw [if_neg hx]
    go_enter Try.func77, Try.ntmps77
    go_wp2
    go_loop [8] (fun i => i = .int .i64 0) (fun i => 2 - (intOf i).toNat)
    case atStart => rfl
    case round =>
      subst hrel
      go_wp2
      go_ret
      exact ⟨rfl, rfl⟩
theorem bx (w : World) (T : Nat) (cs : Array Value) (T2 : Nat) (cs2 : Array Value) (j : Nat) (v : Value) (h : cs[j]? = some v) : ((w.alloc (.cells cs T)).alloc (.cells cs2 T2)).cell? ⟨w.heap.size, j, none⟩ = some v :=
  (YtdelfhahbngcfaaW.PrintWords.blk_cell (blk_alloc (blk_new w (.cells cs T)) (.cells cs2 T2)) j).trans h
set_option maxRecDepth 100000 in
set_option maxHeartbeats 4000000 in
theorem order_any (x y : S41) (w : World) :
    Calls Try.prog 67 #[.agg #[.int .i64 x.f0, .int .i64 x.f1], .agg #[.int .i64 y.f0, .int .i64 y.f1]] w fun e w' => e = .returned (.int .i64 (ordD x y)) ∧ ∃ q os, w' = grow (w.drewN q) os := by
  obtain ⟨a, b⟩ := x
  obtain ⟨c, d⟩ := y
  simp only []
  obtain ⟨V, hV⟩ : ∃ z, z = (w.alloc (.cells #[.int .i64 a, .int .i64 b] 41)).alloc (.cells #[.int .i64 c, .int .i64 d] 41) := ⟨_, rfl⟩
  have a0 : V.cell? ⟨w.heap.size, 0, none⟩ = some (.int .i64 a) := by rw [hV]; exact bx w _ _ _ _ 0 _ rfl
  have a1 : V.cell? ⟨w.heap.size, 1, none⟩ = some (.int .i64 b) := by rw [hV]; exact bx w _ _ _ _ 1 _ rfl
  have s1 : (w.alloc (.cells #[.int .i64 a, .int .i64 b] 41)).heap.size = w.heap.size + 1 := by simp
  have b0 : V.cell? ⟨w.heap.size + 1, 0, none⟩ = some (.int .i64 c) := by rw [hV, ← s1]; exact (YtdelfhahbngcfaaW.PrintWords.blk_cell (blk_new _ _) 0).trans rfl
  have b1 : V.cell? ⟨w.heap.size + 1, 1, none⟩ = some (.int .i64 d) := by rw [hV, ← s1]; exact (YtdelfhahbngcfaaW.PrintWords.blk_cell (blk_new _ _) 1).trans rfl
  have HV := Lib.hid hV
  have hbl : ∀ W : World, ∀ o, Below W.heap.size W (W.alloc o) := fun W o => (Below.refl _ W).alloc (Nat.le_refl _) o
  obtain ⟨O, hO⟩ : ∃ O, O = ordD ⟨a, b⟩ ⟨c, d⟩ := ⟨_, rfl⟩
  have HOR := Lib.hid (show Calls Try.prog 77 #[.slice (some ⟨V.heap.size, 0, none⟩) 2 2] (V.alloc (.cells #[.int .i64 (Lib.compareInt a c), .int .i64 (Lib.compareInt b d)] 3)).drew fun e w' => e = .returned (.int .i64 O) ∧ (V.alloc (.cells #[.int .i64 (Lib.compareInt a c), .int .i64 (Lib.compareInt b d)] 3)).drew = w' from by
    rw [hO]
    exact or_any _ _ V.heap.size _ ((YtdelfhahbngcfaaW.PrintWords.blk_cell (blk_new V (.cells #[.int .i64 (Lib.compareInt a c), .int .i64 (Lib.compareInt b d)] 3)) 0).trans rfl) ((YtdelfhahbngcfaaW.PrintWords.blk_cell (blk_new V (.cells #[.int .i64 (Lib.compareInt a c), .int .i64 (Lib.compareInt b d)] 3)) 1).trans rfl))
  rw [← hO]
  clear hO
  go_enter Try.func67, Try.ntmps67
  go_wp2_with fail
  rw [← hV]
  clear hV s1
  go_region_held3 (fun W => W.cell? ⟨w.heap.size, 0, none⟩ = some (.int .i64 a) ∧ W.cell? ⟨w.heap.size, 1, none⟩ = some (.int .i64 b) ∧ W.cell? ⟨w.heap.size + 1, 0, none⟩ = some (.int .i64 c) ∧ W.cell? ⟨w.heap.size + 1, 1, none⟩ = some (.int .i64 d))
    (first | exact ⟨a0, a1, b0, b1⟩ | exact ⟨below_cell (hbl V.drew _) a0, below_cell (hbl V.drew _) a1, below_cell (hbl V.drew _) b0, below_cell (hbl V.drew _) b1⟩)
    (first | (go_at_call 78; ((with_reducible refine (cmp_any _ _ _).mono ?_); rintro e wx ⟨rfl, rfl⟩)) | (go_at_call 77; ((with_reducible refine HOR.out.mono ?_); rintro e wx ⟨rfl, rfl⟩)))
  all_goals
    go_wp2_with fail
    go_ret
    refine ⟨rfl, 1, #[.cells #[.int .i64 a, .int .i64 b] 41, .cells #[.int .i64 c, .int .i64 d] 41, .cells #[.int .i64 (Lib.compareInt a c), .int .i64 (Lib.compareInt b d)] 3], ?_⟩
    rw [HV.out, alloc_eq_grow, alloc_eq_grow, alloc_eq_grow, grow_grow, grow_grow]
    rfl
end Go.Proofs.YtdelfhahbngcfaaX.P07
end
section
namespace Go.Proofs.YtdelfhahbngcfaaX.P07
open Go.RowKit Go.Shelf Go.Sort Go.Lib Go.Proofs.Ytdelfhahbngcfaa Go.Proofs.YtdelfhahbngcfaaW.PrintWords Go.Proofs.YtdelfhahbngcfaaW.PrintLast Go.Proofs.YtdelfhahbngcfaaW.PrintMore
set_option linter.unusedVariables false
set_option linter.unusedSimpArgs false
attribute [local go_sem] Oper.semAt_some
attribute [local go_sem high] eqA41
instance : Inhabited S41 := ⟨z41⟩
instance : DecidableEq S41 := fun x y => decidable_of_iff (x.f0 = y.f0 ∧ x.f1 = y.f1) (by cases x; cases y; simp)
theorem s41_ne {x y : S41} (h : x ≠ y) : (x.f0 == y.f0 && (x.f1 == y.f1)) = false := by
  cases e : (x.f0 == y.f0 && (x.f1 == y.f1)) with
  | false => rfl
  | true =>
    exfalso; apply h
    cases x; cases y
    simp_all
theorem s41_eq (x : S41) : (x.f0 == x.f0 && (x.f1 == x.f1)) = true := by simp
def RowB (w : World) (g cap : Nat) (d : Array S41) : Prop := ∃ cur : Array Value, Ytdelfhahbngcfaa.Blk w g 41 cur ∧ cur.size = cap * 2 ∧ ∀ j, j < d.size → cur[j * 2]? = some (.int .i64 d[j]!.f0) ∧ cur[j * 2 + 1]? = some (.int .i64 d[j]!.f1)
theorem RowB.cell {w : World} {g cap : Nat} {d : Array S41} (h : RowB w g cap d) {j : Nat} (hj : j < d.size) : w.cell? ⟨g, j * 2, none⟩ = some (.int .i64 d[j]!.f0) ∧ w.cell? ⟨g, j * 2 + 1, none⟩ = some (.int .i64 d[j]!.f1) := by
  obtain ⟨cur, hb, _, hc⟩ := h
  exact ⟨Ytdelfhahbngcfaa.blk_cell hb _ _ (hc j hj).1, Ytdelfhahbngcfaa.blk_cell hb _ _ (hc j hj).2⟩
theorem RowB.thaw {w : World} {g cap : Nat} {d : Array S41} (h : RowB w g cap d) (j : Nat) : w.frozen? ⟨g, j, none⟩ = false := by
  obtain ⟨cur, hb, _, _⟩ := h
  exact Ytdelfhahbngcfaa.blk_thawed hb j
theorem RowB.put {w : World} {g cap : Nat} {d : Array S41} (h : RowB w g cap d) (hd : d.size ≤ cap) {k : Nat} (hk : k < d.size) (x : S41) :
    RowB ((w.setCell ⟨g, k * 2, none⟩ (.int .i64 x.f0)).setCell ⟨g, k * 2 + 1, none⟩ (.int .i64 x.f1)) g cap (d.setIfInBounds k x) := by
  obtain ⟨cur, hb, hs, hc⟩ := h
  refine ⟨_, Ytdelfhahbngcfaa.blk_set (Ytdelfhahbngcfaa.blk_set hb _ _) _ _, by simpa using hs, fun j hj => ?_⟩
  have hj' : j < d.size := by simpa using hj
  obtain ⟨q0, q1⟩ := hc j hj'
  by_cases e : j = k
  · subst e
    have : (d.setIfInBounds j x)[j]! = x := getElem!_set_same d j x hj'
    rw [this]
    constructor
    · rw [Array.getElem?_setIfInBounds, if_neg (by omega), Array.getElem?_setIfInBounds, if_pos rfl, if_pos (by omega)]
    · rw [Array.getElem?_setIfInBounds, if_pos rfl, if_pos (by simp; omega)]
  · have : (d.setIfInBounds k x)[j]! = d[j]! := by
      rw [getElem!_pos _ j hj, getElem!_pos _ j hj', Array.getElem_setIfInBounds, if_neg (Ne.symm e)]
    rw [this]
    constructor
    · rw [Array.getElem?_setIfInBounds, if_neg (by omega), Array.getElem?_setIfInBounds, if_neg (by omega)]; exact q0
    · rw [Array.getElem?_setIfInBounds, if_neg (by omega), Array.getElem?_setIfInBounds, if_neg (by omega)]; exact q1
theorem RowB.clear {w : World} {g cap : Nat} {d : Array S41} (h : RowB w g cap d) : ∀ (vs : List Value) (o k : Nat), k * 2 ≤ o → k ≤ d.size → RowB (w.setCells g o vs) g cap (d.extract 0 k) := by
  obtain ⟨cur, hb, hs, hc⟩ := h
  intro vs
  suffices H : ∀ (vs : List Value) (o : Nat) (w : World) (cur : Array Value), Ytdelfhahbngcfaa.Blk w g 41 cur → ∃ cur', Ytdelfhahbngcfaa.Blk (w.setCells g o vs) g 41 cur' ∧ cur'.size = cur.size ∧ ∀ j, j < o → cur'[j]? = cur[j]? by
    intro o k ho hk
    obtain ⟨cur', b1, b2, b3⟩ := H vs o w cur hb
    refine ⟨cur', b1, by omega, fun j hj => ?_⟩
    have hj2 : j < k := by simp at hj; omega
    have e : (d.extract 0 k)[j]! = d[j]! := by
      rw [getElem!_pos _ j hj, getElem!_pos _ j (by omega)]; simp
    rw [e, b3 _ (by omega), b3 _ (by omega)]
    exact hc j (by omega)
  intro vs
  induction vs with
  | nil => exact fun o w cur hb => ⟨cur, hb, rfl, fun _ _ => rfl⟩
  | cons v r ih =>
    intro o w cur hb
    obtain ⟨cur', b1, b2, b3⟩ := ih (o + 1) _ _ (Ytdelfhahbngcfaa.blk_set hb o v)
    refine ⟨cur', b1, by simpa using b2, fun j hj => ?_⟩
    rw [b3 j (by omega), Array.getElem?_setIfInBounds, if_neg (by omega)]
theorem ch_cells (g : Nat) : ∀ (vs : List Value) (o : Nat) (w W : World), Ch (fun k => k = g) w W → Ch (fun k => k = g) w (W.setCells g o vs)
  | [], _, _, _, h => h
  | v :: r, o, w, W, h => ch_cells g r (o + 1) w _ (ch_one h o v)
theorem clear41 (ty : TypeId) (g o n c cap : Nat) (d : Array S41) (w : World) (h : RowB w g cap d) (hn : 0 < n) (hb : o + n * 2 ≤ cap * 2) :
    ∃ vs, (Builtin.clear_ #[47] ty #[.slice (some ⟨g, o, none⟩) n c]).run Try.prog w = .ok (.tuple #[]) (w.setCells g o vs) := by
  obtain ⟨cur, b1, b2, _⟩ := h
  refine ⟨(Builtin.zeroCells #[.int .i64 0, .int .i64 0] n).toList, ?_⟩
  have hlen : (Builtin.zeroCells #[.int .i64 0, .int .i64 0] n).toList.length = n * 2 := by simp [Builtin.zeroCells]
  have hst := run_storeCells_cells (P := Try.prog) g o (Builtin.zeroCells #[.int .i64 0, .int .i64 0] n).toList 0 w (fun j hj => by
      rw [hlen] at hj
      rw [Ytdelfhahbngcfaa.blk_cell b1 _ _ (Array.getElem?_eq_getElem (show o + 0 + j < cur.size by omega))]; rfl) (fun j _ => Ytdelfhahbngcfaa.blk_thawed b1 _) (by
      intro v hv
      have : v = .int .i64 0 := by
        simp only [Builtin.zeroCells, Array.toList_map, List.mem_map] at hv
        obtain ⟨i, _, hi⟩ := hv
        rw [← hi]
        have : i % 2 = 0 ∨ i % 2 = 1 := by omega
        rcases this with e | e <;> simp [e]
      rw [this]; rfl)
  simp only [Nat.add_zero] at hst
  obtain ⟨m, rfl⟩ : ∃ m, n = m + 1 := ⟨n - 1, by omega⟩
  simp [Builtin.clear_, run_underlying Try.underlying47, Try.zeroValue41]
  rw [show (Value.agg #[Value.int IntKind.i64 0, Value.int IntKind.i64 0]).cells = #[Value.int IntKind.i64 0, Value.int IntKind.i64 0] from rfl, hst]
  rfl
theorem ch_drewN {S : Nat → Prop} {w W : World} (h : Ch S w W) (q : Nat) : Ch S w (W.drewN q) := ⟨h.os, h.tape, h.output, h.size, h.block⟩
set_option maxRecDepth 100000 in
set_option maxHeartbeats 4000000 in
theorem compact_any (g cap : Nat) (d : Array S41) (w : World) (hB : RowB w g cap d) (hsz : d.size ≤ cap) (hcap : cap ≤ 9223372036854775807) :
    Calls Try.prog 68 #[.slice (some ⟨g, 0, none⟩) d.size cap] w fun e w' => e = .returned (.slice (some ⟨g, 0, none⟩) (compactUpTo d d.size).length cap) ∧ RowB w' g cap (compactUpTo d d.size).toArray ∧ Ch (fun k => k = g) w w' := by
  have HS := Lib.hid (show ∀ W, Ch (fun k => k = g) w W → RowB W g cap d → (∀ j, j < d.size → keeps d j = true) → (compactUpTo d d.size).length = d.size ∧ RowB W g cap (compactUpTo d d.size).toArray from fun W _ hR hall => by
    have e : compactUpTo d d.size = d.toList := by rw [compactUpTo_all d _ hall, range_map_get]
    rw [e]
    exact ⟨by simp, by simpa using hR⟩)
  have HB := Lib.hid hB
  clear hB
  by_cases h2 : d.size < 2
  · go_enter Try.func68, Try.ntmps68
    go_wp2
    go_ret
    obtain ⟨e1, e2⟩ := HS.out w (Ch.refl _ _) HB.out (fun j hj => keeps_lt_one d j (by omega))
    exact ⟨by rw [e1]; rfl, e2, Ch.refl _ _⟩
  · go_enter Try.func68, Try.ntmps68
    go_wp2
    go_loopw [3] (fun s3 wr => ∃ k : Nat, 1 ≤ k ∧ k ≤ d.size ∧ s3 = .int .i64 k ∧ Hid (RowB wr g cap d ∧ Ch (fun k => k = g) w wr ∧ ∀ j, j < k → keeps d j = true)) (fun s3 _ => d.size - (intOf s3).toNat)
    case atStart => exact ⟨1, Nat.le_refl _, by omega, rfl, Lib.hid ⟨HB.out, Ch.refl _ _, keeps_lt_one d⟩⟩
    case round =>
      clear HB
      obtain ⟨k, hk1, hk, rfl, HI⟩ := hrel
      by_cases hlt : k < d.size
      · obtain ⟨c0, c1⟩ := HI.out.1.cell hlt
        obtain ⟨p0, p1⟩ := HI.out.1.cell (show k - 1 < d.size by omega)
        obtain ⟨x, hx⟩ : ∃ x, x = d[k]! := ⟨_, rfl⟩
        obtain ⟨y, hy⟩ : ∃ y, y = d[k - 1]! := ⟨_, rfl⟩
        rw [← hx] at c0 c1
        rw [← hy] at p0 p1
        by_cases hdup : x = y
        · have HK := Lib.hid (show keeps d k = false from keeps_neg (by omega) (by rw [← hx, ← hy]; exact hdup))
          subst hdup
          have he := s41_eq x
          clear hx hy
          go_wp2
          repeat (go_quiet (fail); try go_wp2)
          clear c0 c1 p0 p1
          have HD := Lib.hid (show ∀ q, RowB (wr.drewN q) g cap d ∧ Ch (fun k => k = g) w (wr.drewN q) ∧ CompInv d (k + 1) k d from fun q => ⟨HI.out.1, ch_drewN HI.out.2.1 q, CompInv.start HI.out.2.2 HK.out⟩)
          clear HI HK he
          go_loopw [3, 5] (fun s3 s5 ws => ∃ (kk k2 : Nat) (dk : Array S41), s3 = .int .i64 kk ∧ s5 = .int .i64 k2 ∧ 1 ≤ k2 ∧ k + k2 ≤ d.size ∧ Hid (RowB ws g cap dk ∧ Ch (fun k => k = g) w ws ∧ CompInv d (k + k2) kk dk)) (fun _ s5 _ => d.size - (k + (intOf s5).toNat))
          case atStart => exact ⟨k, 1, d, rfl, rfl, Nat.le_refl _, by omega, Lib.hid (HD.out _)⟩
          case round =>
            clear HD
            obtain ⟨kk, k2, dk, rfl, rfl, h1, hle, HJ⟩ := hrel
            have hkk := HJ.out.2.2.lt
            have hds := HJ.out.2.2.size
            by_cases hlt2 : k + k2 < d.size
            · obtain ⟨m0, m1⟩ := HJ.out.1.cell (show k + k2 < dk.size by omega)
              obtain ⟨p0, p1⟩ := HJ.out.1.cell (show k + k2 - 1 < dk.size by omega)
              obtain ⟨z0, z1⟩ := HJ.out.1.cell (show kk < dk.size by omega)
              have f0 := HJ.out.1.thaw (kk * 2)
              have f1 := HJ.out.1.thaw (kk * 2 + 1)
              rw [HJ.out.2.2.high (k + k2) (by omega), show (k + k2) * 2 = k * 2 + k2 * 2 by omega] at m0 m1
              rw [HJ.out.2.2.high (k + k2 - 1) (by omega), show (k + k2 - 1) * 2 = k * 2 + (k2 - 1) * 2 by omega] at p0 p1
              obtain ⟨u, hu⟩ : ∃ u, u = d[k + k2]! := ⟨_, rfl⟩
              obtain ⟨v, hv⟩ : ∃ v, v = d[k + k2 - 1]! := ⟨_, rfl⟩
              rw [← hu] at m0 m1
              rw [← hv] at p0 p1
              by_cases huv : u = v
              · have HN := Lib.hid (show ∀ q, RowB (wr.drewN q) g cap dk ∧ Ch (fun k => k = g) w (wr.drewN q) ∧ CompInv d (k + (k2 + 1)) kk dk from fun q => ⟨HJ.out.1, ch_drewN HJ.out.2.1 q, HJ.out.2.2.skip (keeps_neg (by omega) (by rw [← hu, ← hv]; exact huv))⟩)
                subst huv
                have he := s41_eq u
                clear hu hv HJ
                go_wp2
                repeat (go_quiet (fail); try go_wp2)
                go_roundw
                case rel => exact ⟨kk, k2 + 1, dk, rfl, by go_num, by omega, by omega, Lib.hid (HN.out _)⟩
                case measure => simp [intOf]; omega
              · have HN := Lib.hid (show ∀ q, RowB (((wr.drewN q).setCell ⟨g, kk * 2, none⟩ (.int .i64 u.f0)).setCell ⟨g, kk * 2 + 1, none⟩ (.int .i64 u.f1)) g cap (dk.setIfInBounds kk u) ∧ Ch (fun k => k = g) w (((wr.drewN q).setCell ⟨g, kk * 2, none⟩ (.int .i64 u.f0)).setCell ⟨g, kk * 2 + 1, none⟩ (.int .i64 u.f1)) ∧ CompInv d (k + (k2 + 1)) (kk + 1) (dk.setIfInBounds kk u) from fun q => ⟨RowB.put (w := wr.drewN q) HJ.out.1 (by omega) (by omega) u, ch_one (ch_one (ch_drewN HJ.out.2.1 q) _ _) _ _, by
                  have := HJ.out.2.2.keep hlt2 (keeps_pos (by rw [← hu, ← hv]; exact huv))
                  rwa [← hu] at this⟩)
                have he := s41_ne huv
                clear hu hv HJ
                go_wp2
                repeat (go_quiet (fail); try go_wp2)
                go_roundw
                case rel => exact ⟨kk + 1, k2 + 1, dk.setIfInBounds kk u, by go_num, by go_num, by omega, by omega, Lib.hid (HN.out _)⟩
                case measure => simp [intOf]; omega
            · have hend : k + k2 = d.size := by omega
              have HCL := Lib.hid (fun ty => clear41 ty g (kk * 2) (d.size - kk) (cap - kk) cap dk wr HJ.out.1 (by omega) (by omega))
              have HFIN := Lib.hid (show ∀ vs, (compactUpTo d d.size).length = kk ∧ RowB (wr.setCells g (kk * 2) vs) g cap (compactUpTo d d.size).toArray ∧ Ch (fun k => k = g) w (wr.setCells g (kk * 2) vs) from fun vs => by
                have hI := HJ.out.2.2
                rw [hend] at hI
                refine ⟨hI.len, ?_, ch_cells g vs _ _ _ HJ.out.2.1⟩
                have e : (compactUpTo d d.size).toArray = dk.extract 0 kk := by
                  apply Array.ext_getElem?
                  intro j
                  by_cases hj : j < kk
                  · have := hI.low j hj
                    rw [List.getElem?_toArray, this, Array.getElem?_extract]
                    rw [if_pos (by omega)]; simp [show j < dk.size by omega]
                  · have h1 : (compactUpTo d d.size).toArray.size ≤ j := by rw [List.size_toArray, hI.len]; omega
                    rw [Array.getElem?_eq_none h1, Array.getElem?_eq_none (by simp; omega)]
                rw [e]
                exact RowB.clear HJ.out.1 vs (kk * 2) kk (Nat.le_refl _) (by omega))
              clear HJ
              obtain ⟨vs, hcl⟩ := HCL.out 0
              go_wp2
              go_ret
              obtain ⟨f1, f2, f3⟩ := HFIN.out vs
              exact ⟨by rw [f1]; rfl, f2, f3⟩
        · have he := s41_ne hdup
          have HN := Lib.hid (show ∀ q, RowB (wr.drewN q) g cap d ∧ Ch (fun k => k = g) w (wr.drewN q) ∧ ∀ j, j < k + 1 → keeps d j = true from fun q => ⟨HI.out.1, ch_drewN HI.out.2.1 q, fun j hj => by
            by_cases e : j = k
            · subst e
              exact keeps_pos (by rw [← hx, ← hy]; exact hdup)
            · exact HI.out.2.2 j (by omega)⟩)
          clear hx hy HI
          go_wp2
          repeat (go_quiet (fail); try go_wp2)
          go_roundw
          case rel => exact ⟨k + 1, by omega, by omega, by go_num, Lib.hid (HN.out _)⟩
          case measure => simp [intOf]; omega
      · have : k = d.size := by omega
        subst this
        go_wp2
        go_ret
        obtain ⟨e1, e2⟩ := HS.out wr HI.out.2.1 HI.out.1 HI.out.2.2
        exact ⟨by rw [e1]; rfl, e2, HI.out.2.1⟩
end Go.Proofs.YtdelfhahbngcfaaX.P07
end
section
namespace Go.Proofs.YtdelfhahbngcfaaX.P07
open Go.RowKit Go.Shelf Go.Sort Go.Lib Go.Proofs.Ytdelfhahbngcfaa Go.Proofs.YtdelfhahbngcfaaW.PrintWords Go.Proofs.YtdelfhahbngcfaaW.PrintLast Go.Proofs.YtdelfhahbngcfaaW.PrintMore
set_option linter.unusedVariables false
set_option linter.unusedSimpArgs false
attribute [local go_sem] Oper.semAt_some
theorem k41_flat {W : World} (x : S41) (cs : List Value) (base : Nat) (ok : Nat → Prop) (h : k41.K W x cs) : k41.M W base ok x cs := by
  rw [k41_open h]
  exact k41_mkM _ _ _ _
theorem R41_empty (w : World) : Kd.R k41 41 (w.alloc (.cells #[] 41)) w.heap.size (fun _ => True) (.slice (some ⟨w.heap.size, 0, none⟩) 0 0) [] := by
  refine ⟨fun _ _ => trivial, [], ?_, by simp [Reps]⟩
  exact ⟨by simp, .inr ⟨w.heap.size, 0, #[], rfl, Nat.le_refl _, Go.heap_alloc_new w _, Nat.le_refl _, by simp [maxLen], by simp, by simp⟩⟩
set_option maxRecDepth 100000 in
set_option maxHeartbeats 1000000 in
theorem clone41 (A0 : Option Addr) (c0 : Nat) (l0 : List (S41)) (w : World) (hr0 : Kd.C k41 w A0 l0.length l0) (hc0 : l0.length ≤ c0) (hn : l0.length < 1000000) :
    Calls Try.prog 65 #[.slice A0 l0.length c0] w fun e w' => ∃ v0_ : Value, e = .returned (v0_) ∧ Kd.R k41 41 w' w.heap.size (fun _ => True) v0_ l0 ∧ Below w.heap.size w w' := by
  cases A0 with
  | none =>
    have h0 : l0.length = 0 := by
      rcases Nat.eq_zero_or_pos l0.length with h | h
      · exact h
      · obtain ⟨ad, e, _⟩ := hr0.2.2 h
        cases e
    obtain rfl : l0 = [] := List.eq_nil_of_length_eq_zero h0
    have he : ∀ w : World, (binOp .eql 47 (.slice none 0 c0) (.slice none 0 0)).run Try.prog w = .ok (.bool true) w := fun _ => rfl
    clear hr0 h0
    simp only [List.length_nil]
    go_enter Try.func65, Try.ntmps65
    go_wp2
    go_ret
    exact ⟨_, rfl, Kd.R_nil _ _ _ _ _, Below.refl _ _⟩
  | some a =>
    have he : ∀ w : World, (binOp .eql 47 (.slice (some a) l0.length c0) (.slice none 0 0)).run Try.prog w = .ok (.bool false) w := fun _ => rfl
    have hb0 : Below w.heap.size w (w.alloc (.cells #[] 41)) := (Below.refl _ w).alloc (Nat.le_refl _) _
    have HR := Lib.hid (Kd.C_below hr0 hb0)
    have HE := Lib.hid (R41_empty w); have HB := Lib.hid hb0
    clear hr0 hb0
    go_enter Try.func65, Try.ntmps65
    go_wp2_with (at_builtin; refine Kd.R_append_rows k41 (Rr := k41.K (w.alloc (.cells #[] 41))) (w0 := w) w.heap.size rfl (.tmp 5) (.tmp 6) 47 41 _ 16 rfl Try.underlying47 info41 rfl (by decide) (by decide) _ [] l0 _ _ _ (fun _ => True) (fun _ => False) rfl rfl HE.out HR.out (fun x cs h => k41_flat x cs _ _ h) (fun _ h => h.elim) (fun _ _ => trivial) HB.out HB.out.size (by simp; omega) ?_; intro v1 w1 ho hb hg hat; rw [List.nil_append] at ho; have HO := Lib.hid ho; have HB1 := Lib.hid hb; clear ho hb hg hat)
    go_ret
    exact ⟨_, rfl, HO.out, HB1.out⟩
theorem k60_flat {W : World} (x : S60) (cs : List Value) (base : Nat) (ok : Nat → Prop) (h : k60.K W x cs) : k60.M W base ok x cs := by
  rw [k60_open h]
  exact k60_mkM _ _ _ _
theorem R60_empty (w : World) : Kd.R k60 60 (w.alloc (.cells #[] 60)) w.heap.size (fun _ => True) (.slice (some ⟨w.heap.size, 0, none⟩) 0 0) [] := by
  refine ⟨fun _ _ => trivial, [], ?_, by simp [Reps]⟩
  exact ⟨by simp, .inr ⟨w.heap.size, 0, #[], rfl, Nat.le_refl _, Go.heap_alloc_new w _, Nat.le_refl _, by simp [maxLen], by simp, by simp⟩⟩
set_option maxRecDepth 100000 in
set_option maxHeartbeats 1000000 in
theorem clone60 (A0 : Option Addr) (c0 : Nat) (l0 : List (S60)) (w : World) (hr0 : Kd.C k60 w A0 l0.length l0) (hc0 : l0.length ≤ c0) (hn : l0.length < 1000000) :
    Calls Try.prog 73 #[.slice A0 l0.length c0] w fun e w' => ∃ v0_ : Value, e = .returned (v0_) ∧ Kd.R k60 60 w' w.heap.size (fun _ => True) v0_ l0 ∧ Below w.heap.size w w' := by
  cases A0 with
  | none =>
    have h0 : l0.length = 0 := by
      rcases Nat.eq_zero_or_pos l0.length with h | h
      · exact h
      · obtain ⟨ad, e, _⟩ := hr0.2.2 h
        cases e
    obtain rfl : l0 = [] := List.eq_nil_of_length_eq_zero h0
    have he : ∀ w : World, (binOp .eql 22 (.slice none 0 c0) (.slice none 0 0)).run Try.prog w = .ok (.bool true) w := fun _ => rfl
    clear hr0 h0
    simp only [List.length_nil]
    go_enter Try.func73, Try.ntmps73
    go_wp2
    go_ret
    exact ⟨_, rfl, Kd.R_nil _ _ _ _ _, Below.refl _ _⟩
  | some a =>
    have he : ∀ w : World, (binOp .eql 22 (.slice (some a) l0.length c0) (.slice none 0 0)).run Try.prog w = .ok (.bool false) w := fun _ => rfl
    have hb0 : Below w.heap.size w (w.alloc (.cells #[] 60)) := (Below.refl _ w).alloc (Nat.le_refl _) _
    have HR := Lib.hid (Kd.C_below hr0 hb0)
    have HE := Lib.hid (R60_empty w); have HB := Lib.hid hb0
    clear hr0 hb0
    go_enter Try.func73, Try.ntmps73
    go_wp2_with (at_builtin; refine Kd.R_append_rows k60 (Rr := k60.K (w.alloc (.cells #[] 60))) (w0 := w) w.heap.size rfl (.tmp 5) (.tmp 6) 22 60 _ 24 rfl Try.underlying22 info60 rfl (by decide) (by decide) _ [] l0 _ _ _ (fun _ => True) (fun _ => False) rfl rfl HE.out HR.out (fun x cs h => k60_flat x cs _ _ h) (fun _ h => h.elim) (fun _ _ => trivial) HB.out HB.out.size (by simp; omega) ?_; intro v1 w1 ho hb hg hat; rw [List.nil_append] at ho; have HO := Lib.hid ho; have HB1 := Lib.hid hb; clear ho hb hg hat)
    go_ret
    exact ⟨_, rfl, HO.out, HB1.out⟩
theorem ltD (x y : S41) : ltOf ordD x y = decide (x.f0 < y.f0 ∨ (x.f0 = y.f0 ∧ x.f1 < y.f1)) := by
  unfold ltOf ordD Lib.compareInt
  by_cases h1 : x.f0 < y.f0
  · simp [h1]
  · by_cases h2 : y.f0 < x.f0
    · simp [h1, h2]
      omega
    · have e : x.f0 = y.f0 := by omega
      simp [e]
      by_cases h3 : x.f1 < y.f1
      · simp [h3]
      · by_cases h4 : y.f1 < x.f1 <;> simp [h3, h4]
theorem swoD : SWO (ltOf ordD) where
  irrefl x := by rw [ltD]; simp
  trans x y z h1 h2 := by rw [ltD] at *; simp at *; omega
  ntrans x y z h1 h2 := by rw [ltD] at *; simp at *; omega
theorem totD (x y : S41) (h1 : ltOf ordD x y = false) (h2 : ltOf ordD y x = false) : x = y := by
  rw [ltD] at h1 h2
  simp at h1 h2
  cases x; cases y
  simp only [S41.mk.injEq]
  simp only [] at h1 h2
  omega
def srt (l : List S41) : List S41 := l.mergeSort fun x y => !(ltOf ordD) y x
def sortV (l : List S41) : List S41 := compactUpTo (srt l).toArray (srt l).length
theorem sort66 (g cap : Nat) (l : List S41) (w : World) (cur : Array Value) (hb : Ytdelfhahbngcfaa.Blk w g 41 cur) (hs : cur.size = cap * 2) (hl : l.length ≤ cap) (ht : cur.toList.take (l.length * 2) = l.flatMap c41) (hn : l.length < 1000000) :
    Calls Try.prog 66 #[.slice (some ⟨g, 0, none⟩) l.length cap, .func (.func 67) #[] #[]] w fun e w' => e = .returned (.tuple #[]) ∧ RowB w' g cap (srt l).toArray ∧ Ch (fun k => k = g) w w' := by
  have hlt := Ytdelfhahbngcfaa.blk_lt hb
  have get : ∀ j, j < l.length → ∀ c, c < 2 → cur[j * 2 + c]? = (c41 l[j]!)[c]? := by
    intro j hj c hc
    have h1 : (cur.toList.take (l.length * 2))[j * 2 + c]? = cur[j * 2 + c]? := by
      rw [List.getElem?_take, if_pos (by omega)]; simp
    rw [← h1, ht]
    clear h1 ht hb hs hl hn
    induction l generalizing j with
    | nil => exact absurd hj (by simp)
    | cons x r ih =>
      rw [List.flatMap_cons]
      cases j with
      | zero =>
        rw [List.getElem?_append_left (by simp [c41]; omega)]
        simp
      | succ j =>
        rw [List.getElem?_append_right (by simp [c41]; omega), show (j + 1) * 2 + c - (c41 x).length = j * 2 + c by simp [c41]; omega, ih j (by simpa using hj)]
        simp
  have hH : HoldsK c41 2 w g 0 l.toArray := by
    intro t ht2
    rw [size_flatK, List.size_toArray] at ht2
    have hj : t / 2 < l.length := by omega
    refine ⟨?_, Ytdelfhahbngcfaa.blk_thawed hb _⟩
    rw [get_flatK _ _ _ _ (by simpa using ht2), Nat.zero_add]
    have := get (t / 2) hj (t % 2) (by omega)
    rw [show t / 2 * 2 + t % 2 = t by omega] at this
    refine Ytdelfhahbngcfaa.blk_cell hb t _ (this.trans ?_)
    have e : l.toArray[t / 2]! = l[t / 2]! := by simp
    rw [e]
    have : t % 2 = 0 ∨ t % 2 = 1 := by omega
    rcases this with e2 | e2 <;> rw [e2] <;> rfl
  have eg : ∀ args w, (callFunc 67 args).run Try.prog w = .ok (.enter 67 args) w := enters_of Try.func67 (by kernel_rfl) rfl
  have hcmp : CmpLays Try.prog 67 #[] c41 2 ordD g 0 l.toArray.size w := fun m os dk hs x y => order_any x y _
  have hcon := AnyQ.slices_SortFunc_total sortDot 2 Try.isAgg41 Try.sizeOf41 c41 (fun _ => rfl) (fun x v hv => by simp [c41] at hv; rcases hv with rfl | rfl <;> rfl) ordD swoD 67 #[] g 0 cap l.toArray w eg hcmp hH hlt (by simp; omega) totD
  change Calls Try.prog 66 _ _ _ at hcon
  refine hcon.mono ?_
  rintro e w' ⟨rfl, n, os, rfl⟩
  refine ⟨rfl, ?_, ?_⟩
  · have hlen : (srt l).length = l.length := List.length_mergeSort _
    refine ⟨putCells id 0 (flatK c41 2 (srt l).toArray) cur, ?_, by simp [putCells, hs], fun j hj => ?_⟩
    · show (sortWorldK c41 2 w g 0 n (srt l).toArray os).heap[g]? = _
      unfold sortWorldK putRowK
      rw [heap_grow_old _ _ (by simpa [putRow, mapBlock, Sort.ahead] using hlt)]
      have hb' : w.heap[g]? = some (.cells cur 41 (0, 0)) := hb
      simp [putRow, mapBlock, Sort.ahead, Array.getElem?_modify, hb', onCells]
    · have hj2 : j < (srt l).length := by simpa using hj
      have hz : (flatK c41 2 (srt l).toArray).size = (srt l).length * 2 := by simp
      have at_ : ∀ c, c < 2 → (putCells id 0 (flatK c41 2 (srt l).toArray) cur)[j * 2 + c]? = some ((c41 (srt l).toArray[j]!)[c]!) := fun c hc => by
        unfold putCells
        rw [Array.getElem?_mapIdx, Array.getElem?_eq_getElem (show j * 2 + c < cur.size by omega)]
        simp only [Option.map_some]
        rw [if_pos (by omega), Nat.sub_zero, id, get_flatK _ _ _ _ (by simpa using (show j * 2 + c < (srt l).length * 2 by omega))]
        rw [show (j * 2 + c) / 2 = j by omega, show (j * 2 + c) % 2 = c by omega]
      exact ⟨at_ 0 (by omega), at_ 1 (by omega)⟩
  · refine ⟨rfl, rfl, rfl, ?_, fun k hk hn => ?_⟩
    · simp [sortWorldK, putRowK, putRow, mapBlock, Sort.ahead]
    · unfold sortWorldK putRowK
      rw [heap_grow_old _ _ (by simpa [putRow, mapBlock, Sort.ahead] using hk)]
      have : g ≠ k := fun e => hn e.symm
      simp [putRow, mapBlock, Sort.ahead, Array.getElem?_modify, this]
theorem compact_nil (A : Option Addr) (c : Nat) (w : World) : Calls Try.prog 68 #[.slice A 0 c] w fun e w' => e = .returned (.slice A 0 c) ∧ w = w' := by
  go_enter Try.func68, Try.ntmps68
  go_wp2
  go_ret
  exact ⟨rfl, rfl⟩
theorem c41_len (l : List S41) : (l.flatMap c41).length = l.length * 2 := by
  induction l with
  | nil => rfl
  | cons x r ih => rw [List.flatMap_cons, List.length_append, ih]; simp [c41]; omega
theorem reps41 : ∀ (l : List S41) (w : World) (base : Nat) (ok : Nat → Prop), Reps (k41.M w base ok) 2 l (l.flatMap c41)
  | [], _, _, _ => Reps.none _ _
  | x :: t, w, base, ok => Reps.front (k41_mkM _ _ _ x) rfl (reps41 t w base ok) rfl
theorem R_of_row {w : World} {base g cap : Nat} {l : List S41} (hb : base ≤ g) (h : RowB w g cap l.toArray) (hl : l.length ≤ cap) (hc : cap ≤ maxLen) : Kd.R k41 41 w base (fun _ => True) (.slice (some ⟨g, 0, none⟩) l.length cap) l := by
  obtain ⟨cur, b1, b2, b3⟩ := h
  refine ⟨fun _ _ => trivial, l.flatMap c41, ⟨c41_len l, .inr ⟨g, cap, cur, rfl, hb, b1, hl, hc, b2, ?_⟩⟩, reps41 l _ _ _⟩
  apply List.ext_getElem?
  intro t
  by_cases ht : t < l.length * 2
  · show (cur.toList.take (l.length * 2))[t]? = _
    rw [List.getElem?_take, if_pos ht, Array.getElem?_toList]
    obtain ⟨q0, q1⟩ := b3 (t / 2) (by simp; omega)
    have e : l.toArray[t / 2]! = l[t / 2]! := by simp
    rw [e] at q0 q1
    have key : ∀ (l : List S41) (j c : Nat), j < l.length → c < 2 → (l.flatMap c41)[j * 2 + c]? = (c41 l[j]!)[c]? := by
      intro l
      induction l with
      | nil => exact fun j c hj _ => absurd hj (by simp)
      | cons x r ih =>
        intro j c hj hc
        rw [List.flatMap_cons]
        cases j with
        | zero =>
          rw [List.getElem?_append_left (by simp [c41]; omega)]
          simp
        | succ j =>
          rw [List.getElem?_append_right (by simp [c41]; omega), show (j + 1) * 2 + c - (c41 x).length = j * 2 + c by simp [c41]; omega, ih j c (by simpa using hj) hc]
          simp
    have k2 := key l (t / 2) (t % 2) (by omega) (by omega)
    rw [show t / 2 * 2 + t % 2 = t by omega] at k2
    rw [k2]
    have : t % 2 = 0 ∨ t % 2 = 1 := by omega
    rcases this with e2 | e2
    · rw [show t / 2 * 2 = t by omega] at q0; rw [e2, q0]; rfl
    · rw [show t / 2 * 2 + 1 = t by omega] at q1; rw [e2, q1]; rfl
  · show (cur.toList.take (l.length * 2))[t]? = _
    rw [List.getElem?_eq_none (by simp; omega), List.getElem?_eq_none (by rw [c41_len]; omega)]
theorem row_of_R {w : World} {base : Nat} {v : Value} {l : List S41} (h : Kd.R k41 41 w base (fun _ => True) v l) : (v = .slice none 0 0 ∧ l = []) ∨
    ∃ g cap cur, v = .slice (some ⟨g, 0, none⟩) l.length cap ∧ base ≤ g ∧ Ytdelfhahbngcfaa.Blk w g 41 cur ∧ l.length ≤ cap ∧ cap ≤ maxLen ∧ cur.size = cap * 2 ∧ cur.toList.take (l.length * 2) = l.flatMap c41 := by
  obtain ⟨_, inner, ho, hr⟩ := h
  rcases ho.2 with ⟨rfl, h0⟩ | ⟨g, cap, cur, rfl, h2, h3, h4, h5, h6, h7⟩
  · exact .inl ⟨rfl, List.eq_nil_of_length_eq_zero h0⟩
  · refine .inr ⟨g, cap, cur, rfl, h2, h3, h4, h5, h6, h7.trans ?_⟩
    have key : ∀ (l : List S41) (cs : List Value) (ok : Nat → Prop), Reps (k41.M w base ok) 2 l cs → cs = l.flatMap c41 := by
      intro l
      induction l with
      | nil => exact fun cs ok h => List.eq_nil_of_length_eq_zero (by simpa using h.1)
      | cons x r ih =>
        intro cs ok h
        have h0 := h.2 0 x rfl
        have hl := h.1
        rw [Nat.zero_mul, List.drop_zero] at h0
        have e0 := k41_openM h0
        have hr : Reps (k41.M w base ok) 2 r (cs.drop 2) := ⟨by rw [List.length_drop, hl, List.length_cons]; omega, fun j p hp => by
          have := h.2 (j + 1) p (by simpa using hp)
          rw [List.drop_drop]
          rwa [show 2 + j * 2 = (j + 1) * 2 by omega]⟩
        have e1 := ih _ ok hr
        rw [List.flatMap_cons, ← e1]
        conv => lhs; rw [← List.take_append_drop 2 cs, e0]
        rfl
    exact key l inner _ hr
def dot_Sort.f (l0 : List S41) : Option (List S41) := if l0.length < 1000000 then some (sortV l0) else none
set_option maxHeartbeats 2000000 in
theorem dot_Sort.calls (A0 : Option Addr) (c0 : Nat) (l0 : List (S41)) (r : List S41) (w : World) (hr0 : Kd.C k41 w A0 l0.length l0) (hc0 : l0.length ≤ c0) (h : dot_Sort.f l0 = some r) :
    Calls Try.prog 45 #[.slice A0 l0.length c0] w fun e w' => ∃ v0_ : Value, e = .returned (v0_) ∧ Kd.R k41 41 w' w.heap.size (fun _ => True) v0_ r ∧ Below w.heap.size w w' := by
  unfold dot_Sort.f at h
  by_cases hn : l0.length < 1000000
  rotate_left
  · rw [if_neg hn] at h; cases h
  rw [if_pos hn] at h
  obtain rfl := Option.some.inj h
  have HC := Lib.hid (clone41 A0 c0 l0 w hr0 hc0 hn)
  have HREST := Lib.hid (show ∀ (v : Value) (w1 : World), Kd.R k41 41 w1 w.heap.size (fun _ => True) v l0 → Below w.heap.size w w1 →
      Calls Try.prog 66 #[v, .func (.func 67) #[] #[]] w1 fun e w2 => e = .returned (.tuple #[]) ∧ Calls Try.prog 68 #[v] w2 fun e w' => ∃ v0_ : Value, e = .returned v0_ ∧ Kd.R k41 41 w' w.heap.size (fun _ => True) v0_ (sortV l0) ∧ Below w.heap.size w w' from fun v w1 ho hb1 => by
    rcases row_of_R ho with ⟨rfl, rfl⟩ | ⟨g, cap, cur, rfl, hg, hb, hl, hcm, hs, ht⟩
    · refine (AnyF.slices_SortFunc_none sortDot none 0 _ w1).mono ?_
      rintro e w2 ⟨rfl, rfl⟩
      refine ⟨rfl, (compact_nil none 0 w2).mono ?_⟩
      rintro e w3 ⟨rfl, rfl⟩
      exact ⟨_, rfl, by simpa [sortV, srt, compactUpTo] using Kd.R_nil _ _ _ _ _, hb1⟩
    · refine (sort66 g cap l0 w1 cur hb hs hl ht hn).mono ?_
      rintro e w2 ⟨rfl, hrow, hch⟩
      refine ⟨rfl, ?_⟩
      have hlen : (srt l0).length = l0.length := List.length_mergeSort _
      have hsz : (srt l0).toArray.size = l0.length := by simpa using hlen
      have := compact_any g cap (srt l0).toArray w2 hrow (by omega) (by simpa only [maxLen] using hcm)
      rw [hsz] at this
      refine this.mono ?_
      rintro e w3 ⟨rfl, hrow2, hch2⟩
      have hle : (compactUpTo (srt l0).toArray (srt l0).length).length ≤ l0.length := by
        unfold compactUpTo
        rw [List.length_map]
        exact Nat.le_trans (List.length_filter_le _ _) (by simp [hlen])
      refine ⟨_, rfl, ?_, ?_⟩
      · have := R_of_row (l := sortV l0) hg (by unfold sortV; rw [hlen]; exact hrow2) (by unfold sortV; omega) hcm
        unfold sortV at this ⊢
        rw [hlen] at this ⊢
        exact this
      · have h3 := hch.trans hch2 (fun _ h => .inl h)
        have h4 := h3.below (B := w.heap.size) hb1.size (fun k hk => by rw [hk]; exact hg)
        exact hb1.trans h4)
  clear hr0 h
  go_enter Try.func45, Try.ntmps45
  go_wp2_with first | (go_at_call 65; refine HC.out.mono ?_; rintro e w1 ⟨v1, rfl, ho, hb⟩; have HS := Lib.hid (HREST.out v1 w1 ho hb); clear ho hb) | (go_at_call 66; refine HS.out.mono ?_; rintro e w2 ⟨rfl, hcm⟩; have HCM := Lib.hid hcm; clear hcm) | (go_at_call 68; refine HCM.out.mono ?_; rintro e w3 ⟨v3, rfl, ho, hb⟩; have HO := Lib.hid ho; have HB := Lib.hid hb; clear ho hb)
  go_ret
  exact ⟨_, rfl, HO.out, HB.out⟩
end Go.Proofs.YtdelfhahbngcfaaX.P07
end
section
namespace Go.Proofs.YtdelfhahbngcfaaX.P07
open Go.RowKit Go.Shelf Go.Sort Go.Lib Go.Proofs.Ytdelfhahbngcfaa Go.Proofs.YtdelfhahbngcfaaW.PrintWords Go.Proofs.YtdelfhahbngcfaaW.PrintLast Go.Proofs.YtdelfhahbngcfaaW.PrintMore
set_option linter.unusedVariables false
set_option linter.unusedSimpArgs false
attribute [local go_sem] Oper.semAt_some
def c60 (x : S60) : List Value := [.int .i64 x.f0, .int .i64 x.f1, .int .i64 x.f2]
def Own60 (w : World) (base : Nat) (v : Value) (xs : List S60) : Prop := w.ownsRow base 60 3 v xs.length (xs.flatMap c60)
theorem c60_len (l : List S60) : (l.flatMap c60).length = l.length * 3 := by
  induction l with
  | nil => rfl
  | cons x r ih => rw [List.flatMap_cons, List.length_append, ih]; simp [c60]; omega
theorem reps60 : ∀ (l : List S60) (w : World) (base : Nat) (ok : Nat → Prop), Reps (k60.M w base ok) 3 l (l.flatMap c60)
  | [], _, _, _ => Reps.none _ _
  | x :: t, w, base, ok => Reps.front (k60_mkM _ _ _ x) rfl (reps60 t w base ok) rfl
theorem R_of_own {w : World} {base : Nat} {v : Value} {l : List S60} (h : Own60 w base v l) : Kd.R k60 60 w base (fun _ => True) v l := ⟨fun _ _ => trivial, l.flatMap c60, h, reps60 l _ _ _⟩
theorem own_of_R {w : World} {base : Nat} {v : Value} {l : List S60} {ok : Nat → Prop} (h : Kd.R k60 60 w base ok v l) : Own60 w base v l := by
  obtain ⟨_, inner, ho, hr⟩ := h
  have key : ∀ (l : List S60) (cs : List Value) (ok : Nat → Prop), Reps (k60.M w base ok) 3 l cs → cs = l.flatMap c60 := by
    intro l
    induction l with
    | nil => exact fun cs ok h => List.eq_nil_of_length_eq_zero (by simpa using h.1)
    | cons x r ih =>
      intro cs ok h
      have h0 := h.2 0 x rfl
      have hl := h.1
      rw [Nat.zero_mul, List.drop_zero] at h0
      have e0 := k60_openM h0
      have hr : Reps (k60.M w base ok) 3 r (cs.drop 3) := ⟨by rw [List.length_drop, hl, List.length_cons]; omega, fun j p hp => by
        have := h.2 (j + 1) p (by simpa using hp)
        rw [List.drop_drop]
        rwa [show 3 + j * 3 = (j + 1) * 3 by omega]⟩
      have e1 := ih _ ok hr
      rw [List.flatMap_cons, ← e1]
      conv => lhs; rw [← List.take_append_drop 3 cs, e0]
      rfl
  have e := key l inner _ hr
  unfold Own60
  rw [← e]
  exact ho
theorem own_cells {w : World} {base : Nat} {v : Value} {l : List S60} (h : Own60 w base v l) (h0 : 0 < l.length) : ∃ g cap cur, v = .slice (some ⟨g, 0, none⟩) l.length cap ∧ base ≤ g ∧ Ytdelfhahbngcfaa.Blk w g 60 cur ∧ l.length ≤ cap ∧ cap ≤ maxLen ∧ cur.size = cap * 3 ∧
    ∀ j, j < l.length → cur[j * 3]? = some (.int .i64 (rd_T60 l (j : Int)).f0) ∧ cur[j * 3 + 1]? = some (.int .i64 (rd_T60 l (j : Int)).f1) ∧ cur[j * 3 + 2]? = some (.int .i64 (rd_T60 l (j : Int)).f2) := by
  rcases h.2 with ⟨_, h1⟩ | ⟨g, cap, cur, rfl, h2, h3, h4, h5, h6, h7⟩
  · omega
  · refine ⟨g, cap, cur, rfl, h2, h3, h4, h5, h6, fun j hj => ?_⟩
    have at_ : ∀ c, c < 3 → cur[j * 3 + c]? = (c60 (rd_T60 l (j : Int)))[c]? := fun c hc => by
      have h1 : (cur.toList.take (l.length * 3))[j * 3 + c]? = cur[j * 3 + c]? := by
        rw [List.getElem?_take, if_pos (by omega)]; simp
      rw [← h1, h7, flat_get c60 3 l (fun _ _ => rfl) j c hc]
      unfold rd_T60
      simp [List.getD_eq_getElem?_getD, hj]
    exact ⟨at_ 0 (by omega), at_ 1 (by omega), at_ 2 (by omega)⟩
def addV (out : List S60) (x : S60) : List S60 :=
  if 0 < out.length ∧ (rd_T60 out ((out.length : Int) - 1)).f0 = x.f0 ∧ wrap64 ((rd_T60 out ((out.length : Int) - 1)).f2 + 1) = x.f1 then
    out.dropLast ++ [⟨(rd_T60 out ((out.length : Int) - 1)).f0, (rd_T60 out ((out.length : Int) - 1)).f1, x.f2⟩]
  else out ++ [x]
def Swp (w : World) (B : Nat) (va vb vk vo : Value) : Prop := Ytdelfhahbngcfaa.Blk w B 76 #[va, vb, vk, vo]
def AddQ (w : World) (base B : Nat) (va vb vk vo : Value) (out : List S60) (e : Ending) (w' : World) : Prop :=
  e = .returned (.tuple #[]) ∧ ∃ vo', Swp w' B va vb vk vo' ∧ Own60 w' base vo' out ∧ Ch (fun k => k = B ∨ vo.ownBlock = some k) w w' ∧ (vo'.ownBlock = vo.ownBlock ∨ ∃ k, vo'.ownBlock = some k ∧ w.heap.size ≤ k)
set_option maxRecDepth 100000 in
set_option maxHeartbeats 4000000 in
theorem add_new (base B : Nat) (va vb vk vo : Value) (out : List S60) (x : S60) (w : World) (hB : Swp w B va vb vk vo) (ho : Own60 w base vo out) (hbase : base ≤ B) (hn : out.length < 1000000)
    (hno : ¬ (0 < out.length ∧ (rd_T60 out ((out.length : Int) - 1)).f0 = x.f0 ∧ wrap64 ((rd_T60 out ((out.length : Int) - 1)).f2 + 1) = x.f1)) :
    Calls Try.prog 60 #[.pointer (some ⟨B, 0, none⟩), .agg #[.int .i64 x.f0, .int .i64 x.f1, .int .i64 x.f2]] w (AddQ w base B va vb vk vo (out ++ [x])) := by
  have hBl := Ytdelfhahbngcfaa.blk_lt hB
  obtain ⟨V, hV⟩ : ∃ V, V = w.alloc (.cells #[.int .i64 x.f0, .int .i64 x.f1, .int .i64 x.f2] 60) := ⟨_, rfl⟩
  have hb : Below w.heap.size w V := by rw [hV]; exact (Below.refl _ w).alloc (Nat.le_refl _) _
  have hX : Ytdelfhahbngcfaa.Blk V w.heap.size 60 #[.int .i64 x.f0, .int .i64 x.f1, .int .i64 x.f2] := by rw [hV]; exact Ytdelfhahbngcfaa.blk_new w 60 _
  have hBV : Swp V B va vb vk vo := Ytdelfhahbngcfaa.blk_below hB hb
  have hoV : Own60 V base vo out := own_ch ho (Ch.of_below hb No) (fun _ _ => id)
  have x0 := Ytdelfhahbngcfaa.blk_cell hX 0 _ rfl
  have x1 := Ytdelfhahbngcfaa.blk_cell hX 1 _ rfl
  have x2 := Ytdelfhahbngcfaa.blk_cell hX 2 _ rfl
  have b3 := Ytdelfhahbngcfaa.blk_cell hBV 3 _ rfl
  have f3 := Ytdelfhahbngcfaa.blk_thawed hBV 3
  have hsz : V.heap.size = w.heap.size + 1 := by rw [hV]; simp
  obtain ⟨A, c, rfl, hrd, _⟩ := own_form ho
  have HO := Lib.hid hoV; have HB := Lib.hid hBV
  have HNE := Lib.hid (show ∀ k, (Value.slice A out.length c).ownBlock = some k → k ≠ B ∧ k < w.heap.size from fun k hk => by
    have h1 := ho.lt k hk
    refine ⟨fun e => ?_, h1.2⟩
    rcases ho.2 with ⟨h2, _⟩ | ⟨g, cap, cur, h2, h3, h4, _⟩
    · injection h2 with e1 _ _
      rw [e1] at hk; simp [Value.ownBlock] at hk
    · injection h2 with e1 _ _
      rw [e1] at hk
      have e2 : g = k := by simpa [Value.ownBlock] using hk
      rw [e2, e] at h4
      have h5 : w.heap[B]? = some (.cells #[va, vb, vk, .slice A out.length c] 76 (0, 0)) := hB
      rw [h4] at h5
      cases h5)
  have HBS := Lib.hid (show ∀ q : Nat, base ≤ (V.drewN q).drew.heap.size from fun q => by show base ≤ V.heap.size; omega)
  have HOD := Lib.hid (show ∀ q : Nat, Own60 (V.drewN q).drew base (.slice A out.length c) out from fun q => own_ch hoV (w' := (V.drewN q).drew) ⟨rfl, rfl, rfl, Nat.le_refl _, fun _ _ _ => rfl⟩ (S := No) (fun _ _ => id))
  have HS := Lib.hid (show ∀ W, Ch (fun k => (Value.slice A out.length c).ownBlock = some k) V W → W.cell? ⟨B, 3, none⟩ = some (.slice A out.length c) ∧ W.cell? ⟨w.heap.size, 0, none⟩ = some (.int .i64 x.f0) ∧ W.cell? ⟨w.heap.size, 1, none⟩ = some (.int .i64 x.f1) ∧ W.cell? ⟨w.heap.size, 2, none⟩ = some (.int .i64 x.f2) from fun W hW => by
    have hB' := Ytdelfhahbngcfaa.blk_ch hBV hW (fun e => (HNE.out B e).1 rfl)
    have hX' := Ytdelfhahbngcfaa.blk_ch hX hW (fun e => by have := (HNE.out _ e).2; omega)
    exact ⟨Ytdelfhahbngcfaa.blk_cell hB' 3 _ rfl, Ytdelfhahbngcfaa.blk_cell hX' 0 _ rfl, Ytdelfhahbngcfaa.blk_cell hX' 1 _ rfl, Ytdelfhahbngcfaa.blk_cell hX' 2 _ rfl⟩)
  have HB6 := Lib.hid (show ∀ W, Ch (fun k => (Value.slice A out.length c).ownBlock = some k) V W → W.frozen? ⟨B, 3, none⟩ = false from fun W hW => Ytdelfhahbngcfaa.blk_thawed (Ytdelfhahbngcfaa.blk_ch hBV hW (fun e => (HNE.out B e).1 rfl)) 3)
  have HFIN := Lib.hid (show ∀ (v2 : Value) (W : World), W.ownsRow base 60 3 v2 (out.length + 1) (out.flatMap c60 ++ [.int .i64 x.f0, .int .i64 x.f1, .int .i64 x.f2]) → Ch (fun k => (Value.slice A out.length c).ownBlock = some k) V W → (v2.ownBlock = (Value.slice A out.length c).ownBlock ∨ v2.ownBlock = some (V.drew.heap.size + 1)) →
      AddQ w base B va vb vk (.slice A out.length c) (out ++ [x]) (.returned (.tuple #[])) (W.setCell ⟨B, 3, none⟩ v2) from fun v2 W h1 h2 h3 => by
    have hB' := Ytdelfhahbngcfaa.blk_ch hBV h2 (fun e => (HNE.out B e).1 rfl)
    have hne : ∀ k, v2.ownBlock = some k → k ≠ B := fun k hk => by
      rcases h3 with e | e
      · exact (HNE.out k (e ▸ hk)).1
      · rw [e] at hk
        have : V.drew.heap.size + 1 = k := by simpa using hk
        have : V.drew.heap.size = V.heap.size := rfl
        omega
    refine ⟨rfl, v2, Ytdelfhahbngcfaa.blk_set hB' 3 v2, ?_, ?_, ?_⟩
    · have : Own60 W base v2 (out ++ [x]) := by
        unfold Own60
        rw [List.length_append, List.flatMap_append]
        simpa [c60] using h1
      exact own_ch this (Ch.setCell W ⟨B, 3, none⟩ v2) (fun k hk => hne k hk)
    · exact ((Ch.of_below hb (fun k => k = B ∨ (Value.slice A out.length c).ownBlock = some k)).trans h2 (fun k h => .inl (.inr h))).trans (Ch.setCell W ⟨B, 3, none⟩ v2) (fun k h => .inl (.inl h))
    · rcases h3 with e | e
      · exact .inl e
      · exact .inr ⟨_, e, by have : V.drew.heap.size = V.heap.size := rfl; omega⟩)
  have HQ := Lib.hid (show ∀ (q : Nat) (W6 : World), Ch (fun k => (Value.slice A out.length c).ownBlock = some k) (V.drewN q).drew W6 → Ch (fun k => (Value.slice A out.length c).ownBlock = some k) V W6 from fun q W6 h => ⟨h.os, h.tape, h.output, h.size, h.block⟩)
  have HAL := Lib.hid (show ∀ (q : Nat) (o : Obj), Ch (fun k => (Value.slice A out.length c).ownBlock = some k) V ((V.drewN q).drew.alloc o) from fun q o => HQ.out q _ (by have := Ch.alloc (V.drewN q).drew o No; exact ⟨this.os, this.tape, this.output, this.size, fun k hk _ => this.block k hk (fun h => h.elim)⟩))
  have HLAST := Lib.hid (show 0 < out.length → ∃ g cap, A = some ⟨g, 0, none⟩ ∧ c = cap ∧ V.cell? ⟨g, (out.length - 1) * 3, none⟩ = some (.int .i64 (rd_T60 out ((out.length : Int) - 1)).f0) ∧ V.cell? ⟨g, (out.length - 1) * 3 + 2, none⟩ = some (.int .i64 (rd_T60 out ((out.length : Int) - 1)).f2) from fun hp => by
    obtain ⟨g, cap, cur, e, g2, g3, g4, g5, g6, g7⟩ := own_cells hoV hp
    injection e with e1 _ e3
    obtain ⟨q0, _, q2⟩ := g7 (out.length - 1) (by omega)
    rw [show (((out.length - 1 : Nat)) : Int) = (out.length : Int) - 1 by omega] at q0 q2
    exact ⟨g, cap, e1, e3, Ytdelfhahbngcfaa.blk_cell g3 _ _ q0, Ytdelfhahbngcfaa.blk_cell g3 _ _ q2⟩)
  clear hoV hBV hX hb hrd HO HB ho hB
  subst hV
  by_cases h0 : out.length = 0
  · have e0 : out = [] := List.eq_nil_of_length_eq_zero h0
    subst e0
    simp only [List.length_nil, List.flatMap_nil] at *
    go_enter Try.func60, Try.ntmps60
    go_wp2_with fail
    have b3a : ((w.alloc (.cells #[.int .i64 x.f0, .int .i64 x.f1, .int .i64 x.f2] 60)).drew.alloc (.cells #[.int .i64 x.f0, .int .i64 x.f1, .int .i64 x.f2] 60)).cell? ⟨B, 3, none⟩ = some (.slice A 0 c) := (HS.out _ (HAL.out 0 (.cells #[.int .i64 x.f0, .int .i64 x.f1, .int .i64 x.f2] 60))).1
    go_region_law (refine step_add2 (w.alloc (.cells #[.int .i64 x.f0, .int .i64 x.f1, .int .i64 x.f2] 60)).drew rfl (.tmp 46) (.tmp 48) 22 rfl base 60 _ 3 24 Try.underlying22 info60 rfl (by decide) (.slice A 0 c) 0 [] (by rfl) (HOD.out 0) #[.int .i64 x.f0, .int .i64 x.f1, .int .i64 x.f2] 60 (by simp [Act.eval, Act.put]) rfl (by simp [Value.oneCell']) (by first | (simp [maxLen]; done) | (simp [maxLen]; omega)) (by omega) (HBS.out 0) ?_; intro v2 W6 hown2 hnn2 hch2 hat2; obtain ⟨A2, c2, rfl, -, -⟩ := own_form hown2; have HC6 := Lib.hid (HQ.out 0 _ hch2); have HOWN := Lib.hid hown2; have HAT := Lib.hid hat2; have b6 := HB6.out _ HC6.out; have q6 := (HS.out _ HC6.out).1; clear hown2 hnn2 hch2 hat2)
    all_goals exact bodyPost_end (results_none rfl _ _ _) rfl (HFIN.out _ _ HOWN.out HC6.out HAT.out)
  · obtain ⟨g, cap, rfl, rfl, l0, l2⟩ := HLAST.out (by omega)
    obtain ⟨la, hla⟩ : ∃ la, la = rd_T60 out ((out.length : Int) - 1) := ⟨_, rfl⟩
    rw [← hla] at l0 l2 hno
    have hNp : 0 < out.length := by omega
    by_cases h1 : la.f0 = x.f0
    · have h2 : wrap64 (la.f2 + 1) ≠ x.f1 := fun e => hno ⟨hNp, h1, e⟩
      have k1 : (la.f0 == x.f0) = true := by simpa using h1
      have k2 : (IntKind.i64.wrap (la.f2 + 1) == x.f1) = false := by rw [i64_w]; simpa using h2
      clear hno h1 h2 hla
      go_enter Try.func60, Try.ntmps60
      go_wp2_with fail
      go_region_held3 (fun W => W.cell? ⟨g, (out.length - 1) * 3, none⟩ = some (.int .i64 la.f0) ∧ W.cell? ⟨g, (out.length - 1) * 3 + 2, none⟩ = some (.int .i64 la.f2) ∧ W.cell? ⟨w.heap.size, 0, none⟩ = some (.int .i64 x.f0) ∧ W.cell? ⟨w.heap.size, 1, none⟩ = some (.int .i64 x.f1))
        (first | exact ⟨l0, l2, x0, x1⟩)
        (first | (go_at_call 999; skip))
      go_wp2_with fail
      have b3a : ((w.alloc (.cells #[.int .i64 x.f0, .int .i64 x.f1, .int .i64 x.f2] 60)).drew.drew.alloc (.cells #[.int .i64 x.f0, .int .i64 x.f1, .int .i64 x.f2] 60)).cell? ⟨B, 3, none⟩ = some (.slice (some ⟨g, 0, none⟩) out.length c) := (HS.out _ (HAL.out 1 (.cells #[.int .i64 x.f0, .int .i64 x.f1, .int .i64 x.f2] 60))).1
      go_region_law (refine step_add2 (w.alloc (.cells #[.int .i64 x.f0, .int .i64 x.f1, .int .i64 x.f2] 60)).drew.drew rfl (.tmp 46) (.tmp 48) 22 rfl base 60 _ 3 24 Try.underlying22 info60 rfl (by decide) (.slice (some ⟨g, 0, none⟩) out.length c) out.length (out.flatMap c60) (by rfl) (HOD.out 1) #[.int .i64 x.f0, .int .i64 x.f1, .int .i64 x.f2] 60 (by simp [Act.eval, Act.put]) rfl (by simp [Value.oneCell']) (by first | (simp [maxLen]; done) | (simp [maxLen]; omega)) (by omega) (HBS.out 1) ?_; intro v2 W6 hown2 hnn2 hch2 hat2; obtain ⟨A2, c2, rfl, -, -⟩ := own_form hown2; have HC6 := Lib.hid (HQ.out 1 _ hch2); have HOWN := Lib.hid hown2; have HAT := Lib.hid hat2; have b6 := HB6.out _ HC6.out; have q6 := (HS.out _ HC6.out).1; clear hown2 hnn2 hch2 hat2)
      all_goals exact bodyPost_end (results_none rfl _ _ _) rfl (HFIN.out _ _ HOWN.out HC6.out HAT.out)
    · have k1 : (la.f0 == x.f0) = false := by simpa using h1
      clear hno h1 hla
      go_enter Try.func60, Try.ntmps60
      go_wp2_with fail
      repeat (go_quiet (fail); try go_wp2_with fail)
      have b3a : (((w.alloc (.cells #[.int .i64 x.f0, .int .i64 x.f1, .int .i64 x.f2] 60)).drewN nq).drew.alloc (.cells #[.int .i64 x.f0, .int .i64 x.f1, .int .i64 x.f2] 60)).cell? ⟨B, 3, none⟩ = some (.slice (some ⟨g, 0, none⟩) out.length c) := (HS.out _ (HAL.out nq (.cells #[.int .i64 x.f0, .int .i64 x.f1, .int .i64 x.f2] 60))).1
      go_region_law (refine step_add2 ((w.alloc (.cells #[.int .i64 x.f0, .int .i64 x.f1, .int .i64 x.f2] 60)).drewN nq).drew rfl (.tmp 46) (.tmp 48) 22 rfl base 60 _ 3 24 Try.underlying22 info60 rfl (by decide) (.slice (some ⟨g, 0, none⟩) out.length c) out.length (out.flatMap c60) (by rfl) (HOD.out nq) #[.int .i64 x.f0, .int .i64 x.f1, .int .i64 x.f2] 60 (by simp [Act.eval, Act.put]) rfl (by simp [Value.oneCell']) (by first | (simp [maxLen]; done) | (simp [maxLen]; omega)) (by omega) (HBS.out nq) ?_; intro v2 W6 hown2 hnn2 hch2 hat2; obtain ⟨A2, c2, rfl, -, -⟩ := own_form hown2; have HC6 := Lib.hid (HQ.out nq _ hch2); have HOWN := Lib.hid hown2; have HAT := Lib.hid hat2; have b6 := HB6.out _ HC6.out; have q6 := (HS.out _ HC6.out).1; clear hown2 hnn2 hch2 hat2)
      all_goals exact bodyPost_end (results_none rfl _ _ _) rfl (HFIN.out _ _ HOWN.out HC6.out HAT.out)
theorem last_eq (out : List S60) (h : out ≠ []) : rd_T60 out ((out.length : Int) - 1) = out.getLast h := by
  unfold rd_T60
  have : 0 < out.length := List.length_pos_iff.2 h
  rw [show ((out.length : Int) - 1).toNat = out.length - 1 by omega, List.getD_eq_getElem?_getD, List.getElem?_eq_getElem (by omega), List.getLast_eq_getElem]
  rfl
theorem own_last {w : World} {base g c : Nat} {out : List S60} (h : Own60 w base (.slice (some ⟨g, 0, none⟩) out.length c) out) (hp : 0 < out.length) (z : Int) :
    Own60 (w.setCell ⟨g, (out.length - 1) * 3 + 2, none⟩ (.int .i64 z)) base (.slice (some ⟨g, 0, none⟩) out.length c) (out.dropLast ++ [⟨(rd_T60 out ((out.length : Int) - 1)).f0, (rd_T60 out ((out.length : Int) - 1)).f1, z⟩]) := by
  have hne : out ≠ [] := List.length_pos_iff.1 hp
  have hl : (out.dropLast ++ [(⟨(rd_T60 out ((out.length : Int) - 1)).f0, (rd_T60 out ((out.length : Int) - 1)).f1, z⟩ : S60)]).length = out.length := by simp; omega
  obtain ⟨I, hI⟩ : ∃ I, I = out.dropLast := ⟨_, rfl⟩
  obtain ⟨la, hla⟩ : ∃ la, la = rd_T60 out ((out.length : Int) - 1) := ⟨_, rfl⟩
  have ho : out = I ++ [la] := by rw [hI, hla, last_eq out hne]; exact (List.dropLast_concat_getLast hne).symm
  have hIl : I.length = out.length - 1 := by rw [hI]; simp
  rw [← hI, ← hla] at hl ⊢
  rcases h.2 with ⟨e, h1⟩ | ⟨g', cap, cur, e, h2, h3, h4, h5, h6, h7⟩
  · omega
  · injection e with e1 e2 e3
    injection e1 with e1
    injection e1 with e1
    subst e1; subst e3
    refine ⟨by rw [c60_len], .inr ⟨g, c, cur.setIfInBounds ((out.length - 1) * 3 + 2) (.int .i64 z), by rw [hl], h2, Ytdelfhahbngcfaa.blk_set h3 _ _, by omega, h5, by simpa using h6, ?_⟩⟩
    rw [hl, Array.toList_setIfInBounds, List.take_set, h7, ← hIl, ho, List.flatMap_append, List.flatMap_append, List.set_append_right _ _ (by rw [c60_len]; omega), c60_len]
    rw [show I.length * 3 + 2 - I.length * 3 = 2 by omega]
    rfl
set_option maxRecDepth 100000 in
set_option maxHeartbeats 4000000 in
theorem add_more (base B : Nat) (va vb vk vo : Value) (out : List S60) (x : S60) (w : World) (hB : Swp w B va vb vk vo) (ho : Own60 w base vo out) (hbase : base ≤ B) (hn : out.length < 1000000)
    (hp : 0 < out.length) (h1 : (rd_T60 out ((out.length : Int) - 1)).f0 = x.f0) (h2 : wrap64 ((rd_T60 out ((out.length : Int) - 1)).f2 + 1) = x.f1) :
    Calls Try.prog 60 #[.pointer (some ⟨B, 0, none⟩), .agg #[.int .i64 x.f0, .int .i64 x.f1, .int .i64 x.f2]] w (AddQ w base B va vb vk vo (out.dropLast ++ [⟨(rd_T60 out ((out.length : Int) - 1)).f0, (rd_T60 out ((out.length : Int) - 1)).f1, x.f2⟩])) := by
  have hBl := Ytdelfhahbngcfaa.blk_lt hB
  obtain ⟨V, hV⟩ : ∃ V, V = w.alloc (.cells #[.int .i64 x.f0, .int .i64 x.f1, .int .i64 x.f2] 60) := ⟨_, rfl⟩
  have hb : Below w.heap.size w V := by rw [hV]; exact (Below.refl _ w).alloc (Nat.le_refl _) _
  have hX : Ytdelfhahbngcfaa.Blk V w.heap.size 60 #[.int .i64 x.f0, .int .i64 x.f1, .int .i64 x.f2] := by rw [hV]; exact Ytdelfhahbngcfaa.blk_new w 60 _
  have hBV : Swp V B va vb vk vo := Ytdelfhahbngcfaa.blk_below hB hb
  have hoV : Own60 V base vo out := own_ch ho (Ch.of_below hb No) (fun _ _ => id)
  obtain ⟨g, cap, cur, rfl, g2, g3, g4, g5, g6, g7⟩ := own_cells hoV hp
  obtain ⟨q0, _, q2⟩ := g7 (out.length - 1) (by omega)
  rw [show (((out.length - 1 : Nat)) : Int) = (out.length : Int) - 1 by omega] at q0 q2
  have l0 := Ytdelfhahbngcfaa.blk_cell g3 _ _ q0
  have l2 := Ytdelfhahbngcfaa.blk_cell g3 _ _ q2
  have lf := Ytdelfhahbngcfaa.blk_thawed g3 ((out.length - 1) * 3 + 2)
  have x0 := Ytdelfhahbngcfaa.blk_cell hX 0 _ rfl
  have x1 := Ytdelfhahbngcfaa.blk_cell hX 1 _ rfl
  have x2 := Ytdelfhahbngcfaa.blk_cell hX 2 _ rfl
  have b3 := Ytdelfhahbngcfaa.blk_cell hBV 3 _ rfl
  have hgB : g ≠ B := fun e => by
    have h5 : V.heap[B]? = some (.cells #[va, vb, vk, .slice (some ⟨g, 0, none⟩) out.length cap] 76 (0, 0)) := hBV
    have h4 : V.heap[g]? = some (.cells cur 60 (0, 0)) := g3
    rw [e] at h4
    rw [h4] at h5
    cases h5
  have HFIN := Lib.hid (show ∀ q : Nat, AddQ w base B va vb vk (.slice (some ⟨g, 0, none⟩) out.length cap) (out.dropLast ++ [⟨(rd_T60 out ((out.length : Int) - 1)).f0, (rd_T60 out ((out.length : Int) - 1)).f1, x.f2⟩]) (.returned (.tuple #[])) ((V.drewN q).setCell ⟨g, (out.length - 1) * 3 + 2, none⟩ (.int .i64 x.f2)) from fun q => by
    have c1 : Ch (fun k => k = g) (V.drewN q) ((V.drewN q).setCell ⟨g, (out.length - 1) * 3 + 2, none⟩ (.int .i64 x.f2)) := Ch.setCell (V.drewN q) ⟨g, (out.length - 1) * 3 + 2, none⟩ (.int .i64 x.f2)
    refine ⟨rfl, _, Ytdelfhahbngcfaa.blk_ch (show Swp (V.drewN q) B va vb vk _ from hBV) c1 (fun e => hgB e.symm), own_last (w := V.drewN q) hoV hp x.f2, ?_, .inl rfl⟩
    have c0 : Ch (fun k => k = B ∨ (Value.slice (some ⟨g, 0, none⟩) out.length cap).ownBlock = some k) w (V.drewN q) := ⟨hb.os, hb.tape, hb.output, hb.size, fun k hk _ => hb.block k hk⟩
    exact c0.trans c1 (fun k hk => .inl (.inr (by rw [hk]; rfl))))
  clear g7 q0 q2 hoV hBV hX hb g3 hB ho
  obtain ⟨la, hla⟩ : ∃ la, la = rd_T60 out ((out.length : Int) - 1) := ⟨_, rfl⟩
  rw [← hla] at l0 l2 h1 h2 HFIN ⊢
  have k1 : (la.f0 == x.f0) = true := by simpa using h1
  have k2 : (IntKind.i64.wrap (la.f2 + 1) == x.f1) = true := by rw [i64_w]; simpa using h2
  clear h1 h2 hla
  subst hV
  go_enter Try.func60, Try.ntmps60
  go_wp2_with fail
  go_region_held3 (fun W => W.cell? ⟨g, (out.length - 1) * 3, none⟩ = some (.int .i64 la.f0) ∧ W.cell? ⟨g, (out.length - 1) * 3 + 2, none⟩ = some (.int .i64 la.f2) ∧ W.cell? ⟨w.heap.size, 0, none⟩ = some (.int .i64 x.f0) ∧ W.cell? ⟨w.heap.size, 1, none⟩ = some (.int .i64 x.f1))
    (first | exact ⟨l0, l2, x0, x1⟩)
    (first | (go_at_call 999; skip))
  go_wp2
  exact bodyPost_ret (results_none rfl _ _ _) rfl (HFIN.out 1)
theorem add_any (base B : Nat) (va vb vk vo : Value) (out : List S60) (x : S60) (w : World) (hB : Swp w B va vb vk vo) (ho : Own60 w base vo out) (hbase : base ≤ B) (hn : out.length < 1000000) :
    Calls Try.prog 60 #[.pointer (some ⟨B, 0, none⟩), .agg #[.int .i64 x.f0, .int .i64 x.f1, .int .i64 x.f2]] w (AddQ w base B va vb vk vo (addV out x)) := by
  unfold addV
  split
  · rename_i h
    exact add_more base B va vb vk vo out x w hB ho hbase hn h.1 h.2.1 h.2.2
  · rename_i h
    exact add_new base B va vb vk vo out x w hB ho hbase hn h
end Go.Proofs.YtdelfhahbngcfaaX.P07
end
section
namespace Go.Proofs.YtdelfhahbngcfaaX.P07
open Go.RowKit Go.Shelf Go.Sort Go.Lib Go.Proofs.Ytdelfhahbngcfaa Go.Proofs.YtdelfhahbngcfaaW.PrintWords Go.Proofs.YtdelfhahbngcfaaW.PrintLast Go.Proofs.YtdelfhahbngcfaaW.PrintMore
set_option linter.unusedVariables false
set_option linter.unusedSimpArgs false
attribute [local go_sem] Oper.semAt_some
theorem cells41 {w : World} {A : Option Addr} {n : Nat} {xs : List S41} (h : Kd.C k41 w A n xs) (hn : 0 < xs.length) : ∃ b off, A = some ⟨b, off, none⟩ ∧ ∀ i : Nat, i < xs.length →
    w.cell? ⟨b, off + i * 2, none⟩ = some (.int .i64 (rd_T41 xs i).f0) ∧ w.cell? ⟨b, off + i * 2 + 1, none⟩ = some (.int .i64 (rd_T41 xs i).f1) := by
  have hl : xs.length = n := h.1
  obtain ⟨ad, rfl, q0, _⟩ := at_T41 h 0 (by omega) (by omega)
  obtain ⟨b, off, rfl⟩ : ∃ b off, ad = ⟨b, off, none⟩ := by
    obtain ⟨b, off, sp⟩ := ad
    cases sp with
    | none => exact ⟨b, off, rfl⟩
    | some z => simp [World.cell?, Addr.add] at q0; split at q0 <;> simp_all
  refine ⟨b, off, rfl, fun i hi => ?_⟩
  obtain ⟨ad, e, r0, r1⟩ := at_T41 h (i : Int) (by omega) (by omega)
  cases e
  have hadd : (⟨b, off, none⟩ : Addr).add (i * 2) = ⟨b, off + i * 2, none⟩ := by unfold Addr.add; split <;> simp_all
  simp only [Int.toNat_natCast, hadd] at r0 r1
  exact ⟨r0, r1⟩
theorem RowB.ch {S : Nat → Prop} {w w' : World} {g cap : Nat} {d : Array S41} (h : RowB w g cap d) (hc : Ch S w w') (hS : ¬ S g) : RowB w' g cap d := by
  obtain ⟨cur, b1, b2, b3⟩ := h
  exact ⟨cur, Ytdelfhahbngcfaa.blk_ch b1 hc hS, b2, b3⟩
theorem rowB_of {w : World} {g cap : Nat} {l : List S41} {cur : Array Value} (hb : Ytdelfhahbngcfaa.Blk w g 41 cur) (hs : cur.size = cap * 2) (ht : cur.toList.take (l.length * 2) = l.flatMap c41) : RowB w g cap l.toArray := by
  refine ⟨cur, hb, hs, fun j hj => ?_⟩
  have hj' : j < l.length := by simpa using hj
  have at_ : ∀ c, c < 2 → cur[j * 2 + c]? = (c41 l[j]!)[c]? := fun c hc => by
    have h1 : (cur.toList.take (l.length * 2))[j * 2 + c]? = cur[j * 2 + c]? := by
      rw [List.getElem?_take, if_pos (by omega)]; simp
    rw [← h1, ht, flat_get c41 2 l (fun _ _ => rfl) j c hc]
    simp [hj']
  have e : l.toArray[j]! = l[j]! := by simp
  rw [e]
  exact ⟨at_ 0 (by omega), at_ 1 (by omega)⟩
theorem own_typ {w : World} {base : Nat} {v : Value} {l : List S60} (h : Own60 w base v l) {k : Nat} (hk : v.ownBlock = some k) : base ≤ k ∧ ∃ cur, w.heap[k]? = some (.cells cur 60 (0, 0)) := by
  rcases h.2 with ⟨rfl, _⟩ | ⟨g, cap, cur, rfl, h2, h3, _⟩
  · simp [Value.ownBlock] at hk
  · have e : g = k := by simpa [Value.ownBlock] using hk
    subst e
    exact ⟨h2, cur, h3⟩
def okD (d : S41) : Bool := decide (1 ≤ d.f0 ∧ d.f0 ≤ 200 ∧ 1 ≤ d.f1 ∧ d.f1 ≤ 2147483647)
theorem dchk_eq (a b : Int) : dot_Check.f a b = some (if okD ⟨a, b⟩ = true then 0 else 2) := by
  unfold dot_Check.f okD
  by_cases h1 : a < 1
  · rw [if_pos h1, if_neg (by simp; omega)]
  rw [if_neg h1]
  by_cases h2 : a > 200
  · rw [if_pos h2, if_neg (by simp; omega)]
  rw [if_neg h2]
  by_cases h3 : b < 1
  · rw [if_pos h3, if_neg (by simp; omega)]
  rw [if_neg h3]
  by_cases h4 : b > 2147483647
  · rw [if_pos h4, if_neg (by simp; omega)]
  rw [if_neg h4, if_pos (by simp; omega)]
def ofL (l : List S41) : List S60 := (sortV l).foldl (fun o d => addV o ⟨d.f0, d.f1, d.f1⟩) []
def ofV (l : List S41) : List S60 × Int := if l.all okD = true then (if 4000 < (ofL l).length then ([], 8) else (ofL l, 0)) else ([], 2)
theorem addV_len (o : List S60) (x : S60) : (addV o x).length ≤ o.length + 1 := by
  unfold addV
  split <;> simp <;> omega
theorem sortV_len (l : List S41) : (sortV l).length ≤ l.length := by
  unfold sortV compactUpTo
  rw [List.length_map]
  exact Nat.le_trans (List.length_filter_le _ _) (by simp [srt])
theorem ofL_len : ∀ (l : List S41) (o : List S60), (l.foldl (fun o d => addV o ⟨d.f0, d.f1, d.f1⟩) o).length ≤ o.length + l.length
  | [], o => Nat.le_refl _
  | d :: t, o => by
    have h1 := ofL_len t (addV o ⟨d.f0, d.f1, d.f1⟩)
    have h2 := addV_len o ⟨d.f0, d.f1, d.f1⟩
    simp only [List.foldl_cons, List.length_cons]
    omega
def past_Of.f (l0 : List S41) : Option (List S60 × Int) := if l0.length < 1000000 then some (ofV l0) else none
set_option maxRecDepth 100000 in
set_option maxHeartbeats 4000000 in
theorem past_Of.calls (A0 : Option Addr) (c0 : Nat) (l0 : List (S41)) (r1 : List S60) (r2 : Int) (w : World) (hr0 : Kd.C k41 w A0 l0.length l0) (hc0 : l0.length ≤ c0) (h : past_Of.f l0 = some (r1, r2)) :
    Calls Try.prog 31 #[.slice A0 l0.length c0] w fun e w' => ∃ v0_ : Value, e = .returned (.tuple #[v0_, .int .i64 r2]) ∧ Kd.R k60 60 w' w.heap.size (fun _ => True) v0_ r1 ∧ Below w.heap.size w w' := by
  unfold past_Of.f at h
  by_cases hn : l0.length < 1000000
  rotate_left
  · rw [if_neg hn] at h; cases h
  rw [if_pos hn] at h
  have hv : ofV l0 = (r1, r2) := Option.some.inj h
  have HV := Lib.hid hv
  have HR := Lib.hid hr0
  have HX := Lib.hid (fun h0 => cells41 hr0 h0)
  obtain ⟨N, hN⟩ : ∃ N, N = l0.length := ⟨_, rfl⟩
  have HN := Lib.hid hN
  clear h hv
  rw [← hN] at hn hc0 ⊢
  clear hN hr0
  go_enter Try.func31, Try.ntmps31
  have hb1 : Below w.heap.size w (w.alloc (.cells #[.slice none 0 0, .slice none 0 0, .nilFunc, .slice none 0 0] 76)) := (Below.refl _ w).alloc (Nat.le_refl _) _
  have HB1 := Lib.hid hb1
  have HS1 := Lib.hid (show Swp (w.alloc (.cells #[.slice none 0 0, .slice none 0 0, .nilFunc, .slice none 0 0] 76)) w.heap.size (.slice none 0 0) (.slice none 0 0) .nilFunc (.slice none 0 0) from Ytdelfhahbngcfaa.blk_new w 76 _)
  clear hb1
  go_wp2
  go_loopw [14] (fun i wr => ∃ k : Nat, k ≤ N ∧ i = .int .i64 k ∧ Hid ((l0.take k).all okD = true ∧ Below w.heap.size w wr ∧ w.heap.size < wr.heap.size ∧ Swp wr w.heap.size (.slice none 0 0) (.slice none 0 0) .nilFunc (.slice none 0 0))) (fun i _ => N - (intOf i).toNat)
  case atStart => exact ⟨0, Nat.zero_le _, rfl, Lib.hid ⟨rfl, HB1.out, by simp, HS1.out⟩⟩
  case round =>
    clear HB1 HS1
    obtain ⟨k, hk, rfl, HI⟩ := hrel
    by_cases hlt : k < N
    · have hkl : k < l0.length := by rw [← HN.out]; exact hlt
      obtain ⟨b, off, rfl, hc⟩ := HX.out (by omega)
      obtain ⟨q0, q1⟩ := hc k hkl
      obtain ⟨d, hd⟩ : ∃ d, d = rd_T41 l0 (k : Int) := ⟨_, rfl⟩
      rw [← hd] at q0 q1
      replace q0 := (HI.out.2.1.cell (World.block_lt_of_cell? w _ q0)).trans q0
      replace q1 := (HI.out.2.1.cell (World.block_lt_of_cell? w _ q1)).trans q1
      have hxx : l0[k] = d := by rw [hd]; unfold rd_T41; simp [List.getD_eq_getElem?_getD, hkl]
      have HT := Lib.hid (show l0.take (k + 1) = l0.take k ++ [d] by rw [List.take_succ_eq_append_getElem hkl, hxx])
      have HM := Lib.hid (show d ∈ l0 by rw [← hxx]; exact List.getElem_mem hkl)
      have hal := (Below.refl wr.heap.size wr).alloc (Nat.le_refl _) (.cells #[.int .i64 d.f0, .int .i64 d.f1] 41)
      have HCALL := Lib.hid (dot_Check.calls d.f0 d.f1 _ (wr.alloc (.cells #[.int .i64 d.f0, .int .i64 d.f1] 41)) (dchk_eq d.f0 d.f1))
      have HW := Lib.hid (show ∀ W, Below (wr.alloc (.cells #[.int .i64 d.f0, .int .i64 d.f1] 41)).heap.size (wr.alloc (.cells #[.int .i64 d.f0, .int .i64 d.f1] 41)) W → Below w.heap.size w W ∧ w.heap.size < W.heap.size ∧ Swp W w.heap.size (.slice none 0 0) (.slice none 0 0) .nilFunc (.slice none 0 0) from fun W hW => by
        have h1 := hal.trans (hW.mono hal.size)
        have s1 := HI.out.2.2.1
        exact ⟨HI.out.2.1.trans (h1.mono HI.out.2.1.size), by have := h1.size; omega, Ytdelfhahbngcfaa.blk_below HI.out.2.2.2 h1⟩)
      clear hc hd hxx hkl hal
      cases ho : okD d with
      | true =>
        have HF := Lib.hid (show (l0.take (k + 1)).all okD = true by rw [HT.out, List.all_append, HI.out.1]; simp [ho])
        rw [show okD ⟨d.f0, d.f1⟩ = true from ho, if_pos rfl] at HCALL
        clear ho
        go_wp2_with (go_at_call 52; refine HCALL.out.mono ?_; rintro e w2 ⟨rfl, hbel⟩; have HW2 := Lib.hid (HW.out w2 hbel); clear hbel)
        go_roundw
        case rel => exact ⟨k + 1, by omega, by go_num, Lib.hid ⟨HF.out, HW2.out⟩⟩
        case measure => simp [intOf]; omega
      | false =>
        have HF := Lib.hid (show l0.all okD = false by
          cases e : l0.all okD with
          | false => rfl
          | true => have := List.all_eq_true.1 e d HM.out; rw [ho] at this; cases this)
        rw [show okD ⟨d.f0, d.f1⟩ = false from ho, if_neg (by decide)] at HCALL
        clear ho
        have HE := Lib.hid (show r1 = [] ∧ r2 = 2 by
          have := HV.out
          unfold ofV at this
          rw [HF.out, if_neg (by decide)] at this
          exact ⟨(Prod.mk.inj this).1.symm, (Prod.mk.inj this).2.symm⟩)
        go_wp2_with (go_at_call 52; refine HCALL.out.mono ?_; rintro e w2 ⟨rfl, hbel⟩; have HW2 := Lib.hid (HW.out w2 hbel); clear hbel)
        go_ret2
        obtain ⟨e1, e2⟩ := HE.out
        exact ⟨_, by rw [e2]; rfl, by rw [e1]; exact Kd.R_nil _ _ _ _ _, HW2.out.1⟩
    · obtain rfl : k = N := by omega
      have HALL := Lib.hid (show l0.all okD = true by have := HI.out.1; rwa [HN.out, List.take_length] at this)
      have HSORT := Lib.hid (show Calls Try.prog 45 #[.slice A0 k c0] wr fun e w' => ∃ v0_ : Value, e = .returned (v0_) ∧ Kd.R k41 41 w' wr.heap.size (fun _ => True) v0_ (sortV l0) ∧ Below wr.heap.size wr w' from by
        have := dot_Sort.calls A0 c0 l0 (sortV l0) wr (Kd.C_below HR.out HI.out.2.1) (by rw [← HN.out]; exact hc0) (if_pos (by rw [← HN.out]; exact hn))
        rwa [← HN.out] at this)
      have HLEN := Lib.hid (show (sortV l0).length < 1000000 from by have := sortV_len l0; have := HN.out; omega)
      go_wp2_with (go_at_call 45; refine HSORT.out.mono ?_; rintro e w2 ⟨v1, rfl, ho, hbel⟩; have HO := Lib.hid ho; have HBEL := Lib.hid hbel; clear ho hbel; obtain ⟨A1, c1, rfl, hl1, hcl1⟩ := Kd.R_reads HO.out)
      have HROW := Lib.hid (show ∀ M, M = (sortV l0).length → 0 < M → ∃ g, A1 = some ⟨g, 0, none⟩ ∧ ∃ cap, RowB w2 g cap (sortV l0).toArray from fun M hM h0 => by
        rcases row_of_R HO.out with ⟨_, e⟩ | ⟨g, cap, cur, e, _, hb, _, _, hs, ht⟩
        · rw [e] at hM; simp at hM; omega
        · injection e with e1 _ _
          exact ⟨g, e1, cap, rowB_of hb hs ht⟩)
      have HST := Lib.hid (show Swp w2 w.heap.size (.slice none 0 0) (.slice none 0 0) .nilFunc (.slice none 0 0) ∧ Own60 w2 w.heap.size (.slice none 0 0) [] ∧ Below w.heap.size w w2 ∧ w.heap.size < w2.heap.size from
        ⟨Ytdelfhahbngcfaa.blk_below HI.out.2.2.2 HBEL.out, ⟨rfl, .inl ⟨rfl, rfl⟩⟩, HI.out.2.1.trans (HBEL.out.mono HI.out.2.1.size), Nat.lt_of_lt_of_le HI.out.2.2.1 HBEL.out.size⟩)
      obtain ⟨M, hM⟩ : ∃ M, M = (sortV l0).length := ⟨_, rfl⟩
      have HM := Lib.hid hM
      have hM6 : M < 1000000 := by rw [hM]; exact HLEN.out
      rw [← hM]
      clear hM
      go_loopw [27] (fun i wq => ∃ (j : Nat) (vo : Value), j ≤ M ∧ i = .int .i64 j ∧ Hid (Swp wq w.heap.size (.slice none 0 0) (.slice none 0 0) .nilFunc vo ∧ Own60 wq w.heap.size vo (((sortV l0).take j).foldl (fun o d => addV o ⟨d.f0, d.f1, d.f1⟩) []) ∧ Below w.heap.size w wq ∧ w.heap.size < wq.heap.size ∧ (∀ (q : Nat) (cur : Array Value), w2.heap[q]? = some (Obj.cells cur 41 (0, 0)) → (World.heap wq)[q]? = some (Obj.cells cur 41 (0, 0))))) (fun i _ => M - (intOf i).toNat)
      case atStart => exact ⟨0, _, Nat.zero_le _, rfl, Lib.hid ⟨HST.out.1, HST.out.2.1, HST.out.2.2.1, HST.out.2.2.2, fun _ _ h => h⟩⟩
      case round =>
        clear HST
        obtain ⟨j, vo, hj, rfl, HJ⟩ := hrel
        by_cases hlt : j < M
        · obtain ⟨g, rfl, cap, hrow⟩ := HROW.out M HM.out (by omega)
          obtain ⟨cur, b1, b2, b3⟩ := hrow
          have hjl : j < (sortV l0).length := by rw [← HM.out]; exact hlt
          obtain ⟨q0, q1⟩ := b3 j (by simpa using hjl)
          obtain ⟨d, hd⟩ : ∃ d, d = (sortV l0).toArray[j]! := ⟨_, rfl⟩
          rw [← hd] at q0 q1
          have hbq : Ytdelfhahbngcfaa.Blk wr g 41 cur := HJ.out.2.2.2.2 g cur b1
          have c0 := Ytdelfhahbngcfaa.blk_cell hbq _ _ q0
          have c1' := Ytdelfhahbngcfaa.blk_cell hbq _ _ q1
          have hxx : (sortV l0)[j] = d := by rw [hd]; simp [hjl]
          obtain ⟨out, hout⟩ : ∃ out, out = ((sortV l0).take j).foldl (fun o d => addV o ⟨d.f0, d.f1, d.f1⟩) ([] : List S60) := ⟨_, rfl⟩
          have HT := Lib.hid (show ((sortV l0).take (j + 1)).foldl (fun o d => addV o ⟨d.f0, d.f1, d.f1⟩) ([] : List S60) = addV out ⟨d.f0, d.f1, d.f1⟩ by rw [List.take_succ_eq_append_getElem hjl, hxx, List.foldl_append, ← hout]; rfl)
          have hol : out.length ≤ j := by rw [hout]; exact Nat.le_trans (ofL_len _ []) (by simp; omega)
          rw [← hout] at HJ
          have hal := (Below.refl wr.heap.size wr).alloc (Nat.le_refl _) (.cells #[.int .i64 d.f0, .int .i64 d.f1] 41)
          have HCALL := Lib.hid (add_any w.heap.size w.heap.size (.slice none 0 0) (.slice none 0 0) .nilFunc vo out ⟨d.f0, d.f1, d.f1⟩ (wr.alloc (.cells #[.int .i64 d.f0, .int .i64 d.f1] 41)) (Ytdelfhahbngcfaa.blk_below HJ.out.1 hal) (own_ch HJ.out.2.1 (Ch.of_below hal No) (fun _ _ => id)) (Nat.le_refl _) (by omega))
          have HNX := Lib.hid (show ∀ e W, AddQ (wr.alloc (.cells #[.int .i64 d.f0, .int .i64 d.f1] 41)) w.heap.size w.heap.size (.slice none 0 0) (.slice none 0 0) .nilFunc vo (addV out ⟨d.f0, d.f1, d.f1⟩) e W → e = .returned (.tuple #[]) ∧ ∃ vo', Swp W w.heap.size (.slice none 0 0) (.slice none 0 0) .nilFunc vo' ∧ Own60 W w.heap.size vo' (addV out ⟨d.f0, d.f1, d.f1⟩) ∧ Below w.heap.size w W ∧ w.heap.size < W.heap.size ∧ (∀ (q : Nat) (cur : Array Value), w2.heap[q]? = some (Obj.cells cur 41 (0, 0)) → W.heap[q]? = some (Obj.cells cur 41 (0, 0))) from fun e W hq => by
            obtain ⟨he, vo', s1, s2, s3, _⟩ := hq
            refine ⟨he, vo', s1, s2, ?_, ?_, fun q cur hq => ?_⟩
            · have c1 := (Ch.of_below hal (fun k => k = w.heap.size ∨ vo.ownBlock = some k)).trans s3 (fun k h => .inl h)
              have h2 := c1.below (B := w.heap.size) HJ.out.2.2.1.size (fun k hk => by
                rcases hk with e | e
                · omega
                · exact (own_typ HJ.out.2.1 e).1)
              exact HJ.out.2.2.1.trans h2
            · have := s3.size
              have := hal.size
              have := HJ.out.2.2.2.1
              omega
            · have h1 := HJ.out.2.2.2.2 q cur hq
              have hlt : q < wr.heap.size := (Array.getElem?_eq_some_iff.1 h1).1
              have h2 : (wr.alloc (.cells #[.int .i64 d.f0, .int .i64 d.f1] 41)).heap[q]? = some (.cells cur 41 (0, 0)) := (hal.block q hlt).trans h1
              refine (s3.block q (Array.getElem?_eq_some_iff.1 h2).1 (fun hs => ?_)).trans h2
              rcases hs with e | e
              · have h5 : wr.heap[w.heap.size]? = _ := HJ.out.1
                rw [e, h5] at h1
                cases h1
              · obtain ⟨_, cur2, h6⟩ := own_typ HJ.out.2.1 e
                rw [h6] at h1
                cases h1)
          clear hd hxx hjl hout b1 b2 b3 hbq q0 q1 hal hol
          go_wp2_with (go_at_call 60; refine HCALL.out.mono ?_; intro e w3 hq; obtain ⟨he, vo', hnx⟩ := HNX.out e w3 hq; subst he; have HNX2 := Lib.hid hnx; clear hq hnx)
          go_roundw
          case rel => exact ⟨j + 1, vo', by omega, by go_num, Lib.hid ⟨HNX2.out.1, by rw [HT.out]; exact HNX2.out.2.1, HNX2.out.2.2.1, HNX2.out.2.2.2.1, HNX2.out.2.2.2.2⟩⟩
          case measure => simp [intOf]; omega
        · obtain rfl : j = M := by omega
          have HOF := Lib.hid (show ((sortV l0).take j).foldl (fun o d => addV o ⟨d.f0, d.f1, d.f1⟩) ([] : List S60) = ofL l0 by rw [HM.out, List.take_length]; rfl)
          have hown : Own60 wr w.heap.size vo (ofL l0) := by rw [← HOF.out]; exact HJ.out.2.1
          obtain ⟨A3, c3, rfl, _, _⟩ := own_form hown
          have HOWN := Lib.hid hown
          have b3 := Ytdelfhahbngcfaa.blk_cell HJ.out.1 3 _ rfl
          clear hown
          by_cases h4 : 4000 < (ofL l0).length
          · have HE := Lib.hid (show r1 = [] ∧ r2 = 8 by
              have := HV.out
              unfold ofV at this
              rw [HALL.out, if_pos rfl, if_pos h4] at this
              exact ⟨(Prod.mk.inj this).1.symm, (Prod.mk.inj this).2.symm⟩)
            have hg : decide ((4000 : Int) < ((ofL l0).length : Int)) = true := by simp; omega
            go_wp2
            go_ret2
            obtain ⟨e1, e2⟩ := HE.out
            exact ⟨_, by rw [e2]; rfl, by rw [e1]; exact Kd.R_nil _ _ _ _ _, HJ.out.2.2.1⟩
          · have HE := Lib.hid (show r1 = ofL l0 ∧ r2 = 0 by
              have := HV.out
              unfold ofV at this
              rw [HALL.out, if_pos rfl, if_neg h4] at this
              exact ⟨(Prod.mk.inj this).1.symm, (Prod.mk.inj this).2.symm⟩)
            have hg : decide ((4000 : Int) < ((ofL l0).length : Int)) = false := by simp; omega
            go_wp2
            go_ret2
            obtain ⟨e1, e2⟩ := HE.out
            exact ⟨_, by rw [e2]; rfl, by rw [e1]; exact R_of_own HOWN.out, HJ.out.2.2.1⟩
end Go.Proofs.YtdelfhahbngcfaaX.P07
end
section
namespace Go.Proofs.YtdelfhahbngcfaaX.P07
open Go.RowKit Go.Shelf Go.Sort Go.Lib Go.Proofs.Ytdelfhahbngcfaa Go.Proofs.YtdelfhahbngcfaaW.PrintWords Go.Proofs.YtdelfhahbngcfaaW.PrintLast Go.Proofs.YtdelfhahbngcfaaW.PrintMore
set_option linter.unusedVariables false
set_option linter.unusedSimpArgs false
attribute [local go_sem] Oper.semAt_some
def Side (w : World) (g : Nat) (v : Value) (l : List S60) : Prop :=
  ∃ (A : Option Addr) (c : Nat), v = .slice A l.length c ∧ l.length ≤ c ∧ c ≤ 9223372036854775807 ∧
    (0 < l.length → ∃ (off : Nat) (cur : Array Value), A = some ⟨g, off, none⟩ ∧ Ytdelfhahbngcfaa.Blk w g 60 cur ∧
      ∀ j x, l[j]? = some x → cur[off + j * 3]? = some (.int .i64 x.f0) ∧ cur[off + j * 3 + 1]? = some (.int .i64 x.f1) ∧ cur[off + j * 3 + 2]? = some (.int .i64 x.f2))
theorem Side.ch {S : Nat → Prop} {w w' : World} {g : Nat} {v : Value} {l : List S60} (h : Side w g v l) (hc : Ch S w w') (hS : 0 < l.length → ¬ S g) : Side w' g v l := by
  obtain ⟨A, c, rfl, h1, h2, h3⟩ := h
  refine ⟨A, c, rfl, h1, h2, fun h0 => ?_⟩
  obtain ⟨off, cur, e, hb, hx⟩ := h3 h0
  exact ⟨off, cur, e, Ytdelfhahbngcfaa.blk_ch hb hc (hS h0), hx⟩
theorem side_C {w : World} {g : Nat} {v : Value} {l : List S60} (h : Side w g v l) : ∃ (A : Option Addr) (c : Nat), v = .slice A l.length c ∧ l.length ≤ c ∧ Kd.C k60 w A l.length l := by
  obtain ⟨A, c, rfl, h1, h2, h3⟩ := h
  refine ⟨A, c, rfl, h1, rfl, by omega, fun h0 => ?_⟩
  obtain ⟨off, cur, rfl, hb, hx⟩ := h3 h0
  refine ⟨_, rfl, fun j p hp => ⟨[.int .i64 p.f0, .int .i64 p.f1, .int .i64 p.f2], rfl, k60_mk _ p, fun t u hu => ?_⟩⟩
  obtain ⟨q0, q1, q2⟩ := hx j p hp
  have ht : t < 3 := (List.getElem?_eq_some_iff.1 hu).1
  have hadd : ((⟨g, off, none⟩ : Addr).add (j * k60.sz + t)) = ⟨g, off + j * 3 + t, none⟩ := by
    have : k60.sz = 3 := rfl
    rw [this]
    unfold Addr.add; split <;> simp_all <;> omega
  rw [hadd]
  refine Ytdelfhahbngcfaa.blk_cell hb _ _ ?_
  match t, ht with
  | 0, _ => rw [Nat.add_zero, q0]; simpa using hu
  | 1, _ => rw [q1]; simpa using hu
  | 2, _ => rw [q2]; simpa using hu
def headV (l : List S60) (node : Int) : S60 × Bool :=
  match l with
  | [] => (⟨0, 0, 0⟩, false)
  | x :: _ => if x.f0 = node then (x, true) else (⟨0, 0, 0⟩, false)
theorem head_any {w : World} {g : Nat} {v : Value} {l : List S60} (h : Side w g v l) (node : Int) :
    Calls Try.prog 79 #[v, .int .i64 node] w fun e w' => e = .returned (.tuple #[.agg #[.int .i64 (headV l node).1.f0, .int .i64 (headV l node).1.f1, .int .i64 (headV l node).1.f2], .bool (headV l node).2]) ∧ Below w.heap.size w w' := by
  obtain ⟨A, c, rfl, h1, h2⟩ := side_C h
  refine past_head.calls A c l node _ _ _ _ w h2 h1 ?_
  unfold past_head.f headV
  cases l with
  | nil => rfl
  | cons x r =>
    rw [if_neg (by simp; omega), if_pos (by simp)]
    have e : rd_T60 (x :: r) 0 = x := rfl
    rw [e]
    by_cases hx : x.f0 = node
    · simp [hx]
    · simp [hx]
def behV (l : List S60) (q : Int) : List S60 :=
  match l with
  | [] => []
  | x :: r => if x.f2 = q then r else ⟨x.f0, q + 1, x.f2⟩ :: r
set_option maxHeartbeats 1000000 in
theorem behind_any (g : Nat) (v : Value) (x : S60) (r : List S60) (q : Int) (w : World) (hs : Side w g v (x :: r)) (hq : 0 ≤ q ∧ q ≤ 2147483647) :
    Calls Try.prog 80 #[v, .int .i64 q] w fun e w' => ∃ v', e = .returned v' ∧ Side w' g v' (behV (x :: r) q) ∧ Ch (fun k => k = g) w w' := by
  obtain ⟨A, c, rfl, hl, hc, h3⟩ := hs
  obtain ⟨off, cur, rfl, hb, hx⟩ := h3 (by simp)
  obtain ⟨q0, q1, q2⟩ := hx 0 x rfl
  simp only [Nat.zero_mul, Nat.add_zero] at q0 q1 q2
  have c1 := Ytdelfhahbngcfaa.blk_cell hb _ _ q1
  have c2 := Ytdelfhahbngcfaa.blk_cell hb _ _ q2
  have f1 := Ytdelfhahbngcfaa.blk_thawed hb (off + 1)
  obtain ⟨n, hn⟩ : ∃ n, n = r.length := ⟨_, rfl⟩
  have HN := Lib.hid hn
  have HX := Lib.hid hx
  have HB := Lib.hid hb
  rw [List.length_cons, ← hn] at hl ⊢
  clear hn h3 hx hb
  by_cases e : x.f2 = q
  · subst e
    have HE := Lib.hid (show behV (x :: r) x.f2 = r by simp [behV])
    have h1 : (1 : Int) ≤ ((n + 1 : Nat) : Int) := by omega
    by_cases hcap : c = 1
    · subst hcap
      go_enter Try.func80, Try.ntmps80
      go_wp2
      go_ret
      obtain rfl := HN.out
      refine ⟨_, rfl, ?_, Ch.refl _ _⟩
      rw [HE.out]
      have e0 : r = [] := List.eq_nil_of_length_eq_zero (by omega)
      subst e0
      exact ⟨_, 0, rfl, Nat.le_refl _, by omega, fun h0 => absurd h0 (by simp)⟩
    · go_enter Try.func80, Try.ntmps80
      go_wp2
      go_ret
      obtain rfl := HN.out
      refine ⟨_, rfl, ?_, Ch.refl _ _⟩
      rw [HE.out]
      refine ⟨_, _, rfl, by omega, by omega, fun h0 => ⟨off + 3, cur, rfl, HB.out, fun j y hj => ?_⟩⟩
      have := HX.out (j + 1) y (by simpa using hj)
      rw [show off + 3 + j * 3 = off + (j + 1) * 3 by omega]
      exact this
  · have HE := Lib.hid (show behV (x :: r) q = ⟨x.f0, q + 1, x.f2⟩ :: r by simp [behV, e])
    have e' : (x.f2 == q) = false := by simp [e]
    clear e
    go_enter Try.func80, Try.ntmps80
    go_wp2
    go_ret
    obtain rfl := HN.out
    refine ⟨_, rfl, ?_, Ch.setCell w ⟨g, off + 1, none⟩ _⟩
    rw [HE.out]
    refine ⟨_, _, rfl, by simpa using hl, by omega, fun h0 => ⟨off, _, rfl, Ytdelfhahbngcfaa.blk_set HB.out (off + 1) _, fun j y hj => ?_⟩⟩
    have hsz : off + 1 < cur.size := (Array.getElem?_eq_some_iff.1 q1).1
    cases j with
    | zero =>
      have e : y = ⟨x.f0, q + 1, x.f2⟩ := by simpa using hj.symm
      subst e
      simp only [Nat.zero_mul, Nat.add_zero]
      refine ⟨?_, ?_, ?_⟩
      · rw [Array.getElem?_setIfInBounds_ne (by omega)]; exact q0
      · rw [Array.getElem?_setIfInBounds_self_of_lt hsz]
      · rw [Array.getElem?_setIfInBounds_ne (by omega)]; exact q2
    | succ j =>
      obtain ⟨p0, p1, p2⟩ := HX.out (j + 1) y (by simpa using hj)
      refine ⟨?_, ?_, ?_⟩
      · rw [Array.getElem?_setIfInBounds_ne (by omega)]; exact p0
      · rw [Array.getElem?_setIfInBounds_ne (by omega)]; exact p1
      · rw [Array.getElem?_setIfInBounds_ne (by omega)]; exact p2
end Go.Proofs.YtdelfhahbngcfaaX.P07
end
section
namespace Go.Proofs.YtdelfhahbngcfaaX.P07
open Go.RowKit Go.Shelf Go.Sort Go.Lib Go.Proofs.Ytdelfhahbngcfaa Go.Proofs.YtdelfhahbngcfaaW.PrintWords Go.Proofs.YtdelfhahbngcfaaW.PrintLast Go.Proofs.YtdelfhahbngcfaaW.PrintMore
set_option linter.unusedVariables false
set_option linter.unusedSimpArgs false
attribute [local go_sem] Oper.semAt_some
structure Sw (w : World) (base B ga gb : Nat) (va vb vk vo : Value) (la lb out : List S60) : Prop where
  blk : Swp w B va vb vk vo
  sa : Side w ga va la
  sb : Side w gb vb lb
  ow : Own60 w base vo out
  hB : base ≤ B
  gab : 0 < la.length → 0 < lb.length → ga ≠ gb
  bga : 0 < la.length → base ≤ ga
  bgb : 0 < lb.length → base ≤ gb
  oa : 0 < la.length → vo.ownBlock ≠ some ga
  ob : 0 < lb.length → vo.ownBlock ≠ some gb
  aB : 0 < la.length → ga ≠ B
  bB : 0 < lb.length → gb ≠ B
theorem Side.lt {w : World} {g : Nat} {v : Value} {l : List S60} (h : Side w g v l) (h0 : 0 < l.length) : g < w.heap.size := by
  obtain ⟨A, c, rfl, _, _, h3⟩ := h
  obtain ⟨off, cur, _, hb, _⟩ := h3 h0
  exact Ytdelfhahbngcfaa.blk_lt hb
theorem Sw.lta {w : World} {base B ga gb : Nat} {va vb vk vo : Value} {la lb out : List S60} (h : Sw w base B ga gb va vb vk vo la lb out) (h0 : 0 < la.length) : ga < w.heap.size := h.sa.lt h0
theorem Sw.ltb {w : World} {base B ga gb : Nat} {va vb vk vo : Value} {la lb out : List S60} (h : Sw w base B ga gb va vb vk vo la lb out) (h0 : 0 < lb.length) : gb < w.heap.size := h.sb.lt h0
theorem Sw.ch {S : Nat → Prop} {w w' : World} {base B ga gb : Nat} {va vb vk vo : Value} {la lb out : List S60} (h : Sw w base B ga gb va vb vk vo la lb out) (hc : Ytdelfhahbngcfaa.Ch S w w') (hS : ∀ k, k < w.heap.size → ¬ S k) : Sw w' base B ga gb va vb vk vo la lb out :=
  ⟨Ytdelfhahbngcfaa.blk_ch h.blk hc (hS _ (Ytdelfhahbngcfaa.blk_lt h.blk)), h.sa.ch hc (fun h0 => hS _ (h.lta h0)), h.sb.ch hc (fun h0 => hS _ (h.ltb h0)), own_ch h.ow hc (fun k hk => hS k (h.ow.lt k hk).2), h.hB, h.gab, h.bga, h.bgb, h.oa, h.ob, h.aB, h.bB⟩
theorem Sw.below {w w' : World} {base B ga gb : Nat} {va vb vk vo : Value} {la lb out : List S60} (h : Sw w base B ga gb va vb vk vo la lb out) (hb : Below w.heap.size w w') : Sw w' base B ga gb va vb vk vo la lb out :=
  h.ch (Ytdelfhahbngcfaa.Ch.of_below hb No) (fun _ _ => id)
theorem Sw.c0 {w : World} {base B ga gb : Nat} {va vb vk vo : Value} {la lb out : List S60} (h : Sw w base B ga gb va vb vk vo la lb out) : w.cell? ⟨B, 0, none⟩ = some va := Ytdelfhahbngcfaa.blk_cell h.blk 0 _ rfl
theorem Sw.c1 {w : World} {base B ga gb : Nat} {va vb vk vo : Value} {la lb out : List S60} (h : Sw w base B ga gb va vb vk vo la lb out) : w.cell? ⟨B, 1, none⟩ = some vb := Ytdelfhahbngcfaa.blk_cell h.blk 1 _ rfl
theorem Sw.c2 {w : World} {base B ga gb : Nat} {va vb vk vo : Value} {la lb out : List S60} (h : Sw w base B ga gb va vb vk vo la lb out) : w.cell? ⟨B, 2, none⟩ = some vk := Ytdelfhahbngcfaa.blk_cell h.blk 2 _ rfl
theorem Side.first {w : World} {g : Nat} {v : Value} {x : S60} {l : List S60} (h : Side w g v (x :: l)) : ∃ off n c, v = .slice (some ⟨g, off, none⟩) (n + 1) c ∧ w.cell? ⟨g, off, none⟩ = some (.int .i64 x.f0) ∧ (((n + 1 : Nat) : Int) == 0) = false := by
  obtain ⟨A, c, rfl, h1, h2, h3⟩ := h
  obtain ⟨off, cur, rfl, hb, hx⟩ := h3 (by simp)
  have q0 := Ytdelfhahbngcfaa.blk_cell hb _ _ (hx 0 x rfl).1
  simp only [Nat.zero_mul, Nat.add_zero] at q0
  exact ⟨off, l.length, c, rfl, q0, by simp; omega⟩
theorem Side.none {w : World} {g : Nat} {v : Value} (h : Side w g v []) : ∃ A c, v = .slice A 0 c := by
  obtain ⟨A, c, rfl, _⟩ := h
  exact ⟨A, c, rfl⟩
theorem below_drewN {w : World} (n : Nat) : Below w.heap.size w (w.drewN n) := pw_below_drewN (Below.refl _ _) n
def tK (t1 t2 : Int) : Nat → Int
  | 0 => 2147483647
  | 1 => t1
  | _ => t2
def StepQ (w : World) (base B ga gb : Nat) (vk : Value) (la lb out : List S60) (e : Ending) (w' : World) : Prop :=
  e = .returned (.tuple #[]) ∧ Below base w w' ∧ ∃ va vb vo, Sw w' base B ga gb va vb vk vo la lb out
def Keeps (F : Nat) (kf : Bool → Bool → Bool) : Prop := ∀ (a b : Bool) (w : World), (Calls Try.prog F #[.bool a, .bool b] w fun e w' => e = .returned (.bool (kf a b)) ∧ w = w') ∧ Sem.run Try.prog (callFunc F #[.bool a, .bool b]) w = .ok (.enter F #[.bool a, .bool b]) w
theorem sw_add {W W' : World} {base B ga gb : Nat} {va vb vk vo : Value} {la lb out out2 : List S60} {e : Ending} (h : Sw W base B ga gb va vb vk vo la lb out) (hq : AddQ W base B va vb vk vo out2 e W') :
    e = .returned (.tuple #[]) ∧ Below base W W' ∧ (∀ (g : Nat) (t : TypeId) (cs : Array Value), (World.heap W)[g]? = some (Obj.cells cs t (0, 0)) → t ≠ 60 ∧ t ≠ 76 → (World.heap W')[g]? = some (Obj.cells cs t (0, 0))) ∧ (∀ g : Nat, g < W.heap.size → g ≠ B → vo.ownBlock ≠ some g → (World.heap W')[g]? = (World.heap W)[g]?) ∧ ∃ vo', Sw W' base B ga gb va vb vk vo' la lb out2 ∧ (vo'.ownBlock = vo.ownBlock ∨ ∃ k, vo'.ownBlock = some k ∧ W.heap.size ≤ k) := by
  obtain ⟨rfl, vo', h1, h2, h3, h4⟩ := hq
  have hbs : base ≤ W.heap.size := Nat.le_trans h.hB (Nat.le_of_lt (Ytdelfhahbngcfaa.blk_lt h.blk))
  refine ⟨rfl, h3.below hbs (fun k hk => ?_), fun g t cs hg ht => ?_, fun g hg hgB hgo => h3.block g hg (fun hs => ?_), vo', ⟨h1, h.sa.ch h3 (fun h0 hs => ?_), h.sb.ch h3 (fun h0 hs => ?_), h2, h.hB, h.gab, h.bga, h.bgb, fun h0 => ?_, fun h0 => ?_, h.aB, h.bB⟩, h4⟩
  · rcases hk with e | e
    · rw [e]; exact h.hB
    · exact (h.ow.lt k e).1
  · refine (h3.block g (Array.getElem?_eq_some_iff.1 hg).1 (fun hs => ?_)).trans hg
    rcases hs with e | e
    · have h5 : W.heap[B]? = some (.cells #[va, vb, vk, vo] 76 (0, 0)) := h.blk
      rw [← e, hg] at h5
      injection h5 with h6
      injection h6 with _ h7 _
      exact ht.2 h7
    · obtain ⟨_, cur, h6⟩ := own_typ h.ow e
      rw [hg] at h6
      injection h6 with h6
      injection h6 with _ h7 _
      exact ht.1 h7
  · rcases hs with e | e
    · exact hgB e
    · exact hgo e
  · rcases hs with e | e
    · exact h.aB h0 e
    · exact h.oa h0 e
  · rcases hs with e | e
    · exact h.bB h0 e
    · exact h.ob h0 e
  · rcases h4 with e | ⟨k, e, hk⟩
    · rw [e]; exact h.oa h0
    · rw [e]; intro e2; have := h.lta h0; injection e2 with e2; omega
  · rcases h4 with e | ⟨k, e, hk⟩
    · rw [e]; exact h.ob h0
    · rw [e]; intro e2; have := h.ltb h0; injection e2 with e2; omega
theorem sw_setA {W wb : World} {base B ga gb : Nat} {va vb vk vo v' : Value} {la lb out la2 : List S60} (h : Sw W base B ga gb va vb vk vo la lb out) (hn : 0 < la.length) (hs : Side wb ga v' la2) (hc : Ytdelfhahbngcfaa.Ch (fun k => k = ga) W wb) :
    Sw (wb.setCell ⟨B, 0, none⟩ v') base B ga gb v' vb vk vo la2 lb out ∧ Below base W (wb.setCell ⟨B, 0, none⟩ v') ∧ Ytdelfhahbngcfaa.Ch (fun k => k = ga ∨ k = B) W (wb.setCell ⟨B, 0, none⟩ v') := by
  have hbs : base ≤ W.heap.size := Nat.le_trans h.hB (Nat.le_of_lt (Ytdelfhahbngcfaa.blk_lt h.blk))
  have hst : Ytdelfhahbngcfaa.Ch (fun k => k = B) wb (wb.setCell ⟨B, 0, none⟩ v') := Ytdelfhahbngcfaa.Ch.setCell wb ⟨B, 0, none⟩ v'
  have h2 : Ytdelfhahbngcfaa.Ch (fun k => k = ga ∨ k = B) W (wb.setCell ⟨B, 0, none⟩ v') := (hc.mono (fun _ _ h => .inl h)).trans hst (fun _ h => .inl (.inr h))
  refine ⟨⟨Ytdelfhahbngcfaa.blk_set (Ytdelfhahbngcfaa.blk_ch h.blk hc (fun e => h.aB hn e.symm)) 0 v', hs.ch hst (fun _ e => h.aB hn e), h.sb.ch h2 (fun h0 e => ?_), own_ch h.ow h2 (fun k hk e => ?_), h.hB, fun _ => h.gab hn, fun _ => h.bga hn, h.bgb, fun _ => h.oa hn, h.ob, fun _ => h.aB hn, h.bB⟩, h2.below hbs (fun k hk => ?_), h2⟩
  · rcases e with e | e
    · exact h.gab hn h0 e.symm
    · exact h.bB h0 e
  · rcases e with e | e
    · exact h.oa hn (e ▸ hk)
    · subst e
      rcases h.ow.2 with ⟨h2, _⟩ | ⟨g, cap, cur, h2, h3, h4, _⟩
      · rw [h2] at hk; simp [Value.ownBlock] at hk
      · rw [h2] at hk
        have e2 : g = k := by simpa [Value.ownBlock] using hk
        rw [e2] at h4
        have h5 : W.heap[k]? = some (.cells #[va, vb, vk, vo] 76 (0, 0)) := h.blk
        rw [h4] at h5
        injection h5 with h6
        injection h6 with _ h7 _
        exact absurd h7 (by decide)
  · rcases hk with e | e
    · rw [e]; exact h.bga hn
    · rw [e]; exact h.hB
theorem sw_setB {W wb : World} {base B ga gb : Nat} {va vb vk vo v' : Value} {la lb out lb2 : List S60} (h : Sw W base B ga gb va vb vk vo la lb out) (hn : 0 < lb.length) (hs : Side wb gb v' lb2) (hc : Ytdelfhahbngcfaa.Ch (fun k => k = gb) W wb) :
    Sw (wb.setCell ⟨B, 1, none⟩ v') base B ga gb va v' vk vo la lb2 out ∧ Below base W (wb.setCell ⟨B, 1, none⟩ v') ∧ Ytdelfhahbngcfaa.Ch (fun k => k = gb ∨ k = B) W (wb.setCell ⟨B, 1, none⟩ v') := by
  have hbs : base ≤ W.heap.size := Nat.le_trans h.hB (Nat.le_of_lt (Ytdelfhahbngcfaa.blk_lt h.blk))
  have hst : Ytdelfhahbngcfaa.Ch (fun k => k = B) wb (wb.setCell ⟨B, 1, none⟩ v') := Ytdelfhahbngcfaa.Ch.setCell wb ⟨B, 1, none⟩ v'
  have h2 : Ytdelfhahbngcfaa.Ch (fun k => k = gb ∨ k = B) W (wb.setCell ⟨B, 1, none⟩ v') := (hc.mono (fun _ _ h => .inl h)).trans hst (fun _ h => .inl (.inr h))
  refine ⟨⟨Ytdelfhahbngcfaa.blk_set (Ytdelfhahbngcfaa.blk_ch h.blk hc (fun e => h.bB hn e.symm)) 1 v', h.sa.ch h2 (fun h0 e => ?_), hs.ch hst (fun _ e => h.bB hn e), own_ch h.ow h2 (fun k hk e => ?_), h.hB, fun ha _ => h.gab ha hn, h.bga, fun _ => h.bgb hn, h.oa, fun _ => h.ob hn, h.aB, fun _ => h.bB hn⟩, h2.below hbs (fun k hk => ?_), h2⟩
  · rcases e with e | e
    · exact h.gab h0 hn e
    · exact h.aB h0 e
  · rcases e with e | e
    · exact h.ob hn (e ▸ hk)
    · subst e
      rcases h.ow.2 with ⟨h2, _⟩ | ⟨g, cap, cur, h2, h3, h4, _⟩
      · rw [h2] at hk; simp [Value.ownBlock] at hk
      · rw [h2] at hk
        have e2 : g = k := by simpa [Value.ownBlock] using hk
        rw [e2] at h4
        have h5 : W.heap[k]? = some (.cells #[va, vb, vk, vo] 76 (0, 0)) := h.blk
        rw [h4] at h5
        injection h5 with h6
        injection h6 with _ h7 _
        exact absurd h7 (by decide)
  · rcases hk with e | e
    · rw [e]; exact h.bgb hn
    · rw [e]; exact h.hB
end Go.Proofs.YtdelfhahbngcfaaX.P07
end
section
namespace Go.Proofs.YtdelfhahbngcfaaX.P07
open Go.RowKit Go.Shelf Go.Sort Go.Lib Go.Proofs.Ytdelfhahbngcfaa Go.Proofs.YtdelfhahbngcfaaW.PrintWords Go.Proofs.YtdelfhahbngcfaaW.PrintLast Go.Proofs.YtdelfhahbngcfaaW.PrintMore
set_option linter.unusedVariables false
set_option linter.unusedSimpArgs false
attribute [local go_sem] Oper.semAt_some
set_option maxRecDepth 100000 in
set_option maxHeartbeats 4000000 in
theorem step1 (F : Nat) (kf : Bool → Bool → Bool) (hF : Keeps F kf) (base B ga gb : Nat) (va vb vo : Value) (x : S60) (ra out : List S60) (w : World) (h : Sw w base B ga gb va vb (.func (.func F) #[] #[]) vo (x :: ra) ([] : List S60) out)
    (X Y : S60) (hA : headV (x :: ra) x.f0 = (X, true)) (hB : headV ([] : List S60) x.f0 = (Y, false))
    (hXf : 0 ≤ X.f1 ∧ X.f1 ≤ 2147483647 ∧ 0 ≤ X.f2 ∧ X.f2 ≤ 2147483647) (hYf : 0 ≤ Y.f1 ∧ Y.f1 ≤ 2147483647 ∧ 0 ≤ Y.f2 ∧ Y.f2 ≤ 2147483647) (f0 fr : Int) (hf0 : min X.f1 Y.f1 = f0) (hfr : max X.f1 Y.f1 = fr)
    (hia : (X.f1 == fr) = true) (t1 t2 : Int) (HT1 : Hid (t1 = min 2147483647 X.f2)) (HT2 : Hid (t2 = t1)) (hT : 0 ≤ t2 ∧ t2 ≤ 2147483647) (hn : out.length < 1000000) (la2 lb2 o2 : List S60) (HLA : Hid (la2 = behV (x :: ra) t2)) (HLB2 : Hid (lb2 = ([] : List S60))) (HO : Hid (o2 = if kf true false = true then addV out ⟨x.f0, fr, t2⟩ else out)) :
    Calls Try.prog 74 #[.pointer (some ⟨B, 0, none⟩)] w (StepQ w base B ga gb (.func (.func F) #[] #[]) la2 lb2 o2) := by
  have HA := Lib.hid hA; have HB := Lib.hid hB; have HT := Lib.hid hT; have HF := Lib.hid hF
  clear hA hB hT hF
  have hb0 := h.c0
  have hb1 := h.c1
  have HF0 := Lib.hid hf0; have HIA := Lib.hid hia; have HXF := Lib.hid hXf; have HYF := Lib.hid hYf; have HN := Lib.hid hn
  clear hf0 hia hXf hYf hn
  have HFR := Lib.hid hfr
  clear hfr
  obtain ⟨off1, n1, c1, rfl, q0, e1⟩ := h.sa.first
  obtain ⟨AB, cB, rfl⟩ := h.sb.none
  have H := Lib.hid h
  have HBS := Lib.hid (Nat.le_trans h.hB (Nat.le_of_lt (Ytdelfhahbngcfaa.blk_lt h.blk)))
  have HOW := Lib.hid (fun k (hk : vo.ownBlock = some k) => (h.ow.lt k hk).2)
  clear h
  go_enter Try.func74, Try.ntmps74
  have H0 := Lib.hid H.out
  have HBW0 := Lib.hid (Below.refl w.heap.size w)
  go_wp2_with fail
  go_at_call 79
  refine (head_any H0.out.sa x.f0).mono ?_
  rintro e w1 ⟨rfl, hbw1⟩
  rw [HA.out]
  have hal1 := below_alloc (Below.refl _ w1) (.cells #[.int .i64 X.f0, .int .i64 X.f1, .int .i64 X.f2] 60)
  have HBW1 := Lib.hid ((HBW0.out.trans (hbw1.mono HBW0.out.size)).trans (hal1.mono (HBW0.out.trans (hbw1.mono HBW0.out.size)).size))
  have H1 := Lib.hid ((H0.out.below hbw1).below hal1)
  have hX := Ytdelfhahbngcfaa.blk_new w1 60 #[.int .i64 X.f0, .int .i64 X.f1, .int .i64 X.f2]
  have HXX := Lib.hid hX
  clear H0 hbw1 hX hal1 HBW0
  have hb1 := H1.out.c1
  go_wp2_with fail
  go_at_call 79
  refine (head_any H1.out.sb x.f0).mono ?_
  rintro e w2 ⟨rfl, hbw2⟩
  rw [HB.out]
  obtain ⟨V2, hV2⟩ : ∃ V, V = w2.alloc (.cells #[.int .i64 Y.f0, .int .i64 Y.f1, .int .i64 Y.f2] 60) := ⟨_, rfl⟩
  have hal := below_alloc (Below.refl _ w2) (.cells #[.int .i64 Y.f0, .int .i64 Y.f1, .int .i64 Y.f2] 60)
  rw [← hV2] at hal
  have hX2 := Ytdelfhahbngcfaa.blk_below (Ytdelfhahbngcfaa.blk_below HXX.out hbw2) hal
  have hY2 := Ytdelfhahbngcfaa.blk_new w2 60 #[.int .i64 Y.f0, .int .i64 Y.f1, .int .i64 Y.f2]
  rw [← hV2] at hY2
  have X1 := Ytdelfhahbngcfaa.blk_cell hX2 1 _ rfl
  have Y1 := Ytdelfhahbngcfaa.blk_cell hY2 1 _ rfl
  have hal2 := below_alloc (Below.refl _ V2) (.cells #[.int .i64 x.f0, .int .i64 fr, .int .i64 0] 60)
  have hN := Ytdelfhahbngcfaa.blk_new V2 60 #[.int .i64 x.f0, .int .i64 fr, .int .i64 0]
  have hs2 : V2.heap.size = w2.heap.size + 1 := by rw [hV2]; simp
  have H2 := Lib.hid ((H1.out.below hbw2).below (hal.trans (hal2.mono hal.size)))
  have HBW2 := Lib.hid ((HBW1.out.trans (hbw2.mono HBW1.out.size)).trans ((hal.trans (hal2.mono hal.size)).mono (HBW1.out.trans (hbw2.mono HBW1.out.size)).size))
  have BX := Lib.hid (Ytdelfhahbngcfaa.blk_below hX2 hal2)
  have BY := Lib.hid (Ytdelfhahbngcfaa.blk_below hY2 hal2)
  have HVC := Lib.hid (Ytdelfhahbngcfaa.Ch.of_below (hbw2.trans ((hal.trans (hal2.mono hal.size)).mono hbw2.size)) (fun k => k = w2.heap.size + 1))
  have HSZ : Hid ((w1.alloc (.cells #[.int .i64 X.f0, .int .i64 X.f1, .int .i64 X.f2] 60)).heap.size ≤ w2.heap.size) := Lib.hid hbw2.size
  have HLB : Hid (w.heap.size ≤ w2.heap.size) := Lib.hid (Nat.le_trans HBW1.out.size hbw2.size)
  have HLW : Hid (w1.heap.size < w2.heap.size) := Lib.hid (Ytdelfhahbngcfaa.blk_lt (Ytdelfhahbngcfaa.blk_below HXX.out hbw2))
  rw [hs2] at hN
  have hal3 := below_alloc (Below.refl _ V2) (.cells #[.int .i64 x.f0, .int .i64 f0, .int .i64 0] 60)
  have x1a := Ytdelfhahbngcfaa.blk_cell (Ytdelfhahbngcfaa.blk_below hX2 hal3) 1 _ rfl
  have y1a := Ytdelfhahbngcfaa.blk_cell (Ytdelfhahbngcfaa.blk_below hY2 hal3) 1 _ rfl
  rw [hV2] at x1a y1a
  clear hal3
  rw [hV2] at X1 Y1
  have hf0 := HF0.out
  have hfr := HFR.out
  clear e1  
  go_upto_region 11 with fail
  clear hf0
  clear hfr
  obtain ⟨W, hW⟩ : ∃ W, W = V2.alloc (.cells #[.int .i64 x.f0, .int .i64 fr, .int .i64 0] 60) := ⟨_, rfl⟩
  rw [← hW] at hN H2 BX BY HBW2 HVC
  have BN := Lib.hid hN
  rw [hV2] at hW
  rw [← hW]
  clear hW hN hal2 hs2 hY2 hX2 X1 Y1 hV2 hal
  have hx1 := Ytdelfhahbngcfaa.blk_cell BX.out 1 _ rfl
  have hy1 := Ytdelfhahbngcfaa.blk_cell BY.out 1 _ rfl
  have hn1 := Ytdelfhahbngcfaa.blk_cell BN.out 1 _ rfl
  have hia := HIA.out
  go_quiet (fail)
  clear hia
  obtain ⟨W2, hW2⟩ : ∃ W2, W2 = (W.drewN nq).setCell ⟨w2.heap.size + 1, 2, none⟩ (.int .i64 2147483647) := ⟨_, rfl⟩
  have BN1 : Ytdelfhahbngcfaa.Blk W2 (w2.heap.size + 1) 60 #[.int .i64 x.f0, .int .i64 fr, .int .i64 2147483647] := by
    rw [hW2]; exact Ytdelfhahbngcfaa.blk_set (w := W.drewN nq) BN.out 2 _
  have hch : Ytdelfhahbngcfaa.Ch (fun k => k = w2.heap.size + 1) W W2 := by
    rw [hW2]; exact (Ytdelfhahbngcfaa.ch_drewN _ W nq).trans (Ytdelfhahbngcfaa.Ch.setCell _ _ _) (fun _ h => .inl h)
  have hlw := HLW.out
  have BX1 := Ytdelfhahbngcfaa.blk_ch BX.out hch (by omega)
  have BY1 := Ytdelfhahbngcfaa.blk_ch BY.out hch (by omega)
  have hf2 := Ytdelfhahbngcfaa.blk_thawed (w := W.drewN nq) BN.out 2
  have hn2 := Ytdelfhahbngcfaa.blk_cell (w := W.drewN nq) BN.out 2 _ rfl
  have x0 := Ytdelfhahbngcfaa.blk_cell BX1 0 _ rfl
  have x1 := Ytdelfhahbngcfaa.blk_cell BX1 1 _ rfl
  have x2 := Ytdelfhahbngcfaa.blk_cell BX1 2 _ rfl
  have y0 := Ytdelfhahbngcfaa.blk_cell BY1 0 _ rfl
  have y1 := Ytdelfhahbngcfaa.blk_cell BY1 1 _ rfl
  have y2 := Ytdelfhahbngcfaa.blk_cell BY1 2 _ rfl
  have BN2 := Lib.hid BN1; have HCH := Lib.hid hch
  clear BX1 BY1 BN1 hch
  rw [hW2] at x0 x1 x2 y0 y1 y2
  have HW2 := Lib.hid hW2
  clear hW2
  go_wp2_with fail
  obtain ⟨W3, hW3⟩ : ∃ W3, W3 = W2.alloc (.cells #[.int .i64 X.f0, .int .i64 X.f1, .int .i64 X.f2, .bool true, .bool true, .int .i64 Y.f0, .int .i64 Y.f1, .int .i64 Y.f2, .bool false, .bool false] 95) := ⟨_, rfl⟩
  have hb3 := below_alloc (Below.refl _ W2) (.cells #[.int .i64 X.f0, .int .i64 X.f1, .int .i64 X.f2, .bool true, .bool true, .int .i64 Y.f0, .int .i64 Y.f1, .int .i64 Y.f2, .bool false, .bool false] 95)
  have hA3 := Ytdelfhahbngcfaa.blk_new W2 95 #[.int .i64 X.f0, .int .i64 X.f1, .int .i64 X.f2, .bool true, .bool true, .int .i64 Y.f0, .int .i64 Y.f1, .int .i64 Y.f2, .bool false, .bool false]
  rw [← hW3] at hb3 hA3
  have hsW : W2.heap.size = W.heap.size := by rw [HW2.out]; simp
  rw [hsW] at hA3
  have HA3 := Lib.hid hA3
  have HN3 := Lib.hid (Ytdelfhahbngcfaa.blk_below BN2.out hb3)
  have HC3 := Lib.hid (HCH.out.trans (Ytdelfhahbngcfaa.Ch.of_below hb3 (fun k => k = w2.heap.size + 1)) (fun _ h => .inl h))
  have hlN : w2.heap.size + 1 < W.heap.size := Ytdelfhahbngcfaa.blk_lt BN.out
  have HLN := Lib.hid hlN
  rw [HW2.out] at hW3
  rw [← hW3]
  clear hW3 hb3 hA3 hsW x0 x1 x2 y0 y1 y2 hn2 hf2 hx1 hy1 hn1 BN BN2 BX BY HW2 hlw HCH hlN
  go_loopw [119] (fun i wr => ∃ k : Nat, k ≤ 2 ∧ i = .int .i64 k ∧ Hid (Ytdelfhahbngcfaa.Blk wr (w2.heap.size + 1) 60 #[.int .i64 x.f0, .int .i64 fr, .int .i64 (tK t1 t2 k)] ∧ Ytdelfhahbngcfaa.Ch (fun j => j = w2.heap.size + 1) W3 wr)) (fun i _ => 2 - (intOf i).toNat)
  case atStart => exact ⟨0, by omega, rfl, Lib.hid ⟨HN3.out, Ytdelfhahbngcfaa.Ch.refl _ _⟩⟩
  case round =>
    obtain ⟨k, hk, rfl, HI⟩ := hrel
    have hA4 := Ytdelfhahbngcfaa.blk_ch HA3.out HI.out.2 (by have := HLN.out; omega)
    by_cases hk0 : k = 0
    · subst hk0
      have a0 := Ytdelfhahbngcfaa.blk_cell hA4 0 _ rfl
      have a1 := Ytdelfhahbngcfaa.blk_cell hA4 1 _ rfl
      have a2 := Ytdelfhahbngcfaa.blk_cell hA4 2 _ rfl
      have a3 := Ytdelfhahbngcfaa.blk_cell hA4 3 _ rfl
      have a4 := Ytdelfhahbngcfaa.blk_cell hA4 4 _ rfl
      have hbX := below_alloc (Below.refl _ wr) (.cells #[.int .i64 X.f0, .int .i64 X.f1, .int .i64 X.f2, .bool true, .bool true] 95)
      have hbN := Ytdelfhahbngcfaa.blk_below HI.out.1 hbX
      have n2 := Ytdelfhahbngcfaa.blk_cell hbN 2 _ rfl
      have f2 := Ytdelfhahbngcfaa.blk_thawed hbN 2
      have HBN := Lib.hid hbN
      have HCX := Lib.hid (HI.out.2.trans (Ytdelfhahbngcfaa.Ch.of_below hbX (fun j => j = w2.heap.size + 1)) (fun _ h => .inl h))
      have hlo := HXF.out.1
      have hhi := HXF.out.2.1
      clear hbX hbN hA4
      rw [show tK t1 t2 0 = 2147483647 from rfl] at n2
      go_wp2
      go_roundw
      case rel => exact ⟨1, by omega, by go_num, Lib.hid ⟨by rw [show tK t1 t2 1 = _ from HT1.out]; exact Ytdelfhahbngcfaa.blk_set HBN.out 2 _, HCX.out.trans (Ytdelfhahbngcfaa.Ch.setCell _ ⟨w2.heap.size + 1, 2, none⟩ _) (fun _ h => .inl h)⟩⟩
      case measure => simp [intOf]
    by_cases hk1 : k = 1
    · subst hk1
      have a0 := Ytdelfhahbngcfaa.blk_cell hA4 5 _ rfl
      have a1 := Ytdelfhahbngcfaa.blk_cell hA4 6 _ rfl
      have a2 := Ytdelfhahbngcfaa.blk_cell hA4 7 _ rfl
      have a3 := Ytdelfhahbngcfaa.blk_cell hA4 8 _ rfl
      have a4 := Ytdelfhahbngcfaa.blk_cell hA4 9 _ rfl
      have hbX := below_alloc (Below.refl _ wr) (.cells #[.int .i64 Y.f0, .int .i64 Y.f1, .int .i64 Y.f2, .bool false, .bool false] 95)
      have hbN := Ytdelfhahbngcfaa.blk_below HI.out.1 hbX
      have n2 := Ytdelfhahbngcfaa.blk_cell hbN 2 _ rfl
      have f2 := Ytdelfhahbngcfaa.blk_thawed hbN 2
      have HBN := Lib.hid hbN
      have HCX := Lib.hid (HI.out.2.trans (Ytdelfhahbngcfaa.Ch.of_below hbX (fun j => j = w2.heap.size + 1)) (fun _ h => .inl h))
      have hlo := HYF.out.1
      have hhi := HYF.out.2.1
      clear hbX hbN hA4
      rw [show tK t1 t2 1 = t1 from rfl] at n2
      go_wp2
      go_roundw
      case rel => exact ⟨2, by omega, by go_num, Lib.hid ⟨by rw [show tK t1 t2 2 = _ from HT2.out]; exact HBN.out, HCX.out⟩⟩
      case measure => simp [intOf]
    obtain rfl : k = 2 := by omega
    clear hA4 hk0 hk1
    have hB7 := HI.out.1
    rw [show tK t1 t2 2 = t2 from rfl] at hB7
    have hch7 := HC3.out.trans HI.out.2 (fun _ h => .inl h)
    have H3 := Lib.hid (H1.out.ch (HVC.out.trans hch7 (fun _ h => .inl h)) (fun k hk e => by have := HSZ.out; omega))
    have HB7 := Lib.hid hB7
    have HBW3 := Lib.hid (HBW2.out.trans (hch7.below (B := w.heap.size) HBW2.out.size (fun k hk => by have := HLB.out; omega)))
    clear hB7 hch7 HI
    have k2 := H3.out.c2
    have hcall := (HF.out true false wr).2
    go_wp2_with fail
    clear hcall
    refine (HF.out _ _ _).1.mono ?_
    rintro e wk ⟨rfl, rfl⟩
    have HG7 := Lib.hid (show ga < w2.heap.size + 1 ∧ B < w2.heap.size + 1 from by
      have h1 := H1.out.lta (by simp); have h3 := Ytdelfhahbngcfaa.blk_lt H1.out.blk; have h4 := HSZ.out; exact ⟨by omega, by omega⟩)
    obtain ⟨kp, hkp⟩ : ∃ kp, kp = kf true false := ⟨_, rfl⟩
    rw [← hkp] at HO ⊢
    clear hkp
    cases kp
    · rw [if_neg (by decide)] at HO
      go_wp2_with fail
      have HC := H3; have H7 := HB7; have HBW := Lib.hid (HBW3.out.mono HBS.out)
      clear H3 HB7 HBW3 k2
      have r0 := HC.out.c0
      have r7 := Ytdelfhahbngcfaa.blk_cell H7.out 2 _ rfl
      have HARM := Lib.hid (show ∀ wb, Ytdelfhahbngcfaa.Ch (fun k => k = ga) wr.drew wb → wb.cell? ⟨B, 0, none⟩ = wr.cell? ⟨B, 0, none⟩ ∧ wb.frozen? ⟨B, 0, none⟩ = false ∧ Ytdelfhahbngcfaa.Ch (fun k => k = ga) wr wb from fun wb hch => by
        have hch2 := (Ytdelfhahbngcfaa.Ch.drew wr (fun k => k = ga)).trans hch (fun _ h => .inl h)
        have hb := Ytdelfhahbngcfaa.blk_ch HC.out.blk hch2 (fun e => HC.out.aB (by simp) e.symm)
        exact ⟨(Ytdelfhahbngcfaa.blk_cell hb 0 _ rfl).trans (HC.out.c0).symm, Ytdelfhahbngcfaa.blk_thawed hb 0, hch2⟩)
      go_region_with (go_at_call 80; refine (behind_any ga _ x ra t2 _ (HC.out.sa.ch (Ytdelfhahbngcfaa.Ch.drew wr No) (fun _ => id)) HT.out).mono ?_; rintro e wb ⟨vn, rfl, hs, hch⟩; obtain ⟨a1, a2, hch2⟩ := HARM.out wb hch; rw [r0] at a1; have HSS := Lib.hid hs; obtain ⟨A9, c9, hv9, _⟩ := hs; have HCH := Lib.hid hch2; subst hv9; clear hch hch2)
      all_goals
        clear r0 r7 HARM
        have HN1 := Lib.hid (sw_setA HC.out (by simp) HSS.out HCH.out)
        have HB1 := Lib.hid (HBW.out.trans HN1.out.2.1)
        go_wp2_with fail
        exact bodyPost_end (results_none rfl _ _ _) rfl ⟨rfl, HB1.out, _, _, _, by rw [HLA.out, HLB2.out, HO.out]; exact HN1.out.1⟩
    · rw [if_pos rfl] at HO
      have m0 := Ytdelfhahbngcfaa.blk_cell HB7.out 0 _ rfl
      have m1 := Ytdelfhahbngcfaa.blk_cell HB7.out 1 _ rfl
      have m2 := Ytdelfhahbngcfaa.blk_cell HB7.out 2 _ rfl
      have HADD := Lib.hid (add_any base B _ _ _ vo out ⟨x.f0, fr, t2⟩ wr H3.out.blk H3.out.ow H3.out.hB HN.out)
      have HAFT := Lib.hid (fun e W' => sw_add (e := e) (W' := W') (out2 := addV out ⟨x.f0, fr, t2⟩) H3.out)
      go_wp2_with (go_at_call 60; refine HADD.out.mono ?_; rintro e wa hq; obtain ⟨he, hb9, _, hkeep, vo9, hsw9, _⟩ := HAFT.out e wa hq; subst he; have HC := Lib.hid hsw9; have HB9 := Lib.hid hb9; have HKP := Lib.hid hkeep; clear hq hb9 hkeep hsw9)
      clear m0 m1 m2
      have H7 := Lib.hid (show Ytdelfhahbngcfaa.Blk wa (w2.heap.size + 1) 60 #[.int .i64 x.f0, .int .i64 fr, .int .i64 t2] from (HKP.out _ (Ytdelfhahbngcfaa.blk_lt HB7.out) (fun e => by have := HG7.out; omega) (fun e => by
        have h1 := HOW.out _ e; have h2 := HLB.out; omega)).trans HB7.out)
      have HBW := Lib.hid ((HBW3.out.mono HBS.out).trans HB9.out)
      clear H3 HB7 HBW3 k2 HB9 HKP HAFT HADD
      have r0 := HC.out.c0
      have r7 := Ytdelfhahbngcfaa.blk_cell H7.out 2 _ rfl
      have HARM := Lib.hid (show ∀ wb, Ytdelfhahbngcfaa.Ch (fun k => k = ga) wa.drew wb → wb.cell? ⟨B, 0, none⟩ = wa.cell? ⟨B, 0, none⟩ ∧ wb.frozen? ⟨B, 0, none⟩ = false ∧ Ytdelfhahbngcfaa.Ch (fun k => k = ga) wa wb from fun wb hch => by
        have hch2 := (Ytdelfhahbngcfaa.Ch.drew wa (fun k => k = ga)).trans hch (fun _ h => .inl h)
        have hb := Ytdelfhahbngcfaa.blk_ch HC.out.blk hch2 (fun e => HC.out.aB (by simp) e.symm)
        exact ⟨(Ytdelfhahbngcfaa.blk_cell hb 0 _ rfl).trans (HC.out.c0).symm, Ytdelfhahbngcfaa.blk_thawed hb 0, hch2⟩)
      go_region_with (go_at_call 80; refine (behind_any ga _ x ra t2 _ (HC.out.sa.ch (Ytdelfhahbngcfaa.Ch.drew wa No) (fun _ => id)) HT.out).mono ?_; rintro e wb ⟨vn, rfl, hs, hch⟩; obtain ⟨a1, a2, hch2⟩ := HARM.out wb hch; rw [r0] at a1; have HSS := Lib.hid hs; obtain ⟨A9, c9, hv9, _⟩ := hs; have HCH := Lib.hid hch2; subst hv9; clear hch hch2)
      all_goals
        clear r0 r7 HARM
        have HN1 := Lib.hid (sw_setA HC.out (by simp) HSS.out HCH.out)
        have HB1 := Lib.hid (HBW.out.trans HN1.out.2.1)
        go_wp2_with fail
        exact bodyPost_end (results_none rfl _ _ _) rfl ⟨rfl, HB1.out, _, _, _, by rw [HLA.out, HLB2.out, HO.out]; exact HN1.out.1⟩
set_option maxRecDepth 100000 in
set_option maxHeartbeats 4000000 in
theorem step2 (F : Nat) (kf : Bool → Bool → Bool) (hF : Keeps F kf) (base B ga gb : Nat) (va vb vo : Value) (y : S60) (rb out : List S60) (w : World) (h : Sw w base B ga gb va vb (.func (.func F) #[] #[]) vo ([] : List S60) (y :: rb) out)
    (X Y : S60) (hA : headV ([] : List S60) y.f0 = (X, false)) (hB : headV (y :: rb) y.f0 = (Y, true))
    (hXf : 0 ≤ X.f1 ∧ X.f1 ≤ 2147483647 ∧ 0 ≤ X.f2 ∧ X.f2 ≤ 2147483647) (hYf : 0 ≤ Y.f1 ∧ Y.f1 ≤ 2147483647 ∧ 0 ≤ Y.f2 ∧ Y.f2 ≤ 2147483647) (f0 fr : Int) (hf0 : min X.f1 Y.f1 = f0) (hfr : max X.f1 Y.f1 = fr)
    (hib : (Y.f1 == fr) = true) (t1 t2 : Int) (HT1 : Hid (t1 = 2147483647)) (HT2 : Hid (t2 = min t1 Y.f2)) (hT : 0 ≤ t2 ∧ t2 ≤ 2147483647) (hn : out.length < 1000000) (la2 lb2 o2 : List S60) (HLA : Hid (la2 = ([] : List S60))) (HLB2 : Hid (lb2 = behV (y :: rb) t2)) (HO : Hid (o2 = if kf false true = true then addV out ⟨y.f0, fr, t2⟩ else out)) :
    Calls Try.prog 74 #[.pointer (some ⟨B, 0, none⟩)] w (StepQ w base B ga gb (.func (.func F) #[] #[]) la2 lb2 o2) := by
  have HA := Lib.hid hA; have HB := Lib.hid hB; have HT := Lib.hid hT; have HF := Lib.hid hF
  clear hA hB hT hF
  have hb0 := h.c0
  have hb1 := h.c1
  have HF0 := Lib.hid hf0; have HIB := Lib.hid hib; have HXF := Lib.hid hXf; have HYF := Lib.hid hYf; have HN := Lib.hid hn
  clear hf0 hib hXf hYf hn
  have HFR := Lib.hid hfr
  clear hfr
  obtain ⟨AA, cA, rfl⟩ := h.sa.none
  obtain ⟨off2, n2, c2, rfl, r0, e2⟩ := h.sb.first
  have H := Lib.hid h
  have HBS := Lib.hid (Nat.le_trans h.hB (Nat.le_of_lt (Ytdelfhahbngcfaa.blk_lt h.blk)))
  have HOW := Lib.hid (fun k (hk : vo.ownBlock = some k) => (h.ow.lt k hk).2)
  clear h
  go_enter Try.func74, Try.ntmps74
  have H0 := Lib.hid H.out
  have HBW0 := Lib.hid (Below.refl w.heap.size w)
  go_wp2_with fail
  go_at_call 79
  refine (head_any H0.out.sa y.f0).mono ?_
  rintro e w1 ⟨rfl, hbw1⟩
  rw [HA.out]
  have hal1 := below_alloc (Below.refl _ w1) (.cells #[.int .i64 X.f0, .int .i64 X.f1, .int .i64 X.f2] 60)
  have HBW1 := Lib.hid ((HBW0.out.trans (hbw1.mono HBW0.out.size)).trans (hal1.mono (HBW0.out.trans (hbw1.mono HBW0.out.size)).size))
  have H1 := Lib.hid ((H0.out.below hbw1).below hal1)
  have hX := Ytdelfhahbngcfaa.blk_new w1 60 #[.int .i64 X.f0, .int .i64 X.f1, .int .i64 X.f2]
  have HXX := Lib.hid hX
  clear H0 hbw1 hX hal1 HBW0
  have hb1 := H1.out.c1
  go_wp2_with fail
  go_at_call 79
  refine (head_any H1.out.sb y.f0).mono ?_
  rintro e w2 ⟨rfl, hbw2⟩
  rw [HB.out]
  obtain ⟨V2, hV2⟩ : ∃ V, V = w2.alloc (.cells #[.int .i64 Y.f0, .int .i64 Y.f1, .int .i64 Y.f2] 60) := ⟨_, rfl⟩
  have hal := below_alloc (Below.refl _ w2) (.cells #[.int .i64 Y.f0, .int .i64 Y.f1, .int .i64 Y.f2] 60)
  rw [← hV2] at hal
  have hX2 := Ytdelfhahbngcfaa.blk_below (Ytdelfhahbngcfaa.blk_below HXX.out hbw2) hal
  have hY2 := Ytdelfhahbngcfaa.blk_new w2 60 #[.int .i64 Y.f0, .int .i64 Y.f1, .int .i64 Y.f2]
  rw [← hV2] at hY2
  have X1 := Ytdelfhahbngcfaa.blk_cell hX2 1 _ rfl
  have Y1 := Ytdelfhahbngcfaa.blk_cell hY2 1 _ rfl
  have hal2 := below_alloc (Below.refl _ V2) (.cells #[.int .i64 y.f0, .int .i64 fr, .int .i64 0] 60)
  have hN := Ytdelfhahbngcfaa.blk_new V2 60 #[.int .i64 y.f0, .int .i64 fr, .int .i64 0]
  have hs2 : V2.heap.size = w2.heap.size + 1 := by rw [hV2]; simp
  have H2 := Lib.hid ((H1.out.below hbw2).below (hal.trans (hal2.mono hal.size)))
  have HBW2 := Lib.hid ((HBW1.out.trans (hbw2.mono HBW1.out.size)).trans ((hal.trans (hal2.mono hal.size)).mono (HBW1.out.trans (hbw2.mono HBW1.out.size)).size))
  have BX := Lib.hid (Ytdelfhahbngcfaa.blk_below hX2 hal2)
  have BY := Lib.hid (Ytdelfhahbngcfaa.blk_below hY2 hal2)
  have HVC := Lib.hid (Ytdelfhahbngcfaa.Ch.of_below (hbw2.trans ((hal.trans (hal2.mono hal.size)).mono hbw2.size)) (fun k => k = w2.heap.size + 1))
  have HSZ : Hid ((w1.alloc (.cells #[.int .i64 X.f0, .int .i64 X.f1, .int .i64 X.f2] 60)).heap.size ≤ w2.heap.size) := Lib.hid hbw2.size
  have HLB : Hid (w.heap.size ≤ w2.heap.size) := Lib.hid (Nat.le_trans HBW1.out.size hbw2.size)
  have HLW : Hid (w1.heap.size < w2.heap.size) := Lib.hid (Ytdelfhahbngcfaa.blk_lt (Ytdelfhahbngcfaa.blk_below HXX.out hbw2))
  rw [hs2] at hN
  have hal3 := below_alloc (Below.refl _ V2) (.cells #[.int .i64 y.f0, .int .i64 f0, .int .i64 0] 60)
  have x1a := Ytdelfhahbngcfaa.blk_cell (Ytdelfhahbngcfaa.blk_below hX2 hal3) 1 _ rfl
  have y1a := Ytdelfhahbngcfaa.blk_cell (Ytdelfhahbngcfaa.blk_below hY2 hal3) 1 _ rfl
  rw [hV2] at x1a y1a
  clear hal3
  rw [hV2] at X1 Y1
  have hf0 := HF0.out
  have hfr := HFR.out
  clear  e2 
  go_upto_region 11 with fail
  clear hf0
  clear hfr
  obtain ⟨W, hW⟩ : ∃ W, W = V2.alloc (.cells #[.int .i64 y.f0, .int .i64 fr, .int .i64 0] 60) := ⟨_, rfl⟩
  rw [← hW] at hN H2 BX BY HBW2 HVC
  have BN := Lib.hid hN
  rw [hV2] at hW
  rw [← hW]
  clear hW hN hal2 hs2 hY2 hX2 X1 Y1 hV2 hal
  have hx1 := Ytdelfhahbngcfaa.blk_cell BX.out 1 _ rfl
  have hy1 := Ytdelfhahbngcfaa.blk_cell BY.out 1 _ rfl
  have hn1 := Ytdelfhahbngcfaa.blk_cell BN.out 1 _ rfl
  have hib := HIB.out
  go_quiet (fail)
  clear hib
  obtain ⟨W2, hW2⟩ : ∃ W2, W2 = (W.drewN nq).setCell ⟨w2.heap.size + 1, 2, none⟩ (.int .i64 2147483647) := ⟨_, rfl⟩
  have BN1 : Ytdelfhahbngcfaa.Blk W2 (w2.heap.size + 1) 60 #[.int .i64 y.f0, .int .i64 fr, .int .i64 2147483647] := by
    rw [hW2]; exact Ytdelfhahbngcfaa.blk_set (w := W.drewN nq) BN.out 2 _
  have hch : Ytdelfhahbngcfaa.Ch (fun k => k = w2.heap.size + 1) W W2 := by
    rw [hW2]; exact (Ytdelfhahbngcfaa.ch_drewN _ W nq).trans (Ytdelfhahbngcfaa.Ch.setCell _ _ _) (fun _ h => .inl h)
  have hlw := HLW.out
  have BX1 := Ytdelfhahbngcfaa.blk_ch BX.out hch (by omega)
  have BY1 := Ytdelfhahbngcfaa.blk_ch BY.out hch (by omega)
  have hf2 := Ytdelfhahbngcfaa.blk_thawed (w := W.drewN nq) BN.out 2
  have hn2 := Ytdelfhahbngcfaa.blk_cell (w := W.drewN nq) BN.out 2 _ rfl
  have x0 := Ytdelfhahbngcfaa.blk_cell BX1 0 _ rfl
  have x1 := Ytdelfhahbngcfaa.blk_cell BX1 1 _ rfl
  have x2 := Ytdelfhahbngcfaa.blk_cell BX1 2 _ rfl
  have y0 := Ytdelfhahbngcfaa.blk_cell BY1 0 _ rfl
  have y1 := Ytdelfhahbngcfaa.blk_cell BY1 1 _ rfl
  have y2 := Ytdelfhahbngcfaa.blk_cell BY1 2 _ rfl
  have BN2 := Lib.hid BN1; have HCH := Lib.hid hch
  clear BX1 BY1 BN1 hch
  rw [hW2] at x0 x1 x2 y0 y1 y2
  have HW2 := Lib.hid hW2
  clear hW2
  go_wp2_with fail
  obtain ⟨W3, hW3⟩ : ∃ W3, W3 = W2.alloc (.cells #[.int .i64 X.f0, .int .i64 X.f1, .int .i64 X.f2, .bool false, .bool false, .int .i64 Y.f0, .int .i64 Y.f1, .int .i64 Y.f2, .bool true, .bool true] 95) := ⟨_, rfl⟩
  have hb3 := below_alloc (Below.refl _ W2) (.cells #[.int .i64 X.f0, .int .i64 X.f1, .int .i64 X.f2, .bool false, .bool false, .int .i64 Y.f0, .int .i64 Y.f1, .int .i64 Y.f2, .bool true, .bool true] 95)
  have hA3 := Ytdelfhahbngcfaa.blk_new W2 95 #[.int .i64 X.f0, .int .i64 X.f1, .int .i64 X.f2, .bool false, .bool false, .int .i64 Y.f0, .int .i64 Y.f1, .int .i64 Y.f2, .bool true, .bool true]
  rw [← hW3] at hb3 hA3
  have hsW : W2.heap.size = W.heap.size := by rw [HW2.out]; simp
  rw [hsW] at hA3
  have HA3 := Lib.hid hA3
  have HN3 := Lib.hid (Ytdelfhahbngcfaa.blk_below BN2.out hb3)
  have HC3 := Lib.hid (HCH.out.trans (Ytdelfhahbngcfaa.Ch.of_below hb3 (fun k => k = w2.heap.size + 1)) (fun _ h => .inl h))
  have hlN : w2.heap.size + 1 < W.heap.size := Ytdelfhahbngcfaa.blk_lt BN.out
  have HLN := Lib.hid hlN
  rw [HW2.out] at hW3
  rw [← hW3]
  clear hW3 hb3 hA3 hsW x0 x1 x2 y0 y1 y2 hn2 hf2 hx1 hy1 hn1 BN BN2 BX BY HW2 hlw HCH hlN
  go_loopw [119] (fun i wr => ∃ k : Nat, k ≤ 2 ∧ i = .int .i64 k ∧ Hid (Ytdelfhahbngcfaa.Blk wr (w2.heap.size + 1) 60 #[.int .i64 y.f0, .int .i64 fr, .int .i64 (tK t1 t2 k)] ∧ Ytdelfhahbngcfaa.Ch (fun j => j = w2.heap.size + 1) W3 wr)) (fun i _ => 2 - (intOf i).toNat)
  case atStart => exact ⟨0, by omega, rfl, Lib.hid ⟨HN3.out, Ytdelfhahbngcfaa.Ch.refl _ _⟩⟩
  case round =>
    obtain ⟨k, hk, rfl, HI⟩ := hrel
    have hA4 := Ytdelfhahbngcfaa.blk_ch HA3.out HI.out.2 (by have := HLN.out; omega)
    by_cases hk0 : k = 0
    · subst hk0
      have a0 := Ytdelfhahbngcfaa.blk_cell hA4 0 _ rfl
      have a1 := Ytdelfhahbngcfaa.blk_cell hA4 1 _ rfl
      have a2 := Ytdelfhahbngcfaa.blk_cell hA4 2 _ rfl
      have a3 := Ytdelfhahbngcfaa.blk_cell hA4 3 _ rfl
      have a4 := Ytdelfhahbngcfaa.blk_cell hA4 4 _ rfl
      have hbX := below_alloc (Below.refl _ wr) (.cells #[.int .i64 X.f0, .int .i64 X.f1, .int .i64 X.f2, .bool false, .bool false] 95)
      have hbN := Ytdelfhahbngcfaa.blk_below HI.out.1 hbX
      have n2 := Ytdelfhahbngcfaa.blk_cell hbN 2 _ rfl
      have f2 := Ytdelfhahbngcfaa.blk_thawed hbN 2
      have HBN := Lib.hid hbN
      have HCX := Lib.hid (HI.out.2.trans (Ytdelfhahbngcfaa.Ch.of_below hbX (fun j => j = w2.heap.size + 1)) (fun _ h => .inl h))
      have hlo := HXF.out.1
      have hhi := HXF.out.2.1
      clear hbX hbN hA4
      rw [show tK t1 t2 0 = 2147483647 from rfl] at n2
      go_wp2
      go_roundw
      case rel => exact ⟨1, by omega, by go_num, Lib.hid ⟨by rw [show tK t1 t2 1 = _ from HT1.out]; exact HBN.out, HCX.out⟩⟩
      case measure => simp [intOf]
    by_cases hk1 : k = 1
    · subst hk1
      have a0 := Ytdelfhahbngcfaa.blk_cell hA4 5 _ rfl
      have a1 := Ytdelfhahbngcfaa.blk_cell hA4 6 _ rfl
      have a2 := Ytdelfhahbngcfaa.blk_cell hA4 7 _ rfl
      have a3 := Ytdelfhahbngcfaa.blk_cell hA4 8 _ rfl
      have a4 := Ytdelfhahbngcfaa.blk_cell hA4 9 _ rfl
      have hbX := below_alloc (Below.refl _ wr) (.cells #[.int .i64 Y.f0, .int .i64 Y.f1, .int .i64 Y.f2, .bool true, .bool true] 95)
      have hbN := Ytdelfhahbngcfaa.blk_below HI.out.1 hbX
      have n2 := Ytdelfhahbngcfaa.blk_cell hbN 2 _ rfl
      have f2 := Ytdelfhahbngcfaa.blk_thawed hbN 2
      have HBN := Lib.hid hbN
      have HCX := Lib.hid (HI.out.2.trans (Ytdelfhahbngcfaa.Ch.of_below hbX (fun j => j = w2.heap.size + 1)) (fun _ h => .inl h))
      have hlo := HYF.out.1
      have hhi := HYF.out.2.1
      clear hbX hbN hA4
      rw [show tK t1 t2 1 = t1 from rfl] at n2
      go_wp2
      go_roundw
      case rel => exact ⟨2, by omega, by go_num, Lib.hid ⟨by rw [show tK t1 t2 2 = _ from HT2.out]; exact Ytdelfhahbngcfaa.blk_set HBN.out 2 _, HCX.out.trans (Ytdelfhahbngcfaa.Ch.setCell _ ⟨w2.heap.size + 1, 2, none⟩ _) (fun _ h => .inl h)⟩⟩
      case measure => simp [intOf]
    obtain rfl : k = 2 := by omega
    clear hA4 hk0 hk1
    have hB7 := HI.out.1
    rw [show tK t1 t2 2 = t2 from rfl] at hB7
    have hch7 := HC3.out.trans HI.out.2 (fun _ h => .inl h)
    have H3 := Lib.hid (H1.out.ch (HVC.out.trans hch7 (fun _ h => .inl h)) (fun k hk e => by have := HSZ.out; omega))
    have HB7 := Lib.hid hB7
    have HBW3 := Lib.hid (HBW2.out.trans (hch7.below (B := w.heap.size) HBW2.out.size (fun k hk => by have := HLB.out; omega)))
    clear hB7 hch7 HI
    have k2 := H3.out.c2
    have hcall := (HF.out false true wr).2
    go_wp2_with fail
    clear hcall
    refine (HF.out _ _ _).1.mono ?_
    rintro e wk ⟨rfl, rfl⟩
    have HG7 := Lib.hid (show B < w2.heap.size + 1 from by
      have h3 := Ytdelfhahbngcfaa.blk_lt H1.out.blk; have h4 := HSZ.out; omega)
    obtain ⟨kp, hkp⟩ : ∃ kp, kp = kf false true := ⟨_, rfl⟩
    rw [← hkp] at HO ⊢
    clear hkp
    cases kp
    · rw [if_neg (by decide)] at HO
      go_wp2_with fail
      have HC := H3; have H7 := HB7; have HBW := Lib.hid (HBW3.out.mono HBS.out)
      clear H3 HB7 HBW3 k2
      have r0 := HC.out.c1
      have r7 := Ytdelfhahbngcfaa.blk_cell H7.out 2 _ rfl
      have HARM := Lib.hid (show ∀ wb, Ytdelfhahbngcfaa.Ch (fun k => k = gb) wr.drew wb → wb.cell? ⟨B, 1, none⟩ = wr.cell? ⟨B, 1, none⟩ ∧ wb.frozen? ⟨B, 1, none⟩ = false ∧ Ytdelfhahbngcfaa.Ch (fun k => k = gb) wr wb from fun wb hch => by
        have hch2 := (Ytdelfhahbngcfaa.Ch.drew wr (fun k => k = gb)).trans hch (fun _ h => .inl h)
        have hb := Ytdelfhahbngcfaa.blk_ch HC.out.blk hch2 (fun e => HC.out.bB (by simp) e.symm)
        exact ⟨(Ytdelfhahbngcfaa.blk_cell hb 1 _ rfl).trans (HC.out.c1).symm, Ytdelfhahbngcfaa.blk_thawed hb 1, hch2⟩)
      go_region_with (go_at_call 80; refine (behind_any gb _ y rb t2 _ (HC.out.sb.ch (Ytdelfhahbngcfaa.Ch.drew wr No) (fun _ => id)) HT.out).mono ?_; rintro e wb ⟨vn, rfl, hs, hch⟩; obtain ⟨a1, a2, hch2⟩ := HARM.out wb hch; rw [r0] at a1; have HSS := Lib.hid hs; obtain ⟨A9, c9, hv9, _⟩ := hs; have HCH := Lib.hid hch2; subst hv9; clear hch hch2)
      all_goals
        clear r0 r7 HARM
        have HN1 := Lib.hid (sw_setB HC.out (by simp) HSS.out HCH.out)
        have HB1 := Lib.hid (HBW.out.trans HN1.out.2.1)
        go_wp2_with fail
        exact bodyPost_end (results_none rfl _ _ _) rfl ⟨rfl, HB1.out, _, _, _, by rw [HLA.out, HLB2.out, HO.out]; exact HN1.out.1⟩
    · rw [if_pos rfl] at HO
      have m0 := Ytdelfhahbngcfaa.blk_cell HB7.out 0 _ rfl
      have m1 := Ytdelfhahbngcfaa.blk_cell HB7.out 1 _ rfl
      have m2 := Ytdelfhahbngcfaa.blk_cell HB7.out 2 _ rfl
      have HADD := Lib.hid (add_any base B _ _ _ vo out ⟨y.f0, fr, t2⟩ wr H3.out.blk H3.out.ow H3.out.hB HN.out)
      have HAFT := Lib.hid (fun e W' => sw_add (e := e) (W' := W') (out2 := addV out ⟨y.f0, fr, t2⟩) H3.out)
      go_wp2_with (go_at_call 60; refine HADD.out.mono ?_; rintro e wa hq; obtain ⟨he, hb9, _, hkeep, vo9, hsw9, _⟩ := HAFT.out e wa hq; subst he; have HC := Lib.hid hsw9; have HB9 := Lib.hid hb9; have HKP := Lib.hid hkeep; clear hq hb9 hkeep hsw9)
      clear m0 m1 m2
      have H7 := Lib.hid (show Ytdelfhahbngcfaa.Blk wa (w2.heap.size + 1) 60 #[.int .i64 y.f0, .int .i64 fr, .int .i64 t2] from (HKP.out _ (Ytdelfhahbngcfaa.blk_lt HB7.out) (fun e => by have := HG7.out; omega) (fun e => by
        have h1 := HOW.out _ e; have h2 := HLB.out; omega)).trans HB7.out)
      have HBW := Lib.hid ((HBW3.out.mono HBS.out).trans HB9.out)
      clear H3 HB7 HBW3 k2 HB9 HKP HAFT HADD
      have r0 := HC.out.c1
      have r7 := Ytdelfhahbngcfaa.blk_cell H7.out 2 _ rfl
      have HARM := Lib.hid (show ∀ wb, Ytdelfhahbngcfaa.Ch (fun k => k = gb) wa.drew wb → wb.cell? ⟨B, 1, none⟩ = wa.cell? ⟨B, 1, none⟩ ∧ wb.frozen? ⟨B, 1, none⟩ = false ∧ Ytdelfhahbngcfaa.Ch (fun k => k = gb) wa wb from fun wb hch => by
        have hch2 := (Ytdelfhahbngcfaa.Ch.drew wa (fun k => k = gb)).trans hch (fun _ h => .inl h)
        have hb := Ytdelfhahbngcfaa.blk_ch HC.out.blk hch2 (fun e => HC.out.bB (by simp) e.symm)
        exact ⟨(Ytdelfhahbngcfaa.blk_cell hb 1 _ rfl).trans (HC.out.c1).symm, Ytdelfhahbngcfaa.blk_thawed hb 1, hch2⟩)
      go_region_with (go_at_call 80; refine (behind_any gb _ y rb t2 _ (HC.out.sb.ch (Ytdelfhahbngcfaa.Ch.drew wa No) (fun _ => id)) HT.out).mono ?_; rintro e wb ⟨vn, rfl, hs, hch⟩; obtain ⟨a1, a2, hch2⟩ := HARM.out wb hch; rw [r0] at a1; have HSS := Lib.hid hs; obtain ⟨A9, c9, hv9, _⟩ := hs; have HCH := Lib.hid hch2; subst hv9; clear hch hch2)
      all_goals
        clear r0 r7 HARM
        have HN1 := Lib.hid (sw_setB HC.out (by simp) HSS.out HCH.out)
        have HB1 := Lib.hid (HBW.out.trans HN1.out.2.1)
        go_wp2_with fail
        exact bodyPost_end (results_none rfl _ _ _) rfl ⟨rfl, HB1.out, _, _, _, by rw [HLA.out, HLB2.out, HO.out]; exact HN1.out.1⟩
set_option maxRecDepth 100000 in
set_option maxHeartbeats 4000000 in
theorem step3 (F : Nat) (kf : Bool → Bool → Bool) (hF : Keeps F kf) (base B ga gb : Nat) (va vb vo : Value) (x y : S60) (ra rb out : List S60) (w : World) (h : Sw w base B ga gb va vb (.func (.func F) #[] #[]) vo (x :: ra) (y :: rb) out)
    (nd : Int) (X Y : S60) (hnd : min x.f0 y.f0 = nd) (hA : headV (x :: ra) nd = (X, true)) (hB : headV (y :: rb) nd = (Y, false))
    (hXf : 0 ≤ X.f1 ∧ X.f1 ≤ 2147483647 ∧ 0 ≤ X.f2 ∧ X.f2 ≤ 2147483647) (hYf : 0 ≤ Y.f1 ∧ Y.f1 ≤ 2147483647 ∧ 0 ≤ Y.f2 ∧ Y.f2 ≤ 2147483647) (f0 fr : Int) (hf0 : min X.f1 Y.f1 = f0) (hfr : max X.f1 Y.f1 = fr)
    (hia : (X.f1 == fr) = true) (t1 t2 : Int) (HT1 : Hid (t1 = min 2147483647 X.f2)) (HT2 : Hid (t2 = t1)) (hT : 0 ≤ t2 ∧ t2 ≤ 2147483647) (hn : out.length < 1000000) (la2 lb2 o2 : List S60) (HLA : Hid (la2 = behV (x :: ra) t2)) (HLB2 : Hid (lb2 = (y :: rb))) (HO : Hid (o2 = if kf true false = true then addV out ⟨nd, fr, t2⟩ else out)) :
    Calls Try.prog 74 #[.pointer (some ⟨B, 0, none⟩)] w (StepQ w base B ga gb (.func (.func F) #[] #[]) la2 lb2 o2) := by
  have HA := Lib.hid hA; have HB := Lib.hid hB; have HT := Lib.hid hT; have HF := Lib.hid hF
  clear hA hB hT hF
  have hb0 := h.c0
  have hb1 := h.c1
  have HF0 := Lib.hid hf0; have HIA := Lib.hid hia; have HXF := Lib.hid hXf; have HYF := Lib.hid hYf; have HN := Lib.hid hn; have HND := Lib.hid hnd
  clear hf0 hia hXf hYf hn
  have HFR := Lib.hid hfr
  clear hfr
  obtain ⟨off1, n1, c1, rfl, q0, e1⟩ := h.sa.first
  obtain ⟨off2, n2, c2, rfl, r0, e2⟩ := h.sb.first
  have H := Lib.hid h
  have HBS := Lib.hid (Nat.le_trans h.hB (Nat.le_of_lt (Ytdelfhahbngcfaa.blk_lt h.blk)))
  have HOW := Lib.hid (fun k (hk : vo.ownBlock = some k) => (h.ow.lt k hk).2)
  clear h
  go_enter Try.func74, Try.ntmps74
  go_wp2
  go_quiet (fail)
  have H0 := Lib.hid (H.out.below (w' := w.drewN nq) (below_drewN nq))
  have HBW0 := Lib.hid (below_drewN (w := w) nq)
  go_wp2_with fail
  go_at_call 79
  refine (head_any H0.out.sa nd).mono ?_
  rintro e w1 ⟨rfl, hbw1⟩
  rw [HA.out]
  have hal1 := below_alloc (Below.refl _ w1) (.cells #[.int .i64 X.f0, .int .i64 X.f1, .int .i64 X.f2] 60)
  have HBW1 := Lib.hid ((HBW0.out.trans (hbw1.mono HBW0.out.size)).trans (hal1.mono (HBW0.out.trans (hbw1.mono HBW0.out.size)).size))
  have H1 := Lib.hid ((H0.out.below hbw1).below hal1)
  have hX := Ytdelfhahbngcfaa.blk_new w1 60 #[.int .i64 X.f0, .int .i64 X.f1, .int .i64 X.f2]
  have HXX := Lib.hid hX
  clear H0 hbw1 hX hal1 HBW0
  have hb1 := H1.out.c1
  go_wp2_with fail
  go_at_call 79
  refine (head_any H1.out.sb nd).mono ?_
  rintro e w2 ⟨rfl, hbw2⟩
  rw [HB.out]
  obtain ⟨V2, hV2⟩ : ∃ V, V = w2.alloc (.cells #[.int .i64 Y.f0, .int .i64 Y.f1, .int .i64 Y.f2] 60) := ⟨_, rfl⟩
  have hal := below_alloc (Below.refl _ w2) (.cells #[.int .i64 Y.f0, .int .i64 Y.f1, .int .i64 Y.f2] 60)
  rw [← hV2] at hal
  have hX2 := Ytdelfhahbngcfaa.blk_below (Ytdelfhahbngcfaa.blk_below HXX.out hbw2) hal
  have hY2 := Ytdelfhahbngcfaa.blk_new w2 60 #[.int .i64 Y.f0, .int .i64 Y.f1, .int .i64 Y.f2]
  rw [← hV2] at hY2
  have X1 := Ytdelfhahbngcfaa.blk_cell hX2 1 _ rfl
  have Y1 := Ytdelfhahbngcfaa.blk_cell hY2 1 _ rfl
  have hal2 := below_alloc (Below.refl _ V2) (.cells #[.int .i64 nd, .int .i64 fr, .int .i64 0] 60)
  have hN := Ytdelfhahbngcfaa.blk_new V2 60 #[.int .i64 nd, .int .i64 fr, .int .i64 0]
  have hs2 : V2.heap.size = w2.heap.size + 1 := by rw [hV2]; simp
  have H2 := Lib.hid ((H1.out.below hbw2).below (hal.trans (hal2.mono hal.size)))
  have HBW2 := Lib.hid ((HBW1.out.trans (hbw2.mono HBW1.out.size)).trans ((hal.trans (hal2.mono hal.size)).mono (HBW1.out.trans (hbw2.mono HBW1.out.size)).size))
  have BX := Lib.hid (Ytdelfhahbngcfaa.blk_below hX2 hal2)
  have BY := Lib.hid (Ytdelfhahbngcfaa.blk_below hY2 hal2)
  have HVC := Lib.hid (Ytdelfhahbngcfaa.Ch.of_below (hbw2.trans ((hal.trans (hal2.mono hal.size)).mono hbw2.size)) (fun k => k = w2.heap.size + 1))
  have HSZ : Hid ((w1.alloc (.cells #[.int .i64 X.f0, .int .i64 X.f1, .int .i64 X.f2] 60)).heap.size ≤ w2.heap.size) := Lib.hid hbw2.size
  have HLB : Hid (w.heap.size ≤ w2.heap.size) := Lib.hid (Nat.le_trans HBW1.out.size hbw2.size)
  have HLW : Hid (w1.heap.size < w2.heap.size) := Lib.hid (Ytdelfhahbngcfaa.blk_lt (Ytdelfhahbngcfaa.blk_below HXX.out hbw2))
  rw [hs2] at hN
  have hal3 := below_alloc (Below.refl _ V2) (.cells #[.int .i64 nd, .int .i64 f0, .int .i64 0] 60)
  have x1a := Ytdelfhahbngcfaa.blk_cell (Ytdelfhahbngcfaa.blk_below hX2 hal3) 1 _ rfl
  have y1a := Ytdelfhahbngcfaa.blk_cell (Ytdelfhahbngcfaa.blk_below hY2 hal3) 1 _ rfl
  rw [hV2] at x1a y1a
  clear hal3
  rw [hV2] at X1 Y1
  have hf0 := HF0.out
  have hfr := HFR.out
  clear e1 e2 hnd
  go_upto_region 11 with fail
  clear hf0
  clear hfr
  obtain ⟨W, hW⟩ : ∃ W, W = V2.alloc (.cells #[.int .i64 nd, .int .i64 fr, .int .i64 0] 60) := ⟨_, rfl⟩
  rw [← hW] at hN H2 BX BY HBW2 HVC
  have BN := Lib.hid hN
  rw [hV2] at hW
  rw [← hW]
  clear hW hN hal2 hs2 hY2 hX2 X1 Y1 hV2 hal
  have hx1 := Ytdelfhahbngcfaa.blk_cell BX.out 1 _ rfl
  have hy1 := Ytdelfhahbngcfaa.blk_cell BY.out 1 _ rfl
  have hn1 := Ytdelfhahbngcfaa.blk_cell BN.out 1 _ rfl
  have hia := HIA.out
  go_quiet (fail)
  clear hia
  obtain ⟨W2, hW2⟩ : ∃ W2, W2 = (W.drewN nq).setCell ⟨w2.heap.size + 1, 2, none⟩ (.int .i64 2147483647) := ⟨_, rfl⟩
  have BN1 : Ytdelfhahbngcfaa.Blk W2 (w2.heap.size + 1) 60 #[.int .i64 nd, .int .i64 fr, .int .i64 2147483647] := by
    rw [hW2]; exact Ytdelfhahbngcfaa.blk_set (w := W.drewN nq) BN.out 2 _
  have hch : Ytdelfhahbngcfaa.Ch (fun k => k = w2.heap.size + 1) W W2 := by
    rw [hW2]; exact (Ytdelfhahbngcfaa.ch_drewN _ W nq).trans (Ytdelfhahbngcfaa.Ch.setCell _ _ _) (fun _ h => .inl h)
  have hlw := HLW.out
  have BX1 := Ytdelfhahbngcfaa.blk_ch BX.out hch (by omega)
  have BY1 := Ytdelfhahbngcfaa.blk_ch BY.out hch (by omega)
  have hf2 := Ytdelfhahbngcfaa.blk_thawed (w := W.drewN nq) BN.out 2
  have hn2 := Ytdelfhahbngcfaa.blk_cell (w := W.drewN nq) BN.out 2 _ rfl
  have x0 := Ytdelfhahbngcfaa.blk_cell BX1 0 _ rfl
  have x1 := Ytdelfhahbngcfaa.blk_cell BX1 1 _ rfl
  have x2 := Ytdelfhahbngcfaa.blk_cell BX1 2 _ rfl
  have y0 := Ytdelfhahbngcfaa.blk_cell BY1 0 _ rfl
  have y1 := Ytdelfhahbngcfaa.blk_cell BY1 1 _ rfl
  have y2 := Ytdelfhahbngcfaa.blk_cell BY1 2 _ rfl
  have BN2 := Lib.hid BN1; have HCH := Lib.hid hch
  clear BX1 BY1 BN1 hch
  rw [hW2] at x0 x1 x2 y0 y1 y2
  have HW2 := Lib.hid hW2
  clear hW2
  go_wp2_with fail
  obtain ⟨W3, hW3⟩ : ∃ W3, W3 = W2.alloc (.cells #[.int .i64 X.f0, .int .i64 X.f1, .int .i64 X.f2, .bool true, .bool true, .int .i64 Y.f0, .int .i64 Y.f1, .int .i64 Y.f2, .bool false, .bool false] 95) := ⟨_, rfl⟩
  have hb3 := below_alloc (Below.refl _ W2) (.cells #[.int .i64 X.f0, .int .i64 X.f1, .int .i64 X.f2, .bool true, .bool true, .int .i64 Y.f0, .int .i64 Y.f1, .int .i64 Y.f2, .bool false, .bool false] 95)
  have hA3 := Ytdelfhahbngcfaa.blk_new W2 95 #[.int .i64 X.f0, .int .i64 X.f1, .int .i64 X.f2, .bool true, .bool true, .int .i64 Y.f0, .int .i64 Y.f1, .int .i64 Y.f2, .bool false, .bool false]
  rw [← hW3] at hb3 hA3
  have hsW : W2.heap.size = W.heap.size := by rw [HW2.out]; simp
  rw [hsW] at hA3
  have HA3 := Lib.hid hA3
  have HN3 := Lib.hid (Ytdelfhahbngcfaa.blk_below BN2.out hb3)
  have HC3 := Lib.hid (HCH.out.trans (Ytdelfhahbngcfaa.Ch.of_below hb3 (fun k => k = w2.heap.size + 1)) (fun _ h => .inl h))
  have hlN : w2.heap.size + 1 < W.heap.size := Ytdelfhahbngcfaa.blk_lt BN.out
  have HLN := Lib.hid hlN
  rw [HW2.out] at hW3
  rw [← hW3]
  clear hW3 hb3 hA3 hsW x0 x1 x2 y0 y1 y2 hn2 hf2 hx1 hy1 hn1 BN BN2 BX BY HW2 hlw HCH hlN
  go_loopw [119] (fun i wr => ∃ k : Nat, k ≤ 2 ∧ i = .int .i64 k ∧ Hid (Ytdelfhahbngcfaa.Blk wr (w2.heap.size + 1) 60 #[.int .i64 nd, .int .i64 fr, .int .i64 (tK t1 t2 k)] ∧ Ytdelfhahbngcfaa.Ch (fun j => j = w2.heap.size + 1) W3 wr)) (fun i _ => 2 - (intOf i).toNat)
  case atStart => exact ⟨0, by omega, rfl, Lib.hid ⟨HN3.out, Ytdelfhahbngcfaa.Ch.refl _ _⟩⟩
  case round =>
    obtain ⟨k, hk, rfl, HI⟩ := hrel
    have hA4 := Ytdelfhahbngcfaa.blk_ch HA3.out HI.out.2 (by have := HLN.out; omega)
    by_cases hk0 : k = 0
    · subst hk0
      have a0 := Ytdelfhahbngcfaa.blk_cell hA4 0 _ rfl
      have a1 := Ytdelfhahbngcfaa.blk_cell hA4 1 _ rfl
      have a2 := Ytdelfhahbngcfaa.blk_cell hA4 2 _ rfl
      have a3 := Ytdelfhahbngcfaa.blk_cell hA4 3 _ rfl
      have a4 := Ytdelfhahbngcfaa.blk_cell hA4 4 _ rfl
      have hbX := below_alloc (Below.refl _ wr) (.cells #[.int .i64 X.f0, .int .i64 X.f1, .int .i64 X.f2, .bool true, .bool true] 95)
      have hbN := Ytdelfhahbngcfaa.blk_below HI.out.1 hbX
      have n2 := Ytdelfhahbngcfaa.blk_cell hbN 2 _ rfl
      have f2 := Ytdelfhahbngcfaa.blk_thawed hbN 2
      have HBN := Lib.hid hbN
      have HCX := Lib.hid (HI.out.2.trans (Ytdelfhahbngcfaa.Ch.of_below hbX (fun j => j = w2.heap.size + 1)) (fun _ h => .inl h))
      have hlo := HXF.out.1
      have hhi := HXF.out.2.1
      clear hbX hbN hA4
      rw [show tK t1 t2 0 = 2147483647 from rfl] at n2
      go_wp2
      go_roundw
      case rel => exact ⟨1, by omega, by go_num, Lib.hid ⟨by rw [show tK t1 t2 1 = _ from HT1.out]; exact Ytdelfhahbngcfaa.blk_set HBN.out 2 _, HCX.out.trans (Ytdelfhahbngcfaa.Ch.setCell _ ⟨w2.heap.size + 1, 2, none⟩ _) (fun _ h => .inl h)⟩⟩
      case measure => simp [intOf]
    by_cases hk1 : k = 1
    · subst hk1
      have a0 := Ytdelfhahbngcfaa.blk_cell hA4 5 _ rfl
      have a1 := Ytdelfhahbngcfaa.blk_cell hA4 6 _ rfl
      have a2 := Ytdelfhahbngcfaa.blk_cell hA4 7 _ rfl
      have a3 := Ytdelfhahbngcfaa.blk_cell hA4 8 _ rfl
      have a4 := Ytdelfhahbngcfaa.blk_cell hA4 9 _ rfl
      have hbX := below_alloc (Below.refl _ wr) (.cells #[.int .i64 Y.f0, .int .i64 Y.f1, .int .i64 Y.f2, .bool false, .bool false] 95)
      have hbN := Ytdelfhahbngcfaa.blk_below HI.out.1 hbX
      have n2 := Ytdelfhahbngcfaa.blk_cell hbN 2 _ rfl
      have f2 := Ytdelfhahbngcfaa.blk_thawed hbN 2
      have HBN := Lib.hid hbN
      have HCX := Lib.hid (HI.out.2.trans (Ytdelfhahbngcfaa.Ch.of_below hbX (fun j => j = w2.heap.size + 1)) (fun _ h => .inl h))
      have hlo := HYF.out.1
      have hhi := HYF.out.2.1
      clear hbX hbN hA4
      rw [show tK t1 t2 1 = t1 from rfl] at n2
      go_wp2
      go_roundw
      case rel => exact ⟨2, by omega, by go_num, Lib.hid ⟨by rw [show tK t1 t2 2 = _ from HT2.out]; exact HBN.out, HCX.out⟩⟩
      case measure => simp [intOf]
    obtain rfl : k = 2 := by omega
    clear hA4 hk0 hk1
    have hB7 := HI.out.1
    rw [show tK t1 t2 2 = t2 from rfl] at hB7
    have hch7 := HC3.out.trans HI.out.2 (fun _ h => .inl h)
    have H3 := Lib.hid (H1.out.ch (HVC.out.trans hch7 (fun _ h => .inl h)) (fun k hk e => by have := HSZ.out; omega))
    have HB7 := Lib.hid hB7
    have HBW3 := Lib.hid (HBW2.out.trans (hch7.below (B := w.heap.size) HBW2.out.size (fun k hk => by have := HLB.out; omega)))
    clear hB7 hch7 HI
    have k2 := H3.out.c2
    have hcall := (HF.out true false wr).2
    go_wp2_with fail
    clear hcall
    refine (HF.out _ _ _).1.mono ?_
    rintro e wk ⟨rfl, rfl⟩
    have HG7 := Lib.hid (show ga < w2.heap.size + 1 ∧ B < w2.heap.size + 1 from by
      have h1 := H1.out.lta (by simp); have h3 := Ytdelfhahbngcfaa.blk_lt H1.out.blk; have h4 := HSZ.out; exact ⟨by omega, by omega⟩)
    obtain ⟨kp, hkp⟩ : ∃ kp, kp = kf true false := ⟨_, rfl⟩
    rw [← hkp] at HO ⊢
    clear hkp
    cases kp
    · rw [if_neg (by decide)] at HO
      go_wp2_with fail
      have HC := H3; have H7 := HB7; have HBW := Lib.hid (HBW3.out.mono HBS.out)
      clear H3 HB7 HBW3 k2
      have r0 := HC.out.c0
      have r7 := Ytdelfhahbngcfaa.blk_cell H7.out 2 _ rfl
      have HARM := Lib.hid (show ∀ wb, Ytdelfhahbngcfaa.Ch (fun k => k = ga) wr.drew wb → wb.cell? ⟨B, 0, none⟩ = wr.cell? ⟨B, 0, none⟩ ∧ wb.frozen? ⟨B, 0, none⟩ = false ∧ Ytdelfhahbngcfaa.Ch (fun k => k = ga) wr wb from fun wb hch => by
        have hch2 := (Ytdelfhahbngcfaa.Ch.drew wr (fun k => k = ga)).trans hch (fun _ h => .inl h)
        have hb := Ytdelfhahbngcfaa.blk_ch HC.out.blk hch2 (fun e => HC.out.aB (by simp) e.symm)
        exact ⟨(Ytdelfhahbngcfaa.blk_cell hb 0 _ rfl).trans (HC.out.c0).symm, Ytdelfhahbngcfaa.blk_thawed hb 0, hch2⟩)
      go_region_with (go_at_call 80; refine (behind_any ga _ x ra t2 _ (HC.out.sa.ch (Ytdelfhahbngcfaa.Ch.drew wr No) (fun _ => id)) HT.out).mono ?_; rintro e wb ⟨vn, rfl, hs, hch⟩; obtain ⟨a1, a2, hch2⟩ := HARM.out wb hch; rw [r0] at a1; have HSS := Lib.hid hs; obtain ⟨A9, c9, hv9, _⟩ := hs; have HCH := Lib.hid hch2; subst hv9; clear hch hch2)
      all_goals
        clear r0 r7 HARM
        have HN1 := Lib.hid (sw_setA HC.out (by simp) HSS.out HCH.out)
        have HB1 := Lib.hid (HBW.out.trans HN1.out.2.1)
        go_wp2_with fail
        exact bodyPost_end (results_none rfl _ _ _) rfl ⟨rfl, HB1.out, _, _, _, by rw [HLA.out, HLB2.out, HO.out]; exact HN1.out.1⟩
    · rw [if_pos rfl] at HO
      have m0 := Ytdelfhahbngcfaa.blk_cell HB7.out 0 _ rfl
      have m1 := Ytdelfhahbngcfaa.blk_cell HB7.out 1 _ rfl
      have m2 := Ytdelfhahbngcfaa.blk_cell HB7.out 2 _ rfl
      have HADD := Lib.hid (add_any base B _ _ _ vo out ⟨nd, fr, t2⟩ wr H3.out.blk H3.out.ow H3.out.hB HN.out)
      have HAFT := Lib.hid (fun e W' => sw_add (e := e) (W' := W') (out2 := addV out ⟨nd, fr, t2⟩) H3.out)
      go_wp2_with (go_at_call 60; refine HADD.out.mono ?_; rintro e wa hq; obtain ⟨he, hb9, _, hkeep, vo9, hsw9, _⟩ := HAFT.out e wa hq; subst he; have HC := Lib.hid hsw9; have HB9 := Lib.hid hb9; have HKP := Lib.hid hkeep; clear hq hb9 hkeep hsw9)
      clear m0 m1 m2
      have H7 := Lib.hid (show Ytdelfhahbngcfaa.Blk wa (w2.heap.size + 1) 60 #[.int .i64 nd, .int .i64 fr, .int .i64 t2] from (HKP.out _ (Ytdelfhahbngcfaa.blk_lt HB7.out) (fun e => by have := HG7.out; omega) (fun e => by
        have h1 := HOW.out _ e; have h2 := HLB.out; omega)).trans HB7.out)
      have HBW := Lib.hid ((HBW3.out.mono HBS.out).trans HB9.out)
      clear H3 HB7 HBW3 k2 HB9 HKP HAFT HADD
      have r0 := HC.out.c0
      have r7 := Ytdelfhahbngcfaa.blk_cell H7.out 2 _ rfl
      have HARM := Lib.hid (show ∀ wb, Ytdelfhahbngcfaa.Ch (fun k => k = ga) wa.drew wb → wb.cell? ⟨B, 0, none⟩ = wa.cell? ⟨B, 0, none⟩ ∧ wb.frozen? ⟨B, 0, none⟩ = false ∧ Ytdelfhahbngcfaa.Ch (fun k => k = ga) wa wb from fun wb hch => by
        have hch2 := (Ytdelfhahbngcfaa.Ch.drew wa (fun k => k = ga)).trans hch (fun _ h => .inl h)
        have hb := Ytdelfhahbngcfaa.blk_ch HC.out.blk hch2 (fun e => HC.out.aB (by simp) e.symm)
        exact ⟨(Ytdelfhahbngcfaa.blk_cell hb 0 _ rfl).trans (HC.out.c0).symm, Ytdelfhahbngcfaa.blk_thawed hb 0, hch2⟩)
      go_region_with (go_at_call 80; refine (behind_any ga _ x ra t2 _ (HC.out.sa.ch (Ytdelfhahbngcfaa.Ch.drew wa No) (fun _ => id)) HT.out).mono ?_; rintro e wb ⟨vn, rfl, hs, hch⟩; obtain ⟨a1, a2, hch2⟩ := HARM.out wb hch; rw [r0] at a1; have HSS := Lib.hid hs; obtain ⟨A9, c9, hv9, _⟩ := hs; have HCH := Lib.hid hch2; subst hv9; clear hch hch2)
      all_goals
        clear r0 r7 HARM
        have HN1 := Lib.hid (sw_setA HC.out (by simp) HSS.out HCH.out)
        have HB1 := Lib.hid (HBW.out.trans HN1.out.2.1)
        go_wp2_with fail
        exact bodyPost_end (results_none rfl _ _ _) rfl ⟨rfl, HB1.out, _, _, _, by rw [HLA.out, HLB2.out, HO.out]; exact HN1.out.1⟩
end Go.Proofs.YtdelfhahbngcfaaX.P07
end
section
namespace Go.Proofs.YtdelfhahbngcfaaX.P07
open Go.RowKit Go.Shelf Go.Sort Go.Lib Go.Proofs.Ytdelfhahbngcfaa Go.Proofs.YtdelfhahbngcfaaW.PrintWords Go.Proofs.YtdelfhahbngcfaaW.PrintLast Go.Proofs.YtdelfhahbngcfaaW.PrintMore
set_option linter.unusedVariables false
set_option linter.unusedSimpArgs false
attribute [local go_sem] Oper.semAt_some
set_option maxRecDepth 100000 in
set_option maxHeartbeats 4000000 in
theorem step4 (F : Nat) (kf : Bool → Bool → Bool) (hF : Keeps F kf) (base B ga gb : Nat) (va vb vo : Value) (x y : S60) (ra rb out : List S60) (w : World) (h : Sw w base B ga gb va vb (.func (.func F) #[] #[]) vo (x :: ra) (y :: rb) out)
    (nd : Int) (X Y : S60) (hnd : min x.f0 y.f0 = nd) (hA : headV (x :: ra) nd = (X, false)) (hB : headV (y :: rb) nd = (Y, true))
    (hXf : 0 ≤ X.f1 ∧ X.f1 ≤ 2147483647 ∧ 0 ≤ X.f2 ∧ X.f2 ≤ 2147483647) (hYf : 0 ≤ Y.f1 ∧ Y.f1 ≤ 2147483647 ∧ 0 ≤ Y.f2 ∧ Y.f2 ≤ 2147483647) (f0 fr : Int) (hf0 : min X.f1 Y.f1 = f0) (hfr : max X.f1 Y.f1 = fr)
    (hib : (Y.f1 == fr) = true) (t1 t2 : Int) (HT1 : Hid (t1 = 2147483647)) (HT2 : Hid (t2 = min t1 Y.f2)) (hT : 0 ≤ t2 ∧ t2 ≤ 2147483647) (hn : out.length < 1000000) (la2 lb2 o2 : List S60) (HLA : Hid (la2 = (x :: ra))) (HLB2 : Hid (lb2 = behV (y :: rb) t2)) (HO : Hid (o2 = if kf false true = true then addV out ⟨nd, fr, t2⟩ else out)) :
    Calls Try.prog 74 #[.pointer (some ⟨B, 0, none⟩)] w (StepQ w base B ga gb (.func (.func F) #[] #[]) la2 lb2 o2) := by
  have HA := Lib.hid hA; have HB := Lib.hid hB; have HT := Lib.hid hT; have HF := Lib.hid hF
  clear hA hB hT hF
  have hb0 := h.c0
  have hb1 := h.c1
  have HF0 := Lib.hid hf0; have HIB := Lib.hid hib; have HXF := Lib.hid hXf; have HYF := Lib.hid hYf; have HN := Lib.hid hn; have HND := Lib.hid hnd
  clear hf0 hib hXf hYf hn
  have HFR := Lib.hid hfr
  clear hfr
  obtain ⟨off1, n1, c1, rfl, q0, e1⟩ := h.sa.first
  obtain ⟨off2, n2, c2, rfl, r0, e2⟩ := h.sb.first
  have H := Lib.hid h
  have HBS := Lib.hid (Nat.le_trans h.hB (Nat.le_of_lt (Ytdelfhahbngcfaa.blk_lt h.blk)))
  have HOW := Lib.hid (fun k (hk : vo.ownBlock = some k) => (h.ow.lt k hk).2)
  clear h
  go_enter Try.func74, Try.ntmps74
  go_wp2
  go_quiet (fail)
  have H0 := Lib.hid (H.out.below (w' := w.drewN nq) (below_drewN nq))
  have HBW0 := Lib.hid (below_drewN (w := w) nq)
  go_wp2_with fail
  go_at_call 79
  refine (head_any H0.out.sa nd).mono ?_
  rintro e w1 ⟨rfl, hbw1⟩
  rw [HA.out]
  have hal1 := below_alloc (Below.refl _ w1) (.cells #[.int .i64 X.f0, .int .i64 X.f1, .int .i64 X.f2] 60)
  have HBW1 := Lib.hid ((HBW0.out.trans (hbw1.mono HBW0.out.size)).trans (hal1.mono (HBW0.out.trans (hbw1.mono HBW0.out.size)).size))
  have H1 := Lib.hid ((H0.out.below hbw1).below hal1)
  have hX := Ytdelfhahbngcfaa.blk_new w1 60 #[.int .i64 X.f0, .int .i64 X.f1, .int .i64 X.f2]
  have HXX := Lib.hid hX
  clear H0 hbw1 hX hal1 HBW0
  have hb1 := H1.out.c1
  go_wp2_with fail
  go_at_call 79
  refine (head_any H1.out.sb nd).mono ?_
  rintro e w2 ⟨rfl, hbw2⟩
  rw [HB.out]
  obtain ⟨V2, hV2⟩ : ∃ V, V = w2.alloc (.cells #[.int .i64 Y.f0, .int .i64 Y.f1, .int .i64 Y.f2] 60) := ⟨_, rfl⟩
  have hal := below_alloc (Below.refl _ w2) (.cells #[.int .i64 Y.f0, .int .i64 Y.f1, .int .i64 Y.f2] 60)
  rw [← hV2] at hal
  have hX2 := Ytdelfhahbngcfaa.blk_below (Ytdelfhahbngcfaa.blk_below HXX.out hbw2) hal
  have hY2 := Ytdelfhahbngcfaa.blk_new w2 60 #[.int .i64 Y.f0, .int .i64 Y.f1, .int .i64 Y.f2]
  rw [← hV2] at hY2
  have X1 := Ytdelfhahbngcfaa.blk_cell hX2 1 _ rfl
  have Y1 := Ytdelfhahbngcfaa.blk_cell hY2 1 _ rfl
  have hal2 := below_alloc (Below.refl _ V2) (.cells #[.int .i64 nd, .int .i64 fr, .int .i64 0] 60)
  have hN := Ytdelfhahbngcfaa.blk_new V2 60 #[.int .i64 nd, .int .i64 fr, .int .i64 0]
  have hs2 : V2.heap.size = w2.heap.size + 1 := by rw [hV2]; simp
  have H2 := Lib.hid ((H1.out.below hbw2).below (hal.trans (hal2.mono hal.size)))
  have HBW2 := Lib.hid ((HBW1.out.trans (hbw2.mono HBW1.out.size)).trans ((hal.trans (hal2.mono hal.size)).mono (HBW1.out.trans (hbw2.mono HBW1.out.size)).size))
  have BX := Lib.hid (Ytdelfhahbngcfaa.blk_below hX2 hal2)
  have BY := Lib.hid (Ytdelfhahbngcfaa.blk_below hY2 hal2)
  have HVC := Lib.hid (Ytdelfhahbngcfaa.Ch.of_below (hbw2.trans ((hal.trans (hal2.mono hal.size)).mono hbw2.size)) (fun k => k = w2.heap.size + 1))
  have HSZ : Hid ((w1.alloc (.cells #[.int .i64 X.f0, .int .i64 X.f1, .int .i64 X.f2] 60)).heap.size ≤ w2.heap.size) := Lib.hid hbw2.size
  have HLB : Hid (w.heap.size ≤ w2.heap.size) := Lib.hid (Nat.le_trans HBW1.out.size hbw2.size)
  have HLW : Hid (w1.heap.size < w2.heap.size) := Lib.hid (Ytdelfhahbngcfaa.blk_lt (Ytdelfhahbngcfaa.blk_below HXX.out hbw2))
  rw [hs2] at hN
  have hal3 := below_alloc (Below.refl _ V2) (.cells #[.int .i64 nd, .int .i64 f0, .int .i64 0] 60)
  have x1a := Ytdelfhahbngcfaa.blk_cell (Ytdelfhahbngcfaa.blk_below hX2 hal3) 1 _ rfl
  have y1a := Ytdelfhahbngcfaa.blk_cell (Ytdelfhahbngcfaa.blk_below hY2 hal3) 1 _ rfl
  rw [hV2] at x1a y1a
  clear hal3
  rw [hV2] at X1 Y1
  have hf0 := HF0.out
  have hfr := HFR.out
  clear e1 e2 hnd
  go_upto_region 11 with fail
  clear hf0
  clear hfr
  obtain ⟨W, hW⟩ : ∃ W, W = V2.alloc (.cells #[.int .i64 nd, .int .i64 fr, .int .i64 0] 60) := ⟨_, rfl⟩
  rw [← hW] at hN H2 BX BY HBW2 HVC
  have BN := Lib.hid hN
  rw [hV2] at hW
  rw [← hW]
  clear hW hN hal2 hs2 hY2 hX2 X1 Y1 hV2 hal
  have hx1 := Ytdelfhahbngcfaa.blk_cell BX.out 1 _ rfl
  have hy1 := Ytdelfhahbngcfaa.blk_cell BY.out 1 _ rfl
  have hn1 := Ytdelfhahbngcfaa.blk_cell BN.out 1 _ rfl
  have hib := HIB.out
  go_quiet (fail)
  clear hib
  obtain ⟨W2, hW2⟩ : ∃ W2, W2 = (W.drewN nq).setCell ⟨w2.heap.size + 1, 2, none⟩ (.int .i64 2147483647) := ⟨_, rfl⟩
  have BN1 : Ytdelfhahbngcfaa.Blk W2 (w2.heap.size + 1) 60 #[.int .i64 nd, .int .i64 fr, .int .i64 2147483647] := by
    rw [hW2]; exact Ytdelfhahbngcfaa.blk_set (w := W.drewN nq) BN.out 2 _
  have hch : Ytdelfhahbngcfaa.Ch (fun k => k = w2.heap.size + 1) W W2 := by
    rw [hW2]; exact (Ytdelfhahbngcfaa.ch_drewN _ W nq).trans (Ytdelfhahbngcfaa.Ch.setCell _ _ _) (fun _ h => .inl h)
  have hlw := HLW.out
  have BX1 := Ytdelfhahbngcfaa.blk_ch BX.out hch (by omega)
  have BY1 := Ytdelfhahbngcfaa.blk_ch BY.out hch (by omega)
  have hf2 := Ytdelfhahbngcfaa.blk_thawed (w := W.drewN nq) BN.out 2
  have hn2 := Ytdelfhahbngcfaa.blk_cell (w := W.drewN nq) BN.out 2 _ rfl
  have x0 := Ytdelfhahbngcfaa.blk_cell BX1 0 _ rfl
  have x1 := Ytdelfhahbngcfaa.blk_cell BX1 1 _ rfl
  have x2 := Ytdelfhahbngcfaa.blk_cell BX1 2 _ rfl
  have y0 := Ytdelfhahbngcfaa.blk_cell BY1 0 _ rfl
  have y1 := Ytdelfhahbngcfaa.blk_cell BY1 1 _ rfl
  have y2 := Ytdelfhahbngcfaa.blk_cell BY1 2 _ rfl
  have BN2 := Lib.hid BN1; have HCH := Lib.hid hch
  clear BX1 BY1 BN1 hch
  rw [hW2] at x0 x1 x2 y0 y1 y2
  have HW2 := Lib.hid hW2
  clear hW2
  go_wp2_with fail
  obtain ⟨W3, hW3⟩ : ∃ W3, W3 = W2.alloc (.cells #[.int .i64 X.f0, .int .i64 X.f1, .int .i64 X.f2, .bool false, .bool false, .int .i64 Y.f0, .int .i64 Y.f1, .int .i64 Y.f2, .bool true, .bool true] 95) := ⟨_, rfl⟩
  have hb3 := below_alloc (Below.refl _ W2) (.cells #[.int .i64 X.f0, .int .i64 X.f1, .int .i64 X.f2, .bool false, .bool false, .int .i64 Y.f0, .int .i64 Y.f1, .int .i64 Y.f2, .bool true, .bool true] 95)
  have hA3 := Ytdelfhahbngcfaa.blk_new W2 95 #[.int .i64 X.f0, .int .i64 X.f1, .int .i64 X.f2, .bool false, .bool false, .int .i64 Y.f0, .int .i64 Y.f1, .int .i64 Y.f2, .bool true, .bool true]
  rw [← hW3] at hb3 hA3
  have hsW : W2.heap.size = W.heap.size := by rw [HW2.out]; simp
  rw [hsW] at hA3
  have HA3 := Lib.hid hA3
  have HN3 := Lib.hid (Ytdelfhahbngcfaa.blk_below BN2.out hb3)
  have HC3 := Lib.hid (HCH.out.trans (Ytdelfhahbngcfaa.Ch.of_below hb3 (fun k => k = w2.heap.size + 1)) (fun _ h => .inl h))
  have hlN : w2.heap.size + 1 < W.heap.size := Ytdelfhahbngcfaa.blk_lt BN.out
  have HLN := Lib.hid hlN
  rw [HW2.out] at hW3
  rw [← hW3]
  clear hW3 hb3 hA3 hsW x0 x1 x2 y0 y1 y2 hn2 hf2 hx1 hy1 hn1 BN BN2 BX BY HW2 hlw HCH hlN
  go_loopw [119] (fun i wr => ∃ k : Nat, k ≤ 2 ∧ i = .int .i64 k ∧ Hid (Ytdelfhahbngcfaa.Blk wr (w2.heap.size + 1) 60 #[.int .i64 nd, .int .i64 fr, .int .i64 (tK t1 t2 k)] ∧ Ytdelfhahbngcfaa.Ch (fun j => j = w2.heap.size + 1) W3 wr)) (fun i _ => 2 - (intOf i).toNat)
  case atStart => exact ⟨0, by omega, rfl, Lib.hid ⟨HN3.out, Ytdelfhahbngcfaa.Ch.refl _ _⟩⟩
  case round =>
    obtain ⟨k, hk, rfl, HI⟩ := hrel
    have hA4 := Ytdelfhahbngcfaa.blk_ch HA3.out HI.out.2 (by have := HLN.out; omega)
    by_cases hk0 : k = 0
    · subst hk0
      have a0 := Ytdelfhahbngcfaa.blk_cell hA4 0 _ rfl
      have a1 := Ytdelfhahbngcfaa.blk_cell hA4 1 _ rfl
      have a2 := Ytdelfhahbngcfaa.blk_cell hA4 2 _ rfl
      have a3 := Ytdelfhahbngcfaa.blk_cell hA4 3 _ rfl
      have a4 := Ytdelfhahbngcfaa.blk_cell hA4 4 _ rfl
      have hbX := below_alloc (Below.refl _ wr) (.cells #[.int .i64 X.f0, .int .i64 X.f1, .int .i64 X.f2, .bool false, .bool false] 95)
      have hbN := Ytdelfhahbngcfaa.blk_below HI.out.1 hbX
      have n2 := Ytdelfhahbngcfaa.blk_cell hbN 2 _ rfl
      have f2 := Ytdelfhahbngcfaa.blk_thawed hbN 2
      have HBN := Lib.hid hbN
      have HCX := Lib.hid (HI.out.2.trans (Ytdelfhahbngcfaa.Ch.of_below hbX (fun j => j = w2.heap.size + 1)) (fun _ h => .inl h))
      have hlo := HXF.out.1
      have hhi := HXF.out.2.1
      clear hbX hbN hA4
      rw [show tK t1 t2 0 = 2147483647 from rfl] at n2
      go_wp2
      go_roundw
      case rel => exact ⟨1, by omega, by go_num, Lib.hid ⟨by rw [show tK t1 t2 1 = _ from HT1.out]; exact HBN.out, HCX.out⟩⟩
      case measure => simp [intOf]
    by_cases hk1 : k = 1
    · subst hk1
      have a0 := Ytdelfhahbngcfaa.blk_cell hA4 5 _ rfl
      have a1 := Ytdelfhahbngcfaa.blk_cell hA4 6 _ rfl
      have a2 := Ytdelfhahbngcfaa.blk_cell hA4 7 _ rfl
      have a3 := Ytdelfhahbngcfaa.blk_cell hA4 8 _ rfl
      have a4 := Ytdelfhahbngcfaa.blk_cell hA4 9 _ rfl
      have hbX := below_alloc (Below.refl _ wr) (.cells #[.int .i64 Y.f0, .int .i64 Y.f1, .int .i64 Y.f2, .bool true, .bool true] 95)
      have hbN := Ytdelfhahbngcfaa.blk_below HI.out.1 hbX
      have n2 := Ytdelfhahbngcfaa.blk_cell hbN 2 _ rfl
      have f2 := Ytdelfhahbngcfaa.blk_thawed hbN 2
      have HBN := Lib.hid hbN
      have HCX := Lib.hid (HI.out.2.trans (Ytdelfhahbngcfaa.Ch.of_below hbX (fun j => j = w2.heap.size + 1)) (fun _ h => .inl h))
      have hlo := HYF.out.1
      have hhi := HYF.out.2.1
      clear hbX hbN hA4
      rw [show tK t1 t2 1 = t1 from rfl] at n2
      go_wp2
      go_roundw
      case rel => exact ⟨2, by omega, by go_num, Lib.hid ⟨by rw [show tK t1 t2 2 = _ from HT2.out]; exact Ytdelfhahbngcfaa.blk_set HBN.out 2 _, HCX.out.trans (Ytdelfhahbngcfaa.Ch.setCell _ ⟨w2.heap.size + 1, 2, none⟩ _) (fun _ h => .inl h)⟩⟩
      case measure => simp [intOf]
    obtain rfl : k = 2 := by omega
    clear hA4 hk0 hk1
    have hB7 := HI.out.1
    rw [show tK t1 t2 2 = t2 from rfl] at hB7
    have hch7 := HC3.out.trans HI.out.2 (fun _ h => .inl h)
    have H3 := Lib.hid (H1.out.ch (HVC.out.trans hch7 (fun _ h => .inl h)) (fun k hk e => by have := HSZ.out; omega))
    have HB7 := Lib.hid hB7
    have HBW3 := Lib.hid (HBW2.out.trans (hch7.below (B := w.heap.size) HBW2.out.size (fun k hk => by have := HLB.out; omega)))
    clear hB7 hch7 HI
    have k2 := H3.out.c2
    have hcall := (HF.out false true wr).2
    go_wp2_with fail
    clear hcall
    refine (HF.out _ _ _).1.mono ?_
    rintro e wk ⟨rfl, rfl⟩
    have HG7 := Lib.hid (show B < w2.heap.size + 1 from by
      have h3 := Ytdelfhahbngcfaa.blk_lt H1.out.blk; have h4 := HSZ.out; omega)
    obtain ⟨kp, hkp⟩ : ∃ kp, kp = kf false true := ⟨_, rfl⟩
    rw [← hkp] at HO ⊢
    clear hkp
    cases kp
    · rw [if_neg (by decide)] at HO
      go_wp2_with fail
      have HC := H3; have H7 := HB7; have HBW := Lib.hid (HBW3.out.mono HBS.out)
      clear H3 HB7 HBW3 k2
      have r0 := HC.out.c1
      have r7 := Ytdelfhahbngcfaa.blk_cell H7.out 2 _ rfl
      have HARM := Lib.hid (show ∀ wb, Ytdelfhahbngcfaa.Ch (fun k => k = gb) wr.drew wb → wb.cell? ⟨B, 1, none⟩ = wr.cell? ⟨B, 1, none⟩ ∧ wb.frozen? ⟨B, 1, none⟩ = false ∧ Ytdelfhahbngcfaa.Ch (fun k => k = gb) wr wb from fun wb hch => by
        have hch2 := (Ytdelfhahbngcfaa.Ch.drew wr (fun k => k = gb)).trans hch (fun _ h => .inl h)
        have hb := Ytdelfhahbngcfaa.blk_ch HC.out.blk hch2 (fun e => HC.out.bB (by simp) e.symm)
        exact ⟨(Ytdelfhahbngcfaa.blk_cell hb 1 _ rfl).trans (HC.out.c1).symm, Ytdelfhahbngcfaa.blk_thawed hb 1, hch2⟩)
      go_region_with (go_at_call 80; refine (behind_any gb _ y rb t2 _ (HC.out.sb.ch (Ytdelfhahbngcfaa.Ch.drew wr No) (fun _ => id)) HT.out).mono ?_; rintro e wb ⟨vn, rfl, hs, hch⟩; obtain ⟨a1, a2, hch2⟩ := HARM.out wb hch; rw [r0] at a1; have HSS := Lib.hid hs; obtain ⟨A9, c9, hv9, _⟩ := hs; have HCH := Lib.hid hch2; subst hv9; clear hch hch2)
      all_goals
        clear r0 r7 HARM
        have HN1 := Lib.hid (sw_setB HC.out (by simp) HSS.out HCH.out)
        have HB1 := Lib.hid (HBW.out.trans HN1.out.2.1)
        go_wp2_with fail
        exact bodyPost_end (results_none rfl _ _ _) rfl ⟨rfl, HB1.out, _, _, _, by rw [HLA.out, HLB2.out, HO.out]; exact HN1.out.1⟩
    · rw [if_pos rfl] at HO
      have m0 := Ytdelfhahbngcfaa.blk_cell HB7.out 0 _ rfl
      have m1 := Ytdelfhahbngcfaa.blk_cell HB7.out 1 _ rfl
      have m2 := Ytdelfhahbngcfaa.blk_cell HB7.out 2 _ rfl
      have HADD := Lib.hid (add_any base B _ _ _ vo out ⟨nd, fr, t2⟩ wr H3.out.blk H3.out.ow H3.out.hB HN.out)
      have HAFT := Lib.hid (fun e W' => sw_add (e := e) (W' := W') (out2 := addV out ⟨nd, fr, t2⟩) H3.out)
      go_wp2_with (go_at_call 60; refine HADD.out.mono ?_; rintro e wa hq; obtain ⟨he, hb9, _, hkeep, vo9, hsw9, _⟩ := HAFT.out e wa hq; subst he; have HC := Lib.hid hsw9; have HB9 := Lib.hid hb9; have HKP := Lib.hid hkeep; clear hq hb9 hkeep hsw9)
      clear m0 m1 m2
      have H7 := Lib.hid (show Ytdelfhahbngcfaa.Blk wa (w2.heap.size + 1) 60 #[.int .i64 nd, .int .i64 fr, .int .i64 t2] from (HKP.out _ (Ytdelfhahbngcfaa.blk_lt HB7.out) (fun e => by have := HG7.out; omega) (fun e => by
        have h1 := HOW.out _ e; have h2 := HLB.out; omega)).trans HB7.out)
      have HBW := Lib.hid ((HBW3.out.mono HBS.out).trans HB9.out)
      clear H3 HB7 HBW3 k2 HB9 HKP HAFT HADD
      have r0 := HC.out.c1
      have r7 := Ytdelfhahbngcfaa.blk_cell H7.out 2 _ rfl
      have HARM := Lib.hid (show ∀ wb, Ytdelfhahbngcfaa.Ch (fun k => k = gb) wa.drew wb → wb.cell? ⟨B, 1, none⟩ = wa.cell? ⟨B, 1, none⟩ ∧ wb.frozen? ⟨B, 1, none⟩ = false ∧ Ytdelfhahbngcfaa.Ch (fun k => k = gb) wa wb from fun wb hch => by
        have hch2 := (Ytdelfhahbngcfaa.Ch.drew wa (fun k => k = gb)).trans hch (fun _ h => .inl h)
        have hb := Ytdelfhahbngcfaa.blk_ch HC.out.blk hch2 (fun e => HC.out.bB (by simp) e.symm)
        exact ⟨(Ytdelfhahbngcfaa.blk_cell hb 1 _ rfl).trans (HC.out.c1).symm, Ytdelfhahbngcfaa.blk_thawed hb 1, hch2⟩)
      go_region_with (go_at_call 80; refine (behind_any gb _ y rb t2 _ (HC.out.sb.ch (Ytdelfhahbngcfaa.Ch.drew wa No) (fun _ => id)) HT.out).mono ?_; rintro e wb ⟨vn, rfl, hs, hch⟩; obtain ⟨a1, a2, hch2⟩ := HARM.out wb hch; rw [r0] at a1; have HSS := Lib.hid hs; obtain ⟨A9, c9, hv9, _⟩ := hs; have HCH := Lib.hid hch2; subst hv9; clear hch hch2)
      all_goals
        clear r0 r7 HARM
        have HN1 := Lib.hid (sw_setB HC.out (by simp) HSS.out HCH.out)
        have HB1 := Lib.hid (HBW.out.trans HN1.out.2.1)
        go_wp2_with fail
        exact bodyPost_end (results_none rfl _ _ _) rfl ⟨rfl, HB1.out, _, _, _, by rw [HLA.out, HLB2.out, HO.out]; exact HN1.out.1⟩
set_option maxRecDepth 100000 in
set_option maxHeartbeats 4000000 in
theorem step5 (F : Nat) (kf : Bool → Bool → Bool) (hF : Keeps F kf) (base B ga gb : Nat) (va vb vo : Value) (x y : S60) (ra rb out : List S60) (w : World) (h : Sw w base B ga gb va vb (.func (.func F) #[] #[]) vo (x :: ra) (y :: rb) out)
    (nd : Int) (X Y : S60) (hnd : min x.f0 y.f0 = nd) (hA : headV (x :: ra) nd = (X, true)) (hB : headV (y :: rb) nd = (Y, true))
    (hXf : 0 ≤ X.f1 ∧ X.f1 ≤ 2147483647 ∧ 0 ≤ X.f2 ∧ X.f2 ≤ 2147483647) (hYf : 0 ≤ Y.f1 ∧ Y.f1 ≤ 2147483647 ∧ 0 ≤ Y.f2 ∧ Y.f2 ≤ 2147483647) (f0 fr : Int) (hf0 : min X.f1 Y.f1 = f0) (hfr : f0 = fr)
    (hia : (X.f1 == fr) = true) (hib : (Y.f1 == fr) = false) (t1 t2 : Int) (HT1 : Hid (t1 = min 2147483647 X.f2)) (HT2 : Hid (t2 = min t1 (Y.f1 - 1))) (hT : 0 ≤ t2 ∧ t2 ≤ 2147483647) (hn : out.length < 1000000) (la2 lb2 o2 : List S60) (HLA : Hid (la2 = behV (x :: ra) t2)) (HLB2 : Hid (lb2 = (y :: rb))) (HO : Hid (o2 = if kf true false = true then addV out ⟨nd, fr, t2⟩ else out)) :
    Calls Try.prog 74 #[.pointer (some ⟨B, 0, none⟩)] w (StepQ w base B ga gb (.func (.func F) #[] #[]) la2 lb2 o2) := by
  have HA := Lib.hid hA; have HB := Lib.hid hB; have HT := Lib.hid hT; have HF := Lib.hid hF
  clear hA hB hT hF
  have hb0 := h.c0
  have hb1 := h.c1
  subst hfr
  have HF0 := Lib.hid hf0; have HIA := Lib.hid hia; have HIB := Lib.hid hib; have HXF := Lib.hid hXf; have HYF := Lib.hid hYf; have HN := Lib.hid hn; have HND := Lib.hid hnd
  clear hf0 hia hib hXf hYf hn
  obtain ⟨off1, n1, c1, rfl, q0, e1⟩ := h.sa.first
  obtain ⟨off2, n2, c2, rfl, r0, e2⟩ := h.sb.first
  have H := Lib.hid h
  have HBS := Lib.hid (Nat.le_trans h.hB (Nat.le_of_lt (Ytdelfhahbngcfaa.blk_lt h.blk)))
  have HOW := Lib.hid (fun k (hk : vo.ownBlock = some k) => (h.ow.lt k hk).2)
  clear h
  go_enter Try.func74, Try.ntmps74
  go_wp2
  go_quiet (fail)
  have H0 := Lib.hid (H.out.below (w' := w.drewN nq) (below_drewN nq))
  have HBW0 := Lib.hid (below_drewN (w := w) nq)
  go_wp2_with fail
  go_at_call 79
  refine (head_any H0.out.sa nd).mono ?_
  rintro e w1 ⟨rfl, hbw1⟩
  rw [HA.out]
  have hal1 := below_alloc (Below.refl _ w1) (.cells #[.int .i64 X.f0, .int .i64 X.f1, .int .i64 X.f2] 60)
  have HBW1 := Lib.hid ((HBW0.out.trans (hbw1.mono HBW0.out.size)).trans (hal1.mono (HBW0.out.trans (hbw1.mono HBW0.out.size)).size))
  have H1 := Lib.hid ((H0.out.below hbw1).below hal1)
  have hX := Ytdelfhahbngcfaa.blk_new w1 60 #[.int .i64 X.f0, .int .i64 X.f1, .int .i64 X.f2]
  have HXX := Lib.hid hX
  clear H0 hbw1 hX hal1 HBW0
  have hb1 := H1.out.c1
  go_wp2_with fail
  go_at_call 79
  refine (head_any H1.out.sb nd).mono ?_
  rintro e w2 ⟨rfl, hbw2⟩
  rw [HB.out]
  obtain ⟨V2, hV2⟩ : ∃ V, V = w2.alloc (.cells #[.int .i64 Y.f0, .int .i64 Y.f1, .int .i64 Y.f2] 60) := ⟨_, rfl⟩
  have hal := below_alloc (Below.refl _ w2) (.cells #[.int .i64 Y.f0, .int .i64 Y.f1, .int .i64 Y.f2] 60)
  rw [← hV2] at hal
  have hX2 := Ytdelfhahbngcfaa.blk_below (Ytdelfhahbngcfaa.blk_below HXX.out hbw2) hal
  have hY2 := Ytdelfhahbngcfaa.blk_new w2 60 #[.int .i64 Y.f0, .int .i64 Y.f1, .int .i64 Y.f2]
  rw [← hV2] at hY2
  have X1 := Ytdelfhahbngcfaa.blk_cell hX2 1 _ rfl
  have Y1 := Ytdelfhahbngcfaa.blk_cell hY2 1 _ rfl
  have hal2 := below_alloc (Below.refl _ V2) (.cells #[.int .i64 nd, .int .i64 f0, .int .i64 0] 60)
  have hN := Ytdelfhahbngcfaa.blk_new V2 60 #[.int .i64 nd, .int .i64 f0, .int .i64 0]
  have hs2 : V2.heap.size = w2.heap.size + 1 := by rw [hV2]; simp
  have H2 := Lib.hid ((H1.out.below hbw2).below (hal.trans (hal2.mono hal.size)))
  have HBW2 := Lib.hid ((HBW1.out.trans (hbw2.mono HBW1.out.size)).trans ((hal.trans (hal2.mono hal.size)).mono (HBW1.out.trans (hbw2.mono HBW1.out.size)).size))
  have BX := Lib.hid (Ytdelfhahbngcfaa.blk_below hX2 hal2)
  have BY := Lib.hid (Ytdelfhahbngcfaa.blk_below hY2 hal2)
  have HVC := Lib.hid (Ytdelfhahbngcfaa.Ch.of_below (hbw2.trans ((hal.trans (hal2.mono hal.size)).mono hbw2.size)) (fun k => k = w2.heap.size + 1))
  have HSZ : Hid ((w1.alloc (.cells #[.int .i64 X.f0, .int .i64 X.f1, .int .i64 X.f2] 60)).heap.size ≤ w2.heap.size) := Lib.hid hbw2.size
  have HLB : Hid (w.heap.size ≤ w2.heap.size) := Lib.hid (Nat.le_trans HBW1.out.size hbw2.size)
  have HLW : Hid (w1.heap.size < w2.heap.size) := Lib.hid (Ytdelfhahbngcfaa.blk_lt (Ytdelfhahbngcfaa.blk_below HXX.out hbw2))
  rw [hs2] at hN
  rw [hV2] at X1 Y1
  have hf0 := HF0.out
  clear e1 e2 hnd
  go_upto_region 11 with fail
  clear hf0
  obtain ⟨W, hW⟩ : ∃ W, W = V2.alloc (.cells #[.int .i64 nd, .int .i64 f0, .int .i64 0] 60) := ⟨_, rfl⟩
  rw [← hW] at hN H2 BX BY HBW2 HVC
  have BN := Lib.hid hN
  rw [hV2] at hW
  rw [← hW]
  clear hW hN hal2 hs2 hY2 hX2 X1 Y1 hV2 hal
  have hx1 := Ytdelfhahbngcfaa.blk_cell BX.out 1 _ rfl
  have hy1 := Ytdelfhahbngcfaa.blk_cell BY.out 1 _ rfl
  have hn1 := Ytdelfhahbngcfaa.blk_cell BN.out 1 _ rfl
  have hia := HIA.out
  have hib := HIB.out
  go_quiet (fail)
  clear hia hib
  obtain ⟨W2, hW2⟩ : ∃ W2, W2 = (W.drewN nq).setCell ⟨w2.heap.size + 1, 2, none⟩ (.int .i64 2147483647) := ⟨_, rfl⟩
  have BN1 : Ytdelfhahbngcfaa.Blk W2 (w2.heap.size + 1) 60 #[.int .i64 nd, .int .i64 f0, .int .i64 2147483647] := by
    rw [hW2]; exact Ytdelfhahbngcfaa.blk_set (w := W.drewN nq) BN.out 2 _
  have hch : Ytdelfhahbngcfaa.Ch (fun k => k = w2.heap.size + 1) W W2 := by
    rw [hW2]; exact (Ytdelfhahbngcfaa.ch_drewN _ W nq).trans (Ytdelfhahbngcfaa.Ch.setCell _ _ _) (fun _ h => .inl h)
  have hlw := HLW.out
  have BX1 := Ytdelfhahbngcfaa.blk_ch BX.out hch (by omega)
  have BY1 := Ytdelfhahbngcfaa.blk_ch BY.out hch (by omega)
  have hf2 := Ytdelfhahbngcfaa.blk_thawed (w := W.drewN nq) BN.out 2
  have hn2 := Ytdelfhahbngcfaa.blk_cell (w := W.drewN nq) BN.out 2 _ rfl
  have x0 := Ytdelfhahbngcfaa.blk_cell BX1 0 _ rfl
  have x1 := Ytdelfhahbngcfaa.blk_cell BX1 1 _ rfl
  have x2 := Ytdelfhahbngcfaa.blk_cell BX1 2 _ rfl
  have y0 := Ytdelfhahbngcfaa.blk_cell BY1 0 _ rfl
  have y1 := Ytdelfhahbngcfaa.blk_cell BY1 1 _ rfl
  have y2 := Ytdelfhahbngcfaa.blk_cell BY1 2 _ rfl
  have BN2 := Lib.hid BN1; have HCH := Lib.hid hch
  clear BX1 BY1 BN1 hch
  rw [hW2] at x0 x1 x2 y0 y1 y2
  have HW2 := Lib.hid hW2
  clear hW2
  go_wp2_with fail
  obtain ⟨W3, hW3⟩ : ∃ W3, W3 = W2.alloc (.cells #[.int .i64 X.f0, .int .i64 X.f1, .int .i64 X.f2, .bool true, .bool true, .int .i64 Y.f0, .int .i64 Y.f1, .int .i64 Y.f2, .bool true, .bool false] 95) := ⟨_, rfl⟩
  have hb3 := below_alloc (Below.refl _ W2) (.cells #[.int .i64 X.f0, .int .i64 X.f1, .int .i64 X.f2, .bool true, .bool true, .int .i64 Y.f0, .int .i64 Y.f1, .int .i64 Y.f2, .bool true, .bool false] 95)
  have hA3 := Ytdelfhahbngcfaa.blk_new W2 95 #[.int .i64 X.f0, .int .i64 X.f1, .int .i64 X.f2, .bool true, .bool true, .int .i64 Y.f0, .int .i64 Y.f1, .int .i64 Y.f2, .bool true, .bool false]
  rw [← hW3] at hb3 hA3
  have hsW : W2.heap.size = W.heap.size := by rw [HW2.out]; simp
  rw [hsW] at hA3
  have HA3 := Lib.hid hA3
  have HN3 := Lib.hid (Ytdelfhahbngcfaa.blk_below BN2.out hb3)
  have HC3 := Lib.hid (HCH.out.trans (Ytdelfhahbngcfaa.Ch.of_below hb3 (fun k => k = w2.heap.size + 1)) (fun _ h => .inl h))
  have hlN : w2.heap.size + 1 < W.heap.size := Ytdelfhahbngcfaa.blk_lt BN.out
  have HLN := Lib.hid hlN
  rw [HW2.out] at hW3
  rw [← hW3]
  clear hW3 hb3 hA3 hsW x0 x1 x2 y0 y1 y2 hn2 hf2 hx1 hy1 hn1 BN BN2 BX BY HW2 hlw HCH hlN
  go_loopw [119] (fun i wr => ∃ k : Nat, k ≤ 2 ∧ i = .int .i64 k ∧ Hid (Ytdelfhahbngcfaa.Blk wr (w2.heap.size + 1) 60 #[.int .i64 nd, .int .i64 f0, .int .i64 (tK t1 t2 k)] ∧ Ytdelfhahbngcfaa.Ch (fun j => j = w2.heap.size + 1) W3 wr)) (fun i _ => 2 - (intOf i).toNat)
  case atStart => exact ⟨0, by omega, rfl, Lib.hid ⟨HN3.out, Ytdelfhahbngcfaa.Ch.refl _ _⟩⟩
  case round =>
    obtain ⟨k, hk, rfl, HI⟩ := hrel
    have hA4 := Ytdelfhahbngcfaa.blk_ch HA3.out HI.out.2 (by have := HLN.out; omega)
    by_cases hk0 : k = 0
    · subst hk0
      have a0 := Ytdelfhahbngcfaa.blk_cell hA4 0 _ rfl
      have a1 := Ytdelfhahbngcfaa.blk_cell hA4 1 _ rfl
      have a2 := Ytdelfhahbngcfaa.blk_cell hA4 2 _ rfl
      have a3 := Ytdelfhahbngcfaa.blk_cell hA4 3 _ rfl
      have a4 := Ytdelfhahbngcfaa.blk_cell hA4 4 _ rfl
      have hbX := below_alloc (Below.refl _ wr) (.cells #[.int .i64 X.f0, .int .i64 X.f1, .int .i64 X.f2, .bool true, .bool true] 95)
      have hbN := Ytdelfhahbngcfaa.blk_below HI.out.1 hbX
      have n2 := Ytdelfhahbngcfaa.blk_cell hbN 2 _ rfl
      have f2 := Ytdelfhahbngcfaa.blk_thawed hbN 2
      have HBN := Lib.hid hbN
      have HCX := Lib.hid (HI.out.2.trans (Ytdelfhahbngcfaa.Ch.of_below hbX (fun j => j = w2.heap.size + 1)) (fun _ h => .inl h))
      have hlo := HXF.out.1
      have hhi := HXF.out.2.1
      clear hbX hbN hA4
      rw [show tK t1 t2 0 = 2147483647 from rfl] at n2
      go_wp2
      go_roundw
      case rel => exact ⟨1, by omega, by go_num, Lib.hid ⟨by rw [show tK t1 t2 1 = _ from HT1.out]; exact Ytdelfhahbngcfaa.blk_set HBN.out 2 _, HCX.out.trans (Ytdelfhahbngcfaa.Ch.setCell _ ⟨w2.heap.size + 1, 2, none⟩ _) (fun _ h => .inl h)⟩⟩
      case measure => simp [intOf]
    by_cases hk1 : k = 1
    · subst hk1
      have a0 := Ytdelfhahbngcfaa.blk_cell hA4 5 _ rfl
      have a1 := Ytdelfhahbngcfaa.blk_cell hA4 6 _ rfl
      have a2 := Ytdelfhahbngcfaa.blk_cell hA4 7 _ rfl
      have a3 := Ytdelfhahbngcfaa.blk_cell hA4 8 _ rfl
      have a4 := Ytdelfhahbngcfaa.blk_cell hA4 9 _ rfl
      have hbX := below_alloc (Below.refl _ wr) (.cells #[.int .i64 Y.f0, .int .i64 Y.f1, .int .i64 Y.f2, .bool true, .bool false] 95)
      have hbN := Ytdelfhahbngcfaa.blk_below HI.out.1 hbX
      have n2 := Ytdelfhahbngcfaa.blk_cell hbN 2 _ rfl
      have f2 := Ytdelfhahbngcfaa.blk_thawed hbN 2
      have HBN := Lib.hid hbN
      have HCX := Lib.hid (HI.out.2.trans (Ytdelfhahbngcfaa.Ch.of_below hbX (fun j => j = w2.heap.size + 1)) (fun _ h => .inl h))
      have hlo := HYF.out.1
      have hhi := HYF.out.2.1
      clear hbX hbN hA4
      rw [show tK t1 t2 1 = t1 from rfl] at n2
      go_wp2
      go_roundw
      case rel => exact ⟨2, by omega, by go_num, Lib.hid ⟨by rw [show tK t1 t2 2 = _ from HT2.out]; exact Ytdelfhahbngcfaa.blk_set HBN.out 2 _, HCX.out.trans (Ytdelfhahbngcfaa.Ch.setCell _ ⟨w2.heap.size + 1, 2, none⟩ _) (fun _ h => .inl h)⟩⟩
      case measure => simp [intOf]
    obtain rfl : k = 2 := by omega
    clear hA4 hk0 hk1
    have hB7 := HI.out.1
    rw [show tK t1 t2 2 = t2 from rfl] at hB7
    have hch7 := HC3.out.trans HI.out.2 (fun _ h => .inl h)
    have H3 := Lib.hid (H1.out.ch (HVC.out.trans hch7 (fun _ h => .inl h)) (fun k hk e => by have := HSZ.out; omega))
    have HB7 := Lib.hid hB7
    have HBW3 := Lib.hid (HBW2.out.trans (hch7.below (B := w.heap.size) HBW2.out.size (fun k hk => by have := HLB.out; omega)))
    clear hB7 hch7 HI
    have k2 := H3.out.c2
    have hcall := (HF.out true false wr).2
    go_wp2_with fail
    clear hcall
    refine (HF.out _ _ _).1.mono ?_
    rintro e wk ⟨rfl, rfl⟩
    have HG7 := Lib.hid (show ga < w2.heap.size + 1 ∧ B < w2.heap.size + 1 from by
      have h1 := H1.out.lta (by simp); have h3 := Ytdelfhahbngcfaa.blk_lt H1.out.blk; have h4 := HSZ.out; exact ⟨by omega, by omega⟩)
    obtain ⟨kp, hkp⟩ : ∃ kp, kp = kf true false := ⟨_, rfl⟩
    rw [← hkp] at HO ⊢
    clear hkp
    cases kp
    · rw [if_neg (by decide)] at HO
      go_wp2_with fail
      have HC := H3; have H7 := HB7; have HBW := Lib.hid (HBW3.out.mono HBS.out)
      clear H3 HB7 HBW3 k2
      have r0 := HC.out.c0
      have r7 := Ytdelfhahbngcfaa.blk_cell H7.out 2 _ rfl
      have HARM := Lib.hid (show ∀ wb, Ytdelfhahbngcfaa.Ch (fun k => k = ga) wr.drew wb → wb.cell? ⟨B, 0, none⟩ = wr.cell? ⟨B, 0, none⟩ ∧ wb.frozen? ⟨B, 0, none⟩ = false ∧ Ytdelfhahbngcfaa.Ch (fun k => k = ga) wr wb from fun wb hch => by
        have hch2 := (Ytdelfhahbngcfaa.Ch.drew wr (fun k => k = ga)).trans hch (fun _ h => .inl h)
        have hb := Ytdelfhahbngcfaa.blk_ch HC.out.blk hch2 (fun e => HC.out.aB (by simp) e.symm)
        exact ⟨(Ytdelfhahbngcfaa.blk_cell hb 0 _ rfl).trans (HC.out.c0).symm, Ytdelfhahbngcfaa.blk_thawed hb 0, hch2⟩)
      go_region_with (go_at_call 80; refine (behind_any ga _ x ra t2 _ (HC.out.sa.ch (Ytdelfhahbngcfaa.Ch.drew wr No) (fun _ => id)) HT.out).mono ?_; rintro e wb ⟨vn, rfl, hs, hch⟩; obtain ⟨a1, a2, hch2⟩ := HARM.out wb hch; rw [r0] at a1; have HSS := Lib.hid hs; obtain ⟨A9, c9, hv9, _⟩ := hs; have HCH := Lib.hid hch2; subst hv9; clear hch hch2)
      all_goals
        clear r0 r7 HARM
        have HN1 := Lib.hid (sw_setA HC.out (by simp) HSS.out HCH.out)
        have HB1 := Lib.hid (HBW.out.trans HN1.out.2.1)
        go_wp2_with fail
        exact bodyPost_end (results_none rfl _ _ _) rfl ⟨rfl, HB1.out, _, _, _, by rw [HLA.out, HLB2.out, HO.out]; exact HN1.out.1⟩
    · rw [if_pos rfl] at HO
      have m0 := Ytdelfhahbngcfaa.blk_cell HB7.out 0 _ rfl
      have m1 := Ytdelfhahbngcfaa.blk_cell HB7.out 1 _ rfl
      have m2 := Ytdelfhahbngcfaa.blk_cell HB7.out 2 _ rfl
      have HADD := Lib.hid (add_any base B _ _ _ vo out ⟨nd, f0, t2⟩ wr H3.out.blk H3.out.ow H3.out.hB HN.out)
      have HAFT := Lib.hid (fun e W' => sw_add (e := e) (W' := W') (out2 := addV out ⟨nd, f0, t2⟩) H3.out)
      go_wp2_with (go_at_call 60; refine HADD.out.mono ?_; rintro e wa hq; obtain ⟨he, hb9, _, hkeep, vo9, hsw9, _⟩ := HAFT.out e wa hq; subst he; have HC := Lib.hid hsw9; have HB9 := Lib.hid hb9; have HKP := Lib.hid hkeep; clear hq hb9 hkeep hsw9)
      clear m0 m1 m2
      have H7 := Lib.hid (show Ytdelfhahbngcfaa.Blk wa (w2.heap.size + 1) 60 #[.int .i64 nd, .int .i64 f0, .int .i64 t2] from (HKP.out _ (Ytdelfhahbngcfaa.blk_lt HB7.out) (fun e => by have := HG7.out; omega) (fun e => by
        have h1 := HOW.out _ e; have h2 := HLB.out; omega)).trans HB7.out)
      have HBW := Lib.hid ((HBW3.out.mono HBS.out).trans HB9.out)
      clear H3 HB7 HBW3 k2 HB9 HKP HAFT HADD
      have r0 := HC.out.c0
      have r7 := Ytdelfhahbngcfaa.blk_cell H7.out 2 _ rfl
      have HARM := Lib.hid (show ∀ wb, Ytdelfhahbngcfaa.Ch (fun k => k = ga) wa.drew wb → wb.cell? ⟨B, 0, none⟩ = wa.cell? ⟨B, 0, none⟩ ∧ wb.frozen? ⟨B, 0, none⟩ = false ∧ Ytdelfhahbngcfaa.Ch (fun k => k = ga) wa wb from fun wb hch => by
        have hch2 := (Ytdelfhahbngcfaa.Ch.drew wa (fun k => k = ga)).trans hch (fun _ h => .inl h)
        have hb := Ytdelfhahbngcfaa.blk_ch HC.out.blk hch2 (fun e => HC.out.aB (by simp) e.symm)
        exact ⟨(Ytdelfhahbngcfaa.blk_cell hb 0 _ rfl).trans (HC.out.c0).symm, Ytdelfhahbngcfaa.blk_thawed hb 0, hch2⟩)
      go_region_with (go_at_call 80; refine (behind_any ga _ x ra t2 _ (HC.out.sa.ch (Ytdelfhahbngcfaa.Ch.drew wa No) (fun _ => id)) HT.out).mono ?_; rintro e wb ⟨vn, rfl, hs, hch⟩; obtain ⟨a1, a2, hch2⟩ := HARM.out wb hch; rw [r0] at a1; have HSS := Lib.hid hs; obtain ⟨A9, c9, hv9, _⟩ := hs; have HCH := Lib.hid hch2; subst hv9; clear hch hch2)
      all_goals
        clear r0 r7 HARM
        have HN1 := Lib.hid (sw_setA HC.out (by simp) HSS.out HCH.out)
        have HB1 := Lib.hid (HBW.out.trans HN1.out.2.1)
        go_wp2_with fail
        exact bodyPost_end (results_none rfl _ _ _) rfl ⟨rfl, HB1.out, _, _, _, by rw [HLA.out, HLB2.out, HO.out]; exact HN1.out.1⟩
end Go.Proofs.YtdelfhahbngcfaaX.P07
end
section
namespace Go.Proofs.YtdelfhahbngcfaaX.P07
open Go.RowKit Go.Shelf Go.Sort Go.Lib Go.Proofs.Ytdelfhahbngcfaa Go.Proofs.YtdelfhahbngcfaaW.PrintWords Go.Proofs.YtdelfhahbngcfaaW.PrintLast Go.Proofs.YtdelfhahbngcfaaW.PrintMore
set_option linter.unusedVariables false
set_option linter.unusedSimpArgs false
attribute [local go_sem] Oper.semAt_some
set_option maxRecDepth 100000 in
set_option maxHeartbeats 4000000 in
theorem step6 (F : Nat) (kf : Bool → Bool → Bool) (hF : Keeps F kf) (base B ga gb : Nat) (va vb vo : Value) (x y : S60) (ra rb out : List S60) (w : World) (h : Sw w base B ga gb va vb (.func (.func F) #[] #[]) vo (x :: ra) (y :: rb) out)
    (nd : Int) (X Y : S60) (hnd : min x.f0 y.f0 = nd) (hA : headV (x :: ra) nd = (X, true)) (hB : headV (y :: rb) nd = (Y, true))
    (hXf : 0 ≤ X.f1 ∧ X.f1 ≤ 2147483647 ∧ 0 ≤ X.f2 ∧ X.f2 ≤ 2147483647) (hYf : 0 ≤ Y.f1 ∧ Y.f1 ≤ 2147483647 ∧ 0 ≤ Y.f2 ∧ Y.f2 ≤ 2147483647) (f0 fr : Int) (hf0 : min X.f1 Y.f1 = f0) (hfr : f0 = fr)
    (hia : (X.f1 == fr) = false) (hib : (Y.f1 == fr) = true) (t1 t2 : Int) (HT1 : Hid (t1 = min 2147483647 (X.f1 - 1))) (HT2 : Hid (t2 = min t1 Y.f2)) (hT : 0 ≤ t2 ∧ t2 ≤ 2147483647) (hn : out.length < 1000000) (la2 lb2 o2 : List S60) (HLA : Hid (la2 = (x :: ra))) (HLB2 : Hid (lb2 = behV (y :: rb) t2)) (HO : Hid (o2 = if kf false true = true then addV out ⟨nd, fr, t2⟩ else out)) :
    Calls Try.prog 74 #[.pointer (some ⟨B, 0, none⟩)] w (StepQ w base B ga gb (.func (.func F) #[] #[]) la2 lb2 o2) := by
  have HA := Lib.hid hA; have HB := Lib.hid hB; have HT := Lib.hid hT; have HF := Lib.hid hF
  clear hA hB hT hF
  have hb0 := h.c0
  have hb1 := h.c1
  subst hfr
  have HF0 := Lib.hid hf0; have HIA := Lib.hid hia; have HIB := Lib.hid hib; have HXF := Lib.hid hXf; have HYF := Lib.hid hYf; have HN := Lib.hid hn; have HND := Lib.hid hnd
  clear hf0 hia hib hXf hYf hn
  obtain ⟨off1, n1, c1, rfl, q0, e1⟩ := h.sa.first
  obtain ⟨off2, n2, c2, rfl, r0, e2⟩ := h.sb.first
  have H := Lib.hid h
  have HBS := Lib.hid (Nat.le_trans h.hB (Nat.le_of_lt (Ytdelfhahbngcfaa.blk_lt h.blk)))
  have HOW := Lib.hid (fun k (hk : vo.ownBlock = some k) => (h.ow.lt k hk).2)
  clear h
  go_enter Try.func74, Try.ntmps74
  go_wp2
  go_quiet (fail)
  have H0 := Lib.hid (H.out.below (w' := w.drewN nq) (below_drewN nq))
  have HBW0 := Lib.hid (below_drewN (w := w) nq)
  go_wp2_with fail
  go_at_call 79
  refine (head_any H0.out.sa nd).mono ?_
  rintro e w1 ⟨rfl, hbw1⟩
  rw [HA.out]
  have hal1 := below_alloc (Below.refl _ w1) (.cells #[.int .i64 X.f0, .int .i64 X.f1, .int .i64 X.f2] 60)
  have HBW1 := Lib.hid ((HBW0.out.trans (hbw1.mono HBW0.out.size)).trans (hal1.mono (HBW0.out.trans (hbw1.mono HBW0.out.size)).size))
  have H1 := Lib.hid ((H0.out.below hbw1).below hal1)
  have hX := Ytdelfhahbngcfaa.blk_new w1 60 #[.int .i64 X.f0, .int .i64 X.f1, .int .i64 X.f2]
  have HXX := Lib.hid hX
  clear H0 hbw1 hX hal1 HBW0
  have hb1 := H1.out.c1
  go_wp2_with fail
  go_at_call 79
  refine (head_any H1.out.sb nd).mono ?_
  rintro e w2 ⟨rfl, hbw2⟩
  rw [HB.out]
  obtain ⟨V2, hV2⟩ : ∃ V, V = w2.alloc (.cells #[.int .i64 Y.f0, .int .i64 Y.f1, .int .i64 Y.f2] 60) := ⟨_, rfl⟩
  have hal := below_alloc (Below.refl _ w2) (.cells #[.int .i64 Y.f0, .int .i64 Y.f1, .int .i64 Y.f2] 60)
  rw [← hV2] at hal
  have hX2 := Ytdelfhahbngcfaa.blk_below (Ytdelfhahbngcfaa.blk_below HXX.out hbw2) hal
  have hY2 := Ytdelfhahbngcfaa.blk_new w2 60 #[.int .i64 Y.f0, .int .i64 Y.f1, .int .i64 Y.f2]
  rw [← hV2] at hY2
  have X1 := Ytdelfhahbngcfaa.blk_cell hX2 1 _ rfl
  have Y1 := Ytdelfhahbngcfaa.blk_cell hY2 1 _ rfl
  have hal2 := below_alloc (Below.refl _ V2) (.cells #[.int .i64 nd, .int .i64 f0, .int .i64 0] 60)
  have hN := Ytdelfhahbngcfaa.blk_new V2 60 #[.int .i64 nd, .int .i64 f0, .int .i64 0]
  have hs2 : V2.heap.size = w2.heap.size + 1 := by rw [hV2]; simp
  have H2 := Lib.hid ((H1.out.below hbw2).below (hal.trans (hal2.mono hal.size)))
  have HBW2 := Lib.hid ((HBW1.out.trans (hbw2.mono HBW1.out.size)).trans ((hal.trans (hal2.mono hal.size)).mono (HBW1.out.trans (hbw2.mono HBW1.out.size)).size))
  have BX := Lib.hid (Ytdelfhahbngcfaa.blk_below hX2 hal2)
  have BY := Lib.hid (Ytdelfhahbngcfaa.blk_below hY2 hal2)
  have HVC := Lib.hid (Ytdelfhahbngcfaa.Ch.of_below (hbw2.trans ((hal.trans (hal2.mono hal.size)).mono hbw2.size)) (fun k => k = w2.heap.size + 1))
  have HSZ : Hid ((w1.alloc (.cells #[.int .i64 X.f0, .int .i64 X.f1, .int .i64 X.f2] 60)).heap.size ≤ w2.heap.size) := Lib.hid hbw2.size
  have HLB : Hid (w.heap.size ≤ w2.heap.size) := Lib.hid (Nat.le_trans HBW1.out.size hbw2.size)
  have HLW : Hid (w1.heap.size < w2.heap.size) := Lib.hid (Ytdelfhahbngcfaa.blk_lt (Ytdelfhahbngcfaa.blk_below HXX.out hbw2))
  rw [hs2] at hN
  rw [hV2] at X1 Y1
  have hf0 := HF0.out
  clear e1 e2 hnd
  go_upto_region 11 with fail
  clear hf0
  obtain ⟨W, hW⟩ : ∃ W, W = V2.alloc (.cells #[.int .i64 nd, .int .i64 f0, .int .i64 0] 60) := ⟨_, rfl⟩
  rw [← hW] at hN H2 BX BY HBW2 HVC
  have BN := Lib.hid hN
  rw [hV2] at hW
  rw [← hW]
  clear hW hN hal2 hs2 hY2 hX2 X1 Y1 hV2 hal
  have hx1 := Ytdelfhahbngcfaa.blk_cell BX.out 1 _ rfl
  have hy1 := Ytdelfhahbngcfaa.blk_cell BY.out 1 _ rfl
  have hn1 := Ytdelfhahbngcfaa.blk_cell BN.out 1 _ rfl
  have hia := HIA.out
  have hib := HIB.out
  go_quiet (fail)
  clear hia hib
  obtain ⟨W2, hW2⟩ : ∃ W2, W2 = (W.drewN nq).setCell ⟨w2.heap.size + 1, 2, none⟩ (.int .i64 2147483647) := ⟨_, rfl⟩
  have BN1 : Ytdelfhahbngcfaa.Blk W2 (w2.heap.size + 1) 60 #[.int .i64 nd, .int .i64 f0, .int .i64 2147483647] := by
    rw [hW2]; exact Ytdelfhahbngcfaa.blk_set (w := W.drewN nq) BN.out 2 _
  have hch : Ytdelfhahbngcfaa.Ch (fun k => k = w2.heap.size + 1) W W2 := by
    rw [hW2]; exact (Ytdelfhahbngcfaa.ch_drewN _ W nq).trans (Ytdelfhahbngcfaa.Ch.setCell _ _ _) (fun _ h => .inl h)
  have hlw := HLW.out
  have BX1 := Ytdelfhahbngcfaa.blk_ch BX.out hch (by omega)
  have BY1 := Ytdelfhahbngcfaa.blk_ch BY.out hch (by omega)
  have hf2 := Ytdelfhahbngcfaa.blk_thawed (w := W.drewN nq) BN.out 2
  have hn2 := Ytdelfhahbngcfaa.blk_cell (w := W.drewN nq) BN.out 2 _ rfl
  have x0 := Ytdelfhahbngcfaa.blk_cell BX1 0 _ rfl
  have x1 := Ytdelfhahbngcfaa.blk_cell BX1 1 _ rfl
  have x2 := Ytdelfhahbngcfaa.blk_cell BX1 2 _ rfl
  have y0 := Ytdelfhahbngcfaa.blk_cell BY1 0 _ rfl
  have y1 := Ytdelfhahbngcfaa.blk_cell BY1 1 _ rfl
  have y2 := Ytdelfhahbngcfaa.blk_cell BY1 2 _ rfl
  have BN2 := Lib.hid BN1; have HCH := Lib.hid hch
  clear BX1 BY1 BN1 hch
  rw [hW2] at x0 x1 x2 y0 y1 y2
  have HW2 := Lib.hid hW2
  clear hW2
  go_wp2_with fail
  obtain ⟨W3, hW3⟩ : ∃ W3, W3 = W2.alloc (.cells #[.int .i64 X.f0, .int .i64 X.f1, .int .i64 X.f2, .bool true, .bool false, .int .i64 Y.f0, .int .i64 Y.f1, .int .i64 Y.f2, .bool true, .bool true] 95) := ⟨_, rfl⟩
  have hb3 := below_alloc (Below.refl _ W2) (.cells #[.int .i64 X.f0, .int .i64 X.f1, .int .i64 X.f2, .bool true, .bool false, .int .i64 Y.f0, .int .i64 Y.f1, .int .i64 Y.f2, .bool true, .bool true] 95)
  have hA3 := Ytdelfhahbngcfaa.blk_new W2 95 #[.int .i64 X.f0, .int .i64 X.f1, .int .i64 X.f2, .bool true, .bool false, .int .i64 Y.f0, .int .i64 Y.f1, .int .i64 Y.f2, .bool true, .bool true]
  rw [← hW3] at hb3 hA3
  have hsW : W2.heap.size = W.heap.size := by rw [HW2.out]; simp
  rw [hsW] at hA3
  have HA3 := Lib.hid hA3
  have HN3 := Lib.hid (Ytdelfhahbngcfaa.blk_below BN2.out hb3)
  have HC3 := Lib.hid (HCH.out.trans (Ytdelfhahbngcfaa.Ch.of_below hb3 (fun k => k = w2.heap.size + 1)) (fun _ h => .inl h))
  have hlN : w2.heap.size + 1 < W.heap.size := Ytdelfhahbngcfaa.blk_lt BN.out
  have HLN := Lib.hid hlN
  rw [HW2.out] at hW3
  rw [← hW3]
  clear hW3 hb3 hA3 hsW x0 x1 x2 y0 y1 y2 hn2 hf2 hx1 hy1 hn1 BN BN2 BX BY HW2 hlw HCH hlN
  go_loopw [119] (fun i wr => ∃ k : Nat, k ≤ 2 ∧ i = .int .i64 k ∧ Hid (Ytdelfhahbngcfaa.Blk wr (w2.heap.size + 1) 60 #[.int .i64 nd, .int .i64 f0, .int .i64 (tK t1 t2 k)] ∧ Ytdelfhahbngcfaa.Ch (fun j => j = w2.heap.size + 1) W3 wr)) (fun i _ => 2 - (intOf i).toNat)
  case atStart => exact ⟨0, by omega, rfl, Lib.hid ⟨HN3.out, Ytdelfhahbngcfaa.Ch.refl _ _⟩⟩
  case round =>
    obtain ⟨k, hk, rfl, HI⟩ := hrel
    have hA4 := Ytdelfhahbngcfaa.blk_ch HA3.out HI.out.2 (by have := HLN.out; omega)
    by_cases hk0 : k = 0
    · subst hk0
      have a0 := Ytdelfhahbngcfaa.blk_cell hA4 0 _ rfl
      have a1 := Ytdelfhahbngcfaa.blk_cell hA4 1 _ rfl
      have a2 := Ytdelfhahbngcfaa.blk_cell hA4 2 _ rfl
      have a3 := Ytdelfhahbngcfaa.blk_cell hA4 3 _ rfl
      have a4 := Ytdelfhahbngcfaa.blk_cell hA4 4 _ rfl
      have hbX := below_alloc (Below.refl _ wr) (.cells #[.int .i64 X.f0, .int .i64 X.f1, .int .i64 X.f2, .bool true, .bool false] 95)
      have hbN := Ytdelfhahbngcfaa.blk_below HI.out.1 hbX
      have n2 := Ytdelfhahbngcfaa.blk_cell hbN 2 _ rfl
      have f2 := Ytdelfhahbngcfaa.blk_thawed hbN 2
      have HBN := Lib.hid hbN
      have HCX := Lib.hid (HI.out.2.trans (Ytdelfhahbngcfaa.Ch.of_below hbX (fun j => j = w2.heap.size + 1)) (fun _ h => .inl h))
      have hlo := HXF.out.1
      have hhi := HXF.out.2.1
      clear hbX hbN hA4
      rw [show tK t1 t2 0 = 2147483647 from rfl] at n2
      go_wp2
      go_roundw
      case rel => exact ⟨1, by omega, by go_num, Lib.hid ⟨by rw [show tK t1 t2 1 = _ from HT1.out]; exact Ytdelfhahbngcfaa.blk_set HBN.out 2 _, HCX.out.trans (Ytdelfhahbngcfaa.Ch.setCell _ ⟨w2.heap.size + 1, 2, none⟩ _) (fun _ h => .inl h)⟩⟩
      case measure => simp [intOf]
    by_cases hk1 : k = 1
    · subst hk1
      have a0 := Ytdelfhahbngcfaa.blk_cell hA4 5 _ rfl
      have a1 := Ytdelfhahbngcfaa.blk_cell hA4 6 _ rfl
      have a2 := Ytdelfhahbngcfaa.blk_cell hA4 7 _ rfl
      have a3 := Ytdelfhahbngcfaa.blk_cell hA4 8 _ rfl
      have a4 := Ytdelfhahbngcfaa.blk_cell hA4 9 _ rfl
      have hbX := below_alloc (Below.refl _ wr) (.cells #[.int .i64 Y.f0, .int .i64 Y.f1, .int .i64 Y.f2, .bool true, .bool true] 95)
      have hbN := Ytdelfhahbngcfaa.blk_below HI.out.1 hbX
      have n2 := Ytdelfhahbngcfaa.blk_cell hbN 2 _ rfl
      have f2 := Ytdelfhahbngcfaa.blk_thawed hbN 2
      have HBN := Lib.hid hbN
      have HCX := Lib.hid (HI.out.2.trans (Ytdelfhahbngcfaa.Ch.of_below hbX (fun j => j = w2.heap.size + 1)) (fun _ h => .inl h))
      have hlo := HYF.out.1
      have hhi := HYF.out.2.1
      clear hbX hbN hA4
      rw [show tK t1 t2 1 = t1 from rfl] at n2
      go_wp2
      go_roundw
      case rel => exact ⟨2, by omega, by go_num, Lib.hid ⟨by rw [show tK t1 t2 2 = _ from HT2.out]; exact Ytdelfhahbngcfaa.blk_set HBN.out 2 _, HCX.out.trans (Ytdelfhahbngcfaa.Ch.setCell _ ⟨w2.heap.size + 1, 2, none⟩ _) (fun _ h => .inl h)⟩⟩
      case measure => simp [intOf]
    obtain rfl : k = 2 := by omega
    clear hA4 hk0 hk1
    have hB7 := HI.out.1
    rw [show tK t1 t2 2 = t2 from rfl] at hB7
    have hch7 := HC3.out.trans HI.out.2 (fun _ h => .inl h)
    have H3 := Lib.hid (H1.out.ch (HVC.out.trans hch7 (fun _ h => .inl h)) (fun k hk e => by have := HSZ.out; omega))
    have HB7 := Lib.hid hB7
    have HBW3 := Lib.hid (HBW2.out.trans (hch7.below (B := w.heap.size) HBW2.out.size (fun k hk => by have := HLB.out; omega)))
    clear hB7 hch7 HI
    have k2 := H3.out.c2
    have hcall := (HF.out false true wr).2
    go_wp2_with fail
    clear hcall
    refine (HF.out _ _ _).1.mono ?_
    rintro e wk ⟨rfl, rfl⟩
    have HG7 := Lib.hid (show B < w2.heap.size + 1 from by
      have h3 := Ytdelfhahbngcfaa.blk_lt H1.out.blk; have h4 := HSZ.out; omega)
    obtain ⟨kp, hkp⟩ : ∃ kp, kp = kf false true := ⟨_, rfl⟩
    rw [← hkp] at HO ⊢
    clear hkp
    cases kp
    · rw [if_neg (by decide)] at HO
      go_wp2_with fail
      have HC := H3; have H7 := HB7; have HBW := Lib.hid (HBW3.out.mono HBS.out)
      clear H3 HB7 HBW3 k2
      have r0 := HC.out.c1
      have r7 := Ytdelfhahbngcfaa.blk_cell H7.out 2 _ rfl
      have HARM := Lib.hid (show ∀ wb, Ytdelfhahbngcfaa.Ch (fun k => k = gb) wr.drew wb → wb.cell? ⟨B, 1, none⟩ = wr.cell? ⟨B, 1, none⟩ ∧ wb.frozen? ⟨B, 1, none⟩ = false ∧ Ytdelfhahbngcfaa.Ch (fun k => k = gb) wr wb from fun wb hch => by
        have hch2 := (Ytdelfhahbngcfaa.Ch.drew wr (fun k => k = gb)).trans hch (fun _ h => .inl h)
        have hb := Ytdelfhahbngcfaa.blk_ch HC.out.blk hch2 (fun e => HC.out.bB (by simp) e.symm)
        exact ⟨(Ytdelfhahbngcfaa.blk_cell hb 1 _ rfl).trans (HC.out.c1).symm, Ytdelfhahbngcfaa.blk_thawed hb 1, hch2⟩)
      go_region_with (go_at_call 80; refine (behind_any gb _ y rb t2 _ (HC.out.sb.ch (Ytdelfhahbngcfaa.Ch.drew wr No) (fun _ => id)) HT.out).mono ?_; rintro e wb ⟨vn, rfl, hs, hch⟩; obtain ⟨a1, a2, hch2⟩ := HARM.out wb hch; rw [r0] at a1; have HSS := Lib.hid hs; obtain ⟨A9, c9, hv9, _⟩ := hs; have HCH := Lib.hid hch2; subst hv9; clear hch hch2)
      all_goals
        clear r0 r7 HARM
        have HN1 := Lib.hid (sw_setB HC.out (by simp) HSS.out HCH.out)
        have HB1 := Lib.hid (HBW.out.trans HN1.out.2.1)
        go_wp2_with fail
        exact bodyPost_end (results_none rfl _ _ _) rfl ⟨rfl, HB1.out, _, _, _, by rw [HLA.out, HLB2.out, HO.out]; exact HN1.out.1⟩
    · rw [if_pos rfl] at HO
      have m0 := Ytdelfhahbngcfaa.blk_cell HB7.out 0 _ rfl
      have m1 := Ytdelfhahbngcfaa.blk_cell HB7.out 1 _ rfl
      have m2 := Ytdelfhahbngcfaa.blk_cell HB7.out 2 _ rfl
      have HADD := Lib.hid (add_any base B _ _ _ vo out ⟨nd, f0, t2⟩ wr H3.out.blk H3.out.ow H3.out.hB HN.out)
      have HAFT := Lib.hid (fun e W' => sw_add (e := e) (W' := W') (out2 := addV out ⟨nd, f0, t2⟩) H3.out)
      go_wp2_with (go_at_call 60; refine HADD.out.mono ?_; rintro e wa hq; obtain ⟨he, hb9, _, hkeep, vo9, hsw9, _⟩ := HAFT.out e wa hq; subst he; have HC := Lib.hid hsw9; have HB9 := Lib.hid hb9; have HKP := Lib.hid hkeep; clear hq hb9 hkeep hsw9)
      clear m0 m1 m2
      have H7 := Lib.hid (show Ytdelfhahbngcfaa.Blk wa (w2.heap.size + 1) 60 #[.int .i64 nd, .int .i64 f0, .int .i64 t2] from (HKP.out _ (Ytdelfhahbngcfaa.blk_lt HB7.out) (fun e => by have := HG7.out; omega) (fun e => by
        have h1 := HOW.out _ e; have h2 := HLB.out; omega)).trans HB7.out)
      have HBW := Lib.hid ((HBW3.out.mono HBS.out).trans HB9.out)
      clear H3 HB7 HBW3 k2 HB9 HKP HAFT HADD
      have r0 := HC.out.c1
      have r7 := Ytdelfhahbngcfaa.blk_cell H7.out 2 _ rfl
      have HARM := Lib.hid (show ∀ wb, Ytdelfhahbngcfaa.Ch (fun k => k = gb) wa.drew wb → wb.cell? ⟨B, 1, none⟩ = wa.cell? ⟨B, 1, none⟩ ∧ wb.frozen? ⟨B, 1, none⟩ = false ∧ Ytdelfhahbngcfaa.Ch (fun k => k = gb) wa wb from fun wb hch => by
        have hch2 := (Ytdelfhahbngcfaa.Ch.drew wa (fun k => k = gb)).trans hch (fun _ h => .inl h)
        have hb := Ytdelfhahbngcfaa.blk_ch HC.out.blk hch2 (fun e => HC.out.bB (by simp) e.symm)
        exact ⟨(Ytdelfhahbngcfaa.blk_cell hb 1 _ rfl).trans (HC.out.c1).symm, Ytdelfhahbngcfaa.blk_thawed hb 1, hch2⟩)
      go_region_with (go_at_call 80; refine (behind_any gb _ y rb t2 _ (HC.out.sb.ch (Ytdelfhahbngcfaa.Ch.drew wa No) (fun _ => id)) HT.out).mono ?_; rintro e wb ⟨vn, rfl, hs, hch⟩; obtain ⟨a1, a2, hch2⟩ := HARM.out wb hch; rw [r0] at a1; have HSS := Lib.hid hs; obtain ⟨A9, c9, hv9, _⟩ := hs; have HCH := Lib.hid hch2; subst hv9; clear hch hch2)
      all_goals
        clear r0 r7 HARM
        have HN1 := Lib.hid (sw_setB HC.out (by simp) HSS.out HCH.out)
        have HB1 := Lib.hid (HBW.out.trans HN1.out.2.1)
        go_wp2_with fail
        exact bodyPost_end (results_none rfl _ _ _) rfl ⟨rfl, HB1.out, _, _, _, by rw [HLA.out, HLB2.out, HO.out]; exact HN1.out.1⟩
set_option maxRecDepth 100000 in
set_option maxHeartbeats 4000000 in
theorem step7 (F : Nat) (kf : Bool → Bool → Bool) (hF : Keeps F kf) (base B ga gb : Nat) (va vb vo : Value) (x y : S60) (ra rb out : List S60) (w : World) (h : Sw w base B ga gb va vb (.func (.func F) #[] #[]) vo (x :: ra) (y :: rb) out)
    (nd : Int) (X Y : S60) (hnd : min x.f0 y.f0 = nd) (hA : headV (x :: ra) nd = (X, true)) (hB : headV (y :: rb) nd = (Y, true))
    (hXf : 0 ≤ X.f1 ∧ X.f1 ≤ 2147483647 ∧ 0 ≤ X.f2 ∧ X.f2 ≤ 2147483647) (hYf : 0 ≤ Y.f1 ∧ Y.f1 ≤ 2147483647 ∧ 0 ≤ Y.f2 ∧ Y.f2 ≤ 2147483647) (f0 fr : Int) (hf0 : min X.f1 Y.f1 = f0) (hfr : f0 = fr)
    (hia : (X.f1 == fr) = true) (hib : (Y.f1 == fr) = true) (t1 t2 : Int) (HT1 : Hid (t1 = min 2147483647 X.f2)) (HT2 : Hid (t2 = min t1 Y.f2)) (hT : 0 ≤ t2 ∧ t2 ≤ 2147483647) (hn : out.length < 1000000) (la2 lb2 o2 : List S60) (HLA : Hid (la2 = behV (x :: ra) t2)) (HLB2 : Hid (lb2 = behV (y :: rb) t2)) (HO : Hid (o2 = if kf true true = true then addV out ⟨nd, fr, t2⟩ else out)) :
    Calls Try.prog 74 #[.pointer (some ⟨B, 0, none⟩)] w (StepQ w base B ga gb (.func (.func F) #[] #[]) la2 lb2 o2) := by
  have HA := Lib.hid hA; have HB := Lib.hid hB; have HT := Lib.hid hT; have HF := Lib.hid hF
  clear hA hB hT hF
  have hb0 := h.c0
  have hb1 := h.c1
  subst hfr
  have HF0 := Lib.hid hf0; have HIA := Lib.hid hia; have HIB := Lib.hid hib; have HXF := Lib.hid hXf; have HYF := Lib.hid hYf; have HN := Lib.hid hn; have HND := Lib.hid hnd
  clear hf0 hia hib hXf hYf hn
  obtain ⟨off1, n1, c1, rfl, q0, e1⟩ := h.sa.first
  obtain ⟨off2, n2, c2, rfl, r0, e2⟩ := h.sb.first
  have H := Lib.hid h
  have HBS := Lib.hid (Nat.le_trans h.hB (Nat.le_of_lt (Ytdelfhahbngcfaa.blk_lt h.blk)))
  have HOW := Lib.hid (fun k (hk : vo.ownBlock = some k) => (h.ow.lt k hk).2)
  clear h
  go_enter Try.func74, Try.ntmps74
  go_wp2
  go_quiet (fail)
  have H0 := Lib.hid (H.out.below (w' := w.drewN nq) (below_drewN nq))
  have HBW0 := Lib.hid (below_drewN (w := w) nq)
  go_wp2_with fail
  go_at_call 79
  refine (head_any H0.out.sa nd).mono ?_
  rintro e w1 ⟨rfl, hbw1⟩
  rw [HA.out]
  have hal1 := below_alloc (Below.refl _ w1) (.cells #[.int .i64 X.f0, .int .i64 X.f1, .int .i64 X.f2] 60)
  have HBW1 := Lib.hid ((HBW0.out.trans (hbw1.mono HBW0.out.size)).trans (hal1.mono (HBW0.out.trans (hbw1.mono HBW0.out.size)).size))
  have H1 := Lib.hid ((H0.out.below hbw1).below hal1)
  have hX := Ytdelfhahbngcfaa.blk_new w1 60 #[.int .i64 X.f0, .int .i64 X.f1, .int .i64 X.f2]
  have HXX := Lib.hid hX
  clear H0 hbw1 hX hal1 HBW0
  have hb1 := H1.out.c1
  go_wp2_with fail
  go_at_call 79
  refine (head_any H1.out.sb nd).mono ?_
  rintro e w2 ⟨rfl, hbw2⟩
  rw [HB.out]
  obtain ⟨V2, hV2⟩ : ∃ V, V = w2.alloc (.cells #[.int .i64 Y.f0, .int .i64 Y.f1, .int .i64 Y.f2] 60) := ⟨_, rfl⟩
  have hal := below_alloc (Below.refl _ w2) (.cells #[.int .i64 Y.f0, .int .i64 Y.f1, .int .i64 Y.f2] 60)
  rw [← hV2] at hal
  have hX2 := Ytdelfhahbngcfaa.blk_below (Ytdelfhahbngcfaa.blk_below HXX.out hbw2) hal
  have hY2 := Ytdelfhahbngcfaa.blk_new w2 60 #[.int .i64 Y.f0, .int .i64 Y.f1, .int .i64 Y.f2]
  rw [← hV2] at hY2
  have X1 := Ytdelfhahbngcfaa.blk_cell hX2 1 _ rfl
  have Y1 := Ytdelfhahbngcfaa.blk_cell hY2 1 _ rfl
  have hal2 := below_alloc (Below.refl _ V2) (.cells #[.int .i64 nd, .int .i64 f0, .int .i64 0] 60)
  have hN := Ytdelfhahbngcfaa.blk_new V2 60 #[.int .i64 nd, .int .i64 f0, .int .i64 0]
  have hs2 : V2.heap.size = w2.heap.size + 1 := by rw [hV2]; simp
  have H2 := Lib.hid ((H1.out.below hbw2).below (hal.trans (hal2.mono hal.size)))
  have HBW2 := Lib.hid ((HBW1.out.trans (hbw2.mono HBW1.out.size)).trans ((hal.trans (hal2.mono hal.size)).mono (HBW1.out.trans (hbw2.mono HBW1.out.size)).size))
  have BX := Lib.hid (Ytdelfhahbngcfaa.blk_below hX2 hal2)
  have BY := Lib.hid (Ytdelfhahbngcfaa.blk_below hY2 hal2)
  have HVC := Lib.hid (Ytdelfhahbngcfaa.Ch.of_below (hbw2.trans ((hal.trans (hal2.mono hal.size)).mono hbw2.size)) (fun k => k = w2.heap.size + 1))
  have HSZ : Hid ((w1.alloc (.cells #[.int .i64 X.f0, .int .i64 X.f1, .int .i64 X.f2] 60)).heap.size ≤ w2.heap.size) := Lib.hid hbw2.size
  have HLB : Hid (w.heap.size ≤ w2.heap.size) := Lib.hid (Nat.le_trans HBW1.out.size hbw2.size)
  have HLW : Hid (w1.heap.size < w2.heap.size) := Lib.hid (Ytdelfhahbngcfaa.blk_lt (Ytdelfhahbngcfaa.blk_below HXX.out hbw2))
  rw [hs2] at hN
  rw [hV2] at X1 Y1
  have hf0 := HF0.out
  clear e1 e2 hnd
  go_upto_region 11 with fail
  clear hf0
  obtain ⟨W, hW⟩ : ∃ W, W = V2.alloc (.cells #[.int .i64 nd, .int .i64 f0, .int .i64 0] 60) := ⟨_, rfl⟩
  rw [← hW] at hN H2 BX BY HBW2 HVC
  have BN := Lib.hid hN
  rw [hV2] at hW
  rw [← hW]
  clear hW hN hal2 hs2 hY2 hX2 X1 Y1 hV2 hal
  have hx1 := Ytdelfhahbngcfaa.blk_cell BX.out 1 _ rfl
  have hy1 := Ytdelfhahbngcfaa.blk_cell BY.out 1 _ rfl
  have hn1 := Ytdelfhahbngcfaa.blk_cell BN.out 1 _ rfl
  have hia := HIA.out
  have hib := HIB.out
  go_quiet (fail)
  clear hia hib
  obtain ⟨W2, hW2⟩ : ∃ W2, W2 = (W.drewN nq).setCell ⟨w2.heap.size + 1, 2, none⟩ (.int .i64 2147483647) := ⟨_, rfl⟩
  have BN1 : Ytdelfhahbngcfaa.Blk W2 (w2.heap.size + 1) 60 #[.int .i64 nd, .int .i64 f0, .int .i64 2147483647] := by
    rw [hW2]; exact Ytdelfhahbngcfaa.blk_set (w := W.drewN nq) BN.out 2 _
  have hch : Ytdelfhahbngcfaa.Ch (fun k => k = w2.heap.size + 1) W W2 := by
    rw [hW2]; exact (Ytdelfhahbngcfaa.ch_drewN _ W nq).trans (Ytdelfhahbngcfaa.Ch.setCell _ _ _) (fun _ h => .inl h)
  have hlw := HLW.out
  have BX1 := Ytdelfhahbngcfaa.blk_ch BX.out hch (by omega)
  have BY1 := Ytdelfhahbngcfaa.blk_ch BY.out hch (by omega)
  have hf2 := Ytdelfhahbngcfaa.blk_thawed (w := W.drewN nq) BN.out 2
  have hn2 := Ytdelfhahbngcfaa.blk_cell (w := W.drewN nq) BN.out 2 _ rfl
  have x0 := Ytdelfhahbngcfaa.blk_cell BX1 0 _ rfl
  have x1 := Ytdelfhahbngcfaa.blk_cell BX1 1 _ rfl
  have x2 := Ytdelfhahbngcfaa.blk_cell BX1 2 _ rfl
  have y0 := Ytdelfhahbngcfaa.blk_cell BY1 0 _ rfl
  have y1 := Ytdelfhahbngcfaa.blk_cell BY1 1 _ rfl
  have y2 := Ytdelfhahbngcfaa.blk_cell BY1 2 _ rfl
  have BN2 := Lib.hid BN1; have HCH := Lib.hid hch
  clear BX1 BY1 BN1 hch
  rw [hW2] at x0 x1 x2 y0 y1 y2
  have HW2 := Lib.hid hW2
  clear hW2
  go_wp2_with fail
  obtain ⟨W3, hW3⟩ : ∃ W3, W3 = W2.alloc (.cells #[.int .i64 X.f0, .int .i64 X.f1, .int .i64 X.f2, .bool true, .bool true, .int .i64 Y.f0, .int .i64 Y.f1, .int .i64 Y.f2, .bool true, .bool true] 95) := ⟨_, rfl⟩
  have hb3 := below_alloc (Below.refl _ W2) (.cells #[.int .i64 X.f0, .int .i64 X.f1, .int .i64 X.f2, .bool true, .bool true, .int .i64 Y.f0, .int .i64 Y.f1, .int .i64 Y.f2, .bool true, .bool true] 95)
  have hA3 := Ytdelfhahbngcfaa.blk_new W2 95 #[.int .i64 X.f0, .int .i64 X.f1, .int .i64 X.f2, .bool true, .bool true, .int .i64 Y.f0, .int .i64 Y.f1, .int .i64 Y.f2, .bool true, .bool true]
  rw [← hW3] at hb3 hA3
  have hsW : W2.heap.size = W.heap.size := by rw [HW2.out]; simp
  rw [hsW] at hA3
  have HA3 := Lib.hid hA3
  have HN3 := Lib.hid (Ytdelfhahbngcfaa.blk_below BN2.out hb3)
  have HC3 := Lib.hid (HCH.out.trans (Ytdelfhahbngcfaa.Ch.of_below hb3 (fun k => k = w2.heap.size + 1)) (fun _ h => .inl h))
  have hlN : w2.heap.size + 1 < W.heap.size := Ytdelfhahbngcfaa.blk_lt BN.out
  have HLN := Lib.hid hlN
  rw [HW2.out] at hW3
  rw [← hW3]
  clear hW3 hb3 hA3 hsW x0 x1 x2 y0 y1 y2 hn2 hf2 hx1 hy1 hn1 BN BN2 BX BY HW2 hlw HCH hlN
  go_loopw [119] (fun i wr => ∃ k : Nat, k ≤ 2 ∧ i = .int .i64 k ∧ Hid (Ytdelfhahbngcfaa.Blk wr (w2.heap.size + 1) 60 #[.int .i64 nd, .int .i64 f0, .int .i64 (tK t1 t2 k)] ∧ Ytdelfhahbngcfaa.Ch (fun j => j = w2.heap.size + 1) W3 wr)) (fun i _ => 2 - (intOf i).toNat)
  case atStart => exact ⟨0, by omega, rfl, Lib.hid ⟨HN3.out, Ytdelfhahbngcfaa.Ch.refl _ _⟩⟩
  case round =>
    obtain ⟨k, hk, rfl, HI⟩ := hrel
    have hA4 := Ytdelfhahbngcfaa.blk_ch HA3.out HI.out.2 (by have := HLN.out; omega)
    by_cases hk0 : k = 0
    · subst hk0
      have a0 := Ytdelfhahbngcfaa.blk_cell hA4 0 _ rfl
      have a1 := Ytdelfhahbngcfaa.blk_cell hA4 1 _ rfl
      have a2 := Ytdelfhahbngcfaa.blk_cell hA4 2 _ rfl
      have a3 := Ytdelfhahbngcfaa.blk_cell hA4 3 _ rfl
      have a4 := Ytdelfhahbngcfaa.blk_cell hA4 4 _ rfl
      have hbX := below_alloc (Below.refl _ wr) (.cells #[.int .i64 X.f0, .int .i64 X.f1, .int .i64 X.f2, .bool true, .bool true] 95)
      have hbN := Ytdelfhahbngcfaa.blk_below HI.out.1 hbX
      have n2 := Ytdelfhahbngcfaa.blk_cell hbN 2 _ rfl
      have f2 := Ytdelfhahbngcfaa.blk_thawed hbN 2
      have HBN := Lib.hid hbN
      have HCX := Lib.hid (HI.out.2.trans (Ytdelfhahbngcfaa.Ch.of_below hbX (fun j => j = w2.heap.size + 1)) (fun _ h => .inl h))
      have hlo := HXF.out.1
      have hhi := HXF.out.2.1
      clear hbX hbN hA4
      rw [show tK t1 t2 0 = 2147483647 from rfl] at n2
      go_wp2
      go_roundw
      case rel => exact ⟨1, by omega, by go_num, Lib.hid ⟨by rw [show tK t1 t2 1 = _ from HT1.out]; exact Ytdelfhahbngcfaa.blk_set HBN.out 2 _, HCX.out.trans (Ytdelfhahbngcfaa.Ch.setCell _ ⟨w2.heap.size + 1, 2, none⟩ _) (fun _ h => .inl h)⟩⟩
      case measure => simp [intOf]
    by_cases hk1 : k = 1
    · subst hk1
      have a0 := Ytdelfhahbngcfaa.blk_cell hA4 5 _ rfl
      have a1 := Ytdelfhahbngcfaa.blk_cell hA4 6 _ rfl
      have a2 := Ytdelfhahbngcfaa.blk_cell hA4 7 _ rfl
      have a3 := Ytdelfhahbngcfaa.blk_cell hA4 8 _ rfl
      have a4 := Ytdelfhahbngcfaa.blk_cell hA4 9 _ rfl
      have hbX := below_alloc (Below.refl _ wr) (.cells #[.int .i64 Y.f0, .int .i64 Y.f1, .int .i64 Y.f2, .bool true, .bool true] 95)
      have hbN := Ytdelfhahbngcfaa.blk_below HI.out.1 hbX
      have n2 := Ytdelfhahbngcfaa.blk_cell hbN 2 _ rfl
      have f2 := Ytdelfhahbngcfaa.blk_thawed hbN 2
      have HBN := Lib.hid hbN
      have HCX := Lib.hid (HI.out.2.trans (Ytdelfhahbngcfaa.Ch.of_below hbX (fun j => j = w2.heap.size + 1)) (fun _ h => .inl h))
      have hlo := HYF.out.1
      have hhi := HYF.out.2.1
      clear hbX hbN hA4
      rw [show tK t1 t2 1 = t1 from rfl] at n2
      go_wp2
      go_roundw
      case rel => exact ⟨2, by omega, by go_num, Lib.hid ⟨by rw [show tK t1 t2 2 = _ from HT2.out]; exact Ytdelfhahbngcfaa.blk_set HBN.out 2 _, HCX.out.trans (Ytdelfhahbngcfaa.Ch.setCell _ ⟨w2.heap.size + 1, 2, none⟩ _) (fun _ h => .inl h)⟩⟩
      case measure => simp [intOf]
    obtain rfl : k = 2 := by omega
    clear hA4 hk0 hk1
    have hB7 := HI.out.1
    rw [show tK t1 t2 2 = t2 from rfl] at hB7
    have hch7 := HC3.out.trans HI.out.2 (fun _ h => .inl h)
    have H3 := Lib.hid (H1.out.ch (HVC.out.trans hch7 (fun _ h => .inl h)) (fun k hk e => by have := HSZ.out; omega))
    have HB7 := Lib.hid hB7
    have HBW3 := Lib.hid (HBW2.out.trans (hch7.below (B := w.heap.size) HBW2.out.size (fun k hk => by have := HLB.out; omega)))
    clear hB7 hch7 HI
    have k2 := H3.out.c2
    have hcall := (HF.out true true wr).2
    go_wp2_with fail
    clear hcall
    refine (HF.out _ _ _).1.mono ?_
    rintro e wk ⟨rfl, rfl⟩
    have HG7 := Lib.hid (show ga < w2.heap.size + 1 ∧ B < w2.heap.size + 1 from by
      have h1 := H1.out.lta (by simp); have h3 := Ytdelfhahbngcfaa.blk_lt H1.out.blk; have h4 := HSZ.out; exact ⟨by omega, by omega⟩)
    obtain ⟨kp, hkp⟩ : ∃ kp, kp = kf true true := ⟨_, rfl⟩
    rw [← hkp] at HO ⊢
    clear hkp
    cases kp
    · rw [if_neg (by decide)] at HO
      go_wp2_with fail
      have HC := H3; have H7 := HB7; have HBW := Lib.hid (HBW3.out.mono HBS.out)
      clear H3 HB7 HBW3 k2
      have r0 := HC.out.c0
      have r7 := Ytdelfhahbngcfaa.blk_cell H7.out 2 _ rfl
      have HARM := Lib.hid (show ∀ wb, Ytdelfhahbngcfaa.Ch (fun k => k = ga) wr.drew wb → wb.cell? ⟨B, 0, none⟩ = wr.cell? ⟨B, 0, none⟩ ∧ wb.frozen? ⟨B, 0, none⟩ = false ∧ Ytdelfhahbngcfaa.Ch (fun k => k = ga) wr wb from fun wb hch => by
        have hch2 := (Ytdelfhahbngcfaa.Ch.drew wr (fun k => k = ga)).trans hch (fun _ h => .inl h)
        have hb := Ytdelfhahbngcfaa.blk_ch HC.out.blk hch2 (fun e => HC.out.aB (by simp) e.symm)
        exact ⟨(Ytdelfhahbngcfaa.blk_cell hb 0 _ rfl).trans (HC.out.c0).symm, Ytdelfhahbngcfaa.blk_thawed hb 0, hch2⟩)
      go_region_with (go_at_call 80; refine (behind_any ga _ x ra t2 _ (HC.out.sa.ch (Ytdelfhahbngcfaa.Ch.drew wr No) (fun _ => id)) HT.out).mono ?_; rintro e wb ⟨vn, rfl, hs, hch⟩; obtain ⟨a1, a2, hch2⟩ := HARM.out wb hch; rw [r0] at a1; have HSS := Lib.hid hs; obtain ⟨A9, c9, hv9, _⟩ := hs; have HCH := Lib.hid hch2; subst hv9; clear hch hch2)
      all_goals
        clear r0 r7 HARM
        have HN1 := Lib.hid (sw_setA HC.out (by simp) HSS.out HCH.out)
        have HB1 := Lib.hid (HBW.out.trans HN1.out.2.1)
        obtain ⟨wc, hwc⟩ : ∃ wc, wc = wb.setCell ⟨B, 0, none⟩ (.slice A9 (behV (x :: ra) t2).length c9) := ⟨_, rfl⟩
        rw [← hwc] at HN1 HB1 ⊢
        have HC2 := Lib.hid HN1.out.1
        have H72 := Lib.hid (Ytdelfhahbngcfaa.blk_ch H7.out HN1.out.2.2 (fun e => by have := HG7.out; omega))
        clear HC H7 HBW hwc a1 a2 HSS HCH HN1
        have HC := HC2; have H7 := H72; have HBW := HB1
        clear HC2 H72 HB1
        go_wp2_with fail
        have r0 := HC.out.c1
        have r7 := Ytdelfhahbngcfaa.blk_cell H7.out 2 _ rfl
        have HARM := Lib.hid (show ∀ wb, Ytdelfhahbngcfaa.Ch (fun k => k = gb) wc.drew wb → wb.cell? ⟨B, 1, none⟩ = wc.cell? ⟨B, 1, none⟩ ∧ wb.frozen? ⟨B, 1, none⟩ = false ∧ Ytdelfhahbngcfaa.Ch (fun k => k = gb) wc wb from fun wb hch => by
          have hch2 := (Ytdelfhahbngcfaa.Ch.drew wc (fun k => k = gb)).trans hch (fun _ h => .inl h)
          have hb := Ytdelfhahbngcfaa.blk_ch HC.out.blk hch2 (fun e => HC.out.bB (by simp) e.symm)
          exact ⟨(Ytdelfhahbngcfaa.blk_cell hb 1 _ rfl).trans (HC.out.c1).symm, Ytdelfhahbngcfaa.blk_thawed hb 1, hch2⟩)
        go_region_with (go_at_call 80; refine (behind_any gb _ y rb t2 _ (HC.out.sb.ch (Ytdelfhahbngcfaa.Ch.drew wc No) (fun _ => id)) HT.out).mono ?_; rintro e wb ⟨vn, rfl, hs, hch⟩; obtain ⟨a1, a2, hch2⟩ := HARM.out wb hch; rw [r0] at a1; have HSS := Lib.hid hs; obtain ⟨A9, c9, hv9, _⟩ := hs; have HCH := Lib.hid hch2; subst hv9; clear hch hch2)
        all_goals
          clear r0 r7 HARM
          have HN1 := Lib.hid (sw_setB HC.out (by simp) HSS.out HCH.out)
          have HB1 := Lib.hid (HBW.out.trans HN1.out.2.1)
          go_wp2_with fail
          exact bodyPost_end (results_none rfl _ _ _) rfl ⟨rfl, HB1.out, _, _, _, by rw [HLA.out, HLB2.out, HO.out]; exact HN1.out.1⟩
    · rw [if_pos rfl] at HO
      have m0 := Ytdelfhahbngcfaa.blk_cell HB7.out 0 _ rfl
      have m1 := Ytdelfhahbngcfaa.blk_cell HB7.out 1 _ rfl
      have m2 := Ytdelfhahbngcfaa.blk_cell HB7.out 2 _ rfl
      have HADD := Lib.hid (add_any base B _ _ _ vo out ⟨nd, f0, t2⟩ wr H3.out.blk H3.out.ow H3.out.hB HN.out)
      have HAFT := Lib.hid (fun e W' => sw_add (e := e) (W' := W') (out2 := addV out ⟨nd, f0, t2⟩) H3.out)
      go_wp2_with (go_at_call 60; refine HADD.out.mono ?_; rintro e wa hq; obtain ⟨he, hb9, _, hkeep, vo9, hsw9, _⟩ := HAFT.out e wa hq; subst he; have HC := Lib.hid hsw9; have HB9 := Lib.hid hb9; have HKP := Lib.hid hkeep; clear hq hb9 hkeep hsw9)
      clear m0 m1 m2
      have H7 := Lib.hid (show Ytdelfhahbngcfaa.Blk wa (w2.heap.size + 1) 60 #[.int .i64 nd, .int .i64 f0, .int .i64 t2] from (HKP.out _ (Ytdelfhahbngcfaa.blk_lt HB7.out) (fun e => by have := HG7.out; omega) (fun e => by
        have h1 := HOW.out _ e; have h2 := HLB.out; omega)).trans HB7.out)
      have HBW := Lib.hid ((HBW3.out.mono HBS.out).trans HB9.out)
      clear H3 HB7 HBW3 k2 HB9 HKP HAFT HADD
      have r0 := HC.out.c0
      have r7 := Ytdelfhahbngcfaa.blk_cell H7.out 2 _ rfl
      have HARM := Lib.hid (show ∀ wb, Ytdelfhahbngcfaa.Ch (fun k => k = ga) wa.drew wb → wb.cell? ⟨B, 0, none⟩ = wa.cell? ⟨B, 0, none⟩ ∧ wb.frozen? ⟨B, 0, none⟩ = false ∧ Ytdelfhahbngcfaa.Ch (fun k => k = ga) wa wb from fun wb hch => by
        have hch2 := (Ytdelfhahbngcfaa.Ch.drew wa (fun k => k = ga)).trans hch (fun _ h => .inl h)
        have hb := Ytdelfhahbngcfaa.blk_ch HC.out.blk hch2 (fun e => HC.out.aB (by simp) e.symm)
        exact ⟨(Ytdelfhahbngcfaa.blk_cell hb 0 _ rfl).trans (HC.out.c0).symm, Ytdelfhahbngcfaa.blk_thawed hb 0, hch2⟩)
      go_region_with (go_at_call 80; refine (behind_any ga _ x ra t2 _ (HC.out.sa.ch (Ytdelfhahbngcfaa.Ch.drew wa No) (fun _ => id)) HT.out).mono ?_; rintro e wb ⟨vn, rfl, hs, hch⟩; obtain ⟨a1, a2, hch2⟩ := HARM.out wb hch; rw [r0] at a1; have HSS := Lib.hid hs; obtain ⟨A9, c9, hv9, _⟩ := hs; have HCH := Lib.hid hch2; subst hv9; clear hch hch2)
      all_goals
        clear r0 r7 HARM
        have HN1 := Lib.hid (sw_setA HC.out (by simp) HSS.out HCH.out)
        have HB1 := Lib.hid (HBW.out.trans HN1.out.2.1)
        obtain ⟨wc, hwc⟩ : ∃ wc, wc = wb.setCell ⟨B, 0, none⟩ (.slice A9 (behV (x :: ra) t2).length c9) := ⟨_, rfl⟩
        rw [← hwc] at HN1 HB1 ⊢
        have HC2 := Lib.hid HN1.out.1
        have H72 := Lib.hid (Ytdelfhahbngcfaa.blk_ch H7.out HN1.out.2.2 (fun e => by have := HG7.out; omega))
        clear HC H7 HBW hwc a1 a2 HSS HCH HN1
        have HC := HC2; have H7 := H72; have HBW := HB1
        clear HC2 H72 HB1
        go_wp2_with fail
        have r0 := HC.out.c1
        have r7 := Ytdelfhahbngcfaa.blk_cell H7.out 2 _ rfl
        have HARM := Lib.hid (show ∀ wb, Ytdelfhahbngcfaa.Ch (fun k => k = gb) wc.drew wb → wb.cell? ⟨B, 1, none⟩ = wc.cell? ⟨B, 1, none⟩ ∧ wb.frozen? ⟨B, 1, none⟩ = false ∧ Ytdelfhahbngcfaa.Ch (fun k => k = gb) wc wb from fun wb hch => by
          have hch2 := (Ytdelfhahbngcfaa.Ch.drew wc (fun k => k = gb)).trans hch (fun _ h => .inl h)
          have hb := Ytdelfhahbngcfaa.blk_ch HC.out.blk hch2 (fun e => HC.out.bB (by simp) e.symm)
          exact ⟨(Ytdelfhahbngcfaa.blk_cell hb 1 _ rfl).trans (HC.out.c1).symm, Ytdelfhahbngcfaa.blk_thawed hb 1, hch2⟩)
        go_region_with (go_at_call 80; refine (behind_any gb _ y rb t2 _ (HC.out.sb.ch (Ytdelfhahbngcfaa.Ch.drew wc No) (fun _ => id)) HT.out).mono ?_; rintro e wb ⟨vn, rfl, hs, hch⟩; obtain ⟨a1, a2, hch2⟩ := HARM.out wb hch; rw [r0] at a1; have HSS := Lib.hid hs; obtain ⟨A9, c9, hv9, _⟩ := hs; have HCH := Lib.hid hch2; subst hv9; clear hch hch2)
        all_goals
          clear r0 r7 HARM
          have HN1 := Lib.hid (sw_setB HC.out (by simp) HSS.out HCH.out)
          have HB1 := Lib.hid (HBW.out.trans HN1.out.2.1)
          go_wp2_with fail
          exact bodyPost_end (results_none rfl _ _ _) rfl ⟨rfl, HB1.out, _, _, _, by rw [HLA.out, HLB2.out, HO.out]; exact HN1.out.1⟩
end Go.Proofs.YtdelfhahbngcfaaX.P07
end
section
namespace Go.Proofs.YtdelfhahbngcfaaX.P07
open Go.RowKit Go.Shelf Go.Sort Go.Lib Go.Proofs.Ytdelfhahbngcfaa Go.Proofs.YtdelfhahbngcfaaW.PrintWords Go.Proofs.YtdelfhahbngcfaaW.PrintLast Go.Proofs.YtdelfhahbngcfaaW.PrintMore
set_option linter.unusedVariables false
set_option linter.unusedSimpArgs false
attribute [local go_sem] Oper.semAt_some
def okI (x : S60) : Bool := decide (1 ≤ x.f1 ∧ x.f1 ≤ x.f2 ∧ x.f2 ≤ 2147483647)
def putV (kf : Bool → Bool → Bool) (a b : Bool) (out : List S60) (x : S60) : List S60 := if kf a b = true then addV out x else out
def stepV (kf : Bool → Bool → Bool) : List S60 → List S60 → List S60 → List S60 × List S60 × List S60
  | [], [], out => ([], [], out)
  | x :: la, [], out => (behV (x :: la) (min 2147483647 x.f2), [], putV kf true false out ⟨x.f0, x.f1, min 2147483647 x.f2⟩)
  | [], y :: lb, out => ([], behV (y :: lb) (min 2147483647 y.f2), putV kf false true out ⟨y.f0, y.f1, min 2147483647 y.f2⟩)
  | x :: la, y :: lb, out =>
    if x.f0 < y.f0 then (behV (x :: la) (min 2147483647 x.f2), y :: lb, putV kf true false out ⟨x.f0, x.f1, min 2147483647 x.f2⟩)
    else if y.f0 < x.f0 then (x :: la, behV (y :: lb) (min 2147483647 y.f2), putV kf false true out ⟨y.f0, y.f1, min 2147483647 y.f2⟩)
    else if x.f1 < y.f1 then (behV (x :: la) (min (min 2147483647 x.f2) (y.f1 - 1)), y :: lb, putV kf true false out ⟨x.f0, x.f1, min (min 2147483647 x.f2) (y.f1 - 1)⟩)
    else if y.f1 < x.f1 then (x :: la, behV (y :: lb) (min (min 2147483647 (x.f1 - 1)) y.f2), putV kf false true out ⟨x.f0, y.f1, min (min 2147483647 (x.f1 - 1)) y.f2⟩)
    else (behV (x :: la) (min (min 2147483647 x.f2) y.f2), behV (y :: lb) (min (min 2147483647 x.f2) y.f2), putV kf true true out ⟨x.f0, x.f1, min (min 2147483647 x.f2) y.f2⟩)
theorem okI_spec {x : S60} (h : okI x = true) : 1 ≤ x.f1 ∧ x.f1 ≤ x.f2 ∧ x.f2 ≤ 2147483647 := by unfold okI at h; exact of_decide_eq_true h
set_option maxHeartbeats 4000000 in
theorem step_any (F : Nat) (kf : Bool → Bool → Bool) (hF : Keeps F kf) (base B ga gb : Nat) (va vb vo : Value) (la lb out : List S60) (w : World) (h : Sw w base B ga gb va vb (.func (.func F) #[] #[]) vo la lb out)
    (hne : la ≠ [] ∨ lb ≠ []) (ha : la.all okI = true) (hb : lb.all okI = true) (hn : out.length < 1000000) :
    Calls Try.prog 74 #[.pointer (some ⟨B, 0, none⟩)] w (StepQ w base B ga gb (.func (.func F) #[] #[]) (stepV kf la lb out).1 (stepV kf la lb out).2.1 (stepV kf la lb out).2.2) := by
  have z0 : (0 : Int) ≤ 0 ∧ (0 : Int) ≤ 2147483647 ∧ (0 : Int) ≤ 0 ∧ (0 : Int) ≤ 2147483647 := by decide
  match la, lb, hne, ha, hb, h with
  | [], [], hne, _, _, _ => simp at hne
  | x :: la, [], _, ha, _, h =>
    obtain ⟨p1, p2, p3⟩ := okI_spec (List.all_eq_true.1 ha x (List.mem_cons_self ..))
    exact step1 F kf hF base B ga gb va vb vo x la out w h x ⟨0, 0, 0⟩ (by simp [headV]) rfl (by omega) z0 0 x.f1 (by show min x.f1 0 = 0; omega) (by show max x.f1 0 = x.f1; omega) (by simp) _ _ (Lib.hid rfl) (Lib.hid rfl) (by omega) hn _ _ _ (Lib.hid rfl) (Lib.hid rfl) (Lib.hid rfl)
  | [], y :: lb, _, _, hb, h =>
    obtain ⟨p1, p2, p3⟩ := okI_spec (List.all_eq_true.1 hb y (List.mem_cons_self ..))
    exact step2 F kf hF base B ga gb va vb vo y lb out w h ⟨0, 0, 0⟩ y rfl (by simp [headV]) z0 (by omega) 0 y.f1 (by show min 0 y.f1 = 0; omega) (by show max 0 y.f1 = y.f1; omega) (by simp) _ _ (Lib.hid rfl) (Lib.hid rfl) (by omega) hn _ _ _ (Lib.hid rfl) (Lib.hid rfl) (Lib.hid rfl)
  | x :: la, y :: lb, _, ha, hb, h =>
    obtain ⟨p1, p2, p3⟩ := okI_spec (List.all_eq_true.1 ha x (List.mem_cons_self ..))
    obtain ⟨q1, q2, q3⟩ := okI_spec (List.all_eq_true.1 hb y (List.mem_cons_self ..))
    by_cases h1 : x.f0 < y.f0
    · have e : stepV kf (x :: la) (y :: lb) out = (behV (x :: la) (min 2147483647 x.f2), y :: lb, putV kf true false out ⟨x.f0, x.f1, min 2147483647 x.f2⟩) := by simp only [stepV]; rw [if_pos h1]
      rw [e]
      exact step3 F kf hF base B ga gb va vb vo x y la lb out w h x.f0 x ⟨0, 0, 0⟩ (by omega) (by simp [headV]) (by simp [headV]; omega) (by omega) z0 0 x.f1 (by show min x.f1 0 = 0; omega) (by show max x.f1 0 = x.f1; omega) (by simp) _ _ (Lib.hid rfl) (Lib.hid rfl) (by omega) hn _ _ _ (Lib.hid rfl) (Lib.hid rfl) (Lib.hid rfl)
    by_cases h2 : y.f0 < x.f0
    · have e : stepV kf (x :: la) (y :: lb) out = (x :: la, behV (y :: lb) (min 2147483647 y.f2), putV kf false true out ⟨y.f0, y.f1, min 2147483647 y.f2⟩) := by simp only [stepV]; rw [if_neg h1, if_pos h2]
      rw [e]
      exact step4 F kf hF base B ga gb va vb vo x y la lb out w h y.f0 ⟨0, 0, 0⟩ y (by omega) (by simp [headV]; omega) (by simp [headV]) z0 (by omega) 0 y.f1 (by show min 0 y.f1 = 0; omega) (by show max 0 y.f1 = y.f1; omega) (by simp) _ _ (Lib.hid rfl) (Lib.hid rfl) (by omega) hn _ _ _ (Lib.hid rfl) (Lib.hid rfl) (Lib.hid rfl)
    have h3 : y.f0 = x.f0 := by omega
    by_cases h4 : x.f1 < y.f1
    · have e : stepV kf (x :: la) (y :: lb) out = (behV (x :: la) (min (min 2147483647 x.f2) (y.f1 - 1)), y :: lb, putV kf true false out ⟨x.f0, x.f1, min (min 2147483647 x.f2) (y.f1 - 1)⟩) := by simp only [stepV]; rw [if_neg h1, if_neg h2, if_pos h4]
      rw [e]
      exact step5 F kf hF base B ga gb va vb vo x y la lb out w h x.f0 x y (by omega) (by simp [headV]) (by simp [headV, h3]) (by omega) (by omega) x.f1 x.f1 (by omega) rfl (by simp) (by simp; omega) _ _ (Lib.hid rfl) (Lib.hid rfl) (by omega) hn _ _ _ (Lib.hid rfl) (Lib.hid rfl) (Lib.hid rfl)
    by_cases h5 : y.f1 < x.f1
    · have e : stepV kf (x :: la) (y :: lb) out = (x :: la, behV (y :: lb) (min (min 2147483647 (x.f1 - 1)) y.f2), putV kf false true out ⟨x.f0, y.f1, min (min 2147483647 (x.f1 - 1)) y.f2⟩) := by simp only [stepV]; rw [if_neg h1, if_neg h2, if_neg h4, if_pos h5]
      rw [e]
      exact step6 F kf hF base B ga gb va vb vo x y la lb out w h x.f0 x y (by omega) (by simp [headV]) (by simp [headV, h3]) (by omega) (by omega) y.f1 y.f1 (by omega) rfl (by simp; omega) (by simp) _ _ (Lib.hid rfl) (Lib.hid rfl) (by omega) hn _ _ _ (Lib.hid rfl) (Lib.hid rfl) (Lib.hid rfl)
    · have h6 : y.f1 = x.f1 := by omega
      have e : stepV kf (x :: la) (y :: lb) out = (behV (x :: la) (min (min 2147483647 x.f2) y.f2), behV (y :: lb) (min (min 2147483647 x.f2) y.f2), putV kf true true out ⟨x.f0, x.f1, min (min 2147483647 x.f2) y.f2⟩) := by simp only [stepV]; rw [if_neg h1, if_neg h2, if_neg h4, if_neg h5]
      rw [e]
      exact step7 F kf hF base B ga gb va vb vo x y la lb out w h x.f0 x y (by omega) (by simp [headV]) (by simp [headV, h3]) (by omega) (by omega) x.f1 x.f1 (by omega) rfl (by simp) (by simp [h6]) _ _ (Lib.hid rfl) (Lib.hid rfl) (by omega) hn _ _ _ (Lib.hid rfl) (Lib.hid rfl) (Lib.hid rfl)
def sweepF (kf : Bool → Bool → Bool) : Nat → List S60 → List S60 → List S60 → Option (List S60)
  | 0, _, _, _ => none
  | k + 1, la, lb, out =>
    if la = [] ∧ lb = [] then some out
    else if la.all okI = true ∧ lb.all okI = true ∧ la.length < 1000000 ∧ lb.length < 1000000 ∧ out.length < 1000000 then sweepF kf k (stepV kf la lb out).1 (stepV kf la lb out).2.1 (stepV kf la lb out).2.2
    else none
theorem sweepF_mono (kf : Bool → Bool → Bool) : ∀ k la lb out, LeO (sweepF kf k la lb out) (sweepF kf (k + 1) la lb out)
  | 0, _, _, _ => fun _ h => by cases h
  | k + 1, la, lb, out => by
    rw [sweepF, sweepF]
    exact LeO.ite (LeO.refl _) (LeO.ite (sweepF_mono kf k _ _ _) (LeO.refl _))
theorem side_of_own {w : World} {base : Nat} {v : Value} {l : List S60} (h : Own60 w base v l) : ∃ g, Side w g v l ∧ (0 < l.length → base ≤ g) := by
  rcases Nat.eq_zero_or_pos l.length with h0 | h0
  · rcases h.2 with ⟨rfl, _⟩ | ⟨g, cap, cur, rfl, h2, h3, h4, h5, h6, h7⟩
    · exact ⟨0, ⟨none, 0, by rw [h0], by omega, by omega, fun h => by omega⟩, fun h => by omega⟩
    · exact ⟨g, ⟨_, cap, rfl, h4, by simpa only [maxLen] using h5, fun h => by omega⟩, fun h => by omega⟩
  · obtain ⟨g, cap, cur, rfl, h2, h3, h4, h5, h6, h7⟩ := own_cells h h0
    refine ⟨g, ⟨_, cap, rfl, h4, by simpa only [maxLen] using h5, fun _ => ⟨0, cur, rfl, h3, fun j x hj => ?_⟩⟩, fun _ => h2⟩
    have hjl : j < l.length := (List.getElem?_eq_some_iff.1 hj).1
    have e : rd_T60 l (j : Int) = x := by unfold rd_T60; simp [List.getD_eq_getElem?_getD, hj]
    have := h7 j hjl
    rw [e] at this
    simpa using this
def sweptF (kf : Bool → Bool → Bool) (k : Nat) (la lb : List S60) : Option (List S60 × Int) :=
  if la.length < 1000000 ∧ lb.length < 1000000 then
    (past_Check.f k la).bind fun e => if e = 0 then (past_Check.f k lb).bind fun f => if f = 0 then (sweepF kf k la lb []).bind fun o => if 4000 < o.length then some ([], 8) else some (o, 0) else some ([], 2) else some ([], 2)
  else none
theorem sweptF_mono (kf : Bool → Bool → Bool) (k : Nat) (la lb : List S60) : LeO (sweptF kf k la lb) (sweptF kf (k + 1) la lb) := by
  unfold sweptF
  exact LeO.ite (LeO.bind (past_Check.mono la k) (fun _ => LeO.ite (LeO.bind (past_Check.mono lb k) (fun _ => LeO.ite (LeO.bind (sweepF_mono kf k la lb []) (fun _ => LeO.refl _)) (LeO.refl _))) (LeO.refl _))) (LeO.refl _)
set_option maxRecDepth 100000 in
set_option maxHeartbeats 4000000 in
theorem swept_any (F : Nat) (kf : Bool → Bool → Bool) (hF : Keeps F kf) (k : Nat) (A0 : Option Addr) (c0 : Nat) (l0 : List S60) (A1 : Option Addr) (c1 : Nat) (l1 : List S60) (r1 : List S60) (r2 : Int) (w : World) (hr0 : Kd.C k60 w A0 l0.length l0) (hc0 : l0.length ≤ c0) (hr1 : Kd.C k60 w A1 l1.length l1) (hc1 : l1.length ≤ c1) (h : sweptF kf k l0 l1 = some (r1, r2)) :
    Calls Try.prog 61 #[.slice A0 l0.length c0, .slice A1 l1.length c1, .func (.func F) #[] #[]] w fun e w' => ∃ v0_ : Value, e = .returned (.tuple #[v0_, .int .i64 r2]) ∧ Kd.R k60 60 w' w.heap.size (fun _ => True) v0_ r1 ∧ Below w.heap.size w w' := by
  unfold sweptF at h
  by_cases hn : l0.length < 1000000 ∧ l1.length < 1000000
  rotate_left
  · rw [if_neg hn] at h; cases h
  rw [if_pos hn] at h
  obtain ⟨e0, he0, h⟩ := Option.bind_eq_some_iff.mp h
  have HC0 := Lib.hid (past_Check.calls k A0 c0 l0 e0 w hr0 hc0 he0)
  have HF := Lib.hid hF; have HR0 := Lib.hid hr0; have HR1 := Lib.hid hr1; have HN := Lib.hid hn; have HLC0 := Lib.hid hc0; have HLC1 := Lib.hid hc1
  clear hF he0 hr0 hr1 hn hc0 hc1
  by_cases h0 : e0 = 0
  rotate_left
  · rw [if_neg h0] at h
    obtain ⟨rfl, rfl⟩ := Prod.mk.inj (Option.some.inj h)
    have h0' : (e0 != 0) = true := bne_iff_ne.2 h0
    clear h h0
    go_enter Try.func61, Try.ntmps61
    go_wp2_with (go_at_call 38; refine HC0.out.mono ?_; rintro e w1 ⟨rfl, hbel⟩; have HB := Lib.hid hbel; clear hbel)
    go_ret2
    exact ⟨_, rfl, Kd.R_nil _ _ _ _ _, HB.out⟩
  subst h0
  rw [if_pos rfl] at h
  obtain ⟨e1, he1, h⟩ := Option.bind_eq_some_iff.mp h
  have HC1 := Lib.hid (fun w1 (hb : Below w.heap.size w w1) => past_Check.calls k A1 c1 l1 e1 w1 (Kd.C_below HR1.out hb) HLC1.out he1)
  clear he1
  by_cases h1 : e1 = 0
  rotate_left
  · rw [if_neg h1] at h
    obtain ⟨rfl, rfl⟩ := Prod.mk.inj (Option.some.inj h)
    have h1' : (e1 != 0) = true := bne_iff_ne.2 h1
    clear h h1
    go_enter Try.func61, Try.ntmps61
    go_wp2_with first | (go_at_call 38; refine HC0.out.mono ?_; rintro e w1 ⟨rfl, hbel⟩; have HB := Lib.hid hbel; have HC2 := Lib.hid (HC1.out w1 hbel); clear hbel HC0) | (go_at_call 38; refine HC2.out.mono ?_; rintro e w2 ⟨rfl, hbel⟩; have HB2 := Lib.hid (HB.out.trans (hbel.mono HB.out.size)); clear hbel)
    go_ret2
    exact ⟨_, rfl, Kd.R_nil _ _ _ _ _, HB2.out⟩
  subst h1
  rw [if_pos rfl] at h
  obtain ⟨o, ho, h⟩ := Option.bind_eq_some_iff.mp h
  have HO := Lib.hid ho; have HH := Lib.hid h
  clear ho h
  go_enter Try.func61, Try.ntmps61
  go_wp2_with first | (go_at_call 38; refine HC0.out.mono ?_; rintro e w1 ⟨rfl, hbel⟩; have HB := Lib.hid hbel; have HC2 := Lib.hid (HC1.out w1 hbel); clear hbel HC0) | (go_at_call 38; refine HC2.out.mono ?_; rintro e w2 ⟨rfl, hbel⟩; have HB2 := Lib.hid (HB.out.trans (hbel.mono HB.out.size)); have HK := Lib.hid (clone60 A0 c0 l0 w2 (Kd.C_below HR0.out HB2.out) HLC0.out HN.out.1); clear hbel) | (go_at_call 73; refine HK.out.mono ?_; rintro e w3 ⟨va, rfl, hra, hbel⟩; obtain ⟨A3, c3, rfl, _, _⟩ := Kd.R_reads hra; have HRA := Lib.hid hra; have HB3 := Lib.hid (HB2.out.trans (hbel.mono HB2.out.size)); have HKB := Lib.hid (clone60 A1 c1 l1 w3 (Kd.C_below HR1.out HB3.out) HLC1.out HN.out.2); have HSZ3 := Lib.hid hbel.size; clear hbel hra HK) | (go_at_call 73; refine HKB.out.mono ?_; rintro e w4 ⟨vb, rfl, hrb, hbel⟩; obtain ⟨A4, c4, rfl, _, _⟩ := Kd.R_reads hrb; have HRB := Lib.hid hrb; have HB34 := Lib.hid hbel; have HB4 := Lib.hid (HB3.out.trans (hbel.mono HB3.out.size)); clear hbel hrb)
  obtain ⟨ga, hsa, hga⟩ := side_of_own (own_of_R HRA.out)
  obtain ⟨gb, hsb, hgb⟩ := side_of_own (own_of_R HRB.out)
  obtain ⟨W, hW⟩ : ∃ W, W = w4.alloc (.cells #[.slice A3 l0.length c3, .slice A4 l1.length c4, .func (.func F) #[] #[], .slice none 0 0] 76) := ⟨_, rfl⟩
  have hal := below_alloc (Below.refl _ w4) (.cells #[.slice A3 l0.length c3, .slice A4 l1.length c4, .func (.func F) #[] #[], .slice none 0 0] 76)
  have hnew := Ytdelfhahbngcfaa.blk_new w4 76 #[.slice A3 l0.length c3, .slice A4 l1.length c4, .func (.func F) #[] #[], .slice none 0 0]
  rw [← hW] at hal hnew ⊢
  clear hW
  have HI0 := Lib.hid (show Sw W w.heap.size w4.heap.size ga gb (.slice A3 l0.length c3) (.slice A4 l1.length c4) (.func (.func F) #[] #[]) (.slice none 0 0) l0 l1 [] ∧ Below w.heap.size w W from
    ⟨⟨hnew, hsa.ch (Ytdelfhahbngcfaa.Ch.of_below (HB34.out.trans (hal.mono HB34.out.size)) No) (fun _ => id), hsb.ch (Ytdelfhahbngcfaa.Ch.of_below hal No) (fun _ => id), ⟨rfl, .inl ⟨rfl, rfl⟩⟩, HB4.out.size,
      fun h0 h1 => by have := hsa.lt h0; have := hgb h1; omega,
      fun h0 => by have := hga h0; have := HB2.out.size; omega,
      fun h0 => by have := hgb h0; have := HB3.out.size; omega,
      fun _ => by simp [Value.ownBlock], fun _ => by simp [Value.ownBlock],
      fun h0 => by have := hsa.lt h0; have := HB34.out.size; omega, fun h0 => by have := hsb.lt h0; omega⟩, HB4.out.trans (hal.mono HB4.out.size)⟩)
  clear hsa hga hsb hgb hal hnew HRA HRB HKB HB HB2 HC2
  go_loopg [] k (fun kq wr => ∃ (va vb vo : Value) (la lb out : List S60), Hid (Sw wr w.heap.size w4.heap.size ga gb va vb (.func (.func F) #[] #[]) vo la lb out) ∧ Hid (Below w.heap.size w wr) ∧ Hid (sweepF kf kq la lb out = some o))
  case atStart => exact ⟨_, _, _, _, _, _, Lib.hid HI0.out.1, Lib.hid HI0.out.2, HO⟩
  case round =>
    obtain ⟨va, vb, vo, la, lb, out, HS, HW, HR⟩ := hrel
    clear HI0
    have b0 := HS.out.c0
    have b1 := HS.out.c1
    obtain ⟨Aa, ca, rfl, _⟩ := HS.out.sa
    obtain ⟨Ab, cb, rfl, _⟩ := HS.out.sb
    obtain ⟨kq, rfl⟩ : ∃ kq, gk = kq + 1 := by
      cases gk with
      | zero => have := HR.out; cases this
      | succ m => exact ⟨m, rfl⟩
    have hr := HR.out
    rw [sweepF] at hr
    by_cases he : la = [] ∧ lb = []
    · rw [if_pos he] at hr
      obtain ⟨rfl, rfl⟩ := he
      obtain rfl := Option.some.inj hr
      clear hr
      simp only [List.length_nil] at b0 b1
      have b3 := Ytdelfhahbngcfaa.blk_cell HS.out.blk 3 _ rfl
      obtain ⟨A9, c9, rfl, _, _⟩ := own_form HS.out.ow
      have HOW := Lib.hid HS.out.ow
      go_wp2
      go_quiet (fail)
      have hb3 : (wr.drewN nq).cell? ⟨w4.heap.size, 3, none⟩ = some (.slice A9 out.length c9) := b3
      by_cases h4 : 4000 < out.length
      · have hg : decide ((4000 : Int) < (out.length : Int)) = true := by simp; omega
        have HE := Lib.hid (show r1 = [] ∧ r2 = 8 by
          have := HH.out
          rw [if_pos h4] at this
          exact ⟨(Prod.mk.inj (Option.some.inj this)).1.symm, (Prod.mk.inj (Option.some.inj this)).2.symm⟩)
        clear h4
        go_wp2
        go_ret2
        obtain ⟨e1, e2⟩ := HE.out
        exact ⟨_, by rw [e2]; rfl, by rw [e1]; exact Kd.R_nil _ _ _ _ _, HW.out.trans ((below_drewN nq).mono HW.out.size)⟩
      · have hg : decide ((4000 : Int) < (out.length : Int)) = false := by simp; omega
        have HE := Lib.hid (show r1 = out ∧ r2 = 0 by
          have := HH.out
          rw [if_neg h4] at this
          exact ⟨(Prod.mk.inj (Option.some.inj this)).1.symm, (Prod.mk.inj (Option.some.inj this)).2.symm⟩)
        clear h4
        go_wp2
        go_ret2
        obtain ⟨e1, e2⟩ := HE.out
        exact ⟨_, by rw [e2]; rfl, by rw [e1]; exact Kd.R_drewN (R_of_own HOW.out) nq, HW.out.trans ((below_drewN nq).mono HW.out.size)⟩
    · rw [if_neg he] at hr
      by_cases hg : la.all okI = true ∧ lb.all okI = true ∧ la.length < 1000000 ∧ lb.length < 1000000 ∧ out.length < 1000000
      rotate_left
      · rw [if_neg hg] at hr; cases hr
      rw [if_pos hg] at hr
      have HG := Lib.hid hg
      obtain ⟨_, _, hl1, hl2, _⟩ := hg
      have HRR := Lib.hid hr
      have hpos : 0 < la.length + lb.length := by
        rcases la with _ | ⟨x, la⟩
        · rcases lb with _ | ⟨y, lb⟩
          · exact absurd ⟨rfl, rfl⟩ he
          · simp
        · simp; omega
      have HNE := Lib.hid (show la ≠ [] ∨ lb ≠ [] by
        rcases la with _ | ⟨x, la⟩
        · right; intro e; exact he ⟨rfl, e⟩
        · left; simp)
      have HST := Lib.hid (fun n => step_any F kf HF.out w.heap.size w4.heap.size ga gb _ _ vo la lb out (wr.drewN n) (HS.out.below (below_drewN n)) HNE.out HG.out.1 HG.out.2.1 HG.out.2.2.2.2)
      obtain ⟨n1, hn1⟩ : ∃ n1, n1 = la.length := ⟨_, rfl⟩
      obtain ⟨n2, hn2⟩ : ∃ n2, n2 = lb.length := ⟨_, rfl⟩
      have HN1 := Lib.hid hn1; have HN2 := Lib.hid hn2
      rw [← hn1] at b0 hl1 hpos
      rw [← hn2] at b1 hl2 hpos
      clear hr he hn1 hn2
      have hsum : decide ((0 : Int) < (n1 : Int) + (n2 : Int)) = true := by simp; omega
      go_wp2
      go_quiet (fail)
      go_wp2_with (go_at_call 74; rw [HN1.out, HN2.out]; refine (HST.out nq).mono ?_; rintro e w6 ⟨rfl, hb6, va6, vb6, vo6, hs6⟩; have HS6 := Lib.hid hs6; have HB6 := Lib.hid hb6; clear hs6 hb6)
      go_roundg kq
      case measure => omega
      case rel => exact ⟨_, _, _, _, _, _, HS6.out, Lib.hid (HW.out.trans (((below_drewN nq).mono HW.out.size).trans HB6.out)), HRR⟩
theorem keeps62 : Keeps 62 (fun a b => a || b) := fun a b w => by
  refine ⟨?_, rfl⟩
  cases a
  · go_enter Try.func62, Try.ntmps62
    go_wp2
    go_ret
    exact ⟨rfl, rfl⟩
  · go_enter Try.func62, Try.ntmps62
    go_wp2
    go_ret
    exact ⟨rfl, rfl⟩
theorem keeps63 : Keeps 63 (fun a b => a && !b) := fun a b w => by
  refine ⟨?_, rfl⟩
  cases a
  · go_enter Try.func63, Try.ntmps63
    go_wp2
    go_ret
    exact ⟨rfl, rfl⟩
  · go_enter Try.func63, Try.ntmps63
    go_wp2
    go_ret
    exact ⟨rfl, rfl⟩
def past_Join.f (k : Nat) (l0 l1 : List S60) : Option (List S60 × Int) := sweptF (fun a b => a || b) k l0 l1
theorem past_Join.mono : ∀ a0 a1 k, LeO (past_Join.f k a0 a1) (past_Join.f (k + 1) a0 a1) := fun a0 a1 k => sweptF_mono _ k a0 a1
def past_Minus.f (k : Nat) (l0 l1 : List S60) : Option (List S60 × Int) := sweptF (fun a b => a && !b) k l0 l1
theorem past_Minus.mono : ∀ a0 a1 k, LeO (past_Minus.f k a0 a1) (past_Minus.f (k + 1) a0 a1) := fun a0 a1 k => sweptF_mono _ k a0 a1
set_option maxHeartbeats 1000000 in
theorem past_Join.calls (k : Nat) (A0 : Option Addr) (c0 : Nat) (l0 : List S60) (A1 : Option Addr) (c1 : Nat) (l1 : List S60) (r1 : List S60) (r2 : Int) (w : World) (hr0 : Kd.C k60 w A0 l0.length l0) (hc0 : l0.length ≤ c0) (hr1 : Kd.C k60 w A1 l1.length l1) (hc1 : l1.length ≤ c1) (h : past_Join.f k l0 l1 = some (r1, r2)) :
    Calls Try.prog 33 #[.slice A0 l0.length c0, .slice A1 l1.length c1] w fun e w' => ∃ v0_ : Value, e = .returned (.tuple #[v0_, .int .i64 r2]) ∧ Kd.R k60 60 w' w.heap.size (fun _ => True) v0_ r1 ∧ Below w.heap.size w w' := by
  have H := Lib.hid (swept_any 62 _ keeps62 k A0 c0 l0 A1 c1 l1 r1 r2 w hr0 hc0 hr1 hc1 h)
  clear hr0 hr1 hc0 hc1 h
  go_enter Try.func33, Try.ntmps33
  go_wp2_with (go_at_call 61; refine H.out.mono ?_; rintro e w1 ⟨v, rfl, ho, hbel⟩; have HO := Lib.hid ho; have HB := Lib.hid hbel; clear ho hbel)
  go_ret2
  exact ⟨_, rfl, HO.out, HB.out⟩
set_option maxHeartbeats 1000000 in
theorem past_Minus.calls (k : Nat) (A0 : Option Addr) (c0 : Nat) (l0 : List S60) (A1 : Option Addr) (c1 : Nat) (l1 : List S60) (r1 : List S60) (r2 : Int) (w : World) (hr0 : Kd.C k60 w A0 l0.length l0) (hc0 : l0.length ≤ c0) (hr1 : Kd.C k60 w A1 l1.length l1) (hc1 : l1.length ≤ c1) (h : past_Minus.f k l0 l1 = some (r1, r2)) :
    Calls Try.prog 35 #[.slice A0 l0.length c0, .slice A1 l1.length c1] w fun e w' => ∃ v0_ : Value, e = .returned (.tuple #[v0_, .int .i64 r2]) ∧ Kd.R k60 60 w' w.heap.size (fun _ => True) v0_ r1 ∧ Below w.heap.size w w' := by
  have H := Lib.hid (swept_any 63 _ keeps63 k A0 c0 l0 A1 c1 l1 r1 r2 w hr0 hc0 hr1 hc1 h)
  clear hr0 hr1 hc0 hc1 h
  go_enter Try.func35, Try.ntmps35
  go_wp2_with (go_at_call 61; refine H.out.mono ?_; rintro e w1 ⟨v, rfl, ho, hbel⟩; have HO := Lib.hid ho; have HB := Lib.hid hbel; clear ho hbel)
  go_ret2
  exact ⟨_, rfl, HO.out, HB.out⟩
end Go.Proofs.YtdelfhahbngcfaaX.P07
end
section
namespace Go.Proofs.YtdelfhahbngcfaaX.P07
open Go.RowKit Go.Shelf Go.Sort Go.Lib Go.Proofs.Ytdelfhahbngcfaa Go.Proofs.YtdelfhahbngcfaaW.PrintWords Go.Proofs.YtdelfhahbngcfaaW.PrintLast Go.Proofs.YtdelfhahbngcfaaW.PrintMore
set_option linter.unusedVariables false
set_option linter.unusedSimpArgs false
attribute [local go_sem] Oper.semAt_some
def ahB (a b : S60) : Bool := decide (a.f0 < b.f0 ∨ (a.f0 = b.f0 ∧ (a.f1 < b.f1 ∨ (a.f1 = b.f1 ∧ a.f2 < b.f2))))
def posV (rs : List S60) (x : S60) : Nat := (rs.takeWhile (fun y => ahB y x)).length
def insV (rs : List S60) (x : S60) : List S60 := (rs.take (posV rs x) ++ [x]) ++ rs.drop (posV rs x)
theorem one60 {w : World} {G : Nat} (x : S60) (h : Ytdelfhahbngcfaa.Blk w G 60 #[.int .i64 x.f0, .int .i64 x.f1, .int .i64 x.f2]) : Kd.C k60 w (some ⟨G, 0, none⟩) 1 [x] :=
  ⟨rfl, by decide, fun _ => ⟨_, rfl, fun j p hp => by
    cases j with
    | succ j => simp at hp
    | zero =>
      have e : p = x := by simpa using hp.symm
      subst e
      refine ⟨[.int .i64 p.f0, .int .i64 p.f1, .int .i64 p.f2], rfl, k60_mk _ p, fun t u hu => ?_⟩
      have ht : t < 3 := (List.getElem?_eq_some_iff.1 hu).1
      have hadd : ((⟨G, 0, none⟩ : Addr).add (0 * k60.sz + t)) = ⟨G, t, none⟩ := by unfold Addr.add; split <;> simp_all
      rw [hadd]
      exact Ytdelfhahbngcfaa.blk_cell h _ _ (by simpa using hu)⟩⟩
def mergeV (out : List S60) (x : S60) : List S60 :=
  if 0 < out.length ∧ (rd_T60 out ((out.length : Int) - 1)).f0 = x.f0 ∧ x.f1 ≤ wrap64 ((rd_T60 out ((out.length : Int) - 1)).f2 + 1) then
    out.dropLast ++ [⟨(rd_T60 out ((out.length : Int) - 1)).f0, (rd_T60 out ((out.length : Int) - 1)).f1, max (rd_T60 out ((out.length : Int) - 1)).f2 x.f2⟩]
  else out ++ [x]
def riseV (l : List S60) : List S60 := l.foldl insV []
def tidyL (l : List S60) : List S60 := (riseV l).foldl mergeV []
def tidyV (l : List S60) : List S60 × Int := if 4000 < (tidyL l).length then ([], 8) else (tidyL l, 0)
end Go.Proofs.YtdelfhahbngcfaaX.P07
end
section
namespace Go.Proofs.YtdelfhahbngcfaaX.P07
open Go.RowKit Go.Proofs.YtdelfhahbngcfaaW.PrintWords Go.Proofs.YtdelfhahbngcfaaW.PrintLast Go.Proofs.YtdelfhahbngcfaaW.PrintMore
set_option linter.unusedVariables false
set_option linter.unusedSimpArgs false
def HasP (l : List S60) (n q : Int) : Prop := ∃ s ∈ l, s.f0 = n ∧ s.f1 ≤ q ∧ q ≤ s.f2
def Aft (s u : S60) : Prop := s.f0 < u.f0 ∨ (s.f0 = u.f0 ∧ s.f2 + 1 < u.f1)
def Can : List S60 → Prop
  | [] => True
  | s :: l => s.f1 ≤ s.f2 ∧ (∀ u ∈ l, Aft s u) ∧ Can l
theorem has_nil (n q : Int) : ¬ HasP [] n q := fun ⟨s, h, _⟩ => by cases h
theorem has_cons {s : S60} {l : List S60} {n q : Int} : HasP (s :: l) n q ↔ (s.f0 = n ∧ s.f1 ≤ q ∧ q ≤ s.f2) ∨ HasP l n q := by
  constructor
  · rintro ⟨u, hu, h⟩
    rcases List.mem_cons.1 hu with rfl | hu
    · exact .inl h
    · exact .inr ⟨u, hu, h⟩
  · rintro (h | ⟨u, hu, h⟩)
    · exact ⟨s, List.mem_cons_self .., h⟩
    · exact ⟨u, List.mem_cons_of_mem _ hu, h⟩
theorem has_app {l k : List S60} {n q : Int} : HasP (l ++ k) n q ↔ HasP l n q ∨ HasP k n q := by
  constructor
  · rintro ⟨u, hu, h⟩
    rcases List.mem_append.1 hu with hu | hu
    · exact .inl ⟨u, hu, h⟩
    · exact .inr ⟨u, hu, h⟩
  · rintro (⟨u, hu, h⟩ | ⟨u, hu, h⟩)
    · exact ⟨u, List.mem_append_left _ hu, h⟩
    · exact ⟨u, List.mem_append_right _ hu, h⟩
theorem can_mem : ∀ {l : List S60}, Can l → ∀ {s}, s ∈ l → s.f1 ≤ s.f2
  | s :: l, h, u, hu => by
    rcases List.mem_cons.1 hu with rfl | hu
    · exact h.1
    · exact can_mem h.2.2 hu
theorem aft_trans {s u v : S60} (h : Aft s u) (hu : u.f1 ≤ u.f2) (k : Aft u v) : Aft s v := by unfold Aft at *; omega
theorem can_app : ∀ {l k : List S60}, Can (l ++ k) ↔ Can l ∧ Can k ∧ ∀ s ∈ l, ∀ u ∈ k, Aft s u
  | [], k => by simp [Can]
  | s :: l, k => by
    have ih := can_app (l := l) (k := k)
    simp only [List.cons_append, Can, ih]
    constructor
    · rintro ⟨h1, h2, h3, h4, h5⟩
      refine ⟨⟨h1, fun u hu => h2 u (List.mem_append_left _ hu), h3⟩, h4, fun x hx u hu => ?_⟩
      rcases List.mem_cons.1 hx with rfl | hx
      · exact h2 u (List.mem_append_right _ hu)
      · exact h5 x hx u hu
    · rintro ⟨⟨h1, h2, h3⟩, h4, h5⟩
      refine ⟨h1, fun u hu => ?_, h3, h4, fun x hx u hu => h5 x (List.mem_cons_of_mem _ hx) u hu⟩
      rcases List.mem_append.1 hu with hu | hu
      · exact h2 u hu
      · exact h5 s (List.mem_cons_self ..) u hu
theorem can_head {s : S60} {l : List S60} (h : Can (s :: l)) {n q : Int} (hh : HasP (s :: l) n q) : s.f0 < n ∨ (s.f0 = n ∧ s.f1 ≤ q) := by
  obtain ⟨u, hu, rfl, h1, h2⟩ := hh
  rcases List.mem_cons.1 hu with rfl | hu
  · omega
  · have := h.2.1 u hu; have := h.1; unfold Aft at *; omega
theorem can_tail {s : S60} {l : List S60} (h : Can (s :: l)) {n q : Int} (hh : HasP l n q) : s.f0 < n ∨ (s.f0 = n ∧ s.f2 + 1 < q) := by
  obtain ⟨u, hu, rfl, h1, h2⟩ := hh
  have := h.2.1 u hu; unfold Aft at *; omega
theorem can_one {l k : List S60} (hl : Can l) (hk : Can k) (h : ∀ n q, HasP l n q ↔ HasP k n q) : l = k := by
  induction l generalizing k with
  | nil =>
    cases k with
    | nil => rfl
    | cons u k => exact absurd ((h u.f0 u.f1).2 ⟨u, List.mem_cons_self .., rfl, Int.le_refl _, hk.1⟩) (has_nil _ _)
  | cons s l ih =>
    cases k with
    | nil => exact absurd ((h s.f0 s.f1).1 ⟨s, List.mem_cons_self .., rfl, Int.le_refl _, hl.1⟩) (has_nil _ _)
    | cons u k =>
      have a1 := can_head hk ((h s.f0 s.f1).1 ⟨s, List.mem_cons_self .., rfl, Int.le_refl _, hl.1⟩)
      have a2 := can_head hl ((h u.f0 u.f1).2 ⟨u, List.mem_cons_self .., rfl, Int.le_refl _, hk.1⟩)
      have hn : s.f0 = u.f0 := by omega
      have hf : s.f1 = u.f1 := by omega
      have hst := hl.1
      have hut := hk.1
      have b1 : ¬ s.f2 < u.f2 := fun hlt => by
        have := (h s.f0 (s.f2 + 1)).2 (has_cons.2 (.inl ⟨hn.symm, by omega, by omega⟩))
        rcases has_cons.1 this with h1 | h1
        · omega
        · have := can_tail hl h1; omega
      have b2 : ¬ u.f2 < s.f2 := fun hlt => by
        have := (h s.f0 (u.f2 + 1)).1 (has_cons.2 (.inl ⟨rfl, by omega, by omega⟩))
        rcases has_cons.1 this with h1 | h1
        · omega
        · have := can_tail hk h1; omega
      have ht : s.f2 = u.f2 := by omega
      have hsu : s = u := by cases s; cases u; simp_all
      subst hsu
      congr 1
      refine ih hl.2.2 hk.2.2 fun n q => ?_
      constructor
      · intro hh
        rcases has_cons.1 ((h n q).1 (has_cons.2 (.inr hh))) with h1 | h1
        · have := can_tail hl hh; omega
        · exact h1
      · intro hh
        rcases has_cons.1 ((h n q).2 (has_cons.2 (.inr hh))) with h1 | h1
        · have := can_tail hk hh; omega
        · exact h1
def okS60 (s : S60) : Prop := 1 ≤ s.f0 ∧ s.f0 ≤ 200 ∧ 1 ≤ s.f1 ∧ s.f1 ≤ s.f2 ∧ s.f2 ≤ 2147483647
instance (s : S60) : Decidable (okS60 s) := by unfold okS60; infer_instance
instance (s u : S60) : Decidable (Aft s u) := by unfold Aft; infer_instance
def chkTo (l : List S60) (k : Nat) : Prop := ∀ i s, i < k → l[i]? = some s → okS60 s ∧ ∀ p, 1 ≤ i → l[i - 1]? = some p → Aft p s
def Chk (l : List S60) : Prop := l.length ≤ 4000 ∧ chkTo l l.length
noncomputable instance (l : List S60) : Decidable (Chk l) := Classical.propDecidable _
theorem chkTo_tail {s : S60} {l : List S60} (h : chkTo (s :: l) (s :: l).length) : chkTo l l.length := fun i u hi hu => by
  have := h (i + 1) u (by simp; omega) (by simpa using hu)
  refine ⟨this.1, fun p hp1 hp => this.2 p (by omega) ?_⟩
  obtain ⟨j, rfl⟩ : ∃ j, i = j + 1 := ⟨i - 1, by omega⟩
  simpa using hp
theorem chk_can : ∀ {l : List S60}, chkTo l l.length → Can l ∧ ∀ s ∈ l, okS60 s
  | [], _ => ⟨trivial, fun s h => by cases h⟩
  | [s], h => by
    have h0 := (h 0 s (by simp) rfl).1
    exact ⟨⟨h0.2.2.2.1, fun u hu => (by cases hu), trivial⟩, fun u hu => by rw [List.mem_singleton.1 hu]; exact h0⟩
  | s :: u :: l, h => by
    have ih := chk_can (chkTo_tail h)
    have h0 := (h 0 s (by simp) rfl).1
    have h1 := (h 1 u (by simp) rfl).2 s (by omega) rfl
    refine ⟨⟨h0.2.2.2.1, fun v hv => ?_, ih.1⟩, fun v hv => ?_⟩
    · rcases List.mem_cons.1 hv with rfl | hv
      · exact h1
      · exact aft_trans h1 ih.1.1 (ih.1.2.1 v hv)
    · rcases List.mem_cons.1 hv with rfl | hv
      · exact h0
      · exact ih.2 v hv
theorem can_chk : ∀ {l : List S60}, Can l → (∀ s ∈ l, okS60 s) → chkTo l l.length
  | [], _, _ => fun i s hi hs => by simp at hs
  | s :: l, h, hok => fun i u hi hu => by
    refine ⟨hok u (List.mem_of_getElem? hu), fun p hp1 hp => ?_⟩
    obtain ⟨j, rfl⟩ : ∃ j, i = j + 1 := ⟨i - 1, by omega⟩
    simp only [Nat.add_sub_cancel, List.getElem?_cons_succ] at hu hp
    cases j with
    | zero =>
      simp only [List.getElem?_cons_zero, Option.some.injEq] at hp
      subst hp
      exact h.2.1 u (List.mem_of_getElem? hu)
    | succ j =>
      have := can_chk h.2.2 (fun v hv => hok v (List.mem_cons_of_mem _ hv)) (j + 1) u (by simp only [List.length_cons] at hi; omega) hu
      exact this.2 p (by omega) (by simpa using hp)
def Beh (out : List S60) (n q : Int) : Prop := ∀ s ∈ out, s.f0 < n ∨ (s.f0 = n ∧ s.f2 < q)
theorem last_mem {out : List S60} (h : 0 < out.length) : rd_T60 out ((out.length : Int) - 1) ∈ out := by
  rw [last_eq out (List.length_pos_iff.1 h)]
  exact List.getLast_mem _
theorem init_last {out : List S60} (h : 0 < out.length) : out = out.dropLast ++ [rd_T60 out ((out.length : Int) - 1)] := by
  rw [last_eq out (List.length_pos_iff.1 h)]
  exact (List.dropLast_concat_getLast (List.length_pos_iff.1 h)).symm
theorem can_longer {I : List S60} {la : S60} {t : Int} (hc : Can (I ++ [la])) (ht : la.f2 ≤ t) : Can (I ++ [⟨la.f0, la.f1, t⟩]) := by
  rw [can_app] at hc ⊢
  obtain ⟨h1, h2, h3⟩ := hc
  have h4 := h2.1
  refine ⟨h1, ⟨by show la.f1 ≤ t; omega, fun u hu => (by cases hu), trivial⟩, fun s hs u hu => ?_⟩
  have h5 := h3 s hs la (List.mem_singleton_self _)
  rw [List.mem_singleton] at hu
  subst hu
  exact h5
theorem addV_can {out : List S60} {x : S60} (hc : Can out) (hx : x.f1 ≤ x.f2) (hb : Beh out x.f0 x.f1) (hmx : ∀ s ∈ out, -9223372036854775808 ≤ s.f2 ∧ s.f2 ≤ 2147483647) :
    Can (addV out x) ∧ (∀ n q, HasP (addV out x) n q ↔ HasP out n q ∨ (x.f0 = n ∧ x.f1 ≤ q ∧ q ≤ x.f2)) := by
  unfold addV
  split
  · rename_i h
    obtain ⟨h0, h1, h2⟩ := h
    have e := init_last h0
    have hm := last_mem h0
    obtain ⟨la, hla⟩ : ∃ la, la = rd_T60 out ((out.length : Int) - 1) := ⟨_, rfl⟩
    rw [← hla] at e hm h1 h2 ⊢
    obtain ⟨I, hI⟩ : ∃ I, I = out.dropLast := ⟨_, rfl⟩
    rw [← hI] at e ⊢
    have h3 : wrap64 (la.f2 + 1) = la.f2 + 1 := by have := hmx la hm; unfold wrap64; omega
    rw [h3] at h2
    subst e
    have hlc := can_mem hc hm
    refine ⟨can_longer hc (by omega), fun n q => ?_⟩
    rw [has_app, has_app, has_cons, has_cons]
    simp only [has_nil, or_false]
    constructor
    · rintro (h | ⟨h5, h6, h7⟩)
      · exact .inl (.inl h)
      · by_cases hq : q ≤ la.f2
        · exact .inl (.inr ⟨h5, h6, hq⟩)
        · exact .inr ⟨by rw [← h1]; exact h5, by omega, h7⟩
    · rintro ((h | ⟨h5, h6, h7⟩) | ⟨h5, h6, h7⟩)
      · exact .inl h
      · exact .inr ⟨h5, h6, by show q ≤ x.f2; omega⟩
      · exact .inr ⟨by rw [h1]; exact h5, by show la.f1 ≤ q; omega, h7⟩
  · rename_i h
    refine ⟨?_, fun n q => ?_⟩
    · rw [can_app]
      refine ⟨hc, ⟨hx, fun u hu => (by cases hu), trivial⟩, fun s hs u hu => ?_⟩
      rw [List.mem_singleton] at hu
      subst hu
      have h0 : 0 < out.length := List.length_pos_of_mem hs
      have e := init_last h0
      obtain ⟨la, hla⟩ : ∃ la, la = rd_T60 out ((out.length : Int) - 1) := ⟨_, rfl⟩
      have hm := last_mem h0
      rw [← hla] at e hm h
      have h3 : wrap64 (la.f2 + 1) = la.f2 + 1 := by have := hmx la hm; unfold wrap64; omega
      have key : Aft la u := by
        have := hb la hm
        unfold Aft
        rcases this with h4 | ⟨h4, h5⟩
        · exact .inl h4
        · right
          refine ⟨h4, ?_⟩
          have : ¬ la.f2 + 1 = u.f1 := fun h6 => h ⟨h0, h4, by rw [h3]; exact h6⟩
          omega
      rw [e] at hs
      rcases List.mem_append.1 hs with hs | hs
      · have hc' := hc
        rw [e, can_app] at hc'
        exact aft_trans (hc'.2.2 s hs la (List.mem_singleton_self _)) (can_mem hc hm) key
      · rw [List.mem_singleton.1 hs]; exact key
    · rw [has_app, has_cons]
      simp [has_nil]
end Go.Proofs.YtdelfhahbngcfaaX.P07
end
section
namespace Go.Proofs.YtdelfhahbngcfaaX.P07
open Go.RowKit Go.Proofs.YtdelfhahbngcfaaW.PrintWords Go.Proofs.YtdelfhahbngcfaaW.PrintLast Go.Proofs.YtdelfhahbngcfaaW.PrintMore
set_option linter.unusedVariables false
set_option linter.unusedSimpArgs false
def cnt : List S60 → Int
  | [] => 0
  | s :: l => s.f2 - s.f1 + 1 + cnt l
theorem cnt_app : ∀ l k : List S60, cnt (l ++ k) = cnt l + cnt k
  | [], k => by simp [cnt]
  | s :: l, k => by simp only [List.cons_append, cnt, cnt_app l k]; omega
theorem addV_cnt {out : List S60} {x : S60} (hmx : ∀ s ∈ out, -9223372036854775808 ≤ s.f2 ∧ s.f2 ≤ 2147483647) : cnt (addV out x) = cnt out + (x.f2 - x.f1 + 1) := by
  unfold addV
  split
  · rename_i h
    obtain ⟨h0, h1, h2⟩ := h
    have e := init_last h0
    have hm := last_mem h0
    obtain ⟨la, hla⟩ : ∃ la, la = rd_T60 out ((out.length : Int) - 1) := ⟨_, rfl⟩
    rw [← hla] at e hm h2 ⊢
    have h3 : wrap64 (la.f2 + 1) = la.f2 + 1 := by have := hmx la hm; unfold wrap64; omega
    rw [h3] at h2
    have : cnt out = cnt (out.dropLast ++ [la]) := by rw [← e]
    rw [this, cnt_app, cnt_app]
    simp only [cnt]
    omega
  · rw [cnt_app]; simp only [cnt]; omega
theorem addV_ok {out : List S60} {x : S60} (ho : ∀ s ∈ out, okI s = true) (hx : okI x = true) : ∀ s ∈ addV out x, okI s = true := by
  unfold addV
  split
  · rename_i h
    obtain ⟨h0, h1, h2⟩ := h
    have hm := last_mem h0
    intro s hs
    rcases List.mem_append.1 hs with hs | hs
    · exact ho s (List.dropLast_subset _ hs)
    · rw [List.mem_singleton] at hs
      subst hs
      have a1 := okI_spec (ho _ hm)
      have a2 := okI_spec hx
      have h3 : wrap64 ((rd_T60 out ((out.length : Int) - 1)).f2 + 1) = (rd_T60 out ((out.length : Int) - 1)).f2 + 1 := by unfold wrap64; omega
      rw [h3] at h2
      unfold okI
      simp
      omega
  · intro s hs
    rcases List.mem_append.1 hs with hs | hs
    · exact ho s hs
    · rw [List.mem_singleton.1 hs]; exact hx
structure SideOk (l l' : List S60) (n fr t : Int) (a : Bool) : Prop where
  can : Can l'
  ok : ∀ s ∈ l', okI s = true
  mem : ∀ m q, HasP l' m q ↔ HasP l m q ∧ ¬(m = n ∧ q ≤ t)
  frm : ∀ m q, HasP l m q → n < m ∨ (n = m ∧ fr ≤ q)
  inn : ∀ q, fr ≤ q → q ≤ t → (HasP l n q ↔ a = true)
  num : cnt l = cnt l' + if a = true then t - fr + 1 else 0
theorem side_in {x : S60} {r : List S60} {t : Int} (hc : Can (x :: r)) (ho : ∀ s ∈ x :: r, okI s = true) (h1 : x.f1 ≤ t) (h2 : t ≤ x.f2) : SideOk (x :: r) (behV (x :: r) t) x.f0 x.f1 t true := by
  have hr : ∀ m q, HasP r m q → x.f0 < m ∨ (x.f0 = m ∧ x.f2 + 1 < q) := fun m q h => can_tail hc h
  unfold behV
  by_cases e : x.f2 = t
  · simp only [e, if_true]
    refine ⟨hc.2.2, fun s hs => ho s (List.mem_cons_of_mem _ hs), fun m q => ?_, fun m q h => can_head hc h, fun q a b => ?_, ?_⟩
    · rw [has_cons]
      constructor
      · intro h
        have := hr m q h
        exact ⟨.inr h, by omega⟩
      · rintro ⟨h | h, h3⟩
        · exact absurd ⟨h.1.symm, by omega⟩ h3
        · exact h
    · rw [has_cons]; simp; left; omega
    · simp only [cnt, if_true]; omega
  · simp only [if_neg e]
    refine ⟨⟨by show t + 1 ≤ x.f2; omega, fun u hu => hc.2.1 u hu, hc.2.2⟩, fun s hs => ?_, fun m q => ?_, fun m q h => can_head hc h, fun q a b => ?_, ?_⟩
    · rcases List.mem_cons.1 hs with rfl | hs
      · have := okI_spec (ho x (List.mem_cons_self ..))
        unfold okI
        simp
        omega
      · exact ho s (List.mem_cons_of_mem _ hs)
    · rw [has_cons, has_cons]
      constructor
      · rintro (⟨h3, h4, h5⟩ | h)
        · have h4 : t + 1 ≤ q := h4
          exact ⟨.inl ⟨h3, by omega, h5⟩, by omega⟩
        · have := hr m q h
          exact ⟨.inr h, by omega⟩
      · rintro ⟨⟨h3, h4, h5⟩ | h, h6⟩
        · left
          refine ⟨h3, ?_, h5⟩
          show t + 1 ≤ q
          have : ¬ q ≤ t := fun h7 => h6 ⟨h3.symm, h7⟩
          omega
        · exact .inr h
    · rw [has_cons]; simp; left; omega
    · simp only [cnt, if_true]; omega
theorem side_out {l : List S60} {n fr t : Int} (hc : Can l) (ho : ∀ s ∈ l, okI s = true) (hft : fr ≤ t) (h : ∀ m q, HasP l m q → n < m ∨ (n = m ∧ t < q)) : SideOk l l n fr t false :=
  { can := hc
    ok := ho
    mem := fun m q => ⟨fun hh => ⟨hh, by have := h m q hh; omega⟩, fun hh => hh.1⟩
    frm := fun m q hh => by have := h m q hh; omega
    inn := fun q a b => ⟨fun hh => by have := h n q hh; omega, fun e => by cases e⟩
    num := by simp }
def hasB (l : List S60) (n q : Int) : Bool := l.any (fun x => inS x n q)
theorem hasB_iff (l : List S60) (n q : Int) : hasB l n q = true ↔ HasP l n q := by
  unfold hasB HasP
  rw [List.any_eq_true]
  constructor
  · rintro ⟨x, hx, h⟩
    refine ⟨x, hx, ?_⟩
    unfold inS at h
    simpa [and_assoc] using h
  · rintro ⟨x, hx, h⟩
    refine ⟨x, hx, ?_⟩
    unfold inS
    simpa [and_assoc] using h
structure Rest (la lb out : List S60) : Prop where
  ca : Can la
  cb : Can lb
  oa : ∀ s ∈ la, okI s = true
  ob : ∀ s ∈ lb, okI s = true
  co : Can out
  oo : ∀ s ∈ out, okI s = true
  beh : ∀ n q, HasP la n q ∨ HasP lb n q → Beh out n q
theorem bnd {out : List S60} (h : ∀ s ∈ out, okI s = true) : ∀ s ∈ out, -9223372036854775808 ≤ s.f2 ∧ s.f2 ≤ 2147483647 := fun s hs => by have := okI_spec (h s hs); omega
theorem step_core {kf : Bool → Bool → Bool} (hkf : kf false false = false) {la lb la' lb' out : List S60} {n fr t : Int} {a b : Bool} (hR : Rest la lb out) (ha : SideOk la la' n fr t a) (hb : SideOk lb lb' n fr t b) (hft : fr ≤ t) (hab : a = true ∨ b = true) (h1 : 1 ≤ fr) (h2 : t ≤ 2147483647) :
    Rest la' lb' (putV kf a b out ⟨n, fr, t⟩) ∧ (∀ m q, (HasP (putV kf a b out ⟨n, fr, t⟩) m q ∨ kf (hasB la' m q) (hasB lb' m q) = true) ↔ (HasP out m q ∨ kf (hasB la m q) (hasB lb m q) = true)) ∧ cnt (putV kf a b out ⟨n, fr, t⟩) = cnt out + (if kf a b = true then t - fr + 1 else 0) := by
  have hbeh : Beh out n fr := by
    rcases hab with rfl | rfl
    · exact hR.beh n fr (.inl ((ha.inn fr (Int.le_refl _) hft).2 rfl))
    · exact hR.beh n fr (.inr ((hb.inn fr (Int.le_refl _) hft).2 rfl))
  have hout : Can (putV kf a b out ⟨n, fr, t⟩) ∧ (∀ s ∈ putV kf a b out ⟨n, fr, t⟩, okI s = true) ∧ (∀ m q, HasP (putV kf a b out ⟨n, fr, t⟩) m q ↔ HasP out m q ∨ (kf a b = true ∧ n = m ∧ fr ≤ q ∧ q ≤ t)) ∧ cnt (putV kf a b out ⟨n, fr, t⟩) = cnt out + (if kf a b = true then t - fr + 1 else 0) := by
    unfold putV
    by_cases hk : kf a b = true
    · rw [if_pos hk, if_pos hk]
      obtain ⟨c1, c2⟩ := addV_can (x := ⟨n, fr, t⟩) hR.co hft hbeh (bnd hR.oo)
      refine ⟨c1, addV_ok hR.oo (by unfold okI; simp; omega), fun m q => ?_, addV_cnt (bnd hR.oo)⟩
      rw [c2]; simp [hk]
    · rw [if_neg hk, if_neg hk]
      exact ⟨hR.co, hR.oo, fun m q => by simp [hk], by omega⟩
  obtain ⟨o1, o2, o3, o4⟩ := hout
  have hout2 : ∀ s ∈ putV kf a b out ⟨n, fr, t⟩, s.f0 < n ∨ (s.f0 = n ∧ s.f2 ≤ t) := fun s hs => by
    have hh : HasP (putV kf a b out ⟨n, fr, t⟩) s.f0 s.f2 := ⟨s, hs, rfl, can_mem o1 hs, Int.le_refl _⟩
    rcases (o3 _ _).1 hh with ⟨u, hu, h3, h4, h5⟩ | ⟨_, h3, _, h4⟩
    · have := hbeh u hu; omega
    · omega
  refine ⟨⟨ha.can, hb.can, ha.ok, hb.ok, o1, o2, fun m q hh s hs => ?_⟩, fun m q => ?_, o4⟩
  · have h3 := hout2 s hs
    rcases hh with hh | hh
    · obtain ⟨h4, h5⟩ := (ha.mem m q).1 hh
      have := ha.frm m q h4
      omega
    · obtain ⟨h4, h5⟩ := (hb.mem m q).1 hh
      have := hb.frm m q h4
      omega
  · by_cases hin : m = n ∧ q ≤ t
    · have e1 : hasB la' m q = false := by
        rw [Bool.eq_false_iff]; intro h; exact ((ha.mem m q).1 ((hasB_iff _ _ _).1 h)).2 hin
      have e2 : hasB lb' m q = false := by
        rw [Bool.eq_false_iff]; intro h; exact ((hb.mem m q).1 ((hasB_iff _ _ _).1 h)).2 hin
      rw [e1, e2, hkf, o3]
      obtain ⟨rfl, hq⟩ := hin
      by_cases hq2 : fr ≤ q
      · have f1 : hasB la m q = a := by rw [Bool.eq_iff_iff, hasB_iff]; exact ha.inn q hq2 hq
        have f2 : hasB lb m q = b := by rw [Bool.eq_iff_iff, hasB_iff]; exact hb.inn q hq2 hq
        rw [f1, f2]
        simp [hq, hq2]
      · have f1 : hasB la m q = false := by rw [Bool.eq_false_iff]; intro h; have := ha.frm m q ((hasB_iff _ _ _).1 h); omega
        have f2 : hasB lb m q = false := by rw [Bool.eq_false_iff]; intro h; have := hb.frm m q ((hasB_iff _ _ _).1 h); omega
        rw [f1, f2, hkf]
        simp [hq2]
    · have e1 : hasB la' m q = hasB la m q := by rw [Bool.eq_iff_iff, hasB_iff, hasB_iff, ha.mem]; exact ⟨fun h => h.1, fun h => ⟨h, hin⟩⟩
      have e2 : hasB lb' m q = hasB lb m q := by rw [Bool.eq_iff_iff, hasB_iff, hasB_iff, hb.mem]; exact ⟨fun h => h.1, fun h => ⟨h, hin⟩⟩
      rw [e1, e2, o3]
      constructor
      · rintro ((h | ⟨_, h3, h4, h5⟩) | h)
        · exact .inl h
        · exact absurd ⟨h3.symm, h5⟩ hin
        · exact .inr h
      · rintro (h | h)
        · exact .inl (.inl h)
        · exact .inr h
def mu : List S60 → List S60 → Nat
  | x :: la, y :: lb => 2 * (la.length + lb.length + 2) + (if x.f0 = y.f0 ∧ x.f1 ≠ y.f1 then 1 else 0)
  | la, lb => 2 * (la.length + lb.length)
theorem mu_le (la lb : List S60) : mu la lb ≤ 2 * (la.length + lb.length) + 1 := by
  match la, lb with
  | [], [] => simp [mu]
  | [], y :: lb => simp [mu]
  | x :: la, [] => simp [mu]
  | x :: la, y :: lb => simp only [mu, List.length_cons]; split <;> omega
theorem mu_ge (la lb : List S60) : 2 * (la.length + lb.length) ≤ mu la lb := by
  match la, lb with
  | [], [] => simp [mu]
  | [], y :: lb => simp [mu]
  | x :: la, [] => simp [mu]
  | x :: la, y :: lb => simp only [mu, List.length_cons]; split <;> omega
theorem behV_eq (x : S60) (r : List S60) : behV (x :: r) x.f2 = r := by simp [behV]
theorem behV_ne (x : S60) (r : List S60) (t : Int) (h : x.f2 ≠ t) : behV (x :: r) t = ⟨x.f0, t + 1, x.f2⟩ :: r := by simp [behV, h]
theorem can_all {l : List S60} (h : ∀ s ∈ l, okI s = true) : l.all okI = true := List.all_eq_true.2 h
theorem step_law {kf : Bool → Bool → Bool} (hkf : kf false false = false) {la lb out : List S60} (hR : Rest la lb out) (hne : ¬ (la = [] ∧ lb = [])) :
    ∃ n fr t a b, SideOk la (stepV kf la lb out).1 n fr t a ∧ SideOk lb (stepV kf la lb out).2.1 n fr t b ∧ (stepV kf la lb out).2.2 = putV kf a b out ⟨n, fr, t⟩ ∧ fr ≤ t ∧ (a = true ∨ b = true) ∧ 1 ≤ fr ∧ t ≤ 2147483647 ∧ mu (stepV kf la lb out).1 (stepV kf la lb out).2.1 < mu la lb := by
  match la, lb, hne, hR with
  | [], [], hne, _ => exact absurd ⟨rfl, rfl⟩ hne
  | x :: la, [], _, hR =>
    obtain ⟨p1, p2, p3⟩ := okI_spec (hR.oa x (List.mem_cons_self ..))
    have e : min 2147483647 x.f2 = x.f2 := by omega
    simp only [stepV, e]
    refine ⟨x.f0, x.f1, x.f2, true, false, side_in hR.ca hR.oa p2 (Int.le_refl _), side_out trivial (fun s h => (by cases h)) p2 (fun m q h => absurd h (has_nil _ _)), rfl, p2, .inl rfl, p1, p3, ?_⟩
    rw [behV_eq]
    have := mu_le la []
    cases la <;> simp [mu]
  | [], y :: lb, _, hR =>
    obtain ⟨p1, p2, p3⟩ := okI_spec (hR.ob y (List.mem_cons_self ..))
    have e : min 2147483647 y.f2 = y.f2 := by omega
    simp only [stepV, e]
    refine ⟨y.f0, y.f1, y.f2, false, true, side_out trivial (fun s h => (by cases h)) p2 (fun m q h => absurd h (has_nil _ _)), side_in hR.cb hR.ob p2 (Int.le_refl _), rfl, p2, .inr rfl, p1, p3, ?_⟩
    rw [behV_eq]
    cases lb <;> simp [mu]
  | x :: la, y :: lb, _, hR =>
    obtain ⟨p1, p2, p3⟩ := okI_spec (hR.oa x (List.mem_cons_self ..))
    obtain ⟨q1, q2, q3⟩ := okI_spec (hR.ob y (List.mem_cons_self ..))
    have hmu : 2 * (la.length + lb.length + 2) ≤ mu (x :: la) (y :: lb) := by simp only [mu]; omega
    have hA : ∀ m q, HasP (x :: la) m q → x.f0 < m ∨ (x.f0 = m ∧ x.f1 ≤ q) := fun m q h => can_head hR.ca h
    have hB : ∀ m q, HasP (y :: lb) m q → y.f0 < m ∨ (y.f0 = m ∧ y.f1 ≤ q) := fun m q h => can_head hR.cb h
    have ex : min 2147483647 x.f2 = x.f2 := by omega
    have ey : min 2147483647 y.f2 = y.f2 := by omega
    have oneA : mu la (y :: lb) < mu (x :: la) (y :: lb) := by have := mu_le la (y :: lb); simp only [List.length_cons] at this; omega
    have oneB : mu (x :: la) lb < mu (x :: la) (y :: lb) := by have := mu_le (x :: la) lb; simp only [List.length_cons] at this; omega
    by_cases h1 : x.f0 < y.f0
    · have e : stepV kf (x :: la) (y :: lb) out = (behV (x :: la) x.f2, y :: lb, putV kf true false out ⟨x.f0, x.f1, x.f2⟩) := by simp only [stepV]; rw [if_pos h1, ex]
      rw [e]
      refine ⟨x.f0, x.f1, x.f2, true, false, side_in hR.ca hR.oa p2 (Int.le_refl _), side_out hR.cb hR.ob p2 (fun m q h => by have := hB m q h; omega), rfl, p2, .inl rfl, p1, p3, ?_⟩
      rw [behV_eq]; exact oneA
    by_cases h2 : y.f0 < x.f0
    · have e : stepV kf (x :: la) (y :: lb) out = (x :: la, behV (y :: lb) y.f2, putV kf false true out ⟨y.f0, y.f1, y.f2⟩) := by simp only [stepV]; rw [if_neg h1, if_pos h2, ey]
      rw [e]
      refine ⟨y.f0, y.f1, y.f2, false, true, side_out hR.ca hR.oa q2 (fun m q h => by have := hA m q h; omega), side_in hR.cb hR.ob q2 (Int.le_refl _), rfl, q2, .inr rfl, q1, q3, ?_⟩
      rw [behV_eq]; exact oneB
    have h3 : x.f0 = y.f0 := by omega
    by_cases h4 : x.f1 < y.f1
    · obtain ⟨t, ht⟩ : ∃ t, t = min x.f2 (y.f1 - 1) := ⟨_, rfl⟩
      have e : stepV kf (x :: la) (y :: lb) out = (behV (x :: la) t, y :: lb, putV kf true false out ⟨x.f0, x.f1, t⟩) := by simp only [stepV]; rw [if_neg h1, if_neg h2, if_pos h4, ex, ht]
      rw [e]
      refine ⟨x.f0, x.f1, t, true, false, side_in hR.ca hR.oa (by omega) (by omega), side_out hR.cb hR.ob (by omega) (fun m q h => by have := hB m q h; omega), rfl, by omega, .inl rfl, p1, by omega, ?_⟩
      by_cases e2 : x.f2 = t
      · rw [← e2, behV_eq]; exact oneA
      · rw [behV_ne _ _ _ e2]
        simp only [mu]
        rw [if_neg (fun h => h.2 (show t + 1 = y.f1 by omega)), if_pos ⟨h3, by omega⟩]
        omega
    by_cases h5 : y.f1 < x.f1
    · obtain ⟨t, ht⟩ : ∃ t, t = min (x.f1 - 1) y.f2 := ⟨_, rfl⟩
      have e : stepV kf (x :: la) (y :: lb) out = (x :: la, behV (y :: lb) t, putV kf false true out ⟨y.f0, y.f1, t⟩) := by
        simp only [stepV]; rw [if_neg h1, if_neg h2, if_neg h4, if_pos h5, h3, show min (min 2147483647 (x.f1 - 1)) y.f2 = t by omega]
      rw [e]
      refine ⟨y.f0, y.f1, t, false, true, side_out hR.ca hR.oa (by omega) (fun m q h => by have := hA m q h; omega), side_in hR.cb hR.ob (by omega) (by omega), rfl, by omega, .inr rfl, q1, by omega, ?_⟩
      by_cases e2 : y.f2 = t
      · rw [← e2, behV_eq]; exact oneB
      · rw [behV_ne _ _ _ e2]
        simp only [mu]
        rw [if_neg (fun h => h.2 (show x.f1 = t + 1 by omega)), if_pos ⟨h3, by omega⟩]
        omega
    · have h6 : x.f1 = y.f1 := by omega
      obtain ⟨t, ht⟩ : ∃ t, t = min x.f2 y.f2 := ⟨_, rfl⟩
      have e : stepV kf (x :: la) (y :: lb) out = (behV (x :: la) t, behV (y :: lb) t, putV kf true true out ⟨x.f0, x.f1, t⟩) := by
        simp only [stepV]; rw [if_neg h1, if_neg h2, if_neg h4, if_neg h5, ex, ht]
      rw [e]
      have sb := side_in (t := t) hR.cb hR.ob (by omega) (by omega)
      rw [← h3, ← h6] at sb
      refine ⟨x.f0, x.f1, t, true, true, side_in hR.ca hR.oa (by omega) (by omega), sb, rfl, by omega, .inl rfl, p1, by omega, ?_⟩
      have m0 : mu (x :: la) (y :: lb) = 2 * (la.length + lb.length + 2) := by simp only [mu]; rw [if_neg (fun h => h.2 h6)]; omega
      rw [m0]
      show mu (behV (x :: la) t) (behV (y :: lb) t) < _
      by_cases e2 : x.f2 = t
      · rw [← e2, behV_eq]
        by_cases e3 : y.f2 = x.f2
        · rw [← e3, behV_eq]; have := mu_le la lb; omega
        · rw [behV_ne _ _ _ e3]; have := mu_le la (⟨y.f0, x.f2 + 1, y.f2⟩ :: lb); simp only [List.length_cons] at this; omega
      · have e3 : y.f2 = t := by omega
        rw [behV_ne _ _ _ e2, ← e3, behV_eq]
        have := mu_le (⟨x.f0, y.f2 + 1, x.f2⟩ :: la) lb; simp only [List.length_cons] at this; omega
theorem sweep_law {kf : Bool → Bool → Bool} (hkf : kf false false = false) : ∀ (m : Nat) (la lb out : List S60), Rest la lb out → mu la lb ≤ m → out.length + m < 1000000 →
    ∃ o, sweepF kf (m + 1) la lb out = some o ∧ Can o ∧ (∀ s ∈ o, okI s = true) ∧ (∀ n q, HasP o n q ↔ HasP out n q ∨ kf (hasB la n q) (hasB lb n q) = true)
  | m, la, lb, out, hR, hm, hl => by
    rw [sweepF]
    by_cases he : la = [] ∧ lb = []
    · rw [if_pos he]
      obtain ⟨rfl, rfl⟩ := he
      exact ⟨out, rfl, hR.co, hR.oo, fun n q => by
        have : hasB [] n q = false := rfl
        rw [this, hkf]; simp⟩
    · have hge := mu_ge la lb
      rw [if_neg he, if_pos ⟨can_all hR.oa, can_all hR.ob, by omega, by omega, by omega⟩]
      obtain ⟨n, fr, t, a, b, ha, hb, ho, hft, hab, h1, h2, hlt⟩ := step_law hkf hR he
      obtain ⟨c1, c2, c3⟩ := step_core hkf hR ha hb hft hab h1 h2
      rw [← ho] at c1 c2
      obtain ⟨m', rfl⟩ : ∃ m', m = m' + 1 := ⟨m - 1, by omega⟩
      have hlen : (stepV kf la lb out).2.2.length ≤ out.length + 1 := by
        rw [ho]; unfold putV; split
        · exact addV_len _ _
        · omega
      obtain ⟨o, e1, e2, e3, e4⟩ := sweep_law hkf m' _ _ _ c1 (by omega) (by omega)
      exact ⟨o, e1, e2, e3, fun n q => (e4 n q).trans (c2 n q)⟩
end Go.Proofs.YtdelfhahbngcfaaX.P07
end
section
namespace Go.Proofs.YtdelfhahbngcfaaX.P07
open Go.RowKit Go.Sort Go.Lib Go.Proofs.YtdelfhahbngcfaaW.PrintWords Go.Proofs.YtdelfhahbngcfaaW.PrintLast Go.Proofs.YtdelfhahbngcfaaW.PrintMore
set_option linter.unusedVariables false
set_option linter.unusedSimpArgs false
def leS (a b : S60) : Prop := a.f0 < b.f0 ∨ (a.f0 = b.f0 ∧ (a.f1 < b.f1 ∨ (a.f1 = b.f1 ∧ a.f2 ≤ b.f2)))
theorem ins_nil (x : S60) : insV [] x = [x] := rfl
theorem ins_cons (y : S60) (rs : List S60) (x : S60) : insV (y :: rs) x = if ahB y x = true then y :: insV rs x else x :: y :: rs := by
  unfold insV posV
  rw [List.takeWhile_cons]
  by_cases h : ahB y x = true
  · rw [if_pos h, if_pos h]; simp
  · rw [if_neg h, if_neg h]; simp
theorem ins_mem (x : S60) : ∀ (rs : List S60) (s : S60), s ∈ insV rs x ↔ s = x ∨ s ∈ rs
  | [], s => by rw [ins_nil]; simp
  | y :: rs, s => by
    rw [ins_cons]
    split
    · rw [List.mem_cons, ins_mem x rs, List.mem_cons]
      constructor
      · rintro (h | h | h)
        · exact .inr (.inl h)
        · exact .inl h
        · exact .inr (.inr h)
      · rintro (h | h | h)
        · exact .inr (.inl h)
        · exact .inl h
        · exact .inr (.inr h)
    · simp
theorem ins_sorted (x : S60) : ∀ (rs : List S60), rs.Pairwise leS → (insV rs x).Pairwise leS
  | [], _ => by rw [ins_nil]; simp
  | y :: rs, h => by
    rw [List.pairwise_cons] at h
    rw [ins_cons]
    split
    · rename_i hy
      rw [List.pairwise_cons]
      refine ⟨fun s hs => ?_, ins_sorted x rs h.2⟩
      rcases (ins_mem x rs s).1 hs with rfl | hs
      · unfold ahB at hy; simp at hy; unfold leS; omega
      · exact h.1 s hs
    · rename_i hy
      have hxy : leS x y := by unfold ahB at hy; simp at hy; unfold leS; omega
      rw [List.pairwise_cons, List.pairwise_cons]
      refine ⟨fun s hs => ?_, h.1, h.2⟩
      rcases List.mem_cons.1 hs with rfl | hs
      · exact hxy
      · have := h.1 s hs; unfold leS at *; omega
theorem rise_law : ∀ (l rs : List S60), rs.Pairwise leS → (l.foldl insV rs).Pairwise leS ∧ ∀ s, s ∈ l.foldl insV rs ↔ s ∈ l ∨ s ∈ rs
  | [], rs, h => ⟨h, fun s => by simp⟩
  | x :: l, rs, h => by
    obtain ⟨h1, h2⟩ := rise_law l (insV rs x) (ins_sorted x rs h)
    refine ⟨h1, fun s => ?_⟩
    rw [List.foldl_cons, h2, ins_mem, List.mem_cons]
    constructor
    · rintro (h | h | h)
      · exact .inl (.inr h)
      · exact .inl (.inl h)
      · exact .inr h
    · rintro ((h | h) | h)
      · exact .inr (.inl h)
      · exact .inl h
      · exact .inr (.inr h)
def Sle (out : List S60) (x : S60) : Prop := ∀ s ∈ out, s.f0 < x.f0 ∨ (s.f0 = x.f0 ∧ s.f1 ≤ x.f1)
theorem merge_law {out : List S60} {x : S60} (hc : Can out) (ho : ∀ s ∈ out, okI s = true) (hx : okI x = true) (hs : Sle out x) :
    Can (mergeV out x) ∧ (∀ s ∈ mergeV out x, okI s = true) ∧ (∀ n q, HasP (mergeV out x) n q ↔ HasP out n q ∨ (x.f0 = n ∧ x.f1 ≤ q ∧ q ≤ x.f2)) ∧ Sle (mergeV out x) x := by
  have a2 := okI_spec hx
  unfold mergeV
  split
  · rename_i h
    obtain ⟨h0, h1, h2⟩ := h
    have e := init_last h0
    have hm := last_mem h0
    obtain ⟨la, hla⟩ : ∃ la, la = rd_T60 out ((out.length : Int) - 1) := ⟨_, rfl⟩
    rw [← hla] at e hm h1 h2 ⊢
    obtain ⟨I, hI⟩ : ∃ I, I = out.dropLast := ⟨_, rfl⟩
    rw [← hI] at e ⊢
    have a1 := okI_spec (ho la hm)
    have h3 : wrap64 (la.f2 + 1) = la.f2 + 1 := by unfold wrap64; omega
    rw [h3] at h2
    have h4 := hs la hm
    subst e
    refine ⟨can_longer hc (by omega), fun s hs' => ?_, fun n q => ?_, fun s hs' => ?_⟩
    · rcases List.mem_append.1 hs' with h | h
      · exact ho s (List.mem_append_left _ h)
      · rw [List.mem_singleton] at h
        subst h
        unfold okI
        simp
        omega
    · rw [has_app, has_app, has_cons, has_cons]
      simp only [has_nil, or_false]
      constructor
      · rintro (h | ⟨h5, h6, h7⟩)
        · exact .inl (.inl h)
        · have h7 : q ≤ max la.f2 x.f2 := h7
          by_cases hq : q ≤ la.f2
          · exact .inl (.inr ⟨h5, h6, hq⟩)
          · exact .inr ⟨by rw [← h1]; exact h5, by omega, by omega⟩
      · rintro ((h | ⟨h5, h6, h7⟩) | ⟨h5, h6, h7⟩)
        · exact .inl h
        · exact .inr ⟨h5, h6, by show q ≤ max la.f2 x.f2; omega⟩
        · exact .inr ⟨by rw [h1]; exact h5, by show la.f1 ≤ q; omega, by show q ≤ max la.f2 x.f2; omega⟩
    · rcases List.mem_append.1 hs' with h | h
      · exact hs s (List.mem_append_left _ h)
      · rw [List.mem_singleton] at h
        subst h
        exact h4
  · rename_i h
    refine ⟨?_, fun s hs' => ?_, fun n q => ?_, fun s hs' => ?_⟩
    · rw [can_app]
      refine ⟨hc, ⟨by omega, fun u hu => (by cases hu), trivial⟩, fun s hs' u hu => ?_⟩
      rw [List.mem_singleton] at hu
      subst hu
      have h0 : 0 < out.length := List.length_pos_of_mem hs'
      have e := init_last h0
      obtain ⟨la, hla⟩ : ∃ la, la = rd_T60 out ((out.length : Int) - 1) := ⟨_, rfl⟩
      have hm := last_mem h0
      rw [← hla] at e hm h
      have a1 := okI_spec (ho la hm)
      have h3 : wrap64 (la.f2 + 1) = la.f2 + 1 := by unfold wrap64; omega
      have key : Aft la u := by
        have := hs la hm
        unfold Aft
        rcases this with h4 | ⟨h4, h5⟩
        · exact .inl h4
        · right
          refine ⟨h4, ?_⟩
          have : ¬ u.f1 ≤ la.f2 + 1 := fun h6 => h ⟨h0, h4, by rw [h3]; exact h6⟩
          omega
      rw [e] at hs'
      rcases List.mem_append.1 hs' with hs' | hs'
      · have hc' := hc
        rw [e, can_app] at hc'
        exact aft_trans (hc'.2.2 s hs' la (List.mem_singleton_self _)) (can_mem hc hm) key
      · rw [List.mem_singleton.1 hs']; exact key
    · rcases List.mem_append.1 hs' with h | h
      · exact ho s h
      · rw [List.mem_singleton.1 h]; exact hx
    · rw [has_app, has_cons]
      simp [has_nil]
    · rcases List.mem_append.1 hs' with h | h
      · exact hs s h
      · rw [List.mem_singleton.1 h]; exact .inr ⟨rfl, Int.le_refl _⟩
theorem fold_law : ∀ (l out : List S60), Can out → (∀ s ∈ out, okI s = true) → (∀ s ∈ l, okI s = true) → l.Pairwise leS → (∀ x ∈ l, Sle out x) →
    Can (l.foldl mergeV out) ∧ (∀ s ∈ l.foldl mergeV out, okI s = true) ∧ (∀ n q, HasP (l.foldl mergeV out) n q ↔ HasP out n q ∨ HasP l n q)
  | [], out, h1, h2, _, _, _ => ⟨h1, h2, fun n q => by simp [has_nil]⟩
  | x :: l, out, h1, h2, h3, h4, h5 => by
    obtain ⟨c1, c2, c3, c4⟩ := merge_law h1 h2 (h3 x (List.mem_cons_self ..)) (h5 x (List.mem_cons_self ..))
    rw [List.pairwise_cons] at h4
    obtain ⟨d1, d2, d3⟩ := fold_law l (mergeV out x) c1 c2 (fun s hs => h3 s (List.mem_cons_of_mem _ hs)) h4.2 (fun y hy s hs => by
      have e1 := c4 s hs
      have e2 := h4.1 y hy
      unfold leS at e2
      omega)
    refine ⟨d1, d2, fun n q => ?_⟩
    rw [List.foldl_cons, d3, c3, has_cons, or_assoc]
theorem tidy_law (l : List S60) (h : ∀ s ∈ l, okI s = true) : Can (tidyL l) ∧ (∀ s ∈ tidyL l, okI s = true) ∧ ∀ n q, HasP (tidyL l) n q ↔ HasP l n q := by
  obtain ⟨h1, h2⟩ := rise_law l [] (by simp)
  have h2' : ∀ s, s ∈ riseV l ↔ s ∈ l := fun s => by unfold riseV; rw [h2]; simp
  obtain ⟨c1, c2, c3⟩ := fold_law (riseV l) [] trivial (fun s hs => by cases hs) (fun s hs => h s ((h2' s).1 hs)) h1 (fun x _ s hs => by cases hs)
  refine ⟨c1, c2, fun n q => ?_⟩
  unfold tidyL
  rw [c3]
  simp only [has_nil, false_or]
  unfold HasP
  constructor
  · rintro ⟨s, hs, hh⟩; exact ⟨s, (h2' s).1 hs, hh⟩
  · rintro ⟨s, hs, hh⟩; exact ⟨s, (h2' s).2 hs, hh⟩
def cutS (x y : S60) : List S60 :=
  if y.f0 ≠ x.f0 ∨ y.f2 < x.f1 ∨ y.f1 > x.f2 then [y]
  else (if y.f1 < x.f1 then [⟨y.f0, y.f1, x.f1 - 1⟩] else []) ++ (if y.f2 > x.f2 then [⟨y.f0, x.f2 + 1, y.f2⟩] else [])
def withoutV (l : List S60) (x : S60) : List S60 := l.flatMap (cutS x)
theorem cut_has (x y : S60) (hx : x.f1 ≤ x.f2) (n q : Int) : HasP (cutS x y) n q ↔ (y.f0 = n ∧ y.f1 ≤ q ∧ q ≤ y.f2) ∧ ¬ (x.f0 = n ∧ x.f1 ≤ q ∧ q ≤ x.f2) := by
  unfold cutS
  split
  · rw [has_cons]
    simp only [has_nil, or_false]
    constructor
    · intro h; exact ⟨h, by omega⟩
    · intro h; exact h.1
  · rename_i h
    have h0 : y.f0 = x.f0 := Classical.byContradiction fun e => h (.inl e)
    have h1 : ¬ y.f2 < x.f1 := fun e => h (.inr (.inl e))
    have h2 : ¬ y.f1 > x.f2 := fun e => h (.inr (.inr e))
    clear h
    rw [has_app, h0]
    split <;> split <;> simp only [has_cons, has_nil, or_false, false_or] <;> (try dsimp only) <;> (constructor <;> intro hh <;> (first | omega | exact hh.elim))
theorem cut_mem (x y s : S60) (hx : okI x = true) (hy : okI y = true) (h : s ∈ cutS x y) : s.f0 = y.f0 ∧ y.f1 ≤ s.f1 ∧ s.f2 ≤ y.f2 ∧ okI s = true := by
  have a1 := okI_spec hx
  have a2 := okI_spec hy
  unfold cutS at h
  split at h
  · rw [List.mem_singleton] at h; subst h; exact ⟨rfl, Int.le_refl _, Int.le_refl _, hy⟩
  · rename_i hn
    rcases List.mem_append.1 h with h | h
    · split at h
      · rw [List.mem_singleton] at h
        subst h
        refine ⟨rfl, Int.le_refl _, by show x.f1 - 1 ≤ y.f2; omega, ?_⟩
        unfold okI
        simp
        omega
      · cases h
    · split at h
      · rw [List.mem_singleton] at h
        subst h
        refine ⟨rfl, by show y.f1 ≤ x.f2 + 1; omega, Int.le_refl _, ?_⟩
        unfold okI
        simp
        omega
      · cases h
theorem cut_can (x y : S60) (hx : okI x = true) (hy : okI y = true) : Can (cutS x y) := by
  have a1 := okI_spec hx
  have a2 := okI_spec hy
  unfold cutS
  split
  · exact ⟨a2.2.1, fun u hu => (by cases hu), trivial⟩
  · rename_i hn
    split <;> split
    · refine ⟨by show y.f1 ≤ x.f1 - 1; omega, fun u hu => ?_, by show x.f2 + 1 ≤ y.f2; omega, fun u hu => (by cases hu), trivial⟩
      have hu : u = ⟨y.f0, x.f2 + 1, y.f2⟩ := by simpa using hu
      subst hu
      unfold Aft
      show y.f0 < y.f0 ∨ (y.f0 = y.f0 ∧ x.f1 - 1 + 1 < x.f2 + 1)
      omega
    · exact ⟨by show y.f1 ≤ x.f1 - 1; omega, fun u hu => (by cases hu), trivial⟩
    · exact ⟨by show x.f2 + 1 ≤ y.f2; omega, fun u hu => (by cases hu), trivial⟩
    · trivial
theorem without_law (x : S60) (hx : okI x = true) : ∀ (l : List S60), Can l → (∀ s ∈ l, okI s = true) →
    Can (withoutV l x) ∧ (∀ s ∈ withoutV l x, okI s = true) ∧ (∀ s ∈ withoutV l x, ∃ y ∈ l, s.f0 = y.f0 ∧ y.f1 ≤ s.f1 ∧ s.f2 ≤ y.f2) ∧ ∀ n q, HasP (withoutV l x) n q ↔ HasP l n q ∧ ¬ (x.f0 = n ∧ x.f1 ≤ q ∧ q ≤ x.f2)
  | [], _, _ => ⟨trivial, fun s hs => (by cases hs), fun s hs => (by cases hs), fun n q => (by simp [withoutV, has_nil])⟩
  | y :: l, hc, ho => by
    obtain ⟨h1, h2, h3, h4⟩ := without_law x hx l hc.2.2 (fun s hs => ho s (List.mem_cons_of_mem _ hs))
    have hy := ho y (List.mem_cons_self ..)
    have e : withoutV (y :: l) x = cutS x y ++ withoutV l x := rfl
    rw [e]
    refine ⟨?_, fun s hs => ?_, fun s hs => ?_, fun n q => ?_⟩
    · rw [can_app]
      refine ⟨cut_can x y hx hy, h1, fun s hs u hu => ?_⟩
      obtain ⟨a1, a2, a3, _⟩ := cut_mem x y s hx hy hs
      obtain ⟨z, hz, b1, b2, b3⟩ := h3 u hu
      have := hc.2.1 z hz
      unfold Aft at *
      omega
    · rcases List.mem_append.1 hs with hs | hs
      · exact (cut_mem x y s hx hy hs).2.2.2
      · exact h2 s hs
    · rcases List.mem_append.1 hs with hs | hs
      · obtain ⟨a1, a2, a3, _⟩ := cut_mem x y s hx hy hs
        exact ⟨y, List.mem_cons_self .., a1, a2, a3⟩
      · obtain ⟨z, hz, b⟩ := h3 s hs
        exact ⟨z, List.mem_cons_of_mem _ hz, b⟩
    · rw [has_app, has_cons, h4, cut_has x y (okI_spec hx).2.1]
      constructor
      · rintro (h | h)
        · exact ⟨.inl h.1, h.2⟩
        · exact ⟨.inr h.1, h.2⟩
      · rintro ⟨h | h, h5⟩
        · exact .inl ⟨h, h5⟩
        · exact .inr ⟨h, h5⟩
theorem cut_len (x y : S60) : (cutS x y).length ≤ 2 := by
  unfold cutS
  split
  · simp
  · split <;> split <;> simp
def minusV (a b : List S60) : List S60 := b.foldl withoutV a
theorem minus_law : ∀ (b a : List S60), Can a → (∀ s ∈ a, okI s = true) → (∀ s ∈ b, okI s = true) →
    Can (minusV a b) ∧ (∀ s ∈ minusV a b, okI s = true) ∧ ∀ n q, HasP (minusV a b) n q ↔ HasP a n q ∧ ¬ HasP b n q
  | [], a, h1, h2, _ => ⟨h1, h2, fun n q => by simp [minusV, has_nil]⟩
  | x :: b, a, h1, h2, h3 => by
    obtain ⟨c1, c2, _, c3⟩ := without_law x (h3 x (List.mem_cons_self ..)) a h1 h2
    obtain ⟨d1, d2, d3⟩ := minus_law b (withoutV a x) c1 c2 (fun s hs => h3 s (List.mem_cons_of_mem _ hs))
    refine ⟨d1, d2, fun n q => ?_⟩
    have e : minusV a (x :: b) = minusV (withoutV a x) b := rfl
    rw [e, d3, c3, has_cons]
    constructor
    · rintro ⟨⟨h4, h5⟩, h6⟩
      exact ⟨h4, fun h => h.elim h5 h6⟩
    · rintro ⟨h4, h5⟩
      exact ⟨⟨h4, fun h => h5 (.inl h)⟩, fun h => h5 (.inr h)⟩
end Go.Proofs.YtdelfhahbngcfaaX.P07
end
section
namespace Go.Proofs.YtdelfhahbngcfaaX.P07
open Go.RowKit Go.Sort Go.Lib Go.Proofs.YtdelfhahbngcfaaW.PrintWords Go.Proofs.YtdelfhahbngcfaaW.PrintLast Go.Proofs.YtdelfhahbngcfaaW.PrintMore
set_option linter.unusedVariables false
set_option linter.unusedSimpArgs false
def ltDot (x y : S41) : Prop := x.f0 < y.f0 ∨ (x.f0 = y.f0 ∧ x.f1 < y.f1)
def leDot (x y : S41) : Prop := x.f0 < y.f0 ∨ (x.f0 = y.f0 ∧ x.f1 ≤ y.f1)
theorem srt_pw (l : List S41) : (srt l).Pairwise leDot := by
  unfold srt
  have := List.pairwise_mergeSort (le := fun x y : S41 => !(ltOf ordD) y x) (fun a b c h1 h2 => by
    simp only [ltD, Bool.not_eq_true', decide_eq_false_iff_not] at *
    omega) (fun a b => by
    simp only [ltD, Bool.or_eq_true, Bool.not_eq_true', decide_eq_false_iff_not]
    omega) l
  refine this.imp ?_
  intro a b h
  simp only [ltD, Bool.not_eq_true', decide_eq_false_iff_not] at h
  unfold leDot
  omega
theorem srt_mem (l : List S41) (x : S41) : x ∈ srt l ↔ x ∈ l := by unfold srt; exact List.mem_mergeSort
theorem get_le {l : List S41} (h : l.Pairwise leDot) {i j : Nat} (hij : i < j) (hj : j < l.length) : leDot l[i] l[j] := by
  have := List.pairwise_iff_getElem.1 h i j (by omega) hj hij
  exact this
theorem arr_get (l : List S41) (i : Nat) (hi : i < l.length) : l.toArray[i]! = l[i] := by simp [hi]
theorem compact_law (l : List S41) (h : l.Pairwise leDot) : ∀ m, m ≤ l.length → (compactUpTo l.toArray m).Pairwise ltDot ∧ (∀ x, x ∈ compactUpTo l.toArray m ↔ ∃ j, ∃ hj : j < l.length, j < m ∧ l[j] = x)
  | 0, _ => by
    have e : compactUpTo l.toArray 0 = [] := rfl
    rw [e]
    exact ⟨List.Pairwise.nil, fun x => ⟨fun h => (by cases h), fun ⟨j, _, h, _⟩ => absurd h (Nat.not_lt_zero j)⟩⟩
  | m + 1, hm => by
    obtain ⟨h1, h2⟩ := compact_law l h m (by omega)
    rw [compactUpTo_succ]
    have hml : m < l.length := by omega
    rw [arr_get l m hml]
    cases hk : keeps l.toArray m with
    | true =>
      simp only [if_true]
      refine ⟨?_, fun x => ?_⟩
      · rw [List.pairwise_append]
        refine ⟨h1, List.pairwise_singleton _ _, fun x hx y hy => ?_⟩
        rw [List.mem_singleton] at hy
        subst hy
        obtain ⟨j, hj, hjm, rfl⟩ := (h2 x).1 hx
        unfold keeps at hk
        have hk := of_decide_eq_true hk
        have hm0 : m ≠ 0 := by omega
        have hne : l[m] ≠ l[m - 1] := by
          rcases hk with e | e
          · exact absurd e hm0
          · rw [arr_get l m hml, arr_get l (m - 1) (by omega)] at e; exact e
        have hle1 := get_le h (i := m - 1) (j := m) (by omega) hml
        have hle2 : leDot l[j] l[m - 1] := by
          by_cases e : j = m - 1
          · subst e; exact .inr ⟨rfl, Int.le_refl _⟩
          · exact get_le h (by omega) (by omega)
        have hlt : ltDot l[m - 1] l[m] := by
          unfold leDot at hle1
          unfold ltDot
          rcases hle1 with h3 | ⟨h3, h4⟩
          · exact .inl h3
          · by_cases e : l[m - 1].f1 = l[m].f1
            · exfalso
              apply hne
              have : ∀ a b : S41, a.f0 = b.f0 → a.f1 = b.f1 → b = a := fun a b h1 h2 => by cases a; cases b; simp_all
              exact this _ _ h3 e
            · exact .inr ⟨h3, by omega⟩
        unfold leDot at hle2
        unfold ltDot at hlt ⊢
        omega
      · rw [List.mem_append, List.mem_singleton, h2]
        constructor
        · rintro (⟨j, hj, hjm, e⟩ | e)
          · exact ⟨j, hj, by omega, e⟩
          · exact ⟨m, hml, by omega, e.symm⟩
        · rintro ⟨j, hj, hjm, e⟩
          by_cases hje : j = m
          · subst hje; exact .inr e.symm
          · exact .inl ⟨j, hj, by omega, e⟩
    | false =>
      simp only [Bool.false_eq_true, if_false, List.append_nil]
      refine ⟨h1, fun x => ?_⟩
      unfold keeps at hk
      have hk := of_decide_eq_false hk
      have hm0 : m ≠ 0 := fun e => hk (.inl e)
      have heq : l[m] = l[m - 1] := Classical.byContradiction fun e => hk (.inr (by rw [arr_get l m hml, arr_get l (m - 1) (by omega)]; exact e))
      rw [h2]
      constructor
      · rintro ⟨j, hj, hjm, e⟩; exact ⟨j, hj, by omega, e⟩
      · rintro ⟨j, hj, hjm, e⟩
        by_cases hje : j = m
        · subst hje; exact ⟨j - 1, by omega, by omega, by rw [← heq]; exact e⟩
        · exact ⟨j, hj, by omega, e⟩
theorem sort_law (l : List S41) : (sortV l).Pairwise ltDot ∧ ∀ x, x ∈ sortV l ↔ x ∈ l := by
  obtain ⟨h1, h2⟩ := compact_law (srt l) (srt_pw l) (srt l).length (Nat.le_refl _)
  refine ⟨h1, fun x => ?_⟩
  unfold sortV
  rw [h2, ← srt_mem, List.mem_iff_getElem]
  constructor
  · rintro ⟨j, hj, _, e⟩; exact ⟨j, hj, e⟩
  · rintro ⟨j, hj, e⟩; exact ⟨j, hj, hj, e⟩
theorem dots_law : ∀ (l : List S41) (o : List S60), l.Pairwise ltDot → (∀ d ∈ l, okD d = true) → Can o → (∀ s ∈ o, okI s = true) → (∀ d ∈ l, Beh o d.f0 d.f1) →
    Can (l.foldl (fun o d => addV o ⟨d.f0, d.f1, d.f1⟩) o) ∧ (∀ s ∈ l.foldl (fun o d => addV o ⟨d.f0, d.f1, d.f1⟩) o, okI s = true) ∧ (∀ n q, HasP (l.foldl (fun o d => addV o ⟨d.f0, d.f1, d.f1⟩) o) n q ↔ HasP o n q ∨ (⟨n, q⟩ : S41) ∈ l) ∧ cnt (l.foldl (fun o d => addV o ⟨d.f0, d.f1, d.f1⟩) o) = cnt o + l.length
  | [], o, _, _, h3, h4, _ => ⟨h3, h4, fun n q => by simp, by simp⟩
  | d :: l, o, h1, h2, h3, h4, h5 => by
    rw [List.pairwise_cons] at h1
    have hd := h2 d (List.mem_cons_self ..)
    have hd' : 1 ≤ d.f0 ∧ d.f0 ≤ 200 ∧ 1 ≤ d.f1 ∧ d.f1 ≤ 2147483647 := by unfold okD at hd; exact of_decide_eq_true hd
    obtain ⟨c1, c2⟩ := addV_can (x := ⟨d.f0, d.f1, d.f1⟩) h3 (Int.le_refl _) (h5 d (List.mem_cons_self ..)) (bnd h4)
    have c3 := addV_ok (x := ⟨d.f0, d.f1, d.f1⟩) h4 (by unfold okI; simp; omega)
    have c4 := addV_cnt (x := ⟨d.f0, d.f1, d.f1⟩) (bnd h4)
    have hbeh : ∀ e ∈ l, Beh (addV o ⟨d.f0, d.f1, d.f1⟩) e.f0 e.f1 := fun e he s hs => by
      have hh : HasP (addV o ⟨d.f0, d.f1, d.f1⟩) s.f0 s.f2 := ⟨s, hs, rfl, can_mem c1 hs, Int.le_refl _⟩
      rcases (c2 _ _).1 hh with ⟨u, hu, a1, a2, a3⟩ | ⟨a1, a2, a3⟩
      · have := h5 e (List.mem_cons_of_mem _ he) u hu
        omega
      · have := h1.1 e he
        unfold ltDot at this
        have a1 : d.f0 = s.f0 := a1
        have a3 : s.f2 ≤ d.f1 := a3
        omega
    obtain ⟨d1, d2, d3, d4⟩ := dots_law l _ h1.2 (fun e he => h2 e (List.mem_cons_of_mem _ he)) c1 c3 hbeh
    refine ⟨d1, d2, fun n q => ?_, ?_⟩
    · rw [List.foldl_cons, d3, c2, List.mem_cons, or_assoc]
      have : (d.f0 = n ∧ d.f1 ≤ q ∧ q ≤ d.f1) ↔ (⟨n, q⟩ : S41) = d := by
        cases d
        simp only [S41.mk.injEq]
        constructor
        · rintro ⟨a, b, c⟩; exact ⟨a.symm, by omega⟩
        · rintro ⟨a, b⟩; exact ⟨a.symm, by omega, by omega⟩
      rw [show (((⟨d.f0, d.f1, d.f1⟩ : S60).f0 = n ∧ (⟨d.f0, d.f1, d.f1⟩ : S60).f1 ≤ q ∧ q ≤ (⟨d.f0, d.f1, d.f1⟩ : S60).f2) ↔ (⟨n, q⟩ : S41) = d) from this]
    · rw [List.foldl_cons, d4, c4, List.length_cons]
      show cnt o + (d.f1 - d.f1 + 1) + (l.length : Int) = cnt o + ((l.length + 1 : Nat) : Int)
      omega
theorem of_law (l : List S41) (h : ∀ d ∈ l, okD d = true) : Can (ofL l) ∧ (∀ s ∈ ofL l, okI s = true) ∧ (∀ n q, HasP (ofL l) n q ↔ (⟨n, q⟩ : S41) ∈ l) ∧ cnt (ofL l) = (sortV l).length := by
  obtain ⟨h1, h2⟩ := sort_law l
  obtain ⟨d1, d2, d3, d4⟩ := dots_law (sortV l) [] h1 (fun d hd => h d ((h2 d).1 hd)) trivial (fun s hs => by cases hs) (fun d _ s hs => by cases hs)
  refine ⟨d1, d2, fun n q => ?_, by unfold ofL; rw [d4]; simp [cnt]⟩
  unfold ofL
  rw [d3, h2]
  simp [has_nil]
end Go.Proofs.YtdelfhahbngcfaaX.P07
end
section
namespace Go.Proofs.YtdelfhahbngcfaaX.P07
open Go.RowKit Go.Proofs.YtdelfhahbngcfaaW.PrintWords Go.Proofs.YtdelfhahbngcfaaW.PrintLast Go.Proofs.YtdelfhahbngcfaaW.PrintMore
set_option linter.unusedVariables false
set_option linter.unusedSimpArgs false
section
variable {α β : Type} {f g : Nat → Option α} {r : α}
theorem ev_pos {c : Prop} [Decidable c] (hc : c) (h : Ev g r) : Ev (fun k => if c then g k else f k) r := Ev.congr (fun _ => if_pos hc) h
theorem ev_neg {c : Prop} [Decidable c] (hc : ¬ c) (h : Ev f r) : Ev (fun k => if c then g k else f k) r := Ev.congr (fun _ => if_neg hc) h
theorem ev_some {a : β} {f : Nat → β → Option α} (h : Ev (fun k => f k a) r) : Ev (fun k => (some a).bind (f k)) r := Ev.congr (fun _ => rfl) h
end
theorem w64 {a : Int} (h : -9223372036854775808 ≤ a ∧ a ≤ 9223372036854775807) : wrap64 a = a := by unfold wrap64; omega
instance : DecidableEq S60 := fun a b => decidable_of_iff (a.f0 = b.f0 ∧ a.f1 = b.f1 ∧ a.f2 = b.f2) (by cases a; cases b; simp)
theorem rd_at {l : List S60} {j : Nat} (h : j < l.length) : rd_T60 l (j : Int) = l[j] := by unfold rd_T60; simp [List.getD_eq_getElem?_getD, h]
theorem chk_step {l : List S60} {j : Nat} (hj : j < l.length) (h : chkTo l j) (h1 : okS60 l[j]) (h2 : ∀ p, 1 ≤ j → l[j - 1]? = some p → Aft p l[j]) : chkTo l (j + 1) := fun i s hi hs => by
  by_cases e : i = j
  · subst e
    have e2 : s = l[i] := by rw [List.getElem?_eq_getElem hj] at hs; exact (Option.some.inj hs).symm
    subst e2
    exact ⟨h1, h2⟩
  · exact h i s (by omega) hs
theorem chk_bad {l : List S60} {j : Nat} (hj : j < l.length) (h : ¬ (okS60 l[j] ∧ ∀ p, 1 ≤ j → l[j - 1]? = some p → Aft p l[j])) : ¬ chkTo l l.length := fun hc => h (hc j l[j] hj (List.getElem?_eq_getElem hj))
open Classical in
noncomputable def chkV (l : List S60) : Int := if Chk l then 0 else 2
open Classical in
theorem check_loop (l : List S60) (hl : l.length < 1000000) : ∀ (d j : Nat), j + d = l.length → chkTo l j → Ev (fun k => past_Check.l0 k l l (l.length : Int) (j : Int)) (if chkTo l l.length then 0 else 2)
  | 0, j, hj, hc => by
    obtain rfl : j = l.length := by omega
    rw [if_pos hc]
    refine Ev.step (fun _ => rfl) ?_
    simp only [past_Check.l0]
    exact ev_neg (by omega) (Ev.now 0)
  | d + 1, j, hj, hc => by
    have hjl : j < l.length := by omega
    have ih := check_loop l hl d (j + 1) (by omega)
    obtain ⟨x, hx⟩ : ∃ x, x = l[j] := ⟨_, rfl⟩
    have hrd : rd_T60 l (j : Int) = x := by rw [rd_at hjl, hx]
    have hw : wrap64 ((j : Int) + 1) = ((j + 1 : Nat) : Int) := w64 (by omega)
    have bad : okS60 x → ¬ (∀ p, 1 ≤ j → l[j - 1]? = some p → Aft p x) → ¬ chkTo l l.length := fun _ h => chk_bad hjl (by rw [← hx]; exact fun hh => h hh.2)
    have key : ∀ b : Bool, (b = true → ¬ okS60 x) → (b = false → okS60 x) → Ev (fun k => past_Check.j1 k l (j : Int) l (l.length : Int) (j : Int) b x.f0 x.f1 x.f2) (if chkTo l l.length then 0 else 2) := by
      intro b hb1 hb2
      cases b with
      | true =>
        rw [if_neg (chk_bad hjl (by rw [← hx]; exact fun hh => hb1 rfl hh.1))]
        refine Ev.step (fun _ => rfl) ?_
        simp only [past_Check.j1]
        first | exact ev_pos trivial (Ev.now 2) | exact Ev.now 2
      | false =>
        have hok := hb2 rfl
        refine Ev.step (fun _ => rfl) ?_
        simp only [past_Check.j1]
        refine ev_neg (by decide) ?_
        by_cases h0 : j = 0
        · refine ev_neg (by omega) ?_
          rw [hw]
          refine ih (chk_step hjl hc (by rw [← hx]; exact hok) (fun p h => by omega))
        · refine ev_pos (by omega) ?_
          have e1 : wrap64 ((j : Int) - 1) = ((j - 1 : Nat) : Int) := by rw [w64 (by omega)]; omega
          have hp : j - 1 < l.length := by omega
          have hrp : rd_T60 l ((j - 1 : Nat) : Int) = l[j - 1] := rd_at hp
          have hpk := (hc (j - 1) l[j - 1] (by omega) (List.getElem?_eq_getElem hp)).1
          obtain ⟨p, hpe⟩ : ∃ p, p = l[j - 1] := ⟨_, rfl⟩
          rw [← hpe] at hrp hpk
          have hpo : l[j - 1]? = some p := by rw [hpe]; exact List.getElem?_eq_getElem hp
          rw [e1, hrp]
          have e2 : wrap64 (p.f2 + 1) = p.f2 + 1 := w64 (by unfold okS60 at hpk; omega)
          rw [e2]
          have nb : ¬ Aft p x → Ev (fun _ : Nat => some (2 : Int)) (if chkTo l l.length then 0 else 2) := fun h => by
            rw [if_neg (bad hok (fun hh => h (hh p (by omega) hpo)))]
            exact Ev.now 2
          have go : Aft p x → Ev (fun k => past_Check.l0 k l l (l.length : Int) (wrap64 ((j : Int) + 1))) (if chkTo l l.length then 0 else 2) := fun h => by
            rw [hw]
            exact ih (chk_step hjl hc (by rw [← hx]; exact hok) (fun p' _ hp' => by
              rw [hpo] at hp'
              obtain rfl := Option.some.inj hp'
              rw [← hx]; exact h))
          refine ev_pos (by omega) (ev_pos (by omega) ?_)
          unfold Aft at nb go
          by_cases h1 : x.f0 < p.f0
          · exact ev_pos h1 (nb (by omega))
          refine ev_neg h1 ?_
          by_cases h2 : x.f0 = p.f0
          · refine ev_pos h2 ?_
            by_cases h3 : x.f1 ≤ p.f2 + 1
            · exact ev_pos h3 (nb (by omega))
            · exact ev_neg h3 (go (by omega))
          · exact ev_neg h2 (go (by omega))
    refine Ev.step (fun _ => rfl) ?_
    simp only [past_Check.l0]
    rw [hrd]
    refine ev_pos (by omega) (ev_pos (by omega) (ev_pos (by omega) ?_))
    by_cases h1 : x.f0 < 1
    · exact ev_pos h1 (key true (fun _ h => by unfold okS60 at h; omega) (fun h => by cases h))
    refine ev_neg h1 ?_
    by_cases h2 : x.f0 > 200
    · exact ev_pos h2 (key true (fun _ h => by unfold okS60 at h; omega) (fun h => by cases h))
    refine ev_neg h2 ?_
    by_cases h3 : x.f1 < 1
    · exact ev_pos h3 (key true (fun _ h => by unfold okS60 at h; omega) (fun h => by cases h))
    refine ev_neg h3 ?_
    by_cases h4 : x.f1 > x.f2
    · exact ev_pos h4 (key true (fun _ h => by unfold okS60 at h; omega) (fun h => by cases h))
    refine ev_neg h4 ?_
    exact key _ (fun h hh => by have := of_decide_eq_true h; unfold okS60 at hh; omega) (fun h => by have := of_decide_eq_false h; unfold okS60; omega)
open Classical in
theorem check_ev (l : List S60) (hl : l.length < 1000000) : Ev (fun k => past_Check.f k l) (chkV l) := by
  unfold past_Check.f chkV
  by_cases h : (l.length : Int) > 4000
  · rw [if_neg (fun hc : Chk l => by have := hc.1; omega)]
    exact ev_pos h (Ev.now 2)
  · refine ev_neg h ?_
    have := check_loop l hl l.length 0 (by omega) (fun i s hi => absurd hi (by omega))
    have e : Chk l ↔ chkTo l l.length := ⟨fun h => h.2, fun hh => ⟨by omega, hh⟩⟩
    by_cases hc : chkTo l l.length
    · rw [if_pos hc] at this
      rw [if_pos (e.2 hc)]
      exact this
    · rw [if_neg hc] at this
      rw [if_neg (fun h => hc (e.1 h))]
      exact this
theorem same_loop (a b : List S60) (hab : a.length = b.length) (hl : a.length < 1000000) : ∀ (d j : Nat), j + d = a.length → Ev (fun k => tributarykit_SameSpans.l0 k a b (j : Int)) (decide (a.drop j = b.drop j))
  | 0, j, hj => by
    rw [List.drop_of_length_le (by omega), List.drop_of_length_le (by omega)]
    refine Ev.step (fun _ => rfl) ?_
    simp only [tributarykit_SameSpans.l0]
    exact ev_neg (by omega) (by simpa using Ev.now true)
  | d + 1, j, hj => by
    have h1 : j < a.length := by omega
    have h2 : j < b.length := by omega
    have ih := same_loop a b hab hl d (j + 1) (by omega)
    refine Ev.step (fun _ => rfl) ?_
    simp only [tributarykit_SameSpans.l0]
    refine ev_pos (by omega) (ev_pos (by omega) (ev_pos (by omega) ?_))
    rw [rd_at h1, rd_at h2, w64 (by omega : -9223372036854775808 ≤ (j : Int) + 1 ∧ (j : Int) + 1 ≤ 9223372036854775807), show (j : Int) + 1 = ((j + 1 : Nat) : Int) by omega]
    have e : (a.drop j = b.drop j) ↔ (a[j] = b[j] ∧ a.drop (j + 1) = b.drop (j + 1)) := by
      rw [List.drop_eq_getElem_cons h1, List.drop_eq_getElem_cons h2, List.cons.injEq]
    have eq60 : ∀ x y : S60, (!(x.f0 == y.f0) || (!(x.f1 == y.f1) || (!(x.f2 == y.f2)))) = true ↔ ¬ x = y := by
      intro x y
      cases x; cases y
      simp only [S60.mk.injEq]
      simp
      omega
    by_cases hx : a[j] = b[j]
    · refine ev_neg (fun h => (eq60 _ _).1 h hx) ?_
      have : decide (a.drop j = b.drop j) = decide (a.drop (j + 1) = b.drop (j + 1)) := by
        rw [decide_eq_decide, e]; simp [hx]
      rw [this]; exact ih
    · refine ev_pos ((eq60 _ _).2 hx) ?_
      have : decide (a.drop j = b.drop j) = false := by rw [decide_eq_false_iff_not, e]; exact fun h => hx h.1
      rw [this]; exact Ev.now false
theorem same_ev (a b : List S60) (hl : a.length < 1000000) : Ev (fun k => tributarykit_SameSpans.f k a b) (decide (a = b)) := by
  unfold tributarykit_SameSpans.f
  by_cases h : a.length = b.length
  · refine ev_pos (by omega) ?_
    have := same_loop a b h hl a.length 0 (by omega)
    simpa using this
  · refine ev_neg (by omega) ?_
    have : decide (a = b) = false := by rw [decide_eq_false_iff_not]; exact fun e => h (by rw [e])
    rw [this]; exact Ev.now false
end Go.Proofs.YtdelfhahbngcfaaX.P07
end
