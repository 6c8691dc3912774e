/- Words, walks and plain laws for the row, packed: each text in a section of its own. Conditions stand with each theorem. -/
import Derived.Shelf.SlGeneric
import Derived.Shelf.SlSortCmp.NoneTotal
import Derived.Test.YtdelfhahbngcfaaProg
import Derived.Scope
import Derived.Deep.LoopGhost
import Derived.Deep.RegionHeld3
import Derived.Shelf.Abstract
import Derived.Shelf.RegionOpen
import Derived.Lib.Hide
import Derived.Lib.Small
import Derived.Lib.SlicesCompact
import Derived.Lib.SliceRun
import Derived.Deep.RegionLaw
import Derived.LoopIn
import Derived.LoopNIn
import Derived.OrdersHeld
import Derived.OrdersIn
import Derived.OwnWalkIn
import Derived.RangeFuncBound
import Derived.RangeFuncBox
import Derived.RangeFuncCalls
import Derived.RangeFuncLeaves
import Derived.RangeFuncNested
import Derived.TacticsInMore
import Derived.WalkLawsBesides
import Derived.WalkSpells
import Derived.Sort.QuietIn
import Derived.Deep.DrawnRows
import Derived.Deep.QuietTactic
import Derived.BigQuiet
import Derived.RegionTactic
import Derived.StillTailTactics
import Derived.Deep.DeepCutAuto
import Derived.Test.YtdelfhahbngcfaaKPastBytesa
import Derived.Test.YtdelfhahbngcfaaKPastBytesb
import Derived.Test.YtdelfhahbngcfaaKPastBytesc
section
namespace Go.Proofs.YtdelfhahbngcfaaX.P07
open Go.Shelf
def sortDot_ren : Go.Shelf.Ren := ⟨fun | 6 => 66 | 15 => 76 | 14 => 75 | 28 => 89 | 29 => 90 | 20 => 81 | 21 => 82 | 22 => 83 | 23 => 84 | 24 => 85 | 25 => 86 | 26 => 87 | 27 => 88 | 46 => 92 | 47 => 93 | 48 => 94 | 49 => 95 | 50 => 96 | 57 => 97 | n => n, fun | 22 => 47 | 24 => 41 | 25 => 82 | 3 => 3 | 39 => 62 | 0 => 0 | 53 => 107 | 55 => 109 | 4 => 4 | 46 => 100 | 45 => 99 | 50 => 104 | 5 => 5 | 9 => 9 | 66 => 111 | 70 => 115 | 76 => 117 | 77 => 118 | n => n, fun | n => n⟩
theorem sortDot : Go.Proofs.SlLaysF0.n6 Try.prog sortDot_ren := {
  mixed := by kernel_rfl
  f6 := ⟨Try.f66.name, by decide, Try.func66.trans (congrArg some (by kernel_rfl))⟩
  f14 := ⟨Try.f75.name, by decide, Try.func75.trans (congrArg some (by kernel_rfl))⟩
  f15 := Try.func76.trans (congrArg some (by kernel_rfl))
  f20 := ⟨Try.f81.name, by decide, Try.func81.trans (congrArg some (by kernel_rfl))⟩
  f21 := ⟨Try.f82.name, by decide, Try.func82.trans (congrArg some (by kernel_rfl))⟩
  f22 := ⟨Try.f83.name, by decide, Try.func83.trans (congrArg some (by kernel_rfl))⟩
  f23 := ⟨Try.f84.name, by decide, Try.func84.trans (congrArg some (by kernel_rfl))⟩
  f24 := ⟨Try.f85.name, by decide, Try.func85.trans (congrArg some (by kernel_rfl))⟩
  f25 := ⟨Try.f86.name, by decide, Try.func86.trans (congrArg some (by kernel_rfl))⟩
  f26 := ⟨Try.f87.name, by decide, Try.func87.trans (congrArg some (by kernel_rfl))⟩
  f27 := ⟨Try.f88.name, by decide, Try.func88.trans (congrArg some (by kernel_rfl))⟩
  f28 := Try.func89.trans (congrArg some (by kernel_rfl))
  f29 := Try.func90.trans (congrArg some (by kernel_rfl))
  f46 := ⟨Try.f92.name, by decide, Try.func92.trans (congrArg some (by kernel_rfl))⟩
  f47 := Try.func93.trans (congrArg some (by kernel_rfl))
  f48 := Try.func94.trans (congrArg some (by kernel_rfl))
  f49 := ⟨Try.f95.name, by decide, Try.func95.trans (congrArg some (by kernel_rfl))⟩
  f50 := ⟨Try.f96.name, by decide, Try.func96.trans (congrArg some (by kernel_rfl))⟩
  f57 := ⟨Try.f97.name, by decide, Try.func97.trans (congrArg some (by kernel_rfl))⟩
  t0 := Try.underlying0
  a0 := Try.isAgg0
  z0 := Try.sizeOf0
  v0 := Try.zeroValue0
  t3 := Try.underlying3
  a3 := Try.isAgg3
  z3 := Try.sizeOf3
  v3 := Try.zeroValue3
  t4 := Try.underlying4
  a4 := Try.isAgg4
  z4 := Try.sizeOf4
  v4 := Try.zeroValue4
  t5 := Try.underlying5
  a5 := Try.isAgg5
  z5 := Try.sizeOf5
  v5 := Try.zeroValue5
  t9 := Try.underlying9
  a9 := Try.isAgg9
  z9 := Try.sizeOf9
  v9 := Try.zeroValue9
  t22 := Try.underlying47
  a22 := Try.isAgg47
  z22 := Try.sizeOf47
  v22 := Try.zeroValue47
  t25 := Try.underlying82
  a25 := Try.isAgg82
  z25 := Try.sizeOf82
  v25 := Try.zeroValue82
  t39 := Try.underlying62
  a39 := Try.isAgg62
  z39 := Try.sizeOf62
  v39 := Try.zeroValue62
  t45 := Try.underlying99
  a45 := Try.isAgg99
  z45 := Try.sizeOf99
  v45 := Try.zeroValue99
  t46 := Try.underlying100
  a46 := Try.isAgg100
  z46 := Try.sizeOf100
  v46 := Try.zeroValue100
  t50 := Try.underlying104
  a50 := Try.isAgg104
  z50 := Try.sizeOf104
  v50 := Try.zeroValue104
  t53 := Try.underlying107
  a53 := Try.isAgg107
  z53 := Try.sizeOf107
  v53 := Try.zeroValue107
  t55 := Try.underlying109
  a55 := Try.isAgg109
  z55 := Try.sizeOf109
  v55 := Try.zeroValue109
  t66 := Try.underlying111
  a66 := Try.isAgg111
  z66 := Try.sizeOf111
  v66 := Try.zeroValue111
  t70 := Try.underlying115
  a70 := Try.isAgg115
  z70 := Try.sizeOf115
  v70 := Try.zeroValue115
  t76 := Try.underlying117
  a76 := Try.isAgg117
  z76 := Try.sizeOf117
  v76 := Try.zeroValue117
  t77 := Try.underlying118
  a77 := Try.isAgg118
  z77 := Try.sizeOf118
  v77 := Try.zeroValue118 }
end Go.Proofs.YtdelfhahbngcfaaX.P07
end
section
namespace Go.Proofs.YtdelfhahbngcfaaX.P07
open Go.RowKit Go.Shelf Go.Sort Go.Proofs.Ytdelfhahbngcfaa Go.Proofs.YtdelfhahbngcfaaW.PrintWords Go.Proofs.YtdelfhahbngcfaaW.PrintLast Go.Proofs.YtdelfhahbngcfaaW.PrintMore
set_option linter.unusedVariables false
set_option linter.unusedSimpArgs false
attribute [local go_sem] Oper.semAt_some
def ordD (x y : S41) : Int := if Lib.compareInt x.f0 y.f0 = 0 then Lib.compareInt x.f1 y.f1 else Lib.compareInt x.f0 y.f0
def c41 (x : S41) : List Value := [.int .i64 x.f0, .int .i64 x.f1]
theorem cmp_any (x y : Int) (w : World) :
    Calls Try.prog 78 #[.int .i64 x, .int .i64 y] w fun e w' => e = .returned (.int .i64 (Lib.compareInt x y)) ∧ w = w' := by
  go_enter Try.func78, Try.ntmps78
  go_wp2
  all_goals (go_ret; refine ⟨?_, rfl⟩; unfold Lib.compareInt; (repeat' split) <;> first | rfl | (exfalso; omega))
theorem or_any (x y : Int) (B : Nat) (w : World) (h0 : w.cell? ⟨B, 0, none⟩ = some (.int .i64 x)) (h1 : w.cell? ⟨B, 1, none⟩ = some (.int .i64 y)) :
    Calls Try.prog 77 #[.slice (some ⟨B, 0, none⟩) 2 2] w fun e w' => e = .returned (.int .i64 (if x = 0 then y else x)) ∧ w = w' := by
  by_cases hx : x = 0
  · subst hx
    rw [if_pos rfl]
    by_cases hy : y = 0
    · subst hy
      go_enter Try.func77, Try.ntmps77
      go_wp2
      go_loop [8] (fun i => ∃ k : Nat, k ≤ 2 ∧ i = .int .i64 k) (fun i => 2 - (intOf i).toNat)
      case atStart => exact ⟨0, by omega, rfl⟩
      case round =>
        obtain ⟨k, hk, rfl⟩ := hrel
        by_cases k0 : k = 0
        · subst k0
          go_wp2
          go_round
          case rel => exact ⟨1, by omega, rfl⟩
          case measure => simp [intOf]
        · by_cases k1 : k = 1
          · subst k1
            go_wp2
            go_round
            case rel => exact ⟨2, by omega, rfl⟩
            case measure => simp [intOf]
          · obtain rfl : k = 2 := by omega
            go_wp2
            go_ret
            exact ⟨rfl, rfl⟩
    · have g : (y != 0) = true := by simpa using hy
      go_enter Try.func77, Try.ntmps77
      go_wp2
      go_loop [8] (fun i => ∃ k : Nat, k ≤ 1 ∧ i = .int .i64 k) (fun i => 2 - (intOf i).toNat)
      case atStart => exact ⟨0, by omega, rfl⟩
      case round =>
        obtain ⟨k, hk, rfl⟩ := hrel
        by_cases k0 : k = 0
        · subst k0
          go_wp2
          go_round
          case rel => exact ⟨1, by omega, rfl⟩
          case measure => simp [intOf]
        · obtain rfl : k = 1 := by omega
          go_wp2
          go_ret
          exact ⟨rfl, rfl⟩
  · have g : (x != 0) = true := by simpa using hx
    rw [if_neg hx]
    go_enter Try.func77, Try.ntmps77
    go_wp2
    go_loop [8] (fun i => i = .int .i64 0) (fun i => 2 - (intOf i).toNat)
    case atStart => rfl
    case round =>
      subst hrel
      go_wp2
      go_ret
      exact ⟨rfl, rfl⟩
theorem bx (w : World) (T : Nat) (cs : Array Value) (T2 : Nat) (cs2 : Array Value) (j : Nat) (v : Value) (h : cs[j]? = some v) : ((w.alloc (.cells cs T)).alloc (.cells cs2 T2)).cell? ⟨w.heap.size, j, none⟩ = some v :=
  (YtdelfhahbngcfaaW.PrintWords.blk_cell (blk_alloc (blk_new w (.cells cs T)) (.cells cs2 T2)) j).trans h
set_option maxRecDepth 100000 in
set_option maxHeartbeats 4000000 in
theorem order_any (x y : S41) (w : World) :
    Calls Try.prog 67 #[.agg #[.int .i64 x.f0, .int .i64 x.f1], .agg #[.int .i64 y.f0, .int .i64 y.f1]] w fun e w' => e = .returned (.int .i64 (ordD x y)) ∧ ∃ q os, w' = grow (w.drewN q) os := by
  obtain ⟨a, b⟩ := x
  obtain ⟨c, d⟩ := y
  simp only []
  obtain ⟨V, hV⟩ : ∃ z, z = (w.alloc (.cells #[.int .i64 a, .int .i64 b] 41)).alloc (.cells #[.int .i64 c, .int .i64 d] 41) := ⟨_, rfl⟩
  have a0 : V.cell? ⟨w.heap.size, 0, none⟩ = some (.int .i64 a) := by rw [hV]; exact bx w _ _ _ _ 0 _ rfl
  have a1 : V.cell? ⟨w.heap.size, 1, none⟩ = some (.int .i64 b) := by rw [hV]; exact bx w _ _ _ _ 1 _ rfl
  have s1 : (w.alloc (.cells #[.int .i64 a, .int .i64 b] 41)).heap.size = w.heap.size + 1 := by simp
  have b0 : V.cell? ⟨w.heap.size + 1, 0, none⟩ = some (.int .i64 c) := by rw [hV, ← s1]; exact (YtdelfhahbngcfaaW.PrintWords.blk_cell (blk_new _ _) 0).trans rfl
  have b1 : V.cell? ⟨w.heap.size + 1, 1, none⟩ = some (.int .i64 d) := by rw [hV, ← s1]; exact (YtdelfhahbngcfaaW.PrintWords.blk_cell (blk_new _ _) 1).trans rfl
  have HV := Lib.hid hV
  have hbl : ∀ W : World, ∀ o, Below W.heap.size W (W.alloc o) := fun W o => (Below.refl _ W).alloc (Nat.le_refl _) o
  obtain ⟨O, hO⟩ : ∃ O, O = ordD ⟨a, b⟩ ⟨c, d⟩ := ⟨_, rfl⟩
  have HOR := Lib.hid (show Calls Try.prog 77 #[.slice (some ⟨V.heap.size, 0, none⟩) 2 2] (V.alloc (.cells #[.int .i64 (Lib.compareInt a c), .int .i64 (Lib.compareInt b d)] 3)).drew fun e w' => e = .returned (.int .i64 O) ∧ (V.alloc (.cells #[.int .i64 (Lib.compareInt a c), .int .i64 (Lib.compareInt b d)] 3)).drew = w' from by
    rw [hO]
    exact or_any _ _ V.heap.size _ ((YtdelfhahbngcfaaW.PrintWords.blk_cell (blk_new V (.cells #[.int .i64 (Lib.compareInt a c), .int .i64 (Lib.compareInt b d)] 3)) 0).trans rfl) ((YtdelfhahbngcfaaW.PrintWords.blk_cell (blk_new V (.cells #[.int .i64 (Lib.compareInt a c), .int .i64 (Lib.compareInt b d)] 3)) 1).trans rfl))
  rw [← hO]
  clear hO
  go_enter Try.func67, Try.ntmps67
  go_wp2_with fail
  rw [← hV]
  clear hV s1
  go_region_held3 (fun W => W.cell? ⟨w.heap.size, 0, none⟩ = some (.int .i64 a) ∧ W.cell? ⟨w.heap.size, 1, none⟩ = some (.int .i64 b) ∧ W.cell? ⟨w.heap.size + 1, 0, none⟩ = some (.int .i64 c) ∧ W.cell? ⟨w.heap.size + 1, 1, none⟩ = some (.int .i64 d))
    (first | exact ⟨a0, a1, b0, b1⟩ | exact ⟨below_cell (hbl V.drew _) a0, below_cell (hbl V.drew _) a1, below_cell (hbl V.drew _) b0, below_cell (hbl V.drew _) b1⟩)
    (first | (go_at_call 78; ((with_reducible refine (cmp_any _ _ _).mono ?_); rintro e wx ⟨rfl, rfl⟩)) | (go_at_call 77; ((with_reducible refine HOR.out.mono ?_); rintro e wx ⟨rfl, rfl⟩)))
  all_goals
    go_wp2_with fail
    go_ret
    refine ⟨rfl, 1, #[.cells #[.int .i64 a, .int .i64 b] 41, .cells #[.int .i64 c, .int .i64 d] 41, .cells #[.int .i64 (Lib.compareInt a c), .int .i64 (Lib.compareInt b d)] 3], ?_⟩
    rw [HV.out, alloc_eq_grow, alloc_eq_grow, alloc_eq_grow, grow_grow, grow_grow]
    rfl
end Go.Proofs.YtdelfhahbngcfaaX.P07
end
section
namespace Go.Proofs.YtdelfhahbngcfaaX.P07
open Go.RowKit Go.Shelf Go.Sort Go.Lib Go.Proofs.Ytdelfhahbngcfaa Go.Proofs.YtdelfhahbngcfaaW.PrintWords Go.Proofs.YtdelfhahbngcfaaW.PrintLast Go.Proofs.YtdelfhahbngcfaaW.PrintMore
set_option linter.unusedVariables false
set_option linter.unusedSimpArgs false
attribute [local go_sem] Oper.semAt_some
attribute [local go_sem high] eqA41
instance : Inhabited S41 := ⟨z41⟩
instance : DecidableEq S41 := fun x y => decidable_of_iff (x.f0 = y.f0 ∧ x.f1 = y.f1) (by cases x; cases y; simp)
theorem s41_ne {x y : S41} (h : x ≠ y) : (x.f0 == y.f0 && (x.f1 == y.f1)) = false := by
  cases e : (x.f0 == y.f0 && (x.f1 == y.f1)) with
  | false => rfl
  | true =>
    exfalso; apply h
    cases x; cases y
    simp_all
theorem s41_eq (x : S41) : (x.f0 == x.f0 && (x.f1 == x.f1)) = true := by simp
def RowB (w : World) (g cap : Nat) (d : Array S41) : Prop := ∃ cur : Array Value, Ytdelfhahbngcfaa.Blk w g 41 cur ∧ cur.size = cap * 2 ∧ ∀ j, j < d.size → cur[j * 2]? = some (.int .i64 d[j]!.f0) ∧ cur[j * 2 + 1]? = some (.int .i64 d[j]!.f1)
theorem RowB.cell {w : World} {g cap : Nat} {d : Array S41} (h : RowB w g cap d) {j : Nat} (hj : j < d.size) : w.cell? ⟨g, j * 2, none⟩ = some (.int .i64 d[j]!.f0) ∧ w.cell? ⟨g, j * 2 + 1, none⟩ = some (.int .i64 d[j]!.f1) := by
  obtain ⟨cur, hb, _, hc⟩ := h
  exact ⟨Ytdelfhahbngcfaa.blk_cell hb _ _ (hc j hj).1, Ytdelfhahbngcfaa.blk_cell hb _ _ (hc j hj).2⟩
theorem RowB.thaw {w : World} {g cap : Nat} {d : Array S41} (h : RowB w g cap d) (j : Nat) : w.frozen? ⟨g, j, none⟩ = false := by
  obtain ⟨cur, hb, _, _⟩ := h
  exact Ytdelfhahbngcfaa.blk_thawed hb j
theorem RowB.put {w : World} {g cap : Nat} {d : Array S41} (h : RowB w g cap d) (hd : d.size ≤ cap) {k : Nat} (hk : k < d.size) (x : S41) :
    RowB ((w.setCell ⟨g, k * 2, none⟩ (.int .i64 x.f0)).setCell ⟨g, k * 2 + 1, none⟩ (.int .i64 x.f1)) g cap (d.setIfInBounds k x) := by
  obtain ⟨cur, hb, hs, hc⟩ := h
  refine ⟨_, Ytdelfhahbngcfaa.blk_set (Ytdelfhahbngcfaa.blk_set hb _ _) _ _, by simpa using hs, fun j hj => ?_⟩
  have hj' : j < d.size := by simpa using hj
  obtain ⟨q0, q1⟩ := hc j hj'
  by_cases e : j = k
  · subst e
    have : (d.setIfInBounds j x)[j]! = x := getElem!_set_same d j x hj'
    rw [this]
    constructor
    · rw [Array.getElem?_setIfInBounds, if_neg (by omega), Array.getElem?_setIfInBounds, if_pos rfl, if_pos (by omega)]
    · rw [Array.getElem?_setIfInBounds, if_pos rfl, if_pos (by simp; omega)]
  · have : (d.setIfInBounds k x)[j]! = d[j]! := by
      rw [getElem!_pos _ j hj, getElem!_pos _ j hj', Array.getElem_setIfInBounds, if_neg (Ne.symm e)]
    rw [this]
    constructor
    · rw [Array.getElem?_setIfInBounds, if_neg (by omega), Array.getElem?_setIfInBounds, if_neg (by omega)]; exact q0
    · rw [Array.getElem?_setIfInBounds, if_neg (by omega), Array.getElem?_setIfInBounds, if_neg (by omega)]; exact q1
theorem RowB.clear {w : World} {g cap : Nat} {d : Array S41} (h : RowB w g cap d) : ∀ (vs : List Value) (o k : Nat), k * 2 ≤ o → k ≤ d.size → RowB (w.setCells g o vs) g cap (d.extract 0 k) := by
  obtain ⟨cur, hb, hs, hc⟩ := h
  intro vs
  suffices H : ∀ (vs : List Value) (o : Nat) (w : World) (cur : Array Value), Ytdelfhahbngcfaa.Blk w g 41 cur → ∃ cur', Ytdelfhahbngcfaa.Blk (w.setCells g o vs) g 41 cur' ∧ cur'.size = cur.size ∧ ∀ j, j < o → cur'[j]? = cur[j]? by
    intro o k ho hk
    obtain ⟨cur', b1, b2, b3⟩ := H vs o w cur hb
    refine ⟨cur', b1, by omega, fun j hj => ?_⟩
    have hj2 : j < k := by simp at hj; omega
    have e : (d.extract 0 k)[j]! = d[j]! := by
      rw [getElem!_pos _ j hj, getElem!_pos _ j (by omega)]; simp
    rw [e, b3 _ (by omega), b3 _ (by omega)]
    exact hc j (by omega)
  intro vs
  induction vs with
  | nil => exact fun o w cur hb => ⟨cur, hb, rfl, fun _ _ => rfl⟩
  | cons v r ih =>
    intro o w cur hb
    obtain ⟨cur', b1, b2, b3⟩ := ih (o + 1) _ _ (Ytdelfhahbngcfaa.blk_set hb o v)
    refine ⟨cur', b1, by simpa using b2, fun j hj => ?_⟩
    rw [b3 j (by omega), Array.getElem?_setIfInBounds, if_neg (by omega)]
theorem ch_cells (g : Nat) : ∀ (vs : List Value) (o : Nat) (w W : World), Ch (fun k => k = g) w W → Ch (fun k => k = g) w (W.setCells g o vs)
  | [], _, _, _, h => h
  | v :: r, o, w, W, h => ch_cells g r (o + 1) w _ (ch_one h o v)
theorem clear41 (ty : TypeId) (g o n c cap : Nat) (d : Array S41) (w : World) (h : RowB w g cap d) (hn : 0 < n) (hb : o + n * 2 ≤ cap * 2) :
    ∃ vs, (Builtin.clear_ #[47] ty #[.slice (some ⟨g, o, none⟩) n c]).run Try.prog w = .ok (.tuple #[]) (w.setCells g o vs) := by
  obtain ⟨cur, b1, b2, _⟩ := h
  refine ⟨(Builtin.zeroCells #[.int .i64 0, .int .i64 0] n).toList, ?_⟩
  have hlen : (Builtin.zeroCells #[.int .i64 0, .int .i64 0] n).toList.length = n * 2 := by simp [Builtin.zeroCells]
  have hst := run_storeCells_cells (P := Try.prog) g o (Builtin.zeroCells #[.int .i64 0, .int .i64 0] n).toList 0 w (fun j hj => by
      rw [hlen] at hj
      rw [Ytdelfhahbngcfaa.blk_cell b1 _ _ (Array.getElem?_eq_getElem (show o + 0 + j < cur.size by omega))]; rfl) (fun j _ => Ytdelfhahbngcfaa.blk_thawed b1 _) (by
      intro v hv
      have : v = .int .i64 0 := by
        simp only [Builtin.zeroCells, Array.toList_map, List.mem_map] at hv
        obtain ⟨i, _, hi⟩ := hv
        rw [← hi]
        have : i % 2 = 0 ∨ i % 2 = 1 := by omega
        rcases this with e | e <;> simp [e]
      rw [this]; rfl)
  simp only [Nat.add_zero] at hst
  obtain ⟨m, rfl⟩ : ∃ m, n = m + 1 := ⟨n - 1, by omega⟩
  simp [Builtin.clear_, run_underlying Try.underlying47, Try.zeroValue41]
  rw [show (Value.agg #[Value.int IntKind.i64 0, Value.int IntKind.i64 0]).cells = #[Value.int IntKind.i64 0, Value.int IntKind.i64 0] from rfl, hst]
  rfl
theorem ch_drewN {S : Nat → Prop} {w W : World} (h : Ch S w W) (q : Nat) : Ch S w (W.drewN q) := ⟨h.os, h.tape, h.output, h.size, h.block⟩
set_option maxRecDepth 100000 in
set_option maxHeartbeats 4000000 in
theorem compact_any (g cap : Nat) (d : Array S41) (w : World) (hB : RowB w g cap d) (hsz : d.size ≤ cap) (hcap : cap ≤ 9223372036854775807) :
    Calls Try.prog 68 #[.slice (some ⟨g, 0, none⟩) d.size cap] w fun e w' => e = .returned (.slice (some ⟨g, 0, none⟩) (compactUpTo d d.size).length cap) ∧ RowB w' g cap (compactUpTo d d.size).toArray ∧ Ch (fun k => k = g) w w' := by
  have HS := Lib.hid (show ∀ W, Ch (fun k => k = g) w W → RowB W g cap d → (∀ j, j < d.size → keeps d j = true) → (compactUpTo d d.size).length = d.size ∧ RowB W g cap (compactUpTo d d.size).toArray from fun W _ hR hall => by
    have e : compactUpTo d d.size = d.toList := by rw [compactUpTo_all d _ hall, range_map_get]
    rw [e]
    exact ⟨by simp, by simpa using hR⟩)
  have HB := Lib.hid hB
  clear hB
  by_cases h2 : d.size < 2
  · go_enter Try.func68, Try.ntmps68
    go_wp2
    go_ret
    obtain ⟨e1, e2⟩ := HS.out w (Ch.refl _ _) HB.out (fun j hj => keeps_lt_one d j (by omega))
    exact ⟨by rw [e1]; rfl, e2, Ch.refl _ _⟩
  · go_enter Try.func68, Try.ntmps68
    go_wp2
    go_loopw [3] (fun s3 wr => ∃ k : Nat, 1 ≤ k ∧ k ≤ d.size ∧ s3 = .int .i64 k ∧ Hid (RowB wr g cap d ∧ Ch (fun k => k = g) w wr ∧ ∀ j, j < k → keeps d j = true)) (fun s3 _ => d.size - (intOf s3).toNat)
    case atStart => exact ⟨1, Nat.le_refl _, by omega, rfl, Lib.hid ⟨HB.out, Ch.refl _ _, keeps_lt_one d⟩⟩
    case round =>
      clear HB
      obtain ⟨k, hk1, hk, rfl, HI⟩ := hrel
      by_cases hlt : k < d.size
      · obtain ⟨c0, c1⟩ := HI.out.1.cell hlt
        obtain ⟨p0, p1⟩ := HI.out.1.cell (show k - 1 < d.size by omega)
        obtain ⟨x, hx⟩ : ∃ x, x = d[k]! := ⟨_, rfl⟩
        obtain ⟨y, hy⟩ : ∃ y, y = d[k - 1]! := ⟨_, rfl⟩
        rw [← hx] at c0 c1
        rw [← hy] at p0 p1
        by_cases hdup : x = y
        · have HK := Lib.hid (show keeps d k = false from keeps_neg (by omega) (by rw [← hx, ← hy]; exact hdup))
          subst hdup
          have he := s41_eq x
          clear hx hy
          go_wp2
          repeat (go_quiet (fail); try go_wp2)
          clear c0 c1 p0 p1
          have HD := Lib.hid (show ∀ q, RowB (wr.drewN q) g cap d ∧ Ch (fun k => k = g) w (wr.drewN q) ∧ CompInv d (k + 1) k d from fun q => ⟨HI.out.1, ch_drewN HI.out.2.1 q, CompInv.start HI.out.2.2 HK.out⟩)
          clear HI HK he
          go_loopw [3, 5] (fun s3 s5 ws => ∃ (kk k2 : Nat) (dk : Array S41), s3 = .int .i64 kk ∧ s5 = .int .i64 k2 ∧ 1 ≤ k2 ∧ k + k2 ≤ d.size ∧ Hid (RowB ws g cap dk ∧ Ch (fun k => k = g) w ws ∧ CompInv d (k + k2) kk dk)) (fun _ s5 _ => d.size - (k + (intOf s5).toNat))
          case atStart => exact ⟨k, 1, d, rfl, rfl, Nat.le_refl _, by omega, Lib.hid (HD.out _)⟩
          case round =>
            clear HD
            obtain ⟨kk, k2, dk, rfl, rfl, h1, hle, HJ⟩ := hrel
            have hkk := HJ.out.2.2.lt
            have hds := HJ.out.2.2.size
            by_cases hlt2 : k + k2 < d.size
            · obtain ⟨m0, m1⟩ := HJ.out.1.cell (show k + k2 < dk.size by omega)
              obtain ⟨p0, p1⟩ := HJ.out.1.cell (show k + k2 - 1 < dk.size by omega)
              obtain ⟨z0, z1⟩ := HJ.out.1.cell (show kk < dk.size by omega)
              have f0 := HJ.out.1.thaw (kk * 2)
              have f1 := HJ.out.1.thaw (kk * 2 + 1)
              rw [HJ.out.2.2.high (k + k2) (by omega), show (k + k2) * 2 = k * 2 + k2 * 2 by omega] at m0 m1
              rw [HJ.out.2.2.high (k + k2 - 1) (by omega), show (k + k2 - 1) * 2 = k * 2 + (k2 - 1) * 2 by omega] at p0 p1
              obtain ⟨u, hu⟩ : ∃ u, u = d[k + k2]! := ⟨_, rfl⟩
              obtain ⟨v, hv⟩ : ∃ v, v = d[k + k2 - 1]! := ⟨_, rfl⟩
              rw [← hu] at m0 m1
              rw [← hv] at p0 p1
              by_cases huv : u = v
              · have HN := Lib.hid (show ∀ q, RowB (wr.drewN q) g cap dk ∧ Ch (fun k => k = g) w (wr.drewN q) ∧ CompInv d (k + (k2 + 1)) kk dk from fun q => ⟨HJ.out.1, ch_drewN HJ.out.2.1 q, HJ.out.2.2.skip (keeps_neg (by omega) (by rw [← hu, ← hv]; exact huv))⟩)
                subst huv
                have he := s41_eq u
                clear hu hv HJ
                go_wp2
                repeat (go_quiet (fail); try go_wp2)
                go_roundw
                case rel => exact ⟨kk, k2 + 1, dk, rfl, by go_num, by omega, by omega, Lib.hid (HN.out _)⟩
                case measure => simp [intOf]; omega
              · have HN := Lib.hid (show ∀ q, RowB (((wr.drewN q).setCell ⟨g, kk * 2, none⟩ (.int .i64 u.f0)).setCell ⟨g, kk * 2 + 1, none⟩ (.int .i64 u.f1)) g cap (dk.setIfInBounds kk u) ∧ Ch (fun k => k = g) w (((wr.drewN q).setCell ⟨g, kk * 2, none⟩ (.int .i64 u.f0)).setCell ⟨g, kk * 2 + 1, none⟩ (.int .i64 u.f1)) ∧ CompInv d (k + (k2 + 1)) (kk + 1) (dk.setIfInBounds kk u) from fun q => ⟨RowB.put (w := wr.drewN q) HJ.out.1 (by omega) (by omega) u, ch_one (ch_one (ch_drewN HJ.out.2.1 q) _ _) _ _, by
                  have := HJ.out.2.2.keep hlt2 (keeps_pos (by rw [← hu, ← hv]; exact huv))
                  rwa [← hu] at this⟩)
                have he := s41_ne huv
                clear hu hv HJ
                go_wp2
                repeat (go_quiet (fail); try go_wp2)
                go_roundw
                case rel => exact ⟨kk + 1, k2 + 1, dk.setIfInBounds kk u, by go_num, by go_num, by omega, by omega, Lib.hid (HN.out _)⟩
                case measure => simp [intOf]; omega
            · have hend : k + k2 = d.size := by omega
              have HCL := Lib.hid (fun ty => clear41 ty g (kk * 2) (d.size - kk) (cap - kk) cap dk wr HJ.out.1 (by omega) (by omega))
              have HFIN := Lib.hid (show ∀ vs, (compactUpTo d d.size).length = kk ∧ RowB (wr.setCells g (kk * 2) vs) g cap (compactUpTo d d.size).toArray ∧ Ch (fun k => k = g) w (wr.setCells g (kk * 2) vs) from fun vs => by
                have hI := HJ.out.2.2
                rw [hend] at hI
                refine ⟨hI.len, ?_, ch_cells g vs _ _ _ HJ.out.2.1⟩
                have e : (compactUpTo d d.size).toArray = dk.extract 0 kk := by
                  apply Array.ext_getElem?
                  intro j
                  by_cases hj : j < kk
                  · have := hI.low j hj
                    rw [List.getElem?_toArray, this, Array.getElem?_extract]
                    rw [if_pos (by omega)]; simp [show j < dk.size by omega]
                  · have h1 : (compactUpTo d d.size).toArray.size ≤ j := by rw [List.size_toArray, hI.len]; omega
                    rw [Array.getElem?_eq_none h1, Array.getElem?_eq_none (by simp; omega)]
                rw [e]
                exact RowB.clear HJ.out.1 vs (kk * 2) kk (Nat.le_refl _) (by omega))
              clear HJ
              obtain ⟨vs, hcl⟩ := HCL.out 0
              go_wp2
              go_ret
              obtain ⟨f1, f2, f3⟩ := HFIN.out vs
              exact ⟨by rw [f1]; rfl, f2, f3⟩
        · have he := s41_ne hdup
          have HN := Lib.hid (show ∀ q, RowB (wr.drewN q) g cap d ∧ Ch (fun k => k = g) w (wr.drewN q) ∧ ∀ j, j < k + 1 → keeps d j = true from fun q => ⟨HI.out.1, ch_drewN HI.out.2.1 q, fun j hj => by
            by_cases e : j = k
            · subst e
              exact keeps_pos (by rw [← hx, ← hy]; exact hdup)
            · exact HI.out.2.2 j (by omega)⟩)
          clear hx hy HI
          go_wp2
          repeat (go_quiet (fail); try go_wp2)
          go_roundw
          case rel => exact ⟨k + 1, by omega, by omega, by go_num, Lib.hid (HN.out _)⟩
          case measure => simp [intOf]; omega
      · have : k = d.size := by omega
        subst this
        go_wp2
        go_ret
        obtain ⟨e1, e2⟩ := HS.out wr HI.out.2.1 HI.out.1 HI.out.2.2
        exact ⟨by rw [e1]; rfl, e2, HI.out.2.1⟩
end Go.Proofs.YtdelfhahbngcfaaX.P07
end
section
namespace Go.Proofs.YtdelfhahbngcfaaX.P07
open Go.RowKit Go.Shelf Go.Sort Go.Lib Go.Proofs.Ytdelfhahbngcfaa Go.Proofs.YtdelfhahbngcfaaW.PrintWords Go.Proofs.YtdelfhahbngcfaaW.PrintLast Go.Proofs.YtdelfhahbngcfaaW.PrintMore
set_option linter.unusedVariables false
set_option linter.unusedSimpArgs false
attribute [local go_sem] Oper.semAt_some
theorem k41_flat {W : World} (x : S41) (cs : List Value) (base : Nat) (ok : Nat → Prop) (h : k41.K W x cs) : k41.M W base ok x cs := by
  rw [k41_open h]
  exact k41_mkM _ _ _ _
theorem R41_empty (w : World) : Kd.R k41 41 (w.alloc (.cells #[] 41)) w.heap.size (fun _ => True) (.slice (some ⟨w.heap.size, 0, none⟩) 0 0) [] := by
  refine ⟨fun _ _ => trivial, [], ?_, by simp [Reps]⟩
  exact ⟨by simp, .inr ⟨w.heap.size, 0, #[], rfl, Nat.le_refl _, Go.heap_alloc_new w _, Nat.le_refl _, by simp [maxLen], by simp, by simp⟩⟩
set_option maxRecDepth 100000 in
set_option maxHeartbeats 1000000 in
theorem clone41 (A0 : Option Addr) (c0 : Nat) (l0 : List (S41)) (w : World) (hr0 : Kd.C k41 w A0 l0.length l0) (hc0 : l0.length ≤ c0) (hn : l0.length < 1000000) :
    Calls Try.prog 65 #[.slice A0 l0.length c0] w fun e w' => ∃ v0_ : Value, e = .returned (v0_) ∧ Kd.R k41 41 w' w.heap.size (fun _ => True) v0_ l0 ∧ Below w.heap.size w w' := by
  cases A0 with
  | none =>
    have h0 : l0.length = 0 := by
      rcases Nat.eq_zero_or_pos l0.length with h | h
      · exact h
      · obtain ⟨ad, e, _⟩ := hr0.2.2 h
        cases e
    obtain rfl : l0 = [] := List.eq_nil_of_length_eq_zero h0
    have he : ∀ w : World, (binOp .eql 47 (.slice none 0 c0) (.slice none 0 0)).run Try.prog w = .ok (.bool true) w := fun _ => rfl
    clear hr0 h0
    simp only [List.length_nil]
    go_enter Try.func65, Try.ntmps65
    go_wp2
    go_ret
    exact ⟨_, rfl, Kd.R_nil _ _ _ _ _, Below.refl _ _⟩
  | some a =>
    have he : ∀ w : World, (binOp .eql 47 (.slice (some a) l0.length c0) (.slice none 0 0)).run Try.prog w = .ok (.bool false) w := fun _ => rfl
    have hb0 : Below w.heap.size w (w.alloc (.cells #[] 41)) := (Below.refl _ w).alloc (Nat.le_refl _) _
    have HR := Lib.hid (Kd.C_below hr0 hb0)
    have HE := Lib.hid (R41_empty w); have HB := Lib.hid hb0
    clear hr0 hb0
    go_enter Try.func65, Try.ntmps65
    go_wp2_with (at_builtin; refine Kd.R_append_rows k41 (Rr := k41.K (w.alloc (.cells #[] 41))) (w0 := w) w.heap.size rfl (.tmp 5) (.tmp 6) 47 41 _ 16 rfl Try.underlying47 info41 rfl (by decide) (by decide) _ [] l0 _ _ _ (fun _ => True) (fun _ => False) rfl rfl HE.out HR.out (fun x cs h => k41_flat x cs _ _ h) (fun _ h => h.elim) (fun _ _ => trivial) HB.out HB.out.size (by simp; omega) ?_; intro v1 w1 ho hb hg hat; rw [List.nil_append] at ho; have HO := Lib.hid ho; have HB1 := Lib.hid hb; clear ho hb hg hat)
    go_ret
    exact ⟨_, rfl, HO.out, HB1.out⟩
theorem k60_flat {W : World} (x : S60) (cs : List Value) (base : Nat) (ok : Nat → Prop) (h : k60.K W x cs) : k60.M W base ok x cs := by
  rw [k60_open h]
  exact k60_mkM _ _ _ _
theorem ltD (x y : S41) : ltOf ordD x y = decide (x.f0 < y.f0 ∨ (x.f0 = y.f0 ∧ x.f1 < y.f1)) := by
  unfold ltOf ordD Lib.compareInt
  by_cases h1 : x.f0 < y.f0
  · simp [h1]
  · by_cases h2 : y.f0 < x.f0
    · simp [h1, h2]
      omega
    · have e : x.f0 = y.f0 := by omega
      simp [e]
      by_cases h3 : x.f1 < y.f1
      · simp [h3]
      · by_cases h4 : y.f1 < x.f1 <;> simp [h3, h4]
theorem swoD : SWO (ltOf ordD) where
  irrefl x := by rw [ltD]; simp
  trans x y z h1 h2 := by rw [ltD] at *; simp at *; omega
  ntrans x y z h1 h2 := by rw [ltD] at *; simp at *; omega
theorem totD (x y : S41) (h1 : ltOf ordD x y = false) (h2 : ltOf ordD y x = false) : x = y := by
  rw [ltD] at h1 h2
  simp at h1 h2
  cases x; cases y
  simp only [S41.mk.injEq]
  simp only [] at h1 h2
  omega
def srt (l : List S41) : List S41 := l.mergeSort fun x y => !(ltOf ordD) y x
def sortV (l : List S41) : List S41 := compactUpTo (srt l).toArray (srt l).length
theorem sort66 (g cap : Nat) (l : List S41) (w : World) (cur : Array Value) (hb : Ytdelfhahbngcfaa.Blk w g 41 cur) (hs : cur.size = cap * 2) (hl : l.length ≤ cap) (ht : cur.toList.take (l.length * 2) = l.flatMap c41) (hn : l.length < 1000000) :
    Calls Try.prog 66 #[.slice (some ⟨g, 0, none⟩) l.length cap, .func (.func 67) #[] #[]] w fun e w' => e = .returned (.tuple #[]) ∧ RowB w' g cap (srt l).toArray ∧ Ch (fun k => k = g) w w' := by
  have hlt := Ytdelfhahbngcfaa.blk_lt hb
  have get : ∀ j, j < l.length → ∀ c, c < 2 → cur[j * 2 + c]? = (c41 l[j]!)[c]? := by
    intro j hj c hc
    have h1 : (cur.toList.take (l.length * 2))[j * 2 + c]? = cur[j * 2 + c]? := by
      rw [List.getElem?_take, if_pos (by omega)]; simp
    rw [← h1, ht]
    clear h1 ht hb hs hl hn
    induction l generalizing j with
    | nil => exact absurd hj (by simp)
    | cons x r ih =>
      rw [List.flatMap_cons]
      cases j with
      | zero =>
        rw [List.getElem?_append_left (by simp [c41]; omega)]
        simp
      | succ j =>
        rw [List.getElem?_append_right (by simp [c41]; omega), show (j + 1) * 2 + c - (c41 x).length = j * 2 + c by simp [c41]; omega, ih j (by simpa using hj)]
        simp
  have hH : HoldsK c41 2 w g 0 l.toArray := by
    intro t ht2
    rw [size_flatK, List.size_toArray] at ht2
    have hj : t / 2 < l.length := by omega
    refine ⟨?_, Ytdelfhahbngcfaa.blk_thawed hb _⟩
    rw [get_flatK _ _ _ _ (by simpa using ht2), Nat.zero_add]
    have := get (t / 2) hj (t % 2) (by omega)
    rw [show t / 2 * 2 + t % 2 = t by omega] at this
    refine Ytdelfhahbngcfaa.blk_cell hb t _ (this.trans ?_)
    have e : l.toArray[t / 2]! = l[t / 2]! := by simp
    rw [e]
    have : t % 2 = 0 ∨ t % 2 = 1 := by omega
    rcases this with e2 | e2 <;> rw [e2] <;> rfl
  have eg : ∀ args w, (callFunc 67 args).run Try.prog w = .ok (.enter 67 args) w := enters_of Try.func67 (by kernel_rfl) rfl
  have hcmp : CmpLays Try.prog 67 #[] c41 2 ordD g 0 l.toArray.size w := fun m os dk hs x y => order_any x y _
  have hcon := AnyQ.slices_SortFunc_total sortDot 2 Try.isAgg41 Try.sizeOf41 c41 (fun _ => rfl) (fun x v hv => by simp [c41] at hv; rcases hv with rfl | rfl <;> rfl) ordD swoD 67 #[] g 0 cap l.toArray w eg hcmp hH hlt (by simp; omega) totD
  change Calls Try.prog 66 _ _ _ at hcon
  refine hcon.mono ?_
  rintro e w' ⟨rfl, n, os, rfl⟩
  refine ⟨rfl, ?_, ?_⟩
  · have hlen : (srt l).length = l.length := List.length_mergeSort _
    refine ⟨putCells id 0 (flatK c41 2 (srt l).toArray) cur, ?_, by simp [putCells, hs], fun j hj => ?_⟩
    · show (sortWorldK c41 2 w g 0 n (srt l).toArray os).heap[g]? = _
      unfold sortWorldK putRowK
      rw [heap_grow_old _ _ (by simpa [putRow, mapBlock, Sort.ahead] using hlt)]
      have hb' : w.heap[g]? = some (.cells cur 41 (0, 0)) := hb
      simp [putRow, mapBlock, Sort.ahead, Array.getElem?_modify, hb', onCells]
    · have hj2 : j < (srt l).length := by simpa using hj
      have hz : (flatK c41 2 (srt l).toArray).size = (srt l).length * 2 := by simp
      have at_ : ∀ c, c < 2 → (putCells id 0 (flatK c41 2 (srt l).toArray) cur)[j * 2 + c]? = some ((c41 (srt l).toArray[j]!)[c]!) := fun c hc => by
        unfold putCells
        rw [Array.getElem?_mapIdx, Array.getElem?_eq_getElem (show j * 2 + c < cur.size by omega)]
        simp only [Option.map_some]
        rw [if_pos (by omega), Nat.sub_zero, id, get_flatK _ _ _ _ (by simpa using (show j * 2 + c < (srt l).length * 2 by omega))]
        rw [show (j * 2 + c) / 2 = j by omega, show (j * 2 + c) % 2 = c by omega]
      exact ⟨at_ 0 (by omega), at_ 1 (by omega)⟩
  · refine ⟨rfl, rfl, rfl, ?_, fun k hk hn => ?_⟩
    · simp [sortWorldK, putRowK, putRow, mapBlock, Sort.ahead]
    · unfold sortWorldK putRowK
      rw [heap_grow_old _ _ (by simpa [putRow, mapBlock, Sort.ahead] using hk)]
      have : g ≠ k := fun e => hn e.symm
      simp [putRow, mapBlock, Sort.ahead, Array.getElem?_modify, this]
theorem compact_nil (A : Option Addr) (c : Nat) (w : World) : Calls Try.prog 68 #[.slice A 0 c] w fun e w' => e = .returned (.slice A 0 c) ∧ w = w' := by
  go_enter Try.func68, Try.ntmps68
  go_wp2
  go_ret
  exact ⟨rfl, rfl⟩
theorem c41_len (l : List S41) : (l.flatMap c41).length = l.length * 2 := by
  induction l with
  | nil => rfl
  | cons x r ih => rw [List.flatMap_cons, List.length_append, ih]; simp [c41]; omega
theorem reps41 : ∀ (l : List S41) (w : World) (base : Nat) (ok : Nat → Prop), Reps (k41.M w base ok) 2 l (l.flatMap c41)
  | [], _, _, _ => Reps.none _ _
  | x :: t, w, base, ok => Reps.front (k41_mkM _ _ _ x) rfl (reps41 t w base ok) rfl
theorem R_of_row {w : World} {base g cap : Nat} {l : List S41} (hb : base ≤ g) (h : RowB w g cap l.toArray) (hl : l.length ≤ cap) (hc : cap ≤ maxLen) : Kd.R k41 41 w base (fun _ => True) (.slice (some ⟨g, 0, none⟩) l.length cap) l := by
  obtain ⟨cur, b1, b2, b3⟩ := h
  refine ⟨fun _ _ => trivial, l.flatMap c41, ⟨c41_len l, .inr ⟨g, cap, cur, rfl, hb, b1, hl, hc, b2, ?_⟩⟩, reps41 l _ _ _⟩
  apply List.ext_getElem?
  intro t
  by_cases ht : t < l.length * 2
  · show (cur.toList.take (l.length * 2))[t]? = _
    rw [List.getElem?_take, if_pos ht, Array.getElem?_toList]
    obtain ⟨q0, q1⟩ := b3 (t / 2) (by simp; omega)
    have e : l.toArray[t / 2]! = l[t / 2]! := by simp
    rw [e] at q0 q1
    have key : ∀ (l : List S41) (j c : Nat), j < l.length → c < 2 → (l.flatMap c41)[j * 2 + c]? = (c41 l[j]!)[c]? := by
      intro l
      induction l with
      | nil => exact fun j c hj _ => absurd hj (by simp)
      | cons x r ih =>
        intro j c hj hc
        rw [List.flatMap_cons]
        cases j with
        | zero =>
          rw [List.getElem?_append_left (by simp [c41]; omega)]
          simp
        | succ j =>
          rw [List.getElem?_append_right (by simp [c41]; omega), show (j + 1) * 2 + c - (c41 x).length = j * 2 + c by simp [c41]; omega, ih j c (by simpa using hj) hc]
          simp
    have k2 := key l (t / 2) (t % 2) (by omega) (by omega)
    rw [show t / 2 * 2 + t % 2 = t by omega] at k2
    rw [k2]
    have : t % 2 = 0 ∨ t % 2 = 1 := by omega
    rcases this with e2 | e2
    · rw [show t / 2 * 2 = t by omega] at q0; rw [e2, q0]; rfl
    · rw [show t / 2 * 2 + 1 = t by omega] at q1; rw [e2, q1]; rfl
  · show (cur.toList.take (l.length * 2))[t]? = _
    rw [List.getElem?_eq_none (by simp; omega), List.getElem?_eq_none (by rw [c41_len]; omega)]
theorem row_of_R {w : World} {base : Nat} {v : Value} {l : List S41} (h : Kd.R k41 41 w base (fun _ => True) v l) : (v = .slice none 0 0 ∧ l = []) ∨
    ∃ g cap cur, v = .slice (some ⟨g, 0, none⟩) l.length cap ∧ base ≤ g ∧ Ytdelfhahbngcfaa.Blk w g 41 cur ∧ l.length ≤ cap ∧ cap ≤ maxLen ∧ cur.size = cap * 2 ∧ cur.toList.take (l.length * 2) = l.flatMap c41 := by
  obtain ⟨_, inner, ho, hr⟩ := h
  rcases ho.2 with ⟨rfl, h0⟩ | ⟨g, cap, cur, rfl, h2, h3, h4, h5, h6, h7⟩
  · exact .inl ⟨rfl, List.eq_nil_of_length_eq_zero h0⟩
  · refine .inr ⟨g, cap, cur, rfl, h2, h3, h4, h5, h6, h7.trans ?_⟩
    have key : ∀ (l : List S41) (cs : List Value) (ok : Nat → Prop), Reps (k41.M w base ok) 2 l cs → cs = l.flatMap c41 := by
      intro l
      induction l with
      | nil => exact fun cs ok h => List.eq_nil_of_length_eq_zero (by simpa using h.1)
      | cons x r ih =>
        intro cs ok h
        have h0 := h.2 0 x rfl
        have hl := h.1
        rw [Nat.zero_mul, List.drop_zero] at h0
        have e0 := k41_openM h0
        have hr : Reps (k41.M w base ok) 2 r (cs.drop 2) := ⟨by rw [List.length_drop, hl, List.length_cons]; omega, fun j p hp => by
          have := h.2 (j + 1) p (by simpa using hp)
          rw [List.drop_drop]
          rwa [show 2 + j * 2 = (j + 1) * 2 by omega]⟩
        have e1 := ih _ ok hr
        rw [List.flatMap_cons, ← e1]
        conv => lhs; rw [← List.take_append_drop 2 cs, e0]
        rfl
    exact key l inner _ hr
def dot_Sort.f (l0 : List S41) : Option (List S41) := if l0.length < 1000000 then some (sortV l0) else none
set_option maxHeartbeats 2000000 in
theorem dot_Sort.calls (A0 : Option Addr) (c0 : Nat) (l0 : List (S41)) (r : List S41) (w : World) (hr0 : Kd.C k41 w A0 l0.length l0) (hc0 : l0.length ≤ c0) (h : dot_Sort.f l0 = some r) :
    Calls Try.prog 45 #[.slice A0 l0.length c0] w fun e w' => ∃ v0_ : Value, e = .returned (v0_) ∧ Kd.R k41 41 w' w.heap.size (fun _ => True) v0_ r ∧ Below w.heap.size w w' := by
  unfold dot_Sort.f at h
  by_cases hn : l0.length < 1000000
  rotate_left
  · rw [if_neg hn] at h; cases h
  rw [if_pos hn] at h
  obtain rfl := Option.some.inj h
  have HC := Lib.hid (clone41 A0 c0 l0 w hr0 hc0 hn)
  have HREST := Lib.hid (show ∀ (v : Value) (w1 : World), Kd.R k41 41 w1 w.heap.size (fun _ => True) v l0 → Below w.heap.size w w1 →
      Calls Try.prog 66 #[v, .func (.func 67) #[] #[]] w1 fun e w2 => e = .returned (.tuple #[]) ∧ Calls Try.prog 68 #[v] w2 fun e w' => ∃ v0_ : Value, e = .returned v0_ ∧ Kd.R k41 41 w' w.heap.size (fun _ => True) v0_ (sortV l0) ∧ Below w.heap.size w w' from fun v w1 ho hb1 => by
    rcases row_of_R ho with ⟨rfl, rfl⟩ | ⟨g, cap, cur, rfl, hg, hb, hl, hcm, hs, ht⟩
    · refine (AnyF.slices_SortFunc_none sortDot none 0 _ w1).mono ?_
      rintro e w2 ⟨rfl, rfl⟩
      refine ⟨rfl, (compact_nil none 0 w2).mono ?_⟩
      rintro e w3 ⟨rfl, rfl⟩
      exact ⟨_, rfl, by simpa [sortV, srt, compactUpTo] using Kd.R_nil _ _ _ _ _, hb1⟩
    · refine (sort66 g cap l0 w1 cur hb hs hl ht hn).mono ?_
      rintro e w2 ⟨rfl, hrow, hch⟩
      refine ⟨rfl, ?_⟩
      have hlen : (srt l0).length = l0.length := List.length_mergeSort _
      have hsz : (srt l0).toArray.size = l0.length := by simpa using hlen
      have := compact_any g cap (srt l0).toArray w2 hrow (by omega) (by simpa only [maxLen] using hcm)
      rw [hsz] at this
      refine this.mono ?_
      rintro e w3 ⟨rfl, hrow2, hch2⟩
      have hle : (compactUpTo (srt l0).toArray (srt l0).length).length ≤ l0.length := by
        unfold compactUpTo
        rw [List.length_map]
        exact Nat.le_trans (List.length_filter_le _ _) (by simp [hlen])
      refine ⟨_, rfl, ?_, ?_⟩
      · have := R_of_row (l := sortV l0) hg (by unfold sortV; rw [hlen]; exact hrow2) (by unfold sortV; omega) hcm
        unfold sortV at this ⊢
        rw [hlen] at this ⊢
        exact this
      · have h3 := hch.trans hch2 (fun _ h => .inl h)
        have h4 := h3.below (B := w.heap.size) hb1.size (fun k hk => by rw [hk]; exact hg)
        exact hb1.trans h4)
  clear hr0 h
  go_enter Try.func45, Try.ntmps45
  go_wp2_with first | (go_at_call 65; refine HC.out.mono ?_; rintro e w1 ⟨v1, rfl, ho, hb⟩; have HS := Lib.hid (HREST.out v1 w1 ho hb); clear ho hb) | (go_at_call 66; refine HS.out.mono ?_; rintro e w2 ⟨rfl, hcm⟩; have HCM := Lib.hid hcm; clear hcm) | (go_at_call 68; refine HCM.out.mono ?_; rintro e w3 ⟨v3, rfl, ho, hb⟩; have HO := Lib.hid ho; have HB := Lib.hid hb; clear ho hb)
  go_ret
  exact ⟨_, rfl, HO.out, HB.out⟩
end Go.Proofs.YtdelfhahbngcfaaX.P07
end
section
namespace Go.Proofs.YtdelfhahbngcfaaX.P07
open Go.RowKit Go.Shelf Go.Sort Go.Lib Go.Proofs.Ytdelfhahbngcfaa Go.Proofs.YtdelfhahbngcfaaW.PrintWords Go.Proofs.YtdelfhahbngcfaaW.PrintLast Go.Proofs.YtdelfhahbngcfaaW.PrintMore
set_option linter.unusedVariables false
set_option linter.unusedSimpArgs false
attribute [local go_sem] Oper.semAt_some
def c60 (x : S60) : List Value := [.int .i64 x.f0, .int .i64 x.f1, .int .i64 x.f2]
def Own60 (w : World) (base : Nat) (v : Value) (xs : List S60) : Prop := w.ownsRow base 60 3 v xs.length (xs.flatMap c60)
theorem c60_len (l : List S60) : (l.flatMap c60).length = l.length * 3 := by
  induction l with
  | nil => rfl
  | cons x r ih => rw [List.flatMap_cons, List.length_append, ih]; simp [c60]; omega
theorem reps60 : ∀ (l : List S60) (w : World) (base : Nat) (ok : Nat → Prop), Reps (k60.M w base ok) 3 l (l.flatMap c60)
  | [], _, _, _ => Reps.none _ _
  | x :: t, w, base, ok => Reps.front (k60_mkM _ _ _ x) rfl (reps60 t w base ok) rfl
theorem R_of_own {w : World} {base : Nat} {v : Value} {l : List S60} (h : Own60 w base v l) : Kd.R k60 60 w base (fun _ => True) v l := ⟨fun _ _ => trivial, l.flatMap c60, h, reps60 l _ _ _⟩
theorem own_of_R {w : World} {base : Nat} {v : Value} {l : List S60} {ok : Nat → Prop} (h : Kd.R k60 60 w base ok v l) : Own60 w base v l := by
  obtain ⟨_, inner, ho, hr⟩ := h
  have key : ∀ (l : List S60) (cs : List Value) (ok : Nat → Prop), Reps (k60.M w base ok) 3 l cs → cs = l.flatMap c60 := by
    intro l
    induction l with
    | nil => exact fun cs ok h => List.eq_nil_of_length_eq_zero (by simpa using h.1)
    | cons x r ih =>
      intro cs ok h
      have h0 := h.2 0 x rfl
      have hl := h.1
      rw [Nat.zero_mul, List.drop_zero] at h0
      have e0 := k60_openM h0
      have hr : Reps (k60.M w base ok) 3 r (cs.drop 3) := ⟨by rw [List.length_drop, hl, List.length_cons]; omega, fun j p hp => by
        have := h.2 (j + 1) p (by simpa using hp)
        rw [List.drop_drop]
        rwa [show 3 + j * 3 = (j + 1) * 3 by omega]⟩
      have e1 := ih _ ok hr
      rw [List.flatMap_cons, ← e1]
      conv => lhs; rw [← List.take_append_drop 3 cs, e0]
      rfl
  have e := key l inner _ hr
  unfold Own60
  rw [← e]
  exact ho
theorem own_cells {w : World} {base : Nat} {v : Value} {l : List S60} (h : Own60 w base v l) (h0 : 0 < l.length) : ∃ g cap cur, v = .slice (some ⟨g, 0, none⟩) l.length cap ∧ base ≤ g ∧ Ytdelfhahbngcfaa.Blk w g 60 cur ∧ l.length ≤ cap ∧ cap ≤ maxLen ∧ cur.size = cap * 3 ∧
    ∀ j, j < l.length → cur[j * 3]? = some (.int .i64 (rd_T60 l (j : Int)).f0) ∧ cur[j * 3 + 1]? = some (.int .i64 (rd_T60 l (j : Int)).f1) ∧ cur[j * 3 + 2]? = some (.int .i64 (rd_T60 l (j : Int)).f2) := by
  rcases h.2 with ⟨_, h1⟩ | ⟨g, cap, cur, rfl, h2, h3, h4, h5, h6, h7⟩
  · omega
  · refine ⟨g, cap, cur, rfl, h2, h3, h4, h5, h6, fun j hj => ?_⟩
    have at_ : ∀ c, c < 3 → cur[j * 3 + c]? = (c60 (rd_T60 l (j : Int)))[c]? := fun c hc => by
      have h1 : (cur.toList.take (l.length * 3))[j * 3 + c]? = cur[j * 3 + c]? := by
        rw [List.getElem?_take, if_pos (by omega)]; simp
      rw [← h1, h7, flat_get c60 3 l (fun _ _ => rfl) j c hc]
      unfold rd_T60
      simp [List.getD_eq_getElem?_getD, hj]
    exact ⟨at_ 0 (by omega), at_ 1 (by omega), at_ 2 (by omega)⟩
def addV (out : List S60) (x : S60) : List S60 :=
  if 0 < out.length ∧ (rd_T60 out ((out.length : Int) - 1)).f0 = x.f0 ∧ wrap64 ((rd_T60 out ((out.length : Int) - 1)).f2 + 1) = x.f1 then
    out.dropLast ++ [⟨(rd_T60 out ((out.length : Int) - 1)).f0, (rd_T60 out ((out.length : Int) - 1)).f1, x.f2⟩]
  else out ++ [x]
def Swp (w : World) (B : Nat) (va vb vk vo : Value) : Prop := Ytdelfhahbngcfaa.Blk w B 76 #[va, vb, vk, vo]
def AddQ (w : World) (base B : Nat) (va vb vk vo : Value) (out : List S60) (e : Ending) (w' : World) : Prop :=
  e = .returned (.tuple #[]) ∧ ∃ vo', Swp w' B va vb vk vo' ∧ Own60 w' base vo' out ∧ Ch (fun k => k = B ∨ vo.ownBlock = some k) w w' ∧ (vo'.ownBlock = vo.ownBlock ∨ ∃ k, vo'.ownBlock = some k ∧ w.heap.size ≤ k)
set_option maxRecDepth 100000 in
set_option maxHeartbeats 4000000 in
theorem add_new (base B : Nat) (va vb vk vo : Value) (out : List S60) (x : S60) (w : World) (hB : Swp w B va vb vk vo) (ho : Own60 w base vo out) (hbase : base ≤ B) (hn : out.length < 1000000)
    (hno : ¬ (0 < out.length ∧ (rd_T60 out ((out.length : Int) - 1)).f0 = x.f0 ∧ wrap64 ((rd_T60 out ((out.length : Int) - 1)).f2 + 1) = x.f1)) :
    Calls Try.prog 60 #[.pointer (some ⟨B, 0, none⟩), .agg #[.int .i64 x.f0, .int .i64 x.f1, .int .i64 x.f2]] w (AddQ w base B va vb vk vo (out ++ [x])) := by
  have hBl := Ytdelfhahbngcfaa.blk_lt hB
  obtain ⟨V, hV⟩ : ∃ V, V = w.alloc (.cells #[.int .i64 x.f0, .int .i64 x.f1, .int .i64 x.f2] 60) := ⟨_, rfl⟩
  have hb : Below w.heap.size w V := by rw [hV]; exact (Below.refl _ w).alloc (Nat.le_refl _) _
  have hX : Ytdelfhahbngcfaa.Blk V w.heap.size 60 #[.int .i64 x.f0, .int .i64 x.f1, .int .i64 x.f2] := by rw [hV]; exact Ytdelfhahbngcfaa.blk_new w 60 _
  have hBV : Swp V B va vb vk vo := Ytdelfhahbngcfaa.blk_below hB hb
  have hoV : Own60 V base vo out := own_ch ho (Ch.of_below hb No) (fun _ _ => id)
  have x0 := Ytdelfhahbngcfaa.blk_cell hX 0 _ rfl
  have x1 := Ytdelfhahbngcfaa.blk_cell hX 1 _ rfl
  have x2 := Ytdelfhahbngcfaa.blk_cell hX 2 _ rfl
  have b3 := Ytdelfhahbngcfaa.blk_cell hBV 3 _ rfl
  have f3 := Ytdelfhahbngcfaa.blk_thawed hBV 3
  have hsz : V.heap.size = w.heap.size + 1 := by rw [hV]; simp
  obtain ⟨A, c, rfl, hrd, _⟩ := own_form ho
  have HO := Lib.hid hoV; have HB := Lib.hid hBV
  have HNE := Lib.hid (show ∀ k, (Value.slice A out.length c).ownBlock = some k → k ≠ B ∧ k < w.heap.size from fun k hk => by
    have h1 := ho.lt k hk
    refine ⟨fun e => ?_, h1.2⟩
    rcases ho.2 with ⟨h2, _⟩ | ⟨g, cap, cur, h2, h3, h4, _⟩
    · injection h2 with e1 _ _
      rw [e1] at hk; simp [Value.ownBlock] at hk
    · injection h2 with e1 _ _
      rw [e1] at hk
      have e2 : g = k := by simpa [Value.ownBlock] using hk
      rw [e2, e] at h4
      have h5 : w.heap[B]? = some (.cells #[va, vb, vk, .slice A out.length c] 76 (0, 0)) := hB
      rw [h4] at h5
      cases h5)
  have HBS := Lib.hid (show ∀ q : Nat, base ≤ (V.drewN q).drew.heap.size from fun q => by show base ≤ V.heap.size; omega)
  have HOD := Lib.hid (show ∀ q : Nat, Own60 (V.drewN q).drew base (.slice A out.length c) out from fun q => own_ch hoV (w' := (V.drewN q).drew) ⟨rfl, rfl, rfl, Nat.le_refl _, fun _ _ _ => rfl⟩ (S := No) (fun _ _ => id))
  have HS := Lib.hid (show ∀ W, Ch (fun k => (Value.slice A out.length c).ownBlock = some k) V W → W.cell? ⟨B, 3, none⟩ = some (.slice A out.length c) ∧ W.cell? ⟨w.heap.size, 0, none⟩ = some (.int .i64 x.f0) ∧ W.cell? ⟨w.heap.size, 1, none⟩ = some (.int .i64 x.f1) ∧ W.cell? ⟨w.heap.size, 2, none⟩ = some (.int .i64 x.f2) from fun W hW => by
    have hB' := Ytdelfhahbngcfaa.blk_ch hBV hW (fun e => (HNE.out B e).1 rfl)
    have hX' := Ytdelfhahbngcfaa.blk_ch hX hW (fun e => by have := (HNE.out _ e).2; omega)
    exact ⟨Ytdelfhahbngcfaa.blk_cell hB' 3 _ rfl, Ytdelfhahbngcfaa.blk_cell hX' 0 _ rfl, Ytdelfhahbngcfaa.blk_cell hX' 1 _ rfl, Ytdelfhahbngcfaa.blk_cell hX' 2 _ rfl⟩)
  have HB6 := Lib.hid (show ∀ W, Ch (fun k => (Value.slice A out.length c).ownBlock = some k) V W → W.frozen? ⟨B, 3, none⟩ = false from fun W hW => Ytdelfhahbngcfaa.blk_thawed (Ytdelfhahbngcfaa.blk_ch hBV hW (fun e => (HNE.out B e).1 rfl)) 3)
  have HFIN := Lib.hid (show ∀ (v2 : Value) (W : World), W.ownsRow base 60 3 v2 (out.length + 1) (out.flatMap c60 ++ [.int .i64 x.f0, .int .i64 x.f1, .int .i64 x.f2]) → Ch (fun k => (Value.slice A out.length c).ownBlock = some k) V W → (v2.ownBlock = (Value.slice A out.length c).ownBlock ∨ v2.ownBlock = some (V.drew.heap.size + 1)) →
      AddQ w base B va vb vk (.slice A out.length c) (out ++ [x]) (.returned (.tuple #[])) (W.setCell ⟨B, 3, none⟩ v2) from fun v2 W h1 h2 h3 => by
    have hB' := Ytdelfhahbngcfaa.blk_ch hBV h2 (fun e => (HNE.out B e).1 rfl)
    have hne : ∀ k, v2.ownBlock = some k → k ≠ B := fun k hk => by
      rcases h3 with e | e
      · exact (HNE.out k (e ▸ hk)).1
      · rw [e] at hk
        have : V.drew.heap.size + 1 = k := by simpa using hk
        have : V.drew.heap.size = V.heap.size := rfl
        omega
    refine ⟨rfl, v2, Ytdelfhahbngcfaa.blk_set hB' 3 v2, ?_, ?_, ?_⟩
    · have : Own60 W base v2 (out ++ [x]) := by
        unfold Own60
        rw [List.length_append, List.flatMap_append]
        simpa [c60] using h1
      exact own_ch this (Ch.setCell W ⟨B, 3, none⟩ v2) (fun k hk => hne k hk)
    · exact ((Ch.of_below hb (fun k => k = B ∨ (Value.slice A out.length c).ownBlock = some k)).trans h2 (fun k h => .inl (.inr h))).trans (Ch.setCell W ⟨B, 3, none⟩ v2) (fun k h => .inl (.inl h))
    · rcases h3 with e | e
      · exact .inl e
      · exact .inr ⟨_, e, by have : V.drew.heap.size = V.heap.size := rfl; omega⟩)
  have HQ := Lib.hid (show ∀ (q : Nat) (W6 : World), Ch (fun k => (Value.slice A out.length c).ownBlock = some k) (V.drewN q).drew W6 → Ch (fun k => (Value.slice A out.length c).ownBlock = some k) V W6 from fun q W6 h => ⟨h.os, h.tape, h.output, h.size, h.block⟩)
  have HAL := Lib.hid (show ∀ (q : Nat) (o : Obj), Ch (fun k => (Value.slice A out.length c).ownBlock = some k) V ((V.drewN q).drew.alloc o) from fun q o => HQ.out q _ (by have := Ch.alloc (V.drewN q).drew o No; exact ⟨this.os, this.tape, this.output, this.size, fun k hk _ => this.block k hk (fun h => h.elim)⟩))
  have HLAST := Lib.hid (show 0 < out.length → ∃ g cap, A = some ⟨g, 0, none⟩ ∧ c = cap ∧ V.cell? ⟨g, (out.length - 1) * 3, none⟩ = some (.int .i64 (rd_T60 out ((out.length : Int) - 1)).f0) ∧ V.cell? ⟨g, (out.length - 1) * 3 + 2, none⟩ = some (.int .i64 (rd_T60 out ((out.length : Int) - 1)).f2) from fun hp => by
    obtain ⟨g, cap, cur, e, g2, g3, g4, g5, g6, g7⟩ := own_cells hoV hp
    injection e with e1 _ e3
    obtain ⟨q0, _, q2⟩ := g7 (out.length - 1) (by omega)
    rw [show (((out.length - 1 : Nat)) : Int) = (out.length : Int) - 1 by omega] at q0 q2
    exact ⟨g, cap, e1, e3, Ytdelfhahbngcfaa.blk_cell g3 _ _ q0, Ytdelfhahbngcfaa.blk_cell g3 _ _ q2⟩)
  clear hoV hBV hX hb hrd HO HB ho hB
  subst hV
  by_cases h0 : out.length = 0
  · have e0 : out = [] := List.eq_nil_of_length_eq_zero h0
    subst e0
    simp only [List.length_nil, List.flatMap_nil] at *
    go_enter Try.func60, Try.ntmps60
    go_wp2_with fail
    have b3a : ((w.alloc (.cells #[.int .i64 x.f0, .int .i64 x.f1, .int .i64 x.f2] 60)).drew.alloc (.cells #[.int .i64 x.f0, .int .i64 x.f1, .int .i64 x.f2] 60)).cell? ⟨B, 3, none⟩ = some (.slice A 0 c) := (HS.out _ (HAL.out 0 (.cells #[.int .i64 x.f0, .int .i64 x.f1, .int .i64 x.f2] 60))).1
    go_region_law (refine step_add2 (w.alloc (.cells #[.int .i64 x.f0, .int .i64 x.f1, .int .i64 x.f2] 60)).drew rfl (.tmp 46) (.tmp 48) 22 rfl base 60 _ 3 24 Try.underlying22 info60 rfl (by decide) (.slice A 0 c) 0 [] (by rfl) (HOD.out 0) #[.int .i64 x.f0, .int .i64 x.f1, .int .i64 x.f2] 60 (by simp [Act.eval, Act.put]) rfl (by simp [Value.oneCell']) (by first | (simp [maxLen]; done) | (simp [maxLen]; omega)) (by omega) (HBS.out 0) ?_; intro v2 W6 hown2 hnn2 hch2 hat2; obtain ⟨A2, c2, rfl, -, -⟩ := own_form hown2; have HC6 := Lib.hid (HQ.out 0 _ hch2); have HOWN := Lib.hid hown2; have HAT := Lib.hid hat2; have b6 := HB6.out _ HC6.out; have q6 := (HS.out _ HC6.out).1; clear hown2 hnn2 hch2 hat2)
    all_goals exact bodyPost_end (results_none rfl _ _ _) rfl (HFIN.out _ _ HOWN.out HC6.out HAT.out)
  · obtain ⟨g, cap, rfl, rfl, l0, l2⟩ := HLAST.out (by omega)
    obtain ⟨la, hla⟩ : ∃ la, la = rd_T60 out ((out.length : Int) - 1) := ⟨_, rfl⟩
    rw [← hla] at l0 l2 hno
    have hNp : 0 < out.length := by omega
    by_cases h1 : la.f0 = x.f0
    · have h2 : wrap64 (la.f2 + 1) ≠ x.f1 := fun e => hno ⟨hNp, h1, e⟩
      have k1 : (la.f0 == x.f0) = true := by simpa using h1
      have k2 : (IntKind.i64.wrap (la.f2 + 1) == x.f1) = false := by rw [i64_w]; simpa using h2
      clear hno h1 h2 hla
      go_enter Try.func60, Try.ntmps60
      go_wp2_with fail
      go_region_held3 (fun W => W.cell? ⟨g, (out.length - 1) * 3, none⟩ = some (.int .i64 la.f0) ∧ W.cell? ⟨g, (out.length - 1) * 3 + 2, none⟩ = some (.int .i64 la.f2) ∧ W.cell? ⟨w.heap.size, 0, none⟩ = some (.int .i64 x.f0) ∧ W.cell? ⟨w.heap.size, 1, none⟩ = some (.int .i64 x.f1))
        (first | exact ⟨l0, l2, x0, x1⟩)
        (first | (go_at_call 999; skip))
      go_wp2_with fail
      have b3a : ((w.alloc (.cells #[.int .i64 x.f0, .int .i64 x.f1, .int .i64 x.f2] 60)).drew.drew.alloc (.cells #[.int .i64 x.f0, .int .i64 x.f1, .int .i64 x.f2] 60)).cell? ⟨B, 3, none⟩ = some (.slice (some ⟨g, 0, none⟩) out.length c) := (HS.out _ (HAL.out 1 (.cells #[.int .i64 x.f0, .int .i64 x.f1, .int .i64 x.f2] 60))).1
      go_region_law (refine step_add2 (w.alloc (.cells #[.int .i64 x.f0, .int .i64 x.f1, .int .i64 x.f2] 60)).drew.drew rfl (.tmp 46) (.tmp 48) 22 rfl base 60 _ 3 24 Try.underlying22 info60 rfl (by decide) (.slice (some ⟨g, 0, none⟩) out.length c) out.length (out.flatMap c60) (by rfl) (HOD.out 1) #[.int .i64 x.f0, .int .i64 x.f1, .int .i64 x.f2] 60 (by simp [Act.eval, Act.put]) rfl (by simp [Value.oneCell']) (by first | (simp [maxLen]; done) | (simp [maxLen]; omega)) (by omega) (HBS.out 1) ?_; intro v2 W6 hown2 hnn2 hch2 hat2; obtain ⟨A2, c2, rfl, -, -⟩ := own_form hown2; have HC6 := Lib.hid (HQ.out 1 _ hch2); have HOWN := Lib.hid hown2; have HAT := Lib.hid hat2; have b6 := HB6.out _ HC6.out; have q6 := (HS.out _ HC6.out).1; clear hown2 hnn2 hch2 hat2)
      all_goals exact bodyPost_end (results_none rfl _ _ _) rfl (HFIN.out _ _ HOWN.out HC6.out HAT.out)
    · have k1 : (la.f0 == x.f0) = false := by simpa using h1
      clear hno h1 hla
      go_enter Try.func60, Try.ntmps60
      go_wp2_with fail
      repeat (go_quiet (fail); try go_wp2_with fail)
      have b3a : (((w.alloc (.cells #[.int .i64 x.f0, .int .i64 x.f1, .int .i64 x.f2] 60)).drewN nq).drew.alloc (.cells #[.int .i64 x.f0, .int .i64 x.f1, .int .i64 x.f2] 60)).cell? ⟨B, 3, none⟩ = some (.slice (some ⟨g, 0, none⟩) out.length c) := (HS.out _ (HAL.out nq (.cells #[.int .i64 x.f0, .int .i64 x.f1, .int .i64 x.f2] 60))).1
      go_region_law (refine step_add2 ((w.alloc (.cells #[.int .i64 x.f0, .int .i64 x.f1, .int .i64 x.f2] 60)).drewN nq).drew rfl (.tmp 46) (.tmp 48) 22 rfl base 60 _ 3 24 Try.underlying22 info60 rfl (by decide) (.slice (some ⟨g, 0, none⟩) out.length c) out.length (out.flatMap c60) (by rfl) (HOD.out nq) #[.int .i64 x.f0, .int .i64 x.f1, .int .i64 x.f2] 60 (by simp [Act.eval, Act.put]) rfl (by simp [Value.oneCell']) (by first | (simp [maxLen]; done) | (simp [maxLen]; omega)) (by omega) (HBS.out nq) ?_; intro v2 W6 hown2 hnn2 hch2 hat2; obtain ⟨A2, c2, rfl, -, -⟩ := own_form hown2; have HC6 := Lib.hid (HQ.out nq _ hch2); have HOWN := Lib.hid hown2; have HAT := Lib.hid hat2; have b6 := HB6.out _ HC6.out; have q6 := (HS.out _ HC6.out).1; clear hown2 hnn2 hch2 hat2)
      all_goals exact bodyPost_end (results_none rfl _ _ _) rfl (HFIN.out _ _ HOWN.out HC6.out HAT.out)
theorem last_eq (out : List S60) (h : out ≠ []) : rd_T60 out ((out.length : Int) - 1) = out.getLast h := by
  unfold rd_T60
  have : 0 < out.length := List.length_pos_iff.2 h
  rw [show ((out.length : Int) - 1).toNat = out.length - 1 by omega, List.getD_eq_getElem?_getD, List.getElem?_eq_getElem (by omega), List.getLast_eq_getElem]
  rfl
theorem own_last {w : World} {base g c : Nat} {out : List S60} (h : Own60 w base (.slice (some ⟨g, 0, none⟩) out.length c) out) (hp : 0 < out.length) (z : Int) :
    Own60 (w.setCell ⟨g, (out.length - 1) * 3 + 2, none⟩ (.int .i64 z)) base (.slice (some ⟨g, 0, none⟩) out.length c) (out.dropLast ++ [⟨(rd_T60 out ((out.length : Int) - 1)).f0, (rd_T60 out ((out.length : Int) - 1)).f1, z⟩]) := by
  have hne : out ≠ [] := List.length_pos_iff.1 hp
  have hl : (out.dropLast ++ [(⟨(rd_T60 out ((out.length : Int) - 1)).f0, (rd_T60 out ((out.length : Int) - 1)).f1, z⟩ : S60)]).length = out.length := by simp; omega
  obtain ⟨I, hI⟩ : ∃ I, I = out.dropLast := ⟨_, rfl⟩
  obtain ⟨la, hla⟩ : ∃ la, la = rd_T60 out ((out.length : Int) - 1) := ⟨_, rfl⟩
  have ho : out = I ++ [la] := by rw [hI, hla, last_eq out hne]; exact (List.dropLast_concat_getLast hne).symm
  have hIl : I.length = out.length - 1 := by rw [hI]; simp
  rw [← hI, ← hla] at hl ⊢
  rcases h.2 with ⟨e, h1⟩ | ⟨g', cap, cur, e, h2, h3, h4, h5, h6, h7⟩
  · omega
  · injection e with e1 e2 e3
    injection e1 with e1
    injection e1 with e1
    subst e1; subst e3
    refine ⟨by rw [c60_len], .inr ⟨g, c, cur.setIfInBounds ((out.length - 1) * 3 + 2) (.int .i64 z), by rw [hl], h2, Ytdelfhahbngcfaa.blk_set h3 _ _, by omega, h5, by simpa using h6, ?_⟩⟩
    rw [hl, Array.toList_setIfInBounds, List.take_set, h7, ← hIl, ho, List.flatMap_append, List.flatMap_append, List.set_append_right _ _ (by rw [c60_len]; omega), c60_len]
    rw [show I.length * 3 + 2 - I.length * 3 = 2 by omega]
    rfl
set_option maxRecDepth 100000 in
set_option maxHeartbeats 4000000 in
theorem add_more (base B : Nat) (va vb vk vo : Value) (out : List S60) (x : S60) (w : World) (hB : Swp w B va vb vk vo) (ho : Own60 w base vo out) (hbase : base ≤ B) (hn : out.length < 1000000)
    (hp : 0 < out.length) (h1 : (rd_T60 out ((out.length : Int) - 1)).f0 = x.f0) (h2 : wrap64 ((rd_T60 out ((out.length : Int) - 1)).f2 + 1) = x.f1) :
    Calls Try.prog 60 #[.pointer (some ⟨B, 0, none⟩), .agg #[.int .i64 x.f0, .int .i64 x.f1, .int .i64 x.f2]] w (AddQ w base B va vb vk vo (out.dropLast ++ [⟨(rd_T60 out ((out.length : Int) - 1)).f0, (rd_T60 out ((out.length : Int) - 1)).f1, x.f2⟩])) := by
  have hBl := Ytdelfhahbngcfaa.blk_lt hB
  obtain ⟨V, hV⟩ : ∃ V, V = w.alloc (.cells #[.int .i64 x.f0, .int .i64 x.f1, .int .i64 x.f2] 60) := ⟨_, rfl⟩
  have hb : Below w.heap.size w V := by rw [hV]; exact (Below.refl _ w).alloc (Nat.le_refl _) _
  have hX : Ytdelfhahbngcfaa.Blk V w.heap.size 60 #[.int .i64 x.f0, .int .i64 x.f1, .int .i64 x.f2] := by rw [hV]; exact Ytdelfhahbngcfaa.blk_new w 60 _
  have hBV : Swp V B va vb vk vo := Ytdelfhahbngcfaa.blk_below hB hb
  have hoV : Own60 V base vo out := own_ch ho (Ch.of_below hb No) (fun _ _ => id)
  obtain ⟨g, cap, cur, rfl, g2, g3, g4, g5, g6, g7⟩ := own_cells hoV hp
  obtain ⟨q0, _, q2⟩ := g7 (out.length - 1) (by omega)
  rw [show (((out.length - 1 : Nat)) : Int) = (out.length : Int) - 1 by omega] at q0 q2
  have l0 := Ytdelfhahbngcfaa.blk_cell g3 _ _ q0
  have l2 := Ytdelfhahbngcfaa.blk_cell g3 _ _ q2
  have lf := Ytdelfhahbngcfaa.blk_thawed g3 ((out.length - 1) * 3 + 2)
  have x0 := Ytdelfhahbngcfaa.blk_cell hX 0 _ rfl
  have x1 := Ytdelfhahbngcfaa.blk_cell hX 1 _ rfl
  have x2 := Ytdelfhahbngcfaa.blk_cell hX 2 _ rfl
  have b3 := Ytdelfhahbngcfaa.blk_cell hBV 3 _ rfl
  have hgB : g ≠ B := fun e => by
    have h5 : V.heap[B]? = some (.cells #[va, vb, vk, .slice (some ⟨g, 0, none⟩) out.length cap] 76 (0, 0)) := hBV
    have h4 : V.heap[g]? = some (.cells cur 60 (0, 0)) := g3
    rw [e] at h4
    rw [h4] at h5
    cases h5
  have HFIN := Lib.hid (show ∀ q : Nat, AddQ w base B va vb vk (.slice (some ⟨g, 0, none⟩) out.length cap) (out.dropLast ++ [⟨(rd_T60 out ((out.length : Int) - 1)).f0, (rd_T60 out ((out.length : Int) - 1)).f1, x.f2⟩]) (.returned (.tuple #[])) ((V.drewN q).setCell ⟨g, (out.length - 1) * 3 + 2, none⟩ (.int .i64 x.f2)) from fun q => by
    have c1 : Ch (fun k => k = g) (V.drewN q) ((V.drewN q).setCell ⟨g, (out.length - 1) * 3 + 2, none⟩ (.int .i64 x.f2)) := Ch.setCell (V.drewN q) ⟨g, (out.length - 1) * 3 + 2, none⟩ (.int .i64 x.f2)
    refine ⟨rfl, _, Ytdelfhahbngcfaa.blk_ch (show Swp (V.drewN q) B va vb vk _ from hBV) c1 (fun e => hgB e.symm), own_last (w := V.drewN q) hoV hp x.f2, ?_, .inl rfl⟩
    have c0 : Ch (fun k => k = B ∨ (Value.slice (some ⟨g, 0, none⟩) out.length cap).ownBlock = some k) w (V.drewN q) := ⟨hb.os, hb.tape, hb.output, hb.size, fun k hk _ => hb.block k hk⟩
    exact c0.trans c1 (fun k hk => .inl (.inr (by rw [hk]; rfl))))
  clear g7 q0 q2 hoV hBV hX hb g3 hB ho
  obtain ⟨la, hla⟩ : ∃ la, la = rd_T60 out ((out.length : Int) - 1) := ⟨_, rfl⟩
  rw [← hla] at l0 l2 h1 h2 HFIN ⊢
  have k1 : (la.f0 == x.f0) = true := by simpa using h1
  have k2 : (IntKind.i64.wrap (la.f2 + 1) == x.f1) = true := by rw [i64_w]; simpa using h2
  clear h1 h2 hla
  subst hV
  go_enter Try.func60, Try.ntmps60
  go_wp2_with fail
  go_region_held3 (fun W => W.cell? ⟨g, (out.length - 1) * 3, none⟩ = some (.int .i64 la.f0) ∧ W.cell? ⟨g, (out.length - 1) * 3 + 2, none⟩ = some (.int .i64 la.f2) ∧ W.cell? ⟨w.heap.size, 0, none⟩ = some (.int .i64 x.f0) ∧ W.cell? ⟨w.heap.size, 1, none⟩ = some (.int .i64 x.f1))
    (first | exact ⟨l0, l2, x0, x1⟩)
    (first | (go_at_call 999; skip))
  go_wp2
  exact bodyPost_ret (results_none rfl _ _ _) rfl (HFIN.out 1)
theorem add_any (base B : Nat) (va vb vk vo : Value) (out : List S60) (x : S60) (w : World) (hB : Swp w B va vb vk vo) (ho : Own60 w base vo out) (hbase : base ≤ B) (hn : out.length < 1000000) :
    Calls Try.prog 60 #[.pointer (some ⟨B, 0, none⟩), .agg #[.int .i64 x.f0, .int .i64 x.f1, .int .i64 x.f2]] w (AddQ w base B va vb vk vo (addV out x)) := by
  unfold addV
  split
  · rename_i h
    exact add_more base B va vb vk vo out x w hB ho hbase hn h.1 h.2.1 h.2.2
  · rename_i h
    exact add_new base B va vb vk vo out x w hB ho hbase hn h
end Go.Proofs.YtdelfhahbngcfaaX.P07
end
section
namespace Go.Proofs.YtdelfhahbngcfaaX.P07
open Go.RowKit Go.Shelf Go.Sort Go.Lib Go.Proofs.Ytdelfhahbngcfaa Go.Proofs.YtdelfhahbngcfaaW.PrintWords Go.Proofs.YtdelfhahbngcfaaW.PrintLast Go.Proofs.YtdelfhahbngcfaaW.PrintMore
set_option linter.unusedVariables false
set_option linter.unusedSimpArgs false
attribute [local go_sem] Oper.semAt_some
theorem cells41 {w : World} {A : Option Addr} {n : Nat} {xs : List S41} (h : Kd.C k41 w A n xs) (hn : 0 < xs.length) : ∃ b off, A = some ⟨b, off, none⟩ ∧ ∀ i : Nat, i < xs.length →
    w.cell? ⟨b, off + i * 2, none⟩ = some (.int .i64 (rd_T41 xs i).f0) ∧ w.cell? ⟨b, off + i * 2 + 1, none⟩ = some (.int .i64 (rd_T41 xs i).f1) := by
  have hl : xs.length = n := h.1
  obtain ⟨ad, rfl, q0, _⟩ := at_T41 h 0 (by omega) (by omega)
  obtain ⟨b, off, rfl⟩ : ∃ b off, ad = ⟨b, off, none⟩ := by
    obtain ⟨b, off, sp⟩ := ad
    cases sp with
    | none => exact ⟨b, off, rfl⟩
    | some z => simp [World.cell?, Addr.add] at q0; split at q0 <;> simp_all
  refine ⟨b, off, rfl, fun i hi => ?_⟩
  obtain ⟨ad, e, r0, r1⟩ := at_T41 h (i : Int) (by omega) (by omega)
  cases e
  have hadd : (⟨b, off, none⟩ : Addr).add (i * 2) = ⟨b, off + i * 2, none⟩ := by unfold Addr.add; split <;> simp_all
  simp only [Int.toNat_natCast, hadd] at r0 r1
  exact ⟨r0, r1⟩
theorem RowB.ch {S : Nat → Prop} {w w' : World} {g cap : Nat} {d : Array S41} (h : RowB w g cap d) (hc : Ch S w w') (hS : ¬ S g) : RowB w' g cap d := by
  obtain ⟨cur, b1, b2, b3⟩ := h
  exact ⟨cur, Ytdelfhahbngcfaa.blk_ch b1 hc hS, b2, b3⟩
theorem rowB_of {w : World} {g cap : Nat} {l : List S41} {cur : Array Value} (hb : Ytdelfhahbngcfaa.Blk w g 41 cur) (hs : cur.size = cap * 2) (ht : cur.toList.take (l.length * 2) = l.flatMap c41) : RowB w g cap l.toArray := by
  refine ⟨cur, hb, hs, fun j hj => ?_⟩
  have hj' : j < l.length := by simpa using hj
  have at_ : ∀ c, c < 2 → cur[j * 2 + c]? = (c41 l[j]!)[c]? := fun c hc => by
    have h1 : (cur.toList.take (l.length * 2))[j * 2 + c]? = cur[j * 2 + c]? := by
      rw [List.getElem?_take, if_pos (by omega)]; simp
    rw [← h1, ht, flat_get c41 2 l (fun _ _ => rfl) j c hc]
    simp [hj']
  have e : l.toArray[j]! = l[j]! := by simp
  rw [e]
  exact ⟨at_ 0 (by omega), at_ 1 (by omega)⟩
theorem own_typ {w : World} {base : Nat} {v : Value} {l : List S60} (h : Own60 w base v l) {k : Nat} (hk : v.ownBlock = some k) : base ≤ k ∧ ∃ cur, w.heap[k]? = some (.cells cur 60 (0, 0)) := by
  rcases h.2 with ⟨rfl, _⟩ | ⟨g, cap, cur, rfl, h2, h3, _⟩
  · simp [Value.ownBlock] at hk
  · have e : g = k := by simpa [Value.ownBlock] using hk
    subst e
    exact ⟨h2, cur, h3⟩
def okD (d : S41) : Bool := decide (1 ≤ d.f0 ∧ d.f0 ≤ 200 ∧ 1 ≤ d.f1 ∧ d.f1 ≤ 2147483647)
theorem dchk_eq (a b : Int) : dot_Check.f a b = some (if okD ⟨a, b⟩ = true then 0 else 2) := by
  unfold dot_Check.f okD
  by_cases h1 : a < 1
  · rw [if_pos h1, if_neg (by simp; omega)]
  rw [if_neg h1]
  by_cases h2 : a > 200
  · rw [if_pos h2, if_neg (by simp; omega)]
  rw [if_neg h2]
  by_cases h3 : b < 1
  · rw [if_pos h3, if_neg (by simp; omega)]
  rw [if_neg h3]
  by_cases h4 : b > 2147483647
  · rw [if_pos h4, if_neg (by simp; omega)]
  rw [if_neg h4, if_pos (by simp; omega)]
def ofL (l : List S41) : List S60 := (sortV l).foldl (fun o d => addV o ⟨d.f0, d.f1, d.f1⟩) []
def ofV (l : List S41) : List S60 × Int := if l.all okD = true then (if 4000 < (ofL l).length then ([], 8) else (ofL l, 0)) else ([], 2)
theorem addV_len (o : List S60) (x : S60) : (addV o x).length ≤ o.length + 1 := by
  unfold addV
  split <;> simp <;> omega
theorem sortV_len (l : List S41) : (sortV l).length ≤ l.length := by
  unfold sortV compactUpTo
  rw [List.length_map]
  exact Nat.le_trans (List.length_filter_le _ _) (by simp [srt])
theorem ofL_len : ∀ (l : List S41) (o : List S60), (l.foldl (fun o d => addV o ⟨d.f0, d.f1, d.f1⟩) o).length ≤ o.length + l.length
  | [], o => Nat.le_refl _
  | d :: t, o => by
    have h1 := ofL_len t (addV o ⟨d.f0, d.f1, d.f1⟩)
    have h2 := addV_len o ⟨d.f0, d.f1, d.f1⟩
    simp only [List.foldl_cons, List.length_cons]
    omega
def past_Of.f (l0 : List S41) : Option (List S60 × Int) := if l0.length < 1000000 then some (ofV l0) else none
set_option maxRecDepth 100000 in
set_option maxHeartbeats 4000000 in
theorem past_Of.calls (A0 : Option Addr) (c0 : Nat) (l0 : List (S41)) (r1 : List S60) (r2 : Int) (w : World) (hr0 : Kd.C k41 w A0 l0.length l0) (hc0 : l0.length ≤ c0) (h : past_Of.f l0 = some (r1, r2)) :
    Calls Try.prog 31 #[.slice A0 l0.length c0] w fun e w' => ∃ v0_ : Value, e = .returned (.tuple #[v0_, .int .i64 r2]) ∧ Kd.R k60 60 w' w.heap.size (fun _ => True) v0_ r1 ∧ Below w.heap.size w w' := by
  unfold past_Of.f at h
  by_cases hn : l0.length < 1000000
  rotate_left
  · rw [if_neg hn] at h; cases h
  rw [if_pos hn] at h
  have hv : ofV l0 = (r1, r2) := Option.some.inj h
  have HV := Lib.hid hv
  have HR := Lib.hid hr0
  have HX := Lib.hid (fun h0 => cells41 hr0 h0)
  obtain ⟨N, hN⟩ : ∃ N, N = l0.length := ⟨_, rfl⟩
  have HN := Lib.hid hN
  clear h hv
  rw [← hN] at hn hc0 ⊢
  clear hN hr0
  go_enter Try.func31, Try.ntmps31
  have hb1 : Below w.heap.size w (w.alloc (.cells #[.slice none 0 0, .slice none 0 0, .nilFunc, .slice none 0 0] 76)) := (Below.refl _ w).alloc (Nat.le_refl _) _
  have HB1 := Lib.hid hb1
  have HS1 := Lib.hid (show Swp (w.alloc (.cells #[.slice none 0 0, .slice none 0 0, .nilFunc, .slice none 0 0] 76)) w.heap.size (.slice none 0 0) (.slice none 0 0) .nilFunc (.slice none 0 0) from Ytdelfhahbngcfaa.blk_new w 76 _)
  clear hb1
  go_wp2
  go_loopw [14] (fun i wr => ∃ k : Nat, k ≤ N ∧ i = .int .i64 k ∧ Hid ((l0.take k).all okD = true ∧ Below w.heap.size w wr ∧ w.heap.size < wr.heap.size ∧ Swp wr w.heap.size (.slice none 0 0) (.slice none 0 0) .nilFunc (.slice none 0 0))) (fun i _ => N - (intOf i).toNat)
  case atStart => exact ⟨0, Nat.zero_le _, rfl, Lib.hid ⟨rfl, HB1.out, by simp, HS1.out⟩⟩
  case round =>
    clear HB1 HS1
    obtain ⟨k, hk, rfl, HI⟩ := hrel
    by_cases hlt : k < N
    · have hkl : k < l0.length := by rw [← HN.out]; exact hlt
      obtain ⟨b, off, rfl, hc⟩ := HX.out (by omega)
      obtain ⟨q0, q1⟩ := hc k hkl
      obtain ⟨d, hd⟩ : ∃ d, d = rd_T41 l0 (k : Int) := ⟨_, rfl⟩
      rw [← hd] at q0 q1
      replace q0 := (HI.out.2.1.cell (World.block_lt_of_cell? w _ q0)).trans q0
      replace q1 := (HI.out.2.1.cell (World.block_lt_of_cell? w _ q1)).trans q1
      have hxx : l0[k] = d := by rw [hd]; unfold rd_T41; simp [List.getD_eq_getElem?_getD, hkl]
      have HT := Lib.hid (show l0.take (k + 1) = l0.take k ++ [d] by rw [List.take_succ_eq_append_getElem hkl, hxx])
      have HM := Lib.hid (show d ∈ l0 by rw [← hxx]; exact List.getElem_mem hkl)
      have hal := (Below.refl wr.heap.size wr).alloc (Nat.le_refl _) (.cells #[.int .i64 d.f0, .int .i64 d.f1] 41)
      have HCALL := Lib.hid (dot_Check.calls d.f0 d.f1 _ (wr.alloc (.cells #[.int .i64 d.f0, .int .i64 d.f1] 41)) (dchk_eq d.f0 d.f1))
      have HW := Lib.hid (show ∀ W, Below (wr.alloc (.cells #[.int .i64 d.f0, .int .i64 d.f1] 41)).heap.size (wr.alloc (.cells #[.int .i64 d.f0, .int .i64 d.f1] 41)) W → Below w.heap.size w W ∧ w.heap.size < W.heap.size ∧ Swp W w.heap.size (.slice none 0 0) (.slice none 0 0) .nilFunc (.slice none 0 0) from fun W hW => by
        have h1 := hal.trans (hW.mono hal.size)
        have s1 := HI.out.2.2.1
        exact ⟨HI.out.2.1.trans (h1.mono HI.out.2.1.size), by have := h1.size; omega, Ytdelfhahbngcfaa.blk_below HI.out.2.2.2 h1⟩)
      clear hc hd hxx hkl hal
      cases ho : okD d with
      | true =>
        have HF := Lib.hid (show (l0.take (k + 1)).all okD = true by rw [HT.out, List.all_append, HI.out.1]; simp [ho])
        rw [show okD ⟨d.f0, d.f1⟩ = true from ho, if_pos rfl] at HCALL
        clear ho
        go_wp2_with (go_at_call 52; refine HCALL.out.mono ?_; rintro e w2 ⟨rfl, hbel⟩; have HW2 := Lib.hid (HW.out w2 hbel); clear hbel)
        go_roundw
        case rel => exact ⟨k + 1, by omega, by go_num, Lib.hid ⟨HF.out, HW2.out⟩⟩
        case measure => simp [intOf]; omega
      | false =>
        have HF := Lib.hid (show l0.all okD = false by
          cases e : l0.all okD with
          | false => rfl
          | true => have := List.all_eq_true.1 e d HM.out; rw [ho] at this; cases this)
        rw [show okD ⟨d.f0, d.f1⟩ = false from ho, if_neg (by decide)] at HCALL
        clear ho
        have HE := Lib.hid (show r1 = [] ∧ r2 = 2 by
          have := HV.out
          unfold ofV at this
          rw [HF.out, if_neg (by decide)] at this
          exact ⟨(Prod.mk.inj this).1.symm, (Prod.mk.inj this).2.symm⟩)
        go_wp2_with (go_at_call 52; refine HCALL.out.mono ?_; rintro e w2 ⟨rfl, hbel⟩; have HW2 := Lib.hid (HW.out w2 hbel); clear hbel)
        go_ret2
        obtain ⟨e1, e2⟩ := HE.out
        exact ⟨_, by rw [e2]; rfl, by rw [e1]; exact Kd.R_nil _ _ _ _ _, HW2.out.1⟩
    · obtain rfl : k = N := by omega
      have HALL := Lib.hid (show l0.all okD = true by have := HI.out.1; rwa [HN.out, List.take_length] at this)
      have HSORT := Lib.hid (show Calls Try.prog 45 #[.slice A0 k c0] wr fun e w' => ∃ v0_ : Value, e = .returned (v0_) ∧ Kd.R k41 41 w' wr.heap.size (fun _ => True) v0_ (sortV l0) ∧ Below wr.heap.size wr w' from by
        have := dot_Sort.calls A0 c0 l0 (sortV l0) wr (Kd.C_below HR.out HI.out.2.1) (by rw [← HN.out]; exact hc0) (if_pos (by rw [← HN.out]; exact hn))
        rwa [← HN.out] at this)
      have HLEN := Lib.hid (show (sortV l0).length < 1000000 from by have := sortV_len l0; have := HN.out; omega)
      go_wp2_with (go_at_call 45; refine HSORT.out.mono ?_; rintro e w2 ⟨v1, rfl, ho, hbel⟩; have HO := Lib.hid ho; have HBEL := Lib.hid hbel; clear ho hbel; obtain ⟨A1, c1, rfl, hl1, hcl1⟩ := Kd.R_reads HO.out)
      have HROW := Lib.hid (show ∀ M, M = (sortV l0).length → 0 < M → ∃ g, A1 = some ⟨g, 0, none⟩ ∧ ∃ cap, RowB w2 g cap (sortV l0).toArray from fun M hM h0 => by
        rcases row_of_R HO.out with ⟨_, e⟩ | ⟨g, cap, cur, e, _, hb, _, _, hs, ht⟩
        · rw [e] at hM; simp at hM; omega
        · injection e with e1 _ _
          exact ⟨g, e1, cap, rowB_of hb hs ht⟩)
      have HST := Lib.hid (show Swp w2 w.heap.size (.slice none 0 0) (.slice none 0 0) .nilFunc (.slice none 0 0) ∧ Own60 w2 w.heap.size (.slice none 0 0) [] ∧ Below w.heap.size w w2 ∧ w.heap.size < w2.heap.size from
        ⟨Ytdelfhahbngcfaa.blk_below HI.out.2.2.2 HBEL.out, ⟨rfl, .inl ⟨rfl, rfl⟩⟩, HI.out.2.1.trans (HBEL.out.mono HI.out.2.1.size), Nat.lt_of_lt_of_le HI.out.2.2.1 HBEL.out.size⟩)
      obtain ⟨M, hM⟩ : ∃ M, M = (sortV l0).length := ⟨_, rfl⟩
      have HM := Lib.hid hM
      have hM6 : M < 1000000 := by rw [hM]; exact HLEN.out
      rw [← hM]
      clear hM
      go_loopw [27] (fun i wq => ∃ (j : Nat) (vo : Value), j ≤ M ∧ i = .int .i64 j ∧ Hid (Swp wq w.heap.size (.slice none 0 0) (.slice none 0 0) .nilFunc vo ∧ Own60 wq w.heap.size vo (((sortV l0).take j).foldl (fun o d => addV o ⟨d.f0, d.f1, d.f1⟩) []) ∧ Below w.heap.size w wq ∧ w.heap.size < wq.heap.size ∧ (∀ (q : Nat) (cur : Array Value), w2.heap[q]? = some (Obj.cells cur 41 (0, 0)) → (World.heap wq)[q]? = some (Obj.cells cur 41 (0, 0))))) (fun i _ => M - (intOf i).toNat)
      case atStart => exact ⟨0, _, Nat.zero_le _, rfl, Lib.hid ⟨HST.out.1, HST.out.2.1, HST.out.2.2.1, HST.out.2.2.2, fun _ _ h => h⟩⟩
      case round =>
        clear HST
        obtain ⟨j, vo, hj, rfl, HJ⟩ := hrel
        by_cases hlt : j < M
        · obtain ⟨g, rfl, cap, hrow⟩ := HROW.out M HM.out (by omega)
          obtain ⟨cur, b1, b2, b3⟩ := hrow
          have hjl : j < (sortV l0).length := by rw [← HM.out]; exact hlt
          obtain ⟨q0, q1⟩ := b3 j (by simpa using hjl)
          obtain ⟨d, hd⟩ : ∃ d, d = (sortV l0).toArray[j]! := ⟨_, rfl⟩
          rw [← hd] at q0 q1
          have hbq : Ytdelfhahbngcfaa.Blk wr g 41 cur := HJ.out.2.2.2.2 g cur b1
          have c0 := Ytdelfhahbngcfaa.blk_cell hbq _ _ q0
          have c1' := Ytdelfhahbngcfaa.blk_cell hbq _ _ q1
          have hxx : (sortV l0)[j] = d := by rw [hd]; simp [hjl]
          obtain ⟨out, hout⟩ : ∃ out, out = ((sortV l0).take j).foldl (fun o d => addV o ⟨d.f0, d.f1, d.f1⟩) ([] : List S60) := ⟨_, rfl⟩
          have HT := Lib.hid (show ((sortV l0).take (j + 1)).foldl (fun o d => addV o ⟨d.f0, d.f1, d.f1⟩) ([] : List S60) = addV out ⟨d.f0, d.f1, d.f1⟩ by rw [List.take_succ_eq_append_getElem hjl, hxx, List.foldl_append, ← hout]; rfl)
          have hol : out.length ≤ j := by rw [hout]; exact Nat.le_trans (ofL_len _ []) (by simp; omega)
          rw [← hout] at HJ
          have hal := (Below.refl wr.heap.size wr).alloc (Nat.le_refl _) (.cells #[.int .i64 d.f0, .int .i64 d.f1] 41)
          have HCALL := Lib.hid (add_any w.heap.size w.heap.size (.slice none 0 0) (.slice none 0 0) .nilFunc vo out ⟨d.f0, d.f1, d.f1⟩ (wr.alloc (.cells #[.int .i64 d.f0, .int .i64 d.f1] 41)) (Ytdelfhahbngcfaa.blk_below HJ.out.1 hal) (own_ch HJ.out.2.1 (Ch.of_below hal No) (fun _ _ => id)) (Nat.le_refl _) (by omega))
          have HNX := Lib.hid (show ∀ e W, AddQ (wr.alloc (.cells #[.int .i64 d.f0, .int .i64 d.f1] 41)) w.heap.size w.heap.size (.slice none 0 0) (.slice none 0 0) .nilFunc vo (addV out ⟨d.f0, d.f1, d.f1⟩) e W → e = .returned (.tuple #[]) ∧ ∃ vo', Swp W w.heap.size (.slice none 0 0) (.slice none 0 0) .nilFunc vo' ∧ Own60 W w.heap.size vo' (addV out ⟨d.f0, d.f1, d.f1⟩) ∧ Below w.heap.size w W ∧ w.heap.size < W.heap.size ∧ (∀ (q : Nat) (cur : Array Value), w2.heap[q]? = some (Obj.cells cur 41 (0, 0)) → W.heap[q]? = some (Obj.cells cur 41 (0, 0))) from fun e W hq => by
            obtain ⟨he, vo', s1, s2, s3, _⟩ := hq
            refine ⟨he, vo', s1, s2, ?_, ?_, fun q cur hq => ?_⟩
            · have c1 := (Ch.of_below hal (fun k => k = w.heap.size ∨ vo.ownBlock = some k)).trans s3 (fun k h => .inl h)
              have h2 := c1.below (B := w.heap.size) HJ.out.2.2.1.size (fun k hk => by
                rcases hk with e | e
                · omega
                · exact (own_typ HJ.out.2.1 e).1)
              exact HJ.out.2.2.1.trans h2
            · have := s3.size
              have := hal.size
              have := HJ.out.2.2.2.1
              omega
            · have h1 := HJ.out.2.2.2.2 q cur hq
              have hlt : q < wr.heap.size := (Array.getElem?_eq_some_iff.1 h1).1
              have h2 : (wr.alloc (.cells #[.int .i64 d.f0, .int .i64 d.f1] 41)).heap[q]? = some (.cells cur 41 (0, 0)) := (hal.block q hlt).trans h1
              refine (s3.block q (Array.getElem?_eq_some_iff.1 h2).1 (fun hs => ?_)).trans h2
              rcases hs with e | e
              · have h5 : wr.heap[w.heap.size]? = _ := HJ.out.1
                rw [e, h5] at h1
                cases h1
              · obtain ⟨_, cur2, h6⟩ := own_typ HJ.out.2.1 e
                rw [h6] at h1
                cases h1)
          clear hd hxx hjl hout b1 b2 b3 hbq q0 q1 hal hol
          go_wp2_with (go_at_call 60; refine HCALL.out.mono ?_; intro e w3 hq; obtain ⟨he, vo', hnx⟩ := HNX.out e w3 hq; subst he; have HNX2 := Lib.hid hnx; clear hq hnx)
          go_roundw
          case rel => exact ⟨j + 1, vo', by omega, by go_num, Lib.hid ⟨HNX2.out.1, by rw [HT.out]; exact HNX2.out.2.1, HNX2.out.2.2.1, HNX2.out.2.2.2.1, HNX2.out.2.2.2.2⟩⟩
          case measure => simp [intOf]; omega
        · obtain rfl : j = M := by omega
          have HOF := Lib.hid (show ((sortV l0).take j).foldl (fun o d => addV o ⟨d.f0, d.f1, d.f1⟩) ([] : List S60) = ofL l0 by rw [HM.out, List.take_length]; rfl)
          have hown : Own60 wr w.heap.size vo (ofL l0) := by rw [← HOF.out]; exact HJ.out.2.1
          obtain ⟨A3, c3, rfl, _, _⟩ := own_form hown
          have HOWN := Lib.hid hown
          have b3 := Ytdelfhahbngcfaa.blk_cell HJ.out.1 3 _ rfl
          clear hown
          by_cases h4 : 4000 < (ofL l0).length
          · have HE := Lib.hid (show r1 = [] ∧ r2 = 8 by
              have := HV.out
              unfold ofV at this
              rw [HALL.out, if_pos rfl, if_pos h4] at this
              exact ⟨(Prod.mk.inj this).1.symm, (Prod.mk.inj this).2.symm⟩)
            have hg : decide ((4000 : Int) < ((ofL l0).length : Int)) = true := by simp; omega
            go_wp2
            go_ret2
            obtain ⟨e1, e2⟩ := HE.out
            exact ⟨_, by rw [e2]; rfl, by rw [e1]; exact Kd.R_nil _ _ _ _ _, HJ.out.2.2.1⟩
          · have HE := Lib.hid (show r1 = ofL l0 ∧ r2 = 0 by
              have := HV.out
              unfold ofV at this
              rw [HALL.out, if_pos rfl, if_neg h4] at this
              exact ⟨(Prod.mk.inj this).1.symm, (Prod.mk.inj this).2.symm⟩)
            have hg : decide ((4000 : Int) < ((ofL l0).length : Int)) = false := by simp; omega
            go_wp2
            go_ret2
            obtain ⟨e1, e2⟩ := HE.out
            exact ⟨_, by rw [e2]; rfl, by rw [e1]; exact R_of_own HOWN.out, HJ.out.2.2.1⟩
end Go.Proofs.YtdelfhahbngcfaaX.P07
end
section
namespace Go.Proofs.YtdelfhahbngcfaaX.P07
open Go.RowKit Go.Shelf Go.Sort Go.Lib Go.Proofs.Ytdelfhahbngcfaa Go.Proofs.YtdelfhahbngcfaaW.PrintWords Go.Proofs.YtdelfhahbngcfaaW.PrintLast Go.Proofs.YtdelfhahbngcfaaW.PrintMore
set_option linter.unusedVariables false
set_option linter.unusedSimpArgs false
attribute [local go_sem] Oper.semAt_some
def numS (n c : Int) : Int := Go.bits .or .i64 (wrap64 (n * 256)) (wrap64 c)
def numV (bs : List Int) : Int := bs.foldl numS 0
theorem number_l0 : ∀ (d k : Nat) (bs : List Int) (x3 : Int) (i : Nat), i + d = bs.length → d < k → bs.length ≤ 1000000 → past_number.l0 k x3 bs (bs.length : Int) (i : Int) = some ((bs.drop i).foldl numS x3)
  | 0, k, bs, x3, i, h, hk, hb => by
    obtain ⟨k, rfl⟩ : ∃ m, k = m + 1 := ⟨k - 1, by omega⟩
    rw [past_number.l0, if_neg (by omega), List.drop_of_length_le (by omega)]
    rfl
  | d + 1, k, bs, x3, i, h, hk, hb => by
    obtain ⟨k, rfl⟩ : ∃ m, k = m + 1 := ⟨k - 1, by omega⟩
    have hi : i < bs.length := by omega
    rw [past_number.l0, if_pos (by omega), if_pos (by omega), if_pos (by omega)]
    have e : wrap64 ((i : Int) + 1) = ((i + 1 : Nat) : Int) := by unfold wrap64; omega
    rw [e, number_l0 d k bs _ (i + 1) (by omega) (by omega) hb, List.drop_eq_getElem_cons hi, List.foldl_cons]
    congr 2
    unfold numS YtdelfhahbngcfaaW.PrintWords.rd
    simp [List.getD_eq_getElem?_getD, hi]
theorem number_f (bs : List Int) (hb : bs.length ≤ 1000000) : past_number.f (bs.length + 1) bs = some (numV bs) := by
  unfold past_number.f numV
  have := number_l0 bs.length (bs.length + 1) bs 0 0 (by omega) (by omega) hb
  simpa using this
theorem number_any (A : Option Addr) (c : Nat) (bs : List Int) (w : World) (h : kb.C w A bs.length bs) (hc : bs.length ≤ c) (hb : bs.length ≤ 1000000) :
    Calls Try.prog 49 #[.slice A bs.length c] w fun e w' => e = .returned (.int .i64 (numV bs)) ∧ Drawn0 w w' := past_number.calls _ A c bs _ w h hc (number_f bs hb)
abbrev FW : Fence := Fence.wide
set_option maxHeartbeats 400000 in
theorem chunk_any (A : Option Addr) (n c : Nat) (w : World) :
    Calls Try.prog 50 #[.slice A n c, .int .i64 9] w fun e w' => e = .returned (.func (.func 70) #[] #[.pointer (some ⟨w.heap.size, 0, none⟩), .pointer (some ⟨w.heap.size + 1, 0, none⟩)]) ∧ (w.alloc (.cells #[.slice A n c] 23)).alloc (.cells #[.int .i64 9] 3) = w' := by
  go_enter Try.func50, Try.ntmps50
  go_wp2
  go_ret
  exact ⟨rfl, rfl⟩
theorem range_prefix {k m : Nat} (h : k ≤ m) : List.range k <+: List.range m := by
  obtain ⟨d, rfl⟩ := Nat.exists_eq_add_of_le h
  rw [List.range_add]
  exact List.prefix_append _ _
def KB (Bs Bn : Nat) (A B : World) : Prop := B.heap[Bs]? = A.heap[Bs]? ∧ B.heap[Bn]? = A.heap[Bn]?
theorem KB_refl (Bs Bn : Nat) (A : World) : KB Bs Bn A A := ⟨rfl, rfl⟩
theorem KB_trans {Bs Bn : Nat} {A B C : World} (h : KB Bs Bn A B) (k : KB Bs Bn B C) : KB Bs Bn A C := ⟨k.1.trans h.1, k.2.trans h.2⟩
theorem KB_s {Bs Bn : Nat} {A B : World} {v : Value} (h : KB Bs Bn A B) (hc : A.cell? ⟨Bs, 0, none⟩ = some v) : B.cell? ⟨Bs, 0, none⟩ = some v := (World.cell?_of_block (a := ⟨Bs, 0, none⟩) h.1).trans hc
theorem KB_n {Bs Bn : Nat} {A B : World} {v : Value} (h : KB Bs Bn A B) (hc : A.cell? ⟨Bn, 0, none⟩ = some v) : B.cell? ⟨Bn, 0, none⟩ = some v := (World.cell?_of_block (a := ⟨Bn, 0, none⟩) h.2).trans hc
theorem KB_put {Bs Bn : Nat} (W : World) (l : Nat) (o' : Obj) (h1 : Bs < l) (h2 : Bn < l) : KB Bs Bn W (W.putObj l o') := ⟨World.putObj_heap_other (by omega), World.putObj_heap_other (by omega)⟩
def pieceV (b0 off N x : Nat) : Array Value := #[.slice (some ⟨b0, off + 9 * (min x (N - 1)), none⟩) 9 9]
set_option maxRecDepth 100000 in
set_option maxHeartbeats 2000000 in
theorem chunk1 (l Bs Bn : Nat) (b0 off N n c : Nat) (hnN : n = 9 * N) (hn : n ≤ 1000000) (hnc : n ≤ c) (J Jx : List Nat → World → Prop)
    (hY : ∀ pre x W, J pre W → pre.length < N → YieldAt FW 2 Try.prog l (pieceV b0 off N x) W fun e W' =>
      (e = .returned (.bool true) ∧ J (pre ++ [x]) W' ∧ KB Bs Bn W W') ∨ (e = .returned (.bool false) ∧ Jx (pre ++ [x]) W'))
    (W : World) (hBs : W.cell? ⟨Bs, 0, none⟩ = some (.slice (some ⟨b0, off, none⟩) n c)) (hBn : W.cell? ⟨Bn, 0, none⟩ = some (.int .i64 9)) (h0 : J [] W) (hJd : ∀ pre W m, J pre W → J pre (W.drewN m)) :
    CallsIn FW 3 Try.prog 70 #[.func (.yield l) #[] #[], .pointer (some ⟨Bs, 0, none⟩), .pointer (some ⟨Bn, 0, none⟩)] W fun e W' => (∃ v, e = .returned v) ∧
      ((∃ ys, ys = List.range N ∧ J ys W') ∨ (∃ pre, pre <+: List.range N ∧ Jx pre W')) := by
  refine callsIn_of_wp Try.func70 rfl trivial ?_ rfl
  simp only [Try.ntmps70, List.size_toArray, List.length_cons, List.length_nil, Nat.reduceAdd, Nat.reduceSub, Array.replicate_succ, Array.replicate_zero, List.push_toArray, List.append_toArray, List.nil_append, List.cons_append]
  have HY := Lib.hid hY; have HBS := Lib.hid hBs; have HBN := Lib.hid hBn; have HJD := Lib.hid hJd; have HNN := Lib.hid hnN
  clear hY hBs hBn hJd hnN
  gi_wp2
  gi_loopw [4, 5] (fun i _ wr => ∃ k t : Nat, Hid (t = 9 * k ∧ J (List.range k) wr ∧ KB Bs Bn W wr) ∧ t < n + 9 ∧ i = .int .i64 t)
    (fun i _ _ => n + 9 - (intOf i).toNat)
  case atStart => exact ⟨0, 0, Lib.hid ⟨rfl, h0, KB_refl _ _ _⟩, by omega, rfl⟩
  case round =>
    obtain ⟨k, t, hH, hk, rfl⟩ := hrel
    have hcs : wr.cell? ⟨Bs, 0, none⟩ = some (.slice (some ⟨b0, off, none⟩) n c) := KB_s hH.out.2.2 HBS.out
    have hcn : wr.cell? ⟨Bn, 0, none⟩ = some (.int .i64 9) := KB_n hH.out.2.2 HBN.out
    by_cases hlt : t < n
    · have hct : ¬ c = t := by omega
      have hkn : k < N := by have := hH.out.1; have := HNN.out; omega
      have hto : t + 9 ≤ n := by have := hH.out.1; have := HNN.out; omega
      have hpv : pieceV b0 off N k = #[.slice (some ⟨b0, off + t, none⟩) (9) (9)] := by
        have h1 := hH.out.1
        have h2 : min k (N - 1) = k := by omega
        unfold pieceV; rw [h1, h2]
      have HPV := Lib.hid hpv; clear hpv
      have hmin : min (9 : Int) ((n - t : Nat) : Int) = 9 := by omega
      have ht9 : ((t : Int) + 9).toNat - t = 9 := by omega
      gi_wp2
      gi_quiet (fail)
      obtain ⟨fn, tmps, assign, body, hy, hR⟩ := HY.out (List.range k) k (wr.drewN nq) (HJD.out _ _ _ hH.out.2.1) (by rw [List.length_range]; exact hkn)
      rw [HPV.out] at hy
      gi_wp2
      refine hR.mono ?_
      rintro e W3 (⟨rfl, hJ3, hk3⟩ | ⟨rfl, hJx3⟩)
      · have HJ3 := Lib.hid hJ3; have HK3 := Lib.hid hk3; clear hJ3 hk3 hy hR
        have hcn3 : W3.cell? ⟨Bn, 0, none⟩ = some (.int .i64 9) := KB_n HK3.out ((World.cell?_drewN _ _ _).trans hcn)
        gi_wp2
        go_roundw
        case rel => exact ⟨k + 1, t + 9, Lib.hid ⟨by have := hH.out.1; omega, by rw [List.range_succ]; exact HJ3.out, KB_trans (KB_trans hH.out.2.2 (KB_refl _ _ (wr.drewN nq))) HK3.out⟩, by omega, by go_num⟩
        case measure => simp [intOf]; omega
      · gi_wp2
        refine bodyPost_ret (results_none rfl _ _ _) rfl ?_
        exact ⟨⟨_, rfl⟩, .inr ⟨_, by rw [← List.range_succ]; exact range_prefix (by omega), hJx3⟩⟩
    · have hk0 : N = k := by have := hH.out.1; have := HNN.out; omega
      have HK0 := Lib.hid hk0; clear hk0
      gi_wp2
      go_end0
      exact ⟨⟨_, rfl⟩, .inl ⟨_, by rw [HK0.out], hH.out.2.1⟩⟩
theorem chunk_stops (Bs Bn : Nat) (b0 off N n c : Nat) (w : World) (hnN : n = 9 * N) (hn : n ≤ 1000000) (hnc : n ≤ c) (hBs0 : Bs < w.heap.size) (hBn0 : Bn < w.heap.size)
    (hc : w.cell? ⟨Bs, 0, none⟩ = some (.slice (some ⟨b0, off, none⟩) n c)) (hcn : w.cell? ⟨Bn, 0, none⟩ = some (.int .i64 9)) :
    SeqStopsK FW 3 Try.prog 70 #[.pointer (some ⟨Bs, 0, none⟩), .pointer (some ⟨Bn, 0, none⟩)] (pieceV b0 off N) (KB Bs Bn) (fun ys => ys = List.range N) (fun pre => pre <+: List.range N) N w := fun l J Jx W hW hJ _ hY h0 =>
  chunk1 l Bs Bn b0 off N n c hnN hn hnc J Jx hY W ((hW.cell (p := ⟨Bs, 0, none⟩) hBs0).trans hc) ((hW.cell (p := ⟨Bn, 0, none⟩) hBn0).trans hcn) h0
    (fun pre W' m hJs => hJ pre W' _ none hJs ⟨rfl, rfl, rfl, Nat.le_refl _, fun _ _ _ => rfl⟩ (fun r e => by cases e))
end Go.Proofs.YtdelfhahbngcfaaX.P07
end
section
namespace Go.Proofs.YtdelfhahbngcfaaX.P07
open Go.RowKit Go.Shelf Go.Sort Go.Lib Go.Proofs.Ytdelfhahbngcfaa Go.Proofs.YtdelfhahbngcfaaW.PrintWords Go.Proofs.YtdelfhahbngcfaaW.PrintLast Go.Proofs.YtdelfhahbngcfaaW.PrintMore
set_option linter.unusedVariables false
set_option linter.unusedSimpArgs false
attribute [local go_sem] Oper.semAt_some
theorem one60 {w : World} {G : Nat} (x : S60) (h : Ytdelfhahbngcfaa.Blk w G 60 #[.int .i64 x.f0, .int .i64 x.f1, .int .i64 x.f2]) : Kd.C k60 w (some ⟨G, 0, none⟩) 1 [x] :=
  ⟨rfl, by decide, fun _ => ⟨_, rfl, fun j p hp => by
    cases j with
    | succ j => simp at hp
    | zero =>
      have e : p = x := by simpa using hp.symm
      subst e
      refine ⟨[.int .i64 p.f0, .int .i64 p.f1, .int .i64 p.f2], rfl, k60_mk _ p, fun t u hu => ?_⟩
      have ht : t < 3 := (List.getElem?_eq_some_iff.1 hu).1
      have hadd : ((⟨G, 0, none⟩ : Addr).add (0 * k60.sz + t)) = ⟨G, t, none⟩ := by unfold Addr.add; split <;> simp_all
      rw [hadd]
      exact Ytdelfhahbngcfaa.blk_cell h _ _ (by simpa using hu)⟩⟩
end Go.Proofs.YtdelfhahbngcfaaX.P07
end
section
namespace Go.Proofs.YtdelfhahbngcfaaX.P07
open Go.RowKit Go.Shelf Go.Sort Go.Lib Go.Proofs.Ytdelfhahbngcfaa Go.Proofs.YtdelfhahbngcfaaW.PrintWords Go.Proofs.YtdelfhahbngcfaaW.PrintLast Go.Proofs.YtdelfhahbngcfaaW.PrintMore
set_option linter.unusedVariables false
set_option linter.unusedSimpArgs false
attribute [local go_sem] Oper.semAt_some
attribute [local go_sem ↓] Go.wp_at_zero Go.wp_at_succ
def pieceL (l : List Int) (x : Nat) : List Int := (l.drop (2 + 9 * x)).take 9
def spanAt (l : List Int) (x : Nat) : S60 := ⟨wrap64 (YtdelfhahbngcfaaW.PrintWords.rd (pieceL l x) 0), numV ((pieceL l x).drop 1 |>.take 4), numV ((pieceL l x).drop 5)⟩
def spanC (l : List Int) (N x : Nat) : S60 := spanAt l (min x (N - 1))
theorem spanC_range (l : List Int) (N : Nat) : (List.range N).map (spanC l N) = (List.range N).map (spanAt l) := by
  apply List.map_congr_left
  intro x hx
  have := List.mem_range.1 hx
  unfold spanC
  rw [show min x (N - 1) = x by omega]
def manyV (l : List Int) : Int := numV (l.take 2)
def readL (l : List Int) : List S60 := (List.range (manyV l).toNat).map (spanAt l)
def past_Read.f (k : Nat) (l0 : List Int) : Option (List S60 × Int × Int) :=
  if l0.length ≤ 1000000 then
    if l0.length < 2 then some ([], 4, (l0.length : Int))
    else if 0 ≤ manyV l0 ∧ manyV l0 ≤ 100000 then
      if (l0.length : Int) = 2 + 9 * manyV l0 then (past_Check.f k (readL l0)).bind fun e => if e = 0 then some (readL l0, 0, 0) else some ([], e, 0)
      else some ([], 4, min (l0.length : Int) (2 + 9 * manyV l0))
    else none
  else none
theorem C_cells {w : World} {b off : Nat} {bs : List Int} (hn : bs.length ≤ 9223372036854775807) (h : ∀ j p, bs[j]? = some p → w.cell? ⟨b, off + j, none⟩ = some (.int .u8 p)) : kb.C w (some ⟨b, off, none⟩) bs.length bs :=
  ⟨rfl, hn, fun _ => ⟨_, rfl, fun j p hp => ⟨[.int .u8 p], rfl, rfl, fun t u hu => by
    have ht : t = 0 := by have := (List.getElem?_eq_some_iff.1 hu).1; simp at this; omega
    subst ht
    have e : u = .int .u8 p := by simpa using hu.symm
    rw [e]
    have hadd : ((⟨b, off, none⟩ : Addr).add (j * kb.sz + 0)) = ⟨b, off + j, none⟩ := by
      have : j * kb.sz + 0 = j := Nat.mul_one j
      rw [this]; unfold Addr.add; split <;> simp_all
    rw [hadd]
    exact h j p hp⟩⟩⟩
theorem cells_C {w : World} {A : Option Addr} {bs : List Int} (h : kb.C w A bs.length bs) (h0 : 0 < bs.length) : ∃ b off, A = some ⟨b, off, none⟩ ∧ ∀ j p, bs[j]? = some p → w.cell? ⟨b, off + j, none⟩ = some (.int .u8 p) := by
  obtain ⟨ad, rfl, hc⟩ := h.2.2 h0
  have at_ : ∀ j p, bs[j]? = some p → w.cell? (ad.add j) = some (.int .u8 p) := fun j p hp => by
    obtain ⟨c, hl, hK, hu⟩ := hc j p hp
    have hK' : c = [.int .u8 p] := hK
    subst hK'
    have := hu 0 _ rfl
    rwa [show j * kb.sz + 0 = j from Nat.mul_one j] at this
  obtain ⟨b, off, sp⟩ := ad
  cases sp with
  | some z =>
    have h1 := at_ 0 _ (List.getElem?_eq_getElem h0)
    simp [World.cell?, Addr.add] at h1
    split at h1 <;> simp_all
  | none =>
    refine ⟨b, off, rfl, fun j p hp => ?_⟩
    have := at_ j p hp
    have hadd : ((⟨b, off, none⟩ : Addr).add j) = ⟨b, off + j, none⟩ := by unfold Addr.add; split <;> simp_all
    rwa [hadd] at this
theorem piece_at {l : List Int} {x j : Nat} {p : Int} (h : (pieceL l x)[j]? = some p) : l[2 + 9 * x + j]? = some p ∧ j < 9 := by
  unfold pieceL at h
  rw [List.getElem?_take] at h
  split at h
  · rw [List.getElem?_drop] at h; exact ⟨h, by assumption⟩
  · cases h
theorem piece_len {l : List Int} {x N : Nat} (hl : l.length = 2 + 9 * N) (hx : x < N) : (pieceL l x).length = 9 := by
  unfold pieceL
  rw [List.length_take, List.length_drop]
  omega
structure RdI (w V : World) (v : Value) (ol : List S60) : Prop where
  var : Ytdelfhahbngcfaa.Blk V (w.heap.size + 1) 22 #[v]
  ow : Own60 V (w.heap.size + 4) v ol
  bel : Below w.heap.size w V
  sz : w.heap.size + 4 ≤ V.heap.size
  flt : Ytdelfhahbngcfaa.Blk V w.heap.size 32 #[.int .i64 0, .int .i64 0]
theorem RdI.below {w V V' : World} {v : Value} {ol : List S60} (h : RdI w V v ol) (hb : Below V.heap.size V V') : RdI w V' v ol :=
  ⟨Ytdelfhahbngcfaa.blk_below h.var hb, own_ch h.ow (Ytdelfhahbngcfaa.Ch.of_below hb No) (fun _ _ => id), h.bel.trans (hb.mono h.bel.size), Nat.le_trans h.sz hb.size, Ytdelfhahbngcfaa.blk_below h.flt hb⟩
theorem below_drawn {w w' : World} (h : Drawn0 w w') : Below w.heap.size w w' := by
  obtain ⟨n, rfl⟩ := h
  exact pw_below_drewN (Below.refl _ _) n
theorem below_put {B : Nat} (w : World) (D : Nat) (o : Obj) (h : B ≤ D) : Below B w (w.putObj D o) := ⟨rfl, rfl, rfl, by simp [World.putObj], fun k hk => World.putObj_heap_other (by omega)⟩
theorem read_own (w : World) (l : List Int) (N B : Nat) (hB : w.heap.size ≤ B) : OwnFrom B (fun (pre : List Nat) W => ∃ v, RdI w W v (pre.map (spanC l N))) := by
  rintro pre W W' row ⟨v, h⟩ hg hr
  have hc := Ytdelfhahbngcfaa.Ch.of_grown hg
  have hcell : ∀ k cs t f, W.heap[k]? = some (Obj.cells cs t f) → ¬ row = some k := by
    intro k cs t f hk e
    obtain ⟨_, o, ho, hn⟩ := hr k e
    rw [hk] at ho
    cases ho
    cases hn
  exact ⟨v, Ytdelfhahbngcfaa.blk_ch h.var hc (hcell _ _ _ _ h.var), own_ch h.ow hc (fun k hk => by obtain ⟨_, cur, hh⟩ := own_typ h.ow hk; exact hcell _ _ _ _ hh), h.bel.grown hg h.bel.size (fun k e => Nat.le_trans hB (hr k e).1), Nat.le_trans h.sz hc.size, Ytdelfhahbngcfaa.blk_ch h.flt hc (hcell _ _ _ _ h.flt)⟩
theorem fourB (w : World) (nn : Nat) (sv : Value) :
    Ytdelfhahbngcfaa.Blk (((((w.alloc (.cells #[.int .i64 0, .int .i64 0] 32)).drewN nn).alloc (.cells #[.slice none 0 0] 22)).alloc (.cells #[sv] 23)).alloc (.cells #[.int .i64 9] 3)) w.heap.size 32 #[.int .i64 0, .int .i64 0] ∧
    Ytdelfhahbngcfaa.Blk (((((w.alloc (.cells #[.int .i64 0, .int .i64 0] 32)).drewN nn).alloc (.cells #[.slice none 0 0] 22)).alloc (.cells #[sv] 23)).alloc (.cells #[.int .i64 9] 3)) (w.heap.size + 1) 22 #[.slice none 0 0] ∧
    Ytdelfhahbngcfaa.Blk (((((w.alloc (.cells #[.int .i64 0, .int .i64 0] 32)).drewN nn).alloc (.cells #[.slice none 0 0] 22)).alloc (.cells #[sv] 23)).alloc (.cells #[.int .i64 9] 3)) (w.heap.size + 2) 23 #[sv] ∧
    Ytdelfhahbngcfaa.Blk (((((w.alloc (.cells #[.int .i64 0, .int .i64 0] 32)).drewN nn).alloc (.cells #[.slice none 0 0] 22)).alloc (.cells #[sv] 23)).alloc (.cells #[.int .i64 9] 3)) (w.heap.size + 3) 3 #[.int .i64 9] ∧
    (((((w.alloc (.cells #[.int .i64 0, .int .i64 0] 32)).drewN nn).alloc (.cells #[.slice none 0 0] 22)).alloc (.cells #[sv] 23)).alloc (.cells #[.int .i64 9] 3)).heap.size = w.heap.size + 4 ∧
    Below w.heap.size w (((((w.alloc (.cells #[.int .i64 0, .int .i64 0] 32)).drewN nn).alloc (.cells #[.slice none 0 0] 22)).alloc (.cells #[sv] 23)).alloc (.cells #[.int .i64 9] 3)) := by
  have st : ∀ (W : World) (o : Obj), Below W.heap.size W (W.alloc o) := fun W o => below_alloc (Below.refl _ _) o
  have n1 := Ytdelfhahbngcfaa.blk_new w 32 #[.int .i64 0, .int .i64 0]
  have sd := pw_below_drewN (Below.refl (w.alloc (.cells #[.int .i64 0, .int .i64 0] 32)).heap.size (w.alloc (.cells #[.int .i64 0, .int .i64 0] 32))) nn
  have n2 := Ytdelfhahbngcfaa.blk_new ((w.alloc (.cells #[.int .i64 0, .int .i64 0] 32)).drewN nn) 22 #[.slice none 0 0]
  have n3 := Ytdelfhahbngcfaa.blk_new (((w.alloc (.cells #[.int .i64 0, .int .i64 0] 32)).drewN nn).alloc (.cells #[.slice none 0 0] 22)) 23 #[sv]
  have n4 := Ytdelfhahbngcfaa.blk_new ((((w.alloc (.cells #[.int .i64 0, .int .i64 0] 32)).drewN nn).alloc (.cells #[.slice none 0 0] 22)).alloc (.cells #[sv] 23)) 3 #[.int .i64 9]
  have z : ((w.alloc (.cells #[.int .i64 0, .int .i64 0] 32)).drewN nn).heap.size = w.heap.size + 1 := by simp
  simp only [World.size_alloc, z] at n2 n3 n4
  exact ⟨Ytdelfhahbngcfaa.blk_below (Ytdelfhahbngcfaa.blk_below (Ytdelfhahbngcfaa.blk_below (Ytdelfhahbngcfaa.blk_below n1 sd) (st _ _)) (st _ _)) (st _ _), Ytdelfhahbngcfaa.blk_below (Ytdelfhahbngcfaa.blk_below n2 (st _ _)) (st _ _), Ytdelfhahbngcfaa.blk_below n3 (st _ _), n4, by simp only [World.size_alloc, z],
    (((pw_below_drewN (below_alloc (Below.refl _ w) _) nn).alloc (by rw [z]; omega) _).alloc (by simp only [World.size_alloc, z]; omega) _).alloc (by simp only [World.size_alloc, z]; omega) _⟩
theorem read_round {w W V : World} {l : List Int} {N : Nat} {pre : List Nat} {x B : Nat} {v v2 : Value} (h : RdI w W v (pre.map (spanC l N))) (hB : w.heap.size + 4 ≤ B)
    (hch : Ytdelfhahbngcfaa.Ch (fun k => v.ownBlock = some k) W V) (hown : Own60 V (w.heap.size + 4) v2 (pre.map (spanC l N) ++ [spanC l N x])) (hat : v2.ownBlock = v.ownBlock ∨ ∃ b, v2.ownBlock = some b ∧ W.heap.size ≤ b) :
    KeepsFrom B W (V.setCell ⟨w.heap.size + 1, 0, none⟩ v2) ∧ KB (w.heap.size + 2) (w.heap.size + 3) W (V.setCell ⟨w.heap.size + 1, 0, none⟩ v2) ∧ ∃ v, RdI w (V.setCell ⟨w.heap.size + 1, 0, none⟩ v2) v ((pre ++ [x]).map (spanC l N)) := by
  have hvo : ∀ k, v.ownBlock = some k → w.heap.size + 4 ≤ k ∧ k < W.heap.size := fun k hk => h.ow.lt k hk
  have hsz := h.sz
  have hc3 : Ytdelfhahbngcfaa.Ch (fun k => v.ownBlock = some k ∨ k = w.heap.size + 1) W (V.setCell ⟨w.heap.size + 1, 0, none⟩ v2) := ch_set (hch.mono (fun _ _ h => .inl h)) _ _ (.inr rfl)
  have hv2 : ∀ k, v2.ownBlock = some k → w.heap.size + 4 ≤ k := fun k hk => (hown.lt k hk).1
  refine ⟨(KeepsOthers.from ⟨hc3.size, fun k o hk ho => ?_⟩ B), ⟨hc3.block _ (by omega) (fun e => ?_), hc3.block _ (by omega) (fun e => ?_)⟩, v2, ?_, ?_, ?_, ?_, ?_⟩
  · refine (hc3.block k (Array.getElem?_eq_some_iff.1 hk).1 (fun e => ?_)).trans hk
    rcases e with e | e
    · obtain ⟨_, cur, hh⟩ := own_typ h.ow e
      rw [hk] at hh; cases hh; cases ho
    · subst e
      have h6 : W.heap[w.heap.size + 1]? = _ := h.var
      rw [hk] at h6; cases h6; cases ho
  · rcases e with e | e
    · have := (hvo _ e).1; omega
    · omega
  · rcases e with e | e
    · have := (hvo _ e).1; omega
    · omega
  · exact Ytdelfhahbngcfaa.blk_set (Ytdelfhahbngcfaa.blk_ch h.var hch (fun e => by have := (hvo _ e).1; omega)) 0 v2
  · have : Own60 V (w.heap.size + 4) v2 ((pre ++ [x]).map (spanC l N)) := by rw [List.map_append]; exact hown
    exact own_ch this (Ytdelfhahbngcfaa.Ch.setCell V ⟨w.heap.size + 1, 0, none⟩ v2) (fun k hk e => by have e : k = w.heap.size + 1 := e; have := hv2 k hk; omega)
  · exact h.bel.trans (hc3.below h.bel.size (fun k e => by rcases e with e | e; (have := (hvo _ e).1; omega); omega))
  · exact Nat.le_trans h.sz hc3.size
  · exact Ytdelfhahbngcfaa.blk_ch h.flt hc3 (fun e => by rcases e with e | e; (have := (hvo _ e).1; omega); omega)
set_option maxRecDepth 100000 in
set_option maxHeartbeats 2000000 in
theorem read_short (k : Nat) (A0 : Option Addr) (c0 : Nat) (l0 : List Int) (r1 : List S60) (r2 r3 : Int) (w : World) (hr0 : kb.C w A0 l0.length l0) (hc0 : l0.length ≤ c0) (h : l0.length < 2) (e1 : r1 = []) (e2 : r2 = 4) (e3 : r3 = (l0.length : Int)) :
    Calls Try.prog 15 #[.slice A0 l0.length c0] w fun e w' => ∃ v0_ : Value, e = .returned (.tuple #[v0_, .agg #[.int .i64 r2, .int .i64 r3]]) ∧ Kd.R k60 60 w' w.heap.size (fun _ => True) v0_ r1 ∧ Below w.heap.size w w' := by
  obtain ⟨n, hn⟩ : ∃ n, n = l0.length := ⟨_, rfl⟩
  subst e1 e2 e3
  rw [← hn] at h ⊢
  clear hr0 hc0 hn
  have h' : decide ((n : Int) < 2) = true := by simp; omega
  go_enter Try.func15, Try.ntmps15
  go_wp2
  exact bodyPost_ret (v := .tuple #[.slice none 0 0, .agg #[.int .i64 4, .int .i64 n]]) (by simp [results, Try.results15, go_sem]) rfl ⟨_, rfl, Kd.R_nil _ _ _ _ _, (Below.refl _ _).alloc (Nat.le_refl _) _⟩
set_option maxRecDepth 100000 in
set_option maxHeartbeats 2000000 in
theorem read_other (k : Nat) (A0 : Option Addr) (c0 : Nat) (l0 : List Int) (r1 : List S60) (r2 r3 : Int) (w : World) (hr0 : kb.C w A0 l0.length l0) (hc0 : l0.length ≤ c0) (h : 2 ≤ l0.length) (hb : l0.length ≤ 1000000) (hm : 0 ≤ manyV l0 ∧ manyV l0 ≤ 100000) (hne : ¬ (l0.length : Int) = 2 + 9 * manyV l0) (e1 : r1 = []) (e2 : r2 = 4) (e3 : r3 = min (l0.length : Int) (2 + 9 * manyV l0)) :
    Calls Try.prog 15 #[.slice A0 l0.length c0] w fun e w' => ∃ v0_ : Value, e = .returned (.tuple #[v0_, .agg #[.int .i64 r2, .int .i64 r3]]) ∧ Kd.R k60 60 w' w.heap.size (fun _ => True) v0_ r1 ∧ Below w.heap.size w w' := by
  have HNUM := Lib.hid (show ∀ W, Below w.heap.size w W → Calls Try.prog 49 #[.slice A0 2 c0] W fun e w' => e = .returned (.int .i64 (manyV l0)) ∧ Drawn0 W w' from fun W hW => by
    have h1 := Kd.C_take (m := 2) (Kd.C_below hr0 hW) h
    have h2 : (l0.take 2).length = 2 := by rw [List.length_take]; omega
    have := number_any A0 c0 (l0.take 2) W h1 (by omega) (by omega)
    rwa [h2] at this)
  obtain ⟨n, hn⟩ : ∃ n, n = l0.length := ⟨_, rfl⟩
  obtain ⟨m, hmm⟩ : ∃ m, m = manyV l0 := ⟨_, rfl⟩
  subst e1 e2 e3
  rw [← hn] at h hb hne hc0 ⊢
  rw [← hmm] at hm hne HNUM ⊢
  clear hr0 hn hmm
  obtain ⟨hm0, hm1⟩ := hm
  have hne' : ((n : Int) != 2 + 9 * m) = true := bne_iff_ne.2 hne
  have hal := below_alloc (Below.refl _ w) (.cells #[.int .i64 0, .int .i64 0] 32)
  have HCL := Lib.hid (HNUM.out _ hal)
  have hcut : ∀ W : World, (Instr.slice 23 (.slice A0 n c0) none (some (.int .i64 2)) none).run Try.prog W = .ok (.slice A0 2 c0) W := by
    intro W
    obtain ⟨i0, hi0, _, _, _⟩ := info_parts info5
    have := cut_to (P := Try.prog) 23 5 .i64 Try.underlying23 hi0 A0 n c0 2 (by omega) (by omega) hc0 W
    simpa using this
  clear hne hal HNUM
  obtain ⟨z, hz⟩ : ∃ z, min (n : Int) (2 + 9 * m) = z := ⟨_, rfl⟩
  rw [hz]
  go_enter Try.func15, Try.ntmps15
  go_wp2_with (go_at_call 49; refine HCL.out.mono ?_; rintro e w1 ⟨rfl, hd⟩; obtain ⟨nn, rfl⟩ := hd)
  refine bodyPost_ret (v := .tuple #[.slice none 0 0, .agg #[.int .i64 4, .int .i64 z]]) (by simp [results, Try.results15, go_sem]) rfl ⟨_, rfl, Kd.R_nil _ _ _ _ _, ?_⟩
  exact ((pw_below_drewN ((Below.refl _ _).alloc (Nat.le_refl _) _) nn).setCell (Nat.le_refl _) _).setCell (Nat.le_refl _) _
set_option maxRecDepth 100000 in
set_option maxHeartbeats 4000000 in
theorem read_main (k : Nat) (A0 : Option Addr) (c0 : Nat) (l0 : List Int) (r1 : List S60) (r2 r3 : Int) (w : World) (hr0 : kb.C w A0 l0.length l0) (hc0 : l0.length ≤ c0) (hb : l0.length ≤ 1000000) (N : Nat) (hN : manyV l0 = (N : Int)) (hlen : l0.length = 2 + 9 * N) (ee : Int)
    (hchk : past_Check.f k ((List.range N).map (spanAt l0)) = some ee) (hr : (if ee = 0 then ((List.range N).map (spanAt l0), (0 : Int), (0 : Int)) else ([], ee, 0)) = (r1, r2, r3)) :
    Calls Try.prog 15 #[.slice A0 l0.length c0] w fun e w' => ∃ v0_ : Value, e = .returned (.tuple #[v0_, .agg #[.int .i64 r2, .int .i64 r3]]) ∧ Kd.R k60 60 w' w.heap.size (fun _ => True) v0_ r1 ∧ Below w.heap.size w w' := by
  obtain ⟨b, off, rfl, hcells⟩ := cells_C hr0 (by omega)
  have HCELLS := Lib.hid hcells
  have HNUM := Lib.hid (show ∀ W, Below w.heap.size w W → Calls Try.prog 49 #[.slice (some ⟨b, off, none⟩) 2 c0] W fun e w' => e = .returned (.int .i64 (N : Int)) ∧ Drawn0 W w' from fun W hW => by
    have h1 := Kd.C_take (m := 2) (Kd.C_below hr0 hW) (by omega)
    have h2 : (l0.take 2).length = 2 := by rw [List.length_take]; omega
    have := number_any (some ⟨b, off, none⟩) c0 (l0.take 2) W h1 (by omega) (by omega)
    rw [h2] at this
    rw [← hN]
    exact this)
  obtain ⟨n, hn⟩ : ∃ n, n = l0.length := ⟨_, rfl⟩
  have HLEN := Lib.hid hlen
  rw [← hn] at hb hc0 hlen ⊢
  have HCHK := Lib.hid hchk; have HRR := Lib.hid hr
  have hcut1 : ∀ W : World, (Instr.slice 23 (.slice (some ⟨b, off, none⟩) n c0) none (some (.int .i64 2)) none).run Try.prog W = .ok (.slice (some ⟨b, off, none⟩) 2 c0) W := by
    intro W
    obtain ⟨i0, hi0, _, _, _⟩ := info_parts info5
    have := cut_to (P := Try.prog) 23 5 .i64 Try.underlying23 hi0 (some ⟨b, off, none⟩) n c0 2 (by omega) (by omega) hc0 W
    simpa using this
  obtain ⟨off2, hoff2, hcut2⟩ : ∃ off2, (0 < N → off2 = off + 2) ∧ ∀ W : World, (Instr.slice 23 (.slice (some ⟨b, off, none⟩) n c0) (some (.int .i64 2)) none none).run Try.prog W = .ok (.slice (some ⟨b, off2, none⟩) (n - 2) (c0 - 2)) W := by
    obtain ⟨i0, hi0, _, hsz0, _⟩ := info_parts info5
    by_cases h : c0 = 2
    · refine ⟨off, fun h0 => by omega, fun W => ?_⟩
      have := cut_from (P := Try.prog) 23 5 .i64 Try.underlying23 hi0 1 hsz0 (some ⟨b, off, none⟩) n c0 2 (by omega) (by omega) W
      rw [this]; simp [h]
    · refine ⟨off + 2, fun _ => rfl, fun W => ?_⟩
      have := cut_from (P := Try.prog) 23 5 .i64 Try.underlying23 hi0 1 hsz0 (some ⟨b, off, none⟩) n c0 2 (by omega) (by omega) W
      rw [this]; simp [h, Addr.add]
  have HOFF := Lib.hid hoff2
  have hn9 : n - 2 = 9 * N := by omega
  have hne : ((n : Int) != 2 + 9 * (N : Int)) = false := by simp; omega
  have hn2 : decide ((n : Int) < 2) = false := by simp; omega
  have hal := below_alloc (Below.refl _ w) (.cells #[.int .i64 0, .int .i64 0] 32)
  have HCL := Lib.hid (HNUM.out _ hal)
  have HN9 := Lib.hid hn9
  have HLN := Lib.hid hlen
  have h2n : 2 ≤ n := by omega
  have hN6 : N ≤ 1000000 := by omega
  clear hcells hr0 hchk hr hN hoff2 hal HNUM hn9 hlen hn
  refine (callsIn_wide (n := 4)).1 ?_
  refine callsIn_of_wp_marks Try.func15 rfl trivial ?_ rfl
  simp only [Try.ntmps15, List.size_toArray, List.length_cons, List.length_nil, Nat.reduceAdd, Nat.reduceSub, Array.replicate_succ, Array.replicate_zero, List.push_toArray, List.append_toArray, List.nil_append, List.cons_append]
  gi_wp2_with fail
  refine ⟨trivial, ?_⟩
  refine (callsIn_wide.2 HCL.out).mono ?_; rintro e w1 ⟨rfl, nn, rfl⟩
  clear HCL
  gi_wp2_with fail
  refine ⟨trivial, ?_⟩
  refine (callsIn_wide.2 (chunk_any _ _ _ _)).mono ?_; rintro e w1 ⟨rfl, rfl⟩
  gi_wp2_with fail
  obtain ⟨k1, k2, k3, k4, hsz, hB0⟩ := fourB w nn (.slice (some ⟨b, off2, none⟩) (n - 2) (c0 - 2))
  obtain ⟨W0, hW0⟩ : ∃ x, x = (((((w.alloc (.cells #[.int .i64 0, .int .i64 0] 32)).drewN nn).alloc (.cells #[.slice none 0 0] 22)).alloc (.cells #[.slice (some ⟨b, off2, none⟩) (n - 2) (c0 - 2)] 23)).alloc (.cells #[.int .i64 9] 3)) := ⟨_, rfl⟩
  rw [← hW0] at k1 k2 k3 k4 hsz hB0 ⊢; clear hW0
  have hst := chunk_stops (w.heap.size + 1 + 1) (w.heap.size + 1 + 1 + 1) b off2 N (n - 2) (c0 - 2) W0 HN9.out (by omega) (by omega) (by omega) (by omega) (Ytdelfhahbngcfaa.blk_cell k3 0 _ rfl) (Ytdelfhahbngcfaa.blk_cell k4 0 _ rfl)
  have hI0 : ∃ v, RdI w W0 v (([] : List Nat).map (spanC l0 N)) := ⟨_, k2, ⟨rfl, .inl ⟨rfl, rfl⟩⟩, hB0, by omega, k1⟩
  refine wpIn_rangeFunc_ownG rfl (by omega) (gf := 70) (lb := #[.pointer (some ⟨w.heap.size + 1 + 1, 0, none⟩), .pointer (some ⟨w.heap.size + 1 + 1 + 1, 0, none⟩)]) rfl trivial (enters_of Try.func70 (by kernel_rfl) rfl)
    hst (fun h k => KB_trans h k) (fun W l o o' hl _ _ _ => KB_put W l o' (by omega) (by omega)) (Below.refl _ _) (fun _ => rfl)
    (fun (pre : List Nat) W => ∃ v, RdI w W v (pre.map (spanC l0 N))) (fun _ _ _ => False) (read_own w l0 N _ (by omega)) (fun _ _ _ _ _ hs _ _ => hs) hI0
    (fun x => { tmps := #[.slice (some ⟨b, off, none⟩) n c0, undef, .slice none 0 0, .pointer (some ⟨w.heap.size, 0, none⟩), .int .i64 N, .int .i64 (2 + 9 * N), .pointer (some ⟨w.heap.size + 1, 0, none⟩), .slice (some ⟨b, off2 + 9 * (min x (N - 1)), none⟩) 9 9, undef, .slice (some ⟨b, off, none⟩) n c0, .int .i64 n, .bool false, undef, undef, undef, .slice (some ⟨b, off, none⟩) n c0, .slice (some ⟨b, off, none⟩) 2 c0, .int .i64 N, .int .i64 N, .int .i64 (9 * N), .int .i64 (2 + 9 * N), .slice (some ⟨b, off, none⟩) n c0, .int .i64 n, .int .i64 (2 + 9 * N), .bool false, undef, undef, undef, undef, undef, .slice (some ⟨b, off, none⟩) n c0, .slice (some ⟨b, off2, none⟩) (n - 2) (c0 - 2), .func (.func 70) #[] #[.pointer (some ⟨w.heap.size + 1 + 1, 0, none⟩), .pointer (some ⟨w.heap.size + 1 + 1 + 1, 0, none⟩)], .slice (some ⟨b, off2 + 9 * (min x (N - 1)), none⟩) 9 9, undef, undef, undef, undef, undef, undef, undef, undef, undef, undef, undef, undef, undef, undef, undef, undef, undef, undef, undef, undef, undef, undef], defers := [] }) ?assign ?body ?done ?stop
  case assign =>
    intro l x W K hK
    simp only [pieceV]
    gi_wp2
    exact hK
  case body =>
    rintro l pre x W ⟨v, hI⟩ hpl0
    gi_wp2_with fail
    obtain ⟨x', hx'⟩ : ∃ x', x' = min x (N - 1) := ⟨_, rfl⟩
    have hxN : x' < N := by omega
    obtain ⟨o9, ho9⟩ : ∃ o9, o9 = off2 + 9 * x' := ⟨_, rfl⟩
    obtain ⟨P, hP⟩ : ∃ P, P = pieceL l0 x' := ⟨_, rfl⟩
    have hP9 : P.length = 9 := by rw [hP]; exact piece_len HLEN.out hxN
    have hcell : ∀ j p, P[j]? = some p → w.cell? ⟨b, o9 + j, none⟩ = some (.int .u8 p) := fun j p hp => by
      rw [hP] at hp
      have := HCELLS.out _ _ (piece_at hp).1
      rw [ho9, HOFF.out (by omega), show off + 2 + 9 * x' + j = off + (2 + 9 * x' + j) by omega]
      exact this
    obtain ⟨p0, hp0⟩ : ∃ p0, P[0]? = some p0 := ⟨_, List.getElem?_eq_getElem (by omega)⟩
    obtain ⟨z0, hz0⟩ : ∃ z0, wrap64 p0 = z0 := ⟨_, rfl⟩
    obtain ⟨z1, hz1⟩ : ∃ z1, z1 = numV ((P.drop 1).take 4) := ⟨_, rfl⟩
    obtain ⟨z2, hz2⟩ : ∃ z2, z2 = numV (P.drop 5) := ⟨_, rfl⟩
    have HZ := Lib.hid (show spanC l0 N x = ⟨z0, z1, z2⟩ from by
      unfold spanC spanAt
      rw [← hx', ← hP, hz1, hz2, ← hz0]
      congr 2
      unfold YtdelfhahbngcfaaW.PrintWords.rd
      simp [List.getD_eq_getElem?_getD, hp0])
    have hz0' : IntKind.i64.wrap p0 = z0 := by rw [i64_w]; exact hz0
    have HSS := Lib.hid (show ∀ V, Below w.heap.size w V → V.cell? ⟨b, o9, none⟩ = some (.int .u8 p0) from fun V hV => below_cell hV (by simpa using hcell 0 p0 hp0))
    have l1 : ((P.drop 1).take 4).length = 4 := by simp; omega
    have l2 : (P.drop 5).length = 4 := by simp; omega
    have HN1 := Lib.hid (show ∀ V, Below w.heap.size w V → Calls Try.prog 49 #[.slice (some ⟨b, o9 + 1, none⟩) 4 8] V fun e w' => e = .returned (.int .i64 z1) ∧ Drawn0 V w' from fun V hV => by
      have h1 : kb.C V (some ⟨b, o9 + 1, none⟩) ((P.drop 1).take 4).length ((P.drop 1).take 4) := C_cells (by omega) (fun j p hp => below_cell hV (by
        rw [List.getElem?_take] at hp
        split at hp
        · rw [List.getElem?_drop] at hp
          rw [show o9 + 1 + j = o9 + (1 + j) by omega]
          exact hcell _ _ hp
        · cases hp))
      have := number_any _ 8 _ V h1 (by omega) (by omega)
      rw [l1, ← hz1] at this
      exact this)
    have HN2 := Lib.hid (show ∀ V, Below w.heap.size w V → Calls Try.prog 49 #[.slice (some ⟨b, o9 + 5, none⟩) 4 4] V fun e w' => e = .returned (.int .i64 z2) ∧ Drawn0 V w' from fun V hV => by
      have h1 : kb.C V (some ⟨b, o9 + 5, none⟩) (P.drop 5).length (P.drop 5) := C_cells (by omega) (fun j p hp => below_cell hV (by
        rw [List.getElem?_drop] at hp
        rw [show o9 + 5 + j = o9 + (5 + j) by omega]
        exact hcell _ _ hp))
      have := number_any _ 4 _ V h1 (by omega) (by omega)
      rw [l2, ← hz2] at this
      exact this)
    have HI := Lib.hid hI
    have HPL := Lib.hid (show (pre.map (spanC l0 N)).length ≤ 1000000 from by rw [List.length_map]; omega)
    have hfr : off2 + 9 * min x (N - 1) = o9 := by rw [← hx']; exact ho9.symm
    rw [hfr]
    clear hfr ho9 hx' hxN hz1 hz2 l1 l2 hcell hp0 hP9 hP hI
    refine wpIn_region_round (S := (fun V => V.cell? ⟨b, o9, none⟩ = some (.int .u8 p0))) (by kernel_rfl) (by kernel_rfl) (fun ⟨a, w, h⟩ => h) ?_
    have hI0 := HI.out.below (below_drew1 (Below.refl _ W))
    have hHeld := HSS.out _ hI0.bel
    have hC0 : Ytdelfhahbngcfaa.Ch (fun k => v.ownBlock = some k) W W.drew := Ytdelfhahbngcfaa.Ch.drew W _
    obtain ⟨Wd, hWd⟩ : ∃ V, V = W.drew := ⟨_, rfl⟩
    rw [← hWd] at hI0 hC0 hHeld ⊢
    clear hWd
    refine wpAnyH_take (i := 1) (oi := { dst := some 35, op := Go.Op.move (Go.Operand.tmp 7), type := 23, pos := "past.go:229", after := #[], guard := none }) (v := .slice (some ⟨b, o9, none⟩) 9 9) rfl (by kernel_rfl) (by kernel_rfl) (by kernel_rfl) (fun _ _ _ h => h) (Or.inl ⟨by rfl, ?_⟩) (by assumption) ?_
    · intro W hSw
      go_simp
      try with_reducible rfl
    simp only [Act.put, List.setIfInBounds_toArray, List.set_cons_zero, List.set_cons_succ]
    refine wpAnyH_take (i := 2) (oi := { dst := some 36, op := Go.Op.indexAddr 23 (Go.Operand.tmp 35) (Go.Operand.const (Go.Value.int Go.IntKind.i64 0)), type := 0, pos := "past.go:229", after := #[{ on := 1, ground := Go.Ground.data }], guard := none }) (v := .pointer (some ⟨b, o9, none⟩)) rfl (by kernel_rfl) (by kernel_rfl) (by kernel_rfl) (fun _ _ _ h => h) (Or.inl ⟨by rfl, ?_⟩) (by assumption) ?_
    · intro W hSw
      go_simp
      try with_reducible rfl
    simp only [Act.put, List.setIfInBounds_toArray, List.set_cons_zero, List.set_cons_succ]
    refine wpAnyH_take (i := 3) (oi := { dst := some 37, op := Go.Op.load 5 (Go.Operand.tmp 36), type := 5, pos := "past.go:229", after := #[{ on := 2, ground := Go.Ground.data }], guard := none }) (v := .int .u8 p0) rfl (by kernel_rfl) (by kernel_rfl) (by kernel_rfl) (fun _ _ _ h => h) (Or.inl ⟨by rfl, ?_⟩) (by assumption) ?_
    · intro W hSw
      go_simp
      try with_reducible rfl
    simp only [Act.put, List.setIfInBounds_toArray, List.set_cons_zero, List.set_cons_succ]
    refine wpAnyH_take (i := 4) (oi := { dst := some 38, op := Go.Op.convert 5 3 (Go.Operand.tmp 37), type := 3, pos := "past.go:229", after := #[{ on := 3, ground := Go.Ground.data }], guard := none }) (v := .int .i64 z0) rfl (by kernel_rfl) (by kernel_rfl) (by kernel_rfl) (fun _ _ _ h => h) (Or.inl ⟨by rfl, ?_⟩) (by assumption) ?_
    · intro W hSw
      go_simp
      try with_reducible rfl
    simp only [Act.put, List.setIfInBounds_toArray, List.set_cons_zero, List.set_cons_succ]
    refine wpAnyH_take (i := 5) (oi := { dst := some 39, op := Go.Op.move (Go.Operand.tmp 7), type := 23, pos := "past.go:229", after := #[], guard := none }) (v := .slice (some ⟨b, o9, none⟩) 9 9) rfl (by kernel_rfl) (by kernel_rfl) (by kernel_rfl) (fun _ _ _ h => h) (Or.inl ⟨by rfl, ?_⟩) (by assumption) ?_
    · intro W hSw
      go_simp
      try with_reducible rfl
    simp only [Act.put, List.setIfInBounds_toArray, List.set_cons_zero, List.set_cons_succ]
    refine wpAnyH_take (i := 6) (oi := { dst := some 40, op := Go.Op.slice 23 (Go.Operand.tmp 39) (some (Go.Operand.const (Go.Value.int Go.IntKind.i64 1))) (some (Go.Operand.const (Go.Value.int Go.IntKind.i64 5))) none, type := 23, pos := "past.go:229", after := #[{ on := 5, ground := Go.Ground.data }], guard := none }) (v := .slice (some ⟨b, o9 + 1, none⟩) 4 8) rfl (by kernel_rfl) (by kernel_rfl) (by kernel_rfl) (fun _ _ _ h => h) (Or.inl ⟨by rfl, ?_⟩) (by assumption) ?_
    · intro W hSw
      go_simp
      try with_reducible rfl
    simp only [Act.put, List.setIfInBounds_toArray, List.set_cons_zero, List.set_cons_succ]
    refine wpAnyH_take (i := 8) (oi := { dst := some 42, op := Go.Op.move (Go.Operand.tmp 7), type := 23, pos := "past.go:229", after := #[], guard := none }) (v := .slice (some ⟨b, o9, none⟩) 9 9) rfl (by kernel_rfl) (by kernel_rfl) (by kernel_rfl) (fun _ _ _ h => h) (Or.inl ⟨by rfl, ?_⟩) (by assumption) ?_
    · intro W hSw
      go_simp
      try with_reducible rfl
    simp only [Act.put, List.setIfInBounds_toArray, List.set_cons_zero, List.set_cons_succ]
    refine wpAnyH_take (i := 9) (oi := { dst := some 43, op := Go.Op.slice 23 (Go.Operand.tmp 42) (some (Go.Operand.const (Go.Value.int Go.IntKind.i64 5))) none none, type := 23, pos := "past.go:229", after := #[{ on := 8, ground := Go.Ground.data }], guard := none }) (v := .slice (some ⟨b, o9 + 5, none⟩) 4 4) rfl (by kernel_rfl) (by kernel_rfl) (by kernel_rfl) (fun _ _ _ h => h) (Or.inl ⟨by rfl, ?_⟩) (by assumption) ?_
    · intro W hSw
      go_simp
      try with_reducible rfl
    simp only [Act.put, List.setIfInBounds_toArray, List.set_cons_zero, List.set_cons_succ]
    refine wpAnyH_ready (rs := [0, 7]) (by kernel_rfl) (by simp) ?_
    refine AllReadyH.cons (o := { dst := some 34, op := Go.Op.load 22 (Go.Operand.tmp 6), type := 22, pos := "past.go:229", after := #[], guard := none }) rfl (fun K hK => ?_) (AllReadyH.cons (o := { dst := some 41, op := Go.Op.call { callee := Go.Callee.value (Go.Operand.func 49), args := #[Go.Operand.tmp 40], argTypes := #[23] }, type := 3, pos := "past.go:229", after := #[{ on := 6, ground := Go.Ground.data }], guard := none }) rfl (fun K hK => ?_) (AllReadyH.nil))
    · have c6 := Ytdelfhahbngcfaa.blk_cell hI0.var 0 _ rfl
      go_simp
      clear c6
      refine hK.out _ _ (HSS.out _ hI0.bel) (fun hHeld => ?_)
      clear hK K
      try simp only [Act.put, List.setIfInBounds_toArray, List.set_cons_zero, List.set_cons_succ]
      refine wpAnyH_ready (rs := [7]) (by kernel_rfl) (by simp) ?_
      refine AllReadyH.cons (o := { dst := some 41, op := Go.Op.call { callee := Go.Callee.value (Go.Operand.func 49), args := #[Go.Operand.tmp 40], argTypes := #[23] }, type := 3, pos := "past.go:229", after := #[{ on := 6, ground := Go.Ground.data }], guard := none }) rfl (fun K hK => ?_) (AllReadyH.nil)
      go_simp
      refine (HN1.out _ hI0.bel).mono ?_
      rintro e U2 ⟨rfl, hd2⟩
      have hb2 := below_drawn hd2
      have hI2 := hI0.below hb2
      have hC2 := hC0.trans (Ytdelfhahbngcfaa.Ch.of_below hb2 (fun k => v.ownBlock = some k)) (fun _ h => .inl h)
      clear hd2
      go_wp2_with fail
      refine hK.out _ _ (HSS.out _ hI2.bel) (fun hHeld => ?_)
      clear hK K
      try simp only [Act.put, List.setIfInBounds_toArray, List.set_cons_zero, List.set_cons_succ]
      refine wpAnyH_ready (rs := [10]) (by kernel_rfl) (by simp) ?_
      refine AllReadyH.cons (o := { dst := some 44, op := Go.Op.call { callee := Go.Callee.value (Go.Operand.func 49), args := #[Go.Operand.tmp 43], argTypes := #[23] }, type := 3, pos := "past.go:229", after := #[{ on := 9, ground := Go.Ground.data }, { on := 7, ground := Go.Ground.chain }], guard := none }) rfl (fun K hK => ?_) (AllReadyH.nil)
      go_simp
      refine (HN2.out _ hI2.bel).mono ?_
      rintro e U3 ⟨rfl, hd3⟩
      have hb3 := below_drawn hd3
      have hI3 := hI2.below hb3
      have hC3 := hC2.trans (Ytdelfhahbngcfaa.Ch.of_below hb3 (fun k => v.ownBlock = some k)) (fun _ h => .inl h)
      clear hd3
      go_wp2_with fail
      refine hK.out _ _ (HSS.out _ hI3.bel) (fun hHeld => ?_)
      clear hK K
      try simp only [Act.put, List.setIfInBounds_toArray, List.set_cons_zero, List.set_cons_succ]
      refine wpAnyH_take (i := 11) (oi := { dst := some 45, op := Go.Op.build 60 #[(0, Go.Operand.tmp 38), (1, Go.Operand.tmp 41), (2, Go.Operand.tmp 44)], type := 60, pos := "past.go:229", after := #[{ on := 4, ground := Go.Ground.data }, { on := 7, ground := Go.Ground.data }, { on := 10, ground := Go.Ground.data }], guard := none }) (v := .agg #[.int .i64 z0, .int .i64 z1, .int .i64 z2]) rfl (by kernel_rfl) (by kernel_rfl) (by kernel_rfl) (fun _ _ _ h => h) (Or.inl ⟨by rfl, ?_⟩) (by assumption) ?_
      · intro W hSw
        go_simp
        try with_reducible rfl
      simp only [Act.put, List.setIfInBounds_toArray, List.set_cons_zero, List.set_cons_succ]
      refine wpAnyH_ready (rs := [12]) (by kernel_rfl) (by simp) ?_
      refine AllReadyH.cons (o := { dst := some 46, op := Go.Op.buildSlice 22 1 #[(0, Go.Operand.tmp 45)], type := 22, pos := "past.go:229", after := #[{ on := 11, ground := Go.Ground.data }], guard := none }) rfl (fun K hK => ?_) (AllReadyH.nil)
      go_simp
      have hb4 := below_alloc (Below.refl _ U3) (.cells #[.int .i64 z0, .int .i64 z1, .int .i64 z2] 60)
      have hI4 := hI3.below hb4
      have hC4 := hC3.trans (Ytdelfhahbngcfaa.Ch.of_below hb4 (fun k => v.ownBlock = some k)) (fun _ h => .inl h)
      have hX4 := Ytdelfhahbngcfaa.blk_new U3 60 #[.int .i64 z0, .int .i64 z1, .int .i64 z2]
      have hO4 : v.ownBlock ≠ some U3.heap.size := fun e => by have := (hI3.ow.lt _ e).2; omega
      refine hK.out _ _ (HSS.out _ hI4.bel) (fun hHeld => ?_)
      clear hK K
      try simp only [Act.put, List.setIfInBounds_toArray, List.set_cons_zero, List.set_cons_succ]
      obtain ⟨U4, hV4⟩ : ∃ V, V = U3.alloc (.cells #[.int .i64 z0, .int .i64 z1, .int .i64 z2] 60) := ⟨_, rfl⟩
      obtain ⟨G4, hG4⟩ : ∃ G, G = U3.heap.size := ⟨_, rfl⟩
      rw [← hV4] at hHeld hI4 hC4 hX4 ⊢
      rw [← hG4] at hX4 hO4 ⊢
      clear hV4 hG4 hb4
      refine wpAnyH_ready (rs := [13]) (by kernel_rfl) (by simp) ?_
      refine AllReadyH.cons (o := { dst := some 47, op := Go.Op.call { callee := Go.Callee.builtin Go.Builtin.append, args := #[Go.Operand.tmp 34, Go.Operand.tmp 46], argTypes := #[22, 22] }, type := 22, pos := "past.go:229", after := #[{ on := 0, ground := Go.Ground.data }, { on := 12, ground := Go.Ground.data }, { on := 10, ground := Go.Ground.chain }], guard := none }) rfl (fun K hK => ?_) (AllReadyH.nil)
      refine Kd.R_append_rows_step k60 (Rr := k60.K U4) (w0 := U4) (w.heap.size + 4) rfl (.tmp 34) (.tmp 46) 22 60 (.agg #[.int .i64 0, .int .i64 0, .int .i64 0]) 24 rfl Try.underlying22 info60 rfl (by decide) (by decide) v (pre.map (spanC l0 N)) [(⟨z0, z1, z2⟩ : S60)] _ _ _ (fun _ => True) (fun _ => False) (by rfl) (by rfl) (R_of_own hI4.ow) (one60 ⟨z0, z1, z2⟩ hX4) (fun x cs h => k60_flat x cs _ _ h) (fun _ h => h.elim) (fun _ _ => trivial) (Below.refl _ _) hI4.sz (by have := HPL.out; omega) ?_
      intro v5 U5 hR5 hb5 hgr5 hat5
      obtain ⟨Ar5, cr5, rfl, _, _⟩ := Kd.R_reads hR5
      obtain ⟨L5, hL5⟩ : ∃ L, L = (pre.map (spanC l0 N) ++ [(⟨z0, z1, z2⟩ : S60)]).length := ⟨_, rfl⟩
      rw [← hL5] at hR5 hat5 ⊢
      clear hL5
      have hg5 := Ytdelfhahbngcfaa.Ch.of_grown hgr5
      have hvo5 : ∀ k, v.ownBlock = some k → w.heap.size + 4 ≤ k := fun k hk => (hI4.ow.lt k hk).1
      have hvar5 := Ytdelfhahbngcfaa.blk_ch hI4.var hg5 (fun e => by have := hvo5 _ e; omega)
      have hbb5 : Below w.heap.size w U5 := hI4.bel.trans (hg5.below hI4.bel.size (fun k e => by have := hvo5 _ e; omega))
      have HFIN := Lib.hid (read_round (B := W0.heap.size) (x := x) HI.out (by omega) (hC4.trans hg5 (fun _ h => .inl h)) (by rw [HZ.out]; exact own_of_R hR5) (hat5.imp id (fun ⟨q, e, hq⟩ => ⟨q, e, Nat.le_trans hC4.size hq⟩)))
      have c6 := Ytdelfhahbngcfaa.blk_cell hvar5 0 _ rfl
      have f6 := Ytdelfhahbngcfaa.blk_thawed hvar5 0
      refine hK.out _ _ (HSS.out _ hbb5) (fun hHeld => ?_)
      clear hK K
      try simp only [Act.put, List.setIfInBounds_toArray, List.set_cons_zero, List.set_cons_succ]
      refine wpAnyH_ready (rs := [14]) (by kernel_rfl) (by simp) ?_
      refine AllReadyH.cons (o := { dst := none, op := Go.Op.store 22 (Go.Operand.tmp 6) (Go.Operand.tmp 47), type := 0, pos := "past.go:229", after := #[{ on := 13, ground := Go.Ground.data }, { on := 13, ground := Go.Ground.chain }, { on := 0, ground := Go.Ground.phase }, { on := 1, ground := Go.Ground.phase }, { on := 2, ground := Go.Ground.phase }, { on := 3, ground := Go.Ground.phase }, { on := 4, ground := Go.Ground.phase }, { on := 5, ground := Go.Ground.phase }, { on := 6, ground := Go.Ground.phase }, { on := 7, ground := Go.Ground.phase }, { on := 8, ground := Go.Ground.phase }, { on := 9, ground := Go.Ground.phase }, { on := 10, ground := Go.Ground.phase }, { on := 11, ground := Go.Ground.phase }, { on := 12, ground := Go.Ground.phase }, { on := 13, ground := Go.Ground.phase }], guard := none }) rfl (fun K hK => ?_) (AllReadyH.nil)
      go_simp
      refine hK.out _ _ (HSS.out _ (hbb5.trans ((Ytdelfhahbngcfaa.Ch.setCell U5 ⟨w.heap.size + 1, 0, none⟩ _).below hbb5.size (fun k e => by have e : k = w.heap.size + 1 := e; omega)))) (fun hHeld => ?_)
      clear hK K
      try simp only [Act.put, List.setIfInBounds_toArray, List.set_cons_zero, List.set_cons_succ]
      refine wpAnyH_done (by kernel_rfl) ?_ _
      exact HFIN.out
    · go_simp
      refine (HN1.out _ hI0.bel).mono ?_
      rintro e U7 ⟨rfl, hd7⟩
      have hb7 := below_drawn hd7
      have hI7 := hI0.below hb7
      have hC7 := hC0.trans (Ytdelfhahbngcfaa.Ch.of_below hb7 (fun k => v.ownBlock = some k)) (fun _ h => .inl h)
      clear hd7
      go_wp2_with fail
      refine hK.out _ _ (HSS.out _ hI7.bel) (fun hHeld => ?_)
      clear hK K
      try simp only [Act.put, List.setIfInBounds_toArray, List.set_cons_zero, List.set_cons_succ]
      refine wpAnyH_ready (rs := [0, 10]) (by kernel_rfl) (by simp) ?_
      refine AllReadyH.cons (o := { dst := some 34, op := Go.Op.load 22 (Go.Operand.tmp 6), type := 22, pos := "past.go:229", after := #[], guard := none }) rfl (fun K hK => ?_) (AllReadyH.cons (o := { dst := some 44, op := Go.Op.call { callee := Go.Callee.value (Go.Operand.func 49), args := #[Go.Operand.tmp 43], argTypes := #[23] }, type := 3, pos := "past.go:229", after := #[{ on := 9, ground := Go.Ground.data }, { on := 7, ground := Go.Ground.chain }], guard := none }) rfl (fun K hK => ?_) (AllReadyH.nil))
      · have c6 := Ytdelfhahbngcfaa.blk_cell hI7.var 0 _ rfl
        go_simp
        clear c6
        refine hK.out _ _ (HSS.out _ hI7.bel) (fun hHeld => ?_)
        clear hK K
        try simp only [Act.put, List.setIfInBounds_toArray, List.set_cons_zero, List.set_cons_succ]
        refine wpAnyH_ready (rs := [10]) (by kernel_rfl) (by simp) ?_
        refine AllReadyH.cons (o := { dst := some 44, op := Go.Op.call { callee := Go.Callee.value (Go.Operand.func 49), args := #[Go.Operand.tmp 43], argTypes := #[23] }, type := 3, pos := "past.go:229", after := #[{ on := 9, ground := Go.Ground.data }, { on := 7, ground := Go.Ground.chain }], guard := none }) rfl (fun K hK => ?_) (AllReadyH.nil)
        go_simp
        refine (HN2.out _ hI7.bel).mono ?_
        rintro e U9 ⟨rfl, hd9⟩
        have hb9 := below_drawn hd9
        have hI9 := hI7.below hb9
        have hC9 := hC7.trans (Ytdelfhahbngcfaa.Ch.of_below hb9 (fun k => v.ownBlock = some k)) (fun _ h => .inl h)
        clear hd9
        go_wp2_with fail
        refine hK.out _ _ (HSS.out _ hI9.bel) (fun hHeld => ?_)
        clear hK K
        try simp only [Act.put, List.setIfInBounds_toArray, List.set_cons_zero, List.set_cons_succ]
        refine wpAnyH_take (i := 11) (oi := { dst := some 45, op := Go.Op.build 60 #[(0, Go.Operand.tmp 38), (1, Go.Operand.tmp 41), (2, Go.Operand.tmp 44)], type := 60, pos := "past.go:229", after := #[{ on := 4, ground := Go.Ground.data }, { on := 7, ground := Go.Ground.data }, { on := 10, ground := Go.Ground.data }], guard := none }) (v := .agg #[.int .i64 z0, .int .i64 z1, .int .i64 z2]) rfl (by kernel_rfl) (by kernel_rfl) (by kernel_rfl) (fun _ _ _ h => h) (Or.inl ⟨by rfl, ?_⟩) (by assumption) ?_
        · intro W hSw
          go_simp
          try with_reducible rfl
        simp only [Act.put, List.setIfInBounds_toArray, List.set_cons_zero, List.set_cons_succ]
        refine wpAnyH_ready (rs := [12]) (by kernel_rfl) (by simp) ?_
        refine AllReadyH.cons (o := { dst := some 46, op := Go.Op.buildSlice 22 1 #[(0, Go.Operand.tmp 45)], type := 22, pos := "past.go:229", after := #[{ on := 11, ground := Go.Ground.data }], guard := none }) rfl (fun K hK => ?_) (AllReadyH.nil)
        go_simp
        have hb10 := below_alloc (Below.refl _ U9) (.cells #[.int .i64 z0, .int .i64 z1, .int .i64 z2] 60)
        have hI10 := hI9.below hb10
        have hC10 := hC9.trans (Ytdelfhahbngcfaa.Ch.of_below hb10 (fun k => v.ownBlock = some k)) (fun _ h => .inl h)
        have hX10 := Ytdelfhahbngcfaa.blk_new U9 60 #[.int .i64 z0, .int .i64 z1, .int .i64 z2]
        have hO10 : v.ownBlock ≠ some U9.heap.size := fun e => by have := (hI9.ow.lt _ e).2; omega
        refine hK.out _ _ (HSS.out _ hI10.bel) (fun hHeld => ?_)
        clear hK K
        try simp only [Act.put, List.setIfInBounds_toArray, List.set_cons_zero, List.set_cons_succ]
        obtain ⟨U10, hV10⟩ : ∃ V, V = U9.alloc (.cells #[.int .i64 z0, .int .i64 z1, .int .i64 z2] 60) := ⟨_, rfl⟩
        obtain ⟨G10, hG10⟩ : ∃ G, G = U9.heap.size := ⟨_, rfl⟩
        rw [← hV10] at hHeld hI10 hC10 hX10 ⊢
        rw [← hG10] at hX10 hO10 ⊢
        clear hV10 hG10 hb10
        refine wpAnyH_ready (rs := [13]) (by kernel_rfl) (by simp) ?_
        refine AllReadyH.cons (o := { dst := some 47, op := Go.Op.call { callee := Go.Callee.builtin Go.Builtin.append, args := #[Go.Operand.tmp 34, Go.Operand.tmp 46], argTypes := #[22, 22] }, type := 22, pos := "past.go:229", after := #[{ on := 0, ground := Go.Ground.data }, { on := 12, ground := Go.Ground.data }, { on := 10, ground := Go.Ground.chain }], guard := none }) rfl (fun K hK => ?_) (AllReadyH.nil)
        refine Kd.R_append_rows_step k60 (Rr := k60.K U10) (w0 := U10) (w.heap.size + 4) rfl (.tmp 34) (.tmp 46) 22 60 (.agg #[.int .i64 0, .int .i64 0, .int .i64 0]) 24 rfl Try.underlying22 info60 rfl (by decide) (by decide) v (pre.map (spanC l0 N)) [(⟨z0, z1, z2⟩ : S60)] _ _ _ (fun _ => True) (fun _ => False) (by rfl) (by rfl) (R_of_own hI10.ow) (one60 ⟨z0, z1, z2⟩ hX10) (fun x cs h => k60_flat x cs _ _ h) (fun _ h => h.elim) (fun _ _ => trivial) (Below.refl _ _) hI10.sz (by have := HPL.out; omega) ?_
        intro v11 U11 hR11 hb11 hgr11 hat11
        obtain ⟨Ar11, cr11, rfl, _, _⟩ := Kd.R_reads hR11
        obtain ⟨L11, hL11⟩ : ∃ L, L = (pre.map (spanC l0 N) ++ [(⟨z0, z1, z2⟩ : S60)]).length := ⟨_, rfl⟩
        rw [← hL11] at hR11 hat11 ⊢
        clear hL11
        have hg11 := Ytdelfhahbngcfaa.Ch.of_grown hgr11
        have hvo11 : ∀ k, v.ownBlock = some k → w.heap.size + 4 ≤ k := fun k hk => (hI10.ow.lt k hk).1
        have hvar11 := Ytdelfhahbngcfaa.blk_ch hI10.var hg11 (fun e => by have := hvo11 _ e; omega)
        have hbb11 : Below w.heap.size w U11 := hI10.bel.trans (hg11.below hI10.bel.size (fun k e => by have := hvo11 _ e; omega))
        have HFIN := Lib.hid (read_round (B := W0.heap.size) (x := x) HI.out (by omega) (hC10.trans hg11 (fun _ h => .inl h)) (by rw [HZ.out]; exact own_of_R hR11) (hat11.imp id (fun ⟨q, e, hq⟩ => ⟨q, e, Nat.le_trans hC10.size hq⟩)))
        have c6 := Ytdelfhahbngcfaa.blk_cell hvar11 0 _ rfl
        have f6 := Ytdelfhahbngcfaa.blk_thawed hvar11 0
        refine hK.out _ _ (HSS.out _ hbb11) (fun hHeld => ?_)
        clear hK K
        try simp only [Act.put, List.setIfInBounds_toArray, List.set_cons_zero, List.set_cons_succ]
        refine wpAnyH_ready (rs := [14]) (by kernel_rfl) (by simp) ?_
        refine AllReadyH.cons (o := { dst := none, op := Go.Op.store 22 (Go.Operand.tmp 6) (Go.Operand.tmp 47), type := 0, pos := "past.go:229", after := #[{ on := 13, ground := Go.Ground.data }, { on := 13, ground := Go.Ground.chain }, { on := 0, ground := Go.Ground.phase }, { on := 1, ground := Go.Ground.phase }, { on := 2, ground := Go.Ground.phase }, { on := 3, ground := Go.Ground.phase }, { on := 4, ground := Go.Ground.phase }, { on := 5, ground := Go.Ground.phase }, { on := 6, ground := Go.Ground.phase }, { on := 7, ground := Go.Ground.phase }, { on := 8, ground := Go.Ground.phase }, { on := 9, ground := Go.Ground.phase }, { on := 10, ground := Go.Ground.phase }, { on := 11, ground := Go.Ground.phase }, { on := 12, ground := Go.Ground.phase }, { on := 13, ground := Go.Ground.phase }], guard := none }) rfl (fun K hK => ?_) (AllReadyH.nil)
        go_simp
        refine hK.out _ _ (HSS.out _ (hbb11.trans ((Ytdelfhahbngcfaa.Ch.setCell U11 ⟨w.heap.size + 1, 0, none⟩ _).below hbb11.size (fun k e => by have e : k = w.heap.size + 1 := e; omega)))) (fun hHeld => ?_)
        clear hK K
        try simp only [Act.put, List.setIfInBounds_toArray, List.set_cons_zero, List.set_cons_succ]
        refine wpAnyH_done (by kernel_rfl) ?_ _
        exact HFIN.out
      · go_simp
        refine (HN2.out _ hI7.bel).mono ?_
        rintro e U13 ⟨rfl, hd13⟩
        have hb13 := below_drawn hd13
        have hI13 := hI7.below hb13
        have hC13 := hC7.trans (Ytdelfhahbngcfaa.Ch.of_below hb13 (fun k => v.ownBlock = some k)) (fun _ h => .inl h)
        clear hd13
        go_wp2_with fail
        refine hK.out _ _ (HSS.out _ hI13.bel) (fun hHeld => ?_)
        clear hK K
        try simp only [Act.put, List.setIfInBounds_toArray, List.set_cons_zero, List.set_cons_succ]
        refine wpAnyH_take (i := 11) (oi := { dst := some 45, op := Go.Op.build 60 #[(0, Go.Operand.tmp 38), (1, Go.Operand.tmp 41), (2, Go.Operand.tmp 44)], type := 60, pos := "past.go:229", after := #[{ on := 4, ground := Go.Ground.data }, { on := 7, ground := Go.Ground.data }, { on := 10, ground := Go.Ground.data }], guard := none }) (v := .agg #[.int .i64 z0, .int .i64 z1, .int .i64 z2]) rfl (by kernel_rfl) (by kernel_rfl) (by kernel_rfl) (fun _ _ _ h => h) (Or.inl ⟨by rfl, ?_⟩) (by assumption) ?_
        · intro W hSw
          go_simp
          try with_reducible rfl
        simp only [Act.put, List.setIfInBounds_toArray, List.set_cons_zero, List.set_cons_succ]
        refine wpAnyH_ready (rs := [0, 12]) (by kernel_rfl) (by simp) ?_
        refine AllReadyH.cons (o := { dst := some 34, op := Go.Op.load 22 (Go.Operand.tmp 6), type := 22, pos := "past.go:229", after := #[], guard := none }) rfl (fun K hK => ?_) (AllReadyH.cons (o := { dst := some 46, op := Go.Op.buildSlice 22 1 #[(0, Go.Operand.tmp 45)], type := 22, pos := "past.go:229", after := #[{ on := 11, ground := Go.Ground.data }], guard := none }) rfl (fun K hK => ?_) (AllReadyH.nil))
        · have c6 := Ytdelfhahbngcfaa.blk_cell hI13.var 0 _ rfl
          go_simp
          clear c6
          refine hK.out _ _ (HSS.out _ hI13.bel) (fun hHeld => ?_)
          clear hK K
          try simp only [Act.put, List.setIfInBounds_toArray, List.set_cons_zero, List.set_cons_succ]
          refine wpAnyH_ready (rs := [12]) (by kernel_rfl) (by simp) ?_
          refine AllReadyH.cons (o := { dst := some 46, op := Go.Op.buildSlice 22 1 #[(0, Go.Operand.tmp 45)], type := 22, pos := "past.go:229", after := #[{ on := 11, ground := Go.Ground.data }], guard := none }) rfl (fun K hK => ?_) (AllReadyH.nil)
          go_simp
          have hb15 := below_alloc (Below.refl _ U13) (.cells #[.int .i64 z0, .int .i64 z1, .int .i64 z2] 60)
          have hI15 := hI13.below hb15
          have hC15 := hC13.trans (Ytdelfhahbngcfaa.Ch.of_below hb15 (fun k => v.ownBlock = some k)) (fun _ h => .inl h)
          have hX15 := Ytdelfhahbngcfaa.blk_new U13 60 #[.int .i64 z0, .int .i64 z1, .int .i64 z2]
          have hO15 : v.ownBlock ≠ some U13.heap.size := fun e => by have := (hI13.ow.lt _ e).2; omega
          refine hK.out _ _ (HSS.out _ hI15.bel) (fun hHeld => ?_)
          clear hK K
          try simp only [Act.put, List.setIfInBounds_toArray, List.set_cons_zero, List.set_cons_succ]
          obtain ⟨U15, hV15⟩ : ∃ V, V = U13.alloc (.cells #[.int .i64 z0, .int .i64 z1, .int .i64 z2] 60) := ⟨_, rfl⟩
          obtain ⟨G15, hG15⟩ : ∃ G, G = U13.heap.size := ⟨_, rfl⟩
          rw [← hV15] at hHeld hI15 hC15 hX15 ⊢
          rw [← hG15] at hX15 hO15 ⊢
          clear hV15 hG15 hb15
          refine wpAnyH_ready (rs := [13]) (by kernel_rfl) (by simp) ?_
          refine AllReadyH.cons (o := { dst := some 47, op := Go.Op.call { callee := Go.Callee.builtin Go.Builtin.append, args := #[Go.Operand.tmp 34, Go.Operand.tmp 46], argTypes := #[22, 22] }, type := 22, pos := "past.go:229", after := #[{ on := 0, ground := Go.Ground.data }, { on := 12, ground := Go.Ground.data }, { on := 10, ground := Go.Ground.chain }], guard := none }) rfl (fun K hK => ?_) (AllReadyH.nil)
          refine Kd.R_append_rows_step k60 (Rr := k60.K U15) (w0 := U15) (w.heap.size + 4) rfl (.tmp 34) (.tmp 46) 22 60 (.agg #[.int .i64 0, .int .i64 0, .int .i64 0]) 24 rfl Try.underlying22 info60 rfl (by decide) (by decide) v (pre.map (spanC l0 N)) [(⟨z0, z1, z2⟩ : S60)] _ _ _ (fun _ => True) (fun _ => False) (by rfl) (by rfl) (R_of_own hI15.ow) (one60 ⟨z0, z1, z2⟩ hX15) (fun x cs h => k60_flat x cs _ _ h) (fun _ h => h.elim) (fun _ _ => trivial) (Below.refl _ _) hI15.sz (by have := HPL.out; omega) ?_
          intro v16 U16 hR16 hb16 hgr16 hat16
          obtain ⟨Ar16, cr16, rfl, _, _⟩ := Kd.R_reads hR16
          obtain ⟨L16, hL16⟩ : ∃ L, L = (pre.map (spanC l0 N) ++ [(⟨z0, z1, z2⟩ : S60)]).length := ⟨_, rfl⟩
          rw [← hL16] at hR16 hat16 ⊢
          clear hL16
          have hg16 := Ytdelfhahbngcfaa.Ch.of_grown hgr16
          have hvo16 : ∀ k, v.ownBlock = some k → w.heap.size + 4 ≤ k := fun k hk => (hI15.ow.lt k hk).1
          have hvar16 := Ytdelfhahbngcfaa.blk_ch hI15.var hg16 (fun e => by have := hvo16 _ e; omega)
          have hbb16 : Below w.heap.size w U16 := hI15.bel.trans (hg16.below hI15.bel.size (fun k e => by have := hvo16 _ e; omega))
          have HFIN := Lib.hid (read_round (B := W0.heap.size) (x := x) HI.out (by omega) (hC15.trans hg16 (fun _ h => .inl h)) (by rw [HZ.out]; exact own_of_R hR16) (hat16.imp id (fun ⟨q, e, hq⟩ => ⟨q, e, Nat.le_trans hC15.size hq⟩)))
          have c6 := Ytdelfhahbngcfaa.blk_cell hvar16 0 _ rfl
          have f6 := Ytdelfhahbngcfaa.blk_thawed hvar16 0
          refine hK.out _ _ (HSS.out _ hbb16) (fun hHeld => ?_)
          clear hK K
          try simp only [Act.put, List.setIfInBounds_toArray, List.set_cons_zero, List.set_cons_succ]
          refine wpAnyH_ready (rs := [14]) (by kernel_rfl) (by simp) ?_
          refine AllReadyH.cons (o := { dst := none, op := Go.Op.store 22 (Go.Operand.tmp 6) (Go.Operand.tmp 47), type := 0, pos := "past.go:229", after := #[{ on := 13, ground := Go.Ground.data }, { on := 13, ground := Go.Ground.chain }, { on := 0, ground := Go.Ground.phase }, { on := 1, ground := Go.Ground.phase }, { on := 2, ground := Go.Ground.phase }, { on := 3, ground := Go.Ground.phase }, { on := 4, ground := Go.Ground.phase }, { on := 5, ground := Go.Ground.phase }, { on := 6, ground := Go.Ground.phase }, { on := 7, ground := Go.Ground.phase }, { on := 8, ground := Go.Ground.phase }, { on := 9, ground := Go.Ground.phase }, { on := 10, ground := Go.Ground.phase }, { on := 11, ground := Go.Ground.phase }, { on := 12, ground := Go.Ground.phase }, { on := 13, ground := Go.Ground.phase }], guard := none }) rfl (fun K hK => ?_) (AllReadyH.nil)
          go_simp
          refine hK.out _ _ (HSS.out _ (hbb16.trans ((Ytdelfhahbngcfaa.Ch.setCell U16 ⟨w.heap.size + 1, 0, none⟩ _).below hbb16.size (fun k e => by have e : k = w.heap.size + 1 := e; omega)))) (fun hHeld => ?_)
          clear hK K
          try simp only [Act.put, List.setIfInBounds_toArray, List.set_cons_zero, List.set_cons_succ]
          refine wpAnyH_done (by kernel_rfl) ?_ _
          exact HFIN.out
        · go_simp
          have hb18 := below_alloc (Below.refl _ U13) (.cells #[.int .i64 z0, .int .i64 z1, .int .i64 z2] 60)
          have hI18 := hI13.below hb18
          have hC18 := hC13.trans (Ytdelfhahbngcfaa.Ch.of_below hb18 (fun k => v.ownBlock = some k)) (fun _ h => .inl h)
          have hX18 := Ytdelfhahbngcfaa.blk_new U13 60 #[.int .i64 z0, .int .i64 z1, .int .i64 z2]
          have hO18 : v.ownBlock ≠ some U13.heap.size := fun e => by have := (hI13.ow.lt _ e).2; omega
          refine hK.out _ _ (HSS.out _ hI18.bel) (fun hHeld => ?_)
          clear hK K
          try simp only [Act.put, List.setIfInBounds_toArray, List.set_cons_zero, List.set_cons_succ]
          obtain ⟨U18, hV18⟩ : ∃ V, V = U13.alloc (.cells #[.int .i64 z0, .int .i64 z1, .int .i64 z2] 60) := ⟨_, rfl⟩
          obtain ⟨G18, hG18⟩ : ∃ G, G = U13.heap.size := ⟨_, rfl⟩
          rw [← hV18] at hHeld hI18 hC18 hX18 ⊢
          rw [← hG18] at hX18 hO18 ⊢
          clear hV18 hG18 hb18
          refine wpAnyH_ready (rs := [0]) (by kernel_rfl) (by simp) ?_
          refine AllReadyH.cons (o := { dst := some 34, op := Go.Op.load 22 (Go.Operand.tmp 6), type := 22, pos := "past.go:229", after := #[], guard := none }) rfl (fun K hK => ?_) (AllReadyH.nil)
          have c6 := Ytdelfhahbngcfaa.blk_cell hI18.var 0 _ rfl
          go_simp
          clear c6
          refine hK.out _ _ (HSS.out _ hI18.bel) (fun hHeld => ?_)
          clear hK K
          try simp only [Act.put, List.setIfInBounds_toArray, List.set_cons_zero, List.set_cons_succ]
          refine wpAnyH_ready (rs := [13]) (by kernel_rfl) (by simp) ?_
          refine AllReadyH.cons (o := { dst := some 47, op := Go.Op.call { callee := Go.Callee.builtin Go.Builtin.append, args := #[Go.Operand.tmp 34, Go.Operand.tmp 46], argTypes := #[22, 22] }, type := 22, pos := "past.go:229", after := #[{ on := 0, ground := Go.Ground.data }, { on := 12, ground := Go.Ground.data }, { on := 10, ground := Go.Ground.chain }], guard := none }) rfl (fun K hK => ?_) (AllReadyH.nil)
          refine Kd.R_append_rows_step k60 (Rr := k60.K U18) (w0 := U18) (w.heap.size + 4) rfl (.tmp 34) (.tmp 46) 22 60 (.agg #[.int .i64 0, .int .i64 0, .int .i64 0]) 24 rfl Try.underlying22 info60 rfl (by decide) (by decide) v (pre.map (spanC l0 N)) [(⟨z0, z1, z2⟩ : S60)] _ _ _ (fun _ => True) (fun _ => False) (by rfl) (by rfl) (R_of_own hI18.ow) (one60 ⟨z0, z1, z2⟩ hX18) (fun x cs h => k60_flat x cs _ _ h) (fun _ h => h.elim) (fun _ _ => trivial) (Below.refl _ _) hI18.sz (by have := HPL.out; omega) ?_
          intro v20 U20 hR20 hb20 hgr20 hat20
          obtain ⟨Ar20, cr20, rfl, _, _⟩ := Kd.R_reads hR20
          obtain ⟨L20, hL20⟩ : ∃ L, L = (pre.map (spanC l0 N) ++ [(⟨z0, z1, z2⟩ : S60)]).length := ⟨_, rfl⟩
          rw [← hL20] at hR20 hat20 ⊢
          clear hL20
          have hg20 := Ytdelfhahbngcfaa.Ch.of_grown hgr20
          have hvo20 : ∀ k, v.ownBlock = some k → w.heap.size + 4 ≤ k := fun k hk => (hI18.ow.lt k hk).1
          have hvar20 := Ytdelfhahbngcfaa.blk_ch hI18.var hg20 (fun e => by have := hvo20 _ e; omega)
          have hbb20 : Below w.heap.size w U20 := hI18.bel.trans (hg20.below hI18.bel.size (fun k e => by have := hvo20 _ e; omega))
          have HFIN := Lib.hid (read_round (B := W0.heap.size) (x := x) HI.out (by omega) (hC18.trans hg20 (fun _ h => .inl h)) (by rw [HZ.out]; exact own_of_R hR20) (hat20.imp id (fun ⟨q, e, hq⟩ => ⟨q, e, Nat.le_trans hC18.size hq⟩)))
          have c6 := Ytdelfhahbngcfaa.blk_cell hvar20 0 _ rfl
          have f6 := Ytdelfhahbngcfaa.blk_thawed hvar20 0
          refine hK.out _ _ (HSS.out _ hbb20) (fun hHeld => ?_)
          clear hK K
          try simp only [Act.put, List.setIfInBounds_toArray, List.set_cons_zero, List.set_cons_succ]
          refine wpAnyH_ready (rs := [14]) (by kernel_rfl) (by simp) ?_
          refine AllReadyH.cons (o := { dst := none, op := Go.Op.store 22 (Go.Operand.tmp 6) (Go.Operand.tmp 47), type := 0, pos := "past.go:229", after := #[{ on := 13, ground := Go.Ground.data }, { on := 13, ground := Go.Ground.chain }, { on := 0, ground := Go.Ground.phase }, { on := 1, ground := Go.Ground.phase }, { on := 2, ground := Go.Ground.phase }, { on := 3, ground := Go.Ground.phase }, { on := 4, ground := Go.Ground.phase }, { on := 5, ground := Go.Ground.phase }, { on := 6, ground := Go.Ground.phase }, { on := 7, ground := Go.Ground.phase }, { on := 8, ground := Go.Ground.phase }, { on := 9, ground := Go.Ground.phase }, { on := 10, ground := Go.Ground.phase }, { on := 11, ground := Go.Ground.phase }, { on := 12, ground := Go.Ground.phase }, { on := 13, ground := Go.Ground.phase }], guard := none }) rfl (fun K hK => ?_) (AllReadyH.nil)
          go_simp
          refine hK.out _ _ (HSS.out _ (hbb20.trans ((Ytdelfhahbngcfaa.Ch.setCell U20 ⟨w.heap.size + 1, 0, none⟩ _).below hbb20.size (fun k e => by have e : k = w.heap.size + 1 := e; omega)))) (fun hHeld => ?_)
          clear hK K
          try simp only [Act.put, List.setIfInBounds_toArray, List.set_cons_zero, List.set_cons_succ]
          refine wpAnyH_done (by kernel_rfl) ?_ _
          exact HFIN.out
  case done =>
    rintro D ys W hD rfl ⟨v, hI⟩ hK
    rw [spanC_range] at hI
    obtain ⟨A9, c9, rfl, h9, h9c⟩ := Kd.R_reads (R_of_own hI.ow)
    have c6 := Ytdelfhahbngcfaa.blk_cell hI.var 0 _ rfl
    have HI := Lib.hid hI; have HK := Lib.hid hK
    have HCH := Lib.hid (past_Check.calls k A9 c9 _ ee W h9c h9 HCHK.out)
    have hM : ((List.range N).map (spanAt l0)).length = N := by simp
    rw [hM] at c6 HCH
    have HM := Lib.hid hM.symm
    clear hI hK h9 h9c hM
    gi_wp2_with fail
    refine ⟨trivial, ?_⟩
    refine (callsIn_wide.2 HCH.out).mono ?_; rintro e w5 ⟨rfl, hb5⟩
    have HI5 := Lib.hid (HI.out.below hb5)
    have HK5 := Lib.hid ((hb5.block D (Array.getElem?_eq_some_iff.1 HK.out).1).trans HK.out)
    have x0 := Ytdelfhahbngcfaa.blk_cell HI5.out.flt 0 _ rfl
    have x1 := Ytdelfhahbngcfaa.blk_cell HI5.out.flt 1 _ rfl
    have x2 := Ytdelfhahbngcfaa.blk_thawed HI5.out.flt 0
    have x3 := Ytdelfhahbngcfaa.blk_thawed HI5.out.flt 1
    clear hb5 HCH
    by_cases he : ee = 0
    · subst he
      have HE := Lib.hid (show r1 = (List.range N).map (spanAt l0) ∧ r2 = 0 ∧ r3 = 0 from by
        have := HRR.out
        rw [if_pos rfl] at this
        injection this with a1 a2
        injection a2 with a2 a3
        exact ⟨a1.symm, a2.symm, a3.symm⟩)
      have c65 := Ytdelfhahbngcfaa.blk_cell HI5.out.var 0 _ rfl
      gi_wp2
      obtain ⟨wf, hwf⟩ : ∃ wf, wf = (w5.setCell ⟨w.heap.size, 0, none⟩ (.int .i64 0)).setCell ⟨w.heap.size, 1, none⟩ (.int .i64 0) := ⟨_, rfl⟩
      have hDne : D ≠ w.heap.size := fun e => by
        have h5 := HK5.out
        have h6 : w5.heap[w.heap.size]? = _ := HI5.out.flt
        rw [e, h6] at h5
        cases h5
      have hff : Ytdelfhahbngcfaa.Blk wf w.heap.size 32 #[.int .i64 0, .int .i64 0] := by rw [hwf]; exact Ytdelfhahbngcfaa.blk_set (Ytdelfhahbngcfaa.blk_set HI5.out.flt 0 (.int .i64 0)) 1 (.int .i64 0)
      have hcw : Ytdelfhahbngcfaa.Ch (fun k => k = w.heap.size) w5 wf := by rw [hwf]; exact (Ytdelfhahbngcfaa.Ch.setCell w5 ⟨w.heap.size, 0, none⟩ _).trans (Ytdelfhahbngcfaa.Ch.setCell _ ⟨w.heap.size, 1, none⟩ _) (fun _ h => .inl h)
      have hKr : wf.heap[D]? = some (.deferred (some [])) := (hcw.block D (Array.getElem?_eq_some_iff.1 HK5.out).1 hDne).trans HK5.out
      rw [← hwf]
      refine ⟨by simp, .inl ⟨_, _, rfl, run_takeDeferred hKr, ?_⟩⟩
      have y0 : (wf.putObj D (.deferred none)).cell? ⟨w.heap.size, 0, none⟩ = some (.int .i64 0) := (World.cell?_of_block (a := ⟨w.heap.size, 0, none⟩) (World.putObj_heap_other (by show w.heap.size ≠ D; omega))).trans (Ytdelfhahbngcfaa.blk_cell hff 0 _ rfl)
      have y1 : (wf.putObj D (.deferred none)).cell? ⟨w.heap.size, 1, none⟩ = some (.int .i64 0) := (World.cell?_of_block (a := ⟨w.heap.size, 1, none⟩) (World.putObj_heap_other (by show w.heap.size ≠ D; omega))).trans (Ytdelfhahbngcfaa.blk_cell hff 1 _ rfl)
      refine ⟨.tuple #[.slice A9 N c9, .agg #[.int .i64 0, .int .i64 0]], ?_, .slice A9 N c9, ?_, ?_, ?_⟩
      · simp [results, Try.results15, go_sem, y0, y1]
      · obtain ⟨a1, a2, a3⟩ := HE.out
        rw [a2, a3]
      · obtain ⟨a1, a2, a3⟩ := HE.out
        rw [a1]
        have hne : ∀ k, (Value.slice A9 N c9).ownBlock = some k → k ≠ w.heap.size ∧ k ≠ D := fun k hk => by
          have ho := HI5.out.ow
          rw [HM.out] at hk
          have h1 := (ho.lt k hk).1
          refine ⟨by omega, fun e => ?_⟩
          obtain ⟨_, cur, h6⟩ := own_typ ho hk
          rw [e] at h6
          have h5 := HK5.out
          rw [h6] at h5
          cases h5
        have ho := HI5.out.ow
        rw [← HM.out] at ho
        have h1 : Own60 wf (w.heap.size + 4) (.slice A9 N c9) ((List.range N).map (spanAt l0)) := own_ch ho hcw (fun k hk => (hne k hk).1)
        have h2 : Own60 (wf.putObj D (.deferred none)) (w.heap.size + 4) (.slice A9 N c9) ((List.range N).map (spanAt l0)) := own_same h1 (fun k hk => World.putObj_heap_other (by have := (hne k hk).2; omega))
        exact Kd.R_lower (R_of_own h2) (by omega)
      · exact (HI5.out.bel.trans (hcw.below HI5.out.bel.size (fun k e => by rw [e]; exact Nat.le_refl _))).trans (below_put wf D _ (by omega))
    · have he' : (ee != 0) = true := bne_iff_ne.2 he
      have HE := Lib.hid (show r1 = [] ∧ r2 = ee ∧ r3 = 0 from by
        have := HRR.out
        rw [if_neg he] at this
        injection this with a1 a2
        injection a2 with a2 a3
        exact ⟨a1.symm, a2.symm, a3.symm⟩)
      clear he
      gi_wp2
      obtain ⟨wf, hwf⟩ : ∃ wf, wf = (w5.setCell ⟨w.heap.size, 0, none⟩ (.int .i64 ee)).setCell ⟨w.heap.size, 1, none⟩ (.int .i64 0) := ⟨_, rfl⟩
      have hDne : D ≠ w.heap.size := fun e => by
        have h5 := HK5.out
        have h6 : w5.heap[w.heap.size]? = _ := HI5.out.flt
        rw [e, h6] at h5
        cases h5
      have hff : Ytdelfhahbngcfaa.Blk wf w.heap.size 32 #[.int .i64 ee, .int .i64 0] := by rw [hwf]; exact Ytdelfhahbngcfaa.blk_set (Ytdelfhahbngcfaa.blk_set HI5.out.flt 0 (.int .i64 ee)) 1 (.int .i64 0)
      have hcw : Ytdelfhahbngcfaa.Ch (fun k => k = w.heap.size) w5 wf := by rw [hwf]; exact (Ytdelfhahbngcfaa.Ch.setCell w5 ⟨w.heap.size, 0, none⟩ _).trans (Ytdelfhahbngcfaa.Ch.setCell _ ⟨w.heap.size, 1, none⟩ _) (fun _ h => .inl h)
      have hKr : wf.heap[D]? = some (.deferred (some [])) := (hcw.block D (Array.getElem?_eq_some_iff.1 HK5.out).1 hDne).trans HK5.out
      rw [← hwf]
      refine ⟨by simp, .inl ⟨_, _, rfl, run_takeDeferred hKr, ?_⟩⟩
      have y0 : (wf.putObj D (.deferred none)).cell? ⟨w.heap.size, 0, none⟩ = some (.int .i64 ee) := (World.cell?_of_block (a := ⟨w.heap.size, 0, none⟩) (World.putObj_heap_other (by show w.heap.size ≠ D; omega))).trans (Ytdelfhahbngcfaa.blk_cell hff 0 _ rfl)
      have y1 : (wf.putObj D (.deferred none)).cell? ⟨w.heap.size, 1, none⟩ = some (.int .i64 0) := (World.cell?_of_block (a := ⟨w.heap.size, 1, none⟩) (World.putObj_heap_other (by show w.heap.size ≠ D; omega))).trans (Ytdelfhahbngcfaa.blk_cell hff 1 _ rfl)
      refine ⟨.tuple #[.slice none 0 0, .agg #[.int .i64 ee, .int .i64 0]], ?_, .slice none 0 0, ?_, ?_, ?_⟩
      · simp [results, Try.results15, go_sem, y0, y1]
      · obtain ⟨a1, a2, a3⟩ := HE.out
        rw [a2, a3]
      · obtain ⟨a1, a2, a3⟩ := HE.out
        rw [a1]
        exact Kd.R_nil _ _ _ _ _
      · exact (HI5.out.bel.trans (hcw.below HI5.out.bel.size (fun k e => by rw [e]; exact Nat.le_refl _))).trans (below_put wf D _ (by omega))
  case stop =>
    rintro D c pre W _ _ h _
    exact h.elim
theorem past_Read.calls (k : Nat) (A0 : Option Addr) (c0 : Nat) (l0 : List Int) (r1 : List S60) (r2 r3 : Int) (w : World) (hr0 : Kd.C (Kd.int .u8) w A0 l0.length l0) (hc0 : l0.length ≤ c0) (h : past_Read.f k l0 = some (r1, r2, r3)) :
    Calls Try.prog 15 #[.slice A0 l0.length c0] w fun e w' => ∃ v0_ : Value, e = .returned (.tuple #[v0_, .agg #[.int .i64 r2, .int .i64 r3]]) ∧ Kd.R k60 60 w' w.heap.size (fun _ => True) v0_ r1 ∧ Below w.heap.size w w' := by
  unfold past_Read.f at h
  by_cases hb : l0.length ≤ 1000000
  rotate_left
  · rw [if_neg hb] at h; cases h
  rw [if_pos hb] at h
  have dest : ∀ {x : List S60 × Int × Int}, some x = some (r1, r2, r3) → x.1 = r1 ∧ x.2.1 = r2 ∧ x.2.2 = r3 := fun e => by
    obtain rfl := Option.some.inj e
    exact ⟨rfl, rfl, rfl⟩
  by_cases h2 : l0.length < 2
  · rw [if_pos h2] at h
    obtain ⟨a1, a2, a3⟩ := dest h
    exact read_short k A0 c0 l0 r1 r2 r3 w hr0 hc0 h2 a1.symm a2.symm a3.symm
  rw [if_neg h2] at h
  by_cases hm : 0 ≤ manyV l0 ∧ manyV l0 ≤ 100000
  rotate_left
  · rw [if_neg hm] at h; cases h
  rw [if_pos hm] at h
  by_cases hl : (l0.length : Int) = 2 + 9 * manyV l0
  · rw [if_pos hl] at h
    obtain ⟨ee, he, h⟩ := Option.bind_eq_some_iff.mp h
    refine read_main k A0 c0 l0 r1 r2 r3 w hr0 hc0 hb (manyV l0).toNat (by omega) (by omega) ee he ?_
    by_cases e0 : ee = 0
    · rw [if_pos e0] at h ⊢
      exact Option.some.inj h
    · rw [if_neg e0] at h ⊢
      exact Option.some.inj h
  · rw [if_neg hl] at h
    obtain ⟨a1, a2, a3⟩ := dest h
    exact read_other k A0 c0 l0 r1 r2 r3 w hr0 hc0 (by omega) hb hm hl a1.symm a2.symm a3.symm
end Go.Proofs.YtdelfhahbngcfaaX.P07
end
section
namespace Go.Proofs.YtdelfhahbngcfaaX.P07
open Go.Proofs.Ytdelfhahbngcfaa hiding blk_cell blk_new blk_lt blk_set blk_below
open Go.RowKit Go.Shelf Go.Proofs.YtdelfhahbngcfaaW.PrintWords Go.Proofs.YtdelfhahbngcfaaW.PrintLast Go.Proofs.YtdelfhahbngcfaaW.PrintMore
set_option linter.unusedVariables false
set_option linter.unusedSimpArgs false
def byt8 (x : Int) : UInt8 := UInt8.ofNat x.toNat
def isByte (x : Int) : Prop := 0 ≤ x ∧ x < 256
theorem byt8_int {x : Int} (h : isByte x) : ((byt8 x).toNat : Int) = x := by
  unfold isByte at h
  unfold byt8
  simp
  omega
def by8 (l : List Int) : List UInt8 := l.map byt8
theorem by8_len (l : List Int) : (by8 l).length = l.length := by unfold by8; simp
theorem u8s_by8 (l : List Int) (h : ∀ x ∈ l, isByte x) : u8s (by8 l) = l.map (Value.int .u8) := by
  unfold u8s by8
  rw [List.map_map]
  refine List.map_congr_left (fun x hx => ?_)
  show Value.int .u8 ((byt8 x).toNat : Int) = .int .u8 x
  rw [byt8_int (h x hx)]
def OvB (w : World) (base : Nat) (v : Value) : Prop := ∃ g o n c ys, v = .slice (some ⟨g, o, none⟩) n c ∧ w.heap[g]? = some (.cells (u8s ys).toArray 5 (0, 0)) ∧ o + c ≤ ys.length ∧ ys.length ≤ 9223372036854775807 ∧ n ≤ c ∧ base ≤ g
theorem ovB_below {w w' : World} {base : Nat} {v : Value} (h : OvB w base v) (hb : Below w.heap.size w w') : OvB w' base v := by
  obtain ⟨g, o, n, c, ys, h1, h2, h3, h4, h5, h6⟩ := h
  exact ⟨g, o, n, c, ys, h1, blk_thru hb h2, h3, h4, h5, h6⟩
theorem ovB_of_byt {w : World} {base g c n : Nat} {l : List UInt8} (h : Byt w g 5 c l) (hn : n ≤ c) (hg : base ≤ g) : OvB w base (.slice (some ⟨g, 0, none⟩) n c) := by
  obtain ⟨ys, h1, h2, h3⟩ := h.ex
  exact ⟨g, 0, n, c, ys, rfl, h3, by omega, by have := h.big; omega, hn, hg⟩
theorem Rd_of_C {w : World} {A : Option Addr} {c : Nat} {l : List Int} (h : kb.C w A l.length l) (hb : ∀ x ∈ l, isByte x) (hc : l.length ≤ c) (hm : c ≤ 9223372036854775807) (hA : ∃ a, A = some a) : Rd w A (by8 l).length c 1 (u8s (by8 l)) := by
  refine ⟨by rw [u8s_length]; omega, by rw [by8_len]; exact hc, hm, (fun e => by obtain ⟨a, ha⟩ := hA; rw [ha] at e; exact absurd e (by simp)), fun j u hu => ?_⟩
  rw [u8s_by8 l hb, List.getElem?_map] at hu
  obtain ⟨p, hp, rfl⟩ := Option.map_eq_some_iff.1 hu
  have h0 : 0 < l.length := by have := (List.getElem?_eq_some_iff.1 hp).1; omega
  obtain ⟨b, off, rfl, hcell⟩ := cells_C h h0
  exact ⟨b, off, rfl, hcell j p hp⟩
theorem reps8 {w : World} : ∀ (l : List Int) (ok : Nat → Prop) (b : Nat), Reps (kb.M w b ok) 1 l (l.map (Value.int .u8))
  | [], _, _ => Reps.none _ _
  | x :: r, ok, b => Reps.one (show Kd.M kb _ _ _ x [.int .u8 x] from rfl) (reps8 r ok b)
theorem R_of_byt {w : World} {base g c : Nat} {l : List Int} (h : Byt w g 5 c (by8 l)) (hb : ∀ x ∈ l, isByte x) (hg : base ≤ g) : Kd.R kb 5 w base (fun _ => True) (.slice (some ⟨g, 0, none⟩) l.length c) l := by
  have hfit := byt_fits h
  rw [by8_len] at hfit
  obtain ⟨ys, h1, h2, h3⟩ := h.ex
  refine ⟨fun _ _ => trivial, l.map (Value.int .u8), ⟨by rw [List.length_map]; exact (Nat.mul_one _).symm, .inr ⟨g, c, _, rfl, hg, h3, hfit, by have := h.big; simpa only [maxLen] using this, by show (u8s ys).toArray.size = c * 1; simp [h1], ?_⟩⟩, reps8 l _ _⟩
  have e : (u8s ys).take l.length = u8s (by8 l) := by rw [← h2, u8s_take, by8_len]
  rw [u8s_by8 l hb] at e
  show ((u8s ys).toArray.toList).take (l.length * 1) = _
  rw [Nat.mul_one]
  exact e
theorem isByte_mod (a : Int) : isByte (a % 256) := by unfold isByte; omega
theorem fourL_b (a : Int) : ∀ x ∈ fourL a, isByte x := fun x hx => by
  unfold fourL at hx
  simp only [List.mem_cons, List.not_mem_nil, or_false] at hx
  rcases hx with h | h | h | h <;> (rw [h]; exact isByte_mod _)
theorem oneB_b (s : S60) : ∀ x ∈ oneB s, isByte x := fun x hx => by
  unfold oneB at hx
  rcases List.mem_append.1 hx with h | h
  · rcases List.mem_append.1 h with h | h
    · rw [List.mem_singleton.1 h]; exact isByte_mod _
    · exact fourL_b _ x h
  · exact fourL_b _ x h
theorem rows4 {G : Nat} {V : World} {l0 l1 l2 l3 : List Int} {A0 A1 A2 A3 : Option Addr} {c0 c1 c2 c3 : Nat} (hG : V.heap[G]? = some (.cells #[.slice A0 l0.length c0, .slice A1 l1.length c1, .slice A2 l2.length c2, .slice A3 l3.length c3] 23))
    (r0 : Rd V A0 (by8 l0).length c0 1 (u8s (by8 l0))) (r1 : Rd V A1 (by8 l1).length c1 1 (u8s (by8 l1))) (r2 : Rd V A2 (by8 l2).length c2 1 (u8s (by8 l2))) (r3 : Rd V A3 (by8 l3).length c3 1 (u8s (by8 l3))) : RowsB V (some ⟨G, 0, none⟩) [by8 l0, by8 l1, by8 l2, by8 l3] := by
  intro k hk
  refine ⟨G, 0, rfl, fun W hW => ?_⟩
  have hB := blk_thru hW hG
  match k, hk with
  | 0, _ => exact ⟨A0, c0, (blk_cell hB 0).trans (by show some _ = some (Value.slice A0 (by8 l0).length c0); rw [by8_len]; rfl), r0.below hW⟩
  | 1, _ => exact ⟨A1, c1, (blk_cell hB 1).trans (by show some _ = some (Value.slice A1 (by8 l1).length c1); rw [by8_len]; rfl), r1.below hW⟩
  | 2, _ => exact ⟨A2, c2, (blk_cell hB 2).trans (by show some _ = some (Value.slice A2 (by8 l2).length c2); rw [by8_len]; rfl), r2.below hW⟩
  | 3, _ => exact ⟨A3, c3, (blk_cell hB 3).trans (by show some _ = some (Value.slice A3 (by8 l3).length c3); rw [by8_len]; rfl), r3.below hW⟩
  | n + 4, h => exact absurd h (by simp)
theorem concat4b (base G1 b1 b2 c0 : Nat) (A0 : Option Addr) (l0 : List Int) (x : S60) (vA vB : Value) (V w0 : World) (hw0 : Below w0.heap.size w0 V) (hbw : base ≤ V.heap.size) (h0 : l0.length ≤ c0 ∧ kb.C V A0 l0.length l0) (hG : V.heap[G1]? = some (.cells #[.int .u8 (x.f0 % 256)] 5))
    (hA : Kd.R kb 5 V b1 (fun _ => True) vA (fourL x.f1)) (hB : Kd.R kb 5 V b2 (fun _ => True) vB (fourL x.f2)) (hlen : l0.length < 990000) (hOv : OvB V base (.slice A0 l0.length c0)) (hl0 : ∀ x ∈ l0, isByte x) :
    Calls Try.prog 48 #[.slice (some ⟨V.heap.size, 0, none⟩) 4 4] (V.alloc (.cells #[.slice A0 l0.length c0, .slice (some ⟨G1, 0, none⟩) 1 1, vA, vB] 23)) fun e w' => ∃ v, e = .returned v ∧ (Kd.R kb 5 w' base (fun _ => True) v (l0 ++ oneB x) ∧ OvB w' base v) ∧ Below V.heap.size V w' ∧ Below w0.heap.size w0 w' := by
  obtain ⟨gA, cA, rfl, kA, mA⟩ := RB_some hA (n := 4) rfl (by decide)
  obtain ⟨gB, cB, rfl, kB, mB⟩ := RB_some hB (n := 4) rfl (by decide)
  obtain ⟨A2, c2, e2, k2, r2⟩ := Kd.R_reads hA
  obtain ⟨A3, c3, e3, k3, r3⟩ := Kd.R_reads hB
  injection e2 with e2 _ e2'
  injection e3 with e3 _ e3'
  subst e2 e3 e2' e3'
  obtain ⟨g, o, n, c, ys, eO, hO1, hO2, hO3, hO4, hO5⟩ := hOv
  injection eO with eO1 eO2 eO3
  subst eO1 eO3
  have hbl : Below V.heap.size V (V.alloc (.cells #[.slice (some ⟨g, o, none⟩) l0.length c0, .slice (some ⟨G1, 0, none⟩) 1 1, .slice (some ⟨gA, 0, none⟩) 4 cA, .slice (some ⟨gB, 0, none⟩) 4 cB] 23)) := (Below.refl _ V).alloc (Nat.le_refl _) _
  have hN := blk_new V (.cells #[.slice (some ⟨g, o, none⟩) l0.length c0, .slice (some ⟨G1, 0, none⟩) 1 1, .slice (some ⟨gA, 0, none⟩) 4 cA, .slice (some ⟨gB, 0, none⟩) 4 cB] 23)
  have r1 : kb.C V (some ⟨G1, 0, none⟩) 1 [x.f0 % 256] := C_cells (bs := [x.f0 % 256]) (by simp) (fun j p hp => by
    cases j with
    | zero =>
      have e : p = x.f0 % 256 := by simpa using hp.symm
      subst e
      exact (blk_cell hG 0).trans rfl
    | succ j => simp at hp)
  have s0 := (Rd_of_C h0.2 hl0 h0.1 (by omega) ⟨_, rfl⟩).below hbl
  have s1 := (Rd_of_C (l := [x.f0 % 256]) r1 (fun y hy => by rw [List.mem_singleton.1 hy]; exact isByte_mod _) (Nat.le_refl 1) (by omega) ⟨_, rfl⟩).below hbl
  have s2 := (Rd_of_C r2 (fourL_b _) k2 mA ⟨_, rfl⟩).below hbl
  have s3 := (Rd_of_C r3 (fourL_b _) k3 mB ⟨_, rfl⟩).below hbl
  have hR := rows4 (l1 := [x.f0 % 256]) (l2 := fourL x.f1) (l3 := fourL x.f2) hN s0 s1 s2 s3
  have hfl : [by8 l0, by8 [x.f0 % 256], by8 (fourL x.f1), by8 (fourL x.f2)].flatten = by8 (l0 ++ oneB x) := by simp [by8, oneB, List.append_assoc]
  have hb : ∀ y ∈ l0 ++ oneB x, isByte y := fun y hy => by
    rcases List.mem_append.1 hy with h | h
    · exact hl0 y h
    · exact oneB_b x y h
  have hll : (l0 ++ oneB x).length = l0.length + 9 := by rw [List.length_append]; rfl
  refine (concat_b (some ⟨V.heap.size, 0, none⟩) 4 4 [by8 l0, by8 [x.f0 % 256], by8 (fourL x.f1), by8 (fourL x.f2)] _ rfl hR (Nat.le_refl 4) (by decide) (by rw [hfl, by8_len]; omega) (by rw [hfl, by8_len]; omega)).mono ?_
  rintro e w' ⟨g', c', rfl, hg', hbyt, hbel⟩
  rw [hfl] at hbyt
  have hfit := byt_fits hbyt
  have hgb : base ≤ g' := Nat.le_trans hbw (Nat.le_trans hbl.size hg')
  have HR := R_of_byt hbyt hb hgb
  refine ⟨_, rfl, ⟨?_, ?_⟩, hbl.trans (hbel.mono hbl.size), hw0.trans ((hbl.trans (hbel.mono hbl.size)).mono hw0.size)⟩
  · rw [hfl, by8_len]; exact HR
  · rw [hfl]; exact ovB_of_byt hbyt hfit hgb
end Go.Proofs.YtdelfhahbngcfaaX.P07
end
section
namespace Go.Proofs.YtdelfhahbngcfaaX.P07
open Go.Proofs.Ytdelfhahbngcfaa hiding blk_cell blk_new blk_lt blk_set blk_below
open Go.RowKit Go.Shelf Go.Proofs.YtdelfhahbngcfaaW.PrintWords Go.Proofs.YtdelfhahbngcfaaW.PrintLast Go.Proofs.YtdelfhahbngcfaaW.PrintMore
set_option linter.unusedVariables false
set_option linter.unusedSimpArgs false
attribute [local go_sem] Oper.semAt_some
theorem ovB_cut {w : World} {base g c : Nat} {l : List UInt8} (h : Byt w g 5 c l) (hc : 4 ≤ c) (hg : base ≤ g) : OvB w base (.slice (some ⟨g, 2, none⟩) 2 (c - 2)) := by
  obtain ⟨ys, h1, h2, h3⟩ := h.ex
  exact ⟨g, 2, 2, c - 2, ys, rfl, h3, by omega, by have := h.big; omega, by omega, hg⟩
set_option maxRecDepth 100000 in
set_option maxHeartbeats 4000000 in
theorem four_b (a0 : Int) (w : World) : Calls Try.prog 47 #[.int .i64 a0] w fun e w' => ∃ g c, e = .returned (.slice (some ⟨g, 0, none⟩) 4 c) ∧ w.heap.size ≤ g ∧ 4 ≤ c ∧ Byt w' g 5 c (by8 (fourL a0)) ∧ Below w.heap.size w w' := by
  go_enter Try.func47, Try.ntmps47
  go_wp2
  go_ret
  refine ⟨w.heap.size, 4, rfl, Nat.le_refl _, Nat.le_refl _, ⟨⟨by8 (fourL a0), rfl, List.take_length, ?_⟩, by omega⟩, (Below.refl _ w).alloc (Nat.le_refl _) _⟩
  rw [heap_alloc_new, u8s_by8 _ (fourL_b a0)]
  rfl
set_option maxRecDepth 100000 in
set_option maxHeartbeats 8000000 in
theorem past_Bytes.callsB (k : Nat) (A0 : Option Addr) (c0 : Nat) (l0 : List (S60)) (r1 : List Int) (r2 : Int) (w : World) (hr0 : Kd.C k60 w A0 l0.length l0) (hc0 : l0.length ≤ c0) (h : past_Bytes.f k l0 = some (r1, r2)) :
    Calls Try.prog 13 #[.slice A0 l0.length c0] w fun e w' => ∃ v0_ : Value, e = .returned (.tuple #[v0_, .int .i64 r2]) ∧ (Kd.Q kb 5 w' w.heap.size (fun _ => True) v0_ r1 ∧ (v0_ = .slice none 0 0 ∨ OvB w' w.heap.size v0_)) ∧ Below w.heap.size w w' := by
  unfold past_Bytes.f at h
  by_cases hn : l0.length ≤ 100000
  rotate_left
  · rw [if_neg hn] at h; cases h
  rw [if_pos hn] at h
  obtain ⟨e0, he, h⟩ := Option.bind_eq_some_iff.mp h
  have HX := Lib.hid (fun h0 => cells60 hr0 h0)
  have HCHK := Lib.hid (past_Check.calls k A0 c0 l0 e0 w hr0 hc0 he)
  obtain ⟨N, hN⟩ : ∃ N, N = l0.length := ⟨_, rfl⟩
  have HN := Lib.hid hN
  rw [← hN] at hn HCHK ⊢
  clear he hr0 hN
  by_cases h0 : e0 = 0
  rotate_left
  · rw [if_neg h0] at h
    obtain ⟨rfl, rfl⟩ := Prod.mk.inj (Option.some.inj h)
    have h0' : (e0 != 0) = true := bne_iff_ne.2 h0
    clear h h0
    go_enter Try.func13, Try.ntmps13
    go_wp2_with (go_at_call 38; refine HCHK.out.mono ?_; rintro e w1 ⟨rfl, hbel⟩; have HB := Lib.hid hbel; clear hbel)
    go_ret2
    exact ⟨_, rfl, ⟨Kd.Q_of_R (Kd.R_nil _ _ _ _ _), .inl rfl⟩, HB.out⟩
  subst h0
  rw [if_pos rfl] at h
  obtain ⟨rfl, rfl⟩ := Prod.mk.inj (Option.some.inj h)
  clear h
  go_enter Try.func13, Try.ntmps13
  go_wp2_with first | (go_at_call 38; refine HCHK.out.mono ?_; rintro e w1 ⟨rfl, hbel⟩; have HB := Lib.hid hbel; clear hbel) | (go_at_call 47; refine (four_b (N : Int) _).mono ?_; rintro e w2 ⟨g2, c2, rfl, hg2, hc2, hbyt, hbel⟩; have HO := Lib.hid (show Kd.R kb 5 w2 w1.heap.size (fun _ => True) (.slice (some ⟨g2, 0, none⟩) 4 c2) (fourL (N : Int)) from R_of_byt hbyt (fourL_b _) hg2); have HYT := Lib.hid (And.intro hbyt hg2); have HB2 := Lib.hid hbel; clear hbyt hbel hg2)
  have HQ0 := Lib.hid (show (Kd.Q kb 5 w2 w.heap.size (fun _ => True) (.slice (some ⟨g2, 2, none⟩) 2 (c2 - 2)) ((fourL (N : Int)).drop 2) ∧ OvB w2 w.heap.size (.slice (some ⟨g2, 2, none⟩) 2 (c2 - 2))) ∧ Below w.heap.size w w2 from by
    refine ⟨⟨?_, ovB_cut HYT.out.1 hc2 (Nat.le_trans HB.out.size HYT.out.2)⟩, HB.out.trans (HB2.out.mono HB.out.size)⟩
    have := Kd.Q_drop (k := 2) (Kd.Q_of_R (Kd.R_lower HO.out HB.out.size)) (show 2 ≤ 4 by omega)
    rw [if_neg (by omega)] at this
    exact this)
  go_wp2
  go_loopw [5, 19] (fun v i wr => ∃ j : Nat, j ≤ N ∧ i = .int .i64 j ∧ Hid ((Kd.Q kb 5 wr w.heap.size (fun _ => True) v ((fourL (N : Int)).drop 2 ++ (l0.take j).flatMap oneB) ∧ OvB wr w.heap.size v) ∧ Below w.heap.size w wr)) (fun _ i _ => N - (intOf i).toNat)
  case atStart => exact ⟨0, Nat.zero_le _, rfl, Lib.hid ⟨⟨by simpa using HQ0.out.1.1, HQ0.out.1.2⟩, HQ0.out.2⟩⟩
  case round =>
    clear HQ0 HO HB HB2 HYT
    obtain ⟨j, hj, rfl, HI⟩ := hrel
    by_cases hlt : j < N
    · have hkl : j < l0.length := by rw [← HN.out]; exact hlt
      obtain ⟨b, off, rfl, hc⟩ := HX.out (by omega)
      obtain ⟨q0, q1, q2⟩ := hc j hkl
      obtain ⟨x, hx⟩ : ∃ x, x = rd_T60 l0 (j : Int) := ⟨_, rfl⟩
      rw [← hx] at q0 q1 q2
      replace q0 := (HI.out.2.cell (World.block_lt_of_cell? w _ q0)).trans q0
      replace q1 := (HI.out.2.cell (World.block_lt_of_cell? w _ q1)).trans q1
      replace q2 := (HI.out.2.cell (World.block_lt_of_cell? w _ q2)).trans q2
      have hxx : l0[j] = x := by rw [hx]; unfold rd_T60; simp [List.getD_eq_getElem?_getD, hkl]
      obtain ⟨ol, hol⟩ : ∃ ol, ol = (fourL (N : Int)).drop 2 ++ (l0.take j).flatMap oneB := ⟨_, rfl⟩
      have HT := Lib.hid (show (fourL (N : Int)).drop 2 ++ (l0.take (j + 1)).flatMap oneB = ol ++ oneB x by rw [List.take_succ_eq_append_getElem hkl, hxx, List.flatMap_append, hol]; simp)
      have hlen : ol.length < 990000 := by rw [hol, List.length_append, bytes_len]; simp [fourL]; omega
      have HOLB := Lib.hid (show ∀ y ∈ ol, isByte y from fun y hy => by
        rw [hol] at hy
        rcases List.mem_append.1 hy with h | h
        · exact fourL_b _ y (List.mem_of_mem_drop h)
        · obtain ⟨s, _, hs⟩ := List.mem_flatMap.1 h; exact oneB_b s y hs)
      rw [← hol] at HI
      obtain ⟨Av, cv, rfl, hcv, hCv⟩ := Kd.Q_reads HI.out.1.1
      have hbT : Below wr.heap.size wr (wr.alloc (.cells #[.int .i64 x.f0, .int .i64 x.f1, .int .i64 x.f2] 60)) := (Below.refl _ wr).alloc (Nat.le_refl _) _
      have HOV := Lib.hid (show ∀ W, Below (wr.alloc (.cells #[.int .i64 x.f0, .int .i64 x.f1, .int .i64 x.f2] 60)).heap.size (wr.alloc (.cells #[.int .i64 x.f0, .int .i64 x.f1, .int .i64 x.f2] 60)) W → OvB W w.heap.size (.slice Av ol.length cv) from fun W hW => ovB_below HI.out.1.2 (hbT.trans (hW.mono hbT.size)))
      have HS := Lib.hid (show ∀ W, Below (wr.alloc (.cells #[.int .i64 x.f0, .int .i64 x.f1, .int .i64 x.f2] 60)).heap.size (wr.alloc (.cells #[.int .i64 x.f0, .int .i64 x.f1, .int .i64 x.f2] 60)) W → W.cell? ⟨wr.heap.size, 0, none⟩ = some (.int .i64 x.f0) ∧ W.cell? ⟨wr.heap.size, 1, none⟩ = some (.int .i64 x.f1) ∧ W.cell? ⟨wr.heap.size, 2, none⟩ = some (.int .i64 x.f2) from fun W hW => by
        have := blk_thru hW (blk_new wr (.cells #[.int .i64 x.f0, .int .i64 x.f1, .int .i64 x.f2] 60))
        exact ⟨(blk_cell this 0).trans rfl, (blk_cell this 1).trans rfl, (blk_cell this 2).trans rfl⟩)
      have HOUT := Lib.hid (show ∀ W, Below (wr.alloc (.cells #[.int .i64 x.f0, .int .i64 x.f1, .int .i64 x.f2] 60)).heap.size (wr.alloc (.cells #[.int .i64 x.f0, .int .i64 x.f1, .int .i64 x.f2] 60)) W → w.heap.size ≤ W.heap.size ∧ (ol.length ≤ cv ∧ kb.C W Av ol.length ol) from fun W hW => ⟨by have := hW.size; have := hbT.size; have := HI.out.2.size; omega, hcv, Kd.C_below (Kd.C_below hCv hbT) hW⟩)
      have HBW := Lib.hid (show ∀ W, Below (wr.alloc (.cells #[.int .i64 x.f0, .int .i64 x.f1, .int .i64 x.f2] 60)).heap.size (wr.alloc (.cells #[.int .i64 x.f0, .int .i64 x.f1, .int .i64 x.f2] 60)) W → Below w.heap.size w W from fun W hW => HI.out.2.trans ((hbT.trans (hW.mono hbT.size)).mono HI.out.2.size))
      have e8 : IntKind.u8.wrap x.f0 = x.f0 % 256 := IntKind.wrap_u8 _
      have s0 := HS.out _ (Below.refl _ _)
      have HGA := Lib.hid (show ((wr.alloc (.cells #[.int .i64 x.f0, .int .i64 x.f1, .int .i64 x.f2] 60)).alloc (.cells #[.int .u8 (x.f0 % 256)] 5)).heap[wr.heap.size + 1]? = some (.cells #[.int .u8 (x.f0 % 256)] 5) from by
        have := blk_new (wr.alloc (.cells #[.int .i64 x.f0, .int .i64 x.f1, .int .i64 x.f2] 60)) (.cells #[.int .u8 (x.f0 % 256)] 5)
        rwa [show (wr.alloc (.cells #[.int .i64 x.f0, .int .i64 x.f1, .int .i64 x.f2] 60)).heap.size = wr.heap.size + 1 by simp] at this)
      clear hc hx hxx hkl hol hCv hbT
      go_wp2_with fail
      have hV0 : Below (wr.alloc (.cells #[.int .i64 x.f0, .int .i64 x.f1, .int .i64 x.f2] 60)).heap.size (wr.alloc (.cells #[.int .i64 x.f0, .int .i64 x.f1, .int .i64 x.f2] 60)) (wr.alloc (.cells #[.int .i64 x.f0, .int .i64 x.f1, .int .i64 x.f2] 60)).drew := below_drew1 (Below.refl _ _)
      refine wp_region_held_drew (S := (fun W => W.cell? ⟨wr.heap.size, 0, none⟩ = some (.int .i64 x.f0) ∧ W.cell? ⟨wr.heap.size, 1, none⟩ = some (.int .i64 x.f1) ∧ W.cell? ⟨wr.heap.size, 2, none⟩ = some (.int .i64 x.f2))) (by kernel_rfl) (HS.out _ hV0) (fun hHeld => ?_)
      refine wpAnyH_take (i := 0) (oi := { dst := some 23, op := Go.Op.move (Go.Operand.tmp 5), type := 23, pos := "past.go:213", after := #[], guard := none }) (v := .slice Av ol.length cv) rfl (by kernel_rfl) (by kernel_rfl) (by kernel_rfl) (fun _ _ _ h => h) (Or.inl ⟨by rfl, ?_⟩) (by assumption) ?_
      · intro W hSw
        go_simp
      simp only [Act.put, List.setIfInBounds_toArray, List.set_cons_zero, List.set_cons_succ]
      refine wpAnyH_take (i := 1) (oi := { dst := some 24, op := Go.Op.fieldAddr 60 (Go.Operand.tmp 7) 0, type := 0, pos := "past.go:213", after := #[], guard := none }) (v := .pointer (some ⟨wr.heap.size, 0, none⟩)) rfl (by kernel_rfl) (by kernel_rfl) (by kernel_rfl) (fun _ _ _ h => h) (Or.inl ⟨by rfl, ?_⟩) (by assumption) ?_
      · intro W hSw
        go_simp
      simp only [Act.put, List.setIfInBounds_toArray, List.set_cons_zero, List.set_cons_succ]
      refine wpAnyH_take (i := 2) (oi := { dst := some 25, op := Go.Op.load 3 (Go.Operand.tmp 24), type := 3, pos := "past.go:213", after := #[{ on := 1, ground := Go.Ground.data }], guard := none }) (v := .int .i64 x.f0) rfl (by kernel_rfl) (by kernel_rfl) (by kernel_rfl) (fun _ _ _ h => h) (Or.inl ⟨by rfl, ?_⟩) (by assumption) ?_
      · intro W hSw
        go_simp
      simp only [Act.put, List.setIfInBounds_toArray, List.set_cons_zero, List.set_cons_succ]
      refine wpAnyH_take (i := 3) (oi := { dst := some 26, op := Go.Op.convert 3 5 (Go.Operand.tmp 25), type := 5, pos := "past.go:213", after := #[{ on := 2, ground := Go.Ground.data }], guard := none }) (v := .int .u8 (x.f0 % 256)) rfl (by kernel_rfl) (by kernel_rfl) (by kernel_rfl) (fun _ _ _ h => h) (Or.inl ⟨by rfl, ?_⟩) (by assumption) ?_
      · intro W hSw
        go_simp
      simp only [Act.put, List.setIfInBounds_toArray, List.set_cons_zero, List.set_cons_succ]
      refine wpAnyH_take (i := 5) (oi := { dst := some 28, op := Go.Op.fieldAddr 60 (Go.Operand.tmp 7) 1, type := 0, pos := "past.go:213", after := #[], guard := none }) (v := .pointer (some ⟨wr.heap.size, 1, none⟩)) rfl (by kernel_rfl) (by kernel_rfl) (by kernel_rfl) (fun _ _ _ h => h) (Or.inl ⟨by rfl, ?_⟩) (by assumption) ?_
      · intro W hSw
        go_simp
      simp only [Act.put, List.setIfInBounds_toArray, List.set_cons_zero, List.set_cons_succ]
      refine wpAnyH_take (i := 6) (oi := { dst := some 29, op := Go.Op.load 3 (Go.Operand.tmp 28), type := 3, pos := "past.go:213", after := #[{ on := 5, ground := Go.Ground.data }], guard := none }) (v := .int .i64 x.f1) rfl (by kernel_rfl) (by kernel_rfl) (by kernel_rfl) (fun _ _ _ h => h) (Or.inl ⟨by rfl, ?_⟩) (by assumption) ?_
      · intro W hSw
        go_simp
      simp only [Act.put, List.setIfInBounds_toArray, List.set_cons_zero, List.set_cons_succ]
      refine wpAnyH_take (i := 8) (oi := { dst := some 31, op := Go.Op.fieldAddr 60 (Go.Operand.tmp 7) 2, type := 0, pos := "past.go:213", after := #[], guard := none }) (v := .pointer (some ⟨wr.heap.size, 2, none⟩)) rfl (by kernel_rfl) (by kernel_rfl) (by kernel_rfl) (fun _ _ _ h => h) (Or.inl ⟨by rfl, ?_⟩) (by assumption) ?_
      · intro W hSw
        go_simp
      simp only [Act.put, List.setIfInBounds_toArray, List.set_cons_zero, List.set_cons_succ]
      refine wpAnyH_take (i := 9) (oi := { dst := some 32, op := Go.Op.load 3 (Go.Operand.tmp 31), type := 3, pos := "past.go:213", after := #[{ on := 8, ground := Go.Ground.data }], guard := none }) (v := .int .i64 x.f2) rfl (by kernel_rfl) (by kernel_rfl) (by kernel_rfl) (fun _ _ _ h => h) (Or.inl ⟨by rfl, ?_⟩) (by assumption) ?_
      · intro W hSw
        go_simp
      simp only [Act.put, List.setIfInBounds_toArray, List.set_cons_zero, List.set_cons_succ]
      obtain ⟨W0, hW0⟩ : ∃ W, W = (wr.alloc (.cells #[.int .i64 x.f0, .int .i64 x.f1, .int .i64 x.f2] 60)).drew := ⟨_, rfl⟩
      rw [← hW0] at hHeld hV0 ⊢
      clear hW0
      refine wpAnyH_ready (rs := [4, 7]) (by kernel_rfl) (by simp) ?_
      refine AllReadyH.cons (o := { dst := some 27, op := Go.Op.buildSlice 23 1 #[(0, Go.Operand.tmp 26)], type := 23, pos := "past.go:213", after := #[{ on := 3, ground := Go.Ground.data }], guard := none }) rfl (fun K hK => ?_) (AllReadyH.cons (o := { dst := some 30, op := Go.Op.call { callee := Go.Callee.value (Go.Operand.func 47), args := #[Go.Operand.tmp 29], argTypes := #[3] }, type := 23, pos := "past.go:213", after := #[{ on := 6, ground := Go.Ground.data }], guard := none }) rfl (fun K hK => ?_) (AllReadyH.nil))
      · go_simp
        have bV1 : Below (wr.alloc (.cells #[.int .i64 x.f0, .int .i64 x.f1, .int .i64 x.f2] 60)).heap.size (wr.alloc (.cells #[.int .i64 x.f0, .int .i64 x.f1, .int .i64 x.f2] 60)) (W0.alloc (.cells #[.int .u8 (x.f0 % 256)] 5)) := below_alloc hV0 _
        refine hK.out _ _ (HS.out _ bV1) (fun hHeld => ?_)
        clear hK K
        try simp only [Act.put, List.setIfInBounds_toArray, List.set_cons_zero, List.set_cons_succ]
        have hG1 := blk_new W0 (.cells #[.int .u8 (x.f0 % 256)] 5)
        have hs1 : Below W0.heap.size W0 (W0.alloc (.cells #[.int .u8 (x.f0 % 256)] 5)) := below_alloc (Below.refl _ _) _
        obtain ⟨V1, hV1⟩ : ∃ V, V = W0.alloc (.cells #[.int .u8 (x.f0 % 256)] 5) := ⟨_, rfl⟩
        rw [← hV1] at hHeld bV1 hG1 hs1 ⊢
        clear hV1
        refine wpAnyH_ready (rs := [7]) (by kernel_rfl) (by simp) ?_
        refine AllReadyH.cons (o := { dst := some 30, op := Go.Op.call { callee := Go.Callee.value (Go.Operand.func 47), args := #[Go.Operand.tmp 29], argTypes := #[3] }, type := 23, pos := "past.go:213", after := #[{ on := 6, ground := Go.Ground.data }], guard := none }) rfl (fun K hK => ?_) (AllReadyH.nil)
        · go_simp
          refine (past_four.calls x.f1 (fourL x.f1) _ rfl).mono ?_
          rintro e V2 ⟨v2, rfl, ho2, hs2⟩
          obtain ⟨g2, c2, rfl, _, _⟩ := RB_some ho2 (n := 4) rfl (by decide)
          have bV2 : Below (wr.alloc (.cells #[.int .i64 x.f0, .int .i64 x.f1, .int .i64 x.f2] 60)).heap.size (wr.alloc (.cells #[.int .i64 x.f0, .int .i64 x.f1, .int .i64 x.f2] 60)) V2 := bV1.trans (hs2.mono bV1.size)
          go_wp2_with fail
          refine hK.out _ _ (HS.out _ bV2) (fun hHeld => ?_)
          clear hK K
          try simp only [Act.put, List.setIfInBounds_toArray, List.set_cons_zero, List.set_cons_succ]
          have hG2 := blk_thru hs2 hG1
          refine wpAnyH_ready (rs := [10]) (by kernel_rfl) (by simp) ?_
          refine AllReadyH.cons (o := { dst := some 33, op := Go.Op.call { callee := Go.Callee.value (Go.Operand.func 47), args := #[Go.Operand.tmp 32], argTypes := #[3] }, type := 23, pos := "past.go:213", after := #[{ on := 9, ground := Go.Ground.data }, { on := 7, ground := Go.Ground.chain }], guard := none }) rfl (fun K hK => ?_) (AllReadyH.nil)
          · go_simp
            refine (past_four.calls x.f2 (fourL x.f2) _ rfl).mono ?_
            rintro e V3 ⟨v3, rfl, ho3, hs3⟩
            obtain ⟨g3, c3, rfl, _, _⟩ := RB_some ho3 (n := 4) rfl (by decide)
            have bV3 : Below (wr.alloc (.cells #[.int .i64 x.f0, .int .i64 x.f1, .int .i64 x.f2] 60)).heap.size (wr.alloc (.cells #[.int .i64 x.f0, .int .i64 x.f1, .int .i64 x.f2] 60)) V3 := bV2.trans (hs3.mono bV2.size)
            go_wp2_with fail
            refine hK.out _ _ (HS.out _ bV3) (fun hHeld => ?_)
            clear hK K
            try simp only [Act.put, List.setIfInBounds_toArray, List.set_cons_zero, List.set_cons_succ]
            have hG3 := blk_thru hs3 hG2
            have hoA3 := Kd.R_below ho2 hs3
            refine wpAnyH_ready (rs := [11]) (by kernel_rfl) (by simp) ?_
            refine AllReadyH.cons (o := { dst := some 34, op := Go.Op.buildSlice 83 4 #[(0, Go.Operand.tmp 23), (1, Go.Operand.tmp 27), (2, Go.Operand.tmp 30), (3, Go.Operand.tmp 33)], type := 83, pos := "past.go:213", after := #[{ on := 0, ground := Go.Ground.data }, { on := 4, ground := Go.Ground.data }, { on := 7, ground := Go.Ground.data }, { on := 10, ground := Go.Ground.data }], guard := none }) rfl (fun K hK => ?_) AllReadyH.nil
            go_simp
            refine hK.out _ _ (HS.out _ (below_alloc bV3 _)) (fun hHeld => ?_)
            clear hK K
            try simp only [Act.put, List.setIfInBounds_toArray, List.set_cons_zero, List.set_cons_succ]
            refine wpAnyH_ready (rs := [12]) (by kernel_rfl) (by simp) ?_
            refine AllReadyH.cons (o := { dst := some 35, op := Go.Op.call { callee := Go.Callee.value (Go.Operand.func 48), args := #[Go.Operand.tmp 34], argTypes := #[83] }, type := 23, pos := "past.go:213", after := #[{ on := 11, ground := Go.Ground.data }, { on := 10, ground := Go.Ground.chain }], guard := none }) rfl (fun K hK => ?_) AllReadyH.nil
            go_simp
            refine (concat4b w.heap.size _ _ _ cv Av ol x _ _ V3 w (HBW.out _ bV3) (HOUT.out _ bV3).1 (HOUT.out _ bV3).2 hG3 hoA3 ho3 hlen (HOV.out _ bV3) HOLB.out).mono ?_
            rintro e w9 ⟨v9, rfl, ho9, hb9, hb10⟩
            go_wp2_with fail
            refine hK.out _ _ (HS.out _ (bV3.trans (hb9.mono bV3.size))) (fun hHeld => ?_)
            clear hK K
            try simp only [Act.put, List.setIfInBounds_toArray, List.set_cons_zero, List.set_cons_succ]
            refine wpAnyH_ready (rs := [13]) (by kernel_rfl) (by simp) ?_
            refine AllReadyH.cons (o := { dst := some 5, op := Go.Op.assign (Go.Operand.tmp 35), type := 23, pos := "past.go:213", after := #[{ on := 12, ground := Go.Ground.data }, { on := 12, ground := Go.Ground.chain }, { on := 0, ground := Go.Ground.phase }, { on := 1, ground := Go.Ground.phase }, { on := 2, ground := Go.Ground.phase }, { on := 3, ground := Go.Ground.phase }, { on := 4, ground := Go.Ground.phase }, { on := 5, ground := Go.Ground.phase }, { on := 6, ground := Go.Ground.phase }, { on := 7, ground := Go.Ground.phase }, { on := 8, ground := Go.Ground.phase }, { on := 9, ground := Go.Ground.phase }, { on := 10, ground := Go.Ground.phase }, { on := 11, ground := Go.Ground.phase }, { on := 12, ground := Go.Ground.phase }], guard := none }) rfl (fun K hK => ?_) AllReadyH.nil
            go_simp
            refine hK.out _ _ (HS.out _ (bV3.trans (hb9.mono bV3.size))) (fun hHeld => ?_)
            clear hK K
            try simp only [Act.put, List.setIfInBounds_toArray, List.set_cons_zero, List.set_cons_succ]
            refine wpAnyH_done (by kernel_rfl) ?_ _
            have HO9 := Lib.hid ho9
            have HB9 := Lib.hid hb10
            clear ho9 hb10 hb9
            go_wp2
            go_roundw
            case rel => exact ⟨j + 1, by omega, by go_num, Lib.hid ⟨⟨by rw [HT.out]; exact Kd.Q_of_R HO9.out.1, HO9.out.2⟩, HB9.out⟩⟩
            case measure => simp [intOf]; omega
      · go_simp
        refine (past_four.calls x.f1 (fourL x.f1) _ rfl).mono ?_
        rintro e V4 ⟨v4, rfl, ho4, hs4⟩
        obtain ⟨g4, c4, rfl, _, _⟩ := RB_some ho4 (n := 4) rfl (by decide)
        have bV4 : Below (wr.alloc (.cells #[.int .i64 x.f0, .int .i64 x.f1, .int .i64 x.f2] 60)).heap.size (wr.alloc (.cells #[.int .i64 x.f0, .int .i64 x.f1, .int .i64 x.f2] 60)) V4 := hV0.trans (hs4.mono hV0.size)
        go_wp2_with fail
        refine hK.out _ _ (HS.out _ bV4) (fun hHeld => ?_)
        clear hK K
        try simp only [Act.put, List.setIfInBounds_toArray, List.set_cons_zero, List.set_cons_succ]
        refine wpAnyH_ready (rs := [4, 10]) (by kernel_rfl) (by simp) ?_
        refine AllReadyH.cons (o := { dst := some 27, op := Go.Op.buildSlice 23 1 #[(0, Go.Operand.tmp 26)], type := 23, pos := "past.go:213", after := #[{ on := 3, ground := Go.Ground.data }], guard := none }) rfl (fun K hK => ?_) (AllReadyH.cons (o := { dst := some 33, op := Go.Op.call { callee := Go.Callee.value (Go.Operand.func 47), args := #[Go.Operand.tmp 32], argTypes := #[3] }, type := 23, pos := "past.go:213", after := #[{ on := 9, ground := Go.Ground.data }, { on := 7, ground := Go.Ground.chain }], guard := none }) rfl (fun K hK => ?_) (AllReadyH.nil))
        · go_simp
          have bV5 : Below (wr.alloc (.cells #[.int .i64 x.f0, .int .i64 x.f1, .int .i64 x.f2] 60)).heap.size (wr.alloc (.cells #[.int .i64 x.f0, .int .i64 x.f1, .int .i64 x.f2] 60)) (V4.alloc (.cells #[.int .u8 (x.f0 % 256)] 5)) := below_alloc bV4 _
          refine hK.out _ _ (HS.out _ bV5) (fun hHeld => ?_)
          clear hK K
          try simp only [Act.put, List.setIfInBounds_toArray, List.set_cons_zero, List.set_cons_succ]
          have hG5 := blk_new V4 (.cells #[.int .u8 (x.f0 % 256)] 5)
          have hs5 : Below V4.heap.size V4 (V4.alloc (.cells #[.int .u8 (x.f0 % 256)] 5)) := below_alloc (Below.refl _ _) _
          obtain ⟨V5, hV5⟩ : ∃ V, V = V4.alloc (.cells #[.int .u8 (x.f0 % 256)] 5) := ⟨_, rfl⟩
          rw [← hV5] at hHeld bV5 hG5 hs5 ⊢
          clear hV5
          have hoA5 := Kd.R_below ho4 hs5
          refine wpAnyH_ready (rs := [10]) (by kernel_rfl) (by simp) ?_
          refine AllReadyH.cons (o := { dst := some 33, op := Go.Op.call { callee := Go.Callee.value (Go.Operand.func 47), args := #[Go.Operand.tmp 32], argTypes := #[3] }, type := 23, pos := "past.go:213", after := #[{ on := 9, ground := Go.Ground.data }, { on := 7, ground := Go.Ground.chain }], guard := none }) rfl (fun K hK => ?_) (AllReadyH.nil)
          · go_simp
            refine (past_four.calls x.f2 (fourL x.f2) _ rfl).mono ?_
            rintro e V6 ⟨v6, rfl, ho6, hs6⟩
            obtain ⟨g6, c6, rfl, _, _⟩ := RB_some ho6 (n := 4) rfl (by decide)
            have bV6 : Below (wr.alloc (.cells #[.int .i64 x.f0, .int .i64 x.f1, .int .i64 x.f2] 60)).heap.size (wr.alloc (.cells #[.int .i64 x.f0, .int .i64 x.f1, .int .i64 x.f2] 60)) V6 := bV5.trans (hs6.mono bV5.size)
            go_wp2_with fail
            refine hK.out _ _ (HS.out _ bV6) (fun hHeld => ?_)
            clear hK K
            try simp only [Act.put, List.setIfInBounds_toArray, List.set_cons_zero, List.set_cons_succ]
            have hoA6 := Kd.R_below hoA5 hs6
            have hG6 := blk_thru hs6 hG5
            refine wpAnyH_ready (rs := [11]) (by kernel_rfl) (by simp) ?_
            refine AllReadyH.cons (o := { dst := some 34, op := Go.Op.buildSlice 83 4 #[(0, Go.Operand.tmp 23), (1, Go.Operand.tmp 27), (2, Go.Operand.tmp 30), (3, Go.Operand.tmp 33)], type := 83, pos := "past.go:213", after := #[{ on := 0, ground := Go.Ground.data }, { on := 4, ground := Go.Ground.data }, { on := 7, ground := Go.Ground.data }, { on := 10, ground := Go.Ground.data }], guard := none }) rfl (fun K hK => ?_) AllReadyH.nil
            go_simp
            refine hK.out _ _ (HS.out _ (below_alloc bV6 _)) (fun hHeld => ?_)
            clear hK K
            try simp only [Act.put, List.setIfInBounds_toArray, List.set_cons_zero, List.set_cons_succ]
            refine wpAnyH_ready (rs := [12]) (by kernel_rfl) (by simp) ?_
            refine AllReadyH.cons (o := { dst := some 35, op := Go.Op.call { callee := Go.Callee.value (Go.Operand.func 48), args := #[Go.Operand.tmp 34], argTypes := #[83] }, type := 23, pos := "past.go:213", after := #[{ on := 11, ground := Go.Ground.data }, { on := 10, ground := Go.Ground.chain }], guard := none }) rfl (fun K hK => ?_) AllReadyH.nil
            go_simp
            refine (concat4b w.heap.size _ _ _ cv Av ol x _ _ V6 w (HBW.out _ bV6) (HOUT.out _ bV6).1 (HOUT.out _ bV6).2 hG6 hoA6 ho6 hlen (HOV.out _ bV6) HOLB.out).mono ?_
            rintro e w9 ⟨v9, rfl, ho9, hb9, hb10⟩
            go_wp2_with fail
            refine hK.out _ _ (HS.out _ (bV6.trans (hb9.mono bV6.size))) (fun hHeld => ?_)
            clear hK K
            try simp only [Act.put, List.setIfInBounds_toArray, List.set_cons_zero, List.set_cons_succ]
            refine wpAnyH_ready (rs := [13]) (by kernel_rfl) (by simp) ?_
            refine AllReadyH.cons (o := { dst := some 5, op := Go.Op.assign (Go.Operand.tmp 35), type := 23, pos := "past.go:213", after := #[{ on := 12, ground := Go.Ground.data }, { on := 12, ground := Go.Ground.chain }, { on := 0, ground := Go.Ground.phase }, { on := 1, ground := Go.Ground.phase }, { on := 2, ground := Go.Ground.phase }, { on := 3, ground := Go.Ground.phase }, { on := 4, ground := Go.Ground.phase }, { on := 5, ground := Go.Ground.phase }, { on := 6, ground := Go.Ground.phase }, { on := 7, ground := Go.Ground.phase }, { on := 8, ground := Go.Ground.phase }, { on := 9, ground := Go.Ground.phase }, { on := 10, ground := Go.Ground.phase }, { on := 11, ground := Go.Ground.phase }, { on := 12, ground := Go.Ground.phase }], guard := none }) rfl (fun K hK => ?_) AllReadyH.nil
            go_simp
            refine hK.out _ _ (HS.out _ (bV6.trans (hb9.mono bV6.size))) (fun hHeld => ?_)
            clear hK K
            try simp only [Act.put, List.setIfInBounds_toArray, List.set_cons_zero, List.set_cons_succ]
            refine wpAnyH_done (by kernel_rfl) ?_ _
            have HO9 := Lib.hid ho9
            have HB9 := Lib.hid hb10
            clear ho9 hb10 hb9
            go_wp2
            go_roundw
            case rel => exact ⟨j + 1, by omega, by go_num, Lib.hid ⟨⟨by rw [HT.out]; exact Kd.Q_of_R HO9.out.1, HO9.out.2⟩, HB9.out⟩⟩
            case measure => simp [intOf]; omega
        · go_simp
          refine (past_four.calls x.f2 (fourL x.f2) _ rfl).mono ?_
          rintro e V7 ⟨v7, rfl, ho7, hs7⟩
          obtain ⟨g7, c7, rfl, _, _⟩ := RB_some ho7 (n := 4) rfl (by decide)
          have bV7 : Below (wr.alloc (.cells #[.int .i64 x.f0, .int .i64 x.f1, .int .i64 x.f2] 60)).heap.size (wr.alloc (.cells #[.int .i64 x.f0, .int .i64 x.f1, .int .i64 x.f2] 60)) V7 := bV4.trans (hs7.mono bV4.size)
          go_wp2_with fail
          refine hK.out _ _ (HS.out _ bV7) (fun hHeld => ?_)
          clear hK K
          try simp only [Act.put, List.setIfInBounds_toArray, List.set_cons_zero, List.set_cons_succ]
          have hoA7 := Kd.R_below ho4 hs7
          refine wpAnyH_ready (rs := [4]) (by kernel_rfl) (by simp) ?_
          refine AllReadyH.cons (o := { dst := some 27, op := Go.Op.buildSlice 23 1 #[(0, Go.Operand.tmp 26)], type := 23, pos := "past.go:213", after := #[{ on := 3, ground := Go.Ground.data }], guard := none }) rfl (fun K hK => ?_) (AllReadyH.nil)
          · go_simp
            have bV8 : Below (wr.alloc (.cells #[.int .i64 x.f0, .int .i64 x.f1, .int .i64 x.f2] 60)).heap.size (wr.alloc (.cells #[.int .i64 x.f0, .int .i64 x.f1, .int .i64 x.f2] 60)) (V7.alloc (.cells #[.int .u8 (x.f0 % 256)] 5)) := below_alloc bV7 _
            refine hK.out _ _ (HS.out _ bV8) (fun hHeld => ?_)
            clear hK K
            try simp only [Act.put, List.setIfInBounds_toArray, List.set_cons_zero, List.set_cons_succ]
            have hG8 := blk_new V7 (.cells #[.int .u8 (x.f0 % 256)] 5)
            have hs8 : Below V7.heap.size V7 (V7.alloc (.cells #[.int .u8 (x.f0 % 256)] 5)) := below_alloc (Below.refl _ _) _
            obtain ⟨V8, hV8⟩ : ∃ V, V = V7.alloc (.cells #[.int .u8 (x.f0 % 256)] 5) := ⟨_, rfl⟩
            rw [← hV8] at hHeld bV8 hG8 hs8 ⊢
            clear hV8
            have hoA8 := Kd.R_below hoA7 hs8
            have hoB8 := Kd.R_below ho7 hs8
            refine wpAnyH_ready (rs := [11]) (by kernel_rfl) (by simp) ?_
            refine AllReadyH.cons (o := { dst := some 34, op := Go.Op.buildSlice 83 4 #[(0, Go.Operand.tmp 23), (1, Go.Operand.tmp 27), (2, Go.Operand.tmp 30), (3, Go.Operand.tmp 33)], type := 83, pos := "past.go:213", after := #[{ on := 0, ground := Go.Ground.data }, { on := 4, ground := Go.Ground.data }, { on := 7, ground := Go.Ground.data }, { on := 10, ground := Go.Ground.data }], guard := none }) rfl (fun K hK => ?_) AllReadyH.nil
            go_simp
            refine hK.out _ _ (HS.out _ (below_alloc bV8 _)) (fun hHeld => ?_)
            clear hK K
            try simp only [Act.put, List.setIfInBounds_toArray, List.set_cons_zero, List.set_cons_succ]
            refine wpAnyH_ready (rs := [12]) (by kernel_rfl) (by simp) ?_
            refine AllReadyH.cons (o := { dst := some 35, op := Go.Op.call { callee := Go.Callee.value (Go.Operand.func 48), args := #[Go.Operand.tmp 34], argTypes := #[83] }, type := 23, pos := "past.go:213", after := #[{ on := 11, ground := Go.Ground.data }, { on := 10, ground := Go.Ground.chain }], guard := none }) rfl (fun K hK => ?_) AllReadyH.nil
            go_simp
            refine (concat4b w.heap.size _ _ _ cv Av ol x _ _ V8 w (HBW.out _ bV8) (HOUT.out _ bV8).1 (HOUT.out _ bV8).2 hG8 hoA8 hoB8 hlen (HOV.out _ bV8) HOLB.out).mono ?_
            rintro e w9 ⟨v9, rfl, ho9, hb9, hb10⟩
            go_wp2_with fail
            refine hK.out _ _ (HS.out _ (bV8.trans (hb9.mono bV8.size))) (fun hHeld => ?_)
            clear hK K
            try simp only [Act.put, List.setIfInBounds_toArray, List.set_cons_zero, List.set_cons_succ]
            refine wpAnyH_ready (rs := [13]) (by kernel_rfl) (by simp) ?_
            refine AllReadyH.cons (o := { dst := some 5, op := Go.Op.assign (Go.Operand.tmp 35), type := 23, pos := "past.go:213", after := #[{ on := 12, ground := Go.Ground.data }, { on := 12, ground := Go.Ground.chain }, { on := 0, ground := Go.Ground.phase }, { on := 1, ground := Go.Ground.phase }, { on := 2, ground := Go.Ground.phase }, { on := 3, ground := Go.Ground.phase }, { on := 4, ground := Go.Ground.phase }, { on := 5, ground := Go.Ground.phase }, { on := 6, ground := Go.Ground.phase }, { on := 7, ground := Go.Ground.phase }, { on := 8, ground := Go.Ground.phase }, { on := 9, ground := Go.Ground.phase }, { on := 10, ground := Go.Ground.phase }, { on := 11, ground := Go.Ground.phase }, { on := 12, ground := Go.Ground.phase }], guard := none }) rfl (fun K hK => ?_) AllReadyH.nil
            go_simp
            refine hK.out _ _ (HS.out _ (bV8.trans (hb9.mono bV8.size))) (fun hHeld => ?_)
            clear hK K
            try simp only [Act.put, List.setIfInBounds_toArray, List.set_cons_zero, List.set_cons_succ]
            refine wpAnyH_done (by kernel_rfl) ?_ _
            have HO9 := Lib.hid ho9
            have HB9 := Lib.hid hb10
            clear ho9 hb10 hb9
            go_wp2
            go_roundw
            case rel => exact ⟨j + 1, by omega, by go_num, Lib.hid ⟨⟨by rw [HT.out]; exact Kd.Q_of_R HO9.out.1, HO9.out.2⟩, HB9.out⟩⟩
            case measure => simp [intOf]; omega
    · obtain rfl : j = N := by omega
      have HE := Lib.hid (show (fourL (j : Int)).drop 2 ++ (l0.take j).flatMap oneB = bytesL l0 by rw [HN.out, List.take_length]; rfl)
      go_wp2
      go_ret2
      exact ⟨_, rfl, ⟨by rw [← HE.out]; exact HI.out.1.1, .inr HI.out.1.2⟩, HI.out.2⟩
end Go.Proofs.YtdelfhahbngcfaaX.P07
end
section
namespace Go.Proofs.YtdelfhahbngcfaaX.P07
open Go.RowKit Go.Shelf Go.Sort Go.Lib Go.Proofs.Ytdelfhahbngcfaa Go.Proofs.YtdelfhahbngcfaaW.PrintWords Go.Proofs.YtdelfhahbngcfaaW.PrintLast Go.Proofs.YtdelfhahbngcfaaW.PrintMore
set_option linter.unusedVariables false
set_option linter.unusedSimpArgs false
attribute [local go_sem] Oper.semAt_some
def Side (w : World) (g : Nat) (v : Value) (l : List S60) : Prop :=
  ∃ (A : Option Addr) (c : Nat), v = .slice A l.length c ∧ l.length ≤ c ∧ c ≤ 9223372036854775807 ∧
    (0 < l.length → ∃ (off : Nat) (cur : Array Value), A = some ⟨g, off, none⟩ ∧ Ytdelfhahbngcfaa.Blk w g 60 cur ∧
      ∀ j x, l[j]? = some x → cur[off + j * 3]? = some (.int .i64 x.f0) ∧ cur[off + j * 3 + 1]? = some (.int .i64 x.f1) ∧ cur[off + j * 3 + 2]? = some (.int .i64 x.f2))
theorem Side.ch {S : Nat → Prop} {w w' : World} {g : Nat} {v : Value} {l : List S60} (h : Side w g v l) (hc : Ch S w w') (hS : 0 < l.length → ¬ S g) : Side w' g v l := by
  obtain ⟨A, c, rfl, h1, h2, h3⟩ := h
  refine ⟨A, c, rfl, h1, h2, fun h0 => ?_⟩
  obtain ⟨off, cur, e, hb, hx⟩ := h3 h0
  exact ⟨off, cur, e, Ytdelfhahbngcfaa.blk_ch hb hc (hS h0), hx⟩
end Go.Proofs.YtdelfhahbngcfaaX.P07
end
section
namespace Go.Proofs.YtdelfhahbngcfaaX.P07
open Go.RowKit Go.Shelf Go.Sort Go.Lib Go.Proofs.Ytdelfhahbngcfaa Go.Proofs.YtdelfhahbngcfaaW.PrintWords Go.Proofs.YtdelfhahbngcfaaW.PrintLast Go.Proofs.YtdelfhahbngcfaaW.PrintMore
set_option linter.unusedVariables false
set_option linter.unusedSimpArgs false
attribute [local go_sem] Oper.semAt_some
structure Sw (w : World) (base B ga gb : Nat) (va vb vk vo : Value) (la lb out : List S60) : Prop where
  blk : Swp w B va vb vk vo
  sa : Side w ga va la
  sb : Side w gb vb lb
  ow : Own60 w base vo out
  hB : base ≤ B
  gab : 0 < la.length → 0 < lb.length → ga ≠ gb
  bga : 0 < la.length → base ≤ ga
  bgb : 0 < lb.length → base ≤ gb
  oa : 0 < la.length → vo.ownBlock ≠ some ga
  ob : 0 < lb.length → vo.ownBlock ≠ some gb
  aB : 0 < la.length → ga ≠ B
  bB : 0 < lb.length → gb ≠ B
theorem Side.lt {w : World} {g : Nat} {v : Value} {l : List S60} (h : Side w g v l) (h0 : 0 < l.length) : g < w.heap.size := by
  obtain ⟨A, c, rfl, _, _, h3⟩ := h
  obtain ⟨off, cur, _, hb, _⟩ := h3 h0
  exact Ytdelfhahbngcfaa.blk_lt hb
theorem Sw.lta {w : World} {base B ga gb : Nat} {va vb vk vo : Value} {la lb out : List S60} (h : Sw w base B ga gb va vb vk vo la lb out) (h0 : 0 < la.length) : ga < w.heap.size := h.sa.lt h0
theorem Sw.ltb {w : World} {base B ga gb : Nat} {va vb vk vo : Value} {la lb out : List S60} (h : Sw w base B ga gb va vb vk vo la lb out) (h0 : 0 < lb.length) : gb < w.heap.size := h.sb.lt h0
theorem Sw.ch {S : Nat → Prop} {w w' : World} {base B ga gb : Nat} {va vb vk vo : Value} {la lb out : List S60} (h : Sw w base B ga gb va vb vk vo la lb out) (hc : Ytdelfhahbngcfaa.Ch S w w') (hS : ∀ k, k < w.heap.size → ¬ S k) : Sw w' base B ga gb va vb vk vo la lb out :=
  ⟨Ytdelfhahbngcfaa.blk_ch h.blk hc (hS _ (Ytdelfhahbngcfaa.blk_lt h.blk)), h.sa.ch hc (fun h0 => hS _ (h.lta h0)), h.sb.ch hc (fun h0 => hS _ (h.ltb h0)), own_ch h.ow hc (fun k hk => hS k (h.ow.lt k hk).2), h.hB, h.gab, h.bga, h.bgb, h.oa, h.ob, h.aB, h.bB⟩
theorem Sw.below {w w' : World} {base B ga gb : Nat} {va vb vk vo : Value} {la lb out : List S60} (h : Sw w base B ga gb va vb vk vo la lb out) (hb : Below w.heap.size w w') : Sw w' base B ga gb va vb vk vo la lb out :=
  h.ch (Ytdelfhahbngcfaa.Ch.of_below hb No) (fun _ _ => id)
theorem Sw.c0 {w : World} {base B ga gb : Nat} {va vb vk vo : Value} {la lb out : List S60} (h : Sw w base B ga gb va vb vk vo la lb out) : w.cell? ⟨B, 0, none⟩ = some va := Ytdelfhahbngcfaa.blk_cell h.blk 0 _ rfl
theorem Sw.c1 {w : World} {base B ga gb : Nat} {va vb vk vo : Value} {la lb out : List S60} (h : Sw w base B ga gb va vb vk vo la lb out) : w.cell? ⟨B, 1, none⟩ = some vb := Ytdelfhahbngcfaa.blk_cell h.blk 1 _ rfl
theorem Sw.c2 {w : World} {base B ga gb : Nat} {va vb vk vo : Value} {la lb out : List S60} (h : Sw w base B ga gb va vb vk vo la lb out) : w.cell? ⟨B, 2, none⟩ = some vk := Ytdelfhahbngcfaa.blk_cell h.blk 2 _ rfl
theorem Side.first {w : World} {g : Nat} {v : Value} {x : S60} {l : List S60} (h : Side w g v (x :: l)) : ∃ off n c, v = .slice (some ⟨g, off, none⟩) (n + 1) c ∧ w.cell? ⟨g, off, none⟩ = some (.int .i64 x.f0) ∧ (((n + 1 : Nat) : Int) == 0) = false := by
  obtain ⟨A, c, rfl, h1, h2, h3⟩ := h
  obtain ⟨off, cur, rfl, hb, hx⟩ := h3 (by simp)
  have q0 := Ytdelfhahbngcfaa.blk_cell hb _ _ (hx 0 x rfl).1
  simp only [Nat.zero_mul, Nat.add_zero] at q0
  exact ⟨off, l.length, c, rfl, q0, by simp; omega⟩
theorem Side.none {w : World} {g : Nat} {v : Value} (h : Side w g v []) : ∃ A c, v = .slice A 0 c := by
  obtain ⟨A, c, rfl, _⟩ := h
  exact ⟨A, c, rfl⟩
end Go.Proofs.YtdelfhahbngcfaaX.P07
end
section
namespace Go.Proofs.YtdelfhahbngcfaaX.P07
open Go.RowKit Go.Proofs.YtdelfhahbngcfaaW.PrintWords Go.Proofs.YtdelfhahbngcfaaW.PrintLast Go.Proofs.YtdelfhahbngcfaaW.PrintMore
set_option linter.unusedVariables false
set_option linter.unusedSimpArgs false
def Aft (s u : S60) : Prop := s.f0 < u.f0 ∨ (s.f0 = u.f0 ∧ s.f2 + 1 < u.f1)
def okS60 (s : S60) : Prop := 1 ≤ s.f0 ∧ s.f0 ≤ 200 ∧ 1 ≤ s.f1 ∧ s.f1 ≤ s.f2 ∧ s.f2 ≤ 2147483647
instance (s : S60) : Decidable (okS60 s) := by unfold okS60; infer_instance
instance (s u : S60) : Decidable (Aft s u) := by unfold Aft; infer_instance
def chkTo (l : List S60) (k : Nat) : Prop := ∀ i s, i < k → l[i]? = some s → okS60 s ∧ ∀ p, 1 ≤ i → l[i - 1]? = some p → Aft p s
def Chk (l : List S60) : Prop := l.length ≤ 4000 ∧ chkTo l l.length
noncomputable instance (l : List S60) : Decidable (Chk l) := Classical.propDecidable _
end Go.Proofs.YtdelfhahbngcfaaX.P07
end
section
namespace Go.Proofs.YtdelfhahbngcfaaX.P07
open Go.RowKit Go.Sort Go.Lib Go.Proofs.YtdelfhahbngcfaaW.PrintWords Go.Proofs.YtdelfhahbngcfaaW.PrintLast Go.Proofs.YtdelfhahbngcfaaW.PrintMore
set_option linter.unusedVariables false
set_option linter.unusedSimpArgs false
def ltDot (x y : S41) : Prop := x.f0 < y.f0 ∨ (x.f0 = y.f0 ∧ x.f1 < y.f1)
def leDot (x y : S41) : Prop := x.f0 < y.f0 ∨ (x.f0 = y.f0 ∧ x.f1 ≤ y.f1)
theorem srt_pw (l : List S41) : (srt l).Pairwise leDot := by
  unfold srt
  have := List.pairwise_mergeSort (le := fun x y : S41 => !(ltOf ordD) y x) (fun a b c h1 h2 => by
    simp only [ltD, Bool.not_eq_true', decide_eq_false_iff_not] at *
    omega) (fun a b => by
    simp only [ltD, Bool.or_eq_true, Bool.not_eq_true', decide_eq_false_iff_not]
    omega) l
  refine this.imp ?_
  intro a b h
  simp only [ltD, Bool.not_eq_true', decide_eq_false_iff_not] at h
  unfold leDot
  omega
theorem srt_mem (l : List S41) (x : S41) : x ∈ srt l ↔ x ∈ l := by unfold srt; exact List.mem_mergeSort
theorem get_le {l : List S41} (h : l.Pairwise leDot) {i j : Nat} (hij : i < j) (hj : j < l.length) : leDot l[i] l[j] := by
  have := List.pairwise_iff_getElem.1 h i j (by omega) hj hij
  exact this
theorem arr_get (l : List S41) (i : Nat) (hi : i < l.length) : l.toArray[i]! = l[i] := by simp [hi]
theorem compact_law (l : List S41) (h : l.Pairwise leDot) : ∀ m, m ≤ l.length → (compactUpTo l.toArray m).Pairwise ltDot ∧ (∀ x, x ∈ compactUpTo l.toArray m ↔ ∃ j, ∃ hj : j < l.length, j < m ∧ l[j] = x)
  | 0, _ => by
    have e : compactUpTo l.toArray 0 = [] := rfl
    rw [e]
    exact ⟨List.Pairwise.nil, fun x => ⟨fun h => (by cases h), fun ⟨j, _, h, _⟩ => absurd h (Nat.not_lt_zero j)⟩⟩
  | m + 1, hm => by
    obtain ⟨h1, h2⟩ := compact_law l h m (by omega)
    rw [compactUpTo_succ]
    have hml : m < l.length := by omega
    rw [arr_get l m hml]
    cases hk : keeps l.toArray m with
    | true =>
      simp only [if_true]
      refine ⟨?_, fun x => ?_⟩
      · rw [List.pairwise_append]
        refine ⟨h1, List.pairwise_singleton _ _, fun x hx y hy => ?_⟩
        rw [List.mem_singleton] at hy
        subst hy
        obtain ⟨j, hj, hjm, rfl⟩ := (h2 x).1 hx
        unfold keeps at hk
        have hk := of_decide_eq_true hk
        have hm0 : m ≠ 0 := by omega
        have hne : l[m] ≠ l[m - 1] := by
          rcases hk with e | e
          · exact absurd e hm0
          · rw [arr_get l m hml, arr_get l (m - 1) (by omega)] at e; exact e
        have hle1 := get_le h (i := m - 1) (j := m) (by omega) hml
        have hle2 : leDot l[j] l[m - 1] := by
          by_cases e : j = m - 1
          · subst e; exact .inr ⟨rfl, Int.le_refl _⟩
          · exact get_le h (by omega) (by omega)
        have hlt : ltDot l[m - 1] l[m] := by
          unfold leDot at hle1
          unfold ltDot
          rcases hle1 with h3 | ⟨h3, h4⟩
          · exact .inl h3
          · by_cases e : l[m - 1].f1 = l[m].f1
            · exfalso
              apply hne
              have : ∀ a b : S41, a.f0 = b.f0 → a.f1 = b.f1 → b = a := fun a b h1 h2 => by cases a; cases b; simp_all
              exact this _ _ h3 e
            · exact .inr ⟨h3, by omega⟩
        unfold leDot at hle2
        unfold ltDot at hlt ⊢
        omega
      · rw [List.mem_append, List.mem_singleton, h2]
        constructor
        · rintro (⟨j, hj, hjm, e⟩ | e)
          · exact ⟨j, hj, by omega, e⟩
          · exact ⟨m, hml, by omega, e.symm⟩
        · rintro ⟨j, hj, hjm, e⟩
          by_cases hje : j = m
          · subst hje; exact .inr e.symm
          · exact .inl ⟨j, hj, by omega, e⟩
    | false =>
      simp only [Bool.false_eq_true, if_false, List.append_nil]
      refine ⟨h1, fun x => ?_⟩
      unfold keeps at hk
      have hk := of_decide_eq_false hk
      have hm0 : m ≠ 0 := fun e => hk (.inl e)
      have heq : l[m] = l[m - 1] := Classical.byContradiction fun e => hk (.inr (by rw [arr_get l m hml, arr_get l (m - 1) (by omega)]; exact e))
      rw [h2]
      constructor
      · rintro ⟨j, hj, hjm, e⟩; exact ⟨j, hj, by omega, e⟩
      · rintro ⟨j, hj, hjm, e⟩
        by_cases hje : j = m
        · subst hje; exact ⟨j - 1, by omega, by omega, by rw [← heq]; exact e⟩
        · exact ⟨j, hj, by omega, e⟩
theorem sort_law (l : List S41) : (sortV l).Pairwise ltDot ∧ ∀ x, x ∈ sortV l ↔ x ∈ l := by
  obtain ⟨h1, h2⟩ := compact_law (srt l) (srt_pw l) (srt l).length (Nat.le_refl _)
  refine ⟨h1, fun x => ?_⟩
  unfold sortV
  rw [h2, ← srt_mem, List.mem_iff_getElem]
  constructor
  · rintro ⟨j, hj, _, e⟩; exact ⟨j, hj, e⟩
  · rintro ⟨j, hj, e⟩; exact ⟨j, hj, hj, e⟩
end Go.Proofs.YtdelfhahbngcfaaX.P07
end
section
namespace Go.Proofs.YtdelfhahbngcfaaX.P07
open Go.RowKit Go.Proofs.YtdelfhahbngcfaaW.PrintWords Go.Proofs.YtdelfhahbngcfaaW.PrintLast Go.Proofs.YtdelfhahbngcfaaW.PrintMore
set_option linter.unusedVariables false
set_option linter.unusedSimpArgs false
section
variable {α β : Type} {f g : Nat → Option α} {r : α}
theorem ev_pos {c : Prop} [Decidable c] (hc : c) (h : Ev g r) : Ev (fun k => if c then g k else f k) r := Ev.congr (fun _ => if_pos hc) h
theorem ev_neg {c : Prop} [Decidable c] (hc : ¬ c) (h : Ev f r) : Ev (fun k => if c then g k else f k) r := Ev.congr (fun _ => if_neg hc) h
theorem ev_some {a : β} {f : Nat → β → Option α} (h : Ev (fun k => f k a) r) : Ev (fun k => (some a).bind (f k)) r := Ev.congr (fun _ => rfl) h
end
theorem w64 {a : Int} (h : -9223372036854775808 ≤ a ∧ a ≤ 9223372036854775807) : wrap64 a = a := by unfold wrap64; omega
instance : DecidableEq S60 := fun a b => decidable_of_iff (a.f0 = b.f0 ∧ a.f1 = b.f1 ∧ a.f2 = b.f2) (by cases a; cases b; simp)
theorem rd_at {l : List S60} {j : Nat} (h : j < l.length) : rd_T60 l (j : Int) = l[j] := by unfold rd_T60; simp [List.getD_eq_getElem?_getD, h]
theorem chk_step {l : List S60} {j : Nat} (hj : j < l.length) (h : chkTo l j) (h1 : okS60 l[j]) (h2 : ∀ p, 1 ≤ j → l[j - 1]? = some p → Aft p l[j]) : chkTo l (j + 1) := fun i s hi hs => by
  by_cases e : i = j
  · subst e
    have e2 : s = l[i] := by rw [List.getElem?_eq_getElem hj] at hs; exact (Option.some.inj hs).symm
    subst e2
    exact ⟨h1, h2⟩
  · exact h i s (by omega) hs
theorem chk_bad {l : List S60} {j : Nat} (hj : j < l.length) (h : ¬ (okS60 l[j] ∧ ∀ p, 1 ≤ j → l[j - 1]? = some p → Aft p l[j])) : ¬ chkTo l l.length := fun hc => h (hc j l[j] hj (List.getElem?_eq_getElem hj))
open Classical in
noncomputable def chkV (l : List S60) : Int := if Chk l then 0 else 2
open Classical in
theorem check_loop (l : List S60) (hl : l.length < 1000000) : ∀ (d j : Nat), j + d = l.length → chkTo l j → Ev (fun k => past_Check.l0 k l l (l.length : Int) (j : Int)) (if chkTo l l.length then 0 else 2)
  | 0, j, hj, hc => by
    obtain rfl : j = l.length := by omega
    rw [if_pos hc]
    refine Ev.step (fun _ => rfl) ?_
    simp only [past_Check.l0]
    exact ev_neg (by omega) (Ev.now 0)
  | d + 1, j, hj, hc => by
    have hjl : j < l.length := by omega
    have ih := check_loop l hl d (j + 1) (by omega)
    obtain ⟨x, hx⟩ : ∃ x, x = l[j] := ⟨_, rfl⟩
    have hrd : rd_T60 l (j : Int) = x := by rw [rd_at hjl, hx]
    have hw : wrap64 ((j : Int) + 1) = ((j + 1 : Nat) : Int) := w64 (by omega)
    have bad : okS60 x → ¬ (∀ p, 1 ≤ j → l[j - 1]? = some p → Aft p x) → ¬ chkTo l l.length := fun _ h => chk_bad hjl (by rw [← hx]; exact fun hh => h hh.2)
    have key : ∀ b : Bool, (b = true → ¬ okS60 x) → (b = false → okS60 x) → Ev (fun k => past_Check.j1 k l (j : Int) l (l.length : Int) (j : Int) b x.f0 x.f1 x.f2) (if chkTo l l.length then 0 else 2) := by
      intro b hb1 hb2
      cases b with
      | true =>
        rw [if_neg (chk_bad hjl (by rw [← hx]; exact fun hh => hb1 rfl hh.1))]
        refine Ev.step (fun _ => rfl) ?_
        simp only [past_Check.j1]
        first | exact ev_pos trivial (Ev.now 2) | exact Ev.now 2
      | false =>
        have hok := hb2 rfl
        refine Ev.step (fun _ => rfl) ?_
        simp only [past_Check.j1]
        refine ev_neg (by decide) ?_
        by_cases h0 : j = 0
        · refine ev_neg (by omega) ?_
          rw [hw]
          refine ih (chk_step hjl hc (by rw [← hx]; exact hok) (fun p h => by omega))
        · refine ev_pos (by omega) ?_
          have e1 : wrap64 ((j : Int) - 1) = ((j - 1 : Nat) : Int) := by rw [w64 (by omega)]; omega
          have hp : j - 1 < l.length := by omega
          have hrp : rd_T60 l ((j - 1 : Nat) : Int) = l[j - 1] := rd_at hp
          have hpk := (hc (j - 1) l[j - 1] (by omega) (List.getElem?_eq_getElem hp)).1
          obtain ⟨p, hpe⟩ : ∃ p, p = l[j - 1] := ⟨_, rfl⟩
          rw [← hpe] at hrp hpk
          have hpo : l[j - 1]? = some p := by rw [hpe]; exact List.getElem?_eq_getElem hp
          rw [e1, hrp]
          have e2 : wrap64 (p.f2 + 1) = p.f2 + 1 := w64 (by unfold okS60 at hpk; omega)
          rw [e2]
          have nb : ¬ Aft p x → Ev (fun _ : Nat => some (2 : Int)) (if chkTo l l.length then 0 else 2) := fun h => by
            rw [if_neg (bad hok (fun hh => h (hh p (by omega) hpo)))]
            exact Ev.now 2
          have go : Aft p x → Ev (fun k => past_Check.l0 k l l (l.length : Int) (wrap64 ((j : Int) + 1))) (if chkTo l l.length then 0 else 2) := fun h => by
            rw [hw]
            exact ih (chk_step hjl hc (by rw [← hx]; exact hok) (fun p' _ hp' => by
              rw [hpo] at hp'
              obtain rfl := Option.some.inj hp'
              rw [← hx]; exact h))
          refine ev_pos (by omega) (ev_pos (by omega) ?_)
          unfold Aft at nb go
          by_cases h1 : x.f0 < p.f0
          · exact ev_pos h1 (nb (by omega))
          refine ev_neg h1 ?_
          by_cases h2 : x.f0 = p.f0
          · refine ev_pos h2 ?_
            by_cases h3 : x.f1 ≤ p.f2 + 1
            · exact ev_pos h3 (nb (by omega))
            · exact ev_neg h3 (go (by omega))
          · exact ev_neg h2 (go (by omega))
    refine Ev.step (fun _ => rfl) ?_
    simp only [past_Check.l0]
    rw [hrd]
    refine ev_pos (by omega) (ev_pos (by omega) (ev_pos (by omega) ?_))
    by_cases h1 : x.f0 < 1
    · exact ev_pos h1 (key true (fun _ h => by unfold okS60 at h; omega) (fun h => by cases h))
    refine ev_neg h1 ?_
    by_cases h2 : x.f0 > 200
    · exact ev_pos h2 (key true (fun _ h => by unfold okS60 at h; omega) (fun h => by cases h))
    refine ev_neg h2 ?_
    by_cases h3 : x.f1 < 1
    · exact ev_pos h3 (key true (fun _ h => by unfold okS60 at h; omega) (fun h => by cases h))
    refine ev_neg h3 ?_
    by_cases h4 : x.f1 > x.f2
    · exact ev_pos h4 (key true (fun _ h => by unfold okS60 at h; omega) (fun h => by cases h))
    refine ev_neg h4 ?_
    exact key _ (fun h hh => by have := of_decide_eq_true h; unfold okS60 at hh; omega) (fun h => by have := of_decide_eq_false h; unfold okS60; omega)
open Classical in
theorem check_ev (l : List S60) (hl : l.length < 1000000) : Ev (fun k => past_Check.f k l) (chkV l) := by
  unfold past_Check.f chkV
  by_cases h : (l.length : Int) > 4000
  · rw [if_neg (fun hc : Chk l => by have := hc.1; omega)]
    exact ev_pos h (Ev.now 2)
  · refine ev_neg h ?_
    have := check_loop l hl l.length 0 (by omega) (fun i s hi => absurd hi (by omega))
    have e : Chk l ↔ chkTo l l.length := ⟨fun h => h.2, fun hh => ⟨by omega, hh⟩⟩
    by_cases hc : chkTo l l.length
    · rw [if_pos hc] at this
      rw [if_pos (e.2 hc)]
      exact this
    · rw [if_neg hc] at this
      rw [if_neg (fun h => hc (e.1 h))]
      exact this
open Classical in
theorem rcheck_loop (l : List S60) (hl : l.length < 1000000) : ∀ (d j : Nat), j + d = l.length → chkTo l j → Ev (fun k => tributaryref07_Check.l0 k l (j : Int)) (if chkTo l l.length then 0 else 2)
  | 0, j, hj, hc => by
    obtain rfl : j = l.length := by omega
    rw [if_pos hc]
    refine Ev.step (fun _ => rfl) ?_
    simp only [tributaryref07_Check.l0]
    exact ev_neg (by omega) (Ev.now 0)
  | d + 1, j, hj, hc => by
    have hjl : j < l.length := by omega
    have ih := rcheck_loop l hl d (j + 1) (by omega)
    obtain ⟨x, hx⟩ : ∃ x, x = l[j] := ⟨_, rfl⟩
    have hrd : rd_T60 l (j : Int) = x := by rw [rd_at hjl, hx]
    have hw : wrap64 ((j : Int) + 1) = ((j + 1 : Nat) : Int) := w64 (by omega)
    have bad : okS60 x → ¬ (∀ p, 1 ≤ j → l[j - 1]? = some p → Aft p x) → ¬ chkTo l l.length := fun _ h => chk_bad hjl (by rw [← hx]; exact fun hh => h hh.2)
    have key : ∀ b : Bool, (b = true → ¬ okS60 x) → (b = false → okS60 x) → Ev (fun k => tributaryref07_Check.j1 k l (j : Int) b x.f0 x.f1 x.f2) (if chkTo l l.length then 0 else 2) := by
      intro b hb1 hb2
      cases b with
      | true =>
        rw [if_neg (chk_bad hjl (by rw [← hx]; exact fun hh => hb1 rfl hh.1))]
        refine Ev.step (fun _ => rfl) ?_
        simp only [tributaryref07_Check.j1]
        first | exact ev_pos trivial (Ev.now 2) | exact Ev.now 2
      | false =>
        have hok := hb2 rfl
        refine Ev.step (fun _ => rfl) ?_
        simp only [tributaryref07_Check.j1]
        refine ev_neg (by decide) ?_
        by_cases h0 : j = 0
        · refine ev_neg (by omega) ?_
          rw [hw]
          refine ih (chk_step hjl hc (by rw [← hx]; exact hok) (fun p h => by omega))
        · refine ev_pos (by omega) ?_
          have e1 : wrap64 ((j : Int) - 1) = ((j - 1 : Nat) : Int) := by rw [w64 (by omega)]; omega
          have hp : j - 1 < l.length := by omega
          have hrp : rd_T60 l ((j - 1 : Nat) : Int) = l[j - 1] := rd_at hp
          have hpk := (hc (j - 1) l[j - 1] (by omega) (List.getElem?_eq_getElem hp)).1
          obtain ⟨p, hpe⟩ : ∃ p, p = l[j - 1] := ⟨_, rfl⟩
          rw [← hpe] at hrp hpk
          have hpo : l[j - 1]? = some p := by rw [hpe]; exact List.getElem?_eq_getElem hp
          rw [e1, hrp]
          have e2 : wrap64 (p.f2 + 1) = p.f2 + 1 := w64 (by unfold okS60 at hpk; omega)
          rw [e2]
          have nb : ¬ Aft p x → Ev (fun _ : Nat => some (2 : Int)) (if chkTo l l.length then 0 else 2) := fun h => by
            rw [if_neg (bad hok (fun hh => h (hh p (by omega) hpo)))]
            exact Ev.now 2
          have go : Aft p x → Ev (fun k => tributaryref07_Check.l0 k l (wrap64 ((j : Int) + 1))) (if chkTo l l.length then 0 else 2) := fun h => by
            rw [hw]
            exact ih (chk_step hjl hc (by rw [← hx]; exact hok) (fun p' _ hp' => by
              rw [hpo] at hp'
              obtain rfl := Option.some.inj hp'
              rw [← hx]; exact h))
          refine ev_pos (by omega) (ev_pos (by omega) ?_)
          unfold Aft at nb go
          by_cases h1 : x.f0 < p.f0
          · exact ev_pos h1 (nb (by omega))
          refine ev_neg h1 ?_
          by_cases h2 : x.f0 = p.f0
          · refine ev_pos h2 ?_
            by_cases h3 : x.f1 ≤ p.f2 + 1
            · exact ev_pos h3 (nb (by omega))
            · exact ev_neg h3 (go (by omega))
          · exact ev_neg h2 (go (by omega))
    refine Ev.step (fun _ => rfl) ?_
    simp only [tributaryref07_Check.l0]
    rw [hrd]
    refine ev_pos (by omega) (ev_pos (by omega) ?_)
    by_cases h1 : x.f0 < 1
    · exact ev_pos h1 (key true (fun _ h => by unfold okS60 at h; omega) (fun h => by cases h))
    refine ev_neg h1 ?_
    by_cases h2 : x.f0 > 200
    · exact ev_pos h2 (key true (fun _ h => by unfold okS60 at h; omega) (fun h => by cases h))
    refine ev_neg h2 ?_
    by_cases h3 : x.f1 < 1
    · exact ev_pos h3 (key true (fun _ h => by unfold okS60 at h; omega) (fun h => by cases h))
    refine ev_neg h3 ?_
    by_cases h4 : x.f1 > x.f2
    · exact ev_pos h4 (key true (fun _ h => by unfold okS60 at h; omega) (fun h => by cases h))
    refine ev_neg h4 ?_
    exact key _ (fun h hh => by have := of_decide_eq_true h; unfold okS60 at hh; omega) (fun h => by have := of_decide_eq_false h; unfold okS60; omega)
open Classical in
theorem rcheck_ev (l : List S60) (hl : l.length < 1000000) : Ev (fun k => tributaryref07_Check.f k l) (chkV l) := by
  unfold tributaryref07_Check.f chkV
  by_cases h : (l.length : Int) > 4000
  · rw [if_neg (fun hc : Chk l => by have := hc.1; omega)]
    exact ev_pos h (Ev.now 2)
  · refine ev_neg h ?_
    have := rcheck_loop l hl l.length 0 (by omega) (fun i s hi => absurd hi (by omega))
    have e : Chk l ↔ chkTo l l.length := ⟨fun h => h.2, fun hh => ⟨by omega, hh⟩⟩
    by_cases hc : chkTo l l.length
    · rw [if_pos hc] at this
      rw [if_pos (e.2 hc)]
      exact this
    · rw [if_neg hc] at this
      rw [if_neg (fun h => hc (e.1 h))]
      exact this
theorem same_loop (a b : List S60) (hab : a.length = b.length) (hl : a.length < 1000000) : ∀ (d j : Nat), j + d = a.length → Ev (fun k => tributarykit_SameSpans.l0 k a b (j : Int)) (decide (a.drop j = b.drop j))
  | 0, j, hj => by
    rw [List.drop_of_length_le (by omega), List.drop_of_length_le (by omega)]
    refine Ev.step (fun _ => rfl) ?_
    simp only [tributarykit_SameSpans.l0]
    exact ev_neg (by omega) (by simpa using Ev.now true)
  | d + 1, j, hj => by
    have h1 : j < a.length := by omega
    have h2 : j < b.length := by omega
    have ih := same_loop a b hab hl d (j + 1) (by omega)
    refine Ev.step (fun _ => rfl) ?_
    simp only [tributarykit_SameSpans.l0]
    refine ev_pos (by omega) (ev_pos (by omega) (ev_pos (by omega) ?_))
    rw [rd_at h1, rd_at h2, w64 (by omega : -9223372036854775808 ≤ (j : Int) + 1 ∧ (j : Int) + 1 ≤ 9223372036854775807), show (j : Int) + 1 = ((j + 1 : Nat) : Int) by omega]
    have e : (a.drop j = b.drop j) ↔ (a[j] = b[j] ∧ a.drop (j + 1) = b.drop (j + 1)) := by
      rw [List.drop_eq_getElem_cons h1, List.drop_eq_getElem_cons h2, List.cons.injEq]
    have eq60 : ∀ x y : S60, (!(x.f0 == y.f0) || (!(x.f1 == y.f1) || (!(x.f2 == y.f2)))) = true ↔ ¬ x = y := by
      intro x y
      cases x; cases y
      simp only [S60.mk.injEq]
      simp
      omega
    by_cases hx : a[j] = b[j]
    · refine ev_neg (fun h => (eq60 _ _).1 h hx) ?_
      have : decide (a.drop j = b.drop j) = decide (a.drop (j + 1) = b.drop (j + 1)) := by
        rw [decide_eq_decide, e]; simp [hx]
      rw [this]; exact ih
    · refine ev_pos ((eq60 _ _).2 hx) ?_
      have : decide (a.drop j = b.drop j) = false := by rw [decide_eq_false_iff_not, e]; exact fun h => hx h.1
      rw [this]; exact Ev.now false
theorem same_ev (a b : List S60) (hl : a.length < 1000000) : Ev (fun k => tributarykit_SameSpans.f k a b) (decide (a = b)) := by
  unfold tributarykit_SameSpans.f
  by_cases h : a.length = b.length
  · refine ev_pos (by omega) ?_
    have := same_loop a b h hl a.length 0 (by omega)
    simpa using this
  · refine ev_neg (by omega) ?_
    have : decide (a = b) = false := by rw [decide_eq_false_iff_not]; exact fun e => h (by rw [e])
    rw [this]; exact Ev.now false
theorem copy_eq (l : List S60) (hl : l.length < 1000000) : tributarykit_CopySpans.f l = some l := by
  unfold tributarykit_CopySpans.f
  rw [Option.bind_some, if_pos (by simp; omega)]
  simp
end Go.Proofs.YtdelfhahbngcfaaX.P07
end
