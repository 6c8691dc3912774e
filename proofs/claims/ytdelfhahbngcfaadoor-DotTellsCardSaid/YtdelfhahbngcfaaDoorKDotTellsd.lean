/- Words, walks and plain laws for the row, packed: each text in a section of its own. Conditions stand with each theorem. -/
import Derived.Shelf.SlGeneric
import Derived.Shelf.SlSortCmp.NoneTotal
import Derived.Test.YtdelfhahbngcfaaDoorProg
import Derived.Scope
import Derived.Deep.LoopGhost
import Derived.Deep.RegionHeld3
import Derived.Shelf.Abstract
import Derived.Shelf.RegionOpen
import Derived.Lib.Hide
import Derived.Lib.Small
import Derived.Lib.SlicesCompact
import Derived.Lib.SliceRun
import Derived.Deep.QuietTactic
import Derived.BigQuiet
import Derived.RegionTactic
import Derived.StillTailTactics
import Derived.Test.YtdelfhahbngcfaaDoorKDotTellsa
import Derived.Test.YtdelfhahbngcfaaDoorKDotTellsb
import Derived.Test.YtdelfhahbngcfaaDoorKDotTellsc
section
namespace Go.Proofs.YtdelfhahbngcfaaDoorX.P06
open Go.Shelf
def sortDot_ren : Go.Shelf.Ren := ⟨fun | 6 => 42 | 15 => 51 | 14 => 50 | 28 => 69 | 29 => 70 | 20 => 61 | 21 => 62 | 22 => 63 | 23 => 64 | 24 => 65 | 25 => 66 | 26 => 67 | 27 => 68 | 46 => 81 | 47 => 82 | 48 => 83 | 49 => 84 | 50 => 85 | 57 => 92 | n => n, fun | 22 => 46 | 24 => 23 | 25 => 63 | 3 => 3 | 39 => 62 | 0 => 0 | 53 => 89 | 55 => 56 | 4 => 4 | 46 => 82 | 45 => 81 | 50 => 86 | 5 => 5 | 9 => 9 | 66 => 101 | 70 => 105 | 76 => 116 | 77 => 117 | n => n, fun | n => n⟩
theorem sortDot : Go.Proofs.SlLaysF0.n6 Tryd.prog sortDot_ren := {
  mixed := by kernel_rfl
  f6 := ⟨Tryd.f42.name, by decide, Tryd.func42.trans (congrArg some (by kernel_rfl))⟩
  f14 := ⟨Tryd.f50.name, by decide, Tryd.func50.trans (congrArg some (by kernel_rfl))⟩
  f15 := Tryd.func51.trans (congrArg some (by kernel_rfl))
  f20 := ⟨Tryd.f61.name, by decide, Tryd.func61.trans (congrArg some (by kernel_rfl))⟩
  f21 := ⟨Tryd.f62.name, by decide, Tryd.func62.trans (congrArg some (by kernel_rfl))⟩
  f22 := ⟨Tryd.f63.name, by decide, Tryd.func63.trans (congrArg some (by kernel_rfl))⟩
  f23 := ⟨Tryd.f64.name, by decide, Tryd.func64.trans (congrArg some (by kernel_rfl))⟩
  f24 := ⟨Tryd.f65.name, by decide, Tryd.func65.trans (congrArg some (by kernel_rfl))⟩
  f25 := ⟨Tryd.f66.name, by decide, Tryd.func66.trans (congrArg some (by kernel_rfl))⟩
  f26 := ⟨Tryd.f67.name, by decide, Tryd.func67.trans (congrArg some (by kernel_rfl))⟩
  f27 := ⟨Tryd.f68.name, by decide, Tryd.func68.trans (congrArg some (by kernel_rfl))⟩
  f28 := Tryd.func69.trans (congrArg some (by kernel_rfl))
  f29 := Tryd.func70.trans (congrArg some (by kernel_rfl))
  f46 := ⟨Tryd.f81.name, by decide, Tryd.func81.trans (congrArg some (by kernel_rfl))⟩
  f47 := Tryd.func82.trans (congrArg some (by kernel_rfl))
  f48 := Tryd.func83.trans (congrArg some (by kernel_rfl))
  f49 := ⟨Tryd.f84.name, by decide, Tryd.func84.trans (congrArg some (by kernel_rfl))⟩
  f50 := ⟨Tryd.f85.name, by decide, Tryd.func85.trans (congrArg some (by kernel_rfl))⟩
  f57 := ⟨Tryd.f92.name, by decide, Tryd.func92.trans (congrArg some (by kernel_rfl))⟩
  t0 := Tryd.underlying0
  a0 := Tryd.isAgg0
  z0 := Tryd.sizeOf0
  v0 := Tryd.zeroValue0
  t3 := Tryd.underlying3
  a3 := Tryd.isAgg3
  z3 := Tryd.sizeOf3
  v3 := Tryd.zeroValue3
  t4 := Tryd.underlying4
  a4 := Tryd.isAgg4
  z4 := Tryd.sizeOf4
  v4 := Tryd.zeroValue4
  t5 := Tryd.underlying5
  a5 := Tryd.isAgg5
  z5 := Tryd.sizeOf5
  v5 := Tryd.zeroValue5
  t9 := Tryd.underlying9
  a9 := Tryd.isAgg9
  z9 := Tryd.sizeOf9
  v9 := Tryd.zeroValue9
  t22 := Tryd.underlying46
  a22 := Tryd.isAgg46
  z22 := Tryd.sizeOf46
  v22 := Tryd.zeroValue46
  t25 := Tryd.underlying63
  a25 := Tryd.isAgg63
  z25 := Tryd.sizeOf63
  v25 := Tryd.zeroValue63
  t39 := Tryd.underlying62
  a39 := Tryd.isAgg62
  z39 := Tryd.sizeOf62
  v39 := Tryd.zeroValue62
  t45 := Tryd.underlying81
  a45 := Tryd.isAgg81
  z45 := Tryd.sizeOf81
  v45 := Tryd.zeroValue81
  t46 := Tryd.underlying82
  a46 := Tryd.isAgg82
  z46 := Tryd.sizeOf82
  v46 := Tryd.zeroValue82
  t50 := Tryd.underlying86
  a50 := Tryd.isAgg86
  z50 := Tryd.sizeOf86
  v50 := Tryd.zeroValue86
  t53 := Tryd.underlying89
  a53 := Tryd.isAgg89
  z53 := Tryd.sizeOf89
  v53 := Tryd.zeroValue89
  t55 := Tryd.underlying56
  a55 := Tryd.isAgg56
  z55 := Tryd.sizeOf56
  v55 := Tryd.zeroValue56
  t66 := Tryd.underlying101
  a66 := Tryd.isAgg101
  z66 := Tryd.sizeOf101
  v66 := Tryd.zeroValue101
  t70 := Tryd.underlying105
  a70 := Tryd.isAgg105
  z70 := Tryd.sizeOf105
  v70 := Tryd.zeroValue105
  t76 := Tryd.underlying116
  a76 := Tryd.isAgg116
  z76 := Tryd.sizeOf116
  v76 := Tryd.zeroValue116
  t77 := Tryd.underlying117
  a77 := Tryd.isAgg117
  z77 := Tryd.sizeOf117
  v77 := Tryd.zeroValue117 }
end Go.Proofs.YtdelfhahbngcfaaDoorX.P06
end
section
namespace Go.Proofs.YtdelfhahbngcfaaDoorX.P06
open Go.RowKit Go.Shelf Go.Sort Go.Proofs.YtdelfhahbngcfaaDoor Go.Proofs.YtdelfhahbngcfaaDoorW.PrintWords Go.Proofs.YtdelfhahbngcfaaDoorW.PrintLast Go.Proofs.YtdelfhahbngcfaaDoorW.PrintMore
set_option linter.unusedVariables false
set_option linter.unusedSimpArgs false
attribute [local go_sem] Oper.semAt_some
def ordD (x y : S23) : Int := if Lib.compareInt x.f0 y.f0 = 0 then Lib.compareInt x.f1 y.f1 else Lib.compareInt x.f0 y.f0
def c23 (x : S23) : List Value := [.int .i64 x.f0, .int .i64 x.f1]
theorem cmp_any (x y : Int) (w : World) :
    Calls Tryd.prog 49 #[.int .i64 x, .int .i64 y] w fun e w' => e = .returned (.int .i64 (Lib.compareInt x y)) ∧ w = w' := by
  go_enter Tryd.func49, Tryd.ntmps49
  go_wp2
  all_goals (go_ret; refine ⟨?_, rfl⟩; unfold Lib.compareInt; (repeat' split) <;> first | rfl | (exfalso; omega))
theorem or_any (x y : Int) (B : Nat) (w : World) (h0 : w.cell? ⟨B, 0, none⟩ = some (.int .i64 x)) (h1 : w.cell? ⟨B, 1, none⟩ = some (.int .i64 y)) :
    Calls Tryd.prog 48 #[.slice (some ⟨B, 0, none⟩) 2 2] w fun e w' => e = .returned (.int .i64 (if x = 0 then y else x)) ∧ w = w' := by
  by_cases hx : x = 0
  · subst hx
    rw [if_pos rfl]
    by_cases hy : y = 0
    · subst hy
      go_enter Tryd.func48, Tryd.ntmps48
      go_wp2
      go_loop [8] (fun i => ∃ k : Nat, k ≤ 2 ∧ i = .int .i64 k) (fun i => 2 - (intOf i).toNat)
      case atStart => exact ⟨0, by omega, rfl⟩
      case round =>
        obtain ⟨k, hk, rfl⟩ := hrel
        by_cases k0 : k = 0
        · subst k0
          go_wp2
          go_round
          case rel => exact ⟨1, by omega, rfl⟩
          case measure => simp [intOf]
        · by_cases k1 : k = 1
          · subst k1
            go_wp2
            go_round
            case rel => exact ⟨2, by omega, rfl⟩
            case measure => simp [intOf]
          · obtain rfl : k = 2 := by omega
            go_wp2
            go_ret
            exact ⟨rfl, rfl⟩
    · have g : (y != 0) = true := by simpa using hy
      go_enter Tryd.func48, Tryd.ntmps48
      go_wp2
      go_loop [8] (fun i => ∃ k : Nat, k ≤ 1 ∧ i = .int .i64 k) (fun i => 2 - (intOf i).toNat)
      case atStart => exact ⟨0, by omega, rfl⟩
      case round =>
        obtain ⟨k, hk, rfl⟩ := hrel
        by_cases k0 : k = 0
        · subst k0
          go_wp2
          go_round
          case rel => exact ⟨1, by omega, rfl⟩
          case measure => simp [intOf]
        · obtain rfl : k = 1 := by omega
          go_wp2
          go_ret
          exact ⟨rfl, rfl⟩
  · have g : (x != 0) = true := by simpa using hx
    rw [if_neg hx]
    go_enter Tryd.func48, Tryd.ntmps48
    go_wp2
    go_loop [8] (fun i => i = .int .i64 0) (fun i => 2 - (intOf i).toNat)
    case atStart => rfl
    case round =>
      subst hrel
      go_wp2
      go_ret
      exact ⟨rfl, rfl⟩
theorem bx (w : World) (T : Nat) (cs : Array Value) (T2 : Nat) (cs2 : Array Value) (j : Nat) (v : Value) (h : cs[j]? = some v) : ((w.alloc (.cells cs T)).alloc (.cells cs2 T2)).cell? ⟨w.heap.size, j, none⟩ = some v :=
  (YtdelfhahbngcfaaDoorW.PrintWords.blk_cell (blk_alloc (blk_new w (.cells cs T)) (.cells cs2 T2)) j).trans h
set_option maxRecDepth 100000 in
set_option maxHeartbeats 4000000 in
theorem order_any (x y : S23) (w : World) :
    Calls Tryd.prog 40 #[.agg #[.int .i64 x.f0, .int .i64 x.f1], .agg #[.int .i64 y.f0, .int .i64 y.f1]] w fun e w' => e = .returned (.int .i64 (ordD x y)) ∧ ∃ q os, w' = grow (w.drewN q) os := by
  obtain ⟨a, b⟩ := x
  obtain ⟨c, d⟩ := y
  simp only []
  obtain ⟨V, hV⟩ : ∃ z, z = (w.alloc (.cells #[.int .i64 a, .int .i64 b] 23)).alloc (.cells #[.int .i64 c, .int .i64 d] 23) := ⟨_, rfl⟩
  have a0 : V.cell? ⟨w.heap.size, 0, none⟩ = some (.int .i64 a) := by rw [hV]; exact bx w _ _ _ _ 0 _ rfl
  have a1 : V.cell? ⟨w.heap.size, 1, none⟩ = some (.int .i64 b) := by rw [hV]; exact bx w _ _ _ _ 1 _ rfl
  have s1 : (w.alloc (.cells #[.int .i64 a, .int .i64 b] 23)).heap.size = w.heap.size + 1 := by simp
  have b0 : V.cell? ⟨w.heap.size + 1, 0, none⟩ = some (.int .i64 c) := by rw [hV, ← s1]; exact (YtdelfhahbngcfaaDoorW.PrintWords.blk_cell (blk_new _ _) 0).trans rfl
  have b1 : V.cell? ⟨w.heap.size + 1, 1, none⟩ = some (.int .i64 d) := by rw [hV, ← s1]; exact (YtdelfhahbngcfaaDoorW.PrintWords.blk_cell (blk_new _ _) 1).trans rfl
  have HV := Lib.hid hV
  have hbl : ∀ W : World, ∀ o, Below W.heap.size W (W.alloc o) := fun W o => (Below.refl _ W).alloc (Nat.le_refl _) o
  obtain ⟨O, hO⟩ : ∃ O, O = ordD ⟨a, b⟩ ⟨c, d⟩ := ⟨_, rfl⟩
  have HOR := Lib.hid (show Calls Tryd.prog 48 #[.slice (some ⟨V.heap.size, 0, none⟩) 2 2] (V.alloc (.cells #[.int .i64 (Lib.compareInt a c), .int .i64 (Lib.compareInt b d)] 3)).drew fun e w' => e = .returned (.int .i64 O) ∧ (V.alloc (.cells #[.int .i64 (Lib.compareInt a c), .int .i64 (Lib.compareInt b d)] 3)).drew = w' from by
    rw [hO]
    exact or_any _ _ V.heap.size _ ((YtdelfhahbngcfaaDoorW.PrintWords.blk_cell (blk_new V (.cells #[.int .i64 (Lib.compareInt a c), .int .i64 (Lib.compareInt b d)] 3)) 0).trans rfl) ((YtdelfhahbngcfaaDoorW.PrintWords.blk_cell (blk_new V (.cells #[.int .i64 (Lib.compareInt a c), .int .i64 (Lib.compareInt b d)] 3)) 1).trans rfl))
  rw [← hO]
  clear hO
  go_enter Tryd.func40, Tryd.ntmps40
  go_wp2_with fail
  rw [← hV]
  clear hV s1
  go_region_held3 (fun W => W.cell? ⟨w.heap.size, 0, none⟩ = some (.int .i64 a) ∧ W.cell? ⟨w.heap.size, 1, none⟩ = some (.int .i64 b) ∧ W.cell? ⟨w.heap.size + 1, 0, none⟩ = some (.int .i64 c) ∧ W.cell? ⟨w.heap.size + 1, 1, none⟩ = some (.int .i64 d))
    (first | exact ⟨a0, a1, b0, b1⟩ | exact ⟨below_cell (hbl V.drew _) a0, below_cell (hbl V.drew _) a1, below_cell (hbl V.drew _) b0, below_cell (hbl V.drew _) b1⟩)
    (first | (go_at_call 49; ((with_reducible refine (cmp_any _ _ _).mono ?_); rintro e wx ⟨rfl, rfl⟩)) | (go_at_call 48; ((with_reducible refine HOR.out.mono ?_); rintro e wx ⟨rfl, rfl⟩)))
  all_goals
    go_wp2_with fail
    go_ret
    refine ⟨rfl, 1, #[.cells #[.int .i64 a, .int .i64 b] 23, .cells #[.int .i64 c, .int .i64 d] 23, .cells #[.int .i64 (Lib.compareInt a c), .int .i64 (Lib.compareInt b d)] 3], ?_⟩
    rw [HV.out, alloc_eq_grow, alloc_eq_grow, alloc_eq_grow, grow_grow, grow_grow]
    rfl
end Go.Proofs.YtdelfhahbngcfaaDoorX.P06
end
section
namespace Go.Proofs.YtdelfhahbngcfaaDoorX.P06
open Go.RowKit Go.Shelf Go.Sort Go.Lib Go.Proofs.YtdelfhahbngcfaaDoor Go.Proofs.YtdelfhahbngcfaaDoorW.PrintWords Go.Proofs.YtdelfhahbngcfaaDoorW.PrintLast Go.Proofs.YtdelfhahbngcfaaDoorW.PrintMore
set_option linter.unusedVariables false
set_option linter.unusedSimpArgs false
attribute [local go_sem] Oper.semAt_some
attribute [local go_sem high] eqA23
instance : Inhabited S23 := ⟨z23⟩
instance : DecidableEq S23 := fun x y => decidable_of_iff (x.f0 = y.f0 ∧ x.f1 = y.f1) (by cases x; cases y; simp)
theorem s23_ne {x y : S23} (h : x ≠ y) : (x.f0 == y.f0 && (x.f1 == y.f1)) = false := by
  cases e : (x.f0 == y.f0 && (x.f1 == y.f1)) with
  | false => rfl
  | true =>
    exfalso; apply h
    cases x; cases y
    simp_all
theorem s23_eq (x : S23) : (x.f0 == x.f0 && (x.f1 == x.f1)) = true := by simp
def RowB (w : World) (g cap : Nat) (d : Array S23) : Prop := ∃ cur : Array Value, YtdelfhahbngcfaaDoor.Blk w g 23 cur ∧ cur.size = cap * 2 ∧ ∀ j, j < d.size → cur[j * 2]? = some (.int .i64 d[j]!.f0) ∧ cur[j * 2 + 1]? = some (.int .i64 d[j]!.f1)
theorem RowB.cell {w : World} {g cap : Nat} {d : Array S23} (h : RowB w g cap d) {j : Nat} (hj : j < d.size) : w.cell? ⟨g, j * 2, none⟩ = some (.int .i64 d[j]!.f0) ∧ w.cell? ⟨g, j * 2 + 1, none⟩ = some (.int .i64 d[j]!.f1) := by
  obtain ⟨cur, hb, _, hc⟩ := h
  exact ⟨YtdelfhahbngcfaaDoor.blk_cell hb _ _ (hc j hj).1, YtdelfhahbngcfaaDoor.blk_cell hb _ _ (hc j hj).2⟩
theorem RowB.thaw {w : World} {g cap : Nat} {d : Array S23} (h : RowB w g cap d) (j : Nat) : w.frozen? ⟨g, j, none⟩ = false := by
  obtain ⟨cur, hb, _, _⟩ := h
  exact YtdelfhahbngcfaaDoor.blk_thawed hb j
theorem RowB.put {w : World} {g cap : Nat} {d : Array S23} (h : RowB w g cap d) (hd : d.size ≤ cap) {k : Nat} (hk : k < d.size) (x : S23) :
    RowB ((w.setCell ⟨g, k * 2, none⟩ (.int .i64 x.f0)).setCell ⟨g, k * 2 + 1, none⟩ (.int .i64 x.f1)) g cap (d.setIfInBounds k x) := by
  obtain ⟨cur, hb, hs, hc⟩ := h
  refine ⟨_, YtdelfhahbngcfaaDoor.blk_set (YtdelfhahbngcfaaDoor.blk_set hb _ _) _ _, by simpa using hs, fun j hj => ?_⟩
  have hj' : j < d.size := by simpa using hj
  obtain ⟨q0, q1⟩ := hc j hj'
  by_cases e : j = k
  · subst e
    have : (d.setIfInBounds j x)[j]! = x := getElem!_set_same d j x hj'
    rw [this]
    constructor
    · rw [Array.getElem?_setIfInBounds, if_neg (by omega), Array.getElem?_setIfInBounds, if_pos rfl, if_pos (by omega)]
    · rw [Array.getElem?_setIfInBounds, if_pos rfl, if_pos (by simp; omega)]
  · have : (d.setIfInBounds k x)[j]! = d[j]! := by
      rw [getElem!_pos _ j hj, getElem!_pos _ j hj', Array.getElem_setIfInBounds, if_neg (Ne.symm e)]
    rw [this]
    constructor
    · rw [Array.getElem?_setIfInBounds, if_neg (by omega), Array.getElem?_setIfInBounds, if_neg (by omega)]; exact q0
    · rw [Array.getElem?_setIfInBounds, if_neg (by omega), Array.getElem?_setIfInBounds, if_neg (by omega)]; exact q1
theorem RowB.clear {w : World} {g cap : Nat} {d : Array S23} (h : RowB w g cap d) : ∀ (vs : List Value) (o k : Nat), k * 2 ≤ o → k ≤ d.size → RowB (w.setCells g o vs) g cap (d.extract 0 k) := by
  obtain ⟨cur, hb, hs, hc⟩ := h
  intro vs
  suffices H : ∀ (vs : List Value) (o : Nat) (w : World) (cur : Array Value), YtdelfhahbngcfaaDoor.Blk w g 23 cur → ∃ cur', YtdelfhahbngcfaaDoor.Blk (w.setCells g o vs) g 23 cur' ∧ cur'.size = cur.size ∧ ∀ j, j < o → cur'[j]? = cur[j]? by
    intro o k ho hk
    obtain ⟨cur', b1, b2, b3⟩ := H vs o w cur hb
    refine ⟨cur', b1, by omega, fun j hj => ?_⟩
    have hj2 : j < k := by simp at hj; omega
    have e : (d.extract 0 k)[j]! = d[j]! := by
      rw [getElem!_pos _ j hj, getElem!_pos _ j (by omega)]; simp
    rw [e, b3 _ (by omega), b3 _ (by omega)]
    exact hc j (by omega)
  intro vs
  induction vs with
  | nil => exact fun o w cur hb => ⟨cur, hb, rfl, fun _ _ => rfl⟩
  | cons v r ih =>
    intro o w cur hb
    obtain ⟨cur', b1, b2, b3⟩ := ih (o + 1) _ _ (YtdelfhahbngcfaaDoor.blk_set hb o v)
    refine ⟨cur', b1, by simpa using b2, fun j hj => ?_⟩
    rw [b3 j (by omega), Array.getElem?_setIfInBounds, if_neg (by omega)]
theorem ch_cells (g : Nat) : ∀ (vs : List Value) (o : Nat) (w W : World), Ch (fun k => k = g) w W → Ch (fun k => k = g) w (W.setCells g o vs)
  | [], _, _, _, h => h
  | v :: r, o, w, W, h => ch_cells g r (o + 1) w _ (ch_one h o v)
theorem clear23 (ty : TypeId) (g o n c cap : Nat) (d : Array S23) (w : World) (h : RowB w g cap d) (hn : 0 < n) (hb : o + n * 2 ≤ cap * 2) :
    ∃ vs, (Builtin.clear_ #[46] ty #[.slice (some ⟨g, o, none⟩) n c]).run Tryd.prog w = .ok (.tuple #[]) (w.setCells g o vs) := by
  obtain ⟨cur, b1, b2, _⟩ := h
  refine ⟨(Builtin.zeroCells #[.int .i64 0, .int .i64 0] n).toList, ?_⟩
  have hlen : (Builtin.zeroCells #[.int .i64 0, .int .i64 0] n).toList.length = n * 2 := by simp [Builtin.zeroCells]
  have hst := run_storeCells_cells (P := Tryd.prog) g o (Builtin.zeroCells #[.int .i64 0, .int .i64 0] n).toList 0 w (fun j hj => by
      rw [hlen] at hj
      rw [YtdelfhahbngcfaaDoor.blk_cell b1 _ _ (Array.getElem?_eq_getElem (show o + 0 + j < cur.size by omega))]; rfl) (fun j _ => YtdelfhahbngcfaaDoor.blk_thawed b1 _) (by
      intro v hv
      have : v = .int .i64 0 := by
        simp only [Builtin.zeroCells, Array.toList_map, List.mem_map] at hv
        obtain ⟨i, _, hi⟩ := hv
        rw [← hi]
        have : i % 2 = 0 ∨ i % 2 = 1 := by omega
        rcases this with e | e <;> simp [e]
      rw [this]; rfl)
  simp only [Nat.add_zero] at hst
  obtain ⟨m, rfl⟩ : ∃ m, n = m + 1 := ⟨n - 1, by omega⟩
  simp [Builtin.clear_, run_underlying Tryd.underlying46, Tryd.zeroValue23]
  rw [show (Value.agg #[Value.int IntKind.i64 0, Value.int IntKind.i64 0]).cells = #[Value.int IntKind.i64 0, Value.int IntKind.i64 0] from rfl, hst]
  rfl
theorem ch_drewN {S : Nat → Prop} {w W : World} (h : Ch S w W) (q : Nat) : Ch S w (W.drewN q) := ⟨h.os, h.tape, h.output, h.size, h.block⟩
set_option maxRecDepth 100000 in
set_option maxHeartbeats 4000000 in
theorem compact_any (g cap : Nat) (d : Array S23) (w : World) (hB : RowB w g cap d) (hsz : d.size ≤ cap) (hcap : cap ≤ 9223372036854775807) :
    Calls Tryd.prog 43 #[.slice (some ⟨g, 0, none⟩) d.size cap] w fun e w' => e = .returned (.slice (some ⟨g, 0, none⟩) (compactUpTo d d.size).length cap) ∧ RowB w' g cap (compactUpTo d d.size).toArray ∧ Ch (fun k => k = g) w w' := by
  have HS := Lib.hid (show ∀ W, Ch (fun k => k = g) w W → RowB W g cap d → (∀ j, j < d.size → keeps d j = true) → (compactUpTo d d.size).length = d.size ∧ RowB W g cap (compactUpTo d d.size).toArray from fun W _ hR hall => by
    have e : compactUpTo d d.size = d.toList := by rw [compactUpTo_all d _ hall, range_map_get]
    rw [e]
    exact ⟨by simp, by simpa using hR⟩)
  have HB := Lib.hid hB
  clear hB
  by_cases h2 : d.size < 2
  · go_enter Tryd.func43, Tryd.ntmps43
    go_wp2
    go_ret
    obtain ⟨e1, e2⟩ := HS.out w (Ch.refl _ _) HB.out (fun j hj => keeps_lt_one d j (by omega))
    exact ⟨by rw [e1]; rfl, e2, Ch.refl _ _⟩
  · go_enter Tryd.func43, Tryd.ntmps43
    go_wp2
    go_loopw [3] (fun s3 wr => ∃ k : Nat, 1 ≤ k ∧ k ≤ d.size ∧ s3 = .int .i64 k ∧ Hid (RowB wr g cap d ∧ Ch (fun k => k = g) w wr ∧ ∀ j, j < k → keeps d j = true)) (fun s3 _ => d.size - (intOf s3).toNat)
    case atStart => exact ⟨1, Nat.le_refl _, by omega, rfl, Lib.hid ⟨HB.out, Ch.refl _ _, keeps_lt_one d⟩⟩
    case round =>
      clear HB
      obtain ⟨k, hk1, hk, rfl, HI⟩ := hrel
      by_cases hlt : k < d.size
      · obtain ⟨c0, c1⟩ := HI.out.1.cell hlt
        obtain ⟨p0, p1⟩ := HI.out.1.cell (show k - 1 < d.size by omega)
        obtain ⟨x, hx⟩ : ∃ x, x = d[k]! := ⟨_, rfl⟩
        obtain ⟨y, hy⟩ : ∃ y, y = d[k - 1]! := ⟨_, rfl⟩
        rw [← hx] at c0 c1
        rw [← hy] at p0 p1
        by_cases hdup : x = y
        · have HK := Lib.hid (show keeps d k = false from keeps_neg (by omega) (by rw [← hx, ← hy]; exact hdup))
          subst hdup
          have he := s23_eq x
          clear hx hy
          go_wp2
          repeat (go_quiet (fail); try go_wp2)
          clear c0 c1 p0 p1
          have HD := Lib.hid (show ∀ q, RowB (wr.drewN q) g cap d ∧ Ch (fun k => k = g) w (wr.drewN q) ∧ CompInv d (k + 1) k d from fun q => ⟨HI.out.1, ch_drewN HI.out.2.1 q, CompInv.start HI.out.2.2 HK.out⟩)
          clear HI HK he
          go_loopw [3, 5] (fun s3 s5 ws => ∃ (kk k2 : Nat) (dk : Array S23), s3 = .int .i64 kk ∧ s5 = .int .i64 k2 ∧ 1 ≤ k2 ∧ k + k2 ≤ d.size ∧ Hid (RowB ws g cap dk ∧ Ch (fun k => k = g) w ws ∧ CompInv d (k + k2) kk dk)) (fun _ s5 _ => d.size - (k + (intOf s5).toNat))
          case atStart => exact ⟨k, 1, d, rfl, rfl, Nat.le_refl _, by omega, Lib.hid (HD.out _)⟩
          case round =>
            clear HD
            obtain ⟨kk, k2, dk, rfl, rfl, h1, hle, HJ⟩ := hrel
            have hkk := HJ.out.2.2.lt
            have hds := HJ.out.2.2.size
            by_cases hlt2 : k + k2 < d.size
            · obtain ⟨m0, m1⟩ := HJ.out.1.cell (show k + k2 < dk.size by omega)
              obtain ⟨p0, p1⟩ := HJ.out.1.cell (show k + k2 - 1 < dk.size by omega)
              obtain ⟨z0, z1⟩ := HJ.out.1.cell (show kk < dk.size by omega)
              have f0 := HJ.out.1.thaw (kk * 2)
              have f1 := HJ.out.1.thaw (kk * 2 + 1)
              rw [HJ.out.2.2.high (k + k2) (by omega), show (k + k2) * 2 = k * 2 + k2 * 2 by omega] at m0 m1
              rw [HJ.out.2.2.high (k + k2 - 1) (by omega), show (k + k2 - 1) * 2 = k * 2 + (k2 - 1) * 2 by omega] at p0 p1
              obtain ⟨u, hu⟩ : ∃ u, u = d[k + k2]! := ⟨_, rfl⟩
              obtain ⟨v, hv⟩ : ∃ v, v = d[k + k2 - 1]! := ⟨_, rfl⟩
              rw [← hu] at m0 m1
              rw [← hv] at p0 p1
              by_cases huv : u = v
              · have HN := Lib.hid (show ∀ q, RowB (wr.drewN q) g cap dk ∧ Ch (fun k => k = g) w (wr.drewN q) ∧ CompInv d (k + (k2 + 1)) kk dk from fun q => ⟨HJ.out.1, ch_drewN HJ.out.2.1 q, HJ.out.2.2.skip (keeps_neg (by omega) (by rw [← hu, ← hv]; exact huv))⟩)
                subst huv
                have he := s23_eq u
                clear hu hv HJ
                go_wp2
                repeat (go_quiet (fail); try go_wp2)
                go_roundw
                case rel => exact ⟨kk, k2 + 1, dk, rfl, by go_num, by omega, by omega, Lib.hid (HN.out _)⟩
                case measure => simp [intOf]; omega
              · have HN := Lib.hid (show ∀ q, RowB (((wr.drewN q).setCell ⟨g, kk * 2, none⟩ (.int .i64 u.f0)).setCell ⟨g, kk * 2 + 1, none⟩ (.int .i64 u.f1)) g cap (dk.setIfInBounds kk u) ∧ Ch (fun k => k = g) w (((wr.drewN q).setCell ⟨g, kk * 2, none⟩ (.int .i64 u.f0)).setCell ⟨g, kk * 2 + 1, none⟩ (.int .i64 u.f1)) ∧ CompInv d (k + (k2 + 1)) (kk + 1) (dk.setIfInBounds kk u) from fun q => ⟨RowB.put (w := wr.drewN q) HJ.out.1 (by omega) (by omega) u, ch_one (ch_one (ch_drewN HJ.out.2.1 q) _ _) _ _, by
                  have := HJ.out.2.2.keep hlt2 (keeps_pos (by rw [← hu, ← hv]; exact huv))
                  rwa [← hu] at this⟩)
                have he := s23_ne huv
                clear hu hv HJ
                go_wp2
                repeat (go_quiet (fail); try go_wp2)
                go_roundw
                case rel => exact ⟨kk + 1, k2 + 1, dk.setIfInBounds kk u, by go_num, by go_num, by omega, by omega, Lib.hid (HN.out _)⟩
                case measure => simp [intOf]; omega
            · have hend : k + k2 = d.size := by omega
              have HCL := Lib.hid (fun ty => clear23 ty g (kk * 2) (d.size - kk) (cap - kk) cap dk wr HJ.out.1 (by omega) (by omega))
              have HFIN := Lib.hid (show ∀ vs, (compactUpTo d d.size).length = kk ∧ RowB (wr.setCells g (kk * 2) vs) g cap (compactUpTo d d.size).toArray ∧ Ch (fun k => k = g) w (wr.setCells g (kk * 2) vs) from fun vs => by
                have hI := HJ.out.2.2
                rw [hend] at hI
                refine ⟨hI.len, ?_, ch_cells g vs _ _ _ HJ.out.2.1⟩
                have e : (compactUpTo d d.size).toArray = dk.extract 0 kk := by
                  apply Array.ext_getElem?
                  intro j
                  by_cases hj : j < kk
                  · have := hI.low j hj
                    rw [List.getElem?_toArray, this, Array.getElem?_extract]
                    rw [if_pos (by omega)]; simp [show j < dk.size by omega]
                  · have h1 : (compactUpTo d d.size).toArray.size ≤ j := by rw [List.size_toArray, hI.len]; omega
                    rw [Array.getElem?_eq_none h1, Array.getElem?_eq_none (by simp; omega)]
                rw [e]
                exact RowB.clear HJ.out.1 vs (kk * 2) kk (Nat.le_refl _) (by omega))
              clear HJ
              obtain ⟨vs, hcl⟩ := HCL.out 0
              go_wp2
              go_ret
              obtain ⟨f1, f2, f3⟩ := HFIN.out vs
              exact ⟨by rw [f1]; rfl, f2, f3⟩
        · have he := s23_ne hdup
          have HN := Lib.hid (show ∀ q, RowB (wr.drewN q) g cap d ∧ Ch (fun k => k = g) w (wr.drewN q) ∧ ∀ j, j < k + 1 → keeps d j = true from fun q => ⟨HI.out.1, ch_drewN HI.out.2.1 q, fun j hj => by
            by_cases e : j = k
            · subst e
              exact keeps_pos (by rw [← hx, ← hy]; exact hdup)
            · exact HI.out.2.2 j (by omega)⟩)
          clear hx hy HI
          go_wp2
          repeat (go_quiet (fail); try go_wp2)
          go_roundw
          case rel => exact ⟨k + 1, by omega, by omega, by go_num, Lib.hid (HN.out _)⟩
          case measure => simp [intOf]; omega
      · have : k = d.size := by omega
        subst this
        go_wp2
        go_ret
        obtain ⟨e1, e2⟩ := HS.out wr HI.out.2.1 HI.out.1 HI.out.2.2
        exact ⟨by rw [e1]; rfl, e2, HI.out.2.1⟩
end Go.Proofs.YtdelfhahbngcfaaDoorX.P06
end
section
namespace Go.Proofs.YtdelfhahbngcfaaDoorX.P06
open Go.RowKit Go.Shelf Go.Sort Go.Lib Go.Proofs.YtdelfhahbngcfaaDoor Go.Proofs.YtdelfhahbngcfaaDoorW.PrintWords Go.Proofs.YtdelfhahbngcfaaDoorW.PrintLast Go.Proofs.YtdelfhahbngcfaaDoorW.PrintMore
set_option linter.unusedVariables false
set_option linter.unusedSimpArgs false
attribute [local go_sem] Oper.semAt_some
theorem k23_flat {W : World} (x : S23) (cs : List Value) (base : Nat) (ok : Nat → Prop) (h : k23.K W x cs) : k23.M W base ok x cs := by
  rw [k23_open h]
  exact k23_mkM _ _ _ _
theorem R23_empty (w : World) : Kd.R k23 23 (w.alloc (.cells #[] 23)) w.heap.size (fun _ => True) (.slice (some ⟨w.heap.size, 0, none⟩) 0 0) [] := by
  refine ⟨fun _ _ => trivial, [], ?_, by simp [Reps]⟩
  exact ⟨by simp, .inr ⟨w.heap.size, 0, #[], rfl, Nat.le_refl _, Go.heap_alloc_new w _, Nat.le_refl _, by simp [maxLen], by simp, by simp⟩⟩
set_option maxRecDepth 100000 in
set_option maxHeartbeats 1000000 in
theorem clone23 (A0 : Option Addr) (c0 : Nat) (l0 : List (S23)) (w : World) (hr0 : Kd.C k23 w A0 l0.length l0) (hc0 : l0.length ≤ c0) (hn : l0.length < 1000000) :
    Calls Tryd.prog 41 #[.slice A0 l0.length c0] w fun e w' => ∃ v0_ : Value, e = .returned (v0_) ∧ Kd.R k23 23 w' w.heap.size (fun _ => True) v0_ l0 ∧ Below w.heap.size w w' := by
  cases A0 with
  | none =>
    have h0 : l0.length = 0 := by
      rcases Nat.eq_zero_or_pos l0.length with h | h
      · exact h
      · obtain ⟨ad, e, _⟩ := hr0.2.2 h
        cases e
    obtain rfl : l0 = [] := List.eq_nil_of_length_eq_zero h0
    have he : ∀ w : World, (binOp .eql 46 (.slice none 0 c0) (.slice none 0 0)).run Tryd.prog w = .ok (.bool true) w := fun _ => rfl
    clear hr0 h0
    simp only [List.length_nil]
    go_enter Tryd.func41, Tryd.ntmps41
    go_wp2
    go_ret
    exact ⟨_, rfl, Kd.R_nil _ _ _ _ _, Below.refl _ _⟩
  | some a =>
    have he : ∀ w : World, (binOp .eql 46 (.slice (some a) l0.length c0) (.slice none 0 0)).run Tryd.prog w = .ok (.bool false) w := fun _ => rfl
    have hb0 : Below w.heap.size w (w.alloc (.cells #[] 23)) := (Below.refl _ w).alloc (Nat.le_refl _) _
    have HR := Lib.hid (Kd.C_below hr0 hb0)
    have HE := Lib.hid (R23_empty w); have HB := Lib.hid hb0
    clear hr0 hb0
    go_enter Tryd.func41, Tryd.ntmps41
    go_wp2_with (at_builtin; refine Kd.R_append_rows k23 (Rr := k23.K (w.alloc (.cells #[] 23))) (w0 := w) w.heap.size rfl (.tmp 5) (.tmp 6) 46 23 _ 16 rfl Tryd.underlying46 info23 rfl (by decide) (by decide) _ [] l0 _ _ _ (fun _ => True) (fun _ => False) rfl rfl HE.out HR.out (fun x cs h => k23_flat x cs _ _ h) (fun _ h => h.elim) (fun _ _ => trivial) HB.out HB.out.size (by simp; omega) ?_; intro v1 w1 ho hb hg hat; rw [List.nil_append] at ho; have HO := Lib.hid ho; have HB1 := Lib.hid hb; clear ho hb hg hat)
    go_ret
    exact ⟨_, rfl, HO.out, HB1.out⟩
theorem ltD (x y : S23) : ltOf ordD x y = decide (x.f0 < y.f0 ∨ (x.f0 = y.f0 ∧ x.f1 < y.f1)) := by
  unfold ltOf ordD Lib.compareInt
  by_cases h1 : x.f0 < y.f0
  · simp [h1]
  · by_cases h2 : y.f0 < x.f0
    · simp [h1, h2]
      omega
    · have e : x.f0 = y.f0 := by omega
      simp [e]
      by_cases h3 : x.f1 < y.f1
      · simp [h3]
      · by_cases h4 : y.f1 < x.f1 <;> simp [h3, h4]
theorem swoD : SWO (ltOf ordD) where
  irrefl x := by rw [ltD]; simp
  trans x y z h1 h2 := by rw [ltD] at *; simp at *; omega
  ntrans x y z h1 h2 := by rw [ltD] at *; simp at *; omega
theorem totD (x y : S23) (h1 : ltOf ordD x y = false) (h2 : ltOf ordD y x = false) : x = y := by
  rw [ltD] at h1 h2
  simp at h1 h2
  cases x; cases y
  simp only [S23.mk.injEq]
  simp only [] at h1 h2
  omega
def srt (l : List S23) : List S23 := l.mergeSort fun x y => !(ltOf ordD) y x
def sortV (l : List S23) : List S23 := compactUpTo (srt l).toArray (srt l).length
theorem sort42 (g cap : Nat) (l : List S23) (w : World) (cur : Array Value) (hb : YtdelfhahbngcfaaDoor.Blk w g 23 cur) (hs : cur.size = cap * 2) (hl : l.length ≤ cap) (ht : cur.toList.take (l.length * 2) = l.flatMap c23) (hn : l.length < 1000000) :
    Calls Tryd.prog 42 #[.slice (some ⟨g, 0, none⟩) l.length cap, .func (.func 40) #[] #[]] w fun e w' => e = .returned (.tuple #[]) ∧ RowB w' g cap (srt l).toArray ∧ Ch (fun k => k = g) w w' := by
  have hlt := YtdelfhahbngcfaaDoor.blk_lt hb
  have get : ∀ j, j < l.length → ∀ c, c < 2 → cur[j * 2 + c]? = (c23 l[j]!)[c]? := by
    intro j hj c hc
    have h1 : (cur.toList.take (l.length * 2))[j * 2 + c]? = cur[j * 2 + c]? := by
      rw [List.getElem?_take, if_pos (by omega)]; simp
    rw [← h1, ht]
    clear h1 ht hb hs hl hn
    induction l generalizing j with
    | nil => exact absurd hj (by simp)
    | cons x r ih =>
      rw [List.flatMap_cons]
      cases j with
      | zero =>
        rw [List.getElem?_append_left (by simp [c23]; omega)]
        simp
      | succ j =>
        rw [List.getElem?_append_right (by simp [c23]; omega), show (j + 1) * 2 + c - (c23 x).length = j * 2 + c by simp [c23]; omega, ih j (by simpa using hj)]
        simp
  have hH : HoldsK c23 2 w g 0 l.toArray := by
    intro t ht2
    rw [size_flatK, List.size_toArray] at ht2
    have hj : t / 2 < l.length := by omega
    refine ⟨?_, YtdelfhahbngcfaaDoor.blk_thawed hb _⟩
    rw [get_flatK _ _ _ _ (by simpa using ht2), Nat.zero_add]
    have := get (t / 2) hj (t % 2) (by omega)
    rw [show t / 2 * 2 + t % 2 = t by omega] at this
    refine YtdelfhahbngcfaaDoor.blk_cell hb t _ (this.trans ?_)
    have e : l.toArray[t / 2]! = l[t / 2]! := by simp
    rw [e]
    have : t % 2 = 0 ∨ t % 2 = 1 := by omega
    rcases this with e2 | e2 <;> rw [e2] <;> rfl
  have eg : ∀ args w, (callFunc 40 args).run Tryd.prog w = .ok (.enter 40 args) w := enters_of Tryd.func40 (by kernel_rfl) rfl
  have hcmp : CmpLays Tryd.prog 40 #[] c23 2 ordD g 0 l.toArray.size w := fun m os dk hs x y => order_any x y _
  have hcon := AnyQ.slices_SortFunc_total sortDot 2 Tryd.isAgg23 Tryd.sizeOf23 c23 (fun _ => rfl) (fun x v hv => by simp [c23] at hv; rcases hv with rfl | rfl <;> rfl) ordD swoD 40 #[] g 0 cap l.toArray w eg hcmp hH hlt (by simp; omega) totD
  change Calls Tryd.prog 42 _ _ _ at hcon
  refine hcon.mono ?_
  rintro e w' ⟨rfl, n, os, rfl⟩
  refine ⟨rfl, ?_, ?_⟩
  · have hlen : (srt l).length = l.length := List.length_mergeSort _
    refine ⟨putCells id 0 (flatK c23 2 (srt l).toArray) cur, ?_, by simp [putCells, hs], fun j hj => ?_⟩
    · show (sortWorldK c23 2 w g 0 n (srt l).toArray os).heap[g]? = _
      unfold sortWorldK putRowK
      rw [heap_grow_old _ _ (by simpa [putRow, mapBlock, Sort.ahead] using hlt)]
      have hb' : w.heap[g]? = some (.cells cur 23 (0, 0)) := hb
      simp [putRow, mapBlock, Sort.ahead, Array.getElem?_modify, hb', onCells]
    · have hj2 : j < (srt l).length := by simpa using hj
      have hz : (flatK c23 2 (srt l).toArray).size = (srt l).length * 2 := by simp
      have at_ : ∀ c, c < 2 → (putCells id 0 (flatK c23 2 (srt l).toArray) cur)[j * 2 + c]? = some ((c23 (srt l).toArray[j]!)[c]!) := fun c hc => by
        unfold putCells
        rw [Array.getElem?_mapIdx, Array.getElem?_eq_getElem (show j * 2 + c < cur.size by omega)]
        simp only [Option.map_some]
        rw [if_pos (by omega), Nat.sub_zero, id, get_flatK _ _ _ _ (by simpa using (show j * 2 + c < (srt l).length * 2 by omega))]
        rw [show (j * 2 + c) / 2 = j by omega, show (j * 2 + c) % 2 = c by omega]
      exact ⟨at_ 0 (by omega), at_ 1 (by omega)⟩
  · refine ⟨rfl, rfl, rfl, ?_, fun k hk hn => ?_⟩
    · simp [sortWorldK, putRowK, putRow, mapBlock, Sort.ahead]
    · unfold sortWorldK putRowK
      rw [heap_grow_old _ _ (by simpa [putRow, mapBlock, Sort.ahead] using hk)]
      have : g ≠ k := fun e => hn e.symm
      simp [putRow, mapBlock, Sort.ahead, Array.getElem?_modify, this]
theorem compact_nil (A : Option Addr) (c : Nat) (w : World) : Calls Tryd.prog 43 #[.slice A 0 c] w fun e w' => e = .returned (.slice A 0 c) ∧ w = w' := by
  go_enter Tryd.func43, Tryd.ntmps43
  go_wp2
  go_ret
  exact ⟨rfl, rfl⟩
theorem c23_len (l : List S23) : (l.flatMap c23).length = l.length * 2 := by
  induction l with
  | nil => rfl
  | cons x r ih => rw [List.flatMap_cons, List.length_append, ih]; simp [c23]; omega
theorem reps23 : ∀ (l : List S23) (w : World) (base : Nat) (ok : Nat → Prop), Reps (k23.M w base ok) 2 l (l.flatMap c23)
  | [], _, _, _ => Reps.none _ _
  | x :: t, w, base, ok => Reps.front (k23_mkM _ _ _ x) rfl (reps23 t w base ok) rfl
theorem R_of_row {w : World} {base g cap : Nat} {l : List S23} (hb : base ≤ g) (h : RowB w g cap l.toArray) (hl : l.length ≤ cap) (hc : cap ≤ maxLen) : Kd.R k23 23 w base (fun _ => True) (.slice (some ⟨g, 0, none⟩) l.length cap) l := by
  obtain ⟨cur, b1, b2, b3⟩ := h
  refine ⟨fun _ _ => trivial, l.flatMap c23, ⟨c23_len l, .inr ⟨g, cap, cur, rfl, hb, b1, hl, hc, b2, ?_⟩⟩, reps23 l _ _ _⟩
  apply List.ext_getElem?
  intro t
  by_cases ht : t < l.length * 2
  · show (cur.toList.take (l.length * 2))[t]? = _
    rw [List.getElem?_take, if_pos ht, Array.getElem?_toList]
    obtain ⟨q0, q1⟩ := b3 (t / 2) (by simp; omega)
    have e : l.toArray[t / 2]! = l[t / 2]! := by simp
    rw [e] at q0 q1
    have key : ∀ (l : List S23) (j c : Nat), j < l.length → c < 2 → (l.flatMap c23)[j * 2 + c]? = (c23 l[j]!)[c]? := by
      intro l
      induction l with
      | nil => exact fun j c hj _ => absurd hj (by simp)
      | cons x r ih =>
        intro j c hj hc
        rw [List.flatMap_cons]
        cases j with
        | zero =>
          rw [List.getElem?_append_left (by simp [c23]; omega)]
          simp
        | succ j =>
          rw [List.getElem?_append_right (by simp [c23]; omega), show (j + 1) * 2 + c - (c23 x).length = j * 2 + c by simp [c23]; omega, ih j c (by simpa using hj) hc]
          simp
    have k2 := key l (t / 2) (t % 2) (by omega) (by omega)
    rw [show t / 2 * 2 + t % 2 = t by omega] at k2
    rw [k2]
    have : t % 2 = 0 ∨ t % 2 = 1 := by omega
    rcases this with e2 | e2
    · rw [show t / 2 * 2 = t by omega] at q0; rw [e2, q0]; rfl
    · rw [show t / 2 * 2 + 1 = t by omega] at q1; rw [e2, q1]; rfl
  · show (cur.toList.take (l.length * 2))[t]? = _
    rw [List.getElem?_eq_none (by simp; omega), List.getElem?_eq_none (by rw [c23_len]; omega)]
theorem row_of_R {w : World} {base : Nat} {v : Value} {l : List S23} (h : Kd.R k23 23 w base (fun _ => True) v l) : (v = .slice none 0 0 ∧ l = []) ∨
    ∃ g cap cur, v = .slice (some ⟨g, 0, none⟩) l.length cap ∧ base ≤ g ∧ YtdelfhahbngcfaaDoor.Blk w g 23 cur ∧ l.length ≤ cap ∧ cap ≤ maxLen ∧ cur.size = cap * 2 ∧ cur.toList.take (l.length * 2) = l.flatMap c23 := by
  obtain ⟨_, inner, ho, hr⟩ := h
  rcases ho.2 with ⟨rfl, h0⟩ | ⟨g, cap, cur, rfl, h2, h3, h4, h5, h6, h7⟩
  · exact .inl ⟨rfl, List.eq_nil_of_length_eq_zero h0⟩
  · refine .inr ⟨g, cap, cur, rfl, h2, h3, h4, h5, h6, h7.trans ?_⟩
    have key : ∀ (l : List S23) (cs : List Value) (ok : Nat → Prop), Reps (k23.M w base ok) 2 l cs → cs = l.flatMap c23 := by
      intro l
      induction l with
      | nil => exact fun cs ok h => List.eq_nil_of_length_eq_zero (by simpa using h.1)
      | cons x r ih =>
        intro cs ok h
        have h0 := h.2 0 x rfl
        have hl := h.1
        rw [Nat.zero_mul, List.drop_zero] at h0
        have e0 := k23_openM h0
        have hr : Reps (k23.M w base ok) 2 r (cs.drop 2) := ⟨by rw [List.length_drop, hl, List.length_cons]; omega, fun j p hp => by
          have := h.2 (j + 1) p (by simpa using hp)
          rw [List.drop_drop]
          rwa [show 2 + j * 2 = (j + 1) * 2 by omega]⟩
        have e1 := ih _ ok hr
        rw [List.flatMap_cons, ← e1]
        conv => lhs; rw [← List.take_append_drop 2 cs, e0]
        rfl
    exact key l inner _ hr
def dot_Sort.f (l0 : List S23) : Option (List S23) := if l0.length < 1000000 then some (sortV l0) else none
set_option maxHeartbeats 2000000 in
theorem dot_Sort.calls (A0 : Option Addr) (c0 : Nat) (l0 : List (S23)) (r : List S23) (w : World) (hr0 : Kd.C k23 w A0 l0.length l0) (hc0 : l0.length ≤ c0) (h : dot_Sort.f l0 = some r) :
    Calls Tryd.prog 26 #[.slice A0 l0.length c0] w fun e w' => ∃ v0_ : Value, e = .returned (v0_) ∧ Kd.R k23 23 w' w.heap.size (fun _ => True) v0_ r ∧ Below w.heap.size w w' := by
  unfold dot_Sort.f at h
  by_cases hn : l0.length < 1000000
  rotate_left
  · rw [if_neg hn] at h; cases h
  rw [if_pos hn] at h
  obtain rfl := Option.some.inj h
  have HC := Lib.hid (clone23 A0 c0 l0 w hr0 hc0 hn)
  have HREST := Lib.hid (show ∀ (v : Value) (w1 : World), Kd.R k23 23 w1 w.heap.size (fun _ => True) v l0 → Below w.heap.size w w1 →
      Calls Tryd.prog 42 #[v, .func (.func 40) #[] #[]] w1 fun e w2 => e = .returned (.tuple #[]) ∧ Calls Tryd.prog 43 #[v] w2 fun e w' => ∃ v0_ : Value, e = .returned v0_ ∧ Kd.R k23 23 w' w.heap.size (fun _ => True) v0_ (sortV l0) ∧ Below w.heap.size w w' from fun v w1 ho hb1 => by
    rcases row_of_R ho with ⟨rfl, rfl⟩ | ⟨g, cap, cur, rfl, hg, hb, hl, hcm, hs, ht⟩
    · refine (AnyF.slices_SortFunc_none sortDot none 0 _ w1).mono ?_
      rintro e w2 ⟨rfl, rfl⟩
      refine ⟨rfl, (compact_nil none 0 w2).mono ?_⟩
      rintro e w3 ⟨rfl, rfl⟩
      exact ⟨_, rfl, by simpa [sortV, srt, compactUpTo] using Kd.R_nil _ _ _ _ _, hb1⟩
    · refine (sort42 g cap l0 w1 cur hb hs hl ht hn).mono ?_
      rintro e w2 ⟨rfl, hrow, hch⟩
      refine ⟨rfl, ?_⟩
      have hlen : (srt l0).length = l0.length := List.length_mergeSort _
      have hsz : (srt l0).toArray.size = l0.length := by simpa using hlen
      have := compact_any g cap (srt l0).toArray w2 hrow (by omega) (by simpa only [maxLen] using hcm)
      rw [hsz] at this
      refine this.mono ?_
      rintro e w3 ⟨rfl, hrow2, hch2⟩
      have hle : (compactUpTo (srt l0).toArray (srt l0).length).length ≤ l0.length := by
        unfold compactUpTo
        rw [List.length_map]
        exact Nat.le_trans (List.length_filter_le _ _) (by simp [hlen])
      refine ⟨_, rfl, ?_, ?_⟩
      · have := R_of_row (l := sortV l0) hg (by unfold sortV; rw [hlen]; exact hrow2) (by unfold sortV; omega) hcm
        unfold sortV at this ⊢
        rw [hlen] at this ⊢
        exact this
      · have h3 := hch.trans hch2 (fun _ h => .inl h)
        have h4 := h3.below (B := w.heap.size) hb1.size (fun k hk => by rw [hk]; exact hg)
        exact hb1.trans h4)
  clear hr0 h
  go_enter Tryd.func26, Tryd.ntmps26
  go_wp2_with first | (go_at_call 41; refine HC.out.mono ?_; rintro e w1 ⟨v1, rfl, ho, hb⟩; have HS := Lib.hid (HREST.out v1 w1 ho hb); clear ho hb) | (go_at_call 42; refine HS.out.mono ?_; rintro e w2 ⟨rfl, hcm⟩; have HCM := Lib.hid hcm; clear hcm) | (go_at_call 43; refine HCM.out.mono ?_; rintro e w3 ⟨v3, rfl, ho, hb⟩; have HO := Lib.hid ho; have HB := Lib.hid hb; clear ho hb)
  go_ret
  exact ⟨_, rfl, HO.out, HB.out⟩
end Go.Proofs.YtdelfhahbngcfaaDoorX.P06
end
section
namespace Go.Proofs.YtdelfhahbngcfaaDoorX.P06
open Go.RowKit Go.Shelf Go.Proofs.YtdelfhahbngcfaaDoor Go.Proofs.YtdelfhahbngcfaaDoorW.PrintWords Go.Proofs.YtdelfhahbngcfaaDoorW.PrintLast Go.Proofs.YtdelfhahbngcfaaDoorW.PrintMore
set_option linter.unusedVariables false
set_option linter.unusedSimpArgs false
attribute [local go_sem] Oper.semAt_some
def o23 : S23 := ⟨-7, -7⟩
theorem reps_flatS {α : Type} {R : α → List Value → Prop} {sz : Nat} (F : α → List Value) (hF : ∀ x, R x (F x)) (hl : ∀ x, (F x).length = sz) : ∀ l, Reps R sz l (l.flatMap F)
  | [] => Reps.none _ _
  | x :: t => Reps.front (hF x) (hl x) (reps_flatS F hF hl t) rfl
theorem lenS23 (n : Nat) (x : S23) : ((List.replicate n x).flatMap c23).length = n * 2 := by
  induction n with
  | zero => rfl
  | succ n ih => rw [List.replicate_succ, List.flatMap_cons, List.length_append, ih]; simp [c23]; omega
theorem RS23_rep {w : World} {base g n cap : Nat} {cur : Array Value} {ok : Nat → Prop} (hb : base ≤ g) (hg : w.heap[g]? = some (.cells cur 23 (0, 0))) (hn : n ≤ cap) (hc : cap ≤ maxLen) (hs : cur.size = cap * 2) (ht : cur.toList.take (n * 2) = (List.replicate n o23).flatMap c23) (hok : ok g) :
    Kd.R k23 23 w base ok (.slice (some ⟨g, 0, none⟩) n cap) (List.replicate n o23) := by
  refine ⟨fun k hk => by have e : g = k := by simpa [Value.ownBlock] using hk
                         rw [← e]; exact hok, (List.replicate n o23).flatMap c23, ?_, ?_⟩
  · have hl : (List.replicate n o23).length = n := by simp
    refine ⟨?_, .inr ⟨g, cap, cur, by rw [hl], hb, hg, by rw [hl]; exact hn, hc, hs, ?_⟩⟩
    · rw [hl]; exact lenS23 _ _
    · rw [hl]; exact ht
  · exact reps_flatS c23 (fun x => k23_mkM _ _ _ x) (fun _ => rfl) _
theorem repS_snoc (n : Nat) (x : S23) : (List.replicate (n + 1) x).flatMap c23 = (List.replicate n x).flatMap c23 ++ c23 x := by
  rw [List.replicate_succ', List.flatMap_append]
  simp
theorem set2S {α : Type} (L : List α) (m : Nat) (a b : α) (h : m + 2 ≤ L.length) : ((L.set m a).set (m + 1) b).take (m + 2) = L.take m ++ [a, b] := by
  obtain ⟨P, hP⟩ : ∃ P, P = L.take m := ⟨_, rfl⟩
  obtain ⟨D, hD⟩ : ∃ D, D = L.drop m := ⟨_, rfl⟩
  have hL : L = P ++ D := by rw [hP, hD, List.take_append_drop]
  have hp : P.length = m := by rw [hP]; simp; omega
  have hd : 2 ≤ D.length := by rw [hD]; simp; omega
  match D, hd with
  | x :: y :: R, _ =>
    subst hL
    rw [← hP, ← hp]
    rw [List.set_append_right _ _ (by omega), Nat.sub_self, List.set_append_right _ _ (by omega)]
    simp [show P.length + 1 - P.length = 1 by omega, List.take_append]
    exact List.take_of_length_le (by omega)
theorem putS23 {cur : Array Value} {cap k : Nat} (hs : cur.size = cap * 2) (hk : k < cap) (ht : cur.toList.take (k * 2) = (List.replicate k o23).flatMap c23) :
    ((cur.setIfInBounds (k * 2) (.int .i64 (-7))).setIfInBounds (k * 2 + 1) (.int .i64 (-7))).toList.take ((k + 1) * 2) = (List.replicate (k + 1) o23).flatMap c23 := by
  rw [repS_snoc, ← ht]
  simp only [Array.toList_setIfInBounds, show (k + 1) * 2 = k * 2 + 2 by omega]
  exact set2S _ _ _ _ (by simp; omega)
set_option maxRecDepth 100000 in
set_option maxHeartbeats 4000000 in
theorem overS_row (g n cap : Nat) (cur0 : Array Value) (w : World) (hg : w.heap[g]? = some (.cells cur0 23 (0, 0))) (hn : n ≤ cap) (hc : cap ≤ 9223372036854775807) (hs : cur0.size = cap * 2) :
    Calls Tryd.prog 29 #[.slice (some ⟨g, 0, none⟩) n cap] w fun e w' => e = .returned (.tuple #[]) ∧ (∃ cur : Array Value, w'.heap[g]? = some (.cells cur 23 (0, 0)) ∧ cur.size = cap * 2 ∧ cur.toList.take (cap * 2) = (List.replicate cap o23).flatMap c23) ∧ Ch (fun k => k = g) w w' := by
  have H0 := Lib.hid (show Blk w g 23 cur0 from hg); have HS := Lib.hid hs
  clear hg hs
  go_enter Tryd.func29, Tryd.ntmps29
  go_wp2
  go_loopw [3] (fun i wr => ∃ k : Nat, k ≤ cap ∧ i = .int .i64 k ∧ (∃ cur : Array Value, Hid (Blk wr g 23 cur ∧ cur.size = cap * 2 ∧ cur.toList.take (k * 2) = (List.replicate k o23).flatMap c23)) ∧ Hid (Ch (fun k => k = g) w wr)) (fun i _ => cap - (intOf i).toNat)
  case atStart => exact ⟨0, Nat.zero_le _, rfl, ⟨cur0, Lib.hid ⟨H0.out, HS.out, by simp⟩⟩, Lib.hid (Ch.refl _ _)⟩
  case round =>
    clear H0 HS
    obtain ⟨k, hk, rfl, ⟨cur, HC⟩, HCH⟩ := hrel
    by_cases hlt : k < cap
    · obtain ⟨hb, hs, ht⟩ := HC.out
      have q : ∀ j, j < 2 → ∃ u, wr.cell? ⟨g, k * 2 + j, none⟩ = some u := fun j hj => by
        have hlt : k * 2 + j < cur.size := by omega
        exact ⟨_, YtdelfhahbngcfaaDoor.blk_cell hb _ _ (Array.getElem?_eq_getElem hlt)⟩
      obtain ⟨u0, q0⟩ := q 0 (by omega)
      obtain ⟨u1, q1⟩ := q 1 (by omega)
      have f0 := YtdelfhahbngcfaaDoor.blk_thawed hb (k * 2)
      have f1 := YtdelfhahbngcfaaDoor.blk_thawed hb (k * 2 + 1)
      have hb1 := YtdelfhahbngcfaaDoor.blk_set (YtdelfhahbngcfaaDoor.blk_set hb (k * 2) (.int .i64 (-7))) (k * 2 + 1) (.int .i64 (-7))
      have HN := Lib.hid (show ∃ cur : Array Value, Hid (Blk ((wr.setCell ⟨g, k * 2, none⟩ (.int .i64 (-7))).setCell ⟨g, k * 2 + 1, none⟩ (.int .i64 (-7))) g 23 cur ∧ cur.size = cap * 2 ∧ cur.toList.take ((k + 1) * 2) = (List.replicate (k + 1) o23).flatMap c23) from ⟨_, Lib.hid ⟨hb1, by simpa using hs, putS23 hs hlt ht⟩⟩)
      have HC1 := Lib.hid (ch_one (ch_one HCH.out (k * 2) (.int .i64 (-7))) (k * 2 + 1) (.int .i64 (-7)))
      rw [Nat.add_zero] at q0
      clear q hb hs ht hb1 HC HCH
      go_wp2
      go_roundw
      case rel => exact ⟨k + 1, by omega, by go_num, HN.out, HC1⟩
      case measure => simp [intOf]; omega
    · obtain rfl : k = cap := by omega
      go_wp2
      exact bodyPost_end (results_none rfl _ _ _) rfl ⟨rfl, ⟨cur, HC.out⟩, HCH.out⟩
theorem overS_any (P0_ : Nat → Prop) (u9000_ : Value) (l0 : List S23) (w0 w : World) (hB : Below w0.heap.size w0 w) (ho0 : Kd.R k23 23 w w0.heap.size P0_ u9000_ l0) :
    Calls Tryd.prog 29 #[u9000_] w fun e w' => e = .returned (.tuple #[]) ∧ Kd.R k23 23 w' w0.heap.size (fun k_ => P0_ k_ ∨ w.heap.size ≤ k_) u9000_ (List.replicate l0.length o23) ∧ Below w0.heap.size w0 w' ∧ Kept w w' (fun k_ => P0_ k_) := by
  obtain ⟨inner, ho⟩ := Kd.R_own ho0
  rcases ho.2 with ⟨rfl, h0⟩ | ⟨g, cap, cur, rfl, h2, h3, h4, h5, h6, h7⟩
  · rw [h0]
    refine Calls.mono (R := fun e w' => e = .returned (.tuple #[]) ∧ w = w') ?_ (fun e w' ⟨h1, h2⟩ => by
      subst h2
      exact ⟨h1, Kd.R_nil _ _ _ _ _, hB, Kept.refl _ _⟩)
    clear ho0 ho h0
    go_enter Tryd.func29, Tryd.ntmps29
    go_wp2
    go_loop [3] (fun i => i = .int .i64 0) (fun _ => 0)
    case atStart => rfl
    case round =>
      subst hrel
      go_wp2
      exact bodyPost_end (results_none rfl _ _ _) rfl ⟨rfl, rfl⟩
  · have hP : P0_ g := ho0.1 g rfl
    refine (overS_row g l0.length cap cur w h3 h4 (by simpa only [maxLen] using h5) h6).mono ?_
    rintro e w' ⟨rfl, ⟨cur', k1, k2, k3⟩, hch⟩
    refine ⟨rfl, RS23_rep h2 k1 h4 h5 k2 ?_ (.inl hP), ?_, hch.size, fun i hi hn => hch.block i hi (fun e => hn (by rw [e]; exact hP))⟩
    · have := congrArg (List.take (l0.length * 2)) k3
      rw [List.take_take, Nat.min_eq_left (Nat.mul_le_mul_right _ h4)] at this
      rw [this, show cap = l0.length + (cap - l0.length) by omega, ← List.replicate_append_replicate, List.flatMap_append]
      exact List.take_left' (lenS23 _ _)
    · exact hB.trans (hch.below hB.size (fun k hk => by omega))
def tributarykit_OverDots.f (l0 : List S23) : Option (List S23) := some (List.replicate l0.length o23)
theorem tributarykit_OverDots.calls (P0_ : Nat → Prop) (u9000_ : Value) (l0 : List S23) (r : List S23) (w0 w : World) (hB : Below w0.heap.size w0 w) (ho0 : Kd.R k23 23 w w0.heap.size P0_ u9000_ l0) (h : tributarykit_OverDots.f l0 = some r) :
    Calls Tryd.prog 29 #[u9000_] w fun e w' => e = .returned (.tuple #[]) ∧ Kd.R k23 23 w' w0.heap.size (fun k_ => P0_ k_ ∨ w.heap.size ≤ k_) u9000_ r ∧ Below w0.heap.size w0 w' ∧ Kept w w' (fun k_ => P0_ k_) := by
  cases h
  exact overS_any P0_ u9000_ l0 w0 w hB ho0
end Go.Proofs.YtdelfhahbngcfaaDoorX.P06
end
section
namespace Go.Proofs.YtdelfhahbngcfaaDoorX.P06
open Go.RowKit Go.Shelf Go.Sort Go.Lib Go.Proofs.YtdelfhahbngcfaaDoor Go.Proofs.YtdelfhahbngcfaaDoorW.PrintWords Go.Proofs.YtdelfhahbngcfaaDoorW.PrintLast Go.Proofs.YtdelfhahbngcfaaDoorW.PrintMore
set_option linter.unusedVariables false
set_option linter.unusedSimpArgs false
attribute [local go_sem] Oper.semAt_some
attribute [local go_sem high] eqA23
theorem cells23 {w : World} {A : Option Addr} {n : Nat} {xs : List S23} (h : Kd.C k23 w A n xs) (hn : 0 < xs.length) : ∃ b off, A = some ⟨b, off, none⟩ ∧ ∀ i : Nat, i < xs.length →
    w.cell? ⟨b, off + i * 2, none⟩ = some (.int .i64 (rd_T23 xs i).f0) ∧ w.cell? ⟨b, off + i * 2 + 1, none⟩ = some (.int .i64 (rd_T23 xs i).f1) := by
  have hl : xs.length = n := h.1
  obtain ⟨ad, rfl, q0, _⟩ := at_T23 h 0 (by omega) (by omega)
  obtain ⟨b, off, rfl⟩ : ∃ b off, ad = ⟨b, off, none⟩ := by
    obtain ⟨b, off, sp⟩ := ad
    cases sp with
    | none => exact ⟨b, off, rfl⟩
    | some z => simp [World.cell?, Addr.add] at q0; split at q0 <;> simp_all
  refine ⟨b, off, rfl, fun i hi => ?_⟩
  obtain ⟨ad, e, r0, r1⟩ := at_T23 h (i : Int) (by omega) (by omega)
  cases e
  have hadd : (⟨b, off, none⟩ : Addr).add (i * 2) = ⟨b, off + i * 2, none⟩ := by unfold Addr.add; split <;> simp_all
  simp only [Int.toNat_natCast, hadd] at r0 r1
  exact ⟨r0, r1⟩
def ltB (a b : S23) : Bool := decide (a.f0 < b.f0 ∨ (a.f0 = b.f0 ∧ a.f1 < b.f1))
theorem less_eq (a b : S23) : tributaryref06_Less.f a.f0 a.f1 b.f0 b.f1 = some (ltB a b) := by
  unfold tributaryref06_Less.f ltB
  by_cases h1 : a.f0 < b.f0
  · rw [if_pos h1]; simp [h1]
  rw [if_neg h1]
  by_cases h2 : a.f0 = b.f0
  · rw [if_pos h2]; simp [h1, h2]
  · rw [if_neg h2]; simp [h1, h2]
def posV (rs : List S23) (x : S23) : Nat := (rs.takeWhile (fun y => ltB y x)).length
def insV (rs : List S23) (x : S23) : List S23 := (rs.take (posV rs x) ++ [x]) ++ rs.drop (posV rs x)
def insD (rs : List S23) (x : S23) : List S23 := if posV rs x < rs.length ∧ rd_T23 rs (posV rs x : Int) = x then rs else insV rs x
theorem pos_le (rs : List S23) (x : S23) : posV rs x ≤ rs.length := by
  unfold posV
  have := (List.takeWhile_prefix (p := fun y => ltB y x) (l := rs)).length_le
  exact this
theorem pos_lt : ∀ (rs : List S23) (x : S23) (q : Nat), q < posV rs x → ltB (rd_T23 rs (q : Int)) x = true
  | [], x, q, h => by simp [posV] at h
  | y :: rs, x, q, h => by
    unfold posV at h
    rw [List.takeWhile_cons] at h
    by_cases hy : ltB y x = true
    · rw [if_pos hy] at h
      cases q with
      | zero => exact hy
      | succ q =>
        have := pos_lt rs x q (by unfold posV; simpa using h)
        unfold rd_T23 at this ⊢
        simpa using this
    · rw [if_neg hy] at h; simp at h
theorem pos_at : ∀ (rs : List S23) (x : S23), posV rs x < rs.length → ltB (rd_T23 rs (posV rs x : Int)) x = false
  | [], x, h => by simp at h
  | y :: rs, x, h => by
    have e : posV (y :: rs) x = if ltB y x = true then posV rs x + 1 else 0 := by
      unfold posV; rw [List.takeWhile_cons]; split <;> simp
    by_cases hy : ltB y x = true
    · rw [if_pos hy] at e
      rw [e] at h ⊢
      have := pos_at rs x (by simpa using h)
      unfold rd_T23 at this ⊢
      simpa using this
    · rw [if_neg hy] at e
      rw [e]
      unfold rd_T23
      simpa using hy
theorem below_drewN' {w : World} (n : Nat) : Below w.heap.size w (w.drewN n) := pw_below_drewN (Below.refl _ _) n
theorem dot23 {w : World} {G : Nat} (x : S23) (h : YtdelfhahbngcfaaDoor.Blk w G 23 #[.int .i64 x.f0, .int .i64 x.f1]) : Kd.C k23 w (some ⟨G, 0, none⟩) 1 [x] :=
  ⟨rfl, by decide, fun _ => ⟨_, rfl, fun j p hp => by
    cases j with
    | succ j => simp at hp
    | zero =>
      have e : p = x := by simpa using hp.symm
      subst e
      refine ⟨[.int .i64 p.f0, .int .i64 p.f1], rfl, k23_mk _ p, fun t u hu => ?_⟩
      have ht : t < 2 := (List.getElem?_eq_some_iff.1 hu).1
      have hadd : ((⟨G, 0, none⟩ : Addr).add (0 * k23.sz + t)) = ⟨G, t, none⟩ := by unfold Addr.add; split <;> simp_all
      rw [hadd]
      exact YtdelfhahbngcfaaDoor.blk_cell h _ _ (by simpa using hu)⟩⟩
theorem ins_len (rs : List S23) (x : S23) : (insD rs x).length ≤ rs.length + 1 := by
  have := pos_le rs x
  unfold insD insV
  split
  · omega
  · simp
    omega
theorem rise_len : ∀ (l rs : List S23), (l.foldl insD rs).length ≤ rs.length + l.length
  | [], rs => Nat.le_refl _
  | x :: l, rs => by
    have h1 := rise_len l (insD rs x)
    have h2 := ins_len rs x
    rw [List.foldl_cons, List.length_cons]
    omega
def tributaryref06_Sort.f (l0 : List S23) : Option (List S23) := if l0.length < 1000000 then some (l0.foldl insD []) else none
set_option maxRecDepth 100000 in
set_option maxHeartbeats 8000000 in
theorem tributaryref06_Sort.calls (A0 : Option Addr) (c0 : Nat) (l0 : List S23) (r : List S23) (w : World) (hr0 : Kd.C k23 w A0 l0.length l0) (hc0 : l0.length ≤ c0) (h : tributaryref06_Sort.f l0 = some r) :
    Calls Tryd.prog 28 #[.slice A0 l0.length c0] w fun e w' => ∃ v0_ : Value, e = .returned v0_ ∧ Kd.R k23 23 w' w.heap.size (fun _ => True) v0_ r ∧ Below w.heap.size w w' := by
  unfold tributaryref06_Sort.f at h
  by_cases hn : l0.length < 1000000
  rotate_left
  · rw [if_neg hn] at h; cases h
  rw [if_pos hn] at h
  have HH := Lib.hid (Option.some.inj h)
  have HX := Lib.hid (fun h0 => cells23 hr0 h0)
  obtain ⟨NN, hN⟩ : ∃ NN, NN = l0.length := ⟨_, rfl⟩
  have HN := Lib.hid hN
  rw [← hN] at hn hc0 ⊢
  clear hr0 h hN
  go_enter Tryd.func28, Tryd.ntmps28
  go_wp2
  go_loopw [3, 4] (fun v i wr => ∃ j : Nat, j ≤ NN ∧ i = .int .i64 j ∧ Hid (Kd.R k23 23 wr w.heap.size (fun _ => True) v ((l0.take j).foldl insD []) ∧ Below w.heap.size w wr)) (fun _ i _ => NN - (intOf i).toNat)
  case atStart => exact ⟨0, Nat.zero_le _, rfl, Lib.hid ⟨Kd.R_nil _ _ _ _ _, Below.refl _ _⟩⟩
  case round =>
    obtain ⟨i, hi, rfl, HI⟩ := hrel
    by_cases hlt : i < NN
    · have hkl : i < l0.length := by rw [← HN.out]; exact hlt
      obtain ⟨b, off, rfl, hc⟩ := HX.out (by omega)
      obtain ⟨q0, q1⟩ := hc i hkl
      obtain ⟨x, hx⟩ : ∃ x, x = rd_T23 l0 (i : Int) := ⟨_, rfl⟩
      rw [← hx] at q0 q1
      replace q0 := (HI.out.2.cell (World.block_lt_of_cell? w _ q0)).trans q0
      replace q1 := (HI.out.2.cell (World.block_lt_of_cell? w _ q1)).trans q1
      have hxx : l0[i] = x := by rw [hx]; unfold rd_T23; simp [List.getD_eq_getElem?_getD, hkl]
      obtain ⟨rs, hrs⟩ : ∃ rs, rs = (l0.take i).foldl insD [] := ⟨_, rfl⟩
      have HT := Lib.hid (show (l0.take (i + 1)).foldl insD [] = insD rs x by rw [List.take_succ_eq_append_getElem hkl, hxx, List.foldl_append, ← hrs]; rfl)
      have hrl : rs.length ≤ i := by rw [hrs]; exact Nat.le_trans (rise_len _ []) (by simp; omega)
      rw [← hrs] at HI
      obtain ⟨Ar, cr, rfl, hlc, hrc⟩ := Kd.R_reads HI.out.1
      have HRX := Lib.hid (fun h0 => cells23 hrc h0)
      have HRC := Lib.hid hrc; have HLC := Lib.hid hlc
      have HXC := Lib.hid (show ∀ W, Below wr.heap.size wr W → W.cell? ⟨b, off + i * 2, none⟩ = some (.int .i64 x.f0) ∧ W.cell? ⟨b, off + i * 2 + 1, none⟩ = some (.int .i64 x.f1) from fun W hW => ⟨below_cell hW q0, below_cell hW q1⟩)
      obtain ⟨M, hM⟩ : ∃ M, M = rs.length := ⟨_, rfl⟩
      have HRL := Lib.hid hM.symm
      obtain ⟨K, hK⟩ : ∃ K, K = posV rs x := ⟨_, rfl⟩
      have hKM : K ≤ M := by rw [hK, hM]; exact pos_le rs x
      have HK := Lib.hid hK
      rw [← hM] at hrl ⊢
      clear hc hx hxx hkl hrs hrc hlc hM hK q0 q1
      rename World => w1
      go_wp2
      go_loopw [5] (fun k wq => ∃ q : Nat, q ≤ K ∧ k = .int .i64 q ∧ Hid (Below w1.heap.size w1 wq)) (fun k _ => M - (intOf k).toNat)
      case atStart => exact ⟨0, Nat.zero_le _, rfl, Lib.hid (Below.refl _ _)⟩
      case round =>
        rename World => wq
        obtain ⟨q, hq, rfl, HWQ⟩ := hrel
        by_cases hqm : q < M
        · obtain ⟨b2, off2, rfl, hc2⟩ := HRX.out (by have := HRL.out; omega)
          obtain ⟨p0, p1⟩ := hc2 q (by have := HRL.out; omega)
          obtain ⟨y, hy⟩ : ∃ y, y = rd_T23 rs (q : Int) := ⟨_, rfl⟩
          rw [← hy] at p0 p1
          have HS4 := Lib.hid (show ∀ W, Below wq.heap.size wq W → (fun W => (W.cell? ⟨b, off + i * 2, none⟩ = some (.int .i64 x.f0) ∧ W.cell? ⟨b, off + i * 2 + 1, none⟩ = some (.int .i64 x.f1)) ∧ (W.cell? ⟨b2, off2 + q * 2, none⟩ = some (.int .i64 y.f0) ∧ W.cell? ⟨b2, off2 + q * 2 + 1, none⟩ = some (.int .i64 y.f1))) W from fun W hW => ⟨⟨below_cell hW (HXC.out _ HWQ.out).1, below_cell hW (HXC.out _ HWQ.out).2⟩, ⟨below_cell hW (below_cell HWQ.out p0), below_cell hW (below_cell HWQ.out p1)⟩⟩)
          have s6 := HS4.out _ (below_drew1 (Below.refl _ wq))
          have hqm' : decide ((q : Int) < (M : Int)) = true := by simp; omega
          clear hc2 p0 p1
          by_cases hqk : q < K
          · have HAH := Lib.hid (show ltB y x = true by rw [hy]; exact pos_lt rs x q (by rw [← HK.out]; exact hqk))
            have HCL := Lib.hid (tributaryref06_Less.calls y.f0 y.f1 x.f0 x.f1 _ wq.drew (by rw [less_eq, HAH.out]))
            clear hy
            go_wp2
            go_region_held3 (fun W => (W.cell? ⟨b, off + i * 2, none⟩ = some (.int .i64 x.f0) ∧ W.cell? ⟨b, off + i * 2 + 1, none⟩ = some (.int .i64 x.f1)) ∧ (W.cell? ⟨b2, off2 + q * 2, none⟩ = some (.int .i64 y.f0) ∧ W.cell? ⟨b2, off2 + q * 2 + 1, none⟩ = some (.int .i64 y.f1))) (first | exact s6 | exact s7) (first | (go_at_call 32; refine HCL.out.mono ?_; rintro e wB ⟨rfl, hbB⟩; have s7 := HS4.out _ (show Below wq.heap.size wq wB from (below_drew1 (Below.refl _ wq)).trans (hbB.mono (Nat.le_refl _))); have HBB := Lib.hid hbB; clear hbB))
            go_wp2
            go_roundw
            case rel => exact ⟨q + 1, by omega, by go_num, Lib.hid (HWQ.out.trans (((below_drew1 (Below.refl _ wq)).trans (HBB.out.mono (Nat.le_refl _))).mono HWQ.out.size))⟩
            case measure => simp [intOf]; omega
          · obtain rfl : q = K := by omega
            have HAH := Lib.hid (show ltB y x = false by rw [hy, HK.out]; exact pos_at rs x (by rw [← HK.out, HRL.out]; exact hqm))
            have HCL := Lib.hid (tributaryref06_Less.calls y.f0 y.f1 x.f0 x.f1 _ wq.drew (by rw [less_eq, HAH.out]))
            have HY := Lib.hid hy
            clear hy
            go_wp2
            go_region_held3 (fun W => (W.cell? ⟨b, off + i * 2, none⟩ = some (.int .i64 x.f0) ∧ W.cell? ⟨b, off + i * 2 + 1, none⟩ = some (.int .i64 x.f1)) ∧ (W.cell? ⟨b2, off2 + q * 2, none⟩ = some (.int .i64 y.f0) ∧ W.cell? ⟨b2, off2 + q * 2 + 1, none⟩ = some (.int .i64 y.f1))) (first | exact s6 | exact s7) (first | (go_at_call 32; refine HCL.out.mono ?_; rintro e wB ⟨rfl, hbB⟩; have s7 := HS4.out _ (show Below wq.heap.size wq wB from (below_drew1 (Below.refl _ wq)).trans (hbB.mono (Nat.le_refl _))); have HBB := Lib.hid hbB; clear hbB))
            have HWB := Lib.hid (HWQ.out.trans (((below_drew1 (Below.refl _ wq)).trans (HBB.out.mono (Nat.le_refl _))).mono HWQ.out.size))
            obtain ⟨⟨x0, x1⟩, y0, y1⟩ := s7
            clear s6 hqk hqm'
            have hne : ((q : Int) == (M : Int)) = false := by simp; omega
            by_cases hyx : y = x
            · subst hyx
              have HINS := Lib.hid (show insD rs y = rs by unfold insD; rw [if_pos ⟨by rw [← HK.out, HRL.out]; exact hqm, by rw [← HK.out]; exact HY.out.symm⟩])
              go_wp2
              go_quiet (fail)
              go_wp2
              go_roundw
              case rel => exact ⟨i + 1, by omega, by go_num, Lib.hid ⟨by rw [HT.out, HINS.out, ← HRL.out]; exact Kd.R_below HI.out.1 (HWB.out.trans ((below_drewN' (w := wB) nq).mono HWB.out.size)), HI.out.2.trans ((HWB.out.trans ((below_drewN' (w := wB) nq).mono HWB.out.size)).mono HI.out.2.size)⟩⟩
              case measure => simp [intOf]; omega
            · have hyn := s23_ne hyx
              have HINS := Lib.hid (show insD rs x = insV rs x by unfold insD; rw [if_neg (fun hh => hyx (by rw [HY.out, HK.out]; exact hh.2))])
              go_wp2
              go_quiet (fail)
              obtain ⟨wz, hwz⟩ : ∃ wz, wz = wB.drewN nq := ⟨_, rfl⟩
              have HWZ := Lib.hid (HWB.out.trans ((below_drewN' (w := wB) nq).mono HWB.out.size))
              rw [← hwz] at HWZ ⊢
              clear hwz x0 x1 y0 y1 hne hyn
              go_wp2
              have hqr : q ≤ rs.length := by have := HRL.out; omega
              have HRQ := Lib.hid (Kd.C_below HRC.out HWZ.out)
              obtain ⟨A2, hA2⟩ : ∃ A2 : Option Addr, A2 = if cr = q then (some ⟨b2, off2, none⟩) else Option.map (fun z : Addr => z.add (q * 2)) (some ⟨b2, off2, none⟩) := ⟨_, rfl⟩
              have hcut1 : ∀ W : World, (Instr.slice 46 (.slice (some ⟨b2, off2, none⟩) M cr) none (some (.int .i64 (q : Int))) none).run Tryd.prog W = .ok (.slice (some ⟨b2, off2, none⟩) q cr) W := by
                intro W
                obtain ⟨i0, hi0, _, _, _⟩ := info_parts info23
                have := cut_to (P := Tryd.prog) 46 23 .i64 Tryd.underlying46 hi0 (some ⟨b2, off2, none⟩) M cr (q : Int) (by omega) (by omega) (by have := HLC.out; have := HRL.out; omega) W
                simpa using this
              have hcut2 : ∀ W : World, (Instr.slice 46 (.slice (some ⟨b2, off2, none⟩) M cr) (some (.int .i64 (q : Int))) none none).run Tryd.prog W = .ok (.slice A2 (M - q) (cr - q)) W := by
                intro W
                obtain ⟨i0, hi0, _, hsz0, _⟩ := info_parts info23
                have := cut_from (P := Tryd.prog) 46 23 .i64 Tryd.underlying46 hi0 2 hsz0 (some ⟨b2, off2, none⟩) M cr (q : Int) (by omega) (by omega) W
                rw [hA2]
                simpa using this
              have HA2 := Lib.hid hA2
              clear hA2
              have HSX := Lib.hid (show ∀ W, Below wz.heap.size wz W → (fun W => W.cell? ⟨b, off + i * 2, none⟩ = some (.int .i64 x.f0) ∧ W.cell? ⟨b, off + i * 2 + 1, none⟩ = some (.int .i64 x.f1)) W from fun W hW => ⟨below_cell hW (HXC.out _ HWZ.out).1, below_cell hW (HXC.out _ HWZ.out).2⟩)
              have HBQ := Lib.hid (HI.out.2.trans (HWZ.out.mono HI.out.2.size))
              have hV0 : Below wz.heap.size wz wz.drew := below_drew1 (Below.refl _ _)
              refine wp_region_held_drew (S := (fun W => W.cell? ⟨b, off + i * 2, none⟩ = some (.int .i64 x.f0) ∧ W.cell? ⟨b, off + i * 2 + 1, none⟩ = some (.int .i64 x.f1))) (by kernel_rfl) (HSX.out _ hV0) (fun hHeld => ?_)
              obtain ⟨Wd, hWd⟩ : ∃ W, W = wz.drew := ⟨_, rfl⟩
              rw [← hWd] at hHeld hV0 ⊢
              clear hWd
              refine wpAnyH_take (i := 1) (oi := { dst := some 45, op := Go.Op.move (Go.Operand.tmp 3), type := 46, pos := "ref.go:39", after := #[], guard := none }) (v := .slice (some ⟨b2, off2, none⟩) M cr) rfl (by kernel_rfl) (by kernel_rfl) (by kernel_rfl) (fun _ _ _ h => h) (Or.inl ⟨by rfl, ?_⟩) (by assumption) ?_
              · intro W hSw
                go_simp
                try with_reducible rfl
              simp only [Act.put, List.setIfInBounds_toArray, List.set_cons_zero, List.set_cons_succ]
              refine wpAnyH_take (i := 2) (oi := { dst := some 46, op := Go.Op.move (Go.Operand.tmp 5), type := 3, pos := "ref.go:39", after := #[], guard := none }) (v := .int .i64 q) rfl (by kernel_rfl) (by kernel_rfl) (by kernel_rfl) (fun _ _ _ h => h) (Or.inl ⟨by rfl, ?_⟩) (by assumption) ?_
              · intro W hSw
                go_simp
                try with_reducible rfl
              simp only [Act.put, List.setIfInBounds_toArray, List.set_cons_zero, List.set_cons_succ]
              refine wpAnyH_take (i := 3) (oi := { dst := some 47, op := Go.Op.slice 46 (Go.Operand.tmp 45) none (some (Go.Operand.tmp 46)) none, type := 46, pos := "ref.go:39", after := #[{ on := 1, ground := Go.Ground.data }, { on := 2, ground := Go.Ground.data }], guard := none }) (v := .slice (some ⟨b2, off2, none⟩) q cr) rfl (by kernel_rfl) (by kernel_rfl) (by kernel_rfl) (fun _ _ _ h => h) (Or.inl ⟨by rfl, ?_⟩) (by assumption) ?_
              · intro W hSw
                go_simp
                try with_reducible rfl
              simp only [Act.put, List.setIfInBounds_toArray, List.set_cons_zero, List.set_cons_succ]
              refine wpAnyH_take (i := 5) (oi := { dst := some 49, op := Go.Op.move (Go.Operand.tmp 0), type := 46, pos := "ref.go:39", after := #[], guard := none }) (v := .slice (some ⟨b, off, none⟩) NN c0) rfl (by kernel_rfl) (by kernel_rfl) (by kernel_rfl) (fun _ _ _ h => h) (Or.inl ⟨by rfl, ?_⟩) (by assumption) ?_
              · intro W hSw
                go_simp
                try with_reducible rfl
              simp only [Act.put, List.setIfInBounds_toArray, List.set_cons_zero, List.set_cons_succ]
              refine wpAnyH_take (i := 6) (oi := { dst := some 50, op := Go.Op.move (Go.Operand.tmp 4), type := 3, pos := "ref.go:39", after := #[], guard := none }) (v := .int .i64 i) rfl (by kernel_rfl) (by kernel_rfl) (by kernel_rfl) (fun _ _ _ h => h) (Or.inl ⟨by rfl, ?_⟩) (by assumption) ?_
              · intro W hSw
                go_simp
                try with_reducible rfl
              simp only [Act.put, List.setIfInBounds_toArray, List.set_cons_zero, List.set_cons_succ]
              refine wpAnyH_take (i := 7) (oi := { dst := some 51, op := Go.Op.indexAddr 46 (Go.Operand.tmp 49) (Go.Operand.tmp 50), type := 0, pos := "ref.go:39", after := #[{ on := 5, ground := Go.Ground.data }, { on := 6, ground := Go.Ground.data }], guard := none }) (v := .pointer (some ⟨b, off + i * 2, none⟩)) rfl (by kernel_rfl) (by kernel_rfl) (by kernel_rfl) (fun _ _ _ h => h) (Or.inl ⟨by rfl, ?_⟩) (by assumption) ?_
              · intro W hSw
                go_simp
                try with_reducible rfl
              simp only [Act.put, List.setIfInBounds_toArray, List.set_cons_zero, List.set_cons_succ]
              refine wpAnyH_take (i := 8) (oi := { dst := some 52, op := Go.Op.load 23 (Go.Operand.tmp 51), type := 23, pos := "ref.go:39", after := #[{ on := 7, ground := Go.Ground.data }], guard := none }) (v := .agg #[.int .i64 x.f0, .int .i64 x.f1]) rfl (by kernel_rfl) (by kernel_rfl) (by kernel_rfl) (fun _ _ _ h => h) (Or.inl ⟨by rfl, ?_⟩) (by assumption) ?_
              · intro W hSw
                go_simp
                try with_reducible rfl
              simp only [Act.put, List.setIfInBounds_toArray, List.set_cons_zero, List.set_cons_succ]
              refine wpAnyH_take (i := 11) (oi := { dst := some 55, op := Go.Op.move (Go.Operand.tmp 3), type := 46, pos := "ref.go:39", after := #[], guard := none }) (v := .slice (some ⟨b2, off2, none⟩) M cr) rfl (by kernel_rfl) (by kernel_rfl) (by kernel_rfl) (fun _ _ _ h => h) (Or.inl ⟨by rfl, ?_⟩) (by assumption) ?_
              · intro W hSw
                go_simp
                try with_reducible rfl
              simp only [Act.put, List.setIfInBounds_toArray, List.set_cons_zero, List.set_cons_succ]
              refine wpAnyH_take (i := 12) (oi := { dst := some 56, op := Go.Op.move (Go.Operand.tmp 5), type := 3, pos := "ref.go:39", after := #[], guard := none }) (v := .int .i64 q) rfl (by kernel_rfl) (by kernel_rfl) (by kernel_rfl) (fun _ _ _ h => h) (Or.inl ⟨by rfl, ?_⟩) (by assumption) ?_
              · intro W hSw
                go_simp
                try with_reducible rfl
              simp only [Act.put, List.setIfInBounds_toArray, List.set_cons_zero, List.set_cons_succ]
              refine wpAnyH_take (i := 13) (oi := { dst := some 57, op := Go.Op.slice 46 (Go.Operand.tmp 55) (some (Go.Operand.tmp 56)) none none, type := 46, pos := "ref.go:39", after := #[{ on := 11, ground := Go.Ground.data }, { on := 12, ground := Go.Ground.data }], guard := none }) (v := .slice A2 (M - q) (cr - q)) rfl (by kernel_rfl) (by kernel_rfl) (by kernel_rfl) (fun _ _ _ h => h) (Or.inl ⟨by rfl, ?_⟩) (by assumption) ?_
              · intro W hSw
                go_simp
                try with_reducible rfl
              simp only [Act.put, List.setIfInBounds_toArray, List.set_cons_zero, List.set_cons_succ]
              refine wpAnyH_ready (rs := [0, 9]) (by kernel_rfl) (by simp) ?_
              refine AllReadyH.cons (o := { dst := some 44, op := Go.Op.buildSlice 46 0 #[], type := 46, pos := "ref.go:39", after := #[], guard := none }) rfl (fun K hK => ?_) (AllReadyH.cons (o := { dst := some 53, op := Go.Op.buildSlice 46 1 #[(0, Go.Operand.tmp 52)], type := 46, pos := "ref.go:39", after := #[{ on := 8, ground := Go.Ground.data }], guard := none }) rfl (fun K hK => ?_) (AllReadyH.nil))
              · go_simp
                have bV1 : Below wz.heap.size wz (Wd.alloc (.cells #[] 23)) := below_alloc hV0 _
                refine hK.out _ _ (HSX.out _ bV1) (fun hHeld => ?_)
                clear hK K
                try simp only [Act.put, List.setIfInBounds_toArray, List.set_cons_zero, List.set_cons_succ]
                have hN1 := YtdelfhahbngcfaaDoor.blk_new Wd 23 #[]
                have hs1 : Below Wd.heap.size Wd (Wd.alloc (.cells #[] 23)) := below_alloc (Below.refl _ _) _
                have hR1 : Kd.R k23 23 (Wd.alloc (.cells #[] 23)) wz.heap.size (fun _ => True) (.slice (some ⟨Wd.heap.size, 0, none⟩) 0 0) [] := Kd.R_lower (R23_empty Wd) hV0.size
                obtain ⟨V1, hV1⟩ : ∃ V, V = Wd.alloc (.cells #[] 23) := ⟨_, rfl⟩
                obtain ⟨G1, hG1⟩ : ∃ G, G = Wd.heap.size := ⟨_, rfl⟩
                have hl1 : G1 < V1.heap.size := by rw [hV1, hG1]; simp
                have hg1 : wz.heap.size ≤ G1 := by rw [hG1]; exact hV0.size
                rw [← hV1] at hHeld bV1 hN1 hs1 hR1 ⊢
                rw [← hG1] at hR1 ⊢
                clear hV1 hG1
                refine wpAnyH_ready (rs := [4, 9]) (by kernel_rfl) (by simp) ?_
                refine AllReadyH.cons (o := { dst := some 48, op := Go.Op.call { callee := Go.Callee.builtin Go.Builtin.append, args := #[Go.Operand.tmp 44, Go.Operand.tmp 47], argTypes := #[46, 46] }, type := 46, pos := "ref.go:39", after := #[{ on := 0, ground := Go.Ground.data }, { on := 3, ground := Go.Ground.data }], guard := none }) rfl (fun K hK => ?_) (AllReadyH.cons (o := { dst := some 53, op := Go.Op.buildSlice 46 1 #[(0, Go.Operand.tmp 52)], type := 46, pos := "ref.go:39", after := #[{ on := 8, ground := Go.Ground.data }], guard := none }) rfl (fun K hK => ?_) (AllReadyH.nil))
                · have hC2 := (Kd.C_below (Kd.C_take HRQ.out (m := q) hqr) bV1)
                  try rw [show (rs.take q).length = q from by rw [List.length_take]; omega] at hC2
                  refine Kd.R_append_rows_step k23 (Rr := k23.K V1) (w0 := wz) wz.heap.size rfl (.tmp 44) (.tmp 47) 46 23 (.agg #[.int .i64 0, .int .i64 0]) 16 rfl Tryd.underlying46 info23 rfl (by decide) (by decide) (.slice (some ⟨G1, 0, none⟩) 0 0) [] (rs.take q) _ _ _ (fun _ => True) (fun _ => False) (by rfl) (by rfl) hR1 hC2 (fun x cs h => k23_flat x cs _ _ h) (fun _ h => h.elim) (fun _ _ => trivial) bV1 bV1.size (by (first | (simp; omega) | (simp [List.length_take]; omega))) ?_
                  intro v2 V2 hR2 bV2 hgr2 hat2
                  obtain ⟨Ar2, cr2, rfl, _, _⟩ := Kd.R_reads hR2
                  obtain ⟨L2, hL2⟩ : ∃ L, L = ([] ++ (rs.take q)).length := ⟨_, rfl⟩
                  rw [← hL2] at hR2 hat2 ⊢
                  have HL2 := Lib.hid hL2
                  clear hL2
                  refine hK.out _ _ (HSX.out _ bV2) (fun hHeld => ?_)
                  clear hK K
                  try simp only [Act.put, List.setIfInBounds_toArray, List.set_cons_zero, List.set_cons_succ]
                  refine wpAnyH_ready (rs := [9]) (by kernel_rfl) (by simp) ?_
                  refine AllReadyH.cons (o := { dst := some 53, op := Go.Op.buildSlice 46 1 #[(0, Go.Operand.tmp 52)], type := 46, pos := "ref.go:39", after := #[{ on := 8, ground := Go.Ground.data }], guard := none }) rfl (fun K hK => ?_) (AllReadyH.nil)
                  go_simp
                  have bV3 : Below wz.heap.size wz (V2.alloc (.cells #[.int .i64 x.f0, .int .i64 x.f1] 23)) := below_alloc bV2 _
                  refine hK.out _ _ (HSX.out _ bV3) (fun hHeld => ?_)
                  clear hK K
                  try simp only [Act.put, List.setIfInBounds_toArray, List.set_cons_zero, List.set_cons_succ]
                  have hN3 := YtdelfhahbngcfaaDoor.blk_new V2 23 #[.int .i64 x.f0, .int .i64 x.f1]
                  have hs3 : Below V2.heap.size V2 (V2.alloc (.cells #[.int .i64 x.f0, .int .i64 x.f1] 23)) := below_alloc (Below.refl _ _) _
                  obtain ⟨V3, hV3⟩ : ∃ V, V = V2.alloc (.cells #[.int .i64 x.f0, .int .i64 x.f1] 23) := ⟨_, rfl⟩
                  obtain ⟨G3, hG3⟩ : ∃ G, G = V2.heap.size := ⟨_, rfl⟩
                  have hl3 : G3 < V3.heap.size := by rw [hV3, hG3]; simp
                  have hg3 : wz.heap.size ≤ G3 := by rw [hG3]; exact bV2.size
                  rw [← hV3] at hHeld bV3 hN3 hs3 ⊢
                  have hR3 := Kd.R_below hR2 hs3
                  have hO3 : Value.ownBlock (.slice Ar2 L2 cr2) ≠ some G3 := fun e => by have := Kd.R_lt hR2 _ e; omega
                  rw [← hG3] at hN3 ⊢
                  clear hV3 hG3
                  refine wpAnyH_ready (rs := [10]) (by kernel_rfl) (by simp) ?_
                  refine AllReadyH.cons (o := { dst := some 54, op := Go.Op.call { callee := Go.Callee.builtin Go.Builtin.append, args := #[Go.Operand.tmp 48, Go.Operand.tmp 53], argTypes := #[46, 46] }, type := 46, pos := "ref.go:39", after := #[{ on := 4, ground := Go.Ground.data }, { on := 9, ground := Go.Ground.data }, { on := 4, ground := Go.Ground.chain }], guard := none }) rfl (fun K hK => ?_) (AllReadyH.nil)
                  have hC4 := (dot23 x hN3)
                  try rw [show ([x] : List S23).length = 1 from rfl] at hC4
                  refine Kd.R_append_rows_step k23 (Rr := k23.K V3) (w0 := wz) wz.heap.size rfl (.tmp 48) (.tmp 53) 46 23 (.agg #[.int .i64 0, .int .i64 0]) 16 rfl Tryd.underlying46 info23 rfl (by decide) (by decide) (.slice Ar2 L2 cr2) ([] ++ (rs.take q)) [x] _ _ _ (fun _ => True) (fun _ => False) (by rfl) (by rfl) hR3 hC4 (fun x cs h => k23_flat x cs _ _ h) (fun _ h => h.elim) (fun _ _ => trivial) bV3 bV3.size (by (first | (simp; omega) | (simp [List.length_take]; omega))) ?_
                  intro v4 V4 hR4 bV4 hgr4 hat4
                  obtain ⟨Ar4, cr4, rfl, _, _⟩ := Kd.R_reads hR4
                  obtain ⟨L4, hL4⟩ : ∃ L, L = (([] ++ (rs.take q)) ++ [x]).length := ⟨_, rfl⟩
                  rw [← hL4] at hR4 hat4 ⊢
                  have HL4 := Lib.hid hL4
                  clear hL4
                  refine hK.out _ _ (HSX.out _ bV4) (fun hHeld => ?_)
                  clear hK K
                  try simp only [Act.put, List.setIfInBounds_toArray, List.set_cons_zero, List.set_cons_succ]
                  refine wpAnyH_ready (rs := [14]) (by kernel_rfl) (by simp) ?_
                  refine AllReadyH.cons (o := { dst := some 58, op := Go.Op.call { callee := Go.Callee.builtin Go.Builtin.append, args := #[Go.Operand.tmp 54, Go.Operand.tmp 57], argTypes := #[46, 46] }, type := 46, pos := "ref.go:39", after := #[{ on := 10, ground := Go.Ground.data }, { on := 13, ground := Go.Ground.data }, { on := 10, ground := Go.Ground.chain }], guard := none }) rfl (fun K hK => ?_) (AllReadyH.nil)
                  have hC5 := (show Kd.C k23 V4 A2 (rs.drop q).length (rs.drop q) from by rw [HA2.out]; exact Kd.C_below (Kd.C_drop HRQ.out (m := q) hqr HLC.out) bV4)
                  try rw [show (rs.drop q).length = M - q from by rw [List.length_drop, HRL.out]] at hC5
                  refine Kd.R_append_rows_step k23 (Rr := k23.K V4) (w0 := wz) wz.heap.size rfl (.tmp 54) (.tmp 57) 46 23 (.agg #[.int .i64 0, .int .i64 0]) 16 rfl Tryd.underlying46 info23 rfl (by decide) (by decide) (.slice Ar4 L4 cr4) (([] ++ (rs.take q)) ++ [x]) (rs.drop q) _ _ _ (fun _ => True) (fun _ => False) (by rfl) (by rfl) hR4 hC5 (fun x cs h => k23_flat x cs _ _ h) (fun _ h => h.elim) (fun _ _ => trivial) bV4 bV4.size (by (first | (simp; omega) | (simp [List.length_take]; omega))) ?_
                  intro v5 V5 hR5 bV5 hgr5 hat5
                  obtain ⟨Ar5, cr5, rfl, _, _⟩ := Kd.R_reads hR5
                  obtain ⟨L5, hL5⟩ : ∃ L, L = ((([] ++ (rs.take q)) ++ [x]) ++ (rs.drop q)).length := ⟨_, rfl⟩
                  rw [← hL5] at hR5 hat5 ⊢
                  have HL5 := Lib.hid hL5
                  clear hL5
                  refine hK.out _ _ (HSX.out _ bV5) (fun hHeld => ?_)
                  clear hK K
                  try simp only [Act.put, List.setIfInBounds_toArray, List.set_cons_zero, List.set_cons_succ]
                  refine wpAnyH_ready (rs := [15]) (by kernel_rfl) (by simp) ?_
                  refine AllReadyH.cons (o := { dst := some 3, op := Go.Op.assign (Go.Operand.tmp 58), type := 46, pos := "ref.go:39", after := #[{ on := 14, ground := Go.Ground.data }, { on := 14, ground := Go.Ground.chain }, { on := 0, ground := Go.Ground.phase }, { on := 1, ground := Go.Ground.phase }, { on := 2, ground := Go.Ground.phase }, { on := 3, ground := Go.Ground.phase }, { on := 4, ground := Go.Ground.phase }, { on := 5, ground := Go.Ground.phase }, { on := 6, ground := Go.Ground.phase }, { on := 7, ground := Go.Ground.phase }, { on := 8, ground := Go.Ground.phase }, { on := 9, ground := Go.Ground.phase }, { on := 10, ground := Go.Ground.phase }, { on := 11, ground := Go.Ground.phase }, { on := 12, ground := Go.Ground.phase }, { on := 13, ground := Go.Ground.phase }, { on := 14, ground := Go.Ground.phase }], guard := none }) rfl (fun K hK => ?_) (AllReadyH.nil)
                  go_simp
                  refine hK.out _ _ (HSX.out _ bV5) (fun hHeld => ?_)
                  clear hK K
                  try simp only [Act.put, List.setIfInBounds_toArray, List.set_cons_zero, List.set_cons_succ]
                  refine wpAnyH_done (by kernel_rfl) ?_ _
                  have HFIN := Lib.hid hR5
                  have HBF := Lib.hid bV5
                  clear hHeld
                  go_wp2
                  go_roundw
                  case rel => exact ⟨i + 1, by omega, by go_num, Lib.hid ⟨by rw [HT.out, HINS.out]; have h9 := Kd.R_lower HFIN.out HBQ.out.size; rw [List.nil_append] at h9; unfold insV; rw [← HK.out]; exact h9, HBQ.out.trans (HBF.out.mono HBQ.out.size)⟩⟩
                  case measure => simp [intOf]; omega
                · go_simp
                  have bV7 : Below wz.heap.size wz (V1.alloc (.cells #[.int .i64 x.f0, .int .i64 x.f1] 23)) := below_alloc bV1 _
                  refine hK.out _ _ (HSX.out _ bV7) (fun hHeld => ?_)
                  clear hK K
                  try simp only [Act.put, List.setIfInBounds_toArray, List.set_cons_zero, List.set_cons_succ]
                  have hN7 := YtdelfhahbngcfaaDoor.blk_new V1 23 #[.int .i64 x.f0, .int .i64 x.f1]
                  have hs7 : Below V1.heap.size V1 (V1.alloc (.cells #[.int .i64 x.f0, .int .i64 x.f1] 23)) := below_alloc (Below.refl _ _) _
                  obtain ⟨V7, hV7⟩ : ∃ V, V = V1.alloc (.cells #[.int .i64 x.f0, .int .i64 x.f1] 23) := ⟨_, rfl⟩
                  obtain ⟨G7, hG7⟩ : ∃ G, G = V1.heap.size := ⟨_, rfl⟩
                  have hl7 : G7 < V7.heap.size := by rw [hV7, hG7]; simp
                  have hg7 : wz.heap.size ≤ G7 := by rw [hG7]; exact bV1.size
                  rw [← hV7] at hHeld bV7 hN7 hs7 ⊢
                  have hR7 := Kd.R_below hR1 hs7
                  have hO7 : Value.ownBlock (.slice (some ⟨G1, 0, none⟩) 0 0) ≠ some G7 := fun e => by have := Kd.R_lt hR1 _ e; omega
                  rw [← hG7] at hN7 ⊢
                  clear hV7 hG7
                  refine wpAnyH_ready (rs := [4]) (by kernel_rfl) (by simp) ?_
                  refine AllReadyH.cons (o := { dst := some 48, op := Go.Op.call { callee := Go.Callee.builtin Go.Builtin.append, args := #[Go.Operand.tmp 44, Go.Operand.tmp 47], argTypes := #[46, 46] }, type := 46, pos := "ref.go:39", after := #[{ on := 0, ground := Go.Ground.data }, { on := 3, ground := Go.Ground.data }], guard := none }) rfl (fun K hK => ?_) (AllReadyH.nil)
                  have hC8 := (Kd.C_below (Kd.C_take HRQ.out (m := q) hqr) bV7)
                  try rw [show (rs.take q).length = q from by rw [List.length_take]; omega] at hC8
                  refine Kd.R_append_rows_step k23 (Rr := k23.K V7) (w0 := wz) wz.heap.size rfl (.tmp 44) (.tmp 47) 46 23 (.agg #[.int .i64 0, .int .i64 0]) 16 rfl Tryd.underlying46 info23 rfl (by decide) (by decide) (.slice (some ⟨G1, 0, none⟩) 0 0) [] (rs.take q) _ _ _ (fun _ => True) (fun _ => False) (by rfl) (by rfl) hR7 hC8 (fun x cs h => k23_flat x cs _ _ h) (fun _ h => h.elim) (fun _ _ => trivial) bV7 bV7.size (by (first | (simp; omega) | (simp [List.length_take]; omega))) ?_
                  intro v8 V8 hR8 bV8 hgr8 hat8
                  obtain ⟨Ar8, cr8, rfl, _, _⟩ := Kd.R_reads hR8
                  obtain ⟨L8, hL8⟩ : ∃ L, L = ([] ++ (rs.take q)).length := ⟨_, rfl⟩
                  rw [← hL8] at hR8 hat8 ⊢
                  have HL8 := Lib.hid hL8
                  clear hL8
                  have hX8 := YtdelfhahbngcfaaDoor.blk_ch hN7 (YtdelfhahbngcfaaDoor.Ch.of_grown hgr8) hO7
                  have hO8 : (Value.slice Ar8 L8 cr8).ownBlock ≠ some G7 := by
                    rcases hat8 with e | ⟨q, e, hq⟩
                    · rw [e]; exact hO7
                    · rw [e]; intro e2; have := YtdelfhahbngcfaaDoor.blk_lt hN7; injection e2 with e2; omega
                  refine hK.out _ _ (HSX.out _ bV8) (fun hHeld => ?_)
                  clear hK K
                  try simp only [Act.put, List.setIfInBounds_toArray, List.set_cons_zero, List.set_cons_succ]
                  refine wpAnyH_ready (rs := [10]) (by kernel_rfl) (by simp) ?_
                  refine AllReadyH.cons (o := { dst := some 54, op := Go.Op.call { callee := Go.Callee.builtin Go.Builtin.append, args := #[Go.Operand.tmp 48, Go.Operand.tmp 53], argTypes := #[46, 46] }, type := 46, pos := "ref.go:39", after := #[{ on := 4, ground := Go.Ground.data }, { on := 9, ground := Go.Ground.data }, { on := 4, ground := Go.Ground.chain }], guard := none }) rfl (fun K hK => ?_) (AllReadyH.nil)
                  have hC9 := (dot23 x hX8)
                  try rw [show ([x] : List S23).length = 1 from rfl] at hC9
                  refine Kd.R_append_rows_step k23 (Rr := k23.K V8) (w0 := wz) wz.heap.size rfl (.tmp 48) (.tmp 53) 46 23 (.agg #[.int .i64 0, .int .i64 0]) 16 rfl Tryd.underlying46 info23 rfl (by decide) (by decide) (.slice Ar8 L8 cr8) ([] ++ (rs.take q)) [x] _ _ _ (fun _ => True) (fun _ => False) (by rfl) (by rfl) hR8 hC9 (fun x cs h => k23_flat x cs _ _ h) (fun _ h => h.elim) (fun _ _ => trivial) bV8 bV8.size (by (first | (simp; omega) | (simp [List.length_take]; omega))) ?_
                  intro v9 V9 hR9 bV9 hgr9 hat9
                  obtain ⟨Ar9, cr9, rfl, _, _⟩ := Kd.R_reads hR9
                  obtain ⟨L9, hL9⟩ : ∃ L, L = (([] ++ (rs.take q)) ++ [x]).length := ⟨_, rfl⟩
                  rw [← hL9] at hR9 hat9 ⊢
                  have HL9 := Lib.hid hL9
                  clear hL9
                  refine hK.out _ _ (HSX.out _ bV9) (fun hHeld => ?_)
                  clear hK K
                  try simp only [Act.put, List.setIfInBounds_toArray, List.set_cons_zero, List.set_cons_succ]
                  refine wpAnyH_ready (rs := [14]) (by kernel_rfl) (by simp) ?_
                  refine AllReadyH.cons (o := { dst := some 58, op := Go.Op.call { callee := Go.Callee.builtin Go.Builtin.append, args := #[Go.Operand.tmp 54, Go.Operand.tmp 57], argTypes := #[46, 46] }, type := 46, pos := "ref.go:39", after := #[{ on := 10, ground := Go.Ground.data }, { on := 13, ground := Go.Ground.data }, { on := 10, ground := Go.Ground.chain }], guard := none }) rfl (fun K hK => ?_) (AllReadyH.nil)
                  have hC10 := (show Kd.C k23 V9 A2 (rs.drop q).length (rs.drop q) from by rw [HA2.out]; exact Kd.C_below (Kd.C_drop HRQ.out (m := q) hqr HLC.out) bV9)
                  try rw [show (rs.drop q).length = M - q from by rw [List.length_drop, HRL.out]] at hC10
                  refine Kd.R_append_rows_step k23 (Rr := k23.K V9) (w0 := wz) wz.heap.size rfl (.tmp 54) (.tmp 57) 46 23 (.agg #[.int .i64 0, .int .i64 0]) 16 rfl Tryd.underlying46 info23 rfl (by decide) (by decide) (.slice Ar9 L9 cr9) (([] ++ (rs.take q)) ++ [x]) (rs.drop q) _ _ _ (fun _ => True) (fun _ => False) (by rfl) (by rfl) hR9 hC10 (fun x cs h => k23_flat x cs _ _ h) (fun _ h => h.elim) (fun _ _ => trivial) bV9 bV9.size (by (first | (simp; omega) | (simp [List.length_take]; omega))) ?_
                  intro v10 V10 hR10 bV10 hgr10 hat10
                  obtain ⟨Ar10, cr10, rfl, _, _⟩ := Kd.R_reads hR10
                  obtain ⟨L10, hL10⟩ : ∃ L, L = ((([] ++ (rs.take q)) ++ [x]) ++ (rs.drop q)).length := ⟨_, rfl⟩
                  rw [← hL10] at hR10 hat10 ⊢
                  have HL10 := Lib.hid hL10
                  clear hL10
                  refine hK.out _ _ (HSX.out _ bV10) (fun hHeld => ?_)
                  clear hK K
                  try simp only [Act.put, List.setIfInBounds_toArray, List.set_cons_zero, List.set_cons_succ]
                  refine wpAnyH_ready (rs := [15]) (by kernel_rfl) (by simp) ?_
                  refine AllReadyH.cons (o := { dst := some 3, op := Go.Op.assign (Go.Operand.tmp 58), type := 46, pos := "ref.go:39", after := #[{ on := 14, ground := Go.Ground.data }, { on := 14, ground := Go.Ground.chain }, { on := 0, ground := Go.Ground.phase }, { on := 1, ground := Go.Ground.phase }, { on := 2, ground := Go.Ground.phase }, { on := 3, ground := Go.Ground.phase }, { on := 4, ground := Go.Ground.phase }, { on := 5, ground := Go.Ground.phase }, { on := 6, ground := Go.Ground.phase }, { on := 7, ground := Go.Ground.phase }, { on := 8, ground := Go.Ground.phase }, { on := 9, ground := Go.Ground.phase }, { on := 10, ground := Go.Ground.phase }, { on := 11, ground := Go.Ground.phase }, { on := 12, ground := Go.Ground.phase }, { on := 13, ground := Go.Ground.phase }, { on := 14, ground := Go.Ground.phase }], guard := none }) rfl (fun K hK => ?_) (AllReadyH.nil)
                  go_simp
                  refine hK.out _ _ (HSX.out _ bV10) (fun hHeld => ?_)
                  clear hK K
                  try simp only [Act.put, List.setIfInBounds_toArray, List.set_cons_zero, List.set_cons_succ]
                  refine wpAnyH_done (by kernel_rfl) ?_ _
                  have HFIN := Lib.hid hR10
                  have HBF := Lib.hid bV10
                  clear hHeld
                  go_wp2
                  go_roundw
                  case rel => exact ⟨i + 1, by omega, by go_num, Lib.hid ⟨by rw [HT.out, HINS.out]; have h9 := Kd.R_lower HFIN.out HBQ.out.size; rw [List.nil_append] at h9; unfold insV; rw [← HK.out]; exact h9, HBQ.out.trans (HBF.out.mono HBQ.out.size)⟩⟩
                  case measure => simp [intOf]; omega
              · go_simp
                have bV12 : Below wz.heap.size wz (Wd.alloc (.cells #[.int .i64 x.f0, .int .i64 x.f1] 23)) := below_alloc hV0 _
                refine hK.out _ _ (HSX.out _ bV12) (fun hHeld => ?_)
                clear hK K
                try simp only [Act.put, List.setIfInBounds_toArray, List.set_cons_zero, List.set_cons_succ]
                have hN12 := YtdelfhahbngcfaaDoor.blk_new Wd 23 #[.int .i64 x.f0, .int .i64 x.f1]
                have hs12 : Below Wd.heap.size Wd (Wd.alloc (.cells #[.int .i64 x.f0, .int .i64 x.f1] 23)) := below_alloc (Below.refl _ _) _
                obtain ⟨V12, hV12⟩ : ∃ V, V = Wd.alloc (.cells #[.int .i64 x.f0, .int .i64 x.f1] 23) := ⟨_, rfl⟩
                obtain ⟨G12, hG12⟩ : ∃ G, G = Wd.heap.size := ⟨_, rfl⟩
                have hl12 : G12 < V12.heap.size := by rw [hV12, hG12]; simp
                have hg12 : wz.heap.size ≤ G12 := by rw [hG12]; exact hV0.size
                rw [← hV12] at hHeld bV12 hN12 hs12 ⊢
                rw [← hG12] at hN12 ⊢
                clear hV12 hG12
                refine wpAnyH_ready (rs := [0]) (by kernel_rfl) (by simp) ?_
                refine AllReadyH.cons (o := { dst := some 44, op := Go.Op.buildSlice 46 0 #[], type := 46, pos := "ref.go:39", after := #[], guard := none }) rfl (fun K hK => ?_) (AllReadyH.nil)
                go_simp
                have bV13 : Below wz.heap.size wz (V12.alloc (.cells #[] 23)) := below_alloc bV12 _
                refine hK.out _ _ (HSX.out _ bV13) (fun hHeld => ?_)
                clear hK K
                try simp only [Act.put, List.setIfInBounds_toArray, List.set_cons_zero, List.set_cons_succ]
                have hN13 := YtdelfhahbngcfaaDoor.blk_new V12 23 #[]
                have hs13 : Below V12.heap.size V12 (V12.alloc (.cells #[] 23)) := below_alloc (Below.refl _ _) _
                have hR13 : Kd.R k23 23 (V12.alloc (.cells #[] 23)) wz.heap.size (fun _ => True) (.slice (some ⟨V12.heap.size, 0, none⟩) 0 0) [] := Kd.R_lower (R23_empty V12) bV12.size
                obtain ⟨V13, hV13⟩ : ∃ V, V = V12.alloc (.cells #[] 23) := ⟨_, rfl⟩
                obtain ⟨G13, hG13⟩ : ∃ G, G = V12.heap.size := ⟨_, rfl⟩
                have hl13 : G13 < V13.heap.size := by rw [hV13, hG13]; simp
                have hg13 : wz.heap.size ≤ G13 := by rw [hG13]; exact bV12.size
                rw [← hV13] at hHeld bV13 hN13 hs13 hR13 ⊢
                have hX13 := YtdelfhahbngcfaaDoor.blk_below hN12 hs13
                have hO13 : (Value.slice (some ⟨G13, 0, none⟩) 0 0).ownBlock ≠ some G12 := by have := YtdelfhahbngcfaaDoor.blk_lt hN12; simp [Value.ownBlock]; omega
                rw [← hG13] at hR13 ⊢
                clear hV13 hG13
                refine wpAnyH_ready (rs := [4]) (by kernel_rfl) (by simp) ?_
                refine AllReadyH.cons (o := { dst := some 48, op := Go.Op.call { callee := Go.Callee.builtin Go.Builtin.append, args := #[Go.Operand.tmp 44, Go.Operand.tmp 47], argTypes := #[46, 46] }, type := 46, pos := "ref.go:39", after := #[{ on := 0, ground := Go.Ground.data }, { on := 3, ground := Go.Ground.data }], guard := none }) rfl (fun K hK => ?_) (AllReadyH.nil)
                have hC14 := (Kd.C_below (Kd.C_take HRQ.out (m := q) hqr) bV13)
                try rw [show (rs.take q).length = q from by rw [List.length_take]; omega] at hC14
                refine Kd.R_append_rows_step k23 (Rr := k23.K V13) (w0 := wz) wz.heap.size rfl (.tmp 44) (.tmp 47) 46 23 (.agg #[.int .i64 0, .int .i64 0]) 16 rfl Tryd.underlying46 info23 rfl (by decide) (by decide) (.slice (some ⟨G13, 0, none⟩) 0 0) [] (rs.take q) _ _ _ (fun _ => True) (fun _ => False) (by rfl) (by rfl) hR13 hC14 (fun x cs h => k23_flat x cs _ _ h) (fun _ h => h.elim) (fun _ _ => trivial) bV13 bV13.size (by (first | (simp; omega) | (simp [List.length_take]; omega))) ?_
                intro v14 V14 hR14 bV14 hgr14 hat14
                obtain ⟨Ar14, cr14, rfl, _, _⟩ := Kd.R_reads hR14
                obtain ⟨L14, hL14⟩ : ∃ L, L = ([] ++ (rs.take q)).length := ⟨_, rfl⟩
                rw [← hL14] at hR14 hat14 ⊢
                have HL14 := Lib.hid hL14
                clear hL14
                have hX14 := YtdelfhahbngcfaaDoor.blk_ch hX13 (YtdelfhahbngcfaaDoor.Ch.of_grown hgr14) hO13
                have hO14 : (Value.slice Ar14 L14 cr14).ownBlock ≠ some G12 := by
                  rcases hat14 with e | ⟨q, e, hq⟩
                  · rw [e]; exact hO13
                  · rw [e]; intro e2; have := YtdelfhahbngcfaaDoor.blk_lt hX13; injection e2 with e2; omega
                refine hK.out _ _ (HSX.out _ bV14) (fun hHeld => ?_)
                clear hK K
                try simp only [Act.put, List.setIfInBounds_toArray, List.set_cons_zero, List.set_cons_succ]
                refine wpAnyH_ready (rs := [10]) (by kernel_rfl) (by simp) ?_
                refine AllReadyH.cons (o := { dst := some 54, op := Go.Op.call { callee := Go.Callee.builtin Go.Builtin.append, args := #[Go.Operand.tmp 48, Go.Operand.tmp 53], argTypes := #[46, 46] }, type := 46, pos := "ref.go:39", after := #[{ on := 4, ground := Go.Ground.data }, { on := 9, ground := Go.Ground.data }, { on := 4, ground := Go.Ground.chain }], guard := none }) rfl (fun K hK => ?_) (AllReadyH.nil)
                have hC15 := (dot23 x hX14)
                try rw [show ([x] : List S23).length = 1 from rfl] at hC15
                refine Kd.R_append_rows_step k23 (Rr := k23.K V14) (w0 := wz) wz.heap.size rfl (.tmp 48) (.tmp 53) 46 23 (.agg #[.int .i64 0, .int .i64 0]) 16 rfl Tryd.underlying46 info23 rfl (by decide) (by decide) (.slice Ar14 L14 cr14) ([] ++ (rs.take q)) [x] _ _ _ (fun _ => True) (fun _ => False) (by rfl) (by rfl) hR14 hC15 (fun x cs h => k23_flat x cs _ _ h) (fun _ h => h.elim) (fun _ _ => trivial) bV14 bV14.size (by (first | (simp; omega) | (simp [List.length_take]; omega))) ?_
                intro v15 V15 hR15 bV15 hgr15 hat15
                obtain ⟨Ar15, cr15, rfl, _, _⟩ := Kd.R_reads hR15
                obtain ⟨L15, hL15⟩ : ∃ L, L = (([] ++ (rs.take q)) ++ [x]).length := ⟨_, rfl⟩
                rw [← hL15] at hR15 hat15 ⊢
                have HL15 := Lib.hid hL15
                clear hL15
                refine hK.out _ _ (HSX.out _ bV15) (fun hHeld => ?_)
                clear hK K
                try simp only [Act.put, List.setIfInBounds_toArray, List.set_cons_zero, List.set_cons_succ]
                refine wpAnyH_ready (rs := [14]) (by kernel_rfl) (by simp) ?_
                refine AllReadyH.cons (o := { dst := some 58, op := Go.Op.call { callee := Go.Callee.builtin Go.Builtin.append, args := #[Go.Operand.tmp 54, Go.Operand.tmp 57], argTypes := #[46, 46] }, type := 46, pos := "ref.go:39", after := #[{ on := 10, ground := Go.Ground.data }, { on := 13, ground := Go.Ground.data }, { on := 10, ground := Go.Ground.chain }], guard := none }) rfl (fun K hK => ?_) (AllReadyH.nil)
                have hC16 := (show Kd.C k23 V15 A2 (rs.drop q).length (rs.drop q) from by rw [HA2.out]; exact Kd.C_below (Kd.C_drop HRQ.out (m := q) hqr HLC.out) bV15)
                try rw [show (rs.drop q).length = M - q from by rw [List.length_drop, HRL.out]] at hC16
                refine Kd.R_append_rows_step k23 (Rr := k23.K V15) (w0 := wz) wz.heap.size rfl (.tmp 54) (.tmp 57) 46 23 (.agg #[.int .i64 0, .int .i64 0]) 16 rfl Tryd.underlying46 info23 rfl (by decide) (by decide) (.slice Ar15 L15 cr15) (([] ++ (rs.take q)) ++ [x]) (rs.drop q) _ _ _ (fun _ => True) (fun _ => False) (by rfl) (by rfl) hR15 hC16 (fun x cs h => k23_flat x cs _ _ h) (fun _ h => h.elim) (fun _ _ => trivial) bV15 bV15.size (by (first | (simp; omega) | (simp [List.length_take]; omega))) ?_
                intro v16 V16 hR16 bV16 hgr16 hat16
                obtain ⟨Ar16, cr16, rfl, _, _⟩ := Kd.R_reads hR16
                obtain ⟨L16, hL16⟩ : ∃ L, L = ((([] ++ (rs.take q)) ++ [x]) ++ (rs.drop q)).length := ⟨_, rfl⟩
                rw [← hL16] at hR16 hat16 ⊢
                have HL16 := Lib.hid hL16
                clear hL16
                refine hK.out _ _ (HSX.out _ bV16) (fun hHeld => ?_)
                clear hK K
                try simp only [Act.put, List.setIfInBounds_toArray, List.set_cons_zero, List.set_cons_succ]
                refine wpAnyH_ready (rs := [15]) (by kernel_rfl) (by simp) ?_
                refine AllReadyH.cons (o := { dst := some 3, op := Go.Op.assign (Go.Operand.tmp 58), type := 46, pos := "ref.go:39", after := #[{ on := 14, ground := Go.Ground.data }, { on := 14, ground := Go.Ground.chain }, { on := 0, ground := Go.Ground.phase }, { on := 1, ground := Go.Ground.phase }, { on := 2, ground := Go.Ground.phase }, { on := 3, ground := Go.Ground.phase }, { on := 4, ground := Go.Ground.phase }, { on := 5, ground := Go.Ground.phase }, { on := 6, ground := Go.Ground.phase }, { on := 7, ground := Go.Ground.phase }, { on := 8, ground := Go.Ground.phase }, { on := 9, ground := Go.Ground.phase }, { on := 10, ground := Go.Ground.phase }, { on := 11, ground := Go.Ground.phase }, { on := 12, ground := Go.Ground.phase }, { on := 13, ground := Go.Ground.phase }, { on := 14, ground := Go.Ground.phase }], guard := none }) rfl (fun K hK => ?_) (AllReadyH.nil)
                go_simp
                refine hK.out _ _ (HSX.out _ bV16) (fun hHeld => ?_)
                clear hK K
                try simp only [Act.put, List.setIfInBounds_toArray, List.set_cons_zero, List.set_cons_succ]
                refine wpAnyH_done (by kernel_rfl) ?_ _
                have HFIN := Lib.hid hR16
                have HBF := Lib.hid bV16
                clear hHeld
                go_wp2
                go_roundw
                case rel => exact ⟨i + 1, by omega, by go_num, Lib.hid ⟨by rw [HT.out, HINS.out]; have h9 := Kd.R_lower HFIN.out HBQ.out.size; rw [List.nil_append] at h9; unfold insV; rw [← HK.out]; exact h9, HBQ.out.trans (HBF.out.mono HBQ.out.size)⟩⟩
                case measure => simp [intOf]; omega
        · obtain rfl : q = K := by omega
          have hqM : q = M := by omega
          have hqm' : decide ((q : Int) < (M : Int)) = false := by simp; omega
          have heq : ((q : Int) == (M : Int)) = true := by rw [hqM]; simp
          have HINS := Lib.hid (show insD rs x = insV rs x by unfold insD; rw [if_neg (fun hh => hqm (by have h1 := hh.1; rw [← HK.out, HRL.out] at h1; exact h1))])
          have HQM := Lib.hid hqM
          clear hqM
          go_wp2
          go_quiet (fail)
          obtain ⟨wy, hwy⟩ : ∃ wy, wy = wq.drewN nq := ⟨_, rfl⟩
          have HWY := Lib.hid (HWQ.out.trans ((below_drewN' (w := wq) nq).mono HWQ.out.size))
          rw [← hwy] at HWY ⊢
          clear hwy hqm'
          clear nq
          go_wp2
          go_quiet (fail)
          obtain ⟨wz, hwz⟩ : ∃ wz, wz = wy.drewN nq := ⟨_, rfl⟩
          have HWZ := Lib.hid (HWY.out.trans ((below_drewN' (w := wy) nq).mono HWY.out.size))
          rw [← hwz] at HWZ ⊢
          clear hwz heq
          go_wp2
          have hqr : q ≤ rs.length := by have := HRL.out; omega
          have HRQ := Lib.hid (Kd.C_below HRC.out HWZ.out)
          obtain ⟨A2, hA2⟩ : ∃ A2 : Option Addr, A2 = if cr = q then Ar else Option.map (fun z : Addr => z.add (q * 2)) Ar := ⟨_, rfl⟩
          have hcut1 : ∀ W : World, (Instr.slice 46 (.slice Ar M cr) none (some (.int .i64 (q : Int))) none).run Tryd.prog W = .ok (.slice Ar q cr) W := by
            intro W
            obtain ⟨i0, hi0, _, _, _⟩ := info_parts info23
            have := cut_to (P := Tryd.prog) 46 23 .i64 Tryd.underlying46 hi0 Ar M cr (q : Int) (by omega) (by omega) (by have := HLC.out; have := HRL.out; omega) W
            simpa using this
          have hcut2 : ∀ W : World, (Instr.slice 46 (.slice Ar M cr) (some (.int .i64 (q : Int))) none none).run Tryd.prog W = .ok (.slice A2 (M - q) (cr - q)) W := by
            intro W
            obtain ⟨i0, hi0, _, hsz0, _⟩ := info_parts info23
            have := cut_from (P := Tryd.prog) 46 23 .i64 Tryd.underlying46 hi0 2 hsz0 Ar M cr (q : Int) (by omega) (by omega) W
            rw [hA2]
            simpa using this
          have HA2 := Lib.hid hA2
          clear hA2
          have HSX := Lib.hid (show ∀ W, Below wz.heap.size wz W → (fun W => W.cell? ⟨b, off + i * 2, none⟩ = some (.int .i64 x.f0) ∧ W.cell? ⟨b, off + i * 2 + 1, none⟩ = some (.int .i64 x.f1)) W from fun W hW => ⟨below_cell hW (HXC.out _ HWZ.out).1, below_cell hW (HXC.out _ HWZ.out).2⟩)
          have HBQ := Lib.hid (HI.out.2.trans (HWZ.out.mono HI.out.2.size))
          have hV0 : Below wz.heap.size wz wz.drew := below_drew1 (Below.refl _ _)
          refine wp_region_held_drew (S := (fun W => W.cell? ⟨b, off + i * 2, none⟩ = some (.int .i64 x.f0) ∧ W.cell? ⟨b, off + i * 2 + 1, none⟩ = some (.int .i64 x.f1))) (by kernel_rfl) (HSX.out _ hV0) (fun hHeld => ?_)
          obtain ⟨Wd, hWd⟩ : ∃ W, W = wz.drew := ⟨_, rfl⟩
          rw [← hWd] at hHeld hV0 ⊢
          clear hWd
          refine wpAnyH_take (i := 1) (oi := { dst := some 45, op := Go.Op.move (Go.Operand.tmp 3), type := 46, pos := "ref.go:39", after := #[], guard := none }) (v := .slice Ar M cr) rfl (by kernel_rfl) (by kernel_rfl) (by kernel_rfl) (fun _ _ _ h => h) (Or.inl ⟨by rfl, ?_⟩) (by assumption) ?_
          · intro W hSw
            go_simp
            try with_reducible rfl
          simp only [Act.put, List.setIfInBounds_toArray, List.set_cons_zero, List.set_cons_succ]
          refine wpAnyH_take (i := 2) (oi := { dst := some 46, op := Go.Op.move (Go.Operand.tmp 5), type := 3, pos := "ref.go:39", after := #[], guard := none }) (v := .int .i64 q) rfl (by kernel_rfl) (by kernel_rfl) (by kernel_rfl) (fun _ _ _ h => h) (Or.inl ⟨by rfl, ?_⟩) (by assumption) ?_
          · intro W hSw
            go_simp
            try with_reducible rfl
          simp only [Act.put, List.setIfInBounds_toArray, List.set_cons_zero, List.set_cons_succ]
          refine wpAnyH_take (i := 3) (oi := { dst := some 47, op := Go.Op.slice 46 (Go.Operand.tmp 45) none (some (Go.Operand.tmp 46)) none, type := 46, pos := "ref.go:39", after := #[{ on := 1, ground := Go.Ground.data }, { on := 2, ground := Go.Ground.data }], guard := none }) (v := .slice Ar q cr) rfl (by kernel_rfl) (by kernel_rfl) (by kernel_rfl) (fun _ _ _ h => h) (Or.inl ⟨by rfl, ?_⟩) (by assumption) ?_
          · intro W hSw
            go_simp
            try with_reducible rfl
          simp only [Act.put, List.setIfInBounds_toArray, List.set_cons_zero, List.set_cons_succ]
          refine wpAnyH_take (i := 5) (oi := { dst := some 49, op := Go.Op.move (Go.Operand.tmp 0), type := 46, pos := "ref.go:39", after := #[], guard := none }) (v := .slice (some ⟨b, off, none⟩) NN c0) rfl (by kernel_rfl) (by kernel_rfl) (by kernel_rfl) (fun _ _ _ h => h) (Or.inl ⟨by rfl, ?_⟩) (by assumption) ?_
          · intro W hSw
            go_simp
            try with_reducible rfl
          simp only [Act.put, List.setIfInBounds_toArray, List.set_cons_zero, List.set_cons_succ]
          refine wpAnyH_take (i := 6) (oi := { dst := some 50, op := Go.Op.move (Go.Operand.tmp 4), type := 3, pos := "ref.go:39", after := #[], guard := none }) (v := .int .i64 i) rfl (by kernel_rfl) (by kernel_rfl) (by kernel_rfl) (fun _ _ _ h => h) (Or.inl ⟨by rfl, ?_⟩) (by assumption) ?_
          · intro W hSw
            go_simp
            try with_reducible rfl
          simp only [Act.put, List.setIfInBounds_toArray, List.set_cons_zero, List.set_cons_succ]
          refine wpAnyH_take (i := 7) (oi := { dst := some 51, op := Go.Op.indexAddr 46 (Go.Operand.tmp 49) (Go.Operand.tmp 50), type := 0, pos := "ref.go:39", after := #[{ on := 5, ground := Go.Ground.data }, { on := 6, ground := Go.Ground.data }], guard := none }) (v := .pointer (some ⟨b, off + i * 2, none⟩)) rfl (by kernel_rfl) (by kernel_rfl) (by kernel_rfl) (fun _ _ _ h => h) (Or.inl ⟨by rfl, ?_⟩) (by assumption) ?_
          · intro W hSw
            go_simp
            try with_reducible rfl
          simp only [Act.put, List.setIfInBounds_toArray, List.set_cons_zero, List.set_cons_succ]
          refine wpAnyH_take (i := 8) (oi := { dst := some 52, op := Go.Op.load 23 (Go.Operand.tmp 51), type := 23, pos := "ref.go:39", after := #[{ on := 7, ground := Go.Ground.data }], guard := none }) (v := .agg #[.int .i64 x.f0, .int .i64 x.f1]) rfl (by kernel_rfl) (by kernel_rfl) (by kernel_rfl) (fun _ _ _ h => h) (Or.inl ⟨by rfl, ?_⟩) (by assumption) ?_
          · intro W hSw
            go_simp
            try with_reducible rfl
          simp only [Act.put, List.setIfInBounds_toArray, List.set_cons_zero, List.set_cons_succ]
          refine wpAnyH_take (i := 11) (oi := { dst := some 55, op := Go.Op.move (Go.Operand.tmp 3), type := 46, pos := "ref.go:39", after := #[], guard := none }) (v := .slice Ar M cr) rfl (by kernel_rfl) (by kernel_rfl) (by kernel_rfl) (fun _ _ _ h => h) (Or.inl ⟨by rfl, ?_⟩) (by assumption) ?_
          · intro W hSw
            go_simp
            try with_reducible rfl
          simp only [Act.put, List.setIfInBounds_toArray, List.set_cons_zero, List.set_cons_succ]
          refine wpAnyH_take (i := 12) (oi := { dst := some 56, op := Go.Op.move (Go.Operand.tmp 5), type := 3, pos := "ref.go:39", after := #[], guard := none }) (v := .int .i64 q) rfl (by kernel_rfl) (by kernel_rfl) (by kernel_rfl) (fun _ _ _ h => h) (Or.inl ⟨by rfl, ?_⟩) (by assumption) ?_
          · intro W hSw
            go_simp
            try with_reducible rfl
          simp only [Act.put, List.setIfInBounds_toArray, List.set_cons_zero, List.set_cons_succ]
          refine wpAnyH_take (i := 13) (oi := { dst := some 57, op := Go.Op.slice 46 (Go.Operand.tmp 55) (some (Go.Operand.tmp 56)) none none, type := 46, pos := "ref.go:39", after := #[{ on := 11, ground := Go.Ground.data }, { on := 12, ground := Go.Ground.data }], guard := none }) (v := .slice A2 (M - q) (cr - q)) rfl (by kernel_rfl) (by kernel_rfl) (by kernel_rfl) (fun _ _ _ h => h) (Or.inl ⟨by rfl, ?_⟩) (by assumption) ?_
          · intro W hSw
            go_simp
            try with_reducible rfl
          simp only [Act.put, List.setIfInBounds_toArray, List.set_cons_zero, List.set_cons_succ]
          refine wpAnyH_ready (rs := [0, 9]) (by kernel_rfl) (by simp) ?_
          refine AllReadyH.cons (o := { dst := some 44, op := Go.Op.buildSlice 46 0 #[], type := 46, pos := "ref.go:39", after := #[], guard := none }) rfl (fun K hK => ?_) (AllReadyH.cons (o := { dst := some 53, op := Go.Op.buildSlice 46 1 #[(0, Go.Operand.tmp 52)], type := 46, pos := "ref.go:39", after := #[{ on := 8, ground := Go.Ground.data }], guard := none }) rfl (fun K hK => ?_) (AllReadyH.nil))
          · go_simp
            have bV1 : Below wz.heap.size wz (Wd.alloc (.cells #[] 23)) := below_alloc hV0 _
            refine hK.out _ _ (HSX.out _ bV1) (fun hHeld => ?_)
            clear hK K
            try simp only [Act.put, List.setIfInBounds_toArray, List.set_cons_zero, List.set_cons_succ]
            have hN1 := YtdelfhahbngcfaaDoor.blk_new Wd 23 #[]
            have hs1 : Below Wd.heap.size Wd (Wd.alloc (.cells #[] 23)) := below_alloc (Below.refl _ _) _
            have hR1 : Kd.R k23 23 (Wd.alloc (.cells #[] 23)) wz.heap.size (fun _ => True) (.slice (some ⟨Wd.heap.size, 0, none⟩) 0 0) [] := Kd.R_lower (R23_empty Wd) hV0.size
            obtain ⟨V1, hV1⟩ : ∃ V, V = Wd.alloc (.cells #[] 23) := ⟨_, rfl⟩
            obtain ⟨G1, hG1⟩ : ∃ G, G = Wd.heap.size := ⟨_, rfl⟩
            have hl1 : G1 < V1.heap.size := by rw [hV1, hG1]; simp
            have hg1 : wz.heap.size ≤ G1 := by rw [hG1]; exact hV0.size
            rw [← hV1] at hHeld bV1 hN1 hs1 hR1 ⊢
            rw [← hG1] at hR1 ⊢
            clear hV1 hG1
            refine wpAnyH_ready (rs := [4, 9]) (by kernel_rfl) (by simp) ?_
            refine AllReadyH.cons (o := { dst := some 48, op := Go.Op.call { callee := Go.Callee.builtin Go.Builtin.append, args := #[Go.Operand.tmp 44, Go.Operand.tmp 47], argTypes := #[46, 46] }, type := 46, pos := "ref.go:39", after := #[{ on := 0, ground := Go.Ground.data }, { on := 3, ground := Go.Ground.data }], guard := none }) rfl (fun K hK => ?_) (AllReadyH.cons (o := { dst := some 53, op := Go.Op.buildSlice 46 1 #[(0, Go.Operand.tmp 52)], type := 46, pos := "ref.go:39", after := #[{ on := 8, ground := Go.Ground.data }], guard := none }) rfl (fun K hK => ?_) (AllReadyH.nil))
            · have hC2 := (Kd.C_below (Kd.C_take HRQ.out (m := q) hqr) bV1)
              try rw [show (rs.take q).length = q from by rw [List.length_take]; omega] at hC2
              refine Kd.R_append_rows_step k23 (Rr := k23.K V1) (w0 := wz) wz.heap.size rfl (.tmp 44) (.tmp 47) 46 23 (.agg #[.int .i64 0, .int .i64 0]) 16 rfl Tryd.underlying46 info23 rfl (by decide) (by decide) (.slice (some ⟨G1, 0, none⟩) 0 0) [] (rs.take q) _ _ _ (fun _ => True) (fun _ => False) (by rfl) (by rfl) hR1 hC2 (fun x cs h => k23_flat x cs _ _ h) (fun _ h => h.elim) (fun _ _ => trivial) bV1 bV1.size (by (first | (simp; omega) | (simp [List.length_take]; omega))) ?_
              intro v2 V2 hR2 bV2 hgr2 hat2
              obtain ⟨Ar2, cr2, rfl, _, _⟩ := Kd.R_reads hR2
              obtain ⟨L2, hL2⟩ : ∃ L, L = ([] ++ (rs.take q)).length := ⟨_, rfl⟩
              rw [← hL2] at hR2 hat2 ⊢
              have HL2 := Lib.hid hL2
              clear hL2
              refine hK.out _ _ (HSX.out _ bV2) (fun hHeld => ?_)
              clear hK K
              try simp only [Act.put, List.setIfInBounds_toArray, List.set_cons_zero, List.set_cons_succ]
              refine wpAnyH_ready (rs := [9]) (by kernel_rfl) (by simp) ?_
              refine AllReadyH.cons (o := { dst := some 53, op := Go.Op.buildSlice 46 1 #[(0, Go.Operand.tmp 52)], type := 46, pos := "ref.go:39", after := #[{ on := 8, ground := Go.Ground.data }], guard := none }) rfl (fun K hK => ?_) (AllReadyH.nil)
              go_simp
              have bV3 : Below wz.heap.size wz (V2.alloc (.cells #[.int .i64 x.f0, .int .i64 x.f1] 23)) := below_alloc bV2 _
              refine hK.out _ _ (HSX.out _ bV3) (fun hHeld => ?_)
              clear hK K
              try simp only [Act.put, List.setIfInBounds_toArray, List.set_cons_zero, List.set_cons_succ]
              have hN3 := YtdelfhahbngcfaaDoor.blk_new V2 23 #[.int .i64 x.f0, .int .i64 x.f1]
              have hs3 : Below V2.heap.size V2 (V2.alloc (.cells #[.int .i64 x.f0, .int .i64 x.f1] 23)) := below_alloc (Below.refl _ _) _
              obtain ⟨V3, hV3⟩ : ∃ V, V = V2.alloc (.cells #[.int .i64 x.f0, .int .i64 x.f1] 23) := ⟨_, rfl⟩
              obtain ⟨G3, hG3⟩ : ∃ G, G = V2.heap.size := ⟨_, rfl⟩
              have hl3 : G3 < V3.heap.size := by rw [hV3, hG3]; simp
              have hg3 : wz.heap.size ≤ G3 := by rw [hG3]; exact bV2.size
              rw [← hV3] at hHeld bV3 hN3 hs3 ⊢
              have hR3 := Kd.R_below hR2 hs3
              have hO3 : Value.ownBlock (.slice Ar2 L2 cr2) ≠ some G3 := fun e => by have := Kd.R_lt hR2 _ e; omega
              rw [← hG3] at hN3 ⊢
              clear hV3 hG3
              refine wpAnyH_ready (rs := [10]) (by kernel_rfl) (by simp) ?_
              refine AllReadyH.cons (o := { dst := some 54, op := Go.Op.call { callee := Go.Callee.builtin Go.Builtin.append, args := #[Go.Operand.tmp 48, Go.Operand.tmp 53], argTypes := #[46, 46] }, type := 46, pos := "ref.go:39", after := #[{ on := 4, ground := Go.Ground.data }, { on := 9, ground := Go.Ground.data }, { on := 4, ground := Go.Ground.chain }], guard := none }) rfl (fun K hK => ?_) (AllReadyH.nil)
              have hC4 := (dot23 x hN3)
              try rw [show ([x] : List S23).length = 1 from rfl] at hC4
              refine Kd.R_append_rows_step k23 (Rr := k23.K V3) (w0 := wz) wz.heap.size rfl (.tmp 48) (.tmp 53) 46 23 (.agg #[.int .i64 0, .int .i64 0]) 16 rfl Tryd.underlying46 info23 rfl (by decide) (by decide) (.slice Ar2 L2 cr2) ([] ++ (rs.take q)) [x] _ _ _ (fun _ => True) (fun _ => False) (by rfl) (by rfl) hR3 hC4 (fun x cs h => k23_flat x cs _ _ h) (fun _ h => h.elim) (fun _ _ => trivial) bV3 bV3.size (by (first | (simp; omega) | (simp [List.length_take]; omega))) ?_
              intro v4 V4 hR4 bV4 hgr4 hat4
              obtain ⟨Ar4, cr4, rfl, _, _⟩ := Kd.R_reads hR4
              obtain ⟨L4, hL4⟩ : ∃ L, L = (([] ++ (rs.take q)) ++ [x]).length := ⟨_, rfl⟩
              rw [← hL4] at hR4 hat4 ⊢
              have HL4 := Lib.hid hL4
              clear hL4
              refine hK.out _ _ (HSX.out _ bV4) (fun hHeld => ?_)
              clear hK K
              try simp only [Act.put, List.setIfInBounds_toArray, List.set_cons_zero, List.set_cons_succ]
              refine wpAnyH_ready (rs := [14]) (by kernel_rfl) (by simp) ?_
              refine AllReadyH.cons (o := { dst := some 58, op := Go.Op.call { callee := Go.Callee.builtin Go.Builtin.append, args := #[Go.Operand.tmp 54, Go.Operand.tmp 57], argTypes := #[46, 46] }, type := 46, pos := "ref.go:39", after := #[{ on := 10, ground := Go.Ground.data }, { on := 13, ground := Go.Ground.data }, { on := 10, ground := Go.Ground.chain }], guard := none }) rfl (fun K hK => ?_) (AllReadyH.nil)
              have hC5 := (show Kd.C k23 V4 A2 (rs.drop q).length (rs.drop q) from by rw [HA2.out]; exact Kd.C_below (Kd.C_drop HRQ.out (m := q) hqr HLC.out) bV4)
              try rw [show (rs.drop q).length = M - q from by rw [List.length_drop, HRL.out]] at hC5
              refine Kd.R_append_rows_step k23 (Rr := k23.K V4) (w0 := wz) wz.heap.size rfl (.tmp 54) (.tmp 57) 46 23 (.agg #[.int .i64 0, .int .i64 0]) 16 rfl Tryd.underlying46 info23 rfl (by decide) (by decide) (.slice Ar4 L4 cr4) (([] ++ (rs.take q)) ++ [x]) (rs.drop q) _ _ _ (fun _ => True) (fun _ => False) (by rfl) (by rfl) hR4 hC5 (fun x cs h => k23_flat x cs _ _ h) (fun _ h => h.elim) (fun _ _ => trivial) bV4 bV4.size (by (first | (simp; omega) | (simp [List.length_take]; omega))) ?_
              intro v5 V5 hR5 bV5 hgr5 hat5
              obtain ⟨Ar5, cr5, rfl, _, _⟩ := Kd.R_reads hR5
              obtain ⟨L5, hL5⟩ : ∃ L, L = ((([] ++ (rs.take q)) ++ [x]) ++ (rs.drop q)).length := ⟨_, rfl⟩
              rw [← hL5] at hR5 hat5 ⊢
              have HL5 := Lib.hid hL5
              clear hL5
              refine hK.out _ _ (HSX.out _ bV5) (fun hHeld => ?_)
              clear hK K
              try simp only [Act.put, List.setIfInBounds_toArray, List.set_cons_zero, List.set_cons_succ]
              refine wpAnyH_ready (rs := [15]) (by kernel_rfl) (by simp) ?_
              refine AllReadyH.cons (o := { dst := some 3, op := Go.Op.assign (Go.Operand.tmp 58), type := 46, pos := "ref.go:39", after := #[{ on := 14, ground := Go.Ground.data }, { on := 14, ground := Go.Ground.chain }, { on := 0, ground := Go.Ground.phase }, { on := 1, ground := Go.Ground.phase }, { on := 2, ground := Go.Ground.phase }, { on := 3, ground := Go.Ground.phase }, { on := 4, ground := Go.Ground.phase }, { on := 5, ground := Go.Ground.phase }, { on := 6, ground := Go.Ground.phase }, { on := 7, ground := Go.Ground.phase }, { on := 8, ground := Go.Ground.phase }, { on := 9, ground := Go.Ground.phase }, { on := 10, ground := Go.Ground.phase }, { on := 11, ground := Go.Ground.phase }, { on := 12, ground := Go.Ground.phase }, { on := 13, ground := Go.Ground.phase }, { on := 14, ground := Go.Ground.phase }], guard := none }) rfl (fun K hK => ?_) (AllReadyH.nil)
              go_simp
              refine hK.out _ _ (HSX.out _ bV5) (fun hHeld => ?_)
              clear hK K
              try simp only [Act.put, List.setIfInBounds_toArray, List.set_cons_zero, List.set_cons_succ]
              refine wpAnyH_done (by kernel_rfl) ?_ _
              have HFIN := Lib.hid hR5
              have HBF := Lib.hid bV5
              clear hHeld
              go_wp2
              go_roundw
              case rel => exact ⟨i + 1, by omega, by go_num, Lib.hid ⟨by rw [HT.out, HINS.out]; have h9 := Kd.R_lower HFIN.out HBQ.out.size; rw [List.nil_append] at h9; unfold insV; rw [← HK.out]; exact h9, HBQ.out.trans (HBF.out.mono HBQ.out.size)⟩⟩
              case measure => simp [intOf]; omega
            · go_simp
              have bV7 : Below wz.heap.size wz (V1.alloc (.cells #[.int .i64 x.f0, .int .i64 x.f1] 23)) := below_alloc bV1 _
              refine hK.out _ _ (HSX.out _ bV7) (fun hHeld => ?_)
              clear hK K
              try simp only [Act.put, List.setIfInBounds_toArray, List.set_cons_zero, List.set_cons_succ]
              have hN7 := YtdelfhahbngcfaaDoor.blk_new V1 23 #[.int .i64 x.f0, .int .i64 x.f1]
              have hs7 : Below V1.heap.size V1 (V1.alloc (.cells #[.int .i64 x.f0, .int .i64 x.f1] 23)) := below_alloc (Below.refl _ _) _
              obtain ⟨V7, hV7⟩ : ∃ V, V = V1.alloc (.cells #[.int .i64 x.f0, .int .i64 x.f1] 23) := ⟨_, rfl⟩
              obtain ⟨G7, hG7⟩ : ∃ G, G = V1.heap.size := ⟨_, rfl⟩
              have hl7 : G7 < V7.heap.size := by rw [hV7, hG7]; simp
              have hg7 : wz.heap.size ≤ G7 := by rw [hG7]; exact bV1.size
              rw [← hV7] at hHeld bV7 hN7 hs7 ⊢
              have hR7 := Kd.R_below hR1 hs7
              have hO7 : Value.ownBlock (.slice (some ⟨G1, 0, none⟩) 0 0) ≠ some G7 := fun e => by have := Kd.R_lt hR1 _ e; omega
              rw [← hG7] at hN7 ⊢
              clear hV7 hG7
              refine wpAnyH_ready (rs := [4]) (by kernel_rfl) (by simp) ?_
              refine AllReadyH.cons (o := { dst := some 48, op := Go.Op.call { callee := Go.Callee.builtin Go.Builtin.append, args := #[Go.Operand.tmp 44, Go.Operand.tmp 47], argTypes := #[46, 46] }, type := 46, pos := "ref.go:39", after := #[{ on := 0, ground := Go.Ground.data }, { on := 3, ground := Go.Ground.data }], guard := none }) rfl (fun K hK => ?_) (AllReadyH.nil)
              have hC8 := (Kd.C_below (Kd.C_take HRQ.out (m := q) hqr) bV7)
              try rw [show (rs.take q).length = q from by rw [List.length_take]; omega] at hC8
              refine Kd.R_append_rows_step k23 (Rr := k23.K V7) (w0 := wz) wz.heap.size rfl (.tmp 44) (.tmp 47) 46 23 (.agg #[.int .i64 0, .int .i64 0]) 16 rfl Tryd.underlying46 info23 rfl (by decide) (by decide) (.slice (some ⟨G1, 0, none⟩) 0 0) [] (rs.take q) _ _ _ (fun _ => True) (fun _ => False) (by rfl) (by rfl) hR7 hC8 (fun x cs h => k23_flat x cs _ _ h) (fun _ h => h.elim) (fun _ _ => trivial) bV7 bV7.size (by (first | (simp; omega) | (simp [List.length_take]; omega))) ?_
              intro v8 V8 hR8 bV8 hgr8 hat8
              obtain ⟨Ar8, cr8, rfl, _, _⟩ := Kd.R_reads hR8
              obtain ⟨L8, hL8⟩ : ∃ L, L = ([] ++ (rs.take q)).length := ⟨_, rfl⟩
              rw [← hL8] at hR8 hat8 ⊢
              have HL8 := Lib.hid hL8
              clear hL8
              have hX8 := YtdelfhahbngcfaaDoor.blk_ch hN7 (YtdelfhahbngcfaaDoor.Ch.of_grown hgr8) hO7
              have hO8 : (Value.slice Ar8 L8 cr8).ownBlock ≠ some G7 := by
                rcases hat8 with e | ⟨q, e, hq⟩
                · rw [e]; exact hO7
                · rw [e]; intro e2; have := YtdelfhahbngcfaaDoor.blk_lt hN7; injection e2 with e2; omega
              refine hK.out _ _ (HSX.out _ bV8) (fun hHeld => ?_)
              clear hK K
              try simp only [Act.put, List.setIfInBounds_toArray, List.set_cons_zero, List.set_cons_succ]
              refine wpAnyH_ready (rs := [10]) (by kernel_rfl) (by simp) ?_
              refine AllReadyH.cons (o := { dst := some 54, op := Go.Op.call { callee := Go.Callee.builtin Go.Builtin.append, args := #[Go.Operand.tmp 48, Go.Operand.tmp 53], argTypes := #[46, 46] }, type := 46, pos := "ref.go:39", after := #[{ on := 4, ground := Go.Ground.data }, { on := 9, ground := Go.Ground.data }, { on := 4, ground := Go.Ground.chain }], guard := none }) rfl (fun K hK => ?_) (AllReadyH.nil)
              have hC9 := (dot23 x hX8)
              try rw [show ([x] : List S23).length = 1 from rfl] at hC9
              refine Kd.R_append_rows_step k23 (Rr := k23.K V8) (w0 := wz) wz.heap.size rfl (.tmp 48) (.tmp 53) 46 23 (.agg #[.int .i64 0, .int .i64 0]) 16 rfl Tryd.underlying46 info23 rfl (by decide) (by decide) (.slice Ar8 L8 cr8) ([] ++ (rs.take q)) [x] _ _ _ (fun _ => True) (fun _ => False) (by rfl) (by rfl) hR8 hC9 (fun x cs h => k23_flat x cs _ _ h) (fun _ h => h.elim) (fun _ _ => trivial) bV8 bV8.size (by (first | (simp; omega) | (simp [List.length_take]; omega))) ?_
              intro v9 V9 hR9 bV9 hgr9 hat9
              obtain ⟨Ar9, cr9, rfl, _, _⟩ := Kd.R_reads hR9
              obtain ⟨L9, hL9⟩ : ∃ L, L = (([] ++ (rs.take q)) ++ [x]).length := ⟨_, rfl⟩
              rw [← hL9] at hR9 hat9 ⊢
              have HL9 := Lib.hid hL9
              clear hL9
              refine hK.out _ _ (HSX.out _ bV9) (fun hHeld => ?_)
              clear hK K
              try simp only [Act.put, List.setIfInBounds_toArray, List.set_cons_zero, List.set_cons_succ]
              refine wpAnyH_ready (rs := [14]) (by kernel_rfl) (by simp) ?_
              refine AllReadyH.cons (o := { dst := some 58, op := Go.Op.call { callee := Go.Callee.builtin Go.Builtin.append, args := #[Go.Operand.tmp 54, Go.Operand.tmp 57], argTypes := #[46, 46] }, type := 46, pos := "ref.go:39", after := #[{ on := 10, ground := Go.Ground.data }, { on := 13, ground := Go.Ground.data }, { on := 10, ground := Go.Ground.chain }], guard := none }) rfl (fun K hK => ?_) (AllReadyH.nil)
              have hC10 := (show Kd.C k23 V9 A2 (rs.drop q).length (rs.drop q) from by rw [HA2.out]; exact Kd.C_below (Kd.C_drop HRQ.out (m := q) hqr HLC.out) bV9)
              try rw [show (rs.drop q).length = M - q from by rw [List.length_drop, HRL.out]] at hC10
              refine Kd.R_append_rows_step k23 (Rr := k23.K V9) (w0 := wz) wz.heap.size rfl (.tmp 54) (.tmp 57) 46 23 (.agg #[.int .i64 0, .int .i64 0]) 16 rfl Tryd.underlying46 info23 rfl (by decide) (by decide) (.slice Ar9 L9 cr9) (([] ++ (rs.take q)) ++ [x]) (rs.drop q) _ _ _ (fun _ => True) (fun _ => False) (by rfl) (by rfl) hR9 hC10 (fun x cs h => k23_flat x cs _ _ h) (fun _ h => h.elim) (fun _ _ => trivial) bV9 bV9.size (by (first | (simp; omega) | (simp [List.length_take]; omega))) ?_
              intro v10 V10 hR10 bV10 hgr10 hat10
              obtain ⟨Ar10, cr10, rfl, _, _⟩ := Kd.R_reads hR10
              obtain ⟨L10, hL10⟩ : ∃ L, L = ((([] ++ (rs.take q)) ++ [x]) ++ (rs.drop q)).length := ⟨_, rfl⟩
              rw [← hL10] at hR10 hat10 ⊢
              have HL10 := Lib.hid hL10
              clear hL10
              refine hK.out _ _ (HSX.out _ bV10) (fun hHeld => ?_)
              clear hK K
              try simp only [Act.put, List.setIfInBounds_toArray, List.set_cons_zero, List.set_cons_succ]
              refine wpAnyH_ready (rs := [15]) (by kernel_rfl) (by simp) ?_
              refine AllReadyH.cons (o := { dst := some 3, op := Go.Op.assign (Go.Operand.tmp 58), type := 46, pos := "ref.go:39", after := #[{ on := 14, ground := Go.Ground.data }, { on := 14, ground := Go.Ground.chain }, { on := 0, ground := Go.Ground.phase }, { on := 1, ground := Go.Ground.phase }, { on := 2, ground := Go.Ground.phase }, { on := 3, ground := Go.Ground.phase }, { on := 4, ground := Go.Ground.phase }, { on := 5, ground := Go.Ground.phase }, { on := 6, ground := Go.Ground.phase }, { on := 7, ground := Go.Ground.phase }, { on := 8, ground := Go.Ground.phase }, { on := 9, ground := Go.Ground.phase }, { on := 10, ground := Go.Ground.phase }, { on := 11, ground := Go.Ground.phase }, { on := 12, ground := Go.Ground.phase }, { on := 13, ground := Go.Ground.phase }, { on := 14, ground := Go.Ground.phase }], guard := none }) rfl (fun K hK => ?_) (AllReadyH.nil)
              go_simp
              refine hK.out _ _ (HSX.out _ bV10) (fun hHeld => ?_)
              clear hK K
              try simp only [Act.put, List.setIfInBounds_toArray, List.set_cons_zero, List.set_cons_succ]
              refine wpAnyH_done (by kernel_rfl) ?_ _
              have HFIN := Lib.hid hR10
              have HBF := Lib.hid bV10
              clear hHeld
              go_wp2
              go_roundw
              case rel => exact ⟨i + 1, by omega, by go_num, Lib.hid ⟨by rw [HT.out, HINS.out]; have h9 := Kd.R_lower HFIN.out HBQ.out.size; rw [List.nil_append] at h9; unfold insV; rw [← HK.out]; exact h9, HBQ.out.trans (HBF.out.mono HBQ.out.size)⟩⟩
              case measure => simp [intOf]; omega
          · go_simp
            have bV12 : Below wz.heap.size wz (Wd.alloc (.cells #[.int .i64 x.f0, .int .i64 x.f1] 23)) := below_alloc hV0 _
            refine hK.out _ _ (HSX.out _ bV12) (fun hHeld => ?_)
            clear hK K
            try simp only [Act.put, List.setIfInBounds_toArray, List.set_cons_zero, List.set_cons_succ]
            have hN12 := YtdelfhahbngcfaaDoor.blk_new Wd 23 #[.int .i64 x.f0, .int .i64 x.f1]
            have hs12 : Below Wd.heap.size Wd (Wd.alloc (.cells #[.int .i64 x.f0, .int .i64 x.f1] 23)) := below_alloc (Below.refl _ _) _
            obtain ⟨V12, hV12⟩ : ∃ V, V = Wd.alloc (.cells #[.int .i64 x.f0, .int .i64 x.f1] 23) := ⟨_, rfl⟩
            obtain ⟨G12, hG12⟩ : ∃ G, G = Wd.heap.size := ⟨_, rfl⟩
            have hl12 : G12 < V12.heap.size := by rw [hV12, hG12]; simp
            have hg12 : wz.heap.size ≤ G12 := by rw [hG12]; exact hV0.size
            rw [← hV12] at hHeld bV12 hN12 hs12 ⊢
            rw [← hG12] at hN12 ⊢
            clear hV12 hG12
            refine wpAnyH_ready (rs := [0]) (by kernel_rfl) (by simp) ?_
            refine AllReadyH.cons (o := { dst := some 44, op := Go.Op.buildSlice 46 0 #[], type := 46, pos := "ref.go:39", after := #[], guard := none }) rfl (fun K hK => ?_) (AllReadyH.nil)
            go_simp
            have bV13 : Below wz.heap.size wz (V12.alloc (.cells #[] 23)) := below_alloc bV12 _
            refine hK.out _ _ (HSX.out _ bV13) (fun hHeld => ?_)
            clear hK K
            try simp only [Act.put, List.setIfInBounds_toArray, List.set_cons_zero, List.set_cons_succ]
            have hN13 := YtdelfhahbngcfaaDoor.blk_new V12 23 #[]
            have hs13 : Below V12.heap.size V12 (V12.alloc (.cells #[] 23)) := below_alloc (Below.refl _ _) _
            have hR13 : Kd.R k23 23 (V12.alloc (.cells #[] 23)) wz.heap.size (fun _ => True) (.slice (some ⟨V12.heap.size, 0, none⟩) 0 0) [] := Kd.R_lower (R23_empty V12) bV12.size
            obtain ⟨V13, hV13⟩ : ∃ V, V = V12.alloc (.cells #[] 23) := ⟨_, rfl⟩
            obtain ⟨G13, hG13⟩ : ∃ G, G = V12.heap.size := ⟨_, rfl⟩
            have hl13 : G13 < V13.heap.size := by rw [hV13, hG13]; simp
            have hg13 : wz.heap.size ≤ G13 := by rw [hG13]; exact bV12.size
            rw [← hV13] at hHeld bV13 hN13 hs13 hR13 ⊢
            have hX13 := YtdelfhahbngcfaaDoor.blk_below hN12 hs13
            have hO13 : (Value.slice (some ⟨G13, 0, none⟩) 0 0).ownBlock ≠ some G12 := by have := YtdelfhahbngcfaaDoor.blk_lt hN12; simp [Value.ownBlock]; omega
            rw [← hG13] at hR13 ⊢
            clear hV13 hG13
            refine wpAnyH_ready (rs := [4]) (by kernel_rfl) (by simp) ?_
            refine AllReadyH.cons (o := { dst := some 48, op := Go.Op.call { callee := Go.Callee.builtin Go.Builtin.append, args := #[Go.Operand.tmp 44, Go.Operand.tmp 47], argTypes := #[46, 46] }, type := 46, pos := "ref.go:39", after := #[{ on := 0, ground := Go.Ground.data }, { on := 3, ground := Go.Ground.data }], guard := none }) rfl (fun K hK => ?_) (AllReadyH.nil)
            have hC14 := (Kd.C_below (Kd.C_take HRQ.out (m := q) hqr) bV13)
            try rw [show (rs.take q).length = q from by rw [List.length_take]; omega] at hC14
            refine Kd.R_append_rows_step k23 (Rr := k23.K V13) (w0 := wz) wz.heap.size rfl (.tmp 44) (.tmp 47) 46 23 (.agg #[.int .i64 0, .int .i64 0]) 16 rfl Tryd.underlying46 info23 rfl (by decide) (by decide) (.slice (some ⟨G13, 0, none⟩) 0 0) [] (rs.take q) _ _ _ (fun _ => True) (fun _ => False) (by rfl) (by rfl) hR13 hC14 (fun x cs h => k23_flat x cs _ _ h) (fun _ h => h.elim) (fun _ _ => trivial) bV13 bV13.size (by (first | (simp; omega) | (simp [List.length_take]; omega))) ?_
            intro v14 V14 hR14 bV14 hgr14 hat14
            obtain ⟨Ar14, cr14, rfl, _, _⟩ := Kd.R_reads hR14
            obtain ⟨L14, hL14⟩ : ∃ L, L = ([] ++ (rs.take q)).length := ⟨_, rfl⟩
            rw [← hL14] at hR14 hat14 ⊢
            have HL14 := Lib.hid hL14
            clear hL14
            have hX14 := YtdelfhahbngcfaaDoor.blk_ch hX13 (YtdelfhahbngcfaaDoor.Ch.of_grown hgr14) hO13
            have hO14 : (Value.slice Ar14 L14 cr14).ownBlock ≠ some G12 := by
              rcases hat14 with e | ⟨q, e, hq⟩
              · rw [e]; exact hO13
              · rw [e]; intro e2; have := YtdelfhahbngcfaaDoor.blk_lt hX13; injection e2 with e2; omega
            refine hK.out _ _ (HSX.out _ bV14) (fun hHeld => ?_)
            clear hK K
            try simp only [Act.put, List.setIfInBounds_toArray, List.set_cons_zero, List.set_cons_succ]
            refine wpAnyH_ready (rs := [10]) (by kernel_rfl) (by simp) ?_
            refine AllReadyH.cons (o := { dst := some 54, op := Go.Op.call { callee := Go.Callee.builtin Go.Builtin.append, args := #[Go.Operand.tmp 48, Go.Operand.tmp 53], argTypes := #[46, 46] }, type := 46, pos := "ref.go:39", after := #[{ on := 4, ground := Go.Ground.data }, { on := 9, ground := Go.Ground.data }, { on := 4, ground := Go.Ground.chain }], guard := none }) rfl (fun K hK => ?_) (AllReadyH.nil)
            have hC15 := (dot23 x hX14)
            try rw [show ([x] : List S23).length = 1 from rfl] at hC15
            refine Kd.R_append_rows_step k23 (Rr := k23.K V14) (w0 := wz) wz.heap.size rfl (.tmp 48) (.tmp 53) 46 23 (.agg #[.int .i64 0, .int .i64 0]) 16 rfl Tryd.underlying46 info23 rfl (by decide) (by decide) (.slice Ar14 L14 cr14) ([] ++ (rs.take q)) [x] _ _ _ (fun _ => True) (fun _ => False) (by rfl) (by rfl) hR14 hC15 (fun x cs h => k23_flat x cs _ _ h) (fun _ h => h.elim) (fun _ _ => trivial) bV14 bV14.size (by (first | (simp; omega) | (simp [List.length_take]; omega))) ?_
            intro v15 V15 hR15 bV15 hgr15 hat15
            obtain ⟨Ar15, cr15, rfl, _, _⟩ := Kd.R_reads hR15
            obtain ⟨L15, hL15⟩ : ∃ L, L = (([] ++ (rs.take q)) ++ [x]).length := ⟨_, rfl⟩
            rw [← hL15] at hR15 hat15 ⊢
            have HL15 := Lib.hid hL15
            clear hL15
            refine hK.out _ _ (HSX.out _ bV15) (fun hHeld => ?_)
            clear hK K
            try simp only [Act.put, List.setIfInBounds_toArray, List.set_cons_zero, List.set_cons_succ]
            refine wpAnyH_ready (rs := [14]) (by kernel_rfl) (by simp) ?_
            refine AllReadyH.cons (o := { dst := some 58, op := Go.Op.call { callee := Go.Callee.builtin Go.Builtin.append, args := #[Go.Operand.tmp 54, Go.Operand.tmp 57], argTypes := #[46, 46] }, type := 46, pos := "ref.go:39", after := #[{ on := 10, ground := Go.Ground.data }, { on := 13, ground := Go.Ground.data }, { on := 10, ground := Go.Ground.chain }], guard := none }) rfl (fun K hK => ?_) (AllReadyH.nil)
            have hC16 := (show Kd.C k23 V15 A2 (rs.drop q).length (rs.drop q) from by rw [HA2.out]; exact Kd.C_below (Kd.C_drop HRQ.out (m := q) hqr HLC.out) bV15)
            try rw [show (rs.drop q).length = M - q from by rw [List.length_drop, HRL.out]] at hC16
            refine Kd.R_append_rows_step k23 (Rr := k23.K V15) (w0 := wz) wz.heap.size rfl (.tmp 54) (.tmp 57) 46 23 (.agg #[.int .i64 0, .int .i64 0]) 16 rfl Tryd.underlying46 info23 rfl (by decide) (by decide) (.slice Ar15 L15 cr15) (([] ++ (rs.take q)) ++ [x]) (rs.drop q) _ _ _ (fun _ => True) (fun _ => False) (by rfl) (by rfl) hR15 hC16 (fun x cs h => k23_flat x cs _ _ h) (fun _ h => h.elim) (fun _ _ => trivial) bV15 bV15.size (by (first | (simp; omega) | (simp [List.length_take]; omega))) ?_
            intro v16 V16 hR16 bV16 hgr16 hat16
            obtain ⟨Ar16, cr16, rfl, _, _⟩ := Kd.R_reads hR16
            obtain ⟨L16, hL16⟩ : ∃ L, L = ((([] ++ (rs.take q)) ++ [x]) ++ (rs.drop q)).length := ⟨_, rfl⟩
            rw [← hL16] at hR16 hat16 ⊢
            have HL16 := Lib.hid hL16
            clear hL16
            refine hK.out _ _ (HSX.out _ bV16) (fun hHeld => ?_)
            clear hK K
            try simp only [Act.put, List.setIfInBounds_toArray, List.set_cons_zero, List.set_cons_succ]
            refine wpAnyH_ready (rs := [15]) (by kernel_rfl) (by simp) ?_
            refine AllReadyH.cons (o := { dst := some 3, op := Go.Op.assign (Go.Operand.tmp 58), type := 46, pos := "ref.go:39", after := #[{ on := 14, ground := Go.Ground.data }, { on := 14, ground := Go.Ground.chain }, { on := 0, ground := Go.Ground.phase }, { on := 1, ground := Go.Ground.phase }, { on := 2, ground := Go.Ground.phase }, { on := 3, ground := Go.Ground.phase }, { on := 4, ground := Go.Ground.phase }, { on := 5, ground := Go.Ground.phase }, { on := 6, ground := Go.Ground.phase }, { on := 7, ground := Go.Ground.phase }, { on := 8, ground := Go.Ground.phase }, { on := 9, ground := Go.Ground.phase }, { on := 10, ground := Go.Ground.phase }, { on := 11, ground := Go.Ground.phase }, { on := 12, ground := Go.Ground.phase }, { on := 13, ground := Go.Ground.phase }, { on := 14, ground := Go.Ground.phase }], guard := none }) rfl (fun K hK => ?_) (AllReadyH.nil)
            go_simp
            refine hK.out _ _ (HSX.out _ bV16) (fun hHeld => ?_)
            clear hK K
            try simp only [Act.put, List.setIfInBounds_toArray, List.set_cons_zero, List.set_cons_succ]
            refine wpAnyH_done (by kernel_rfl) ?_ _
            have HFIN := Lib.hid hR16
            have HBF := Lib.hid bV16
            clear hHeld
            go_wp2
            go_roundw
            case rel => exact ⟨i + 1, by omega, by go_num, Lib.hid ⟨by rw [HT.out, HINS.out]; have h9 := Kd.R_lower HFIN.out HBQ.out.size; rw [List.nil_append] at h9; unfold insV; rw [← HK.out]; exact h9, HBQ.out.trans (HBF.out.mono HBQ.out.size)⟩⟩
            case measure => simp [intOf]; omega
    · obtain rfl : i = NN := by omega
      have HRISE := Lib.hid (show (l0.take i).foldl insD [] = r by rw [HN.out, List.take_length]; exact HH.out)
      rw [HRISE.out] at HI
      go_wp2
      go_ret
      exact ⟨_, rfl, HI.out.1, HI.out.2⟩
end Go.Proofs.YtdelfhahbngcfaaDoorX.P06
end
section
namespace Go.Proofs.YtdelfhahbngcfaaDoorX.P06
open Go.RowKit Go.Proofs.YtdelfhahbngcfaaDoorW.PrintWords Go.Proofs.YtdelfhahbngcfaaDoorW.PrintLast Go.Proofs.YtdelfhahbngcfaaDoorW.PrintMore
attribute [local go_sem] max2_int min2_int max_two min_two max_three min_three max_four min_four   -- for this text's walks alone
set_option linter.unusedVariables false
set_option linter.unusedSimpArgs false
section
attribute [local go_sem high] eqA23
def tributarylaw06_DotTells.f (k : Nat) (a0_0 : Int) (a0_1 : Int) (a1_0 : Int) (a1_1 : Int) (l2 : List (S23)) : Option (Bool) := if (l2.length : Int) > 60 then ((tributarylaw06_awake.f).bind fun t296 => (some t296)) else ((tributarykit_CopyDots.f l2).bind fun t297 => ((dot_Sort.f t297).bind fun t300 => ((tributaryref06_Sort.f l2).bind fun t303 => ((tributarykit_SameDots.f k t300 t303).bind fun t306 => ((tributarykit_OverDots.f t300).bind fun t307 => ((dot_Next.f a0_0 a0_1).bind fun bt308 => ((tributaryref06_Next.f a0_0 a0_1).bind fun bt312 => (if t306 = true then (if (bt308.1 == bt312.1 && (bt308.2.1 == bt312.2.1)) = true then (if bt308.2.2 = bt312.2.2 then ((dot_Check.f a0_0 a0_1).bind fun t316 => ((tributaryref06_Check.f a0_0 a0_1).bind fun t317 => (if t316 = t317 then ((dot_Less.f k a0_0 a0_1 a1_0 a1_1).bind fun t318 => ((tributaryref06_Less.f a0_0 a0_1 a1_0 a1_1).bind fun t319 => (if (t318 == t319) = true then ((tributarykit_SameDots.f k t297 l2).bind fun t320 => (if t320 = true then ((tributarylaw06_awake.f).bind fun t321 => (some t321)) else (some false))) else (some false)))) else (some false)))) else (some false)) else (some false)) else (some false)))))))))
def tributarylaw06_DotTells.T9 : Bool × List (List Nat × List Nat) := (true, [([], []), ([0], [0]), ([1], [1]), ([1], [1]), ([2, 3, 1], [1, 2, 3]), ([1, 4], [1, 4]), ([5, 1], [5]), ([6], [6]), ([6], [6]), ([7, 8, 6], [6, 7, 8]), ([6, 9], [6, 9]), ([10, 6], [10]), ([11], [11]), ([12, 11, 11], [11, 12]), ([11], [11]), ([14, 13, 11], [11, 14]), ([13, 15, 11], [11, 13, 15]), ([11, 16], [11, 16]), ([17, 15], [17]), ([18], [18]), ([18], [18]), ([19, 20, 18, 18], [18, 19, 20]), ([18], [18]), ([18], [18]), ([22, 23, 21, 18], [18, 22, 23]), ([21, 24, 18], [18, 21, 24]), ([18, 25], [18, 25]), ([26, 24], [26]), ([27], [27]), ([27], [27]), ([28, 29, 27, 27], [27, 28, 29]), ([27, 30], [27, 30]), ([31, 30], [31]), ([32, 32], [32]), ([32, 33], [32, 33]), ([34, 33, 0, 1, 2, 3, 4, 5, 6, 7, 8, 9, 10, 11, 12, 13, 14, 15, 16, 17, 18, 19, 20, 21, 22, 23, 24, 25, 26, 27, 28, 29, 30, 31, 32, 33, 34], [34])])
def tributarylaw06_DotTells.B9 : List Nat := [0, 1, 3, 3, 15, 31, 63, 127, 127, 511, 1023, 2047, 4095, 8191, 4095, 32767, 65535, 131071, 262143, 524287, 524287, 2097151, 524287, 524287, 16777215, 33554431, 67108863, 134217727, 268435455, 268435455, 1073741823, 2147483647, 4294967295, 8589934591, 17179869183, 34359738367]
theorem tributarylaw06_DotTells.tab9 : rtab .any (opsOf Tryd.f6 9) = tributarylaw06_DotTells.T9 := by kernel_rfl
theorem tributarylaw06_DotTells.bits9 : waitsOk tributarylaw06_DotTells.T9.2 tributarylaw06_DotTells.B9 = true := by kernel_rfl
theorem nta_false : (some false : Option Bool) ≠ some true := by decide
theorem nta_none : (none : Option Bool) ≠ some true := by decide
theorem nta_bind {α : Type} {a : Option α} {f : α → Option Bool} (h : ∀ x, f x ≠ some true) : a.bind f ≠ some true := by
 cases a with
 | none => exact nta_none
 | some x => exact h x
theorem nta_iff {a b : Option Bool} (h : b ≠ some true) : (if false = true then a else b) ≠ some true := by rwa [if_neg (by decide)]
theorem nta_ite {c : Prop} [Decidable c] {a b : Option Bool} (ha : a ≠ some true) (hb : b ≠ some true) : (if c then a else b) ≠ some true := by split <;> assumption
set_option maxHeartbeats 8000000 in
set_option maxRecDepth 100000 in
theorem tributarylaw06_DotTells.calls (k : Nat) (a0_0 : Int) (a0_1 : Int) (a1_0 : Int) (a1_1 : Int) (A2 : Option Addr) (c2 : Nat) (l2 : List (S23)) (r : Bool) (w : World) (hr2 : Kd.C k23 w A2 l2.length l2) (hc2 : l2.length ≤ c2) (h : tributarylaw06_DotTells.f k a0_0 a0_1 a1_0 a1_1 l2 = some r) (hT : Laid w) (hr : r = true) :
  Calls Tryd.prog 6 #[.agg #[.int .i64 a0_0, .int .i64 a0_1], .agg #[.int .i64 a1_0, .int .i64 a1_1], .slice A2 l2.length c2] w fun e w' => e = .returned (.bool r) ∧ Below w.heap.size w w' := by
 have HLAID := Aside0.mk hT
 clear hT
 have hu23 := Tryd.underlying23
 have HR2 := Aside0.mk hr2
 have HC2 := Aside0.mk hc2
 clear hr2 hc2
 have HR := Aside0.mk hr
 clear hr
 have HB := Aside0.mk (Below.refl w.heap.size w)
 have H : (if (l2.length : Int) > 60 then ((tributarylaw06_awake.f).bind fun t296 => (some t296)) else ((tributarykit_CopyDots.f l2).bind fun t297 => ((dot_Sort.f t297).bind fun t300 => ((tributaryref06_Sort.f l2).bind fun t303 => ((tributarykit_SameDots.f k t300 t303).bind fun t306 => ((tributarykit_OverDots.f t300).bind fun t307 => ((dot_Next.f a0_0 a0_1).bind fun bt308 => ((tributaryref06_Next.f a0_0 a0_1).bind fun bt312 => (if t306 = true then (if (bt308.1 == bt312.1 && (bt308.2.1 == bt312.2.1)) = true then (if bt308.2.2 = bt312.2.2 then ((dot_Check.f a0_0 a0_1).bind fun t316 => ((tributaryref06_Check.f a0_0 a0_1).bind fun t317 => (if t316 = t317 then ((dot_Less.f k a0_0 a0_1 a1_0 a1_1).bind fun t318 => ((tributaryref06_Less.f a0_0 a0_1 a1_0 a1_1).bind fun t319 => (if (t318 == t319) = true then ((tributarykit_SameDots.f k t297 l2).bind fun t320 => (if t320 = true then ((tributarylaw06_awake.f).bind fun t321 => (some t321)) else (some false))) else (some false)))) else (some false)))) else (some false)) else (some false)) else (some false)))))))))) = some r := h
 clear h
 by_cases c4 : (l2.length : Int) > 60
 ·
  rw [if_pos c4] at H
  have c4b0 : decide (60 < (l2.length : Int)) = true := decide_eq_true c4
  have c4b1 : decide (60 < l2.length) = true := decide_eq_true (by omega)
  clear c4
  replace H := Option.bind_eq_some_iff.mp H
  obtain ⟨t296, A50, H⟩ := H
  replace H : (some t296) = some r := H
  have A5 := Aside0.mk A50
  clear A50
  obtain rfl := Option.some.inj H
  go_enter Tryd.func6, Tryd.ntmps6
  go_wp2_with (first | ((with_reducible refine gate_dst (N := 3) rfl ?_); refine box_event ?hg (N := 3) ?hd (cs := #[.int .i64 a0_0, .int .i64 a0_1]) (t := 23) ?hr ?_; (case hd => rfl); (case hg => rfl); (case hr => first | (go_simp; done) | (go_simp; rfl)); intro gb294 hg w6 hbox hb; have n0_ := Aside0.mk (below_step (by repeat (first | (with_reducible first | exact HB.out | apply below_alloc | apply pw_below_drewN | apply below_drew1) | exact HB.out)) hb); have n1_ := Aside0.mk (hbox); have n2_ := Aside0.mk ((by rw [hg]; exact (below_size (by repeat (first | (with_reducible first | exact HB.out | apply below_alloc | apply pw_below_drewN | apply below_drew1) | exact HB.out))) : w.heap.size ≤ gb294)); have n3_ := Aside0.mk ((by rw [hg]; exact (below_size (by repeat (first | (with_reducible first | exact HB.out | apply below_alloc | apply pw_below_drewN | apply below_drew1) | exact HB.out))) : w.heap.size ≤ gb294)); clear HB; have HB := n0_; have BK294 := n1_; have GW294 := n2_; have GE294 := n3_; clear n0_ n1_ n2_ n3_; clear hb hbox hg) | ((with_reducible refine gate_dst (N := 4) rfl ?_); refine box_event ?hg (N := 4) ?hd (cs := #[.int .i64 a1_0, .int .i64 a1_1]) (t := 23) ?hr ?_; (case hd => rfl); (case hg => rfl); (case hr => first | (go_simp; done) | (go_simp; rfl)); intro gb295 hg w7 hbox hb; have n0_ := Aside0.mk (blk_below (g := gb294) (o := .cells #[.int .i64 a0_0, .int .i64 a0_1] 23 (0, 0)) (by (with_reducible repeat (first | refine blk_drewN ?_ _ | refine blk_drew ?_ | refine blk_alloc ?_ _)); exact BK294.out) hb); have n1_ := Aside0.mk (below_step (by repeat (first | (with_reducible first | exact HB.out | apply below_alloc | apply pw_below_drewN | apply below_drew1 | refine below_set ?_ GE294.out) | exact HB.out)) hb); have n2_ := Aside0.mk (hbox); have n3_ := Aside0.mk ((by rw [hg]; exact (below_size (by repeat (first | (with_reducible first | exact HB.out | apply below_alloc | apply pw_below_drewN | apply below_drew1 | refine below_set ?_ GE294.out) | exact HB.out))) : w.heap.size ≤ gb295)); have n4_ := Aside0.mk ((by rw [hg]; exact (below_size (by repeat (first | (with_reducible first | exact HB.out | apply below_alloc | apply pw_below_drewN | apply below_drew1 | refine below_set ?_ GE294.out) | exact HB.out))) : w.heap.size ≤ gb295)); have n5_ := Aside0.mk ((by rw [hg]; exact Nat.ne_of_lt (blk_lt (g := gb294) (o := .cells #[.int .i64 a0_0, .int .i64 a0_1] 23 (0, 0)) (by (with_reducible repeat (first | refine blk_drewN ?_ _ | refine blk_drew ?_ | refine blk_alloc ?_ _)); exact BK294.out)) : gb294 ≠ gb295)); have n6_ := Aside0.mk ((by rw [hg]; exact Nat.ne_of_gt (blk_lt (g := gb294) (o := .cells #[.int .i64 a0_0, .int .i64 a0_1] 23 (0, 0)) (by (with_reducible repeat (first | refine blk_drewN ?_ _ | refine blk_drew ?_ | refine blk_alloc ?_ _)); exact BK294.out)) : gb295 ≠ gb294)); clear BK294; clear HB; have BK294 := n0_; have HB := n1_; have BK295 := n2_; have GW295 := n3_; have GE295 := n4_; have NB294_295 := n5_; have NB295_294 := n6_; clear n0_ n1_ n2_ n3_ n4_ n5_ n6_; clear hb hbox hg) | ((with_reducible refine gate_callee (f := 9) rfl ?_); refine goesL_ (some 17) rfl rfl Tryd.func9 (by kernel_rfl) rfl #[] rfl (by (try simp only [List.map_toArray, List.map_cons, List.map_nil]); first | done | rfl | (simp only [List.length_drop, List.length_take]; rfl)) ?_; (with_reducible refine (tributarylaw06_awake.calls  t296 _ A5.out (laid_below HLAID.out (by repeat (first | (with_reducible first | exact HB.out | apply below_alloc | apply pw_below_drewN | apply below_drew1 | refine below_set ?_ GE294.out | refine below_set ?_ GE295.out) | exact HB.out)))).mono ?_); rintro e w8 ⟨rfl, hb⟩; refine ⟨_, rfl, ?_⟩; have n0_ := Aside0.mk (blk_below (g := gb294) (o := .cells #[.int .i64 a0_0, .int .i64 a0_1] 23 (0, 0)) (by (with_reducible repeat (first | refine blk_drewN ?_ _ | refine blk_drew ?_ | refine blk_alloc ?_ _)); exact BK294.out) hb); have n1_ := Aside0.mk (blk_below (g := gb295) (o := .cells #[.int .i64 a1_0, .int .i64 a1_1] 23 (0, 0)) (by (with_reducible repeat (first | refine blk_drewN ?_ _ | refine blk_drew ?_ | refine blk_alloc ?_ _)); exact BK295.out) hb); have n2_ := Aside0.mk (below_step (by repeat (first | (with_reducible first | exact HB.out | apply below_alloc | apply pw_below_drewN | apply below_drew1 | refine below_set ?_ GE294.out | refine below_set ?_ GE295.out) | exact HB.out)) hb); clear BK294; clear BK295; clear HB; have BK294 := n0_; have BK295 := n1_; have HB := n2_; clear n0_ n1_ n2_; (try clear hb); (try clear hb2); (try clear hk); (try clear hi)))
  go_ret
  exact ⟨by first | rfl | (simp [errW_none, errW_some] <;> rfl) | (simp [*, errW_none, errW_some] <;> rfl), by repeat (first | (with_reducible first | exact HB.out | apply below_alloc | apply pw_below_drewN | apply below_drew1 | refine below_set ?_ GE294.out | refine below_set ?_ GE295.out) | exact HB.out)⟩
 ·
  rw [if_neg c4] at H
  have c4b0 : decide (60 < (l2.length : Int)) = false := decide_eq_false c4
  have c4b1 : decide (60 < l2.length) = false := decide_eq_false (by omega)
  clear c4
  replace H := Option.bind_eq_some_iff.mp H
  obtain ⟨t297, A90, H⟩ := H
  replace H : ((dot_Sort.f t297).bind fun t300 => ((tributaryref06_Sort.f l2).bind fun t303 => ((tributarykit_SameDots.f k t300 t303).bind fun t306 => ((tributarykit_OverDots.f t300).bind fun t307 => ((dot_Next.f a0_0 a0_1).bind fun bt308 => ((tributaryref06_Next.f a0_0 a0_1).bind fun bt312 => (if t306 = true then (if (bt308.1 == bt312.1 && (bt308.2.1 == bt312.2.1)) = true then (if bt308.2.2 = bt312.2.2 then ((dot_Check.f a0_0 a0_1).bind fun t316 => ((tributaryref06_Check.f a0_0 a0_1).bind fun t317 => (if t316 = t317 then ((dot_Less.f k a0_0 a0_1 a1_0 a1_1).bind fun t318 => ((tributaryref06_Less.f a0_0 a0_1 a1_0 a1_1).bind fun t319 => (if (t318 == t319) = true then ((tributarykit_SameDots.f k t297 l2).bind fun t320 => (if t320 = true then ((tributarylaw06_awake.f).bind fun t321 => (some t321)) else (some false))) else (some false)))) else (some false)))) else (some false)) else (some false)) else (some false)))))))) = some r := H
  have A9 := Aside0.mk A90
  clear A90
  replace H := Option.bind_eq_some_iff.mp H
  obtain ⟨t300, A100, H⟩ := H
  replace H : ((tributaryref06_Sort.f l2).bind fun t303 => ((tributarykit_SameDots.f k t300 t303).bind fun t306 => ((tributarykit_OverDots.f t300).bind fun t307 => ((dot_Next.f a0_0 a0_1).bind fun bt308 => ((tributaryref06_Next.f a0_0 a0_1).bind fun bt312 => (if t306 = true then (if (bt308.1 == bt312.1 && (bt308.2.1 == bt312.2.1)) = true then (if bt308.2.2 = bt312.2.2 then ((dot_Check.f a0_0 a0_1).bind fun t316 => ((tributaryref06_Check.f a0_0 a0_1).bind fun t317 => (if t316 = t317 then ((dot_Less.f k a0_0 a0_1 a1_0 a1_1).bind fun t318 => ((tributaryref06_Less.f a0_0 a0_1 a1_0 a1_1).bind fun t319 => (if (t318 == t319) = true then ((tributarykit_SameDots.f k t297 l2).bind fun t320 => (if t320 = true then ((tributarylaw06_awake.f).bind fun t321 => (some t321)) else (some false))) else (some false)))) else (some false)))) else (some false)) else (some false)) else (some false))))))) = some r := H
  have A10 := Aside0.mk A100
  clear A100
  replace H := Option.bind_eq_some_iff.mp H
  obtain ⟨t303, A110, H⟩ := H
  replace H : ((tributarykit_SameDots.f k t300 t303).bind fun t306 => ((tributarykit_OverDots.f t300).bind fun t307 => ((dot_Next.f a0_0 a0_1).bind fun bt308 => ((tributaryref06_Next.f a0_0 a0_1).bind fun bt312 => (if t306 = true then (if (bt308.1 == bt312.1 && (bt308.2.1 == bt312.2.1)) = true then (if bt308.2.2 = bt312.2.2 then ((dot_Check.f a0_0 a0_1).bind fun t316 => ((tributaryref06_Check.f a0_0 a0_1).bind fun t317 => (if t316 = t317 then ((dot_Less.f k a0_0 a0_1 a1_0 a1_1).bind fun t318 => ((tributaryref06_Less.f a0_0 a0_1 a1_0 a1_1).bind fun t319 => (if (t318 == t319) = true then ((tributarykit_SameDots.f k t297 l2).bind fun t320 => (if t320 = true then ((tributarylaw06_awake.f).bind fun t321 => (some t321)) else (some false))) else (some false)))) else (some false)))) else (some false)) else (some false)) else (some false)))))) = some r := H
  have A11 := Aside0.mk A110
  clear A110
  replace H := Option.bind_eq_some_iff.mp H
  obtain ⟨t306, A120, H⟩ := H
  replace H : ((tributarykit_OverDots.f t300).bind fun t307 => ((dot_Next.f a0_0 a0_1).bind fun bt308 => ((tributaryref06_Next.f a0_0 a0_1).bind fun bt312 => (if t306 = true then (if (bt308.1 == bt312.1 && (bt308.2.1 == bt312.2.1)) = true then (if bt308.2.2 = bt312.2.2 then ((dot_Check.f a0_0 a0_1).bind fun t316 => ((tributaryref06_Check.f a0_0 a0_1).bind fun t317 => (if t316 = t317 then ((dot_Less.f k a0_0 a0_1 a1_0 a1_1).bind fun t318 => ((tributaryref06_Less.f a0_0 a0_1 a1_0 a1_1).bind fun t319 => (if (t318 == t319) = true then ((tributarykit_SameDots.f k t297 l2).bind fun t320 => (if t320 = true then ((tributarylaw06_awake.f).bind fun t321 => (some t321)) else (some false))) else (some false)))) else (some false)))) else (some false)) else (some false)) else (some false))))) = some r := H
  have A12 := Aside0.mk A120
  clear A120
  replace H := Option.bind_eq_some_iff.mp H
  obtain ⟨t307, A130, H⟩ := H
  replace H : ((dot_Next.f a0_0 a0_1).bind fun bt308 => ((tributaryref06_Next.f a0_0 a0_1).bind fun bt312 => (if t306 = true then (if (bt308.1 == bt312.1 && (bt308.2.1 == bt312.2.1)) = true then (if bt308.2.2 = bt312.2.2 then ((dot_Check.f a0_0 a0_1).bind fun t316 => ((tributaryref06_Check.f a0_0 a0_1).bind fun t317 => (if t316 = t317 then ((dot_Less.f k a0_0 a0_1 a1_0 a1_1).bind fun t318 => ((tributaryref06_Less.f a0_0 a0_1 a1_0 a1_1).bind fun t319 => (if (t318 == t319) = true then ((tributarykit_SameDots.f k t297 l2).bind fun t320 => (if t320 = true then ((tributarylaw06_awake.f).bind fun t321 => (some t321)) else (some false))) else (some false)))) else (some false)))) else (some false)) else (some false)) else (some false)))) = some r := H
  have A13 := Aside0.mk A130
  clear A130
  replace H := Option.bind_eq_some_iff.mp H
  obtain ⟨⟨t308, t309, t310⟩, A140, H⟩ := H
  replace H : ((tributaryref06_Next.f a0_0 a0_1).bind fun bt312 => (if t306 = true then (if (t308 == bt312.1 && (t309 == bt312.2.1)) = true then (if t310 = bt312.2.2 then ((dot_Check.f a0_0 a0_1).bind fun t316 => ((tributaryref06_Check.f a0_0 a0_1).bind fun t317 => (if t316 = t317 then ((dot_Less.f k a0_0 a0_1 a1_0 a1_1).bind fun t318 => ((tributaryref06_Less.f a0_0 a0_1 a1_0 a1_1).bind fun t319 => (if (t318 == t319) = true then ((tributarykit_SameDots.f k t297 l2).bind fun t320 => (if t320 = true then ((tributarylaw06_awake.f).bind fun t321 => (some t321)) else (some false))) else (some false)))) else (some false)))) else (some false)) else (some false)) else (some false))) = some r := H
  have A14 := Aside0.mk A140
  clear A140
  replace H := Option.bind_eq_some_iff.mp H
  obtain ⟨⟨t312, t313, t314⟩, A150, H⟩ := H
  replace H : (if t306 = true then (if (t308 == t312 && (t309 == t313)) = true then (if t310 = t314 then ((dot_Check.f a0_0 a0_1).bind fun t316 => ((tributaryref06_Check.f a0_0 a0_1).bind fun t317 => (if t316 = t317 then ((dot_Less.f k a0_0 a0_1 a1_0 a1_1).bind fun t318 => ((tributaryref06_Less.f a0_0 a0_1 a1_0 a1_1).bind fun t319 => (if (t318 == t319) = true then ((tributarykit_SameDots.f k t297 l2).bind fun t320 => (if t320 = true then ((tributarylaw06_awake.f).bind fun t321 => (some t321)) else (some false))) else (some false)))) else (some false)))) else (some false)) else (some false)) else (some false)) = some r := H
  have A15 := Aside0.mk A150
  clear A150
  by_cases c16 : t306 = true
  ·
   subst c16
   have H1 : (if (t308 == t312 && (t309 == t313)) = true then (if t310 = t314 then ((dot_Check.f a0_0 a0_1).bind fun t316 => ((tributaryref06_Check.f a0_0 a0_1).bind fun t317 => (if t316 = t317 then ((dot_Less.f k a0_0 a0_1 a1_0 a1_1).bind fun t318 => ((tributaryref06_Less.f a0_0 a0_1 a1_0 a1_1).bind fun t319 => (if (t318 == t319) = true then ((tributarykit_SameDots.f k t297 l2).bind fun t320 => (if t320 = true then ((tributarylaw06_awake.f).bind fun t321 => (some t321)) else (some false))) else (some false)))) else (some false)))) else (some false)) else (some false)) = some r := by rw [if_pos rfl] at H; exact H
   clear H
   have H := H1
   clear H1
   by_cases c17 : (t308 == t312 && (t309 == t313)) = true
   ·
    rw [if_pos c17] at H
    have c17b0 : (t308 == t312 && (t309 == t313)) = true := c17
    (try (have c17b1 : decide (t308 = t312 && (t309 == t313)) = true := by simpa using c17))
    (try (have c17b2 : (t308 == t312 && (t309 == t313)) = true := by simpa using c17))
    clear c17
    by_cases c18 : t310 = t314
    ·
     rw [if_pos c18] at H
     have c18b0 : (t310 == t314) = true := beq_iff_eq.mpr c18
     have c18b1 : (t310 != t314) = false := bne_eq_false_iff_eq.mpr c18
     clear c18
     replace H := Option.bind_eq_some_iff.mp H
     obtain ⟨t316, A190, H⟩ := H
     replace H : ((tributaryref06_Check.f a0_0 a0_1).bind fun t317 => (if t316 = t317 then ((dot_Less.f k a0_0 a0_1 a1_0 a1_1).bind fun t318 => ((tributaryref06_Less.f a0_0 a0_1 a1_0 a1_1).bind fun t319 => (if (t318 == t319) = true then ((tributarykit_SameDots.f k t297 l2).bind fun t320 => (if t320 = true then ((tributarylaw06_awake.f).bind fun t321 => (some t321)) else (some false))) else (some false)))) else (some false))) = some r := H
     have A19 := Aside0.mk A190
     clear A190
     replace H := Option.bind_eq_some_iff.mp H
     obtain ⟨t317, A200, H⟩ := H
     replace H : (if t316 = t317 then ((dot_Less.f k a0_0 a0_1 a1_0 a1_1).bind fun t318 => ((tributaryref06_Less.f a0_0 a0_1 a1_0 a1_1).bind fun t319 => (if (t318 == t319) = true then ((tributarykit_SameDots.f k t297 l2).bind fun t320 => (if t320 = true then ((tributarylaw06_awake.f).bind fun t321 => (some t321)) else (some false))) else (some false)))) else (some false)) = some r := H
     have A20 := Aside0.mk A200
     clear A200
     by_cases c21 : t316 = t317
     ·
      rw [if_pos c21] at H
      have c21b0 : (t316 == t317) = true := beq_iff_eq.mpr c21
      have c21b1 : (t316 != t317) = false := bne_eq_false_iff_eq.mpr c21
      clear c21
      replace H := Option.bind_eq_some_iff.mp H
      obtain ⟨t318, A220, H⟩ := H
      replace H : ((tributaryref06_Less.f a0_0 a0_1 a1_0 a1_1).bind fun t319 => (if (t318 == t319) = true then ((tributarykit_SameDots.f k t297 l2).bind fun t320 => (if t320 = true then ((tributarylaw06_awake.f).bind fun t321 => (some t321)) else (some false))) else (some false))) = some r := H
      have A22 := Aside0.mk A220
      clear A220
      replace H := Option.bind_eq_some_iff.mp H
      obtain ⟨t319, A230, H⟩ := H
      replace H : (if (t318 == t319) = true then ((tributarykit_SameDots.f k t297 l2).bind fun t320 => (if t320 = true then ((tributarylaw06_awake.f).bind fun t321 => (some t321)) else (some false))) else (some false)) = some r := H
      have A23 := Aside0.mk A230
      clear A230
      by_cases c24 : (t318 == t319) = true
      ·
       rw [if_pos c24] at H
       have c24b0 : (t318 == t319) = true := c24
       (try (have c24b1 : decide (t318 = t319) = true := by simpa using c24))
       (try (have c24b2 : (t318 == t319) = true := by simpa using c24))
       clear c24
       replace H := Option.bind_eq_some_iff.mp H
       obtain ⟨t320, A250, H⟩ := H
       replace H : (if t320 = true then ((tributarylaw06_awake.f).bind fun t321 => (some t321)) else (some false)) = some r := H
       have A25 := Aside0.mk A250
       clear A250
       by_cases c26 : t320 = true
       ·
        subst c26
        have H1 : ((tributarylaw06_awake.f).bind fun t321 => (some t321)) = some r := by rw [if_pos rfl] at H; exact H
        clear H
        have H := H1
        clear H1
        replace H := Option.bind_eq_some_iff.mp H
        obtain ⟨t321, A270, H⟩ := H
        replace H : (some t321) = some r := H
        have A27 := Aside0.mk A270
        clear A270
        obtain rfl := Option.some.inj H
        go_enter Tryd.func6, Tryd.ntmps6
        try go_wp2_with (first | ((with_reducible refine gate_dst (N := 3) rfl ?_); refine box_event ?hg (N := 3) ?hd (cs := #[.int .i64 a0_0, .int .i64 a0_1]) (t := 23) ?hr ?_; (case hd => rfl); (case hg => rfl); (case hr => first | (go_simp; done) | (go_simp; rfl)); intro gb294 hg w28 hbox hb; have n0_ := Aside0.mk (below_step (by repeat (first | (with_reducible first | exact HB.out | apply below_alloc | apply pw_below_drewN | apply below_drew1) | exact HB.out)) hb); have n1_ := Aside0.mk (hbox); have n2_ := Aside0.mk ((by rw [hg]; exact (below_size (by repeat (first | (with_reducible first | exact HB.out | apply below_alloc | apply pw_below_drewN | apply below_drew1) | exact HB.out))) : w.heap.size ≤ gb294)); have n3_ := Aside0.mk ((by rw [hg]; exact (below_size (by repeat (first | (with_reducible first | exact HB.out | apply below_alloc | apply pw_below_drewN | apply below_drew1) | exact HB.out))) : w.heap.size ≤ gb294)); clear HB; have HB := n0_; have BK294 := n1_; have GW294 := n2_; have GE294 := n3_; clear n0_ n1_ n2_ n3_; clear hb hbox hg) | ((with_reducible refine gate_dst (N := 4) rfl ?_); refine box_event ?hg (N := 4) ?hd (cs := #[.int .i64 a1_0, .int .i64 a1_1]) (t := 23) ?hr ?_; (case hd => rfl); (case hg => rfl); (case hr => first | (go_simp; done) | (go_simp; rfl)); intro gb295 hg w29 hbox hb; have n0_ := Aside0.mk (blk_below (g := gb294) (o := .cells #[.int .i64 a0_0, .int .i64 a0_1] 23 (0, 0)) (by (with_reducible repeat (first | refine blk_drewN ?_ _ | refine blk_drew ?_ | refine blk_alloc ?_ _)); exact BK294.out) hb); have n1_ := Aside0.mk (below_step (by repeat (first | (with_reducible first | exact HB.out | apply below_alloc | apply pw_below_drewN | apply below_drew1 | refine below_set ?_ GE294.out) | exact HB.out)) hb); have n2_ := Aside0.mk (hbox); have n3_ := Aside0.mk ((by rw [hg]; exact (below_size (by repeat (first | (with_reducible first | exact HB.out | apply below_alloc | apply pw_below_drewN | apply below_drew1 | refine below_set ?_ GE294.out) | exact HB.out))) : w.heap.size ≤ gb295)); have n4_ := Aside0.mk ((by rw [hg]; exact (below_size (by repeat (first | (with_reducible first | exact HB.out | apply below_alloc | apply pw_below_drewN | apply below_drew1 | refine below_set ?_ GE294.out) | exact HB.out))) : w.heap.size ≤ gb295)); have n5_ := Aside0.mk ((by rw [hg]; exact Nat.ne_of_lt (blk_lt (g := gb294) (o := .cells #[.int .i64 a0_0, .int .i64 a0_1] 23 (0, 0)) (by (with_reducible repeat (first | refine blk_drewN ?_ _ | refine blk_drew ?_ | refine blk_alloc ?_ _)); exact BK294.out)) : gb294 ≠ gb295)); have n6_ := Aside0.mk ((by rw [hg]; exact Nat.ne_of_gt (blk_lt (g := gb294) (o := .cells #[.int .i64 a0_0, .int .i64 a0_1] 23 (0, 0)) (by (with_reducible repeat (first | refine blk_drewN ?_ _ | refine blk_drew ?_ | refine blk_alloc ?_ _)); exact BK294.out)) : gb295 ≠ gb294)); clear BK294; clear HB; have BK294 := n0_; have HB := n1_; have BK295 := n2_; have GW295 := n3_; have GE295 := n4_; have NB294_295 := n5_; have NB295_294 := n6_; clear n0_ n1_ n2_ n3_ n4_ n5_ n6_; clear hb hbox hg) | ((with_reducible refine gate_callee (f := 25) rfl ?_); refine goesL_ (some 19) rfl rfl Tryd.func25 (by kernel_rfl) rfl #[.slice A2 l2.length c2] rfl (by (try simp only [List.map_toArray, List.map_cons, List.map_nil]); first | done | rfl | (simp only [List.length_drop, List.length_take]; rfl)) ?_; (with_reducible refine (tributarykit_CopyDots.calls _ _ l2 t297 _ ?side1 ?side2 A9.out).mono ?_); (case side1 => repeat (first | exact (Kd.C_below HR2.out HB.out) | (with_reducible refine Kd.C_alloc ?_ _) | (with_reducible refine Kd.C_drewN ?_ _) | (with_reducible refine Kd.C_drew ?_))); (case side2 => exact HC2.out); rintro e w30 ⟨v298, rfl, ho0, hb⟩; refine ⟨_, rfl, ?_⟩; have n0_ := Aside0.mk (Kd.R_lower (Kd.R_newB (Kd.R_newB ho0 (g := gb294) (o := .cells #[.int .i64 a0_0, .int .i64 a0_1] 23 (0, 0)) (by (with_reducible repeat (first | refine blk_drewN ?_ _ | refine blk_drew ?_ | refine blk_alloc ?_ _)); exact BK294.out)) (g := gb295) (o := .cells #[.int .i64 a1_0, .int .i64 a1_1] 23 (0, 0)) (by (with_reducible repeat (first | refine blk_drewN ?_ _ | refine blk_drew ?_ | refine blk_alloc ?_ _)); exact BK295.out)) (below_size (by repeat (first | (with_reducible first | exact HB.out | apply below_alloc | apply pw_below_drewN | apply below_drew1 | refine below_set ?_ GE294.out | refine below_set ?_ GE295.out) | exact HB.out)))); have n1_ := Aside0.mk (blk_below (g := gb294) (o := .cells #[.int .i64 a0_0, .int .i64 a0_1] 23 (0, 0)) (by (with_reducible repeat (first | refine blk_drewN ?_ _ | refine blk_drew ?_ | refine blk_alloc ?_ _)); exact BK294.out) hb); have n2_ := Aside0.mk (blk_below (g := gb295) (o := .cells #[.int .i64 a1_0, .int .i64 a1_1] 23 (0, 0)) (by (with_reducible repeat (first | refine blk_drewN ?_ _ | refine blk_drew ?_ | refine blk_alloc ?_ _)); exact BK295.out) hb); have n3_ := Aside0.mk (below_step (by repeat (first | (with_reducible first | exact HB.out | apply below_alloc | apply pw_below_drewN | apply below_drew1 | refine below_set ?_ GE294.out | refine below_set ?_ GE295.out) | exact HB.out)) hb); clear BK294; clear BK295; clear HB; have HO299 := n0_; have BK294 := n1_; have BK295 := n2_; have HB := n3_; clear n0_ n1_ n2_ n3_; (try clear hb); (try clear hb2); (try clear hk); (try clear hi); (try clear ho0); obtain ⟨Ao31, co31, eo31⟩ := Kd.R_slice HO299.out; subst eo31) | ((with_reducible refine gate_callee (f := 26) rfl ?_); refine goesL_ (some 21) rfl rfl Tryd.func26 (by kernel_rfl) rfl #[.slice Ao31 t297.length co31] rfl (by (try simp only [List.map_toArray, List.map_cons, List.map_nil]); first | done | rfl | (simp only [List.length_drop, List.length_take]; rfl)) ?_; (with_reducible refine (dot_Sort.calls _ _ t297 t300 _ ?side1 ?side2 A10.out).mono ?_); (case side1 => repeat (first | exact (Kd.R_reads' HO299.out).2.2 | (with_reducible refine Kd.C_alloc ?_ _) | (with_reducible refine Kd.C_drewN ?_ _) | (with_reducible refine Kd.C_drew ?_))); (case side2 => exact (Kd.R_reads' HO299.out).2.1); rintro e w32 ⟨v301, rfl, ho0, hb⟩; refine ⟨_, rfl, ?_⟩; have n0_ := Aside0.mk (Kd.R_elder' (by (with_reducible repeat (first | apply Kd.R_alloc | apply Kd.R_drewN | apply Kd.R_drew)); exact HO299.out) (Kd.R_base ho0) hb); have n1_ := Aside0.mk (Kd.R_lower (Kd.R_newB (Kd.R_newB (Kd.R_new' ho0 (Kd.R_lt (by (with_reducible repeat (first | apply Kd.R_alloc | apply Kd.R_drewN | apply Kd.R_drew)); exact HO299.out))) (g := gb294) (o := .cells #[.int .i64 a0_0, .int .i64 a0_1] 23 (0, 0)) (by (with_reducible repeat (first | refine blk_drewN ?_ _ | refine blk_drew ?_ | refine blk_alloc ?_ _)); exact BK294.out)) (g := gb295) (o := .cells #[.int .i64 a1_0, .int .i64 a1_1] 23 (0, 0)) (by (with_reducible repeat (first | refine blk_drewN ?_ _ | refine blk_drew ?_ | refine blk_alloc ?_ _)); exact BK295.out)) (below_size (by repeat (first | (with_reducible first | exact HB.out | apply below_alloc | apply pw_below_drewN | apply below_drew1 | refine below_set ?_ GE294.out | refine below_set ?_ GE295.out) | exact HB.out)))); have n2_ := Aside0.mk (blk_below (g := gb294) (o := .cells #[.int .i64 a0_0, .int .i64 a0_1] 23 (0, 0)) (by (with_reducible repeat (first | refine blk_drewN ?_ _ | refine blk_drew ?_ | refine blk_alloc ?_ _)); exact BK294.out) hb); have n3_ := Aside0.mk (blk_below (g := gb295) (o := .cells #[.int .i64 a1_0, .int .i64 a1_1] 23 (0, 0)) (by (with_reducible repeat (first | refine blk_drewN ?_ _ | refine blk_drew ?_ | refine blk_alloc ?_ _)); exact BK295.out) hb); have n4_ := Aside0.mk (below_step (by repeat (first | (with_reducible first | exact HB.out | apply below_alloc | apply pw_below_drewN | apply below_drew1 | refine below_set ?_ GE294.out | refine below_set ?_ GE295.out) | exact HB.out)) hb); clear HO299; clear BK294; clear BK295; clear HB; have HO299 := n0_; have HO302 := n1_; have BK294 := n2_; have BK295 := n3_; have HB := n4_; clear n0_ n1_ n2_ n3_ n4_; (try clear hb); (try clear hb2); (try clear hk); (try clear hi); (try clear ho0)) | ((with_reducible refine gate_callee (f := 28) rfl ?_); refine goesL_ (some 24) rfl rfl Tryd.func28 (by kernel_rfl) rfl #[.slice A2 l2.length c2] rfl (by (try simp only [List.map_toArray, List.map_cons, List.map_nil]); first | done | rfl | (simp only [List.length_drop, List.length_take]; rfl)) ?_; (with_reducible refine (tributaryref06_Sort.calls _ _ l2 t303 _ ?side1 ?side2 A11.out).mono ?_); (case side1 => repeat (first | exact (Kd.C_below HR2.out HB.out) | (with_reducible refine Kd.C_alloc ?_ _) | (with_reducible refine Kd.C_drewN ?_ _) | (with_reducible refine Kd.C_drew ?_))); (case side2 => exact HC2.out); rintro e w33 ⟨v304, rfl, ho0, hb⟩; refine ⟨_, rfl, ?_⟩; have n0_ := Aside0.mk (Kd.R_elder' (by (with_reducible repeat (first | apply Kd.R_alloc | apply Kd.R_drewN | apply Kd.R_drew)); exact HO299.out) (Kd.R_base ho0) hb); have n1_ := Aside0.mk (Kd.R_elder' (by (with_reducible repeat (first | apply Kd.R_alloc | apply Kd.R_drewN | apply Kd.R_drew)); exact HO302.out) (Kd.R_base ho0) hb); have n2_ := Aside0.mk (Kd.R_lower (Kd.R_newB (Kd.R_newB (Kd.R_new' (Kd.R_new' ho0 (Kd.R_lt (by (with_reducible repeat (first | apply Kd.R_alloc | apply Kd.R_drewN | apply Kd.R_drew)); exact HO299.out))) (Kd.R_lt (by (with_reducible repeat (first | apply Kd.R_alloc | apply Kd.R_drewN | apply Kd.R_drew)); exact HO302.out))) (g := gb294) (o := .cells #[.int .i64 a0_0, .int .i64 a0_1] 23 (0, 0)) (by (with_reducible repeat (first | refine blk_drewN ?_ _ | refine blk_drew ?_ | refine blk_alloc ?_ _)); exact BK294.out)) (g := gb295) (o := .cells #[.int .i64 a1_0, .int .i64 a1_1] 23 (0, 0)) (by (with_reducible repeat (first | refine blk_drewN ?_ _ | refine blk_drew ?_ | refine blk_alloc ?_ _)); exact BK295.out)) (below_size (by repeat (first | (with_reducible first | exact HB.out | apply below_alloc | apply pw_below_drewN | apply below_drew1 | refine below_set ?_ GE294.out | refine below_set ?_ GE295.out) | exact HB.out)))); have n3_ := Aside0.mk (blk_below (g := gb294) (o := .cells #[.int .i64 a0_0, .int .i64 a0_1] 23 (0, 0)) (by (with_reducible repeat (first | refine blk_drewN ?_ _ | refine blk_drew ?_ | refine blk_alloc ?_ _)); exact BK294.out) hb); have n4_ := Aside0.mk (blk_below (g := gb295) (o := .cells #[.int .i64 a1_0, .int .i64 a1_1] 23 (0, 0)) (by (with_reducible repeat (first | refine blk_drewN ?_ _ | refine blk_drew ?_ | refine blk_alloc ?_ _)); exact BK295.out) hb); have n5_ := Aside0.mk (below_step (by repeat (first | (with_reducible first | exact HB.out | apply below_alloc | apply pw_below_drewN | apply below_drew1 | refine below_set ?_ GE294.out | refine below_set ?_ GE295.out) | exact HB.out)) hb); clear HO299; clear HO302; clear BK294; clear BK295; clear HB; have HO299 := n0_; have HO302 := n1_; have HO305 := n2_; have BK294 := n3_; have BK295 := n4_; have HB := n5_; clear n0_ n1_ n2_ n3_ n4_ n5_; (try clear hb); (try clear hb2); (try clear hk); (try clear hi); (try clear ho0); obtain ⟨Ao34, co34, eo34⟩ := Kd.R_slice HO302.out; subst eo34; obtain ⟨Ao35, co35, eo35⟩ := Kd.R_slice HO305.out; subst eo35) | ((with_reducible refine gate_callee (f := 27) rfl ?_); refine goesL_ (some 25) rfl rfl Tryd.func27 (by kernel_rfl) rfl #[.slice Ao34 t300.length co34, .slice Ao35 t303.length co35] rfl (by (try simp only [List.map_toArray, List.map_cons, List.map_nil]); first | done | rfl | (simp only [List.length_drop, List.length_take]; rfl)) ?_; (with_reducible refine (tributarykit_SameDots.calls k _ _ t300 _ _ t303 true _ ?side1 ?side2 ?side3 ?side4 A12.out).mono ?_); (case side1 => repeat (first | exact (Kd.R_reads' HO302.out).2.2 | (with_reducible refine Kd.C_alloc ?_ _) | (with_reducible refine Kd.C_drewN ?_ _) | (with_reducible refine Kd.C_drew ?_))); (case side2 => exact (Kd.R_reads' HO302.out).2.1); (case side3 => repeat (first | exact (Kd.R_reads' HO305.out).2.2 | (with_reducible refine Kd.C_alloc ?_ _) | (with_reducible refine Kd.C_drewN ?_ _) | (with_reducible refine Kd.C_drew ?_))); (case side4 => exact (Kd.R_reads' HO305.out).2.1); rintro e w' ⟨rfl, ⟨nd, rfl⟩⟩; refine ⟨_, rfl, ?_⟩) | ((with_reducible refine gate_callee (f := 29) rfl ?_); refine goesL_ (some 27) rfl rfl Tryd.func29 (by kernel_rfl) rfl #[.slice Ao34 t300.length co34] rfl (by (try simp only [List.map_toArray, List.map_cons, List.map_nil]); first | done | rfl | (simp only [List.length_drop, List.length_take]; rfl)) ?_; (with_reducible refine (tributarykit_OverDots.calls (fun k_ => some k_ = (.slice Ao34 t300.length co34 : Value).ownBlock) (.slice Ao34 t300.length co34) t300 t307 w _ ?side1 ?side2 A13.out).mono ?_); (case side1 => repeat (first | (with_reducible first | exact HB.out | apply below_alloc | apply pw_below_drewN | apply below_drew1 | refine below_set ?_ GE294.out | refine below_set ?_ GE295.out) | exact HB.out)); (case side2 => exact Kd.R_tight rfl HO302.out); rintro e w36 ⟨rfl, hy0, hb, hkp⟩; refine ⟨_, rfl, ?_⟩; have n0_ := Aside0.mk (blk_kept (by (with_reducible repeat (first | refine blk_drewN ?_ _ | refine blk_drew ?_ | refine blk_alloc ?_ _)); exact BK294.out) hkp (fun hs_ => (fun e_ => (Kd.R_away HO302.out (fun _ hk => hk.1.1.2)) e_) hs_)); have n1_ := Aside0.mk (blk_kept (by (with_reducible repeat (first | refine blk_drewN ?_ _ | refine blk_drew ?_ | refine blk_alloc ?_ _)); exact BK295.out) hkp (fun hs_ => (fun e_ => (Kd.R_away HO302.out (fun _ hk => hk.1.2)) e_) hs_)); have n2_ := Aside0.mk (Kd.R_mono (ok' := fun k_ => some k_ ≠ (.slice Ao34 t300.length co34 : Value).ownBlock ∧ some k_ ≠ (.slice Ao35 t303.length co35 : Value).ownBlock ∧ k_ ≠ gb294 ∧ k_ ≠ gb295) (Kd.R_keptB (HO299.out) hkp (fun k_ hk_ hs_ => (hk_.1.2) hs_)) (fun k_ hk_ => ⟨hk_.1.1.2, hk_.1.2, hk_.1.1.1.1.2, hk_.1.1.1.2⟩)); have n3_ := Aside0.mk (Kd.R_reok rfl hy0 (fun k_ e_ => HO302.out.1 k_ e_)); have n4_ := Aside0.mk (Kd.R_mono (ok' := fun k_ => some k_ ≠ (.slice Ao31 t297.length co31 : Value).ownBlock ∧ some k_ ≠ (.slice Ao34 t300.length co34 : Value).ownBlock ∧ k_ ≠ gb294 ∧ k_ ≠ gb295) (Kd.R_keptB (HO305.out) hkp (fun k_ hk_ hs_ => (hk_.1.1.2) hs_)) (fun k_ hk_ => ⟨hk_.1.1.1.1.2, hk_.1.1.1.2, hk_.1.1.2, hk_.1.2⟩)); have n5_ := Aside0.mk (hb); clear BK294; clear BK295; clear HO299; clear HO302; clear HO305; clear HB; have BK294 := n0_; have BK295 := n1_; have HO299 := n2_; have HO302 := n3_; have HO305 := n4_; have HB := n5_; clear n0_ n1_ n2_ n3_ n4_ n5_; (try clear hb); (try clear hkp); (try clear hy0); have hnb37 := NB294_295.out; have hnc37 := NB295_294.out; have hcz38_0 : w36.cell? ⟨gb294, 0, none⟩ = some (.int .i64 a0_0) := (blk_cell BK294.out 0).trans rfl; have hcz38_1 : w36.cell? ⟨gb294, 1, none⟩ = some (.int .i64 a0_1) := (blk_cell BK294.out 1).trans rfl; have hfz38_0 := blk_frozen BK294.out 0; have hfz38_1 := blk_frozen BK294.out 1) | ((with_reducible refine gate_callee (f := 23) rfl ?_); refine goesL_ (some 30) rfl rfl Tryd.func23 (by kernel_rfl) rfl #[.agg #[.int .i64 a0_0, .int .i64 a0_1]] rfl (by (try simp only [List.map_toArray, List.map_cons, List.map_nil]); first | done | rfl | (simp only [List.length_drop, List.length_take]; rfl)) ?_; (with_reducible refine (dot_Next.calls a0_0 a0_1 t308 t309 t310 _ A14.out).mono ?_); rintro e w39 ⟨rfl, hb⟩; refine ⟨_, rfl, ?_⟩; have n0_ := Aside0.mk (Kd.R_below (by (with_reducible repeat (first | apply Kd.R_alloc | apply Kd.R_drewN | apply Kd.R_drew)); exact HO299.out) hb); have n1_ := Aside0.mk (Kd.R_below (by (with_reducible repeat (first | apply Kd.R_alloc | apply Kd.R_drewN | apply Kd.R_drew)); exact HO302.out) hb); have n2_ := Aside0.mk (Kd.R_below (by (with_reducible repeat (first | apply Kd.R_alloc | apply Kd.R_drewN | apply Kd.R_drew)); exact HO305.out) hb); have n3_ := Aside0.mk (blk_below (g := gb294) (o := .cells #[.int .i64 a0_0, .int .i64 a0_1] 23 (0, 0)) (by (with_reducible repeat (first | refine blk_drewN ?_ _ | refine blk_drew ?_ | refine blk_alloc ?_ _)); exact BK294.out) hb); have n4_ := Aside0.mk (blk_below (g := gb295) (o := .cells #[.int .i64 a1_0, .int .i64 a1_1] 23 (0, 0)) (by (with_reducible repeat (first | refine blk_drewN ?_ _ | refine blk_drew ?_ | refine blk_alloc ?_ _)); exact BK295.out) hb); have n5_ := Aside0.mk (below_step (by repeat (first | (with_reducible first | exact HB.out | apply below_alloc | apply pw_below_drewN | apply below_drew1 | refine below_set ?_ GE294.out | refine below_set ?_ GE295.out) | exact HB.out)) hb); clear HO299; clear HO302; clear HO305; clear BK294; clear BK295; clear HB; have HO299 := n0_; have HO302 := n1_; have HO305 := n2_; have BK294 := n3_; have BK295 := n4_; have HB := n5_; clear n0_ n1_ n2_ n3_ n4_ n5_; (try clear hb); (try clear hb2); (try clear hk); (try clear hi)) | ((with_reducible refine gate_dst (N := 10) rfl ?_); refine box_event ?hg (N := 10) ?hd (cs := #[.int .i64 0, .int .i64 0]) (t := 23) ?hr ?_; (case hd => rfl); (case hg => rfl); (case hr => first | (go_simp; done) | (go_simp; rfl)); intro gb311 hg w40 hbox hb; have n0_ := Aside0.mk (Kd.R_below (Kd.R_elderB (by (with_reducible repeat (first | apply Kd.R_alloc | apply Kd.R_drewN | apply Kd.R_drew)); exact HO299.out) gb311 (Nat.le_of_eq hg.symm)) hb); have n1_ := Aside0.mk (Kd.R_below (Kd.R_elderB (by (with_reducible repeat (first | apply Kd.R_alloc | apply Kd.R_drewN | apply Kd.R_drew)); exact HO302.out) gb311 (Nat.le_of_eq hg.symm)) hb); have n2_ := Aside0.mk (Kd.R_below (Kd.R_elderB (by (with_reducible repeat (first | apply Kd.R_alloc | apply Kd.R_drewN | apply Kd.R_drew)); exact HO305.out) gb311 (Nat.le_of_eq hg.symm)) hb); have n3_ := Aside0.mk (blk_below (g := gb294) (o := .cells #[.int .i64 a0_0, .int .i64 a0_1] 23 (0, 0)) (by (with_reducible repeat (first | refine blk_drewN ?_ _ | refine blk_drew ?_ | refine blk_alloc ?_ _)); exact BK294.out) hb); have n4_ := Aside0.mk (blk_below (g := gb295) (o := .cells #[.int .i64 a1_0, .int .i64 a1_1] 23 (0, 0)) (by (with_reducible repeat (first | refine blk_drewN ?_ _ | refine blk_drew ?_ | refine blk_alloc ?_ _)); exact BK295.out) hb); have n5_ := Aside0.mk (below_step (by repeat (first | (with_reducible first | exact HB.out | apply below_alloc | apply pw_below_drewN | apply below_drew1 | refine below_set ?_ GE294.out | refine below_set ?_ GE295.out) | exact HB.out)) hb); have n6_ := Aside0.mk (hbox); have n7_ := Aside0.mk ((by rw [hg]; exact (below_size (by repeat (first | (with_reducible first | exact HB.out | apply below_alloc | apply pw_below_drewN | apply below_drew1 | refine below_set ?_ GE294.out | refine below_set ?_ GE295.out) | exact HB.out))) : w.heap.size ≤ gb311)); have n8_ := Aside0.mk ((by rw [hg]; exact (below_size (by repeat (first | (with_reducible first | exact HB.out | apply below_alloc | apply pw_below_drewN | apply below_drew1 | refine below_set ?_ GE294.out | refine below_set ?_ GE295.out) | exact HB.out))) : w.heap.size ≤ gb311)); have n9_ := Aside0.mk ((by rw [hg]; exact Nat.ne_of_lt (blk_lt (g := gb294) (o := .cells #[.int .i64 a0_0, .int .i64 a0_1] 23 (0, 0)) (by (with_reducible repeat (first | refine blk_drewN ?_ _ | refine blk_drew ?_ | refine blk_alloc ?_ _)); exact BK294.out)) : gb294 ≠ gb311)); have n10_ := Aside0.mk ((by rw [hg]; exact Nat.ne_of_gt (blk_lt (g := gb294) (o := .cells #[.int .i64 a0_0, .int .i64 a0_1] 23 (0, 0)) (by (with_reducible repeat (first | refine blk_drewN ?_ _ | refine blk_drew ?_ | refine blk_alloc ?_ _)); exact BK294.out)) : gb311 ≠ gb294)); have n11_ := Aside0.mk ((by rw [hg]; exact Nat.ne_of_lt (blk_lt (g := gb295) (o := .cells #[.int .i64 a1_0, .int .i64 a1_1] 23 (0, 0)) (by (with_reducible repeat (first | refine blk_drewN ?_ _ | refine blk_drew ?_ | refine blk_alloc ?_ _)); exact BK295.out)) : gb295 ≠ gb311)); have n12_ := Aside0.mk ((by rw [hg]; exact Nat.ne_of_gt (blk_lt (g := gb295) (o := .cells #[.int .i64 a1_0, .int .i64 a1_1] 23 (0, 0)) (by (with_reducible repeat (first | refine blk_drewN ?_ _ | refine blk_drew ?_ | refine blk_alloc ?_ _)); exact BK295.out)) : gb311 ≠ gb295)); clear HO299; clear HO302; clear HO305; clear BK294; clear BK295; clear HB; have HO299 := n0_; have HO302 := n1_; have HO305 := n2_; have BK294 := n3_; have BK295 := n4_; have HB := n5_; have BK311 := n6_; have GW311 := n7_; have GE311 := n8_; have NB294_311 := n9_; have NB311_294 := n10_; have NB295_311 := n11_; have NB311_295 := n12_; clear n0_ n1_ n2_ n3_ n4_ n5_ n6_ n7_ n8_ n9_ n10_ n11_ n12_; clear hb hbox hg; have hnb41 := NB311_294.out; have hnc41 := NB294_311.out; have hnb42 := NB311_295.out; have hnc42 := NB295_311.out; have hcz43_0 : w40.cell? ⟨gb311, 0, none⟩ = some (.int .i64 0) := (blk_cell BK311.out 0).trans rfl; have hcz43_1 : w40.cell? ⟨gb311, 1, none⟩ = some (.int .i64 0) := (blk_cell BK311.out 1).trans rfl; have hfz43_0 := blk_frozen BK311.out 0; have hfz43_1 := blk_frozen BK311.out 1; have hcz44_0 : w40.cell? ⟨gb294, 0, none⟩ = some (.int .i64 a0_0) := (blk_cell BK294.out 0).trans rfl; have hcz44_1 : w40.cell? ⟨gb294, 1, none⟩ = some (.int .i64 a0_1) := (blk_cell BK294.out 1).trans rfl; have hfz44_0 := blk_frozen BK294.out 0; have hfz44_1 := blk_frozen BK294.out 1) | ((with_reducible refine gate_callee (f := 30) rfl ?_); refine goesL_ (some 35) rfl rfl Tryd.func30 (by kernel_rfl) rfl #[.agg #[.int .i64 a0_0, .int .i64 a0_1]] rfl (by (try simp only [List.map_toArray, List.map_cons, List.map_nil]); first | done | rfl | (simp only [List.length_drop, List.length_take]; rfl)) ?_; (with_reducible refine (tributaryref06_Next.calls a0_0 a0_1 t312 t313 t314 _ A15.out).mono ?_); rintro e w45 ⟨rfl, hb⟩; refine ⟨_, rfl, ?_⟩; have n0_ := Aside0.mk (Kd.R_below (by (with_reducible repeat (first | apply Kd.R_alloc | apply Kd.R_drewN | apply Kd.R_drew)); exact (Kd.R_mono (Kd.R_far (p := ⟨gb311, 1, none⟩) (Kd.R_far (p := ⟨gb311, 0, none⟩) (Kd.R_mono HO299.out (fun k_ hk => (⟨hk, hk.2⟩ : _ ∧ k_ ≠ gb311))) (fun _ hk => hk.2) (.int .i64 t308)) (fun _ hk => hk.2) (.int .i64 t309)) (fun _ h_ => h_.1))) hb); have n1_ := Aside0.mk (Kd.R_below (by (with_reducible repeat (first | apply Kd.R_alloc | apply Kd.R_drewN | apply Kd.R_drew)); exact (Kd.R_mono (Kd.R_far (p := ⟨gb311, 1, none⟩) (Kd.R_far (p := ⟨gb311, 0, none⟩) (Kd.R_mono HO302.out (fun k_ hk => (⟨hk, hk.2⟩ : _ ∧ k_ ≠ gb311))) (fun _ hk => hk.2) (.int .i64 t308)) (fun _ hk => hk.2) (.int .i64 t309)) (fun _ h_ => h_.1))) hb); have n2_ := Aside0.mk (Kd.R_below (by (with_reducible repeat (first | apply Kd.R_alloc | apply Kd.R_drewN | apply Kd.R_drew)); exact (Kd.R_mono (Kd.R_far (p := ⟨gb311, 1, none⟩) (Kd.R_far (p := ⟨gb311, 0, none⟩) (Kd.R_mono HO305.out (fun k_ hk => (⟨hk, hk.2⟩ : _ ∧ k_ ≠ gb311))) (fun _ hk => hk.2) (.int .i64 t308)) (fun _ hk => hk.2) (.int .i64 t309)) (fun _ h_ => h_.1))) hb); have n3_ := Aside0.mk (blk_below (g := gb294) (o := .cells #[.int .i64 a0_0, .int .i64 a0_1] 23 (0, 0)) (by (with_reducible repeat (first | refine blk_drewN ?_ _ | refine blk_drew ?_ | refine blk_alloc ?_ _)); refine blk_far ?_ NB294_311.out _; (with_reducible repeat (first | refine blk_drewN ?_ _ | refine blk_drew ?_ | refine blk_alloc ?_ _)); refine blk_far ?_ NB294_311.out _; (with_reducible repeat (first | refine blk_drewN ?_ _ | refine blk_drew ?_ | refine blk_alloc ?_ _)); exact BK294.out) hb); have n4_ := Aside0.mk (blk_below (g := gb295) (o := .cells #[.int .i64 a1_0, .int .i64 a1_1] 23 (0, 0)) (by (with_reducible repeat (first | refine blk_drewN ?_ _ | refine blk_drew ?_ | refine blk_alloc ?_ _)); refine blk_far ?_ NB295_311.out _; (with_reducible repeat (first | refine blk_drewN ?_ _ | refine blk_drew ?_ | refine blk_alloc ?_ _)); refine blk_far ?_ NB295_311.out _; (with_reducible repeat (first | refine blk_drewN ?_ _ | refine blk_drew ?_ | refine blk_alloc ?_ _)); exact BK295.out) hb); have n5_ := Aside0.mk (blk_below (g := gb311) (o := .cells #[.int .i64 t308, .int .i64 t309] 23 (0, 0)) (by (with_reducible repeat (first | refine blk_drewN ?_ _ | refine blk_drew ?_ | refine blk_alloc ?_ _)); refine blk_put (cs := #[.int .i64 t308, .int .i64 0]) ?_ 1 _ rfl; (with_reducible repeat (first | refine blk_drewN ?_ _ | refine blk_drew ?_ | refine blk_alloc ?_ _)); refine blk_put (cs := #[.int .i64 0, .int .i64 0]) ?_ 0 _ rfl; (with_reducible repeat (first | refine blk_drewN ?_ _ | refine blk_drew ?_ | refine blk_alloc ?_ _)); exact BK311.out) hb); have n6_ := Aside0.mk (below_step (by repeat (first | (with_reducible first | exact HB.out | apply below_alloc | apply pw_below_drewN | apply below_drew1 | refine below_set ?_ GE294.out | refine below_set ?_ GE295.out | refine below_set ?_ GE311.out) | exact HB.out)) hb); clear HO299; clear HO302; clear HO305; clear BK294; clear BK295; clear BK311; clear HB; have HO299 := n0_; have HO302 := n1_; have HO305 := n2_; have BK294 := n3_; have BK295 := n4_; have BK311 := n5_; have HB := n6_; clear n0_ n1_ n2_ n3_ n4_ n5_ n6_; (try clear hb); (try clear hb2); (try clear hk); (try clear hi)) | ((with_reducible refine gate_dst (N := 12) rfl ?_); refine box_event ?hg (N := 12) ?hd (cs := #[.int .i64 0, .int .i64 0]) (t := 23) ?hr ?_; (case hd => rfl); (case hg => rfl); (case hr => first | (go_simp; done) | (go_simp; rfl)); intro gb315 hg w46 hbox hb; have n0_ := Aside0.mk (Kd.R_below (Kd.R_elderB (by (with_reducible repeat (first | apply Kd.R_alloc | apply Kd.R_drewN | apply Kd.R_drew)); exact HO299.out) gb315 (Nat.le_of_eq hg.symm)) hb); have n1_ := Aside0.mk (Kd.R_below (Kd.R_elderB (by (with_reducible repeat (first | apply Kd.R_alloc | apply Kd.R_drewN | apply Kd.R_drew)); exact HO302.out) gb315 (Nat.le_of_eq hg.symm)) hb); have n2_ := Aside0.mk (Kd.R_below (Kd.R_elderB (by (with_reducible repeat (first | apply Kd.R_alloc | apply Kd.R_drewN | apply Kd.R_drew)); exact HO305.out) gb315 (Nat.le_of_eq hg.symm)) hb); have n3_ := Aside0.mk (blk_below (g := gb294) (o := .cells #[.int .i64 a0_0, .int .i64 a0_1] 23 (0, 0)) (by (with_reducible repeat (first | refine blk_drewN ?_ _ | refine blk_drew ?_ | refine blk_alloc ?_ _)); exact BK294.out) hb); have n4_ := Aside0.mk (blk_below (g := gb295) (o := .cells #[.int .i64 a1_0, .int .i64 a1_1] 23 (0, 0)) (by (with_reducible repeat (first | refine blk_drewN ?_ _ | refine blk_drew ?_ | refine blk_alloc ?_ _)); exact BK295.out) hb); have n5_ := Aside0.mk (blk_below (g := gb311) (o := .cells #[.int .i64 t308, .int .i64 t309] 23 (0, 0)) (by (with_reducible repeat (first | refine blk_drewN ?_ _ | refine blk_drew ?_ | refine blk_alloc ?_ _)); exact BK311.out) hb); have n6_ := Aside0.mk (below_step (by repeat (first | (with_reducible first | exact HB.out | apply below_alloc | apply pw_below_drewN | apply below_drew1 | refine below_set ?_ GE294.out | refine below_set ?_ GE295.out | refine below_set ?_ GE311.out) | exact HB.out)) hb); have n7_ := Aside0.mk (hbox); have n8_ := Aside0.mk ((by rw [hg]; exact (below_size (by repeat (first | (with_reducible first | exact HB.out | apply below_alloc | apply pw_below_drewN | apply below_drew1 | refine below_set ?_ GE294.out | refine below_set ?_ GE295.out | refine below_set ?_ GE311.out) | exact HB.out))) : w.heap.size ≤ gb315)); have n9_ := Aside0.mk ((by rw [hg]; exact (below_size (by repeat (first | (with_reducible first | exact HB.out | apply below_alloc | apply pw_below_drewN | apply below_drew1 | refine below_set ?_ GE294.out | refine below_set ?_ GE295.out | refine below_set ?_ GE311.out) | exact HB.out))) : w.heap.size ≤ gb315)); have n10_ := Aside0.mk ((by rw [hg]; exact Nat.ne_of_lt (blk_lt (g := gb294) (o := .cells #[.int .i64 a0_0, .int .i64 a0_1] 23 (0, 0)) (by (with_reducible repeat (first | refine blk_drewN ?_ _ | refine blk_drew ?_ | refine blk_alloc ?_ _)); exact BK294.out)) : gb294 ≠ gb315)); have n11_ := Aside0.mk ((by rw [hg]; exact Nat.ne_of_gt (blk_lt (g := gb294) (o := .cells #[.int .i64 a0_0, .int .i64 a0_1] 23 (0, 0)) (by (with_reducible repeat (first | refine blk_drewN ?_ _ | refine blk_drew ?_ | refine blk_alloc ?_ _)); exact BK294.out)) : gb315 ≠ gb294)); have n12_ := Aside0.mk ((by rw [hg]; exact Nat.ne_of_lt (blk_lt (g := gb295) (o := .cells #[.int .i64 a1_0, .int .i64 a1_1] 23 (0, 0)) (by (with_reducible repeat (first | refine blk_drewN ?_ _ | refine blk_drew ?_ | refine blk_alloc ?_ _)); exact BK295.out)) : gb295 ≠ gb315)); have n13_ := Aside0.mk ((by rw [hg]; exact Nat.ne_of_gt (blk_lt (g := gb295) (o := .cells #[.int .i64 a1_0, .int .i64 a1_1] 23 (0, 0)) (by (with_reducible repeat (first | refine blk_drewN ?_ _ | refine blk_drew ?_ | refine blk_alloc ?_ _)); exact BK295.out)) : gb315 ≠ gb295)); have n14_ := Aside0.mk ((by rw [hg]; exact Nat.ne_of_lt (blk_lt (g := gb311) (o := .cells #[.int .i64 t308, .int .i64 t309] 23 (0, 0)) (by (with_reducible repeat (first | refine blk_drewN ?_ _ | refine blk_drew ?_ | refine blk_alloc ?_ _)); exact BK311.out)) : gb311 ≠ gb315)); have n15_ := Aside0.mk ((by rw [hg]; exact Nat.ne_of_gt (blk_lt (g := gb311) (o := .cells #[.int .i64 t308, .int .i64 t309] 23 (0, 0)) (by (with_reducible repeat (first | refine blk_drewN ?_ _ | refine blk_drew ?_ | refine blk_alloc ?_ _)); exact BK311.out)) : gb315 ≠ gb311)); clear HO299; clear HO302; clear HO305; clear BK294; clear BK295; clear BK311; clear HB; have HO299 := n0_; have HO302 := n1_; have HO305 := n2_; have BK294 := n3_; have BK295 := n4_; have BK311 := n5_; have HB := n6_; have BK315 := n7_; have GW315 := n8_; have GE315 := n9_; have NB294_315 := n10_; have NB315_294 := n11_; have NB295_315 := n12_; have NB315_295 := n13_; have NB311_315 := n14_; have NB315_311 := n15_; clear n0_ n1_ n2_ n3_ n4_ n5_ n6_ n7_ n8_ n9_ n10_ n11_ n12_ n13_ n14_ n15_; clear hb hbox hg; have hnb47 := NB315_294.out; have hnc47 := NB294_315.out; have hnb48 := NB315_295.out; have hnc48 := NB295_315.out; have hnb49 := NB315_311.out; have hnc49 := NB311_315.out; have hcz50_0 : w46.cell? ⟨gb315, 0, none⟩ = some (.int .i64 0) := (blk_cell BK315.out 0).trans rfl; have hcz50_1 : w46.cell? ⟨gb315, 1, none⟩ = some (.int .i64 0) := (blk_cell BK315.out 1).trans rfl; have hfz50_0 := blk_frozen BK315.out 0; have hfz50_1 := blk_frozen BK315.out 1))
        have n0_ : Aside0 (Kd.R k23 23 ((w46.setCell ⟨gb315, 0, none⟩ (.int .i64 t312)).setCell ⟨gb315, 1, none⟩ (.int .i64 t313)) w.heap.size (fun k_ => some k_ ≠ (.slice Ao34 t300.length co34 : Value).ownBlock ∧ some k_ ≠ (.slice Ao35 t303.length co35 : Value).ownBlock ∧ k_ ≠ gb294 ∧ k_ ≠ gb295 ∧ k_ ≠ gb311 ∧ k_ ≠ gb315) (.slice Ao31 t297.length co31) t297) := ⟨by (with_reducible repeat (first | apply Kd.R_alloc | apply Kd.R_drewN | apply Kd.R_drew)); exact Kd.R_mono (Kd.R_far (p := ⟨gb315, 1, none⟩) (Kd.R_far (p := ⟨gb315, 0, none⟩) (Kd.R_mono HO299.out (fun k_ hk => (⟨hk, hk.2⟩ : _ ∧ k_ ≠ gb315))) (fun _ hk => hk.2) (.int .i64 t312)) (fun _ hk => hk.2) (.int .i64 t313)) (fun _ hk => ⟨hk.1.1.1.1, ⟨hk.1.1.1.2.1, ⟨hk.1.1.1.2.2.1, ⟨hk.1.1.1.2.2.2, ⟨hk.1.1.2, hk.1.2⟩⟩⟩⟩⟩)⟩
        have n1_ : Aside0 (Kd.R k23 23 ((w46.setCell ⟨gb315, 0, none⟩ (.int .i64 t312)).setCell ⟨gb315, 1, none⟩ (.int .i64 t313)) w.heap.size (fun k_ => some k_ ≠ (.slice Ao31 t297.length co31 : Value).ownBlock ∧ some k_ ≠ (.slice Ao35 t303.length co35 : Value).ownBlock ∧ k_ ≠ gb294 ∧ k_ ≠ gb295 ∧ k_ ≠ gb311 ∧ k_ ≠ gb315) (.slice Ao34 t300.length co34) t307) := ⟨by (with_reducible repeat (first | apply Kd.R_alloc | apply Kd.R_drewN | apply Kd.R_drew)); exact Kd.R_mono (Kd.R_far (p := ⟨gb315, 1, none⟩) (Kd.R_far (p := ⟨gb315, 0, none⟩) (Kd.R_mono HO302.out (fun k_ hk => (⟨hk, hk.2⟩ : _ ∧ k_ ≠ gb315))) (fun _ hk => hk.2) (.int .i64 t312)) (fun _ hk => hk.2) (.int .i64 t313)) (fun _ hk => ⟨hk.1.1.1.1.1.1.2, ⟨hk.1.1.1.2, ⟨hk.1.1.1.1.1.2, ⟨hk.1.1.1.1.2, ⟨hk.1.1.2, hk.1.2⟩⟩⟩⟩⟩)⟩
        have n2_ : Aside0 (Kd.R k23 23 ((w46.setCell ⟨gb315, 0, none⟩ (.int .i64 t312)).setCell ⟨gb315, 1, none⟩ (.int .i64 t313)) w.heap.size (fun k_ => some k_ ≠ (.slice Ao31 t297.length co31 : Value).ownBlock ∧ some k_ ≠ (.slice Ao34 t300.length co34 : Value).ownBlock ∧ k_ ≠ gb294 ∧ k_ ≠ gb295 ∧ k_ ≠ gb311 ∧ k_ ≠ gb315) (.slice Ao35 t303.length co35) t303) := ⟨by (with_reducible repeat (first | apply Kd.R_alloc | apply Kd.R_drewN | apply Kd.R_drew)); exact Kd.R_mono (Kd.R_far (p := ⟨gb315, 1, none⟩) (Kd.R_far (p := ⟨gb315, 0, none⟩) (Kd.R_mono HO305.out (fun k_ hk => (⟨hk, hk.2⟩ : _ ∧ k_ ≠ gb315))) (fun _ hk => hk.2) (.int .i64 t312)) (fun _ hk => hk.2) (.int .i64 t313)) (fun _ hk => ⟨hk.1.1.1.1, ⟨hk.1.1.1.2.1, ⟨hk.1.1.1.2.2.1, ⟨hk.1.1.1.2.2.2, ⟨hk.1.1.2, hk.1.2⟩⟩⟩⟩⟩)⟩
        have n3_ : Aside0 (((w46.setCell ⟨gb315, 0, none⟩ (.int .i64 t312)).setCell ⟨gb315, 1, none⟩ (.int .i64 t313)).heap[gb294]? = some (.cells #[.int .i64 a0_0, .int .i64 a0_1] 23 (0, 0))) := ⟨by (with_reducible repeat (first | refine blk_drewN ?_ _ | refine blk_drew ?_ | refine blk_alloc ?_ _)); refine blk_far ?_ NB294_315.out _; (with_reducible repeat (first | refine blk_drewN ?_ _ | refine blk_drew ?_ | refine blk_alloc ?_ _)); refine blk_far ?_ NB294_315.out _; (with_reducible repeat (first | refine blk_drewN ?_ _ | refine blk_drew ?_ | refine blk_alloc ?_ _)); exact BK294.out⟩
        have n4_ : Aside0 (((w46.setCell ⟨gb315, 0, none⟩ (.int .i64 t312)).setCell ⟨gb315, 1, none⟩ (.int .i64 t313)).heap[gb295]? = some (.cells #[.int .i64 a1_0, .int .i64 a1_1] 23 (0, 0))) := ⟨by (with_reducible repeat (first | refine blk_drewN ?_ _ | refine blk_drew ?_ | refine blk_alloc ?_ _)); refine blk_far ?_ NB295_315.out _; (with_reducible repeat (first | refine blk_drewN ?_ _ | refine blk_drew ?_ | refine blk_alloc ?_ _)); refine blk_far ?_ NB295_315.out _; (with_reducible repeat (first | refine blk_drewN ?_ _ | refine blk_drew ?_ | refine blk_alloc ?_ _)); exact BK295.out⟩
        have n5_ : Aside0 (((w46.setCell ⟨gb315, 0, none⟩ (.int .i64 t312)).setCell ⟨gb315, 1, none⟩ (.int .i64 t313)).heap[gb311]? = some (.cells #[.int .i64 t308, .int .i64 t309] 23 (0, 0))) := ⟨by (with_reducible repeat (first | refine blk_drewN ?_ _ | refine blk_drew ?_ | refine blk_alloc ?_ _)); refine blk_far ?_ NB311_315.out _; (with_reducible repeat (first | refine blk_drewN ?_ _ | refine blk_drew ?_ | refine blk_alloc ?_ _)); refine blk_far ?_ NB311_315.out _; (with_reducible repeat (first | refine blk_drewN ?_ _ | refine blk_drew ?_ | refine blk_alloc ?_ _)); exact BK311.out⟩
        have n6_ : Aside0 (((w46.setCell ⟨gb315, 0, none⟩ (.int .i64 t312)).setCell ⟨gb315, 1, none⟩ (.int .i64 t313)).heap[gb315]? = some (.cells #[.int .i64 t312, .int .i64 t313] 23 (0, 0))) := ⟨by (with_reducible repeat (first | refine blk_drewN ?_ _ | refine blk_drew ?_ | refine blk_alloc ?_ _)); refine blk_put (cs := #[.int .i64 t312, .int .i64 0]) ?_ 1 _ rfl; (with_reducible repeat (first | refine blk_drewN ?_ _ | refine blk_drew ?_ | refine blk_alloc ?_ _)); refine blk_put (cs := #[.int .i64 0, .int .i64 0]) ?_ 0 _ rfl; (with_reducible repeat (first | refine blk_drewN ?_ _ | refine blk_drew ?_ | refine blk_alloc ?_ _)); exact BK315.out⟩
        have n7_ : Aside0 (Below w.heap.size w ((w46.setCell ⟨gb315, 0, none⟩ (.int .i64 t312)).setCell ⟨gb315, 1, none⟩ (.int .i64 t313))) := ⟨by repeat (first | (with_reducible first | exact HB.out | apply below_alloc | apply pw_below_drewN | apply below_drew1 | refine below_set ?_ GE294.out | refine below_set ?_ GE295.out | refine below_set ?_ GE311.out | refine below_set ?_ GE315.out) | exact HB.out)⟩
        (try clear HO299)
        (try clear HO302)
        (try clear HO305)
        (try clear BK294)
        (try clear BK295)
        (try clear BK311)
        (try clear BK315)
        (try clear HB)
        generalize ((w46.setCell ⟨gb315, 0, none⟩ (.int .i64 t312)).setCell ⟨gb315, 1, none⟩ (.int .i64 t313)) = w51 at n0_ n1_ n2_ n3_ n4_ n5_ n6_ n7_ ⊢
        have HO299 := n0_
        have HO302 := n1_
        have HO305 := n2_
        have BK294 := n3_
        have BK295 := n4_
        have BK311 := n5_
        have BK315 := n6_
        have HB := n7_
        clear n0_ n1_ n2_ n3_ n4_ n5_ n6_ n7_
        have n0_ := Aside0.mk (Kd.R_drew HO299.out)
        have n1_ := Aside0.mk (Kd.R_drew HO302.out)
        have n2_ := Aside0.mk (Kd.R_drew HO305.out)
        have n3_ := Aside0.mk (blk_drew BK294.out)
        have n4_ := Aside0.mk (blk_drew BK295.out)
        have n5_ := Aside0.mk (blk_drew BK311.out)
        have n6_ := Aside0.mk (blk_drew BK315.out)
        have n7_ := Aside0.mk (below_drew1 HB.out)
        clear HO299
        clear HO302
        clear HO305
        clear BK294
        clear BK295
        clear BK311
        clear BK315
        clear HB
        have HO299 := n0_
        have HO302 := n1_
        have HO305 := n2_
        have BK294 := n3_
        have BK295 := n4_
        have BK311 := n5_
        have BK315 := n6_
        have HB := n7_
        clear n0_ n1_ n2_ n3_ n4_ n5_ n6_ n7_
        refine start_ (n := 36) (S := fun w' => w'.cell? ⟨gb311, 0, none⟩ = some (.int .i64 t308) ∧ w'.cell? ⟨gb311, 1, none⟩ = some (.int .i64 t309) ∧ w'.cell? ⟨gb315, 0, none⟩ = some (.int .i64 t312) ∧ w'.cell? ⟨gb315, 1, none⟩ = some (.int .i64 t313) ∧ w'.cell? ⟨gb294, 0, none⟩ = some (.int .i64 a0_0) ∧ w'.cell? ⟨gb294, 1, none⟩ = some (.int .i64 a0_1) ∧ w'.cell? ⟨gb295, 0, none⟩ = some (.int .i64 a1_0) ∧ w'.cell? ⟨gb295, 1, none⟩ = some (.int .i64 a1_1)) (ds := []) #[false, false, false, false, false, false, false, false, false, false, false, false, false, false, false, false, false, false, false, false, false, false, false, false, false, false, false, false, false, false, false, false, false, false, false, false] (by kernel_rfl) rfl rfl ⟨(blk_cell BK311.out 0).trans rfl, (blk_cell BK311.out 1).trans rfl, (blk_cell BK315.out 0).trans rfl, (blk_cell BK315.out 1).trans rfl, (blk_cell BK294.out 0).trans rfl, (blk_cell BK294.out 1).trans rfl, (blk_cell BK295.out 0).trans rfl, (blk_cell BK295.out 1).trans rfl⟩ (fun hHeld => ?_); refine with_tabW tributarylaw06_DotTells.tab9 tributarylaw06_DotTells.bits9 (fun HT_ HW_ => ?_)
        generalize w51.drew = w52 at HO299 HO302 HO305 BK294 BK295 BK311 BK315 HB hHeld ⊢
        refine pure_ (i := 0) (N := some 38) (v := ?_) (a' := ?_) #[true, false, false, false, false, false, false, false, false, false, false, false, false, false, false, false, false, false, false, false, false, false, false, false, false, false, false, false, false, false, false, false, false, false, false, false] rfl rfl (any_of HT_.out (by kernel_rfl)) (fun _ _ _ h => h) (Or.inl ⟨by rfl, ?_⟩) ?_ ?_
        rotate_left
        ·
         intro w'
         go_simp
         with_reducible rfl
        rotate_left
        ·
         simp only [Act.put, List.setIfInBounds_toArray, List.set_cons_zero, List.set_cons_succ, i64_w, i32_w]
         rfl
        refine pure_ (i := 1) (N := some 39) (v := ?_) (a' := ?_) #[true, true, false, false, false, false, false, false, false, false, false, false, false, false, false, false, false, false, false, false, false, false, false, false, false, false, false, false, false, false, false, false, false, false, false, false] rfl rfl (any_of HT_.out (by kernel_rfl)) (fun _ _ _ h => h) (Or.inl ⟨by rfl, ?_⟩) ?_ ?_
        rotate_left
        ·
         intro w'
         go_simp
         with_reducible rfl
        rotate_left
        ·
         simp only [Act.put, List.setIfInBounds_toArray, List.set_cons_zero, List.set_cons_succ, i64_w, i32_w]
         rfl
        refine take_ (i := 2) (N := some 40) (v := ?_) (a' := ?_) #[true, true, true, false, false, false, false, false, false, false, false, false, false, false, false, false, false, false, false, false, false, false, false, false, false, false, false, false, false, false, false, false, false, false, false, false] rfl rfl (take_ofW HT_.out HW_.out (by kernel_rfl)) (fun _ _ _ h => h) (Or.inl ⟨by rfl, ?_⟩) hHeld ?_ ?_
        rotate_left
        ·
         rintro w' ⟨s0, s1, s2, s3, s4, s5, s6, s7⟩
         go_simp
         with_reducible rfl
        rotate_left
        ·
         simp only [Act.put, List.setIfInBounds_toArray, List.set_cons_zero, List.set_cons_succ, i64_w, i32_w]
         rfl
        refine take_ (i := 3) (N := some 41) (v := ?_) (a' := ?_) #[true, true, true, true, false, false, false, false, false, false, false, false, false, false, false, false, false, false, false, false, false, false, false, false, false, false, false, false, false, false, false, false, false, false, false, false] rfl rfl (take_ofW HT_.out HW_.out (by kernel_rfl)) (fun _ _ _ h => h) (Or.inl ⟨by rfl, ?_⟩) hHeld ?_ ?_
        rotate_left
        ·
         rintro w' ⟨s0, s1, s2, s3, s4, s5, s6, s7⟩
         go_simp
         with_reducible rfl
        rotate_left
        ·
         simp only [Act.put, List.setIfInBounds_toArray, List.set_cons_zero, List.set_cons_succ, i64_w, i32_w]
         rfl
        refine pure_ (i := 4) (N := some 42) (v := ?_) (a' := ?_) #[true, true, true, true, true, false, false, false, false, false, false, false, false, false, false, false, false, false, false, false, false, false, false, false, false, false, false, false, false, false, false, false, false, false, false, false] rfl rfl (any_of HT_.out (by kernel_rfl)) (fun _ _ _ h => h) (Or.inl ⟨by rfl, ?_⟩) ?_ ?_
        rotate_left
        ·
         intro w'
         go_simp
         with_reducible rfl
        rotate_left
        ·
         simp only [Act.put, List.setIfInBounds_toArray, List.set_cons_zero, List.set_cons_succ, i64_w, i32_w]
         rfl
        refine pure_ (i := 5) (N := some 43) (v := ?_) (a' := ?_) #[true, true, true, true, true, true, false, false, false, false, false, false, false, false, false, false, false, false, false, false, false, false, false, false, false, false, false, false, false, false, false, false, false, false, false, false] rfl rfl (any_of HT_.out (by kernel_rfl)) (fun _ _ _ h => h) (Or.inl ⟨by rfl, ?_⟩) ?_ ?_
        rotate_left
        ·
         intro w'
         go_simp
         with_reducible rfl
        rotate_left
        ·
         simp only [Act.put, List.setIfInBounds_toArray, List.set_cons_zero, List.set_cons_succ, i64_w, i32_w]
         rfl
        refine pure_ (i := 6) (N := some 44) (v := ?_) (a' := ?_) #[true, true, true, true, true, true, true, false, false, false, false, false, false, false, false, false, false, false, false, false, false, false, false, false, false, false, false, false, false, false, false, false, false, false, false, false] rfl rfl (any_of HT_.out (by kernel_rfl)) (fun _ _ _ h => h) (Or.inl ⟨by rfl, ?_⟩) ?_ ?_
        rotate_left
        ·
         intro w'
         go_simp
         with_reducible rfl
        rotate_left
        ·
         simp only [Act.put, List.setIfInBounds_toArray, List.set_cons_zero, List.set_cons_succ, i64_w, i32_w]
         rfl
        refine pure_ (i := 7) (N := some 45) (v := ?_) (a' := ?_) #[true, true, true, true, true, true, true, true, false, false, false, false, false, false, false, false, false, false, false, false, false, false, false, false, false, false, false, false, false, false, false, false, false, false, false, false] rfl rfl (any_of HT_.out (by kernel_rfl)) (fun _ _ _ h => h) (Or.inl ⟨by rfl, ?_⟩) ?_ ?_
        rotate_left
        ·
         intro w'
         go_simp
         with_reducible rfl
        rotate_left
        ·
         simp only [Act.put, List.setIfInBounds_toArray, List.set_cons_zero, List.set_cons_succ, i64_w, i32_w]
         rfl
        refine pure_ (i := 8) (N := some 46) (v := ?_) (a' := ?_) #[true, true, true, true, true, true, true, true, true, false, false, false, false, false, false, false, false, false, false, false, false, false, false, false, false, false, false, false, false, false, false, false, false, false, false, false] rfl rfl (any_of HT_.out (by kernel_rfl)) (fun _ _ _ h => h) (Or.inl ⟨by rfl, ?_⟩) ?_ ?_
        rotate_left
        ·
         intro w'
         go_simp
         with_reducible rfl
        rotate_left
        ·
         simp only [Act.put, List.setIfInBounds_toArray, List.set_cons_zero, List.set_cons_succ, i64_w, i32_w]
         rfl
        refine pure_ (i := 9) (N := some 47) (v := ?_) (a' := ?_) #[true, true, true, true, true, true, true, true, true, true, false, false, false, false, false, false, false, false, false, false, false, false, false, false, false, false, false, false, false, false, false, false, false, false, false, false] rfl rfl (any_of HT_.out (by kernel_rfl)) (fun _ _ _ h => h) (Or.inl ⟨by rfl, ?_⟩) ?_ ?_
        rotate_left
        ·
         intro w'
         go_simp
         with_reducible rfl
        rotate_left
        ·
         simp only [Act.put, List.setIfInBounds_toArray, List.set_cons_zero, List.set_cons_succ, i64_w, i32_w]
         rfl
        refine pure_ (i := 10) (N := some 48) (v := ?_) (a' := ?_) #[true, true, true, true, true, true, true, true, true, true, true, false, false, false, false, false, false, false, false, false, false, false, false, false, false, false, false, false, false, false, false, false, false, false, false, false] rfl rfl (any_of HT_.out (by kernel_rfl)) (fun _ _ _ h => h) (Or.inl ⟨by rfl, ?_⟩) ?_ ?_
        rotate_left
        ·
         intro w'
         go_simp
         with_reducible rfl
        rotate_left
        ·
         simp only [Act.put, List.setIfInBounds_toArray, List.set_cons_zero, List.set_cons_succ, i64_w, i32_w]
         rfl
        refine pure_ (i := 11) (N := some 49) (v := ?_) (a' := ?_) #[true, true, true, true, true, true, true, true, true, true, true, true, false, false, false, false, false, false, false, false, false, false, false, false, false, false, false, false, false, false, false, false, false, false, false, false] rfl rfl (any_of HT_.out (by kernel_rfl)) (fun _ _ _ h => h) (Or.inl ⟨by rfl, ?_⟩) ?_ ?_
        rotate_left
        ·
         intro w'
         go_simp
         with_reducible rfl
        rotate_left
        ·
         simp only [Act.put, List.setIfInBounds_toArray, List.set_cons_zero, List.set_cons_succ, i64_w, i32_w]
         rfl
        refine take_ (i := 12) (N := some 50) (v := ?_) (a' := ?_) #[true, true, true, true, true, true, true, true, true, true, true, true, true, false, false, false, false, false, false, false, false, false, false, false, false, false, false, false, false, false, false, false, false, false, false, false] rfl rfl (take_ofW HT_.out HW_.out (by kernel_rfl)) (fun _ _ _ h => h) (Or.inl ⟨by rfl, ?_⟩) hHeld ?_ ?_
        rotate_left
        ·
         rintro w' ⟨s0, s1, s2, s3, s4, s5, s6, s7⟩
         go_simp
         with_reducible rfl
        rotate_left
        ·
         simp only [Act.put, List.setIfInBounds_toArray, List.set_cons_zero, List.set_cons_succ, i64_w, i32_w]
         rfl
        refine take_ (i := 14) (N := some 52) (v := ?_) (a' := ?_) #[true, true, true, true, true, true, true, true, true, true, true, true, true, false, true, false, false, false, false, false, false, false, false, false, false, false, false, false, false, false, false, false, false, false, false, false] rfl rfl (take_ofW HT_.out HW_.out (by kernel_rfl)) (fun _ _ _ h => h) (Or.inl ⟨by rfl, ?_⟩) hHeld ?_ ?_
        rotate_left
        ·
         rintro w' ⟨s0, s1, s2, s3, s4, s5, s6, s7⟩
         go_simp
         with_reducible rfl
        rotate_left
        ·
         simp only [Act.put, List.setIfInBounds_toArray, List.set_cons_zero, List.set_cons_succ, i64_w, i32_w]
         rfl
        refine one_ (i := 13) (N := some 51) #[true, true, true, true, true, true, true, true, true, true, true, true, true, true, true, false, false, false, false, false, false, false, false, false, false, false, false, false, false, false, false, false, false, false, false, false] rfl rfl (one_of HT_.out (by kernel_rfl)) (by decide) (fun K hK => ?_)
        refine goes_ Tryd.func24 (by kernel_rfl) rfl #[.agg #[.int .i64 a0_0, .int .i64 a0_1]] (by rfl) rfl rfl (by (try simp only [List.map_toArray, List.map_cons, List.map_nil]); first | done | rfl | (simp only [List.length_drop, List.length_take]; rfl)) ?_
        with_reducible refine (dot_Check.calls a0_0 a0_1 t316 _ A19.out).mono ?_
        rintro e w53 ⟨rfl, hb⟩
        refine ⟨_, rfl, ?_⟩
        have n0_ := Aside0.mk (Kd.R_below (by (with_reducible repeat (first | apply Kd.R_alloc | apply Kd.R_drewN | apply Kd.R_drew)); exact HO299.out) hb)
        have n1_ := Aside0.mk (Kd.R_below (by (with_reducible repeat (first | apply Kd.R_alloc | apply Kd.R_drewN | apply Kd.R_drew)); exact HO302.out) hb)
        have n2_ := Aside0.mk (Kd.R_below (by (with_reducible repeat (first | apply Kd.R_alloc | apply Kd.R_drewN | apply Kd.R_drew)); exact HO305.out) hb)
        have n3_ := Aside0.mk (blk_below (g := gb294) (o := .cells #[.int .i64 a0_0, .int .i64 a0_1] 23 (0, 0)) (by (with_reducible repeat (first | refine blk_drewN ?_ _ | refine blk_drew ?_ | refine blk_alloc ?_ _)); exact BK294.out) hb)
        have n4_ := Aside0.mk (blk_below (g := gb295) (o := .cells #[.int .i64 a1_0, .int .i64 a1_1] 23 (0, 0)) (by (with_reducible repeat (first | refine blk_drewN ?_ _ | refine blk_drew ?_ | refine blk_alloc ?_ _)); exact BK295.out) hb)
        have n5_ := Aside0.mk (blk_below (g := gb311) (o := .cells #[.int .i64 t308, .int .i64 t309] 23 (0, 0)) (by (with_reducible repeat (first | refine blk_drewN ?_ _ | refine blk_drew ?_ | refine blk_alloc ?_ _)); exact BK311.out) hb)
        have n6_ := Aside0.mk (blk_below (g := gb315) (o := .cells #[.int .i64 t312, .int .i64 t313] 23 (0, 0)) (by (with_reducible repeat (first | refine blk_drewN ?_ _ | refine blk_drew ?_ | refine blk_alloc ?_ _)); exact BK315.out) hb)
        have n7_ := Aside0.mk (below_step (by repeat (first | (with_reducible first | exact HB.out | apply below_alloc | apply pw_below_drewN | apply below_drew1 | refine below_set ?_ GE294.out | refine below_set ?_ GE295.out | refine below_set ?_ GE311.out | refine below_set ?_ GE315.out) | exact HB.out)) hb)
        clear HO299
        clear HO302
        clear HO305
        clear BK294
        clear BK295
        clear BK311
        clear BK315
        clear HB
        have HO299 := n0_
        have HO302 := n1_
        have HO305 := n2_
        have BK294 := n3_
        have BK295 := n4_
        have BK311 := n5_
        have BK315 := n6_
        have HB := n7_
        clear n0_ n1_ n2_ n3_ n4_ n5_ n6_ n7_
        (try clear hb)
        (try clear hb2)
        (try clear hk)
        (try clear hi)
        refine hK.out _ _ ⟨(blk_cell BK311.out 0).trans rfl, (blk_cell BK311.out 1).trans rfl, (blk_cell BK315.out 0).trans rfl, (blk_cell BK315.out 1).trans rfl, (blk_cell BK294.out 0).trans rfl, (blk_cell BK294.out 1).trans rfl, (blk_cell BK295.out 0).trans rfl, (blk_cell BK295.out 1).trans rfl⟩ (fun hHeld => ?_)
        clear hK K
        refine norm_ (a' := ?_) ?_ ?_
        rotate_left
        ·
         show Act.put _ (some 51) _ = _
         simp only [Act.put, List.setIfInBounds_toArray, List.set_cons_zero, List.set_cons_succ, i64_w, i32_w]
         rfl
        refine one_ (i := 15) (N := some 53) #[true, true, true, true, true, true, true, true, true, true, true, true, true, true, true, true, false, false, false, false, false, false, false, false, false, false, false, false, false, false, false, false, false, false, false, false] rfl rfl (one_of HT_.out (by kernel_rfl)) (by decide) (fun K hK => ?_)
        refine goes_ Tryd.func31 (by kernel_rfl) rfl #[.agg #[.int .i64 a0_0, .int .i64 a0_1]] (by rfl) rfl rfl (by (try simp only [List.map_toArray, List.map_cons, List.map_nil]); first | done | rfl | (simp only [List.length_drop, List.length_take]; rfl)) ?_
        with_reducible refine (tributaryref06_Check.calls a0_0 a0_1 t317 _ A20.out).mono ?_
        rintro e w54 ⟨rfl, hb⟩
        refine ⟨_, rfl, ?_⟩
        have n0_ := Aside0.mk (Kd.R_below (by (with_reducible repeat (first | apply Kd.R_alloc | apply Kd.R_drewN | apply Kd.R_drew)); exact HO299.out) hb)
        have n1_ := Aside0.mk (Kd.R_below (by (with_reducible repeat (first | apply Kd.R_alloc | apply Kd.R_drewN | apply Kd.R_drew)); exact HO302.out) hb)
        have n2_ := Aside0.mk (Kd.R_below (by (with_reducible repeat (first | apply Kd.R_alloc | apply Kd.R_drewN | apply Kd.R_drew)); exact HO305.out) hb)
        have n3_ := Aside0.mk (blk_below (g := gb294) (o := .cells #[.int .i64 a0_0, .int .i64 a0_1] 23 (0, 0)) (by (with_reducible repeat (first | refine blk_drewN ?_ _ | refine blk_drew ?_ | refine blk_alloc ?_ _)); exact BK294.out) hb)
        have n4_ := Aside0.mk (blk_below (g := gb295) (o := .cells #[.int .i64 a1_0, .int .i64 a1_1] 23 (0, 0)) (by (with_reducible repeat (first | refine blk_drewN ?_ _ | refine blk_drew ?_ | refine blk_alloc ?_ _)); exact BK295.out) hb)
        have n5_ := Aside0.mk (blk_below (g := gb311) (o := .cells #[.int .i64 t308, .int .i64 t309] 23 (0, 0)) (by (with_reducible repeat (first | refine blk_drewN ?_ _ | refine blk_drew ?_ | refine blk_alloc ?_ _)); exact BK311.out) hb)
        have n6_ := Aside0.mk (blk_below (g := gb315) (o := .cells #[.int .i64 t312, .int .i64 t313] 23 (0, 0)) (by (with_reducible repeat (first | refine blk_drewN ?_ _ | refine blk_drew ?_ | refine blk_alloc ?_ _)); exact BK315.out) hb)
        have n7_ := Aside0.mk (below_step (by repeat (first | (with_reducible first | exact HB.out | apply below_alloc | apply pw_below_drewN | apply below_drew1 | refine below_set ?_ GE294.out | refine below_set ?_ GE295.out | refine below_set ?_ GE311.out | refine below_set ?_ GE315.out) | exact HB.out)) hb)
        clear HO299
        clear HO302
        clear HO305
        clear BK294
        clear BK295
        clear BK311
        clear BK315
        clear HB
        have HO299 := n0_
        have HO302 := n1_
        have HO305 := n2_
        have BK294 := n3_
        have BK295 := n4_
        have BK311 := n5_
        have BK315 := n6_
        have HB := n7_
        clear n0_ n1_ n2_ n3_ n4_ n5_ n6_ n7_
        (try clear hb)
        (try clear hb2)
        (try clear hk)
        (try clear hi)
        refine hK.out _ _ ⟨(blk_cell BK311.out 0).trans rfl, (blk_cell BK311.out 1).trans rfl, (blk_cell BK315.out 0).trans rfl, (blk_cell BK315.out 1).trans rfl, (blk_cell BK294.out 0).trans rfl, (blk_cell BK294.out 1).trans rfl, (blk_cell BK295.out 0).trans rfl, (blk_cell BK295.out 1).trans rfl⟩ (fun hHeld => ?_)
        clear hK K
        refine norm_ (a' := ?_) ?_ ?_
        rotate_left
        ·
         show Act.put _ (some 53) _ = _
         simp only [Act.put, List.setIfInBounds_toArray, List.set_cons_zero, List.set_cons_succ, i64_w, i32_w]
         rfl
        refine pure_ (i := 16) (N := some 54) (v := ?_) (a' := ?_) #[true, true, true, true, true, true, true, true, true, true, true, true, true, true, true, true, true, false, false, false, false, false, false, false, false, false, false, false, false, false, false, false, false, false, false, false] rfl rfl (any_of HT_.out (by kernel_rfl)) (fun _ _ _ h => h) (Or.inl ⟨by rfl, ?_⟩) ?_ ?_
        rotate_left
        ·
         intro w'
         go_simp
         with_reducible rfl
        rotate_left
        ·
         simp only [Act.put, List.setIfInBounds_toArray, List.set_cons_zero, List.set_cons_succ, i64_w, i32_w]
         rfl
        refine pure_ (i := 17) (N := some 55) (v := ?_) (a' := ?_) #[true, true, true, true, true, true, true, true, true, true, true, true, true, true, true, true, true, true, false, false, false, false, false, false, false, false, false, false, false, false, false, false, false, false, false, false] rfl rfl (any_of HT_.out (by kernel_rfl)) (fun _ _ _ h => h) (Or.inl ⟨by rfl, ?_⟩) ?_ ?_
        rotate_left
        ·
         intro w'
         go_simp
         with_reducible rfl
        rotate_left
        ·
         simp only [Act.put, List.setIfInBounds_toArray, List.set_cons_zero, List.set_cons_succ, i64_w, i32_w]
         rfl
        refine pure_ (i := 18) (N := some 56) (v := ?_) (a' := ?_) #[true, true, true, true, true, true, true, true, true, true, true, true, true, true, true, true, true, true, true, false, false, false, false, false, false, false, false, false, false, false, false, false, false, false, false, false] rfl rfl (any_of HT_.out (by kernel_rfl)) (fun _ _ _ h => h) (Or.inl ⟨by rfl, ?_⟩) ?_ ?_
        rotate_left
        ·
         intro w'
         go_simp
         with_reducible rfl
        rotate_left
        ·
         simp only [Act.put, List.setIfInBounds_toArray, List.set_cons_zero, List.set_cons_succ, i64_w, i32_w]
         rfl
        refine take_ (i := 19) (N := some 57) (v := ?_) (a' := ?_) #[true, true, true, true, true, true, true, true, true, true, true, true, true, true, true, true, true, true, true, true, false, false, false, false, false, false, false, false, false, false, false, false, false, false, false, false] rfl rfl (take_ofW HT_.out HW_.out (by kernel_rfl)) (fun _ _ _ h => h) (Or.inl ⟨by rfl, ?_⟩) hHeld ?_ ?_
        rotate_left
        ·
         rintro w' ⟨s0, s1, s2, s3, s4, s5, s6, s7⟩
         go_simp
         with_reducible rfl
        rotate_left
        ·
         simp only [Act.put, List.setIfInBounds_toArray, List.set_cons_zero, List.set_cons_succ, i64_w, i32_w]
         rfl
        refine take_ (i := 20) (N := some 58) (v := ?_) (a' := ?_) #[true, true, true, true, true, true, true, true, true, true, true, true, true, true, true, true, true, true, true, true, true, false, false, false, false, false, false, false, false, false, false, false, false, false, false, false] rfl rfl (take_ofW HT_.out HW_.out (by kernel_rfl)) (fun _ _ _ h => h) (Or.inl ⟨by rfl, ?_⟩) hHeld ?_ ?_
        rotate_left
        ·
         rintro w' ⟨s0, s1, s2, s3, s4, s5, s6, s7⟩
         go_simp
         with_reducible rfl
        rotate_left
        ·
         simp only [Act.put, List.setIfInBounds_toArray, List.set_cons_zero, List.set_cons_succ, i64_w, i32_w]
         rfl
        refine take_ (i := 22) (N := some 60) (v := ?_) (a' := ?_) #[true, true, true, true, true, true, true, true, true, true, true, true, true, true, true, true, true, true, true, true, true, false, true, false, false, false, false, false, false, false, false, false, false, false, false, false] rfl rfl (take_ofW HT_.out HW_.out (by kernel_rfl)) (fun _ _ _ h => h) (Or.inl ⟨by rfl, ?_⟩) hHeld ?_ ?_
        rotate_left
        ·
         rintro w' ⟨s0, s1, s2, s3, s4, s5, s6, s7⟩
         go_simp
         with_reducible rfl
        rotate_left
        ·
         simp only [Act.put, List.setIfInBounds_toArray, List.set_cons_zero, List.set_cons_succ, i64_w, i32_w]
         rfl
        refine take_ (i := 23) (N := some 61) (v := ?_) (a' := ?_) #[true, true, true, true, true, true, true, true, true, true, true, true, true, true, true, true, true, true, true, true, true, false, true, true, false, false, false, false, false, false, false, false, false, false, false, false] rfl rfl (take_ofW HT_.out HW_.out (by kernel_rfl)) (fun _ _ _ h => h) (Or.inl ⟨by rfl, ?_⟩) hHeld ?_ ?_
        rotate_left
        ·
         rintro w' ⟨s0, s1, s2, s3, s4, s5, s6, s7⟩
         go_simp
         with_reducible rfl
        rotate_left
        ·
         simp only [Act.put, List.setIfInBounds_toArray, List.set_cons_zero, List.set_cons_succ, i64_w, i32_w]
         rfl
        refine one_ (i := 21) (N := some 59) #[true, true, true, true, true, true, true, true, true, true, true, true, true, true, true, true, true, true, true, true, true, true, true, true, false, false, false, false, false, false, false, false, false, false, false, false] rfl rfl (one_of HT_.out (by kernel_rfl)) (by decide) (fun K hK => ?_)
        refine goes_ Tryd.func22 (by kernel_rfl) rfl #[.agg #[.int .i64 a0_0, .int .i64 a0_1], .agg #[.int .i64 a1_0, .int .i64 a1_1]] (by rfl) rfl rfl (by (try simp only [List.map_toArray, List.map_cons, List.map_nil]); first | done | rfl | (simp only [List.length_drop, List.length_take]; rfl)) ?_
        with_reducible refine (dot_Less.calls k a0_0 a0_1 a1_0 a1_1 t318 _ A22.out).mono ?_
        rintro e w55 ⟨rfl, hb⟩
        refine ⟨_, rfl, ?_⟩
        have n0_ := Aside0.mk (Kd.R_below (by (with_reducible repeat (first | apply Kd.R_alloc | apply Kd.R_drewN | apply Kd.R_drew)); exact HO299.out) hb)
        have n1_ := Aside0.mk (Kd.R_below (by (with_reducible repeat (first | apply Kd.R_alloc | apply Kd.R_drewN | apply Kd.R_drew)); exact HO302.out) hb)
        have n2_ := Aside0.mk (Kd.R_below (by (with_reducible repeat (first | apply Kd.R_alloc | apply Kd.R_drewN | apply Kd.R_drew)); exact HO305.out) hb)
        have n3_ := Aside0.mk (blk_below (g := gb294) (o := .cells #[.int .i64 a0_0, .int .i64 a0_1] 23 (0, 0)) (by (with_reducible repeat (first | refine blk_drewN ?_ _ | refine blk_drew ?_ | refine blk_alloc ?_ _)); exact BK294.out) hb)
        have n4_ := Aside0.mk (blk_below (g := gb295) (o := .cells #[.int .i64 a1_0, .int .i64 a1_1] 23 (0, 0)) (by (with_reducible repeat (first | refine blk_drewN ?_ _ | refine blk_drew ?_ | refine blk_alloc ?_ _)); exact BK295.out) hb)
        have n5_ := Aside0.mk (blk_below (g := gb311) (o := .cells #[.int .i64 t308, .int .i64 t309] 23 (0, 0)) (by (with_reducible repeat (first | refine blk_drewN ?_ _ | refine blk_drew ?_ | refine blk_alloc ?_ _)); exact BK311.out) hb)
        have n6_ := Aside0.mk (blk_below (g := gb315) (o := .cells #[.int .i64 t312, .int .i64 t313] 23 (0, 0)) (by (with_reducible repeat (first | refine blk_drewN ?_ _ | refine blk_drew ?_ | refine blk_alloc ?_ _)); exact BK315.out) hb)
        have n7_ := Aside0.mk (below_step (by repeat (first | (with_reducible first | exact HB.out | apply below_alloc | apply pw_below_drewN | apply below_drew1 | refine below_set ?_ GE294.out | refine below_set ?_ GE295.out | refine below_set ?_ GE311.out | refine below_set ?_ GE315.out) | exact HB.out)) hb)
        clear HO299
        clear HO302
        clear HO305
        clear BK294
        clear BK295
        clear BK311
        clear BK315
        clear HB
        have HO299 := n0_
        have HO302 := n1_
        have HO305 := n2_
        have BK294 := n3_
        have BK295 := n4_
        have BK311 := n5_
        have BK315 := n6_
        have HB := n7_
        clear n0_ n1_ n2_ n3_ n4_ n5_ n6_ n7_
        (try clear hb)
        (try clear hb2)
        (try clear hk)
        (try clear hi)
        refine hK.out _ _ ⟨(blk_cell BK311.out 0).trans rfl, (blk_cell BK311.out 1).trans rfl, (blk_cell BK315.out 0).trans rfl, (blk_cell BK315.out 1).trans rfl, (blk_cell BK294.out 0).trans rfl, (blk_cell BK294.out 1).trans rfl, (blk_cell BK295.out 0).trans rfl, (blk_cell BK295.out 1).trans rfl⟩ (fun hHeld => ?_)
        clear hK K
        refine norm_ (a' := ?_) ?_ ?_
        rotate_left
        ·
         show Act.put _ (some 59) _ = _
         simp only [Act.put, List.setIfInBounds_toArray, List.set_cons_zero, List.set_cons_succ, i64_w, i32_w]
         rfl
        refine one_ (i := 24) (N := some 62) #[true, true, true, true, true, true, true, true, true, true, true, true, true, true, true, true, true, true, true, true, true, true, true, true, true, false, false, false, false, false, false, false, false, false, false, false] rfl rfl (one_of HT_.out (by kernel_rfl)) (by decide) (fun K hK => ?_)
        refine goes_ Tryd.func32 (by kernel_rfl) rfl #[.agg #[.int .i64 a0_0, .int .i64 a0_1], .agg #[.int .i64 a1_0, .int .i64 a1_1]] (by rfl) rfl rfl (by (try simp only [List.map_toArray, List.map_cons, List.map_nil]); first | done | rfl | (simp only [List.length_drop, List.length_take]; rfl)) ?_
        with_reducible refine (tributaryref06_Less.calls a0_0 a0_1 a1_0 a1_1 t319 _ A23.out).mono ?_
        rintro e w56 ⟨rfl, hb⟩
        refine ⟨_, rfl, ?_⟩
        have n0_ := Aside0.mk (Kd.R_below (by (with_reducible repeat (first | apply Kd.R_alloc | apply Kd.R_drewN | apply Kd.R_drew)); exact HO299.out) hb)
        have n1_ := Aside0.mk (Kd.R_below (by (with_reducible repeat (first | apply Kd.R_alloc | apply Kd.R_drewN | apply Kd.R_drew)); exact HO302.out) hb)
        have n2_ := Aside0.mk (Kd.R_below (by (with_reducible repeat (first | apply Kd.R_alloc | apply Kd.R_drewN | apply Kd.R_drew)); exact HO305.out) hb)
        have n3_ := Aside0.mk (blk_below (g := gb294) (o := .cells #[.int .i64 a0_0, .int .i64 a0_1] 23 (0, 0)) (by (with_reducible repeat (first | refine blk_drewN ?_ _ | refine blk_drew ?_ | refine blk_alloc ?_ _)); exact BK294.out) hb)
        have n4_ := Aside0.mk (blk_below (g := gb295) (o := .cells #[.int .i64 a1_0, .int .i64 a1_1] 23 (0, 0)) (by (with_reducible repeat (first | refine blk_drewN ?_ _ | refine blk_drew ?_ | refine blk_alloc ?_ _)); exact BK295.out) hb)
        have n5_ := Aside0.mk (blk_below (g := gb311) (o := .cells #[.int .i64 t308, .int .i64 t309] 23 (0, 0)) (by (with_reducible repeat (first | refine blk_drewN ?_ _ | refine blk_drew ?_ | refine blk_alloc ?_ _)); exact BK311.out) hb)
        have n6_ := Aside0.mk (blk_below (g := gb315) (o := .cells #[.int .i64 t312, .int .i64 t313] 23 (0, 0)) (by (with_reducible repeat (first | refine blk_drewN ?_ _ | refine blk_drew ?_ | refine blk_alloc ?_ _)); exact BK315.out) hb)
        have n7_ := Aside0.mk (below_step (by repeat (first | (with_reducible first | exact HB.out | apply below_alloc | apply pw_below_drewN | apply below_drew1 | refine below_set ?_ GE294.out | refine below_set ?_ GE295.out | refine below_set ?_ GE311.out | refine below_set ?_ GE315.out) | exact HB.out)) hb)
        clear HO299
        clear HO302
        clear HO305
        clear BK294
        clear BK295
        clear BK311
        clear BK315
        clear HB
        have HO299 := n0_
        have HO302 := n1_
        have HO305 := n2_
        have BK294 := n3_
        have BK295 := n4_
        have BK311 := n5_
        have BK315 := n6_
        have HB := n7_
        clear n0_ n1_ n2_ n3_ n4_ n5_ n6_ n7_
        (try clear hb)
        (try clear hb2)
        (try clear hk)
        (try clear hi)
        refine hK.out _ _ ⟨(blk_cell BK311.out 0).trans rfl, (blk_cell BK311.out 1).trans rfl, (blk_cell BK315.out 0).trans rfl, (blk_cell BK315.out 1).trans rfl, (blk_cell BK294.out 0).trans rfl, (blk_cell BK294.out 1).trans rfl, (blk_cell BK295.out 0).trans rfl, (blk_cell BK295.out 1).trans rfl⟩ (fun hHeld => ?_)
        clear hK K
        refine norm_ (a' := ?_) ?_ ?_
        rotate_left
        ·
         show Act.put _ (some 62) _ = _
         simp only [Act.put, List.setIfInBounds_toArray, List.set_cons_zero, List.set_cons_succ, i64_w, i32_w]
         rfl
        refine pure_ (i := 25) (N := some 63) (v := ?_) (a' := ?_) #[true, true, true, true, true, true, true, true, true, true, true, true, true, true, true, true, true, true, true, true, true, true, true, true, true, true, false, false, false, false, false, false, false, false, false, false] rfl rfl (any_of HT_.out (by kernel_rfl)) (fun _ _ _ h => h) (Or.inl ⟨by rfl, ?_⟩) ?_ ?_
        rotate_left
        ·
         intro w'
         go_simp
         with_reducible rfl
        rotate_left
        ·
         simp only [Act.put, List.setIfInBounds_toArray, List.set_cons_zero, List.set_cons_succ, i64_w, i32_w]
         rfl
        refine pure_ (i := 26) (N := some 64) (v := ?_) (a' := ?_) #[true, true, true, true, true, true, true, true, true, true, true, true, true, true, true, true, true, true, true, true, true, true, true, true, true, true, true, false, false, false, false, false, false, false, false, false] rfl rfl (any_of HT_.out (by kernel_rfl)) (fun _ _ _ h => h) (Or.inl ⟨by rfl, ?_⟩) ?_ ?_
        rotate_left
        ·
         intro w'
         go_simp
         with_reducible rfl
        rotate_left
        ·
         simp only [Act.put, List.setIfInBounds_toArray, List.set_cons_zero, List.set_cons_succ, i64_w, i32_w]
         rfl
        refine pure_ (i := 27) (N := some 65) (v := ?_) (a' := ?_) #[true, true, true, true, true, true, true, true, true, true, true, true, true, true, true, true, true, true, true, true, true, true, true, true, true, true, true, true, false, false, false, false, false, false, false, false] rfl rfl (any_of HT_.out (by kernel_rfl)) (fun _ _ _ h => h) (Or.inl ⟨by rfl, ?_⟩) ?_ ?_
        rotate_left
        ·
         intro w'
         go_simp
         with_reducible rfl
        rotate_left
        ·
         simp only [Act.put, List.setIfInBounds_toArray, List.set_cons_zero, List.set_cons_succ, i64_w, i32_w]
         rfl
        refine pure_ (i := 28) (N := some 66) (v := ?_) (a' := ?_) #[true, true, true, true, true, true, true, true, true, true, true, true, true, true, true, true, true, true, true, true, true, true, true, true, true, true, true, true, true, false, false, false, false, false, false, false] rfl rfl (any_of HT_.out (by kernel_rfl)) (fun _ _ _ h => h) (Or.inl ⟨by rfl, ?_⟩) ?_ ?_
        rotate_left
        ·
         intro w'
         go_simp
         with_reducible rfl
        rotate_left
        ·
         simp only [Act.put, List.setIfInBounds_toArray, List.set_cons_zero, List.set_cons_succ, i64_w, i32_w]
         rfl
        refine pure_ (i := 29) (N := some 67) (v := ?_) (a' := ?_) #[true, true, true, true, true, true, true, true, true, true, true, true, true, true, true, true, true, true, true, true, true, true, true, true, true, true, true, true, true, true, false, false, false, false, false, false] rfl rfl (any_of HT_.out (by kernel_rfl)) (fun _ _ _ h => h) (Or.inl ⟨by rfl, ?_⟩) ?_ ?_
        rotate_left
        ·
         intro w'
         go_simp
         with_reducible rfl
        rotate_left
        ·
         simp only [Act.put, List.setIfInBounds_toArray, List.set_cons_zero, List.set_cons_succ, i64_w, i32_w]
         rfl
        refine one_ (i := 30) (N := some 68) #[true, true, true, true, true, true, true, true, true, true, true, true, true, true, true, true, true, true, true, true, true, true, true, true, true, true, true, true, true, true, true, false, false, false, false, false] rfl rfl (one_of HT_.out (by kernel_rfl)) (by decide) (fun K hK => ?_)
        refine goes_ Tryd.func27 (by kernel_rfl) rfl #[.slice Ao31 t297.length co31, .slice A2 l2.length c2] (by rfl) rfl rfl (by (try simp only [List.map_toArray, List.map_cons, List.map_nil]); first | done | rfl | (simp only [List.length_drop, List.length_take]; rfl)) ?_
        with_reducible refine (tributarykit_SameDots.calls k _ _ t297 _ _ l2 true _ ?side1 ?side2 ?side3 ?side4 A25.out).mono ?_
        (case side1 => repeat (first | exact (Kd.R_reads' HO299.out).2.2 | (with_reducible refine Kd.C_alloc ?_ _) | (with_reducible refine Kd.C_drewN ?_ _) | (with_reducible refine Kd.C_drew ?_)))
        (case side2 => exact (Kd.R_reads' HO299.out).2.1)
        (case side3 => repeat (first | exact (Kd.C_below HR2.out HB.out) | (with_reducible refine Kd.C_alloc ?_ _) | (with_reducible refine Kd.C_drewN ?_ _) | (with_reducible refine Kd.C_drew ?_)))
        (case side4 => exact HC2.out)
        rintro e w' ⟨rfl, ⟨nd, rfl⟩⟩
        refine ⟨_, rfl, ?_⟩
        refine hK.out _ _ ⟨(blk_cell BK311.out 0).trans rfl, (blk_cell BK311.out 1).trans rfl, (blk_cell BK315.out 0).trans rfl, (blk_cell BK315.out 1).trans rfl, (blk_cell BK294.out 0).trans rfl, (blk_cell BK294.out 1).trans rfl, (blk_cell BK295.out 0).trans rfl, (blk_cell BK295.out 1).trans rfl⟩ (fun hHeld => ?_)
        clear hK K
        refine norm_ (a' := ?_) ?_ ?_
        rotate_left
        ·
         show Act.put _ (some 68) _ = _
         simp only [Act.put, List.setIfInBounds_toArray, List.set_cons_zero, List.set_cons_succ, i64_w, i32_w]
         rfl
        refine pure_ (i := 31) (N := some 69) (v := ?_) (a' := ?_) #[true, true, true, true, true, true, true, true, true, true, true, true, true, true, true, true, true, true, true, true, true, true, true, true, true, true, true, true, true, true, true, true, false, false, false, false] rfl rfl (any_of HT_.out (by kernel_rfl)) (fun _ _ _ h => h) (Or.inl ⟨by rfl, ?_⟩) ?_ ?_
        rotate_left
        ·
         intro w'
         go_simp
         with_reducible rfl
        rotate_left
        ·
         simp only [Act.put, List.setIfInBounds_toArray, List.set_cons_zero, List.set_cons_succ, i64_w, i32_w]
         rfl
        refine pure_ (i := 32) (N := some 70) (v := ?_) (a' := ?_) #[true, true, true, true, true, true, true, true, true, true, true, true, true, true, true, true, true, true, true, true, true, true, true, true, true, true, true, true, true, true, true, true, true, false, false, false] rfl rfl (any_of HT_.out (by kernel_rfl)) (fun _ _ _ h => h) (Or.inl ⟨by rfl, ?_⟩) ?_ ?_
        rotate_left
        ·
         intro w'
         go_simp
         with_reducible rfl
        rotate_left
        ·
         simp only [Act.put, List.setIfInBounds_toArray, List.set_cons_zero, List.set_cons_succ, i64_w, i32_w]
         rfl
        refine one_ (i := 33) (N := some 71) #[true, true, true, true, true, true, true, true, true, true, true, true, true, true, true, true, true, true, true, true, true, true, true, true, true, true, true, true, true, true, true, true, true, true, false, false] rfl rfl (one_of HT_.out (by kernel_rfl)) (by decide) (fun K hK => ?_)
        refine goes_ Tryd.func9 (by kernel_rfl) rfl #[] (by rfl) rfl rfl (by (try simp only [List.map_toArray, List.map_cons, List.map_nil]); first | done | rfl | (simp only [List.length_drop, List.length_take]; rfl)) ?_
        with_reducible refine (tributarylaw06_awake.calls  t321 _ A27.out (laid_below HLAID.out (by repeat (first | (with_reducible first | exact HB.out | apply below_alloc | apply pw_below_drewN | apply below_drew1 | refine below_set ?_ GE294.out | refine below_set ?_ GE295.out | refine below_set ?_ GE311.out | refine below_set ?_ GE315.out) | exact HB.out)))).mono ?_
        rintro e w57 ⟨rfl, hb⟩
        refine ⟨_, rfl, ?_⟩
        have n0_ := Aside0.mk (Kd.R_below (by (with_reducible repeat (first | apply Kd.R_alloc | apply Kd.R_drewN | apply Kd.R_drew)); exact HO299.out) hb)
        have n1_ := Aside0.mk (Kd.R_below (by (with_reducible repeat (first | apply Kd.R_alloc | apply Kd.R_drewN | apply Kd.R_drew)); exact HO302.out) hb)
        have n2_ := Aside0.mk (Kd.R_below (by (with_reducible repeat (first | apply Kd.R_alloc | apply Kd.R_drewN | apply Kd.R_drew)); exact HO305.out) hb)
        have n3_ := Aside0.mk (blk_below (g := gb294) (o := .cells #[.int .i64 a0_0, .int .i64 a0_1] 23 (0, 0)) (by (with_reducible repeat (first | refine blk_drewN ?_ _ | refine blk_drew ?_ | refine blk_alloc ?_ _)); exact BK294.out) hb)
        have n4_ := Aside0.mk (blk_below (g := gb295) (o := .cells #[.int .i64 a1_0, .int .i64 a1_1] 23 (0, 0)) (by (with_reducible repeat (first | refine blk_drewN ?_ _ | refine blk_drew ?_ | refine blk_alloc ?_ _)); exact BK295.out) hb)
        have n5_ := Aside0.mk (blk_below (g := gb311) (o := .cells #[.int .i64 t308, .int .i64 t309] 23 (0, 0)) (by (with_reducible repeat (first | refine blk_drewN ?_ _ | refine blk_drew ?_ | refine blk_alloc ?_ _)); exact BK311.out) hb)
        have n6_ := Aside0.mk (blk_below (g := gb315) (o := .cells #[.int .i64 t312, .int .i64 t313] 23 (0, 0)) (by (with_reducible repeat (first | refine blk_drewN ?_ _ | refine blk_drew ?_ | refine blk_alloc ?_ _)); exact BK315.out) hb)
        have n7_ := Aside0.mk (below_step (by repeat (first | (with_reducible first | exact HB.out | apply below_alloc | apply pw_below_drewN | apply below_drew1 | refine below_set ?_ GE294.out | refine below_set ?_ GE295.out | refine below_set ?_ GE311.out | refine below_set ?_ GE315.out) | exact HB.out)) hb)
        clear HO299
        clear HO302
        clear HO305
        clear BK294
        clear BK295
        clear BK311
        clear BK315
        clear HB
        have HO299 := n0_
        have HO302 := n1_
        have HO305 := n2_
        have BK294 := n3_
        have BK295 := n4_
        have BK311 := n5_
        have BK315 := n6_
        have HB := n7_
        clear n0_ n1_ n2_ n3_ n4_ n5_ n6_ n7_
        (try clear hb)
        (try clear hb2)
        (try clear hk)
        (try clear hi)
        refine hK.out _ _ ⟨(blk_cell BK311.out 0).trans rfl, (blk_cell BK311.out 1).trans rfl, (blk_cell BK315.out 0).trans rfl, (blk_cell BK315.out 1).trans rfl, (blk_cell BK294.out 0).trans rfl, (blk_cell BK294.out 1).trans rfl, (blk_cell BK295.out 0).trans rfl, (blk_cell BK295.out 1).trans rfl⟩ (fun hHeld => ?_)
        clear hK K
        refine norm_ (a' := ?_) ?_ ?_
        rotate_left
        ·
         show Act.put _ (some 71) _ = _
         simp only [Act.put, List.setIfInBounds_toArray, List.set_cons_zero, List.set_cons_succ, i64_w, i32_w]
         rfl
        refine pure_ (i := 34) (N := some 72) (v := ?_) (a' := ?_) #[true, true, true, true, true, true, true, true, true, true, true, true, true, true, true, true, true, true, true, true, true, true, true, true, true, true, true, true, true, true, true, true, true, true, true, false] rfl rfl (any_of HT_.out (by kernel_rfl)) (fun _ _ _ h => h) (Or.inl ⟨by rfl, ?_⟩) ?_ ?_
        rotate_left
        ·
         intro w'
         go_simp
         with_reducible rfl
        rotate_left
        ·
         simp only [Act.put, List.setIfInBounds_toArray, List.set_cons_zero, List.set_cons_succ, i64_w, i32_w]
         rfl
        refine pure_ (i := 35) (N := some 6) (v := ?_) (a' := ?_) #[true, true, true, true, true, true, true, true, true, true, true, true, true, true, true, true, true, true, true, true, true, true, true, true, true, true, true, true, true, true, true, true, true, true, true, true] rfl rfl (any_of HT_.out (by kernel_rfl)) (fun _ _ _ h => h) (Or.inl ⟨by rfl, ?_⟩) ?_ ?_
        rotate_left
        ·
         intro w'
         go_simp
         with_reducible rfl
        rotate_left
        ·
         simp only [Act.put, List.setIfInBounds_toArray, List.set_cons_zero, List.set_cons_succ, i64_w, i32_w]
         rfl
        refine done_ (done_of HT_.out (by kernel_rfl)) ?_
        try go_wp2
        go_ret
        exact ⟨by first | rfl | (simp [errW_none, errW_some] <;> rfl) | (simp [*, errW_none, errW_some] <;> rfl), by repeat (first | (with_reducible first | exact HB.out | apply below_alloc | apply pw_below_drewN | apply below_drew1 | refine below_set ?_ GE294.out | refine below_set ?_ GE295.out | refine below_set ?_ GE311.out | refine below_set ?_ GE315.out) | exact HB.out)⟩
       ·
        replace c26 := Bool.eq_false_iff.mpr c26
        subst c26
        have H1 : (some false) = some r := by rw [if_neg (show ¬ (false = true) by decide)] at H; exact H
        clear H
        have H := H1
        clear H1
        exact absurd (H.trans (congrArg some HR.out)) (by with_reducible repeat' first | exact nta_false | exact nta_none | refine nta_iff ?_ | refine nta_ite ?_ ?_ | refine nta_bind (fun _ => ?_))
      ·
       rw [if_neg c24] at H
       exact absurd (H.trans (congrArg some HR.out)) (by with_reducible repeat' first | exact nta_false | exact nta_none | refine nta_iff ?_ | refine nta_ite ?_ ?_ | refine nta_bind (fun _ => ?_))
     ·
      rw [if_neg c21] at H
      exact absurd (H.trans (congrArg some HR.out)) (by with_reducible repeat' first | exact nta_false | exact nta_none | refine nta_iff ?_ | refine nta_ite ?_ ?_ | refine nta_bind (fun _ => ?_))
    ·
     rw [if_neg c18] at H
     exact absurd (H.trans (congrArg some HR.out)) (by with_reducible repeat' first | exact nta_false | exact nta_none | refine nta_iff ?_ | refine nta_ite ?_ ?_ | refine nta_bind (fun _ => ?_))
   ·
    rw [if_neg c17] at H
    exact absurd (H.trans (congrArg some HR.out)) (by with_reducible repeat' first | exact nta_false | exact nta_none | refine nta_iff ?_ | refine nta_ite ?_ ?_ | refine nta_bind (fun _ => ?_))
  ·
   replace c16 := Bool.eq_false_iff.mpr c16
   subst c16
   have H1 : (some false) = some r := by rw [if_neg (show ¬ (false = true) by decide)] at H; exact H
   clear H
   have H := H1
   clear H1
   exact absurd (H.trans (congrArg some HR.out)) (by with_reducible repeat' first | exact nta_false | exact nta_none | refine nta_iff ?_ | refine nta_ite ?_ ?_ | refine nta_bind (fun _ => ?_))
end
end Go.Proofs.YtdelfhahbngcfaaDoorX.P06
end
section
namespace Go.Proofs.YtdelfhahbngcfaaDoorX.P06
open Go.RowKit Go.Sort Go.Lib Go.Proofs.YtdelfhahbngcfaaDoorW.PrintWords Go.Proofs.YtdelfhahbngcfaaDoorW.PrintLast Go.Proofs.YtdelfhahbngcfaaDoorW.PrintMore
set_option linter.unusedVariables false
set_option linter.unusedSimpArgs false
def ltDot (x y : S23) : Prop := x.f0 < y.f0 ∨ (x.f0 = y.f0 ∧ x.f1 < y.f1)
def leDot (x y : S23) : Prop := x.f0 < y.f0 ∨ (x.f0 = y.f0 ∧ x.f1 ≤ y.f1)
theorem srt_pw (l : List S23) : (srt l).Pairwise leDot := by
  unfold srt
  have := List.pairwise_mergeSort (le := fun x y : S23 => !(ltOf ordD) y x) (fun a b c h1 h2 => by
    simp only [ltD, Bool.not_eq_true', decide_eq_false_iff_not] at *
    omega) (fun a b => by
    simp only [ltD, Bool.or_eq_true, Bool.not_eq_true', decide_eq_false_iff_not]
    omega) l
  refine this.imp ?_
  intro a b h
  simp only [ltD, Bool.not_eq_true', decide_eq_false_iff_not] at h
  unfold leDot
  omega
theorem srt_mem (l : List S23) (x : S23) : x ∈ srt l ↔ x ∈ l := by unfold srt; exact List.mem_mergeSort
theorem get_le {l : List S23} (h : l.Pairwise leDot) {i j : Nat} (hij : i < j) (hj : j < l.length) : leDot l[i] l[j] := by
  have := List.pairwise_iff_getElem.1 h i j (by omega) hj hij
  exact this
theorem arr_get (l : List S23) (i : Nat) (hi : i < l.length) : l.toArray[i]! = l[i] := by simp [hi]
theorem compact_law (l : List S23) (h : l.Pairwise leDot) : ∀ m, m ≤ l.length → (compactUpTo l.toArray m).Pairwise ltDot ∧ (∀ x, x ∈ compactUpTo l.toArray m ↔ ∃ j, ∃ hj : j < l.length, j < m ∧ l[j] = x)
  | 0, _ => by
    have e : compactUpTo l.toArray 0 = [] := rfl
    rw [e]
    exact ⟨List.Pairwise.nil, fun x => ⟨fun h => (by cases h), fun ⟨j, _, h, _⟩ => absurd h (Nat.not_lt_zero j)⟩⟩
  | m + 1, hm => by
    obtain ⟨h1, h2⟩ := compact_law l h m (by omega)
    rw [compactUpTo_succ]
    have hml : m < l.length := by omega
    rw [arr_get l m hml]
    cases hk : keeps l.toArray m with
    | true =>
      simp only [if_true]
      refine ⟨?_, fun x => ?_⟩
      · rw [List.pairwise_append]
        refine ⟨h1, List.pairwise_singleton _ _, fun x hx y hy => ?_⟩
        rw [List.mem_singleton] at hy
        subst hy
        obtain ⟨j, hj, hjm, rfl⟩ := (h2 x).1 hx
        unfold keeps at hk
        have hk := of_decide_eq_true hk
        have hm0 : m ≠ 0 := by omega
        have hne : l[m] ≠ l[m - 1] := by
          rcases hk with e | e
          · exact absurd e hm0
          · rw [arr_get l m hml, arr_get l (m - 1) (by omega)] at e; exact e
        have hle1 := get_le h (i := m - 1) (j := m) (by omega) hml
        have hle2 : leDot l[j] l[m - 1] := by
          by_cases e : j = m - 1
          · subst e; exact .inr ⟨rfl, Int.le_refl _⟩
          · exact get_le h (by omega) (by omega)
        have hlt : ltDot l[m - 1] l[m] := by
          unfold leDot at hle1
          unfold ltDot
          rcases hle1 with h3 | ⟨h3, h4⟩
          · exact .inl h3
          · by_cases e : l[m - 1].f1 = l[m].f1
            · exfalso
              apply hne
              have : ∀ a b : S23, a.f0 = b.f0 → a.f1 = b.f1 → b = a := fun a b h1 h2 => by cases a; cases b; simp_all
              exact this _ _ h3 e
            · exact .inr ⟨h3, by omega⟩
        unfold leDot at hle2
        unfold ltDot at hlt ⊢
        omega
      · rw [List.mem_append, List.mem_singleton, h2]
        constructor
        · rintro (⟨j, hj, hjm, e⟩ | e)
          · exact ⟨j, hj, by omega, e⟩
          · exact ⟨m, hml, by omega, e.symm⟩
        · rintro ⟨j, hj, hjm, e⟩
          by_cases hje : j = m
          · subst hje; exact .inr e.symm
          · exact .inl ⟨j, hj, by omega, e⟩
    | false =>
      simp only [Bool.false_eq_true, if_false, List.append_nil]
      refine ⟨h1, fun x => ?_⟩
      unfold keeps at hk
      have hk := of_decide_eq_false hk
      have hm0 : m ≠ 0 := fun e => hk (.inl e)
      have heq : l[m] = l[m - 1] := Classical.byContradiction fun e => hk (.inr (by rw [arr_get l m hml, arr_get l (m - 1) (by omega)]; exact e))
      rw [h2]
      constructor
      · rintro ⟨j, hj, hjm, e⟩; exact ⟨j, hj, by omega, e⟩
      · rintro ⟨j, hj, hjm, e⟩
        by_cases hje : j = m
        · subst hje; exact ⟨j - 1, by omega, by omega, by rw [← heq]; exact e⟩
        · exact ⟨j, hj, by omega, e⟩
theorem sort_law (l : List S23) : (sortV l).Pairwise ltDot ∧ ∀ x, x ∈ sortV l ↔ x ∈ l := by
  obtain ⟨h1, h2⟩ := compact_law (srt l) (srt_pw l) (srt l).length (Nat.le_refl _)
  refine ⟨h1, fun x => ?_⟩
  unfold sortV
  rw [h2, ← srt_mem, List.mem_iff_getElem]
  constructor
  · rintro ⟨j, hj, _, e⟩; exact ⟨j, hj, e⟩
  · rintro ⟨j, hj, e⟩; exact ⟨j, hj, hj, e⟩
instance : DecidableEq S23 := fun a b => decidable_of_iff (a.f0 = b.f0 ∧ a.f1 = b.f1) (by cases a; cases b; simp)
theorem sameD_loop (a : List S23) (hl : a.length < 1000000) : ∀ (d j : Nat), j + d = a.length → Ev (fun k => tributarykit_SameDots.l0 k a a (j : Int)) true
  | 0, j, hj => by
    refine Ev.step (fun _ => rfl) ?_
    simp only [tributarykit_SameDots.l0]
    exact ev_neg (by omega) (Ev.now true)
  | d + 1, j, hj => by
    have h1 : j < a.length := by omega
    refine Ev.step (fun _ => rfl) ?_
    simp only [tributarykit_SameDots.l0]
    refine ev_pos (by omega) (ev_pos (by omega) (ev_pos (by omega) (ev_neg (by simp) ?_)))
    rw [w64 (by omega : -9223372036854775808 ≤ (j : Int) + 1 ∧ (j : Int) + 1 ≤ 9223372036854775807), show (j : Int) + 1 = ((j + 1 : Nat) : Int) by omega]
    exact sameD_loop a hl d (j + 1) (by omega)
theorem sameD_ev (a : List S23) (hl : a.length < 1000000) : Ev (fun k => tributarykit_SameDots.f k a a) true := by
  unfold tributarykit_SameDots.f
  exact ev_pos rfl (sameD_loop a hl a.length 0 (by omega))
theorem copyD_eq (l : List S23) (hl : l.length < 1000000) : tributarykit_CopyDots.f l = some l := by
  unfold tributarykit_CopyDots.f
  rw [Option.bind_some, if_pos (by simp; omega)]
  simp
theorem sorted_one : ∀ {a b : List S23}, a.Pairwise ltDot → b.Pairwise ltDot → (∀ x, x ∈ a ↔ x ∈ b) → a = b
  | [], [], _, _, _ => rfl
  | [], y :: b, _, _, h => by have := (h y).2 (List.mem_cons_self ..); cases this
  | x :: a, [], _, _, h => by have := (h x).1 (List.mem_cons_self ..); cases this
  | x :: a, y :: b, ha, hb, h => by
    rw [List.pairwise_cons] at ha hb
    have h1 : x = y := by
      rcases List.mem_cons.1 ((h x).1 (List.mem_cons_self ..)) with e | e
      · exact e
      · rcases List.mem_cons.1 ((h y).2 (List.mem_cons_self ..)) with e2 | e2
        · exact e2.symm
        · have := hb.1 x e; have := ha.1 y e2; unfold ltDot at *; omega
    subst h1
    congr 1
    refine sorted_one ha.2 hb.2 (fun z => ?_)
    constructor
    · intro hz
      rcases List.mem_cons.1 ((h z).1 (List.mem_cons_of_mem _ hz)) with e | e
      · have := ha.1 z hz; rw [e] at this; unfold ltDot at this; omega
      · exact e
    · intro hz
      rcases List.mem_cons.1 ((h z).2 (List.mem_cons_of_mem _ hz)) with e | e
      · have := hb.1 z hz; rw [e] at this; unfold ltDot at this; omega
      · exact e
theorem sort_is {l a : List S23} (h : a.Pairwise ltDot) (hm : ∀ x, x ∈ l ↔ x ∈ a) : sortV l = a := sorted_one (sort_law l).1 h (fun x => ((sort_law l).2 x).trans (hm x))
instance (x y : S23) : Decidable (ltDot x y) := by unfold ltDot; infer_instance
theorem insD_nil (x : S23) : insD [] x = [x] := by unfold insD insV posV; simp
theorem insD_cons (y : S23) (rs : List S23) (x : S23) : insD (y :: rs) x = if ltB y x = true then y :: insD rs x else if y = x then y :: rs else x :: y :: rs := by
  have e : posV (y :: rs) x = if ltB y x = true then posV rs x + 1 else 0 := by
    unfold posV; rw [List.takeWhile_cons]; split <;> simp
  by_cases h : ltB y x = true
  · rw [if_pos h] at e ⊢
    unfold insD insV
    rw [e]
    have e2 : rd_T23 (y :: rs) ((posV rs x + 1 : Nat) : Int) = rd_T23 rs (posV rs x : Int) := by unfold rd_T23; simp
    rw [e2]
    by_cases h2 : posV rs x < rs.length ∧ rd_T23 rs (posV rs x : Int) = x
    · rw [if_pos h2, if_pos ⟨by simp; omega, h2.2⟩]
    · rw [if_neg h2, if_neg (fun h3 => h2 ⟨by have := h3.1; simp at this; omega, h3.2⟩)]
      simp
  · rw [if_neg h] at e ⊢
    unfold insD insV
    rw [e]
    have e2 : rd_T23 (y :: rs) ((0 : Nat) : Int) = y := by unfold rd_T23; simp
    rw [e2]
    by_cases h2 : y = x
    · rw [if_pos h2, if_pos ⟨by simp, h2⟩]
    · rw [if_neg h2, if_neg (fun h3 => h2 h3.2)]
      simp
theorem insD_mem (x : S23) : ∀ (rs : List S23) (s : S23), s ∈ insD rs x ↔ s = x ∨ s ∈ rs
  | [], s => by rw [insD_nil]; simp
  | y :: rs, s => by
    rw [insD_cons]
    split
    · rw [List.mem_cons, insD_mem x rs, List.mem_cons]
      constructor
      · rintro (h | h | h)
        · exact .inr (.inl h)
        · exact .inl h
        · exact .inr (.inr h)
      · rintro (h | h | h)
        · exact .inr (.inl h)
        · exact .inl h
        · exact .inr (.inr h)
    · split
      · rename_i h
        constructor
        · intro h2; exact .inr h2
        · rintro (h2 | h2)
          · rw [h2, ← h]; exact List.mem_cons_self ..
          · exact h2
      · simp
theorem insD_sorted (x : S23) : ∀ (rs : List S23), rs.Pairwise ltDot → (insD rs x).Pairwise ltDot
  | [], _ => by rw [insD_nil]; simp
  | y :: rs, h => by
    rw [List.pairwise_cons] at h
    rw [insD_cons]
    split
    · rename_i hy
      have hy : y.f0 < x.f0 ∨ (y.f0 = x.f0 ∧ y.f1 < x.f1) := of_decide_eq_true hy
      rw [List.pairwise_cons]
      refine ⟨fun s hs => ?_, insD_sorted x rs h.2⟩
      rcases (insD_mem x rs s).1 hs with e | e
      · rw [e]; exact hy
      · exact h.1 s e
    · rename_i hy
      have hy : ¬ (y.f0 < x.f0 ∨ (y.f0 = x.f0 ∧ y.f1 < x.f1)) := fun h2 => hy (decide_eq_true h2)
      split
      · rw [List.pairwise_cons]; exact h
      · rename_i hne
        have hxy : ltDot x y := by
          unfold ltDot
          have : ¬ (y.f0 = x.f0 ∧ y.f1 = x.f1) := fun h2 => hne (by cases x; cases y; simp_all)
          omega
        rw [List.pairwise_cons, List.pairwise_cons]
        refine ⟨fun s hs => ?_, h⟩
        rcases List.mem_cons.1 hs with e | e
        · rw [e]; exact hxy
        · have := h.1 s e
          unfold ltDot at this hxy ⊢
          omega
theorem riseD_law : ∀ (l rs : List S23), rs.Pairwise ltDot → (l.foldl insD rs).Pairwise ltDot ∧ ∀ s, s ∈ l.foldl insD rs ↔ s ∈ l ∨ s ∈ rs
  | [], rs, h => ⟨h, fun s => by simp⟩
  | x :: l, rs, h => by
    obtain ⟨h1, h2⟩ := riseD_law l (insD rs x) (insD_sorted x rs h)
    refine ⟨h1, fun s => ?_⟩
    rw [List.foldl_cons, h2, insD_mem, List.mem_cons]
    constructor
    · rintro (h | h | h)
      · exact .inl (.inr h)
      · exact .inl (.inl h)
      · exact .inr h
    · rintro ((h | h) | h)
      · exact .inr (.inl h)
      · exact .inl h
      · exact .inr (.inr h)
theorem sort_same (l : List S23) : l.foldl insD [] = sortV l := by
  obtain ⟨h1, h2⟩ := riseD_law l [] List.Pairwise.nil
  exact (sort_is h1 (fun x => by rw [h2]; simp)).symm
theorem sortV_len (l : List S23) : (sortV l).length ≤ l.length := by
  rw [← sort_same]
  have := rise_len l []
  simpa using this
theorem rnext_eq (n q : Int) : tributaryref06_Next.f n q = dot_Next.f n q := rfl
theorem tells_ev (a0 a1 b0 b1 : Int) (l : List S23) : Ev (fun k => tributarylaw06_DotTells.f k a0 a1 b0 b1 l) true := by
  unfold tributarylaw06_DotTells.f
  rw [awake_eq]
  by_cases h : (l.length : Int) > 60
  · exact ev_pos h (Ev.now _)
  have hl : l.length < 1000000 := by omega
  have hs := sortV_len l
  refine ev_neg h ?_
  rw [copyD_eq l hl]
  refine ev_some ?_
  have e1 : dot_Sort.f l = some (sortV l) := if_pos hl
  have e2 : tributaryref06_Sort.f l = some (sortV l) := by unfold tributaryref06_Sort.f; rw [if_pos hl, sort_same]
  rw [e1, e2]
  refine ev_some (ev_some (Ev.bind (sameD_ev (sortV l) (by omega)) ?_))
  refine ev_eq (b := List.replicate (sortV l).length o23) rfl ?_
  rw [rnext_eq]
  generalize hN : dot_Next.f a0 a1 = N
  have hN2 : ∃ x, N = some x := by rw [← hN, next_eq]; exact ⟨_, rfl⟩
  obtain ⟨x, rfl⟩ := hN2
  refine ev_some (ev_some (ev_pos rfl (ev_pos (by simp) (ev_pos rfl ?_))))
  rw [chk_eq, rchk_eq]
  refine ev_some (ev_some (ev_pos rfl (Ev.bind (less_ev a0 a1 b0 b1) ?_)))
  have e3 : tributaryref06_Less.f a0 a1 b0 b1 = some (ltI a0 a1 b0 b1) := less_eq ⟨a0, a1⟩ ⟨b0, b1⟩
  rw [e3]
  exact ev_some (ev_pos (by simp) (Ev.bind (sameD_ev l hl) (ev_pos rfl (Ev.now _))))
end Go.Proofs.YtdelfhahbngcfaaDoorX.P06
end
