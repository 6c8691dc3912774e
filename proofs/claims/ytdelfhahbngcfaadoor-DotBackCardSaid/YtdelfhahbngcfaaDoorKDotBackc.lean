/- Words, walks and plain laws for the row, packed: each text in a section of its own. Conditions stand with each theorem. -/
import Derived.Shelf.SlGeneric
import Derived.Shelf.SlSortCmp.NoneTotal
import Derived.Test.YtdelfhahbngcfaaDoorProg
import Derived.Scope
import Derived.Deep.LoopGhost
import Derived.Deep.RegionHeld3
import Derived.Shelf.Abstract
import Derived.Shelf.RegionOpen
import Derived.Lib.Hide
import Derived.Lib.Small
import Derived.Lib.SlicesCompact
import Derived.Lib.SliceRun
import Derived.Test.YtdelfhahbngcfaaDoorKDotBacka
import Derived.Test.YtdelfhahbngcfaaDoorKDotBackb
section
namespace Go.Proofs.YtdelfhahbngcfaaDoorX.P06
open Go.Shelf
def sortDot_ren : Go.Shelf.Ren := ⟨fun | 6 => 42 | 15 => 51 | 14 => 50 | 28 => 69 | 29 => 70 | 20 => 61 | 21 => 62 | 22 => 63 | 23 => 64 | 24 => 65 | 25 => 66 | 26 => 67 | 27 => 68 | 46 => 81 | 47 => 82 | 48 => 83 | 49 => 84 | 50 => 85 | 57 => 92 | n => n, fun | 22 => 46 | 24 => 23 | 25 => 63 | 3 => 3 | 39 => 62 | 0 => 0 | 53 => 89 | 55 => 56 | 4 => 4 | 46 => 82 | 45 => 81 | 50 => 86 | 5 => 5 | 9 => 9 | 66 => 101 | 70 => 105 | 76 => 116 | 77 => 117 | n => n, fun | n => n⟩
theorem sortDot : Go.Proofs.SlLaysF0.n6 Tryd.prog sortDot_ren := {
  mixed := by kernel_rfl
  f6 := ⟨Tryd.f42.name, by decide, Tryd.func42.trans (congrArg some (by kernel_rfl))⟩
  f14 := ⟨Tryd.f50.name, by decide, Tryd.func50.trans (congrArg some (by kernel_rfl))⟩
  f15 := Tryd.func51.trans (congrArg some (by kernel_rfl))
  f20 := ⟨Tryd.f61.name, by decide, Tryd.func61.trans (congrArg some (by kernel_rfl))⟩
  f21 := ⟨Tryd.f62.name, by decide, Tryd.func62.trans (congrArg some (by kernel_rfl))⟩
  f22 := ⟨Tryd.f63.name, by decide, Tryd.func63.trans (congrArg some (by kernel_rfl))⟩
  f23 := ⟨Tryd.f64.name, by decide, Tryd.func64.trans (congrArg some (by kernel_rfl))⟩
  f24 := ⟨Tryd.f65.name, by decide, Tryd.func65.trans (congrArg some (by kernel_rfl))⟩
  f25 := ⟨Tryd.f66.name, by decide, Tryd.func66.trans (congrArg some (by kernel_rfl))⟩
  f26 := ⟨Tryd.f67.name, by decide, Tryd.func67.trans (congrArg some (by kernel_rfl))⟩
  f27 := ⟨Tryd.f68.name, by decide, Tryd.func68.trans (congrArg some (by kernel_rfl))⟩
  f28 := Tryd.func69.trans (congrArg some (by kernel_rfl))
  f29 := Tryd.func70.trans (congrArg some (by kernel_rfl))
  f46 := ⟨Tryd.f81.name, by decide, Tryd.func81.trans (congrArg some (by kernel_rfl))⟩
  f47 := Tryd.func82.trans (congrArg some (by kernel_rfl))
  f48 := Tryd.func83.trans (congrArg some (by kernel_rfl))
  f49 := ⟨Tryd.f84.name, by decide, Tryd.func84.trans (congrArg some (by kernel_rfl))⟩
  f50 := ⟨Tryd.f85.name, by decide, Tryd.func85.trans (congrArg some (by kernel_rfl))⟩
  f57 := ⟨Tryd.f92.name, by decide, Tryd.func92.trans (congrArg some (by kernel_rfl))⟩
  t0 := Tryd.underlying0
  a0 := Tryd.isAgg0
  z0 := Tryd.sizeOf0
  v0 := Tryd.zeroValue0
  t3 := Tryd.underlying3
  a3 := Tryd.isAgg3
  z3 := Tryd.sizeOf3
  v3 := Tryd.zeroValue3
  t4 := Tryd.underlying4
  a4 := Tryd.isAgg4
  z4 := Tryd.sizeOf4
  v4 := Tryd.zeroValue4
  t5 := Tryd.underlying5
  a5 := Tryd.isAgg5
  z5 := Tryd.sizeOf5
  v5 := Tryd.zeroValue5
  t9 := Tryd.underlying9
  a9 := Tryd.isAgg9
  z9 := Tryd.sizeOf9
  v9 := Tryd.zeroValue9
  t22 := Tryd.underlying46
  a22 := Tryd.isAgg46
  z22 := Tryd.sizeOf46
  v22 := Tryd.zeroValue46
  t25 := Tryd.underlying63
  a25 := Tryd.isAgg63
  z25 := Tryd.sizeOf63
  v25 := Tryd.zeroValue63
  t39 := Tryd.underlying62
  a39 := Tryd.isAgg62
  z39 := Tryd.sizeOf62
  v39 := Tryd.zeroValue62
  t45 := Tryd.underlying81
  a45 := Tryd.isAgg81
  z45 := Tryd.sizeOf81
  v45 := Tryd.zeroValue81
  t46 := Tryd.underlying82
  a46 := Tryd.isAgg82
  z46 := Tryd.sizeOf82
  v46 := Tryd.zeroValue82
  t50 := Tryd.underlying86
  a50 := Tryd.isAgg86
  z50 := Tryd.sizeOf86
  v50 := Tryd.zeroValue86
  t53 := Tryd.underlying89
  a53 := Tryd.isAgg89
  z53 := Tryd.sizeOf89
  v53 := Tryd.zeroValue89
  t55 := Tryd.underlying56
  a55 := Tryd.isAgg56
  z55 := Tryd.sizeOf56
  v55 := Tryd.zeroValue56
  t66 := Tryd.underlying101
  a66 := Tryd.isAgg101
  z66 := Tryd.sizeOf101
  v66 := Tryd.zeroValue101
  t70 := Tryd.underlying105
  a70 := Tryd.isAgg105
  z70 := Tryd.sizeOf105
  v70 := Tryd.zeroValue105
  t76 := Tryd.underlying116
  a76 := Tryd.isAgg116
  z76 := Tryd.sizeOf116
  v76 := Tryd.zeroValue116
  t77 := Tryd.underlying117
  a77 := Tryd.isAgg117
  z77 := Tryd.sizeOf117
  v77 := Tryd.zeroValue117 }
end Go.Proofs.YtdelfhahbngcfaaDoorX.P06
end
section
namespace Go.Proofs.YtdelfhahbngcfaaDoorX.P06
open Go.RowKit Go.Shelf Go.Sort Go.Proofs.YtdelfhahbngcfaaDoor Go.Proofs.YtdelfhahbngcfaaDoorW.PrintWords Go.Proofs.YtdelfhahbngcfaaDoorW.PrintLast Go.Proofs.YtdelfhahbngcfaaDoorW.PrintMore
set_option linter.unusedVariables false
set_option linter.unusedSimpArgs false
attribute [local go_sem] Oper.semAt_some
def ordD (x y : S23) : Int := if Lib.compareInt x.f0 y.f0 = 0 then Lib.compareInt x.f1 y.f1 else Lib.compareInt x.f0 y.f0
def c23 (x : S23) : List Value := [.int .i64 x.f0, .int .i64 x.f1]
theorem cmp_any (x y : Int) (w : World) :
    Calls Tryd.prog 49 #[.int .i64 x, .int .i64 y] w fun e w' => e = .returned (.int .i64 (Lib.compareInt x y)) ∧ w = w' := by
  go_enter Tryd.func49, Tryd.ntmps49
  go_wp2
  all_goals (go_ret; refine ⟨?_, rfl⟩; unfold Lib.compareInt; (repeat' split) <;> first | rfl | (exfalso; omega))
theorem or_any (x y : Int) (B : Nat) (w : World) (h0 : w.cell? ⟨B, 0, none⟩ = some (.int .i64 x)) (h1 : w.cell? ⟨B, 1, none⟩ = some (.int .i64 y)) :
    Calls Tryd.prog 48 #[.slice (some ⟨B, 0, none⟩) 2 2] w fun e w' => e = .returned (.int .i64 (if x = 0 then y else x)) ∧ w = w' := by
  by_cases hx : x = 0
  · subst hx
    rw [if_pos rfl]
    by_cases hy : y = 0
    · subst hy
      go_enter Tryd.func48, Tryd.ntmps48
      go_wp2
      go_loop [8] (fun i => ∃ k : Nat, k ≤ 2 ∧ i = .int .i64 k) (fun i => 2 - (intOf i).toNat)
      case atStart => exact ⟨0, by omega, rfl⟩
      case round =>
        obtain ⟨k, hk, rfl⟩ := hrel
        by_cases k0 : k = 0
        · subst k0
          go_wp2
          go_round
          case rel => exact ⟨1, by omega, rfl⟩
          case measure => simp [intOf]
        · by_cases k1 : k = 1
          · subst k1
            go_wp2
            go_round
            case rel => exact ⟨2, by omega, rfl⟩
            case measure => simp [intOf]
          · obtain rfl : k = 2 := by omega
            go_wp2
            go_ret
            exact ⟨rfl, rfl⟩
    · have g : (y != 0) = true := by simpa using hy
      go_enter Tryd.func48, Tryd.ntmps48
      go_wp2
      go_loop [8] (fun i => ∃ k : Nat, k ≤ 1 ∧ i = .int .i64 k) (fun i => 2 - (intOf i).toNat)
      case atStart => exact ⟨0, by omega, rfl⟩
      case round =>
        obtain ⟨k, hk, rfl⟩ := hrel
        by_cases k0 : k = 0
        · subst k0
          go_wp2
          go_round
          case rel => exact ⟨1, by omega, rfl⟩
          case measure => simp [intOf]
        · obtain rfl : k = 1 := by omega
          go_wp2
          go_ret
          exact ⟨rfl, rfl⟩
  · have g : (x != 0) = true := by simpa using hx
    rw [if_neg hx]
    go_enter Tryd.func48, Tryd.ntmps48
    go_wp2
    go_loop [8] (fun i => i = .int .i64 0) (fun i => 2 - (intOf i).toNat)
    case atStart => rfl
    case round =>
      subst hrel
      go_wp2
      go_ret
      exact ⟨rfl, rfl⟩
theorem bx (w : World) (T : Nat) (cs : Array Value) (T2 : Nat) (cs2 : Array Value) (j : Nat) (v : Value) (h : cs[j]? = some v) : ((w.alloc (.cells cs T)).alloc (.cells cs2 T2)).cell? ⟨w.heap.size, j, none⟩ = some v :=
  (YtdelfhahbngcfaaDoorW.PrintWords.blk_cell (blk_alloc (blk_new w (.cells cs T)) (.cells cs2 T2)) j).trans h
set_option maxRecDepth 100000 in
set_option maxHeartbeats 4000000 in
theorem order_any (x y : S23) (w : World) :
    Calls Tryd.prog 40 #[.agg #[.int .i64 x.f0, .int .i64 x.f1], .agg #[.int .i64 y.f0, .int .i64 y.f1]] w fun e w' => e = .returned (.int .i64 (ordD x y)) ∧ ∃ q os, w' = grow (w.drewN q) os := by
  obtain ⟨a, b⟩ := x
  obtain ⟨c, d⟩ := y
  simp only []
  obtain ⟨V, hV⟩ : ∃ z, z = (w.alloc (.cells #[.int .i64 a, .int .i64 b] 23)).alloc (.cells #[.int .i64 c, .int .i64 d] 23) := ⟨_, rfl⟩
  have a0 : V.cell? ⟨w.heap.size, 0, none⟩ = some (.int .i64 a) := by rw [hV]; exact bx w _ _ _ _ 0 _ rfl
  have a1 : V.cell? ⟨w.heap.size, 1, none⟩ = some (.int .i64 b) := by rw [hV]; exact bx w _ _ _ _ 1 _ rfl
  have s1 : (w.alloc (.cells #[.int .i64 a, .int .i64 b] 23)).heap.size = w.heap.size + 1 := by simp
  have b0 : V.cell? ⟨w.heap.size + 1, 0, none⟩ = some (.int .i64 c) := by rw [hV, ← s1]; exact (YtdelfhahbngcfaaDoorW.PrintWords.blk_cell (blk_new _ _) 0).trans rfl
  have b1 : V.cell? ⟨w.heap.size + 1, 1, none⟩ = some (.int .i64 d) := by rw [hV, ← s1]; exact (YtdelfhahbngcfaaDoorW.PrintWords.blk_cell (blk_new _ _) 1).trans rfl
  have HV := Lib.hid hV
  have hbl : ∀ W : World, ∀ o, Below W.heap.size W (W.alloc o) := fun W o => (Below.refl _ W).alloc (Nat.le_refl _) o
  obtain ⟨O, hO⟩ : ∃ O, O = ordD ⟨a, b⟩ ⟨c, d⟩ := ⟨_, rfl⟩
  have HOR := Lib.hid (show Calls Tryd.prog 48 #[.slice (some ⟨V.heap.size, 0, none⟩) 2 2] (V.alloc (.cells #[.int .i64 (Lib.compareInt a c), .int .i64 (Lib.compareInt b d)] 3)).drew fun e w' => e = .returned (.int .i64 O) ∧ (V.alloc (.cells #[.int .i64 (Lib.compareInt a c), .int .i64 (Lib.compareInt b d)] 3)).drew = w' from by
    rw [hO]
    exact or_any _ _ V.heap.size _ ((YtdelfhahbngcfaaDoorW.PrintWords.blk_cell (blk_new V (.cells #[.int .i64 (Lib.compareInt a c), .int .i64 (Lib.compareInt b d)] 3)) 0).trans rfl) ((YtdelfhahbngcfaaDoorW.PrintWords.blk_cell (blk_new V (.cells #[.int .i64 (Lib.compareInt a c), .int .i64 (Lib.compareInt b d)] 3)) 1).trans rfl))
  rw [← hO]
  clear hO
  go_enter Tryd.func40, Tryd.ntmps40
  go_wp2_with fail
  rw [← hV]
  clear hV s1
  go_region_held3 (fun W => W.cell? ⟨w.heap.size, 0, none⟩ = some (.int .i64 a) ∧ W.cell? ⟨w.heap.size, 1, none⟩ = some (.int .i64 b) ∧ W.cell? ⟨w.heap.size + 1, 0, none⟩ = some (.int .i64 c) ∧ W.cell? ⟨w.heap.size + 1, 1, none⟩ = some (.int .i64 d))
    (first | exact ⟨a0, a1, b0, b1⟩ | exact ⟨below_cell (hbl V.drew _) a0, below_cell (hbl V.drew _) a1, below_cell (hbl V.drew _) b0, below_cell (hbl V.drew _) b1⟩)
    (first | (go_at_call 49; ((with_reducible refine (cmp_any _ _ _).mono ?_); rintro e wx ⟨rfl, rfl⟩)) | (go_at_call 48; ((with_reducible refine HOR.out.mono ?_); rintro e wx ⟨rfl, rfl⟩)))
  all_goals
    go_wp2_with fail
    go_ret
    refine ⟨rfl, 1, #[.cells #[.int .i64 a, .int .i64 b] 23, .cells #[.int .i64 c, .int .i64 d] 23, .cells #[.int .i64 (Lib.compareInt a c), .int .i64 (Lib.compareInt b d)] 3], ?_⟩
    rw [HV.out, alloc_eq_grow, alloc_eq_grow, alloc_eq_grow, grow_grow, grow_grow]
    rfl
end Go.Proofs.YtdelfhahbngcfaaDoorX.P06
end
section
namespace Go.Proofs.YtdelfhahbngcfaaDoorX.P06
open Go.RowKit Go.Shelf Go.Sort Go.Lib Go.Proofs.YtdelfhahbngcfaaDoor Go.Proofs.YtdelfhahbngcfaaDoorW.PrintWords Go.Proofs.YtdelfhahbngcfaaDoorW.PrintLast Go.Proofs.YtdelfhahbngcfaaDoorW.PrintMore
set_option linter.unusedVariables false
set_option linter.unusedSimpArgs false
attribute [local go_sem] Oper.semAt_some
attribute [local go_sem high] eqA23
instance : Inhabited S23 := ⟨z23⟩
instance : DecidableEq S23 := fun x y => decidable_of_iff (x.f0 = y.f0 ∧ x.f1 = y.f1) (by cases x; cases y; simp)
theorem s23_ne {x y : S23} (h : x ≠ y) : (x.f0 == y.f0 && (x.f1 == y.f1)) = false := by
  cases e : (x.f0 == y.f0 && (x.f1 == y.f1)) with
  | false => rfl
  | true =>
    exfalso; apply h
    cases x; cases y
    simp_all
theorem s23_eq (x : S23) : (x.f0 == x.f0 && (x.f1 == x.f1)) = true := by simp
def RowB (w : World) (g cap : Nat) (d : Array S23) : Prop := ∃ cur : Array Value, YtdelfhahbngcfaaDoor.Blk w g 23 cur ∧ cur.size = cap * 2 ∧ ∀ j, j < d.size → cur[j * 2]? = some (.int .i64 d[j]!.f0) ∧ cur[j * 2 + 1]? = some (.int .i64 d[j]!.f1)
theorem RowB.cell {w : World} {g cap : Nat} {d : Array S23} (h : RowB w g cap d) {j : Nat} (hj : j < d.size) : w.cell? ⟨g, j * 2, none⟩ = some (.int .i64 d[j]!.f0) ∧ w.cell? ⟨g, j * 2 + 1, none⟩ = some (.int .i64 d[j]!.f1) := by
  obtain ⟨cur, hb, _, hc⟩ := h
  exact ⟨YtdelfhahbngcfaaDoor.blk_cell hb _ _ (hc j hj).1, YtdelfhahbngcfaaDoor.blk_cell hb _ _ (hc j hj).2⟩
theorem RowB.thaw {w : World} {g cap : Nat} {d : Array S23} (h : RowB w g cap d) (j : Nat) : w.frozen? ⟨g, j, none⟩ = false := by
  obtain ⟨cur, hb, _, _⟩ := h
  exact YtdelfhahbngcfaaDoor.blk_thawed hb j
theorem RowB.put {w : World} {g cap : Nat} {d : Array S23} (h : RowB w g cap d) (hd : d.size ≤ cap) {k : Nat} (hk : k < d.size) (x : S23) :
    RowB ((w.setCell ⟨g, k * 2, none⟩ (.int .i64 x.f0)).setCell ⟨g, k * 2 + 1, none⟩ (.int .i64 x.f1)) g cap (d.setIfInBounds k x) := by
  obtain ⟨cur, hb, hs, hc⟩ := h
  refine ⟨_, YtdelfhahbngcfaaDoor.blk_set (YtdelfhahbngcfaaDoor.blk_set hb _ _) _ _, by simpa using hs, fun j hj => ?_⟩
  have hj' : j < d.size := by simpa using hj
  obtain ⟨q0, q1⟩ := hc j hj'
  by_cases e : j = k
  · subst e
    have : (d.setIfInBounds j x)[j]! = x := getElem!_set_same d j x hj'
    rw [this]
    constructor
    · rw [Array.getElem?_setIfInBounds, if_neg (by omega), Array.getElem?_setIfInBounds, if_pos rfl, if_pos (by omega)]
    · rw [Array.getElem?_setIfInBounds, if_pos rfl, if_pos (by simp; omega)]
  · have : (d.setIfInBounds k x)[j]! = d[j]! := by
      rw [getElem!_pos _ j hj, getElem!_pos _ j hj', Array.getElem_setIfInBounds, if_neg (Ne.symm e)]
    rw [this]
    constructor
    · rw [Array.getElem?_setIfInBounds, if_neg (by omega), Array.getElem?_setIfInBounds, if_neg (by omega)]; exact q0
    · rw [Array.getElem?_setIfInBounds, if_neg (by omega), Array.getElem?_setIfInBounds, if_neg (by omega)]; exact q1
theorem RowB.clear {w : World} {g cap : Nat} {d : Array S23} (h : RowB w g cap d) : ∀ (vs : List Value) (o k : Nat), k * 2 ≤ o → k ≤ d.size → RowB (w.setCells g o vs) g cap (d.extract 0 k) := by
  obtain ⟨cur, hb, hs, hc⟩ := h
  intro vs
  suffices H : ∀ (vs : List Value) (o : Nat) (w : World) (cur : Array Value), YtdelfhahbngcfaaDoor.Blk w g 23 cur → ∃ cur', YtdelfhahbngcfaaDoor.Blk (w.setCells g o vs) g 23 cur' ∧ cur'.size = cur.size ∧ ∀ j, j < o → cur'[j]? = cur[j]? by
    intro o k ho hk
    obtain ⟨cur', b1, b2, b3⟩ := H vs o w cur hb
    refine ⟨cur', b1, by omega, fun j hj => ?_⟩
    have hj2 : j < k := by simp at hj; omega
    have e : (d.extract 0 k)[j]! = d[j]! := by
      rw [getElem!_pos _ j hj, getElem!_pos _ j (by omega)]; simp
    rw [e, b3 _ (by omega), b3 _ (by omega)]
    exact hc j (by omega)
  intro vs
  induction vs with
  | nil => exact fun o w cur hb => ⟨cur, hb, rfl, fun _ _ => rfl⟩
  | cons v r ih =>
    intro o w cur hb
    obtain ⟨cur', b1, b2, b3⟩ := ih (o + 1) _ _ (YtdelfhahbngcfaaDoor.blk_set hb o v)
    refine ⟨cur', b1, by simpa using b2, fun j hj => ?_⟩
    rw [b3 j (by omega), Array.getElem?_setIfInBounds, if_neg (by omega)]
theorem ch_cells (g : Nat) : ∀ (vs : List Value) (o : Nat) (w W : World), Ch (fun k => k = g) w W → Ch (fun k => k = g) w (W.setCells g o vs)
  | [], _, _, _, h => h
  | v :: r, o, w, W, h => ch_cells g r (o + 1) w _ (ch_one h o v)
theorem clear23 (ty : TypeId) (g o n c cap : Nat) (d : Array S23) (w : World) (h : RowB w g cap d) (hn : 0 < n) (hb : o + n * 2 ≤ cap * 2) :
    ∃ vs, (Builtin.clear_ #[46] ty #[.slice (some ⟨g, o, none⟩) n c]).run Tryd.prog w = .ok (.tuple #[]) (w.setCells g o vs) := by
  obtain ⟨cur, b1, b2, _⟩ := h
  refine ⟨(Builtin.zeroCells #[.int .i64 0, .int .i64 0] n).toList, ?_⟩
  have hlen : (Builtin.zeroCells #[.int .i64 0, .int .i64 0] n).toList.length = n * 2 := by simp [Builtin.zeroCells]
  have hst := run_storeCells_cells (P := Tryd.prog) g o (Builtin.zeroCells #[.int .i64 0, .int .i64 0] n).toList 0 w (fun j hj => by
      rw [hlen] at hj
      rw [YtdelfhahbngcfaaDoor.blk_cell b1 _ _ (Array.getElem?_eq_getElem (show o + 0 + j < cur.size by omega))]; rfl) (fun j _ => YtdelfhahbngcfaaDoor.blk_thawed b1 _) (by
      intro v hv
      have : v = .int .i64 0 := by
        simp only [Builtin.zeroCells, Array.toList_map, List.mem_map] at hv
        obtain ⟨i, _, hi⟩ := hv
        rw [← hi]
        have : i % 2 = 0 ∨ i % 2 = 1 := by omega
        rcases this with e | e <;> simp [e]
      rw [this]; rfl)
  simp only [Nat.add_zero] at hst
  obtain ⟨m, rfl⟩ : ∃ m, n = m + 1 := ⟨n - 1, by omega⟩
  simp [Builtin.clear_, run_underlying Tryd.underlying46, Tryd.zeroValue23]
  rw [show (Value.agg #[Value.int IntKind.i64 0, Value.int IntKind.i64 0]).cells = #[Value.int IntKind.i64 0, Value.int IntKind.i64 0] from rfl, hst]
  rfl
theorem ch_drewN {S : Nat → Prop} {w W : World} (h : Ch S w W) (q : Nat) : Ch S w (W.drewN q) := ⟨h.os, h.tape, h.output, h.size, h.block⟩
set_option maxRecDepth 100000 in
set_option maxHeartbeats 4000000 in
theorem compact_any (g cap : Nat) (d : Array S23) (w : World) (hB : RowB w g cap d) (hsz : d.size ≤ cap) (hcap : cap ≤ 9223372036854775807) :
    Calls Tryd.prog 43 #[.slice (some ⟨g, 0, none⟩) d.size cap] w fun e w' => e = .returned (.slice (some ⟨g, 0, none⟩) (compactUpTo d d.size).length cap) ∧ RowB w' g cap (compactUpTo d d.size).toArray ∧ Ch (fun k => k = g) w w' := by
  have HS := Lib.hid (show ∀ W, Ch (fun k => k = g) w W → RowB W g cap d → (∀ j, j < d.size → keeps d j = true) → (compactUpTo d d.size).length = d.size ∧ RowB W g cap (compactUpTo d d.size).toArray from fun W _ hR hall => by
    have e : compactUpTo d d.size = d.toList := by rw [compactUpTo_all d _ hall, range_map_get]
    rw [e]
    exact ⟨by simp, by simpa using hR⟩)
  have HB := Lib.hid hB
  clear hB
  by_cases h2 : d.size < 2
  · go_enter Tryd.func43, Tryd.ntmps43
    go_wp2
    go_ret
    obtain ⟨e1, e2⟩ := HS.out w (Ch.refl _ _) HB.out (fun j hj => keeps_lt_one d j (by omega))
    exact ⟨by rw [e1]; rfl, e2, Ch.refl _ _⟩
  · go_enter Tryd.func43, Tryd.ntmps43
    go_wp2
    go_loopw [3] (fun s3 wr => ∃ k : Nat, 1 ≤ k ∧ k ≤ d.size ∧ s3 = .int .i64 k ∧ Hid (RowB wr g cap d ∧ Ch (fun k => k = g) w wr ∧ ∀ j, j < k → keeps d j = true)) (fun s3 _ => d.size - (intOf s3).toNat)
    case atStart => exact ⟨1, Nat.le_refl _, by omega, rfl, Lib.hid ⟨HB.out, Ch.refl _ _, keeps_lt_one d⟩⟩
    case round =>
      clear HB
      obtain ⟨k, hk1, hk, rfl, HI⟩ := hrel
      by_cases hlt : k < d.size
      · obtain ⟨c0, c1⟩ := HI.out.1.cell hlt
        obtain ⟨p0, p1⟩ := HI.out.1.cell (show k - 1 < d.size by omega)
        obtain ⟨x, hx⟩ : ∃ x, x = d[k]! := ⟨_, rfl⟩
        obtain ⟨y, hy⟩ : ∃ y, y = d[k - 1]! := ⟨_, rfl⟩
        rw [← hx] at c0 c1
        rw [← hy] at p0 p1
        by_cases hdup : x = y
        · have HK := Lib.hid (show keeps d k = false from keeps_neg (by omega) (by rw [← hx, ← hy]; exact hdup))
          subst hdup
          have he := s23_eq x
          clear hx hy
          go_wp2
          repeat (go_quiet (fail); try go_wp2)
          clear c0 c1 p0 p1
          have HD := Lib.hid (show ∀ q, RowB (wr.drewN q) g cap d ∧ Ch (fun k => k = g) w (wr.drewN q) ∧ CompInv d (k + 1) k d from fun q => ⟨HI.out.1, ch_drewN HI.out.2.1 q, CompInv.start HI.out.2.2 HK.out⟩)
          clear HI HK he
          go_loopw [3, 5] (fun s3 s5 ws => ∃ (kk k2 : Nat) (dk : Array S23), s3 = .int .i64 kk ∧ s5 = .int .i64 k2 ∧ 1 ≤ k2 ∧ k + k2 ≤ d.size ∧ Hid (RowB ws g cap dk ∧ Ch (fun k => k = g) w ws ∧ CompInv d (k + k2) kk dk)) (fun _ s5 _ => d.size - (k + (intOf s5).toNat))
          case atStart => exact ⟨k, 1, d, rfl, rfl, Nat.le_refl _, by omega, Lib.hid (HD.out _)⟩
          case round =>
            clear HD
            obtain ⟨kk, k2, dk, rfl, rfl, h1, hle, HJ⟩ := hrel
            have hkk := HJ.out.2.2.lt
            have hds := HJ.out.2.2.size
            by_cases hlt2 : k + k2 < d.size
            · obtain ⟨m0, m1⟩ := HJ.out.1.cell (show k + k2 < dk.size by omega)
              obtain ⟨p0, p1⟩ := HJ.out.1.cell (show k + k2 - 1 < dk.size by omega)
              obtain ⟨z0, z1⟩ := HJ.out.1.cell (show kk < dk.size by omega)
              have f0 := HJ.out.1.thaw (kk * 2)
              have f1 := HJ.out.1.thaw (kk * 2 + 1)
              rw [HJ.out.2.2.high (k + k2) (by omega), show (k + k2) * 2 = k * 2 + k2 * 2 by omega] at m0 m1
              rw [HJ.out.2.2.high (k + k2 - 1) (by omega), show (k + k2 - 1) * 2 = k * 2 + (k2 - 1) * 2 by omega] at p0 p1
              obtain ⟨u, hu⟩ : ∃ u, u = d[k + k2]! := ⟨_, rfl⟩
              obtain ⟨v, hv⟩ : ∃ v, v = d[k + k2 - 1]! := ⟨_, rfl⟩
              rw [← hu] at m0 m1
              rw [← hv] at p0 p1
              by_cases huv : u = v
              · have HN := Lib.hid (show ∀ q, RowB (wr.drewN q) g cap dk ∧ Ch (fun k => k = g) w (wr.drewN q) ∧ CompInv d (k + (k2 + 1)) kk dk from fun q => ⟨HJ.out.1, ch_drewN HJ.out.2.1 q, HJ.out.2.2.skip (keeps_neg (by omega) (by rw [← hu, ← hv]; exact huv))⟩)
                subst huv
                have he := s23_eq u
                clear hu hv HJ
                go_wp2
                repeat (go_quiet (fail); try go_wp2)
                go_roundw
                case rel => exact ⟨kk, k2 + 1, dk, rfl, by go_num, by omega, by omega, Lib.hid (HN.out _)⟩
                case measure => simp [intOf]; omega
              · have HN := Lib.hid (show ∀ q, RowB (((wr.drewN q).setCell ⟨g, kk * 2, none⟩ (.int .i64 u.f0)).setCell ⟨g, kk * 2 + 1, none⟩ (.int .i64 u.f1)) g cap (dk.setIfInBounds kk u) ∧ Ch (fun k => k = g) w (((wr.drewN q).setCell ⟨g, kk * 2, none⟩ (.int .i64 u.f0)).setCell ⟨g, kk * 2 + 1, none⟩ (.int .i64 u.f1)) ∧ CompInv d (k + (k2 + 1)) (kk + 1) (dk.setIfInBounds kk u) from fun q => ⟨RowB.put (w := wr.drewN q) HJ.out.1 (by omega) (by omega) u, ch_one (ch_one (ch_drewN HJ.out.2.1 q) _ _) _ _, by
                  have := HJ.out.2.2.keep hlt2 (keeps_pos (by rw [← hu, ← hv]; exact huv))
                  rwa [← hu] at this⟩)
                have he := s23_ne huv
                clear hu hv HJ
                go_wp2
                repeat (go_quiet (fail); try go_wp2)
                go_roundw
                case rel => exact ⟨kk + 1, k2 + 1, dk.setIfInBounds kk u, by go_num, by go_num, by omega, by omega, Lib.hid (HN.out _)⟩
                case measure => simp [intOf]; omega
            · have hend : k + k2 = d.size := by omega
              have HCL := Lib.hid (fun ty => clear23 ty g (kk * 2) (d.size - kk) (cap - kk) cap dk wr HJ.out.1 (by omega) (by omega))
              have HFIN := Lib.hid (show ∀ vs, (compactUpTo d d.size).length = kk ∧ RowB (wr.setCells g (kk * 2) vs) g cap (compactUpTo d d.size).toArray ∧ Ch (fun k => k = g) w (wr.setCells g (kk * 2) vs) from fun vs => by
                have hI := HJ.out.2.2
                rw [hend] at hI
                refine ⟨hI.len, ?_, ch_cells g vs _ _ _ HJ.out.2.1⟩
                have e : (compactUpTo d d.size).toArray = dk.extract 0 kk := by
                  apply Array.ext_getElem?
                  intro j
                  by_cases hj : j < kk
                  · have := hI.low j hj
                    rw [List.getElem?_toArray, this, Array.getElem?_extract]
                    rw [if_pos (by omega)]; simp [show j < dk.size by omega]
                  · have h1 : (compactUpTo d d.size).toArray.size ≤ j := by rw [List.size_toArray, hI.len]; omega
                    rw [Array.getElem?_eq_none h1, Array.getElem?_eq_none (by simp; omega)]
                rw [e]
                exact RowB.clear HJ.out.1 vs (kk * 2) kk (Nat.le_refl _) (by omega))
              clear HJ
              obtain ⟨vs, hcl⟩ := HCL.out 0
              go_wp2
              go_ret
              obtain ⟨f1, f2, f3⟩ := HFIN.out vs
              exact ⟨by rw [f1]; rfl, f2, f3⟩
        · have he := s23_ne hdup
          have HN := Lib.hid (show ∀ q, RowB (wr.drewN q) g cap d ∧ Ch (fun k => k = g) w (wr.drewN q) ∧ ∀ j, j < k + 1 → keeps d j = true from fun q => ⟨HI.out.1, ch_drewN HI.out.2.1 q, fun j hj => by
            by_cases e : j = k
            · subst e
              exact keeps_pos (by rw [← hx, ← hy]; exact hdup)
            · exact HI.out.2.2 j (by omega)⟩)
          clear hx hy HI
          go_wp2
          repeat (go_quiet (fail); try go_wp2)
          go_roundw
          case rel => exact ⟨k + 1, by omega, by omega, by go_num, Lib.hid (HN.out _)⟩
          case measure => simp [intOf]; omega
      · have : k = d.size := by omega
        subst this
        go_wp2
        go_ret
        obtain ⟨e1, e2⟩ := HS.out wr HI.out.2.1 HI.out.1 HI.out.2.2
        exact ⟨by rw [e1]; rfl, e2, HI.out.2.1⟩
end Go.Proofs.YtdelfhahbngcfaaDoorX.P06
end
section
namespace Go.Proofs.YtdelfhahbngcfaaDoorX.P06
open Go.RowKit Go.Shelf Go.Sort Go.Lib Go.Proofs.YtdelfhahbngcfaaDoor Go.Proofs.YtdelfhahbngcfaaDoorW.PrintWords Go.Proofs.YtdelfhahbngcfaaDoorW.PrintLast Go.Proofs.YtdelfhahbngcfaaDoorW.PrintMore
set_option linter.unusedVariables false
set_option linter.unusedSimpArgs false
attribute [local go_sem] Oper.semAt_some
theorem k23_flat {W : World} (x : S23) (cs : List Value) (base : Nat) (ok : Nat → Prop) (h : k23.K W x cs) : k23.M W base ok x cs := by
  rw [k23_open h]
  exact k23_mkM _ _ _ _
theorem R23_empty (w : World) : Kd.R k23 23 (w.alloc (.cells #[] 23)) w.heap.size (fun _ => True) (.slice (some ⟨w.heap.size, 0, none⟩) 0 0) [] := by
  refine ⟨fun _ _ => trivial, [], ?_, by simp [Reps]⟩
  exact ⟨by simp, .inr ⟨w.heap.size, 0, #[], rfl, Nat.le_refl _, Go.heap_alloc_new w _, Nat.le_refl _, by simp [maxLen], by simp, by simp⟩⟩
set_option maxRecDepth 100000 in
set_option maxHeartbeats 1000000 in
theorem clone23 (A0 : Option Addr) (c0 : Nat) (l0 : List (S23)) (w : World) (hr0 : Kd.C k23 w A0 l0.length l0) (hc0 : l0.length ≤ c0) (hn : l0.length < 1000000) :
    Calls Tryd.prog 41 #[.slice A0 l0.length c0] w fun e w' => ∃ v0_ : Value, e = .returned (v0_) ∧ Kd.R k23 23 w' w.heap.size (fun _ => True) v0_ l0 ∧ Below w.heap.size w w' := by
  cases A0 with
  | none =>
    have h0 : l0.length = 0 := by
      rcases Nat.eq_zero_or_pos l0.length with h | h
      · exact h
      · obtain ⟨ad, e, _⟩ := hr0.2.2 h
        cases e
    obtain rfl : l0 = [] := List.eq_nil_of_length_eq_zero h0
    have he : ∀ w : World, (binOp .eql 46 (.slice none 0 c0) (.slice none 0 0)).run Tryd.prog w = .ok (.bool true) w := fun _ => rfl
    clear hr0 h0
    simp only [List.length_nil]
    go_enter Tryd.func41, Tryd.ntmps41
    go_wp2
    go_ret
    exact ⟨_, rfl, Kd.R_nil _ _ _ _ _, Below.refl _ _⟩
  | some a =>
    have he : ∀ w : World, (binOp .eql 46 (.slice (some a) l0.length c0) (.slice none 0 0)).run Tryd.prog w = .ok (.bool false) w := fun _ => rfl
    have hb0 : Below w.heap.size w (w.alloc (.cells #[] 23)) := (Below.refl _ w).alloc (Nat.le_refl _) _
    have HR := Lib.hid (Kd.C_below hr0 hb0)
    have HE := Lib.hid (R23_empty w); have HB := Lib.hid hb0
    clear hr0 hb0
    go_enter Tryd.func41, Tryd.ntmps41
    go_wp2_with (at_builtin; refine Kd.R_append_rows k23 (Rr := k23.K (w.alloc (.cells #[] 23))) (w0 := w) w.heap.size rfl (.tmp 5) (.tmp 6) 46 23 _ 16 rfl Tryd.underlying46 info23 rfl (by decide) (by decide) _ [] l0 _ _ _ (fun _ => True) (fun _ => False) rfl rfl HE.out HR.out (fun x cs h => k23_flat x cs _ _ h) (fun _ h => h.elim) (fun _ _ => trivial) HB.out HB.out.size (by simp; omega) ?_; intro v1 w1 ho hb hg hat; rw [List.nil_append] at ho; have HO := Lib.hid ho; have HB1 := Lib.hid hb; clear ho hb hg hat)
    go_ret
    exact ⟨_, rfl, HO.out, HB1.out⟩
theorem ltD (x y : S23) : ltOf ordD x y = decide (x.f0 < y.f0 ∨ (x.f0 = y.f0 ∧ x.f1 < y.f1)) := by
  unfold ltOf ordD Lib.compareInt
  by_cases h1 : x.f0 < y.f0
  · simp [h1]
  · by_cases h2 : y.f0 < x.f0
    · simp [h1, h2]
      omega
    · have e : x.f0 = y.f0 := by omega
      simp [e]
      by_cases h3 : x.f1 < y.f1
      · simp [h3]
      · by_cases h4 : y.f1 < x.f1 <;> simp [h3, h4]
theorem swoD : SWO (ltOf ordD) where
  irrefl x := by rw [ltD]; simp
  trans x y z h1 h2 := by rw [ltD] at *; simp at *; omega
  ntrans x y z h1 h2 := by rw [ltD] at *; simp at *; omega
theorem totD (x y : S23) (h1 : ltOf ordD x y = false) (h2 : ltOf ordD y x = false) : x = y := by
  rw [ltD] at h1 h2
  simp at h1 h2
  cases x; cases y
  simp only [S23.mk.injEq]
  simp only [] at h1 h2
  omega
def srt (l : List S23) : List S23 := l.mergeSort fun x y => !(ltOf ordD) y x
def sortV (l : List S23) : List S23 := compactUpTo (srt l).toArray (srt l).length
theorem sort42 (g cap : Nat) (l : List S23) (w : World) (cur : Array Value) (hb : YtdelfhahbngcfaaDoor.Blk w g 23 cur) (hs : cur.size = cap * 2) (hl : l.length ≤ cap) (ht : cur.toList.take (l.length * 2) = l.flatMap c23) (hn : l.length < 1000000) :
    Calls Tryd.prog 42 #[.slice (some ⟨g, 0, none⟩) l.length cap, .func (.func 40) #[] #[]] w fun e w' => e = .returned (.tuple #[]) ∧ RowB w' g cap (srt l).toArray ∧ Ch (fun k => k = g) w w' := by
  have hlt := YtdelfhahbngcfaaDoor.blk_lt hb
  have get : ∀ j, j < l.length → ∀ c, c < 2 → cur[j * 2 + c]? = (c23 l[j]!)[c]? := by
    intro j hj c hc
    have h1 : (cur.toList.take (l.length * 2))[j * 2 + c]? = cur[j * 2 + c]? := by
      rw [List.getElem?_take, if_pos (by omega)]; simp
    rw [← h1, ht]
    clear h1 ht hb hs hl hn
    induction l generalizing j with
    | nil => exact absurd hj (by simp)
    | cons x r ih =>
      rw [List.flatMap_cons]
      cases j with
      | zero =>
        rw [List.getElem?_append_left (by simp [c23]; omega)]
        simp
      | succ j =>
        rw [List.getElem?_append_right (by simp [c23]; omega), show (j + 1) * 2 + c - (c23 x).length = j * 2 + c by simp [c23]; omega, ih j (by simpa using hj)]
        simp
  have hH : HoldsK c23 2 w g 0 l.toArray := by
    intro t ht2
    rw [size_flatK, List.size_toArray] at ht2
    have hj : t / 2 < l.length := by omega
    refine ⟨?_, YtdelfhahbngcfaaDoor.blk_thawed hb _⟩
    rw [get_flatK _ _ _ _ (by simpa using ht2), Nat.zero_add]
    have := get (t / 2) hj (t % 2) (by omega)
    rw [show t / 2 * 2 + t % 2 = t by omega] at this
    refine YtdelfhahbngcfaaDoor.blk_cell hb t _ (this.trans ?_)
    have e : l.toArray[t / 2]! = l[t / 2]! := by simp
    rw [e]
    have : t % 2 = 0 ∨ t % 2 = 1 := by omega
    rcases this with e2 | e2 <;> rw [e2] <;> rfl
  have eg : ∀ args w, (callFunc 40 args).run Tryd.prog w = .ok (.enter 40 args) w := enters_of Tryd.func40 (by kernel_rfl) rfl
  have hcmp : CmpLays Tryd.prog 40 #[] c23 2 ordD g 0 l.toArray.size w := fun m os dk hs x y => order_any x y _
  have hcon := AnyQ.slices_SortFunc_total sortDot 2 Tryd.isAgg23 Tryd.sizeOf23 c23 (fun _ => rfl) (fun x v hv => by simp [c23] at hv; rcases hv with rfl | rfl <;> rfl) ordD swoD 40 #[] g 0 cap l.toArray w eg hcmp hH hlt (by simp; omega) totD
  change Calls Tryd.prog 42 _ _ _ at hcon
  refine hcon.mono ?_
  rintro e w' ⟨rfl, n, os, rfl⟩
  refine ⟨rfl, ?_, ?_⟩
  · have hlen : (srt l).length = l.length := List.length_mergeSort _
    refine ⟨putCells id 0 (flatK c23 2 (srt l).toArray) cur, ?_, by simp [putCells, hs], fun j hj => ?_⟩
    · show (sortWorldK c23 2 w g 0 n (srt l).toArray os).heap[g]? = _
      unfold sortWorldK putRowK
      rw [heap_grow_old _ _ (by simpa [putRow, mapBlock, Sort.ahead] using hlt)]
      have hb' : w.heap[g]? = some (.cells cur 23 (0, 0)) := hb
      simp [putRow, mapBlock, Sort.ahead, Array.getElem?_modify, hb', onCells]
    · have hj2 : j < (srt l).length := by simpa using hj
      have hz : (flatK c23 2 (srt l).toArray).size = (srt l).length * 2 := by simp
      have at_ : ∀ c, c < 2 → (putCells id 0 (flatK c23 2 (srt l).toArray) cur)[j * 2 + c]? = some ((c23 (srt l).toArray[j]!)[c]!) := fun c hc => by
        unfold putCells
        rw [Array.getElem?_mapIdx, Array.getElem?_eq_getElem (show j * 2 + c < cur.size by omega)]
        simp only [Option.map_some]
        rw [if_pos (by omega), Nat.sub_zero, id, get_flatK _ _ _ _ (by simpa using (show j * 2 + c < (srt l).length * 2 by omega))]
        rw [show (j * 2 + c) / 2 = j by omega, show (j * 2 + c) % 2 = c by omega]
      exact ⟨at_ 0 (by omega), at_ 1 (by omega)⟩
  · refine ⟨rfl, rfl, rfl, ?_, fun k hk hn => ?_⟩
    · simp [sortWorldK, putRowK, putRow, mapBlock, Sort.ahead]
    · unfold sortWorldK putRowK
      rw [heap_grow_old _ _ (by simpa [putRow, mapBlock, Sort.ahead] using hk)]
      have : g ≠ k := fun e => hn e.symm
      simp [putRow, mapBlock, Sort.ahead, Array.getElem?_modify, this]
theorem compact_nil (A : Option Addr) (c : Nat) (w : World) : Calls Tryd.prog 43 #[.slice A 0 c] w fun e w' => e = .returned (.slice A 0 c) ∧ w = w' := by
  go_enter Tryd.func43, Tryd.ntmps43
  go_wp2
  go_ret
  exact ⟨rfl, rfl⟩
theorem c23_len (l : List S23) : (l.flatMap c23).length = l.length * 2 := by
  induction l with
  | nil => rfl
  | cons x r ih => rw [List.flatMap_cons, List.length_append, ih]; simp [c23]; omega
theorem reps23 : ∀ (l : List S23) (w : World) (base : Nat) (ok : Nat → Prop), Reps (k23.M w base ok) 2 l (l.flatMap c23)
  | [], _, _, _ => Reps.none _ _
  | x :: t, w, base, ok => Reps.front (k23_mkM _ _ _ x) rfl (reps23 t w base ok) rfl
theorem R_of_row {w : World} {base g cap : Nat} {l : List S23} (hb : base ≤ g) (h : RowB w g cap l.toArray) (hl : l.length ≤ cap) (hc : cap ≤ maxLen) : Kd.R k23 23 w base (fun _ => True) (.slice (some ⟨g, 0, none⟩) l.length cap) l := by
  obtain ⟨cur, b1, b2, b3⟩ := h
  refine ⟨fun _ _ => trivial, l.flatMap c23, ⟨c23_len l, .inr ⟨g, cap, cur, rfl, hb, b1, hl, hc, b2, ?_⟩⟩, reps23 l _ _ _⟩
  apply List.ext_getElem?
  intro t
  by_cases ht : t < l.length * 2
  · show (cur.toList.take (l.length * 2))[t]? = _
    rw [List.getElem?_take, if_pos ht, Array.getElem?_toList]
    obtain ⟨q0, q1⟩ := b3 (t / 2) (by simp; omega)
    have e : l.toArray[t / 2]! = l[t / 2]! := by simp
    rw [e] at q0 q1
    have key : ∀ (l : List S23) (j c : Nat), j < l.length → c < 2 → (l.flatMap c23)[j * 2 + c]? = (c23 l[j]!)[c]? := by
      intro l
      induction l with
      | nil => exact fun j c hj _ => absurd hj (by simp)
      | cons x r ih =>
        intro j c hj hc
        rw [List.flatMap_cons]
        cases j with
        | zero =>
          rw [List.getElem?_append_left (by simp [c23]; omega)]
          simp
        | succ j =>
          rw [List.getElem?_append_right (by simp [c23]; omega), show (j + 1) * 2 + c - (c23 x).length = j * 2 + c by simp [c23]; omega, ih j c (by simpa using hj) hc]
          simp
    have k2 := key l (t / 2) (t % 2) (by omega) (by omega)
    rw [show t / 2 * 2 + t % 2 = t by omega] at k2
    rw [k2]
    have : t % 2 = 0 ∨ t % 2 = 1 := by omega
    rcases this with e2 | e2
    · rw [show t / 2 * 2 = t by omega] at q0; rw [e2, q0]; rfl
    · rw [show t / 2 * 2 + 1 = t by omega] at q1; rw [e2, q1]; rfl
  · show (cur.toList.take (l.length * 2))[t]? = _
    rw [List.getElem?_eq_none (by simp; omega), List.getElem?_eq_none (by rw [c23_len]; omega)]
theorem row_of_R {w : World} {base : Nat} {v : Value} {l : List S23} (h : Kd.R k23 23 w base (fun _ => True) v l) : (v = .slice none 0 0 ∧ l = []) ∨
    ∃ g cap cur, v = .slice (some ⟨g, 0, none⟩) l.length cap ∧ base ≤ g ∧ YtdelfhahbngcfaaDoor.Blk w g 23 cur ∧ l.length ≤ cap ∧ cap ≤ maxLen ∧ cur.size = cap * 2 ∧ cur.toList.take (l.length * 2) = l.flatMap c23 := by
  obtain ⟨_, inner, ho, hr⟩ := h
  rcases ho.2 with ⟨rfl, h0⟩ | ⟨g, cap, cur, rfl, h2, h3, h4, h5, h6, h7⟩
  · exact .inl ⟨rfl, List.eq_nil_of_length_eq_zero h0⟩
  · refine .inr ⟨g, cap, cur, rfl, h2, h3, h4, h5, h6, h7.trans ?_⟩
    have key : ∀ (l : List S23) (cs : List Value) (ok : Nat → Prop), Reps (k23.M w base ok) 2 l cs → cs = l.flatMap c23 := by
      intro l
      induction l with
      | nil => exact fun cs ok h => List.eq_nil_of_length_eq_zero (by simpa using h.1)
      | cons x r ih =>
        intro cs ok h
        have h0 := h.2 0 x rfl
        have hl := h.1
        rw [Nat.zero_mul, List.drop_zero] at h0
        have e0 := k23_openM h0
        have hr : Reps (k23.M w base ok) 2 r (cs.drop 2) := ⟨by rw [List.length_drop, hl, List.length_cons]; omega, fun j p hp => by
          have := h.2 (j + 1) p (by simpa using hp)
          rw [List.drop_drop]
          rwa [show 2 + j * 2 = (j + 1) * 2 by omega]⟩
        have e1 := ih _ ok hr
        rw [List.flatMap_cons, ← e1]
        conv => lhs; rw [← List.take_append_drop 2 cs, e0]
        rfl
    exact key l inner _ hr
def dot_Sort.f (l0 : List S23) : Option (List S23) := if l0.length < 1000000 then some (sortV l0) else none
set_option maxHeartbeats 2000000 in
theorem dot_Sort.calls (A0 : Option Addr) (c0 : Nat) (l0 : List (S23)) (r : List S23) (w : World) (hr0 : Kd.C k23 w A0 l0.length l0) (hc0 : l0.length ≤ c0) (h : dot_Sort.f l0 = some r) :
    Calls Tryd.prog 26 #[.slice A0 l0.length c0] w fun e w' => ∃ v0_ : Value, e = .returned (v0_) ∧ Kd.R k23 23 w' w.heap.size (fun _ => True) v0_ r ∧ Below w.heap.size w w' := by
  unfold dot_Sort.f at h
  by_cases hn : l0.length < 1000000
  rotate_left
  · rw [if_neg hn] at h; cases h
  rw [if_pos hn] at h
  obtain rfl := Option.some.inj h
  have HC := Lib.hid (clone23 A0 c0 l0 w hr0 hc0 hn)
  have HREST := Lib.hid (show ∀ (v : Value) (w1 : World), Kd.R k23 23 w1 w.heap.size (fun _ => True) v l0 → Below w.heap.size w w1 →
      Calls Tryd.prog 42 #[v, .func (.func 40) #[] #[]] w1 fun e w2 => e = .returned (.tuple #[]) ∧ Calls Tryd.prog 43 #[v] w2 fun e w' => ∃ v0_ : Value, e = .returned v0_ ∧ Kd.R k23 23 w' w.heap.size (fun _ => True) v0_ (sortV l0) ∧ Below w.heap.size w w' from fun v w1 ho hb1 => by
    rcases row_of_R ho with ⟨rfl, rfl⟩ | ⟨g, cap, cur, rfl, hg, hb, hl, hcm, hs, ht⟩
    · refine (AnyF.slices_SortFunc_none sortDot none 0 _ w1).mono ?_
      rintro e w2 ⟨rfl, rfl⟩
      refine ⟨rfl, (compact_nil none 0 w2).mono ?_⟩
      rintro e w3 ⟨rfl, rfl⟩
      exact ⟨_, rfl, by simpa [sortV, srt, compactUpTo] using Kd.R_nil _ _ _ _ _, hb1⟩
    · refine (sort42 g cap l0 w1 cur hb hs hl ht hn).mono ?_
      rintro e w2 ⟨rfl, hrow, hch⟩
      refine ⟨rfl, ?_⟩
      have hlen : (srt l0).length = l0.length := List.length_mergeSort _
      have hsz : (srt l0).toArray.size = l0.length := by simpa using hlen
      have := compact_any g cap (srt l0).toArray w2 hrow (by omega) (by simpa only [maxLen] using hcm)
      rw [hsz] at this
      refine this.mono ?_
      rintro e w3 ⟨rfl, hrow2, hch2⟩
      have hle : (compactUpTo (srt l0).toArray (srt l0).length).length ≤ l0.length := by
        unfold compactUpTo
        rw [List.length_map]
        exact Nat.le_trans (List.length_filter_le _ _) (by simp [hlen])
      refine ⟨_, rfl, ?_, ?_⟩
      · have := R_of_row (l := sortV l0) hg (by unfold sortV; rw [hlen]; exact hrow2) (by unfold sortV; omega) hcm
        unfold sortV at this ⊢
        rw [hlen] at this ⊢
        exact this
      · have h3 := hch.trans hch2 (fun _ h => .inl h)
        have h4 := h3.below (B := w.heap.size) hb1.size (fun k hk => by rw [hk]; exact hg)
        exact hb1.trans h4)
  clear hr0 h
  go_enter Tryd.func26, Tryd.ntmps26
  go_wp2_with first | (go_at_call 41; refine HC.out.mono ?_; rintro e w1 ⟨v1, rfl, ho, hb⟩; have HS := Lib.hid (HREST.out v1 w1 ho hb); clear ho hb) | (go_at_call 42; refine HS.out.mono ?_; rintro e w2 ⟨rfl, hcm⟩; have HCM := Lib.hid hcm; clear hcm) | (go_at_call 43; refine HCM.out.mono ?_; rintro e w3 ⟨v3, rfl, ho, hb⟩; have HO := Lib.hid ho; have HB := Lib.hid hb; clear ho hb)
  go_ret
  exact ⟨_, rfl, HO.out, HB.out⟩
end Go.Proofs.YtdelfhahbngcfaaDoorX.P06
end
section
namespace Go.Proofs.YtdelfhahbngcfaaDoorX.P06
open Go.RowKit Go.Sort Go.Lib Go.Proofs.YtdelfhahbngcfaaDoorW.PrintWords Go.Proofs.YtdelfhahbngcfaaDoorW.PrintLast Go.Proofs.YtdelfhahbngcfaaDoorW.PrintMore
set_option linter.unusedVariables false
set_option linter.unusedSimpArgs false
def ltDot (x y : S23) : Prop := x.f0 < y.f0 ∨ (x.f0 = y.f0 ∧ x.f1 < y.f1)
def leDot (x y : S23) : Prop := x.f0 < y.f0 ∨ (x.f0 = y.f0 ∧ x.f1 ≤ y.f1)
theorem srt_pw (l : List S23) : (srt l).Pairwise leDot := by
  unfold srt
  have := List.pairwise_mergeSort (le := fun x y : S23 => !(ltOf ordD) y x) (fun a b c h1 h2 => by
    simp only [ltD, Bool.not_eq_true', decide_eq_false_iff_not] at *
    omega) (fun a b => by
    simp only [ltD, Bool.or_eq_true, Bool.not_eq_true', decide_eq_false_iff_not]
    omega) l
  refine this.imp ?_
  intro a b h
  simp only [ltD, Bool.not_eq_true', decide_eq_false_iff_not] at h
  unfold leDot
  omega
theorem srt_mem (l : List S23) (x : S23) : x ∈ srt l ↔ x ∈ l := by unfold srt; exact List.mem_mergeSort
theorem get_le {l : List S23} (h : l.Pairwise leDot) {i j : Nat} (hij : i < j) (hj : j < l.length) : leDot l[i] l[j] := by
  have := List.pairwise_iff_getElem.1 h i j (by omega) hj hij
  exact this
theorem arr_get (l : List S23) (i : Nat) (hi : i < l.length) : l.toArray[i]! = l[i] := by simp [hi]
theorem compact_law (l : List S23) (h : l.Pairwise leDot) : ∀ m, m ≤ l.length → (compactUpTo l.toArray m).Pairwise ltDot ∧ (∀ x, x ∈ compactUpTo l.toArray m ↔ ∃ j, ∃ hj : j < l.length, j < m ∧ l[j] = x)
  | 0, _ => by
    have e : compactUpTo l.toArray 0 = [] := rfl
    rw [e]
    exact ⟨List.Pairwise.nil, fun x => ⟨fun h => (by cases h), fun ⟨j, _, h, _⟩ => absurd h (Nat.not_lt_zero j)⟩⟩
  | m + 1, hm => by
    obtain ⟨h1, h2⟩ := compact_law l h m (by omega)
    rw [compactUpTo_succ]
    have hml : m < l.length := by omega
    rw [arr_get l m hml]
    cases hk : keeps l.toArray m with
    | true =>
      simp only [if_true]
      refine ⟨?_, fun x => ?_⟩
      · rw [List.pairwise_append]
        refine ⟨h1, List.pairwise_singleton _ _, fun x hx y hy => ?_⟩
        rw [List.mem_singleton] at hy
        subst hy
        obtain ⟨j, hj, hjm, rfl⟩ := (h2 x).1 hx
        unfold keeps at hk
        have hk := of_decide_eq_true hk
        have hm0 : m ≠ 0 := by omega
        have hne : l[m] ≠ l[m - 1] := by
          rcases hk with e | e
          · exact absurd e hm0
          · rw [arr_get l m hml, arr_get l (m - 1) (by omega)] at e; exact e
        have hle1 := get_le h (i := m - 1) (j := m) (by omega) hml
        have hle2 : leDot l[j] l[m - 1] := by
          by_cases e : j = m - 1
          · subst e; exact .inr ⟨rfl, Int.le_refl _⟩
          · exact get_le h (by omega) (by omega)
        have hlt : ltDot l[m - 1] l[m] := by
          unfold leDot at hle1
          unfold ltDot
          rcases hle1 with h3 | ⟨h3, h4⟩
          · exact .inl h3
          · by_cases e : l[m - 1].f1 = l[m].f1
            · exfalso
              apply hne
              have : ∀ a b : S23, a.f0 = b.f0 → a.f1 = b.f1 → b = a := fun a b h1 h2 => by cases a; cases b; simp_all
              exact this _ _ h3 e
            · exact .inr ⟨h3, by omega⟩
        unfold leDot at hle2
        unfold ltDot at hlt ⊢
        omega
      · rw [List.mem_append, List.mem_singleton, h2]
        constructor
        · rintro (⟨j, hj, hjm, e⟩ | e)
          · exact ⟨j, hj, by omega, e⟩
          · exact ⟨m, hml, by omega, e.symm⟩
        · rintro ⟨j, hj, hjm, e⟩
          by_cases hje : j = m
          · subst hje; exact .inr e.symm
          · exact .inl ⟨j, hj, by omega, e⟩
    | false =>
      simp only [Bool.false_eq_true, if_false, List.append_nil]
      refine ⟨h1, fun x => ?_⟩
      unfold keeps at hk
      have hk := of_decide_eq_false hk
      have hm0 : m ≠ 0 := fun e => hk (.inl e)
      have heq : l[m] = l[m - 1] := Classical.byContradiction fun e => hk (.inr (by rw [arr_get l m hml, arr_get l (m - 1) (by omega)]; exact e))
      rw [h2]
      constructor
      · rintro ⟨j, hj, hjm, e⟩; exact ⟨j, hj, by omega, e⟩
      · rintro ⟨j, hj, hjm, e⟩
        by_cases hje : j = m
        · subst hje; exact ⟨j - 1, by omega, by omega, by rw [← heq]; exact e⟩
        · exact ⟨j, hj, by omega, e⟩
theorem sort_law (l : List S23) : (sortV l).Pairwise ltDot ∧ ∀ x, x ∈ sortV l ↔ x ∈ l := by
  obtain ⟨h1, h2⟩ := compact_law (srt l) (srt_pw l) (srt l).length (Nat.le_refl _)
  refine ⟨h1, fun x => ?_⟩
  unfold sortV
  rw [h2, ← srt_mem, List.mem_iff_getElem]
  constructor
  · rintro ⟨j, hj, _, e⟩; exact ⟨j, hj, e⟩
  · rintro ⟨j, hj, e⟩; exact ⟨j, hj, hj, e⟩
instance : DecidableEq S23 := fun a b => decidable_of_iff (a.f0 = b.f0 ∧ a.f1 = b.f1) (by cases a; cases b; simp)
theorem sameD_loop (a : List S23) (hl : a.length < 1000000) : ∀ (d j : Nat), j + d = a.length → Ev (fun k => tributarykit_SameDots.l0 k a a (j : Int)) true
  | 0, j, hj => by
    refine Ev.step (fun _ => rfl) ?_
    simp only [tributarykit_SameDots.l0]
    exact ev_neg (by omega) (Ev.now true)
  | d + 1, j, hj => by
    have h1 : j < a.length := by omega
    refine Ev.step (fun _ => rfl) ?_
    simp only [tributarykit_SameDots.l0]
    refine ev_pos (by omega) (ev_pos (by omega) (ev_pos (by omega) (ev_neg (by simp) ?_)))
    rw [w64 (by omega : -9223372036854775808 ≤ (j : Int) + 1 ∧ (j : Int) + 1 ≤ 9223372036854775807), show (j : Int) + 1 = ((j + 1 : Nat) : Int) by omega]
    exact sameD_loop a hl d (j + 1) (by omega)
theorem sameD_ev (a : List S23) (hl : a.length < 1000000) : Ev (fun k => tributarykit_SameDots.f k a a) true := by
  unfold tributarykit_SameDots.f
  exact ev_pos rfl (sameD_loop a hl a.length 0 (by omega))
theorem sorted_one : ∀ {a b : List S23}, a.Pairwise ltDot → b.Pairwise ltDot → (∀ x, x ∈ a ↔ x ∈ b) → a = b
  | [], [], _, _, _ => rfl
  | [], y :: b, _, _, h => by have := (h y).2 (List.mem_cons_self ..); cases this
  | x :: a, [], _, _, h => by have := (h x).1 (List.mem_cons_self ..); cases this
  | x :: a, y :: b, ha, hb, h => by
    rw [List.pairwise_cons] at ha hb
    have h1 : x = y := by
      rcases List.mem_cons.1 ((h x).1 (List.mem_cons_self ..)) with e | e
      · exact e
      · rcases List.mem_cons.1 ((h y).2 (List.mem_cons_self ..)) with e2 | e2
        · exact e2.symm
        · have := hb.1 x e; have := ha.1 y e2; unfold ltDot at *; omega
    subst h1
    congr 1
    refine sorted_one ha.2 hb.2 (fun z => ?_)
    constructor
    · intro hz
      rcases List.mem_cons.1 ((h z).1 (List.mem_cons_of_mem _ hz)) with e | e
      · have := ha.1 z hz; rw [e] at this; unfold ltDot at this; omega
      · exact e
    · intro hz
      rcases List.mem_cons.1 ((h z).2 (List.mem_cons_of_mem _ hz)) with e | e
      · have := hb.1 z hz; rw [e] at this; unfold ltDot at this; omega
      · exact e
theorem sort_is {l a : List S23} (h : a.Pairwise ltDot) (hm : ∀ x, x ∈ l ↔ x ∈ a) : sortV l = a := sorted_one (sort_law l).1 h (fun x => ((sort_law l).2 x).trans (hm x))
instance (x y : S23) : Decidable (ltDot x y) := by unfold ltDot; infer_instance
end Go.Proofs.YtdelfhahbngcfaaDoorX.P06
end
section
namespace Go.Proofs.YtdelfhahbngcfaaDoorX.P06
open Go.RowKit Go.Proofs.YtdelfhahbngcfaaDoorW.PrintWords Go.Proofs.YtdelfhahbngcfaaDoorW.PrintLast Go.Proofs.YtdelfhahbngcfaaDoorW.PrintMore
attribute [local go_sem] max2_int min2_int max_two min_two max_three min_three max_four min_four   -- for this text's walks alone
set_option linter.unusedVariables false
set_option linter.unusedSimpArgs false
section
attribute [local go_sem high] eqA23 eqA36
mutual
def tributarylaw06_DotKnown.j0 : Nat → Int → Int → Bool → Int → Int → Option (Bool)
 | 0, _, _, _, _, _ => none
 | k + 1, x2, x4, x5, x328000, x328001 => (dot_Read.f ([] : List Int)).bind fun bt343 => ((dot_Read.f (([3, 0, 0, 1, 2, 0] : List Int))).bind fun bt352 => ((dot_Read.f (([0, 0, 0, 0, 1] : List Int))).bind fun bt361 => ((dot_Parse.f (⟨#[51, 46]⟩ : ByteArray)).bind fun bt367 => ((dot_Parse.f (⟨#[48, 51, 46, 49]⟩ : ByteArray)).bind fun bt371 => (if x2 = 0 then ((tributarylaw06_of.f 3 259).bind fun bt375 => (if (x328000 == bt375.1 && (x328001 == bt375.2)) = true then (if x4 = 5 then (if (bt343.2.2.1 == 4 && (bt343.2.2.2 == 0)) = true then (if (bt352.2.2.1 == 4 && (bt352.2.2.2 == 5)) = true then (tributarylaw06_DotKnown.j1 k x5 bt367.2.2 bt371.2.2 (bt361.2.2.1 == 2 && (bt361.2.2.2 == 0))) else (tributarylaw06_DotKnown.j1 k x5 bt367.2.2 bt371.2.2 false)) else (tributarylaw06_DotKnown.j1 k x5 bt367.2.2 bt371.2.2 false)) else (tributarylaw06_DotKnown.j1 k x5 bt367.2.2 bt371.2.2 false)) else (tributarylaw06_DotKnown.j1 k x5 bt367.2.2 bt371.2.2 false))) else (tributarylaw06_DotKnown.j1 k x5 bt367.2.2 bt371.2.2 false))))))
def tributarylaw06_DotKnown.j1 : Nat → Bool → Int → Int → Bool → Option (Bool)
 | 0, _, _, _, _ => none
 | k + 1, x5, x13, x15, x16 => (tributarylaw06_awake.f).bind fun t377 => (if t377 = true then (if x5 = true then (if x16 = true then (if x13 = 2 then (if x15 = 2 then ((tributarylaw06_of.f 2 1).bind fun bt378 => ((tributarylaw06_of.f 1 9).bind fun bt380 => ((tributarylaw06_of.f 2 1).bind fun bt382 => ((dot_Sort.f (([(⟨bt378.1, bt378.2⟩ : S23), (⟨bt380.1, bt380.2⟩ : S23), (⟨bt382.1, bt382.2⟩ : S23)] : List (S23)))).bind fun t387 => ((tributarylaw06_of.f 1 9).bind fun bt390 => ((tributarylaw06_of.f 2 1).bind fun bt392 => ((tributarykit_SameDots.f k t387 (([(⟨bt390.1, bt390.2⟩ : S23), (⟨bt392.1, bt392.2⟩ : S23)] : List (S23)))).bind fun t397 => (some t397)))))))) else (some false)) else (some false)) else (some false)) else (some false)) else (some false))
end
def tributarylaw06_DotKnown.f (k : Nat)  : Option (Bool) := (tributarylaw06_of.f 3 258).bind fun bt322 => ((dot_Next.f bt322.1 bt322.2).bind fun bt324 => ((tributarylaw06_of.f 3 2147483647).bind fun bt328 => ((dot_Next.f bt328.1 bt328.2).bind fun bt330 => ((tributarylaw06_of.f 201 1).bind fun bt334 => ((dot_Check.f bt334.1 bt334.2).bind fun t336 => (if t336 = 2 then ((tributarylaw06_of.f 1 0).bind fun bt337 => ((dot_Check.f bt337.1 bt337.2).bind fun t339 => (if t339 = 2 then ((tributarylaw06_of.f 200 2147483647).bind fun bt340 => ((dot_Check.f bt340.1 bt340.2).bind fun t342 => (tributarylaw06_DotKnown.j0 k bt324.2.2 bt330.2.2 (t342 == 0) bt324.1 bt324.2.1))) else (tributarylaw06_DotKnown.j0 k bt324.2.2 bt330.2.2 false bt324.1 bt324.2.1)))) else (tributarylaw06_DotKnown.j0 k bt324.2.2 bt330.2.2 false bt324.1 bt324.2.1)))))))
theorem tributarylaw06_DotKnown.mono_l : ∀ k, (∀ y0 y1 y2 y3 y4, LeO (tributarylaw06_DotKnown.j0 k y0 y1 y2 y3 y4) (tributarylaw06_DotKnown.j0 (k + 1) y0 y1 y2 y3 y4)) ∧ (∀ y0 y1 y2 y3, LeO (tributarylaw06_DotKnown.j1 k y0 y1 y2 y3) (tributarylaw06_DotKnown.j1 (k + 1) y0 y1 y2 y3))
 | 0 => ⟨fun _ _ _ _ _ r h => by simp [tributarylaw06_DotKnown.j0] at h, fun _ _ _ _ r h => by simp [tributarylaw06_DotKnown.j1] at h⟩
 | k + 1 => by
  obtain ⟨ih0, ih1⟩ := tributarylaw06_DotKnown.mono_l k
  refine ⟨?_, ?_⟩
  ·
   intro y0 y1 y2 y3 y4
   unfold tributarylaw06_DotKnown.j0
   repeat' first
   | (with_reducible exact ih0 _ _ _ _ _)
   | (with_reducible exact ih1 _ _ _ _)
   | (with_reducible exact tributarykit_SameDots.mono _ _ _)
   | (with_reducible exact LeO.refl _)
   | (with_reducible exact LeO.none _)
   | (with_reducible refine LeO.ite ?_ ?_)
   | (with_reducible refine LeO.bind ?_ (fun _ => ?_))
   | exact ih0 _ _ _ _ _
   | exact ih1 _ _ _ _
   | exact tributarykit_SameDots.mono _ _ _
   | exact LeO.none _
   | refine LeO.ite ?_ ?_
   | refine LeO.bind ?_ (fun _ => ?_)
  ·
   intro y0 y1 y2 y3
   unfold tributarylaw06_DotKnown.j1
   repeat' first
   | (with_reducible exact ih0 _ _ _ _ _)
   | (with_reducible exact ih1 _ _ _ _)
   | (with_reducible exact tributarykit_SameDots.mono _ _ _)
   | (with_reducible exact LeO.refl _)
   | (with_reducible exact LeO.none _)
   | (with_reducible refine LeO.ite ?_ ?_)
   | (with_reducible refine LeO.bind ?_ (fun _ => ?_))
   | exact ih0 _ _ _ _ _
   | exact ih1 _ _ _ _
   | exact tributarykit_SameDots.mono _ _ _
   | exact LeO.none _
   | refine LeO.ite ?_ ?_
   | refine LeO.bind ?_ (fun _ => ?_)
theorem tributarylaw06_DotKnown.mono : ∀ k, LeO (tributarylaw06_DotKnown.f k ) (tributarylaw06_DotKnown.f (k + 1) ) := by
 intro  k
 obtain ⟨ih0, ih1⟩ := tributarylaw06_DotKnown.mono_l k
 unfold tributarylaw06_DotKnown.f
 repeat' first
   | (with_reducible exact ih0 _ _ _ _ _)
   | (with_reducible exact ih1 _ _ _ _)
   | (with_reducible exact tributarykit_SameDots.mono _ _ _)
   | (with_reducible exact LeO.refl _)
   | (with_reducible exact LeO.none _)
   | (with_reducible refine LeO.ite ?_ ?_)
   | (with_reducible refine LeO.bind ?_ (fun _ => ?_))
   | exact ih0 _ _ _ _ _
   | exact ih1 _ _ _ _
   | exact tributarykit_SameDots.mono _ _ _
   | exact LeO.none _
   | refine LeO.ite ?_ ?_
   | refine LeO.bind ?_ (fun _ => ?_)
def tributarylaw06_DotKnown.T9 : Bool × List (List Nat × List Nat) := (true, [([], []), ([0], [0]), ([1], [1]), ([2], [2]), ([2, 2], [2]), ([3, 4, 2], [2, 3, 4]), ([2, 5], [2, 5]), ([6, 4], [6]), ([7], [7]), ([8, 7], [7, 8]), ([7, 9], [7, 9]), ([10, 7], [10]), ([11], [11]), ([11], [11]), ([12, 13, 11], [11, 12, 13]), ([11, 14], [11, 14]), ([15, 11], [15]), ([16], [16]), ([16], [16]), ([17, 18, 16], [16, 17, 18]), ([16, 19], [16, 19]), ([20, 16], [20]), ([21], [21]), ([21], [21]), ([22, 23, 21], [21, 22, 23]), ([21, 24], [21, 24]), ([25, 21, 0, 1, 2, 3, 4, 5, 6, 7, 8, 9, 10, 11, 12, 13, 14, 15, 16, 17, 18, 19, 20, 21, 22, 23, 24, 25], [25])])
def tributarylaw06_DotKnown.B9 : List Nat := [0, 1, 3, 7, 7, 31, 63, 127, 255, 511, 1023, 2047, 4095, 4095, 16383, 32767, 65535, 131071, 131071, 524287, 1048575, 2097151, 4194303, 4194303, 16777215, 33554431, 67108863]
theorem tributarylaw06_DotKnown.tab9 : rtab .any (opsOf Tryd.f7 9) = tributarylaw06_DotKnown.T9 := by kernel_rfl
theorem tributarylaw06_DotKnown.bits9 : waitsOk tributarylaw06_DotKnown.T9.2 tributarylaw06_DotKnown.B9 = true := by kernel_rfl
theorem ntb_false : (some false : Option Bool) ≠ some true := by decide
theorem ntb_none : (none : Option Bool) ≠ some true := by decide
theorem ntb_bind {α : Type} {a : Option α} {f : α → Option Bool} (h : ∀ x, f x ≠ some true) : a.bind f ≠ some true := by
 cases a with
 | none => exact ntb_none
 | some x => exact h x
theorem ntb_iff {a b : Option Bool} (h : b ≠ some true) : (if false = true then a else b) ≠ some true := by rwa [if_neg (by decide)]
theorem ntb_ite {c : Prop} [Decidable c] {a b : Option Bool} (ha : a ≠ some true) (hb : b ≠ some true) : (if c then a else b) ≠ some true := by split <;> assumption
theorem tributarylaw06_DotKnown.j1_nt0 : ∀ k y1 y2 y3, tributarylaw06_DotKnown.j1 k false y1 y2 y3 ≠ some true := by
 intro k y1 y2 y3
 cases k with
 | zero => unfold tributarylaw06_DotKnown.j1; exact ntb_none
 | succ k =>
  unfold tributarylaw06_DotKnown.j1
  repeat' first
   | exact ntb_false
   | refine ntb_iff ?_
   | refine ntb_ite ?_ ?_
   | refine ntb_bind (fun _ => ?_)
theorem tributarylaw06_DotKnown.j1_nt1 : ∀ k y0 y1 y2, tributarylaw06_DotKnown.j1 k y0 y1 y2 false ≠ some true := by
 intro k y0 y1 y2
 cases k with
 | zero => unfold tributarylaw06_DotKnown.j1; exact ntb_none
 | succ k =>
  unfold tributarylaw06_DotKnown.j1
  repeat' first
   | exact ntb_false
   | exact tributarylaw06_DotKnown.j1_nt0 _ _ _ _
   | refine ntb_iff ?_
   | refine ntb_ite ?_ ?_
   | refine ntb_bind (fun _ => ?_)
theorem tributarylaw06_DotKnown.j0_nt2 : ∀ k y0 y1 y3 y4, tributarylaw06_DotKnown.j0 k y0 y1 false y3 y4 ≠ some true := by
 intro k y0 y1 y3 y4
 cases k with
 | zero => unfold tributarylaw06_DotKnown.j0; exact ntb_none
 | succ k =>
  unfold tributarylaw06_DotKnown.j0
  repeat' first
   | exact ntb_false
   | exact tributarylaw06_DotKnown.j1_nt0 _ _ _ _
   | exact tributarylaw06_DotKnown.j1_nt1 _ _ _ _
   | refine ntb_iff ?_
   | refine ntb_ite ?_ ?_
   | refine ntb_bind (fun _ => ?_)
set_option maxHeartbeats 8000000 in
set_option maxRecDepth 100000 in
theorem tributarylaw06_DotKnown.callsT (k : Nat)  (r : Bool) (w : World) (h : tributarylaw06_DotKnown.f k  = some r) (hT : Laid w) (hr : r = true) :
  Calls Tryd.prog 7 #[] w fun e w' => e = .returned (.bool r) ∧ Below w.heap.size w w' := by
 have HLAID := Aside0.mk hT
 clear hT
 have hu23 := Tryd.underlying23
 have hu36 := Tryd.underlying36
 have HR := Aside0.mk hr
 clear hr
 have HB := Aside0.mk (Below.refl w.heap.size w)
 have H : ((tributarylaw06_of.f 3 258).bind fun bt322 => ((dot_Next.f bt322.1 bt322.2).bind fun bt324 => ((tributarylaw06_of.f 3 2147483647).bind fun bt328 => ((dot_Next.f bt328.1 bt328.2).bind fun bt330 => ((tributarylaw06_of.f 201 1).bind fun bt334 => ((dot_Check.f bt334.1 bt334.2).bind fun t336 => (if t336 = 2 then ((tributarylaw06_of.f 1 0).bind fun bt337 => ((dot_Check.f bt337.1 bt337.2).bind fun t339 => (if t339 = 2 then ((tributarylaw06_of.f 200 2147483647).bind fun bt340 => ((dot_Check.f bt340.1 bt340.2).bind fun t342 => (tributarylaw06_DotKnown.j0 k bt324.2.2 bt330.2.2 (t342 == 0) bt324.1 bt324.2.1))) else (tributarylaw06_DotKnown.j0 k bt324.2.2 bt330.2.2 false bt324.1 bt324.2.1)))) else (tributarylaw06_DotKnown.j0 k bt324.2.2 bt330.2.2 false bt324.1 bt324.2.1)))))))) = some r := h
 clear h
 replace H := Option.bind_eq_some_iff.mp H
 obtain ⟨⟨t322, t323⟩, A10, H⟩ := H
 replace H : ((dot_Next.f t322 t323).bind fun bt324 => ((tributarylaw06_of.f 3 2147483647).bind fun bt328 => ((dot_Next.f bt328.1 bt328.2).bind fun bt330 => ((tributarylaw06_of.f 201 1).bind fun bt334 => ((dot_Check.f bt334.1 bt334.2).bind fun t336 => (if t336 = 2 then ((tributarylaw06_of.f 1 0).bind fun bt337 => ((dot_Check.f bt337.1 bt337.2).bind fun t339 => (if t339 = 2 then ((tributarylaw06_of.f 200 2147483647).bind fun bt340 => ((dot_Check.f bt340.1 bt340.2).bind fun t342 => (tributarylaw06_DotKnown.j0 k bt324.2.2 bt330.2.2 (t342 == 0) bt324.1 bt324.2.1))) else (tributarylaw06_DotKnown.j0 k bt324.2.2 bt330.2.2 false bt324.1 bt324.2.1)))) else (tributarylaw06_DotKnown.j0 k bt324.2.2 bt330.2.2 false bt324.1 bt324.2.1))))))) = some r := H
 have A1 := Aside0.mk A10
 clear A10
 replace H := Option.bind_eq_some_iff.mp H
 obtain ⟨⟨t324, t325, t326⟩, A20, H⟩ := H
 replace H : ((tributarylaw06_of.f 3 2147483647).bind fun bt328 => ((dot_Next.f bt328.1 bt328.2).bind fun bt330 => ((tributarylaw06_of.f 201 1).bind fun bt334 => ((dot_Check.f bt334.1 bt334.2).bind fun t336 => (if t336 = 2 then ((tributarylaw06_of.f 1 0).bind fun bt337 => ((dot_Check.f bt337.1 bt337.2).bind fun t339 => (if t339 = 2 then ((tributarylaw06_of.f 200 2147483647).bind fun bt340 => ((dot_Check.f bt340.1 bt340.2).bind fun t342 => (tributarylaw06_DotKnown.j0 k t326 bt330.2.2 (t342 == 0) t324 t325))) else (tributarylaw06_DotKnown.j0 k t326 bt330.2.2 false t324 t325)))) else (tributarylaw06_DotKnown.j0 k t326 bt330.2.2 false t324 t325)))))) = some r := H
 have A2 := Aside0.mk A20
 clear A20
 replace H := Option.bind_eq_some_iff.mp H
 obtain ⟨⟨t328, t329⟩, A30, H⟩ := H
 replace H : ((dot_Next.f t328 t329).bind fun bt330 => ((tributarylaw06_of.f 201 1).bind fun bt334 => ((dot_Check.f bt334.1 bt334.2).bind fun t336 => (if t336 = 2 then ((tributarylaw06_of.f 1 0).bind fun bt337 => ((dot_Check.f bt337.1 bt337.2).bind fun t339 => (if t339 = 2 then ((tributarylaw06_of.f 200 2147483647).bind fun bt340 => ((dot_Check.f bt340.1 bt340.2).bind fun t342 => (tributarylaw06_DotKnown.j0 k t326 bt330.2.2 (t342 == 0) t324 t325))) else (tributarylaw06_DotKnown.j0 k t326 bt330.2.2 false t324 t325)))) else (tributarylaw06_DotKnown.j0 k t326 bt330.2.2 false t324 t325))))) = some r := H
 have A3 := Aside0.mk A30
 clear A30
 replace H := Option.bind_eq_some_iff.mp H
 obtain ⟨⟨t330, t331, t332⟩, A40, H⟩ := H
 replace H : ((tributarylaw06_of.f 201 1).bind fun bt334 => ((dot_Check.f bt334.1 bt334.2).bind fun t336 => (if t336 = 2 then ((tributarylaw06_of.f 1 0).bind fun bt337 => ((dot_Check.f bt337.1 bt337.2).bind fun t339 => (if t339 = 2 then ((tributarylaw06_of.f 200 2147483647).bind fun bt340 => ((dot_Check.f bt340.1 bt340.2).bind fun t342 => (tributarylaw06_DotKnown.j0 k t326 t332 (t342 == 0) t324 t325))) else (tributarylaw06_DotKnown.j0 k t326 t332 false t324 t325)))) else (tributarylaw06_DotKnown.j0 k t326 t332 false t324 t325)))) = some r := H
 have A4 := Aside0.mk A40
 clear A40
 have HC5 := Aside0.mk H
 clear H
 go_enter Tryd.func7, Tryd.ntmps7
 go_upto_region 3 with (first | ((with_reducible refine gate_callee (f := 33) rfl ?_); refine goesL_ (some 18) rfl rfl Tryd.func33 (by kernel_rfl) rfl #[.int .i64 3, .int .i64 258] rfl (by (try simp only [List.map_toArray, List.map_cons, List.map_nil]); first | done | rfl | (simp only [List.length_drop, List.length_take]; rfl)) ?_; (with_reducible refine (tributarylaw06_of.calls 3 258 t322 t323 _ A1.out).mono ?_); rintro e w6 ⟨rfl, hb⟩; refine ⟨_, rfl, ?_⟩; have n0_ := Aside0.mk (below_step (by repeat (first | (with_reducible first | exact HB.out | apply below_alloc | apply pw_below_drewN | apply below_drew1) | exact HB.out)) hb); clear HB; have HB := n0_; clear n0_; (try clear hb); (try clear hb2); (try clear hk); (try clear hi)) | ((with_reducible refine gate_callee (f := 23) rfl ?_); refine goesL_ (some 19) rfl rfl Tryd.func23 (by kernel_rfl) rfl #[.agg #[.int .i64 t322, .int .i64 t323]] rfl (by (try simp only [List.map_toArray, List.map_cons, List.map_nil]); first | done | rfl | (simp only [List.length_drop, List.length_take]; rfl)) ?_; (with_reducible refine (dot_Next.calls t322 t323 t324 t325 t326 _ A2.out).mono ?_); rintro e w7 ⟨rfl, hb⟩; refine ⟨_, rfl, ?_⟩; have n0_ := Aside0.mk (below_step (by repeat (first | (with_reducible first | exact HB.out | apply below_alloc | apply pw_below_drewN | apply below_drew1) | exact HB.out)) hb); clear HB; have HB := n0_; clear n0_; (try clear hb); (try clear hb2); (try clear hk); (try clear hi)) | ((with_reducible refine gate_dst (N := 1) rfl ?_); (try (refine gate_guard (by rfl) ?_; dsimp only)); refine box_event ?hg (N := 1) ?hd (cs := #[.int .i64 0, .int .i64 0]) (t := 23) ?hr ?_; (case hd => rfl); (case hg => rfl); (case hr => first | (go_simp; done) | (go_simp; rfl)); intro gb327 hg w8 hbox hb; have n0_ := Aside0.mk (below_step (by repeat (first | (with_reducible first | exact HB.out | apply below_alloc | apply pw_below_drewN | apply below_drew1) | exact HB.out)) hb); have n1_ := Aside0.mk (hbox); have n2_ := Aside0.mk ((by rw [hg]; exact (below_size (by repeat (first | (with_reducible first | exact HB.out | apply below_alloc | apply pw_below_drewN | apply below_drew1) | exact HB.out))) : w.heap.size ≤ gb327)); have n3_ := Aside0.mk ((by rw [hg]; exact (below_size (by repeat (first | (with_reducible first | exact HB.out | apply below_alloc | apply pw_below_drewN | apply below_drew1) | exact HB.out))) : w.heap.size ≤ gb327)); clear HB; have HB := n0_; have BK327 := n1_; have GW327 := n2_; have GE327 := n3_; clear n0_ n1_ n2_ n3_; clear hb hbox hg; have hcz9_0 : w8.cell? ⟨gb327, 0, none⟩ = some (.int .i64 0) := (blk_cell BK327.out 0).trans rfl; have hcz9_1 : w8.cell? ⟨gb327, 1, none⟩ = some (.int .i64 0) := (blk_cell BK327.out 1).trans rfl; have hfz9_0 := blk_frozen BK327.out 0; have hfz9_1 := blk_frozen BK327.out 1) | ((with_reducible refine gate_callee (f := 33) rfl ?_); refine goesL_ (some 23) rfl rfl Tryd.func33 (by kernel_rfl) rfl #[.int .i64 3, .int .i64 2147483647] rfl (by (try simp only [List.map_toArray, List.map_cons, List.map_nil]); first | done | rfl | (simp only [List.length_drop, List.length_take]; rfl)) ?_; (with_reducible refine (tributarylaw06_of.calls 3 2147483647 t328 t329 _ A3.out).mono ?_); rintro e w10 ⟨rfl, hb⟩; refine ⟨_, rfl, ?_⟩; have n0_ := Aside0.mk (blk_below (g := gb327) (o := .cells #[.int .i64 t324, .int .i64 t325] 23 (0, 0)) (by (with_reducible repeat (first | refine blk_drewN ?_ _ | refine blk_drew ?_ | refine blk_alloc ?_ _)); refine blk_put (cs := #[.int .i64 t324, .int .i64 0]) ?_ 1 _ rfl; (with_reducible repeat (first | refine blk_drewN ?_ _ | refine blk_drew ?_ | refine blk_alloc ?_ _)); refine blk_put (cs := #[.int .i64 0, .int .i64 0]) ?_ 0 _ rfl; (with_reducible repeat (first | refine blk_drewN ?_ _ | refine blk_drew ?_ | refine blk_alloc ?_ _)); exact BK327.out) hb); have n1_ := Aside0.mk (below_step (by repeat (first | (with_reducible first | exact HB.out | apply below_alloc | apply pw_below_drewN | apply below_drew1 | refine below_set ?_ GE327.out) | exact HB.out)) hb); clear BK327; clear HB; have BK327 := n0_; have HB := n1_; clear n0_ n1_; (try clear hb); (try clear hb2); (try clear hk); (try clear hi)) | ((with_reducible refine gate_callee (f := 23) rfl ?_); refine goesL_ (some 24) rfl rfl Tryd.func23 (by kernel_rfl) rfl #[.agg #[.int .i64 t328, .int .i64 t329]] rfl (by (try simp only [List.map_toArray, List.map_cons, List.map_nil]); first | done | rfl | (simp only [List.length_drop, List.length_take]; rfl)) ?_; (with_reducible refine (dot_Next.calls t328 t329 t330 t331 t332 _ A4.out).mono ?_); rintro e w11 ⟨rfl, hb⟩; refine ⟨_, rfl, ?_⟩; have n0_ := Aside0.mk (blk_below (g := gb327) (o := .cells #[.int .i64 t324, .int .i64 t325] 23 (0, 0)) (by (with_reducible repeat (first | refine blk_drewN ?_ _ | refine blk_drew ?_ | refine blk_alloc ?_ _)); exact BK327.out) hb); have n1_ := Aside0.mk (below_step (by repeat (first | (with_reducible first | exact HB.out | apply below_alloc | apply pw_below_drewN | apply below_drew1 | refine below_set ?_ GE327.out) | exact HB.out)) hb); clear BK327; clear HB; have BK327 := n0_; have HB := n1_; clear n0_ n1_; (try clear hb); (try clear hb2); (try clear hk); (try clear hi)) | ((with_reducible refine gate_dst (N := 3) rfl ?_); (try (refine gate_guard (by rfl) ?_; dsimp only)); refine box_event ?hg (N := 3) ?hd (cs := #[.int .i64 0, .int .i64 0]) (t := 23) ?hr ?_; (case hd => rfl); (case hg => rfl); (case hr => first | (go_simp; done) | (go_simp; rfl)); intro gb333 hg w12 hbox hb; have n0_ := Aside0.mk (blk_below (g := gb327) (o := .cells #[.int .i64 t324, .int .i64 t325] 23 (0, 0)) (by (with_reducible repeat (first | refine blk_drewN ?_ _ | refine blk_drew ?_ | refine blk_alloc ?_ _)); exact BK327.out) hb); have n1_ := Aside0.mk (below_step (by repeat (first | (with_reducible first | exact HB.out | apply below_alloc | apply pw_below_drewN | apply below_drew1 | refine below_set ?_ GE327.out) | exact HB.out)) hb); have n2_ := Aside0.mk (hbox); have n3_ := Aside0.mk ((by rw [hg]; exact (below_size (by repeat (first | (with_reducible first | exact HB.out | apply below_alloc | apply pw_below_drewN | apply below_drew1 | refine below_set ?_ GE327.out) | exact HB.out))) : w.heap.size ≤ gb333)); have n4_ := Aside0.mk ((by rw [hg]; exact (below_size (by repeat (first | (with_reducible first | exact HB.out | apply below_alloc | apply pw_below_drewN | apply below_drew1 | refine below_set ?_ GE327.out) | exact HB.out))) : w.heap.size ≤ gb333)); have n5_ := Aside0.mk ((by rw [hg]; exact Nat.ne_of_lt (blk_lt (g := gb327) (o := .cells #[.int .i64 t324, .int .i64 t325] 23 (0, 0)) (by (with_reducible repeat (first | refine blk_drewN ?_ _ | refine blk_drew ?_ | refine blk_alloc ?_ _)); exact BK327.out)) : gb327 ≠ gb333)); have n6_ := Aside0.mk ((by rw [hg]; exact Nat.ne_of_gt (blk_lt (g := gb327) (o := .cells #[.int .i64 t324, .int .i64 t325] 23 (0, 0)) (by (with_reducible repeat (first | refine blk_drewN ?_ _ | refine blk_drew ?_ | refine blk_alloc ?_ _)); exact BK327.out)) : gb333 ≠ gb327)); clear BK327; clear HB; have BK327 := n0_; have HB := n1_; have BK333 := n2_; have GW333 := n3_; have GE333 := n4_; have NB327_333 := n5_; have NB333_327 := n6_; clear n0_ n1_ n2_ n3_ n4_ n5_ n6_; clear hb hbox hg; have hnb13 := NB333_327.out; have hnc13 := NB327_333.out; have hcz14_0 : w12.cell? ⟨gb333, 0, none⟩ = some (.int .i64 0) := (blk_cell BK333.out 0).trans rfl; have hcz14_1 : w12.cell? ⟨gb333, 1, none⟩ = some (.int .i64 0) := (blk_cell BK333.out 1).trans rfl; have hfz14_0 := blk_frozen BK333.out 0; have hfz14_1 := blk_frozen BK333.out 1))
 (try simp only [Act.put, List.setIfInBounds_toArray, List.set_cons_zero, List.set_cons_succ])
 go_cut [5] (fun v5 wc => ∃ (kq : Nat) (x5_4 : Bool), v5 = .bool x5_4 ∧ Aside0 (tributarylaw06_DotKnown.j0 kq t326 t332 x5_4 t324 t325 = some r) ∧ Aside0 (kq ≤ k) ∧ Aside0 (wc.heap[gb327]? = some (.cells #[.int .i64 t324, .int .i64 t325] 23 (0, 0))) ∧ Aside0 (wc.heap[gb333]? = some (.cells #[.int .i64 t330, .int .i64 t331] 23 (0, 0))) ∧ Aside0 (Below w.heap.size w wc))
 case first =>
  have H := HC5.out
  clear HC5
  replace H := Option.bind_eq_some_iff.mp H
  obtain ⟨⟨t334, t335⟩, A150, H⟩ := H
  replace H : ((dot_Check.f t334 t335).bind fun t336 => (if t336 = 2 then ((tributarylaw06_of.f 1 0).bind fun bt337 => ((dot_Check.f bt337.1 bt337.2).bind fun t339 => (if t339 = 2 then ((tributarylaw06_of.f 200 2147483647).bind fun bt340 => ((dot_Check.f bt340.1 bt340.2).bind fun t342 => (tributarylaw06_DotKnown.j0 k t326 t332 (t342 == 0) t324 t325))) else (tributarylaw06_DotKnown.j0 k t326 t332 false t324 t325)))) else (tributarylaw06_DotKnown.j0 k t326 t332 false t324 t325))) = some r := H
  have A15 := Aside0.mk A150
  clear A150
  replace H := Option.bind_eq_some_iff.mp H
  obtain ⟨t336, A160, H⟩ := H
  replace H : (if t336 = 2 then ((tributarylaw06_of.f 1 0).bind fun bt337 => ((dot_Check.f bt337.1 bt337.2).bind fun t339 => (if t339 = 2 then ((tributarylaw06_of.f 200 2147483647).bind fun bt340 => ((dot_Check.f bt340.1 bt340.2).bind fun t342 => (tributarylaw06_DotKnown.j0 k t326 t332 (t342 == 0) t324 t325))) else (tributarylaw06_DotKnown.j0 k t326 t332 false t324 t325)))) else (tributarylaw06_DotKnown.j0 k t326 t332 false t324 t325)) = some r := H
  have A16 := Aside0.mk A160
  clear A160
  by_cases c17 : t336 = 2
  ·
   rw [if_pos c17] at H
   have c17b0 : (t336 == 2) = true := beq_iff_eq.mpr c17
   have c17b1 : (t336 != 2) = false := bne_eq_false_iff_eq.mpr c17
   clear c17
   (first | rw [c17b0] | (simp only [i64_w, i32_w]; rw [c17b0]) | skip)
   replace H := Option.bind_eq_some_iff.mp H
   obtain ⟨⟨t337, t338⟩, A180, H⟩ := H
   replace H : ((dot_Check.f t337 t338).bind fun t339 => (if t339 = 2 then ((tributarylaw06_of.f 200 2147483647).bind fun bt340 => ((dot_Check.f bt340.1 bt340.2).bind fun t342 => (tributarylaw06_DotKnown.j0 k t326 t332 (t342 == 0) t324 t325))) else (tributarylaw06_DotKnown.j0 k t326 t332 false t324 t325))) = some r := H
   have A18 := Aside0.mk A180
   clear A180
   replace H := Option.bind_eq_some_iff.mp H
   obtain ⟨t339, A190, H⟩ := H
   replace H : (if t339 = 2 then ((tributarylaw06_of.f 200 2147483647).bind fun bt340 => ((dot_Check.f bt340.1 bt340.2).bind fun t342 => (tributarylaw06_DotKnown.j0 k t326 t332 (t342 == 0) t324 t325))) else (tributarylaw06_DotKnown.j0 k t326 t332 false t324 t325)) = some r := H
   have A19 := Aside0.mk A190
   clear A190
   by_cases c20 : t339 = 2
   ·
    rw [if_pos c20] at H
    have c20b0 : (t339 == 2) = true := beq_iff_eq.mpr c20
    have c20b1 : (t339 != 2) = false := bne_eq_false_iff_eq.mpr c20
    clear c20
    replace H := Option.bind_eq_some_iff.mp H
    obtain ⟨⟨t340, t341⟩, A210, H⟩ := H
    replace H : ((dot_Check.f t340 t341).bind fun t342 => (tributarylaw06_DotKnown.j0 k t326 t332 (t342 == 0) t324 t325)) = some r := H
    have A21 := Aside0.mk A210
    clear A210
    replace H := Option.bind_eq_some_iff.mp H
    obtain ⟨t342, A220, H⟩ := H
    replace H : (tributarylaw06_DotKnown.j0 k t326 t332 (t342 == 0) t324 t325) = some r := H
    have A22 := Aside0.mk A220
    clear A220
    have H' := Aside0.mk H
    clear H
    go_wp2_with (first | ((with_reducible refine gate_callee (f := 33) rfl ?_); refine goesL_ (some 27) rfl rfl Tryd.func33 (by kernel_rfl) rfl #[.int .i64 201, .int .i64 1] rfl (by (try simp only [List.map_toArray, List.map_cons, List.map_nil]); first | done | rfl | (simp only [List.length_drop, List.length_take]; rfl)) ?_; (with_reducible refine (tributarylaw06_of.calls 201 1 t334 t335 _ A15.out).mono ?_); rintro e w23 ⟨rfl, hb⟩; refine ⟨_, rfl, ?_⟩; have n0_ := Aside0.mk (blk_below (g := gb327) (o := .cells #[.int .i64 t324, .int .i64 t325] 23 (0, 0)) (by (with_reducible repeat (first | refine blk_drewN ?_ _ | refine blk_drew ?_ | refine blk_alloc ?_ _)); refine blk_far ?_ NB327_333.out _; (with_reducible repeat (first | refine blk_drewN ?_ _ | refine blk_drew ?_ | refine blk_alloc ?_ _)); refine blk_far ?_ NB327_333.out _; (with_reducible repeat (first | refine blk_drewN ?_ _ | refine blk_drew ?_ | refine blk_alloc ?_ _)); exact BK327.out) hb); have n1_ := Aside0.mk (blk_below (g := gb333) (o := .cells #[.int .i64 t330, .int .i64 t331] 23 (0, 0)) (by (with_reducible repeat (first | refine blk_drewN ?_ _ | refine blk_drew ?_ | refine blk_alloc ?_ _)); refine blk_put (cs := #[.int .i64 t330, .int .i64 0]) ?_ 1 _ rfl; (with_reducible repeat (first | refine blk_drewN ?_ _ | refine blk_drew ?_ | refine blk_alloc ?_ _)); refine blk_put (cs := #[.int .i64 0, .int .i64 0]) ?_ 0 _ rfl; (with_reducible repeat (first | refine blk_drewN ?_ _ | refine blk_drew ?_ | refine blk_alloc ?_ _)); exact BK333.out) hb); have n2_ := Aside0.mk (below_step (by repeat (first | (with_reducible first | exact HB.out | apply below_alloc | apply pw_below_drewN | apply below_drew1 | refine below_set ?_ GE327.out | refine below_set ?_ GE333.out) | exact HB.out)) hb); clear BK327; clear BK333; clear HB; have BK327 := n0_; have BK333 := n1_; have HB := n2_; clear n0_ n1_ n2_; (try clear hb); (try clear hb2); (try clear hk); (try clear hi)) | ((with_reducible refine gate_callee (f := 24) rfl ?_); refine goesL_ (some 28) rfl rfl Tryd.func24 (by kernel_rfl) rfl #[.agg #[.int .i64 t334, .int .i64 t335]] rfl (by (try simp only [List.map_toArray, List.map_cons, List.map_nil]); first | done | rfl | (simp only [List.length_drop, List.length_take]; rfl)) ?_; (with_reducible refine (dot_Check.calls t334 t335 t336 _ A16.out).mono ?_); rintro e w24 ⟨rfl, hb⟩; refine ⟨_, rfl, ?_⟩; have n0_ := Aside0.mk (blk_below (g := gb327) (o := .cells #[.int .i64 t324, .int .i64 t325] 23 (0, 0)) (by (with_reducible repeat (first | refine blk_drewN ?_ _ | refine blk_drew ?_ | refine blk_alloc ?_ _)); exact BK327.out) hb); have n1_ := Aside0.mk (blk_below (g := gb333) (o := .cells #[.int .i64 t330, .int .i64 t331] 23 (0, 0)) (by (with_reducible repeat (first | refine blk_drewN ?_ _ | refine blk_drew ?_ | refine blk_alloc ?_ _)); exact BK333.out) hb); have n2_ := Aside0.mk (below_step (by repeat (first | (with_reducible first | exact HB.out | apply below_alloc | apply pw_below_drewN | apply below_drew1 | refine below_set ?_ GE327.out | refine below_set ?_ GE333.out) | exact HB.out)) hb); clear BK327; clear BK333; clear HB; have BK327 := n0_; have BK333 := n1_; have HB := n2_; clear n0_ n1_ n2_; (try clear hb); (try clear hb2); (try clear hk); (try clear hi)) | (go_at_call 33; (with_reducible refine (tributarylaw06_of.calls 1 0 t337 t338 _ A18.out).mono ?_); rintro e w25 ⟨rfl, hb⟩; have n0_ := Aside0.mk (blk_below (g := gb327) (o := .cells #[.int .i64 t324, .int .i64 t325] 23 (0, 0)) (by (with_reducible repeat (first | refine blk_drewN ?_ _ | refine blk_drew ?_ | refine blk_alloc ?_ _)); exact BK327.out) hb); have n1_ := Aside0.mk (blk_below (g := gb333) (o := .cells #[.int .i64 t330, .int .i64 t331] 23 (0, 0)) (by (with_reducible repeat (first | refine blk_drewN ?_ _ | refine blk_drew ?_ | refine blk_alloc ?_ _)); exact BK333.out) hb); have n2_ := Aside0.mk (below_step (by repeat (first | (with_reducible first | exact HB.out | apply below_alloc | apply pw_below_drewN | apply below_drew1 | refine below_set ?_ GE327.out | refine below_set ?_ GE333.out) | exact HB.out)) hb); clear BK327; clear BK333; clear HB; have BK327 := n0_; have BK333 := n1_; have HB := n2_; clear n0_ n1_ n2_; (try clear hb); (try clear hb2); (try clear hk); (try clear hi)) | (go_at_call 24; (with_reducible refine (dot_Check.calls t337 t338 t339 _ A19.out).mono ?_); rintro e w26 ⟨rfl, hb⟩; have n0_ := Aside0.mk (blk_below (g := gb327) (o := .cells #[.int .i64 t324, .int .i64 t325] 23 (0, 0)) (by (with_reducible repeat (first | refine blk_drewN ?_ _ | refine blk_drew ?_ | refine blk_alloc ?_ _)); exact BK327.out) hb); have n1_ := Aside0.mk (blk_below (g := gb333) (o := .cells #[.int .i64 t330, .int .i64 t331] 23 (0, 0)) (by (with_reducible repeat (first | refine blk_drewN ?_ _ | refine blk_drew ?_ | refine blk_alloc ?_ _)); exact BK333.out) hb); have n2_ := Aside0.mk (below_step (by repeat (first | (with_reducible first | exact HB.out | apply below_alloc | apply pw_below_drewN | apply below_drew1 | refine below_set ?_ GE327.out | refine below_set ?_ GE333.out) | exact HB.out)) hb); clear BK327; clear BK333; clear HB; have BK327 := n0_; have BK333 := n1_; have HB := n2_; clear n0_ n1_ n2_; (try clear hb); (try clear hb2); (try clear hk); (try clear hi)) | (go_at_call 33; (with_reducible refine (tributarylaw06_of.calls 200 2147483647 t340 t341 _ A21.out).mono ?_); rintro e w27 ⟨rfl, hb⟩; have n0_ := Aside0.mk (blk_below (g := gb327) (o := .cells #[.int .i64 t324, .int .i64 t325] 23 (0, 0)) (by (with_reducible repeat (first | refine blk_drewN ?_ _ | refine blk_drew ?_ | refine blk_alloc ?_ _)); exact BK327.out) hb); have n1_ := Aside0.mk (blk_below (g := gb333) (o := .cells #[.int .i64 t330, .int .i64 t331] 23 (0, 0)) (by (with_reducible repeat (first | refine blk_drewN ?_ _ | refine blk_drew ?_ | refine blk_alloc ?_ _)); exact BK333.out) hb); have n2_ := Aside0.mk (below_step (by repeat (first | (with_reducible first | exact HB.out | apply below_alloc | apply pw_below_drewN | apply below_drew1 | refine below_set ?_ GE327.out | refine below_set ?_ GE333.out) | exact HB.out)) hb); clear BK327; clear BK333; clear HB; have BK327 := n0_; have BK333 := n1_; have HB := n2_; clear n0_ n1_ n2_; (try clear hb); (try clear hb2); (try clear hk); (try clear hi)) | (go_at_call 24; (with_reducible refine (dot_Check.calls t340 t341 t342 _ A22.out).mono ?_); rintro e w28 ⟨rfl, hb⟩; have n0_ := Aside0.mk (blk_below (g := gb327) (o := .cells #[.int .i64 t324, .int .i64 t325] 23 (0, 0)) (by (with_reducible repeat (first | refine blk_drewN ?_ _ | refine blk_drew ?_ | refine blk_alloc ?_ _)); exact BK327.out) hb); have n1_ := Aside0.mk (blk_below (g := gb333) (o := .cells #[.int .i64 t330, .int .i64 t331] 23 (0, 0)) (by (with_reducible repeat (first | refine blk_drewN ?_ _ | refine blk_drew ?_ | refine blk_alloc ?_ _)); exact BK333.out) hb); have n2_ := Aside0.mk (below_step (by repeat (first | (with_reducible first | exact HB.out | apply below_alloc | apply pw_below_drewN | apply below_drew1 | refine below_set ?_ GE327.out | refine below_set ?_ GE333.out) | exact HB.out)) hb); clear BK327; clear BK333; clear HB; have BK327 := n0_; have BK333 := n1_; have HB := n2_; clear n0_ n1_ n2_; (try clear hb); (try clear hb2); (try clear hk); (try clear hi)))
    go_meet
    case rel => exact ⟨_, ((t342 == 0)), (by first | rfl | (simp; done) | (simp [*]; done)), H', ⟨by first | omega | exact Nat.le_refl _⟩, ⟨by (with_reducible repeat (first | refine blk_drewN ?_ _ | refine blk_drew ?_ | refine blk_alloc ?_ _)); exact BK327.out⟩, ⟨by (with_reducible repeat (first | refine blk_drewN ?_ _ | refine blk_drew ?_ | refine blk_alloc ?_ _)); exact BK333.out⟩, ⟨by repeat (first | (with_reducible first | exact HB.out | apply below_alloc | apply pw_below_drewN | apply below_drew1 | refine below_set ?_ GE327.out | refine below_set ?_ GE333.out) | exact HB.out)⟩⟩
   ·
    rw [if_neg c20] at H
    exact absurd (H.trans (congrArg some HR.out)) (by with_reducible repeat' first | exact ntb_false | exact ntb_none | exact tributarylaw06_DotKnown.j1_nt0 _ _ _ _ | exact tributarylaw06_DotKnown.j1_nt1 _ _ _ _ | exact tributarylaw06_DotKnown.j0_nt2 _ _ _ _ _ | refine ntb_iff ?_ | refine ntb_ite ?_ ?_ | refine ntb_bind (fun _ => ?_))
  ·
   rw [if_neg c17] at H
   exact absurd (H.trans (congrArg some HR.out)) (by with_reducible repeat' first | exact ntb_false | exact ntb_none | exact tributarylaw06_DotKnown.j1_nt0 _ _ _ _ | exact tributarylaw06_DotKnown.j1_nt1 _ _ _ _ | exact tributarylaw06_DotKnown.j0_nt2 _ _ _ _ _ | refine ntb_iff ?_ | refine ntb_ite ?_ ?_ | refine ntb_bind (fun _ => ?_))
 case rest =>
  clear HC5
  try clear c1; try clear c2; try clear p2; try clear c3; try clear c7; try clear c13; try clear c17; try clear c17b0; try clear c17b1; try clear c20; try clear c20b0; try clear c20b1; try clear c23; try clear c24; try clear c33; try clear hcz14_0; try clear hcz14_1; try clear hcz9_0; try clear hcz9_1; try clear hfz14_0; try clear hfz14_1; try clear hfz9_0; try clear hfz9_1
  obtain ⟨kq, x5_4, rfl, HA, HJ4, BK327, BK333, HB⟩ := hcut
  cases kq with
  | zero => exact absurd HA.out (by simp [tributarylaw06_DotKnown.j0])
  | succ kj4 =>
   have H := HA.out
   clear HA
   simp only [tributarylaw06_DotKnown.j0] at H
   replace H := Option.bind_eq_some_iff.mp H
   obtain ⟨⟨t343, t344, t345, t346⟩, A350, H⟩ := H
   replace H : ((dot_Read.f (([3, 0, 0, 1, 2, 0] : List Int))).bind fun bt352 => ((dot_Read.f (([0, 0, 0, 0, 1] : List Int))).bind fun bt361 => ((dot_Parse.f (⟨#[51, 46]⟩ : ByteArray)).bind fun bt367 => ((dot_Parse.f (⟨#[48, 51, 46, 49]⟩ : ByteArray)).bind fun bt371 => (if t326 = 0 then ((tributarylaw06_of.f 3 259).bind fun bt375 => (if (t324 == bt375.1 && (t325 == bt375.2)) = true then (if t332 = 5 then (if (t345 == 4 && (t346 == 0)) = true then (if (bt352.2.2.1 == 4 && (bt352.2.2.2 == 5)) = true then (tributarylaw06_DotKnown.j1 kj4 x5_4 bt367.2.2 bt371.2.2 (bt361.2.2.1 == 2 && (bt361.2.2.2 == 0))) else (tributarylaw06_DotKnown.j1 kj4 x5_4 bt367.2.2 bt371.2.2 false)) else (tributarylaw06_DotKnown.j1 kj4 x5_4 bt367.2.2 bt371.2.2 false)) else (tributarylaw06_DotKnown.j1 kj4 x5_4 bt367.2.2 bt371.2.2 false)) else (tributarylaw06_DotKnown.j1 kj4 x5_4 bt367.2.2 bt371.2.2 false))) else (tributarylaw06_DotKnown.j1 kj4 x5_4 bt367.2.2 bt371.2.2 false)))))) = some r := H
   have A35 := Aside0.mk A350
   clear A350
   obtain ⟨y349, hy349⟩ : ∃ y_ : List Int, y_ = (([3, 0, 0, 1, 2, 0] : List Int)) := ⟨_, rfl⟩
   replace H : ((dot_Read.f y349).bind fun bt352 => ((dot_Read.f (([0, 0, 0, 0, 1] : List Int))).bind fun bt361 => ((dot_Parse.f (⟨#[51, 46]⟩ : ByteArray)).bind fun bt367 => ((dot_Parse.f (⟨#[48, 51, 46, 49]⟩ : ByteArray)).bind fun bt371 => (if t326 = 0 then ((tributarylaw06_of.f 3 259).bind fun bt375 => (if (t324 == bt375.1 && (t325 == bt375.2)) = true then (if t332 = 5 then (if (t345 == 4 && (t346 == 0)) = true then (if (bt352.2.2.1 == 4 && (bt352.2.2.2 == 5)) = true then (tributarylaw06_DotKnown.j1 kj4 x5_4 bt367.2.2 bt371.2.2 (bt361.2.2.1 == 2 && (bt361.2.2.2 == 0))) else (tributarylaw06_DotKnown.j1 kj4 x5_4 bt367.2.2 bt371.2.2 false)) else (tributarylaw06_DotKnown.j1 kj4 x5_4 bt367.2.2 bt371.2.2 false)) else (tributarylaw06_DotKnown.j1 kj4 x5_4 bt367.2.2 bt371.2.2 false)) else (tributarylaw06_DotKnown.j1 kj4 x5_4 bt367.2.2 bt371.2.2 false))) else (tributarylaw06_DotKnown.j1 kj4 x5_4 bt367.2.2 bt371.2.2 false)))))) = some r := by first | (rw [hy349]; with_reducible exact H) | (have H2_ := (Option.bind_some _ _).symm.trans H; rw [hy349]; with_reducible exact H2_) | (have H2_ := (Option.bind_some _ _).symm.trans H; with_reducible exact H2_) | with_reducible exact H | (rw [hy349]; exact H) | exact H
   have Ny349 := Aside0.mk hy349
   clear hy349
   replace H := Option.bind_eq_some_iff.mp H
   obtain ⟨⟨t352, t353, t354, t355⟩, A360, H⟩ := H
   replace H : ((dot_Read.f (([0, 0, 0, 0, 1] : List Int))).bind fun bt361 => ((dot_Parse.f (⟨#[51, 46]⟩ : ByteArray)).bind fun bt367 => ((dot_Parse.f (⟨#[48, 51, 46, 49]⟩ : ByteArray)).bind fun bt371 => (if t326 = 0 then ((tributarylaw06_of.f 3 259).bind fun bt375 => (if (t324 == bt375.1 && (t325 == bt375.2)) = true then (if t332 = 5 then (if (t345 == 4 && (t346 == 0)) = true then (if (t354 == 4 && (t355 == 5)) = true then (tributarylaw06_DotKnown.j1 kj4 x5_4 bt367.2.2 bt371.2.2 (bt361.2.2.1 == 2 && (bt361.2.2.2 == 0))) else (tributarylaw06_DotKnown.j1 kj4 x5_4 bt367.2.2 bt371.2.2 false)) else (tributarylaw06_DotKnown.j1 kj4 x5_4 bt367.2.2 bt371.2.2 false)) else (tributarylaw06_DotKnown.j1 kj4 x5_4 bt367.2.2 bt371.2.2 false)) else (tributarylaw06_DotKnown.j1 kj4 x5_4 bt367.2.2 bt371.2.2 false))) else (tributarylaw06_DotKnown.j1 kj4 x5_4 bt367.2.2 bt371.2.2 false))))) = some r := H
   have A36 := Aside0.mk A360
   clear A360
   obtain ⟨y358, hy358⟩ : ∃ y_ : List Int, y_ = (([0, 0, 0, 0, 1] : List Int)) := ⟨_, rfl⟩
   replace H : ((dot_Read.f y358).bind fun bt361 => ((dot_Parse.f (⟨#[51, 46]⟩ : ByteArray)).bind fun bt367 => ((dot_Parse.f (⟨#[48, 51, 46, 49]⟩ : ByteArray)).bind fun bt371 => (if t326 = 0 then ((tributarylaw06_of.f 3 259).bind fun bt375 => (if (t324 == bt375.1 && (t325 == bt375.2)) = true then (if t332 = 5 then (if (t345 == 4 && (t346 == 0)) = true then (if (t354 == 4 && (t355 == 5)) = true then (tributarylaw06_DotKnown.j1 kj4 x5_4 bt367.2.2 bt371.2.2 (bt361.2.2.1 == 2 && (bt361.2.2.2 == 0))) else (tributarylaw06_DotKnown.j1 kj4 x5_4 bt367.2.2 bt371.2.2 false)) else (tributarylaw06_DotKnown.j1 kj4 x5_4 bt367.2.2 bt371.2.2 false)) else (tributarylaw06_DotKnown.j1 kj4 x5_4 bt367.2.2 bt371.2.2 false)) else (tributarylaw06_DotKnown.j1 kj4 x5_4 bt367.2.2 bt371.2.2 false))) else (tributarylaw06_DotKnown.j1 kj4 x5_4 bt367.2.2 bt371.2.2 false))))) = some r := by first | (rw [hy358]; with_reducible exact H) | (have H2_ := (Option.bind_some _ _).symm.trans H; rw [hy358]; with_reducible exact H2_) | (have H2_ := (Option.bind_some _ _).symm.trans H; with_reducible exact H2_) | with_reducible exact H | (rw [hy358]; exact H) | exact H
   have Ny358 := Aside0.mk hy358
   clear hy358
   replace H := Option.bind_eq_some_iff.mp H
   obtain ⟨⟨t361, t362, t363, t364⟩, A370, H⟩ := H
   replace H : ((dot_Parse.f (⟨#[51, 46]⟩ : ByteArray)).bind fun bt367 => ((dot_Parse.f (⟨#[48, 51, 46, 49]⟩ : ByteArray)).bind fun bt371 => (if t326 = 0 then ((tributarylaw06_of.f 3 259).bind fun bt375 => (if (t324 == bt375.1 && (t325 == bt375.2)) = true then (if t332 = 5 then (if (t345 == 4 && (t346 == 0)) = true then (if (t354 == 4 && (t355 == 5)) = true then (tributarylaw06_DotKnown.j1 kj4 x5_4 bt367.2.2 bt371.2.2 (t363 == 2 && (t364 == 0))) else (tributarylaw06_DotKnown.j1 kj4 x5_4 bt367.2.2 bt371.2.2 false)) else (tributarylaw06_DotKnown.j1 kj4 x5_4 bt367.2.2 bt371.2.2 false)) else (tributarylaw06_DotKnown.j1 kj4 x5_4 bt367.2.2 bt371.2.2 false)) else (tributarylaw06_DotKnown.j1 kj4 x5_4 bt367.2.2 bt371.2.2 false))) else (tributarylaw06_DotKnown.j1 kj4 x5_4 bt367.2.2 bt371.2.2 false)))) = some r := H
   have A37 := Aside0.mk A370
   clear A370
   replace H := Option.bind_eq_some_iff.mp H
   obtain ⟨⟨t367, t368, t369⟩, A380, H⟩ := H
   replace H : ((dot_Parse.f (⟨#[48, 51, 46, 49]⟩ : ByteArray)).bind fun bt371 => (if t326 = 0 then ((tributarylaw06_of.f 3 259).bind fun bt375 => (if (t324 == bt375.1 && (t325 == bt375.2)) = true then (if t332 = 5 then (if (t345 == 4 && (t346 == 0)) = true then (if (t354 == 4 && (t355 == 5)) = true then (tributarylaw06_DotKnown.j1 kj4 x5_4 t369 bt371.2.2 (t363 == 2 && (t364 == 0))) else (tributarylaw06_DotKnown.j1 kj4 x5_4 t369 bt371.2.2 false)) else (tributarylaw06_DotKnown.j1 kj4 x5_4 t369 bt371.2.2 false)) else (tributarylaw06_DotKnown.j1 kj4 x5_4 t369 bt371.2.2 false)) else (tributarylaw06_DotKnown.j1 kj4 x5_4 t369 bt371.2.2 false))) else (tributarylaw06_DotKnown.j1 kj4 x5_4 t369 bt371.2.2 false))) = some r := H
   have A38 := Aside0.mk A380
   clear A380
   replace H := Option.bind_eq_some_iff.mp H
   obtain ⟨⟨t371, t372, t373⟩, A390, H⟩ := H
   replace H : (if t326 = 0 then ((tributarylaw06_of.f 3 259).bind fun bt375 => (if (t324 == bt375.1 && (t325 == bt375.2)) = true then (if t332 = 5 then (if (t345 == 4 && (t346 == 0)) = true then (if (t354 == 4 && (t355 == 5)) = true then (tributarylaw06_DotKnown.j1 kj4 x5_4 t369 t373 (t363 == 2 && (t364 == 0))) else (tributarylaw06_DotKnown.j1 kj4 x5_4 t369 t373 false)) else (tributarylaw06_DotKnown.j1 kj4 x5_4 t369 t373 false)) else (tributarylaw06_DotKnown.j1 kj4 x5_4 t369 t373 false)) else (tributarylaw06_DotKnown.j1 kj4 x5_4 t369 t373 false))) else (tributarylaw06_DotKnown.j1 kj4 x5_4 t369 t373 false)) = some r := H
   have A39 := Aside0.mk A390
   clear A390
   have HC40 := Aside0.mk H
   clear H
   go_upto_region 9 with (first | ((with_reducible refine gate_callee (f := 17) rfl ?_); refine goesL_ (some 41) rfl rfl Tryd.func17 (by kernel_rfl) rfl #[.slice none 0 0] rfl (by (try simp only [List.map_toArray, List.map_cons, List.map_nil]); first | done | rfl | (simp only [List.length_drop, List.length_take]; rfl)) ?_; (refine (dot_Read.calls _ _ ([] : List Int) t343 t344 t345 t346 _ ?side1 ?side2 A35.out).mono ?_); (case side1 => exact Kd.C_nil _ _); (case side2 => exact Nat.le_refl _); rintro e w41 ⟨rfl, hb⟩; refine ⟨_, rfl, ?_⟩; have n0_ := Aside0.mk (blk_below (g := gb327) (o := .cells #[.int .i64 t324, .int .i64 t325] 23 (0, 0)) (by (with_reducible repeat (first | refine blk_drewN ?_ _ | refine blk_drew ?_ | refine blk_alloc ?_ _)); exact BK327.out) hb); have n1_ := Aside0.mk (blk_below (g := gb333) (o := .cells #[.int .i64 t330, .int .i64 t331] 23 (0, 0)) (by (with_reducible repeat (first | refine blk_drewN ?_ _ | refine blk_drew ?_ | refine blk_alloc ?_ _)); exact BK333.out) hb); have n2_ := Aside0.mk (below_step (by repeat (first | (with_reducible first | exact HB.out | apply below_alloc | apply pw_below_drewN | apply below_drew1 | refine below_set ?_ GE327.out | refine below_set ?_ GE333.out) | exact HB.out)) hb); clear BK327; clear BK333; clear HB; have BK327 := n0_; have BK333 := n1_; have HB := n2_; clear n0_ n1_ n2_; (try clear hb); (try clear hb2); (try clear hk); (try clear hi)) | ((with_reducible refine gate_dst (N := 6) rfl ?_); (try (refine gate_guard (by rfl) ?_; dsimp only)); refine box_event ?hg (N := 6) ?hd (cs := #[.int .i64 0, .int .i64 0]) (t := 23) ?hr ?_; (case hd => rfl); (case hg => rfl); (case hr => first | (go_simp; done) | (go_simp; rfl)); intro gb347 hg w42 hbox hb; have n0_ := Aside0.mk (blk_below (g := gb327) (o := .cells #[.int .i64 t324, .int .i64 t325] 23 (0, 0)) (by (with_reducible repeat (first | refine blk_drewN ?_ _ | refine blk_drew ?_ | refine blk_alloc ?_ _)); exact BK327.out) hb); have n1_ := Aside0.mk (blk_below (g := gb333) (o := .cells #[.int .i64 t330, .int .i64 t331] 23 (0, 0)) (by (with_reducible repeat (first | refine blk_drewN ?_ _ | refine blk_drew ?_ | refine blk_alloc ?_ _)); exact BK333.out) hb); have n2_ := Aside0.mk (below_step (by repeat (first | (with_reducible first | exact HB.out | apply below_alloc | apply pw_below_drewN | apply below_drew1 | refine below_set ?_ GE327.out | refine below_set ?_ GE333.out) | exact HB.out)) hb); have n3_ := Aside0.mk (hbox); have n4_ := Aside0.mk ((by rw [hg]; exact (below_size (by repeat (first | (with_reducible first | exact HB.out | apply below_alloc | apply pw_below_drewN | apply below_drew1 | refine below_set ?_ GE327.out | refine below_set ?_ GE333.out) | exact HB.out))) : w.heap.size ≤ gb347)); have n5_ := Aside0.mk ((by rw [hg]; exact (below_size (by repeat (first | (with_reducible first | exact HB.out | apply below_alloc | apply pw_below_drewN | apply below_drew1 | refine below_set ?_ GE327.out | refine below_set ?_ GE333.out) | exact HB.out))) : w.heap.size ≤ gb347)); have n6_ := Aside0.mk ((by rw [hg]; exact Nat.ne_of_lt (blk_lt (g := gb327) (o := .cells #[.int .i64 t324, .int .i64 t325] 23 (0, 0)) (by (with_reducible repeat (first | refine blk_drewN ?_ _ | refine blk_drew ?_ | refine blk_alloc ?_ _)); exact BK327.out)) : gb327 ≠ gb347)); have n7_ := Aside0.mk ((by rw [hg]; exact Nat.ne_of_gt (blk_lt (g := gb327) (o := .cells #[.int .i64 t324, .int .i64 t325] 23 (0, 0)) (by (with_reducible repeat (first | refine blk_drewN ?_ _ | refine blk_drew ?_ | refine blk_alloc ?_ _)); exact BK327.out)) : gb347 ≠ gb327)); have n8_ := Aside0.mk ((by rw [hg]; exact Nat.ne_of_lt (blk_lt (g := gb333) (o := .cells #[.int .i64 t330, .int .i64 t331] 23 (0, 0)) (by (with_reducible repeat (first | refine blk_drewN ?_ _ | refine blk_drew ?_ | refine blk_alloc ?_ _)); exact BK333.out)) : gb333 ≠ gb347)); have n9_ := Aside0.mk ((by rw [hg]; exact Nat.ne_of_gt (blk_lt (g := gb333) (o := .cells #[.int .i64 t330, .int .i64 t331] 23 (0, 0)) (by (with_reducible repeat (first | refine blk_drewN ?_ _ | refine blk_drew ?_ | refine blk_alloc ?_ _)); exact BK333.out)) : gb347 ≠ gb333)); clear BK327; clear BK333; clear HB; have BK327 := n0_; have BK333 := n1_; have HB := n2_; have BK347 := n3_; have GW347 := n4_; have GE347 := n5_; have NB327_347 := n6_; have NB347_327 := n7_; have NB333_347 := n8_; have NB347_333 := n9_; clear n0_ n1_ n2_ n3_ n4_ n5_ n6_ n7_ n8_ n9_; clear hb hbox hg) | ((with_reducible refine gate_dst (N := 7) rfl ?_); (try (refine gate_guard (by rfl) ?_; dsimp only)); refine box_event ?hg (N := 7) ?hd (cs := #[.int .i64 0, .int .i64 0]) (t := 36) ?hr ?_; (case hd => rfl); (case hg => rfl); (case hr => first | (go_simp; done) | (go_simp; rfl)); intro gb348 hg w43 hbox hb; have n0_ := Aside0.mk (blk_below (g := gb327) (o := .cells #[.int .i64 t324, .int .i64 t325] 23 (0, 0)) (by (with_reducible repeat (first | refine blk_drewN ?_ _ | refine blk_drew ?_ | refine blk_alloc ?_ _)); exact BK327.out) hb); have n1_ := Aside0.mk (blk_below (g := gb333) (o := .cells #[.int .i64 t330, .int .i64 t331] 23 (0, 0)) (by (with_reducible repeat (first | refine blk_drewN ?_ _ | refine blk_drew ?_ | refine blk_alloc ?_ _)); exact BK333.out) hb); have n2_ := Aside0.mk (blk_below (g := gb347) (o := .cells #[.int .i64 0, .int .i64 0] 23 (0, 0)) (by (with_reducible repeat (first | refine blk_drewN ?_ _ | refine blk_drew ?_ | refine blk_alloc ?_ _)); exact BK347.out) hb); have n3_ := Aside0.mk (below_step (by repeat (first | (with_reducible first | exact HB.out | apply below_alloc | apply pw_below_drewN | apply below_drew1 | refine below_set ?_ GE327.out | refine below_set ?_ GE333.out | refine below_set ?_ GE347.out) | exact HB.out)) hb); have n4_ := Aside0.mk (hbox); have n5_ := Aside0.mk ((by rw [hg]; exact (below_size (by repeat (first | (with_reducible first | exact HB.out | apply below_alloc | apply pw_below_drewN | apply below_drew1 | refine below_set ?_ GE327.out | refine below_set ?_ GE333.out | refine below_set ?_ GE347.out) | exact HB.out))) : w.heap.size ≤ gb348)); have n6_ := Aside0.mk ((by rw [hg]; exact (below_size (by repeat (first | (with_reducible first | exact HB.out | apply below_alloc | apply pw_below_drewN | apply below_drew1 | refine below_set ?_ GE327.out | refine below_set ?_ GE333.out | refine below_set ?_ GE347.out) | exact HB.out))) : w.heap.size ≤ gb348)); have n7_ := Aside0.mk ((by rw [hg]; exact Nat.ne_of_lt (blk_lt (g := gb327) (o := .cells #[.int .i64 t324, .int .i64 t325] 23 (0, 0)) (by (with_reducible repeat (first | refine blk_drewN ?_ _ | refine blk_drew ?_ | refine blk_alloc ?_ _)); exact BK327.out)) : gb327 ≠ gb348)); have n8_ := Aside0.mk ((by rw [hg]; exact Nat.ne_of_gt (blk_lt (g := gb327) (o := .cells #[.int .i64 t324, .int .i64 t325] 23 (0, 0)) (by (with_reducible repeat (first | refine blk_drewN ?_ _ | refine blk_drew ?_ | refine blk_alloc ?_ _)); exact BK327.out)) : gb348 ≠ gb327)); have n9_ := Aside0.mk ((by rw [hg]; exact Nat.ne_of_lt (blk_lt (g := gb333) (o := .cells #[.int .i64 t330, .int .i64 t331] 23 (0, 0)) (by (with_reducible repeat (first | refine blk_drewN ?_ _ | refine blk_drew ?_ | refine blk_alloc ?_ _)); exact BK333.out)) : gb333 ≠ gb348)); have n10_ := Aside0.mk ((by rw [hg]; exact Nat.ne_of_gt (blk_lt (g := gb333) (o := .cells #[.int .i64 t330, .int .i64 t331] 23 (0, 0)) (by (with_reducible repeat (first | refine blk_drewN ?_ _ | refine blk_drew ?_ | refine blk_alloc ?_ _)); exact BK333.out)) : gb348 ≠ gb333)); have n11_ := Aside0.mk ((by rw [hg]; exact Nat.ne_of_lt (blk_lt (g := gb347) (o := .cells #[.int .i64 0, .int .i64 0] 23 (0, 0)) (by (with_reducible repeat (first | refine blk_drewN ?_ _ | refine blk_drew ?_ | refine blk_alloc ?_ _)); exact BK347.out)) : gb347 ≠ gb348)); have n12_ := Aside0.mk ((by rw [hg]; exact Nat.ne_of_gt (blk_lt (g := gb347) (o := .cells #[.int .i64 0, .int .i64 0] 23 (0, 0)) (by (with_reducible repeat (first | refine blk_drewN ?_ _ | refine blk_drew ?_ | refine blk_alloc ?_ _)); exact BK347.out)) : gb348 ≠ gb347)); clear BK327; clear BK333; clear BK347; clear HB; have BK327 := n0_; have BK333 := n1_; have BK347 := n2_; have HB := n3_; have BK348 := n4_; have GW348 := n5_; have GE348 := n6_; have NB327_348 := n7_; have NB348_327 := n8_; have NB333_348 := n9_; have NB348_333 := n10_; have NB347_348 := n11_; have NB348_347 := n12_; clear n0_ n1_ n2_ n3_ n4_ n5_ n6_ n7_ n8_ n9_ n10_ n11_ n12_; clear hb hbox hg; have hnb44 := NB347_327.out; have hnc44 := NB327_347.out; have hnb45 := NB347_333.out; have hnc45 := NB333_347.out; have hnb46 := NB347_348.out; have hnc46 := NB348_347.out; have hcz47_0 : w43.cell? ⟨gb347, 0, none⟩ = some (.int .i64 0) := (blk_cell BK347.out 0).trans rfl; have hcz47_1 : w43.cell? ⟨gb347, 1, none⟩ = some (.int .i64 0) := (blk_cell BK347.out 1).trans rfl; have hfz47_0 := blk_frozen BK347.out 0; have hfz47_1 := blk_frozen BK347.out 1; have hnb48 := NB348_327.out; have hnc48 := NB327_348.out; have hnb49 := NB348_333.out; have hnc49 := NB333_348.out; have hcz50_0 : w43.cell? ⟨gb348, 0, none⟩ = some (.int .i64 0) := (blk_cell BK348.out 0).trans rfl; have hcz50_1 : w43.cell? ⟨gb348, 1, none⟩ = some (.int .i64 0) := (blk_cell BK348.out 1).trans rfl; have hfz50_0 := blk_frozen BK348.out 0; have hfz50_1 := blk_frozen BK348.out 1) | ((with_reducible refine gate_dst (N := 45) rfl ?_); (try (refine gate_guard (by rfl) ?_; dsimp only)); refine Kd.R_lit (Kd.int .u8) _ 5 ?hg (N := 45) ?hd (xs := ([3, 0, 0, 1, 2, 0] : List Int)) (inner := [.int .u8 3, .int .u8 0, .int .u8 0, .int .u8 1, .int .u8 2, .int .u8 0]) (ok := fun _ => True) (okp := fun _ => True) ?hr ?hp (fun _ hk => hk) trivial (Below.refl _ _) (Nat.le_refl _) (by simp) ?_; (case hd => rfl); (case hg => rfl); (case hr => first | (go_simp; done) | (go_simp; rfl)); (case hp => exact (Reps.one (show Kd.M (Kd.int .u8) _ _ _ 3 [.int .u8 3] from rfl) (Reps.one (show Kd.M (Kd.int .u8) _ _ _ 0 [.int .u8 0] from rfl) (Reps.one (show Kd.M (Kd.int .u8) _ _ _ 0 [.int .u8 0] from rfl) (Reps.one (show Kd.M (Kd.int .u8) _ _ _ 1 [.int .u8 1] from rfl) (Reps.one (show Kd.M (Kd.int .u8) _ _ _ 2 [.int .u8 2] from rfl) (Reps.one (show Kd.M (Kd.int .u8) _ _ _ 0 [.int .u8 0] from rfl) (Reps.none _ _)))))))); intro v350 w51 ho52 hb hg_ hnew_; clear hg_ hnew_; (first | rw [← Ny349.out] at ho52 | (simp only [Int.reduceToNat] at ho52; rw [← Ny349.out] at ho52)); have n0_ := Aside0.mk (Kd.R_lower ho52 (below_size (by repeat (first | (with_reducible first | exact HB.out | apply below_alloc | apply pw_below_drewN | apply below_drew1 | refine below_set ?_ GE327.out | refine below_set ?_ GE333.out | refine below_set ?_ GE347.out | refine below_set ?_ GE348.out) | exact HB.out)))); have n1_ := Aside0.mk (blk_below (g := gb327) (o := .cells #[.int .i64 t324, .int .i64 t325] 23 (0, 0)) (by (with_reducible repeat (first | refine blk_drewN ?_ _ | refine blk_drew ?_ | refine blk_alloc ?_ _)); refine blk_far ?_ NB327_348.out _; (with_reducible repeat (first | refine blk_drewN ?_ _ | refine blk_drew ?_ | refine blk_alloc ?_ _)); refine blk_far ?_ NB327_348.out _; (with_reducible repeat (first | refine blk_drewN ?_ _ | refine blk_drew ?_ | refine blk_alloc ?_ _)); refine blk_far ?_ NB327_347.out _; (with_reducible repeat (first | refine blk_drewN ?_ _ | refine blk_drew ?_ | refine blk_alloc ?_ _)); refine blk_far ?_ NB327_347.out _; (with_reducible repeat (first | refine blk_drewN ?_ _ | refine blk_drew ?_ | refine blk_alloc ?_ _)); exact BK327.out) hb); have n2_ := Aside0.mk (blk_below (g := gb333) (o := .cells #[.int .i64 t330, .int .i64 t331] 23 (0, 0)) (by (with_reducible repeat (first | refine blk_drewN ?_ _ | refine blk_drew ?_ | refine blk_alloc ?_ _)); refine blk_far ?_ NB333_348.out _; (with_reducible repeat (first | refine blk_drewN ?_ _ | refine blk_drew ?_ | refine blk_alloc ?_ _)); refine blk_far ?_ NB333_348.out _; (with_reducible repeat (first | refine blk_drewN ?_ _ | refine blk_drew ?_ | refine blk_alloc ?_ _)); refine blk_far ?_ NB333_347.out _; (with_reducible repeat (first | refine blk_drewN ?_ _ | refine blk_drew ?_ | refine blk_alloc ?_ _)); refine blk_far ?_ NB333_347.out _; (with_reducible repeat (first | refine blk_drewN ?_ _ | refine blk_drew ?_ | refine blk_alloc ?_ _)); exact BK333.out) hb); have n3_ := Aside0.mk (blk_below (g := gb347) (o := .cells #[.int .i64 t343, .int .i64 t344] 23 (0, 0)) (by (with_reducible repeat (first | refine blk_drewN ?_ _ | refine blk_drew ?_ | refine blk_alloc ?_ _)); refine blk_far ?_ NB347_348.out _; (with_reducible repeat (first | refine blk_drewN ?_ _ | refine blk_drew ?_ | refine blk_alloc ?_ _)); refine blk_far ?_ NB347_348.out _; (with_reducible repeat (first | refine blk_drewN ?_ _ | refine blk_drew ?_ | refine blk_alloc ?_ _)); refine blk_put (cs := #[.int .i64 t343, .int .i64 0]) ?_ 1 _ rfl; (with_reducible repeat (first | refine blk_drewN ?_ _ | refine blk_drew ?_ | refine blk_alloc ?_ _)); refine blk_put (cs := #[.int .i64 0, .int .i64 0]) ?_ 0 _ rfl; (with_reducible repeat (first | refine blk_drewN ?_ _ | refine blk_drew ?_ | refine blk_alloc ?_ _)); exact BK347.out) hb); have n4_ := Aside0.mk (blk_below (g := gb348) (o := .cells #[.int .i64 t345, .int .i64 t346] 36 (0, 0)) (by (with_reducible repeat (first | refine blk_drewN ?_ _ | refine blk_drew ?_ | refine blk_alloc ?_ _)); refine blk_put (cs := #[.int .i64 t345, .int .i64 0]) ?_ 1 _ rfl; (with_reducible repeat (first | refine blk_drewN ?_ _ | refine blk_drew ?_ | refine blk_alloc ?_ _)); refine blk_put (cs := #[.int .i64 0, .int .i64 0]) ?_ 0 _ rfl; (with_reducible repeat (first | refine blk_drewN ?_ _ | refine blk_drew ?_ | refine blk_alloc ?_ _)); refine blk_far ?_ NB348_347.out _; (with_reducible repeat (first | refine blk_drewN ?_ _ | refine blk_drew ?_ | refine blk_alloc ?_ _)); refine blk_far ?_ NB348_347.out _; (with_reducible repeat (first | refine blk_drewN ?_ _ | refine blk_drew ?_ | refine blk_alloc ?_ _)); exact BK348.out) hb); have n5_ := Aside0.mk (below_step (by repeat (first | (with_reducible first | exact HB.out | apply below_alloc | apply pw_below_drewN | apply below_drew1 | refine below_set ?_ GE327.out | refine below_set ?_ GE333.out | refine below_set ?_ GE347.out | refine below_set ?_ GE348.out) | exact HB.out)) hb); clear BK327; clear BK333; clear BK347; clear BK348; clear HB; have HO351 := n0_; have BK327 := n1_; have BK333 := n2_; have BK347 := n3_; have BK348 := n4_; have HB := n5_; clear n0_ n1_ n2_ n3_ n4_ n5_; clear hb ho52; obtain ⟨Ao53, co53, eo53⟩ := Kd.R_slice HO351.out; subst eo53) | ((with_reducible refine gate_callee (f := 17) rfl ?_); refine goesL_ (some 46) rfl rfl Tryd.func17 (by kernel_rfl) rfl #[.slice Ao53 y349.length co53] rfl (by (try simp only [List.map_toArray, List.map_cons, List.map_nil]); first | done | rfl | (simp only [List.length_drop, List.length_take]; rfl)) ?_; (with_reducible refine (dot_Read.calls _ _ y349 t352 t353 t354 t355 _ ?side1 ?side2 A36.out).mono ?_); (case side1 => repeat (first | exact (Kd.R_reads' HO351.out).2.2 | (with_reducible refine Kd.C_alloc ?_ _) | (with_reducible refine Kd.C_drewN ?_ _) | (with_reducible refine Kd.C_drew ?_))); (case side2 => exact (Kd.R_reads' HO351.out).2.1); rintro e w54 ⟨rfl, hb⟩; refine ⟨_, rfl, ?_⟩; have n0_ := Aside0.mk (Kd.R_below (by (with_reducible repeat (first | apply Kd.R_alloc | apply Kd.R_drewN | apply Kd.R_drew)); exact HO351.out) hb); have n1_ := Aside0.mk (blk_below (g := gb327) (o := .cells #[.int .i64 t324, .int .i64 t325] 23 (0, 0)) (by (with_reducible repeat (first | refine blk_drewN ?_ _ | refine blk_drew ?_ | refine blk_alloc ?_ _)); exact BK327.out) hb); have n2_ := Aside0.mk (blk_below (g := gb333) (o := .cells #[.int .i64 t330, .int .i64 t331] 23 (0, 0)) (by (with_reducible repeat (first | refine blk_drewN ?_ _ | refine blk_drew ?_ | refine blk_alloc ?_ _)); exact BK333.out) hb); have n3_ := Aside0.mk (blk_below (g := gb347) (o := .cells #[.int .i64 t343, .int .i64 t344] 23 (0, 0)) (by (with_reducible repeat (first | refine blk_drewN ?_ _ | refine blk_drew ?_ | refine blk_alloc ?_ _)); exact BK347.out) hb); have n4_ := Aside0.mk (blk_below (g := gb348) (o := .cells #[.int .i64 t345, .int .i64 t346] 36 (0, 0)) (by (with_reducible repeat (first | refine blk_drewN ?_ _ | refine blk_drew ?_ | refine blk_alloc ?_ _)); exact BK348.out) hb); have n5_ := Aside0.mk (below_step (by repeat (first | (with_reducible first | exact HB.out | apply below_alloc | apply pw_below_drewN | apply below_drew1 | refine below_set ?_ GE327.out | refine below_set ?_ GE333.out | refine below_set ?_ GE347.out | refine below_set ?_ GE348.out) | exact HB.out)) hb); clear HO351; clear BK327; clear BK333; clear BK347; clear BK348; clear HB; have HO351 := n0_; have BK327 := n1_; have BK333 := n2_; have BK347 := n3_; have BK348 := n4_; have HB := n5_; clear n0_ n1_ n2_ n3_ n4_ n5_; (try clear hb); (try clear hb2); (try clear hk); (try clear hi)) | ((with_reducible refine gate_dst (N := 8) rfl ?_); (try (refine gate_guard (by rfl) ?_; dsimp only)); refine box_event ?hg (N := 8) ?hd (cs := #[.int .i64 0, .int .i64 0]) (t := 23) ?hr ?_; (case hd => rfl); (case hg => rfl); (case hr => first | (go_simp; done) | (go_simp; rfl)); intro gb356 hg w55 hbox hb; have n0_ := Aside0.mk (Kd.R_below (by (with_reducible repeat (first | apply Kd.R_alloc | apply Kd.R_drewN | apply Kd.R_drew)); exact HO351.out) hb); have n1_ := Aside0.mk (blk_below (g := gb327) (o := .cells #[.int .i64 t324, .int .i64 t325] 23 (0, 0)) (by (with_reducible repeat (first | refine blk_drewN ?_ _ | refine blk_drew ?_ | refine blk_alloc ?_ _)); exact BK327.out) hb); have n2_ := Aside0.mk (blk_below (g := gb333) (o := .cells #[.int .i64 t330, .int .i64 t331] 23 (0, 0)) (by (with_reducible repeat (first | refine blk_drewN ?_ _ | refine blk_drew ?_ | refine blk_alloc ?_ _)); exact BK333.out) hb); have n3_ := Aside0.mk (blk_below (g := gb347) (o := .cells #[.int .i64 t343, .int .i64 t344] 23 (0, 0)) (by (with_reducible repeat (first | refine blk_drewN ?_ _ | refine blk_drew ?_ | refine blk_alloc ?_ _)); exact BK347.out) hb); have n4_ := Aside0.mk (blk_below (g := gb348) (o := .cells #[.int .i64 t345, .int .i64 t346] 36 (0, 0)) (by (with_reducible repeat (first | refine blk_drewN ?_ _ | refine blk_drew ?_ | refine blk_alloc ?_ _)); exact BK348.out) hb); have n5_ := Aside0.mk (below_step (by repeat (first | (with_reducible first | exact HB.out | apply below_alloc | apply pw_below_drewN | apply below_drew1 | refine below_set ?_ GE327.out | refine below_set ?_ GE333.out | refine below_set ?_ GE347.out | refine below_set ?_ GE348.out) | exact HB.out)) hb); have n6_ := Aside0.mk (hbox); have n7_ := Aside0.mk ((by rw [hg]; exact (below_size (by repeat (first | (with_reducible first | exact HB.out | apply below_alloc | apply pw_below_drewN | apply below_drew1 | refine below_set ?_ GE327.out | refine below_set ?_ GE333.out | refine below_set ?_ GE347.out | refine below_set ?_ GE348.out) | exact HB.out))) : w.heap.size ≤ gb356)); have n8_ := Aside0.mk ((by rw [hg]; exact (below_size (by repeat (first | (with_reducible first | exact HB.out | apply below_alloc | apply pw_below_drewN | apply below_drew1 | refine below_set ?_ GE327.out | refine below_set ?_ GE333.out | refine below_set ?_ GE347.out | refine below_set ?_ GE348.out) | exact HB.out))) : w.heap.size ≤ gb356)); have n9_ := Aside0.mk ((by rw [hg]; exact Nat.ne_of_lt (blk_lt (g := gb327) (o := .cells #[.int .i64 t324, .int .i64 t325] 23 (0, 0)) (by (with_reducible repeat (first | refine blk_drewN ?_ _ | refine blk_drew ?_ | refine blk_alloc ?_ _)); exact BK327.out)) : gb327 ≠ gb356)); have n10_ := Aside0.mk ((by rw [hg]; exact Nat.ne_of_gt (blk_lt (g := gb327) (o := .cells #[.int .i64 t324, .int .i64 t325] 23 (0, 0)) (by (with_reducible repeat (first | refine blk_drewN ?_ _ | refine blk_drew ?_ | refine blk_alloc ?_ _)); exact BK327.out)) : gb356 ≠ gb327)); have n11_ := Aside0.mk ((by rw [hg]; exact Nat.ne_of_lt (blk_lt (g := gb333) (o := .cells #[.int .i64 t330, .int .i64 t331] 23 (0, 0)) (by (with_reducible repeat (first | refine blk_drewN ?_ _ | refine blk_drew ?_ | refine blk_alloc ?_ _)); exact BK333.out)) : gb333 ≠ gb356)); have n12_ := Aside0.mk ((by rw [hg]; exact Nat.ne_of_gt (blk_lt (g := gb333) (o := .cells #[.int .i64 t330, .int .i64 t331] 23 (0, 0)) (by (with_reducible repeat (first | refine blk_drewN ?_ _ | refine blk_drew ?_ | refine blk_alloc ?_ _)); exact BK333.out)) : gb356 ≠ gb333)); have n13_ := Aside0.mk ((by rw [hg]; exact Nat.ne_of_lt (blk_lt (g := gb347) (o := .cells #[.int .i64 t343, .int .i64 t344] 23 (0, 0)) (by (with_reducible repeat (first | refine blk_drewN ?_ _ | refine blk_drew ?_ | refine blk_alloc ?_ _)); exact BK347.out)) : gb347 ≠ gb356)); have n14_ := Aside0.mk ((by rw [hg]; exact Nat.ne_of_gt (blk_lt (g := gb347) (o := .cells #[.int .i64 t343, .int .i64 t344] 23 (0, 0)) (by (with_reducible repeat (first | refine blk_drewN ?_ _ | refine blk_drew ?_ | refine blk_alloc ?_ _)); exact BK347.out)) : gb356 ≠ gb347)); have n15_ := Aside0.mk ((by rw [hg]; exact Nat.ne_of_lt (blk_lt (g := gb348) (o := .cells #[.int .i64 t345, .int .i64 t346] 36 (0, 0)) (by (with_reducible repeat (first | refine blk_drewN ?_ _ | refine blk_drew ?_ | refine blk_alloc ?_ _)); exact BK348.out)) : gb348 ≠ gb356)); have n16_ := Aside0.mk ((by rw [hg]; exact Nat.ne_of_gt (blk_lt (g := gb348) (o := .cells #[.int .i64 t345, .int .i64 t346] 36 (0, 0)) (by (with_reducible repeat (first | refine blk_drewN ?_ _ | refine blk_drew ?_ | refine blk_alloc ?_ _)); exact BK348.out)) : gb356 ≠ gb348)); clear HO351; clear BK327; clear BK333; clear BK347; clear BK348; clear HB; have HO351 := n0_; have BK327 := n1_; have BK333 := n2_; have BK347 := n3_; have BK348 := n4_; have HB := n5_; have BK356 := n6_; have GW356 := n7_; have GE356 := n8_; have NB327_356 := n9_; have NB356_327 := n10_; have NB333_356 := n11_; have NB356_333 := n12_; have NB347_356 := n13_; have NB356_347 := n14_; have NB348_356 := n15_; have NB356_348 := n16_; clear n0_ n1_ n2_ n3_ n4_ n5_ n6_ n7_ n8_ n9_ n10_ n11_ n12_ n13_ n14_ n15_ n16_; clear hb hbox hg) | ((with_reducible refine gate_dst (N := 9) rfl ?_); (try (refine gate_guard (by rfl) ?_; dsimp only)); refine box_event ?hg (N := 9) ?hd (cs := #[.int .i64 0, .int .i64 0]) (t := 36) ?hr ?_; (case hd => rfl); (case hg => rfl); (case hr => first | (go_simp; done) | (go_simp; rfl)); intro gb357 hg w56 hbox hb; have n0_ := Aside0.mk (Kd.R_below (by (with_reducible repeat (first | apply Kd.R_alloc | apply Kd.R_drewN | apply Kd.R_drew)); exact HO351.out) hb); have n1_ := Aside0.mk (blk_below (g := gb327) (o := .cells #[.int .i64 t324, .int .i64 t325] 23 (0, 0)) (by (with_reducible repeat (first | refine blk_drewN ?_ _ | refine blk_drew ?_ | refine blk_alloc ?_ _)); exact BK327.out) hb); have n2_ := Aside0.mk (blk_below (g := gb333) (o := .cells #[.int .i64 t330, .int .i64 t331] 23 (0, 0)) (by (with_reducible repeat (first | refine blk_drewN ?_ _ | refine blk_drew ?_ | refine blk_alloc ?_ _)); exact BK333.out) hb); have n3_ := Aside0.mk (blk_below (g := gb347) (o := .cells #[.int .i64 t343, .int .i64 t344] 23 (0, 0)) (by (with_reducible repeat (first | refine blk_drewN ?_ _ | refine blk_drew ?_ | refine blk_alloc ?_ _)); exact BK347.out) hb); have n4_ := Aside0.mk (blk_below (g := gb348) (o := .cells #[.int .i64 t345, .int .i64 t346] 36 (0, 0)) (by (with_reducible repeat (first | refine blk_drewN ?_ _ | refine blk_drew ?_ | refine blk_alloc ?_ _)); exact BK348.out) hb); have n5_ := Aside0.mk (blk_below (g := gb356) (o := .cells #[.int .i64 0, .int .i64 0] 23 (0, 0)) (by (with_reducible repeat (first | refine blk_drewN ?_ _ | refine blk_drew ?_ | refine blk_alloc ?_ _)); exact BK356.out) hb); have n6_ := Aside0.mk (below_step (by repeat (first | (with_reducible first | exact HB.out | apply below_alloc | apply pw_below_drewN | apply below_drew1 | refine below_set ?_ GE327.out | refine below_set ?_ GE333.out | refine below_set ?_ GE347.out | refine below_set ?_ GE348.out | refine below_set ?_ GE356.out) | exact HB.out)) hb); have n7_ := Aside0.mk (hbox); have n8_ := Aside0.mk ((by rw [hg]; exact (below_size (by repeat (first | (with_reducible first | exact HB.out | apply below_alloc | apply pw_below_drewN | apply below_drew1 | refine below_set ?_ GE327.out | refine below_set ?_ GE333.out | refine below_set ?_ GE347.out | refine below_set ?_ GE348.out | refine below_set ?_ GE356.out) | exact HB.out))) : w.heap.size ≤ gb357)); have n9_ := Aside0.mk ((by rw [hg]; exact (below_size (by repeat (first | (with_reducible first | exact HB.out | apply below_alloc | apply pw_below_drewN | apply below_drew1 | refine below_set ?_ GE327.out | refine below_set ?_ GE333.out | refine below_set ?_ GE347.out | refine below_set ?_ GE348.out | refine below_set ?_ GE356.out) | exact HB.out))) : w.heap.size ≤ gb357)); have n10_ := Aside0.mk ((by rw [hg]; exact Nat.ne_of_lt (blk_lt (g := gb327) (o := .cells #[.int .i64 t324, .int .i64 t325] 23 (0, 0)) (by (with_reducible repeat (first | refine blk_drewN ?_ _ | refine blk_drew ?_ | refine blk_alloc ?_ _)); exact BK327.out)) : gb327 ≠ gb357)); have n11_ := Aside0.mk ((by rw [hg]; exact Nat.ne_of_gt (blk_lt (g := gb327) (o := .cells #[.int .i64 t324, .int .i64 t325] 23 (0, 0)) (by (with_reducible repeat (first | refine blk_drewN ?_ _ | refine blk_drew ?_ | refine blk_alloc ?_ _)); exact BK327.out)) : gb357 ≠ gb327)); have n12_ := Aside0.mk ((by rw [hg]; exact Nat.ne_of_lt (blk_lt (g := gb333) (o := .cells #[.int .i64 t330, .int .i64 t331] 23 (0, 0)) (by (with_reducible repeat (first | refine blk_drewN ?_ _ | refine blk_drew ?_ | refine blk_alloc ?_ _)); exact BK333.out)) : gb333 ≠ gb357)); have n13_ := Aside0.mk ((by rw [hg]; exact Nat.ne_of_gt (blk_lt (g := gb333) (o := .cells #[.int .i64 t330, .int .i64 t331] 23 (0, 0)) (by (with_reducible repeat (first | refine blk_drewN ?_ _ | refine blk_drew ?_ | refine blk_alloc ?_ _)); exact BK333.out)) : gb357 ≠ gb333)); have n14_ := Aside0.mk ((by rw [hg]; exact Nat.ne_of_lt (blk_lt (g := gb347) (o := .cells #[.int .i64 t343, .int .i64 t344] 23 (0, 0)) (by (with_reducible repeat (first | refine blk_drewN ?_ _ | refine blk_drew ?_ | refine blk_alloc ?_ _)); exact BK347.out)) : gb347 ≠ gb357)); have n15_ := Aside0.mk ((by rw [hg]; exact Nat.ne_of_gt (blk_lt (g := gb347) (o := .cells #[.int .i64 t343, .int .i64 t344] 23 (0, 0)) (by (with_reducible repeat (first | refine blk_drewN ?_ _ | refine blk_drew ?_ | refine blk_alloc ?_ _)); exact BK347.out)) : gb357 ≠ gb347)); have n16_ := Aside0.mk ((by rw [hg]; exact Nat.ne_of_lt (blk_lt (g := gb348) (o := .cells #[.int .i64 t345, .int .i64 t346] 36 (0, 0)) (by (with_reducible repeat (first | refine blk_drewN ?_ _ | refine blk_drew ?_ | refine blk_alloc ?_ _)); exact BK348.out)) : gb348 ≠ gb357)); have n17_ := Aside0.mk ((by rw [hg]; exact Nat.ne_of_gt (blk_lt (g := gb348) (o := .cells #[.int .i64 t345, .int .i64 t346] 36 (0, 0)) (by (with_reducible repeat (first | refine blk_drewN ?_ _ | refine blk_drew ?_ | refine blk_alloc ?_ _)); exact BK348.out)) : gb357 ≠ gb348)); have n18_ := Aside0.mk ((by rw [hg]; exact Nat.ne_of_lt (blk_lt (g := gb356) (o := .cells #[.int .i64 0, .int .i64 0] 23 (0, 0)) (by (with_reducible repeat (first | refine blk_drewN ?_ _ | refine blk_drew ?_ | refine blk_alloc ?_ _)); exact BK356.out)) : gb356 ≠ gb357)); have n19_ := Aside0.mk ((by rw [hg]; exact Nat.ne_of_gt (blk_lt (g := gb356) (o := .cells #[.int .i64 0, .int .i64 0] 23 (0, 0)) (by (with_reducible repeat (first | refine blk_drewN ?_ _ | refine blk_drew ?_ | refine blk_alloc ?_ _)); exact BK356.out)) : gb357 ≠ gb356)); clear HO351; clear BK327; clear BK333; clear BK347; clear BK348; clear BK356; clear HB; have HO351 := n0_; have BK327 := n1_; have BK333 := n2_; have BK347 := n3_; have BK348 := n4_; have BK356 := n5_; have HB := n6_; have BK357 := n7_; have GW357 := n8_; have GE357 := n9_; have NB327_357 := n10_; have NB357_327 := n11_; have NB333_357 := n12_; have NB357_333 := n13_; have NB347_357 := n14_; have NB357_347 := n15_; have NB348_357 := n16_; have NB357_348 := n17_; have NB356_357 := n18_; have NB357_356 := n19_; clear n0_ n1_ n2_ n3_ n4_ n5_ n6_ n7_ n8_ n9_ n10_ n11_ n12_ n13_ n14_ n15_ n16_ n17_ n18_ n19_; clear hb hbox hg; have hnb57 := NB356_327.out; have hnc57 := NB327_356.out; have hnb58 := NB356_333.out; have hnc58 := NB333_356.out; have hnb59 := NB356_347.out; have hnc59 := NB347_356.out; have hnb60 := NB356_348.out; have hnc60 := NB348_356.out; have hnb61 := NB356_357.out; have hnc61 := NB357_356.out; have hcz62_0 : w56.cell? ⟨gb356, 0, none⟩ = some (.int .i64 0) := (blk_cell BK356.out 0).trans rfl; have hcz62_1 : w56.cell? ⟨gb356, 1, none⟩ = some (.int .i64 0) := (blk_cell BK356.out 1).trans rfl; have hfz62_0 := blk_frozen BK356.out 0; have hfz62_1 := blk_frozen BK356.out 1; have hnb63 := NB357_327.out; have hnc63 := NB327_357.out; have hnb64 := NB357_333.out; have hnc64 := NB333_357.out; have hnb65 := NB357_347.out; have hnc65 := NB347_357.out; have hnb66 := NB357_348.out; have hnc66 := NB348_357.out; have hcz67_0 : w56.cell? ⟨gb357, 0, none⟩ = some (.int .i64 0) := (blk_cell BK357.out 0).trans rfl; have hcz67_1 : w56.cell? ⟨gb357, 1, none⟩ = some (.int .i64 0) := (blk_cell BK357.out 1).trans rfl; have hfz67_0 := blk_frozen BK357.out 0; have hfz67_1 := blk_frozen BK357.out 1) | ((with_reducible refine gate_dst (N := 50) rfl ?_); (try (refine gate_guard (by rfl) ?_; dsimp only)); refine Kd.R_lit (Kd.int .u8) _ 5 ?hg (N := 50) ?hd (xs := ([0, 0, 0, 0, 1] : List Int)) (inner := [.int .u8 0, .int .u8 0, .int .u8 0, .int .u8 0, .int .u8 1]) (ok := fun _ => True) (okp := fun _ => True) ?hr ?hp (fun _ hk => hk) trivial (Below.refl _ _) (Nat.le_refl _) (by simp) ?_; (case hd => rfl); (case hg => rfl); (case hr => first | (go_simp; done) | (go_simp; rfl)); (case hp => exact (Reps.one (show Kd.M (Kd.int .u8) _ _ _ 0 [.int .u8 0] from rfl) (Reps.one (show Kd.M (Kd.int .u8) _ _ _ 0 [.int .u8 0] from rfl) (Reps.one (show Kd.M (Kd.int .u8) _ _ _ 0 [.int .u8 0] from rfl) (Reps.one (show Kd.M (Kd.int .u8) _ _ _ 0 [.int .u8 0] from rfl) (Reps.one (show Kd.M (Kd.int .u8) _ _ _ 1 [.int .u8 1] from rfl) (Reps.none _ _))))))); intro v359 w68 ho69 hb hg_ hnew_; clear hg_ hnew_; (first | rw [← Ny358.out] at ho69 | (simp only [Int.reduceToNat] at ho69; rw [← Ny358.out] at ho69)); have n0_ := Aside0.mk (Kd.R_elder' (by (with_reducible repeat (first | apply Kd.R_alloc | apply Kd.R_drewN | apply Kd.R_drew)); exact (Kd.R_mono (Kd.R_mono (Kd.R_far (p := ⟨gb357, 1, none⟩) (Kd.R_far (p := ⟨gb357, 0, none⟩) (Kd.R_far (p := ⟨gb356, 1, none⟩) (Kd.R_far (p := ⟨gb356, 0, none⟩) (Kd.R_types (Kd.R_types HO351.out BK356.out (by decide)) BK357.out (by decide)) (fun _ hk => hk.1.2) (.int .i64 t352)) (fun _ hk => hk.1.2) (.int .i64 t353)) (fun _ hk => hk.2) (.int .i64 t354)) (fun _ hk => hk.2) (.int .i64 t355)) (fun _ h_ => h_.1)) (fun _ h_ => h_.1))) (Kd.R_base ho69) hb); have n1_ := Aside0.mk (Kd.R_lower (Kd.R_new' ho69 (Kd.R_lt (by (with_reducible repeat (first | apply Kd.R_alloc | apply Kd.R_drewN | apply Kd.R_drew)); exact (Kd.R_mono (Kd.R_mono (Kd.R_far (p := ⟨gb357, 1, none⟩) (Kd.R_far (p := ⟨gb357, 0, none⟩) (Kd.R_far (p := ⟨gb356, 1, none⟩) (Kd.R_far (p := ⟨gb356, 0, none⟩) (Kd.R_types (Kd.R_types HO351.out BK356.out (by decide)) BK357.out (by decide)) (fun _ hk => hk.1.2) (.int .i64 t352)) (fun _ hk => hk.1.2) (.int .i64 t353)) (fun _ hk => hk.2) (.int .i64 t354)) (fun _ hk => hk.2) (.int .i64 t355)) (fun _ h_ => h_.1)) (fun _ h_ => h_.1))))) (below_size (by repeat (first | (with_reducible first | exact HB.out | apply below_alloc | apply pw_below_drewN | apply below_drew1 | refine below_set ?_ GE327.out | refine below_set ?_ GE333.out | refine below_set ?_ GE347.out | refine below_set ?_ GE348.out | refine below_set ?_ GE356.out | refine below_set ?_ GE357.out) | exact HB.out)))); have n2_ := Aside0.mk (blk_below (g := gb327) (o := .cells #[.int .i64 t324, .int .i64 t325] 23 (0, 0)) (by (with_reducible repeat (first | refine blk_drewN ?_ _ | refine blk_drew ?_ | refine blk_alloc ?_ _)); refine blk_far ?_ NB327_357.out _; (with_reducible repeat (first | refine blk_drewN ?_ _ | refine blk_drew ?_ | refine blk_alloc ?_ _)); refine blk_far ?_ NB327_357.out _; (with_reducible repeat (first | refine blk_drewN ?_ _ | refine blk_drew ?_ | refine blk_alloc ?_ _)); refine blk_far ?_ NB327_356.out _; (with_reducible repeat (first | refine blk_drewN ?_ _ | refine blk_drew ?_ | refine blk_alloc ?_ _)); refine blk_far ?_ NB327_356.out _; (with_reducible repeat (first | refine blk_drewN ?_ _ | refine blk_drew ?_ | refine blk_alloc ?_ _)); exact BK327.out) hb); have n3_ := Aside0.mk (blk_below (g := gb333) (o := .cells #[.int .i64 t330, .int .i64 t331] 23 (0, 0)) (by (with_reducible repeat (first | refine blk_drewN ?_ _ | refine blk_drew ?_ | refine blk_alloc ?_ _)); refine blk_far ?_ NB333_357.out _; (with_reducible repeat (first | refine blk_drewN ?_ _ | refine blk_drew ?_ | refine blk_alloc ?_ _)); refine blk_far ?_ NB333_357.out _; (with_reducible repeat (first | refine blk_drewN ?_ _ | refine blk_drew ?_ | refine blk_alloc ?_ _)); refine blk_far ?_ NB333_356.out _; (with_reducible repeat (first | refine blk_drewN ?_ _ | refine blk_drew ?_ | refine blk_alloc ?_ _)); refine blk_far ?_ NB333_356.out _; (with_reducible repeat (first | refine blk_drewN ?_ _ | refine blk_drew ?_ | refine blk_alloc ?_ _)); exact BK333.out) hb); have n4_ := Aside0.mk (blk_below (g := gb347) (o := .cells #[.int .i64 t343, .int .i64 t344] 23 (0, 0)) (by (with_reducible repeat (first | refine blk_drewN ?_ _ | refine blk_drew ?_ | refine blk_alloc ?_ _)); refine blk_far ?_ NB347_357.out _; (with_reducible repeat (first | refine blk_drewN ?_ _ | refine blk_drew ?_ | refine blk_alloc ?_ _)); refine blk_far ?_ NB347_357.out _; (with_reducible repeat (first | refine blk_drewN ?_ _ | refine blk_drew ?_ | refine blk_alloc ?_ _)); refine blk_far ?_ NB347_356.out _; (with_reducible repeat (first | refine blk_drewN ?_ _ | refine blk_drew ?_ | refine blk_alloc ?_ _)); refine blk_far ?_ NB347_356.out _; (with_reducible repeat (first | refine blk_drewN ?_ _ | refine blk_drew ?_ | refine blk_alloc ?_ _)); exact BK347.out) hb); have n5_ := Aside0.mk (blk_below (g := gb348) (o := .cells #[.int .i64 t345, .int .i64 t346] 36 (0, 0)) (by (with_reducible repeat (first | refine blk_drewN ?_ _ | refine blk_drew ?_ | refine blk_alloc ?_ _)); refine blk_far ?_ NB348_357.out _; (with_reducible repeat (first | refine blk_drewN ?_ _ | refine blk_drew ?_ | refine blk_alloc ?_ _)); refine blk_far ?_ NB348_357.out _; (with_reducible repeat (first | refine blk_drewN ?_ _ | refine blk_drew ?_ | refine blk_alloc ?_ _)); refine blk_far ?_ NB348_356.out _; (with_reducible repeat (first | refine blk_drewN ?_ _ | refine blk_drew ?_ | refine blk_alloc ?_ _)); refine blk_far ?_ NB348_356.out _; (with_reducible repeat (first | refine blk_drewN ?_ _ | refine blk_drew ?_ | refine blk_alloc ?_ _)); exact BK348.out) hb); have n6_ := Aside0.mk (blk_below (g := gb356) (o := .cells #[.int .i64 t352, .int .i64 t353] 23 (0, 0)) (by (with_reducible repeat (first | refine blk_drewN ?_ _ | refine blk_drew ?_ | refine blk_alloc ?_ _)); refine blk_far ?_ NB356_357.out _; (with_reducible repeat (first | refine blk_drewN ?_ _ | refine blk_drew ?_ | refine blk_alloc ?_ _)); refine blk_far ?_ NB356_357.out _; (with_reducible repeat (first | refine blk_drewN ?_ _ | refine blk_drew ?_ | refine blk_alloc ?_ _)); refine blk_put (cs := #[.int .i64 t352, .int .i64 0]) ?_ 1 _ rfl; (with_reducible repeat (first | refine blk_drewN ?_ _ | refine blk_drew ?_ | refine blk_alloc ?_ _)); refine blk_put (cs := #[.int .i64 0, .int .i64 0]) ?_ 0 _ rfl; (with_reducible repeat (first | refine blk_drewN ?_ _ | refine blk_drew ?_ | refine blk_alloc ?_ _)); exact BK356.out) hb); have n7_ := Aside0.mk (blk_below (g := gb357) (o := .cells #[.int .i64 t354, .int .i64 t355] 36 (0, 0)) (by (with_reducible repeat (first | refine blk_drewN ?_ _ | refine blk_drew ?_ | refine blk_alloc ?_ _)); refine blk_put (cs := #[.int .i64 t354, .int .i64 0]) ?_ 1 _ rfl; (with_reducible repeat (first | refine blk_drewN ?_ _ | refine blk_drew ?_ | refine blk_alloc ?_ _)); refine blk_put (cs := #[.int .i64 0, .int .i64 0]) ?_ 0 _ rfl; (with_reducible repeat (first | refine blk_drewN ?_ _ | refine blk_drew ?_ | refine blk_alloc ?_ _)); refine blk_far ?_ NB357_356.out _; (with_reducible repeat (first | refine blk_drewN ?_ _ | refine blk_drew ?_ | refine blk_alloc ?_ _)); refine blk_far ?_ NB357_356.out _; (with_reducible repeat (first | refine blk_drewN ?_ _ | refine blk_drew ?_ | refine blk_alloc ?_ _)); exact BK357.out) hb); have n8_ := Aside0.mk (below_step (by repeat (first | (with_reducible first | exact HB.out | apply below_alloc | apply pw_below_drewN | apply below_drew1 | refine below_set ?_ GE327.out | refine below_set ?_ GE333.out | refine below_set ?_ GE347.out | refine below_set ?_ GE348.out | refine below_set ?_ GE356.out | refine below_set ?_ GE357.out) | exact HB.out)) hb); clear HO351; clear BK327; clear BK333; clear BK347; clear BK348; clear BK356; clear BK357; clear HB; have HO351 := n0_; have HO360 := n1_; have BK327 := n2_; have BK333 := n3_; have BK347 := n4_; have BK348 := n5_; have BK356 := n6_; have BK357 := n7_; have HB := n8_; clear n0_ n1_ n2_ n3_ n4_ n5_ n6_ n7_ n8_; clear hb ho69; obtain ⟨Ao70, co70, eo70⟩ := Kd.R_slice HO360.out; subst eo70) | ((with_reducible refine gate_callee (f := 17) rfl ?_); refine goesL_ (some 51) rfl rfl Tryd.func17 (by kernel_rfl) rfl #[.slice Ao70 y358.length co70] rfl (by (try simp only [List.map_toArray, List.map_cons, List.map_nil]); first | done | rfl | (simp only [List.length_drop, List.length_take]; rfl)) ?_; (with_reducible refine (dot_Read.calls _ _ y358 t361 t362 t363 t364 _ ?side1 ?side2 A37.out).mono ?_); (case side1 => repeat (first | exact (Kd.R_reads' HO360.out).2.2 | (with_reducible refine Kd.C_alloc ?_ _) | (with_reducible refine Kd.C_drewN ?_ _) | (with_reducible refine Kd.C_drew ?_))); (case side2 => exact (Kd.R_reads' HO360.out).2.1); rintro e w71 ⟨rfl, hb⟩; refine ⟨_, rfl, ?_⟩; have n0_ := Aside0.mk (Kd.R_below (by (with_reducible repeat (first | apply Kd.R_alloc | apply Kd.R_drewN | apply Kd.R_drew)); exact HO351.out) hb); have n1_ := Aside0.mk (Kd.R_below (by (with_reducible repeat (first | apply Kd.R_alloc | apply Kd.R_drewN | apply Kd.R_drew)); exact HO360.out) hb); have n2_ := Aside0.mk (blk_below (g := gb327) (o := .cells #[.int .i64 t324, .int .i64 t325] 23 (0, 0)) (by (with_reducible repeat (first | refine blk_drewN ?_ _ | refine blk_drew ?_ | refine blk_alloc ?_ _)); exact BK327.out) hb); have n3_ := Aside0.mk (blk_below (g := gb333) (o := .cells #[.int .i64 t330, .int .i64 t331] 23 (0, 0)) (by (with_reducible repeat (first | refine blk_drewN ?_ _ | refine blk_drew ?_ | refine blk_alloc ?_ _)); exact BK333.out) hb); have n4_ := Aside0.mk (blk_below (g := gb347) (o := .cells #[.int .i64 t343, .int .i64 t344] 23 (0, 0)) (by (with_reducible repeat (first | refine blk_drewN ?_ _ | refine blk_drew ?_ | refine blk_alloc ?_ _)); exact BK347.out) hb); have n5_ := Aside0.mk (blk_below (g := gb348) (o := .cells #[.int .i64 t345, .int .i64 t346] 36 (0, 0)) (by (with_reducible repeat (first | refine blk_drewN ?_ _ | refine blk_drew ?_ | refine blk_alloc ?_ _)); exact BK348.out) hb); have n6_ := Aside0.mk (blk_below (g := gb356) (o := .cells #[.int .i64 t352, .int .i64 t353] 23 (0, 0)) (by (with_reducible repeat (first | refine blk_drewN ?_ _ | refine blk_drew ?_ | refine blk_alloc ?_ _)); exact BK356.out) hb); have n7_ := Aside0.mk (blk_below (g := gb357) (o := .cells #[.int .i64 t354, .int .i64 t355] 36 (0, 0)) (by (with_reducible repeat (first | refine blk_drewN ?_ _ | refine blk_drew ?_ | refine blk_alloc ?_ _)); exact BK357.out) hb); have n8_ := Aside0.mk (below_step (by repeat (first | (with_reducible first | exact HB.out | apply below_alloc | apply pw_below_drewN | apply below_drew1 | refine below_set ?_ GE327.out | refine below_set ?_ GE333.out | refine below_set ?_ GE347.out | refine below_set ?_ GE348.out | refine below_set ?_ GE356.out | refine below_set ?_ GE357.out) | exact HB.out)) hb); clear HO351; clear HO360; clear BK327; clear BK333; clear BK347; clear BK348; clear BK356; clear BK357; clear HB; have HO351 := n0_; have HO360 := n1_; have BK327 := n2_; have BK333 := n3_; have BK347 := n4_; have BK348 := n5_; have BK356 := n6_; have BK357 := n7_; have HB := n8_; clear n0_ n1_ n2_ n3_ n4_ n5_ n6_ n7_ n8_; (try clear hb); (try clear hb2); (try clear hk); (try clear hi)) | ((with_reducible refine gate_dst (N := 10) rfl ?_); (try (refine gate_guard (by rfl) ?_; dsimp only)); refine box_event ?hg (N := 10) ?hd (cs := #[.int .i64 0, .int .i64 0]) (t := 23) ?hr ?_; (case hd => rfl); (case hg => rfl); (case hr => first | (go_simp; done) | (go_simp; rfl)); intro gb365 hg w72 hbox hb; have n0_ := Aside0.mk (Kd.R_below (by (with_reducible repeat (first | apply Kd.R_alloc | apply Kd.R_drewN | apply Kd.R_drew)); exact HO351.out) hb); have n1_ := Aside0.mk (Kd.R_below (by (with_reducible repeat (first | apply Kd.R_alloc | apply Kd.R_drewN | apply Kd.R_drew)); exact HO360.out) hb); have n2_ := Aside0.mk (blk_below (g := gb327) (o := .cells #[.int .i64 t324, .int .i64 t325] 23 (0, 0)) (by (with_reducible repeat (first | refine blk_drewN ?_ _ | refine blk_drew ?_ | refine blk_alloc ?_ _)); exact BK327.out) hb); have n3_ := Aside0.mk (blk_below (g := gb333) (o := .cells #[.int .i64 t330, .int .i64 t331] 23 (0, 0)) (by (with_reducible repeat (first | refine blk_drewN ?_ _ | refine blk_drew ?_ | refine blk_alloc ?_ _)); exact BK333.out) hb); have n4_ := Aside0.mk (blk_below (g := gb347) (o := .cells #[.int .i64 t343, .int .i64 t344] 23 (0, 0)) (by (with_reducible repeat (first | refine blk_drewN ?_ _ | refine blk_drew ?_ | refine blk_alloc ?_ _)); exact BK347.out) hb); have n5_ := Aside0.mk (blk_below (g := gb348) (o := .cells #[.int .i64 t345, .int .i64 t346] 36 (0, 0)) (by (with_reducible repeat (first | refine blk_drewN ?_ _ | refine blk_drew ?_ | refine blk_alloc ?_ _)); exact BK348.out) hb); have n6_ := Aside0.mk (blk_below (g := gb356) (o := .cells #[.int .i64 t352, .int .i64 t353] 23 (0, 0)) (by (with_reducible repeat (first | refine blk_drewN ?_ _ | refine blk_drew ?_ | refine blk_alloc ?_ _)); exact BK356.out) hb); have n7_ := Aside0.mk (blk_below (g := gb357) (o := .cells #[.int .i64 t354, .int .i64 t355] 36 (0, 0)) (by (with_reducible repeat (first | refine blk_drewN ?_ _ | refine blk_drew ?_ | refine blk_alloc ?_ _)); exact BK357.out) hb); have n8_ := Aside0.mk (below_step (by repeat (first | (with_reducible first | exact HB.out | apply below_alloc | apply pw_below_drewN | apply below_drew1 | refine below_set ?_ GE327.out | refine below_set ?_ GE333.out | refine below_set ?_ GE347.out | refine below_set ?_ GE348.out | refine below_set ?_ GE356.out | refine below_set ?_ GE357.out) | exact HB.out)) hb); have n9_ := Aside0.mk (hbox); have n10_ := Aside0.mk ((by rw [hg]; exact (below_size (by repeat (first | (with_reducible first | exact HB.out | apply below_alloc | apply pw_below_drewN | apply below_drew1 | refine below_set ?_ GE327.out | refine below_set ?_ GE333.out | refine below_set ?_ GE347.out | refine below_set ?_ GE348.out | refine below_set ?_ GE356.out | refine below_set ?_ GE357.out) | exact HB.out))) : w.heap.size ≤ gb365)); have n11_ := Aside0.mk ((by rw [hg]; exact (below_size (by repeat (first | (with_reducible first | exact HB.out | apply below_alloc | apply pw_below_drewN | apply below_drew1 | refine below_set ?_ GE327.out | refine below_set ?_ GE333.out | refine below_set ?_ GE347.out | refine below_set ?_ GE348.out | refine below_set ?_ GE356.out | refine below_set ?_ GE357.out) | exact HB.out))) : w.heap.size ≤ gb365)); have n12_ := Aside0.mk ((by rw [hg]; exact Nat.ne_of_lt (blk_lt (g := gb327) (o := .cells #[.int .i64 t324, .int .i64 t325] 23 (0, 0)) (by (with_reducible repeat (first | refine blk_drewN ?_ _ | refine blk_drew ?_ | refine blk_alloc ?_ _)); exact BK327.out)) : gb327 ≠ gb365)); have n13_ := Aside0.mk ((by rw [hg]; exact Nat.ne_of_gt (blk_lt (g := gb327) (o := .cells #[.int .i64 t324, .int .i64 t325] 23 (0, 0)) (by (with_reducible repeat (first | refine blk_drewN ?_ _ | refine blk_drew ?_ | refine blk_alloc ?_ _)); exact BK327.out)) : gb365 ≠ gb327)); have n14_ := Aside0.mk ((by rw [hg]; exact Nat.ne_of_lt (blk_lt (g := gb333) (o := .cells #[.int .i64 t330, .int .i64 t331] 23 (0, 0)) (by (with_reducible repeat (first | refine blk_drewN ?_ _ | refine blk_drew ?_ | refine blk_alloc ?_ _)); exact BK333.out)) : gb333 ≠ gb365)); have n15_ := Aside0.mk ((by rw [hg]; exact Nat.ne_of_gt (blk_lt (g := gb333) (o := .cells #[.int .i64 t330, .int .i64 t331] 23 (0, 0)) (by (with_reducible repeat (first | refine blk_drewN ?_ _ | refine blk_drew ?_ | refine blk_alloc ?_ _)); exact BK333.out)) : gb365 ≠ gb333)); have n16_ := Aside0.mk ((by rw [hg]; exact Nat.ne_of_lt (blk_lt (g := gb347) (o := .cells #[.int .i64 t343, .int .i64 t344] 23 (0, 0)) (by (with_reducible repeat (first | refine blk_drewN ?_ _ | refine blk_drew ?_ | refine blk_alloc ?_ _)); exact BK347.out)) : gb347 ≠ gb365)); have n17_ := Aside0.mk ((by rw [hg]; exact Nat.ne_of_gt (blk_lt (g := gb347) (o := .cells #[.int .i64 t343, .int .i64 t344] 23 (0, 0)) (by (with_reducible repeat (first | refine blk_drewN ?_ _ | refine blk_drew ?_ | refine blk_alloc ?_ _)); exact BK347.out)) : gb365 ≠ gb347)); have n18_ := Aside0.mk ((by rw [hg]; exact Nat.ne_of_lt (blk_lt (g := gb348) (o := .cells #[.int .i64 t345, .int .i64 t346] 36 (0, 0)) (by (with_reducible repeat (first | refine blk_drewN ?_ _ | refine blk_drew ?_ | refine blk_alloc ?_ _)); exact BK348.out)) : gb348 ≠ gb365)); have n19_ := Aside0.mk ((by rw [hg]; exact Nat.ne_of_gt (blk_lt (g := gb348) (o := .cells #[.int .i64 t345, .int .i64 t346] 36 (0, 0)) (by (with_reducible repeat (first | refine blk_drewN ?_ _ | refine blk_drew ?_ | refine blk_alloc ?_ _)); exact BK348.out)) : gb365 ≠ gb348)); have n20_ := Aside0.mk ((by rw [hg]; exact Nat.ne_of_lt (blk_lt (g := gb356) (o := .cells #[.int .i64 t352, .int .i64 t353] 23 (0, 0)) (by (with_reducible repeat (first | refine blk_drewN ?_ _ | refine blk_drew ?_ | refine blk_alloc ?_ _)); exact BK356.out)) : gb356 ≠ gb365)); have n21_ := Aside0.mk ((by rw [hg]; exact Nat.ne_of_gt (blk_lt (g := gb356) (o := .cells #[.int .i64 t352, .int .i64 t353] 23 (0, 0)) (by (with_reducible repeat (first | refine blk_drewN ?_ _ | refine blk_drew ?_ | refine blk_alloc ?_ _)); exact BK356.out)) : gb365 ≠ gb356)); have n22_ := Aside0.mk ((by rw [hg]; exact Nat.ne_of_lt (blk_lt (g := gb357) (o := .cells #[.int .i64 t354, .int .i64 t355] 36 (0, 0)) (by (with_reducible repeat (first | refine blk_drewN ?_ _ | refine blk_drew ?_ | refine blk_alloc ?_ _)); exact BK357.out)) : gb357 ≠ gb365)); have n23_ := Aside0.mk ((by rw [hg]; exact Nat.ne_of_gt (blk_lt (g := gb357) (o := .cells #[.int .i64 t354, .int .i64 t355] 36 (0, 0)) (by (with_reducible repeat (first | refine blk_drewN ?_ _ | refine blk_drew ?_ | refine blk_alloc ?_ _)); exact BK357.out)) : gb365 ≠ gb357)); clear HO351; clear HO360; clear BK327; clear BK333; clear BK347; clear BK348; clear BK356; clear BK357; clear HB; have HO351 := n0_; have HO360 := n1_; have BK327 := n2_; have BK333 := n3_; have BK347 := n4_; have BK348 := n5_; have BK356 := n6_; have BK357 := n7_; have HB := n8_; have BK365 := n9_; have GW365 := n10_; have GE365 := n11_; have NB327_365 := n12_; have NB365_327 := n13_; have NB333_365 := n14_; have NB365_333 := n15_; have NB347_365 := n16_; have NB365_347 := n17_; have NB348_365 := n18_; have NB365_348 := n19_; have NB356_365 := n20_; have NB365_356 := n21_; have NB357_365 := n22_; have NB365_357 := n23_; clear n0_ n1_ n2_ n3_ n4_ n5_ n6_ n7_ n8_ n9_ n10_ n11_ n12_ n13_ n14_ n15_ n16_ n17_ n18_ n19_ n20_ n21_ n22_ n23_; clear hb hbox hg) | ((with_reducible refine gate_dst (N := 11) rfl ?_); (try (refine gate_guard (by rfl) ?_; dsimp only)); refine box_event ?hg (N := 11) ?hd (cs := #[.int .i64 0, .int .i64 0]) (t := 36) ?hr ?_; (case hd => rfl); (case hg => rfl); (case hr => first | (go_simp; done) | (go_simp; rfl)); intro gb366 hg w73 hbox hb; have n0_ := Aside0.mk (Kd.R_below (by (with_reducible repeat (first | apply Kd.R_alloc | apply Kd.R_drewN | apply Kd.R_drew)); exact HO351.out) hb); have n1_ := Aside0.mk (Kd.R_below (by (with_reducible repeat (first | apply Kd.R_alloc | apply Kd.R_drewN | apply Kd.R_drew)); exact HO360.out) hb); have n2_ := Aside0.mk (blk_below (g := gb327) (o := .cells #[.int .i64 t324, .int .i64 t325] 23 (0, 0)) (by (with_reducible repeat (first | refine blk_drewN ?_ _ | refine blk_drew ?_ | refine blk_alloc ?_ _)); exact BK327.out) hb); have n3_ := Aside0.mk (blk_below (g := gb333) (o := .cells #[.int .i64 t330, .int .i64 t331] 23 (0, 0)) (by (with_reducible repeat (first | refine blk_drewN ?_ _ | refine blk_drew ?_ | refine blk_alloc ?_ _)); exact BK333.out) hb); have n4_ := Aside0.mk (blk_below (g := gb347) (o := .cells #[.int .i64 t343, .int .i64 t344] 23 (0, 0)) (by (with_reducible repeat (first | refine blk_drewN ?_ _ | refine blk_drew ?_ | refine blk_alloc ?_ _)); exact BK347.out) hb); have n5_ := Aside0.mk (blk_below (g := gb348) (o := .cells #[.int .i64 t345, .int .i64 t346] 36 (0, 0)) (by (with_reducible repeat (first | refine blk_drewN ?_ _ | refine blk_drew ?_ | refine blk_alloc ?_ _)); exact BK348.out) hb); have n6_ := Aside0.mk (blk_below (g := gb356) (o := .cells #[.int .i64 t352, .int .i64 t353] 23 (0, 0)) (by (with_reducible repeat (first | refine blk_drewN ?_ _ | refine blk_drew ?_ | refine blk_alloc ?_ _)); exact BK356.out) hb); have n7_ := Aside0.mk (blk_below (g := gb357) (o := .cells #[.int .i64 t354, .int .i64 t355] 36 (0, 0)) (by (with_reducible repeat (first | refine blk_drewN ?_ _ | refine blk_drew ?_ | refine blk_alloc ?_ _)); exact BK357.out) hb); have n8_ := Aside0.mk (blk_below (g := gb365) (o := .cells #[.int .i64 0, .int .i64 0] 23 (0, 0)) (by (with_reducible repeat (first | refine blk_drewN ?_ _ | refine blk_drew ?_ | refine blk_alloc ?_ _)); exact BK365.out) hb); have n9_ := Aside0.mk (below_step (by repeat (first | (with_reducible first | exact HB.out | apply below_alloc | apply pw_below_drewN | apply below_drew1 | refine below_set ?_ GE327.out | refine below_set ?_ GE333.out | refine below_set ?_ GE347.out | refine below_set ?_ GE348.out | refine below_set ?_ GE356.out | refine below_set ?_ GE357.out | refine below_set ?_ GE365.out) | exact HB.out)) hb); have n10_ := Aside0.mk (hbox); have n11_ := Aside0.mk ((by rw [hg]; exact (below_size (by repeat (first | (with_reducible first | exact HB.out | apply below_alloc | apply pw_below_drewN | apply below_drew1 | refine below_set ?_ GE327.out | refine below_set ?_ GE333.out | refine below_set ?_ GE347.out | refine below_set ?_ GE348.out | refine below_set ?_ GE356.out | refine below_set ?_ GE357.out | refine below_set ?_ GE365.out) | exact HB.out))) : w.heap.size ≤ gb366)); have n12_ := Aside0.mk ((by rw [hg]; exact (below_size (by repeat (first | (with_reducible first | exact HB.out | apply below_alloc | apply pw_below_drewN | apply below_drew1 | refine below_set ?_ GE327.out | refine below_set ?_ GE333.out | refine below_set ?_ GE347.out | refine below_set ?_ GE348.out | refine below_set ?_ GE356.out | refine below_set ?_ GE357.out | refine below_set ?_ GE365.out) | exact HB.out))) : w.heap.size ≤ gb366)); have n13_ := Aside0.mk ((by rw [hg]; exact Nat.ne_of_lt (blk_lt (g := gb327) (o := .cells #[.int .i64 t324, .int .i64 t325] 23 (0, 0)) (by (with_reducible repeat (first | refine blk_drewN ?_ _ | refine blk_drew ?_ | refine blk_alloc ?_ _)); exact BK327.out)) : gb327 ≠ gb366)); have n14_ := Aside0.mk ((by rw [hg]; exact Nat.ne_of_gt (blk_lt (g := gb327) (o := .cells #[.int .i64 t324, .int .i64 t325] 23 (0, 0)) (by (with_reducible repeat (first | refine blk_drewN ?_ _ | refine blk_drew ?_ | refine blk_alloc ?_ _)); exact BK327.out)) : gb366 ≠ gb327)); have n15_ := Aside0.mk ((by rw [hg]; exact Nat.ne_of_lt (blk_lt (g := gb333) (o := .cells #[.int .i64 t330, .int .i64 t331] 23 (0, 0)) (by (with_reducible repeat (first | refine blk_drewN ?_ _ | refine blk_drew ?_ | refine blk_alloc ?_ _)); exact BK333.out)) : gb333 ≠ gb366)); have n16_ := Aside0.mk ((by rw [hg]; exact Nat.ne_of_gt (blk_lt (g := gb333) (o := .cells #[.int .i64 t330, .int .i64 t331] 23 (0, 0)) (by (with_reducible repeat (first | refine blk_drewN ?_ _ | refine blk_drew ?_ | refine blk_alloc ?_ _)); exact BK333.out)) : gb366 ≠ gb333)); have n17_ := Aside0.mk ((by rw [hg]; exact Nat.ne_of_lt (blk_lt (g := gb347) (o := .cells #[.int .i64 t343, .int .i64 t344] 23 (0, 0)) (by (with_reducible repeat (first | refine blk_drewN ?_ _ | refine blk_drew ?_ | refine blk_alloc ?_ _)); exact BK347.out)) : gb347 ≠ gb366)); have n18_ := Aside0.mk ((by rw [hg]; exact Nat.ne_of_gt (blk_lt (g := gb347) (o := .cells #[.int .i64 t343, .int .i64 t344] 23 (0, 0)) (by (with_reducible repeat (first | refine blk_drewN ?_ _ | refine blk_drew ?_ | refine blk_alloc ?_ _)); exact BK347.out)) : gb366 ≠ gb347)); have n19_ := Aside0.mk ((by rw [hg]; exact Nat.ne_of_lt (blk_lt (g := gb348) (o := .cells #[.int .i64 t345, .int .i64 t346] 36 (0, 0)) (by (with_reducible repeat (first | refine blk_drewN ?_ _ | refine blk_drew ?_ | refine blk_alloc ?_ _)); exact BK348.out)) : gb348 ≠ gb366)); have n20_ := Aside0.mk ((by rw [hg]; exact Nat.ne_of_gt (blk_lt (g := gb348) (o := .cells #[.int .i64 t345, .int .i64 t346] 36 (0, 0)) (by (with_reducible repeat (first | refine blk_drewN ?_ _ | refine blk_drew ?_ | refine blk_alloc ?_ _)); exact BK348.out)) : gb366 ≠ gb348)); have n21_ := Aside0.mk ((by rw [hg]; exact Nat.ne_of_lt (blk_lt (g := gb356) (o := .cells #[.int .i64 t352, .int .i64 t353] 23 (0, 0)) (by (with_reducible repeat (first | refine blk_drewN ?_ _ | refine blk_drew ?_ | refine blk_alloc ?_ _)); exact BK356.out)) : gb356 ≠ gb366)); have n22_ := Aside0.mk ((by rw [hg]; exact Nat.ne_of_gt (blk_lt (g := gb356) (o := .cells #[.int .i64 t352, .int .i64 t353] 23 (0, 0)) (by (with_reducible repeat (first | refine blk_drewN ?_ _ | refine blk_drew ?_ | refine blk_alloc ?_ _)); exact BK356.out)) : gb366 ≠ gb356)); have n23_ := Aside0.mk ((by rw [hg]; exact Nat.ne_of_lt (blk_lt (g := gb357) (o := .cells #[.int .i64 t354, .int .i64 t355] 36 (0, 0)) (by (with_reducible repeat (first | refine blk_drewN ?_ _ | refine blk_drew ?_ | refine blk_alloc ?_ _)); exact BK357.out)) : gb357 ≠ gb366)); have n24_ := Aside0.mk ((by rw [hg]; exact Nat.ne_of_gt (blk_lt (g := gb357) (o := .cells #[.int .i64 t354, .int .i64 t355] 36 (0, 0)) (by (with_reducible repeat (first | refine blk_drewN ?_ _ | refine blk_drew ?_ | refine blk_alloc ?_ _)); exact BK357.out)) : gb366 ≠ gb357)); have n25_ := Aside0.mk ((by rw [hg]; exact Nat.ne_of_lt (blk_lt (g := gb365) (o := .cells #[.int .i64 0, .int .i64 0] 23 (0, 0)) (by (with_reducible repeat (first | refine blk_drewN ?_ _ | refine blk_drew ?_ | refine blk_alloc ?_ _)); exact BK365.out)) : gb365 ≠ gb366)); have n26_ := Aside0.mk ((by rw [hg]; exact Nat.ne_of_gt (blk_lt (g := gb365) (o := .cells #[.int .i64 0, .int .i64 0] 23 (0, 0)) (by (with_reducible repeat (first | refine blk_drewN ?_ _ | refine blk_drew ?_ | refine blk_alloc ?_ _)); exact BK365.out)) : gb366 ≠ gb365)); clear HO351; clear HO360; clear BK327; clear BK333; clear BK347; clear BK348; clear BK356; clear BK357; clear BK365; clear HB; have HO351 := n0_; have HO360 := n1_; have BK327 := n2_; have BK333 := n3_; have BK347 := n4_; have BK348 := n5_; have BK356 := n6_; have BK357 := n7_; have BK365 := n8_; have HB := n9_; have BK366 := n10_; have GW366 := n11_; have GE366 := n12_; have NB327_366 := n13_; have NB366_327 := n14_; have NB333_366 := n15_; have NB366_333 := n16_; have NB347_366 := n17_; have NB366_347 := n18_; have NB348_366 := n19_; have NB366_348 := n20_; have NB356_366 := n21_; have NB366_356 := n22_; have NB357_366 := n23_; have NB366_357 := n24_; have NB365_366 := n25_; have NB366_365 := n26_; clear n0_ n1_ n2_ n3_ n4_ n5_ n6_ n7_ n8_ n9_ n10_ n11_ n12_ n13_ n14_ n15_ n16_ n17_ n18_ n19_ n20_ n21_ n22_ n23_ n24_ n25_ n26_; clear hb hbox hg; have hnb74 := NB365_327.out; have hnc74 := NB327_365.out; have hnb75 := NB365_333.out; have hnc75 := NB333_365.out; have hnb76 := NB365_347.out; have hnc76 := NB347_365.out; have hnb77 := NB365_348.out; have hnc77 := NB348_365.out; have hnb78 := NB365_356.out; have hnc78 := NB356_365.out; have hnb79 := NB365_357.out; have hnc79 := NB357_365.out; have hnb80 := NB365_366.out; have hnc80 := NB366_365.out; have hcz81_0 : w73.cell? ⟨gb365, 0, none⟩ = some (.int .i64 0) := (blk_cell BK365.out 0).trans rfl; have hcz81_1 : w73.cell? ⟨gb365, 1, none⟩ = some (.int .i64 0) := (blk_cell BK365.out 1).trans rfl; have hfz81_0 := blk_frozen BK365.out 0; have hfz81_1 := blk_frozen BK365.out 1; have hnb82 := NB366_327.out; have hnc82 := NB327_366.out; have hnb83 := NB366_333.out; have hnc83 := NB333_366.out; have hnb84 := NB366_347.out; have hnc84 := NB347_366.out; have hnb85 := NB366_348.out; have hnc85 := NB348_366.out; have hnb86 := NB366_356.out; have hnc86 := NB356_366.out; have hnb87 := NB366_357.out; have hnc87 := NB357_366.out; have hcz88_0 : w73.cell? ⟨gb366, 0, none⟩ = some (.int .i64 0) := (blk_cell BK366.out 0).trans rfl; have hcz88_1 : w73.cell? ⟨gb366, 1, none⟩ = some (.int .i64 0) := (blk_cell BK366.out 1).trans rfl; have hfz88_0 := blk_frozen BK366.out 0; have hfz88_1 := blk_frozen BK366.out 1) | ((with_reducible refine gate_callee (f := 12) rfl ?_); refine goesL_ (some 55) rfl rfl Tryd.func12 (by kernel_rfl) rfl #[.string (⟨#[51, 46]⟩ : ByteArray)] rfl (by (try simp only [List.map_toArray, List.map_cons, List.map_nil]); first | done | rfl | (simp only [List.length_drop, List.length_take]; rfl)) ?_; (with_reducible refine (dot_Parse.calls (⟨#[51, 46]⟩ : ByteArray) t367 t368 t369 _ A38.out (laid_below HLAID.out (by repeat (first | (with_reducible first | exact HB.out | apply below_alloc | apply pw_below_drewN | apply below_drew1 | refine below_set ?_ GE327.out | refine below_set ?_ GE333.out | refine below_set ?_ GE347.out | refine below_set ?_ GE348.out | refine below_set ?_ GE356.out | refine below_set ?_ GE357.out | refine below_set ?_ GE365.out | refine below_set ?_ GE366.out) | exact HB.out)))).mono ?_); rintro e w89 ⟨rfl, hb⟩; refine ⟨_, rfl, ?_⟩; have n0_ := Aside0.mk (Kd.R_below (by (with_reducible repeat (first | apply Kd.R_alloc | apply Kd.R_drewN | apply Kd.R_drew)); exact (Kd.R_mono (Kd.R_mono (Kd.R_far (p := ⟨gb366, 1, none⟩) (Kd.R_far (p := ⟨gb366, 0, none⟩) (Kd.R_far (p := ⟨gb365, 1, none⟩) (Kd.R_far (p := ⟨gb365, 0, none⟩) (Kd.R_types (Kd.R_types HO351.out BK365.out (by decide)) BK366.out (by decide)) (fun _ hk => hk.1.2) (.int .i64 t361)) (fun _ hk => hk.1.2) (.int .i64 t362)) (fun _ hk => hk.2) (.int .i64 t363)) (fun _ hk => hk.2) (.int .i64 t364)) (fun _ h_ => h_.1)) (fun _ h_ => h_.1))) hb); have n1_ := Aside0.mk (Kd.R_below (by (with_reducible repeat (first | apply Kd.R_alloc | apply Kd.R_drewN | apply Kd.R_drew)); exact (Kd.R_mono (Kd.R_mono (Kd.R_far (p := ⟨gb366, 1, none⟩) (Kd.R_far (p := ⟨gb366, 0, none⟩) (Kd.R_far (p := ⟨gb365, 1, none⟩) (Kd.R_far (p := ⟨gb365, 0, none⟩) (Kd.R_types (Kd.R_types HO360.out BK365.out (by decide)) BK366.out (by decide)) (fun _ hk => hk.1.2) (.int .i64 t361)) (fun _ hk => hk.1.2) (.int .i64 t362)) (fun _ hk => hk.2) (.int .i64 t363)) (fun _ hk => hk.2) (.int .i64 t364)) (fun _ h_ => h_.1)) (fun _ h_ => h_.1))) hb); have n2_ := Aside0.mk (blk_below (g := gb327) (o := .cells #[.int .i64 t324, .int .i64 t325] 23 (0, 0)) (by (with_reducible repeat (first | refine blk_drewN ?_ _ | refine blk_drew ?_ | refine blk_alloc ?_ _)); refine blk_far ?_ NB327_366.out _; (with_reducible repeat (first | refine blk_drewN ?_ _ | refine blk_drew ?_ | refine blk_alloc ?_ _)); refine blk_far ?_ NB327_366.out _; (with_reducible repeat (first | refine blk_drewN ?_ _ | refine blk_drew ?_ | refine blk_alloc ?_ _)); refine blk_far ?_ NB327_365.out _; (with_reducible repeat (first | refine blk_drewN ?_ _ | refine blk_drew ?_ | refine blk_alloc ?_ _)); refine blk_far ?_ NB327_365.out _; (with_reducible repeat (first | refine blk_drewN ?_ _ | refine blk_drew ?_ | refine blk_alloc ?_ _)); exact BK327.out) hb); have n3_ := Aside0.mk (blk_below (g := gb333) (o := .cells #[.int .i64 t330, .int .i64 t331] 23 (0, 0)) (by (with_reducible repeat (first | refine blk_drewN ?_ _ | refine blk_drew ?_ | refine blk_alloc ?_ _)); refine blk_far ?_ NB333_366.out _; (with_reducible repeat (first | refine blk_drewN ?_ _ | refine blk_drew ?_ | refine blk_alloc ?_ _)); refine blk_far ?_ NB333_366.out _; (with_reducible repeat (first | refine blk_drewN ?_ _ | refine blk_drew ?_ | refine blk_alloc ?_ _)); refine blk_far ?_ NB333_365.out _; (with_reducible repeat (first | refine blk_drewN ?_ _ | refine blk_drew ?_ | refine blk_alloc ?_ _)); refine blk_far ?_ NB333_365.out _; (with_reducible repeat (first | refine blk_drewN ?_ _ | refine blk_drew ?_ | refine blk_alloc ?_ _)); exact BK333.out) hb); have n4_ := Aside0.mk (blk_below (g := gb347) (o := .cells #[.int .i64 t343, .int .i64 t344] 23 (0, 0)) (by (with_reducible repeat (first | refine blk_drewN ?_ _ | refine blk_drew ?_ | refine blk_alloc ?_ _)); refine blk_far ?_ NB347_366.out _; (with_reducible repeat (first | refine blk_drewN ?_ _ | refine blk_drew ?_ | refine blk_alloc ?_ _)); refine blk_far ?_ NB347_366.out _; (with_reducible repeat (first | refine blk_drewN ?_ _ | refine blk_drew ?_ | refine blk_alloc ?_ _)); refine blk_far ?_ NB347_365.out _; (with_reducible repeat (first | refine blk_drewN ?_ _ | refine blk_drew ?_ | refine blk_alloc ?_ _)); refine blk_far ?_ NB347_365.out _; (with_reducible repeat (first | refine blk_drewN ?_ _ | refine blk_drew ?_ | refine blk_alloc ?_ _)); exact BK347.out) hb); have n5_ := Aside0.mk (blk_below (g := gb348) (o := .cells #[.int .i64 t345, .int .i64 t346] 36 (0, 0)) (by (with_reducible repeat (first | refine blk_drewN ?_ _ | refine blk_drew ?_ | refine blk_alloc ?_ _)); refine blk_far ?_ NB348_366.out _; (with_reducible repeat (first | refine blk_drewN ?_ _ | refine blk_drew ?_ | refine blk_alloc ?_ _)); refine blk_far ?_ NB348_366.out _; (with_reducible repeat (first | refine blk_drewN ?_ _ | refine blk_drew ?_ | refine blk_alloc ?_ _)); refine blk_far ?_ NB348_365.out _; (with_reducible repeat (first | refine blk_drewN ?_ _ | refine blk_drew ?_ | refine blk_alloc ?_ _)); refine blk_far ?_ NB348_365.out _; (with_reducible repeat (first | refine blk_drewN ?_ _ | refine blk_drew ?_ | refine blk_alloc ?_ _)); exact BK348.out) hb); have n6_ := Aside0.mk (blk_below (g := gb356) (o := .cells #[.int .i64 t352, .int .i64 t353] 23 (0, 0)) (by (with_reducible repeat (first | refine blk_drewN ?_ _ | refine blk_drew ?_ | refine blk_alloc ?_ _)); refine blk_far ?_ NB356_366.out _; (with_reducible repeat (first | refine blk_drewN ?_ _ | refine blk_drew ?_ | refine blk_alloc ?_ _)); refine blk_far ?_ NB356_366.out _; (with_reducible repeat (first | refine blk_drewN ?_ _ | refine blk_drew ?_ | refine blk_alloc ?_ _)); refine blk_far ?_ NB356_365.out _; (with_reducible repeat (first | refine blk_drewN ?_ _ | refine blk_drew ?_ | refine blk_alloc ?_ _)); refine blk_far ?_ NB356_365.out _; (with_reducible repeat (first | refine blk_drewN ?_ _ | refine blk_drew ?_ | refine blk_alloc ?_ _)); exact BK356.out) hb); have n7_ := Aside0.mk (blk_below (g := gb357) (o := .cells #[.int .i64 t354, .int .i64 t355] 36 (0, 0)) (by (with_reducible repeat (first | refine blk_drewN ?_ _ | refine blk_drew ?_ | refine blk_alloc ?_ _)); refine blk_far ?_ NB357_366.out _; (with_reducible repeat (first | refine blk_drewN ?_ _ | refine blk_drew ?_ | refine blk_alloc ?_ _)); refine blk_far ?_ NB357_366.out _; (with_reducible repeat (first | refine blk_drewN ?_ _ | refine blk_drew ?_ | refine blk_alloc ?_ _)); refine blk_far ?_ NB357_365.out _; (with_reducible repeat (first | refine blk_drewN ?_ _ | refine blk_drew ?_ | refine blk_alloc ?_ _)); refine blk_far ?_ NB357_365.out _; (with_reducible repeat (first | refine blk_drewN ?_ _ | refine blk_drew ?_ | refine blk_alloc ?_ _)); exact BK357.out) hb); have n8_ := Aside0.mk (blk_below (g := gb365) (o := .cells #[.int .i64 t361, .int .i64 t362] 23 (0, 0)) (by (with_reducible repeat (first | refine blk_drewN ?_ _ | refine blk_drew ?_ | refine blk_alloc ?_ _)); refine blk_far ?_ NB365_366.out _; (with_reducible repeat (first | refine blk_drewN ?_ _ | refine blk_drew ?_ | refine blk_alloc ?_ _)); refine blk_far ?_ NB365_366.out _; (with_reducible repeat (first | refine blk_drewN ?_ _ | refine blk_drew ?_ | refine blk_alloc ?_ _)); refine blk_put (cs := #[.int .i64 t361, .int .i64 0]) ?_ 1 _ rfl; (with_reducible repeat (first | refine blk_drewN ?_ _ | refine blk_drew ?_ | refine blk_alloc ?_ _)); refine blk_put (cs := #[.int .i64 0, .int .i64 0]) ?_ 0 _ rfl; (with_reducible repeat (first | refine blk_drewN ?_ _ | refine blk_drew ?_ | refine blk_alloc ?_ _)); exact BK365.out) hb); have n9_ := Aside0.mk (blk_below (g := gb366) (o := .cells #[.int .i64 t363, .int .i64 t364] 36 (0, 0)) (by (with_reducible repeat (first | refine blk_drewN ?_ _ | refine blk_drew ?_ | refine blk_alloc ?_ _)); refine blk_put (cs := #[.int .i64 t363, .int .i64 0]) ?_ 1 _ rfl; (with_reducible repeat (first | refine blk_drewN ?_ _ | refine blk_drew ?_ | refine blk_alloc ?_ _)); refine blk_put (cs := #[.int .i64 0, .int .i64 0]) ?_ 0 _ rfl; (with_reducible repeat (first | refine blk_drewN ?_ _ | refine blk_drew ?_ | refine blk_alloc ?_ _)); refine blk_far ?_ NB366_365.out _; (with_reducible repeat (first | refine blk_drewN ?_ _ | refine blk_drew ?_ | refine blk_alloc ?_ _)); refine blk_far ?_ NB366_365.out _; (with_reducible repeat (first | refine blk_drewN ?_ _ | refine blk_drew ?_ | refine blk_alloc ?_ _)); exact BK366.out) hb); have n10_ := Aside0.mk (below_step (by repeat (first | (with_reducible first | exact HB.out | apply below_alloc | apply pw_below_drewN | apply below_drew1 | refine below_set ?_ GE327.out | refine below_set ?_ GE333.out | refine below_set ?_ GE347.out | refine below_set ?_ GE348.out | refine below_set ?_ GE356.out | refine below_set ?_ GE357.out | refine below_set ?_ GE365.out | refine below_set ?_ GE366.out) | exact HB.out)) hb); clear HO351; clear HO360; clear BK327; clear BK333; clear BK347; clear BK348; clear BK356; clear BK357; clear BK365; clear BK366; clear HB; have HO351 := n0_; have HO360 := n1_; have BK327 := n2_; have BK333 := n3_; have BK347 := n4_; have BK348 := n5_; have BK356 := n6_; have BK357 := n7_; have BK365 := n8_; have BK366 := n9_; have HB := n10_; clear n0_ n1_ n2_ n3_ n4_ n5_ n6_ n7_ n8_ n9_ n10_; (try clear hb); (try clear hb2); (try clear hk); (try clear hi)) | ((with_reducible refine gate_dst (N := 12) rfl ?_); (try (refine gate_guard (by rfl) ?_; dsimp only)); refine box_event ?hg (N := 12) ?hd (cs := #[.int .i64 0, .int .i64 0]) (t := 23) ?hr ?_; (case hd => rfl); (case hg => rfl); (case hr => first | (go_simp; done) | (go_simp; rfl)); intro gb370 hg w90 hbox hb; have n0_ := Aside0.mk (Kd.R_below (by (with_reducible repeat (first | apply Kd.R_alloc | apply Kd.R_drewN | apply Kd.R_drew)); exact HO351.out) hb); have n1_ := Aside0.mk (Kd.R_below (by (with_reducible repeat (first | apply Kd.R_alloc | apply Kd.R_drewN | apply Kd.R_drew)); exact HO360.out) hb); have n2_ := Aside0.mk (blk_below (g := gb327) (o := .cells #[.int .i64 t324, .int .i64 t325] 23 (0, 0)) (by (with_reducible repeat (first | refine blk_drewN ?_ _ | refine blk_drew ?_ | refine blk_alloc ?_ _)); exact BK327.out) hb); have n3_ := Aside0.mk (blk_below (g := gb333) (o := .cells #[.int .i64 t330, .int .i64 t331] 23 (0, 0)) (by (with_reducible repeat (first | refine blk_drewN ?_ _ | refine blk_drew ?_ | refine blk_alloc ?_ _)); exact BK333.out) hb); have n4_ := Aside0.mk (blk_below (g := gb347) (o := .cells #[.int .i64 t343, .int .i64 t344] 23 (0, 0)) (by (with_reducible repeat (first | refine blk_drewN ?_ _ | refine blk_drew ?_ | refine blk_alloc ?_ _)); exact BK347.out) hb); have n5_ := Aside0.mk (blk_below (g := gb348) (o := .cells #[.int .i64 t345, .int .i64 t346] 36 (0, 0)) (by (with_reducible repeat (first | refine blk_drewN ?_ _ | refine blk_drew ?_ | refine blk_alloc ?_ _)); exact BK348.out) hb); have n6_ := Aside0.mk (blk_below (g := gb356) (o := .cells #[.int .i64 t352, .int .i64 t353] 23 (0, 0)) (by (with_reducible repeat (first | refine blk_drewN ?_ _ | refine blk_drew ?_ | refine blk_alloc ?_ _)); exact BK356.out) hb); have n7_ := Aside0.mk (blk_below (g := gb357) (o := .cells #[.int .i64 t354, .int .i64 t355] 36 (0, 0)) (by (with_reducible repeat (first | refine blk_drewN ?_ _ | refine blk_drew ?_ | refine blk_alloc ?_ _)); exact BK357.out) hb); have n8_ := Aside0.mk (blk_below (g := gb365) (o := .cells #[.int .i64 t361, .int .i64 t362] 23 (0, 0)) (by (with_reducible repeat (first | refine blk_drewN ?_ _ | refine blk_drew ?_ | refine blk_alloc ?_ _)); exact BK365.out) hb); have n9_ := Aside0.mk (blk_below (g := gb366) (o := .cells #[.int .i64 t363, .int .i64 t364] 36 (0, 0)) (by (with_reducible repeat (first | refine blk_drewN ?_ _ | refine blk_drew ?_ | refine blk_alloc ?_ _)); exact BK366.out) hb); have n10_ := Aside0.mk (below_step (by repeat (first | (with_reducible first | exact HB.out | apply below_alloc | apply pw_below_drewN | apply below_drew1 | refine below_set ?_ GE327.out | refine below_set ?_ GE333.out | refine below_set ?_ GE347.out | refine below_set ?_ GE348.out | refine below_set ?_ GE356.out | refine below_set ?_ GE357.out | refine below_set ?_ GE365.out | refine below_set ?_ GE366.out) | exact HB.out)) hb); have n11_ := Aside0.mk (hbox); have n12_ := Aside0.mk ((by rw [hg]; exact (below_size (by repeat (first | (with_reducible first | exact HB.out | apply below_alloc | apply pw_below_drewN | apply below_drew1 | refine below_set ?_ GE327.out | refine below_set ?_ GE333.out | refine below_set ?_ GE347.out | refine below_set ?_ GE348.out | refine below_set ?_ GE356.out | refine below_set ?_ GE357.out | refine below_set ?_ GE365.out | refine below_set ?_ GE366.out) | exact HB.out))) : w.heap.size ≤ gb370)); have n13_ := Aside0.mk ((by rw [hg]; exact (below_size (by repeat (first | (with_reducible first | exact HB.out | apply below_alloc | apply pw_below_drewN | apply below_drew1 | refine below_set ?_ GE327.out | refine below_set ?_ GE333.out | refine below_set ?_ GE347.out | refine below_set ?_ GE348.out | refine below_set ?_ GE356.out | refine below_set ?_ GE357.out | refine below_set ?_ GE365.out | refine below_set ?_ GE366.out) | exact HB.out))) : w.heap.size ≤ gb370)); have n14_ := Aside0.mk ((by rw [hg]; exact Nat.ne_of_lt (blk_lt (g := gb327) (o := .cells #[.int .i64 t324, .int .i64 t325] 23 (0, 0)) (by (with_reducible repeat (first | refine blk_drewN ?_ _ | refine blk_drew ?_ | refine blk_alloc ?_ _)); exact BK327.out)) : gb327 ≠ gb370)); have n15_ := Aside0.mk ((by rw [hg]; exact Nat.ne_of_gt (blk_lt (g := gb327) (o := .cells #[.int .i64 t324, .int .i64 t325] 23 (0, 0)) (by (with_reducible repeat (first | refine blk_drewN ?_ _ | refine blk_drew ?_ | refine blk_alloc ?_ _)); exact BK327.out)) : gb370 ≠ gb327)); have n16_ := Aside0.mk ((by rw [hg]; exact Nat.ne_of_lt (blk_lt (g := gb333) (o := .cells #[.int .i64 t330, .int .i64 t331] 23 (0, 0)) (by (with_reducible repeat (first | refine blk_drewN ?_ _ | refine blk_drew ?_ | refine blk_alloc ?_ _)); exact BK333.out)) : gb333 ≠ gb370)); have n17_ := Aside0.mk ((by rw [hg]; exact Nat.ne_of_gt (blk_lt (g := gb333) (o := .cells #[.int .i64 t330, .int .i64 t331] 23 (0, 0)) (by (with_reducible repeat (first | refine blk_drewN ?_ _ | refine blk_drew ?_ | refine blk_alloc ?_ _)); exact BK333.out)) : gb370 ≠ gb333)); have n18_ := Aside0.mk ((by rw [hg]; exact Nat.ne_of_lt (blk_lt (g := gb347) (o := .cells #[.int .i64 t343, .int .i64 t344] 23 (0, 0)) (by (with_reducible repeat (first | refine blk_drewN ?_ _ | refine blk_drew ?_ | refine blk_alloc ?_ _)); exact BK347.out)) : gb347 ≠ gb370)); have n19_ := Aside0.mk ((by rw [hg]; exact Nat.ne_of_gt (blk_lt (g := gb347) (o := .cells #[.int .i64 t343, .int .i64 t344] 23 (0, 0)) (by (with_reducible repeat (first | refine blk_drewN ?_ _ | refine blk_drew ?_ | refine blk_alloc ?_ _)); exact BK347.out)) : gb370 ≠ gb347)); have n20_ := Aside0.mk ((by rw [hg]; exact Nat.ne_of_lt (blk_lt (g := gb348) (o := .cells #[.int .i64 t345, .int .i64 t346] 36 (0, 0)) (by (with_reducible repeat (first | refine blk_drewN ?_ _ | refine blk_drew ?_ | refine blk_alloc ?_ _)); exact BK348.out)) : gb348 ≠ gb370)); have n21_ := Aside0.mk ((by rw [hg]; exact Nat.ne_of_gt (blk_lt (g := gb348) (o := .cells #[.int .i64 t345, .int .i64 t346] 36 (0, 0)) (by (with_reducible repeat (first | refine blk_drewN ?_ _ | refine blk_drew ?_ | refine blk_alloc ?_ _)); exact BK348.out)) : gb370 ≠ gb348)); have n22_ := Aside0.mk ((by rw [hg]; exact Nat.ne_of_lt (blk_lt (g := gb356) (o := .cells #[.int .i64 t352, .int .i64 t353] 23 (0, 0)) (by (with_reducible repeat (first | refine blk_drewN ?_ _ | refine blk_drew ?_ | refine blk_alloc ?_ _)); exact BK356.out)) : gb356 ≠ gb370)); have n23_ := Aside0.mk ((by rw [hg]; exact Nat.ne_of_gt (blk_lt (g := gb356) (o := .cells #[.int .i64 t352, .int .i64 t353] 23 (0, 0)) (by (with_reducible repeat (first | refine blk_drewN ?_ _ | refine blk_drew ?_ | refine blk_alloc ?_ _)); exact BK356.out)) : gb370 ≠ gb356)); have n24_ := Aside0.mk ((by rw [hg]; exact Nat.ne_of_lt (blk_lt (g := gb357) (o := .cells #[.int .i64 t354, .int .i64 t355] 36 (0, 0)) (by (with_reducible repeat (first | refine blk_drewN ?_ _ | refine blk_drew ?_ | refine blk_alloc ?_ _)); exact BK357.out)) : gb357 ≠ gb370)); have n25_ := Aside0.mk ((by rw [hg]; exact Nat.ne_of_gt (blk_lt (g := gb357) (o := .cells #[.int .i64 t354, .int .i64 t355] 36 (0, 0)) (by (with_reducible repeat (first | refine blk_drewN ?_ _ | refine blk_drew ?_ | refine blk_alloc ?_ _)); exact BK357.out)) : gb370 ≠ gb357)); have n26_ := Aside0.mk ((by rw [hg]; exact Nat.ne_of_lt (blk_lt (g := gb365) (o := .cells #[.int .i64 t361, .int .i64 t362] 23 (0, 0)) (by (with_reducible repeat (first | refine blk_drewN ?_ _ | refine blk_drew ?_ | refine blk_alloc ?_ _)); exact BK365.out)) : gb365 ≠ gb370)); have n27_ := Aside0.mk ((by rw [hg]; exact Nat.ne_of_gt (blk_lt (g := gb365) (o := .cells #[.int .i64 t361, .int .i64 t362] 23 (0, 0)) (by (with_reducible repeat (first | refine blk_drewN ?_ _ | refine blk_drew ?_ | refine blk_alloc ?_ _)); exact BK365.out)) : gb370 ≠ gb365)); have n28_ := Aside0.mk ((by rw [hg]; exact Nat.ne_of_lt (blk_lt (g := gb366) (o := .cells #[.int .i64 t363, .int .i64 t364] 36 (0, 0)) (by (with_reducible repeat (first | refine blk_drewN ?_ _ | refine blk_drew ?_ | refine blk_alloc ?_ _)); exact BK366.out)) : gb366 ≠ gb370)); have n29_ := Aside0.mk ((by rw [hg]; exact Nat.ne_of_gt (blk_lt (g := gb366) (o := .cells #[.int .i64 t363, .int .i64 t364] 36 (0, 0)) (by (with_reducible repeat (first | refine blk_drewN ?_ _ | refine blk_drew ?_ | refine blk_alloc ?_ _)); exact BK366.out)) : gb370 ≠ gb366)); clear HO351; clear HO360; clear BK327; clear BK333; clear BK347; clear BK348; clear BK356; clear BK357; clear BK365; clear BK366; clear HB; have HO351 := n0_; have HO360 := n1_; have BK327 := n2_; have BK333 := n3_; have BK347 := n4_; have BK348 := n5_; have BK356 := n6_; have BK357 := n7_; have BK365 := n8_; have BK366 := n9_; have HB := n10_; have BK370 := n11_; have GW370 := n12_; have GE370 := n13_; have NB327_370 := n14_; have NB370_327 := n15_; have NB333_370 := n16_; have NB370_333 := n17_; have NB347_370 := n18_; have NB370_347 := n19_; have NB348_370 := n20_; have NB370_348 := n21_; have NB356_370 := n22_; have NB370_356 := n23_; have NB357_370 := n24_; have NB370_357 := n25_; have NB365_370 := n26_; have NB370_365 := n27_; have NB366_370 := n28_; have NB370_366 := n29_; clear n0_ n1_ n2_ n3_ n4_ n5_ n6_ n7_ n8_ n9_ n10_ n11_ n12_ n13_ n14_ n15_ n16_ n17_ n18_ n19_ n20_ n21_ n22_ n23_ n24_ n25_ n26_ n27_ n28_ n29_; clear hb hbox hg; have hnb91 := NB370_327.out; have hnc91 := NB327_370.out; have hnb92 := NB370_333.out; have hnc92 := NB333_370.out; have hnb93 := NB370_347.out; have hnc93 := NB347_370.out; have hnb94 := NB370_348.out; have hnc94 := NB348_370.out; have hnb95 := NB370_356.out; have hnc95 := NB356_370.out; have hnb96 := NB370_357.out; have hnc96 := NB357_370.out; have hnb97 := NB370_365.out; have hnc97 := NB365_370.out; have hnb98 := NB370_366.out; have hnc98 := NB366_370.out; have hcz99_0 : w90.cell? ⟨gb370, 0, none⟩ = some (.int .i64 0) := (blk_cell BK370.out 0).trans rfl; have hcz99_1 : w90.cell? ⟨gb370, 1, none⟩ = some (.int .i64 0) := (blk_cell BK370.out 1).trans rfl; have hfz99_0 := blk_frozen BK370.out 0; have hfz99_1 := blk_frozen BK370.out 1) | ((with_reducible refine gate_callee (f := 12) rfl ?_); refine goesL_ (some 59) rfl rfl Tryd.func12 (by kernel_rfl) rfl #[.string (⟨#[48, 51, 46, 49]⟩ : ByteArray)] rfl (by (try simp only [List.map_toArray, List.map_cons, List.map_nil]); first | done | rfl | (simp only [List.length_drop, List.length_take]; rfl)) ?_; (with_reducible refine (dot_Parse.calls (⟨#[48, 51, 46, 49]⟩ : ByteArray) t371 t372 t373 _ A39.out (laid_below HLAID.out (by repeat (first | (with_reducible first | exact HB.out | apply below_alloc | apply pw_below_drewN | apply below_drew1 | refine below_set ?_ GE327.out | refine below_set ?_ GE333.out | refine below_set ?_ GE347.out | refine below_set ?_ GE348.out | refine below_set ?_ GE356.out | refine below_set ?_ GE357.out | refine below_set ?_ GE365.out | refine below_set ?_ GE366.out | refine below_set ?_ GE370.out) | exact HB.out)))).mono ?_); rintro e w100 ⟨rfl, hb⟩; refine ⟨_, rfl, ?_⟩; have n0_ := Aside0.mk (Kd.R_below (by (with_reducible repeat (first | apply Kd.R_alloc | apply Kd.R_drewN | apply Kd.R_drew)); exact (Kd.R_mono (Kd.R_far (p := ⟨gb370, 1, none⟩) (Kd.R_far (p := ⟨gb370, 0, none⟩) (Kd.R_types HO351.out BK370.out (by decide)) (fun _ hk => hk.2) (.int .i64 t367)) (fun _ hk => hk.2) (.int .i64 t368)) (fun _ h_ => h_.1))) hb); have n1_ := Aside0.mk (Kd.R_below (by (with_reducible repeat (first | apply Kd.R_alloc | apply Kd.R_drewN | apply Kd.R_drew)); exact (Kd.R_mono (Kd.R_far (p := ⟨gb370, 1, none⟩) (Kd.R_far (p := ⟨gb370, 0, none⟩) (Kd.R_types HO360.out BK370.out (by decide)) (fun _ hk => hk.2) (.int .i64 t367)) (fun _ hk => hk.2) (.int .i64 t368)) (fun _ h_ => h_.1))) hb); have n2_ := Aside0.mk (blk_below (g := gb327) (o := .cells #[.int .i64 t324, .int .i64 t325] 23 (0, 0)) (by (with_reducible repeat (first | refine blk_drewN ?_ _ | refine blk_drew ?_ | refine blk_alloc ?_ _)); refine blk_far ?_ NB327_370.out _; (with_reducible repeat (first | refine blk_drewN ?_ _ | refine blk_drew ?_ | refine blk_alloc ?_ _)); refine blk_far ?_ NB327_370.out _; (with_reducible repeat (first | refine blk_drewN ?_ _ | refine blk_drew ?_ | refine blk_alloc ?_ _)); exact BK327.out) hb); have n3_ := Aside0.mk (blk_below (g := gb333) (o := .cells #[.int .i64 t330, .int .i64 t331] 23 (0, 0)) (by (with_reducible repeat (first | refine blk_drewN ?_ _ | refine blk_drew ?_ | refine blk_alloc ?_ _)); refine blk_far ?_ NB333_370.out _; (with_reducible repeat (first | refine blk_drewN ?_ _ | refine blk_drew ?_ | refine blk_alloc ?_ _)); refine blk_far ?_ NB333_370.out _; (with_reducible repeat (first | refine blk_drewN ?_ _ | refine blk_drew ?_ | refine blk_alloc ?_ _)); exact BK333.out) hb); have n4_ := Aside0.mk (blk_below (g := gb347) (o := .cells #[.int .i64 t343, .int .i64 t344] 23 (0, 0)) (by (with_reducible repeat (first | refine blk_drewN ?_ _ | refine blk_drew ?_ | refine blk_alloc ?_ _)); refine blk_far ?_ NB347_370.out _; (with_reducible repeat (first | refine blk_drewN ?_ _ | refine blk_drew ?_ | refine blk_alloc ?_ _)); refine blk_far ?_ NB347_370.out _; (with_reducible repeat (first | refine blk_drewN ?_ _ | refine blk_drew ?_ | refine blk_alloc ?_ _)); exact BK347.out) hb); have n5_ := Aside0.mk (blk_below (g := gb348) (o := .cells #[.int .i64 t345, .int .i64 t346] 36 (0, 0)) (by (with_reducible repeat (first | refine blk_drewN ?_ _ | refine blk_drew ?_ | refine blk_alloc ?_ _)); refine blk_far ?_ NB348_370.out _; (with_reducible repeat (first | refine blk_drewN ?_ _ | refine blk_drew ?_ | refine blk_alloc ?_ _)); refine blk_far ?_ NB348_370.out _; (with_reducible repeat (first | refine blk_drewN ?_ _ | refine blk_drew ?_ | refine blk_alloc ?_ _)); exact BK348.out) hb); have n6_ := Aside0.mk (blk_below (g := gb356) (o := .cells #[.int .i64 t352, .int .i64 t353] 23 (0, 0)) (by (with_reducible repeat (first | refine blk_drewN ?_ _ | refine blk_drew ?_ | refine blk_alloc ?_ _)); refine blk_far ?_ NB356_370.out _; (with_reducible repeat (first | refine blk_drewN ?_ _ | refine blk_drew ?_ | refine blk_alloc ?_ _)); refine blk_far ?_ NB356_370.out _; (with_reducible repeat (first | refine blk_drewN ?_ _ | refine blk_drew ?_ | refine blk_alloc ?_ _)); exact BK356.out) hb); have n7_ := Aside0.mk (blk_below (g := gb357) (o := .cells #[.int .i64 t354, .int .i64 t355] 36 (0, 0)) (by (with_reducible repeat (first | refine blk_drewN ?_ _ | refine blk_drew ?_ | refine blk_alloc ?_ _)); refine blk_far ?_ NB357_370.out _; (with_reducible repeat (first | refine blk_drewN ?_ _ | refine blk_drew ?_ | refine blk_alloc ?_ _)); refine blk_far ?_ NB357_370.out _; (with_reducible repeat (first | refine blk_drewN ?_ _ | refine blk_drew ?_ | refine blk_alloc ?_ _)); exact BK357.out) hb); have n8_ := Aside0.mk (blk_below (g := gb365) (o := .cells #[.int .i64 t361, .int .i64 t362] 23 (0, 0)) (by (with_reducible repeat (first | refine blk_drewN ?_ _ | refine blk_drew ?_ | refine blk_alloc ?_ _)); refine blk_far ?_ NB365_370.out _; (with_reducible repeat (first | refine blk_drewN ?_ _ | refine blk_drew ?_ | refine blk_alloc ?_ _)); refine blk_far ?_ NB365_370.out _; (with_reducible repeat (first | refine blk_drewN ?_ _ | refine blk_drew ?_ | refine blk_alloc ?_ _)); exact BK365.out) hb); have n9_ := Aside0.mk (blk_below (g := gb366) (o := .cells #[.int .i64 t363, .int .i64 t364] 36 (0, 0)) (by (with_reducible repeat (first | refine blk_drewN ?_ _ | refine blk_drew ?_ | refine blk_alloc ?_ _)); refine blk_far ?_ NB366_370.out _; (with_reducible repeat (first | refine blk_drewN ?_ _ | refine blk_drew ?_ | refine blk_alloc ?_ _)); refine blk_far ?_ NB366_370.out _; (with_reducible repeat (first | refine blk_drewN ?_ _ | refine blk_drew ?_ | refine blk_alloc ?_ _)); exact BK366.out) hb); have n10_ := Aside0.mk (blk_below (g := gb370) (o := .cells #[.int .i64 t367, .int .i64 t368] 23 (0, 0)) (by (with_reducible repeat (first | refine blk_drewN ?_ _ | refine blk_drew ?_ | refine blk_alloc ?_ _)); refine blk_put (cs := #[.int .i64 t367, .int .i64 0]) ?_ 1 _ rfl; (with_reducible repeat (first | refine blk_drewN ?_ _ | refine blk_drew ?_ | refine blk_alloc ?_ _)); refine blk_put (cs := #[.int .i64 0, .int .i64 0]) ?_ 0 _ rfl; (with_reducible repeat (first | refine blk_drewN ?_ _ | refine blk_drew ?_ | refine blk_alloc ?_ _)); exact BK370.out) hb); have n11_ := Aside0.mk (below_step (by repeat (first | (with_reducible first | exact HB.out | apply below_alloc | apply pw_below_drewN | apply below_drew1 | refine below_set ?_ GE327.out | refine below_set ?_ GE333.out | refine below_set ?_ GE347.out | refine below_set ?_ GE348.out | refine below_set ?_ GE356.out | refine below_set ?_ GE357.out | refine below_set ?_ GE365.out | refine below_set ?_ GE366.out | refine below_set ?_ GE370.out) | exact HB.out)) hb); clear HO351; clear HO360; clear BK327; clear BK333; clear BK347; clear BK348; clear BK356; clear BK357; clear BK365; clear BK366; clear BK370; clear HB; have HO351 := n0_; have HO360 := n1_; have BK327 := n2_; have BK333 := n3_; have BK347 := n4_; have BK348 := n5_; have BK356 := n6_; have BK357 := n7_; have BK365 := n8_; have BK366 := n9_; have BK370 := n10_; have HB := n11_; clear n0_ n1_ n2_ n3_ n4_ n5_ n6_ n7_ n8_ n9_ n10_ n11_; (try clear hb); (try clear hb2); (try clear hk); (try clear hi)) | ((with_reducible refine gate_dst (N := 14) rfl ?_); (try (refine gate_guard (by rfl) ?_; dsimp only)); refine box_event ?hg (N := 14) ?hd (cs := #[.int .i64 0, .int .i64 0]) (t := 23) ?hr ?_; (case hd => rfl); (case hg => rfl); (case hr => first | (go_simp; done) | (go_simp; rfl)); intro gb374 hg w101 hbox hb; have n0_ := Aside0.mk (Kd.R_below (by (with_reducible repeat (first | apply Kd.R_alloc | apply Kd.R_drewN | apply Kd.R_drew)); exact HO351.out) hb); have n1_ := Aside0.mk (Kd.R_below (by (with_reducible repeat (first | apply Kd.R_alloc | apply Kd.R_drewN | apply Kd.R_drew)); exact HO360.out) hb); have n2_ := Aside0.mk (blk_below (g := gb327) (o := .cells #[.int .i64 t324, .int .i64 t325] 23 (0, 0)) (by (with_reducible repeat (first | refine blk_drewN ?_ _ | refine blk_drew ?_ | refine blk_alloc ?_ _)); exact BK327.out) hb); have n3_ := Aside0.mk (blk_below (g := gb333) (o := .cells #[.int .i64 t330, .int .i64 t331] 23 (0, 0)) (by (with_reducible repeat (first | refine blk_drewN ?_ _ | refine blk_drew ?_ | refine blk_alloc ?_ _)); exact BK333.out) hb); have n4_ := Aside0.mk (blk_below (g := gb347) (o := .cells #[.int .i64 t343, .int .i64 t344] 23 (0, 0)) (by (with_reducible repeat (first | refine blk_drewN ?_ _ | refine blk_drew ?_ | refine blk_alloc ?_ _)); exact BK347.out) hb); have n5_ := Aside0.mk (blk_below (g := gb348) (o := .cells #[.int .i64 t345, .int .i64 t346] 36 (0, 0)) (by (with_reducible repeat (first | refine blk_drewN ?_ _ | refine blk_drew ?_ | refine blk_alloc ?_ _)); exact BK348.out) hb); have n6_ := Aside0.mk (blk_below (g := gb356) (o := .cells #[.int .i64 t352, .int .i64 t353] 23 (0, 0)) (by (with_reducible repeat (first | refine blk_drewN ?_ _ | refine blk_drew ?_ | refine blk_alloc ?_ _)); exact BK356.out) hb); have n7_ := Aside0.mk (blk_below (g := gb357) (o := .cells #[.int .i64 t354, .int .i64 t355] 36 (0, 0)) (by (with_reducible repeat (first | refine blk_drewN ?_ _ | refine blk_drew ?_ | refine blk_alloc ?_ _)); exact BK357.out) hb); have n8_ := Aside0.mk (blk_below (g := gb365) (o := .cells #[.int .i64 t361, .int .i64 t362] 23 (0, 0)) (by (with_reducible repeat (first | refine blk_drewN ?_ _ | refine blk_drew ?_ | refine blk_alloc ?_ _)); exact BK365.out) hb); have n9_ := Aside0.mk (blk_below (g := gb366) (o := .cells #[.int .i64 t363, .int .i64 t364] 36 (0, 0)) (by (with_reducible repeat (first | refine blk_drewN ?_ _ | refine blk_drew ?_ | refine blk_alloc ?_ _)); exact BK366.out) hb); have n10_ := Aside0.mk (blk_below (g := gb370) (o := .cells #[.int .i64 t367, .int .i64 t368] 23 (0, 0)) (by (with_reducible repeat (first | refine blk_drewN ?_ _ | refine blk_drew ?_ | refine blk_alloc ?_ _)); exact BK370.out) hb); have n11_ := Aside0.mk (below_step (by repeat (first | (with_reducible first | exact HB.out | apply below_alloc | apply pw_below_drewN | apply below_drew1 | refine below_set ?_ GE327.out | refine below_set ?_ GE333.out | refine below_set ?_ GE347.out | refine below_set ?_ GE348.out | refine below_set ?_ GE356.out | refine below_set ?_ GE357.out | refine below_set ?_ GE365.out | refine below_set ?_ GE366.out | refine below_set ?_ GE370.out) | exact HB.out)) hb); have n12_ := Aside0.mk (hbox); have n13_ := Aside0.mk ((by rw [hg]; exact (below_size (by repeat (first | (with_reducible first | exact HB.out | apply below_alloc | apply pw_below_drewN | apply below_drew1 | refine below_set ?_ GE327.out | refine below_set ?_ GE333.out | refine below_set ?_ GE347.out | refine below_set ?_ GE348.out | refine below_set ?_ GE356.out | refine below_set ?_ GE357.out | refine below_set ?_ GE365.out | refine below_set ?_ GE366.out | refine below_set ?_ GE370.out) | exact HB.out))) : w.heap.size ≤ gb374)); have n14_ := Aside0.mk ((by rw [hg]; exact (below_size (by repeat (first | (with_reducible first | exact HB.out | apply below_alloc | apply pw_below_drewN | apply below_drew1 | refine below_set ?_ GE327.out | refine below_set ?_ GE333.out | refine below_set ?_ GE347.out | refine below_set ?_ GE348.out | refine below_set ?_ GE356.out | refine below_set ?_ GE357.out | refine below_set ?_ GE365.out | refine below_set ?_ GE366.out | refine below_set ?_ GE370.out) | exact HB.out))) : w.heap.size ≤ gb374)); have n15_ := Aside0.mk ((by rw [hg]; exact Nat.ne_of_lt (blk_lt (g := gb327) (o := .cells #[.int .i64 t324, .int .i64 t325] 23 (0, 0)) (by (with_reducible repeat (first | refine blk_drewN ?_ _ | refine blk_drew ?_ | refine blk_alloc ?_ _)); exact BK327.out)) : gb327 ≠ gb374)); have n16_ := Aside0.mk ((by rw [hg]; exact Nat.ne_of_gt (blk_lt (g := gb327) (o := .cells #[.int .i64 t324, .int .i64 t325] 23 (0, 0)) (by (with_reducible repeat (first | refine blk_drewN ?_ _ | refine blk_drew ?_ | refine blk_alloc ?_ _)); exact BK327.out)) : gb374 ≠ gb327)); have n17_ := Aside0.mk ((by rw [hg]; exact Nat.ne_of_lt (blk_lt (g := gb333) (o := .cells #[.int .i64 t330, .int .i64 t331] 23 (0, 0)) (by (with_reducible repeat (first | refine blk_drewN ?_ _ | refine blk_drew ?_ | refine blk_alloc ?_ _)); exact BK333.out)) : gb333 ≠ gb374)); have n18_ := Aside0.mk ((by rw [hg]; exact Nat.ne_of_gt (blk_lt (g := gb333) (o := .cells #[.int .i64 t330, .int .i64 t331] 23 (0, 0)) (by (with_reducible repeat (first | refine blk_drewN ?_ _ | refine blk_drew ?_ | refine blk_alloc ?_ _)); exact BK333.out)) : gb374 ≠ gb333)); have n19_ := Aside0.mk ((by rw [hg]; exact Nat.ne_of_lt (blk_lt (g := gb347) (o := .cells #[.int .i64 t343, .int .i64 t344] 23 (0, 0)) (by (with_reducible repeat (first | refine blk_drewN ?_ _ | refine blk_drew ?_ | refine blk_alloc ?_ _)); exact BK347.out)) : gb347 ≠ gb374)); have n20_ := Aside0.mk ((by rw [hg]; exact Nat.ne_of_gt (blk_lt (g := gb347) (o := .cells #[.int .i64 t343, .int .i64 t344] 23 (0, 0)) (by (with_reducible repeat (first | refine blk_drewN ?_ _ | refine blk_drew ?_ | refine blk_alloc ?_ _)); exact BK347.out)) : gb374 ≠ gb347)); have n21_ := Aside0.mk ((by rw [hg]; exact Nat.ne_of_lt (blk_lt (g := gb348) (o := .cells #[.int .i64 t345, .int .i64 t346] 36 (0, 0)) (by (with_reducible repeat (first | refine blk_drewN ?_ _ | refine blk_drew ?_ | refine blk_alloc ?_ _)); exact BK348.out)) : gb348 ≠ gb374)); have n22_ := Aside0.mk ((by rw [hg]; exact Nat.ne_of_gt (blk_lt (g := gb348) (o := .cells #[.int .i64 t345, .int .i64 t346] 36 (0, 0)) (by (with_reducible repeat (first | refine blk_drewN ?_ _ | refine blk_drew ?_ | refine blk_alloc ?_ _)); exact BK348.out)) : gb374 ≠ gb348)); have n23_ := Aside0.mk ((by rw [hg]; exact Nat.ne_of_lt (blk_lt (g := gb356) (o := .cells #[.int .i64 t352, .int .i64 t353] 23 (0, 0)) (by (with_reducible repeat (first | refine blk_drewN ?_ _ | refine blk_drew ?_ | refine blk_alloc ?_ _)); exact BK356.out)) : gb356 ≠ gb374)); have n24_ := Aside0.mk ((by rw [hg]; exact Nat.ne_of_gt (blk_lt (g := gb356) (o := .cells #[.int .i64 t352, .int .i64 t353] 23 (0, 0)) (by (with_reducible repeat (first | refine blk_drewN ?_ _ | refine blk_drew ?_ | refine blk_alloc ?_ _)); exact BK356.out)) : gb374 ≠ gb356)); have n25_ := Aside0.mk ((by rw [hg]; exact Nat.ne_of_lt (blk_lt (g := gb357) (o := .cells #[.int .i64 t354, .int .i64 t355] 36 (0, 0)) (by (with_reducible repeat (first | refine blk_drewN ?_ _ | refine blk_drew ?_ | refine blk_alloc ?_ _)); exact BK357.out)) : gb357 ≠ gb374)); have n26_ := Aside0.mk ((by rw [hg]; exact Nat.ne_of_gt (blk_lt (g := gb357) (o := .cells #[.int .i64 t354, .int .i64 t355] 36 (0, 0)) (by (with_reducible repeat (first | refine blk_drewN ?_ _ | refine blk_drew ?_ | refine blk_alloc ?_ _)); exact BK357.out)) : gb374 ≠ gb357)); have n27_ := Aside0.mk ((by rw [hg]; exact Nat.ne_of_lt (blk_lt (g := gb365) (o := .cells #[.int .i64 t361, .int .i64 t362] 23 (0, 0)) (by (with_reducible repeat (first | refine blk_drewN ?_ _ | refine blk_drew ?_ | refine blk_alloc ?_ _)); exact BK365.out)) : gb365 ≠ gb374)); have n28_ := Aside0.mk ((by rw [hg]; exact Nat.ne_of_gt (blk_lt (g := gb365) (o := .cells #[.int .i64 t361, .int .i64 t362] 23 (0, 0)) (by (with_reducible repeat (first | refine blk_drewN ?_ _ | refine blk_drew ?_ | refine blk_alloc ?_ _)); exact BK365.out)) : gb374 ≠ gb365)); have n29_ := Aside0.mk ((by rw [hg]; exact Nat.ne_of_lt (blk_lt (g := gb366) (o := .cells #[.int .i64 t363, .int .i64 t364] 36 (0, 0)) (by (with_reducible repeat (first | refine blk_drewN ?_ _ | refine blk_drew ?_ | refine blk_alloc ?_ _)); exact BK366.out)) : gb366 ≠ gb374)); have n30_ := Aside0.mk ((by rw [hg]; exact Nat.ne_of_gt (blk_lt (g := gb366) (o := .cells #[.int .i64 t363, .int .i64 t364] 36 (0, 0)) (by (with_reducible repeat (first | refine blk_drewN ?_ _ | refine blk_drew ?_ | refine blk_alloc ?_ _)); exact BK366.out)) : gb374 ≠ gb366)); have n31_ := Aside0.mk ((by rw [hg]; exact Nat.ne_of_lt (blk_lt (g := gb370) (o := .cells #[.int .i64 t367, .int .i64 t368] 23 (0, 0)) (by (with_reducible repeat (first | refine blk_drewN ?_ _ | refine blk_drew ?_ | refine blk_alloc ?_ _)); exact BK370.out)) : gb370 ≠ gb374)); have n32_ := Aside0.mk ((by rw [hg]; exact Nat.ne_of_gt (blk_lt (g := gb370) (o := .cells #[.int .i64 t367, .int .i64 t368] 23 (0, 0)) (by (with_reducible repeat (first | refine blk_drewN ?_ _ | refine blk_drew ?_ | refine blk_alloc ?_ _)); exact BK370.out)) : gb374 ≠ gb370)); clear HO351; clear HO360; clear BK327; clear BK333; clear BK347; clear BK348; clear BK356; clear BK357; clear BK365; clear BK366; clear BK370; clear HB; have HO351 := n0_; have HO360 := n1_; have BK327 := n2_; have BK333 := n3_; have BK347 := n4_; have BK348 := n5_; have BK356 := n6_; have BK357 := n7_; have BK365 := n8_; have BK366 := n9_; have BK370 := n10_; have HB := n11_; have BK374 := n12_; have GW374 := n13_; have GE374 := n14_; have NB327_374 := n15_; have NB374_327 := n16_; have NB333_374 := n17_; have NB374_333 := n18_; have NB347_374 := n19_; have NB374_347 := n20_; have NB348_374 := n21_; have NB374_348 := n22_; have NB356_374 := n23_; have NB374_356 := n24_; have NB357_374 := n25_; have NB374_357 := n26_; have NB365_374 := n27_; have NB374_365 := n28_; have NB366_374 := n29_; have NB374_366 := n30_; have NB370_374 := n31_; have NB374_370 := n32_; clear n0_ n1_ n2_ n3_ n4_ n5_ n6_ n7_ n8_ n9_ n10_ n11_ n12_ n13_ n14_ n15_ n16_ n17_ n18_ n19_ n20_ n21_ n22_ n23_ n24_ n25_ n26_ n27_ n28_ n29_ n30_ n31_ n32_; clear hb hbox hg; have hnb102 := NB374_327.out; have hnc102 := NB327_374.out; have hnb103 := NB374_333.out; have hnc103 := NB333_374.out; have hnb104 := NB374_347.out; have hnc104 := NB347_374.out; have hnb105 := NB374_348.out; have hnc105 := NB348_374.out; have hnb106 := NB374_356.out; have hnc106 := NB356_374.out; have hnb107 := NB374_357.out; have hnc107 := NB357_374.out; have hnb108 := NB374_365.out; have hnc108 := NB365_374.out; have hnb109 := NB374_366.out; have hnc109 := NB366_374.out; have hnb110 := NB374_370.out; have hnc110 := NB370_374.out; have hcz111_0 : w101.cell? ⟨gb374, 0, none⟩ = some (.int .i64 0) := (blk_cell BK374.out 0).trans rfl; have hcz111_1 : w101.cell? ⟨gb374, 1, none⟩ = some (.int .i64 0) := (blk_cell BK374.out 1).trans rfl; have hfz111_0 := blk_frozen BK374.out 0; have hfz111_1 := blk_frozen BK374.out 1))
   (try simp only [Act.put, List.setIfInBounds_toArray, List.set_cons_zero, List.set_cons_succ])
   go_cut [16] (fun v16 wc => ∃ (kq : Nat) (x16_39 : Bool), v16 = .bool x16_39 ∧ Aside0 (tributarylaw06_DotKnown.j1 kq x5_4 t369 t373 x16_39 = some r) ∧ Aside0 (kq ≤ kj4) ∧ Aside0 (wc.heap[gb327]? = some (.cells #[.int .i64 t324, .int .i64 t325] 23 (0, 0))) ∧ Aside0 (wc.heap[gb333]? = some (.cells #[.int .i64 t330, .int .i64 t331] 23 (0, 0))) ∧ Aside0 (wc.heap[gb347]? = some (.cells #[.int .i64 t343, .int .i64 t344] 23 (0, 0))) ∧ Aside0 (wc.heap[gb348]? = some (.cells #[.int .i64 t345, .int .i64 t346] 36 (0, 0))) ∧ Aside0 (wc.heap[gb356]? = some (.cells #[.int .i64 t352, .int .i64 t353] 23 (0, 0))) ∧ Aside0 (wc.heap[gb357]? = some (.cells #[.int .i64 t354, .int .i64 t355] 36 (0, 0))) ∧ Aside0 (wc.heap[gb365]? = some (.cells #[.int .i64 t361, .int .i64 t362] 23 (0, 0))) ∧ Aside0 (wc.heap[gb366]? = some (.cells #[.int .i64 t363, .int .i64 t364] 36 (0, 0))) ∧ Aside0 (wc.heap[gb370]? = some (.cells #[.int .i64 t367, .int .i64 t368] 23 (0, 0))) ∧ Aside0 (wc.heap[gb374]? = some (.cells #[.int .i64 t371, .int .i64 t372] 23 (0, 0))) ∧ Aside0 (Below w.heap.size w wc))
   case first =>
    have H := HC40.out
    clear HC40
    by_cases c112 : t326 = 0
    ·
     rw [if_pos c112] at H
     have c112b0 : (t326 == 0) = true := beq_iff_eq.mpr c112
     have c112b1 : (t326 != 0) = false := bne_eq_false_iff_eq.mpr c112
     clear c112
     (first | rw [c112b0] | (simp only [i64_w, i32_w]; rw [c112b0]) | skip)
     replace H := Option.bind_eq_some_iff.mp H
     obtain ⟨⟨t375, t376⟩, A1130, H⟩ := H
     replace H : (if (t324 == t375 && (t325 == t376)) = true then (if t332 = 5 then (if (t345 == 4 && (t346 == 0)) = true then (if (t354 == 4 && (t355 == 5)) = true then (tributarylaw06_DotKnown.j1 kj4 x5_4 t369 t373 (t363 == 2 && (t364 == 0))) else (tributarylaw06_DotKnown.j1 kj4 x5_4 t369 t373 false)) else (tributarylaw06_DotKnown.j1 kj4 x5_4 t369 t373 false)) else (tributarylaw06_DotKnown.j1 kj4 x5_4 t369 t373 false)) else (tributarylaw06_DotKnown.j1 kj4 x5_4 t369 t373 false)) = some r := H
     have A113 := Aside0.mk A1130
     clear A1130
     by_cases c114 : (t324 == t375 && (t325 == t376)) = true
     ·
      rw [if_pos c114] at H
      have c114b0 : (t324 == t375 && (t325 == t376)) = true := c114
      (try (have c114b1 : decide (t324 = t375 && (t325 == t376)) = true := by simpa using c114))
      (try (have c114b2 : (t324 == t375 && (t325 == t376)) = true := by simpa using c114))
      clear c114
      by_cases c115 : t332 = 5
      ·
       rw [if_pos c115] at H
       have c115b0 : (t332 == 5) = true := beq_iff_eq.mpr c115
       have c115b1 : (t332 != 5) = false := bne_eq_false_iff_eq.mpr c115
       clear c115
       by_cases c116 : (t345 == 4 && (t346 == 0)) = true
       ·
        rw [if_pos c116] at H
        have c116b0 : (t345 == 4 && (t346 == 0)) = true := c116
        (try (have c116b1 : decide (t345 = 4 && (t346 == 0)) = true := by simpa using c116))
        (try (have c116b2 : (t345 == 4 && (t346 == 0)) = true := by simpa using c116))
        clear c116
        by_cases c117 : (t354 == 4 && (t355 == 5)) = true
        ·
         rw [if_pos c117] at H
         have c117b0 : (t354 == 4 && (t355 == 5)) = true := c117
         (try (have c117b1 : decide (t354 = 4 && (t355 == 5)) = true := by simpa using c117))
         (try (have c117b2 : (t354 == 4 && (t355 == 5)) = true := by simpa using c117))
         clear c117
         have H' := Aside0.mk H
         clear H
         try go_wp2
         have n0_ : Aside0 (Kd.R (Kd.int .u8) 5 ((w101.setCell ⟨gb374, 0, none⟩ (.int .i64 t371)).setCell ⟨gb374, 1, none⟩ (.int .i64 t372)) w.heap.size (fun k_ => some k_ ≠ (.slice Ao70 y358.length co70 : Value).ownBlock) (.slice Ao53 y349.length co53) y349) := ⟨by (with_reducible repeat (first | apply Kd.R_alloc | apply Kd.R_drewN | apply Kd.R_drew)); exact Kd.R_mono (Kd.R_far (p := ⟨gb374, 1, none⟩) (Kd.R_far (p := ⟨gb374, 0, none⟩) (Kd.R_types HO351.out BK374.out (by decide)) (fun _ hk => hk.2) (.int .i64 t371)) (fun _ hk => hk.2) (.int .i64 t372)) (fun _ hk => hk.1.2)⟩
         have n1_ : Aside0 (Kd.R (Kd.int .u8) 5 ((w101.setCell ⟨gb374, 0, none⟩ (.int .i64 t371)).setCell ⟨gb374, 1, none⟩ (.int .i64 t372)) w.heap.size (fun k_ => some k_ ≠ (.slice Ao53 y349.length co53 : Value).ownBlock) (.slice Ao70 y358.length co70) y358) := ⟨by (with_reducible repeat (first | apply Kd.R_alloc | apply Kd.R_drewN | apply Kd.R_drew)); exact Kd.R_mono (Kd.R_far (p := ⟨gb374, 1, none⟩) (Kd.R_far (p := ⟨gb374, 0, none⟩) (Kd.R_types HO360.out BK374.out (by decide)) (fun _ hk => hk.2) (.int .i64 t371)) (fun _ hk => hk.2) (.int .i64 t372)) (fun _ hk => hk.1.2)⟩
         have n2_ : Aside0 (((w101.setCell ⟨gb374, 0, none⟩ (.int .i64 t371)).setCell ⟨gb374, 1, none⟩ (.int .i64 t372)).heap[gb327]? = some (.cells #[.int .i64 t324, .int .i64 t325] 23 (0, 0))) := ⟨by (with_reducible repeat (first | refine blk_drewN ?_ _ | refine blk_drew ?_ | refine blk_alloc ?_ _)); refine blk_far ?_ NB327_374.out _; (with_reducible repeat (first | refine blk_drewN ?_ _ | refine blk_drew ?_ | refine blk_alloc ?_ _)); refine blk_far ?_ NB327_374.out _; (with_reducible repeat (first | refine blk_drewN ?_ _ | refine blk_drew ?_ | refine blk_alloc ?_ _)); exact BK327.out⟩
         have n3_ : Aside0 (((w101.setCell ⟨gb374, 0, none⟩ (.int .i64 t371)).setCell ⟨gb374, 1, none⟩ (.int .i64 t372)).heap[gb333]? = some (.cells #[.int .i64 t330, .int .i64 t331] 23 (0, 0))) := ⟨by (with_reducible repeat (first | refine blk_drewN ?_ _ | refine blk_drew ?_ | refine blk_alloc ?_ _)); refine blk_far ?_ NB333_374.out _; (with_reducible repeat (first | refine blk_drewN ?_ _ | refine blk_drew ?_ | refine blk_alloc ?_ _)); refine blk_far ?_ NB333_374.out _; (with_reducible repeat (first | refine blk_drewN ?_ _ | refine blk_drew ?_ | refine blk_alloc ?_ _)); exact BK333.out⟩
         have n4_ : Aside0 (((w101.setCell ⟨gb374, 0, none⟩ (.int .i64 t371)).setCell ⟨gb374, 1, none⟩ (.int .i64 t372)).heap[gb347]? = some (.cells #[.int .i64 t343, .int .i64 t344] 23 (0, 0))) := ⟨by (with_reducible repeat (first | refine blk_drewN ?_ _ | refine blk_drew ?_ | refine blk_alloc ?_ _)); refine blk_far ?_ NB347_374.out _; (with_reducible repeat (first | refine blk_drewN ?_ _ | refine blk_drew ?_ | refine blk_alloc ?_ _)); refine blk_far ?_ NB347_374.out _; (with_reducible repeat (first | refine blk_drewN ?_ _ | refine blk_drew ?_ | refine blk_alloc ?_ _)); exact BK347.out⟩
         have n5_ : Aside0 (((w101.setCell ⟨gb374, 0, none⟩ (.int .i64 t371)).setCell ⟨gb374, 1, none⟩ (.int .i64 t372)).heap[gb348]? = some (.cells #[.int .i64 t345, .int .i64 t346] 36 (0, 0))) := ⟨by (with_reducible repeat (first | refine blk_drewN ?_ _ | refine blk_drew ?_ | refine blk_alloc ?_ _)); refine blk_far ?_ NB348_374.out _; (with_reducible repeat (first | refine blk_drewN ?_ _ | refine blk_drew ?_ | refine blk_alloc ?_ _)); refine blk_far ?_ NB348_374.out _; (with_reducible repeat (first | refine blk_drewN ?_ _ | refine blk_drew ?_ | refine blk_alloc ?_ _)); exact BK348.out⟩
         have n6_ : Aside0 (((w101.setCell ⟨gb374, 0, none⟩ (.int .i64 t371)).setCell ⟨gb374, 1, none⟩ (.int .i64 t372)).heap[gb356]? = some (.cells #[.int .i64 t352, .int .i64 t353] 23 (0, 0))) := ⟨by (with_reducible repeat (first | refine blk_drewN ?_ _ | refine blk_drew ?_ | refine blk_alloc ?_ _)); refine blk_far ?_ NB356_374.out _; (with_reducible repeat (first | refine blk_drewN ?_ _ | refine blk_drew ?_ | refine blk_alloc ?_ _)); refine blk_far ?_ NB356_374.out _; (with_reducible repeat (first | refine blk_drewN ?_ _ | refine blk_drew ?_ | refine blk_alloc ?_ _)); exact BK356.out⟩
         have n7_ : Aside0 (((w101.setCell ⟨gb374, 0, none⟩ (.int .i64 t371)).setCell ⟨gb374, 1, none⟩ (.int .i64 t372)).heap[gb357]? = some (.cells #[.int .i64 t354, .int .i64 t355] 36 (0, 0))) := ⟨by (with_reducible repeat (first | refine blk_drewN ?_ _ | refine blk_drew ?_ | refine blk_alloc ?_ _)); refine blk_far ?_ NB357_374.out _; (with_reducible repeat (first | refine blk_drewN ?_ _ | refine blk_drew ?_ | refine blk_alloc ?_ _)); refine blk_far ?_ NB357_374.out _; (with_reducible repeat (first | refine blk_drewN ?_ _ | refine blk_drew ?_ | refine blk_alloc ?_ _)); exact BK357.out⟩
         have n8_ : Aside0 (((w101.setCell ⟨gb374, 0, none⟩ (.int .i64 t371)).setCell ⟨gb374, 1, none⟩ (.int .i64 t372)).heap[gb365]? = some (.cells #[.int .i64 t361, .int .i64 t362] 23 (0, 0))) := ⟨by (with_reducible repeat (first | refine blk_drewN ?_ _ | refine blk_drew ?_ | refine blk_alloc ?_ _)); refine blk_far ?_ NB365_374.out _; (with_reducible repeat (first | refine blk_drewN ?_ _ | refine blk_drew ?_ | refine blk_alloc ?_ _)); refine blk_far ?_ NB365_374.out _; (with_reducible repeat (first | refine blk_drewN ?_ _ | refine blk_drew ?_ | refine blk_alloc ?_ _)); exact BK365.out⟩
         have n9_ : Aside0 (((w101.setCell ⟨gb374, 0, none⟩ (.int .i64 t371)).setCell ⟨gb374, 1, none⟩ (.int .i64 t372)).heap[gb366]? = some (.cells #[.int .i64 t363, .int .i64 t364] 36 (0, 0))) := ⟨by (with_reducible repeat (first | refine blk_drewN ?_ _ | refine blk_drew ?_ | refine blk_alloc ?_ _)); refine blk_far ?_ NB366_374.out _; (with_reducible repeat (first | refine blk_drewN ?_ _ | refine blk_drew ?_ | refine blk_alloc ?_ _)); refine blk_far ?_ NB366_374.out _; (with_reducible repeat (first | refine blk_drewN ?_ _ | refine blk_drew ?_ | refine blk_alloc ?_ _)); exact BK366.out⟩
         have n10_ : Aside0 (((w101.setCell ⟨gb374, 0, none⟩ (.int .i64 t371)).setCell ⟨gb374, 1, none⟩ (.int .i64 t372)).heap[gb370]? = some (.cells #[.int .i64 t367, .int .i64 t368] 23 (0, 0))) := ⟨by (with_reducible repeat (first | refine blk_drewN ?_ _ | refine blk_drew ?_ | refine blk_alloc ?_ _)); refine blk_far ?_ NB370_374.out _; (with_reducible repeat (first | refine blk_drewN ?_ _ | refine blk_drew ?_ | refine blk_alloc ?_ _)); refine blk_far ?_ NB370_374.out _; (with_reducible repeat (first | refine blk_drewN ?_ _ | refine blk_drew ?_ | refine blk_alloc ?_ _)); exact BK370.out⟩
         have n11_ : Aside0 (((w101.setCell ⟨gb374, 0, none⟩ (.int .i64 t371)).setCell ⟨gb374, 1, none⟩ (.int .i64 t372)).heap[gb374]? = some (.cells #[.int .i64 t371, .int .i64 t372] 23 (0, 0))) := ⟨by (with_reducible repeat (first | refine blk_drewN ?_ _ | refine blk_drew ?_ | refine blk_alloc ?_ _)); refine blk_put (cs := #[.int .i64 t371, .int .i64 0]) ?_ 1 _ rfl; (with_reducible repeat (first | refine blk_drewN ?_ _ | refine blk_drew ?_ | refine blk_alloc ?_ _)); refine blk_put (cs := #[.int .i64 0, .int .i64 0]) ?_ 0 _ rfl; (with_reducible repeat (first | refine blk_drewN ?_ _ | refine blk_drew ?_ | refine blk_alloc ?_ _)); exact BK374.out⟩
         have n12_ : Aside0 (Below w.heap.size w ((w101.setCell ⟨gb374, 0, none⟩ (.int .i64 t371)).setCell ⟨gb374, 1, none⟩ (.int .i64 t372))) := ⟨by repeat (first | (with_reducible first | exact HB.out | apply below_alloc | apply pw_below_drewN | apply below_drew1 | refine below_set ?_ GE327.out | refine below_set ?_ GE333.out | refine below_set ?_ GE347.out | refine below_set ?_ GE348.out | refine below_set ?_ GE356.out | refine below_set ?_ GE357.out | refine below_set ?_ GE365.out | refine below_set ?_ GE366.out | refine below_set ?_ GE370.out | refine below_set ?_ GE374.out) | exact HB.out)⟩
         (try clear HO351)
         (try clear HO360)
         (try clear BK327)
         (try clear BK333)
         (try clear BK347)
         (try clear BK348)
         (try clear BK356)
         (try clear BK357)
         (try clear BK365)
         (try clear BK366)
         (try clear BK370)
         (try clear BK374)
         (try clear HB)
         generalize ((w101.setCell ⟨gb374, 0, none⟩ (.int .i64 t371)).setCell ⟨gb374, 1, none⟩ (.int .i64 t372)) = w118 at n0_ n1_ n2_ n3_ n4_ n5_ n6_ n7_ n8_ n9_ n10_ n11_ n12_ ⊢
         have HO351 := n0_
         have HO360 := n1_
         have BK327 := n2_
         have BK333 := n3_
         have BK347 := n4_
         have BK348 := n5_
         have BK356 := n6_
         have BK357 := n7_
         have BK365 := n8_
         have BK366 := n9_
         have BK370 := n10_
         have BK374 := n11_
         have HB := n12_
         clear n0_ n1_ n2_ n3_ n4_ n5_ n6_ n7_ n8_ n9_ n10_ n11_ n12_
         have n0_ := Aside0.mk (Kd.R_drew HO351.out)
         have n1_ := Aside0.mk (Kd.R_drew HO360.out)
         have n2_ := Aside0.mk (blk_drew BK327.out)
         have n3_ := Aside0.mk (blk_drew BK333.out)
         have n4_ := Aside0.mk (blk_drew BK347.out)
         have n5_ := Aside0.mk (blk_drew BK348.out)
         have n6_ := Aside0.mk (blk_drew BK356.out)
         have n7_ := Aside0.mk (blk_drew BK357.out)
         have n8_ := Aside0.mk (blk_drew BK365.out)
         have n9_ := Aside0.mk (blk_drew BK366.out)
         have n10_ := Aside0.mk (blk_drew BK370.out)
         have n11_ := Aside0.mk (blk_drew BK374.out)
         have n12_ := Aside0.mk (below_drew1 HB.out)
         clear HO351
         clear HO360
         clear BK327
         clear BK333
         clear BK347
         clear BK348
         clear BK356
         clear BK357
         clear BK365
         clear BK366
         clear BK370
         clear BK374
         clear HB
         have HO351 := n0_
         have HO360 := n1_
         have BK327 := n2_
         have BK333 := n3_
         have BK347 := n4_
         have BK348 := n5_
         have BK356 := n6_
         have BK357 := n7_
         have BK365 := n8_
         have BK366 := n9_
         have BK370 := n10_
         have BK374 := n11_
         have HB := n12_
         clear n0_ n1_ n2_ n3_ n4_ n5_ n6_ n7_ n8_ n9_ n10_ n11_ n12_
         refine start_ (n := 27) (S := fun w' => w'.cell? ⟨gb327, 0, none⟩ = some (.int .i64 t324) ∧ w'.cell? ⟨gb327, 1, none⟩ = some (.int .i64 t325) ∧ w'.cell? ⟨gb348, 0, none⟩ = some (.int .i64 t345) ∧ w'.cell? ⟨gb348, 1, none⟩ = some (.int .i64 t346) ∧ w'.cell? ⟨gb357, 0, none⟩ = some (.int .i64 t354) ∧ w'.cell? ⟨gb357, 1, none⟩ = some (.int .i64 t355) ∧ w'.cell? ⟨gb366, 0, none⟩ = some (.int .i64 t363) ∧ w'.cell? ⟨gb366, 1, none⟩ = some (.int .i64 t364)) (ds := []) #[false, false, false, false, false, false, false, false, false, false, false, false, false, false, false, false, false, false, false, false, false, false, false, false, false, false, false] (by kernel_rfl) rfl rfl ⟨(blk_cell BK327.out 0).trans rfl, (blk_cell BK327.out 1).trans rfl, (blk_cell BK348.out 0).trans rfl, (blk_cell BK348.out 1).trans rfl, (blk_cell BK357.out 0).trans rfl, (blk_cell BK357.out 1).trans rfl, (blk_cell BK366.out 0).trans rfl, (blk_cell BK366.out 1).trans rfl⟩ (fun hHeld => ?_); refine with_tabW tributarylaw06_DotKnown.tab9 tributarylaw06_DotKnown.bits9 (fun HT_ HW_ => ?_)
         generalize w118.drew = w119 at HO351 HO360 BK327 BK333 BK347 BK348 BK356 BK357 BK365 BK366 BK370 BK374 HB hHeld ⊢
         refine pure_ (i := 0) (N := some 62) (v := ?_) (a' := ?_) #[true, false, false, false, false, false, false, false, false, false, false, false, false, false, false, false, false, false, false, false, false, false, false, false, false, false, false] rfl rfl (any_of HT_.out (by kernel_rfl)) (fun _ _ _ h => h) (Or.inl ⟨by rfl, ?_⟩) ?_ ?_
         rotate_left
         ·
          intro w'
          go_simp
          with_reducible rfl
         rotate_left
         ·
          simp only [Act.put, List.setIfInBounds_toArray, List.set_cons_zero, List.set_cons_succ, i64_w, i32_w]
          rfl
         refine pure_ (i := 1) (N := some 63) (v := ?_) (a' := ?_) #[true, true, false, false, false, false, false, false, false, false, false, false, false, false, false, false, false, false, false, false, false, false, false, false, false, false, false] rfl rfl (any_of HT_.out (by kernel_rfl)) (fun _ _ _ h => h) (Or.inl ⟨by rfl, ?_⟩) ?_ ?_
         rotate_left
         ·
          intro w'
          go_simp
          with_reducible rfl
         rotate_left
         ·
          simp only [Act.put, List.setIfInBounds_toArray, List.set_cons_zero, List.set_cons_succ, i64_w, i32_w]
          rfl
         refine pure_ (i := 2) (N := some 64) (v := ?_) (a' := ?_) #[true, true, true, false, false, false, false, false, false, false, false, false, false, false, false, false, false, false, false, false, false, false, false, false, false, false, false] rfl rfl (any_of HT_.out (by kernel_rfl)) (fun _ _ _ h => h) (Or.inl ⟨by rfl, ?_⟩) ?_ ?_
         rotate_left
         ·
          intro w'
          go_simp
          with_reducible rfl
         rotate_left
         ·
          simp only [Act.put, List.setIfInBounds_toArray, List.set_cons_zero, List.set_cons_succ, i64_w, i32_w]
          rfl
         refine take_ (i := 3) (N := some 65) (v := ?_) (a' := ?_) #[true, true, true, true, false, false, false, false, false, false, false, false, false, false, false, false, false, false, false, false, false, false, false, false, false, false, false] rfl rfl (take_ofW HT_.out HW_.out (by kernel_rfl)) (fun _ _ _ h => h) (Or.inl ⟨by rfl, ?_⟩) hHeld ?_ ?_
         rotate_left
         ·
          rintro w' ⟨s0, s1, s2, s3, s4, s5, s6, s7⟩
          go_simp
          with_reducible rfl
         rotate_left
         ·
          simp only [Act.put, List.setIfInBounds_toArray, List.set_cons_zero, List.set_cons_succ, i64_w, i32_w]
          rfl
         refine one_ (i := 4) (N := some 66) #[true, true, true, true, true, false, false, false, false, false, false, false, false, false, false, false, false, false, false, false, false, false, false, false, false, false, false] rfl rfl (one_of HT_.out (by kernel_rfl)) (by decide) (fun K hK => ?_)
         refine goes_ Tryd.func33 (by kernel_rfl) rfl #[.int .i64 3, .int .i64 259] (by rfl) rfl rfl (by (try simp only [List.map_toArray, List.map_cons, List.map_nil]); first | done | rfl | (simp only [List.length_drop, List.length_take]; rfl)) ?_
         with_reducible refine (tributarylaw06_of.calls 3 259 t375 t376 _ A113.out).mono ?_
         rintro e w120 ⟨rfl, hb⟩
         refine ⟨_, rfl, ?_⟩
         have n0_ := Aside0.mk (Kd.R_below (by (with_reducible repeat (first | apply Kd.R_alloc | apply Kd.R_drewN | apply Kd.R_drew)); exact HO351.out) hb)
         have n1_ := Aside0.mk (Kd.R_below (by (with_reducible repeat (first | apply Kd.R_alloc | apply Kd.R_drewN | apply Kd.R_drew)); exact HO360.out) hb)
         have n2_ := Aside0.mk (blk_below (g := gb327) (o := .cells #[.int .i64 t324, .int .i64 t325] 23 (0, 0)) (by (with_reducible repeat (first | refine blk_drewN ?_ _ | refine blk_drew ?_ | refine blk_alloc ?_ _)); exact BK327.out) hb)
         have n3_ := Aside0.mk (blk_below (g := gb333) (o := .cells #[.int .i64 t330, .int .i64 t331] 23 (0, 0)) (by (with_reducible repeat (first | refine blk_drewN ?_ _ | refine blk_drew ?_ | refine blk_alloc ?_ _)); exact BK333.out) hb)
         have n4_ := Aside0.mk (blk_below (g := gb347) (o := .cells #[.int .i64 t343, .int .i64 t344] 23 (0, 0)) (by (with_reducible repeat (first | refine blk_drewN ?_ _ | refine blk_drew ?_ | refine blk_alloc ?_ _)); exact BK347.out) hb)
         have n5_ := Aside0.mk (blk_below (g := gb348) (o := .cells #[.int .i64 t345, .int .i64 t346] 36 (0, 0)) (by (with_reducible repeat (first | refine blk_drewN ?_ _ | refine blk_drew ?_ | refine blk_alloc ?_ _)); exact BK348.out) hb)
         have n6_ := Aside0.mk (blk_below (g := gb356) (o := .cells #[.int .i64 t352, .int .i64 t353] 23 (0, 0)) (by (with_reducible repeat (first | refine blk_drewN ?_ _ | refine blk_drew ?_ | refine blk_alloc ?_ _)); exact BK356.out) hb)
         have n7_ := Aside0.mk (blk_below (g := gb357) (o := .cells #[.int .i64 t354, .int .i64 t355] 36 (0, 0)) (by (with_reducible repeat (first | refine blk_drewN ?_ _ | refine blk_drew ?_ | refine blk_alloc ?_ _)); exact BK357.out) hb)
         have n8_ := Aside0.mk (blk_below (g := gb365) (o := .cells #[.int .i64 t361, .int .i64 t362] 23 (0, 0)) (by (with_reducible repeat (first | refine blk_drewN ?_ _ | refine blk_drew ?_ | refine blk_alloc ?_ _)); exact BK365.out) hb)
         have n9_ := Aside0.mk (blk_below (g := gb366) (o := .cells #[.int .i64 t363, .int .i64 t364] 36 (0, 0)) (by (with_reducible repeat (first | refine blk_drewN ?_ _ | refine blk_drew ?_ | refine blk_alloc ?_ _)); exact BK366.out) hb)
         have n10_ := Aside0.mk (blk_below (g := gb370) (o := .cells #[.int .i64 t367, .int .i64 t368] 23 (0, 0)) (by (with_reducible repeat (first | refine blk_drewN ?_ _ | refine blk_drew ?_ | refine blk_alloc ?_ _)); exact BK370.out) hb)
         have n11_ := Aside0.mk (blk_below (g := gb374) (o := .cells #[.int .i64 t371, .int .i64 t372] 23 (0, 0)) (by (with_reducible repeat (first | refine blk_drewN ?_ _ | refine blk_drew ?_ | refine blk_alloc ?_ _)); exact BK374.out) hb)
         have n12_ := Aside0.mk (below_step (by repeat (first | (with_reducible first | exact HB.out | apply below_alloc | apply pw_below_drewN | apply below_drew1 | refine below_set ?_ GE327.out | refine below_set ?_ GE333.out | refine below_set ?_ GE347.out | refine below_set ?_ GE348.out | refine below_set ?_ GE356.out | refine below_set ?_ GE357.out | refine below_set ?_ GE365.out | refine below_set ?_ GE366.out | refine below_set ?_ GE370.out | refine below_set ?_ GE374.out) | exact HB.out)) hb)
         clear HO351
         clear HO360
         clear BK327
         clear BK333
         clear BK347
         clear BK348
         clear BK356
         clear BK357
         clear BK365
         clear BK366
         clear BK370
         clear BK374
         clear HB
         have HO351 := n0_
         have HO360 := n1_
         have BK327 := n2_
         have BK333 := n3_
         have BK347 := n4_
         have BK348 := n5_
         have BK356 := n6_
         have BK357 := n7_
         have BK365 := n8_
         have BK366 := n9_
         have BK370 := n10_
         have BK374 := n11_
         have HB := n12_
         clear n0_ n1_ n2_ n3_ n4_ n5_ n6_ n7_ n8_ n9_ n10_ n11_ n12_
         (try clear hb)
         (try clear hb2)
         (try clear hk)
         (try clear hi)
         refine hK.out _ _ ⟨(blk_cell BK327.out 0).trans rfl, (blk_cell BK327.out 1).trans rfl, (blk_cell BK348.out 0).trans rfl, (blk_cell BK348.out 1).trans rfl, (blk_cell BK357.out 0).trans rfl, (blk_cell BK357.out 1).trans rfl, (blk_cell BK366.out 0).trans rfl, (blk_cell BK366.out 1).trans rfl⟩ (fun hHeld => ?_)
         clear hK K
         refine norm_ (a' := ?_) ?_ ?_
         rotate_left
         ·
          show Act.put _ (some 66) _ = _
          simp only [Act.put, List.setIfInBounds_toArray, List.set_cons_zero, List.set_cons_succ, i64_w, i32_w]
          rfl
         refine pure_ (i := 5) (N := some 67) (v := ?_) (a' := ?_) #[true, true, true, true, true, true, false, false, false, false, false, false, false, false, false, false, false, false, false, false, false, false, false, false, false, false, false] rfl rfl (any_of HT_.out (by kernel_rfl)) (fun _ _ _ h => h) (Or.inl ⟨by rfl, ?_⟩) ?_ ?_
         rotate_left
         ·
          intro w'
          go_simp
          with_reducible rfl
         rotate_left
         ·
          simp only [Act.put, List.setIfInBounds_toArray, List.set_cons_zero, List.set_cons_succ, i64_w, i32_w]
          rfl
         refine pure_ (i := 6) (N := some 68) (v := ?_) (a' := ?_) #[true, true, true, true, true, true, true, false, false, false, false, false, false, false, false, false, false, false, false, false, false, false, false, false, false, false, false] rfl rfl (any_of HT_.out (by kernel_rfl)) (fun _ _ _ h => h) (Or.inl ⟨by rfl, ?_⟩) ?_ ?_
         rotate_left
         ·
          intro w'
          go_simp
          with_reducible rfl
         rotate_left
         ·
          simp only [Act.put, List.setIfInBounds_toArray, List.set_cons_zero, List.set_cons_succ, i64_w, i32_w]
          rfl
         refine pure_ (i := 7) (N := some 69) (v := ?_) (a' := ?_) #[true, true, true, true, true, true, true, true, false, false, false, false, false, false, false, false, false, false, false, false, false, false, false, false, false, false, false] rfl rfl (any_of HT_.out (by kernel_rfl)) (fun _ _ _ h => h) (Or.inl ⟨by rfl, ?_⟩) ?_ ?_
         rotate_left
         ·
          intro w'
          go_simp
          with_reducible rfl
         rotate_left
         ·
          simp only [Act.put, List.setIfInBounds_toArray, List.set_cons_zero, List.set_cons_succ, i64_w, i32_w]
          rfl
         refine pure_ (i := 8) (N := some 70) (v := ?_) (a' := ?_) #[true, true, true, true, true, true, true, true, true, false, false, false, false, false, false, false, false, false, false, false, false, false, false, false, false, false, false] rfl rfl (any_of HT_.out (by kernel_rfl)) (fun _ _ _ h => h) (Or.inl ⟨by rfl, ?_⟩) ?_ ?_
         rotate_left
         ·
          intro w'
          go_simp
          with_reducible rfl
         rotate_left
         ·
          simp only [Act.put, List.setIfInBounds_toArray, List.set_cons_zero, List.set_cons_succ, i64_w, i32_w]
          rfl
         refine pure_ (i := 9) (N := some 71) (v := ?_) (a' := ?_) #[true, true, true, true, true, true, true, true, true, true, false, false, false, false, false, false, false, false, false, false, false, false, false, false, false, false, false] rfl rfl (any_of HT_.out (by kernel_rfl)) (fun _ _ _ h => h) (Or.inl ⟨by rfl, ?_⟩) ?_ ?_
         rotate_left
         ·
          intro w'
          go_simp
          with_reducible rfl
         rotate_left
         ·
          simp only [Act.put, List.setIfInBounds_toArray, List.set_cons_zero, List.set_cons_succ, i64_w, i32_w]
          rfl
         refine pure_ (i := 10) (N := some 72) (v := ?_) (a' := ?_) #[true, true, true, true, true, true, true, true, true, true, true, false, false, false, false, false, false, false, false, false, false, false, false, false, false, false, false] rfl rfl (any_of HT_.out (by kernel_rfl)) (fun _ _ _ h => h) (Or.inl ⟨by rfl, ?_⟩) ?_ ?_
         rotate_left
         ·
          intro w'
          go_simp
          with_reducible rfl
         rotate_left
         ·
          simp only [Act.put, List.setIfInBounds_toArray, List.set_cons_zero, List.set_cons_succ, i64_w, i32_w]
          rfl
         refine pure_ (i := 11) (N := some 73) (v := ?_) (a' := ?_) #[true, true, true, true, true, true, true, true, true, true, true, true, false, false, false, false, false, false, false, false, false, false, false, false, false, false, false] rfl rfl (any_of HT_.out (by kernel_rfl)) (fun _ _ _ h => h) (Or.inl ⟨by rfl, ?_⟩) ?_ ?_
         rotate_left
         ·
          intro w'
          go_simp
          with_reducible rfl
         rotate_left
         ·
          simp only [Act.put, List.setIfInBounds_toArray, List.set_cons_zero, List.set_cons_succ, i64_w, i32_w]
          rfl
         refine pure_ (i := 13) (N := some 75) (v := ?_) (a' := ?_) #[true, true, true, true, true, true, true, true, true, true, true, true, false, true, false, false, false, false, false, false, false, false, false, false, false, false, false] rfl rfl (any_of HT_.out (by kernel_rfl)) (fun _ _ _ h => h) (Or.inl ⟨by rfl, ?_⟩) ?_ ?_
         rotate_left
         ·
          intro w'
          go_simp
          with_reducible rfl
         rotate_left
         ·
          simp only [Act.put, List.setIfInBounds_toArray, List.set_cons_zero, List.set_cons_succ, i64_w, i32_w]
          rfl
         refine take_ (i := 12) (N := some 74) (v := ?_) (a' := ?_) #[true, true, true, true, true, true, true, true, true, true, true, true, true, true, false, false, false, false, false, false, false, false, false, false, false, false, false] rfl rfl (take_ofW HT_.out HW_.out (by kernel_rfl)) (fun _ _ _ h => h) (Or.inl ⟨by rfl, ?_⟩) hHeld ?_ ?_
         rotate_left
         ·
          rintro w' ⟨s0, s1, s2, s3, s4, s5, s6, s7⟩
          go_simp
          with_reducible rfl
         rotate_left
         ·
          simp only [Act.put, List.setIfInBounds_toArray, List.set_cons_zero, List.set_cons_succ, i64_w, i32_w]
          rfl
         refine pure_ (i := 14) (N := some 76) (v := ?_) (a' := ?_) #[true, true, true, true, true, true, true, true, true, true, true, true, true, true, true, false, false, false, false, false, false, false, false, false, false, false, false] rfl rfl (any_of HT_.out (by kernel_rfl)) (fun _ _ _ h => h) (Or.inl ⟨by rfl, ?_⟩) ?_ ?_
         rotate_left
         ·
          intro w'
          go_simp
          with_reducible rfl
         rotate_left
         ·
          simp only [Act.put, List.setIfInBounds_toArray, List.set_cons_zero, List.set_cons_succ, i64_w, i32_w]
          rfl
         refine pure_ (i := 15) (N := some 77) (v := ?_) (a' := ?_) #[true, true, true, true, true, true, true, true, true, true, true, true, true, true, true, true, false, false, false, false, false, false, false, false, false, false, false] rfl rfl (any_of HT_.out (by kernel_rfl)) (fun _ _ _ h => h) (Or.inl ⟨by rfl, ?_⟩) ?_ ?_
         rotate_left
         ·
          intro w'
          go_simp
          with_reducible rfl
         rotate_left
         ·
          simp only [Act.put, List.setIfInBounds_toArray, List.set_cons_zero, List.set_cons_succ, i64_w, i32_w]
          rfl
         refine pure_ (i := 16) (N := some 78) (v := ?_) (a' := ?_) #[true, true, true, true, true, true, true, true, true, true, true, true, true, true, true, true, true, false, false, false, false, false, false, false, false, false, false] rfl rfl (any_of HT_.out (by kernel_rfl)) (fun _ _ _ h => h) (Or.inl ⟨by rfl, ?_⟩) ?_ ?_
         rotate_left
         ·
          intro w'
          go_simp
          with_reducible rfl
         rotate_left
         ·
          simp only [Act.put, List.setIfInBounds_toArray, List.set_cons_zero, List.set_cons_succ, i64_w, i32_w]
          rfl
         refine pure_ (i := 18) (N := some 80) (v := ?_) (a' := ?_) #[true, true, true, true, true, true, true, true, true, true, true, true, true, true, true, true, true, false, true, false, false, false, false, false, false, false, false] rfl rfl (any_of HT_.out (by kernel_rfl)) (fun _ _ _ h => h) (Or.inl ⟨by rfl, ?_⟩) ?_ ?_
         rotate_left
         ·
          intro w'
          go_simp
          with_reducible rfl
         rotate_left
         ·
          simp only [Act.put, List.setIfInBounds_toArray, List.set_cons_zero, List.set_cons_succ, i64_w, i32_w]
          rfl
         refine take_ (i := 17) (N := some 79) (v := ?_) (a' := ?_) #[true, true, true, true, true, true, true, true, true, true, true, true, true, true, true, true, true, true, true, false, false, false, false, false, false, false, false] rfl rfl (take_ofW HT_.out HW_.out (by kernel_rfl)) (fun _ _ _ h => h) (Or.inl ⟨by rfl, ?_⟩) hHeld ?_ ?_
         rotate_left
         ·
          rintro w' ⟨s0, s1, s2, s3, s4, s5, s6, s7⟩
          go_simp
          with_reducible rfl
         rotate_left
         ·
          simp only [Act.put, List.setIfInBounds_toArray, List.set_cons_zero, List.set_cons_succ, i64_w, i32_w]
          rfl
         refine pure_ (i := 19) (N := some 81) (v := ?_) (a' := ?_) #[true, true, true, true, true, true, true, true, true, true, true, true, true, true, true, true, true, true, true, true, false, false, false, false, false, false, false] rfl rfl (any_of HT_.out (by kernel_rfl)) (fun _ _ _ h => h) (Or.inl ⟨by rfl, ?_⟩) ?_ ?_
         rotate_left
         ·
          intro w'
          go_simp
          with_reducible rfl
         rotate_left
         ·
          simp only [Act.put, List.setIfInBounds_toArray, List.set_cons_zero, List.set_cons_succ, i64_w, i32_w]
          rfl
         refine pure_ (i := 20) (N := some 82) (v := ?_) (a' := ?_) #[true, true, true, true, true, true, true, true, true, true, true, true, true, true, true, true, true, true, true, true, true, false, false, false, false, false, false] rfl rfl (any_of HT_.out (by kernel_rfl)) (fun _ _ _ h => h) (Or.inl ⟨by rfl, ?_⟩) ?_ ?_
         rotate_left
         ·
          intro w'
          go_simp
          with_reducible rfl
         rotate_left
         ·
          simp only [Act.put, List.setIfInBounds_toArray, List.set_cons_zero, List.set_cons_succ, i64_w, i32_w]
          rfl
         refine pure_ (i := 21) (N := some 83) (v := ?_) (a' := ?_) #[true, true, true, true, true, true, true, true, true, true, true, true, true, true, true, true, true, true, true, true, true, true, false, false, false, false, false] rfl rfl (any_of HT_.out (by kernel_rfl)) (fun _ _ _ h => h) (Or.inl ⟨by rfl, ?_⟩) ?_ ?_
         rotate_left
         ·
          intro w'
          go_simp
          with_reducible rfl
         rotate_left
         ·
          simp only [Act.put, List.setIfInBounds_toArray, List.set_cons_zero, List.set_cons_succ, i64_w, i32_w]
          rfl
         refine pure_ (i := 23) (N := some 85) (v := ?_) (a' := ?_) #[true, true, true, true, true, true, true, true, true, true, true, true, true, true, true, true, true, true, true, true, true, true, false, true, false, false, false] rfl rfl (any_of HT_.out (by kernel_rfl)) (fun _ _ _ h => h) (Or.inl ⟨by rfl, ?_⟩) ?_ ?_
         rotate_left
         ·
          intro w'
          go_simp
          with_reducible rfl
         rotate_left
         ·
          simp only [Act.put, List.setIfInBounds_toArray, List.set_cons_zero, List.set_cons_succ, i64_w, i32_w]
          rfl
         refine take_ (i := 22) (N := some 84) (v := ?_) (a' := ?_) #[true, true, true, true, true, true, true, true, true, true, true, true, true, true, true, true, true, true, true, true, true, true, true, true, false, false, false] rfl rfl (take_ofW HT_.out HW_.out (by kernel_rfl)) (fun _ _ _ h => h) (Or.inl ⟨by rfl, ?_⟩) hHeld ?_ ?_
         rotate_left
         ·
          rintro w' ⟨s0, s1, s2, s3, s4, s5, s6, s7⟩
          go_simp
          with_reducible rfl
         rotate_left
         ·
          simp only [Act.put, List.setIfInBounds_toArray, List.set_cons_zero, List.set_cons_succ, i64_w, i32_w]
          rfl
         refine pure_ (i := 24) (N := some 86) (v := ?_) (a' := ?_) #[true, true, true, true, true, true, true, true, true, true, true, true, true, true, true, true, true, true, true, true, true, true, true, true, true, false, false] rfl rfl (any_of HT_.out (by kernel_rfl)) (fun _ _ _ h => h) (Or.inl ⟨by rfl, ?_⟩) ?_ ?_
         rotate_left
         ·
          intro w'
          go_simp
          with_reducible rfl
         rotate_left
         ·
          simp only [Act.put, List.setIfInBounds_toArray, List.set_cons_zero, List.set_cons_succ, i64_w, i32_w]
          rfl
         refine pure_ (i := 25) (N := some 87) (v := ?_) (a' := ?_) #[true, true, true, true, true, true, true, true, true, true, true, true, true, true, true, true, true, true, true, true, true, true, true, true, true, true, false] rfl rfl (any_of HT_.out (by kernel_rfl)) (fun _ _ _ h => h) (Or.inl ⟨by rfl, ?_⟩) ?_ ?_
         rotate_left
         ·
          intro w'
          go_simp
          with_reducible rfl
         rotate_left
         ·
          simp only [Act.put, List.setIfInBounds_toArray, List.set_cons_zero, List.set_cons_succ, i64_w, i32_w]
          rfl
         refine pure_ (i := 26) (N := some 16) (v := ?_) (a' := ?_) #[true, true, true, true, true, true, true, true, true, true, true, true, true, true, true, true, true, true, true, true, true, true, true, true, true, true, true] rfl rfl (any_of HT_.out (by kernel_rfl)) (fun _ _ _ h => h) (Or.inl ⟨by rfl, ?_⟩) ?_ ?_
         rotate_left
         ·
          intro w'
          go_simp
          with_reducible rfl
         rotate_left
         ·
          simp only [Act.put, List.setIfInBounds_toArray, List.set_cons_zero, List.set_cons_succ, i64_w, i32_w]
          rfl
         refine done_ (done_of HT_.out (by kernel_rfl)) ?_
         try go_wp2
         go_meet
         case rel => exact ⟨_, ((t363 == 2 && (t364 == 0))), (by first | rfl | (simp; done) | (simp [*]; done)), H', ⟨by have := HJ4.out; first | omega | exact Nat.le_refl _⟩, ⟨by (with_reducible repeat (first | refine blk_drewN ?_ _ | refine blk_drew ?_ | refine blk_alloc ?_ _)); exact BK327.out⟩, ⟨by (with_reducible repeat (first | refine blk_drewN ?_ _ | refine blk_drew ?_ | refine blk_alloc ?_ _)); exact BK333.out⟩, ⟨by (with_reducible repeat (first | refine blk_drewN ?_ _ | refine blk_drew ?_ | refine blk_alloc ?_ _)); exact BK347.out⟩, ⟨by (with_reducible repeat (first | refine blk_drewN ?_ _ | refine blk_drew ?_ | refine blk_alloc ?_ _)); exact BK348.out⟩, ⟨by (with_reducible repeat (first | refine blk_drewN ?_ _ | refine blk_drew ?_ | refine blk_alloc ?_ _)); exact BK356.out⟩, ⟨by (with_reducible repeat (first | refine blk_drewN ?_ _ | refine blk_drew ?_ | refine blk_alloc ?_ _)); exact BK357.out⟩, ⟨by (with_reducible repeat (first | refine blk_drewN ?_ _ | refine blk_drew ?_ | refine blk_alloc ?_ _)); exact BK365.out⟩, ⟨by (with_reducible repeat (first | refine blk_drewN ?_ _ | refine blk_drew ?_ | refine blk_alloc ?_ _)); exact BK366.out⟩, ⟨by (with_reducible repeat (first | refine blk_drewN ?_ _ | refine blk_drew ?_ | refine blk_alloc ?_ _)); exact BK370.out⟩, ⟨by (with_reducible repeat (first | refine blk_drewN ?_ _ | refine blk_drew ?_ | refine blk_alloc ?_ _)); exact BK374.out⟩, ⟨by repeat (first | (with_reducible first | exact HB.out | apply below_alloc | apply pw_below_drewN | apply below_drew1 | refine below_set ?_ GE327.out | refine below_set ?_ GE333.out | refine below_set ?_ GE347.out | refine below_set ?_ GE348.out | refine below_set ?_ GE356.out | refine below_set ?_ GE357.out | refine below_set ?_ GE365.out | refine below_set ?_ GE366.out | refine below_set ?_ GE370.out | refine below_set ?_ GE374.out) | exact HB.out)⟩⟩
        ·
         rw [if_neg c117] at H
         exact absurd (H.trans (congrArg some HR.out)) (by with_reducible repeat' first | exact ntb_false | exact ntb_none | exact tributarylaw06_DotKnown.j1_nt0 _ _ _ _ | exact tributarylaw06_DotKnown.j1_nt1 _ _ _ _ | exact tributarylaw06_DotKnown.j0_nt2 _ _ _ _ _ | refine ntb_iff ?_ | refine ntb_ite ?_ ?_ | refine ntb_bind (fun _ => ?_))
       ·
        rw [if_neg c116] at H
        exact absurd (H.trans (congrArg some HR.out)) (by with_reducible repeat' first | exact ntb_false | exact ntb_none | exact tributarylaw06_DotKnown.j1_nt0 _ _ _ _ | exact tributarylaw06_DotKnown.j1_nt1 _ _ _ _ | exact tributarylaw06_DotKnown.j0_nt2 _ _ _ _ _ | refine ntb_iff ?_ | refine ntb_ite ?_ ?_ | refine ntb_bind (fun _ => ?_))
      ·
       rw [if_neg c115] at H
       exact absurd (H.trans (congrArg some HR.out)) (by with_reducible repeat' first | exact ntb_false | exact ntb_none | exact tributarylaw06_DotKnown.j1_nt0 _ _ _ _ | exact tributarylaw06_DotKnown.j1_nt1 _ _ _ _ | exact tributarylaw06_DotKnown.j0_nt2 _ _ _ _ _ | refine ntb_iff ?_ | refine ntb_ite ?_ ?_ | refine ntb_bind (fun _ => ?_))
     ·
      rw [if_neg c114] at H
      exact absurd (H.trans (congrArg some HR.out)) (by with_reducible repeat' first | exact ntb_false | exact ntb_none | exact tributarylaw06_DotKnown.j1_nt0 _ _ _ _ | exact tributarylaw06_DotKnown.j1_nt1 _ _ _ _ | exact tributarylaw06_DotKnown.j0_nt2 _ _ _ _ _ | refine ntb_iff ?_ | refine ntb_ite ?_ ?_ | refine ntb_bind (fun _ => ?_))
    ·
     rw [if_neg c112] at H
     exact absurd (H.trans (congrArg some HR.out)) (by with_reducible repeat' first | exact ntb_false | exact ntb_none | exact tributarylaw06_DotKnown.j1_nt0 _ _ _ _ | exact tributarylaw06_DotKnown.j1_nt1 _ _ _ _ | exact tributarylaw06_DotKnown.j0_nt2 _ _ _ _ _ | refine ntb_iff ?_ | refine ntb_ite ?_ ?_ | refine ntb_bind (fun _ => ?_))
   case rest =>
    clear HC40
    try clear c1; try clear p2; try clear c3; try clear c11; try clear c33; try clear c112; try clear c112b0; try clear c112b1; try clear c114; try clear c114b0; try clear c114b1; try clear c114b2
    obtain ⟨kq, x16_39, rfl, HA, HJ39, BK327, BK333, BK347, BK348, BK356, BK357, BK365, BK366, BK370, BK374, HB⟩ := hcut
    cases kq with
    | zero => exact absurd HA.out (by simp [tributarylaw06_DotKnown.j1])
    | succ kj39 =>
     have H := HA.out
     clear HA
     simp only [tributarylaw06_DotKnown.j1] at H
     replace H := Option.bind_eq_some_iff.mp H
     obtain ⟨t377, A1350, H⟩ := H
     replace H : (if t377 = true then (if x5_4 = true then (if x16_39 = true then (if t369 = 2 then (if t373 = 2 then ((tributarylaw06_of.f 2 1).bind fun bt378 => ((tributarylaw06_of.f 1 9).bind fun bt380 => ((tributarylaw06_of.f 2 1).bind fun bt382 => ((dot_Sort.f (([(⟨bt378.1, bt378.2⟩ : S23), (⟨bt380.1, bt380.2⟩ : S23), (⟨bt382.1, bt382.2⟩ : S23)] : List (S23)))).bind fun t387 => ((tributarylaw06_of.f 1 9).bind fun bt390 => ((tributarylaw06_of.f 2 1).bind fun bt392 => ((tributarykit_SameDots.f kj39 t387 (([(⟨bt390.1, bt390.2⟩ : S23), (⟨bt392.1, bt392.2⟩ : S23)] : List (S23)))).bind fun t397 => (some t397)))))))) else (some false)) else (some false)) else (some false)) else (some false)) else (some false)) = some r := H
     have A135 := Aside0.mk A1350
     clear A1350
     by_cases c136 : t377 = true
     ·
      subst c136
      have H1 : (if x5_4 = true then (if x16_39 = true then (if t369 = 2 then (if t373 = 2 then ((tributarylaw06_of.f 2 1).bind fun bt378 => ((tributarylaw06_of.f 1 9).bind fun bt380 => ((tributarylaw06_of.f 2 1).bind fun bt382 => ((dot_Sort.f (([(⟨bt378.1, bt378.2⟩ : S23), (⟨bt380.1, bt380.2⟩ : S23), (⟨bt382.1, bt382.2⟩ : S23)] : List (S23)))).bind fun t387 => ((tributarylaw06_of.f 1 9).bind fun bt390 => ((tributarylaw06_of.f 2 1).bind fun bt392 => ((tributarykit_SameDots.f kj39 t387 (([(⟨bt390.1, bt390.2⟩ : S23), (⟨bt392.1, bt392.2⟩ : S23)] : List (S23)))).bind fun t397 => (some t397)))))))) else (some false)) else (some false)) else (some false)) else (some false)) = some r := by rw [if_pos rfl] at H; exact H
      clear H
      have H := H1
      clear H1
      by_cases c137 : x5_4 = true
      ·
       subst c137
       have H1 : (if x16_39 = true then (if t369 = 2 then (if t373 = 2 then ((tributarylaw06_of.f 2 1).bind fun bt378 => ((tributarylaw06_of.f 1 9).bind fun bt380 => ((tributarylaw06_of.f 2 1).bind fun bt382 => ((dot_Sort.f (([(⟨bt378.1, bt378.2⟩ : S23), (⟨bt380.1, bt380.2⟩ : S23), (⟨bt382.1, bt382.2⟩ : S23)] : List (S23)))).bind fun t387 => ((tributarylaw06_of.f 1 9).bind fun bt390 => ((tributarylaw06_of.f 2 1).bind fun bt392 => ((tributarykit_SameDots.f kj39 t387 (([(⟨bt390.1, bt390.2⟩ : S23), (⟨bt392.1, bt392.2⟩ : S23)] : List (S23)))).bind fun t397 => (some t397)))))))) else (some false)) else (some false)) else (some false)) = some r := by rw [if_pos rfl] at H; exact H
       clear H
       have H := H1
       clear H1
       by_cases c138 : x16_39 = true
       ·
        subst c138
        have H1 : (if t369 = 2 then (if t373 = 2 then ((tributarylaw06_of.f 2 1).bind fun bt378 => ((tributarylaw06_of.f 1 9).bind fun bt380 => ((tributarylaw06_of.f 2 1).bind fun bt382 => ((dot_Sort.f (([(⟨bt378.1, bt378.2⟩ : S23), (⟨bt380.1, bt380.2⟩ : S23), (⟨bt382.1, bt382.2⟩ : S23)] : List (S23)))).bind fun t387 => ((tributarylaw06_of.f 1 9).bind fun bt390 => ((tributarylaw06_of.f 2 1).bind fun bt392 => ((tributarykit_SameDots.f kj39 t387 (([(⟨bt390.1, bt390.2⟩ : S23), (⟨bt392.1, bt392.2⟩ : S23)] : List (S23)))).bind fun t397 => (some t397)))))))) else (some false)) else (some false)) = some r := by rw [if_pos rfl] at H; exact H
        clear H
        have H := H1
        clear H1
        by_cases c139 : t369 = 2
        ·
         rw [if_pos c139] at H
         have c139b0 : (t369 == 2) = true := beq_iff_eq.mpr c139
         have c139b1 : (t369 != 2) = false := bne_eq_false_iff_eq.mpr c139
         clear c139
         by_cases c140 : t373 = 2
         ·
          rw [if_pos c140] at H
          have c140b0 : (t373 == 2) = true := beq_iff_eq.mpr c140
          have c140b1 : (t373 != 2) = false := bne_eq_false_iff_eq.mpr c140
          clear c140
          replace H := Option.bind_eq_some_iff.mp H
          obtain ⟨⟨t378, t379⟩, A1410, H⟩ := H
          replace H : ((tributarylaw06_of.f 1 9).bind fun bt380 => ((tributarylaw06_of.f 2 1).bind fun bt382 => ((dot_Sort.f (([(⟨t378, t379⟩ : S23), (⟨bt380.1, bt380.2⟩ : S23), (⟨bt382.1, bt382.2⟩ : S23)] : List (S23)))).bind fun t387 => ((tributarylaw06_of.f 1 9).bind fun bt390 => ((tributarylaw06_of.f 2 1).bind fun bt392 => ((tributarykit_SameDots.f kj39 t387 (([(⟨bt390.1, bt390.2⟩ : S23), (⟨bt392.1, bt392.2⟩ : S23)] : List (S23)))).bind fun t397 => (some t397))))))) = some r := H
          have A141 := Aside0.mk A1410
          clear A1410
          replace H := Option.bind_eq_some_iff.mp H
          obtain ⟨⟨t380, t381⟩, A1420, H⟩ := H
          replace H : ((tributarylaw06_of.f 2 1).bind fun bt382 => ((dot_Sort.f (([(⟨t378, t379⟩ : S23), (⟨t380, t381⟩ : S23), (⟨bt382.1, bt382.2⟩ : S23)] : List (S23)))).bind fun t387 => ((tributarylaw06_of.f 1 9).bind fun bt390 => ((tributarylaw06_of.f 2 1).bind fun bt392 => ((tributarykit_SameDots.f kj39 t387 (([(⟨bt390.1, bt390.2⟩ : S23), (⟨bt392.1, bt392.2⟩ : S23)] : List (S23)))).bind fun t397 => (some t397)))))) = some r := H
          have A142 := Aside0.mk A1420
          clear A1420
          replace H := Option.bind_eq_some_iff.mp H
          obtain ⟨⟨t382, t383⟩, A1430, H⟩ := H
          replace H : ((dot_Sort.f (([(⟨t378, t379⟩ : S23), (⟨t380, t381⟩ : S23), (⟨t382, t383⟩ : S23)] : List (S23)))).bind fun t387 => ((tributarylaw06_of.f 1 9).bind fun bt390 => ((tributarylaw06_of.f 2 1).bind fun bt392 => ((tributarykit_SameDots.f kj39 t387 (([(⟨bt390.1, bt390.2⟩ : S23), (⟨bt392.1, bt392.2⟩ : S23)] : List (S23)))).bind fun t397 => (some t397))))) = some r := H
          have A143 := Aside0.mk A1430
          clear A1430
          obtain ⟨y384, hy384⟩ : ∃ y_ : List (S23), y_ = (([(⟨t378, t379⟩ : S23), (⟨t380, t381⟩ : S23), (⟨t382, t383⟩ : S23)] : List (S23))) := ⟨_, rfl⟩
          replace H : ((dot_Sort.f y384).bind fun t387 => ((tributarylaw06_of.f 1 9).bind fun bt390 => ((tributarylaw06_of.f 2 1).bind fun bt392 => ((tributarykit_SameDots.f kj39 t387 (([(⟨bt390.1, bt390.2⟩ : S23), (⟨bt392.1, bt392.2⟩ : S23)] : List (S23)))).bind fun t397 => (some t397))))) = some r := by first | (rw [hy384]; with_reducible exact H) | (have H2_ := (Option.bind_some _ _).symm.trans H; rw [hy384]; with_reducible exact H2_) | (have H2_ := (Option.bind_some _ _).symm.trans H; with_reducible exact H2_) | with_reducible exact H | (rw [hy384]; exact H) | exact H
          have Ny384 := Aside0.mk hy384
          clear hy384
          replace H := Option.bind_eq_some_iff.mp H
          obtain ⟨t387, A1440, H⟩ := H
          replace H : ((tributarylaw06_of.f 1 9).bind fun bt390 => ((tributarylaw06_of.f 2 1).bind fun bt392 => ((tributarykit_SameDots.f kj39 t387 (([(⟨bt390.1, bt390.2⟩ : S23), (⟨bt392.1, bt392.2⟩ : S23)] : List (S23)))).bind fun t397 => (some t397)))) = some r := H
          have A144 := Aside0.mk A1440
          clear A1440
          replace H := Option.bind_eq_some_iff.mp H
          obtain ⟨⟨t390, t391⟩, A1450, H⟩ := H
          replace H : ((tributarylaw06_of.f 2 1).bind fun bt392 => ((tributarykit_SameDots.f kj39 t387 (([(⟨t390, t391⟩ : S23), (⟨bt392.1, bt392.2⟩ : S23)] : List (S23)))).bind fun t397 => (some t397))) = some r := H
          have A145 := Aside0.mk A1450
          clear A1450
          replace H := Option.bind_eq_some_iff.mp H
          obtain ⟨⟨t392, t393⟩, A1460, H⟩ := H
          replace H : ((tributarykit_SameDots.f kj39 t387 (([(⟨t390, t391⟩ : S23), (⟨t392, t393⟩ : S23)] : List (S23)))).bind fun t397 => (some t397)) = some r := H
          have A146 := Aside0.mk A1460
          clear A1460
          obtain ⟨y394, hy394⟩ : ∃ y_ : List (S23), y_ = (([(⟨t390, t391⟩ : S23), (⟨t392, t393⟩ : S23)] : List (S23))) := ⟨_, rfl⟩
          replace H : ((tributarykit_SameDots.f kj39 t387 y394).bind fun t397 => (some t397)) = some r := by first | (rw [hy394]; with_reducible exact H) | (have H2_ := (Option.bind_some _ _).symm.trans H; rw [hy394]; with_reducible exact H2_) | (have H2_ := (Option.bind_some _ _).symm.trans H; with_reducible exact H2_) | with_reducible exact H | (rw [hy394]; exact H) | exact H
          have Ny394 := Aside0.mk hy394
          clear hy394
          replace H := Option.bind_eq_some_iff.mp H
          obtain ⟨t397, A1470, H⟩ := H
          replace H : (some t397) = some r := H
          have A147 := Aside0.mk A1470
          clear A1470
          obtain rfl := Option.some.inj H
          obtain ⟨rfl, rfl⟩ : t378 = t382 ∧ t379 = t383 := by have e_ := Option.some.inj (A141.out.symm.trans A143.out); exact ⟨congrArg Prod.fst e_, congrArg Prod.snd e_⟩
          obtain ⟨rfl, rfl⟩ : t380 = t390 ∧ t381 = t391 := by have e_ := Option.some.inj (A142.out.symm.trans A145.out); exact ⟨congrArg Prod.fst e_, congrArg Prod.snd e_⟩
          obtain ⟨rfl, rfl⟩ : t378 = t392 ∧ t379 = t393 := by have e_ := Option.some.inj (A141.out.symm.trans A146.out); exact ⟨congrArg Prod.fst e_, congrArg Prod.snd e_⟩
          go_wp2_with (first | (go_at_call 33; (with_reducible refine (tributarylaw06_of.calls 1 9 t380 t381 _ A145.out).mono ?_); rintro e w156 ⟨rfl, hb⟩; have n0_ := Aside0.mk (Kd.R_below (by (with_reducible repeat (first | apply Kd.R_alloc | apply Kd.R_drewN | apply Kd.R_drew)); exact HO386.out) hb); have n1_ := Aside0.mk (Kd.R_below (by (with_reducible repeat (first | apply Kd.R_alloc | apply Kd.R_drewN | apply Kd.R_drew)); exact HO389.out) hb); have n2_ := Aside0.mk (blk_below (g := gb327) (o := .cells #[.int .i64 t324, .int .i64 t325] 23 (0, 0)) (by (with_reducible repeat (first | refine blk_drewN ?_ _ | refine blk_drew ?_ | refine blk_alloc ?_ _)); exact BK327.out) hb); have n3_ := Aside0.mk (blk_below (g := gb333) (o := .cells #[.int .i64 t330, .int .i64 t331] 23 (0, 0)) (by (with_reducible repeat (first | refine blk_drewN ?_ _ | refine blk_drew ?_ | refine blk_alloc ?_ _)); exact BK333.out) hb); have n4_ := Aside0.mk (blk_below (g := gb347) (o := .cells #[.int .i64 t343, .int .i64 t344] 23 (0, 0)) (by (with_reducible repeat (first | refine blk_drewN ?_ _ | refine blk_drew ?_ | refine blk_alloc ?_ _)); exact BK347.out) hb); have n5_ := Aside0.mk (blk_below (g := gb348) (o := .cells #[.int .i64 t345, .int .i64 t346] 36 (0, 0)) (by (with_reducible repeat (first | refine blk_drewN ?_ _ | refine blk_drew ?_ | refine blk_alloc ?_ _)); exact BK348.out) hb); have n6_ := Aside0.mk (blk_below (g := gb356) (o := .cells #[.int .i64 t352, .int .i64 t353] 23 (0, 0)) (by (with_reducible repeat (first | refine blk_drewN ?_ _ | refine blk_drew ?_ | refine blk_alloc ?_ _)); exact BK356.out) hb); have n7_ := Aside0.mk (blk_below (g := gb357) (o := .cells #[.int .i64 t354, .int .i64 t355] 36 (0, 0)) (by (with_reducible repeat (first | refine blk_drewN ?_ _ | refine blk_drew ?_ | refine blk_alloc ?_ _)); exact BK357.out) hb); have n8_ := Aside0.mk (blk_below (g := gb365) (o := .cells #[.int .i64 t361, .int .i64 t362] 23 (0, 0)) (by (with_reducible repeat (first | refine blk_drewN ?_ _ | refine blk_drew ?_ | refine blk_alloc ?_ _)); exact BK365.out) hb); have n9_ := Aside0.mk (blk_below (g := gb366) (o := .cells #[.int .i64 t363, .int .i64 t364] 36 (0, 0)) (by (with_reducible repeat (first | refine blk_drewN ?_ _ | refine blk_drew ?_ | refine blk_alloc ?_ _)); exact BK366.out) hb); have n10_ := Aside0.mk (blk_below (g := gb370) (o := .cells #[.int .i64 t367, .int .i64 t368] 23 (0, 0)) (by (with_reducible repeat (first | refine blk_drewN ?_ _ | refine blk_drew ?_ | refine blk_alloc ?_ _)); exact BK370.out) hb); have n11_ := Aside0.mk (blk_below (g := gb374) (o := .cells #[.int .i64 t371, .int .i64 t372] 23 (0, 0)) (by (with_reducible repeat (first | refine blk_drewN ?_ _ | refine blk_drew ?_ | refine blk_alloc ?_ _)); exact BK374.out) hb); have n12_ := Aside0.mk (below_step (by repeat (first | (with_reducible first | exact HB.out | apply below_alloc | apply pw_below_drewN | apply below_drew1 | refine below_set ?_ GE327.out | refine below_set ?_ GE333.out | refine below_set ?_ GE347.out | refine below_set ?_ GE348.out | refine below_set ?_ GE356.out | refine below_set ?_ GE357.out | refine below_set ?_ GE365.out | refine below_set ?_ GE366.out | refine below_set ?_ GE370.out | refine below_set ?_ GE374.out) | exact HB.out)) hb); clear HO386; clear HO389; clear BK327; clear BK333; clear BK347; clear BK348; clear BK356; clear BK357; clear BK365; clear BK366; clear BK370; clear BK374; clear HB; have HO386 := n0_; have HO389 := n1_; have BK327 := n2_; have BK333 := n3_; have BK347 := n4_; have BK348 := n5_; have BK356 := n6_; have BK357 := n7_; have BK365 := n8_; have BK366 := n9_; have BK370 := n10_; have BK374 := n11_; have HB := n12_; clear n0_ n1_ n2_ n3_ n4_ n5_ n6_ n7_ n8_ n9_ n10_ n11_ n12_; (try clear hb); (try clear hb2); (try clear hk); (try clear hi)) | (go_at_call 33; (with_reducible refine (tributarylaw06_of.calls 2 1 t378 t379 _ A146.out).mono ?_); rintro e w157 ⟨rfl, hb⟩; have n0_ := Aside0.mk (Kd.R_below (by (with_reducible repeat (first | apply Kd.R_alloc | apply Kd.R_drewN | apply Kd.R_drew)); exact HO386.out) hb); have n1_ := Aside0.mk (Kd.R_below (by (with_reducible repeat (first | apply Kd.R_alloc | apply Kd.R_drewN | apply Kd.R_drew)); exact HO389.out) hb); have n2_ := Aside0.mk (blk_below (g := gb327) (o := .cells #[.int .i64 t324, .int .i64 t325] 23 (0, 0)) (by (with_reducible repeat (first | refine blk_drewN ?_ _ | refine blk_drew ?_ | refine blk_alloc ?_ _)); exact BK327.out) hb); have n3_ := Aside0.mk (blk_below (g := gb333) (o := .cells #[.int .i64 t330, .int .i64 t331] 23 (0, 0)) (by (with_reducible repeat (first | refine blk_drewN ?_ _ | refine blk_drew ?_ | refine blk_alloc ?_ _)); exact BK333.out) hb); have n4_ := Aside0.mk (blk_below (g := gb347) (o := .cells #[.int .i64 t343, .int .i64 t344] 23 (0, 0)) (by (with_reducible repeat (first | refine blk_drewN ?_ _ | refine blk_drew ?_ | refine blk_alloc ?_ _)); exact BK347.out) hb); have n5_ := Aside0.mk (blk_below (g := gb348) (o := .cells #[.int .i64 t345, .int .i64 t346] 36 (0, 0)) (by (with_reducible repeat (first | refine blk_drewN ?_ _ | refine blk_drew ?_ | refine blk_alloc ?_ _)); exact BK348.out) hb); have n6_ := Aside0.mk (blk_below (g := gb356) (o := .cells #[.int .i64 t352, .int .i64 t353] 23 (0, 0)) (by (with_reducible repeat (first | refine blk_drewN ?_ _ | refine blk_drew ?_ | refine blk_alloc ?_ _)); exact BK356.out) hb); have n7_ := Aside0.mk (blk_below (g := gb357) (o := .cells #[.int .i64 t354, .int .i64 t355] 36 (0, 0)) (by (with_reducible repeat (first | refine blk_drewN ?_ _ | refine blk_drew ?_ | refine blk_alloc ?_ _)); exact BK357.out) hb); have n8_ := Aside0.mk (blk_below (g := gb365) (o := .cells #[.int .i64 t361, .int .i64 t362] 23 (0, 0)) (by (with_reducible repeat (first | refine blk_drewN ?_ _ | refine blk_drew ?_ | refine blk_alloc ?_ _)); exact BK365.out) hb); have n9_ := Aside0.mk (blk_below (g := gb366) (o := .cells #[.int .i64 t363, .int .i64 t364] 36 (0, 0)) (by (with_reducible repeat (first | refine blk_drewN ?_ _ | refine blk_drew ?_ | refine blk_alloc ?_ _)); exact BK366.out) hb); have n10_ := Aside0.mk (blk_below (g := gb370) (o := .cells #[.int .i64 t367, .int .i64 t368] 23 (0, 0)) (by (with_reducible repeat (first | refine blk_drewN ?_ _ | refine blk_drew ?_ | refine blk_alloc ?_ _)); exact BK370.out) hb); have n11_ := Aside0.mk (blk_below (g := gb374) (o := .cells #[.int .i64 t371, .int .i64 t372] 23 (0, 0)) (by (with_reducible repeat (first | refine blk_drewN ?_ _ | refine blk_drew ?_ | refine blk_alloc ?_ _)); exact BK374.out) hb); have n12_ := Aside0.mk (below_step (by repeat (first | (with_reducible first | exact HB.out | apply below_alloc | apply pw_below_drewN | apply below_drew1 | refine below_set ?_ GE327.out | refine below_set ?_ GE333.out | refine below_set ?_ GE347.out | refine below_set ?_ GE348.out | refine below_set ?_ GE356.out | refine below_set ?_ GE357.out | refine below_set ?_ GE365.out | refine below_set ?_ GE366.out | refine below_set ?_ GE370.out | refine below_set ?_ GE374.out) | exact HB.out)) hb); clear HO386; clear HO389; clear BK327; clear BK333; clear BK347; clear BK348; clear BK356; clear BK357; clear BK365; clear BK366; clear BK370; clear BK374; clear HB; have HO386 := n0_; have HO389 := n1_; have BK327 := n2_; have BK333 := n3_; have BK347 := n4_; have BK348 := n5_; have BK356 := n6_; have BK357 := n7_; have BK365 := n8_; have BK366 := n9_; have BK370 := n10_; have BK374 := n11_; have HB := n12_; clear n0_ n1_ n2_ n3_ n4_ n5_ n6_ n7_ n8_ n9_ n10_ n11_ n12_; (try clear hb); (try clear hb2); (try clear hk); (try clear hi)) | ((with_reducible refine gate_callee (f := 9) rfl ?_); refine goesL_ (some 88) rfl rfl Tryd.func9 (by kernel_rfl) rfl #[] rfl (by (try simp only [List.map_toArray, List.map_cons, List.map_nil]); first | done | rfl | (simp only [List.length_drop, List.length_take]; rfl)) ?_; (with_reducible refine (tributarylaw06_awake.calls  true _ A135.out (laid_below HLAID.out (by repeat (first | (with_reducible first | exact HB.out | apply below_alloc | apply pw_below_drewN | apply below_drew1 | refine below_set ?_ GE327.out | refine below_set ?_ GE333.out | refine below_set ?_ GE347.out | refine below_set ?_ GE348.out | refine below_set ?_ GE356.out | refine below_set ?_ GE357.out | refine below_set ?_ GE365.out | refine below_set ?_ GE366.out | refine below_set ?_ GE370.out | refine below_set ?_ GE374.out) | exact HB.out)))).mono ?_); rintro e w148 ⟨rfl, hb⟩; refine ⟨_, rfl, ?_⟩; have n0_ := Aside0.mk (blk_below (g := gb327) (o := .cells #[.int .i64 t324, .int .i64 t325] 23 (0, 0)) (by (with_reducible repeat (first | refine blk_drewN ?_ _ | refine blk_drew ?_ | refine blk_alloc ?_ _)); exact BK327.out) hb); have n1_ := Aside0.mk (blk_below (g := gb333) (o := .cells #[.int .i64 t330, .int .i64 t331] 23 (0, 0)) (by (with_reducible repeat (first | refine blk_drewN ?_ _ | refine blk_drew ?_ | refine blk_alloc ?_ _)); exact BK333.out) hb); have n2_ := Aside0.mk (blk_below (g := gb347) (o := .cells #[.int .i64 t343, .int .i64 t344] 23 (0, 0)) (by (with_reducible repeat (first | refine blk_drewN ?_ _ | refine blk_drew ?_ | refine blk_alloc ?_ _)); exact BK347.out) hb); have n3_ := Aside0.mk (blk_below (g := gb348) (o := .cells #[.int .i64 t345, .int .i64 t346] 36 (0, 0)) (by (with_reducible repeat (first | refine blk_drewN ?_ _ | refine blk_drew ?_ | refine blk_alloc ?_ _)); exact BK348.out) hb); have n4_ := Aside0.mk (blk_below (g := gb356) (o := .cells #[.int .i64 t352, .int .i64 t353] 23 (0, 0)) (by (with_reducible repeat (first | refine blk_drewN ?_ _ | refine blk_drew ?_ | refine blk_alloc ?_ _)); exact BK356.out) hb); have n5_ := Aside0.mk (blk_below (g := gb357) (o := .cells #[.int .i64 t354, .int .i64 t355] 36 (0, 0)) (by (with_reducible repeat (first | refine blk_drewN ?_ _ | refine blk_drew ?_ | refine blk_alloc ?_ _)); exact BK357.out) hb); have n6_ := Aside0.mk (blk_below (g := gb365) (o := .cells #[.int .i64 t361, .int .i64 t362] 23 (0, 0)) (by (with_reducible repeat (first | refine blk_drewN ?_ _ | refine blk_drew ?_ | refine blk_alloc ?_ _)); exact BK365.out) hb); have n7_ := Aside0.mk (blk_below (g := gb366) (o := .cells #[.int .i64 t363, .int .i64 t364] 36 (0, 0)) (by (with_reducible repeat (first | refine blk_drewN ?_ _ | refine blk_drew ?_ | refine blk_alloc ?_ _)); exact BK366.out) hb); have n8_ := Aside0.mk (blk_below (g := gb370) (o := .cells #[.int .i64 t367, .int .i64 t368] 23 (0, 0)) (by (with_reducible repeat (first | refine blk_drewN ?_ _ | refine blk_drew ?_ | refine blk_alloc ?_ _)); exact BK370.out) hb); have n9_ := Aside0.mk (blk_below (g := gb374) (o := .cells #[.int .i64 t371, .int .i64 t372] 23 (0, 0)) (by (with_reducible repeat (first | refine blk_drewN ?_ _ | refine blk_drew ?_ | refine blk_alloc ?_ _)); exact BK374.out) hb); have n10_ := Aside0.mk (below_step (by repeat (first | (with_reducible first | exact HB.out | apply below_alloc | apply pw_below_drewN | apply below_drew1 | refine below_set ?_ GE327.out | refine below_set ?_ GE333.out | refine below_set ?_ GE347.out | refine below_set ?_ GE348.out | refine below_set ?_ GE356.out | refine below_set ?_ GE357.out | refine below_set ?_ GE365.out | refine below_set ?_ GE366.out | refine below_set ?_ GE370.out | refine below_set ?_ GE374.out) | exact HB.out)) hb); clear BK327; clear BK333; clear BK347; clear BK348; clear BK356; clear BK357; clear BK365; clear BK366; clear BK370; clear BK374; clear HB; have BK327 := n0_; have BK333 := n1_; have BK347 := n2_; have BK348 := n3_; have BK356 := n4_; have BK357 := n5_; have BK365 := n6_; have BK366 := n7_; have BK370 := n8_; have BK374 := n9_; have HB := n10_; clear n0_ n1_ n2_ n3_ n4_ n5_ n6_ n7_ n8_ n9_ n10_; (try clear hb); (try clear hb2); (try clear hk); (try clear hi)) | (go_at_call 33; (with_reducible refine (tributarylaw06_of.calls 2 1 t378 t379 _ A141.out).mono ?_); rintro e w149 ⟨rfl, hb⟩; have n0_ := Aside0.mk (blk_below (g := gb327) (o := .cells #[.int .i64 t324, .int .i64 t325] 23 (0, 0)) (by (with_reducible repeat (first | refine blk_drewN ?_ _ | refine blk_drew ?_ | refine blk_alloc ?_ _)); exact BK327.out) hb); have n1_ := Aside0.mk (blk_below (g := gb333) (o := .cells #[.int .i64 t330, .int .i64 t331] 23 (0, 0)) (by (with_reducible repeat (first | refine blk_drewN ?_ _ | refine blk_drew ?_ | refine blk_alloc ?_ _)); exact BK333.out) hb); have n2_ := Aside0.mk (blk_below (g := gb347) (o := .cells #[.int .i64 t343, .int .i64 t344] 23 (0, 0)) (by (with_reducible repeat (first | refine blk_drewN ?_ _ | refine blk_drew ?_ | refine blk_alloc ?_ _)); exact BK347.out) hb); have n3_ := Aside0.mk (blk_below (g := gb348) (o := .cells #[.int .i64 t345, .int .i64 t346] 36 (0, 0)) (by (with_reducible repeat (first | refine blk_drewN ?_ _ | refine blk_drew ?_ | refine blk_alloc ?_ _)); exact BK348.out) hb); have n4_ := Aside0.mk (blk_below (g := gb356) (o := .cells #[.int .i64 t352, .int .i64 t353] 23 (0, 0)) (by (with_reducible repeat (first | refine blk_drewN ?_ _ | refine blk_drew ?_ | refine blk_alloc ?_ _)); exact BK356.out) hb); have n5_ := Aside0.mk (blk_below (g := gb357) (o := .cells #[.int .i64 t354, .int .i64 t355] 36 (0, 0)) (by (with_reducible repeat (first | refine blk_drewN ?_ _ | refine blk_drew ?_ | refine blk_alloc ?_ _)); exact BK357.out) hb); have n6_ := Aside0.mk (blk_below (g := gb365) (o := .cells #[.int .i64 t361, .int .i64 t362] 23 (0, 0)) (by (with_reducible repeat (first | refine blk_drewN ?_ _ | refine blk_drew ?_ | refine blk_alloc ?_ _)); exact BK365.out) hb); have n7_ := Aside0.mk (blk_below (g := gb366) (o := .cells #[.int .i64 t363, .int .i64 t364] 36 (0, 0)) (by (with_reducible repeat (first | refine blk_drewN ?_ _ | refine blk_drew ?_ | refine blk_alloc ?_ _)); exact BK366.out) hb); have n8_ := Aside0.mk (blk_below (g := gb370) (o := .cells #[.int .i64 t367, .int .i64 t368] 23 (0, 0)) (by (with_reducible repeat (first | refine blk_drewN ?_ _ | refine blk_drew ?_ | refine blk_alloc ?_ _)); exact BK370.out) hb); have n9_ := Aside0.mk (blk_below (g := gb374) (o := .cells #[.int .i64 t371, .int .i64 t372] 23 (0, 0)) (by (with_reducible repeat (first | refine blk_drewN ?_ _ | refine blk_drew ?_ | refine blk_alloc ?_ _)); exact BK374.out) hb); have n10_ := Aside0.mk (below_step (by repeat (first | (with_reducible first | exact HB.out | apply below_alloc | apply pw_below_drewN | apply below_drew1 | refine below_set ?_ GE327.out | refine below_set ?_ GE333.out | refine below_set ?_ GE347.out | refine below_set ?_ GE348.out | refine below_set ?_ GE356.out | refine below_set ?_ GE357.out | refine below_set ?_ GE365.out | refine below_set ?_ GE366.out | refine below_set ?_ GE370.out | refine below_set ?_ GE374.out) | exact HB.out)) hb); clear BK327; clear BK333; clear BK347; clear BK348; clear BK356; clear BK357; clear BK365; clear BK366; clear BK370; clear BK374; clear HB; have BK327 := n0_; have BK333 := n1_; have BK347 := n2_; have BK348 := n3_; have BK356 := n4_; have BK357 := n5_; have BK365 := n6_; have BK366 := n7_; have BK370 := n8_; have BK374 := n9_; have HB := n10_; clear n0_ n1_ n2_ n3_ n4_ n5_ n6_ n7_ n8_ n9_ n10_; (try clear hb); (try clear hb2); (try clear hk); (try clear hi)) | (go_at_call 33; (with_reducible refine (tributarylaw06_of.calls 1 9 t380 t381 _ A142.out).mono ?_); rintro e w150 ⟨rfl, hb⟩; have n0_ := Aside0.mk (blk_below (g := gb327) (o := .cells #[.int .i64 t324, .int .i64 t325] 23 (0, 0)) (by (with_reducible repeat (first | refine blk_drewN ?_ _ | refine blk_drew ?_ | refine blk_alloc ?_ _)); exact BK327.out) hb); have n1_ := Aside0.mk (blk_below (g := gb333) (o := .cells #[.int .i64 t330, .int .i64 t331] 23 (0, 0)) (by (with_reducible repeat (first | refine blk_drewN ?_ _ | refine blk_drew ?_ | refine blk_alloc ?_ _)); exact BK333.out) hb); have n2_ := Aside0.mk (blk_below (g := gb347) (o := .cells #[.int .i64 t343, .int .i64 t344] 23 (0, 0)) (by (with_reducible repeat (first | refine blk_drewN ?_ _ | refine blk_drew ?_ | refine blk_alloc ?_ _)); exact BK347.out) hb); have n3_ := Aside0.mk (blk_below (g := gb348) (o := .cells #[.int .i64 t345, .int .i64 t346] 36 (0, 0)) (by (with_reducible repeat (first | refine blk_drewN ?_ _ | refine blk_drew ?_ | refine blk_alloc ?_ _)); exact BK348.out) hb); have n4_ := Aside0.mk (blk_below (g := gb356) (o := .cells #[.int .i64 t352, .int .i64 t353] 23 (0, 0)) (by (with_reducible repeat (first | refine blk_drewN ?_ _ | refine blk_drew ?_ | refine blk_alloc ?_ _)); exact BK356.out) hb); have n5_ := Aside0.mk (blk_below (g := gb357) (o := .cells #[.int .i64 t354, .int .i64 t355] 36 (0, 0)) (by (with_reducible repeat (first | refine blk_drewN ?_ _ | refine blk_drew ?_ | refine blk_alloc ?_ _)); exact BK357.out) hb); have n6_ := Aside0.mk (blk_below (g := gb365) (o := .cells #[.int .i64 t361, .int .i64 t362] 23 (0, 0)) (by (with_reducible repeat (first | refine blk_drewN ?_ _ | refine blk_drew ?_ | refine blk_alloc ?_ _)); exact BK365.out) hb); have n7_ := Aside0.mk (blk_below (g := gb366) (o := .cells #[.int .i64 t363, .int .i64 t364] 36 (0, 0)) (by (with_reducible repeat (first | refine blk_drewN ?_ _ | refine blk_drew ?_ | refine blk_alloc ?_ _)); exact BK366.out) hb); have n8_ := Aside0.mk (blk_below (g := gb370) (o := .cells #[.int .i64 t367, .int .i64 t368] 23 (0, 0)) (by (with_reducible repeat (first | refine blk_drewN ?_ _ | refine blk_drew ?_ | refine blk_alloc ?_ _)); exact BK370.out) hb); have n9_ := Aside0.mk (blk_below (g := gb374) (o := .cells #[.int .i64 t371, .int .i64 t372] 23 (0, 0)) (by (with_reducible repeat (first | refine blk_drewN ?_ _ | refine blk_drew ?_ | refine blk_alloc ?_ _)); exact BK374.out) hb); have n10_ := Aside0.mk (below_step (by repeat (first | (with_reducible first | exact HB.out | apply below_alloc | apply pw_below_drewN | apply below_drew1 | refine below_set ?_ GE327.out | refine below_set ?_ GE333.out | refine below_set ?_ GE347.out | refine below_set ?_ GE348.out | refine below_set ?_ GE356.out | refine below_set ?_ GE357.out | refine below_set ?_ GE365.out | refine below_set ?_ GE366.out | refine below_set ?_ GE370.out | refine below_set ?_ GE374.out) | exact HB.out)) hb); clear BK327; clear BK333; clear BK347; clear BK348; clear BK356; clear BK357; clear BK365; clear BK366; clear BK370; clear BK374; clear HB; have BK327 := n0_; have BK333 := n1_; have BK347 := n2_; have BK348 := n3_; have BK356 := n4_; have BK357 := n5_; have BK365 := n6_; have BK366 := n7_; have BK370 := n8_; have BK374 := n9_; have HB := n10_; clear n0_ n1_ n2_ n3_ n4_ n5_ n6_ n7_ n8_ n9_ n10_; (try clear hb); (try clear hb2); (try clear hk); (try clear hi)) | (go_at_call 33; (with_reducible refine (tributarylaw06_of.calls 2 1 t378 t379 _ A143.out).mono ?_); rintro e w151 ⟨rfl, hb⟩; have n0_ := Aside0.mk (blk_below (g := gb327) (o := .cells #[.int .i64 t324, .int .i64 t325] 23 (0, 0)) (by (with_reducible repeat (first | refine blk_drewN ?_ _ | refine blk_drew ?_ | refine blk_alloc ?_ _)); exact BK327.out) hb); have n1_ := Aside0.mk (blk_below (g := gb333) (o := .cells #[.int .i64 t330, .int .i64 t331] 23 (0, 0)) (by (with_reducible repeat (first | refine blk_drewN ?_ _ | refine blk_drew ?_ | refine blk_alloc ?_ _)); exact BK333.out) hb); have n2_ := Aside0.mk (blk_below (g := gb347) (o := .cells #[.int .i64 t343, .int .i64 t344] 23 (0, 0)) (by (with_reducible repeat (first | refine blk_drewN ?_ _ | refine blk_drew ?_ | refine blk_alloc ?_ _)); exact BK347.out) hb); have n3_ := Aside0.mk (blk_below (g := gb348) (o := .cells #[.int .i64 t345, .int .i64 t346] 36 (0, 0)) (by (with_reducible repeat (first | refine blk_drewN ?_ _ | refine blk_drew ?_ | refine blk_alloc ?_ _)); exact BK348.out) hb); have n4_ := Aside0.mk (blk_below (g := gb356) (o := .cells #[.int .i64 t352, .int .i64 t353] 23 (0, 0)) (by (with_reducible repeat (first | refine blk_drewN ?_ _ | refine blk_drew ?_ | refine blk_alloc ?_ _)); exact BK356.out) hb); have n5_ := Aside0.mk (blk_below (g := gb357) (o := .cells #[.int .i64 t354, .int .i64 t355] 36 (0, 0)) (by (with_reducible repeat (first | refine blk_drewN ?_ _ | refine blk_drew ?_ | refine blk_alloc ?_ _)); exact BK357.out) hb); have n6_ := Aside0.mk (blk_below (g := gb365) (o := .cells #[.int .i64 t361, .int .i64 t362] 23 (0, 0)) (by (with_reducible repeat (first | refine blk_drewN ?_ _ | refine blk_drew ?_ | refine blk_alloc ?_ _)); exact BK365.out) hb); have n7_ := Aside0.mk (blk_below (g := gb366) (o := .cells #[.int .i64 t363, .int .i64 t364] 36 (0, 0)) (by (with_reducible repeat (first | refine blk_drewN ?_ _ | refine blk_drew ?_ | refine blk_alloc ?_ _)); exact BK366.out) hb); have n8_ := Aside0.mk (blk_below (g := gb370) (o := .cells #[.int .i64 t367, .int .i64 t368] 23 (0, 0)) (by (with_reducible repeat (first | refine blk_drewN ?_ _ | refine blk_drew ?_ | refine blk_alloc ?_ _)); exact BK370.out) hb); have n9_ := Aside0.mk (blk_below (g := gb374) (o := .cells #[.int .i64 t371, .int .i64 t372] 23 (0, 0)) (by (with_reducible repeat (first | refine blk_drewN ?_ _ | refine blk_drew ?_ | refine blk_alloc ?_ _)); exact BK374.out) hb); have n10_ := Aside0.mk (below_step (by repeat (first | (with_reducible first | exact HB.out | apply below_alloc | apply pw_below_drewN | apply below_drew1 | refine below_set ?_ GE327.out | refine below_set ?_ GE333.out | refine below_set ?_ GE347.out | refine below_set ?_ GE348.out | refine below_set ?_ GE356.out | refine below_set ?_ GE357.out | refine below_set ?_ GE365.out | refine below_set ?_ GE366.out | refine below_set ?_ GE370.out | refine below_set ?_ GE374.out) | exact HB.out)) hb); clear BK327; clear BK333; clear BK347; clear BK348; clear BK356; clear BK357; clear BK365; clear BK366; clear BK370; clear BK374; clear HB; have BK327 := n0_; have BK333 := n1_; have BK347 := n2_; have BK348 := n3_; have BK356 := n4_; have BK357 := n5_; have BK365 := n6_; have BK366 := n7_; have BK370 := n8_; have BK374 := n9_; have HB := n10_; clear n0_ n1_ n2_ n3_ n4_ n5_ n6_ n7_ n8_ n9_ n10_; (try clear hb); (try clear hb2); (try clear hk); (try clear hi)) | ((with_reducible refine gate_dst (N := 107) rfl ?_); (try (refine gate_guard (by rfl) ?_; dsimp only)); refine Kd.R_lit k23 _ 23 ?hg (N := 107) ?hd (xs := ([(⟨t378, t379⟩ : S23), (⟨t380, t381⟩ : S23), (⟨t378, t379⟩ : S23)] : List (S23))) (inner := [.int .i64 t378, .int .i64 t379, .int .i64 t380, .int .i64 t381, .int .i64 t378, .int .i64 t379]) (ok := fun _ => True) (okp := fun _ => True) ?hr ?hp (fun _ hk => hk) trivial (Below.refl _ _) (Nat.le_refl _) (by simp) ?_; (case hd => rfl); (case hg => rfl); (case hr => first | (go_simp; done) | (go_simp; rfl)); (case hp => exact (Reps.c2 (show Kd.M k23 _ _ _ (⟨t378, t379⟩ : S23) [.int .i64 t378, .int .i64 t379] from (k23_mkM _ _ _ (⟨t378, t379⟩ : S23) )) (Reps.c2 (show Kd.M k23 _ _ _ (⟨t380, t381⟩ : S23) [.int .i64 t380, .int .i64 t381] from (k23_mkM _ _ _ (⟨t380, t381⟩ : S23) )) (Reps.c2 (show Kd.M k23 _ _ _ (⟨t378, t379⟩ : S23) [.int .i64 t378, .int .i64 t379] from (k23_mkM _ _ _ (⟨t378, t379⟩ : S23) )) (Reps.none _ _))))); intro v385 w152 ho153 hb hg_ hnew_; clear hg_ hnew_; (first | rw [← Ny384.out] at ho153 | (simp only [Int.reduceToNat] at ho153; rw [← Ny384.out] at ho153)); have n0_ := Aside0.mk (Kd.R_lower (Kd.R_newB (Kd.R_newB (Kd.R_newB (Kd.R_newB (Kd.R_newB (Kd.R_newB (Kd.R_newB ho153 (g := gb327) (o := .cells #[.int .i64 t324, .int .i64 t325] 23 (0, 0)) (by (with_reducible repeat (first | refine blk_drewN ?_ _ | refine blk_drew ?_ | refine blk_alloc ?_ _)); exact BK327.out)) (g := gb333) (o := .cells #[.int .i64 t330, .int .i64 t331] 23 (0, 0)) (by (with_reducible repeat (first | refine blk_drewN ?_ _ | refine blk_drew ?_ | refine blk_alloc ?_ _)); exact BK333.out)) (g := gb347) (o := .cells #[.int .i64 t343, .int .i64 t344] 23 (0, 0)) (by (with_reducible repeat (first | refine blk_drewN ?_ _ | refine blk_drew ?_ | refine blk_alloc ?_ _)); exact BK347.out)) (g := gb356) (o := .cells #[.int .i64 t352, .int .i64 t353] 23 (0, 0)) (by (with_reducible repeat (first | refine blk_drewN ?_ _ | refine blk_drew ?_ | refine blk_alloc ?_ _)); exact BK356.out)) (g := gb365) (o := .cells #[.int .i64 t361, .int .i64 t362] 23 (0, 0)) (by (with_reducible repeat (first | refine blk_drewN ?_ _ | refine blk_drew ?_ | refine blk_alloc ?_ _)); exact BK365.out)) (g := gb370) (o := .cells #[.int .i64 t367, .int .i64 t368] 23 (0, 0)) (by (with_reducible repeat (first | refine blk_drewN ?_ _ | refine blk_drew ?_ | refine blk_alloc ?_ _)); exact BK370.out)) (g := gb374) (o := .cells #[.int .i64 t371, .int .i64 t372] 23 (0, 0)) (by (with_reducible repeat (first | refine blk_drewN ?_ _ | refine blk_drew ?_ | refine blk_alloc ?_ _)); exact BK374.out)) (below_size (by repeat (first | (with_reducible first | exact HB.out | apply below_alloc | apply pw_below_drewN | apply below_drew1 | refine below_set ?_ GE327.out | refine below_set ?_ GE333.out | refine below_set ?_ GE347.out | refine below_set ?_ GE348.out | refine below_set ?_ GE356.out | refine below_set ?_ GE357.out | refine below_set ?_ GE365.out | refine below_set ?_ GE366.out | refine below_set ?_ GE370.out | refine below_set ?_ GE374.out) | exact HB.out)))); have n1_ := Aside0.mk (blk_below (g := gb327) (o := .cells #[.int .i64 t324, .int .i64 t325] 23 (0, 0)) (by (with_reducible repeat (first | refine blk_drewN ?_ _ | refine blk_drew ?_ | refine blk_alloc ?_ _)); exact BK327.out) hb); have n2_ := Aside0.mk (blk_below (g := gb333) (o := .cells #[.int .i64 t330, .int .i64 t331] 23 (0, 0)) (by (with_reducible repeat (first | refine blk_drewN ?_ _ | refine blk_drew ?_ | refine blk_alloc ?_ _)); exact BK333.out) hb); have n3_ := Aside0.mk (blk_below (g := gb347) (o := .cells #[.int .i64 t343, .int .i64 t344] 23 (0, 0)) (by (with_reducible repeat (first | refine blk_drewN ?_ _ | refine blk_drew ?_ | refine blk_alloc ?_ _)); exact BK347.out) hb); have n4_ := Aside0.mk (blk_below (g := gb348) (o := .cells #[.int .i64 t345, .int .i64 t346] 36 (0, 0)) (by (with_reducible repeat (first | refine blk_drewN ?_ _ | refine blk_drew ?_ | refine blk_alloc ?_ _)); exact BK348.out) hb); have n5_ := Aside0.mk (blk_below (g := gb356) (o := .cells #[.int .i64 t352, .int .i64 t353] 23 (0, 0)) (by (with_reducible repeat (first | refine blk_drewN ?_ _ | refine blk_drew ?_ | refine blk_alloc ?_ _)); exact BK356.out) hb); have n6_ := Aside0.mk (blk_below (g := gb357) (o := .cells #[.int .i64 t354, .int .i64 t355] 36 (0, 0)) (by (with_reducible repeat (first | refine blk_drewN ?_ _ | refine blk_drew ?_ | refine blk_alloc ?_ _)); exact BK357.out) hb); have n7_ := Aside0.mk (blk_below (g := gb365) (o := .cells #[.int .i64 t361, .int .i64 t362] 23 (0, 0)) (by (with_reducible repeat (first | refine blk_drewN ?_ _ | refine blk_drew ?_ | refine blk_alloc ?_ _)); exact BK365.out) hb); have n8_ := Aside0.mk (blk_below (g := gb366) (o := .cells #[.int .i64 t363, .int .i64 t364] 36 (0, 0)) (by (with_reducible repeat (first | refine blk_drewN ?_ _ | refine blk_drew ?_ | refine blk_alloc ?_ _)); exact BK366.out) hb); have n9_ := Aside0.mk (blk_below (g := gb370) (o := .cells #[.int .i64 t367, .int .i64 t368] 23 (0, 0)) (by (with_reducible repeat (first | refine blk_drewN ?_ _ | refine blk_drew ?_ | refine blk_alloc ?_ _)); exact BK370.out) hb); have n10_ := Aside0.mk (blk_below (g := gb374) (o := .cells #[.int .i64 t371, .int .i64 t372] 23 (0, 0)) (by (with_reducible repeat (first | refine blk_drewN ?_ _ | refine blk_drew ?_ | refine blk_alloc ?_ _)); exact BK374.out) hb); have n11_ := Aside0.mk (below_step (by repeat (first | (with_reducible first | exact HB.out | apply below_alloc | apply pw_below_drewN | apply below_drew1 | refine below_set ?_ GE327.out | refine below_set ?_ GE333.out | refine below_set ?_ GE347.out | refine below_set ?_ GE348.out | refine below_set ?_ GE356.out | refine below_set ?_ GE357.out | refine below_set ?_ GE365.out | refine below_set ?_ GE366.out | refine below_set ?_ GE370.out | refine below_set ?_ GE374.out) | exact HB.out)) hb); clear BK327; clear BK333; clear BK347; clear BK348; clear BK356; clear BK357; clear BK365; clear BK366; clear BK370; clear BK374; clear HB; have HO386 := n0_; have BK327 := n1_; have BK333 := n2_; have BK347 := n3_; have BK348 := n4_; have BK356 := n5_; have BK357 := n6_; have BK365 := n7_; have BK366 := n8_; have BK370 := n9_; have BK374 := n10_; have HB := n11_; clear n0_ n1_ n2_ n3_ n4_ n5_ n6_ n7_ n8_ n9_ n10_ n11_; clear hb ho153; obtain ⟨Ao154, co154, eo154⟩ := Kd.R_slice HO386.out; subst eo154) | (go_at_call 26; (with_reducible refine (dot_Sort.calls _ _ y384 t387 _ ?side1 ?side2 A144.out).mono ?_); (case side1 => repeat (first | exact (Kd.R_reads' HO386.out).2.2 | (with_reducible refine Kd.C_alloc ?_ _) | (with_reducible refine Kd.C_drewN ?_ _) | (with_reducible refine Kd.C_drew ?_))); (case side2 => exact (Kd.R_reads' HO386.out).2.1); rintro e w155 ⟨v388, rfl, ho0, hb⟩; have n0_ := Aside0.mk (Kd.R_elder' (by (with_reducible repeat (first | apply Kd.R_alloc | apply Kd.R_drewN | apply Kd.R_drew)); exact HO386.out) (Kd.R_base ho0) hb); have n1_ := Aside0.mk (Kd.R_lower (Kd.R_newB (Kd.R_newB (Kd.R_newB (Kd.R_newB (Kd.R_newB (Kd.R_newB (Kd.R_newB (Kd.R_new' ho0 (Kd.R_lt (by (with_reducible repeat (first | apply Kd.R_alloc | apply Kd.R_drewN | apply Kd.R_drew)); exact HO386.out))) (g := gb327) (o := .cells #[.int .i64 t324, .int .i64 t325] 23 (0, 0)) (by (with_reducible repeat (first | refine blk_drewN ?_ _ | refine blk_drew ?_ | refine blk_alloc ?_ _)); exact BK327.out)) (g := gb333) (o := .cells #[.int .i64 t330, .int .i64 t331] 23 (0, 0)) (by (with_reducible repeat (first | refine blk_drewN ?_ _ | refine blk_drew ?_ | refine blk_alloc ?_ _)); exact BK333.out)) (g := gb347) (o := .cells #[.int .i64 t343, .int .i64 t344] 23 (0, 0)) (by (with_reducible repeat (first | refine blk_drewN ?_ _ | refine blk_drew ?_ | refine blk_alloc ?_ _)); exact BK347.out)) (g := gb356) (o := .cells #[.int .i64 t352, .int .i64 t353] 23 (0, 0)) (by (with_reducible repeat (first | refine blk_drewN ?_ _ | refine blk_drew ?_ | refine blk_alloc ?_ _)); exact BK356.out)) (g := gb365) (o := .cells #[.int .i64 t361, .int .i64 t362] 23 (0, 0)) (by (with_reducible repeat (first | refine blk_drewN ?_ _ | refine blk_drew ?_ | refine blk_alloc ?_ _)); exact BK365.out)) (g := gb370) (o := .cells #[.int .i64 t367, .int .i64 t368] 23 (0, 0)) (by (with_reducible repeat (first | refine blk_drewN ?_ _ | refine blk_drew ?_ | refine blk_alloc ?_ _)); exact BK370.out)) (g := gb374) (o := .cells #[.int .i64 t371, .int .i64 t372] 23 (0, 0)) (by (with_reducible repeat (first | refine blk_drewN ?_ _ | refine blk_drew ?_ | refine blk_alloc ?_ _)); exact BK374.out)) (below_size (by repeat (first | (with_reducible first | exact HB.out | apply below_alloc | apply pw_below_drewN | apply below_drew1 | refine below_set ?_ GE327.out | refine below_set ?_ GE333.out | refine below_set ?_ GE347.out | refine below_set ?_ GE348.out | refine below_set ?_ GE356.out | refine below_set ?_ GE357.out | refine below_set ?_ GE365.out | refine below_set ?_ GE366.out | refine below_set ?_ GE370.out | refine below_set ?_ GE374.out) | exact HB.out)))); have n2_ := Aside0.mk (blk_below (g := gb327) (o := .cells #[.int .i64 t324, .int .i64 t325] 23 (0, 0)) (by (with_reducible repeat (first | refine blk_drewN ?_ _ | refine blk_drew ?_ | refine blk_alloc ?_ _)); exact BK327.out) hb); have n3_ := Aside0.mk (blk_below (g := gb333) (o := .cells #[.int .i64 t330, .int .i64 t331] 23 (0, 0)) (by (with_reducible repeat (first | refine blk_drewN ?_ _ | refine blk_drew ?_ | refine blk_alloc ?_ _)); exact BK333.out) hb); have n4_ := Aside0.mk (blk_below (g := gb347) (o := .cells #[.int .i64 t343, .int .i64 t344] 23 (0, 0)) (by (with_reducible repeat (first | refine blk_drewN ?_ _ | refine blk_drew ?_ | refine blk_alloc ?_ _)); exact BK347.out) hb); have n5_ := Aside0.mk (blk_below (g := gb348) (o := .cells #[.int .i64 t345, .int .i64 t346] 36 (0, 0)) (by (with_reducible repeat (first | refine blk_drewN ?_ _ | refine blk_drew ?_ | refine blk_alloc ?_ _)); exact BK348.out) hb); have n6_ := Aside0.mk (blk_below (g := gb356) (o := .cells #[.int .i64 t352, .int .i64 t353] 23 (0, 0)) (by (with_reducible repeat (first | refine blk_drewN ?_ _ | refine blk_drew ?_ | refine blk_alloc ?_ _)); exact BK356.out) hb); have n7_ := Aside0.mk (blk_below (g := gb357) (o := .cells #[.int .i64 t354, .int .i64 t355] 36 (0, 0)) (by (with_reducible repeat (first | refine blk_drewN ?_ _ | refine blk_drew ?_ | refine blk_alloc ?_ _)); exact BK357.out) hb); have n8_ := Aside0.mk (blk_below (g := gb365) (o := .cells #[.int .i64 t361, .int .i64 t362] 23 (0, 0)) (by (with_reducible repeat (first | refine blk_drewN ?_ _ | refine blk_drew ?_ | refine blk_alloc ?_ _)); exact BK365.out) hb); have n9_ := Aside0.mk (blk_below (g := gb366) (o := .cells #[.int .i64 t363, .int .i64 t364] 36 (0, 0)) (by (with_reducible repeat (first | refine blk_drewN ?_ _ | refine blk_drew ?_ | refine blk_alloc ?_ _)); exact BK366.out) hb); have n10_ := Aside0.mk (blk_below (g := gb370) (o := .cells #[.int .i64 t367, .int .i64 t368] 23 (0, 0)) (by (with_reducible repeat (first | refine blk_drewN ?_ _ | refine blk_drew ?_ | refine blk_alloc ?_ _)); exact BK370.out) hb); have n11_ := Aside0.mk (blk_below (g := gb374) (o := .cells #[.int .i64 t371, .int .i64 t372] 23 (0, 0)) (by (with_reducible repeat (first | refine blk_drewN ?_ _ | refine blk_drew ?_ | refine blk_alloc ?_ _)); exact BK374.out) hb); have n12_ := Aside0.mk (below_step (by repeat (first | (with_reducible first | exact HB.out | apply below_alloc | apply pw_below_drewN | apply below_drew1 | refine below_set ?_ GE327.out | refine below_set ?_ GE333.out | refine below_set ?_ GE347.out | refine below_set ?_ GE348.out | refine below_set ?_ GE356.out | refine below_set ?_ GE357.out | refine below_set ?_ GE365.out | refine below_set ?_ GE366.out | refine below_set ?_ GE370.out | refine below_set ?_ GE374.out) | exact HB.out)) hb); clear HO386; clear BK327; clear BK333; clear BK347; clear BK348; clear BK356; clear BK357; clear BK365; clear BK366; clear BK370; clear BK374; clear HB; have HO386 := n0_; have HO389 := n1_; have BK327 := n2_; have BK333 := n3_; have BK347 := n4_; have BK348 := n5_; have BK356 := n6_; have BK357 := n7_; have BK365 := n8_; have BK366 := n9_; have BK370 := n10_; have BK374 := n11_; have HB := n12_; clear n0_ n1_ n2_ n3_ n4_ n5_ n6_ n7_ n8_ n9_ n10_ n11_ n12_; (try clear hb); (try clear hb2); (try clear hk); (try clear hi); (try clear ho0)) | ((with_reducible refine gate_dst (N := 111) rfl ?_); (try (refine gate_guard (by rfl) ?_; dsimp only)); refine Kd.R_lit k23 _ 23 ?hg (N := 111) ?hd (xs := ([(⟨t380, t381⟩ : S23), (⟨t378, t379⟩ : S23)] : List (S23))) (inner := [.int .i64 t380, .int .i64 t381, .int .i64 t378, .int .i64 t379]) (ok := fun _ => True) (okp := fun _ => True) ?hr ?hp (fun _ hk => hk) trivial (Below.refl _ _) (Nat.le_refl _) (by simp) ?_; (case hd => rfl); (case hg => rfl); (case hr => first | (go_simp; done) | (go_simp; rfl)); (case hp => exact (Reps.c2 (show Kd.M k23 _ _ _ (⟨t380, t381⟩ : S23) [.int .i64 t380, .int .i64 t381] from (k23_mkM _ _ _ (⟨t380, t381⟩ : S23) )) (Reps.c2 (show Kd.M k23 _ _ _ (⟨t378, t379⟩ : S23) [.int .i64 t378, .int .i64 t379] from (k23_mkM _ _ _ (⟨t378, t379⟩ : S23) )) (Reps.none _ _)))); intro v395 w158 ho159 hb hg_ hnew_; clear hg_ hnew_; (first | rw [← Ny394.out] at ho159 | (simp only [Int.reduceToNat] at ho159; rw [← Ny394.out] at ho159)); have n0_ := Aside0.mk (Kd.R_elder' (by (with_reducible repeat (first | apply Kd.R_alloc | apply Kd.R_drewN | apply Kd.R_drew)); exact HO386.out) (Kd.R_base ho159) hb); have n1_ := Aside0.mk (Kd.R_elder' (by (with_reducible repeat (first | apply Kd.R_alloc | apply Kd.R_drewN | apply Kd.R_drew)); exact HO389.out) (Kd.R_base ho159) hb); have n2_ := Aside0.mk (Kd.R_lower (Kd.R_newB (Kd.R_newB (Kd.R_newB (Kd.R_newB (Kd.R_newB (Kd.R_newB (Kd.R_newB (Kd.R_new' (Kd.R_new' ho159 (Kd.R_lt (by (with_reducible repeat (first | apply Kd.R_alloc | apply Kd.R_drewN | apply Kd.R_drew)); exact HO386.out))) (Kd.R_lt (by (with_reducible repeat (first | apply Kd.R_alloc | apply Kd.R_drewN | apply Kd.R_drew)); exact HO389.out))) (g := gb327) (o := .cells #[.int .i64 t324, .int .i64 t325] 23 (0, 0)) (by (with_reducible repeat (first | refine blk_drewN ?_ _ | refine blk_drew ?_ | refine blk_alloc ?_ _)); exact BK327.out)) (g := gb333) (o := .cells #[.int .i64 t330, .int .i64 t331] 23 (0, 0)) (by (with_reducible repeat (first | refine blk_drewN ?_ _ | refine blk_drew ?_ | refine blk_alloc ?_ _)); exact BK333.out)) (g := gb347) (o := .cells #[.int .i64 t343, .int .i64 t344] 23 (0, 0)) (by (with_reducible repeat (first | refine blk_drewN ?_ _ | refine blk_drew ?_ | refine blk_alloc ?_ _)); exact BK347.out)) (g := gb356) (o := .cells #[.int .i64 t352, .int .i64 t353] 23 (0, 0)) (by (with_reducible repeat (first | refine blk_drewN ?_ _ | refine blk_drew ?_ | refine blk_alloc ?_ _)); exact BK356.out)) (g := gb365) (o := .cells #[.int .i64 t361, .int .i64 t362] 23 (0, 0)) (by (with_reducible repeat (first | refine blk_drewN ?_ _ | refine blk_drew ?_ | refine blk_alloc ?_ _)); exact BK365.out)) (g := gb370) (o := .cells #[.int .i64 t367, .int .i64 t368] 23 (0, 0)) (by (with_reducible repeat (first | refine blk_drewN ?_ _ | refine blk_drew ?_ | refine blk_alloc ?_ _)); exact BK370.out)) (g := gb374) (o := .cells #[.int .i64 t371, .int .i64 t372] 23 (0, 0)) (by (with_reducible repeat (first | refine blk_drewN ?_ _ | refine blk_drew ?_ | refine blk_alloc ?_ _)); exact BK374.out)) (below_size (by repeat (first | (with_reducible first | exact HB.out | apply below_alloc | apply pw_below_drewN | apply below_drew1 | refine below_set ?_ GE327.out | refine below_set ?_ GE333.out | refine below_set ?_ GE347.out | refine below_set ?_ GE348.out | refine below_set ?_ GE356.out | refine below_set ?_ GE357.out | refine below_set ?_ GE365.out | refine below_set ?_ GE366.out | refine below_set ?_ GE370.out | refine below_set ?_ GE374.out) | exact HB.out)))); have n3_ := Aside0.mk (blk_below (g := gb327) (o := .cells #[.int .i64 t324, .int .i64 t325] 23 (0, 0)) (by (with_reducible repeat (first | refine blk_drewN ?_ _ | refine blk_drew ?_ | refine blk_alloc ?_ _)); exact BK327.out) hb); have n4_ := Aside0.mk (blk_below (g := gb333) (o := .cells #[.int .i64 t330, .int .i64 t331] 23 (0, 0)) (by (with_reducible repeat (first | refine blk_drewN ?_ _ | refine blk_drew ?_ | refine blk_alloc ?_ _)); exact BK333.out) hb); have n5_ := Aside0.mk (blk_below (g := gb347) (o := .cells #[.int .i64 t343, .int .i64 t344] 23 (0, 0)) (by (with_reducible repeat (first | refine blk_drewN ?_ _ | refine blk_drew ?_ | refine blk_alloc ?_ _)); exact BK347.out) hb); have n6_ := Aside0.mk (blk_below (g := gb348) (o := .cells #[.int .i64 t345, .int .i64 t346] 36 (0, 0)) (by (with_reducible repeat (first | refine blk_drewN ?_ _ | refine blk_drew ?_ | refine blk_alloc ?_ _)); exact BK348.out) hb); have n7_ := Aside0.mk (blk_below (g := gb356) (o := .cells #[.int .i64 t352, .int .i64 t353] 23 (0, 0)) (by (with_reducible repeat (first | refine blk_drewN ?_ _ | refine blk_drew ?_ | refine blk_alloc ?_ _)); exact BK356.out) hb); have n8_ := Aside0.mk (blk_below (g := gb357) (o := .cells #[.int .i64 t354, .int .i64 t355] 36 (0, 0)) (by (with_reducible repeat (first | refine blk_drewN ?_ _ | refine blk_drew ?_ | refine blk_alloc ?_ _)); exact BK357.out) hb); have n9_ := Aside0.mk (blk_below (g := gb365) (o := .cells #[.int .i64 t361, .int .i64 t362] 23 (0, 0)) (by (with_reducible repeat (first | refine blk_drewN ?_ _ | refine blk_drew ?_ | refine blk_alloc ?_ _)); exact BK365.out) hb); have n10_ := Aside0.mk (blk_below (g := gb366) (o := .cells #[.int .i64 t363, .int .i64 t364] 36 (0, 0)) (by (with_reducible repeat (first | refine blk_drewN ?_ _ | refine blk_drew ?_ | refine blk_alloc ?_ _)); exact BK366.out) hb); have n11_ := Aside0.mk (blk_below (g := gb370) (o := .cells #[.int .i64 t367, .int .i64 t368] 23 (0, 0)) (by (with_reducible repeat (first | refine blk_drewN ?_ _ | refine blk_drew ?_ | refine blk_alloc ?_ _)); exact BK370.out) hb); have n12_ := Aside0.mk (blk_below (g := gb374) (o := .cells #[.int .i64 t371, .int .i64 t372] 23 (0, 0)) (by (with_reducible repeat (first | refine blk_drewN ?_ _ | refine blk_drew ?_ | refine blk_alloc ?_ _)); exact BK374.out) hb); have n13_ := Aside0.mk (below_step (by repeat (first | (with_reducible first | exact HB.out | apply below_alloc | apply pw_below_drewN | apply below_drew1 | refine below_set ?_ GE327.out | refine below_set ?_ GE333.out | refine below_set ?_ GE347.out | refine below_set ?_ GE348.out | refine below_set ?_ GE356.out | refine below_set ?_ GE357.out | refine below_set ?_ GE365.out | refine below_set ?_ GE366.out | refine below_set ?_ GE370.out | refine below_set ?_ GE374.out) | exact HB.out)) hb); clear HO386; clear HO389; clear BK327; clear BK333; clear BK347; clear BK348; clear BK356; clear BK357; clear BK365; clear BK366; clear BK370; clear BK374; clear HB; have HO386 := n0_; have HO389 := n1_; have HO396 := n2_; have BK327 := n3_; have BK333 := n4_; have BK347 := n5_; have BK348 := n6_; have BK356 := n7_; have BK357 := n8_; have BK365 := n9_; have BK366 := n10_; have BK370 := n11_; have BK374 := n12_; have HB := n13_; clear n0_ n1_ n2_ n3_ n4_ n5_ n6_ n7_ n8_ n9_ n10_ n11_ n12_ n13_; clear hb ho159; obtain ⟨Ao160, co160, eo160⟩ := Kd.R_slice HO389.out; subst eo160; obtain ⟨Ao161, co161, eo161⟩ := Kd.R_slice HO396.out; subst eo161) | (go_at_call 27; (with_reducible refine (tributarykit_SameDots.calls kj39 _ _ t387 _ _ y394 t397 _ ?side1 ?side2 ?side3 ?side4 A147.out).mono ?_); (case side1 => repeat (first | exact (Kd.R_reads' HO389.out).2.2 | (with_reducible refine Kd.C_alloc ?_ _) | (with_reducible refine Kd.C_drewN ?_ _) | (with_reducible refine Kd.C_drew ?_))); (case side2 => exact (Kd.R_reads' HO389.out).2.1); (case side3 => repeat (first | exact (Kd.R_reads' HO396.out).2.2 | (with_reducible refine Kd.C_alloc ?_ _) | (with_reducible refine Kd.C_drewN ?_ _) | (with_reducible refine Kd.C_drew ?_))); (case side4 => exact (Kd.R_reads' HO396.out).2.1); rintro e w' ⟨rfl, ⟨nd, rfl⟩⟩))
          go_ret
          exact ⟨by first | rfl | (simp [errW_none, errW_some] <;> rfl) | (simp [*, errW_none, errW_some] <;> rfl), by repeat (first | (with_reducible first | exact HB.out | apply below_alloc | apply pw_below_drewN | apply below_drew1 | refine below_set ?_ GE327.out | refine below_set ?_ GE333.out | refine below_set ?_ GE347.out | refine below_set ?_ GE348.out | refine below_set ?_ GE356.out | refine below_set ?_ GE357.out | refine below_set ?_ GE365.out | refine below_set ?_ GE366.out | refine below_set ?_ GE370.out | refine below_set ?_ GE374.out) | exact HB.out)⟩
         ·
          rw [if_neg c140] at H
          exact absurd (H.trans (congrArg some HR.out)) (by with_reducible repeat' first | exact ntb_false | exact ntb_none | exact tributarylaw06_DotKnown.j1_nt0 _ _ _ _ | exact tributarylaw06_DotKnown.j1_nt1 _ _ _ _ | exact tributarylaw06_DotKnown.j0_nt2 _ _ _ _ _ | refine ntb_iff ?_ | refine ntb_ite ?_ ?_ | refine ntb_bind (fun _ => ?_))
        ·
         rw [if_neg c139] at H
         exact absurd (H.trans (congrArg some HR.out)) (by with_reducible repeat' first | exact ntb_false | exact ntb_none | exact tributarylaw06_DotKnown.j1_nt0 _ _ _ _ | exact tributarylaw06_DotKnown.j1_nt1 _ _ _ _ | exact tributarylaw06_DotKnown.j0_nt2 _ _ _ _ _ | refine ntb_iff ?_ | refine ntb_ite ?_ ?_ | refine ntb_bind (fun _ => ?_))
       ·
        replace c138 := Bool.eq_false_iff.mpr c138
        subst c138
        have H1 : (some false) = some r := by rw [if_neg (show ¬ (false = true) by decide)] at H; exact H
        clear H
        have H := H1
        clear H1
        exact absurd (H.trans (congrArg some HR.out)) (by with_reducible repeat' first | exact ntb_false | exact ntb_none | exact tributarylaw06_DotKnown.j1_nt0 _ _ _ _ | exact tributarylaw06_DotKnown.j1_nt1 _ _ _ _ | exact tributarylaw06_DotKnown.j0_nt2 _ _ _ _ _ | refine ntb_iff ?_ | refine ntb_ite ?_ ?_ | refine ntb_bind (fun _ => ?_))
      ·
       replace c137 := Bool.eq_false_iff.mpr c137
       subst c137
       have H1 : (some false) = some r := by rw [if_neg (show ¬ (false = true) by decide)] at H; exact H
       clear H
       have H := H1
       clear H1
       exact absurd (H.trans (congrArg some HR.out)) (by with_reducible repeat' first | exact ntb_false | exact ntb_none | exact tributarylaw06_DotKnown.j1_nt0 _ _ _ _ | exact tributarylaw06_DotKnown.j1_nt1 _ _ _ _ | exact tributarylaw06_DotKnown.j0_nt2 _ _ _ _ _ | refine ntb_iff ?_ | refine ntb_ite ?_ ?_ | refine ntb_bind (fun _ => ?_))
     ·
      replace c136 := Bool.eq_false_iff.mpr c136
      subst c136
      have H1 : (some false) = some r := by rw [if_neg (show ¬ (false = true) by decide)] at H; exact H
      clear H
      have H := H1
      clear H1
      exact absurd (H.trans (congrArg some HR.out)) (by with_reducible repeat' first | exact ntb_false | exact ntb_none | exact tributarylaw06_DotKnown.j1_nt0 _ _ _ _ | exact tributarylaw06_DotKnown.j1_nt1 _ _ _ _ | exact tributarylaw06_DotKnown.j0_nt2 _ _ _ _ _ | refine ntb_iff ?_ | refine ntb_ite ?_ ?_ | refine ntb_bind (fun _ => ?_))
end
end Go.Proofs.YtdelfhahbngcfaaDoorX.P06
end
section
namespace Go.Proofs.YtdelfhahbngcfaaDoorX.P06
open Go.RowKit Go.Proofs.YtdelfhahbngcfaaDoorW.PrintWords Go.Proofs.YtdelfhahbngcfaaDoorW.PrintLast Go.Proofs.YtdelfhahbngcfaaDoorW.PrintMore
open Go.Lib (decDigits)
set_option linter.unusedVariables false
set_option linter.unusedSimpArgs false
theorem str_inj {a b : List UInt8} (h : str a = str b) : a = b := by
  have := congrArg (fun s : ByteArray => s.data.toList) h
  exact this
theorem noText_a : ¬ IsText (str [51, 46]) := by
  rintro ⟨p, hp, e⟩
  have e := str_inj e
  unfold textL at e
  have h1 := (dec_val p.1.toNat).2.2
  have h2 := (dec_val p.2.toNat).2.2
  have h3 := congrArg List.length e
  rw [List.length_append, List.length_cons] at h3
  have h4 : 0 < (decDigits p.1.toNat).length := List.length_pos_iff.2 h1
  have h5 : 0 < (decDigits p.2.toNat).length := List.length_pos_iff.2 h2
  simp only [List.length_cons, List.length_nil] at h3
  omega
theorem noText_b : ¬ IsText (str [48, 51, 46, 49]) := by
  rintro ⟨p, hp, e⟩
  have e := str_inj e
  unfold textL at e
  obtain ⟨c, t, h1, h2⟩ := dec_head p.1.toNat (by unfold okD at hp; omega)
  rw [h1, List.cons_append] at e
  injection e with e1 e2
  exact h2 e1.symm
theorem parse_a : dot_Parse.f (⟨#[51, 46]⟩ : ByteArray) = some (0, 0, 2) := by
  rw [parse_eq _ (by decide)]
  exact congrArg some (parseV_no noText_a)
theorem parse_b : dot_Parse.f (⟨#[48, 51, 46, 49]⟩ : ByteArray) = some (0, 0, 2) := by
  rw [parse_eq _ (by decide)]
  exact congrArg some (parseV_no noText_b)
theorem next_a : dot_Next.f 3 258 = some (3, 259, 0) := by
  rw [next_eq, if_pos (by unfold okD; omega), if_neg (by omega)]
  rfl
theorem next_b : dot_Next.f 3 2147483647 = some (0, 0, 5) := by
  rw [next_eq, if_pos (by unfold okD; omega), if_pos rfl]
theorem chk_a : dot_Check.f 201 1 = some 2 := chk_no (by unfold okD; omega)
theorem chk_b : dot_Check.f 1 0 = some 2 := chk_no (by unfold okD; omega)
theorem chk_c : dot_Check.f 200 2147483647 = some 0 := chk_yes (by unfold okD; omega)
theorem read_a : dot_Read.f [] = some (0, 0, 4, 0) := by decide +kernel
theorem read_b : dot_Read.f [3, 0, 0, 1, 2, 0] = some (0, 0, 4, 5) := by decide +kernel
theorem read_c : dot_Read.f [0, 0, 0, 0, 1] = some (0, 0, 2, 0) := by decide +kernel
theorem sort_a : dot_Sort.f [⟨2, 1⟩, ⟨1, 9⟩, ⟨2, 1⟩] = some [⟨1, 9⟩, ⟨2, 1⟩] := by
  unfold dot_Sort.f
  rw [if_pos (by simp), sort_is (a := [⟨1, 9⟩, ⟨2, 1⟩]) (by decide) (fun x => by simp only [List.mem_cons, List.not_mem_nil, or_false]; exact ⟨fun h => by rcases h with h | h | h <;> simp [h], fun h => by rcases h with h | h <;> simp [h]⟩)]
theorem known_j1 : Ev (fun k => tributarylaw06_DotKnown.j1 k true 2 2 true) true := by
  refine Ev.step (fun _ => rfl) ?_
  simp only [tributarylaw06_DotKnown.j1]
  refine ev_eq awake_eq (ev_pos (by simp) (ev_pos (by simp) (ev_pos (by simp) (ev_pos (by simp) (ev_pos (by simp) ?_)))))
  refine ev_eq (b := (2, 1)) rfl (ev_eq (b := (1, 9)) rfl (ev_eq (b := (2, 1)) rfl (ev_eq sort_a (ev_eq (b := (1, 9)) rfl (ev_eq (b := (2, 1)) rfl ?_)))))
  exact Ev.bind (sameD_ev [⟨1, 9⟩, ⟨2, 1⟩] (by simp)) (Ev.now _)
theorem known_j0 : Ev (fun k => tributarylaw06_DotKnown.j0 k 0 5 true 3 259) true := by
  refine Ev.step (fun _ => rfl) ?_
  simp only [tributarylaw06_DotKnown.j0]
  refine ev_eq read_a (ev_eq read_b (ev_eq read_c (ev_eq parse_a (ev_eq parse_b (ev_pos (by simp) (ev_eq (b := (3, 259)) rfl (ev_pos (by simp) (ev_pos (by simp) (ev_pos (by simp) (ev_pos (by simp) ?_))))))))))
  exact known_j1
theorem known_ev : Ev (fun k => tributarylaw06_DotKnown.f k) true := by
  unfold tributarylaw06_DotKnown.f
  refine ev_eq (b := (3, 258)) rfl (ev_eq next_a (ev_eq (b := (3, 2147483647)) rfl (ev_eq next_b (ev_eq (b := (201, 1)) rfl (ev_eq chk_a (ev_pos rfl (ev_eq (b := (1, 0)) rfl (ev_eq chk_b (ev_pos rfl (ev_eq (b := (200, 2147483647)) rfl (ev_eq chk_c ?_)))))))))))
  exact known_j0
theorem known_true {k : Nat} {r : Bool} (h : tributarylaw06_DotKnown.f k = some r) : r = true := by
  obtain ⟨K, hK⟩ := known_ev
  have h1 := hK (max K k) (Nat.le_max_left _ _)
  have h2 := at_rounds tributarylaw06_DotKnown.mono (Nat.le_max_right K k) h
  exact Option.some.inj (h2.symm.trans h1)
theorem tributarylaw06_DotKnown.calls (k : Nat)  (r : Bool) (w : World) (h : tributarylaw06_DotKnown.f k  = some r) (hT : Laid w) :
    Calls Tryd.prog 7 #[] w fun e w' => e = .returned (.bool r) ∧ Below w.heap.size w w' :=
  tributarylaw06_DotKnown.callsT k r w h hT (known_true h)
end Go.Proofs.YtdelfhahbngcfaaDoorX.P06
end
