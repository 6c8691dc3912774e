/- Walks: the small functions of chunk's chapter: SameMessage, none, Item, Used, Drop, New, Clone. No conditions. -/
import Derived.Test.YtnlninmjmjffcaaTh
import Derived.Test.YtnlninmjmjffcaaLib2
namespace Go.Proofs.Ytnlninmjmjffcaa
open Go.RowKit
set_option linter.unusedVariables false
set_option linter.unusedSimpArgs false

def eqM (k i s a : Int) (l : List UInt8) (k' i' s' a' : Int) (l' : List UInt8) : Bool := k == k' && i == i' && s == s' && a == a' && eqB l l'
set_option maxHeartbeats 400000 in
theorem sameMsg_any (k i s a k' i' s' a' : Int) (A A' : Option Addr) (n c n' c' : Nat) (l l' : List UInt8) (w : World) (h1 : Rd w A n c 1 (u8s l)) (h2 : Rd w A' n' c' 1 (u8s l')) :
    Calls Try.prog 45 #[.agg #[.int .i64 k, .int .i64 i, .int .i64 s, .int .i64 a, .slice A n c], .agg #[.int .i64 k', .int .i64 i', .int .i64 s', .int .i64 a', .slice A' n' c']] w fun e w' =>
      e = .returned (.bool (eqM k i s a l k' i' s' a' l')) ∧ Below w.heap.size w w' := by
  have hb2 : Below w.heap.size w ((w.alloc (.cells #[.int .i64 k, .int .i64 i, .int .i64 s, .int .i64 a, .slice A n c] 50)).alloc (.cells #[.int .i64 k', .int .i64 i', .int .i64 s', .int .i64 a', .slice A' n' c'] 50)) := ((Below.refl _ w).alloc (Nat.le_refl _) _).alloc (by simp) _
  have h1' := Lib.hid (h1.below hb2)
  have h2' := Lib.hid (h2.below hb2)
  clear h1 h2
  go_enter Try.func45, Try.ntmps45
  go_wp2_with fail
  · subst_vars
    refine (same_any _ _ _ _ _ _ l l' _ h1'.out h2'.out).mono ?_; rintro e w1 ⟨rfl, rfl⟩
    go_wp2
    go_ret
    exact ⟨ret_bool (by simp [eqM]), hb2⟩
  all_goals (go_ret; subst_vars; exact ⟨ret_bool (by simp_all [eqM]), hb2⟩)

/-- block B holds the cells cs, thawed -/
def Blk (w : World) (B : Nat) (t : TypeId) (cs : Array Value) : Prop := w.heap[B]? = some (.cells cs t (0, 0))
theorem blk_cell {w : World} {B : Nat} {t : TypeId} {cs : Array Value} (h : Blk w B t cs) (j : Nat) (u : Value) (hu : cs[j]? = some u) : w.cell? ⟨B, j, none⟩ = some u := by
  rw [cell_of_row w B j cs t (0, 0) h]; exact hu
theorem blk_thawed {w : World} {B : Nat} {t : TypeId} {cs : Array Value} (h : Blk w B t cs) (j : Nat) : w.frozen? ⟨B, j, none⟩ = false := by
  unfold Blk at h
  simp [World.frozen?, h]
theorem blk_set {w : World} {B : Nat} {t : TypeId} {cs : Array Value} (h : Blk w B t cs) (j : Nat) (u : Value) : Blk (w.setCell ⟨B, j, none⟩ u) B t (cs.setIfInBounds j u) := by
  unfold Blk at h ⊢
  simp [World.setCell, Array.getElem?_modify, h]
theorem blk_lt {w : World} {B : Nat} {t : TypeId} {cs : Array Value} (h : Blk w B t cs) : B < w.heap.size := (Array.getElem?_eq_some_iff.1 h).1
theorem blk_ch {S : Nat → Prop} {w w' : World} {B : Nat} {t : TypeId} {cs : Array Value} (h : Blk w B t cs) (hc : Ch S w w') (hS : ¬ S B) : Blk w' B t cs := (hc.block B (blk_lt h) hS).trans h
theorem blk_below {w w' : World} {B : Nat} {t : TypeId} {cs : Array Value} (h : Blk w B t cs) (hc : Below w.heap.size w w') : Blk w' B t cs := (hc.block B (blk_lt h)).trans h
theorem blk_new (w : World) (t : TypeId) (cs : Array Value) : Blk (w.alloc (.cells cs t)) w.heap.size t cs := heap_alloc_new w _

/-- a box of chunk's: its quota, its item, its size, what came -/
def BoxC (w : World) (B : Nat) (q it sz : Int) (A : Option Addr) (n c : Nat) : Prop := Blk w B 68 #[.bool true, .int .i64 q, .int .i64 it, .int .i64 sz, .slice A n c]
/-- a box of the reference -/
def BoxR (w : World) (B : Nat) (q it sz : Int) (A : Option Addr) (n c : Nat) : Prop := Blk w B 65 #[.int .i64 q, .int .i64 it, .int .i64 sz, .slice A n c]

set_option maxHeartbeats 400000 in
theorem none_some (B : Nat) (w : World) (h : w.cell? ⟨B, 0, none⟩ = some (.bool true)) :
    Calls Try.prog 61 #[.pointer (some ⟨B, 0, none⟩)] w fun e w' => e = .returned (.bool false) ∧ w = w' := by
  go_enter Try.func61, Try.ntmps61
  go_wp2
  go_ret
  exact ⟨rfl, rfl⟩
set_option maxHeartbeats 400000 in
theorem none_off (B : Nat) (w : World) (h : w.cell? ⟨B, 0, none⟩ = some (.bool false)) :
    Calls Try.prog 61 #[.pointer (some ⟨B, 0, none⟩)] w fun e w' => e = .returned (.bool true) ∧ w = w' := by
  go_enter Try.func61, Try.ntmps61
  go_wp2
  go_ret
  exact ⟨rfl, rfl⟩
set_option maxHeartbeats 400000 in
theorem none_nil (w : World) :
    Calls Try.prog 61 #[.pointer none] w fun e w' => e = .returned (.bool true) ∧ w = w' := by
  go_enter Try.func61, Try.ntmps61
  go_wp2
  go_ret
  exact ⟨rfl, rfl⟩
set_option maxHeartbeats 400000 in
theorem item_any {B : Nat} {q it sz : Int} {A : Option Addr} {n c : Nat} {w : World} (h : BoxC w B q it sz A n c) :
    Calls Try.prog 46 #[.pointer (some ⟨B, 0, none⟩)] w fun e w' => e = .returned (.int .i64 it) ∧ w = w' := by
  have h0 := blk_cell h 0 _ rfl
  have h2 := blk_cell h 2 _ rfl
  have hH := Lib.hid h
  clear h
  go_enter Try.func46, Try.ntmps46
  go_wp2_with fail
  refine (none_some B w h0).mono ?_; rintro e w1 ⟨rfl, rfl⟩
  go_wp2
  go_ret
  exact ⟨rfl, rfl⟩
set_option maxHeartbeats 400000 in
theorem used_any {B : Nat} {q it sz : Int} {A : Option Addr} {n c : Nat} {w : World} (h : BoxC w B q it sz A n c) :
    Calls Try.prog 47 #[.pointer (some ⟨B, 0, none⟩)] w fun e w' => e = .returned (.int .i64 n) ∧ w = w' := by
  have h0 := blk_cell h 0 _ rfl
  have h4 := blk_cell h 4 _ rfl
  have hH := Lib.hid h
  clear h
  go_enter Try.func47, Try.ntmps47
  go_wp2_with fail
  refine (none_some B w h0).mono ?_; rintro e w1 ⟨rfl, rfl⟩
  go_wp2
  go_ret
  exact ⟨rfl, rfl⟩
set_option maxHeartbeats 400000 in
theorem drop_any {B : Nat} {q it sz : Int} {A : Option Addr} {n c : Nat} {w : World} (h : BoxC w B q it sz A n c) :
    Calls Try.prog 39 #[.pointer (some ⟨B, 0, none⟩)] w fun e w' => e = .returned (.tuple #[]) ∧ BoxC w' B q 0 0 none 0 0 ∧ Ch (fun k => k = B) w w' := by
  have h0 := blk_cell h 0 _ rfl
  have h2 := blk_cell h 2 _ rfl
  have h3 := blk_cell h 3 _ rfl
  have h4 := blk_cell h 4 _ rfl
  have f2 := blk_thawed h 2
  have f3 := blk_thawed h 3
  have f4 := blk_thawed h 4
  have hH := Lib.hid h
  clear h
  go_enter Try.func39, Try.ntmps39
  go_wp2_with fail
  refine (none_some B w h0).mono ?_; rintro e w1 ⟨rfl, rfl⟩
  go_wp2
  refine bodyPost_end (results_none rfl _ _ _) rfl ?_
  refine ⟨rfl, ?_, ?_⟩
  · exact blk_set (blk_set (blk_set hH.out 2 _) 3 _) 4 _
  · exact ((Ch.setCell w ⟨B, 2, none⟩ _).trans (Ch.setCell _ ⟨B, 3, none⟩ _) (fun i hi => .inl hi)).trans (Ch.setCell _ ⟨B, 4, none⟩ _) (fun i hi => .inl hi)
set_option maxHeartbeats 400000 in
theorem dropr_any {B : Nat} {q it sz : Int} {A : Option Addr} {n c : Nat} {w : World} (h : BoxR w B q it sz A n c) :
    Calls Try.prog 40 #[.pointer (some ⟨B, 0, none⟩)] w fun e w' => e = .returned (.tuple #[]) ∧ BoxR w' B q 0 0 none 0 0 ∧ Ch (fun k => k = B) w w' := by
  have h2 := blk_cell h 1 _ rfl
  have h3 := blk_cell h 2 _ rfl
  have h4 := blk_cell h 3 _ rfl
  have f2 := blk_thawed h 1
  have f3 := blk_thawed h 2
  have f4 := blk_thawed h 3
  have hH := Lib.hid h
  clear h
  go_enter Try.func40, Try.ntmps40
  go_wp2
  refine bodyPost_end (results_none rfl _ _ _) rfl ?_
  refine ⟨rfl, ?_, ?_⟩
  · exact blk_set (blk_set (blk_set hH.out 1 _) 2 _) 3 _
  · exact ((Ch.setCell w ⟨B, 1, none⟩ _).trans (Ch.setCell _ ⟨B, 2, none⟩ _) (fun i hi => .inl hi)).trans (Ch.setCell _ ⟨B, 3, none⟩ _) (fun i hi => .inl hi)

def NewQ (w : World) (q : Int) (e : Ending) (w' : World) : Prop :=
  ((q < 0 ∨ 60000 < q) ∧ e = .returned (.tuple #[.pointer none, .int .i64 2]) ∧ w' = w) ∨
  (0 ≤ q ∧ q ≤ 60000 ∧ e = .returned (.tuple #[.pointer (some ⟨w.heap.size, 0, none⟩), .int .i64 0]) ∧ BoxC w' w.heap.size q 0 0 none 0 0 ∧ Below w.heap.size w w')
set_option maxHeartbeats 400000 in
theorem new_any (q : Int) (w : World) : Calls Try.prog 37 #[.int .i64 q] w (NewQ w q) := by
  by_cases h0 : q < 0
  · go_enter Try.func37, Try.ntmps37
    go_wp2
    exact bodyPost_ret (results_tmp2 rfl _ _ _) rfl (.inl ⟨.inl h0, rfl, rfl⟩)
  by_cases h1 : 60000 < q
  · go_enter Try.func37, Try.ntmps37
    go_wp2
    exact bodyPost_ret (results_tmp2 rfl _ _ _) rfl (.inl ⟨.inr h1, rfl, rfl⟩)
  · go_enter Try.func37, Try.ntmps37
    go_wp2
    exact bodyPost_ret (results_tmp2 rfl _ _ _) rfl (.inr ⟨by omega, by omega, rfl, blk_new _ _ _, (Below.refl _ _).alloc (Nat.le_refl _) _⟩)
def NewRQ (w : World) (q : Int) (e : Ending) (w' : World) : Prop :=
  ((q < 0 ∨ 60000 < q) ∧ e = .returned (.tuple #[.pointer none, .int .i64 2]) ∧ w' = w) ∨
  (0 ≤ q ∧ q ≤ 60000 ∧ e = .returned (.tuple #[.pointer (some ⟨w.heap.size, 0, none⟩), .int .i64 0]) ∧ BoxR w' w.heap.size q 0 0 none 0 0 ∧ Below w.heap.size w w')
set_option maxHeartbeats 400000 in
theorem newr_any (q : Int) (w : World) : Calls Try.prog 38 #[.int .i64 q] w (NewRQ w q) := by
  by_cases h0 : q < 0
  · go_enter Try.func38, Try.ntmps38
    go_wp2
    exact bodyPost_ret (results_tmp2 rfl _ _ _) rfl (.inl ⟨.inl h0, rfl, rfl⟩)
  by_cases h1 : 60000 < q
  · go_enter Try.func38, Try.ntmps38
    go_wp2
    exact bodyPost_ret (results_tmp2 rfl _ _ _) rfl (.inl ⟨.inr h1, rfl, rfl⟩)
  · go_enter Try.func38, Try.ntmps38
    go_wp2
    exact bodyPost_ret (results_tmp2 rfl _ _ _) rfl (.inr ⟨by omega, by omega, rfl, blk_new _ _ _, (Below.refl _ _).alloc (Nat.le_refl _) _⟩)

end Go.Proofs.Ytnlninmjmjffcaa
