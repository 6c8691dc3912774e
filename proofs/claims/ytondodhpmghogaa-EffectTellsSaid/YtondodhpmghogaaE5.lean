/- Walks: the order of effects (the program's, the reference's), what is the same. Conditions: the slices are read. -/
import Derived.Test.YtondodhpmghogaaE4
import Derived.Lib.BytesEntry
import Derived.Lib.Small
import Derived.Deep.RegionHeld3
namespace Go.Proofs.Ytondodhpmghogaa
open Go.RowKit
set_option linter.unusedVariables false
set_option linter.unusedSimpArgs false

/-- the first that is not 0 -/
def orL : List Int → Int
  | [] => 0
  | x :: r => if x = 0 then orL r else x
theorem orL3 (x y z : Int) : orL [x, y, z] = if x = 0 then (if y = 0 then (if z = 0 then 0 else z) else y) else x := rfl
/-- how two effects compare -/
def ordE (k m : Int) (l : List UInt8) (k2 m2 : Int) (l2 : List UInt8) : Int := orL [Lib.compareInt k k2, Lib.compareInt m m2, Lib.compareBytes l l2]
def lessE (k m : Int) (l : List UInt8) (k2 m2 : Int) (l2 : List UInt8) : Bool := decide (ordE k m l k2 m2 l2 < 0)
theorem bytesLess_cmp : ∀ a b : List UInt8, Op.bytesLess a b = decide (Lib.compareBytes a b < 0)
  | [], [] => by simp [Op.bytesLess, Lib.compareBytes]
  | [], _ :: _ => by simp [Op.bytesLess, Lib.compareBytes]
  | _ :: _, [] => by simp [Op.bytesLess, Lib.compareBytes]
  | a :: x, b :: y => by
    have ih := bytesLess_cmp x y
    unfold Op.bytesLess Lib.compareBytes
    by_cases h : a < b
    · simp [h]
    · by_cases h2 : b < a
      · have h3 : (a == b) = false := by
          rw [beq_eq_false_iff_ne]
          intro e; subst e; exact h h2
        simp [h, h2, h3]
      · have h3 : a = b := by
          apply UInt8.toNat_inj.1
          rw [UInt8.lt_iff_toNat_lt] at h h2
          omega
        subst h3
        simp [ih]
theorem cmpBytes_zero : ∀ a b : List UInt8, Lib.compareBytes a b = 0 ↔ a = b
  | [], [] => by simp [Lib.compareBytes]
  | [], _ :: _ => by simp [Lib.compareBytes]
  | _ :: _, [] => by simp [Lib.compareBytes]
  | a :: x, b :: y => by
    have ih := cmpBytes_zero x y
    unfold Lib.compareBytes
    by_cases h : a < b
    · have : a ≠ b := by intro e; subst e; rw [UInt8.lt_iff_toNat_lt] at h; omega
      simp [h, this]
    · by_cases h2 : b < a
      · have : a ≠ b := by intro e; subst e; exact h h2
        simp [h, h2, this]
      · have h3 : a = b := by
          apply UInt8.toNat_inj.1
          rw [UInt8.lt_iff_toNat_lt] at h h2
          omega
        subst h3
        simp [ih]
theorem cmpInt_zero (a b : Int) : Lib.compareInt a b = 0 ↔ a = b := by
  unfold Lib.compareInt
  split
  · simp; omega
  · split <;> simp <;> omega
theorem ordE_zero (k m : Int) (l : List UInt8) (k2 m2 : Int) (l2 : List UInt8) : ordE k m l k2 m2 l2 = 0 ↔ k = k2 ∧ m = m2 ∧ l = l2 := by
  unfold ordE
  rw [orL3]
  have h1 := cmpInt_zero k k2
  have h2 := cmpInt_zero m m2
  have h3 := cmpBytes_zero l l2
  split
  · rename_i e1
    split
    · rename_i e2
      split
      · rename_i e3; simp [h1.1 e1, h2.1 e2, h3.1 e3]
      · rename_i e3; constructor
        · intro e; exact absurd e e3
        · rintro ⟨_, _, e⟩; exact h3.2 e
    · rename_i e2; constructor
      · intro e; exact absurd e e2
      · rintro ⟨_, e, _⟩; exact h2.2 e
  · rename_i e1; constructor
    · intro e; exact absurd e e1
    · rintro ⟨e, _, _⟩; exact h1.2 e
theorem sameE_ord (k m : Int) (l : List UInt8) (k2 m2 : Int) (l2 : List UInt8) : sameE k m l k2 m2 l2 = (ordE k m l k2 m2 l2 == 0) := by
  rw [Bool.eq_iff_iff, beq_iff_eq, ordE_zero]
  unfold sameE
  rw [Bool.and_eq_true, Bool.and_eq_true, beq_iff_eq, beq_iff_eq]
  constructor
  · rintro ⟨a, b, c⟩; exact ⟨a, b, by simpa [eqB] using c⟩
  · rintro ⟨a, b, c⟩; exact ⟨a, b, by simpa [eqB] using c⟩

theorem cmp_any (x y : Int) (w : World) :
    Calls Try.prog 80 #[.int .i64 x, .int .i64 y] w fun e w' => e = .returned (.int .i64 (Lib.compareInt x y)) ∧ w = w' := by
  go_enter Try.func80, Try.ntmps80
  go_wp2
  all_goals (go_ret; refine ⟨?_, rfl⟩; unfold Lib.compareInt; (repeat' split) <;> first | rfl | (exfalso; omega))
theorem loadB {P : Program} {w : World} {A : Option Addr} {n c : Nat} {l : List UInt8} (h : Rd w A n c 1 (u8s l)) : (Extern.Bytes.bytesOf (.slice A n c)).run P w = .ok ⟨l.toArray⟩ w := by
  have hl : l.length = n := by have := h.len; simpa using this
  cases A with
  | none =>
    obtain ⟨rfl, rfl, hl0⟩ := h.nils rfl
    obtain rfl : l = [] := List.eq_nil_of_length_eq_zero hl
    rfl
  | some a =>
    have hx := Lib.run_loadBytesX (P := P) w (l.map fun c => (c.toNat : Int)) a .empty (fun j x hj => by
      rw [List.getElem?_map] at hj
      obtain ⟨u, hu, rfl⟩ := Option.map_eq_some_iff.1 hj
      obtain ⟨b, off, e, hc⟩ := h.cells j (.int .u8 (u.toNat : Int)) (by unfold u8s; rw [List.getElem?_map, hu]; rfl)
      cases e
      have e2 : (⟨b, off, none⟩ : Addr).add j = ⟨b, off + j, none⟩ := by unfold Addr.add; split <;> simp_all
      rw [e2]; exact hc)
    rw [List.length_map, hl] at hx
    have e3 : Lib.bytesOf (l.map fun c => (c.toNat : Int)) = l := by
      unfold Lib.bytesOf
      rw [List.map_map]
      conv => rhs; rw [← List.map_id l]
      apply List.map_congr_left
      intro u _
      simp
    rw [e3] at hx
    show (Extern.Bytes.loadBytes a n .empty).run P w = _
    rw [hx]
    congr 1
    apply ByteArray.ext
    show (#[] : Array UInt8) ++ l.toArray = l.toArray
    simp
theorem run_cmpB {P : Program} {w : World} {A : Option Addr} {n c : Nat} {l : List UInt8} {A2 : Option Addr} {n2 c2 : Nat} {l2 : List UInt8} (h1 : Rd w A n c 1 (u8s l)) (h2 : Rd w A2 n2 c2 1 (u8s l2)) :
    (Extern.BytealgCompare.compare #[.slice A n c, .slice A2 n2 c2]).run P w = .ok (.int .i64 (Lib.compareBytes l l2)) w := by
  change Sem.run P (do pure (goInt (Extern.BytealgCompare.cmp (← Extern.Bytes.bytesOf (.slice A n c)) (← Extern.Bytes.bytesOf (.slice A2 n2 c2))))) w = _
  simp only [Sem.run_bind, Sem.run_pure, loadB h1, loadB h2, Result.andThen]
  rw [Lib.cmp_eq]
  rfl
set_option maxRecDepth 100000 in
set_option maxHeartbeats 1000000 in
theorem bcmp_any {w : World} {A : Option Addr} {n c : Nat} {l : List UInt8} {A2 : Option Addr} {n2 c2 : Nat} {l2 : List UInt8} (h1 : Rd w A n c 1 (u8s l)) (h2 : Rd w A2 n2 c2 1 (u8s l2)) :
    Calls Try.prog 81 #[.slice A n c, .slice A2 n2 c2] w fun e w' => e = .returned (.int .i64 (Lib.compareBytes l l2)) ∧ w = w' := by
  have hx := run_cmpB (P := Try.prog) h1 h2
  have HX := Lib.hid hx
  clear hx h1 h2
  go_enter Try.func81, Try.ntmps81
  go_wp2
  rw [run_callFunc_extern Try.func85 (by kernel_rfl) (by kernel_rfl) (by kernel_rfl) (e := Extern.BytealgCompare.compare) (by kernel_rfl), HX.out]
  simp only [Result.andThen]
  rw [Oper.upon_value]
  go_wp2
  go_ret
  exact ⟨rfl, rfl⟩
def i64s (xs : List Int) : List Value := xs.map (Value.int .i64)
set_option maxRecDepth 100000 in
set_option maxHeartbeats 1000000 in
theorem or_any {w : World} {A : Option Addr} {n c : Nat} {xs : List Int} (h : Rd w A n c 1 (i64s xs)) :
    Calls Try.prog 82 #[.slice A n c] w fun e w' => e = .returned (.int .i64 (orL xs)) ∧ w = w' := by
  have hl : xs.length = n := by have := h.len; simpa [i64s] using this
  have hbig := h.big
  have hcap := h.cap
  have H := Lib.hid h; have HL := Lib.hid hl
  clear h hl
  go_enter Try.func82, Try.ntmps82
  go_wp2
  go_loop [8] (fun i => ∃ k : Nat, k ≤ n ∧ i = .int .i64 k ∧ Hid (orL xs = orL (xs.drop k))) (fun i => n - (intOf i).toNat)
  case atStart => exact ⟨0, Nat.zero_le _, rfl, Lib.hid rfl⟩
  case round =>
    obtain ⟨k, hk, rfl, HO⟩ := hrel
    by_cases hlt : k < n
    · have hkx : k < xs.length := by rw [HL.out]; exact hlt
      obtain ⟨b, off, rfl, hc⟩ := H.out.cells k (.int .i64 xs[k]) (by unfold i64s; simp [hkx])
      have hd : orL (xs.drop k) = if xs[k] = 0 then orL (xs.drop (k + 1)) else xs[k] := by rw [List.drop_eq_getElem_cons hkx]; rfl
      obtain ⟨x, hx⟩ : ∃ x, x = xs[k] := ⟨_, rfl⟩
      rw [← hx] at hc hd
      have HD := Lib.hid hd
      clear hx hd hkx
      by_cases h0 : x = 0
      · have g : (x != 0) = false := by simpa using h0
        have HN : Hid (orL xs = orL (xs.drop (k + 1))) := Lib.hid (by rw [HO.out, HD.out, if_pos h0])
        clear HO HD h0
        go_wp2
        go_round
        case rel => exact ⟨k + 1, by omega, by go_num, HN⟩
        case measure => simp [intOf]; omega
      · have g : (x != 0) = true := by simpa using h0
        have HN : Hid (orL xs = x) := Lib.hid (by rw [HO.out, HD.out, if_neg h0])
        clear HO HD h0
        go_wp2
        go_ret
        exact ⟨by rw [HN.out]; rfl, rfl⟩
    · obtain rfl : n = k := by omega
      have HN : Hid (orL xs = 0) := Lib.hid (by rw [HO.out, List.drop_of_length_le (by rw [HL.out]; exact Nat.le_refl _)]; rfl)
      clear HO
      go_wp2
      go_ret
      exact ⟨by rw [HN.out]; rfl, rfl⟩
set_option maxRecDepth 100000 in
set_option maxHeartbeats 2000000 in
theorem order_any (k m : Int) {A : Option Addr} {n c : Nat} {l : List UInt8} (k2 m2 : Int) {A2 : Option Addr} {n2 c2 : Nat} {l2 : List UInt8} {w : World} (h1 : Rd w A n c 1 (u8s l)) (h2 : Rd w A2 n2 c2 1 (u8s l2)) :
    Calls Try.prog 74 #[.agg #[.int .i64 k, .int .i64 m, .slice A n c], .agg #[.int .i64 k2, .int .i64 m2, .slice A2 n2 c2]] w fun e w' => e = .returned (.int .i64 (ordE k m l k2 m2 l2)) ∧ Below w.heap.size w w' := by
  obtain ⟨V, hV⟩ : ∃ z, z = (w.alloc (.cells #[.int .i64 k, .int .i64 m, .slice A n c] 72)).alloc (.cells #[.int .i64 k2, .int .i64 m2, .slice A2 n2 c2] 72) := ⟨_, rfl⟩
  have hb : Below w.heap.size w V := by rw [hV]; exact (box_below w _).alloc (by simp) _
  have hB1 : Blk V w.heap.size 72 #[.int .i64 k, .int .i64 m, .slice A n c] := by rw [hV]; exact blk_below (blk_new _ _ _) (box_below _ _)
  have hB2 : Blk V (w.heap.size + 1) 72 #[.int .i64 k2, .int .i64 m2, .slice A2 n2 c2] := by
    rw [hV]
    have := blk_new (w.alloc (.cells #[.int .i64 k, .int .i64 m, .slice A n c] 72)) 72 #[.int .i64 k2, .int .i64 m2, .slice A2 n2 c2]
    rwa [World.size_alloc] at this
  have a0 := blk_cell hB1 0 _ rfl
  have a1 := blk_cell hB1 1 _ rfl
  have a2 := blk_cell hB1 2 _ rfl
  have b0 := blk_cell hB2 0 _ rfl
  have b1 := blk_cell hB2 1 _ rfl
  have b2 := blk_cell hB2 2 _ rfl
  have q1 := h1.below hb
  have q2 := h2.below hb
  have r1 : Rd V.drew A n c 1 (u8s l) := (h1.below hb).ch (Ch.drew V No) (fun _ _ => id)
  have r2 : Rd V.drew A2 n2 c2 1 (u8s l2) := (h2.below hb).ch (Ch.drew V No) (fun _ _ => id)
  have HB := Lib.hid hb
  have HO := Lib.hid (show ordE k m l k2 m2 l2 = orL [Lib.compareInt k k2, Lib.compareInt m m2, Lib.compareBytes l l2] from rfl)
  clear h1 h2 hb hB1 hB2
  go_enter Try.func74, Try.ntmps74
  go_wp2_with fail
  rw [← hV]
  clear hV
  go_region_held3 (fun W => W.cell? ⟨w.heap.size, 0, none⟩ = some (.int .i64 k) ∧ W.cell? ⟨w.heap.size, 1, none⟩ = some (.int .i64 m) ∧ W.cell? ⟨w.heap.size, 2, none⟩ = some (.slice A n c) ∧ W.cell? ⟨w.heap.size + 1, 0, none⟩ = some (.int .i64 k2) ∧ W.cell? ⟨w.heap.size + 1, 1, none⟩ = some (.int .i64 m2) ∧ W.cell? ⟨w.heap.size + 1, 2, none⟩ = some (.slice A2 n2 c2))
    (first | exact ⟨a0, a1, a2, b0, b1, b2⟩ | exact ⟨below_cell (box_below V.drew _) a0, below_cell (box_below V.drew _) a1, below_cell (box_below V.drew _) a2, below_cell (box_below V.drew _) b0, below_cell (box_below V.drew _) b1, below_cell (box_below V.drew _) b2⟩)
    (first | (go_at_call 80; ((with_reducible refine (cmp_any _ _ _).mono ?_); rintro e wx ⟨rfl, rfl⟩)) | (go_at_call 81; ((with_reducible refine (bcmp_any r1 r2).mono ?_); rintro e wx ⟨rfl, rfl⟩)) | (go_at_call 81; ((with_reducible refine (bcmp_any ((q1.below (box_below V _)).ch (Ch.drew _ No) (fun _ _ => id)) ((q2.below (box_below V _)).ch (Ch.drew _ No) (fun _ _ => id))).mono ?_); rintro e wx ⟨rfl, rfl⟩)))
  all_goals
    have hT := blk_new V 99 #[.int .i64 (Lib.compareInt k k2), .int .i64 (Lib.compareInt m m2), .int .i64 (Lib.compareBytes l l2)]
    have hrd : Rd (V.alloc (.cells #[.int .i64 (Lib.compareInt k k2), .int .i64 (Lib.compareInt m m2), .int .i64 (Lib.compareBytes l l2)] 99)).drew (some ⟨V.heap.size, 0, none⟩) 3 3 1 (i64s [Lib.compareInt k k2, Lib.compareInt m m2, Lib.compareBytes l l2]) := ⟨rfl, by decide, by decide, (fun e => by cases e), fun j u hu => ⟨V.heap.size, 0, rfl, by rw [Nat.zero_add]; exact blk_cell hT j u (by rw [← List.getElem?_toArray] at hu; exact hu)⟩⟩
    have HRD := Lib.hid hrd
    clear hT hrd
    go_wp2_with fail
    refine (or_any HRD.out).mono ?_
    rw [← HO.out]
    rintro e w3 ⟨rfl, rfl⟩
    go_wp2
    go_ret
    exact ⟨rfl, (HB.out.alloc HB.out.size _).drew⟩
set_option maxRecDepth 100000 in
set_option maxHeartbeats 2000000 in
theorem esam_any (k m : Int) {A : Option Addr} {n c : Nat} {l : List UInt8} (k2 m2 : Int) {A2 : Option Addr} {n2 c2 : Nat} {l2 : List UInt8} {w : World} (h1 : Rd w A n c 1 (u8s l)) (h2 : Rd w A2 n2 c2 1 (u8s l2)) :
    Calls Try.prog 50 #[.agg #[.int .i64 k, .int .i64 m, .slice A n c], .agg #[.int .i64 k2, .int .i64 m2, .slice A2 n2 c2]] w fun e w' => e = .returned (.bool (sameE k m l k2 m2 l2)) ∧ Below w.heap.size w w' := by
  have hb : Below w.heap.size w ((w.alloc (.cells #[.int .i64 k, .int .i64 m, .slice A n c] 72)).alloc (.cells #[.int .i64 k2, .int .i64 m2, .slice A2 n2 c2] 72)) := (box_below w _).alloc (by simp) _
  have R1 := Lib.hid (h1.below hb); have R2 := Lib.hid (h2.below hb); have HB := Lib.hid hb
  have HS := Lib.hid (sameE_ord k m l k2 m2 l2)
  clear h1 h2 hb
  go_enter Try.func50, Try.ntmps50
  go_wp2_with fail
  refine (order_any k m k2 m2 R1.out R2.out).mono ?_
  rintro e w3 ⟨rfl, hb3⟩
  have HB3 := Lib.hid (HB.out.trans (hb3.mono HB.out.size))
  clear hb3
  go_wp2
  go_ret
  exact ⟨by rw [HS.out]; rfl, HB3.out⟩
set_option maxRecDepth 100000 in
set_option maxHeartbeats 2000000 in
theorem eless_any (k m : Int) {A : Option Addr} {n c : Nat} {l : List UInt8} (k2 m2 : Int) {A2 : Option Addr} {n2 c2 : Nat} {l2 : List UInt8} {w : World} (h1 : Rd w A n c 1 (u8s l)) (h2 : Rd w A2 n2 c2 1 (u8s l2)) :
    Calls Try.prog 52 #[.agg #[.int .i64 k, .int .i64 m, .slice A n c], .agg #[.int .i64 k2, .int .i64 m2, .slice A2 n2 c2]] w fun e w' => e = .returned (.bool (lessE k m l k2 m2 l2)) ∧ Below w.heap.size w w' := by
  have hb : Below w.heap.size w ((w.alloc (.cells #[.int .i64 k, .int .i64 m, .slice A n c] 72)).alloc (.cells #[.int .i64 k2, .int .i64 m2, .slice A2 n2 c2] 72)) := (box_below w _).alloc (by simp) _
  have R1 := Lib.hid (h1.below hb); have R2 := Lib.hid (h2.below hb); have HB := Lib.hid hb
  have HS := Lib.hid (show lessE k m l k2 m2 l2 = decide (ordE k m l k2 m2 l2 < 0) from rfl)
  clear h1 h2 hb
  go_enter Try.func52, Try.ntmps52
  go_wp2_with fail
  refine (order_any k m k2 m2 R1.out R2.out).mono ?_
  rintro e w3 ⟨rfl, hb3⟩
  have HB3 := Lib.hid (HB.out.trans (hb3.mono HB.out.size))
  clear hb3
  go_wp2
  go_ret
  exact ⟨by rw [HS.out]; rfl, HB3.out⟩
theorem lessE_ref (k m : Int) (l : List UInt8) (k2 m2 : Int) (l2 : List UInt8) : lessE k m l k2 m2 l2 = if k ≠ k2 then decide (k < k2) else if m ≠ m2 then decide (m < m2) else Op.bytesLess l l2 := by
  unfold lessE ordE
  rw [orL3]
  by_cases h1 : k = k2
  · rw [if_pos ((cmpInt_zero k k2).2 h1), if_neg (show ¬ (k ≠ k2) from fun e => e h1)]
    by_cases h2 : m = m2
    · rw [if_pos ((cmpInt_zero m m2).2 h2), if_neg (show ¬ (m ≠ m2) from fun e => e h2), bytesLess_cmp]
      split
      · rename_i e; rw [e]
      · rfl
    · rw [if_pos h2, if_neg (fun e => h2 ((cmpInt_zero m m2).1 e))]
      unfold Lib.compareInt
      by_cases h3 : m < m2
      · simp [h3]
      · rw [if_neg h3, if_pos (by omega)]; simp [h3]
  · rw [if_pos h1, if_neg (fun e => h1 ((cmpInt_zero k k2).1 e))]
    unfold Lib.compareInt
    by_cases h3 : k < k2
    · simp [h3]
    · rw [if_neg h3, if_pos (by omega)]; simp [h3]
set_option maxRecDepth 100000 in
set_option maxHeartbeats 2000000 in
theorem reless_any (k m : Int) {A : Option Addr} {n c : Nat} {l : List UInt8} (k2 m2 : Int) {A2 : Option Addr} {n2 c2 : Nat} {l2 : List UInt8} {w : World} (h1 : Rd w A n c 1 (u8s l)) (h2 : Rd w A2 n2 c2 1 (u8s l2)) :
    Calls Try.prog 53 #[.agg #[.int .i64 k, .int .i64 m, .slice A n c], .agg #[.int .i64 k2, .int .i64 m2, .slice A2 n2 c2]] w fun e w' => e = .returned (.bool (lessE k m l k2 m2 l2)) ∧ Below w.heap.size w w' := by
  have hb2 : Below w.heap.size w ((w.alloc (.cells #[.int .i64 k, .int .i64 m, .slice A n c] 72)).alloc (.cells #[.int .i64 k2, .int .i64 m2, .slice A2 n2 c2] 72)) := (box_below w _).alloc (by simp) _
  have HB := Lib.hid hb2
  have q1 := (h1.below hb2).str (P := Try.prog) 26 5 9 Try.underlying26 Try.underlying5 Try.underlying9
  have q2 := (h2.below hb2).str (P := Try.prog) 26 5 9 Try.underlying26 Try.underlying5 Try.underlying9
  clear hb2 h1 h2
  have hr := lessE_ref k m l k2 m2 l2
  obtain ⟨r, hrr⟩ : ∃ r, r = lessE k m l k2 m2 l2 := ⟨_, rfl⟩
  rw [← hrr] at hr ⊢
  clear hrr
  by_cases e1 : k = k2
  · have g1 : (k != k2) = false := by simpa using e1
    by_cases e2 : m = m2
    · have g2 : (m != m2) = false := by simpa using e2
      have HS := Lib.hid (show r = Op.bytesLess l l2 by rw [hr, if_neg (by simpa using e1), if_neg (by simpa using e2)])
      clear hr e1 e2
      go_enter Try.func53, Try.ntmps53
      go_wp2_with fail
      go_ret
      exact ⟨by rw [HS.out]; first | rfl | simp [Lib.toList_data] | simp, HB.out⟩
    · have g2 : (m != m2) = true := by simpa using e2
      have HS := Lib.hid (show r = decide (m < m2) by rw [hr, if_neg (by simpa using e1), if_pos e2])
      clear hr e1 e2
      go_enter Try.func53, Try.ntmps53
      go_wp2_with fail
      go_ret
      exact ⟨by rw [HS.out]; rfl, HB.out⟩
  · have g1 : (k != k2) = true := by simpa using e1
    have HS := Lib.hid (show r = decide (k < k2) by rw [hr, if_pos e1])
    clear hr e1
    go_enter Try.func53, Try.ntmps53
    go_wp2_with fail
    go_ret
    exact ⟨by rw [HS.out]; rfl, HB.out⟩
end Go.Proofs.Ytondodhpmghogaa
