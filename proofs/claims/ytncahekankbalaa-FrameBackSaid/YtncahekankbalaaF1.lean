/- Walks: which packets may be (the program's Check, the reference's), bytes.Equal. Conditions: none beyond a slice's length. -/
import Derived.Test.YtncahekankbalaaP2
import Derived.Test.YtncahekankbalaaF0
namespace Go.Proofs.Ytncahekankbalaa
open Go.RowKit
set_option linter.unusedVariables false
set_option linter.unusedSimpArgs false

def i64s (xs : List Int) : List Value := xs.map (Value.int .i64)
/-- a number from 0 to 2^40 -/
def okN (x : Int) : Bool := decide (0 ≤ x ∧ x ≤ 1099511627776)
theorem okN_yes {x : Int} (h : okN x = true) : 0 ≤ x ∧ x ≤ 1099511627776 := of_decide_eq_true h
theorem okN_no {x : Int} (h : okN x = false) : x < 0 ∨ 1099511627776 < x := by have := of_decide_eq_false h; omega
/-- may a packet be: numbers, how many bytes -/
def PFine (f t n a : Int) (m : Nat) : Prop := 1 ≤ f ∧ (okN f = true ∧ okN t = true ∧ okN n = true ∧ okN a = true) ∧ m ≤ 400 ∧ (n = 0 → m = 0)
instance (f t n a : Int) (m : Nat) : Decidable (PFine f t n a m) := by unfold PFine; infer_instance
def chkP (f t n a : Int) (m : Nat) : Int := if PFine f t n a m then 0 else 2
set_option maxRecDepth 100000 in
set_option maxHeartbeats 1000000 in
theorem equal_any {A B : Option Addr} {n c m d : Nat} {l k : List UInt8} {w : World} (h1 : Rd w A n c 1 (u8s l)) (h2 : Rd w B m d 1 (u8s k)) :
    Calls Try.prog 41 #[.slice A n c, .slice B m d] w fun e w' => e = .returned (.bool (eqB l k)) ∧ w = w' := by
  have e1 := h1.str (P := Try.prog) 22 5 9 Try.underlying22 Try.underlying5 Try.underlying9
  have e2 := h2.str (P := Try.prog) 22 5 9 Try.underlying22 Try.underlying5 Try.underlying9
  clear h1 h2
  go_enter Try.func41, Try.ntmps41
  go_wp2
  go_ret
  exact ⟨ret_bool (by simp [eqB, ByteArray.ext_iff]), rfl⟩
set_option maxRecDepth 100000 in
set_option maxHeartbeats 1000000 in
theorem within_any {w : World} {A : Option Addr} {n c : Nat} {xs : List Int} (h : Rd w A n c 1 (i64s xs)) :
    Calls Try.prog 50 #[.slice A n c] w fun e w' => e = .returned (.bool (xs.all okN)) ∧ w = w' := by
  have hl : xs.length = n := by have := h.len; simpa [i64s] using this
  have hbig := h.big
  have hcap := h.cap
  have H := Lib.hid h; have HL := Lib.hid hl
  clear h hl
  go_enter Try.func50, Try.ntmps50
  go_wp2
  go_loop [7] (fun i => ∃ k : Nat, k ≤ n ∧ i = .int .i64 k ∧ Hid (xs.all okN = (xs.drop k).all okN)) (fun i => n - (intOf i).toNat)
  case atStart => exact ⟨0, Nat.zero_le _, rfl, Lib.hid rfl⟩
  case round =>
    obtain ⟨k, hk, rfl, HO⟩ := hrel
    by_cases hlt : k < n
    · have hkx : k < xs.length := by rw [HL.out]; exact hlt
      obtain ⟨b, off, rfl, hc⟩ := H.out.cells k (.int .i64 xs[k]) (by unfold i64s; simp [hkx])
      have hd : (xs.drop k).all okN = (okN xs[k] && (xs.drop (k + 1)).all okN) := by rw [List.drop_eq_getElem_cons hkx]; rfl
      obtain ⟨x, hx⟩ : ∃ x, x = xs[k] := ⟨_, rfl⟩
      rw [← hx] at hc hd
      have HD := Lib.hid hd
      clear hx hd hkx
      cases h0 : okN x with
      | true =>
        have g1 : decide (x < 0) = false := by have := okN_yes h0; exact decide_eq_false (by omega)
        have g2 : decide ((1099511627776 : Int) < x) = false := by have := okN_yes h0; exact decide_eq_false (by omega)
        have HN : Hid (xs.all okN = (xs.drop (k + 1)).all okN) := Lib.hid (by rw [HO.out, HD.out, h0, Bool.true_and])
        clear HO HD h0
        go_wp2
        go_round
        case rel => exact ⟨k + 1, by omega, by go_num, HN⟩
        case measure => simp [intOf]; omega
      | false =>
        have HN : Hid (xs.all okN = false) := Lib.hid (by rw [HO.out, HD.out, h0, Bool.false_and])
        have hn := okN_no h0
        clear HO HD h0
        by_cases c1 : x < 0
        · have g1 : decide (x < 0) = true := decide_eq_true c1
          clear hn c1
          go_wp2
          go_ret
          exact ⟨by rw [HN.out]; rfl, rfl⟩
        · have g1 : decide (x < 0) = false := decide_eq_false c1
          have g2 : decide ((1099511627776 : Int) < x) = true := decide_eq_true (by omega)
          clear hn c1
          go_wp2
          go_ret
          exact ⟨by rw [HN.out]; rfl, rfl⟩
    · obtain rfl : n = k := by omega
      have HN : Hid (xs.all okN = true) := Lib.hid (by rw [HO.out, List.drop_of_length_le (by rw [HL.out]; exact Nat.le_refl _)]; rfl)
      clear HO
      go_wp2
      go_ret
      exact ⟨by rw [HN.out]; rfl, rfl⟩
set_option maxRecDepth 100000 in
set_option maxHeartbeats 1000000 in
theorem number_any (x : Int) (w : World) : Calls Try.prog 51 #[.int .i64 x] w fun e w' => e = .returned (.bool (okN x)) ∧ w = w' := by
  by_cases h : 0 ≤ x
  · have g1 : decide ((0 : Int) ≤ x) = true := decide_eq_true h
    by_cases h2 : x ≤ 1099511627776
    · have g2 : decide (x ≤ (1099511627776 : Int)) = true := decide_eq_true h2
      have HN := Lib.hid (show okN x = true from decide_eq_true ⟨h, h2⟩)
      clear h h2
      go_enter Try.func51, Try.ntmps51
      go_wp2
      go_ret
      exact ⟨by rw [HN.out]; rfl, rfl⟩
    · have g2 : decide (x ≤ (1099511627776 : Int)) = false := decide_eq_false h2
      have HN := Lib.hid (show okN x = false from decide_eq_false (fun e => h2 e.2))
      clear h h2
      go_enter Try.func51, Try.ntmps51
      go_wp2
      go_ret
      exact ⟨by rw [HN.out]; rfl, rfl⟩
  · have g1 : decide ((0 : Int) ≤ x) = false := decide_eq_false h
    have HN := Lib.hid (show okN x = false from decide_eq_false (fun e => h e.1))
    clear h
    go_enter Try.func51, Try.ntmps51
    go_wp2
    go_ret
    exact ⟨by rw [HN.out]; rfl, rfl⟩
set_option maxRecDepth 100000 in
set_option maxHeartbeats 4000000 in
theorem pcheck_any (f t n a : Int) (A : Option Addr) (m c : Nat) (w : World) (hm : m ≤ 9223372036854775807) : Calls Try.prog 17 #[.agg #[.int .i64 f, .int .i64 t, .int .i64 n, .int .i64 a, .slice A m c]] w fun e w' => e = .returned (.int .i64 (chkP f t n a m)) ∧ Below w.heap.size w w' := by
  obtain ⟨r, hr⟩ : ∃ r, r = chkP f t n a m := ⟨_, rfl⟩
  rw [← hr]
  unfold chkP at hr
  have hb1 := box_below w (.cells #[.int .i64 f, .int .i64 t, .int .i64 n, .int .i64 a, .slice A m c] 24)
  have hall : [f, t, n, a].all okN = (okN f && (okN t && (okN n && okN a))) := by simp [List.all_cons, Bool.and_assoc]
  have HALL := Lib.hid hall
  clear hall
  by_cases c1 : f < 1
  · have g1 : decide (f < 1) = true := decide_eq_true c1
    have HRR := Lib.hid (show r = 2 by rw [hr]; rw [if_neg (fun h => by have := h.1; omega)])
    clear hr
    go_enter Try.func17, Try.ntmps17
    go_wp2_with fail
    go_ret
    exact ⟨by rw [HRR.out]; rfl, box_below w _⟩
  have g1 : decide (f < 1) = false := decide_eq_false c1
  cases hok : (okN f && (okN t && (okN n && okN a))) with
  | false =>
    have HOK := Lib.hid hok
    have HRR := Lib.hid (show r = 2 by rw [hr]; rw [if_neg (fun h => by rw [h.2.1.1, h.2.1.2.1, h.2.1.2.2.1, h.2.1.2.2.2] at hok; cases hok)])
    clear hr
    go_enter Try.func17, Try.ntmps17
    go_wp2_with fail
    have hrd : Rd ((w.alloc (.cells #[.int .i64 f, .int .i64 t, .int .i64 n, .int .i64 a, .slice A m c] 24)).alloc (.cells #[.int .i64 f, .int .i64 t, .int .i64 n, .int .i64 a] 3)) (some ⟨(w.alloc (.cells #[.int .i64 f, .int .i64 t, .int .i64 n, .int .i64 a, .slice A m c] 24)).heap.size, 0, none⟩) 4 4 1 (i64s [f, t, n, a]) := ⟨rfl, by decide, by decide, (fun e => by cases e), fun j u hu => ⟨_, 0, rfl, by rw [Nat.zero_add]; exact blk_cell (blk_new (w.alloc (.cells #[.int .i64 f, .int .i64 t, .int .i64 n, .int .i64 a, .slice A m c] 24)) 3 #[.int .i64 f, .int .i64 t, .int .i64 n, .int .i64 a]) j u (by rw [← List.getElem?_toArray] at hu; exact hu)⟩⟩
    have HRD := Lib.hid hrd
    clear hrd
    rw [World.size_alloc] at HRD
    refine (within_any HRD.out).mono ?_
    rw [HALL.out, HOK.out]
    rintro e wx ⟨rfl, rfl⟩
    go_wp2_with fail
    go_ret
    exact ⟨by rw [HRR.out]; rfl, (box_below w _).alloc (by simp) _⟩
  | true =>
    have HOK := Lib.hid hok
    have h4 : okN f = true ∧ okN t = true ∧ okN n = true ∧ okN a = true := by simpa [Bool.and_eq_true] using hok
    clear hok
    by_cases c3 : 400 < m
    · have g3 : decide ((400 : Int) < (m : Int)) = true := decide_eq_true (by omega)
      have HRR := Lib.hid (show r = 2 by rw [hr]; rw [if_neg (fun h => by have := h.2.2.1; omega)])
      clear hr
      go_enter Try.func17, Try.ntmps17
      go_wp2_with fail
      have hrd : Rd ((w.alloc (.cells #[.int .i64 f, .int .i64 t, .int .i64 n, .int .i64 a, .slice A m c] 24)).alloc (.cells #[.int .i64 f, .int .i64 t, .int .i64 n, .int .i64 a] 3)) (some ⟨(w.alloc (.cells #[.int .i64 f, .int .i64 t, .int .i64 n, .int .i64 a, .slice A m c] 24)).heap.size, 0, none⟩) 4 4 1 (i64s [f, t, n, a]) := ⟨rfl, by decide, by decide, (fun e => by cases e), fun j u hu => ⟨_, 0, rfl, by rw [Nat.zero_add]; exact blk_cell (blk_new (w.alloc (.cells #[.int .i64 f, .int .i64 t, .int .i64 n, .int .i64 a, .slice A m c] 24)) 3 #[.int .i64 f, .int .i64 t, .int .i64 n, .int .i64 a]) j u (by rw [← List.getElem?_toArray] at hu; exact hu)⟩⟩
      have HRD := Lib.hid hrd
      clear hrd
      rw [World.size_alloc] at HRD
      refine (within_any HRD.out).mono ?_
      rw [HALL.out, HOK.out]
      rintro e wx ⟨rfl, rfl⟩
      go_wp2_with fail
      go_ret
      exact ⟨by rw [HRR.out]; rfl, (box_below w _).alloc (by simp) _⟩
    have g3 : decide ((400 : Int) < (m : Int)) = false := decide_eq_false (by omega)
    by_cases c4 : n = 0
    · have g4 : (n == 0) = true := by simpa using c4
      by_cases c5 : 0 < m
      · have g5 : decide ((0 : Int) < (m : Int)) = true := decide_eq_true (by omega)
        have HRR := Lib.hid (show r = 2 by rw [hr]; rw [if_neg (fun h => by have := h.2.2.2 c4; omega)])
        clear hr
        clear c4
        go_enter Try.func17, Try.ntmps17
        go_wp2_with fail
        have hrd : Rd ((w.alloc (.cells #[.int .i64 f, .int .i64 t, .int .i64 n, .int .i64 a, .slice A m c] 24)).alloc (.cells #[.int .i64 f, .int .i64 t, .int .i64 n, .int .i64 a] 3)) (some ⟨(w.alloc (.cells #[.int .i64 f, .int .i64 t, .int .i64 n, .int .i64 a, .slice A m c] 24)).heap.size, 0, none⟩) 4 4 1 (i64s [f, t, n, a]) := ⟨rfl, by decide, by decide, (fun e => by cases e), fun j u hu => ⟨_, 0, rfl, by rw [Nat.zero_add]; exact blk_cell (blk_new (w.alloc (.cells #[.int .i64 f, .int .i64 t, .int .i64 n, .int .i64 a, .slice A m c] 24)) 3 #[.int .i64 f, .int .i64 t, .int .i64 n, .int .i64 a]) j u (by rw [← List.getElem?_toArray] at hu; exact hu)⟩⟩
        have HRD := Lib.hid hrd
        clear hrd
        rw [World.size_alloc] at HRD
        refine (within_any HRD.out).mono ?_
        rw [HALL.out, HOK.out]
        rintro e wx ⟨rfl, rfl⟩
        go_wp2_with fail
        go_ret
        exact ⟨by rw [HRR.out]; rfl, (box_below w _).alloc (by simp) _⟩
      · have g5 : decide ((0 : Int) < (m : Int)) = false := decide_eq_false (by omega)
        have HRR := Lib.hid (show r = 0 by rw [hr]; rw [if_pos (⟨by omega, h4, by omega, fun _ => by omega⟩)])
        clear hr
        clear c4
        go_enter Try.func17, Try.ntmps17
        go_wp2_with fail
        have hrd : Rd ((w.alloc (.cells #[.int .i64 f, .int .i64 t, .int .i64 n, .int .i64 a, .slice A m c] 24)).alloc (.cells #[.int .i64 f, .int .i64 t, .int .i64 n, .int .i64 a] 3)) (some ⟨(w.alloc (.cells #[.int .i64 f, .int .i64 t, .int .i64 n, .int .i64 a, .slice A m c] 24)).heap.size, 0, none⟩) 4 4 1 (i64s [f, t, n, a]) := ⟨rfl, by decide, by decide, (fun e => by cases e), fun j u hu => ⟨_, 0, rfl, by rw [Nat.zero_add]; exact blk_cell (blk_new (w.alloc (.cells #[.int .i64 f, .int .i64 t, .int .i64 n, .int .i64 a, .slice A m c] 24)) 3 #[.int .i64 f, .int .i64 t, .int .i64 n, .int .i64 a]) j u (by rw [← List.getElem?_toArray] at hu; exact hu)⟩⟩
        have HRD := Lib.hid hrd
        clear hrd
        rw [World.size_alloc] at HRD
        refine (within_any HRD.out).mono ?_
        rw [HALL.out, HOK.out]
        rintro e wx ⟨rfl, rfl⟩
        go_wp2_with fail
        go_ret
        exact ⟨by rw [HRR.out]; rfl, (box_below w _).alloc (by simp) _⟩
    · have g4 : (n == 0) = false := by simpa using c4
      have HRR := Lib.hid (show r = 0 by rw [hr]; rw [if_pos (⟨by omega, h4, by omega, fun e => absurd e c4⟩)])
      clear hr
      clear c4
      go_enter Try.func17, Try.ntmps17
      go_wp2_with fail
      have hrd : Rd ((w.alloc (.cells #[.int .i64 f, .int .i64 t, .int .i64 n, .int .i64 a, .slice A m c] 24)).alloc (.cells #[.int .i64 f, .int .i64 t, .int .i64 n, .int .i64 a] 3)) (some ⟨(w.alloc (.cells #[.int .i64 f, .int .i64 t, .int .i64 n, .int .i64 a, .slice A m c] 24)).heap.size, 0, none⟩) 4 4 1 (i64s [f, t, n, a]) := ⟨rfl, by decide, by decide, (fun e => by cases e), fun j u hu => ⟨_, 0, rfl, by rw [Nat.zero_add]; exact blk_cell (blk_new (w.alloc (.cells #[.int .i64 f, .int .i64 t, .int .i64 n, .int .i64 a, .slice A m c] 24)) 3 #[.int .i64 f, .int .i64 t, .int .i64 n, .int .i64 a]) j u (by rw [← List.getElem?_toArray] at hu; exact hu)⟩⟩
      have HRD := Lib.hid hrd
      clear hrd
      rw [World.size_alloc] at HRD
      refine (within_any HRD.out).mono ?_
      rw [HALL.out, HOK.out]
      rintro e wx ⟨rfl, rfl⟩
      go_wp2_with fail
      go_ret
      exact ⟨by rw [HRR.out]; rfl, (box_below w _).alloc (by simp) _⟩
set_option maxRecDepth 100000 in
set_option maxHeartbeats 4000000 in
theorem rpcheck_any (f t n a : Int) (A : Option Addr) (m c : Nat) (w : World) (hm : m ≤ 9223372036854775807) : Calls Try.prog 18 #[.agg #[.int .i64 f, .int .i64 t, .int .i64 n, .int .i64 a, .slice A m c]] w fun e w' => e = .returned (.int .i64 (chkP f t n a m)) ∧ Below w.heap.size w w' := by
  obtain ⟨r, hr⟩ : ∃ r, r = chkP f t n a m := ⟨_, rfl⟩
  rw [← hr]
  unfold chkP at hr
  by_cases c1 : f < 1
  · have g1 : decide (f < 1) = true := decide_eq_true c1
    have HRR := Lib.hid (show r = 2 by rw [hr]; rw [if_neg (fun h => by have := h.1; omega)])
    clear hr
    go_enter Try.func18, Try.ntmps18
    go_wp2_with fail
    go_ret
    exact ⟨by rw [HRR.out]; rfl, box_below w _⟩
  have g1 : decide (f < 1) = false := decide_eq_false c1
  cases q0 : okN f with
  | false =>
    have K0 := Lib.hid q0
    have HRR := Lib.hid (show r = 2 by rw [hr]; rw [if_neg (fun h => by have := h.2.1.1; rw [q0] at this; cases this)])
    clear hr
    clear q0
    go_enter Try.func18, Try.ntmps18
    go_wp2_with fail
    refine (number_any _ _).mono ?_
    rw [K0.out]
    rintro e wx ⟨rfl, rfl⟩
    go_wp2_with fail
    go_ret
    exact ⟨by rw [HRR.out]; rfl, box_below w _⟩
  | true =>
    have K0 := Lib.hid q0
    cases q1 : okN t with
    | false =>
      have K1 := Lib.hid q1
      have HRR := Lib.hid (show r = 2 by rw [hr]; rw [if_neg (fun h => by have := h.2.1.2.1; rw [q1] at this; cases this)])
      clear hr
      clear q0 q1
      go_enter Try.func18, Try.ntmps18
      go_wp2_with fail
      refine (number_any _ _).mono ?_
      rw [K0.out]
      rintro e wx ⟨rfl, rfl⟩
      go_wp2_with fail
      refine (number_any _ _).mono ?_
      rw [K1.out]
      rintro e wx ⟨rfl, rfl⟩
      go_wp2_with fail
      go_ret
      exact ⟨by rw [HRR.out]; rfl, box_below w _⟩
    | true =>
      have K1 := Lib.hid q1
      cases q2 : okN n with
      | false =>
        have K2 := Lib.hid q2
        have HRR := Lib.hid (show r = 2 by rw [hr]; rw [if_neg (fun h => by have := h.2.1.2.2.1; rw [q2] at this; cases this)])
        clear hr
        clear q0 q1 q2
        go_enter Try.func18, Try.ntmps18
        go_wp2_with fail
        refine (number_any _ _).mono ?_
        rw [K0.out]
        rintro e wx ⟨rfl, rfl⟩
        go_wp2_with fail
        refine (number_any _ _).mono ?_
        rw [K1.out]
        rintro e wx ⟨rfl, rfl⟩
        go_wp2_with fail
        refine (number_any _ _).mono ?_
        rw [K2.out]
        rintro e wx ⟨rfl, rfl⟩
        go_wp2_with fail
        go_ret
        exact ⟨by rw [HRR.out]; rfl, box_below w _⟩
      | true =>
        have K2 := Lib.hid q2
        cases q3 : okN a with
        | false =>
          have K3 := Lib.hid q3
          have HRR := Lib.hid (show r = 2 by rw [hr]; rw [if_neg (fun h => by have := h.2.1.2.2.2; rw [q3] at this; cases this)])
          clear hr
          clear q0 q1 q2 q3
          go_enter Try.func18, Try.ntmps18
          go_wp2_with fail
          refine (number_any _ _).mono ?_
          rw [K0.out]
          rintro e wx ⟨rfl, rfl⟩
          go_wp2_with fail
          refine (number_any _ _).mono ?_
          rw [K1.out]
          rintro e wx ⟨rfl, rfl⟩
          go_wp2_with fail
          refine (number_any _ _).mono ?_
          rw [K2.out]
          rintro e wx ⟨rfl, rfl⟩
          go_wp2_with fail
          refine (number_any _ _).mono ?_
          rw [K3.out]
          rintro e wx ⟨rfl, rfl⟩
          go_wp2_with fail
          go_ret
          exact ⟨by rw [HRR.out]; rfl, box_below w _⟩
        | true =>
          have K3 := Lib.hid q3
          have h4 : okN f = true ∧ okN t = true ∧ okN n = true ∧ okN a = true := ⟨q0, q1, q2, q3⟩
          clear q0 q1 q2 q3
          by_cases c3 : 400 < m
          · have g3 : decide ((400 : Int) < (m : Int)) = true := decide_eq_true (by omega)
            have HRR := Lib.hid (show r = 2 by rw [hr]; rw [if_neg (fun h => by have := h.2.2.1; omega)])
            clear hr
            go_enter Try.func18, Try.ntmps18
            go_wp2_with fail
            refine (number_any _ _).mono ?_
            rw [K0.out]
            rintro e wx ⟨rfl, rfl⟩
            go_wp2_with fail
            refine (number_any _ _).mono ?_
            rw [K1.out]
            rintro e wx ⟨rfl, rfl⟩
            go_wp2_with fail
            refine (number_any _ _).mono ?_
            rw [K2.out]
            rintro e wx ⟨rfl, rfl⟩
            go_wp2_with fail
            refine (number_any _ _).mono ?_
            rw [K3.out]
            rintro e wx ⟨rfl, rfl⟩
            go_wp2_with fail
            go_ret
            exact ⟨by rw [HRR.out]; rfl, box_below w _⟩
          have g3 : decide ((400 : Int) < (m : Int)) = false := decide_eq_false (by omega)
          by_cases c4 : n = 0
          · have g4 : (n == 0) = true := by simpa using c4
            by_cases c5 : 0 < m
            · have g5 : decide ((0 : Int) < (m : Int)) = true := decide_eq_true (by omega)
              have HRR := Lib.hid (show r = 2 by rw [hr]; rw [if_neg (fun h => by have := h.2.2.2 c4; omega)])
              clear hr
              clear c4 h4
              go_enter Try.func18, Try.ntmps18
              go_wp2_with fail
              refine (number_any _ _).mono ?_
              rw [K0.out]
              rintro e wx ⟨rfl, rfl⟩
              go_wp2_with fail
              refine (number_any _ _).mono ?_
              rw [K1.out]
              rintro e wx ⟨rfl, rfl⟩
              go_wp2_with fail
              refine (number_any _ _).mono ?_
              rw [K2.out]
              rintro e wx ⟨rfl, rfl⟩
              go_wp2_with fail
              refine (number_any _ _).mono ?_
              rw [K3.out]
              rintro e wx ⟨rfl, rfl⟩
              go_wp2_with fail
              go_ret
              exact ⟨by rw [HRR.out]; rfl, box_below w _⟩
            · have g5 : decide ((0 : Int) < (m : Int)) = false := decide_eq_false (by omega)
              have HRR := Lib.hid (show r = 0 by rw [hr]; rw [if_pos (⟨by omega, h4, by omega, fun _ => by omega⟩)])
              clear hr
              clear c4 h4
              go_enter Try.func18, Try.ntmps18
              go_wp2_with fail
              refine (number_any _ _).mono ?_
              rw [K0.out]
              rintro e wx ⟨rfl, rfl⟩
              go_wp2_with fail
              refine (number_any _ _).mono ?_
              rw [K1.out]
              rintro e wx ⟨rfl, rfl⟩
              go_wp2_with fail
              refine (number_any _ _).mono ?_
              rw [K2.out]
              rintro e wx ⟨rfl, rfl⟩
              go_wp2_with fail
              refine (number_any _ _).mono ?_
              rw [K3.out]
              rintro e wx ⟨rfl, rfl⟩
              go_wp2_with fail
              go_ret
              exact ⟨by rw [HRR.out]; rfl, box_below w _⟩
          · have g4 : (n == 0) = false := by simpa using c4
            have HRR := Lib.hid (show r = 0 by rw [hr]; rw [if_pos (⟨by omega, h4, by omega, fun e => absurd e c4⟩)])
            clear hr
            clear c4 h4
            go_enter Try.func18, Try.ntmps18
            go_wp2_with fail
            refine (number_any _ _).mono ?_
            rw [K0.out]
            rintro e wx ⟨rfl, rfl⟩
            go_wp2_with fail
            refine (number_any _ _).mono ?_
            rw [K1.out]
            rintro e wx ⟨rfl, rfl⟩
            go_wp2_with fail
            refine (number_any _ _).mono ?_
            rw [K2.out]
            rintro e wx ⟨rfl, rfl⟩
            go_wp2_with fail
            refine (number_any _ _).mono ?_
            rw [K3.out]
            rintro e wx ⟨rfl, rfl⟩
            go_wp2_with fail
            go_ret
            exact ⟨by rw [HRR.out]; rfl, box_below w _⟩
end Go.Proofs.Ytncahekankbalaa
