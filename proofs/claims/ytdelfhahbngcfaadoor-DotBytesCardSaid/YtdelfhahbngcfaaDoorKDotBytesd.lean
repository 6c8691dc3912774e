/- Words, walks and plain laws for the row, packed: each text in a section of its own. Conditions stand with each theorem. -/
import Derived.Lib.SlicesCompact
import Derived.Lib.SliceRun
import Derived.Deep.QuietTactic
import Derived.BigQuiet
import Derived.RegionTactic
import Derived.StillTailTactics
import Derived.Laws.Bits64b
import Derived.Test.YtdelfhahbngcfaaDoorKDotBytesa
import Derived.Test.YtdelfhahbngcfaaDoorKDotBytesb
import Derived.Test.YtdelfhahbngcfaaDoorKDotBytesc
section
namespace Go.Proofs.YtdelfhahbngcfaaDoorX.P06
open Go.RowKit Go.Shelf Go.Sort Go.Lib Go.Proofs.YtdelfhahbngcfaaDoor Go.Proofs.YtdelfhahbngcfaaDoorW.PrintWords Go.Proofs.YtdelfhahbngcfaaDoorW.PrintLast Go.Proofs.YtdelfhahbngcfaaDoorW.PrintMore
set_option linter.unusedVariables false
set_option linter.unusedSimpArgs false
attribute [local go_sem] Oper.semAt_some
attribute [local go_sem high] eqA23
instance : Inhabited S23 := ⟨z23⟩
instance : DecidableEq S23 := fun x y => decidable_of_iff (x.f0 = y.f0 ∧ x.f1 = y.f1) (by cases x; cases y; simp)
def RowB (w : World) (g cap : Nat) (d : Array S23) : Prop := ∃ cur : Array Value, YtdelfhahbngcfaaDoor.Blk w g 23 cur ∧ cur.size = cap * 2 ∧ ∀ j, j < d.size → cur[j * 2]? = some (.int .i64 d[j]!.f0) ∧ cur[j * 2 + 1]? = some (.int .i64 d[j]!.f1)
theorem RowB.cell {w : World} {g cap : Nat} {d : Array S23} (h : RowB w g cap d) {j : Nat} (hj : j < d.size) : w.cell? ⟨g, j * 2, none⟩ = some (.int .i64 d[j]!.f0) ∧ w.cell? ⟨g, j * 2 + 1, none⟩ = some (.int .i64 d[j]!.f1) := by
  obtain ⟨cur, hb, _, hc⟩ := h
  exact ⟨YtdelfhahbngcfaaDoor.blk_cell hb _ _ (hc j hj).1, YtdelfhahbngcfaaDoor.blk_cell hb _ _ (hc j hj).2⟩
theorem RowB.put {w : World} {g cap : Nat} {d : Array S23} (h : RowB w g cap d) (hd : d.size ≤ cap) {k : Nat} (hk : k < d.size) (x : S23) :
    RowB ((w.setCell ⟨g, k * 2, none⟩ (.int .i64 x.f0)).setCell ⟨g, k * 2 + 1, none⟩ (.int .i64 x.f1)) g cap (d.setIfInBounds k x) := by
  obtain ⟨cur, hb, hs, hc⟩ := h
  refine ⟨_, YtdelfhahbngcfaaDoor.blk_set (YtdelfhahbngcfaaDoor.blk_set hb _ _) _ _, by simpa using hs, fun j hj => ?_⟩
  have hj' : j < d.size := by simpa using hj
  obtain ⟨q0, q1⟩ := hc j hj'
  by_cases e : j = k
  · subst e
    have : (d.setIfInBounds j x)[j]! = x := getElem!_set_same d j x hj'
    rw [this]
    constructor
    · rw [Array.getElem?_setIfInBounds, if_neg (by omega), Array.getElem?_setIfInBounds, if_pos rfl, if_pos (by omega)]
    · rw [Array.getElem?_setIfInBounds, if_pos rfl, if_pos (by simp; omega)]
  · have : (d.setIfInBounds k x)[j]! = d[j]! := by
      rw [getElem!_pos _ j hj, getElem!_pos _ j hj', Array.getElem_setIfInBounds, if_neg (Ne.symm e)]
    rw [this]
    constructor
    · rw [Array.getElem?_setIfInBounds, if_neg (by omega), Array.getElem?_setIfInBounds, if_neg (by omega)]; exact q0
    · rw [Array.getElem?_setIfInBounds, if_neg (by omega), Array.getElem?_setIfInBounds, if_neg (by omega)]; exact q1
theorem RowB.clear {w : World} {g cap : Nat} {d : Array S23} (h : RowB w g cap d) : ∀ (vs : List Value) (o k : Nat), k * 2 ≤ o → k ≤ d.size → RowB (w.setCells g o vs) g cap (d.extract 0 k) := by
  obtain ⟨cur, hb, hs, hc⟩ := h
  intro vs
  suffices H : ∀ (vs : List Value) (o : Nat) (w : World) (cur : Array Value), YtdelfhahbngcfaaDoor.Blk w g 23 cur → ∃ cur', YtdelfhahbngcfaaDoor.Blk (w.setCells g o vs) g 23 cur' ∧ cur'.size = cur.size ∧ ∀ j, j < o → cur'[j]? = cur[j]? by
    intro o k ho hk
    obtain ⟨cur', b1, b2, b3⟩ := H vs o w cur hb
    refine ⟨cur', b1, by omega, fun j hj => ?_⟩
    have hj2 : j < k := by simp at hj; omega
    have e : (d.extract 0 k)[j]! = d[j]! := by
      rw [getElem!_pos _ j hj, getElem!_pos _ j (by omega)]; simp
    rw [e, b3 _ (by omega), b3 _ (by omega)]
    exact hc j (by omega)
  intro vs
  induction vs with
  | nil => exact fun o w cur hb => ⟨cur, hb, rfl, fun _ _ => rfl⟩
  | cons v r ih =>
    intro o w cur hb
    obtain ⟨cur', b1, b2, b3⟩ := ih (o + 1) _ _ (YtdelfhahbngcfaaDoor.blk_set hb o v)
    refine ⟨cur', b1, by simpa using b2, fun j hj => ?_⟩
    rw [b3 j (by omega), Array.getElem?_setIfInBounds, if_neg (by omega)]
end Go.Proofs.YtdelfhahbngcfaaDoorX.P06
end
section
namespace Go.Proofs.YtdelfhahbngcfaaDoorX.P06
open Go.RowKit Go.Shelf Go.Sort Go.Lib Go.Proofs.YtdelfhahbngcfaaDoor Go.Proofs.YtdelfhahbngcfaaDoorW.PrintWords Go.Proofs.YtdelfhahbngcfaaDoorW.PrintLast Go.Proofs.YtdelfhahbngcfaaDoorW.PrintMore
set_option linter.unusedVariables false
set_option linter.unusedSimpArgs false
attribute [local go_sem] Oper.semAt_some
attribute [local go_sem high] eqA23
theorem drawn_below {w w' : World} (h : Drawn0 w w') : Below w.heap.size w w' := by
  obtain ⟨n, rfl⟩ := h
  exact pw_below_drewN (Below.refl _ _) n
end Go.Proofs.YtdelfhahbngcfaaDoorX.P06
end
section
namespace Go.Proofs.YtdelfhahbngcfaaDoorX.P06
open Go.RowKit Go.Sort Go.Lib Go.Proofs.YtdelfhahbngcfaaDoorW.PrintWords Go.Proofs.YtdelfhahbngcfaaDoorW.PrintLast Go.Proofs.YtdelfhahbngcfaaDoorW.PrintMore
set_option linter.unusedVariables false
set_option linter.unusedSimpArgs false
def ltDot (x y : S23) : Prop := x.f0 < y.f0 ∨ (x.f0 = y.f0 ∧ x.f1 < y.f1)
instance : DecidableEq S23 := fun a b => decidable_of_iff (a.f0 = b.f0 ∧ a.f1 = b.f1) (by cases a; cases b; simp)
instance (x y : S23) : Decidable (ltDot x y) := by unfold ltDot; infer_instance
end Go.Proofs.YtdelfhahbngcfaaDoorX.P06
end
section
namespace Go.Proofs.YtdelfhahbngcfaaDoorX.P06
open Go.RowKit Go.Proofs.YtdelfhahbngcfaaDoorW.PrintWords Go.Proofs.YtdelfhahbngcfaaDoorW.PrintLast Go.Proofs.YtdelfhahbngcfaaDoorW.PrintMore
set_option linter.unusedVariables false
set_option linter.unusedSimpArgs false
def fourL (a : Int) : List Int := [(a / 16777216) % 256, (a / 65536) % 256, (a / 256) % 256, a % 256]
theorem shl_or (a c : Nat) (hc : c < 256) : (a * 256) ||| c = a * 256 + c := by
  have := Nat.two_pow_add_eq_or_of_lt (i := 8) (b := c) (by simpa using hc) a
  rw [show (2 : Nat) ^ 8 = 256 from rfl] at this
  rw [Nat.mul_comm a 256]
  exact this.symm
theorem or_i64 (a b : Nat) (ha : a < 9223372036854775808) (hb : b < 9223372036854775808) : bits .or .i64 (a : Int) (b : Int) = ((a ||| b : Nat) : Int) := by
  have h : a ||| b < 2 ^ 63 := Nat.or_lt_two_pow (by omega) (by omega)
  have h1 : (BitVec.ofInt 64 (a : Int)).toNat = a := by
    rw [BitVec.ofInt_natCast, BitVec.toNat_ofNat]; exact Nat.mod_eq_of_lt (by omega)
  have h2 : (BitVec.ofInt 64 (b : Int)).toNat = b := by
    rw [BitVec.ofInt_natCast, BitVec.toNat_ofNat]; exact Nat.mod_eq_of_lt (by omega)
  show IntKind.i64.wrap ((BitVec.ofInt 64 (a : Int) ||| BitVec.ofInt 64 (b : Int)).toNat : Int) = _
  rw [BitVec.toNat_or, h1, h2, IntKind.wrap_i64]
  omega
def isB (x : Int) : Prop := 0 ≤ x ∧ x < 256
theorem num_step {n c : Int} (hn : 0 ≤ n ∧ n < 4294967296) (hc : isB c) : numS n c = n * 256 + c := by
  unfold isB at hc
  obtain ⟨N, rfl⟩ : ∃ N : Nat, n = N := ⟨n.toNat, by omega⟩
  obtain ⟨C, rfl⟩ : ∃ C : Nat, c = C := ⟨c.toNat, by omega⟩
  unfold numS
  rw [w64 (a := (N : Int) * 256) (by omega), w64 (a := (C : Int)) (by omega), show (N : Int) * 256 = ((N * 256 : Nat) : Int) by omega, or_i64 _ _ (by omega) (by omega), shl_or N C (by omega)]
  omega
theorem num4 {b0 b1 b2 b3 : Int} (h0 : isB b0) (h1 : isB b1) (h2 : isB b2) (h3 : isB b3) : numV [b0, b1, b2, b3] = ((b0 * 256 + b1) * 256 + b2) * 256 + b3 := by
  have g0 := h0; have g1 := h1; have g2 := h2
  unfold isB at g0 g1 g2
  show numS (numS (numS (numS 0 b0) b1) b2) b3 = _
  rw [num_step (n := 0) (by omega) h0, num_step (by omega) h1, num_step (by omega) h2, num_step (by omega) h3]
  omega
theorem isB_mod (a : Int) : isB (a % 256) := by unfold isB; omega
theorem four_num {b0 b1 b2 b3 : Int} (h0 : isB b0) (h1 : isB b1) (h2 : isB b2) (h3 : isB b3) : fourL (numV [b0, b1, b2, b3]) = [b0, b1, b2, b3] := by
  rw [num4 h0 h1 h2 h3]
  unfold isB at h0 h1 h2 h3
  unfold fourL
  refine congr (congrArg _ ?_) (congr (congrArg _ ?_) (congr (congrArg _ ?_) (congr (congrArg _ ?_) rfl)))
  all_goals omega
def bytesD (n q : Int) : List Int := (n % 256) :: fourL q
theorem read_back (l : List Int) (hb : ∀ x ∈ l, isB x) : (∃ n q, okD n q ∧ dot_Read.f l = some (n, q, 0, 0) ∧ bytesD n q = l) ∨ (∃ x : Int × Int × Int × Int, dot_Read.f l = some x ∧ ¬ x.2.2.1 = 0) := by
  unfold dot_Read.f
  by_cases h5 : l.length = 5
  · rw [if_pos h5]
    match l, h5 with
    | [a0, a1, a2, a3, a4], _ =>
      have h := hb
      simp only [List.mem_cons, List.not_mem_nil, or_false, forall_eq_or_imp, forall_eq] at h
      obtain ⟨h0, h1, h2, h3, h4⟩ := h
      show (∃ n q, okD n q ∧ (dot_Check.f (wrap64 a0) (numV [a1, a2, a3, a4])).bind _ = _ ∧ _) ∨ _
      by_cases hok : okD (wrap64 a0) (numV [a1, a2, a3, a4])
      · refine .inl ⟨wrap64 a0, numV [a1, a2, a3, a4], hok, ?_, ?_⟩
        · rw [chk_yes hok]; rfl
        · unfold bytesD
          rw [four_num h1 h2 h3 h4]
          unfold isB at h0
          rw [w64 (by omega), show a0 % 256 = a0 by omega]
      · refine .inr ⟨(0, 0, 2, 0), ?_, by show ¬ (2 : Int) = 0; omega⟩
        show (dot_Check.f (wrap64 a0) (numV [a1, a2, a3, a4])).bind _ = _
        rw [chk_no hok]; rfl
  · rw [if_neg h5]
    exact .inr ⟨_, rfl, by show ¬ (4 : Int) = 0; omega⟩
end Go.Proofs.YtdelfhahbngcfaaDoorX.P06
end
section
namespace Go.Proofs.YtdelfhahbngcfaaDoorX.P06
open Go.RowKit Go.Proofs.YtdelfhahbngcfaaDoor Go.Proofs.YtdelfhahbngcfaaDoorW.PrintWords Go.Proofs.YtdelfhahbngcfaaDoorW.PrintLast Go.Proofs.YtdelfhahbngcfaaDoorW.PrintMore
set_option linter.unusedVariables false
set_option linter.unusedSimpArgs false
def ints (l : List UInt8) : List Int := l.map fun x => (x.toNat : Int)
theorem ints_len (l : List UInt8) : (ints l).length = l.length := by unfold ints; simp
theorem ints_b (l : List UInt8) : ∀ x ∈ ints l, isB x := fun x hx => by
  unfold ints at hx
  obtain ⟨y, _, rfl⟩ := List.mem_map.1 hx
  have := y.toNat_lt
  unfold isB
  omega
theorem C_cells {w : World} {b off : Nat} {bs : List Int} (hn : bs.length ≤ 9223372036854775807) (h : ∀ j p, bs[j]? = some p → w.cell? ⟨b, off + j, none⟩ = some (.int .u8 p)) : kb.C w (some ⟨b, off, none⟩) bs.length bs :=
  ⟨rfl, hn, fun _ => ⟨_, rfl, fun j p hp => ⟨[.int .u8 p], rfl, rfl, fun t u hu => by
    have ht : t = 0 := by have := (List.getElem?_eq_some_iff.1 hu).1; simp at this; omega
    subst ht
    have e : u = .int .u8 p := by simpa using hu.symm
    rw [e]
    have hadd : ((⟨b, off, none⟩ : Addr).add (j * kb.sz + 0)) = ⟨b, off + j, none⟩ := by
      have : j * kb.sz + 0 = j := Nat.mul_one j
      rw [this]; unfold Addr.add; split <;> simp_all
    rw [hadd]
    exact h j p hp⟩⟩⟩
theorem C_of_rd {w : World} {A : Option Addr} {n c : Nat} {l : List UInt8} (h : Rd w A n c 1 (u8s l)) : Kd.C (Kd.int .u8) w A (ints l).length (ints l) := by
  by_cases h0 : l = []
  · subst h0
    exact ⟨rfl, by simp [ints], fun h => by simp [ints] at h⟩
  · have hp : 0 < l.length := List.length_pos_iff.2 h0
    have hp2 : 0 < (u8s l).length := by simpa using hp
    obtain ⟨b, off, rfl, _⟩ := h.cells 0 _ (List.getElem?_eq_getElem hp2)
    have h1 := h.len
    have h2 := h.small
    rw [u8s_length] at h1
    refine C_cells (by rw [ints_len]; omega) (fun j p hp => ?_)
    have hj : (u8s l)[j]? = some (.int .u8 p) := by
      unfold ints at hp
      rw [List.getElem?_map] at hp
      obtain ⟨q, hq, rfl⟩ := Option.map_eq_some_iff.1 hp
      unfold u8s
      rw [List.getElem?_map, hq]
      rfl
    obtain ⟨b', off', e, hc⟩ := h.cells j _ hj
    cases e
    exact hc
def eN (n q : Int) : Int := if okD n q then 0 else 2
def byD (a : Int) : UInt8 := UInt8.ofNat a.toNat
def bL (n q : Int) : List UInt8 := if okD n q then [byD (n % 256), byD ((q / 16777216) % 256), byD ((q / 65536) % 256), byD ((q / 256) % 256), byD (q % 256)] else []
theorem byD_int (a : Int) : ((byD (a % 256)).toNat : Int) = a % 256 := by
  have := isB_mod a
  unfold isB at this
  unfold byD
  simp
  omega
theorem bL_yes {n q : Int} (h : okD n q) : ints (bL n q) = bytesD n q := by
  unfold bL
  rw [if_pos h]
  show [((byD (n % 256)).toNat : Int), ((byD ((q / 16777216) % 256)).toNat : Int), ((byD ((q / 65536) % 256)).toNat : Int), ((byD ((q / 256) % 256)).toNat : Int), ((byD (q % 256)).toNat : Int)] = _
  rw [byD_int, byD_int, byD_int, byD_int, byD_int]
  rfl
theorem bL_no {n q : Int} (h : ¬ okD n q) : bL n q = [] := by unfold bL; exact if_neg h
theorem rbytes_eq (n q : Int) : tributaryref06_Bytes.f n q = some (ints (bL n q), eN n q) := by
  unfold tributaryref06_Bytes.f eN
  rw [rchk_eq]
  by_cases h : okD n q
  · rw [if_pos h, bL_yes h]; rfl
  · rw [if_neg h, bL_no h]; rfl
theorem rread_eq (l : List UInt8) : tributaryref06_Read.f (ints l) = dot_Read.f (ints l) := by
  unfold tributaryref06_Read.f dot_Read.f
  by_cases h5 : l.length = 5
  · match l, h5 with
    | [x0, x1, x2, x3, x4], _ =>
      have b1 := ints_b [x0, x1, x2, x3, x4]
      have h0 : isB (x0.toNat : Int) := b1 _ (by simp [ints])
      have h1 : isB (x1.toNat : Int) := b1 _ (by simp [ints])
      have h2 : isB (x2.toNat : Int) := b1 _ (by simp [ints])
      have h3 : isB (x3.toNat : Int) := b1 _ (by simp [ints])
      have h4 : isB (x4.toNat : Int) := b1 _ (by simp [ints])
      have e : wrap64 ((wrap64 ((wrap64 ((wrap64 ((wrap64 (x1.toNat : Int)) * 16777216)) + (wrap64 ((wrap64 (x2.toNat : Int)) * 65536)))) + (wrap64 ((wrap64 (x3.toNat : Int)) * 256)))) + (wrap64 (x4.toNat : Int))) = numV [(x1.toNat : Int), (x2.toNat : Int), (x3.toNat : Int), (x4.toNat : Int)] := by
        rw [num4 h1 h2 h3 h4]
        unfold isB at *
        rw [w64 (a := (x1.toNat : Int)) (by omega), w64 (a := (x2.toNat : Int)) (by omega), w64 (a := (x3.toNat : Int)) (by omega), w64 (a := (x4.toNat : Int)) (by omega), w64 (a := (x1.toNat : Int) * 16777216) (by omega), w64 (a := (x2.toNat : Int) * 65536) (by omega), w64 (a := (x3.toNat : Int) * 256) (by omega),
          w64 (a := (x1.toNat : Int) * 16777216 + (x2.toNat : Int) * 65536) (by omega), w64 (a := (x1.toNat : Int) * 16777216 + (x2.toNat : Int) * 65536 + (x3.toNat : Int) * 256) (by omega), w64 (by omega)]
        omega
      rw [if_pos (show ((ints [x0, x1, x2, x3, x4]).length : Int) = 5 from rfl), if_pos (show (0 : Int) < ((ints [x0, x1, x2, x3, x4]).length : Int) from by show (0 : Int) < ((5 : Nat) : Int); omega), if_pos (show (1 : Int) < ((ints [x0, x1, x2, x3, x4]).length : Int) from by show (1 : Int) < ((5 : Nat) : Int); omega), if_pos (show (2 : Int) < ((ints [x0, x1, x2, x3, x4]).length : Int) from by show (2 : Int) < ((5 : Nat) : Int); omega), if_pos (show (3 : Int) < ((ints [x0, x1, x2, x3, x4]).length : Int) from by show (3 : Int) < ((5 : Nat) : Int); omega), if_pos (show (4 : Int) < ((ints [x0, x1, x2, x3, x4]).length : Int) from by show (4 : Int) < ((5 : Nat) : Int); omega), if_pos (show (ints [x0, x1, x2, x3, x4]).length = 5 from rfl)]
      have e' : wrap64 ((wrap64 ((wrap64 ((wrap64 ((wrap64 (YtdelfhahbngcfaaDoorW.PrintWords.rd (ints [x0, x1, x2, x3, x4]) 1)) * 16777216)) + (wrap64 ((wrap64 (YtdelfhahbngcfaaDoorW.PrintWords.rd (ints [x0, x1, x2, x3, x4]) 2)) * 65536)))) + (wrap64 ((wrap64 (YtdelfhahbngcfaaDoorW.PrintWords.rd (ints [x0, x1, x2, x3, x4]) 3)) * 256)))) + (wrap64 (YtdelfhahbngcfaaDoorW.PrintWords.rd (ints [x0, x1, x2, x3, x4]) 4))) = numV ((ints [x0, x1, x2, x3, x4]).drop 1) := e
      rw [e', show tributaryref06_Check.f = dot_Check.f from rfl, chk_eq]
      by_cases hok : okD (wrap64 (YtdelfhahbngcfaaDoorW.PrintWords.rd (ints [x0, x1, x2, x3, x4]) 0)) (numV ((ints [x0, x1, x2, x3, x4]).drop 1))
      · rw [if_pos hok]; rfl
      · rw [if_neg hok]; rfl
  · rw [if_neg (by rw [ints_len]; omega), if_neg (by rw [ints_len]; exact h5)]
theorem read_some (l : List UInt8) : ∃ r1 r2 r3 r4, dot_Read.f (ints l) = some (r1, r2, r3, r4) := by
  rcases read_back (ints l) (ints_b l) with ⟨n, q, _, e, _⟩ | ⟨⟨r1, r2, r3, r4⟩, e, _⟩
  · exact ⟨_, _, _, _, e⟩
  · exact ⟨_, _, _, _, e⟩
theorem over_held {w : World} {base : Nat} {A : Option Addr} {n c : Nat} {x : List UInt8} (h : Held w base A n c x) : Calls Tryd.prog 20 #[.slice A n c] w fun e w' => e = .returned (.tuple #[]) ∧ Ch (fun k => base ≤ k) w w' := by
  rcases h with ⟨rfl, rfl, rfl, rfl⟩ | ⟨g, rfl, hb, hn, hg⟩
  · refine (over_nil w).mono ?_
    rintro e w' ⟨rfl, rfl⟩
    exact ⟨rfl, Ch.refl _ w⟩
  · have := byt_fits hb
    refine (over_any hb (by omega)).mono ?_
    rintro e w' ⟨rfl, _, hc⟩
    exact ⟨rfl, hc.mono (fun i _ hi => by rw [hi]; exact hg)⟩
def BytesQ (w : World) (n q : Int) (e : Ending) (w' : World) : Prop := ∃ A c, e = .returned (.tuple #[.slice A (bL n q).length c, .int .i64 (eN n q)]) ∧ Held w' w.heap.size A (bL n q).length c (bL n q) ∧ Below w.heap.size w w'
set_option maxHeartbeats 8000000 in
set_option maxRecDepth 100000 in
theorem bytes_any (a0_0 a0_1 : Int) (w : World) : Calls Tryd.prog 15 #[.agg #[.int .i64 a0_0, .int .i64 a0_1]] w (BytesQ w a0_0 a0_1) := by
  have hu23 := Tryd.underlying23
  obtain ⟨B, hB⟩ : ∃ z, z = w.heap.size := ⟨_, rfl⟩
  obtain ⟨V, hV⟩ : ∃ z, z = w.alloc (.cells #[.int .i64 a0_0, .int .i64 a0_1] 23) := ⟨_, rfl⟩
  have b1 : YtdelfhahbngcfaaDoor.Blk V B 23 #[.int .i64 a0_0, .int .i64 a0_1] := by rw [hV, hB]; exact blk_new _ _ _
  have b2 : Below w.heap.size w V := by rw [hV]; exact (Below.refl _ w).alloc (Nat.le_refl _) _
  have K0 := Lib.hid b1; have E0 := Lib.hid b2
  clear b1 b2
  by_cases hok : okD a0_0 a0_1
  · have HOK := Lib.hid hok
    clear hok
    go_enter Tryd.func15, Tryd.ntmps15
    go_wp2_with fail
    rw [← hV, ← hB]
    clear hV
    have HB := Lib.hid hB
    clear hB
    refine (dot_Check.calls a0_0 a0_1 0 V (chk_yes HOK.out)).mono ?_
    rintro e w1 ⟨rfl, hb⟩
    have K1 := Lib.hid (YtdelfhahbngcfaaDoor.blk_below K0.out hb)
    have E1 := Lib.hid (E0.out.trans (hb.mono E0.out.size))
    clear hb
    have z0 := YtdelfhahbngcfaaDoor.blk_cell K1.out 0 _ rfl
    have z1 := YtdelfhahbngcfaaDoor.blk_cell K1.out 1 _ rfl
    go_wp2
    go_ret2
    have e1 : eN a0_0 a0_1 = 0 := if_pos HOK.out
    have e2 : bL a0_0 a0_1 = [byD (a0_0 % 256), byD ((a0_1 / 16777216) % 256), byD ((a0_1 / 65536) % 256), byD ((a0_1 / 256) % 256), byD (a0_1 % 256)] := if_pos HOK.out
    have HB' := E1.out
    unfold BytesQ
    rw [e1, e2]
    refine ⟨some ⟨w1.heap.size, 0, none⟩, 5, rfl, .inr ⟨w1.heap.size, rfl, ⟨⟨[byD (a0_0 % 256), byD ((a0_1 / 16777216) % 256), byD ((a0_1 / 65536) % 256), byD ((a0_1 / 256) % 256), byD (a0_1 % 256)], rfl, List.take_length, ?_⟩, by omega⟩, rfl, HB'.size⟩, HB'.alloc HB'.size _⟩
    rw [heap_alloc_new]
    show some (Obj.cells #[.int .u8 (a0_0 % 256), .int .u8 ((a0_1 / 16777216) % 256), .int .u8 ((a0_1 / 65536) % 256), .int .u8 ((a0_1 / 256) % 256), .int .u8 (a0_1 % 256)] 5 (0, 0)) = some (.cells #[.int .u8 ((byD (a0_0 % 256)).toNat : Int), .int .u8 ((byD ((a0_1 / 16777216) % 256)).toNat : Int), .int .u8 ((byD ((a0_1 / 65536) % 256)).toNat : Int), .int .u8 ((byD ((a0_1 / 256) % 256)).toNat : Int), .int .u8 ((byD (a0_1 % 256)).toNat : Int)] 5 (0, 0))
    rw [byD_int, byD_int, byD_int, byD_int, byD_int]
  · have HOK := Lib.hid hok
    clear hok
    go_enter Tryd.func15, Tryd.ntmps15
    go_wp2_with fail
    rw [← hV]
    refine (dot_Check.calls a0_0 a0_1 2 V (chk_no HOK.out)).mono ?_
    rintro e w1 ⟨rfl, hb⟩
    have E1 := Lib.hid (E0.out.trans (hb.mono E0.out.size))
    clear hb hV hB
    go_wp2
    go_ret2
    have e1 : eN a0_0 a0_1 = 2 := if_neg HOK.out
    unfold BytesQ
    rw [e1, bL_no HOK.out]
    exact ⟨none, 0, rfl, held_nil _ _, E1.out⟩
end Go.Proofs.YtdelfhahbngcfaaDoorX.P06
end
section
namespace Go.Proofs.YtdelfhahbngcfaaDoorX.P06
open Go.RowKit Go.Proofs.YtdelfhahbngcfaaDoor Go.Proofs.YtdelfhahbngcfaaDoorW.PrintWords Go.Proofs.YtdelfhahbngcfaaDoorW.PrintLast Go.Proofs.YtdelfhahbngcfaaDoorW.PrintMore
set_option linter.unusedVariables false
set_option linter.unusedSimpArgs false
attribute [local go_sem high] eqA23 eqA36
theorem two_new (w : World) (a : Array Value) (s : Nat) (b : Array Value) (t : Nat) : YtdelfhahbngcfaaDoor.Blk ((w.alloc (.cells a s)).alloc (.cells b t)) w.heap.size s a ∧ YtdelfhahbngcfaaDoor.Blk ((w.alloc (.cells a s)).alloc (.cells b t)) (w.heap.size + 1) t b ∧ Below w.heap.size w ((w.alloc (.cells a s)).alloc (.cells b t)) := by
  have h1 : Below w.heap.size w (w.alloc (.cells a s)) := (Below.refl _ w).alloc (Nat.le_refl _) _
  have h2 : Below (w.alloc (.cells a s)).heap.size (w.alloc (.cells a s)) ((w.alloc (.cells a s)).alloc (.cells b t)) := (Below.refl _ _).alloc (Nat.le_refl _) _
  refine ⟨YtdelfhahbngcfaaDoor.blk_below (blk_new _ _ _) h2, ?_, h1.trans (h2.mono (by simp))⟩
  have := blk_new (w.alloc (.cells a s)) t b
  rwa [World.size_alloc] at this
theorem lent_C {w : World} {g c' n : Nat} {l : List UInt8} (hrow : Row w g 5 c' 1 (u8s (l ++ lentTail))) (hl : l.length = n) (hn : n ≤ 1000000000) : Kd.C (Kd.int .u8) w (some ⟨g, 0, none⟩) (ints l).length (ints l) :=
  C_of_rd (hrow.rd 0 n (n + 3) (u8s l) (by rw [List.drop_zero, u8s_take]; simp [hl]) (by simp [hl]) (by omega) (by omega))
theorem read_lent {w : World} {A : Option Addr} {n c : Nat} {l : List UInt8} {r1 r2 r3 r4 : Int} (hC : Kd.C (Kd.int .u8) w A (ints l).length (ints l)) (hl : l.length = n) (hc : n ≤ c) (h : dot_Read.f (ints l) = some (r1, r2, r3, r4)) :
    Calls Tryd.prog 17 #[.slice A n c] w fun e w' => e = .returned (.tuple #[.agg #[.int .i64 r1, .int .i64 r2], .agg #[.int .i64 r3, .int .i64 r4]]) ∧ Below w.heap.size w w' := by
  have := dot_Read.calls A c (ints l) r1 r2 r3 r4 w hC (by rw [ints_len]; omega) h
  rwa [ints_len, hl] at this
theorem rread_any {w : World} {A : Option Addr} {n c : Nat} {l : List UInt8} {r1 r2 r3 r4 : Int} (h : Rd w A n c 1 (u8s l)) (hl : l.length = n) (hf : dot_Read.f (ints l) = some (r1, r2, r3, r4)) :
    Calls Tryd.prog 18 #[.slice A n c] w fun e w' => e = .returned (.tuple #[.agg #[.int .i64 r1, .int .i64 r2], .agg #[.int .i64 r3, .int .i64 r4]]) ∧ Below w.heap.size w w' := by
  have hcap := h.cap
  have := tributaryref06_Read.calls A c (ints l) r1 r2 r3 r4 w (C_of_rd h) (by rw [ints_len]; omega) ((rread_eq l).trans hf)
  rwa [ints_len, hl] at this
theorem rbytes_any (n q : Int) (w : World) : Calls Tryd.prog 16 #[.agg #[.int .i64 n, .int .i64 q]] w fun e w' => ∃ A c, e = .returned (.tuple #[.slice A (bL n q).length c, .int .i64 (eN n q)]) ∧ Kd.C (Kd.int .u8) w' A (ints (bL n q)).length (ints (bL n q)) ∧ (bL n q).length ≤ c ∧ Below w.heap.size w w' := by
  refine (tributaryref06_Bytes.calls n q (ints (bL n q)) (eN n q) w (rbytes_eq n q)).mono ?_
  rintro e w' ⟨v, rfl, hR, hb⟩
  obtain ⟨A, c, rfl⟩ := Kd.R_slice hR
  obtain ⟨_, h2, h3⟩ := Kd.R_reads' hR
  rw [ints_len] at h2
  exact ⟨A, c, by rw [ints_len], h3, h2, hb⟩
theorem same_ints {w : World} {A B : Option Addr} {n c d : Nat} {l : List UInt8} (hA : Kd.C (Kd.int .u8) w A (ints l).length (ints l)) (hB : Kd.C (Kd.int .u8) w B (ints l).length (ints l)) (hl : l.length = n) (hc : n ≤ c) (hd : n ≤ d) :
    Calls Tryd.prog 19 #[.slice A n c, .slice B n d] w fun e w' => e = .returned (.bool true) ∧ Below w.heap.size w w' := by
  have := tributarykit_SameBytes.calls A c (ints l) B d (ints l) true w hA (by rw [ints_len]; omega) hB (by rw [ints_len]; omega) (congrArg some (beq_self_eq_true _))
  rw [ints_len, hl] at this
  exact this.mono (by rintro e w' ⟨he, hd⟩; exact ⟨he, drawn_below hd⟩)
set_option maxRecDepth 100000 in
set_option maxHeartbeats 16000000 in
theorem dotbytes_walk (q0 q1 : Int) (A : Option Addr) (n c : Nat) (l : List UInt8) (w : World) (h : Rd w A n c 1 (u8s l)) (hT : Laid w) :
    Calls Tryd.prog 4 #[.agg #[.int .i64 q0, .int .i64 q1], .slice A n c] w fun e w' => e = .returned (.bool true) ∧ Below w.heap.size w w' := by
  have hu23 := Tryd.underlying23
  have hu36 := Tryd.underlying36
  have hl : l.length = n := by have := h.len; simpa using this
  obtain ⟨r1, r2, r3, r4, hf⟩ := read_some l
  obtain ⟨B, hB⟩ : ∃ z, z = w.heap.size := ⟨_, rfl⟩
  obtain ⟨V, hV⟩ : ∃ z, z = w.alloc (.cells #[.int .i64 q0, .int .i64 q1] 23) := ⟨_, rfl⟩
  have b1 : YtdelfhahbngcfaaDoor.Blk V B 23 #[.int .i64 q0, .int .i64 q1] := by rw [hV, hB]; exact blk_new _ _ _
  have b2 : Below w.heap.size w V := by rw [hV]; exact (Below.refl _ w).alloc (Nat.le_refl _) _
  have H := Lib.hid h; have HT := Lib.hid hT; have HL := Lib.hid hl; have HF := Lib.hid hf
  have K0 := Lib.hid b1; have E0 := Lib.hid b2
  clear h hT hl hf b1 b2
  by_cases h40 : 40 < n
  · have g1 : decide ((40 : Int) < (n : Int)) = true := decide_eq_true (by omega)
    go_enter Tryd.func4, Tryd.ntmps4
    go_wp2_with fail
    rw [← hV]
    refine (tributarylaw06_awake.calls true V awake_eq (laid_below HT.out E0.out)).mono ?_
    rintro e w' ⟨rfl, hb⟩
    go_wp2
    go_ret
    exact ⟨rfl, E0.out.trans (hb.mono E0.out.size)⟩
  · have hn : n ≤ 40 := by omega
    have HN := Lib.hid hn
    have g1 : decide ((40 : Int) < (n : Int)) = false := decide_eq_false (by omega)
    clear hn h40
    go_enter Tryd.func4, Tryd.ntmps4
    go_wp2_with fail
    rw [← hV, ← hB]
    clear hV
    have HB := Lib.hid hB
    clear hB
    refine (lent_any A n c l V (H.out.below E0.out) (by have := HN.out; omega)).mono ?_
    rintro e w1 ⟨g, c', rfl, hbg, hnc, hrow, hb⟩
    have K1 := Lib.hid (YtdelfhahbngcfaaDoor.blk_below K0.out hb)
    have E1 := Lib.hid (E0.out.trans (hb.mono E0.out.size))
    have R1 := Lib.hid hrow
    clear hbg hnc hrow hb
    have z0 := YtdelfhahbngcfaaDoor.blk_cell K1.out 0 _ rfl
    have z1 := YtdelfhahbngcfaaDoor.blk_cell K1.out 1 _ rfl
    go_wp2_with fail
    refine (bytes_any q0 q1 w1).mono ?_
    rintro e w2 ⟨A2, c2, rfl, hh, hb⟩
    have K2 := Lib.hid (YtdelfhahbngcfaaDoor.blk_below K1.out hb)
    have E2 := Lib.hid (E1.out.trans (hb.mono E1.out.size))
    have R2 := Lib.hid (R1.out.below hb)
    have D2 := Lib.hid hh
    clear hh hb z0 z1
    have z0 := YtdelfhahbngcfaaDoor.blk_cell K2.out 0 _ rfl
    have z1 := YtdelfhahbngcfaaDoor.blk_cell K2.out 1 _ rfl
    go_wp2_with fail
    refine (rbytes_any q0 q1 w2).mono ?_
    rintro e w3 ⟨A3, c3, rfl, hC, hc3, hb⟩
    have E3 := Lib.hid (E2.out.trans (hb.mono E2.out.size))
    have R3 := Lib.hid (R2.out.below hb)
    have D3 := Lib.hid (held_ch D2.out (Ch.of_below hb No) (fun _ _ => id))
    have C3 := Lib.hid hC
    have H3 := Lib.hid hc3
    clear hC hc3 hb z0 z1 K2 K1 K0
    go_wp2_with fail
    refine (read_lent (lent_C R3.out HL.out (by have := HN.out; omega)) HL.out (by omega) HF.out).mono ?_
    rintro e w4 ⟨rfl, hb⟩
    have E4 := Lib.hid (E3.out.trans (hb.mono E3.out.size))
    have R4 := Lib.hid (R3.out.below hb)
    have D4 := Lib.hid (held_ch D3.out (Ch.of_below hb No) (fun _ _ => id))
    have C4 := Lib.hid (Kd.C_below C3.out hb)
    clear hb
    go_wp2_with fail
    obtain ⟨P, hP⟩ : ∃ z, z = w4.heap.size := ⟨_, rfl⟩
    obtain ⟨w5, hw5⟩ : ∃ z, z = (w4.alloc (.cells #[.int .i64 r1, .int .i64 r2] 23)).alloc (.cells #[.int .i64 r3, .int .i64 r4] 36) := ⟨_, rfl⟩
    obtain ⟨p1, p2, p3⟩ := two_new w4 #[.int .i64 r1, .int .i64 r2] 23 #[.int .i64 r3, .int .i64 r4] 36
    rw [← hw5, ← hP] at p1 p2
    rw [← hw5] at p3
    rw [← hw5, ← hP]
    have E5 := Lib.hid (E4.out.trans (p3.mono E4.out.size))
    have R5 := Lib.hid (R4.out.below p3)
    have D5 := Lib.hid (held_ch D4.out (Ch.of_below p3 No) (fun _ _ => id))
    have C5 := Lib.hid (Kd.C_below C4.out p3)
    have F5 := Lib.hid p1; have G5 := Lib.hid p2
    clear p1 p2 p3 hP hw5
    refine (rread_any (H.out.below E5.out) HL.out HF.out).mono ?_
    rintro e w6 ⟨rfl, hb⟩
    have E6 := Lib.hid (E5.out.trans (hb.mono E5.out.size))
    have R6 := Lib.hid (R5.out.below hb)
    have D6 := Lib.hid (held_ch D5.out (Ch.of_below hb No) (fun _ _ => id))
    have C6 := Lib.hid (Kd.C_below C5.out hb)
    have F6 := Lib.hid (YtdelfhahbngcfaaDoor.blk_below F5.out hb); have G6 := Lib.hid (YtdelfhahbngcfaaDoor.blk_below G5.out hb)
    clear hb
    go_wp2_with fail
    obtain ⟨Q, hQ⟩ : ∃ z, z = w6.heap.size := ⟨_, rfl⟩
    obtain ⟨w7, hw7⟩ : ∃ z, z = (w6.alloc (.cells #[.int .i64 r1, .int .i64 r2] 23)).alloc (.cells #[.int .i64 r3, .int .i64 r4] 36) := ⟨_, rfl⟩
    obtain ⟨p1, p2, p3⟩ := two_new w6 #[.int .i64 r1, .int .i64 r2] 23 #[.int .i64 r3, .int .i64 r4] 36
    rw [← hw7, ← hQ] at p1 p2
    rw [← hw7] at p3
    rw [← hw7, ← hQ]
    have E7 := Lib.hid (E6.out.trans (p3.mono E6.out.size))
    have R7 := Lib.hid (R6.out.below p3)
    have D7 := Lib.hid (held_ch D6.out (Ch.of_below p3 No) (fun _ _ => id))
    have C7 := Lib.hid (Kd.C_below C6.out p3)
    have F7 := Lib.hid (YtdelfhahbngcfaaDoor.blk_below F6.out p3); have G7 := Lib.hid (YtdelfhahbngcfaaDoor.blk_below G6.out p3)
    have I7 := Lib.hid p1; have J7 := Lib.hid p2
    clear p1 p2 p3 hQ hw7
    refine (same_ints (C_of_rd (held_rd D7.out)) C7.out rfl (held_rd D7.out).cap H3.out).mono ?_
    rintro e w8 ⟨rfl, hb⟩
    have E8 := Lib.hid (E7.out.trans (hb.mono E7.out.size))
    have R8 := Lib.hid (R7.out.below hb)
    have D8 := Lib.hid (held_ch D7.out (Ch.of_below hb No) (fun _ _ => id))
    have F8 := Lib.hid (YtdelfhahbngcfaaDoor.blk_below F7.out hb); have G8 := Lib.hid (YtdelfhahbngcfaaDoor.blk_below G7.out hb)
    have I8 := Lib.hid (YtdelfhahbngcfaaDoor.blk_below I7.out hb); have J8 := Lib.hid (YtdelfhahbngcfaaDoor.blk_below J7.out hb)
    clear hb
    have y0 := YtdelfhahbngcfaaDoor.blk_cell F8.out 0 _ rfl
    have y1 := YtdelfhahbngcfaaDoor.blk_cell F8.out 1 _ rfl
    have y2 := YtdelfhahbngcfaaDoor.blk_cell G8.out 0 _ rfl
    have y3 := YtdelfhahbngcfaaDoor.blk_cell G8.out 1 _ rfl
    have y4 := YtdelfhahbngcfaaDoor.blk_cell I8.out 0 _ rfl
    have y5 := YtdelfhahbngcfaaDoor.blk_cell I8.out 1 _ rfl
    have y6 := YtdelfhahbngcfaaDoor.blk_cell J8.out 0 _ rfl
    have y7 := YtdelfhahbngcfaaDoor.blk_cell J8.out 1 _ rfl
    go_wp2_with fail
    refine (over_held D8.out).mono ?_
    rintro e w9 ⟨rfl, hc⟩
    have E9 := Lib.hid (((Ch.of_below E8.out (fun k => w1.heap.size ≤ k)).trans hc (fun i hi => .inl hi)).below (Nat.le_refl _) (fun j hj => Nat.le_trans E1.out.size hj))
    have R9 := Lib.hid (R8.out.ch hc (Nat.not_le.2 R1.out.lt))
    clear hc y0 y1 y2 y3 y4 y5 y6 y7
    go_wp2_with fail
    refine (kept_any g c' A n c l w9 R9.out (H.out.below E9.out) (by have := HN.out; omega)).mono ?_
    rintro e w10 ⟨rfl, hb⟩
    have E10 := Lib.hid (E9.out.trans (hb.mono E9.out.size))
    clear hb
    go_wp2_with fail
    refine (tributarylaw06_awake.calls true w10 awake_eq (laid_below HT.out E10.out)).mono ?_
    rintro e w11 ⟨rfl, hb⟩
    go_wp2
    go_ret
    exact ⟨rfl, E10.out.trans (hb.mono E10.out.size)⟩
end Go.Proofs.YtdelfhahbngcfaaDoorX.P06
end
