/- Walks: Pick, PrintPieces and PrintChanged. No conditions. -/
import Derived.Test.YtnlninmjmjffcaaTf
namespace Go.Proofs.Ytnlninmjmjffcaa
open Go.RowKit
set_option linter.unusedVariables false
set_option linter.unusedSimpArgs false

/-- the kit's Pick -/
def pick (x n : Int) : Int := if n < 1 then 0 else (x.tmod n + n) % n
theorem pick_range (x n : Int) (h : 1 ≤ n) : 0 ≤ pick x n ∧ pick x n < n := by
  unfold pick
  rw [if_neg (by omega)]
  exact ⟨Int.emod_nonneg _ (by omega), Int.emod_lt_of_pos _ (by omega)⟩

set_option maxHeartbeats 400000 in
theorem pick_any (x n : Int) (w : World) (hn : n ≤ 4611686018427387904) : Calls Try.prog 27 #[.int .i64 x, .int .i64 n] w fun e w' => e = .returned (.int .i64 (pick x n)) ∧ w = w' := by
  by_cases h : n < 1
  · go_enter Try.func27, Try.ntmps27
    go_wp2
    go_ret
    exact ⟨ret_int (by unfold pick; rw [if_pos h]), rfl⟩
  · have h1 : 1 ≤ n := by omega
    have hm1 : -n < x.tmod n := Int.lt_tmod_of_pos x (by omega)
    have hm2 : x.tmod n < n := Int.tmod_lt_of_pos x (by omega)
    have hne : ((n : Int) == 0) = false := by simp; omega
    go_enter Try.func27, Try.ntmps27
    go_wp2
    go_ret
    exact ⟨ret_int (by unfold pick; rw [if_neg (by omega)]; simp), rfl⟩

def i8s (l : List Int) : List Value := l.map fun x => .int .i64 x
theorem i8s_get (l : List Int) (j : Nat) (h : j < l.length) : (i8s l)[j]? = some (.int .i64 (l[j]?.getD 0)) := by simp [i8s, h]

theorem rd_empty (w : World) (A : Option Addr) (sz : Nat) : Rd w A 0 0 sz [] := ⟨by simp, Nat.le_refl _, by omega, fun _ => rfl, fun j u hu => by simp at hu⟩
theorem fnv_app (s : Int) (a b : List UInt8) : fnv (fnv s a) b = fnv s (a ++ b) := by simp [fnv]
theorem take_plus (l : List UInt8) (f p : Nat) : l.take (f + p) = l.take f ++ (l.drop f).take p := by rw [List.take_add]

set_option maxRecDepth 100000 in
set_option maxHeartbeats 1000000 in
theorem pieces_any (A B : Option Addr) (n c m d : Nat) (l : List UInt8) (xs : List Int) (w : World) (hl : Rd w A n c 1 (u8s l)) (hx : Rd w B m d 1 (i8s xs)) :
    Calls Try.prog 7 #[.slice A n c, .slice B m d] w (AwakeQ w) := by
  have hn := hl.small
  have hm := hx.small
  have hlen : l.length = n := by have := hl.len; simpa using this
  have hlen2 : xs.length = m := by have := hx.len; simpa [i8s] using this
  have HN := Lib.hid hlen
  have HM := Lib.hid hlen2
  have HL := Lib.hid hl; clear hl
  have HX := Lib.hid hx; clear hx hlen hlen2
  by_cases h1 : 3000 < n
  · go_enter Try.func7, Try.ntmps7
    go_wp2_with fail
    refine (known_any w).mono ?_; rintro e w1 ⟨rfl, hB⟩
    go_wp2
    go_ret
    exact ⟨rfl, hB⟩
  have h1' : n ≤ 3000 := by omega
  by_cases h2 : 20 < m
  · go_enter Try.func7, Try.ntmps7
    go_wp2_with fail
    refine (known_any w).mono ?_; rintro e w1 ⟨rfl, hB⟩
    go_wp2
    go_ret
    exact ⟨rfl, hB⟩
  have h2' : m ≤ 20 := by omega
  clear h1 h2
  go_enter Try.func7, Try.ntmps7
  go_wp2_with fail
  refine (known_any w).mono ?_; rintro e w1 ⟨rfl, hB⟩
  go_wp2_with fail
  refine (start_any w1).mono ?_; rintro e w1 ⟨rfl, rfl⟩
  go_wp2
  go_loopw [6, 7, 8, 9] (fun st fr i _ wr => ∃ (k f : Nat), k ≤ m ∧ f ≤ n ∧ i = .int .i64 k ∧ fr = .int .i64 f ∧ st = .int .u64 (fnv start (l.take f)) ∧ Below w.heap.size w wr) (fun _ _ i _ _ => m - (intOf i).toNat)
  case atStart => exact ⟨0, 0, by omega, by omega, rfl, rfl, rfl, hB⟩
  case round =>
    clear hB
    obtain ⟨k, f, hk, hf, rfl, rfl, rfl, hB⟩ := hrel
    by_cases hlt : k < m
    · obtain ⟨b, off, rfl, hc⟩ := (HX.out.below hB).cells k _ (i8s_get xs k (by rw [HM.out]; exact hlt))
      go_wp2_with fail
      refine (pick_any _ _ _ (by omega)).mono ?_; rintro e w2 ⟨rfl, rfl⟩
      obtain ⟨p, hp⟩ : ∃ p : Nat, pick (xs[k]?.getD 0) (n - f + 1) = (p : Int) := ⟨(pick (xs[k]?.getD 0) (n - f + 1)).toNat, by have := pick_range (xs[k]?.getD 0) (n - f + 1) (by omega); omega⟩
      have hpr : p ≤ n - f := by have := pick_range (xs[k]?.getD 0) (n - f + 1) (by omega); omega
      rw [hp]
      clear hp
      have hcap := HL.out.cap
      by_cases hcf : c = f
      · have hfn : n = f := by omega
        have hp0 : p = 0 := by omega
        subst hcf hfn hp0
        have hr := Lib.hid (rd_empty wr A 1)
        go_wp2_with fail
        refine (more_any _ _ _ _ [] _ hr.out).mono ?_; rintro e w3 ⟨rfl, hB3⟩
        go_wp2
        go_roundw
        case rel => exact ⟨k + 1, n, by omega, by omega, by go_num, rfl, rfl, hB.trans (hB3.mono hB.size)⟩
        case measure => simp [intOf]; omega
      · have hr := Lib.hid ((HL.out.below hB).cut f p (by omega) (u8s ((l.drop f).take p)) (by rw [Nat.mul_one, Nat.mul_one, u8s_drop, u8s_take]))
        simp only [Nat.mul_one] at hr
        go_wp2_with fail
        refine (more_any _ _ _ _ _ _ hr.out).mono ?_; rintro e w3 ⟨rfl, hB3⟩
        go_wp2
        go_roundw
        case rel => exact ⟨k + 1, f + p, by omega, by omega, by go_num, by go_num, by rw [take_plus, fnv_app], hB.trans (hB3.mono hB.size)⟩
        case measure => simp [intOf]; omega
    · obtain rfl : k = m := by omega
      have hcap := HL.out.cap
      have HE := Lib.hid (show fnv (fnv start (l.take f)) ((l.drop f).take (n - f)) = fnv start l from by rw [fnv_app, ← take_plus, List.take_of_length_le (by rw [HN.out]; omega)])
      have fin : ∀ (W1 : World), Below w.heap.size w W1 → Rd W1 A n c 1 (u8s l) := fun W1 hb => HL.out.below hb
      have FIN := Lib.hid fin
      clear fin
      by_cases hcf : c = f
      · have hfn : n = f := by omega
        subst hcf hfn
        have hr := Lib.hid (rd_empty wr A 1)
        have HE := Lib.hid (show fnv start (l.take n) = fnv start l from by rw [List.take_of_length_le (by rw [HN.out]; omega)])
        rw [HE.out]
        go_wp2_with fail
        refine (more_any _ _ _ _ [] _ hr.out).mono ?_; rintro e w3 ⟨rfl, hB3⟩
        rw [show fnv (fnv start l) [] = fnv start l from rfl]
        have hB3 := hB.trans (hB3.mono hB.size)
        go_wp2_with fail
        refine (sum_any _ _ _ _ _ (FIN.out _ hB3)).mono ?_; rintro e w4 ⟨rfl, hB4⟩
        have hB4 := hB3.trans (hB4.mono hB3.size)
        go_wp2_with fail
        refine (sum_any _ _ _ _ _ (FIN.out _ hB4)).mono ?_; rintro e w5 ⟨rfl, hB5⟩
        have hB5 := hB4.trans (hB5.mono hB4.size)
        go_wp2_with fail
        refine (start_any _).mono ?_; rintro e w6 ⟨rfl, rfl⟩
        go_wp2_with fail
        refine (more_any _ _ _ _ _ _ (FIN.out _ hB5)).mono ?_; rintro e w6 ⟨rfl, hB6⟩
        have hB6 := hB5.trans (hB6.mono hB5.size)
        go_wp2
        go_ret
        exact ⟨rfl, hB6⟩
      · have hr := Lib.hid ((HL.out.below hB).cut f (n - f) (by omega) (u8s ((l.drop f).take (n - f))) (by rw [Nat.mul_one, Nat.mul_one, u8s_drop, u8s_take]))
        simp only [Nat.mul_one] at hr
        go_wp2_with fail
        refine (more_any _ _ _ _ _ _ hr.out).mono ?_; rintro e w3 ⟨rfl, hB3⟩
        rw [HE.out]
        have hB3 := hB.trans (hB3.mono hB.size)
        go_wp2_with fail
        refine (sum_any _ _ _ _ _ (FIN.out _ hB3)).mono ?_; rintro e w4 ⟨rfl, hB4⟩
        have hB4 := hB3.trans (hB4.mono hB3.size)
        go_wp2_with fail
        refine (sum_any _ _ _ _ _ (FIN.out _ hB4)).mono ?_; rintro e w5 ⟨rfl, hB5⟩
        have hB5 := hB4.trans (hB5.mono hB4.size)
        go_wp2_with fail
        refine (start_any _).mono ?_; rintro e w6 ⟨rfl, rfl⟩
        go_wp2_with fail
        refine (more_any _ _ _ _ _ _ (FIN.out _ hB5)).mono ?_; rintro e w6 ⟨rfl, hB6⟩
        have hB6 := hB5.trans (hB6.mono hB5.size)
        go_wp2
        go_ret
        exact ⟨rfl, hB6⟩

end Go.Proofs.Ytnlninmjmjffcaa
