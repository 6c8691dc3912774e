/- Plain words: numbers as bytes, and back; no program. Conditions: numbers below 2^64. -/
import Derived.Test.YtondodhpmghogaaLib
import Derived.Lib.BitFns
namespace Go.Proofs.Ytondodhpmghogaa
open Go.RowKit
set_option linter.unusedVariables false
set_option linter.unusedSimpArgs false

/-- a number's bytes, the greatest first, without leading noughts -/
def beF : Nat → Nat → List UInt8
  | 0, _ => []
  | f + 1, n => if n = 0 then [] else beF f (n / 256) ++ [UInt8.ofNat (n % 256)]
def be (n : Nat) : List UInt8 := beF 8 n
/-- the number of bytes -/
def valB (l : List UInt8) : Nat := l.foldl (fun a c => 256 * a + c.toNat) 0
def frm (n : Nat) : List UInt8 := UInt8.ofNat (be n).length :: be n

theorem beF_zero (f : Nat) : beF f 0 = [] := by cases f <;> rfl
theorem beF_more : ∀ (f n : Nat), n < 256 ^ f → beF (f + 1) n = beF f n
  | 0, n, h => by
    have : n = 0 := by simpa using h
    subst this; rfl
  | f + 1, n, h => by
    show (if n = 0 then [] else beF (f + 1) (n / 256) ++ [UInt8.ofNat (n % 256)]) = (if n = 0 then [] else beF f (n / 256) ++ [UInt8.ofNat (n % 256)])
    rw [beF_more f (n / 256) (by rw [Nat.pow_succ] at h; omega)]
theorem be_zero : be 0 = [] := rfl
theorem be_step (n : Nat) (h0 : n ≠ 0) (h : n < 18446744073709551616) : be n = be (n / 256) ++ [UInt8.ofNat (n % 256)] := by
  have h1 : beF 8 n = beF 7 (n / 256) ++ [UInt8.ofNat (n % 256)] := by rw [beF, if_neg h0]
  unfold be
  rw [h1, beF_more 7 (n / 256) (by simp; omega)]
theorem beF_len : ∀ f n, (beF f n).length ≤ f
  | 0, _ => Nat.le_refl _
  | f + 1, n => by
    rw [beF]; split
    · exact Nat.zero_le _
    · have := beF_len f (n / 256); simp; omega
theorem be_len8 (n : Nat) : (be n).length ≤ 8 := beF_len 8 n
theorem be_ind {C : Nat → Prop} (h0 : C 0) (hs : ∀ n, n ≠ 0 → n < 18446744073709551616 → C (n / 256) → C n) (n : Nat) (h : n < 18446744073709551616) : C n := by
  induction n using Nat.strongRecOn with
  | ind n ih =>
    by_cases hn : n = 0
    · rw [hn]; exact h0
    · exact hs n hn h (ih (n / 256) (by omega) (by omega))
theorem bitLen_small (n : Nat) (h0 : n ≠ 0) (h : n < 256) : 1 ≤ Lib.bitLen n ∧ Lib.bitLen n ≤ 8 := by
  have h2 := Lib.bitLen_le n 8 (by omega) (by omega)
  have h3 := Lib.bitLen_half n h0 (by omega)
  omega
theorem be_len (n : Nat) (h : n < 18446744073709551616) : (be n).length = (Lib.bitLen n + 7) / 8 := by
  refine be_ind (C := fun n => (be n).length = (Lib.bitLen n + 7) / 8) rfl (fun n h0 hn ih => ?_) n h
  rw [be_step n h0 hn, List.length_append, ih]
  by_cases hs : n < 256
  · have h1 := bitLen_small n h0 hs
    have h2 : n / 256 = 0 := by omega
    rw [h2]
    have : Lib.bitLen 0 = 0 := rfl
    simp [this]; omega
  · have := Lib.bitLen_shift8 n (by omega) hn
    simp; omega
theorem valB_snoc (l : List UInt8) (c : UInt8) : valB (l ++ [c]) = 256 * valB l + c.toNat := by simp [valB, List.foldl_append]
theorem valB_be (n : Nat) (h : n < 18446744073709551616) : valB (be n) = n := by
  refine be_ind (C := fun n => valB (be n) = n) rfl (fun n h0 hn ih => ?_) n h
  rw [be_step n h0 hn, valB_snoc, ih]
  simp; omega
theorem be_get (n : Nat) (h : n < 18446744073709551616) : ∀ j, j < (be n).length → (((be n)[j]?.getD 0).toNat : Nat) = n / 256 ^ ((be n).length - 1 - j) % 256 := by
  refine be_ind (C := fun n => ∀ j, j < (be n).length → (((be n)[j]?.getD 0).toNat : Nat) = n / 256 ^ ((be n).length - 1 - j) % 256) (fun j hj => by simp [be_zero] at hj) (fun n h0 hn ih => ?_) n h
  intro j hj
  rw [be_step n h0 hn] at hj ⊢
  simp only [List.length_append, List.length_cons, List.length_nil] at hj ⊢
  by_cases hl : j < (be (n / 256)).length
  · rw [List.getElem?_append_left hl, ih j hl, Nat.div_div_eq_div_mul]
    congr 2
    rw [show (be (n / 256)).length + (0 + 1) - 1 - j = (be (n / 256)).length - 1 - j + 1 by omega, Nat.pow_succ, Nat.mul_comm]
  · have : j = (be (n / 256)).length := by omega
    subst this
    simp
theorem valB_fold : ∀ (k : List UInt8) (a : Nat), k.foldl (fun a c => 256 * a + c.toNat) a = a * 256 ^ k.length + valB k
  | [], a => by simp [valB]
  | c :: k, a => by
    have h1 := valB_fold k (256 * a + c.toNat)
    have h2 := valB_fold k c.toNat
    simp only [List.foldl_cons, valB, List.length_cons, Nat.mul_zero, Nat.zero_add] at h1 h2 ⊢
    rw [h1, h2, Nat.pow_succ, Nat.add_mul]
    have : 256 * a * 256 ^ k.length = a * (256 ^ k.length * 256) := by rw [Nat.mul_comm 256 a, Nat.mul_assoc, Nat.mul_comm 256]
    omega
theorem valB_append (l k : List UInt8) : valB (l ++ k) = valB l * 256 ^ k.length + valB k := by
  have := valB_fold k (valB l)
  rw [← this]; simp [valB, List.foldl_append]
theorem valB_cons (c : UInt8) (l : List UInt8) : valB (c :: l) = c.toNat * 256 ^ l.length + valB l := by
  have := valB_append [c] l
  simpa [valB] using this
theorem valB_lt : ∀ (l : List UInt8), valB l < 256 ^ l.length
  | [] => by simp [valB]
  | c :: l => by
    have h1 := valB_lt l
    have h2 := c.toNat_lt
    rw [valB_cons, List.length_cons, Nat.pow_succ]
    have : c.toNat * 256 ^ l.length ≤ 255 * 256 ^ l.length := Nat.mul_le_mul_right _ (by omega)
    omega
theorem valB_lt8 (l : List UInt8) (h : l.length ≤ 8) : valB l < 18446744073709551616 :=
  Nat.lt_of_lt_of_le (valB_lt l) (Nat.le_trans (Nat.pow_le_pow_right (by decide) h) (by decide))
theorem valB_pos (c : UInt8) (l : List UInt8) (h : c ≠ 0) : 256 ^ l.length ≤ valB (c :: l) := by
  rw [valB_cons]
  have : 1 ≤ c.toNat := by
    rcases Nat.eq_zero_or_pos c.toNat with e | e
    · exact absurd (UInt8.toNat_inj.1 (by simpa using e)) h
    · exact e
  have := Nat.mul_le_mul_right (256 ^ l.length) this
  omega
theorem be_valB : ∀ (m : Nat) (l : List UInt8), l.length = m → m ≤ 8 → (∀ c t, l = c :: t → c ≠ 0) → be (valB l) = l
  | 0, l, hl, _, _ => by rw [List.eq_nil_of_length_eq_zero hl]; rfl
  | m + 1, l, hl, hm, hc => by
    obtain ⟨k, c, rfl⟩ : ∃ k c, l = k ++ [c] := ⟨l.dropLast, l.getLast (by intro e; simp [e] at hl), (List.dropLast_concat_getLast _).symm⟩
    have hk : k.length = m := by simpa using hl
    have hb := valB_lt8 (k ++ [c]) (by rw [hl]; exact hm)
    have hp : valB (k ++ [c]) ≠ 0 := by
      cases k with
      | nil =>
        have := valB_pos c [] (hc c [] rfl)
        simp at this ⊢; omega
      | cons d t =>
        have := valB_pos d (t ++ [c]) (hc d (t ++ [c]) rfl)
        have := Nat.pow_pos (n := (t ++ [c]).length) (show 0 < 256 by decide)
        simp only [List.cons_append]; omega
    have hlt := c.toNat_lt
    rw [be_step _ hp hb, valB_snoc]
    have e1 : (256 * valB k + c.toNat) / 256 = valB k := by omega
    have e2 : (256 * valB k + c.toNat) % 256 = c.toNat := by omega
    rw [e1, e2, be_valB m k hk (by omega) (fun d t e => hc d (t ++ [c]) (by rw [e]; rfl))]
    simp
theorem be_head (n : Nat) (h : n < 18446744073709551616) (h0 : n ≠ 0) : ∃ c t, be n = c :: t ∧ c ≠ 0 := by
  refine be_ind (C := fun n => n ≠ 0 → ∃ c t, be n = c :: t ∧ c ≠ 0) (fun h => absurd rfl h) (fun n h1 hn ih _ => ?_) n h h0
  rw [be_step n h1 hn]
  by_cases hs : n / 256 = 0
  · refine ⟨UInt8.ofNat (n % 256), [], by rw [hs]; rfl, fun e => ?_⟩
    have := congrArg UInt8.toNat e
    simp at this; omega
  · obtain ⟨c, t, e, hc⟩ := ih hs
    exact ⟨c, t ++ [UInt8.ofNat (n % 256)], by rw [e]; rfl, hc⟩

/-! ### writing -/
def wput (b : List UInt8) (e : Int) (k : List UInt8) : List UInt8 × Int := if e ≠ 0 then (b, e) else if 1048576 < b.length + k.length then (b, 3) else (b ++ k, 0)
def wnum (b : List UInt8) (e n : Int) : List UInt8 × Int := if e ≠ 0 then (b, e) else if n < 0 ∨ 4611686018427387903 < n then (b, 5) else wput b e (frm n.toNat)
def wraw (b : List UInt8) (e : Int) (k : List UInt8) : List UInt8 × Int := wput b e (frm k.length ++ k)
theorem wput_len (b : List UInt8) (e : Int) (k : List UInt8) (h : b.length ≤ 1048576) : (wput b e k).1.length ≤ 1048576 := by
  unfold wput; split
  · exact h
  · split
    · exact h
    · simp; omega
theorem wnum_len (b : List UInt8) (e n : Int) (h : b.length ≤ 1048576) : (wnum b e n).1.length ≤ 1048576 := by
  unfold wnum; split
  · exact h
  · split
    · exact h
    · exact wput_len b e _ h
theorem wraw_len (b : List UInt8) (e : Int) (k : List UInt8) (h : b.length ≤ 1048576) : (wraw b e k).1.length ≤ 1048576 := wput_len b e _ h
theorem frm_len (n : Nat) : (frm n).length = (be n).length + 1 := rfl
theorem frm_len9 (n : Nat) : (frm n).length ≤ 9 := by have := be_len8 n; rw [frm_len]; omega

/-! ### reading -/
structure Rdr where
  b : List UInt8
  at_ : Nat
  e : Int
  p : Int
def rnum (s : Rdr) (lo hi : Int) : Int × Rdr :=
  if s.e ≠ 0 then (0, s)
  else if s.b.length ≤ s.at_ then (0, { s with e := 4, p := s.b.length })
  else if 8 < (s.b[s.at_]?.getD 0).toNat then (0, { s with e := 2, p := s.at_ })
  else if s.b.length < s.at_ + 1 + (s.b[s.at_]?.getD 0).toNat then (0, { s with e := 4, p := s.b.length })
  else if 0 < (s.b[s.at_]?.getD 0).toNat ∧ (s.b[s.at_ + 1]?.getD 0) = 0 then (0, { s with e := 2, p := s.at_ })
  else if 4611686018427387903 < valB ((s.b.drop (s.at_ + 1)).take (s.b[s.at_]?.getD 0).toNat) ∨ (valB ((s.b.drop (s.at_ + 1)).take (s.b[s.at_]?.getD 0).toNat) : Int) < lo ∨ hi < (valB ((s.b.drop (s.at_ + 1)).take (s.b[s.at_]?.getD 0).toNat) : Int) then (0, { s with e := 5, p := s.at_ })
  else ((valB ((s.b.drop (s.at_ + 1)).take (s.b[s.at_]?.getD 0).toNat) : Int), { s with at_ := s.at_ + 1 + (s.b[s.at_]?.getD 0).toNat })
/-- what Raw makes of the number that was read: from where it was read, the bound -/
def rrawB (frm : Nat) (m : Int) (r : Int × Rdr) : List UInt8 × Rdr :=
  if r.2.e ≠ 0 then ([], { r.2 with at_ := frm })
  else if m < r.1 then ([], { r.2 with at_ := frm, e := 3, p := frm })
  else if (r.2.b.length : Int) < r.2.at_ + r.1 then ([], { r.2 with at_ := frm, e := 4, p := r.2.b.length })
  else ((r.2.b.drop r.2.at_).take r.1.toNat, { r.2 with at_ := r.2.at_ + r.1.toNat })
def rraw (s : Rdr) (m : Int) : List UInt8 × Rdr := if s.e ≠ 0 then ([], s) else rrawB s.at_ m (rnum s 0 4611686018427387903)
def rend (s : Rdr) : Int × Int := if s.e = 0 ∧ s.at_ < s.b.length then (4, s.at_) else (s.e, s.p)
/-- a reader stands within its bytes; a place of a fault too -/
structure Fit (s : Rdr) : Prop where
  le : s.at_ ≤ s.b.length
  big : s.b.length ≤ 9223372036854775807
  pl : 0 ≤ s.p ∧ s.p ≤ s.b.length
theorem rnum_b (s : Rdr) (lo hi : Int) : (rnum s lo hi).2.b = s.b := by
  unfold rnum
  repeat' split
  all_goals rfl
theorem rnum_fit (s : Rdr) (lo hi : Int) (h : Fit s) : Fit (rnum s lo hi).2 := by
  obtain ⟨h1, h2, h3⟩ := h
  unfold rnum
  repeat' split
  all_goals (constructor <;> simp_all <;> omega)
theorem rnum_range (s : Rdr) (lo hi : Int) : 0 ≤ (rnum s lo hi).1 ∧ (rnum s lo hi).1 ≤ 4611686018427387903 := by
  unfold rnum
  repeat' split
  all_goals simp_all
  all_goals omega
theorem rraw_b (s : Rdr) (m : Int) : (rraw s m).2.b = s.b := by
  unfold rraw rrawB
  have := rnum_b s 0 4611686018427387903
  repeat' split
  all_goals simp_all
theorem rraw_fit (s : Rdr) (m : Int) (h : Fit s) : Fit (rraw s m).2 := by
  unfold rraw rrawB
  have h1 := rnum_b s 0 4611686018427387903
  have h2 := rnum_fit s 0 4611686018427387903 h
  have h3 := rnum_range s 0 4611686018427387903
  generalize rnum s 0 4611686018427387903 = r at h1 h2 h3
  obtain ⟨k1, k2, k3⟩ := h
  obtain ⟨j1, j2, j3⟩ := h2
  rw [h1] at j1 j2 j3
  repeat' split
  all_goals (constructor <;> simp_all <;> omega)
end Go.Proofs.Ytondodhpmghogaa
