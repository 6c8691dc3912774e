/- Plain words: numbers as bytes, and back; no program. Conditions: numbers below 2^64. | Walks: a number as bytes; the writer's put. Conditions: the number below 2^63; what is put is short. | Walk: the writer's put. Conditions: the writer is as New made it; what is put is short and lies apart from it. | Walks: New, Num, Raw, Text, Out of the writer. Conditions: the writer is as New made it; what is handed in is short and lies apart from it. | Walks: Raw and Text of the writer. Conditions: the writer is as New made it; what is handed in is short and lies apart from it. | Walks: Out of the writer; the reference's form of a number. Conditions: the writer is as New made it; the number below 2^63. | Walks: the reference's writer. Conditions: what is handed in is short and lies apart from it. | Walks: the reference's Num, Raw, Text, Out of the writer. Conditions: what is handed in is short and lies apart from it. -/
import Derived.Test.YtncahekankbalaaLib
import Derived.Lib.BitFns
import Derived.Test.YtncahekankbalaaC1
import Derived.Test.YtncahekankbalaaWL
import Derived.Laws.IdiomStrings
import Derived.Test.YtncahekankbalaaLib5
import Derived.Deep.QuietTactic
import Derived.BigQuiet
section
namespace Go.Proofs.Ytncahekankbalaa
open Go.RowKit
set_option linter.unusedVariables false
set_option linter.unusedSimpArgs false

/-- a number's bytes, the greatest first, without leading noughts -/
def beF : Nat → Nat → List UInt8
  | 0, _ => []
  | f + 1, n => if n = 0 then [] else beF f (n / 256) ++ [UInt8.ofNat (n % 256)]
def be (n : Nat) : List UInt8 := beF 8 n
/-- the number of bytes -/
def valB (l : List UInt8) : Nat := l.foldl (fun a c => 256 * a + c.toNat) 0
def frm (n : Nat) : List UInt8 := UInt8.ofNat (be n).length :: be n

theorem beF_zero (f : Nat) : beF f 0 = [] := by cases f <;> rfl
theorem beF_more : ∀ (f n : Nat), n < 256 ^ f → beF (f + 1) n = beF f n
  | 0, n, h => by
    have : n = 0 := by simpa using h
    subst this; rfl
  | f + 1, n, h => by
    show (if n = 0 then [] else beF (f + 1) (n / 256) ++ [UInt8.ofNat (n % 256)]) = (if n = 0 then [] else beF f (n / 256) ++ [UInt8.ofNat (n % 256)])
    rw [beF_more f (n / 256) (by rw [Nat.pow_succ] at h; omega)]
theorem be_zero : be 0 = [] := rfl
theorem be_step (n : Nat) (h0 : n ≠ 0) (h : n < 18446744073709551616) : be n = be (n / 256) ++ [UInt8.ofNat (n % 256)] := by
  have h1 : beF 8 n = beF 7 (n / 256) ++ [UInt8.ofNat (n % 256)] := by rw [beF, if_neg h0]
  unfold be
  rw [h1, beF_more 7 (n / 256) (by simp; omega)]
theorem beF_len : ∀ f n, (beF f n).length ≤ f
  | 0, _ => Nat.le_refl _
  | f + 1, n => by
    rw [beF]; split
    · exact Nat.zero_le _
    · have := beF_len f (n / 256); simp; omega
theorem be_len8 (n : Nat) : (be n).length ≤ 8 := beF_len 8 n
theorem be_ind {C : Nat → Prop} (h0 : C 0) (hs : ∀ n, n ≠ 0 → n < 18446744073709551616 → C (n / 256) → C n) (n : Nat) (h : n < 18446744073709551616) : C n := by
  induction n using Nat.strongRecOn with
  | ind n ih =>
    by_cases hn : n = 0
    · rw [hn]; exact h0
    · exact hs n hn h (ih (n / 256) (by omega) (by omega))
theorem bitLen_small (n : Nat) (h0 : n ≠ 0) (h : n < 256) : 1 ≤ Lib.bitLen n ∧ Lib.bitLen n ≤ 8 := by
  have h2 := Lib.bitLen_le n 8 (by omega) (by omega)
  have h3 := Lib.bitLen_half n h0 (by omega)
  omega
theorem be_len (n : Nat) (h : n < 18446744073709551616) : (be n).length = (Lib.bitLen n + 7) / 8 := by
  refine be_ind (C := fun n => (be n).length = (Lib.bitLen n + 7) / 8) rfl (fun n h0 hn ih => ?_) n h
  rw [be_step n h0 hn, List.length_append, ih]
  by_cases hs : n < 256
  · have h1 := bitLen_small n h0 hs
    have h2 : n / 256 = 0 := by omega
    rw [h2]
    have : Lib.bitLen 0 = 0 := rfl
    simp [this]; omega
  · have := Lib.bitLen_shift8 n (by omega) hn
    simp; omega
theorem valB_snoc (l : List UInt8) (c : UInt8) : valB (l ++ [c]) = 256 * valB l + c.toNat := by simp [valB, List.foldl_append]
theorem valB_be (n : Nat) (h : n < 18446744073709551616) : valB (be n) = n := by
  refine be_ind (C := fun n => valB (be n) = n) rfl (fun n h0 hn ih => ?_) n h
  rw [be_step n h0 hn, valB_snoc, ih]
  simp; omega
theorem be_get (n : Nat) (h : n < 18446744073709551616) : ∀ j, j < (be n).length → (((be n)[j]?.getD 0).toNat : Nat) = n / 256 ^ ((be n).length - 1 - j) % 256 := by
  refine be_ind (C := fun n => ∀ j, j < (be n).length → (((be n)[j]?.getD 0).toNat : Nat) = n / 256 ^ ((be n).length - 1 - j) % 256) (fun j hj => by simp [be_zero] at hj) (fun n h0 hn ih => ?_) n h
  intro j hj
  rw [be_step n h0 hn] at hj ⊢
  simp only [List.length_append, List.length_cons, List.length_nil] at hj ⊢
  by_cases hl : j < (be (n / 256)).length
  · rw [List.getElem?_append_left hl, ih j hl, Nat.div_div_eq_div_mul]
    congr 2
    rw [show (be (n / 256)).length + (0 + 1) - 1 - j = (be (n / 256)).length - 1 - j + 1 by omega, Nat.pow_succ, Nat.mul_comm]
  · have : j = (be (n / 256)).length := by omega
    subst this
    simp
theorem valB_fold : ∀ (k : List UInt8) (a : Nat), k.foldl (fun a c => 256 * a + c.toNat) a = a * 256 ^ k.length + valB k
  | [], a => by simp [valB]
  | c :: k, a => by
    have h1 := valB_fold k (256 * a + c.toNat)
    have h2 := valB_fold k c.toNat
    simp only [List.foldl_cons, valB, List.length_cons, Nat.mul_zero, Nat.zero_add] at h1 h2 ⊢
    rw [h1, h2, Nat.pow_succ, Nat.add_mul]
    have : 256 * a * 256 ^ k.length = a * (256 ^ k.length * 256) := by rw [Nat.mul_comm 256 a, Nat.mul_assoc, Nat.mul_comm 256]
    omega
theorem valB_append (l k : List UInt8) : valB (l ++ k) = valB l * 256 ^ k.length + valB k := by
  have := valB_fold k (valB l)
  rw [← this]; simp [valB, List.foldl_append]
theorem valB_cons (c : UInt8) (l : List UInt8) : valB (c :: l) = c.toNat * 256 ^ l.length + valB l := by
  have := valB_append [c] l
  simpa [valB] using this
theorem valB_lt : ∀ (l : List UInt8), valB l < 256 ^ l.length
  | [] => by simp [valB]
  | c :: l => by
    have h1 := valB_lt l
    have h2 := c.toNat_lt
    rw [valB_cons, List.length_cons, Nat.pow_succ]
    have : c.toNat * 256 ^ l.length ≤ 255 * 256 ^ l.length := Nat.mul_le_mul_right _ (by omega)
    omega
theorem valB_lt8 (l : List UInt8) (h : l.length ≤ 8) : valB l < 18446744073709551616 :=
  Nat.lt_of_lt_of_le (valB_lt l) (Nat.le_trans (Nat.pow_le_pow_right (by decide) h) (by decide))
theorem valB_pos (c : UInt8) (l : List UInt8) (h : c ≠ 0) : 256 ^ l.length ≤ valB (c :: l) := by
  rw [valB_cons]
  have : 1 ≤ c.toNat := by
    rcases Nat.eq_zero_or_pos c.toNat with e | e
    · exact absurd (UInt8.toNat_inj.1 (by simpa using e)) h
    · exact e
  have := Nat.mul_le_mul_right (256 ^ l.length) this
  omega
theorem be_valB : ∀ (m : Nat) (l : List UInt8), l.length = m → m ≤ 8 → (∀ c t, l = c :: t → c ≠ 0) → be (valB l) = l
  | 0, l, hl, _, _ => by rw [List.eq_nil_of_length_eq_zero hl]; rfl
  | m + 1, l, hl, hm, hc => by
    obtain ⟨k, c, rfl⟩ : ∃ k c, l = k ++ [c] := ⟨l.dropLast, l.getLast (by intro e; simp [e] at hl), (List.dropLast_concat_getLast _).symm⟩
    have hk : k.length = m := by simpa using hl
    have hb := valB_lt8 (k ++ [c]) (by rw [hl]; exact hm)
    have hp : valB (k ++ [c]) ≠ 0 := by
      cases k with
      | nil =>
        have := valB_pos c [] (hc c [] rfl)
        simp at this ⊢; omega
      | cons d t =>
        have := valB_pos d (t ++ [c]) (hc d (t ++ [c]) rfl)
        have := Nat.pow_pos (n := (t ++ [c]).length) (show 0 < 256 by decide)
        simp only [List.cons_append]; omega
    have hlt := c.toNat_lt
    rw [be_step _ hp hb, valB_snoc]
    have e1 : (256 * valB k + c.toNat) / 256 = valB k := by omega
    have e2 : (256 * valB k + c.toNat) % 256 = c.toNat := by omega
    rw [e1, e2, be_valB m k hk (by omega) (fun d t e => hc d (t ++ [c]) (by rw [e]; rfl))]
    simp
theorem be_head (n : Nat) (h : n < 18446744073709551616) (h0 : n ≠ 0) : ∃ c t, be n = c :: t ∧ c ≠ 0 := by
  refine be_ind (C := fun n => n ≠ 0 → ∃ c t, be n = c :: t ∧ c ≠ 0) (fun h => absurd rfl h) (fun n h1 hn ih _ => ?_) n h h0
  rw [be_step n h1 hn]
  by_cases hs : n / 256 = 0
  · refine ⟨UInt8.ofNat (n % 256), [], by rw [hs]; rfl, fun e => ?_⟩
    have := congrArg UInt8.toNat e
    simp at this; omega
  · obtain ⟨c, t, e, hc⟩ := ih hs
    exact ⟨c, t ++ [UInt8.ofNat (n % 256)], by rw [e]; rfl, hc⟩

/-! ### writing -/
def wput (b : List UInt8) (e : Int) (k : List UInt8) : List UInt8 × Int := if e ≠ 0 then (b, e) else if 1048576 < b.length + k.length then (b, 3) else (b ++ k, 0)
def wnum (b : List UInt8) (e n : Int) : List UInt8 × Int := if e ≠ 0 then (b, e) else if n < 0 ∨ 4611686018427387903 < n then (b, 5) else wput b e (frm n.toNat)
def wraw (b : List UInt8) (e : Int) (k : List UInt8) : List UInt8 × Int := wput b e (frm k.length ++ k)
theorem wput_len (b : List UInt8) (e : Int) (k : List UInt8) (h : b.length ≤ 1048576) : (wput b e k).1.length ≤ 1048576 := by
  unfold wput; split
  · exact h
  · split
    · exact h
    · simp; omega
theorem wnum_len (b : List UInt8) (e n : Int) (h : b.length ≤ 1048576) : (wnum b e n).1.length ≤ 1048576 := by
  unfold wnum; split
  · exact h
  · split
    · exact h
    · exact wput_len b e _ h
theorem wraw_len (b : List UInt8) (e : Int) (k : List UInt8) (h : b.length ≤ 1048576) : (wraw b e k).1.length ≤ 1048576 := wput_len b e _ h
theorem frm_len (n : Nat) : (frm n).length = (be n).length + 1 := rfl
theorem frm_len9 (n : Nat) : (frm n).length ≤ 9 := by have := be_len8 n; rw [frm_len]; omega

/-! ### reading -/
structure Rdr where
  b : List UInt8
  at_ : Nat
  e : Int
  p : Int
def rnum (s : Rdr) (lo hi : Int) : Int × Rdr :=
  if s.e ≠ 0 then (0, s)
  else if s.b.length ≤ s.at_ then (0, { s with e := 4, p := s.b.length })
  else if 8 < (s.b[s.at_]?.getD 0).toNat then (0, { s with e := 2, p := s.at_ })
  else if s.b.length < s.at_ + 1 + (s.b[s.at_]?.getD 0).toNat then (0, { s with e := 4, p := s.b.length })
  else if 0 < (s.b[s.at_]?.getD 0).toNat ∧ (s.b[s.at_ + 1]?.getD 0) = 0 then (0, { s with e := 2, p := s.at_ })
  else if 4611686018427387903 < valB ((s.b.drop (s.at_ + 1)).take (s.b[s.at_]?.getD 0).toNat) ∨ (valB ((s.b.drop (s.at_ + 1)).take (s.b[s.at_]?.getD 0).toNat) : Int) < lo ∨ hi < (valB ((s.b.drop (s.at_ + 1)).take (s.b[s.at_]?.getD 0).toNat) : Int) then (0, { s with e := 5, p := s.at_ })
  else ((valB ((s.b.drop (s.at_ + 1)).take (s.b[s.at_]?.getD 0).toNat) : Int), { s with at_ := s.at_ + 1 + (s.b[s.at_]?.getD 0).toNat })
/-- what Raw makes of the number that was read: from where it was read, the bound -/
def rrawB (frm : Nat) (m : Int) (r : Int × Rdr) : List UInt8 × Rdr :=
  if r.2.e ≠ 0 then ([], { r.2 with at_ := frm })
  else if m < r.1 then ([], { r.2 with at_ := frm, e := 3, p := frm })
  else if (r.2.b.length : Int) < r.2.at_ + r.1 then ([], { r.2 with at_ := frm, e := 4, p := r.2.b.length })
  else ((r.2.b.drop r.2.at_).take r.1.toNat, { r.2 with at_ := r.2.at_ + r.1.toNat })
def rraw (s : Rdr) (m : Int) : List UInt8 × Rdr := if s.e ≠ 0 then ([], s) else rrawB s.at_ m (rnum s 0 4611686018427387903)
def rend (s : Rdr) : Int × Int := if s.e = 0 ∧ s.at_ < s.b.length then (4, s.at_) else (s.e, s.p)
/-- a reader stands within its bytes; a place of a fault too -/
structure Fit (s : Rdr) : Prop where
  le : s.at_ ≤ s.b.length
  big : s.b.length ≤ 9223372036854775807
  pl : 0 ≤ s.p ∧ s.p ≤ s.b.length
theorem rnum_b (s : Rdr) (lo hi : Int) : (rnum s lo hi).2.b = s.b := by
  unfold rnum
  repeat' split
  all_goals rfl
theorem rnum_fit (s : Rdr) (lo hi : Int) (h : Fit s) : Fit (rnum s lo hi).2 := by
  obtain ⟨h1, h2, h3⟩ := h
  unfold rnum
  repeat' split
  all_goals (constructor <;> simp_all <;> omega)
theorem rnum_range (s : Rdr) (lo hi : Int) : 0 ≤ (rnum s lo hi).1 ∧ (rnum s lo hi).1 ≤ 4611686018427387903 := by
  unfold rnum
  repeat' split
  all_goals simp_all
  all_goals omega
theorem rraw_b (s : Rdr) (m : Int) : (rraw s m).2.b = s.b := by
  unfold rraw rrawB
  have := rnum_b s 0 4611686018427387903
  repeat' split
  all_goals simp_all
theorem rraw_fit (s : Rdr) (m : Int) (h : Fit s) : Fit (rraw s m).2 := by
  unfold rraw rrawB
  have h1 := rnum_b s 0 4611686018427387903
  have h2 := rnum_fit s 0 4611686018427387903 h
  have h3 := rnum_range s 0 4611686018427387903
  generalize rnum s 0 4611686018427387903 = r at h1 h2 h3
  obtain ⟨k1, k2, k3⟩ := h
  obtain ⟨j1, j2, j3⟩ := h2
  rw [h1] at j1 j2 j3
  repeat' split
  all_goals (constructor <;> simp_all <;> omega)
end Go.Proofs.Ytncahekankbalaa
end
section
namespace Go.Proofs.Ytncahekankbalaa
open Go.RowKit
set_option linter.unusedVariables false
set_option linter.unusedSimpArgs false

def FormQ (w : World) (n : Nat) (e : Ending) (w' : World) : Prop := ∃ g c', e = .returned (.slice (some ⟨g, 0, none⟩) (frm n).length c') ∧ w.heap.size ≤ g ∧ (frm n).length ≤ c' ∧ Row w' g 5 c' 1 (u8s (frm n)) ∧ Below w.heap.size w w'
set_option maxRecDepth 100000 in
set_option maxHeartbeats 4000000 in
theorem form_any (n : Nat) (hn : n < 9223372036854775808) (w : World) : Calls Try.prog 54 #[.int .i64 n] w (FormQ w n) := by
  have hlen := be_len n (by omega)
  have h8 := be_len8 n
  obtain ⟨m, hm⟩ : ∃ m, m = (be n).length := ⟨_, rfl⟩
  rw [← hm] at hlen h8
  have HM := Lib.hid hm
  have hq : IntKind.i64.wrap (((Lib.bitLen n : Nat) : Int) + 7) = (Lib.bitLen n : Int) + 7 := by rw [IntKind.wrap_i64]; omega
  clear hm
  go_enter Try.func54, Try.ntmps54
  go_wp2_with (go_at_call 65; refine (len64_any n _ (by omega) (by omega)).mono ?_; rintro e w1 ⟨rfl, rfl⟩)
  go_loopw [4, 5] (fun v i wr => ∃ j g c, j ≤ m ∧ i = .int .i64 ((m : Int) - j) ∧ v = .slice (some ⟨g, 0, none⟩) (1 + j) c ∧ w1.heap.size ≤ g ∧ 1 + j ≤ c ∧ Row wr g 5 c 1 (u8s (UInt8.ofNat m :: (be n).take j)) ∧ Below w1.heap.size w1 wr) (fun _ i _ => (intOf i).toNat)
  case atStart =>
    refine ⟨0, w1.heap.size, 1, by omega, ?_, rfl, Nat.le_refl _, by omega, ?_, (Below.refl _ _).alloc (Nat.le_refl _) _⟩
    · rw [hlen]; go_num
    · have e : (UInt8.ofNat m).toNat = m := by simp; omega
      have : u8s (UInt8.ofNat m :: (be n).take 0) = [.int .u8 (m : Int)] := by simp [u8s, e]
      rw [this, hlen]
      have := row_lit w1 #[.int .u8 (((Lib.bitLen n : Int) + 7) / 8)] 5 1 1 rfl (by decide)
      simpa using this
  case round =>
    obtain ⟨j, g, c, hj, rfl, rfl, hg, hc, hrow, hB⟩ := hrel
    by_cases hlt : j < m
    · have hxl : (UInt8.ofNat m :: (be n).take j).length = 1 + j := by have := HM.out; simp; omega
      have HOWN := Lib.hid (hrow.own (base := w1.heap.size) (n := 1 + j) hg (by rw [u8s_length, hxl, Nat.mul_one]) hc)
      have HG := Lib.hid (be_get n (by omega) j (by rw [← HM.out]; exact hlt))
      have HB := Lib.hid hB
      have hsz := hB.size
      clear hrow hB
      go_wp2_with (at_builtin; refine wpList_add _ rfl _ _ 22 rfl w1.heap.size 5 (.int .u8 0) 1 1 Try.underlying22 info5 rfl (by decide) _ (1 + j) _ rfl HOWN.out _ _ rfl rfl (by simp [Value.oneCell']) (by simp [maxLen]; omega) (by omega) hsz ?_; intro v' w' hown' hne hch hbel)
      obtain ⟨g', c', rfl, hbg, hnc', hrow'⟩ := own_row hown' hne
      go_wp2
      go_roundw
      case rel =>
        refine ⟨j + 1, g', c', by omega, by go_num, by rw [Nat.add_assoc], hbg, by omega, ?_, HB.out.trans hbel⟩
        have e1 : (n : Int) / 2 ^ (8 * ((Lib.bitLen n + 7) / 8 - j - 1)) % 256 = (((be n)[j]?.getD 0).toNat : Int) := by
          have hk : (be n).length - 1 - j = (Lib.bitLen n + 7) / 8 - j - 1 := by have := HM.out; omega
          rw [HG.out, hk]
          generalize (Lib.bitLen n + 7) / 8 - j - 1 = k
          have hp : (2 : Int) ^ (8 * k) = ((256 ^ k : Nat) : Int) := by rw [show (256 : Nat) = 2 ^ 8 from rfl, ← Nat.pow_mul]; simp
          rw [hp]; rfl
        have e2 : u8s (UInt8.ofNat m :: (be n).take (j + 1)) = u8s (UInt8.ofNat m :: (be n).take j) ++ [.int .u8 (((be n)[j]?.getD 0).toNat : Int)] := by
          rw [u8s_snoc (be n) j (by rw [← HM.out]; exact hlt), ← List.cons_append, u8s_append]; rfl
        rw [e2, ← e1]
        exact hrow'
      case measure => simp [intOf]; omega
    · obtain rfl : j = m := by omega
      go_wp2
      go_ret
      have e1 : frm n = UInt8.ofNat j :: (be n).take j := by
        have := HM.out
        unfold frm
        rw [← this, List.take_of_length_le (by omega)]
      have e2 : (frm n).length = 1 + j := by rw [frm_len, ← HM.out]; omega
      exact ⟨g, c, by rw [e2]; rfl, hg, by omega, by rw [e1]; exact hrow, hB⟩
end Go.Proofs.Ytncahekankbalaa
end
section
namespace Go.Proofs.Ytncahekankbalaa
open Go.RowKit
set_option linter.unusedVariables false
set_option linter.unusedSimpArgs false

theorem Rd.ch0 {S : Nat → Prop} {w w' : World} {A : Option Addr} {n c sz : Nat} {xs : List Value} (h : Rd w A n c sz xs) (hc : Ch S w w') (hS : ∀ a, A = some a → 0 < n → ¬ S a.block) : Rd w' A n c sz xs := by
  by_cases hn : n = 0
  · subst hn
    have hx : xs = [] := List.eq_nil_of_length_eq_zero (by simpa using h.len)
    exact ⟨h.len, h.cap, h.big, h.nil, fun j u hu => by rw [hx] at hu; simp at hu⟩
  · exact h.ch hc (fun a ha => hS a ha (by omega))
/-- block B is a writer that New made: it has written b; its error is e -/
structure Wr (w : World) (B : Nat) (v : Value) (b : List UInt8) (e : Int) : Prop where
  blk : Blk w B 78 #[.bool true, v, .int .i64 e]
  own : w.ownsRow (B + 1) 5 1 v b.length (u8s b)
theorem wr_lt {w : World} {B : Nat} {v : Value} {b : List UInt8} {e : Int} (h : Wr w B v b e) : B < w.heap.size := blk_lt h.blk
theorem wr_own {w : World} {B : Nat} {v : Value} {b : List UInt8} {e : Int} (h : Wr w B v b e) {k : Nat} (hk : v.ownBlock = some k) : B < k ∧ k < w.heap.size := by
  have := h.own.lt k hk; exact ⟨by omega, by omega⟩
theorem wr_ch {S : Nat → Prop} {w w' : World} {B : Nat} {v : Value} {b : List UInt8} {e : Int} (h : Wr w B v b e) (hc : Ch S w w') (h1 : ¬ S B) (h2 : ∀ k, v.ownBlock = some k → ¬ S k) : Wr w' B v b e := ⟨blk_ch h.blk hc h1, own_ch h.own hc h2⟩
theorem wr_form {w : World} {B : Nat} {v : Value} {b : List UInt8} {e : Int} (h : Wr w B v b e) : ∃ A c, v = .slice A b.length c ∧ Rd w A b.length c 1 (u8s b) ∧ (∀ a, A = some a → B + 1 ≤ a.block ∧ a.block < w.heap.size) := own_form h.own
/-- the parts that are put -/
abbrev Pt := Option Addr × Nat × Nat × List UInt8
structure Pts (w : World) (p : Nat) (ps : List Pt) : Prop where
  cell : ∀ j x, ps[j]? = some x → w.cell? ⟨p, j, none⟩ = some (.slice x.1 x.2.1 x.2.2.1)
  rd : ∀ x ∈ ps, Rd w x.1 x.2.1 x.2.2.1 1 (u8s x.2.2.2)
  lt : p < w.heap.size
theorem pts_ch {S : Nat → Prop} {w w' : World} {p : Nat} {ps : List Pt} (h : Pts w p ps) (hc : Ch S w w') (h1 : ¬ S p) (h2 : ∀ x ∈ ps, ∀ a, x.1 = some a → 0 < x.2.1 → ¬ S a.block) : Pts w' p ps :=
  ⟨fun j x hx => (World.cell?_of_block (a := ⟨p, j, none⟩) (hc.block p h.lt h1)).trans (h.cell j x hx), fun x hx => (h.rd x hx).ch0 hc (h2 x hx), Nat.lt_of_lt_of_le h.lt hc.size⟩
def ptAll (ps : List Pt) : List UInt8 := ps.flatMap (·.2.2.2)
theorem ptAll_snoc (ps : List Pt) (k : Nat) (x : Pt) (h : ps[k]? = some x) : ptAll (ps.take (k + 1)) = ptAll (ps.take k) ++ x.2.2.2 := by
  have hk : k < ps.length := by
    rcases Nat.lt_or_ge k ps.length with h' | h'
    · exact h'
    · rw [List.getElem?_eq_none h'] at h; cases h
  rw [List.take_succ_eq_append_getElem hk]
  have : ps[k] = x := by simpa [hk] using h
  simp [ptAll, this]
theorem ptAll_le (ps : List Pt) (k : Nat) : (ptAll (ps.take k)).length ≤ (ptAll ps).length := by
  have : ptAll ps = ptAll (ps.take k) ++ ptAll (ps.drop k) := by
    unfold ptAll; rw [← List.flatMap_append, List.take_append_drop]
  rw [this]; simp
def PutQ (w : World) (B : Nat) (v : Value) (r : List UInt8 × Int) (e : Ending) (w' : World) : Prop :=
  e = .returned (.tuple #[]) ∧ ∃ v', Wr w' B v' r.1 r.2 ∧ Ch (fun k => k = B ∨ v.ownBlock = some k) w w' ∧ (v'.ownBlock = v.ownBlock ∨ ∃ x, v'.ownBlock = some x ∧ w.heap.size ≤ x)
theorem cell_pt {w : World} {p : Nat} {ps : List Pt} (h : Pts w p ps) {k : Nat} (hk : k < ps.length) : ∃ x, ps[k]? = some x ∧ x ∈ ps ∧ w.cell? ⟨p, k, none⟩ = some (.slice x.1 x.2.1 x.2.2.1) ∧ Rd w x.1 x.2.1 x.2.2.1 1 (u8s x.2.2.2) :=
  ⟨ps[k], by simp [hk], List.getElem_mem hk, h.cell k _ (by simp [hk]), h.rd _ (List.getElem_mem hk)⟩
set_option maxRecDepth 100000 in
set_option maxHeartbeats 4000000 in
theorem put_any {w : World} {B : Nat} {v : Value} {b : List UInt8} {e : Int} (h : Wr w B v b e) (hb : b.length ≤ 1048576) {p : Nat} {ps : List Pt} (hp : Pts w p ps)
    (hB : p ≠ B ∧ ∀ x ∈ ps, ∀ a, x.1 = some a → 0 < x.2.1 → a.block ≠ B) (ho : ∀ k, v.ownBlock = some k → p ≠ k ∧ ∀ x ∈ ps, ∀ a, x.1 = some a → 0 < x.2.1 → a.block ≠ k) (m : Nat) (hm : ps.length = m) (hm8 : m ≤ 1000) (hbig : (ptAll ps).length ≤ 1000000000) :
    Calls Try.prog 53 #[.pointer (some ⟨B, 0, none⟩), .slice (some ⟨p, 0, none⟩) m m] w (PutQ w B v (wput b e (ptAll ps))) := by
  have c0 : w.cell? ⟨B, 0, none⟩ = some (.bool true) := blk_cell h.blk 0 _ rfl
  have c2 : w.cell? ⟨B, 2, none⟩ = some (.int .i64 e) := blk_cell h.blk 2 _ rfl
  by_cases he : e ≠ 0
  · have g1 : (e == 0) = false := by simpa using he
    have g2 : (e != 0) = true := by simpa using he
    go_enter Try.func53, Try.ntmps53
    go_wp2
    refine bodyPost_ret (results_none rfl _ _ _) rfl ⟨rfl, v, ?_, Ch.refl _ _, .inl rfl⟩
    unfold wput; rw [if_pos he]; exact h
  obtain rfl : e = 0 := Decidable.not_not.1 he
  clear he
  obtain ⟨A, c, rfl, hr, hA⟩ := wr_form h
  have c1 : w.cell? ⟨B, 1, none⟩ = some (.slice A b.length c) := blk_cell h.blk 1 _ rfl
  have H := Lib.hid h; have HP := Lib.hid hp; have HM := Lib.hid hm; have HO := Lib.hid ho; have HB := Lib.hid hB; have HBG := Lib.hid hbig
  obtain ⟨t, ht⟩ : ∃ t, t = (ptAll ps).length := ⟨_, rfl⟩
  have HT := Lib.hid ht
  have ht9 : t ≤ 1000000000 := by omega
  obtain ⟨r, hrr⟩ : ∃ r, r = wput b 0 (ptAll ps) := ⟨_, rfl⟩
  rw [← hrr]
  have hr0 : r = if 1048576 < b.length + t then (b, 3) else (b ++ ptAll ps, 0) := by rw [hrr]; unfold wput; rw [ht]; simp
  have HRR := Lib.hid hr0
  clear h hp hm ho hB hr hA ht hbig hrr hr0
  go_enter Try.func53, Try.ntmps53
  go_wp2_with fail
  go_loop [4, 32] (fun n i => ∃ k : Nat, k ≤ m ∧ i = .int .i64 k ∧ n = .int .i64 ((b.length + (ptAll (ps.take k)).length : Nat) : Int)) (fun _ i => m - (intOf i).toNat)
  case atStart => exact ⟨0, Nat.zero_le _, rfl, by simp [ptAll]⟩
  case round =>
    obtain ⟨k, hk, rfl, rfl⟩ := hrel
    by_cases hlt : k < m
    · obtain ⟨x, hx, hxm, hc, hxr⟩ := cell_pt HP.out (k := k) (by rw [HM.out]; exact hlt)
      have hx2 : x.2.2.2.length = x.2.1 := by have := hxr.len; simpa using this
      have hle := ptAll_le ps (k + 1)
      rw [ptAll_snoc ps k x hx, List.length_append, hx2, ← HT.out] at hle
      have hw : IntKind.i64.wrap (((b.length + (ptAll (ps.take k)).length : Nat) : Int) + (x.2.1 : Int)) = ((b.length + (ptAll (ps.take k)).length : Nat) : Int) + (x.2.1 : Int) := by rw [IntKind.wrap_i64]; omega
      obtain ⟨xA, xn, xc, xl⟩ := x
      simp only at hc hx2 hw hle
      have HX := Lib.hid hx
      clear hx hxm hxr
      generalize hL : (ptAll (ps.take k)).length = L at hw hle
      go_wp2_with fail
      go_round
      case rel =>
        refine ⟨k + 1, by omega, by go_num, ?_⟩
        rw [ptAll_snoc ps k _ HX.out, List.length_append, hL]
        simp only [hx2]
        congr 1; omega
      case measure => simp [intOf]; omega
    · obtain rfl : k = m := by omega
      have hall : ptAll (ps.take k) = ptAll ps := by rw [List.take_of_length_le (by rw [HM.out]; exact Nat.le_refl _)]
      rw [hall, ← HT.out]
      clear hall hlt hk
      have f2 : w.frozen? ⟨B, 2, none⟩ = false := blk_thawed H.out.blk 2
      by_cases hov : 1048576 < b.length + t
      · have hr1 : r = (b, 3) := by rw [HRR.out, if_pos hov]
        have hbk := Lib.hid (blk_set H.out.blk 2 (.int .i64 3))
        have g1 : decide ((1048576 : Int) < ((b.length + t : Nat) : Int)) = true := by simp; omega
        go_wp2_with fail
        refine bodyPost_ret (results_none rfl _ _ _) rfl ⟨rfl, .slice A b.length c, (by subst hr1; exact ⟨hbk.out, own_ch H.out.own (Ch.setCell w ⟨B, 2, none⟩ (.int .i64 3)) (fun k hk e => by have := wr_own H.out hk; have e' : k = B := e; omega)⟩), (Ch.setCell w ⟨B, 2, none⟩ _).mono (fun i _ hi => .inl hi), .inl rfl⟩
      · have hr1 : r = (b ++ ptAll ps, 0) := by rw [HRR.out, if_neg hov]
        have g1 : decide ((1048576 : Int) < ((b.length + t : Nat) : Int)) = false := by simp; omega
        go_wp2_with fail
        go_loopw [48] (fun i wr => ∃ (k' : Nat) (v' : Value), k' ≤ k ∧ i = .int .i64 k' ∧ Wr wr B v' (b ++ ptAll (ps.take k')) 0 ∧ Ch (fun j => j = B ∨ (Value.slice A b.length c).ownBlock = some j) w wr ∧ (v'.ownBlock = (Value.slice A b.length c).ownBlock ∨ ∃ x, v'.ownBlock = some x ∧ w.heap.size ≤ x)) (fun i _ => k - (intOf i).toNat)
        case atStart =>
          exact ⟨0, _, Nat.zero_le _, rfl, by simpa [ptAll] using H.out, Ch.refl _ _, .inl rfl⟩
        case round =>
          obtain ⟨k', v', hk', rfl, hwr, hC, hat⟩ := hrel
          have hbw : B < w.heap.size := wr_lt H.out
          by_cases hlt : k' < k
          · obtain ⟨x, hx, hxm, hc, hxr⟩ := cell_pt (pts_ch HP.out hC (by rintro (e | e); exact HB.out.1 e; exact (HO.out p e).1 rfl) (fun x hx a ha h0 => by rintro (e | e); exact HB.out.2 x hx a ha h0 e; exact (HO.out _ e).2 x hx a ha h0 rfl)) (k := k') (by rw [HM.out]; exact hlt)
            have hx2 : x.2.2.2.length = x.2.1 := by have := hxr.len; simpa using this
            have hle := ptAll_le ps (k' + 1)
            rw [ptAll_snoc ps k' x hx, List.length_append, hx2, ← HT.out] at hle
            obtain ⟨A1, cc1, rfl, hr1, hA1⟩ := wr_form hwr
            have d0 : wr.cell? ⟨B, 1, none⟩ = some (.slice A1 (b ++ ptAll (ps.take k')).length cc1) := blk_cell hwr.blk 1 _ rfl
            have hbb : (b ++ ptAll (ps.take k')).length + x.2.1 ≤ 1048576 := by rw [List.length_append]; omega
            generalize hBBe : b ++ ptAll (ps.take k') = bb at *
            obtain ⟨L, hL⟩ : ∃ L, L = bb.length := ⟨_, rfl⟩
            rw [← hL] at d0 hbb hwr hat
            obtain ⟨xA, xn, xc, xl⟩ := x
            simp only at hc hx2 hbb hxr
            have HX := Lib.hid hx; have HC := Lib.hid hC; have HAT := Lib.hid hat; have HW := Lib.hid hwr; have HR := Lib.hid hxr; have HL := Lib.hid hL; have HBE := Lib.hid hBBe
            have hsz := hC.size
            have HOWN := Lib.hid (show wr.ownsRow (B + 1) 5 1 (.slice A1 L cc1) L (u8s bb) by rw [hL]; have := hwr.own; rw [← hL] at this ⊢; exact this)
            have HBO := Lib.hid (show ∀ k, (Value.slice A1 L cc1).ownBlock = some k → k ≠ B from fun k hk e => by have := wr_own hwr hk; omega)
            clear hx hxm hxr hwr hC hat hle hr1 hA1 hL hBBe
            go_wp2_with (at_builtin; refine wpList_app wr rfl _ _ 22 rfl (B + 1) 5 (.int .u8 0) 1 1 Try.underlying22 info5 rfl (by decide) (.slice A1 L cc1) L (u8s bb) rfl HOWN.out xA xn xc (u8s xl) rfl HR.out (u8s_one xl) (by simp [maxLen]; omega) (by omega) (by omega) ?_; intro v2 w2 hown2 hg2 hnil2 hat2; have hch2 := Ch.of_grown hg2; have hbk2 := blk_ch HW.out.blk hch2 (fun e => HBO.out B e rfl); have f1 := blk_thawed hbk2 1; have d2 := blk_cell hbk2 1 (.slice A1 L cc1) rfl; obtain ⟨A2, cc2, rfl, hr2, hA2⟩ := own_form hown2)
            go_roundw
            case rel =>
              have hbk3 := blk_set hbk2 1 (.slice A2 (L + xn) cc2)
              have e3 : b ++ ptAll (ps.take (k' + 1)) = bb ++ xl := by rw [ptAll_snoc ps k' _ HX.out, ← List.append_assoc, HBE.out]
              refine ⟨k' + 1, .slice A2 (L + xn) cc2, by omega, by go_num, ?_, ?_, ?_⟩
              · rw [e3]
                refine ⟨hbk3, own_ch ?_ (Ch.setCell w2 ⟨B, 1, none⟩ _) (fun k hk e => ?_)⟩
                · rw [List.length_append, ← HL.out, hx2, u8s_append]; exact hown2
                · have e' : k = B := e
                  have := hown2.lt k hk; omega
              · refine ch_set (HC.out.trans hch2 (fun i hi => ?_)) ⟨B, 1, none⟩ _ (.inl rfl)
                rcases HAT.out with h | ⟨x, h, hx⟩
                · exact .inl (.inr (h.symm.trans hi))
                · rw [h] at hi; cases hi; exact .inr hx
              · rcases hat2 with h | h
                · rw [h]; exact HAT.out
                · exact .inr ⟨_, h, hsz⟩
            case measure => simp [intOf]; omega
          · obtain rfl : k' = k := by omega
            have hall : ptAll (ps.take k') = ptAll ps := by rw [List.take_of_length_le (by rw [HM.out]; exact Nat.le_refl _)]
            rw [hall] at hwr
            go_wp2
            exact bodyPost_end (results_none rfl _ _ _) rfl ⟨rfl, v', by subst hr1; exact hwr, hC, hat⟩
end Go.Proofs.Ytncahekankbalaa
end
section
namespace Go.Proofs.Ytncahekankbalaa
open Go.RowKit
set_option linter.unusedVariables false
set_option linter.unusedSimpArgs false

def NewWQ (w : World) (e : Ending) (w' : World) : Prop := ∃ B, e = .returned (.pointer (some ⟨B, 0, none⟩)) ∧ w.heap.size ≤ B ∧ Wr w' B (.slice none 0 0) [] 0 ∧ Below w.heap.size w w'
theorem nil_own (w : World) (base : Nat) (e : TypeId) : w.ownsRow base e 1 (.slice none 0 0) 0 [] := ⟨rfl, .inl ⟨rfl, rfl⟩⟩
set_option maxHeartbeats 400000 in
theorem new_any (w : World) : Calls Try.prog 32 #[] w (NewWQ w) := by
  go_enter Try.func32, Try.ntmps32
  go_wp2
  go_ret
  exact ⟨_, rfl, Nat.le_refl _, ⟨blk_new w _ _, nil_own _ _ _⟩, (Below.refl _ _).alloc (Nat.le_refl _) _⟩

theorem putq_of {w w2 w' : World} {B : Nat} {v : Value} {r : List UInt8 × Int} {e : Ending} (hb : Below w.heap.size w w2) (h : PutQ w2 B v r e w') : PutQ w B v r e w' := by
  obtain ⟨he, v', h1, h2, h3⟩ := h
  refine ⟨he, v', h1, (Ch.of_below hb _).trans h2 (fun i hi => .inl hi), h3.imp id fun ⟨x, hx, hl⟩ => ⟨x, hx, Nat.le_trans hb.size hl⟩⟩
theorem pts_one {w : World} {x : Pt} (hx : Rd w x.1 x.2.1 x.2.2.1 1 (u8s x.2.2.2)) : Pts (w.alloc (.cells #[.slice x.1 x.2.1 x.2.2.1] 22)) w.heap.size [x] := by
  refine ⟨fun j z hz => ?_, fun z hz => ?_, by simp⟩
  · have hb := blk_new w 22 #[.slice x.1 x.2.1 x.2.2.1]
    match j, hz with
    | 0, hz => cases hz; exact blk_cell hb 0 _ rfl
    | j + 1, hz => simp at hz
  · obtain rfl : z = x := by simpa using hz
    exact hx.ch (Ch.alloc w _ No) (fun _ _ => id)
theorem pts_two {w : World} {x y : Pt} (hx : Rd w x.1 x.2.1 x.2.2.1 1 (u8s x.2.2.2)) (hy : Rd w y.1 y.2.1 y.2.2.1 1 (u8s y.2.2.2)) : Pts (w.alloc (.cells #[.slice x.1 x.2.1 x.2.2.1, .slice y.1 y.2.1 y.2.2.1] 22)) w.heap.size [x, y] := by
  refine ⟨fun j z hz => ?_, fun z hz => ?_, by simp⟩
  · have hb := blk_new w 22 #[.slice x.1 x.2.1 x.2.2.1, .slice y.1 y.2.1 y.2.2.1]
    match j, hz with
    | 0, hz => cases hz; exact blk_cell hb 0 _ rfl
    | 1, hz => cases hz; exact blk_cell hb 1 _ rfl
    | j + 2, hz => simp at hz
  · rcases (show z = x ∨ z = y by simpa using hz) with rfl | rfl
    · exact hx.ch (Ch.alloc w _ No) (fun _ _ => id)
    · exact hy.ch (Ch.alloc w _ No) (fun _ _ => id)
theorem row_u8_rd {w : World} {g c n : Nat} {l : List UInt8} (h : Row w g 5 c 1 (u8s l)) (hn : l.length = n) (hc : n ≤ c) : Rd w (some ⟨g, 0, none⟩) n c 1 (u8s l) := by
  subst hn
  exact h.rd 0 _ c _ (by rw [List.drop_zero, Nat.mul_one, List.take_of_length_le (by simp)]) (by simp) hc h.big

set_option maxRecDepth 100000 in
set_option maxHeartbeats 1000000 in
theorem wnum_any {w : World} {B : Nat} {v : Value} {b : List UInt8} {e : Int} (h : Wr w B v b e) (hb : b.length ≤ 1048576) (n : Int) (hn : n ≤ 9223372036854775807) :
    Calls Try.prog 33 #[.pointer (some ⟨B, 0, none⟩), .int .i64 n] w (PutQ w B v (wnum b e n)) := by
  have c0 : w.cell? ⟨B, 0, none⟩ = some (.bool true) := blk_cell h.blk 0 _ rfl
  have c2 : w.cell? ⟨B, 2, none⟩ = some (.int .i64 e) := blk_cell h.blk 2 _ rfl
  have f2 : w.frozen? ⟨B, 2, none⟩ = false := blk_thawed h.blk 2
  by_cases he : e ≠ 0
  · have g1 : (e == 0) = false := by simpa using he
    have g2 : (e != 0) = true := by simpa using he
    go_enter Try.func33, Try.ntmps33
    go_wp2
    refine bodyPost_ret (results_none rfl _ _ _) rfl ⟨rfl, v, ?_, Ch.refl _ _, .inl rfl⟩
    unfold wnum; rw [if_pos he]; exact h
  obtain rfl : e = 0 := Decidable.not_not.1 he
  clear he
  have H := Lib.hid h
  have hB := wr_lt h
  by_cases hr : n < 0 ∨ 4611686018427387903 < n
  · have g1 : (decide (n < 0) = false → decide (4611686018427387903 < n) = true) := by intro h1; simp at h1 ⊢; omega
    obtain ⟨r, hrr⟩ : ∃ r, r = wnum b 0 n := ⟨_, rfl⟩
    rw [← hrr]
    have hr1 : r = (b, 5) := by rw [hrr]; unfold wnum; simp [hr]
    have hbk := Lib.hid (blk_set H.out.blk 2 (.int .i64 5))
    clear h hrr
    by_cases h0 : n < 0
    · go_enter Try.func33, Try.ntmps33
      go_wp2_with fail
      refine bodyPost_ret (results_none rfl _ _ _) rfl ⟨rfl, v, (by subst hr1; exact ⟨hbk.out, own_ch H.out.own (Ch.setCell w ⟨B, 2, none⟩ (.int .i64 5)) (fun k hk e => by have := wr_own H.out hk; have e' : k = B := e; omega)⟩), (Ch.setCell w ⟨B, 2, none⟩ _).mono (fun i _ hi => .inl hi), .inl rfl⟩
    · have h1 : 4611686018427387903 < n := by omega
      go_enter Try.func33, Try.ntmps33
      go_wp2_with fail
      refine bodyPost_ret (results_none rfl _ _ _) rfl ⟨rfl, v, (by subst hr1; exact ⟨hbk.out, own_ch H.out.own (Ch.setCell w ⟨B, 2, none⟩ (.int .i64 5)) (fun k hk e => by have := wr_own H.out hk; have e' : k = B := e; omega)⟩), (Ch.setCell w ⟨B, 2, none⟩ _).mono (fun i _ hi => .inl hi), .inl rfl⟩
  · obtain ⟨N, rfl⟩ : ∃ N : Nat, n = N := ⟨n.toNat, by omega⟩
    obtain ⟨r, hrr⟩ : ∃ r, r = wnum b 0 (N : Int) := ⟨_, rfl⟩
    rw [← hrr]
    have hr1 : r = wput b 0 (ptAll [((none, 0, 0, frm N) : Pt)]) := by
      have hr' := hr
      rw [hrr]; unfold wnum; simp only [ne_eq, not_true_eq_false, if_false]
      rw [if_neg hr]; simp [ptAll]
    have HR := Lib.hid hr1
    have h9 := frm_len9 N
    clear hrr hr1 h
    have g1 : decide ((N : Int) < 0) = false := by simp
    have g2 : decide ((4611686018427387903 : Int) < N) = false := by simp; omega
    have hN : N < 9223372036854775808 := by omega
    go_enter Try.func33, Try.ntmps33
    go_wp2_with (go_at_call 54; refine (form_any N hN _).mono ?_; rintro e w1 ⟨g, c', rfl, hg, hc', hrow, hbel⟩)
    have hsz := hbel.size
    have hwr := wr_ch (H.out) ((Ch.of_below hbel No).trans (Ch.alloc w1 (.cells #[.slice (some ⟨g, 0, none⟩) (frm N).length c'] 22) No) (fun i hi => .inl hi)) id (fun _ _ => id)
    refine (put_any hwr hb (pts_one (x := (some ⟨g, 0, none⟩, (frm N).length, c', frm N)) (row_u8_rd hrow rfl hc')) ⟨by omega, by intro x hx a ha _; simp at hx; subst hx; cases ha; simp; omega⟩ (fun k hk => ⟨by have := wr_own H.out hk; omega, by intro x hx a ha _; simp at hx; subst hx; cases ha; have := wr_own H.out hk; simp; omega⟩) 1 rfl (by decide) (by simp [ptAll]; omega)).mono ?_
    rintro e w2 hput
    have hput' := putq_of (hbel.alloc hsz _) hput
    have e1 : wput b 0 (ptAll [((some ⟨g, 0, none⟩, (frm N).length, c', frm N) : Pt)]) = r := by rw [HR.out]; rfl
    rw [e1] at hput'
    obtain ⟨he, v', hQ⟩ := hput'
    cases he
    go_wp2
    exact bodyPost_end (results_none rfl _ _ _) rfl ⟨rfl, v', hQ⟩
end Go.Proofs.Ytncahekankbalaa
end
section
namespace Go.Proofs.Ytncahekankbalaa
open Go.RowKit
set_option linter.unusedVariables false
set_option linter.unusedSimpArgs false

/-- []byte(s) -/
theorem conv_bytes {P : Program} (w : World) (src dst e : TypeId) (s : ByteArray) (hs : P.underlying src = some .string) (hd : P.underlying dst = some (.slice e)) (he : P.underlying e = some (.int .u8)) (hn : s.size ≤ 9223372036854775807) :
    ∃ c w', (convert src dst (.string s)).run P w = .ok (.slice (some ⟨w.heap.size, 0, none⟩) s.size c) w' ∧ Rd w' (some ⟨w.heap.size, 0, none⟩) s.size c 1 (u8s s.data.toList) ∧ Below w.heap.size w w' := by
  have hge := grownCap_ge w s.size 0 e
  have hle := grownCap_le_maxLen w s.size 0 e (by simpa only [maxLen] using hn)
  refine ⟨_, _, run_bytes_of_string w src dst e s hs hd he, ?_, ((Below.refl w.heap.size w).drew).alloc (Nat.le_refl _) _⟩
  have hsz : s.data.toList.length = s.size := by simp
  refine ⟨by simp, hge, (by simpa only [maxLen] using hle), (fun h => by cases h), fun j u hu => ⟨_, 0, rfl, ?_⟩⟩
  rw [Nat.zero_add, cell_of_row _ w.heap.size j (bytesRow s (grownCap w s.size 0 e)) e _ (heap_alloc_new w.drew _)]
  have hj : j < s.data.size := by
    rcases Nat.lt_or_ge j s.data.size with h | h
    · exact h
    · rw [List.getElem?_eq_none (by simp [u8s]; exact h)] at hu; cases hu
  unfold bytesRow
  rw [Array.getElem?_append_left (by simpa using hj)]
  simp [u8s, hj] at hu ⊢
  exact hu

set_option maxRecDepth 100000 in
set_option maxHeartbeats 1000000 in
theorem wraw_any {w : World} {B : Nat} {v : Value} {b : List UInt8} {e : Int} (h : Wr w B v b e) (hb : b.length ≤ 1048576) {A : Option Addr} {n c : Nat} {l : List UInt8} (hr : Rd w A n c 1 (u8s l)) (hn : n ≤ 100000000)
    (hA : ∀ a, A = some a → 0 < n → a.block ≠ B ∧ ∀ k, v.ownBlock = some k → a.block ≠ k) :
    Calls Try.prog 34 #[.pointer (some ⟨B, 0, none⟩), .slice A n c] w (PutQ w B v (wraw b e l)) := by
  have hmf : ∀ (fn : Fn) (first cap : Array Value) (w : World), (Instr.makeFunc fn first cap).run Try.prog w = .ok (.func fn first cap) w := fun _ _ _ _ => rfl
  have hl : l.length = n := by have := hr.len; simpa using this
  have HL := Lib.hid hl
  have H := Lib.hid h
  have HR := Lib.hid hr
  have HA := Lib.hid hA
  obtain ⟨r, hrr⟩ : ∃ r, r = wraw b e l := ⟨_, rfl⟩
  rw [← hrr]
  have hr1 : r = wput b e (ptAll [((none, 0, 0, frm n) : Pt), (none, 0, 0, l)]) := by rw [hrr]; unfold wraw; rw [hl]; simp [ptAll]
  have HRR := Lib.hid hr1
  have h9 := frm_len9 n
  clear hrr hr1 h hr hl hA
  go_enter Try.func34, Try.ntmps34
  go_wp2_with (go_at_call 54; refine (form_any n (by omega) _).mono ?_; rintro e w1 ⟨g, c', rfl, hg, hc', hrow, hbel⟩)
  have hsz := hbel.size
  have hwr := wr_ch (H.out) ((Ch.of_below hbel No).trans (Ch.alloc w1 (.cells #[.slice (some ⟨g, 0, none⟩) (frm n).length c', .slice A n c] 22) No) (fun i hi => .inl hi)) id (fun _ _ => id)
  have hBw := wr_lt H.out
  refine (put_any hwr hb (pts_two (x := (some ⟨g, 0, none⟩, (frm n).length, c', frm n)) (y := (A, n, c, l)) (row_u8_rd hrow rfl hc') (HR.out.below hbel)) ⟨by omega, by intro x hx a ha h0; simp at hx; rcases hx with rfl | rfl; (cases ha; simp; omega); exact (HA.out a ha h0).1⟩ (fun k hk => ⟨by have := wr_own H.out hk; omega, by intro x hx a ha h0; simp at hx; have := wr_own H.out hk; rcases hx with rfl | rfl; (cases ha; simp; omega); exact (HA.out a ha h0).2 k hk⟩) 2 rfl (by decide) (by have := HL.out; simp [ptAll]; omega)).mono ?_
  rintro e2 w2 hput
  have hput' := putq_of (hbel.alloc hsz _) hput
  have e1 : wput b e (ptAll [((some ⟨g, 0, none⟩, (frm n).length, c', frm n) : Pt), (A, n, c, l)]) = r := by rw [HRR.out]; rfl
  rw [e1] at hput'
  obtain ⟨he, v', hQ⟩ := hput'
  cases he
  go_wp2
  exact bodyPost_end (results_none rfl _ _ _) rfl ⟨rfl, v', hQ⟩

end Go.Proofs.Ytncahekankbalaa
end
section
namespace Go.Proofs.Ytncahekankbalaa
open Go.RowKit
set_option linter.unusedVariables false
set_option linter.unusedSimpArgs false

def OutWQ (w : World) (b : List UInt8) (e : Int) (E : Ending) (w' : World) : Prop := ∃ A n c, E = .returned (.tuple #[.slice A n c, .int .i64 e]) ∧ Held w' w.heap.size A n c (if e = 0 then b else []) ∧ Below w.heap.size w w'
set_option maxRecDepth 100000 in
set_option maxHeartbeats 1000000 in
theorem wout_any {w : World} {B : Nat} {v : Value} {b : List UInt8} {e : Int} (h : Wr w B v b e) (hb : b.length ≤ 1048576) :
    Calls Try.prog 35 #[.pointer (some ⟨B, 0, none⟩)] w (OutWQ w b e) := by
  have c0 : w.cell? ⟨B, 0, none⟩ = some (.bool true) := blk_cell h.blk 0 _ rfl
  have c2 : w.cell? ⟨B, 2, none⟩ = some (.int .i64 e) := blk_cell h.blk 2 _ rfl
  by_cases he : e ≠ 0
  · have g2 : (e != 0) = true := by simpa using he
    go_enter Try.func35, Try.ntmps35
    go_wp2
    go_quiet (fail)
    go_wp2
    go_ret2
    exact ⟨none, 0, 0, rfl, by rw [if_neg he]; exact held_nil _ _, (ch_drewN No w _).below (Nat.le_refl _) (fun _ h => h.elim)⟩
  obtain rfl : e = 0 := Decidable.not_not.1 he
  clear he
  obtain ⟨A, c, rfl, hr, hA⟩ := wr_form h
  have c1 : w.cell? ⟨B, 1, none⟩ = some (.slice A b.length c) := blk_cell h.blk 1 _ rfl
  have HR := Lib.hid hr
  clear hr
  go_enter Try.func35, Try.ntmps35
  go_wp2_with fail
  refine (clone_held A b.length c b _ HR.out (by omega)).mono ?_; rintro e w1 ⟨A', c', rfl, hh, hb1⟩
  go_wp2
  go_ret2
  exact ⟨_, _, _, rfl, by rw [if_pos rfl]; exact hh, hb1⟩

set_option maxRecDepth 100000 in
set_option maxHeartbeats 4000000 in
theorem rform_any (n : Nat) (hn : n < 9223372036854775808) (w : World) : Calls Try.prog 58 #[.int .i64 n] w (FormQ w n) := by
  go_enter Try.func58, Try.ntmps58
  go_wp2_with fail
  go_loopw [0, 3] (fun i v wr => ∃ (N m c : Nat) (A : Option Addr) (ys : List UInt8), i = .int .i64 N ∧ N ≤ n ∧ v = .slice A m c ∧ be n = be N ++ ys ∧ Rd wr A m c 1 (u8s ys) ∧ Below w.heap.size w wr) (fun i _ _ => (intOf i).toNat)
  case atStart => exact ⟨n, 0, 0, none, [], rfl, Nat.le_refl _, rfl, by simp, nil_rd _ _, Below.refl _ _⟩
  case round =>
    obtain ⟨N, m, c, A, ys, rfl, hN, rfl, hbe, hr, hB⟩ := hrel
    have hm : ys.length = m := by have := hr.len; simpa using this
    have hm8 : m ≤ 8 := by have := be_len8 n; rw [hbe, List.length_append] at this; omega
    have hsz := hB.size
    by_cases h0 : 0 < N
    · have hst := be_step N (by omega) (by omega)
      have HR := Lib.hid hr; have HB := Lib.hid hB; have HE := Lib.hid hbe; have HS := Lib.hid hst
      clear hr hB hbe hst
      have g1 : decide ((0 : Int) < N) = true := by simp; omega
      go_wp2_with (at_builtin; refine wpList_app_row (wr.alloc (.cells #[.int .u8 ((N : Int) % 256)] 5)) rfl _ _ 22 rfl w.heap.size 5 _ 1 1 Try.underlying22 info5 rfl (by decide) wr.heap.size 1 1 [.int .u8 ((N : Int) % 256)] rfl (row_lit wr _ 5 1 1 rfl (by decide)) hsz rfl (Nat.le_refl _) A m c (u8s ys) rfl (HR.out.ch (Ch.alloc wr _ No) (fun _ _ => id)) (u8s_one _) (by simp [maxLen]; omega) (by omega) (by simp; omega) ?_; intro g' c' w' hrow' hnc' hbg' hat' hch')
      have hB' : Below w.heap.size w w' := (HB.out.alloc hsz _).trans (hch'.below (by simp; omega) (fun k hk => by omega))
      have he : u8s (UInt8.ofNat (N % 256) :: ys) = [.int .u8 ((N : Int) % 256)] ++ u8s ys := by
        have : (UInt8.ofNat (N % 256)).toNat = N % 256 := by simp
        simp [u8s, this]
      rw [← he] at hrow'
      have hN2 : ((N / 256 : Nat) : Int) = (N : Int) / 256 := by omega
      have hrd := row_u8_rd hrow' (n := 1 + m) (by simp; omega) hnc'
      go_wp2
      go_roundw
      case rel => exact ⟨N / 256, 1 + m, c', _, UInt8.ofNat (N % 256) :: ys, by rw [hN2], by omega, rfl, by rw [HE.out, HS.out]; simp, hrd, hB'⟩
      case measure => simp [intOf]; omega
    · obtain rfl : N = 0 := by omega
      rw [be_zero, List.nil_append] at hbe
      have hlen : (be n).length = m := by rw [hbe]; exact hm
      have HLEN := Lib.hid hlen
      subst hbe
      have HR := Lib.hid hr; have HB := Lib.hid hB
      clear hr hB hlen
      have g3 : (m : Int) % 256 = m := by omega
      go_wp2_with (at_builtin; refine wpList_app_row (wr.alloc (.cells #[.int .u8 (m : Int)] 5)) rfl _ _ 22 rfl w.heap.size 5 _ 1 1 Try.underlying22 info5 rfl (by decide) wr.heap.size 1 1 [.int .u8 (m : Int)] rfl (row_lit wr _ 5 1 1 rfl (by decide)) hsz rfl (Nat.le_refl _) A m c (u8s (be n)) rfl (HR.out.ch (Ch.alloc wr _ No) (fun _ _ => id)) (u8s_one _) (by simp [maxLen]; omega) (by omega) (by simp; omega) ?_; intro g' c' w' hrow' hnc' hbg' hat' hch')
      have hB' : Below w.heap.size w w' := (HB.out.alloc hsz _).trans (hch'.below (by simp; omega) (fun k hk => by omega))
      go_ret
      have hfl : (frm n).length = 1 + m := by rw [frm_len, HLEN.out]; omega
      have he : u8s (frm n) = [.int .u8 (m : Int)] ++ u8s (be n) := by
        have : (UInt8.ofNat m).toNat = m := by simp; omega
        unfold frm; rw [HLEN.out]; simp [u8s, this]
      exact ⟨g', c', by rw [hfl]; rfl, hbg', by omega, by rw [he]; exact hrow', hB'⟩
end Go.Proofs.Ytncahekankbalaa
end
section
namespace Go.Proofs.Ytncahekankbalaa
open Go.RowKit
set_option linter.unusedVariables false
set_option linter.unusedSimpArgs false

/-- block V is a writer of the reference: it has written b; its error is e -/
structure RW (w : World) (V : Nat) (v : Value) (b : List UInt8) (e : Int) : Prop where
  blk : Blk w V 60 #[v, .int .i64 e]
  own : w.ownsRow (V + 1) 5 1 v b.length (u8s b)
theorem rw_lt {w : World} {V : Nat} {v : Value} {b : List UInt8} {e : Int} (h : RW w V v b e) : V < w.heap.size := blk_lt h.blk
theorem rw_own {w : World} {V : Nat} {v : Value} {b : List UInt8} {e : Int} (h : RW w V v b e) {k : Nat} (hk : v.ownBlock = some k) : V < k ∧ k < w.heap.size := by
  have := h.own.lt k hk; exact ⟨by omega, by omega⟩
theorem rw_ch {S : Nat → Prop} {w w' : World} {V : Nat} {v : Value} {b : List UInt8} {e : Int} (h : RW w V v b e) (hc : Ch S w w') (h1 : ¬ S V) (h2 : ∀ k, v.ownBlock = some k → ¬ S k) : RW w' V v b e := ⟨blk_ch h.blk hc h1, own_ch h.own hc h2⟩
theorem rw_form {w : World} {V : Nat} {v : Value} {b : List UInt8} {e : Int} (h : RW w V v b e) : ∃ A c, v = .slice A b.length c ∧ Rd w A b.length c 1 (u8s b) ∧ (∀ a, A = some a → V + 1 ≤ a.block ∧ a.block < w.heap.size) := own_form h.own
def RPutQ (w : World) (V : Nat) (v : Value) (r : List UInt8 × Int) (e : Ending) (w' : World) : Prop :=
  e = .returned (.tuple #[]) ∧ ∃ v', RW w' V v' r.1 r.2 ∧ Ch (fun k => k = V ∨ v.ownBlock = some k) w w' ∧ (v'.ownBlock = v.ownBlock ∨ ∃ x, v'.ownBlock = some x ∧ w.heap.size ≤ x)
theorem rputq_of {w w2 w' : World} {V : Nat} {v : Value} {r : List UInt8 × Int} {e : Ending} (hb : Below w.heap.size w w2) (h : RPutQ w2 V v r e w') : RPutQ w V v r e w' := by
  obtain ⟨he, v', h1, h2, h3⟩ := h
  refine ⟨he, v', h1, (Ch.of_below hb _).trans h2 (fun i hi => .inl hi), h3.imp id fun ⟨x, hx, hl⟩ => ⟨x, hx, Nat.le_trans hb.size hl⟩⟩
/-- what the reference's put makes: bytes, or an error -/
def rput (b : List UInt8) (e : Int) (k : List UInt8) (x : Int) : List UInt8 × Int := if e ≠ 0 then (b, e) else if x = 0 then wput b 0 k else (b, x)
set_option maxRecDepth 100000 in
set_option maxHeartbeats 4000000 in
theorem rput_any {w : World} {V : Nat} {v : Value} {b : List UInt8} {e : Int} (h : RW w V v b e) (hb : b.length ≤ 1048576) {A : Option Addr} {n c : Nat} {l : List UInt8} (hr : Rd w A n c 1 (u8s l)) (hn : n ≤ 1000000000) (hA : ∀ a, A = some a → a.block ≠ V) (x : Int) :
    Calls Try.prog 57 #[.pointer (some ⟨V, 0, none⟩), .slice A n c, .int .i64 x] w (RPutQ w V v (rput b e l x)) := by
  have c1 : w.cell? ⟨V, 1, none⟩ = some (.int .i64 e) := blk_cell h.blk 1 _ rfl
  have f1 : w.frozen? ⟨V, 1, none⟩ = false := blk_thawed h.blk 1
  by_cases he : e ≠ 0
  · have g1 : (e == 0) = false := by simpa using he
    have g2 : (e != 0) = true := by simpa using he
    go_enter Try.func57, Try.ntmps57
    go_wp2
    refine bodyPost_ret (results_none rfl _ _ _) rfl ⟨rfl, v, ?_, Ch.refl _ _, .inl rfl⟩
    unfold rput; rw [if_pos he]; exact h
  obtain rfl : e = 0 := Decidable.not_not.1 he
  clear he
  have hVw := rw_lt h
  obtain ⟨r, hrr⟩ : ∃ r, r = rput b 0 l x := ⟨_, rfl⟩
  rw [← hrr]
  have hr0 : r = if x = 0 then wput b 0 l else (b, x) := by rw [hrr]; unfold rput; simp
  have hl : l.length = n := by have := hr.len; simpa using this
  have H := Lib.hid h; have HR := Lib.hid hr; have HL := Lib.hid hl
  have hset : ∀ y, Blk (w.setCell ⟨V, 1, none⟩ (.int .i64 y)) V 60 #[v, .int .i64 y] := fun y => blk_set H.out.blk 1 (.int .i64 y)
  have hrw : ∀ y, RW (w.setCell ⟨V, 1, none⟩ (.int .i64 y)) V v b y := fun y => ⟨hset y, own_ch H.out.own (Ch.setCell w ⟨V, 1, none⟩ (.int .i64 y)) (fun k hk e => by have := rw_own H.out hk; have e' : k = V := e; omega)⟩
  obtain ⟨B, cb, rfl, hrb, hBb⟩ := rw_form h
  have c0 : w.cell? ⟨V, 0, none⟩ = some (.slice B b.length cb) := blk_cell h.blk 0 _ rfl
  have HS := Lib.hid hrw
  clear h hr hl hrb hBb hrr
  by_cases hx : x = 0
  · subst hx
    rw [if_pos rfl] at hr0
    have hw : IntKind.i64.wrap ((b.length : Int) + (n : Int)) = (b.length : Int) + n := by rw [IntKind.wrap_i64]; omega
    by_cases hov : 1048576 < b.length + n
    · have hr1 : r = (b, 3) := by rw [hr0]; unfold wput; simp [HL.out, hov]
      have g1 : decide ((1048576 : Int) < (b.length : Int) + n) = true := by simp; omega
      clear hrw hset
      go_enter Try.func57, Try.ntmps57
      go_wp2_with fail
      refine bodyPost_end (results_none rfl _ _ _) rfl ⟨rfl, _, (by subst hr1; exact HS.out 3), (Ch.setCell w ⟨V, 1, none⟩ _).mono (fun i _ hi => .inl hi), .inl rfl⟩
    · have hr1 : r = (b ++ l, 0) := by rw [hr0]; unfold wput; simp [HL.out, hov]
      have g1 : decide ((1048576 : Int) < (b.length : Int) + n) = false := by simp; omega
      have HSO := Lib.hid (HS.out 0)
      have d0 : (w.setCell ⟨V, 1, none⟩ (.int .i64 0)).cell? ⟨V, 0, none⟩ = some (.slice B b.length cb) := blk_cell HSO.out.blk 0 _ rfl
      have HR1 := Lib.hid (HR.out.ch (Ch.setCell w ⟨V, 1, none⟩ (.int .i64 0)) (fun a ha e => hA a ha e))
      have HBO := Lib.hid (show ∀ k, (Value.slice B b.length cb).ownBlock = some k → V < k ∧ k < w.heap.size from fun k hk => rw_own H.out hk)
      have HX := Lib.hid (show Ch (fun k => k = V ∨ (Value.slice B b.length cb).ownBlock = some k) w (w.setCell ⟨V, 1, none⟩ (.int .i64 0)) from (Ch.setCell w ⟨V, 1, none⟩ _).mono (fun i _ hi => .inl hi))
      have hsz : w.heap.size = (w.setCell ⟨V, 1, none⟩ (.int .i64 0)).heap.size := by simp [World.setCell]
      clear hrw hset
      generalize hLb : b.length = L at *
      have HLB := Lib.hid hLb
      clear hLb
      go_enter Try.func57, Try.ntmps57
      go_wp2_with (at_builtin; refine wpList_app (w.setCell ⟨V, 1, none⟩ (.int .i64 0)) rfl _ _ 22 rfl (V + 1) 5 (.int .u8 0) 1 1 Try.underlying22 info5 rfl (by decide) (.slice B L cb) L (u8s b) rfl (by have := HSO.out.own; rw [HLB.out] at this; exact this) A n c (u8s l) rfl HR1.out (u8s_one l) (by simp [maxLen]; omega) (by omega) (by omega) ?_; intro v2 w2 hown2 hg2 hnil2 hat2; have hch2 := Ch.of_grown hg2; have hbk2 := blk_ch HSO.out.blk hch2 (fun e => by have := HBO.out V e; omega); have f0 := blk_thawed hbk2 0; have d2 := blk_cell hbk2 0 (.slice B L cb) rfl; obtain ⟨A2, cc2, rfl, hr2, hA2⟩ := own_form hown2)
      have hbk3 := blk_set hbk2 0 (.slice A2 (L + n) cc2)
      refine bodyPost_end (results_none rfl _ _ _) rfl ⟨rfl, .slice A2 (L + n) cc2, ?_, ?_, ?_⟩
      · rw [hr1]
        refine ⟨hbk3, own_ch ?_ (Ch.setCell w2 ⟨V, 0, none⟩ _) (fun k hk e => ?_)⟩
        · rw [List.length_append, HLB.out, HL.out, u8s_append]; exact hown2
        · have e' : k = V := e
          have := hown2.lt k hk; omega
      · exact ch_set (HX.out.trans hch2 (fun i hi => .inl (.inr hi))) ⟨V, 0, none⟩ _ (.inl rfl)
      · rcases hat2 with h | h
        · exact .inl h
        · exact .inr ⟨_, h, by omega⟩
  · have hr1 : r = (b, x) := by rw [hr0, if_neg hx]
    have g1 : (x == 0) = false := by simpa using hx
    clear hrw hset
    go_enter Try.func57, Try.ntmps57
    go_wp2_with fail
    refine bodyPost_end (results_none rfl _ _ _) rfl ⟨rfl, _, (by subst hr1; exact HS.out x), (Ch.setCell w ⟨V, 1, none⟩ _).mono (fun i _ hi => .inl hi), .inl rfl⟩
end Go.Proofs.Ytncahekankbalaa
end
section
namespace Go.Proofs.Ytncahekankbalaa
open Go.RowKit
set_option linter.unusedVariables false
set_option linter.unusedSimpArgs false

theorem rput_ok (b : List UInt8) (e : Int) (k : List UInt8) : rput b e k 0 = wput b e k := by
  unfold rput wput
  by_cases he : e = 0
  · subst he; simp
  · simp [he]
set_option maxRecDepth 100000 in
set_option maxHeartbeats 1000000 in
theorem rwnum_any {w : World} {V : Nat} {v : Value} {b : List UInt8} {e : Int} (h : RW w V v b e) (hb : b.length ≤ 1048576) (n : Int) (hn : n ≤ 9223372036854775807) :
    Calls Try.prog 37 #[.pointer (some ⟨V, 0, none⟩), .int .i64 n] w (RPutQ w V v (wnum b e n)) := by
  have H := Lib.hid h
  have hV := rw_lt h
  obtain ⟨r, hrr⟩ : ∃ r, r = wnum b e n := ⟨_, rfl⟩
  rw [← hrr]
  clear h
  by_cases hr : n < 0 ∨ 4611686018427387903 < n
  · have hr1 : rput b e [] 5 = r := by rw [hrr]; unfold wnum rput; simp [hr]
    have g1 : (decide (n < 0) = false → decide (4611686018427387903 < n) = true) := by intro h1; simp at h1 ⊢; omega
    clear hrr
    by_cases h0 : n < 0
    · go_enter Try.func37, Try.ntmps37
      go_wp2_with fail
      refine (rput_any H.out hb (l := []) (nil_rd w 1) (by decide) (fun a ha => by cases ha) 5).mono ?_
      rw [hr1]
      rintro e2 w2 ⟨he, v', hQ⟩
      cases he
      go_wp2
      exact bodyPost_ret (results_none rfl _ _ _) rfl ⟨rfl, v', hQ⟩
    · have h1 : 4611686018427387903 < n := by omega
      go_enter Try.func37, Try.ntmps37
      go_wp2_with fail
      refine (rput_any H.out hb (l := []) (nil_rd w 1) (by decide) (fun a ha => by cases ha) 5).mono ?_
      rw [hr1]
      rintro e2 w2 ⟨he, v', hQ⟩
      cases he
      go_wp2
      exact bodyPost_ret (results_none rfl _ _ _) rfl ⟨rfl, v', hQ⟩
  · obtain ⟨N, rfl⟩ : ∃ N : Nat, n = N := ⟨n.toNat, by omega⟩
    have hr1 : rput b e (frm N) 0 = r := by
      rw [rput_ok, hrr]; unfold wnum; rw [if_neg hr]
      by_cases he : e = 0
      · subst he; simp
      · unfold wput; simp [he]
    have h9 := frm_len9 N
    clear hrr
    have g1 : decide ((N : Int) < 0) = false := by simp
    have g2 : decide ((4611686018427387903 : Int) < N) = false := by simp; omega
    have hN : N < 9223372036854775808 := by omega
    go_enter Try.func37, Try.ntmps37
    go_wp2_with (go_at_call 58; refine (rform_any N hN _).mono ?_; rintro e w1 ⟨g, c', rfl, hg, hc', hrow, hbel⟩)
    refine (rput_any (rw_ch H.out (Ch.of_below hbel No) id (fun _ _ => id)) hb (row_u8_rd hrow rfl hc') (by omega) (fun a ha => by cases ha; simp; omega) 0).mono ?_
    rw [hr1]
    rintro e2 w2 hput
    obtain ⟨he, v', hQ⟩ := rputq_of hbel hput
    cases he
    go_wp2
    exact bodyPost_end (results_none rfl _ _ _) rfl ⟨rfl, v', hQ⟩

set_option maxRecDepth 100000 in
set_option maxHeartbeats 1000000 in
theorem rwraw_any {w : World} {V : Nat} {v : Value} {b : List UInt8} {e : Int} (h : RW w V v b e) (hb : b.length ≤ 1048576) {A : Option Addr} {n c : Nat} {l : List UInt8} (hr : Rd w A n c 1 (u8s l)) (hn : n ≤ 100000000) :
    Calls Try.prog 38 #[.pointer (some ⟨V, 0, none⟩), .slice A n c] w (RPutQ w V v (wraw b e l)) := by
  have hl : l.length = n := by have := hr.len; simpa using this
  have H := Lib.hid h
  have hV := rw_lt h
  have h9 := frm_len9 n
  obtain ⟨r, hrr⟩ : ∃ r, r = wraw b e l := ⟨_, rfl⟩
  rw [← hrr]
  have hr1 : rput b e (frm n ++ l) 0 = r := by rw [rput_ok, hrr]; unfold wraw; rw [hl]
  have HR := Lib.hid hr; have HL := Lib.hid hl; have HE := Lib.hid hr1
  clear h hr hl hrr hr1
  go_enter Try.func38, Try.ntmps38
  go_wp2_with (first | (go_at_call 58; refine (rform_any n (by omega) _).mono ?_; rintro e w1 ⟨g, c', rfl, hg, hc', hrow, hbel⟩; have hsz := hbel.size) | (at_builtin; refine wpList_app_row w1 rfl _ _ 22 rfl w.heap.size 5 _ 1 1 Try.underlying22 info5 rfl (by decide) g (frm n).length c' (u8s (frm n)) rfl hrow hg (by rw [u8s_length, Nat.mul_one]) hc' A n c (u8s l) rfl (HR.out.below hbel) (u8s_one l) (by simp [maxLen]; omega) (by omega) hsz ?_; intro g2 c2 w2 hrow2 hnc2 hbg2 hat2 hch2))
  have hbel2 : Below w.heap.size w w2 := hbel.trans (hch2.below hsz (fun k hk => by omega))
  rw [← u8s_append] at hrow2
  refine (rput_any (rw_ch H.out (Ch.of_below hbel2 No) id (fun _ _ => id)) hb (row_u8_rd hrow2 (by rw [List.length_append, HL.out]) hnc2) (by omega) (fun a ha => by cases ha; simp; omega) 0).mono ?_
  rw [HE.out]
  rintro e2 w3 hput
  obtain ⟨he, v', hQ⟩ := rputq_of hbel2 hput
  cases he
  go_wp2
  exact bodyPost_end (results_none rfl _ _ _) rfl ⟨rfl, v', hQ⟩

def ROutQ (w : World) (b : List UInt8) (e : Int) (E : Ending) (w' : World) : Prop := ∃ A n c, E = .returned (.tuple #[.slice A n c, .int .i64 e]) ∧ Rd w' A n c 1 (u8s (if e = 0 then b else [])) ∧ (∀ a, A = some a → w.heap.size ≤ a.block) ∧ Below w.heap.size w w'
set_option maxRecDepth 100000 in
set_option maxHeartbeats 1000000 in
theorem rout_any {w : World} {V : Nat} {v : Value} {b : List UInt8} {e : Int} (h : RW w V v b e) (hb : b.length ≤ 1048576) :
    Calls Try.prog 39 #[.pointer (some ⟨V, 0, none⟩)] w (ROutQ w b e) := by
  have c1 : w.cell? ⟨V, 1, none⟩ = some (.int .i64 e) := blk_cell h.blk 1 _ rfl
  by_cases he : e ≠ 0
  · have g2 : (e != 0) = true := by simpa using he
    go_enter Try.func39, Try.ntmps39
    go_wp2
    go_quiet (fail)
    go_wp2
    go_ret2
    exact ⟨none, 0, 0, rfl, by rw [if_neg he]; exact nil_rd _ _, (fun a ha => by cases ha), (ch_drewN No w _).below (Nat.le_refl _) (fun _ h => h.elim)⟩
  obtain rfl : e = 0 := Decidable.not_not.1 he
  clear he
  obtain ⟨A, c, rfl, hr, hA⟩ := rw_form h
  have c0 : w.cell? ⟨V, 0, none⟩ = some (.slice A b.length c) := blk_cell h.blk 0 _ rfl
  have hV := rw_lt h
  have d0 : (w.alloc (.cells #[] 5)).cell? ⟨V, 0, none⟩ = some (.slice A b.length c) := by rw [((Below.refl w.heap.size w).alloc (Nat.le_refl _) (.cells #[] 5)).cell hV]; exact c0
  have HR := Lib.hid (hr.ch (Ch.alloc w (.cells #[] 5) No) (fun _ _ => id))
  have HO := Lib.hid (row_lit w #[] 5 0 1 rfl (by omega))
  clear hr
  go_enter Try.func39, Try.ntmps39
  go_wp2_with (at_builtin; refine wpList_app_row _ rfl _ _ 22 rfl w.heap.size 5 _ 1 1 Try.underlying22 info5 rfl (by decide) _ 0 _ [] rfl HO.out (Nat.le_refl _) rfl (Nat.le_refl _) A b.length c (u8s b) rfl HR.out (u8s_one b) (by simp [maxLen]; omega) (by omega) (by simp) ?_; intro g' c' w1 hrow hnc hbg hat hch)
  go_ret2
  exact ⟨_, _, _, rfl, by rw [if_pos rfl]; exact row_u8_rd (by simpa using hrow) rfl (by omega), (fun a ha => by cases ha; exact hbg), ((Ch.alloc w _ No).trans hch (fun i hi => .inr (by omega))).below (Nat.le_refl _) (fun k hk => hk.elim)⟩
end Go.Proofs.Ytncahekankbalaa
end
