/- A fingerprint's text is read as it, and what is read is told as that text; the walk of PrintBack. No conditions. -/
import Derived.Test.YtnlninmjmjffcaaTe
namespace Go.Proofs.Ytnlninmjmjffcaa
open Go.RowKit
set_option linter.unusedVariables false
set_option linter.unusedSimpArgs false

theorem hexText_get (n k : Nat) (h : k < 16) : (hexText n 16)[k]?.getD 0 = hexDig n k := by simp [hexText, h]
theorem pGo_hex (n : Nat) (k : Nat) (hk : k ≤ 16) (hn : n < 18446744073709551616) : pGo (hexText n 16) 0 0 = pGo ((hexText n 16).drop k) k (n / 2 ^ (64 - 4 * k)) := by
  induction k with
  | zero =>
    have : n / 2 ^ (64 - 4 * 0) = 0 := Nat.div_eq_of_lt (by simpa using hn)
    rw [this]; rfl
  | succ k ih =>
    rw [ih (by omega), drop_cons _ _ (by rw [hexText_len]; omega), hexText_get _ _ (by omega), pGo]
    have hd : n / 2 ^ (60 - 4 * k) % 16 < 16 := Nat.mod_lt _ (by omega)
    unfold hexDig
    rw [dgt_hexD _ hd, if_neg (by omega), Int.toNat_natCast]
    have e1 : 64 - 4 * (k + 1) = 60 - 4 * k := by omega
    have e2 : 64 - 4 * k = (60 - 4 * k) + 4 := by omega
    have e3 : n / 2 ^ (64 - 4 * k) = n / 2 ^ (60 - 4 * k) / 16 := by rw [e2, Nat.pow_add, ← Nat.div_div_eq_div_mul]
    rw [e1, e3]
    generalize n / 2 ^ (60 - 4 * k) = x
    congr 1; omega
theorem parse_hex (n : Nat) (hn : n < 18446744073709551616) : parse (hexText n 16) = ((n : Int), 0, 0) := by
  unfold parse
  rw [if_neg (by simp [hexText_len]), pGo_hex n 16 (by omega) hn, List.drop_of_length_le (by rw [hexText_len]; omega), pGo]
  simp

def num (ds : List Nat) : Nat := ds.foldl (fun a d => a * 16 + d) 0
theorem num_snoc (ds : List Nat) (d : Nat) : num (ds ++ [d]) = num ds * 16 + d := by simp [num]
theorem pGo_ok (l : List UInt8) : ∀ (k : Nat) (es : List Nat) (v r : Int), pGo l k (num es) = (v, 0, r) → ∃ ds : List Nat, (∀ d ∈ ds, d < 16) ∧ l = ds.map hexD ∧ v = (num (es ++ ds) : Nat) := by
  induction l with
  | nil => intro k es v r h; simp [pGo] at h; exact ⟨[], by simp, rfl, by simp [h.1]⟩
  | cons c t ih =>
    intro k es v r h
    rw [pGo] at h
    by_cases hc : dgt c < 0
    · rw [if_pos hc] at h; simp at h
    · rw [if_neg hc, ← num_snoc] at h
      obtain ⟨ds, h1, h2, h3⟩ := ih _ _ _ _ h
      have hlt := dgt_lt c
      refine ⟨(dgt c).toNat :: ds, ?_, ?_, by rw [h3]; simp⟩
      · intro d hd
        rcases List.mem_cons.1 hd with rfl | hd
        · omega
        · exact h1 d hd
      · rw [List.map_cons, hexD_dgt c hc, ← h2]
theorem pGo_bad (l : List UInt8) : ∀ (k acc : Nat) (v q r : Int), pGo l k acc = (v, q, r) → q ≠ 0 → v = 0 ∧ q = 2 ∧ (k : Int) ≤ r ∧ r ≤ (k + l.length : Nat) := by
  induction l with
  | nil => intro k acc v q r h hq; simp [pGo] at h; exact absurd h.2.1.symm hq
  | cons c t ih =>
    intro k acc v q r h hq
    rw [pGo] at h
    by_cases hc : dgt c < 0
    · rw [if_pos hc] at h; simp at h; obtain ⟨rfl, rfl, rfl⟩ := h; exact ⟨rfl, rfl, by omega, by simp; omega⟩
    · rw [if_neg hc] at h
      obtain ⟨h1, h2, h3, h4⟩ := ih _ _ _ _ _ h hq
      exact ⟨h1, h2, by omega, by simp only [List.length_cons]; omega⟩
theorem num_digit : ∀ (m : Nat) (ds : List Nat), ds.length = m → (∀ d ∈ ds, d < 16) → ∀ i, i < m → num ds / 16 ^ (m - 1 - i) % 16 = ds[i]?.getD 0 := by
  intro m
  induction m with
  | zero => intro ds _ _ i hi; omega
  | succ m ih =>
    intro ds hl hd i hi
    obtain ⟨es, d, rfl⟩ : ∃ es d, ds = es ++ [d] := by
      refine ⟨ds.dropLast, ds.getLast (by intro h; subst h; simp at hl), (List.dropLast_concat_getLast _).symm⟩
    have hle : es.length = m := by simpa using hl
    have hdd : d < 16 := hd d (by simp)
    rw [num_snoc]
    by_cases him : i = m
    · subst him
      rw [show i + 1 - 1 - i = 0 from by omega, Nat.pow_zero, Nat.div_one]
      have : (es ++ [d])[i]?.getD 0 = d := by simp [hle]
      rw [this]; omega
    · have hi' : i < m := by omega
      have e : m + 1 - 1 - i = (m - 1 - i) + 1 := by omega
      rw [e, Nat.pow_succ, Nat.mul_comm (16 ^ (m - 1 - i)) 16, ← Nat.div_div_eq_div_mul]
      have e2 : (num es * 16 + d) / 16 = num es := by omega
      rw [e2, ih es hle (fun x hx => hd x (by simp [hx])) i hi']
      rw [List.getElem?_append_left (by omega)]
theorem num_lt : ∀ (ds : List Nat), (∀ d ∈ ds, d < 16) → num ds < 16 ^ ds.length := by
  intro ds
  suffices ∀ (m : Nat) (ds : List Nat), ds.length = m → (∀ d ∈ ds, d < 16) → num ds < 16 ^ m from this _ ds rfl
  intro m
  induction m with
  | zero => intro ds hl _; obtain rfl := List.eq_nil_of_length_eq_zero hl; decide
  | succ m ih =>
    intro ds hl hd
    obtain ⟨es, d, rfl⟩ : ∃ es d, ds = es ++ [d] := by
      refine ⟨ds.dropLast, ds.getLast (by intro h; subst h; simp at hl), (List.dropLast_concat_getLast _).symm⟩
    have hle : es.length = m := by simpa using hl
    have hdd : d < 16 := hd d (by simp)
    have := ih es hle (fun x hx => hd x (by simp [hx]))
    rw [num_snoc, Nat.pow_succ]; omega
theorem parse_back (l : List UInt8) (p q r : Int) (h : parse l = (p, q, r)) :
    (q = 0 ∧ ∃ n : Nat, n < 18446744073709551616 ∧ p = (n : Int) ∧ hexText n 16 = l) ∨ (q ≠ 0 ∧ p = 0 ∧ 0 ≤ r ∧ r ≤ (l.length : Int)) := by
  unfold parse at h
  by_cases hl : l.length ≠ 16
  · rw [if_pos hl] at h; simp at h; obtain ⟨rfl, rfl, rfl⟩ := h
    exact .inr ⟨by omega, rfl, by omega, by omega⟩
  · rw [if_neg hl] at h
    have hl' : l.length = 16 := by omega
    by_cases hq : q = 0
    · subst hq
      obtain ⟨ds, h1, h2, h3⟩ := pGo_ok l 0 [] p r h
      rw [List.nil_append] at h3
      have hdl : ds.length = 16 := by rw [h2] at hl'; simpa using hl'
      have hlt := num_lt ds h1
      rw [hdl] at hlt
      refine .inl ⟨rfl, num ds, hlt, h3, ?_⟩
      rw [h2]
      apply List.ext_getElem
      · simp [hexText_len, hdl]
      · intro i hi1 hi2
        have hi : i < 16 := by rw [hexText_len] at hi1; exact hi1
        have := num_digit 16 ds hdl h1 i hi
        have e : 2 ^ (60 - 4 * i) = 16 ^ (15 - i) := by rw [show (16 : Nat) = 2 ^ 4 from rfl, ← Nat.pow_mul]; congr 1; omega
        simp only [hexText, List.getElem_map, List.getElem_range, hexDig]
        rw [e, show 15 - i = 16 - 1 - i from by omega, this]
        simp [show i < ds.length from by omega]
    · obtain ⟨h1, h2, h3, h4⟩ := pGo_bad l 0 0 p q r h hq
      exact .inr ⟨hq, h1, by omega, by omega⟩


set_option maxRecDepth 100000 in
set_option maxHeartbeats 1000000 in
theorem back_any (n : Nat) (hn : n < 18446744073709551616) (s : ByteArray) (w : World) (hs0 : s.size ≤ 9223372036854775807) : Calls Try.prog 8 #[.int .u64 n, .string s] w (AwakeQ w) := by
  have hz : ((⟨(hexText n 16).toArray⟩ : ByteArray).size : Int) = 16 := by
    have : (⟨(hexText n 16).toArray⟩ : ByteArray).size = 16 := by show (hexText n 16).toArray.size = 16; simp [hexText_len]
    rw [this]; rfl
  have HP := Lib.hid (show pVal (parse (⟨(hexText n 16).toArray⟩ : ByteArray).data.toList) = .tuple #[.int .u64 n, .agg #[.int .i64 0, .int .i64 0]] from by show pVal (parse (hexText n 16)) = _; rw [parse_hex n hn]; rfl)
  have HZ := Lib.hid hz
  clear hz
  go_enter Try.func8, Try.ntmps8
  go_wp2_with fail
  refine (known_any w).mono ?_; rintro e w1 ⟨rfl, hB1⟩
  go_wp2_with fail
  refine (text_any n hn w1).mono ?_; rintro e w2 ⟨rfl, hB2⟩
  have hB2 := hB1.trans (hB2.mono hB1.size)
  clear hB1
  obtain ⟨t, ht⟩ : ∃ t : ByteArray, t = ⟨(hexText n 16).toArray⟩ := ⟨_, rfl⟩
  rw [← ht]
  have HP := Lib.hid (show pVal (parse t.data.toList) = .tuple #[.int .u64 n, .agg #[.int .i64 0, .int .i64 0]] from by rw [ht]; exact HP.out)
  have HZ := Lib.hid (show (t.size : Int) = 16 from by rw [ht]; exact HZ.out)
  clear ht
  have hts : t.size ≤ 16 := by have := HZ.out; omega
  have hts2 : 16 ≤ t.size := by have := HZ.out; omega
  go_wp2_with fail
  refine (Parse_28 t w2 (by omega)).mono ?_; rintro e w3 ⟨rfl, hB3⟩
  rw [HP.out]
  have pa := pair_new w3 (.int .i64 0) (.int .i64 0) 37
  have hB3 := (hB2.trans (hB3.mono hB2.size)).alloc (Nat.le_trans hB2.size hB3.size) (.cells #[.int .i64 0, .int .i64 0] 37)
  clear hB2
  by_cases hs : 100 < s.size
  · go_wp2
    go_ret
    exact ⟨rfl, hB3⟩
  have hs' : s.size ≤ 100 := by omega
  clear hs
  obtain ⟨p, q, r, hp⟩ : ∃ p q r, parse s.data.toList = (p, q, r) := ⟨_, _, _, rfl⟩
  have HPS := Lib.hid (show pVal (parse s.data.toList) = .tuple #[.int .u64 p, .agg #[.int .i64 q, .int .i64 r]] from by rw [hp]; rfl)
  have hback := parse_back _ p q r hp
  clear hp
  have hls : s.data.toList.length = s.size := by simp
  rw [hls] at hback
  clear hls
  have HBK := Lib.hid hback
  clear hback
  go_wp2_with fail
  refine (Parse_28 s _ (by omega)).mono ?_; rintro e w4 ⟨rfl, hB4⟩
  rw [HPS.out]
  have pb := pair_new w4 (.int .i64 q) (.int .i64 r) 37
  have hB4 := (hB3.trans (hB4.mono hB3.size)).alloc (Nat.le_trans hB3.size hB4.size) (.cells #[.int .i64 q, .int .i64 r] 37)
  have b0 := pb.c0
  have b1 := pb.c1
  clear hB3 pa pb
  rcases HBK.out with ⟨hq, m, hm, hpm, hx⟩ | ⟨hq, hp0, hr0, hr1⟩
  · subst hq hpm
    have HX := Lib.hid hx
    clear hx HBK
    go_wp2_with fail
    refine (text_any m hm _).mono ?_; rintro e w5 ⟨rfl, hB5⟩
    have hB5 := hB4.trans (hB5.mono hB4.size)
    have he : (⟨(hexText m 16).toArray⟩ : ByteArray) = s := by rw [HX.out]
    rw [he]
    clear he b0 b1 hB4
    go_wp2
    go_ret
    exact ⟨rfl, hB5⟩
  · subst hp0
    have hq' : (q != 0) = true := by simpa using hq
    clear hq HBK
    go_wp2
    go_ret
    exact ⟨rfl, hB4⟩

end Go.Proofs.Ytnlninmjmjffcaa
