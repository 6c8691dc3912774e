/- Plain words: what was written is read as it was; no program. Conditions: what can be written, short. -/
import Derived.Test.YtondodhpmghogaaL1
namespace Go.Proofs.Ytondodhpmghogaa
open Go.RowKit
set_option linter.unusedVariables false
set_option linter.unusedSimpArgs false

/-- the bytes of an act -/
def enc (x : Ac) : List UInt8 := if x.k = 0 then frm x.n.toNat else if x.k = 1 then frm x.s.data.toList.length ++ x.s.data.toList else frm x.l.length ++ x.l
/-- an act that can be written -/
def Right (x : Ac) : Prop := (x.k = 0 → 0 ≤ x.n ∧ x.n ≤ 4611686018427387903) ∧ x.s.size ≤ 300 ∧ x.l.length ≤ 300
theorem enc_len (x : Ac) (h : Right x) : (enc x).length ≤ 309 ∧ 0 < (enc x).length := by
  obtain ⟨h1, h3, h4⟩ := h
  have hs : x.s.data.toList.length = x.s.size := by simp
  have a := frm_len9 x.n.toNat
  have b := frm_len9 x.s.data.toList.length
  have c := frm_len9 x.l.length
  have a' := frm_len x.n.toNat
  have b' := frm_len x.s.data.toList.length
  have c' := frm_len x.l.length
  unfold enc
  split
  · omega
  · split
    · rw [List.length_append]; omega
    · rw [List.length_append]; omega
theorem wput_ok (b k : List UInt8) (h : b.length + k.length ≤ 1048576) : wput b 0 k = (b ++ k, 0) := by
  unfold wput
  rw [if_neg (by simp), if_neg (by omega)]
theorem actW_enc (b : List UInt8) (x : Ac) (h : Right x) (hl : b.length + (enc x).length ≤ 1048576) : actW (b, 0) x = (b ++ enc x, 0) := by
  obtain ⟨h1, h3, h4⟩ := h
  unfold actW
  unfold enc at hl ⊢
  by_cases hk : x.k = 0
  · rw [if_pos hk] at hl
    rw [if_pos hk, if_pos hk]
    have h1' := h1 hk
    show wnum b 0 x.n = _
    unfold wnum
    rw [if_neg (by simp), if_neg (by omega)]
    exact wput_ok b _ hl
  · rw [if_neg hk] at hl
    rw [if_neg hk, if_neg hk]
    by_cases hk1 : x.k = 1
    · rw [if_pos hk1] at hl
      rw [if_pos hk1, if_pos hk1]
      exact wput_ok b _ hl
    · rw [if_neg hk1] at hl
      rw [if_neg hk1, if_neg hk1]
      exact wput_ok b _ hl

theorem get_mid (pre t : List UInt8) (c : UInt8) : (pre ++ c :: t)[pre.length]?.getD 0 = c := by simp
/-- a number that was written is read -/
theorem rnum_frm (pre post : List UInt8) (n : Nat) (hn : n ≤ 4611686018427387903) (lo hi p : Int) (h1 : lo ≤ n) (h2 : (n : Int) ≤ hi) :
    rnum ⟨pre ++ (frm n ++ post), pre.length, 0, p⟩ lo hi = ((n : Int), ⟨pre ++ (frm n ++ post), pre.length + (frm n).length, 0, p⟩) := by
  have h8 := be_len8 n
  have hm : (UInt8.ofNat (be n).length).toNat = (be n).length := by simp; omega
  have e1 : pre ++ (frm n ++ post) = pre ++ UInt8.ofNat (be n).length :: (be n ++ post) := by unfold frm; simp
  have hg : (pre ++ (frm n ++ post))[pre.length]?.getD 0 = UInt8.ofNat (be n).length := by rw [e1]; exact get_mid _ _ _
  have hlen : (pre ++ (frm n ++ post)).length = pre.length + 1 + (be n).length + post.length := by rw [e1]; simp; omega
  have hd : ((pre ++ (frm n ++ post)).drop (pre.length + 1)).take (be n).length = be n := by
    rw [e1, ← List.drop_drop]
    simp
  unfold rnum
  simp only [hg, hm, hd]
  rw [if_neg (by simp), if_neg (by rw [hlen]; omega), if_neg (by omega), if_neg (by rw [hlen]; omega), if_neg ?_, valB_be n (by omega), if_neg (by omega)]
  · rw [frm_len]
    simp [Nat.add_assoc, Nat.add_comm]
  · rintro ⟨hp, h0⟩
    have hne : n ≠ 0 := by intro e; subst e; simp [be_zero] at hp
    obtain ⟨c, t, hc, hc0⟩ := be_head n (by omega) hne
    rw [e1, hc] at h0
    apply hc0
    rw [← h0]
    simp
theorem rraw_frm (pre post l : List UInt8) (hl : l.length ≤ 1000000) (m p : Int) (hm : (l.length : Int) ≤ m) :
    rraw ⟨pre ++ ((frm l.length ++ l) ++ post), pre.length, 0, p⟩ m = (l, ⟨pre ++ ((frm l.length ++ l) ++ post), pre.length + (frm l.length ++ l).length, 0, p⟩) := by
  unfold rraw
  rw [if_neg (by simp)]
  have e : pre ++ ((frm l.length ++ l) ++ post) = pre ++ (frm l.length ++ (l ++ post)) := by simp
  rw [e, rnum_frm pre (l ++ post) l.length (by omega) 0 4611686018427387903 p (by omega) (by omega)]
  unfold rrawB
  simp only
  have hlen : (pre ++ (frm l.length ++ (l ++ post))).length = pre.length + (frm l.length).length + l.length + post.length := by simp; omega
  rw [if_neg (by simp), if_neg (by omega), if_neg (by rw [hlen]; push_cast; omega)]
  have hd : ((pre ++ (frm l.length ++ (l ++ post))).drop (pre.length + (frm l.length).length)).take l.length = l := by
    rw [← List.drop_drop]
    simp
  have ht : ((l.length : Int)).toNat = l.length := by omega
  rw [ht, hd]
  simp [Nat.add_assoc]
/-- a number whose last byte is missing -/
theorem rnum_cut (pre : List UInt8) (n : Nat) (hn : n ≤ 4611686018427387903) (lo hi p : Int) (b : List UInt8) (hb : b ++ [((pre ++ frm n).getLast?).getD 0] = pre ++ frm n) :
    rnum ⟨b, pre.length, 0, p⟩ lo hi = (0, ⟨b, pre.length, 4, b.length⟩) := by
  have h8 := be_len8 n
  have hm : (UInt8.ofNat (be n).length).toNat = (be n).length := by simp; omega
  have hlen : b.length + 1 = pre.length + (be n).length + 1 := by
    have := congrArg List.length hb
    simp only [List.length_append, List.length_cons, List.length_nil, frm_len] at this
    omega
  unfold rnum
  simp only
  rw [if_neg (by simp)]
  by_cases h0 : (be n).length = 0
  · rw [if_pos (by omega)]
  · rw [if_neg (by omega)]
    have hg : b[pre.length]?.getD 0 = UInt8.ofNat (be n).length := by
      have h1 : (b ++ [((pre ++ frm n).getLast?).getD 0])[pre.length]? = b[pre.length]? := List.getElem?_append_left (by omega)
      rw [← h1, hb]
      unfold frm
      exact get_mid _ _ _
    rw [hg, hm, if_neg (by omega), if_pos (by omega)]
theorem rraw_cut (pre l : List UInt8) (hl : l.length ≤ 1000000) (m p : Int) (hm : (l.length : Int) ≤ m) (b : List UInt8) (hb : b ++ [((pre ++ (frm l.length ++ l)).getLast?).getD 0] = pre ++ (frm l.length ++ l)) :
    (rraw ⟨b, pre.length, 0, p⟩ m).2 = ⟨b, pre.length, 4, b.length⟩ := by
  unfold rraw
  rw [if_neg (by simp)]
  by_cases h0 : l = []
  · subst h0
    rw [List.append_nil] at hb
    have := rnum_cut pre 0 (by decide) 0 4611686018427387903 p b hb
    rw [this]
    unfold rrawB
    simp
  · obtain ⟨k, c, rfl⟩ : ∃ k c, l = k ++ [c] := ⟨l.dropLast, l.getLast h0, (List.dropLast_concat_getLast _).symm⟩
    have hbb : b = pre ++ (frm (k ++ [c]).length ++ k) := by
      have e : pre ++ (frm (k ++ [c]).length ++ (k ++ [c])) = (pre ++ (frm (k ++ [c]).length ++ k)) ++ [c] := by simp
      rw [e] at hb
      exact List.append_cancel_right (by simpa using hb)
    rw [hbb, rnum_frm pre k (k ++ [c]).length (by omega) 0 4611686018427387903 p (by omega) (by omega)]
    unfold rrawB
    simp only
    rw [if_neg (by simp), if_neg (by omega), if_pos (by simp; omega)]

/-- what back tells and leaves -/
def backR (s : Rdr) (x : Ac) : Bool × Rdr := if x.k = 0 then ((rnum s x.n x.n).1 == x.n, (rnum s x.n x.n).2) else if x.k = 1 then ((rraw s x.s.size).1 == x.s.data.toList, (rraw s x.s.size).2) else (eqB (rraw s x.l.length).1 x.l, (rraw s x.l.length).2)
theorem backR_ok (pre post : List UInt8) (x : Ac) (h : Right x) : backR ⟨pre ++ (enc x ++ post), pre.length, 0, 0⟩ x = (true, ⟨pre ++ (enc x ++ post), pre.length + (enc x).length, 0, 0⟩) := by
  obtain ⟨h1, h3, h4⟩ := h
  have hs : x.s.data.toList.length = x.s.size := by simp
  unfold backR enc
  by_cases hk : x.k = 0
  · rw [if_pos hk, if_pos hk]
    have h1' := h1 hk
    have hn : ((x.n.toNat : Nat) : Int) = x.n := by omega
    have := rnum_frm pre post x.n.toNat (by omega) x.n x.n 0 (by omega) (by omega)
    rw [this, hn]
    simp
  · rw [if_neg hk, if_neg hk]
    by_cases hk1 : x.k = 1
    · rw [if_pos hk1, if_pos hk1]
      have := rraw_frm pre post x.s.data.toList (by omega) x.s.size 0 (by omega)
      rw [this]
      simp
    · rw [if_neg hk1, if_neg hk1]
      have := rraw_frm pre post x.l (by omega) x.l.length 0 (Int.le_refl _)
      rw [this, eqB_self]
theorem backR_cut (pre : List UInt8) (x : Ac) (h : Right x) (b : List UInt8) (hb : b ++ [((pre ++ enc x).getLast?).getD 0] = pre ++ enc x) : (backR ⟨b, pre.length, 0, 0⟩ x).2 = ⟨b, pre.length, 4, b.length⟩ := by
  obtain ⟨h1, h3, h4⟩ := h
  have hs : x.s.data.toList.length = x.s.size := by simp
  unfold backR
  unfold enc at hb
  by_cases hk : x.k = 0
  · rw [if_pos hk] at hb ⊢
    have h1' := h1 hk
    rw [rnum_cut pre x.n.toNat (by omega) x.n x.n 0 b hb]
  · rw [if_neg hk] at hb ⊢
    by_cases hk1 : x.k = 1
    · rw [if_pos hk1] at hb ⊢
      exact rraw_cut pre x.s.data.toList (by omega) x.s.size 0 (by omega) b hb
    · rw [if_neg hk1] at hb ⊢
      exact rraw_cut pre x.l (by omega) x.l.length 0 (Int.le_refl _) b hb

/-- the bytes of the first k acts -/
def encs (G : Nat → Ac) : Nat → List UInt8
  | 0 => []
  | k + 1 => encs G k ++ enc (G k)
theorem encs_len (G : Nat → Ac) (n : Nat) (h : ∀ i, i < n → Right (G i)) : ∀ k, k ≤ n → (encs G k).length ≤ 309 * k
  | 0, _ => Nat.zero_le _
  | k + 1, hk => by
    have h1 := encs_len G n h k (by omega)
    have h2 := (enc_len (G k) (h k (by omega))).1
    show (encs G k ++ enc (G k)).length ≤ _
    rw [List.length_append]; omega
/-- all bytes are those of the first k acts, the next one's, the rest's -/
theorem encs_split (G : Nat → Ac) (n : Nat) : ∀ d k, k + 1 + d = n → ∃ post, encs G n = encs G k ++ (enc (G k) ++ post)
  | 0, k, h => ⟨[], by subst h; simp [encs]⟩
  | d + 1, k, h => by
    obtain ⟨m, rfl⟩ : ∃ m, n = m + 1 := ⟨n - 1, by omega⟩
    obtain ⟨post, hp⟩ := encs_split G m d k (by omega)
    exact ⟨post ++ enc (G m), by show encs G m ++ enc (G m) = _; rw [hp]; simp⟩
end Go.Proofs.Ytondodhpmghogaa
