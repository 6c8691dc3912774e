/- Plain words: what is read without a fault is written as the bytes that it was read from; no program. No conditions beyond those named. -/
import Derived.Test.YtondodhpmghogaaB0
import Derived.Test.YtondodhpmghogaaL6
namespace Go.Proofs.Ytondodhpmghogaa
open Go.RowKit
set_option linter.unusedVariables false
set_option linter.unusedSimpArgs false

theorem rnum_bad (s : Rdr) (lo hi : Int) (h : s.e ≠ 0) : rnum s lo hi = (0, s) := by unfold rnum; rw [if_pos h]
theorem rraw_bad (s : Rdr) (m : Int) (h : s.e ≠ 0) : rraw s m = ([], s) := by unfold rraw; rw [if_pos h]
theorem rnum_fault (s : Rdr) (lo hi : Int) (h : (rnum s lo hi).2.e ≠ 0) : (rnum s lo hi).1 = 0 ∧ (rnum s lo hi).2.at_ = s.at_ := by
  unfold rnum at h ⊢
  repeat' split
  all_goals simp_all
theorem rnum_back (s : Rdr) (lo hi : Int) (h0 : s.e = 0) (h : (rnum s lo hi).2.e = 0) :
    ∃ n : Nat, rnum s lo hi = ((n : Int), ⟨s.b, s.at_ + (frm n).length, 0, s.p⟩) ∧ n ≤ 4611686018427387903 ∧ (s.b.drop s.at_).take (frm n).length = frm n ∧ s.at_ + (frm n).length ≤ s.b.length := by
  unfold rnum at h ⊢
  rw [if_neg (by simp [h0])] at h ⊢
  by_cases c1 : s.b.length ≤ s.at_
  · rw [if_pos c1] at h; simp at h
  rw [if_neg c1] at h ⊢
  obtain ⟨m, hm⟩ : ∃ m, m = (s.b[s.at_]?.getD 0).toNat := ⟨_, rfl⟩
  rw [← hm] at h ⊢
  by_cases c2 : 8 < m
  · rw [if_pos c2] at h; simp at h
  rw [if_neg c2] at h ⊢
  by_cases c3 : s.b.length < s.at_ + 1 + m
  · rw [if_pos c3] at h; simp at h
  rw [if_neg c3] at h ⊢
  by_cases c4 : 0 < m ∧ s.b[s.at_ + 1]?.getD 0 = 0
  · rw [if_pos c4] at h; simp at h
  rw [if_neg c4] at h ⊢
  obtain ⟨xs, hxs⟩ : ∃ xs, xs = (s.b.drop (s.at_ + 1)).take m := ⟨_, rfl⟩
  rw [← hxs] at h ⊢
  by_cases c5 : 4611686018427387903 < valB xs ∨ (valB xs : Int) < lo ∨ hi < (valB xs : Int)
  · rw [if_pos c5] at h; simp at h
  rw [if_neg c5]
  have hl : xs.length = m := by rw [hxs, List.length_take, List.length_drop]; omega
  have hbe : be (valB xs) = xs := be_valB m xs hl (by omega) (fun c t e hc => by
    apply c4
    refine ⟨by rw [← hl, e]; simp, ?_⟩
    have : xs[0]? = some c := by rw [e]; rfl
    rw [hxs, List.getElem?_take_of_lt (by rw [← hl, e]; simp), List.getElem?_drop] at this
    rw [show s.at_ + 1 = s.at_ + 1 + 0 from rfl, this, hc]; rfl)
  have hd : s.b.drop s.at_ = (s.b[s.at_]?.getD 0) :: s.b.drop (s.at_ + 1) := by
    rw [List.drop_eq_getElem_cons (by omega)]
    simp [show s.at_ < s.b.length by omega]
  have hf : frm (valB xs) = (s.b[s.at_]?.getD 0) :: xs := by
    unfold frm
    rw [hbe, hl, hm]
    simp
  refine ⟨valB xs, ?_, by omega, ?_, ?_⟩
  · rw [hf, List.length_cons, hl, h0]; congr 2; omega
  · rw [hf, hd, List.length_cons, List.take_succ_cons, hl, ← hxs]
  · rw [hf, List.length_cons, hl]; omega
theorem rraw_back (s : Rdr) (m : Int) (h0 : s.e = 0) (h : (rraw s m).2.e = 0) :
    ∃ k : List UInt8, rraw s m = (k, ⟨s.b, s.at_ + (frm k.length ++ k).length, 0, s.p⟩) ∧ (s.b.drop s.at_).take (frm k.length ++ k).length = frm k.length ++ k ∧ s.at_ + (frm k.length ++ k).length ≤ s.b.length := by
  have hr : rraw s m = rrawB s.at_ m (rnum s 0 4611686018427387903) := by unfold rraw; rw [if_neg (by simp [h0])]
  rw [hr] at h ⊢
  by_cases he : (rnum s 0 4611686018427387903).2.e = 0
  · obtain ⟨n, e1, e2, e3, e4⟩ := rnum_back s 0 4611686018427387903 h0 he
    rw [e1] at h ⊢
    unfold rrawB at h ⊢
    simp only at h ⊢
    rw [if_neg (by simp)] at h ⊢
    by_cases c1 : m < (n : Int)
    · rw [if_pos c1] at h; simp at h
    rw [if_neg c1] at h ⊢
    by_cases c2 : (s.b.length : Int) < ((s.at_ + (frm n).length : Nat) : Int) + n
    · rw [if_pos c2] at h; simp at h
    rw [if_neg c2]
    obtain ⟨k, hk⟩ : ∃ k, k = (s.b.drop (s.at_ + (frm n).length)).take n := ⟨_, rfl⟩
    have hkl : k.length = n := by rw [hk, List.length_take, List.length_drop]; omega
    have hn : ((n : Int)).toNat = n := by omega
    rw [hn, ← hk]
    refine ⟨k, ?_, ?_, ?_⟩
    · rw [hkl, List.length_append, hkl, Nat.add_assoc]
    · rw [hkl, List.length_append, hkl, List.take_add, e3, List.drop_drop, hk]
    · rw [hkl, List.length_append, hkl]; omega
  · exfalso
    unfold rrawB at h
    rw [if_pos he] at h
    exact he h
theorem rraw_fault (s : Rdr) (m : Int) (h : (rraw s m).2.e ≠ 0) : (rraw s m).1 = [] ∧ (rraw s m).2.at_ = s.at_ := by
  unfold rraw rrawB at h ⊢
  repeat' split
  all_goals simp_all
theorem rend_bad (s : Rdr) (h : s.e ≠ 0) : rend s = (s.e, s.p) := by unfold rend; rw [if_neg (fun e => h e.1)]
/-- the bytes that something was read from -/
def gotE (s : Rdr) (x : Ask) : List UInt8 := if x.k = 0 then frm (rnum s x.lo x.hi).1.toNat else frm (rraw s x.hi).1.length ++ (rraw s x.hi).1
theorem again_step (s : Rdr) (x : Ask) (h0 : s.e = 0) (h : (askS s x).e = 0) : askS s x = ⟨s.b, s.at_ + (gotE s x).length, 0, s.p⟩ ∧ s.b.take (s.at_ + (gotE s x).length) = s.b.take s.at_ ++ gotE s x ∧ s.at_ + (gotE s x).length ≤ s.b.length := by
  unfold askS at h ⊢
  unfold gotE
  by_cases hk : x.k = 0
  · rw [if_pos hk] at h
    rw [if_pos hk, if_pos hk]
    obtain ⟨n, e1, e2, e3, e4⟩ := rnum_back s x.lo x.hi h0 h
    have hn : ((n : Int)).toNat = n := by omega
    rw [e1]
    simp only [hn]
    exact ⟨trivial, by rw [List.take_add, e3], e4⟩
  · rw [if_neg hk] at h
    rw [if_neg hk, if_neg hk]
    obtain ⟨k, e1, e3, e4⟩ := rraw_back s x.hi h0 h
    rw [e1]
    exact ⟨rfl, by rw [List.take_add, e3], e4⟩
theorem rraw_len (s : Rdr) (m : Int) : (rraw s m).1.length ≤ s.b.length := by
  unfold rraw rrawB
  have h := rnum_b s 0 4611686018427387903
  generalize rnum s 0 4611686018427387903 = q at h
  repeat' split
  all_goals simp_all
  all_goals omega
theorem askS_ok (s : Rdr) (x : Ask) (h : (askS s x).e = 0) : s.e = 0 := by
  by_cases h0 : s.e = 0
  · exact h0
  · exfalso
    unfold askS at h
    rw [rnum_bad s x.lo x.hi h0, rraw_bad s x.hi h0] at h
    split at h <;> exact h0 h
theorem askS_fault (s : Rdr) (x : Ask) (h : (askS s x).e ≠ 0) : (askS s x).at_ = s.at_ ∧ (s.e ≠ 0 → askS s x = s) := by
  refine ⟨?_, fun h0 => ?_⟩
  · unfold askS at h ⊢
    split
    · rename_i hk; rw [if_pos hk] at h; exact (rnum_fault s _ _ h).2
    · rename_i hk; rw [if_neg hk] at h; exact (rraw_fault s _ h).2
  · unfold askS
    rw [rnum_bad s x.lo x.hi h0, rraw_bad s x.hi h0]
    split <;> rfl
theorem again_write (s : Rdr) (x : Ask) (h : (askS s x).e = 0) (hlen : s.b.length ≤ 1000) (y : Ac) (hk : y.k = x.k) (hn : x.k = 0 → y.n = (rnum s x.lo x.hi).1) (hs : x.k = 1 → y.s.data.toList = (rraw s x.hi).1) (hl : x.k ≠ 0 → x.k ≠ 1 → y.l = (rraw s x.hi).1) :
    actW (s.b.take s.at_, 0) y = (s.b.take (askS s x).at_, 0) := by
  have h0 := askS_ok s x h
  obtain ⟨e1, e2, e3⟩ := again_step s x h0 h
  have hb : (s.b.take s.at_).length + (gotE s x).length ≤ 1048576 := by rw [List.length_take]; omega
  rw [e1]
  show _ = (s.b.take (s.at_ + (gotE s x).length), 0)
  rw [e2]
  unfold actW
  rw [hk]
  unfold gotE at hb ⊢
  by_cases k0 : x.k = 0
  · rw [if_pos k0] at hb
    rw [if_pos k0, if_pos k0, hn k0]
    have hr : (askS s x).e = 0 := h
    unfold askS at hr
    rw [if_pos k0] at hr
    obtain ⟨n, en, en2, _, _⟩ := rnum_back s x.lo x.hi h0 hr
    rw [en] at hb ⊢
    have hn2 : ((n : Int)).toNat = n := by omega
    simp only [hn2] at hb ⊢
    show wnum _ 0 (n : Int) = _
    unfold wnum
    rw [if_neg (by simp), if_neg (by omega), hn2]
    exact wput_ok _ _ hb
  · rw [if_neg k0] at hb
    rw [if_neg k0, if_neg k0]
    by_cases k1 : x.k = 1
    · rw [if_pos k1, hs k1]
      exact wput_ok _ _ hb
    · rw [if_neg k1, hl k0 k1]
      exact wput_ok _ _ hb
end Go.Proofs.Ytondodhpmghogaa
