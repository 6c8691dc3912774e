/- Words that walks share; plain laws: what is written is read. No conditions. -/
import Derived.Test.YtncahekankbalaaMR
import Derived.RegionTactic
import Derived.BigRegion
namespace Go.Proofs.Ytncahekankbalaa
open Go.RowKit
set_option linter.unusedVariables false
set_option linter.unusedSimpArgs false

set_option maxHeartbeats 1000000 in
theorem over_row {g n d c : Nat} {ys : List UInt8} {w : World} (h : Row w g 5 c 1 (u8s ys)) (hd : ys.length = d) (hn : n ≤ d) (hdc : d ≤ c) : Calls Try.prog 19 #[.slice (some ⟨g, 0, none⟩) n d] w fun e w' => e = .returned (.tuple #[]) ∧ Ch (fun k => k = g) w w' := by
  have hbig := h.big
  have H0 := Lib.hid h; have HD := Lib.hid hd; clear h hd
  go_enter Try.func19, Try.ntmps19
  go_wp2
  go_loopw [3] (fun i wr => ∃ k : Nat, k ≤ d ∧ i = .int .i64 k ∧ (∃ zs : List UInt8, zs.length = d ∧ Row wr g 5 c 1 (u8s zs)) ∧ Ch (fun k => k = g) w wr) (fun i _ => d - (intOf i).toNat)
  case atStart => exact ⟨0, Nat.zero_le _, rfl, ⟨_, HD.out, H0.out⟩, Ch.refl _ _⟩
  case round =>
    clear H0 HD
    obtain ⟨k, hk, rfl, ⟨zs, hz, hr⟩, hB⟩ := hrel
    by_cases hlt : k < d
    · have hc := hr.cell (u8s_get zs k (by omega))
      have hf := hr.thawed k
      have hS := hr.set k (.int .u8 ((UInt8.ofNat ((zs[k]?.getD 0).toNat + 101)).toNat : Int)) (by simp; omega)
      have e1 : (u8s zs).set k (.int .u8 ((UInt8.ofNat ((zs[k]?.getD 0).toNat + 101)).toNat : Int)) = u8s (zs.set k (UInt8.ofNat ((zs[k]?.getD 0).toNat + 101))) := by simp [u8s, List.map_set]
      rw [e1] at hS
      have HS := Lib.hid hS
      have hC := Lib.hid (hB.trans (Ch.setCell wr ⟨g, k, none⟩ (.int .u8 ((UInt8.ofNat ((zs[k]?.getD 0).toNat + 101)).toNat : Int))) (fun i hi => .inl hi))
      have hv : ((UInt8.ofNat ((zs[k]?.getD 0).toNat + 101)).toNat : Int) = (((zs[k]?.getD 0).toNat : Int) + 101) % 256 := by simp
      have HV := Lib.hid hv; clear hv e1 hS
      have Hb := Lib.hid hr; clear hr
      have HY := Lib.hid hz; clear hz
      go_wp2
      rw [← HV.out]
      go_roundw
      case rel => exact ⟨k + 1, by omega, by go_num, ⟨_, by rw [List.length_set]; exact HY.out, HS.out⟩, hC.out⟩
      case measure => simp [intOf]; omega
    · obtain rfl : k = d := by omega
      go_wp2
      exact bodyPost_end (results_none rfl _ _ _) rfl ⟨rfl, hB⟩

theorem box_below (w : World) (o : Obj) : Below w.heap.size w (w.alloc o) := (Below.refl w.heap.size w).alloc (Nat.le_refl _) o
theorem rd_bytes (w : World) (l : List UInt8) (cs : Array Value) (n : Nat) (hc : cs = (u8s l).toArray) (hn : l.length = n) (h9 : n ≤ 9223372036854775807) : Rd (w.alloc (.cells cs 5)) (some ⟨w.heap.size, 0, none⟩) n n 1 (u8s l) := by
  subst hc
  have := rd_lit w (u8s l).toArray 5 n 1 (by simp; omega) h9
  simpa using this
theorem over_held {w : World} {base : Nat} {A : Option Addr} {n c : Nat} {x : List UInt8} (h : Held w base A n c x) : Calls Try.prog 19 #[.slice A n c] w fun e w' => e = .returned (.tuple #[]) ∧ Ch (fun k => base ≤ k) w w' := by
  rcases h with ⟨rfl, rfl, rfl, rfl⟩ | ⟨g, rfl, hb, hn, hg⟩
  · exact (over_nil w).mono fun e w' ⟨h1, h2⟩ => ⟨h1, h2 ▸ Ch.refl _ _⟩
  · have := byt_fits hb
    exact (over_any hb (by omega)).mono fun e w' ⟨h1, _, h2⟩ => ⟨h1, h2.mono fun i _ hi => by rw [hi]; exact hg⟩

theorem rdb_ch0 {S : Nat → Prop} {w w' : World} {R : Nat} {A : Option Addr} {n c : Nat} {s : Rdr} (h : RdB w R A n c s) (hc : Ch S w w') (h1 : ¬ S R) (h2 : ∀ a, A = some a → 0 < n → ¬ S a.block) : RdB w' R A n c s := ⟨blk_ch h.blk hc h1, h.rd.ch0 hc h2, h.far, h.fit⟩
theorem wput_ok (b k : List UInt8) (h : b.length + k.length ≤ 1048576) : wput b 0 k = (b ++ k, 0) := by
  unfold wput
  rw [if_neg (by simp), if_neg (by omega)]
theorem get_mid (pre t : List UInt8) (c : UInt8) : (pre ++ c :: t)[pre.length]?.getD 0 = c := by simp
/-- a number that was written is read -/
theorem rnum_frm (pre post : List UInt8) (n : Nat) (hn : n ≤ 4611686018427387903) (lo hi p : Int) (h1 : lo ≤ n) (h2 : (n : Int) ≤ hi) :
    rnum ⟨pre ++ (frm n ++ post), pre.length, 0, p⟩ lo hi = ((n : Int), ⟨pre ++ (frm n ++ post), pre.length + (frm n).length, 0, p⟩) := by
  have h8 := be_len8 n
  have hm : (UInt8.ofNat (be n).length).toNat = (be n).length := by simp; omega
  have e1 : pre ++ (frm n ++ post) = pre ++ UInt8.ofNat (be n).length :: (be n ++ post) := by unfold frm; simp
  have hg : (pre ++ (frm n ++ post))[pre.length]?.getD 0 = UInt8.ofNat (be n).length := by rw [e1]; exact get_mid _ _ _
  have hlen : (pre ++ (frm n ++ post)).length = pre.length + 1 + (be n).length + post.length := by rw [e1]; simp; omega
  have hd : ((pre ++ (frm n ++ post)).drop (pre.length + 1)).take (be n).length = be n := by
    rw [e1, ← List.drop_drop]
    simp
  unfold rnum
  simp only [hg, hm, hd]
  rw [if_neg (by simp), if_neg (by rw [hlen]; omega), if_neg (by omega), if_neg (by rw [hlen]; omega), if_neg ?_, valB_be n (by omega), if_neg (by omega)]
  · rw [frm_len]
    simp [Nat.add_assoc, Nat.add_comm]
  · rintro ⟨hp, h0⟩
    have hne : n ≠ 0 := by intro e; subst e; simp [be_zero] at hp
    obtain ⟨c, t, hc, hc0⟩ := be_head n (by omega) hne
    rw [e1, hc] at h0
    apply hc0
    rw [← h0]
    simp
theorem rraw_frm (pre post l : List UInt8) (hl : l.length ≤ 1000000) (m p : Int) (hm : (l.length : Int) ≤ m) :
    rraw ⟨pre ++ ((frm l.length ++ l) ++ post), pre.length, 0, p⟩ m = (l, ⟨pre ++ ((frm l.length ++ l) ++ post), pre.length + (frm l.length ++ l).length, 0, p⟩) := by
  unfold rraw
  rw [if_neg (by simp)]
  have e : pre ++ ((frm l.length ++ l) ++ post) = pre ++ (frm l.length ++ (l ++ post)) := by simp
  rw [e, rnum_frm pre (l ++ post) l.length (by omega) 0 4611686018427387903 p (by omega) (by omega)]
  unfold rrawB
  simp only
  have hlen : (pre ++ (frm l.length ++ (l ++ post))).length = pre.length + (frm l.length).length + l.length + post.length := by simp; omega
  rw [if_neg (by simp), if_neg (by omega), if_neg (by rw [hlen]; push_cast; omega)]
  have hd : ((pre ++ (frm l.length ++ (l ++ post))).drop (pre.length + (frm l.length).length)).take l.length = l := by
    rw [← List.drop_drop]
    simp
  have ht : ((l.length : Int)).toNat = l.length := by omega
  rw [ht, hd]
  simp [Nat.add_assoc]
theorem rnum_bad (s : Rdr) (lo hi : Int) (h : s.e ≠ 0) : rnum s lo hi = (0, s) := by unfold rnum; rw [if_pos h]
theorem rraw_bad (s : Rdr) (m : Int) (h : s.e ≠ 0) : rraw s m = ([], s) := by unfold rraw; rw [if_pos h]
theorem rnum_fault (s : Rdr) (lo hi : Int) (h : (rnum s lo hi).2.e ≠ 0) : (rnum s lo hi).1 = 0 ∧ (rnum s lo hi).2.at_ = s.at_ := by
  unfold rnum at h ⊢
  repeat' split
  all_goals simp_all
theorem rnum_back (s : Rdr) (lo hi : Int) (h0 : s.e = 0) (h : (rnum s lo hi).2.e = 0) :
    ∃ n : Nat, rnum s lo hi = ((n : Int), ⟨s.b, s.at_ + (frm n).length, 0, s.p⟩) ∧ n ≤ 4611686018427387903 ∧ (s.b.drop s.at_).take (frm n).length = frm n ∧ s.at_ + (frm n).length ≤ s.b.length := by
  unfold rnum at h ⊢
  rw [if_neg (by simp [h0])] at h ⊢
  by_cases c1 : s.b.length ≤ s.at_
  · rw [if_pos c1] at h; simp at h
  rw [if_neg c1] at h ⊢
  obtain ⟨m, hm⟩ : ∃ m, m = (s.b[s.at_]?.getD 0).toNat := ⟨_, rfl⟩
  rw [← hm] at h ⊢
  by_cases c2 : 8 < m
  · rw [if_pos c2] at h; simp at h
  rw [if_neg c2] at h ⊢
  by_cases c3 : s.b.length < s.at_ + 1 + m
  · rw [if_pos c3] at h; simp at h
  rw [if_neg c3] at h ⊢
  by_cases c4 : 0 < m ∧ s.b[s.at_ + 1]?.getD 0 = 0
  · rw [if_pos c4] at h; simp at h
  rw [if_neg c4] at h ⊢
  obtain ⟨xs, hxs⟩ : ∃ xs, xs = (s.b.drop (s.at_ + 1)).take m := ⟨_, rfl⟩
  rw [← hxs] at h ⊢
  by_cases c5 : 4611686018427387903 < valB xs ∨ (valB xs : Int) < lo ∨ hi < (valB xs : Int)
  · rw [if_pos c5] at h; simp at h
  rw [if_neg c5]
  have hl : xs.length = m := by rw [hxs, List.length_take, List.length_drop]; omega
  have hbe : be (valB xs) = xs := be_valB m xs hl (by omega) (fun c t e hc => by
    apply c4
    refine ⟨by rw [← hl, e]; simp, ?_⟩
    have : xs[0]? = some c := by rw [e]; rfl
    rw [hxs, List.getElem?_take_of_lt (by rw [← hl, e]; simp), List.getElem?_drop] at this
    rw [show s.at_ + 1 = s.at_ + 1 + 0 from rfl, this, hc]; rfl)
  have hd : s.b.drop s.at_ = (s.b[s.at_]?.getD 0) :: s.b.drop (s.at_ + 1) := by
    rw [List.drop_eq_getElem_cons (by omega)]
    simp [show s.at_ < s.b.length by omega]
  have hf : frm (valB xs) = (s.b[s.at_]?.getD 0) :: xs := by
    unfold frm
    rw [hbe, hl, hm]
    simp
  refine ⟨valB xs, ?_, by omega, ?_, ?_⟩
  · rw [hf, List.length_cons, hl, h0]; congr 2; omega
  · rw [hf, hd, List.length_cons, List.take_succ_cons, hl, ← hxs]
  · rw [hf, List.length_cons, hl]; omega
theorem rraw_back (s : Rdr) (m : Int) (h0 : s.e = 0) (h : (rraw s m).2.e = 0) :
    ∃ k : List UInt8, rraw s m = (k, ⟨s.b, s.at_ + (frm k.length ++ k).length, 0, s.p⟩) ∧ (s.b.drop s.at_).take (frm k.length ++ k).length = frm k.length ++ k ∧ s.at_ + (frm k.length ++ k).length ≤ s.b.length := by
  have hr : rraw s m = rrawB s.at_ m (rnum s 0 4611686018427387903) := by unfold rraw; rw [if_neg (by simp [h0])]
  rw [hr] at h ⊢
  by_cases he : (rnum s 0 4611686018427387903).2.e = 0
  · obtain ⟨n, e1, e2, e3, e4⟩ := rnum_back s 0 4611686018427387903 h0 he
    rw [e1] at h ⊢
    unfold rrawB at h ⊢
    simp only at h ⊢
    rw [if_neg (by simp)] at h ⊢
    by_cases c1 : m < (n : Int)
    · rw [if_pos c1] at h; simp at h
    rw [if_neg c1] at h ⊢
    by_cases c2 : (s.b.length : Int) < ((s.at_ + (frm n).length : Nat) : Int) + n
    · rw [if_pos c2] at h; simp at h
    rw [if_neg c2]
    obtain ⟨k, hk⟩ : ∃ k, k = (s.b.drop (s.at_ + (frm n).length)).take n := ⟨_, rfl⟩
    have hkl : k.length = n := by rw [hk, List.length_take, List.length_drop]; omega
    have hn : ((n : Int)).toNat = n := by omega
    rw [hn, ← hk]
    refine ⟨k, ?_, ?_, ?_⟩
    · rw [hkl, List.length_append, hkl, Nat.add_assoc]
    · rw [hkl, List.length_append, hkl, List.take_add, e3, List.drop_drop, hk]
    · rw [hkl, List.length_append, hkl]; omega
  · exfalso
    unfold rrawB at h
    rw [if_pos he] at h
    exact he h
theorem rraw_fault (s : Rdr) (m : Int) (h : (rraw s m).2.e ≠ 0) : (rraw s m).1 = [] ∧ (rraw s m).2.at_ = s.at_ := by
  unfold rraw rrawB at h ⊢
  repeat' split
  all_goals simp_all
theorem rend_bad (s : Rdr) (h : s.e ≠ 0) : rend s = (s.e, s.p) := by unfold rend; rw [if_neg (fun e => h e.1)]
theorem rraw_len (s : Rdr) (m : Int) : (rraw s m).1.length ≤ s.b.length := by
  unfold rraw rrawB
  have h := rnum_b s 0 4611686018427387903
  generalize rnum s 0 4611686018427387903 = q at h
  repeat' split
  all_goals simp_all
  all_goals omega
theorem rnum_p (s : Rdr) (lo hi : Int) : (rnum s lo hi).2.e = 0 → (rnum s lo hi).2.p = s.p ∧ s.e = 0 := by
  unfold rnum
  repeat' split
  all_goals (intro h; first | exact absurd (show (4 : Int) = 0 from h) (by decide) | exact absurd (show (2 : Int) = 0 from h) (by decide) | exact absurd (show (5 : Int) = 0 from h) (by decide) | exact absurd (show (3 : Int) = 0 from h) (by decide) | exact absurd h (by assumption) | exact ⟨rfl, h⟩)
theorem rraw_p (s : Rdr) (m : Int) : (rraw s m).2.e = 0 → (rraw s m).2.p = s.p ∧ s.e = 0 := by
  have h1 := rnum_p s 0 4611686018427387903
  unfold rraw rrawB
  repeat' split
  all_goals (intro h; first | exact absurd (show (4 : Int) = 0 from h) (by decide) | exact absurd (show (2 : Int) = 0 from h) (by decide) | exact absurd (show (5 : Int) = 0 from h) (by decide) | exact absurd (show (3 : Int) = 0 from h) (by decide) | exact absurd h (by assumption) | exact h1 h)
theorem wnum_ok (b : List UInt8) (n : Nat) (hn : n ≤ 4611686018427387903) (h : b.length + (frm n).length ≤ 1048576) : wnum b 0 (n : Int) = (b ++ frm n, 0) := by
  unfold wnum
  rw [if_neg (by simp), if_neg (by omega), Int.toNat_natCast]
  exact wput_ok _ _ h
theorem results_two {P : Program} {fn : Func} {p q : Tmp} {ty tz : TypeId} (h : fn.results = #[.cell p ty, .cell q tz]) (tmps : Array Value) (w : World) (g k : Nat) (t u : TypeId) (cs ds : Array Value) (fr fs : Nat × Nat) (d e : TypeDesc)
    (hp : tmps.getD p undef = .pointer (some ⟨g, 0, none⟩)) (hg : w.heap[g]? = some (.cells cs t fr))
    (hu : P.underlying ty = some d) (hd : (match d with | .struct _ | .array _ _ => true | _ => false) = true) (hi : (P.info? ty).map (·.size) = some cs.size)
    (hq : tmps.getD q undef = .pointer (some ⟨k, 0, none⟩)) (hk : w.heap[k]? = some (.cells ds u fs))
    (hv : P.underlying tz = some e) (he : (match e with | .struct _ | .array _ _ => true | _ => false) = true) (hj : (P.info? tz).map (·.size) = some ds.size) :
    (results fn tmps).run P w = .ok (.tuple #[.agg cs, .agg ds]) w := by
  have hp' : tmps[p]?.getD undef = .pointer (some ⟨g, 0, none⟩) := by simpa using hp
  have hq' : tmps[q]?.getD undef = .pointer (some ⟨k, 0, none⟩) := by simpa using hq
  simp [results, h, hp', hq', asAddr, run_loadVar_row w g t ty cs fr d hg hu hd hi, run_loadVar_row w k u tz ds fs e hk hv he hj]

theorem two_new (w : World) (a : Array Value) (s : Nat) (b : Array Value) (t : Nat) : Blk ((w.alloc (.cells a s)).alloc (.cells b t)) w.heap.size s a ∧ Blk ((w.alloc (.cells a s)).alloc (.cells b t)) (w.heap.size + 1) t b ∧ Below w.heap.size w ((w.alloc (.cells a s)).alloc (.cells b t)) := by
  have h1 := box_below w (.cells a s)
  have h2 := box_below (w.alloc (.cells a s)) (.cells b t)
  refine ⟨blk_below (blk_new _ _ _) h2, ?_, h1.trans (h2.mono (by simp))⟩
  have := blk_new (w.alloc (.cells a s)) t b
  rwa [World.size_alloc] at this
end Go.Proofs.Ytncahekankbalaa
