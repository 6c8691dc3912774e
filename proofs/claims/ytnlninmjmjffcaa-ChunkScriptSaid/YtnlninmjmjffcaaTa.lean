/- Walks: the reference Parse and Mix. No conditions beyond the lengths. -/
import Derived.Test.YtnlninmjmjffcaaT9
namespace Go.Proofs.Ytnlninmjmjffcaa
open Go.RowKit
set_option linter.unusedVariables false
set_option linter.unusedSimpArgs false

set_option maxRecDepth 100000 in
set_option maxHeartbeats 400000 in
theorem parser_long (s : ByteArray) (w : World) (hs : s.size ≤ 1000000) (h : s.size ≠ 16) :
    Calls Try.prog 29 #[.string s] w (ParseQ w s.data.toList) := by
  have hne : ((s.size : Int) != 16) = true := by simpa using (by omega : (s.size : Int) ≠ 16)
  have HP := Lib.hid (show parse s.data.toList = (0, 4, ((min s.size 16 : Nat) : Int)) by unfold parse; rw [if_pos (by simpa using h)]; rfl)
  go_enter Try.func29, Try.ntmps29
  go_wp2
  all_goals
    refine bodyPost_ret (v := pVal (parse s.data.toList)) ?_ rfl ⟨rfl, (Below.refl _ _).alloc (Nat.le_refl _) _⟩
    rw [HP.out]
    simp [results, Try.f29, go_sem, pVal]
    try omega

set_option maxRecDepth 100000 in
set_option maxHeartbeats 400000 in
theorem parser_any (s : ByteArray) (w : World) (h : s.size = 16) :
    Calls Try.prog 29 #[.string s] w (ParseQ w s.data.toList) := by
  have hl : s.data.toList.length = 16 := by simpa using h
  have HP := Lib.hid (show parse s.data.toList = pGo s.data.toList 0 0 by unfold parse; rw [if_neg (by simpa using h)])
  have hne : ((s.size : Int) != 16) = false := by simp [h]
  have HS := Lib.hid h
  have hs : s.size ≤ 16 := by omega
  have hs2 : 16 ≤ s.size := by omega
  clear h
  have HL := Lib.hid hl; clear hl
  go_enter Try.func29, Try.ntmps29
  go_wp2
  go_loopw [4, 5, 6] (fun a i _ wr => ∃ (k : Nat) (acc : Nat), k ≤ 16 ∧ i = .int .i64 k ∧ a = .int .u64 acc ∧ Hid (acc < 16 ^ k) ∧ Hid (pGo s.data.toList 0 0 = pGo (s.data.toList.drop k) k acc) ∧ Below (w.heap.size + 1) (w.alloc (.cells #[.int .i64 0, .int .i64 0] 37)) wr) (fun _ i _ _ => 16 - (intOf i).toNat)
  case atStart => exact ⟨0, 0, by omega, rfl, rfl, (by show 0 < 16 ^ 0; decide), rfl, Below.refl _ _⟩
  case round =>
    obtain ⟨k, acc, hk, rfl, rfl, hacc, hi, hB⟩ := hrel
    obtain ⟨c0, c1, f0, f1, hsz, hBw⟩ := two_cells hB
    by_cases hlt : k < 16
    · have hd := Lib.hid (drop_cons s.data.toList k (by rw [HL.out]; exact hlt))
      go_wp2_with fail
      refine (digit_any _ _).mono ?_; rintro e w1 ⟨rfl, rfl⟩
      rw [str_at s k (by rw [HS.out]; exact hlt)] at hd
      obtain ⟨d, hdv⟩ : ∃ d, dgt (s[k]'(by rw [HS.out]; exact hlt)) = d := ⟨_, rfl⟩
      have hd1 := dgt_lt (s[k]'(by rw [HS.out]; exact hlt))
      have hd2 := dgt_ge (s[k]'(by rw [HS.out]; exact hlt))
      rw [hdv] at hd1 hd2 ⊢
      have HD := Lib.hid hdv; clear hdv
      by_cases hneg : d < 0
      · clear hd2
        go_wp2
        refine bodyPost_ret (v := pVal (parse s.data.toList)) ?_ rfl ⟨rfl, ?_⟩
        · rw [HP.out, hi.out, hd.out, pGo, HD.out, if_pos hneg]
          simp [results, Try.f29, go_sem, pVal, c0, c1]
        · exact (hBw.setCell (Nat.le_refl _) _).setCell (Nat.le_refl _) _
      · obtain ⟨m, rfl⟩ : ∃ m : Nat, d = (m : Int) := ⟨d.toNat, by omega⟩
        have ha := pow16 k acc hlt hacc.out
        have ho := or16 acc m ha (by omega)
        clear hd2
        go_wp2
        go_roundw
        case rel =>
          refine ⟨k + 1, acc * 16 + m, by omega, by go_num, rfl, ?_, ?_, hB⟩
          · show _ < _
            have := hacc.out
            rw [Nat.pow_succ]; omega
          · show _ = _
            rw [hi.out, hd.out, pGo, HD.out, if_neg (by omega), Int.toNat_natCast]
        case measure => simp [intOf]; omega
    · obtain rfl : k = 16 := by omega
      go_wp2
      refine bodyPost_ret (v := pVal (parse s.data.toList)) ?_ rfl ⟨rfl, ?_⟩
      · rw [HP.out, hi.out, List.drop_of_length_le (by rw [HL.out]; exact Nat.le_refl _), pGo]
        simp [results, Try.f29, go_sem, pVal, c0, c1]
      · exact (hBw.setCell (Nat.le_refl _) _).setCell (Nat.le_refl _) _

theorem Parse_28 (s : ByteArray) (w : World) (hs : s.size ≤ 1000000) : Calls Try.prog 28 #[.string s] w (ParseQ w s.data.toList) := by
  by_cases h : s.size = 16
  · exact parse_any s w h
  · exact parse_long s w hs h
theorem Parse_29 (s : ByteArray) (w : World) (hs : s.size ≤ 1000000) : Calls Try.prog 29 #[.string s] w (ParseQ w s.data.toList) := by
  by_cases h : s.size = 16
  · exact parser_any s w h
  · exact parser_long s w hs h

/-- all bytes of some numbers -/
def bes (l : List UInt64) : List UInt8 := l.flatMap fun x => be (x.toNat : Int) 8
theorem mixf_bes (s : Int) (l : List UInt64) : mixf s l = fnv s (bes l) := by
  induction l generalizing s with
  | nil => rfl
  | cons x t ih =>
    have e1 : mixf s (x :: t) = mixf (fnv s (be (x.toNat : Int) 8)) t := rfl
    have e2 : bes (x :: t) = be (x.toNat : Int) 8 ++ bes t := by simp [bes]
    rw [e1, ih, e2]; simp [fnv]
theorem bes_snoc (l : List UInt64) (x : UInt64) : bes (l ++ [x]) = bes l ++ be (x.toNat : Int) 8 := by simp [bes]
theorem bes_len (l : List UInt64) : (bes l).length = 8 * l.length := by
  induction l with
  | nil => rfl
  | cons x t ih =>
    have e2 : bes (x :: t) = be (x.toNat : Int) 8 ++ bes t := by simp [bes]
    rw [e2, List.length_append, be_len, ih, List.length_cons]; omega

set_option maxRecDepth 100000 in
set_option maxHeartbeats 800000 in
theorem mixr_any (A : Option Addr) (n c : Nat) (xs : List UInt64) (w : World) (hn : n ≤ 1000000) (hr : Rd w A n c 1 (q8s xs)) :
    Calls Try.prog 24 #[.slice A n c] w fun e w' => e = .returned (.int .u64 (mixf start xs)) ∧ Below w.heap.size w w' := by
  have hl : xs.length = n := by have := hr.len; simpa using this
  have HL := Lib.hid hl; clear hl
  have H1 := Lib.hid hr; clear hr
  go_enter Try.func24, Try.ntmps24
  go_wp2
  go_loopw [3, 4, 5] (fun v i _ wr => ∃ k : Nat, k ≤ n ∧ i = .int .i64 k ∧ wr.ownsRow w.heap.size 5 1 v (8 * k) (u8s (bes (xs.take k))) ∧ Below w.heap.size w wr) (fun _ i _ _ => n - (intOf i).toNat)
  case atStart => exact ⟨0, by omega, rfl, World.ownsRow_nil _ _ _ _, Below.refl _ _⟩
  case round =>
    obtain ⟨k, hk, rfl, hown, hB⟩ := hrel
    have HO := Lib.hid hown; clear hown
    by_cases hlt : k < n
    · have hsn := Lib.hid (q8s_snoc xs k (by rw [HL.out]; exact hlt))
      obtain ⟨b, off, rfl, hc⟩ := H1.out.cells k _ (q8s_get xs k (by rw [HL.out]; exact hlt))
      obtain ⟨x, hx⟩ : ∃ x, x = xs[k]?.getD 0 := ⟨_, rfl⟩
      rw [← hx] at hc hsn
      obtain ⟨y, hy⟩ : ∃ y : Int, y = (x.toNat : Int) := ⟨_, rfl⟩
      have hy0 : 0 ≤ y := by omega
      rw [← hy] at hc
      have HY := Lib.hid hy
      clear hx hy
      obtain ⟨wo, hwo⟩ : ∃ wo : World, wo = wr := ⟨_, rfl⟩
      go_wp2
      go_loopw [3, 5] (fun v j wi => ∃ m : Nat, m ≤ 8 ∧ j = .int .i64 (7 - (m : Int)) ∧ wi.ownsRow w.heap.size 5 1 v (8 * k + m) (u8s (bes (xs.take k) ++ be y m)) ∧ Below w.heap.size w wi) (fun _ j _ => (intOf j + 1).toNat)
      case atStart => exact ⟨0, by omega, rfl, by simpa [be] using HO.out, hB⟩
      case round =>
        clear HO hB
        obtain ⟨m, hm, rfl, hown, hB⟩ := hrel
        have HO := Lib.hid hown; clear hown
        by_cases hlt2 : m < 8
        · have hq : 0 ≤ y / 2 ^ (56 - 8 * m) := Int.ediv_nonneg hy0 (by exact_mod_cast Nat.zero_le _)
          have hu := Lib.hid (u8s_of _ hq)
          have e8 : (8 * (7 - (m : Int))).toNat = 56 - 8 * m := by omega
          have e9 : 8 * (7 - m) = 56 - 8 * m := by omega
          have hcw := (hB.cell (p := ⟨b, off + k, none⟩) (rd_in H1.out ⟨b, off, none⟩ rfl (by omega))).trans hc
          clear hq
          go_wp2_with (at_builtin; refine wpList_add _ rfl _ _ 22 rfl w.heap.size 5 _ 1 1 Try.underlying22 info5 rfl (by decide) _ (8 * k + m) _ rfl HO.out _ _ rfl rfl (by simp [Value.oneCell']) (by simp [maxLen]; omega) (by omega) hB.size ?_; intro v' w1 hown hnil hch hbel)
          go_roundw
          case rel => exact ⟨m + 1, by omega, by go_num, by rw [be_succ, ← List.append_assoc, u8s_append, hu.out]; exact hown, hB.trans hbel⟩
          case measure => simp [intOf]; omega
        · obtain rfl : m = 8 := by omega
          go_wp2
          go_roundw
          case rel => exact ⟨k + 1, by omega, by go_num, by rw [hsn.out, bes_snoc, ← HY.out]; exact HO.out, hB⟩
          case measure => simp [intOf]; omega
    · obtain rfl : k = n := by omega
      obtain ⟨A', c', rfl, hr, hA'⟩ := own_form HO.out
      have HX := Lib.hid (List.take_of_length_le (l := xs) (i := k) (by rw [HL.out]; exact Nat.le_refl _))
      clear HO hA'
      go_wp2_with fail
      refine (sumr_any _ _ _ _ _ hr).mono ?_; rintro e w1 ⟨rfl, rfl⟩
      go_wp2
      go_ret
      exact ⟨ret_int (by rw [HX.out, mixf_bes]), hB⟩

end Go.Proofs.Ytnlninmjmjffcaa
