/- Walk: print.Parse. No conditions beyond the length. -/
import Derived.Test.YtnlninmjmjffcaaT8
namespace Go.Proofs.Ytnlninmjmjffcaa
open Go.RowKit
set_option linter.unusedVariables false
set_option linter.unusedSimpArgs false

def pGo : List UInt8 → Nat → Nat → Int × Int × Int
  | [], _, acc => ((acc : Int), 0, 0)
  | c :: t, k, acc => if dgt c < 0 then (0, 2, (k : Int)) else pGo t (k + 1) (acc * 16 + (dgt c).toNat)
def parse (l : List UInt8) : Int × Int × Int := if l.length ≠ 16 then (0, 4, (min l.length 16 : Nat)) else pGo l 0 0
def pVal (p : Int × Int × Int) : Value := .tuple #[.int .u64 p.1, .agg #[.int .i64 p.2.1, .int .i64 p.2.2]]
def ParseQ (w : World) (l : List UInt8) (e : Ending) (w' : World) : Prop := e = .returned (pVal (parse l)) ∧ Below w.heap.size w w'
theorem dgt_lt (c : UInt8) : dgt c < 16 := by unfold dgt; split <;> (try split) <;> omega
theorem dgt_ge (c : UInt8) : dgt c = -1 ∨ 0 ≤ dgt c := by unfold dgt; split <;> (try split) <;> omega

set_option maxRecDepth 100000 in
set_option maxHeartbeats 400000 in
theorem parse_long (s : ByteArray) (w : World) (hs : s.size ≤ 1000000) (h : s.size ≠ 16) :
    Calls Try.prog 28 #[.string s] w (ParseQ w s.data.toList) := by
  have hne : ((s.size : Int) != 16) = true := by simpa using (by omega : (s.size : Int) ≠ 16)
  have HP := Lib.hid (show parse s.data.toList = (0, 4, ((min s.size 16 : Nat) : Int)) by unfold parse; rw [if_pos (by simpa using h)]; rfl)
  go_enter Try.func28, Try.ntmps28
  go_wp2
  all_goals
    refine bodyPost_ret (v := pVal (parse s.data.toList)) ?_ rfl ⟨rfl, (Below.refl _ _).alloc (Nat.le_refl _) _⟩
    rw [HP.out]
    simp [results, Try.f28, go_sem, pVal]
    try omega

theorem or16 (acc m : Nat) (h : acc ≤ 1152921504606846975) (hm : m < 16) : bits .or .u64 ((acc : Int) * 16) (m : Int) = ((acc * 16 + m : Nat) : Int) := by
  have : (acc : Int) * 16 = ((acc * 16 : Nat) : Int) := by omega
  rw [this, u64_or_nat _ _ (by omega) (by omega), nat_join4 _ _ (by omega) hm]
theorem pow16 (k acc : Nat) (hk : k < 16) (h : acc < 16 ^ k) : acc ≤ 1152921504606846975 := by
  have : 16 ^ k ≤ 16 ^ 15 := Nat.pow_le_pow_right (by omega) (by omega)
  have e : 16 ^ 15 = 1152921504606846976 := by decide
  omega
theorem indexHex_any (A : Option Addr) (c : Nat) (b : UInt8) (w : World) (h1 : Rd w A 16 c 1 (u8s hexDigits)) :
    Calls Try.prog 57 #[.slice A 16 c, .int .u8 (b.toNat : Int)] w fun e w' => e = .returned (.int .i64 (dgt b)) ∧ w = w' := by
  rw [← idx_dgt]; exact index_any A 16 c hexDigits b w h1
theorem two_cells {w wr : World} {a b : Value} {t : TypeId} (hB : Below (w.heap.size + 1) (w.alloc (.cells #[a, b] t)) wr) :
    wr.cell? ⟨w.heap.size, 0, none⟩ = some a ∧ wr.cell? ⟨w.heap.size, 1, none⟩ = some b ∧ wr.frozen? ⟨w.heap.size, 0, none⟩ = false ∧ wr.frozen? ⟨w.heap.size, 1, none⟩ = false ∧ w.heap.size + 1 ≤ wr.heap.size ∧ Below w.heap.size w wr := by
  have hf : ∀ j, wr.frozen? ⟨w.heap.size, j, none⟩ = false := fun j => by
    refine (hB.frozen (p := ⟨w.heap.size, j, none⟩) (by simp)).trans ?_
    unfold World.frozen?
    rw [heap_alloc_new]
    simp
  refine ⟨(hB.cell (p := ⟨w.heap.size, 0, none⟩) (by simp)).trans (by simp), (hB.cell (p := ⟨w.heap.size, 1, none⟩) (by simp)).trans (by simp), hf 0, hf 1, by have := hB.size; simpa using this, ((Below.refl _ w).alloc (Nat.le_refl _) _).trans (hB.mono (by omega))⟩
theorem str_at (s : ByteArray) (k : Nat) (h : k < s.size) : s.data.toList[k]?.getD 0 = s[k] := by
  have h' : k < s.data.size := h
  show s.data.toList[k]?.getD 0 = s.data[k]'h'
  simp only [Array.getElem?_toList, Array.getElem?_eq_getElem h', Option.getD_some]

set_option maxRecDepth 100000 in
set_option maxHeartbeats 400000 in
theorem parse_any (s : ByteArray) (w : World) (h : s.size = 16) :
    Calls Try.prog 28 #[.string s] w (ParseQ w s.data.toList) := by
  have hl : s.data.toList.length = 16 := by simpa using h
  have HP := Lib.hid (show parse s.data.toList = pGo s.data.toList 0 0 by unfold parse; rw [if_neg (by simpa using h)])
  have hne : ((s.size : Int) != 16) = false := by simp [h]
  have HS := Lib.hid h
  have hs : s.size ≤ 16 := by omega
  have hs2 : 16 ≤ s.size := by omega
  clear h
  have HL := Lib.hid hl; clear hl
  go_enter Try.func28, Try.ntmps28
  go_wp2
  go_loopw [4, 5, 6, 14] (fun a _ _ i wr => ∃ (k : Nat) (acc : Nat), k ≤ 16 ∧ i = .int .i64 k ∧ a = .int .u64 acc ∧ Hid (acc < 16 ^ k) ∧ Hid (pGo s.data.toList 0 0 = pGo (s.data.toList.drop k) k acc) ∧ Below (w.heap.size + 1) (w.alloc (.cells #[.int .i64 0, .int .i64 0] 37)) wr) (fun _ _ _ i _ => 16 - (intOf i).toNat)
  case atStart => exact ⟨0, 0, by omega, rfl, rfl, (by show 0 < 16 ^ 0; decide), rfl, Below.refl _ _⟩
  case round =>
    obtain ⟨k, acc, hk, rfl, rfl, hacc, hi, hB⟩ := hrel
    by_cases hlt : k < 16
    · have hcv := fun (w : World) (C : Array Value) (n c : Nat) => Lib.run_convert_bytes_const (P := Try.prog) w 22 5 C n c Try.underlying22 Try.underlying5
      have hd := Lib.hid (drop_cons s.data.toList k (by rw [HL.out]; exact hlt))
      have hrd := Lib.hid (rd_mark wr #[.int .u8 48, .int .u8 49, .int .u8 50, .int .u8 51, .int .u8 52, .int .u8 53, .int .u8 54, .int .u8 55, .int .u8 56, .int .u8 57, .int .u8 97, .int .u8 98, .int .u8 99, .int .u8 100, .int .u8 101, .int .u8 102] 5 (16, 17) 16 1 rfl (by omega))
      go_wp2_with fail
      refine (indexHex_any _ 16 _ _ hrd.out).mono ?_; rintro e w1 ⟨rfl, hw1⟩
      have hB1 : Below (w.heap.size + 1) (w.alloc (.cells #[.int .i64 0, .int .i64 0] 37)) w1 := by rw [← hw1]; exact hB.alloc (two_cells hB).2.2.2.2.1 _
      clear hw1 hB
      obtain ⟨c0, c1, f0, f1, hsz, hBw⟩ := two_cells hB1
      rw [str_at s k (by rw [HS.out]; exact hlt)] at hd
      obtain ⟨d, hdv⟩ : ∃ d, dgt (s[k]'(by rw [HS.out]; exact hlt)) = d := ⟨_, rfl⟩
      have hd1 := dgt_lt (s[k]'(by rw [HS.out]; exact hlt))
      have hd2 := dgt_ge (s[k]'(by rw [HS.out]; exact hlt))
      rw [hdv] at hd1 hd2 ⊢
      have HD := Lib.hid hdv; clear hdv hcv
      by_cases hneg : d < 0
      · clear hd2
        go_wp2
        refine bodyPost_ret (v := pVal (parse s.data.toList)) ?_ rfl ⟨rfl, ?_⟩
        · rw [HP.out, hi.out, hd.out, pGo, HD.out, if_pos hneg]
          simp [results, Try.f28, go_sem, pVal, c0, c1]
        · exact (hBw.setCell (Nat.le_refl _) _).setCell (Nat.le_refl _) _
      · obtain ⟨m, rfl⟩ : ∃ m : Nat, d = (m : Int) := ⟨d.toNat, by omega⟩
        have ha := pow16 k acc hlt hacc.out
        have ho := or16 acc m ha (by omega)
        clear hd2
        go_wp2
        go_roundw
        case rel =>
          refine ⟨k + 1, acc * 16 + m, by omega, by go_num, rfl, ?_, ?_, hB1⟩
          · show _ < _
            have := hacc.out
            rw [Nat.pow_succ]; omega
          · show _ = _
            rw [hi.out, hd.out, pGo, HD.out, if_neg (by omega), Int.toNat_natCast]
        case measure => simp [intOf]; omega
    · obtain rfl : k = 16 := by omega
      obtain ⟨c0, c1, f0, f1, hsz, hBw⟩ := two_cells hB
      go_wp2
      refine bodyPost_ret (v := pVal (parse s.data.toList)) ?_ rfl ⟨rfl, ?_⟩
      · rw [HP.out, hi.out, List.drop_of_length_le (by rw [HL.out]; exact Nat.le_refl _), pGo]
        simp [results, Try.f28, go_sem, pVal, c0, c1]
      · exact (hBw.setCell (Nat.le_refl _) _).setCell (Nat.le_refl _) _

end Go.Proofs.Ytnlninmjmjffcaa
