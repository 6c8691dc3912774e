/- Walks: print.Mix and print.Text. No conditions. -/
import Derived.Test.YtnlninmjmjffcaaT5
namespace Go.Proofs.Ytnlninmjmjffcaa
open Go.RowKit
set_option linter.unusedVariables false
set_option linter.unusedSimpArgs false

set_option maxHeartbeats 400000 in
theorem mix_any (A : Option Addr) (n c : Nat) (xs : List UInt64) (w : World) (hr : Rd w A n c 1 (q8s xs)) :
    Calls Try.prog 23 #[.slice A n c] w fun e w' => e = .returned (.int .u64 (mixf start xs)) ∧ Below w.heap.size w w' := by
  have hb := (Below.refl w.heap.size w).alloc (Nat.le_refl _) (.cells #[.slice A n c] 24)
  have hr' := hr.below hb
  have hcell : (w.alloc (.cells #[.slice A n c] 24)).cell? ⟨w.heap.size, 0, none⟩ = some (.slice A n c) := (Boxed.new w 24 _).cell
  go_enter Try.func23, Try.ntmps23
  go_wp2_with fail
  refine (qvalues_any A n c _).mono ?_; rintro e w1 ⟨rfl, rfl⟩
  go_wp2_with fail
  refine (start_any _).mono ?_; rintro e w1 ⟨rfl, rfl⟩
  go_wp2_with fail
  refine (qfold_any start w.heap.size A n c xs _ hcell (by simp) hr').mono ?_; rintro e w1 ⟨rfl, hb2⟩
  go_wp2
  go_ret
  exact ⟨rfl, hb.trans (hb2.mono (by simp))⟩

def hexD (d : Nat) : UInt8 := if d < 10 then UInt8.ofNat (48 + d) else UInt8.ofNat (87 + d)
def hexDig (n : Nat) (i : Nat) : UInt8 := hexD (n / 2 ^ (60 - 4 * i) % 16)
def hexText (n : Nat) (k : Nat) : List UInt8 := (List.range k).map (hexDig n)
theorem hexText_succ (n k : Nat) : hexText n (k + 1) = hexText n k ++ [hexDig n k] := by simp [hexText, List.range_succ]
theorem hexText_len (n k : Nat) : (hexText n k).length = k := by simp [hexText]
theorem low4 (n : Nat) (h : n < 18446744073709551616) (k : Nat) : bits .and .u64 ((n : Int) / 2 ^ k) 15 = ((n / 2 ^ k % 16 : Nat) : Int) := by
  have h1 : ((n : Int) / 2 ^ k) = ((n / 2 ^ k : Nat) : Int) := by simp
  have h2 : n / 2 ^ k ≤ n := Nat.div_le_self _ _
  rw [h1]
  generalize n / 2 ^ k = m at h2
  rw [u64_and _ 15 (by omega) (by omega) (by omega) (by omega)]
  have : (15 : Int).toNat = 15 := rfl
  rw [this, nat_mask4, Int.toNat_natCast]
def digitsArr : Array UInt8 := #[48, 49, 50, 51, 52, 53, 54, 55, 56, 57, 97, 98, 99, 100, 101, 102]
theorem digits_at : ∀ d, (h : d < 16) → (⟨#[48, 49, 50, 51, 52, 53, 54, 55, 56, 57, 97, 98, 99, 100, 101, 102]⟩ : ByteArray)[d]'h = hexD d := by decide
theorem row_put {w : World} {g : Nat} {e : TypeId} {c : Nat} {l : List UInt8} {k : Nat} {t : List UInt8} {x y : UInt8} (h : Row w g e c 1 (u8s (l ++ y :: t))) (hl : l.length = k) : Row (w.setCell ⟨g, k, none⟩ (.int .u8 (x.toNat : Int))) g e c 1 (u8s ((l ++ [x]) ++ t)) := by
  have := h.set k (.int .u8 (x.toNat : Int)) (by simp; omega)
  have e2 : (u8s (l ++ y :: t)).set k (.int .u8 (x.toNat : Int)) = u8s ((l ++ [x]) ++ t) := by
    subst hl
    simp [u8s, List.set_append]
  rwa [e2] at this

def TextQ (w : World) (n : Nat) (e : Ending) (w' : World) : Prop := e = .returned (.string ⟨(hexText n 16).toArray⟩) ∧ Below w.heap.size w w'
set_option maxRecDepth 100000 in
set_option maxHeartbeats 400000 in
theorem text_any (n : Nat) (hn : n < 18446744073709551616) (w : World) : Calls Try.prog 30 #[.int .u64 n] w (TextQ w n) := by
  have hmk : ∀ W : World, (Instr.makeSlice 22 (.int .i64 16) (.int .i64 16)).run Try.prog W = .ok (.slice (some ⟨W.heap.size, 0, none⟩) 16 16) (W.alloc (.cells (madeB 16) 5)) := fun W => run_madeB (P := Try.prog) 22 5 Try.underlying22 info5 16 (by omega) W
  go_enter Try.func30, Try.ntmps30
  go_wp2
  go_loopw [4, 8] (fun _ i wr => ∃ k : Nat, k ≤ 16 ∧ i = .int .i64 k ∧ Row wr w.heap.size 5 16 1 (u8s (hexText n k ++ List.replicate (16 - k) 0)) ∧ Below w.heap.size w wr) (fun _ i _ => 16 - (intOf i).toNat)
  case atStart => exact ⟨0, by omega, rfl, row_madeB _ _ _ (by omega), (Below.refl _ _).alloc (Nat.le_refl _) _⟩
  case round =>
    clear hmk
    obtain ⟨k, hk, rfl, hrow, hB⟩ := hrel
    have hl := hexText_len n k
    by_cases hlt : k < 16
    · have e1 : List.replicate (16 - k) (0 : UInt8) = 0 :: List.replicate (16 - (k + 1)) 0 := by
        rw [show 16 - k = (16 - (k + 1)) + 1 from by omega, List.replicate_succ]
      rw [e1] at hrow
      have hc := hrow.cell (j := k) (u := .int .u8 0) (by rw [u8s_get _ _ (by simp; omega)]; simp [hl])
      have hf := hrow.thawed k
      have hp := Lib.hid (row_put (x := hexDig n k) hrow hl)
      have hd := low4 n hn (60 - 4 * k)
      obtain ⟨d, hdd⟩ : ∃ d, d = n / 2 ^ (60 - 4 * k) % 16 := ⟨_, rfl⟩
      have hd16 : d < 16 := by rw [hdd]; omega
      have hx : hexDig n k = hexD d := by rw [hdd]; rfl
      have hdig := digits_at d hd16
      rw [← hdd] at hd
      rw [hx] at hp
      have HX := Lib.hid hx
      have HG := Lib.hid hdig
      clear hdd hx hrow e1 hl hdig
      go_wp2
      go_roundw
      case rel => exact ⟨k + 1, by omega, by go_num, by rw [hexText_succ, HX.out]; first | exact hp.out | (rw [HG.out]; exact hp.out), hB.setCell (Nat.le_refl _) _⟩
      case measure => simp [intOf]; omega
    · obtain rfl : k = 16 := by omega
      have hr := hrow.rd 0 16 16 (u8s (hexText n 16)) (by rw [List.drop_zero, u8s_take]; rw [List.take_of_length_le (by simp [hl])]; simp) (by simp [hl]) (by omega) (by omega)
      have e1 := hr.str (P := Try.prog) 22 5 9 Try.underlying22 Try.underlying5 Try.underlying9
      clear hr hrow hl
      go_wp2
      go_ret
      exact ⟨rfl, hB⟩

end Go.Proofs.Ytnlninmjmjffcaa
