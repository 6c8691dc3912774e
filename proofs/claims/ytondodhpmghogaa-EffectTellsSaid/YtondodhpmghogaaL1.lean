/- Words for acts; walks: overwriting what was lent, something that is written, what the document's writer does. Conditions: what is written is short and lies apart. -/
import Derived.Test.YtondodhpmghogaaR8
namespace Go.Proofs.Ytondodhpmghogaa
open Go.RowKit
set_option linter.unusedVariables false
set_option linter.unusedSimpArgs false

set_option maxHeartbeats 1000000 in
theorem over_row {g n d c : Nat} {ys : List UInt8} {w : World} (h : Row w g 5 c 1 (u8s ys)) (hd : ys.length = d) (hn : n ≤ d) (hdc : d ≤ c) : Calls Try.prog 22 #[.slice (some ⟨g, 0, none⟩) n d] w fun e w' => e = .returned (.tuple #[]) ∧ Ch (fun k => k = g) w w' := by
  have hbig := h.big
  have H0 := Lib.hid h; have HD := Lib.hid hd; clear h hd
  go_enter Try.func22, Try.ntmps22
  go_wp2
  go_loopw [3] (fun i wr => ∃ k : Nat, k ≤ d ∧ i = .int .i64 k ∧ (∃ zs : List UInt8, zs.length = d ∧ Row wr g 5 c 1 (u8s zs)) ∧ Ch (fun k => k = g) w wr) (fun i _ => d - (intOf i).toNat)
  case atStart => exact ⟨0, Nat.zero_le _, rfl, ⟨_, HD.out, H0.out⟩, Ch.refl _ _⟩
  case round =>
    clear H0 HD
    obtain ⟨k, hk, rfl, ⟨zs, hz, hr⟩, hB⟩ := hrel
    by_cases hlt : k < d
    · have hc := hr.cell (u8s_get zs k (by omega))
      have hf := hr.thawed k
      have hS := hr.set k (.int .u8 ((UInt8.ofNat ((zs[k]?.getD 0).toNat + 101)).toNat : Int)) (by simp; omega)
      have e1 : (u8s zs).set k (.int .u8 ((UInt8.ofNat ((zs[k]?.getD 0).toNat + 101)).toNat : Int)) = u8s (zs.set k (UInt8.ofNat ((zs[k]?.getD 0).toNat + 101))) := by simp [u8s, List.map_set]
      rw [e1] at hS
      have HS := Lib.hid hS
      have hC := Lib.hid (hB.trans (Ch.setCell wr ⟨g, k, none⟩ (.int .u8 ((UInt8.ofNat ((zs[k]?.getD 0).toNat + 101)).toNat : Int))) (fun i hi => .inl hi))
      have hv : ((UInt8.ofNat ((zs[k]?.getD 0).toNat + 101)).toNat : Int) = (((zs[k]?.getD 0).toNat : Int) + 101) % 256 := by simp
      have HV := Lib.hid hv; clear hv e1 hS
      have Hb := Lib.hid hr; clear hr
      have HY := Lib.hid hz; clear hz
      go_wp2
      rw [← HV.out]
      go_roundw
      case rel => exact ⟨k + 1, by omega, by go_num, ⟨_, by rw [List.length_set]; exact HY.out, HS.out⟩, hC.out⟩
      case measure => simp [intOf]; omega
    · obtain rfl : k = d := by omega
      go_wp2
      exact bodyPost_end (results_none rfl _ _ _) rfl ⟨rfl, hB⟩

/-- an act's value -/
structure Ac where
  k : Int
  n : Int
  s : ByteArray
  M : Option Addr
  m : Nat
  d : Nat
  l : List UInt8
def Ac.cells (x : Ac) : List Value := [.int .i64 x.k, .int .i64 x.n, .string x.s, .slice x.M x.m x.d]
/-- what is written behind (b, e) -/
def actW (p : List UInt8 × Int) (x : Ac) : List UInt8 × Int := if x.k = 0 then wnum p.1 p.2 x.n else if x.k = 1 then wraw p.1 p.2 x.s.data.toList else wraw p.1 p.2 x.l
theorem actW_len (p : List UInt8 × Int) (x : Ac) (h : p.1.length ≤ 1048576) : (actW p x).1.length ≤ 1048576 := by
  unfold actW; split
  · exact wnum_len _ _ _ h
  · split
    · exact wraw_len _ _ _ h
    · exact wraw_len _ _ _ h
/-- an act that can be walked: small, its bytes read -/
structure AcOk (w : World) (x : Ac) : Prop where
  n : x.n ≤ 9223372036854775807
  s : x.s.size ≤ 100000000
  m : x.m ≤ 100000000
  rd : Rd w x.M x.m x.d 1 (u8s x.l)
def WriteQ (w : World) (B : Nat) (v : Value) (r : List UInt8 × Int) (e : Ending) (w' : World) : Prop :=
  e = .returned (.bool true) ∧ ∃ v', Wr w' B v' r.1 r.2 ∧ Ch (fun k => k = B ∨ v.ownBlock = some k) w w' ∧ (v'.ownBlock = v.ownBlock ∨ ∃ x, v'.ownBlock = some x ∧ w.heap.size ≤ x)
theorem box_below (w : World) (o : Obj) : Below w.heap.size w (w.alloc o) := (Below.refl w.heap.size w).alloc (Nat.le_refl _) o
set_option maxRecDepth 100000 in
set_option maxHeartbeats 2000000 in
theorem write_any {w : World} {B : Nat} {v : Value} {p : List UInt8 × Int} (h : Wr w B v p.1 p.2) (hb : p.1.length ≤ 1048576) (x : Ac) (hx : AcOk w x) (hM : ∀ a, x.M = some a → 0 < x.m → a.block ≠ B ∧ ∀ k, v.ownBlock = some k → a.block ≠ k) :
    Calls Try.prog 17 #[.pointer (some ⟨B, 0, none⟩), .agg x.cells.toArray] w (WriteQ w B v (actW p x)) := by
  obtain ⟨k, n, s, M, m, d, l⟩ := x
  obtain ⟨hn, hs, hm, hr⟩ := hx
  simp only at hn hs hm hr hM
  obtain ⟨r, hrr⟩ : ∃ r, r = actW p ⟨k, n, s, M, m, d, l⟩ := ⟨_, rfl⟩
  rw [← hrr]
  unfold actW at hrr
  simp only at hrr
  have hbx := box_below w (.cells #[.int .i64 k, .int .i64 n, .string s, .slice M m d] 34)
  have hblk := blk_new w 34 #[.int .i64 k, .int .i64 n, .string s, .slice M m d]
  have c0 := blk_cell hblk 0 _ rfl
  have c1 := blk_cell hblk 1 _ rfl
  have c2 := blk_cell hblk 2 _ rfl
  have c3 := blk_cell hblk 3 _ rfl
  have hB := wr_lt h
  have H0 := Lib.hid h
  have H := Lib.hid (wr_ch h (Ch.of_below hbx No) id (fun _ _ => id))
  have HR := Lib.hid (hr.below hbx)
  have HBX := Lib.hid hbx; have HBLK := Lib.hid hblk; have HM := Lib.hid hM
  clear h hr hbx hblk hM
  show Calls Try.prog 17 #[.pointer (some ⟨B, 0, none⟩), .agg #[.int .i64 k, .int .i64 n, .string s, .slice M m d]] w _
  by_cases h0 : k = 0
  · rw [if_pos h0] at hrr
    have HRR := Lib.hid hrr
    have g1 : (k == 0) = true := by simpa using h0
    clear hrr h0
    go_enter Try.func17, Try.ntmps17
    go_wp2_with fail
    refine (wnum_any H.out hb n hn).mono ?_
    rw [← HRR.out]
    rintro e w2 hput
    obtain ⟨he, hQ⟩ := putq_of HBX.out hput
    cases he
    go_wp2
    go_ret
    exact ⟨rfl, hQ⟩
  have g1 : (k == 0) = false := by simpa using h0
  rw [if_neg h0] at hrr
  clear h0
  by_cases h1 : k = 1
  · rw [if_pos h1] at hrr
    have HRR := Lib.hid hrr
    have g2 : (k == 1) = true := by simpa using h1
    clear hrr h1
    go_enter Try.func17, Try.ntmps17
    go_wp2_with fail
    refine (wtext_any H.out hb s hs).mono ?_
    rw [← HRR.out]
    rintro e w2 hput
    obtain ⟨he, hQ⟩ := putq_of HBX.out hput
    cases he
    go_wp2
    go_ret
    exact ⟨rfl, hQ⟩
  rw [if_neg h1] at hrr
  have HRR := Lib.hid hrr
  have g2 : (k == 1) = false := by simpa using h1
  clear hrr h1
  have hl : l.length = m := by have := HR.out.len; simpa using this
  have HL := Lib.hid hl
  clear hl
  go_enter Try.func17, Try.ntmps17
  go_wp2_with fail
  refine (lent_any _ _ _ l _ HR.out (by omega)).mono ?_
  rintro e w2 ⟨g, c', rfl, hg, hnc, hrow, hb2⟩
  have hszb : (w.alloc (.cells #[.int .i64 k, .int .i64 n, .string s, .slice M m d] 34)).heap.size = w.heap.size + 1 := by simp
  rw [hszb] at hg
  have HG := Lib.hid hg
  have hwr2 := wr_ch H.out (Ch.of_below hb2 No) id (fun _ _ => id)
  have hgB : g ≠ B := by omega
  have hgo : ∀ q, v.ownBlock = some q → g ≠ q := fun q hq => by have := wr_own H0.out hq; omega
  have hrl : Rd w2 (some ⟨g, 0, none⟩) m (m + 3) 1 (u8s l) := hrow.rd 0 m (m + 3) (u8s l) (by rw [List.drop_zero, u8s_take, Nat.mul_one, ← HL.out]; simp) (by rw [u8s_length, List.length_append, HL.out]; omega) (by omega) (by have := hrow.big; omega)
  have HROW := Lib.hid hrow; have HB2 := Lib.hid hb2
  have d3 : w2.cell? ⟨w.heap.size, 3, none⟩ = some (.slice M m d) := blk_cell (blk_below HBLK.out hb2) 3 _ rfl
  have hglt := hrow.lt
  have HGL := Lib.hid hglt
  clear hrow hb2 hg hglt
  go_wp2_with fail
  refine (wraw_any hwr2 hb hrl hm (fun a ha _ => by cases ha; exact ⟨hgB, hgo⟩)).mono ?_
  rw [← HRR.out]
  rintro e w3 ⟨he, v', hwr3, hch3, hown3⟩
  cases he
  have hrow3 := HROW.out.ch hch3 (by rintro (e | e); exact hgB e; exact hgo g e rfl)
  have hrd3 := (HR.out.below HB2.out).ch0 hch3 (fun a ha h0 => by rintro (e | e); exact (HM.out a ha h0).1 e; exact (HM.out a ha h0).2 _ e rfl)
  have hbox3 := blk_ch (blk_below HBLK.out HB2.out) hch3 (by rintro (e | e); omega; have := wr_own H0.out e; omega)
  have e3 : w3.cell? ⟨w.heap.size, 3, none⟩ = some (.slice M m d) := blk_cell hbox3 3 _ rfl
  have HW3 := Lib.hid hwr3; have HC3 := Lib.hid hch3; have HO3 := Lib.hid hown3; have HRW3 := Lib.hid hrow3; have HRD3 := Lib.hid hrd3
  clear hwr3 hch3 hown3 hrow3 hrd3 hbox3
  go_wp2_with fail
  refine (kept_any g c' M m d l _ HRW3.out HRD3.out (by omega)).mono ?_
  rintro e w4 ⟨rfl, hb4⟩
  have HB4 := Lib.hid hb4
  clear hb4
  go_wp2_with fail
  refine (over_row (HRW3.out.below HB4.out) (by rw [List.length_append, HL.out]; rfl) (by omega) hnc).mono ?_
  rintro e w5 ⟨rfl, hch5⟩
  have HC5 := Lib.hid hch5
  clear hch5
  go_wp2
  go_ret
  have hwr5 : Wr w5 B v' r.1 r.2 := wr_ch (wr_ch HW3.out (Ch.of_below HB4.out No) id (fun _ _ => id)) HC5.out (Ne.symm hgB) (fun q hq e => by
    have e : q = g := e
    rcases HO3.out with h | ⟨y, hy, hle⟩
    · rw [h] at hq; exact hgo q hq e.symm
    · rw [hy] at hq; cases hq; have := HGL.out; omega)
  have hsz2 := HB2.out.size
  have hsz3 := HC3.out.size
  refine ⟨rfl, v', hwr5, ?_, ?_⟩
  · exact (((Ch.of_below (HBX.out.trans (HB2.out.mono (by simp))) _).trans HC3.out (fun i hi => .inl hi)).trans (Ch.of_below HB4.out No) (fun _ h => False.elim h)).trans HC5.out (fun i (hi : i = g) => .inr (by have := HG.out; omega))
  · rcases HO3.out with h | ⟨y, hy, hle⟩
    · exact .inl h
    · exact .inr ⟨y, hy, by omega⟩

def SayQ (w : World) (V : Nat) (v : Value) (r : List UInt8 × Int) (e : Ending) (w' : World) : Prop := RPutQ w V v r e w'
set_option maxRecDepth 100000 in
set_option maxHeartbeats 2000000 in
theorem say_any {w : World} {V : Nat} {v : Value} {p : List UInt8 × Int} (h : RW w V v p.1 p.2) (hb : p.1.length ≤ 1048576) (x : Ac) (hx : AcOk w x) :
    Calls Try.prog 18 #[.pointer (some ⟨V, 0, none⟩), .agg x.cells.toArray] w (RPutQ w V v (actW p x)) := by
  obtain ⟨k, n, s, M, m, d, l⟩ := x
  obtain ⟨hn, hs, hm, hr⟩ := hx
  simp only at hn hs hm hr
  obtain ⟨r, hrr⟩ : ∃ r, r = actW p ⟨k, n, s, M, m, d, l⟩ := ⟨_, rfl⟩
  rw [← hrr]
  unfold actW at hrr
  simp only at hrr
  have hbx := box_below w (.cells #[.int .i64 k, .int .i64 n, .string s, .slice M m d] 34)
  have hblk := blk_new w 34 #[.int .i64 k, .int .i64 n, .string s, .slice M m d]
  have c0 := blk_cell hblk 0 _ rfl
  have c1 := blk_cell hblk 1 _ rfl
  have c2 := blk_cell hblk 2 _ rfl
  have c3 := blk_cell hblk 3 _ rfl
  have H := Lib.hid (rw_ch h (Ch.of_below hbx No) id (fun _ _ => id))
  have HR := Lib.hid (hr.below hbx)
  have HBX := Lib.hid hbx
  clear h hr hbx hblk
  show Calls Try.prog 18 #[.pointer (some ⟨V, 0, none⟩), .agg #[.int .i64 k, .int .i64 n, .string s, .slice M m d]] w _
  by_cases h0 : k = 0
  · rw [if_pos h0] at hrr
    have HRR := Lib.hid hrr
    have g1 : (k == 0) = true := by simpa using h0
    clear hrr h0
    go_enter Try.func18, Try.ntmps18
    go_wp2_with fail
    refine (rwnum_any H.out hb n hn).mono ?_
    rw [← HRR.out]
    rintro e w2 hput
    obtain ⟨he, hQ⟩ := rputq_of HBX.out hput
    cases he
    go_wp2
    exact bodyPost_end (results_none rfl _ _ _) rfl ⟨rfl, hQ⟩
  have g1 : (k == 0) = false := by simpa using h0
  rw [if_neg h0] at hrr
  clear h0
  by_cases h1 : k = 1
  · rw [if_pos h1] at hrr
    have HRR := Lib.hid hrr
    have g2 : (k == 1) = true := by simpa using h1
    clear hrr h1
    go_enter Try.func18, Try.ntmps18
    go_wp2_with fail
    refine (rwtext_any H.out hb s hs).mono ?_
    rw [← HRR.out]
    rintro e w2 hput
    obtain ⟨he, hQ⟩ := rputq_of HBX.out hput
    cases he
    go_wp2
    exact bodyPost_end (results_none rfl _ _ _) rfl ⟨rfl, hQ⟩
  rw [if_neg h1] at hrr
  have HRR := Lib.hid hrr
  have g2 : (k == 1) = false := by simpa using h1
  clear hrr h1
  go_enter Try.func18, Try.ntmps18
  go_wp2_with fail
  refine (rwraw_any H.out hb HR.out hm).mono ?_
  rw [← HRR.out]
  rintro e w2 hput
  obtain ⟨he, hQ⟩ := rputq_of HBX.out hput
  cases he
  go_wp2
  exact bodyPost_end (results_none rfl _ _ _) rfl ⟨rfl, hQ⟩
end Go.Proofs.Ytondodhpmghogaa
