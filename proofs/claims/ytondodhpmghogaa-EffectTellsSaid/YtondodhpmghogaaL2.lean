/- Walks: what a writer tells behind one act; the chapter's examples. Conditions: the act is small. -/
import Derived.Test.YtondodhpmghogaaL1
namespace Go.Proofs.Ytondodhpmghogaa
open Go.RowKit
set_option linter.unusedVariables false
set_option linter.unusedSimpArgs false

/-- four cells from o on in block b are an act's -/
def AcIn (w : World) (b o : Nat) (x : Ac) : Prop :=
  w.cell? ⟨b, o, none⟩ = some (.int .i64 x.k) ∧ w.cell? ⟨b, o + 1, none⟩ = some (.int .i64 x.n) ∧ w.cell? ⟨b, o + 2, none⟩ = some (.string x.s) ∧ w.cell? ⟨b, o + 3, none⟩ = some (.slice x.M x.m x.d)
theorem acIn_below {w w' : World} {b o : Nat} {x : Ac} (h : AcIn w b o x) (hb : Below w.heap.size w w') : AcIn w' b o x := ⟨below_cell hb h.1, below_cell hb h.2.1, below_cell hb h.2.2.1, below_cell hb h.2.2.2⟩
theorem acOk_below {w w' : World} {x : Ac} (h : AcOk w x) (hb : Below w.heap.size w w') : AcOk w' x := ⟨h.n, h.s, h.m, h.rd.below hb⟩
def ToldQ (w : World) (r : List UInt8 × Int) (E : Ending) (w' : World) : Prop := ∃ A n c, E = .returned (.tuple #[.slice A n c, .int .i64 r.2]) ∧ Held w' w.heap.size A n c (if r.2 = 0 then r.1 else []) ∧ Below w.heap.size w w'
set_option maxRecDepth 100000 in
set_option maxHeartbeats 2000000 in
theorem told_any {w : World} {p : Nat} {x : Ac} (hin : AcIn w p 0 x) (hx : AcOk w x) : Calls Try.prog 23 #[.slice (some ⟨p, 0, none⟩) 1 1] w (ToldQ w (actW ([], 0) x)) := by
  have hM : ∀ a, x.M = some a → 0 < x.m → a.block < w.heap.size := fun a ha h0 => rd_in hx.rd a ha h0
  have HIN := Lib.hid hin; have HX := Lib.hid hx; have HM := Lib.hid hM
  obtain ⟨r, hr⟩ : ∃ r, r = actW ([], 0) x := ⟨_, rfl⟩
  rw [← hr]
  have HR := Lib.hid hr
  clear hin hx hr hM
  go_enter Try.func23, Try.ntmps23
  go_wp2_with fail
  refine (new_any w).mono ?_
  rintro e w1 ⟨B, rfl, hB, hwr, hb1⟩
  have HW1 := Lib.hid hwr; have HB1 := Lib.hid hb1
  clear hwr hb1
  go_wp2_with fail
  go_loopw [5] (fun i wr => (i = .int .i64 0 ∧ wr = w1) ∨ (i = .int .i64 1 ∧ (∃ v', Wr wr B v' r.1 r.2) ∧ Below w.heap.size w wr)) (fun i _ => 1 - (intOf i).toNat)
  case atStart => exact .inl ⟨rfl, rfl⟩
  case round =>
    rcases hrel with ⟨rfl, rfl⟩ | ⟨rfl, ⟨v', hwr⟩, hbb⟩
    · have hin1 := acIn_below HIN.out HB1.out
      obtain ⟨k, n, s, M, m, d, l⟩ := x
      obtain ⟨c0, c1, c2, c3⟩ := hin1
      simp only [Nat.zero_add] at c0 c1 c2 c3
      go_wp2_with fail
      refine (write_any (p := ([], 0)) HW1.out (by decide) ⟨k, n, s, M, m, d, l⟩ (acOk_below HX.out HB1.out) (fun a ha h0 => ⟨by have := HM.out a ha h0; omega, fun q hq => by cases hq⟩)).mono ?_
      rw [← HR.out]
      rintro e w2 ⟨rfl, v', hwr, hch, _⟩
      have hb2 : Below w.heap.size w w2 := ((Ch.of_below HB1.out (fun k => k = B)).trans hch (fun i hi => by rcases hi with hi | hi; exact .inl hi; cases hi)).below (Nat.le_refl _) (fun k hk => by omega)
      go_wp2
      go_roundw
      case rel => exact .inr ⟨by go_num, ⟨v', hwr⟩, hb2⟩
      case measure => simp [intOf]
    · have hlen : r.1.length ≤ 1048576 := by rw [HR.out]; exact actW_len _ _ (by decide)
      have HBB := Lib.hid hbb
      clear hbb
      go_wp2_with fail
      refine (wout_any hwr hlen).mono ?_
      rintro e w3 ⟨A, n, c, rfl, hh, hb3⟩
      go_wp2
      go_ret2
      exact ⟨A, n, c, rfl, held_in hh HBB.out.size, HBB.out.trans (hb3.mono HBB.out.size)⟩

/-- are just these bytes told behind an act? -/
def saysR (x : Ac) (l : List UInt8) : Bool := (actW ([], 0) x).2 == 0 && eqB (actW ([], 0) x).1 l
set_option maxRecDepth 100000 in
set_option maxHeartbeats 2000000 in
theorem says_any {w : World} (x : Ac) (hx : AcOk w x) {A : Option Addr} {n c : Nat} {l : List UInt8} (hl : Rd w A n c 1 (u8s l)) : Calls Try.prog 24 #[.agg x.cells.toArray, .slice A n c] w fun e w' => e = .returned (.bool (saysR x l)) ∧ Below w.heap.size w w' := by
  obtain ⟨r, hr⟩ : ∃ r, r = actW ([], 0) x := ⟨_, rfl⟩
  unfold saysR
  rw [← hr]
  obtain ⟨k, nn, s, M, m, d, kk⟩ := x
  have hbx := box_below w (.cells #[.int .i64 k, .int .i64 nn, .string s, .slice M m d] 34)
  have hblk := blk_new w 34 #[.int .i64 k, .int .i64 nn, .string s, .slice M m d]
  have hbx2 := hbx.alloc (by simp) (.cells #[.int .i64 k, .int .i64 nn, .string s, .slice M m d] 34)
  have hblk2 := blk_new (w.alloc (.cells #[.int .i64 k, .int .i64 nn, .string s, .slice M m d] 34)) 34 #[.int .i64 k, .int .i64 nn, .string s, .slice M m d]
  have b0 := blk_cell hblk 0 _ rfl
  have b1 := blk_cell hblk 1 _ rfl
  have b2 := blk_cell hblk 2 _ rfl
  have b3 := blk_cell hblk 3 _ rfl
  have hin : AcIn _ _ 0 ⟨k, nn, s, M, m, d, kk⟩ := ⟨blk_cell hblk2 0 _ rfl, blk_cell hblk2 1 _ rfl, blk_cell hblk2 2 _ rfl, blk_cell hblk2 3 _ rfl⟩
  rw [World.size_alloc] at hin
  have HIN := Lib.hid hin
  clear hin
  have HX := Lib.hid (acOk_below hx hbx2)
  have HL := Lib.hid hl; have HR := Lib.hid hr; have HB := Lib.hid hbx2
  clear hx hbx hblk hbx2 hblk2 hl hr
  show Calls Try.prog 24 #[.agg #[.int .i64 k, .int .i64 nn, .string s, .slice M m d], .slice A n c] w _
  go_enter Try.func24, Try.ntmps24
  go_wp2_with fail
  refine (told_any HIN.out HX.out).mono ?_
  rw [← HR.out]
  rintro e w2 ⟨A2, n2, c2, rfl, hh, hb2⟩
  have hb := HB.out.trans (hb2.mono (by simp; omega))
  have HL2 := Lib.hid (HL.out.below hb)
  have HH := Lib.hid (held_rd hh); have HBB := Lib.hid hb
  clear hh hb2 hb
  by_cases he : r.2 = 0
  · have g1 : (r.2 == 0) = true := by simpa using he
    rw [if_pos he] at HH
    clear he
    go_wp2_with fail
    refine (same_any _ _ _ _ _ _ _ _ _ HH.out HL2.out).mono ?_
    rintro e w3 ⟨rfl, rfl⟩
    go_wp2
    go_ret
    exact ⟨by simp [g1], HBB.out⟩
  · have g1 : (r.2 == 0) = false := by simpa using he
    clear he
    go_wp2_with fail
    go_ret
    exact ⟨by simp [g1], HBB.out⟩
end Go.Proofs.Ytondodhpmghogaa
