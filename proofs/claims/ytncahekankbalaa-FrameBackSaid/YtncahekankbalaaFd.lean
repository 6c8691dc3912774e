/- Walks: the reader of a message's body. -/
import Derived.Test.YtncahekankbalaaFb
namespace Go.Proofs.Ytncahekankbalaa
open Go.RowKit
set_option linter.unusedVariables false
set_option linter.unusedSimpArgs false
def F64Q (w : World) (R X : Nat) (A : Option Addr) (n c : Nat) (k i s a : Int) (l : List UInt8) (r : Rdr) (e : Ending) (w' : World) : Prop := ∃ A7 n7 c7, e = .returned (.tuple #[]) ∧ Held w' w.heap.size A7 n7 c7 l ∧ RdB w' R A n c r ∧ Blk w' X 43 #[.int .i64 k, .int .i64 i, .int .i64 s, .int .i64 a, .slice A7 n7 c7] ∧ Ch (fun j => j = R ∨ j = X) w w'
set_option maxRecDepth 100000 in
set_option maxHeartbeats 2000000 in
theorem f64_any {w : World} {R X : Nat} {A : Option Addr} {n c : Nat} {s : Rdr} {k i : Int} (h : RdB w R A n c s) (hn : n ≤ 1000000000) (hx : Blk w X 43 #[.int .i64 k, .int .i64 i, .int .i64 0, .int .i64 0, .slice none 0 0]) (hRX : X ≠ R) (hAX : ∀ a, A = some a → 0 < n → a.block ≠ X) (r1 r2 : Int × Rdr) (r3 : List UInt8 × Rdr) (hr1 : r1 = rnum s 1 60000) (hr2 : r2 = rnum r1.2 0 60000) (hr3 : r3 = rraw r2.2 200) :
    Calls Try.prog 64 #[.pointer (some ⟨R, 0, none⟩), .pointer (some ⟨X, 0, none⟩)] w (F64Q w R X A n c k i r1.1 r2.1 r3.1 r3.2) := by
  have H := Lib.hid h; have HX := Lib.hid hx; have HA := Lib.hid hAX; have H1 := Lib.hid hr1; have H2 := Lib.hid hr2; have H3 := Lib.hid hr3
  have hXw : X < w.heap.size := blk_lt hx
  clear h hx hAX hr1 hr2 hr3
  go_enter Try.func64, Try.ntmps64
  go_wp2_with fail
  refine (num_any H.out 1 60000).mono ?_
  rw [← H1.out]
  rintro e w1 ⟨rfl, hrb, hch⟩
  have hx1 := blk_ch HX.out hch hRX
  have f2 := blk_thawed hx1 2
  have x2 := blk_cell hx1 2 _ rfl
  obtain ⟨w2, hw2⟩ : ∃ z, z = w1.setCell ⟨X, 2, none⟩ (.int .i64 r1.1) := ⟨_, rfl⟩
  have hcs := Ch.setCell w1 ⟨X, 2, none⟩ (.int .i64 r1.1)
  rw [← hw2] at hcs
  have HX2 := Lib.hid (show Blk w2 X 43 #[.int .i64 k, .int .i64 i, .int .i64 r1.1, .int .i64 0, .slice none 0 0] by rw [hw2]; exact blk_set hx1 2 _)
  have HRB2 := Lib.hid (rdb_ch0 hrb hcs (fun e => hRX (show R = X from e).symm) (fun a ha h0 e => HA.out a ha h0 e))
  have HC2 := Lib.hid (show Ch (fun j => j = R ∨ j = X) w w2 from ((Ch.refl _ w).trans hch (fun i hi => .inl (.inl hi))).trans hcs (fun i hi => .inl (.inr hi)))
  clear hx1 hrb hch hcs
  go_wp2_with fail
  rw [← hw2]
  clear hw2 f2 x2
  refine (num_any HRB2.out 0 60000).mono ?_
  rw [← H2.out]
  rintro e w3 ⟨rfl, hrb, hch⟩
  have hx1 := blk_ch HX2.out hch hRX
  have f2 := blk_thawed hx1 3
  have x2 := blk_cell hx1 3 _ rfl
  obtain ⟨w4, hw4⟩ : ∃ z, z = w3.setCell ⟨X, 3, none⟩ (.int .i64 r2.1) := ⟨_, rfl⟩
  have hcs := Ch.setCell w3 ⟨X, 3, none⟩ (.int .i64 r2.1)
  rw [← hw4] at hcs
  have HX4 := Lib.hid (show Blk w4 X 43 #[.int .i64 k, .int .i64 i, .int .i64 r1.1, .int .i64 r2.1, .slice none 0 0] by rw [hw4]; exact blk_set hx1 3 _)
  have HRB4 := Lib.hid (rdb_ch0 hrb hcs (fun e => hRX (show R = X from e).symm) (fun a ha h0 e => HA.out a ha h0 e))
  have HC4 := Lib.hid (show Ch (fun j => j = R ∨ j = X) w w4 from (HC2.out.trans hch (fun i hi => .inl (.inl hi))).trans hcs (fun i hi => .inl (.inr hi)))
  clear hx1 hrb hch hcs HX2 HRB2 HC2
  go_wp2_with fail
  rw [← hw4]
  clear hw4 f2 x2
  refine (raw_any HRB4.out hn 200).mono ?_
  rw [← H3.out]
  rintro e w5 ⟨A7, n7, c7, rfl, hh, hrb, hch⟩
  have hx1 := blk_ch HX4.out hch hRX
  have f2 := blk_thawed hx1 4
  have x2 := blk_cell hx1 4 _ rfl
  have hcs := Ch.setCell w5 ⟨X, 4, none⟩ (.slice A7 n7 c7)
  have hz4 := HC4.out.size
  have HX6 := Lib.hid (show Blk (w5.setCell ⟨X, 4, none⟩ (.slice A7 n7 c7)) X 43 #[.int .i64 k, .int .i64 i, .int .i64 r1.1, .int .i64 r2.1, .slice A7 n7 c7] from blk_set hx1 4 _)
  have HRB6 := Lib.hid (rdb_ch0 hrb hcs (fun e => hRX (show R = X from e).symm) (fun a ha h0 e => HA.out a ha h0 e))
  have HH6 := Lib.hid (held_ch (held_in hh hz4) hcs (fun a ha e => by have h9 := (held_lt hh a ha).1; have e : a.block = X := e; omega))
  have HC6 := Lib.hid (show Ch (fun j => j = R ∨ j = X) w (w5.setCell ⟨X, 4, none⟩ (.slice A7 n7 c7)) from (HC4.out.trans hch (fun i hi => .inl (.inl hi))).trans hcs (fun i hi => .inl (.inr hi)))
  clear hx1 hrb hch hcs hh HX4 HRB4 HC4
  go_wp2
  exact bodyPost_end (results_none rfl _ _ _) rfl ⟨A7, n7, c7, rfl, HH6.out, HRB6.out, HX6.out, HC6.out⟩
end Go.Proofs.Ytncahekankbalaa
