/- Walks: the effect of bytes: the program's Read. Conditions: the bytes are read, and short. -/
import Derived.Test.YtondodhpmghogaaE5
import Derived.Test.YtondodhpmghogaaL6
import Derived.RegionTactic
import Derived.BigRegion
namespace Go.Proofs.Ytondodhpmghogaa
open Go.RowKit
set_option linter.unusedVariables false
set_option linter.unusedSimpArgs false

theorem results_two {P : Program} {fn : Func} {p q : Tmp} {ty tz : TypeId} (h : fn.results = #[.cell p ty, .cell q tz]) (tmps : Array Value) (w : World) (g k : Nat) (t u : TypeId) (cs ds : Array Value) (fr fs : Nat × Nat) (d e : TypeDesc)
    (hp : tmps.getD p undef = .pointer (some ⟨g, 0, none⟩)) (hg : w.heap[g]? = some (.cells cs t fr))
    (hu : P.underlying ty = some d) (hd : (match d with | .struct _ | .array _ _ => true | _ => false) = true) (hi : (P.info? ty).map (·.size) = some cs.size)
    (hq : tmps.getD q undef = .pointer (some ⟨k, 0, none⟩)) (hk : w.heap[k]? = some (.cells ds u fs))
    (hv : P.underlying tz = some e) (he : (match e with | .struct _ | .array _ _ => true | _ => false) = true) (hj : (P.info? tz).map (·.size) = some ds.size) :
    (results fn tmps).run P w = .ok (.tuple #[.agg cs, .agg ds]) w := by
  have hp' : tmps[p]?.getD undef = .pointer (some ⟨g, 0, none⟩) := by simpa using hp
  have hq' : tmps[q]?.getD undef = .pointer (some ⟨k, 0, none⟩) := by simpa using hq
  simp [results, h, hp', hq', asAddr, run_loadVar_row w g t ty cs fr d hg hu hd hi, run_loadVar_row w k u tz ds fs e hk hv he hj]

/-- what is read: kind, mode, bytes, the fault -/
structure Eff where
  k : Int
  m : Int
  l : List UInt8
  e : Int
  p : Int
def effK (l : List UInt8) : Int × Rdr := rnum ⟨l, 0, 0, 0⟩ 1 3
def effM (l : List UInt8) : Int × Rdr := rnum (effK l).2 0 511
def effL (l : List UInt8) : List UInt8 × Rdr := rraw (effM l).2 1000
def effE (l : List UInt8) : Int × Int := rend (effL l).2
def effR (l : List UInt8) : Eff := if (effE l).1 = 0 then (if chk (effK l).1 (effM l).1 (effL l).1.length = 0 then ⟨(effK l).1, (effM l).1, (effL l).1, 0, (effE l).2⟩ else ⟨0, 0, [], 2, (effE l).2⟩) else ⟨0, 0, [], (effE l).1, (effE l).2⟩
def EffQ (w : World) (r : Eff) (e : Ending) (w' : World) : Prop := ∃ A n c, e = .returned (.tuple #[.agg #[.int .i64 r.k, .int .i64 r.m, .slice A n c], .agg #[.int .i64 r.e, .int .i64 r.p]]) ∧ Held w' w.heap.size A n c r.l ∧ Below w.heap.size w w'
theorem chk_two (k m : Int) (n : Nat) (h : chk k m n ≠ 0) : chk k m n = 2 := by
  unfold chk at h ⊢
  split at h
  · exact absurd rfl h
  · rename_i h1; rw [if_neg h1]
/-- two results are laid down -/
theorem put_two {W : World} {Z : Nat} {a b c d e : Value} (hZ : Blk W Z 72 #[a, b, c]) (hY : Blk W (Z + 1) 54 #[d, e]) (a' b' c' d' e' : Value) :
    Blk (((((W.setCell ⟨Z, 0, none⟩ a').setCell ⟨Z, 1, none⟩ b').setCell ⟨Z, 2, none⟩ c').setCell ⟨Z + 1, 0, none⟩ d').setCell ⟨Z + 1, 1, none⟩ e') Z 72 #[a', b', c'] ∧
    Blk (((((W.setCell ⟨Z, 0, none⟩ a').setCell ⟨Z, 1, none⟩ b').setCell ⟨Z, 2, none⟩ c').setCell ⟨Z + 1, 0, none⟩ d').setCell ⟨Z + 1, 1, none⟩ e') (Z + 1) 54 #[d', e'] ∧
    Ch (fun j => j = Z ∨ j = Z + 1) W (((((W.setCell ⟨Z, 0, none⟩ a').setCell ⟨Z, 1, none⟩ b').setCell ⟨Z, 2, none⟩ c').setCell ⟨Z + 1, 0, none⟩ d').setCell ⟨Z + 1, 1, none⟩ e') := by
  have n1 : ∀ (o : Nat), ¬ (Z = (⟨Z + 1, o, none⟩ : Addr).block) := fun o e => by have e : Z = Z + 1 := e; omega
  have n2 : ∀ (o : Nat), ¬ (Z + 1 = (⟨Z, o, none⟩ : Addr).block) := fun o e => by have e : Z + 1 = Z := e; omega
  refine ⟨blk_ch (blk_ch (blk_set (blk_set (blk_set hZ 0 a') 1 b') 2 c') (Ch.setCell _ ⟨Z + 1, 0, none⟩ d') (n1 0)) (Ch.setCell _ ⟨Z + 1, 1, none⟩ e') (n1 1),
    blk_set (blk_set (blk_ch (blk_ch (blk_ch hY (Ch.setCell _ ⟨Z, 0, none⟩ a') (n2 0)) (Ch.setCell _ ⟨Z, 1, none⟩ b') (n2 1)) (Ch.setCell _ ⟨Z, 2, none⟩ c') (n2 2)) 0 d') 1 e',
    ch_set (ch_set (ch_set (ch_set (ch_set (Ch.refl _ W) ⟨Z, 0, none⟩ _ (.inl rfl)) ⟨Z, 1, none⟩ _ (.inl rfl)) ⟨Z, 2, none⟩ _ (.inl rfl)) ⟨Z + 1, 0, none⟩ _ (.inr rfl)) ⟨Z + 1, 1, none⟩ _ (.inr rfl)⟩
set_option maxRecDepth 100000 in
set_option maxHeartbeats 4000000 in
theorem eread_any {A0 : Option Addr} {n0 c0 : Nat} {l : List UInt8} {w : World} (hr : Rd w A0 n0 c0 1 (u8s l)) (hn : n0 ≤ 100000000) : Calls Try.prog 54 #[.slice A0 n0 c0] w (EffQ w (effR l)) := by
  have hl : l.length = n0 := by have := hr.len; simpa using this
  obtain ⟨Z, hZ⟩ : ∃ z, z = w.heap.size := ⟨_, rfl⟩
  have hb0 : Below w.heap.size w ((w.alloc (.cells #[.int .i64 0, .int .i64 0, .slice none 0 0] 72)).alloc (.cells #[.int .i64 0, .int .i64 0] 54)) := (box_below w _).alloc (by simp) _
  have hZ0 : Blk ((w.alloc (.cells #[.int .i64 0, .int .i64 0, .slice none 0 0] 72)).alloc (.cells #[.int .i64 0, .int .i64 0] 54)) Z 72 #[.int .i64 0, .int .i64 0, .slice none 0 0] := by rw [hZ]; exact blk_below (blk_new _ _ _) (box_below _ _)
  have hY0 : Blk ((w.alloc (.cells #[.int .i64 0, .int .i64 0, .slice none 0 0] 72)).alloc (.cells #[.int .i64 0, .int .i64 0] 54)) (Z + 1) 54 #[.int .i64 0, .int .i64 0] := by
    have := blk_new (w.alloc (.cells #[.int .i64 0, .int .i64 0, .slice none 0 0] 72)) 54 #[.int .i64 0, .int .i64 0]
    rw [World.size_alloc] at this
    rw [hZ]; exact this
  have hsz0 : ((w.alloc (.cells #[.int .i64 0, .int .i64 0, .slice none 0 0] 72)).alloc (.cells #[.int .i64 0, .int .i64 0] 54)).heap.size = Z + 2 := by rw [hZ]; simp
  have HSZ0 := Lib.hid hsz0; have HR0 := Lib.hid (hr.below hb0); have HB0 := Lib.hid hb0; have HZ0 := Lib.hid hZ0; have HY0 := Lib.hid hY0; have HL := Lib.hid hl; have HZ := Lib.hid hZ
  clear hsz0 hr hb0 hZ0 hY0 hl
  go_enter Try.func54, Try.ntmps54
  go_wp2_with fail
  rw [← hZ]
  clear hZ
  refine (open_any HR0.out (by omega)).mono ?_
  rintro e w1 ⟨R, A, n, c, rfl, hrb, hR, hA, hb1⟩
  rw [HSZ0.out] at hR
  have hn1 : n = n0 := by have h9 : l.length = n := rdb_len hrb; have := HL.out; omega
  have hX1 : R < w1.heap.size := rdb_lt hrb
  have HA := Lib.hid (show ∀ a, A = some a → 0 < n → Z + 2 ≤ a.block ∧ a.block < w1.heap.size from fun a ha h0 => ⟨by have := hA a ha; rw [HSZ0.out] at this; exact this, rd_in hrb.rd a ha h0⟩)
  obtain ⟨X, hX⟩ : ∃ z, z = w1.heap.size := ⟨_, rfl⟩
  obtain ⟨w2, hw2⟩ : ∃ z, z = w1.alloc (.cells #[.int .i64 0, .int .i64 0, .slice none 0 0] 72) := ⟨_, rfl⟩
  have hb2 : Below w1.heap.size w1 w2 := by rw [hw2]; exact box_below _ _
  have hX2 : Blk w2 X 72 #[.int .i64 0, .int .i64 0, .slice none 0 0] := by rw [hw2, hX]; exact blk_new _ _ _
  have HB1 := Lib.hid (HB0.out.trans (hb1.mono HB0.out.size))
  have HB2 := Lib.hid (HB1.out.trans (hb2.mono HB1.out.size)); have HRB2 := Lib.hid (rdb_ch hrb (Ch.of_below hb2 No) id (fun _ _ => id)); have HX2 := Lib.hid hX2
  have HZ2 := Lib.hid (blk_below (blk_below HZ0.out hb1) hb2); have HY2 := Lib.hid (blk_below (blk_below HY0.out hb1) hb2)
  have hRX : R < X := by omega
  have hXw2 : X < w2.heap.size := blk_lt hX2
  rw [← hX] at HA
  clear hrb hb1 hb2 hX2 hA
  go_wp2_with fail
  rw [← hw2, ← hX]
  clear hw2 hX
  obtain ⟨r1, hr1⟩ : ∃ z, z = effK l := ⟨_, rfl⟩
  refine (num_any HRB2.out 1 3).mono ?_
  rw [show rnum ⟨l, 0, 0, 0⟩ 1 3 = r1 from hr1.symm]
  rintro e w3 ⟨rfl, hrb3, hch3⟩
  have hX3 := blk_ch HX2.out hch3 (by omega)
  have f0 := blk_thawed hX3 0
  have x0 := blk_cell hX3 0 _ rfl
  obtain ⟨w4, hw4⟩ : ∃ z, z = w3.setCell ⟨X, 0, none⟩ (.int .i64 r1.1) := ⟨_, rfl⟩
  have hch4 : Ch (fun j => j = R ∨ j = X) w2 w4 := by rw [hw4]; exact ch_set (hch3.mono (fun i _ h => .inl h)) ⟨X, 0, none⟩ _ (.inr rfl)
  have hX4 : Blk w4 X 72 #[.int .i64 r1.1, .int .i64 0, .slice none 0 0] := by rw [hw4]; exact blk_set hX3 0 (.int .i64 r1.1)
  have hrb4 : RdB w4 R A n c r1.2 := by rw [hw4]; exact rdb_ch0 hrb3 (Ch.setCell w3 ⟨X, 0, none⟩ (.int .i64 r1.1)) (fun e => by have e : R = X := e; omega) (fun a ha h0 e => by have h9 := HA.out a ha h0; have e : a.block = X := e; omega)
  have HX4 := Lib.hid hX4; have HRB4 := Lib.hid hrb4; have HCH4 := Lib.hid hch4; have HR1 := Lib.hid hr1
  clear hX4 hrb4 hch4 hX3 hrb3 hch3 hr1
  go_wp2_with fail
  rw [← hw4]
  clear hw4 f0 x0
  obtain ⟨r2, hr2⟩ : ∃ z, z = effM l := ⟨_, rfl⟩
  refine (num_any HRB4.out 0 511).mono ?_
  rw [show rnum r1.2 0 511 = r2 by rw [hr2, HR1.out]; rfl]
  rintro e w5 ⟨rfl, hrb5, hch5⟩
  have hX5 := blk_ch HX4.out hch5 (by omega)
  have f1 := blk_thawed hX5 1
  have x1 := blk_cell hX5 1 _ rfl
  obtain ⟨w6, hw6⟩ : ∃ z, z = w5.setCell ⟨X, 1, none⟩ (.int .i64 r2.1) := ⟨_, rfl⟩
  have hch6 : Ch (fun j => j = R ∨ j = X) w4 w6 := by rw [hw6]; exact ch_set (hch5.mono (fun i _ h => .inl h)) ⟨X, 1, none⟩ _ (.inr rfl)
  have hX6 : Blk w6 X 72 #[.int .i64 r1.1, .int .i64 r2.1, .slice none 0 0] := by rw [hw6]; exact blk_set hX5 1 (.int .i64 r2.1)
  have hrb6 : RdB w6 R A n c r2.2 := by rw [hw6]; exact rdb_ch0 hrb5 (Ch.setCell w5 ⟨X, 1, none⟩ (.int .i64 r2.1)) (fun e => by have e : R = X := e; omega) (fun a ha h0 e => by have h9 := HA.out a ha h0; have e : a.block = X := e; omega)
  have HX6 := Lib.hid hX6; have HRB6 := Lib.hid hrb6; have HCH6 := Lib.hid (HCH4.out.trans hch6 (fun i hi => .inl hi)); have HR2 := Lib.hid hr2
  clear hX6 hrb6 hch6 hX5 hrb5 hch5 hr2 HX4 HRB4 HX2 HRB2
  go_wp2_with fail
  rw [← hw6]
  clear hw6 f1 x1
  obtain ⟨r3, hr3⟩ : ∃ z, z = effL l := ⟨_, rfl⟩
  refine (raw_any HRB6.out (by omega) 1000).mono ?_
  rw [show rraw r2.2 1000 = r3 by rw [hr3, HR2.out]; rfl]
  rintro e w7 ⟨A7, n7, c7, rfl, hh7, hrb7, hch7⟩
  have hX7 := blk_ch HX6.out hch7 (by omega)
  have hz6 : X < w6.heap.size := blk_lt HX6.out
  have f2 := blk_thawed hX7 2
  have x2 := blk_cell hX7 2 _ rfl
  have hlen7 : r3.1.length = n7 := held_len hh7
  have hn7 : n7 ≤ 9223372036854775807 := (held_rd hh7).small
  have HF7 := Lib.hid (show ∀ a, A7 = some a → w6.heap.size ≤ a.block from fun a ha => (held_lt hh7 a ha).1)
  obtain ⟨w8, hw8⟩ : ∃ z, z = w7.setCell ⟨X, 2, none⟩ (.slice A7 n7 c7) := ⟨_, rfl⟩
  have hch8 : Ch (fun j => j = R ∨ j = X) w6 w8 := by rw [hw8]; exact ch_set (hch7.mono (fun i _ h => .inl h)) ⟨X, 2, none⟩ _ (.inr rfl)
  have hX8 : Blk w8 X 72 #[.int .i64 r1.1, .int .i64 r2.1, .slice A7 n7 c7] := by rw [hw8]; exact blk_set hX7 2 (.slice A7 n7 c7)
  have hrb8 : RdB w8 R A n c r3.2 := by rw [hw8]; exact rdb_ch0 hrb7 (Ch.setCell w7 ⟨X, 2, none⟩ (.slice A7 n7 c7)) (fun e => by have e : R = X := e; omega) (fun a ha h0 e => by have h9 := HA.out a ha h0; have e : a.block = X := e; omega)
  have hz68 : w6.heap.size ≤ w8.heap.size := Nat.le_trans hch7.size (by rw [hw8]; exact (Ch.setCell w7 ⟨X, 2, none⟩ (.slice A7 n7 c7)).size)
  have hh8 : Held w8 w6.heap.size A7 n7 c7 r3.1 := by rw [hw8]; exact held_ch hh7 (Ch.setCell w7 ⟨X, 2, none⟩ (.slice A7 n7 c7)) (fun a ha e => by have h9 := (held_lt hh7 a ha).1; have e : a.block = X := e; omega)
  have HX8 := Lib.hid hX8; have HRB8 := Lib.hid hrb8; have HCH8 := Lib.hid (HCH6.out.trans hch8 (fun i hi => .inl hi)); have HR3 := Lib.hid hr3; have HH8 := Lib.hid hh8; have HL7 := Lib.hid hlen7
  clear hX8 hrb8 hch8 hX7 hrb7 hch7 hr3 HX6 HRB6 hh8 hh7 hlen7 HCH6 HCH4
  go_wp2_with fail
  rw [← hw8]
  clear hw8 f2 x2
  obtain ⟨r4, hr4⟩ : ∃ z, z = effE l := ⟨_, rfl⟩
  refine (end_any HRB8.out).mono ?_
  rw [show rend r3.2 = r4 by rw [hr4, HR3.out]; rfl]
  rintro e w9 ⟨rfl, hb9⟩
  have hz9 : X < w9.heap.size := Nat.lt_of_lt_of_le (blk_lt HX8.out) hb9.size
  have hz89 := hb9.size
  have HX9 := Lib.hid (blk_below HX8.out hb9)
  have HC9 := Lib.hid (HCH8.out.trans (Ch.of_below hb9 No) (fun i hi => .inl hi.elim))
  have HH9 := Lib.hid (held_ch HH8.out (Ch.of_below hb9 No) (fun _ _ => id))
  obtain ⟨F, hF⟩ : ∃ z, z = w9.heap.size := ⟨_, rfl⟩
  obtain ⟨w10, hw10⟩ : ∃ z, z = w9.alloc (.cells #[.int .i64 r4.1, .int .i64 r4.2] 54) := ⟨_, rfl⟩
  have hb10 : Below w9.heap.size w9 w10 := by rw [hw10]; exact box_below _ _
  have hF10 : Blk w10 F 54 #[.int .i64 r4.1, .int .i64 r4.2] := by rw [hw10, hF]; exact blk_new _ _ _
  have hX10 := blk_below HX9.out hb10
  have hc10 : Ch (fun j => j = R ∨ j = X) w2 w10 := HC9.out.trans (Ch.of_below hb10 No) (fun i hi => .inl hi.elim)
  have HF10 := Lib.hid hF10; have HX10 := Lib.hid hX10; have HC10 := Lib.hid hc10; have HR4 := Lib.hid hr4
  have HH10 := Lib.hid (held_ch HH9.out (Ch.of_below hb10 No) (fun _ _ => id))
  have hFx : X < F := by omega
  have hF6 : w6.heap.size ≤ F := by omega
  have hz2 : w2.heap.size ≤ F := by have := HC9.out.size; omega
  have x0 : (w9.alloc (.cells #[.int .i64 r4.1, .int .i64 r4.2] 54)).cell? ⟨X, 0, none⟩ = some (.int .i64 r1.1) := below_cell (box_below _ _) (blk_cell HX9.out 0 _ rfl)
  have x1 : (w9.alloc (.cells #[.int .i64 r4.1, .int .i64 r4.2] 54)).cell? ⟨X, 1, none⟩ = some (.int .i64 r2.1) := below_cell (box_below _ _) (blk_cell HX9.out 1 _ rfl)
  have x2 : (w9.alloc (.cells #[.int .i64 r4.1, .int .i64 r4.2] 54)).cell? ⟨X, 2, none⟩ = some (.slice A7 n7 c7) := below_cell (box_below _ _) (blk_cell HX9.out 2 _ rfl)
  have HAF := Lib.hid (show ∀ a, A7 = some a → X < a.block ∧ a.block < F from fun a ha => by have h1 := (held_lt HH9.out a ha).2; have h2 := HF7.out a ha; omega)
  clear hF10 hX10 hc10 hb9 hb10 hr4 HX9 HC9 HX8 HCH8 HRB8 HH8 HH9
  by_cases he : r4.1 = 0
  · have ge : (r4.1 == 0) = true := by simpa using he
    have HE := Lib.hid he
    clear he
    go_wp2_with fail
    rw [← hw10, ← hF]
    clear hw10 hF x0 x1 x2
    refine (check_any r1.1 r2.1 A7 n7 c7 _ hn7).mono ?_
    obtain ⟨ck, hck⟩ : ∃ z, z = chk r1.1 r2.1 n7 := ⟨_, rfl⟩
    rw [← hck]
    rintro e w11 ⟨rfl, hb11⟩
    have hF11 := blk_below HF10.out hb11
    have hX11 := blk_below HX10.out hb11
    have hc11 : Ch (fun j => j = R ∨ j = X) w2 w11 := HC10.out.trans (Ch.of_below hb11 No) (fun i hi => .inl hi.elim)
    have HH11 := Lib.hid (held_ch HH10.out (Ch.of_below hb11 No) (fun _ _ => id))
    have g0 := blk_thawed hF11 0
    have p0 := blk_cell hF11 0 _ rfl
    obtain ⟨w12, hw12⟩ : ∃ z, z = w11.setCell ⟨F, 0, none⟩ (.int .i64 ck) := ⟨_, rfl⟩
    have hX12 : Blk w12 X 72 #[.int .i64 r1.1, .int .i64 r2.1, .slice A7 n7 c7] := by rw [hw12]; exact blk_ch hX11 (Ch.setCell w11 ⟨F, 0, none⟩ _) (fun e => by have e : X = F := e; omega)
    have hF12 : Blk w12 F 54 #[.int .i64 ck, .int .i64 r4.2] := by rw [hw12]; exact blk_set hF11 0 (.int .i64 ck)
    have hc12 : Ch (fun j => j = R ∨ j = X) w2 w12 := by rw [hw12]; exact hc11.trans (Ch.setCell w11 ⟨F, 0, none⟩ _) (fun i hi => .inr (by have hi : i = F := hi; omega))
    have hZ12 := blk_ch HZ2.out hc12 (by omega)
    have hY12 := blk_ch HY2.out hc12 (by omega)
    have HH12 := Lib.hid (show Held w12 w6.heap.size A7 n7 c7 r3.1 by rw [hw12]; exact held_ch HH11.out (Ch.setCell w11 ⟨F, 0, none⟩ _) (fun a ha e => by have h9 := HAF.out a ha; have e : a.block = F := e; omega))
    have HF12 := Lib.hid hF12; have HX12 := Lib.hid hX12; have HC12 := Lib.hid hc12; have HZ12 := Lib.hid hZ12; have HY12 := Lib.hid hY12; have HCK := Lib.hid hck
    clear hF11 hX11 hc11 hb11 hF12 hX12 hc12 hZ12 hY12 hck
    by_cases hc : ck = 0
    · have gc : (ck != 0) = false := by simpa using hc
      have HCK0 := Lib.hid hc
      clear hc
      have z0 := blk_thawed HZ12.out 0
      have z1 := blk_thawed HZ12.out 1
      have z2 := blk_thawed HZ12.out 2
      have y0 := blk_thawed HY12.out 0
      have y1 := blk_thawed HY12.out 1
      have v0 := blk_cell HZ12.out 0 _ rfl
      have v1 := blk_cell HZ12.out 1 _ rfl
      have v2 := blk_cell HZ12.out 2 _ rfl
      have u0 := blk_cell HY12.out 0 _ rfl
      have u1 := blk_cell HY12.out 1 _ rfl
      have x0 := blk_cell HX12.out 0 _ rfl
      have x1 := blk_cell HX12.out 1 _ rfl
      have x2 := blk_cell HX12.out 2 _ rfl
      have t0 := blk_cell HF12.out 0 _ rfl
      have t1 := blk_cell HF12.out 1 _ rfl
      go_wp2_with fail
      rw [← hw12]
      clear hw12
      go_region
      all_goals
        go_wp2
        have hq := put_two HZ12.out HY12.out (.int .i64 r1.1) (.int .i64 r2.1) (.slice A7 n7 c7) (.int .i64 ck) (.int .i64 r4.2)
        have hz := HZ.out
        have hres : effR l = ⟨r1.1, r2.1, r3.1, ck, r4.2⟩ := by unfold effR; rw [← HR4.out, if_pos HE.out, ← HR1.out, ← HR2.out, ← HR3.out, HL7.out, ← HCK.out, if_pos HCK0.out, HCK0.out]
        exact bodyPost_ret (results_two rfl _ _ Z (Z + 1) 72 54 _ _ (0, 0) (0, 0) _ _ rfl hq.1 Try.underlying72 rfl (by kernel_rfl) rfl hq.2.1 Try.underlying54 rfl (by kernel_rfl)) rfl ⟨A7, n7, c7, by rw [hres], by rw [hres]; exact held_base (held_ch (held_ch HH12.out hq.2.2 (fun a ha e => by have h9 := HAF.out a ha; omega)) (Ch.drew _ No) (fun _ _ => id)) (fun a ha => by have h9 := HAF.out a ha; omega), (((Ch.of_below HB2.out (fun j => j = R ∨ j = X ∨ j = Z ∨ j = Z + 1)).trans ((HC12.out.mono (S' := fun j => j = R ∨ j = X ∨ j = Z ∨ j = Z + 1) (fun i _ h => by omega)).trans hq.2.2 (S := fun j => j = R ∨ j = X ∨ j = Z ∨ j = Z + 1) (fun i hi => by omega)) (fun i hi => .inl hi)).trans (Ch.drew _ No) (fun _ h => h.elim)).below (Nat.le_refl _) (fun j hj => by omega)⟩
    · have gc : (ck != 0) = true := by simpa using hc
      have HCK0 := Lib.hid hc
      clear hc
      have z0 := blk_thawed HZ12.out 0
      have z1 := blk_thawed HZ12.out 1
      have z2 := blk_thawed HZ12.out 2
      have y0 := blk_thawed HY12.out 0
      have y1 := blk_thawed HY12.out 1
      have v0 := blk_cell HZ12.out 0 _ rfl
      have v1 := blk_cell HZ12.out 1 _ rfl
      have v2 := blk_cell HZ12.out 2 _ rfl
      have u0 := blk_cell HY12.out 0 _ rfl
      have u1 := blk_cell HY12.out 1 _ rfl
      have x0 := blk_cell HX12.out 0 _ rfl
      have x1 := blk_cell HX12.out 1 _ rfl
      have x2 := blk_cell HX12.out 2 _ rfl
      have t0 := blk_cell HF12.out 0 _ rfl
      have t1 := blk_cell HF12.out 1 _ rfl
      go_wp2_with fail
      rw [← hw12]
      clear hw12
      go_region
      all_goals
        go_wp2
        have hq := put_two HZ12.out HY12.out (.int .i64 0) (.int .i64 0) (.slice none 0 0) (.int .i64 ck) (.int .i64 r4.2)
        have hz := HZ.out
        have hres : effR l = ⟨0, 0, [], ck, r4.2⟩ := by unfold effR; rw [← HR4.out, if_pos HE.out, ← HR1.out, ← HR2.out, ← HR3.out, HL7.out, ← HCK.out, if_neg HCK0.out]; congr 1; rw [HCK.out]; exact (chk_two _ _ _ (by rw [← HCK.out]; exact HCK0.out)).symm
        exact bodyPost_ret (results_two rfl _ _ Z (Z + 1) 72 54 _ _ (0, 0) (0, 0) _ _ rfl hq.1 Try.underlying72 rfl (by kernel_rfl) rfl hq.2.1 Try.underlying54 rfl (by kernel_rfl)) rfl ⟨none, 0, 0, by rw [hres], by rw [hres]; exact held_nil _ _, (((Ch.of_below HB2.out (fun j => j = R ∨ j = X ∨ j = Z ∨ j = Z + 1)).trans ((HC12.out.mono (S' := fun j => j = R ∨ j = X ∨ j = Z ∨ j = Z + 1) (fun i _ h => by omega)).trans hq.2.2 (S := fun j => j = R ∨ j = X ∨ j = Z ∨ j = Z + 1) (fun i hi => by omega)) (fun i hi => .inl hi)).trans (Ch.drew _ No) (fun _ h => h.elim)).below (Nat.le_refl _) (fun j hj => by omega)⟩
  · have ge : (r4.1 == 0) = false := by simpa using he
    have ge2 : (r4.1 != 0) = true := by simpa using he
    have hZ10 := blk_ch HZ2.out HC10.out (by omega)
    have hY10 := blk_ch HY2.out HC10.out (by omega)
    have z0 := blk_thawed hZ10 0
    have z1 := blk_thawed hZ10 1
    have z2 := blk_thawed hZ10 2
    have y0 := blk_thawed hY10 0
    have y1 := blk_thawed hY10 1
    have v0 := blk_cell hZ10 0 _ rfl
    have v1 := blk_cell hZ10 1 _ rfl
    have v2 := blk_cell hZ10 2 _ rfl
    have u0 := blk_cell hY10 0 _ rfl
    have u1 := blk_cell hY10 1 _ rfl
    have t0 := blk_cell HF10.out 0 _ rfl
    have t1 := blk_cell HF10.out 1 _ rfl
    have HE := Lib.hid he; have HZ10 := Lib.hid hZ10; have HY10 := Lib.hid hY10
    clear he hZ10 hY10
    go_wp2_with fail
    rw [← hw10, ← hF]
    clear hw10 hF
    go_region
    all_goals
      go_wp2
      have hq := put_two HZ10.out HY10.out (.int .i64 0) (.int .i64 0) (.slice none 0 0) (.int .i64 r4.1) (.int .i64 r4.2)
      have hz := HZ.out
      have hres : effR l = ⟨0, 0, [], r4.1, r4.2⟩ := by unfold effR; rw [← HR4.out, if_neg HE.out]
      exact bodyPost_ret (results_two rfl _ _ Z (Z + 1) 72 54 _ _ (0, 0) (0, 0) _ _ rfl hq.1 Try.underlying72 rfl (by kernel_rfl) rfl hq.2.1 Try.underlying54 rfl (by kernel_rfl)) rfl ⟨none, 0, 0, by rw [hres], by rw [hres]; exact held_nil _ _, (((Ch.of_below HB2.out (fun j => j = R ∨ j = X ∨ j = Z ∨ j = Z + 1)).trans ((HC10.out.mono (S' := fun j => j = R ∨ j = X ∨ j = Z ∨ j = Z + 1) (fun i _ h => by omega)).trans hq.2.2 (S := fun j => j = R ∨ j = X ∨ j = Z ∨ j = Z + 1) (fun i hi => by omega)) (fun i hi => .inl hi)).trans (Ch.drew _ No) (fun _ h => h.elim)).below (Nat.le_refl _) (fun j hj => by omega)⟩
end Go.Proofs.Ytondodhpmghogaa
