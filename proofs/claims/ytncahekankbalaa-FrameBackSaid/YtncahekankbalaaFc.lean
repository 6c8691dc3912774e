/- Walk: the message of bytes, by the reference. Conditions: the bytes are read, and short. -/
import Derived.Test.YtncahekankbalaaFa
import Derived.Test.YtncahekankbalaaF5
namespace Go.Proofs.Ytncahekankbalaa
open Go.RowKit
set_option linter.unusedVariables false
set_option linter.unusedSimpArgs false
/-- what is read: a message, the fault -/
structure Msg where
  k : Int
  i : Int
  s : Int
  a : Int
  l : List UInt8
  e : Int
  p : Int
def gK (x : List UInt8) : Int × Rdr := rnum ⟨x, 0, 0, 0⟩ 1 3
def gI (x : List UInt8) : Int × Rdr := rnum (gK x).2 1 1099511627776
def mS (x : List UInt8) : Int × Rdr := rnum (gI x).2 1 60000
def mA (x : List UInt8) : Int × Rdr := rnum (mS x).2 0 60000
def mR (x : List UInt8) : List UInt8 × Rdr := rraw (mA x).2 200
def getW (k i s a : Int) (l : List UInt8) (r : Int × Int) : Msg := if r.1 = 0 then (if chkM k i s a l.length = 0 then ⟨k, i, s, a, l, 0, r.2⟩ else ⟨0, 0, 0, 0, [], 2, r.2⟩) else ⟨0, 0, 0, 0, [], r.1, r.2⟩
def getM (x : List UInt8) : Msg := if (gK x).1 = 1 then getW (gK x).1 (gI x).1 (mS x).1 (mA x).1 (mR x).1 (rend (mR x).2) else getW (gK x).1 (gI x).1 0 0 [] (rend (gI x).2)
theorem getW_mk (k i s a : Int) (l : List UInt8) (r : Int × Int) :
    (r.1 = 0 → chkM k i s a l.length = 0 → getW k i s a l r = ⟨k, i, s, a, l, 0, r.2⟩) ∧ (r.1 = 0 → chkM k i s a l.length ≠ 0 → getW k i s a l r = ⟨0, 0, 0, 0, [], 2, r.2⟩) ∧ (r.1 ≠ 0 → getW k i s a l r = ⟨0, 0, 0, 0, [], r.1, r.2⟩) := by
  refine ⟨fun a b => ?_, fun a b => ?_, fun a => ?_⟩
  · unfold getW; rw [if_pos a]; exact if_pos b
  · unfold getW; rw [if_pos a]; exact if_neg b
  · unfold getW; rw [if_neg a]
theorem getM_one {b : List UInt8} {r1 r2 r3 r4 : Int × Rdr} {r5 : List UInt8 × Rdr} (h1 : r1 = rnum ⟨b, 0, 0, 0⟩ 1 3) (h2 : r2 = rnum r1.2 1 1099511627776) (h3 : r3 = rnum r2.2 1 60000) (h4 : r4 = rnum r3.2 0 60000) (h5 : r5 = rraw r4.2 200) (hk : r1.1 = 1) : getM b = getW r1.1 r2.1 r3.1 r4.1 r5.1 (rend r5.2) := by
  subst h1; subst h2; subst h3; subst h4; subst h5
  unfold getM
  exact if_pos hk
theorem getM_two {b : List UInt8} {r1 r2 : Int × Rdr} (h1 : r1 = rnum ⟨b, 0, 0, 0⟩ 1 3) (h2 : r2 = rnum r1.2 1 1099511627776) (hk : r1.1 ≠ 1) : getM b = getW r1.1 r2.1 0 0 [] (rend r2.2) := by
  subst h1; subst h2
  unfold getM
  exact if_neg hk
theorem rend_p (r : Rdr) (h : (rend r).1 = 0) : (rend r).2 = r.p ∧ r.e = 0 := by
  unfold rend at h ⊢
  split at h
  · simp at h
  · rename_i hn
    rw [if_neg hn]
    exact ⟨rfl, h⟩
theorem m0_two {b : List UInt8} {r1 r2 : Int × Rdr} (h1 : r1 = rnum ⟨b, 0, 0, 0⟩ 1 3) (h2 : r2 = rnum r1.2 1 1099511627776) (he : r2.2.e = 0) : r2.2.p = 0 := by
  subst h2
  obtain ⟨p2, e2⟩ := rnum_p _ _ _ he
  subst h1
  obtain ⟨p1, _⟩ := rnum_p _ _ _ e2
  exact p2.trans p1
theorem m0_one {b : List UInt8} {r1 r2 r3 r4 : Int × Rdr} {r5 : List UInt8 × Rdr} (h1 : r1 = rnum ⟨b, 0, 0, 0⟩ 1 3) (h2 : r2 = rnum r1.2 1 1099511627776) (h3 : r3 = rnum r2.2 1 60000) (h4 : r4 = rnum r3.2 0 60000) (h5 : r5 = rraw r4.2 200) (he : r5.2.e = 0) : r5.2.p = 0 := by
  subst h5
  obtain ⟨p5, e5⟩ := rraw_p _ _ he
  subst h4
  obtain ⟨p4, e4⟩ := rnum_p _ _ _ e5
  subst h3
  obtain ⟨p3, e3⟩ := rnum_p _ _ _ e4
  exact p5.trans (p4.trans (p3.trans (m0_two h1 h2 e3)))
theorem rnum_in (s : Rdr) (lo hi : Int) : (rnum s lo hi).1 = 0 ∨ lo ≤ (rnum s lo hi).1 ∧ (rnum s lo hi).1 ≤ hi := by
  unfold rnum
  repeat' split
  all_goals first | exact .inl rfl | skip
  rename_i h
  exact .inr ⟨by have := not_or.1 h; omega, by have := not_or.1 h; omega⟩
def RMsgQ (w : World) (r : Msg) (e : Ending) (w' : World) : Prop := ∃ A n c, e = .returned (.tuple #[.agg #[.int .i64 r.k, .int .i64 r.i, .int .i64 r.s, .int .i64 r.a, .slice A n c], .agg #[.int .i64 r.e, .int .i64 r.p]]) ∧ Rd w' A n c 1 (u8s r.l) ∧ Below w.heap.size w w'
def MsgQ (w : World) (r : Msg) (e : Ending) (w' : World) : Prop := ∃ A n c, e = .returned (.tuple #[.agg #[.int .i64 r.k, .int .i64 r.i, .int .i64 r.s, .int .i64 r.a, .slice A n c], .agg #[.int .i64 r.e, .int .i64 r.p]]) ∧ Held w' w.heap.size A n c r.l ∧ Below w.heap.size w w'
/-- two results are laid down -/
theorem put_ms {W : World} {Z : Nat} {z0 z1 z2 z3 z4 y0 y1 : Value} (hZ : Blk W Z 43 #[z0, z1, z2, z3, z4]) (hY : Blk W (Z + 1) 32 #[y0, y1]) (a0 a1 a2 a3 a4 b0 b1 : Value) :
    Blk (((((((W.setCell ⟨Z, 0, none⟩ a0).setCell ⟨Z, 1, none⟩ a1).setCell ⟨Z, 2, none⟩ a2).setCell ⟨Z, 3, none⟩ a3).setCell ⟨Z, 4, none⟩ a4).setCell ⟨Z + 1, 0, none⟩ b0).setCell ⟨Z + 1, 1, none⟩ b1) Z 43 #[a0, a1, a2, a3, a4] ∧
    Blk (((((((W.setCell ⟨Z, 0, none⟩ a0).setCell ⟨Z, 1, none⟩ a1).setCell ⟨Z, 2, none⟩ a2).setCell ⟨Z, 3, none⟩ a3).setCell ⟨Z, 4, none⟩ a4).setCell ⟨Z + 1, 0, none⟩ b0).setCell ⟨Z + 1, 1, none⟩ b1) (Z + 1) 32 #[b0, b1] ∧
    Ch (fun j => j = Z ∨ j = Z + 1) W (((((((W.setCell ⟨Z, 0, none⟩ a0).setCell ⟨Z, 1, none⟩ a1).setCell ⟨Z, 2, none⟩ a2).setCell ⟨Z, 3, none⟩ a3).setCell ⟨Z, 4, none⟩ a4).setCell ⟨Z + 1, 0, none⟩ b0).setCell ⟨Z + 1, 1, none⟩ b1) := by
  have n1 : ∀ (o : Nat), ¬ (Z = (⟨Z + 1, o, none⟩ : Addr).block) := fun o e => by have e : Z = Z + 1 := e; omega
  have n2 : ∀ (o : Nat), ¬ (Z + 1 = (⟨Z, o, none⟩ : Addr).block) := fun o e => by have e : Z + 1 = Z := e; omega
  exact ⟨blk_ch (blk_ch (blk_set (blk_set (blk_set (blk_set (blk_set (hZ) 0 a0) 1 a1) 2 a2) 3 a3) 4 a4) (Ch.setCell _ ⟨Z + 1, 0, none⟩ b0) (n1 0)) (Ch.setCell _ ⟨Z + 1, 1, none⟩ b1) (n1 1), blk_set (blk_set (blk_ch (blk_ch (blk_ch (blk_ch (blk_ch (hY) (Ch.setCell _ ⟨Z, 0, none⟩ a0) (n2 0)) (Ch.setCell _ ⟨Z, 1, none⟩ a1) (n2 1)) (Ch.setCell _ ⟨Z, 2, none⟩ a2) (n2 2)) (Ch.setCell _ ⟨Z, 3, none⟩ a3) (n2 3)) (Ch.setCell _ ⟨Z, 4, none⟩ a4) (n2 4)) 0 b0) 1 b1, ch_set (ch_set (ch_set (ch_set (ch_set (ch_set (ch_set (Ch.refl _ W) ⟨Z, 0, none⟩ _ (.inl rfl)) ⟨Z, 1, none⟩ _ (.inl rfl)) ⟨Z, 2, none⟩ _ (.inl rfl)) ⟨Z, 3, none⟩ _ (.inl rfl)) ⟨Z, 4, none⟩ _ (.inl rfl)) ⟨Z + 1, 0, none⟩ _ (.inr rfl)) ⟨Z + 1, 1, none⟩ _ (.inr rfl)⟩
set_option maxRecDepth 100000 in
set_option maxHeartbeats 8000000 in
theorem rmget_any {A0 : Option Addr} {n0 c0 : Nat} {b : List UInt8} {w : World} (hr : Rd w A0 n0 c0 1 (u8s b)) (hn : n0 ≤ 100000000) : Calls Try.prog 26 #[.slice A0 n0 c0] w (RMsgQ w (getM b)) := by
  have hl : b.length = n0 := by have := hr.len; simpa using this
  obtain ⟨Z, hZ⟩ : ∃ z, z = w.heap.size := ⟨_, rfl⟩
  obtain ⟨V, hV⟩ : ∃ z, z = (w.alloc (.cells #[.int .i64 0, .int .i64 0, .int .i64 0, .int .i64 0, .slice none 0 0] 43)).alloc (.cells #[.int .i64 0, .int .i64 0] 32) := ⟨_, rfl⟩
  obtain ⟨b1, b2, b3⟩ := two_new w #[.int .i64 0, .int .i64 0, .int .i64 0, .int .i64 0, .slice none 0 0] 43 #[.int .i64 0, .int .i64 0] 32
  rw [← hV, ← hZ] at b1 b2
  rw [← hV] at b3
  have hsz : Z + 2 = V.heap.size := by rw [hV, hZ]; simp
  have hAZ := fun a (ha : A0 = some a) (h0 : 0 < n0) => rd_in hr a ha h0
  have HR := Lib.hid (hr.below b3); have HB0 := Lib.hid b3; have HZ0 := Lib.hid b1; have HY0 := Lib.hid b2; have HL := Lib.hid hl; have HZW := Lib.hid hZ
  have HAZ := Lib.hid (show ∀ a, A0 = some a → 0 < n0 → a.block < Z from fun a ha h0 => by have := hAZ a ha h0; omega)
  clear b1 b2 b3 hr hl hAZ
  go_enter Try.func26, Try.ntmps26
  go_wp2_with fail
  rw [← hV, ← hZ]
  clear hV hZ
  refine (ropen_any HR.out (fun a ha h0 => by have h9 := HAZ.out a ha h0; omega)).mono ?_
  rintro e w3 ⟨R, rfl, hrb, hR, hb3⟩
  have hR3 : R < w3.heap.size := rrd_lt hrb
  obtain ⟨X, hX⟩ : ∃ z, z = w3.heap.size := ⟨_, rfl⟩
  have HA := HAZ
  obtain ⟨w4, hw4⟩ : ∃ z, z = w3.alloc (.cells #[.int .i64 0, .int .i64 0, .int .i64 0, .int .i64 0, .slice none 0 0] 43) := ⟨_, rfl⟩
  have hb4 : Below w3.heap.size w3 w4 := by rw [hw4]; exact box_below _ _
  have hX4 : Blk w4 X 43 #[.int .i64 0, .int .i64 0, .int .i64 0, .int .i64 0, .slice none 0 0] := by rw [hw4, hX]; exact blk_new _ _ _
  have HC4 := Lib.hid (show Below (Z + 2) V w4 from (hb3.trans (hb4.mono hb3.size)).mono (by omega))
  have HRB4 := Lib.hid (rrd_ch hrb (Ch.of_below hb4 No) id (fun _ _ _ => id)); have HX4 := Lib.hid hX4
  have hRX : R < X := by omega
  have hZR : Z + 2 ≤ R := by omega
  have hXw4 : X < w4.heap.size := blk_lt hX4
  clear hrb hb3 hb4 hX4
  go_wp2_with fail
  rw [← hw4, ← hX]
  clear hw4 hX
  refine (rn_any HRB4.out 1 3).mono ?_
  obtain ⟨r1, hr1⟩ : ∃ z, z = rnum ⟨b, 0, 0, 0⟩ 1 3 := ⟨_, rfl⟩
  rw [← hr1]
  have Hr1 := Lib.hid hr1
  clear hr1
  obtain ⟨kv, hkv⟩ : ∃ z, z = r1.1 := ⟨_, rfl⟩
  rintro e w5 ⟨he, hrb, hch⟩
  rw [← hkv] at he
  cases he
  have Hkv := Lib.hid hkv
  clear hkv
  have hx := blk_ch HX4.out hch (by omega)
  have f0 := blk_thawed hx 0
  have x0 := blk_cell hx 0 _ rfl
  obtain ⟨w6, hw6⟩ : ∃ z, z = w5.setCell ⟨X, 0, none⟩ (.int .i64 kv) := ⟨_, rfl⟩
  have hcs := Ch.setCell w5 ⟨X, 0, none⟩ (.int .i64 kv)
  rw [← hw6] at hcs
  have HX6 := Lib.hid (show Blk w6 X 43 #[.int .i64 kv, .int .i64 0, .int .i64 0, .int .i64 0, .slice none 0 0] by rw [hw6]; exact blk_set hx 0 _)
  have HRB6 := Lib.hid (rrd_ch hrb hcs (fun e => by have e : R = X := e; omega) (fun a ha h0 e => by have h9 := HA.out a ha h0; have e : a.block = X := e; omega))
  have HC6 := Lib.hid (show Below (Z + 2) V w6 from (HC4.out.trans (hch.below (by have := HC4.out.size; omega) (fun k hk => by omega))).trans (hcs.below (by have := HC4.out.size; have := hch.size; omega) (fun k hk => by have hk : k = X := hk; omega)))
  clear hx hcs hrb hch HC4 HRB4 HX4
  go_wp2_with fail
  rw [← hw6]
  clear hw6 f0 x0
  refine (rn_any HRB6.out 1 1099511627776).mono ?_
  obtain ⟨r2, hr2⟩ : ∃ z, z = rnum r1.2 1 1099511627776 := ⟨_, rfl⟩
  rw [← hr2]
  have Hr2 := Lib.hid hr2
  clear hr2
  obtain ⟨iv, hiv⟩ : ∃ z, z = r2.1 := ⟨_, rfl⟩
  rintro e w7 ⟨he, hrb, hch⟩
  rw [← hiv] at he
  cases he
  have Hiv := Lib.hid hiv
  clear hiv
  have hx := blk_ch HX6.out hch (by omega)
  have f1 := blk_thawed hx 1
  have x1 := blk_cell hx 1 _ rfl
  obtain ⟨w8, hw8⟩ : ∃ z, z = w7.setCell ⟨X, 1, none⟩ (.int .i64 iv) := ⟨_, rfl⟩
  have hcs := Ch.setCell w7 ⟨X, 1, none⟩ (.int .i64 iv)
  rw [← hw8] at hcs
  have HX8 := Lib.hid (show Blk w8 X 43 #[.int .i64 kv, .int .i64 iv, .int .i64 0, .int .i64 0, .slice none 0 0] by rw [hw8]; exact blk_set hx 1 _)
  have HRB8 := Lib.hid (rrd_ch hrb hcs (fun e => by have e : R = X := e; omega) (fun a ha h0 e => by have h9 := HA.out a ha h0; have e : a.block = X := e; omega))
  have HC8 := Lib.hid (show Below (Z + 2) V w8 from (HC6.out.trans (hch.below (by have := HC6.out.size; omega) (fun k hk => by omega))).trans (hcs.below (by have := HC6.out.size; have := hch.size; omega) (fun k hk => by have hk : k = X := hk; omega)))
  have y0 := blk_cell (show Blk (w7.setCell ⟨X, 1, none⟩ (.int .i64 iv)) X 43 #[.int .i64 kv, .int .i64 iv, .int .i64 0, .int .i64 0, .slice none 0 0] from blk_set hx 1 _) 0 _ rfl
  clear hx hcs hrb hch HC6 HRB6 HX6
  by_cases hk1 : kv = 1
  · have gk : (kv == 1) = true := by simpa using hk1
    have HK1 := Lib.hid hk1
    clear hk1
    go_wp2_with fail
    rw [← hw8]
    clear hw8 f1 x1 y0
    refine (rn_any HRB8.out 1 60000).mono ?_
    obtain ⟨r3, hr3⟩ : ∃ z, z = rnum r2.2 1 60000 := ⟨_, rfl⟩
    rw [← hr3]
    have Hr3 := Lib.hid hr3
    clear hr3
    obtain ⟨sv, hsv⟩ : ∃ z, z = r3.1 := ⟨_, rfl⟩
    rintro e w9 ⟨he, hrb, hch⟩
    rw [← hsv] at he
    cases he
    have Hsv := Lib.hid hsv
    clear hsv
    have hx := blk_ch HX8.out hch (by omega)
    have f2 := blk_thawed hx 2
    have x2 := blk_cell hx 2 _ rfl
    obtain ⟨w10, hw10⟩ : ∃ z, z = w9.setCell ⟨X, 2, none⟩ (.int .i64 sv) := ⟨_, rfl⟩
    have hcs := Ch.setCell w9 ⟨X, 2, none⟩ (.int .i64 sv)
    rw [← hw10] at hcs
    have HX10 := Lib.hid (show Blk w10 X 43 #[.int .i64 kv, .int .i64 iv, .int .i64 sv, .int .i64 0, .slice none 0 0] by rw [hw10]; exact blk_set hx 2 _)
    have HRB10 := Lib.hid (rrd_ch hrb hcs (fun e => by have e : R = X := e; omega) (fun a ha h0 e => by have h9 := HA.out a ha h0; have e : a.block = X := e; omega))
    have HC10 := Lib.hid (show Below (Z + 2) V w10 from (HC8.out.trans (hch.below (by have := HC8.out.size; omega) (fun k hk => by omega))).trans (hcs.below (by have := HC8.out.size; have := hch.size; omega) (fun k hk => by have hk : k = X := hk; omega)))
    clear hx hcs hrb hch HC8 HRB8 HX8
    go_wp2_with fail
    rw [← hw10]
    clear hw10 f2 x2
    refine (rn_any HRB10.out 0 60000).mono ?_
    obtain ⟨r4n, hr4n⟩ : ∃ z, z = rnum r3.2 0 60000 := ⟨_, rfl⟩
    rw [← hr4n]
    have Hr4n := Lib.hid hr4n
    clear hr4n
    obtain ⟨av, hav⟩ : ∃ z, z = r4n.1 := ⟨_, rfl⟩
    rintro e w11 ⟨he, hrb, hch⟩
    rw [← hav] at he
    cases he
    have Hav := Lib.hid hav
    clear hav
    have hx := blk_ch HX10.out hch (by omega)
    have f3 := blk_thawed hx 3
    have x3 := blk_cell hx 3 _ rfl
    obtain ⟨w12, hw12⟩ : ∃ z, z = w11.setCell ⟨X, 3, none⟩ (.int .i64 av) := ⟨_, rfl⟩
    have hcs := Ch.setCell w11 ⟨X, 3, none⟩ (.int .i64 av)
    rw [← hw12] at hcs
    have HX12 := Lib.hid (show Blk w12 X 43 #[.int .i64 kv, .int .i64 iv, .int .i64 sv, .int .i64 av, .slice none 0 0] by rw [hw12]; exact blk_set hx 3 _)
    have HRB12 := Lib.hid (rrd_ch hrb hcs (fun e => by have e : R = X := e; omega) (fun a ha h0 e => by have h9 := HA.out a ha h0; have e : a.block = X := e; omega))
    have HC12 := Lib.hid (show Below (Z + 2) V w12 from (HC10.out.trans (hch.below (by have := HC10.out.size; omega) (fun k hk => by omega))).trans (hcs.below (by have := HC10.out.size; have := hch.size; omega) (fun k hk => by have hk : k = X := hk; omega)))
    clear hx hcs hrb hch HC10 HRB10 HX10
    go_wp2_with fail
    rw [← hw12]
    clear hw12 f3 x3
    have hX12 : X < w12.heap.size := blk_lt HX12.out
    refine (rrraw_any HRB12.out (by omega) 200).mono ?_
    obtain ⟨r5, hr5⟩ : ∃ z, z = rraw r4n.2 200 := ⟨_, rfl⟩
    rw [← hr5]
    have Hr5 := Lib.hid hr5
    clear hr5
    obtain ⟨lv, hlv⟩ : ∃ z, z = r5.1 := ⟨_, rfl⟩
    obtain ⟨rr, hrr⟩ : ∃ z, z = r5.2 := ⟨_, rfl⟩
    rintro e wa ⟨A7, n7, c7, rfl, hh7, hfr, hrb7, hch7⟩
    rw [← hlv] at hh7
    rw [← hrr] at hrb7
    have HGM := Lib.hid (show getM b = getW kv iv sv av lv (rend rr) by rw [Hkv.out, Hiv.out, Hsv.out, Hav.out, hlv, hrr]; exact getM_one Hr1.out Hr2.out Hr3.out Hr4n.out Hr5.out (by rw [← Hkv.out]; exact HK1.out))
    have HP0 := Lib.hid (show (rend rr).1 = 0 → (rend rr).2 = 0 from fun h => by
      obtain ⟨p, e⟩ := rend_p _ h
      rw [p, hrr]
      exact m0_one Hr1.out Hr2.out Hr3.out Hr4n.out Hr5.out (by rw [← hrr]; exact e))
    have hXa := blk_ch HX12.out hch7 (by omega)
    have f4 := blk_thawed hXa 4
    have x4 := blk_cell hXa 4 _ rfl
    have hlen7 : lv.length = n7 := by have := hh7.len; simpa using this
    have hn7 : n7 ≤ 9223372036854775807 := hh7.small
    have hcs := Ch.setCell wa ⟨X, 4, none⟩ (.slice A7 n7 c7)
    obtain ⟨wb, hwb⟩ : ∃ z, z = wa.setCell ⟨X, 4, none⟩ (.slice A7 n7 c7) := ⟨_, rfl⟩
    rw [← hwb] at hcs
    have HXb := Lib.hid (show Blk wb X 43 #[.int .i64 kv, .int .i64 iv, .int .i64 sv, .int .i64 av, .slice A7 n7 c7] by rw [hwb]; exact blk_set hXa 4 (.slice A7 n7 c7))
    have HRBb := Lib.hid (rrd_ch hrb7 hcs (fun e => by have e : R = X := e; omega) (fun a ha h0 e => by have h9 := HA.out a ha h0; have e : a.block = X := e; omega))
    have HAF := Lib.hid (show ∀ a, A7 = some a → X < a.block from fun a ha => by have := hfr a ha; omega)
    have HHb := Lib.hid (hh7.ch hcs (fun a ha e => by have h9 := HAF.out a ha; have e : a.block = X := e; omega))
    have HCb := Lib.hid (show Below (Z + 2) V wb from (HC12.out.trans (hch7.below (by have := HC12.out.size; omega) (fun k hk => by omega))).trans (hcs.below (by have := HC12.out.size; have := hch7.size; omega) (fun k hk => by have hk : k = X := hk; omega)))
    have HL7 := Lib.hid hlen7
    have hXwb : X < wb.heap.size := blk_lt HXb.out
    have hz2b := HCb.out.size
    clear hXa hh7 hfr hrb7 hch7 hcs hlen7 HX12 HRB12 HC12 hlv hrr gk
    go_wp2_with fail
    rw [← hwb]
    clear hwb f4 x4
    obtain ⟨r4, hr4⟩ : ∃ z, z = rend rr := ⟨_, rfl⟩
    have HR4 := Lib.hid hr4
    clear hr4
    refine (rrend_any HRBb.out).mono ?_
    rw [← HR4.out]
    have HGP := Lib.hid (show getM b = getW kv iv sv av lv r4 by rw [HR4.out]; exact HGM.out)
    rintro e wc ⟨rfl, hbc⟩
    have hzc := hbc.size
    obtain ⟨F, hF⟩ : ∃ z, z = wc.heap.size := ⟨_, rfl⟩
    obtain ⟨wd, hwd⟩ : ∃ z, z = wc.alloc (.cells #[.int .i64 r4.1, .int .i64 r4.2] 32) := ⟨_, rfl⟩
    have hbd : Below wc.heap.size wc wd := by rw [hwd]; exact box_below _ _
    have HFd := Lib.hid (show Blk wd F 32 #[.int .i64 r4.1, .int .i64 r4.2] by rw [hwd, hF]; exact blk_new _ _ _)
    have hXc := blk_below HXb.out hbc
    have HXd := Lib.hid (blk_below hXc hbd)
    have HHd := Lib.hid ((HHb.out.below hbc).below hbd)
    have HCd := Lib.hid (show Below (Z + 2) V wd from (HCb.out.trans (hbc.mono (by omega))).trans (hbd.mono (by omega)))
    have hXF : X < F := by omega
    have hZF : Z + 2 ≤ F := by omega
    have hFw := blk_lt HFd.out
    have e0 : (wc.alloc (.cells #[.int .i64 r4.1, .int .i64 r4.2] 32)).cell? ⟨X, 0, none⟩ = some (.int .i64 kv) := below_cell (box_below _ _) (blk_cell hXc 0 _ rfl)
    have e1 : (wc.alloc (.cells #[.int .i64 r4.1, .int .i64 r4.2] 32)).cell? ⟨X, 1, none⟩ = some (.int .i64 iv) := below_cell (box_below _ _) (blk_cell hXc 1 _ rfl)
    have e2 : (wc.alloc (.cells #[.int .i64 r4.1, .int .i64 r4.2] 32)).cell? ⟨X, 2, none⟩ = some (.int .i64 sv) := below_cell (box_below _ _) (blk_cell hXc 2 _ rfl)
    have e3 : (wc.alloc (.cells #[.int .i64 r4.1, .int .i64 r4.2] 32)).cell? ⟨X, 3, none⟩ = some (.int .i64 av) := below_cell (box_below _ _) (blk_cell hXc 3 _ rfl)
    have e4 : (wc.alloc (.cells #[.int .i64 r4.1, .int .i64 r4.2] 32)).cell? ⟨X, 4, none⟩ = some (.slice A7 n7 c7) := below_cell (box_below _ _) (blk_cell hXc 4 _ rfl)
    clear hbc hbd hXc HXb HRBb HHb HCb
    by_cases he : r4.1 = 0
    · have ge : (r4.1 != 0) = false := by simpa using he
      have HE := Lib.hid he
      clear he
      go_wp2_with fail
      rw [← hwd, ← hF]
      clear hwd hF e0 e1 e2 e3 e4
      refine (rmcheck_any kv iv sv av A7 n7 c7 _ hn7).mono ?_
      obtain ⟨ck, hck⟩ : ∃ z, z = chkM kv iv sv av n7 := ⟨_, rfl⟩
      rw [← hck]
      rintro e wf ⟨rfl, hbe⟩
      have hFe := blk_below HFd.out hbe
      have hXf := blk_below HXd.out hbe
      have hze := hbe.size
      have HCf := Lib.hid (show Below (Z + 2) V wf from HCd.out.trans (hbe.mono (by omega)))
      have HHf := Lib.hid (HHd.out.below hbe)
      have HXf := Lib.hid hXf; have HFf := Lib.hid hFe; have HCK := Lib.hid hck
      have HZf := Lib.hid (blk_same HZ0.out HCf.out (by omega)); have HYf := Lib.hid (blk_same HY0.out HCf.out (by omega))
      clear hFe hXf hbe hck
      have z0 := blk_thawed HZf.out 0
      have v0 := blk_cell HZf.out 0 _ rfl
      have z1 := blk_thawed HZf.out 1
      have v1 := blk_cell HZf.out 1 _ rfl
      have z2 := blk_thawed HZf.out 2
      have v2 := blk_cell HZf.out 2 _ rfl
      have z3 := blk_thawed HZf.out 3
      have v3 := blk_cell HZf.out 3 _ rfl
      have z4 := blk_thawed HZf.out 4
      have v4 := blk_cell HZf.out 4 _ rfl
      have y0 := blk_thawed HYf.out 0
      have yc0 := blk_cell HYf.out 0 _ rfl
      have y1 := blk_thawed HYf.out 1
      have yc1 := blk_cell HYf.out 1 _ rfl
      have e0 := blk_cell HXf.out 0 _ rfl
      have e1 := blk_cell HXf.out 1 _ rfl
      have e2 := blk_cell HXf.out 2 _ rfl
      have e3 := blk_cell HXf.out 3 _ rfl
      have e4 := blk_cell HXf.out 4 _ rfl
      have t0 := blk_cell HFf.out 0 _ rfl
      have t1 := blk_cell HFf.out 1 _ rfl
      by_cases hc : ck = 0
      · have gc : (ck != 0) = false := by simpa using hc
        have HCK0 := Lib.hid hc
        clear hc
        go_wp2_with fail
        go_region
        all_goals
          go_wp2
          have hq := put_ms HZf.out HYf.out (.int .i64 kv) (.int .i64 iv) (.int .i64 sv) (.int .i64 av) (.slice A7 n7 c7) (.int .i64 r4.1) (.int .i64 r4.2)
          have hq1 := blk_ch hq.1 (Ch.drew _ No) id
          have hq2 := blk_ch hq.2.1 (Ch.drew _ No) id
          have hz := HZW.out
          have hres : getM b = ⟨kv, iv, sv, av, lv, r4.1, r4.2⟩ := by
            rw [HGP.out, HE.out]
            exact (getW_mk kv iv sv av lv r4).1 HE.out (by rw [HL7.out, ← HCK.out]; exact HCK0.out)
          exact bodyPost_ret (results_two rfl _ _ Z (Z + 1) 43 32 _ _ (0, 0) (0, 0) _ _ rfl hq1 Try.underlying43 rfl (by kernel_rfl) rfl hq2 Try.underlying32 rfl (by kernel_rfl)) rfl ⟨A7, n7, c7, by rw [hres], by rw [hres]; exact (HHf.out.ch hq.2.2 (fun a ha e => by have h9 := HAF.out a ha; omega)).ch (Ch.drew _ No) (fun _ _ => id), (((Ch.of_below (HB0.out.trans (HCf.out.mono (by omega))) (fun j => Z ≤ j)).trans hq.2.2 (S := (fun j => Z ≤ j)) (fun i hi => by omega)).trans (Ch.drew _ No) (fun _ h => h.elim)).below (Nat.le_refl _) (fun j hj => by omega)⟩
      · have gc : (ck != 0) = true := by simpa using hc
        have HCK0 := Lib.hid hc
        clear hc
        go_wp2_with fail
        have hq := put_ms HZf.out HYf.out (.int .i64 0) (.int .i64 0) (.int .i64 0) (.int .i64 0) (.slice none 0 0) (.int .i64 2) (.int .i64 0)
        have hz := HZW.out
        have hres : getM b = ⟨0, 0, 0, 0, [], 2, 0⟩ := by
          have h2 : r4.2 = 0 := by rw [HR4.out]; exact HP0.out (by rw [← HR4.out]; exact HE.out)
          rw [HGP.out, (getW_mk kv iv sv av lv r4).2.1 HE.out (by rw [HL7.out, ← HCK.out]; exact HCK0.out), h2]
        exact bodyPost_ret (results_two rfl _ _ Z (Z + 1) 43 32 _ _ (0, 0) (0, 0) _ _ rfl hq.1 Try.underlying43 rfl (by kernel_rfl) rfl hq.2.1 Try.underlying32 rfl (by kernel_rfl)) rfl ⟨none, 0, 0, by rw [hres], by rw [hres]; exact nil_rd _ _, (((Ch.of_below (HB0.out.trans (HCf.out.mono (by omega))) (fun j => Z ≤ j)).trans hq.2.2 (S := (fun j => Z ≤ j)) (fun i hi => by omega))).below (Nat.le_refl _) (fun j hj => by omega)⟩
    · have ge : (r4.1 != 0) = true := by simpa using he
      have HE := Lib.hid he
      have HZf := Lib.hid (blk_same HZ0.out HCd.out (by omega)); have HYf := Lib.hid (blk_same HY0.out HCd.out (by omega))
      clear he
      have z0 := blk_thawed HZf.out 0
      have v0 := blk_cell HZf.out 0 _ rfl
      have z1 := blk_thawed HZf.out 1
      have v1 := blk_cell HZf.out 1 _ rfl
      have z2 := blk_thawed HZf.out 2
      have v2 := blk_cell HZf.out 2 _ rfl
      have z3 := blk_thawed HZf.out 3
      have v3 := blk_cell HZf.out 3 _ rfl
      have z4 := blk_thawed HZf.out 4
      have v4 := blk_cell HZf.out 4 _ rfl
      have y0 := blk_thawed HYf.out 0
      have yc0 := blk_cell HYf.out 0 _ rfl
      have y1 := blk_thawed HYf.out 1
      have yc1 := blk_cell HYf.out 1 _ rfl
      have t0 := blk_cell HFd.out 0 _ rfl
      have t1 := blk_cell HFd.out 1 _ rfl
      go_wp2_with fail
      rw [← hwd, ← hF]
      clear hwd hF e0 e1 e2 e3 e4
      go_region
      all_goals
        go_wp2
        have hq := put_ms HZf.out HYf.out (.int .i64 0) (.int .i64 0) (.int .i64 0) (.int .i64 0) (.slice none 0 0) (.int .i64 r4.1) (.int .i64 r4.2)
        have hq1 := blk_ch hq.1 (Ch.drew _ No) id
        have hq2 := blk_ch hq.2.1 (Ch.drew _ No) id
        have hz := HZW.out
        have hres : getM b = ⟨0, 0, 0, 0, [], r4.1, r4.2⟩ := by
          rw [HGP.out]
          exact (getW_mk kv iv sv av lv r4).2.2 HE.out
        exact bodyPost_ret (results_two rfl _ _ Z (Z + 1) 43 32 _ _ (0, 0) (0, 0) _ _ rfl hq1 Try.underlying43 rfl (by kernel_rfl) rfl hq2 Try.underlying32 rfl (by kernel_rfl)) rfl ⟨none, 0, 0, by rw [hres], by rw [hres]; exact nil_rd _ _, (((Ch.of_below (HB0.out.trans (HCd.out.mono (by omega))) (fun j => Z ≤ j)).trans hq.2.2 (S := (fun j => Z ≤ j)) (fun i hi => by omega)).trans (Ch.drew _ No) (fun _ h => h.elim)).below (Nat.le_refl _) (fun j hj => by omega)⟩
  · have gk : (kv == 1) = false := by simpa using hk1
    have HK1 := Lib.hid hk1
    clear hk1
    go_wp2_with fail
    rw [← hw8]
    clear gk
    clear hw8 f1 x1 y0
    obtain ⟨rr, hrr⟩ : ∃ z, z = r2.2 := ⟨_, rfl⟩
    obtain ⟨sv, hsv⟩ : ∃ z : Int, z = 0 := ⟨_, rfl⟩
    obtain ⟨av, hav⟩ : ∃ z : Int, z = 0 := ⟨_, rfl⟩
    obtain ⟨lv, hlv⟩ : ∃ z : List UInt8, z = [] := ⟨_, rfl⟩
    obtain ⟨A7, hA7⟩ : ∃ z : Option Addr, z = none := ⟨_, rfl⟩
    obtain ⟨n7, hn70⟩ : ∃ z : Nat, z = 0 := ⟨_, rfl⟩
    obtain ⟨c7, hc7⟩ : ∃ z : Nat, z = 0 := ⟨_, rfl⟩
    obtain ⟨wb, hwb⟩ : ∃ z, z = w8 := ⟨_, rfl⟩
    have HGM := Lib.hid (show getM b = getW kv iv sv av lv (rend rr) by rw [Hkv.out, Hiv.out, hsv, hav, hlv, hrr]; exact getM_two Hr1.out Hr2.out (by rw [← Hkv.out]; exact HK1.out))
    have HP0 := Lib.hid (show (rend rr).1 = 0 → (rend rr).2 = 0 from fun h => by
      obtain ⟨p, e⟩ := rend_p _ h
      rw [p, hrr]
      exact m0_two Hr1.out Hr2.out (by rw [← hrr]; exact e))
    have hlen7 : lv.length = n7 := by rw [hlv, hn70]; rfl
    have hn7 : n7 ≤ 9223372036854775807 := by omega
    have HXb := Lib.hid (show Blk wb X 43 #[.int .i64 kv, .int .i64 iv, .int .i64 sv, .int .i64 av, .slice A7 n7 c7] by rw [hwb, hsv, hav, hA7, hn70, hc7]; exact HX8.out)
    have HRBb := Lib.hid (show RRd wb R A0 n0 c0 rr by rw [hwb, hrr]; exact HRB8.out)
    have HAF := Lib.hid (show ∀ a, A7 = some a → X < a.block from fun a ha => by rw [hA7] at ha; cases ha)
    have HHb := Lib.hid (show Rd wb A7 n7 c7 1 (u8s lv) by rw [hlv, hA7, hn70, hc7]; exact nil_rd _ _)
    have HCb := Lib.hid (show Below (Z + 2) V wb by rw [hwb]; exact HC8.out)
    have HL7 := Lib.hid hlen7
    have hXwb : X < wb.heap.size := blk_lt HXb.out
    have hz2b := HCb.out.size
    rw [← hwb]
    clear hlen7 HX8 HRB8 HC8 hrr hsv hav hlv hA7 hn70 hc7 hwb
    obtain ⟨r4, hr4⟩ : ∃ z, z = rend rr := ⟨_, rfl⟩
    have HR4 := Lib.hid hr4
    clear hr4
    refine (rrend_any HRBb.out).mono ?_
    rw [← HR4.out]
    have HGP := Lib.hid (show getM b = getW kv iv sv av lv r4 by rw [HR4.out]; exact HGM.out)
    rintro e wc ⟨rfl, hbc⟩
    have hzc := hbc.size
    obtain ⟨F, hF⟩ : ∃ z, z = wc.heap.size := ⟨_, rfl⟩
    obtain ⟨wd, hwd⟩ : ∃ z, z = wc.alloc (.cells #[.int .i64 r4.1, .int .i64 r4.2] 32) := ⟨_, rfl⟩
    have hbd : Below wc.heap.size wc wd := by rw [hwd]; exact box_below _ _
    have HFd := Lib.hid (show Blk wd F 32 #[.int .i64 r4.1, .int .i64 r4.2] by rw [hwd, hF]; exact blk_new _ _ _)
    have hXc := blk_below HXb.out hbc
    have HXd := Lib.hid (blk_below hXc hbd)
    have HHd := Lib.hid ((HHb.out.below hbc).below hbd)
    have HCd := Lib.hid (show Below (Z + 2) V wd from (HCb.out.trans (hbc.mono (by omega))).trans (hbd.mono (by omega)))
    have hXF : X < F := by omega
    have hZF : Z + 2 ≤ F := by omega
    have hFw := blk_lt HFd.out
    have e0 : (wc.alloc (.cells #[.int .i64 r4.1, .int .i64 r4.2] 32)).cell? ⟨X, 0, none⟩ = some (.int .i64 kv) := below_cell (box_below _ _) (blk_cell hXc 0 _ rfl)
    have e1 : (wc.alloc (.cells #[.int .i64 r4.1, .int .i64 r4.2] 32)).cell? ⟨X, 1, none⟩ = some (.int .i64 iv) := below_cell (box_below _ _) (blk_cell hXc 1 _ rfl)
    have e2 : (wc.alloc (.cells #[.int .i64 r4.1, .int .i64 r4.2] 32)).cell? ⟨X, 2, none⟩ = some (.int .i64 sv) := below_cell (box_below _ _) (blk_cell hXc 2 _ rfl)
    have e3 : (wc.alloc (.cells #[.int .i64 r4.1, .int .i64 r4.2] 32)).cell? ⟨X, 3, none⟩ = some (.int .i64 av) := below_cell (box_below _ _) (blk_cell hXc 3 _ rfl)
    have e4 : (wc.alloc (.cells #[.int .i64 r4.1, .int .i64 r4.2] 32)).cell? ⟨X, 4, none⟩ = some (.slice A7 n7 c7) := below_cell (box_below _ _) (blk_cell hXc 4 _ rfl)
    clear hbc hbd hXc HXb HRBb HHb HCb
    by_cases he : r4.1 = 0
    · have ge : (r4.1 != 0) = false := by simpa using he
      have HE := Lib.hid he
      clear he
      go_wp2_with fail
      rw [← hwd, ← hF]
      clear hwd hF e0 e1 e2 e3 e4
      refine (rmcheck_any kv iv sv av A7 n7 c7 _ hn7).mono ?_
      obtain ⟨ck, hck⟩ : ∃ z, z = chkM kv iv sv av n7 := ⟨_, rfl⟩
      rw [← hck]
      rintro e wf ⟨rfl, hbe⟩
      have hFe := blk_below HFd.out hbe
      have hXf := blk_below HXd.out hbe
      have hze := hbe.size
      have HCf := Lib.hid (show Below (Z + 2) V wf from HCd.out.trans (hbe.mono (by omega)))
      have HHf := Lib.hid (HHd.out.below hbe)
      have HXf := Lib.hid hXf; have HFf := Lib.hid hFe; have HCK := Lib.hid hck
      have HZf := Lib.hid (blk_same HZ0.out HCf.out (by omega)); have HYf := Lib.hid (blk_same HY0.out HCf.out (by omega))
      clear hFe hXf hbe hck
      have z0 := blk_thawed HZf.out 0
      have v0 := blk_cell HZf.out 0 _ rfl
      have z1 := blk_thawed HZf.out 1
      have v1 := blk_cell HZf.out 1 _ rfl
      have z2 := blk_thawed HZf.out 2
      have v2 := blk_cell HZf.out 2 _ rfl
      have z3 := blk_thawed HZf.out 3
      have v3 := blk_cell HZf.out 3 _ rfl
      have z4 := blk_thawed HZf.out 4
      have v4 := blk_cell HZf.out 4 _ rfl
      have y0 := blk_thawed HYf.out 0
      have yc0 := blk_cell HYf.out 0 _ rfl
      have y1 := blk_thawed HYf.out 1
      have yc1 := blk_cell HYf.out 1 _ rfl
      have e0 := blk_cell HXf.out 0 _ rfl
      have e1 := blk_cell HXf.out 1 _ rfl
      have e2 := blk_cell HXf.out 2 _ rfl
      have e3 := blk_cell HXf.out 3 _ rfl
      have e4 := blk_cell HXf.out 4 _ rfl
      have t0 := blk_cell HFf.out 0 _ rfl
      have t1 := blk_cell HFf.out 1 _ rfl
      by_cases hc : ck = 0
      · have gc : (ck != 0) = false := by simpa using hc
        have HCK0 := Lib.hid hc
        clear hc
        go_wp2_with fail
        go_region
        all_goals
          go_wp2
          have hq := put_ms HZf.out HYf.out (.int .i64 kv) (.int .i64 iv) (.int .i64 sv) (.int .i64 av) (.slice A7 n7 c7) (.int .i64 r4.1) (.int .i64 r4.2)
          have hq1 := blk_ch hq.1 (Ch.drew _ No) id
          have hq2 := blk_ch hq.2.1 (Ch.drew _ No) id
          have hz := HZW.out
          have hres : getM b = ⟨kv, iv, sv, av, lv, r4.1, r4.2⟩ := by
            rw [HGP.out, HE.out]
            exact (getW_mk kv iv sv av lv r4).1 HE.out (by rw [HL7.out, ← HCK.out]; exact HCK0.out)
          exact bodyPost_ret (results_two rfl _ _ Z (Z + 1) 43 32 _ _ (0, 0) (0, 0) _ _ rfl hq1 Try.underlying43 rfl (by kernel_rfl) rfl hq2 Try.underlying32 rfl (by kernel_rfl)) rfl ⟨A7, n7, c7, by rw [hres], by rw [hres]; exact (HHf.out.ch hq.2.2 (fun a ha e => by have h9 := HAF.out a ha; omega)).ch (Ch.drew _ No) (fun _ _ => id), (((Ch.of_below (HB0.out.trans (HCf.out.mono (by omega))) (fun j => Z ≤ j)).trans hq.2.2 (S := (fun j => Z ≤ j)) (fun i hi => by omega)).trans (Ch.drew _ No) (fun _ h => h.elim)).below (Nat.le_refl _) (fun j hj => by omega)⟩
      · have gc : (ck != 0) = true := by simpa using hc
        have HCK0 := Lib.hid hc
        clear hc
        go_wp2_with fail
        have hq := put_ms HZf.out HYf.out (.int .i64 0) (.int .i64 0) (.int .i64 0) (.int .i64 0) (.slice none 0 0) (.int .i64 2) (.int .i64 0)
        have hz := HZW.out
        have hres : getM b = ⟨0, 0, 0, 0, [], 2, 0⟩ := by
          have h2 : r4.2 = 0 := by rw [HR4.out]; exact HP0.out (by rw [← HR4.out]; exact HE.out)
          rw [HGP.out, (getW_mk kv iv sv av lv r4).2.1 HE.out (by rw [HL7.out, ← HCK.out]; exact HCK0.out), h2]
        exact bodyPost_ret (results_two rfl _ _ Z (Z + 1) 43 32 _ _ (0, 0) (0, 0) _ _ rfl hq.1 Try.underlying43 rfl (by kernel_rfl) rfl hq.2.1 Try.underlying32 rfl (by kernel_rfl)) rfl ⟨none, 0, 0, by rw [hres], by rw [hres]; exact nil_rd _ _, (((Ch.of_below (HB0.out.trans (HCf.out.mono (by omega))) (fun j => Z ≤ j)).trans hq.2.2 (S := (fun j => Z ≤ j)) (fun i hi => by omega))).below (Nat.le_refl _) (fun j hj => by omega)⟩
    · have ge : (r4.1 != 0) = true := by simpa using he
      have HE := Lib.hid he
      have HZf := Lib.hid (blk_same HZ0.out HCd.out (by omega)); have HYf := Lib.hid (blk_same HY0.out HCd.out (by omega))
      clear he
      have z0 := blk_thawed HZf.out 0
      have v0 := blk_cell HZf.out 0 _ rfl
      have z1 := blk_thawed HZf.out 1
      have v1 := blk_cell HZf.out 1 _ rfl
      have z2 := blk_thawed HZf.out 2
      have v2 := blk_cell HZf.out 2 _ rfl
      have z3 := blk_thawed HZf.out 3
      have v3 := blk_cell HZf.out 3 _ rfl
      have z4 := blk_thawed HZf.out 4
      have v4 := blk_cell HZf.out 4 _ rfl
      have y0 := blk_thawed HYf.out 0
      have yc0 := blk_cell HYf.out 0 _ rfl
      have y1 := blk_thawed HYf.out 1
      have yc1 := blk_cell HYf.out 1 _ rfl
      have t0 := blk_cell HFd.out 0 _ rfl
      have t1 := blk_cell HFd.out 1 _ rfl
      go_wp2_with fail
      rw [← hwd, ← hF]
      clear hwd hF e0 e1 e2 e3 e4
      go_region
      all_goals
        go_wp2
        have hq := put_ms HZf.out HYf.out (.int .i64 0) (.int .i64 0) (.int .i64 0) (.int .i64 0) (.slice none 0 0) (.int .i64 r4.1) (.int .i64 r4.2)
        have hq1 := blk_ch hq.1 (Ch.drew _ No) id
        have hq2 := blk_ch hq.2.1 (Ch.drew _ No) id
        have hz := HZW.out
        have hres : getM b = ⟨0, 0, 0, 0, [], r4.1, r4.2⟩ := by
          rw [HGP.out]
          exact (getW_mk kv iv sv av lv r4).2.2 HE.out
        exact bodyPost_ret (results_two rfl _ _ Z (Z + 1) 43 32 _ _ (0, 0) (0, 0) _ _ rfl hq1 Try.underlying43 rfl (by kernel_rfl) rfl hq2 Try.underlying32 rfl (by kernel_rfl)) rfl ⟨none, 0, 0, by rw [hres], by rw [hres]; exact nil_rd _ _, (((Ch.of_below (HB0.out.trans (HCd.out.mono (by omega))) (fun j => Z ≤ j)).trans hq.2.2 (S := (fun j => Z ≤ j)) (fun i hi => by omega)).trans (Ch.drew _ No) (fun _ h => h.elim)).below (Nat.le_refl _) (fun j hj => by omega)⟩
end Go.Proofs.Ytncahekankbalaa
