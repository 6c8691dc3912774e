/- Walk: the packet of bytes (GetPacket). Conditions: the bytes are read, and short. -/
import Derived.Test.YtncahekankbalaaF3
namespace Go.Proofs.Ytncahekankbalaa
open Go.RowKit
set_option linter.unusedVariables false
set_option linter.unusedSimpArgs false

/-- what is read: a packet, the fault -/
structure Pkt where
  f : Int
  t : Int
  n : Int
  a : Int
  l : List UInt8
  e : Int
  p : Int
def rdN (s : Rdr) (k : Nat) : Int × Rdr := match k with
  | 0 => rnum s 0 1099511627776
  | k + 1 => rnum (rdN s k).2 0 1099511627776
def gF (x : List UInt8) : Int × Rdr := rnum ⟨x, 0, 0, 0⟩ 1 1099511627776
def gN (x : List UInt8) (k : Nat) : Int × Rdr := rdN (gF x).2 k
def gL (x : List UInt8) : List UInt8 × Rdr := rraw (gN x 2).2 400
def gE (x : List UInt8) : Int × Int := rend (gL x).2
def getX (x : List UInt8) : Pkt := if (gE x).1 = 0 then (if chkP (gF x).1 (gN x 0).1 (gN x 1).1 (gN x 2).1 (gL x).1.length = 0 then ⟨(gF x).1, (gN x 0).1, (gN x 1).1, (gN x 2).1, (gL x).1, 0, (gE x).2⟩ else ⟨0, 0, 0, 0, [], 2, (gE x).2⟩) else ⟨0, 0, 0, 0, [], (gE x).1, (gE x).2⟩
def getP (b : List UInt8) : Pkt := if b.length < 8 then ⟨0, 0, 0, 0, [], 11, 0⟩ else if sum8 (b.take (b.length - 8)) = b.drop (b.length - 8) then getX (b.take (b.length - 8)) else ⟨0, 0, 0, 0, [], 11, 0⟩
theorem getX_mk (x : List UInt8) (r1 : Int × Rdr) (u0 u1 u2 : Int) (r3 : List UInt8 × Rdr) (r4 : Int × Int) (h1 : r1 = gF x) (h2 : u0 = (rdN r1.2 0).1 ∧ u1 = (rdN r1.2 1).1 ∧ u2 = (rdN r1.2 2).1) (h3 : r3 = gL x) (h4 : r4 = gE x) :
    (r4.1 = 0 → chkP r1.1 u0 u1 u2 r3.1.length = 0 → getX x = ⟨r1.1, u0, u1, u2, r3.1, 0, r4.2⟩) ∧ (r4.1 = 0 → chkP r1.1 u0 u1 u2 r3.1.length ≠ 0 → getX x = ⟨0, 0, 0, 0, [], 2, r4.2⟩) ∧ (r4.1 ≠ 0 → getX x = ⟨0, 0, 0, 0, [], r4.1, r4.2⟩) := by
  subst h1; subst h3; subst h4
  obtain ⟨rfl, rfl, rfl⟩ := h2
  refine ⟨fun a b => ?_, fun a b => ?_, fun a => ?_⟩
  · unfold getX; rw [if_pos a]; exact if_pos b
  · unfold getX; rw [if_pos a]; exact if_neg b
  · unfold getX; rw [if_neg a]
def PktQ (w : World) (r : Pkt) (e : Ending) (w' : World) : Prop := ∃ A n c, e = .returned (.tuple #[.agg #[.int .i64 r.f, .int .i64 r.t, .int .i64 r.n, .int .i64 r.a, .slice A n c], .agg #[.int .i64 r.e, .int .i64 r.p]]) ∧ Held w' w.heap.size A n c r.l ∧ Below w.heap.size w w'
/-- two results are laid down -/
theorem put_pk {W : World} {Z : Nat} {z0 z1 z2 z3 z4 y0 y1 : Value} (hZ : Blk W Z 24 #[z0, z1, z2, z3, z4]) (hY : Blk W (Z + 1) 32 #[y0, y1]) (a0 a1 a2 a3 a4 b0 b1 : Value) :
    Blk (((((((W.setCell ⟨Z, 0, none⟩ a0).setCell ⟨Z, 1, none⟩ a1).setCell ⟨Z, 2, none⟩ a2).setCell ⟨Z, 3, none⟩ a3).setCell ⟨Z, 4, none⟩ a4).setCell ⟨Z + 1, 0, none⟩ b0).setCell ⟨Z + 1, 1, none⟩ b1) Z 24 #[a0, a1, a2, a3, a4] ∧
    Blk (((((((W.setCell ⟨Z, 0, none⟩ a0).setCell ⟨Z, 1, none⟩ a1).setCell ⟨Z, 2, none⟩ a2).setCell ⟨Z, 3, none⟩ a3).setCell ⟨Z, 4, none⟩ a4).setCell ⟨Z + 1, 0, none⟩ b0).setCell ⟨Z + 1, 1, none⟩ b1) (Z + 1) 32 #[b0, b1] ∧
    Ch (fun j => j = Z ∨ j = Z + 1) W (((((((W.setCell ⟨Z, 0, none⟩ a0).setCell ⟨Z, 1, none⟩ a1).setCell ⟨Z, 2, none⟩ a2).setCell ⟨Z, 3, none⟩ a3).setCell ⟨Z, 4, none⟩ a4).setCell ⟨Z + 1, 0, none⟩ b0).setCell ⟨Z + 1, 1, none⟩ b1) := by
  have n1 : ∀ (o : Nat), ¬ (Z = (⟨Z + 1, o, none⟩ : Addr).block) := fun o e => by have e : Z = Z + 1 := e; omega
  have n2 : ∀ (o : Nat), ¬ (Z + 1 = (⟨Z, o, none⟩ : Addr).block) := fun o e => by have e : Z + 1 = Z := e; omega
  exact ⟨blk_ch (blk_ch (blk_set (blk_set (blk_set (blk_set (blk_set (hZ) 0 a0) 1 a1) 2 a2) 3 a3) 4 a4) (Ch.setCell _ ⟨Z + 1, 0, none⟩ b0) (n1 0)) (Ch.setCell _ ⟨Z + 1, 1, none⟩ b1) (n1 1), blk_set (blk_set (blk_ch (blk_ch (blk_ch (blk_ch (blk_ch (hY) (Ch.setCell _ ⟨Z, 0, none⟩ a0) (n2 0)) (Ch.setCell _ ⟨Z, 1, none⟩ a1) (n2 1)) (Ch.setCell _ ⟨Z, 2, none⟩ a2) (n2 2)) (Ch.setCell _ ⟨Z, 3, none⟩ a3) (n2 3)) (Ch.setCell _ ⟨Z, 4, none⟩ a4) (n2 4)) 0 b0) 1 b1, ch_set (ch_set (ch_set (ch_set (ch_set (ch_set (ch_set (Ch.refl _ W) ⟨Z, 0, none⟩ _ (.inl rfl)) ⟨Z, 1, none⟩ _ (.inl rfl)) ⟨Z, 2, none⟩ _ (.inl rfl)) ⟨Z, 3, none⟩ _ (.inl rfl)) ⟨Z, 4, none⟩ _ (.inl rfl)) ⟨Z + 1, 0, none⟩ _ (.inr rfl)) ⟨Z + 1, 1, none⟩ _ (.inr rfl)⟩
/-- the packet's cells behind k of the three numbers -/
def pcs (f : Int) (s : Rdr) (k : Nat) : Array Value := #[.int .i64 f, .int .i64 (if 0 < k then (rdN s 0).1 else 0), .int .i64 (if 1 < k then (rdN s 1).1 else 0), .int .i64 (if 2 < k then (rdN s 2).1 else 0), .slice none 0 0]
def rdS (s : Rdr) (k : Nat) : Rdr := match k with
  | 0 => s
  | k + 1 => (rdN s k).2
theorem rdN_S (s : Rdr) : ∀ k, rdN s k = rnum (rdS s k) 0 1099511627776
  | 0 => rfl
  | _ + 1 => rfl
theorem pcs_at (f : Int) (s : Rdr) (k : Nat) (h : k < 3) : (pcs f s k)[k + 1]? = some (.int .i64 0) := by
  have : k = 0 ∨ k = 1 ∨ k = 2 := by omega
  rcases this with rfl | rfl | rfl <;> rfl
theorem pcs_set (f : Int) (s : Rdr) (k : Nat) (h : k < 3) : (pcs f s k).setIfInBounds (k + 1) (.int .i64 (rdN s k).1) = pcs f s (k + 1) := by
  have : k = 0 ∨ k = 1 ∨ k = 2 := by omega
  rcases this with rfl | rfl | rfl <;> rfl
def ptrs (X : Nat) : Array Value := #[.pointer (some ⟨X, 1, none⟩), .pointer (some ⟨X, 2, none⟩), .pointer (some ⟨X, 3, none⟩)]
theorem blk_same {w w2 : World} {B g t : Nat} {cs : Array Value} (h : Blk w g t cs) (hb : Below B w w2) (hg : g < B) : Blk w2 g t cs := (hb.block g hg).trans h
theorem ptrs_at (X k : Nat) (h : k < 3) : (ptrs X)[k]? = some (.pointer (some ⟨X, k + 1, none⟩)) := by
  have : k = 0 ∨ k = 1 ∨ k = 2 := by omega
  rcases this with rfl | rfl | rfl <;> rfl
set_option maxRecDepth 100000 in
set_option maxHeartbeats 8000000 in
theorem pget_any {A0 : Option Addr} {n0 c0 : Nat} {b : List UInt8} {w : World} (hr : Rd w A0 n0 c0 1 (u8s b)) (hn : n0 ≤ 100000000) : Calls Try.prog 13 #[.slice A0 n0 c0] w (PktQ w (getP b)) := by
  have hl : b.length = n0 := by have := hr.len; simpa using this
  obtain ⟨Z, hZ⟩ : ∃ z, z = w.heap.size := ⟨_, rfl⟩
  obtain ⟨V, hV⟩ : ∃ z, z = (w.alloc (.cells #[.int .i64 0, .int .i64 0, .int .i64 0, .int .i64 0, .slice none 0 0] 24)).alloc (.cells #[.int .i64 0, .int .i64 0] 32) := ⟨_, rfl⟩
  obtain ⟨b1, b2, b3⟩ := two_new w #[.int .i64 0, .int .i64 0, .int .i64 0, .int .i64 0, .slice none 0 0] 24 #[.int .i64 0, .int .i64 0] 32
  rw [← hV, ← hZ] at b1 b2
  rw [← hV] at b3
  have hsz : Z + 2 = V.heap.size := by rw [hV, hZ]; simp
  have hcap := hr.cap
  have hbig := hr.big
  have hAZ := fun a (ha : A0 = some a) (h0 : 0 < n0) => rd_in hr a ha h0
  have HR := Lib.hid (hr.below b3); have HB0 := Lib.hid b3; have HZ0 := Lib.hid b1; have HY0 := Lib.hid b2; have HL := Lib.hid hl; have HZW := Lib.hid hZ
  have HAZ := Lib.hid (show ∀ a, A0 = some a → 0 < n0 → a.block < Z from fun a ha h0 => by have := hAZ a ha h0; omega)
  clear b1 b2 b3 hr hl hAZ
  by_cases hs : n0 < 8
  · have hw : IntKind.i64.wrap ((n0 : Int) - 8) = (n0 : Int) - 8 := by rw [IntKind.wrap_i64]; omega
    have hneg : decide ((n0 : Int) - 8 < 0) = true := decide_eq_true (by omega)
    have z0 := blk_thawed HZ0.out 0
    have v0 := blk_cell HZ0.out 0 _ rfl
    have z1 := blk_thawed HZ0.out 1
    have v1 := blk_cell HZ0.out 1 _ rfl
    have z2 := blk_thawed HZ0.out 2
    have v2 := blk_cell HZ0.out 2 _ rfl
    have z3 := blk_thawed HZ0.out 3
    have v3 := blk_cell HZ0.out 3 _ rfl
    have z4 := blk_thawed HZ0.out 4
    have v4 := blk_cell HZ0.out 4 _ rfl
    have y0 := blk_thawed HY0.out 0
    have yc0 := blk_cell HY0.out 0 _ rfl
    have y1 := blk_thawed HY0.out 1
    have yc1 := blk_cell HY0.out 1 _ rfl
    go_enter Try.func13, Try.ntmps13
    go_wp2_with fail
    rw [← hV, ← hZ]
    clear hV hZ
    go_quiet (fail)
    go_wp2_with fail
    have hq := put_pk (blk_ch HZ0.out (ch_drewN No V nq) id) (blk_ch HY0.out (ch_drewN No V nq) id) (.int .i64 0) (.int .i64 0) (.int .i64 0) (.int .i64 0) (.slice none 0 0) (.int .i64 11) (.int .i64 0)
    have hz := HZW.out
    have hres : getP b = ⟨0, 0, 0, 0, [], 11, 0⟩ := by unfold getP; rw [HL.out, if_pos hs]
    exact bodyPost_ret (results_two rfl _ _ Z (Z + 1) 24 32 _ _ (0, 0) (0, 0) _ _ rfl hq.1 Try.underlying24 rfl (by kernel_rfl) rfl hq.2.1 Try.underlying32 rfl (by kernel_rfl)) rfl ⟨none, 0, 0, by rw [hres], by rw [hres]; exact held_nil _ _, ((((Ch.of_below HB0.out (fun j => j = Z ∨ j = Z + 1)).trans (ch_drewN No V nq) (fun _ h => h.elim)).trans hq.2.2 (S := (fun j => j = Z ∨ j = Z + 1)) (fun i hi => by omega))).below (Nat.le_refl _) (fun j hj => by omega)⟩
  obtain ⟨k0, rfl⟩ : ∃ k0, n0 = k0 + 8 := ⟨n0 - 8, by omega⟩
  have hw : IntKind.i64.wrap (((k0 + 8 : Nat) : Int) - 8) = (k0 : Int) := by rw [IntKind.wrap_i64]; omega
  have hneg : decide ((k0 : Int) < 0) = false := decide_eq_false (by omega)
  have hk0 : (0 : Int) ≤ (k0 : Int) := by omega
  have hkc : (k0 : Int) ≤ (c0 : Int) := by omega
  have hkn : (k0 : Int) ≤ (k0 : Int) + 8 := by omega
  have hne : ¬ (c0 = k0) := by omega
  obtain ⟨ab, off, hA0, _⟩ := HR.out.cells 0 _ (u8s_get b 0 (by have := HL.out; omega))
  subst hA0
  obtain ⟨x, hx⟩ : ∃ x, x = b.take k0 := ⟨_, rfl⟩
  obtain ⟨y, hy⟩ : ∃ y, y = b.drop k0 := ⟨_, rfl⟩
  have hcx : Rd V (some ⟨ab, off, none⟩) k0 c0 1 (u8s x) := by
    have := HR.out.cut 0 k0 (by omega) (u8s x) (by rw [Nat.zero_mul, List.drop_zero, Nat.mul_one, u8s_take, hx])
    simpa [Addr.add] using this
  have hcy : Rd V (some ⟨ab, off + k0, none⟩) 8 (c0 - k0) 1 (u8s y) := by
    have := HR.out.cut k0 8 (by omega) (u8s y) (by rw [Nat.mul_one, Nat.mul_one, u8s_drop, u8s_take, hy, List.take_of_length_le (by rw [List.length_drop]; have := HL.out; omega)])
    rw [Option.map_some, Nat.mul_one] at this
    have e : (⟨ab, off, none⟩ : Addr).add k0 = ⟨ab, off + k0, none⟩ := by unfold Addr.add; split <;> simp_all
    rw [e] at this
    exact this
  have HCX := Lib.hid hcx; have HCY := Lib.hid hcy; have HX := Lib.hid hx; have HY := Lib.hid hy
  have q1 := hcx.ch (Ch.drew V No) (fun _ _ => id)
  have q2 := hcy.ch (Ch.drew V No) (fun _ _ => id)
  clear hs hcx hcy hx hy
  have hxb : b.take (b.length - 8) = x ∧ b.drop (b.length - 8) = y ∧ ¬ (b.length < 8) := by
    have h1 := HL.out; have h2 := HX.out; have h3 := HY.out
    rw [h1, Nat.add_sub_cancel]
    exact ⟨h2.symm, h3.symm, by omega⟩
  have HXB := Lib.hid hxb
  clear hxb
  by_cases heq : sum8 x = y
  · have HEQ := Lib.hid (show eqB (sum8 x) y = true by unfold eqB; rw [beq_iff_eq]; exact heq)
    have HGP := Lib.hid (show getP b = getX x by unfold getP; rw [if_neg HXB.out.2.2, HXB.out.1, HXB.out.2.1, if_pos heq])
    clear heq
    go_enter Try.func13, Try.ntmps13
    go_wp2_with fail
    rw [← hV, ← hZ]
    clear hV hZ
    have s0 : V.drew.cell? ⟨Z, 0, none⟩ = some (.int .i64 0) := blk_cell HZ0.out 0 _ rfl
    go_region_held3 (fun W => W.cell? ⟨Z, 0, none⟩ = some (.int .i64 0)) (first | exact s2 | exact s0) (first | (go_at_call 36; ((with_reducible refine (fsum_any q1).mono ?_); rintro e w2 ⟨A8, c8, rfl, hr8, hf8, hb8⟩; have s2 := below_cell hb8 s0)) | (go_at_call 41; ((with_reducible refine (equal_any hr8 (q2.below hb8)).mono ?_); rw [HEQ.out]; rintro e wx ⟨rfl, rfl⟩)))
    have hb2 : Below V.heap.size V w2 := ((Ch.drew V No).below (Nat.le_refl _) (fun _ h => h.elim)).trans hb8
    have HB2 := Lib.hid (HB0.out.trans (hb2.mono HB0.out.size)); have HZ2 := Lib.hid (blk_below HZ0.out hb2); have HY2 := Lib.hid (blk_below HY0.out hb2)
    have hz2 := hb2.size
    have HCX2 := Lib.hid (HCX.out.below hb2)
    clear hb2 hb8 hr8 hf8 s0 s2 q1 q2
    go_wp2_with fail
    refine (open_any HCX2.out (by omega)).mono ?_
    rintro e w3 ⟨R, A, n, c, rfl, hrb, hR, hA, hb3⟩
    have hn1 : n ≤ 100000000 := by have h9 : x.length = n := rdb_len hrb; have h8 := HCX2.out.len; rw [u8s_length] at h8; omega
    have hR3 : R < w3.heap.size := rdb_lt hrb
    obtain ⟨X, hX⟩ : ∃ z, z = w3.heap.size := ⟨_, rfl⟩
    have HA := Lib.hid (show ∀ a, A = some a → 0 < n → Z + 2 ≤ a.block ∧ a.block < X from fun a ha h0 => ⟨by have := hA a ha; omega, by have := rd_in hrb.rd a ha h0; omega⟩)
    obtain ⟨w4, hw4⟩ : ∃ z, z = w3.alloc (.cells #[.int .i64 0, .int .i64 0, .int .i64 0, .int .i64 0, .slice none 0 0] 24) := ⟨_, rfl⟩
    have hb4 : Below w3.heap.size w3 w4 := by rw [hw4]; exact box_below _ _
    have hX4 : Blk w4 X 24 #[.int .i64 0, .int .i64 0, .int .i64 0, .int .i64 0, .slice none 0 0] := by rw [hw4, hX]; exact blk_new _ _ _
    have HC4 := Lib.hid (show Below (Z + 2) w2 w4 from (hb3.trans (hb4.mono hb3.size)).mono (by omega))
    have HRB4 := Lib.hid (rdb_ch hrb (Ch.of_below hb4 No) id (fun _ _ => id)); have HX4 := Lib.hid hX4
    have hRX : R < X := by omega
    have hZR : Z + 2 ≤ R := by omega
    have hz4 := HC4.out.size
    clear hrb hb3 hb4 hX4 hA
    go_wp2_with fail
    rw [← hw4, ← hX]
    clear hw4 hX
    obtain ⟨r1, hr1⟩ : ∃ z, z = gF x := ⟨_, rfl⟩
    refine (num_any HRB4.out 1 1099511627776).mono ?_
    rw [show rnum ⟨x, 0, 0, 0⟩ 1 1099511627776 = r1 from hr1.symm]
    rintro e w5 ⟨rfl, hrb5, hch5⟩
    have hX5 := blk_ch HX4.out hch5 (by omega)
    have f0 := blk_thawed hX5 0
    have x0 := blk_cell hX5 0 _ rfl
    obtain ⟨P, hP⟩ : ∃ z, z = w5.heap.size := ⟨_, rfl⟩
    obtain ⟨w7, hw7⟩ : ∃ z, z = (w5.setCell ⟨X, 0, none⟩ (.int .i64 r1.1)).alloc (.cells #[.pointer (some ⟨X, 1, none⟩), .pointer (some ⟨X, 2, none⟩), .pointer (some ⟨X, 3, none⟩)] 63) := ⟨_, rfl⟩
    have hc6 := Ch.setCell w5 ⟨X, 0, none⟩ (.int .i64 r1.1)
    have hb7 : Below (w5.setCell ⟨X, 0, none⟩ (.int .i64 r1.1)).heap.size (w5.setCell ⟨X, 0, none⟩ (.int .i64 r1.1)) w7 := by rw [hw7]; exact box_below _ _
    have hX7 : Blk w7 X 24 (pcs r1.1 r1.2 0) := blk_below (show Blk (w5.setCell ⟨X, 0, none⟩ (.int .i64 r1.1)) X 24 (pcs r1.1 r1.2 0) from blk_set hX5 0 (.int .i64 r1.1)) hb7
    have hP7 : Blk w7 P 63 (ptrs X) := by
      have h9 : (w5.setCell ⟨X, 0, none⟩ (.int .i64 r1.1)).heap.size = w5.heap.size := by simp
      rw [hw7, hP, ← h9]; exact blk_new _ _ _
    have hrb7 : RdB w7 R A n c (rdS r1.2 0) := rdb_ch (rdb_ch0 hrb5 hc6 (fun e => by have e : R = X := e; omega) (fun a ha h0 e => by have h9 := HA.out a ha h0; have e : a.block = X := e; omega)) (Ch.of_below hb7 No) id (fun _ _ => id)
    have HC7 := Lib.hid (show Below (Z + 2) w2 w7 from ((HC4.out.trans (hch5.below (by omega) (fun k hk => by omega))).trans (hc6.below (by have := hch5.size; omega) (fun k hk => by have hk : k = X := hk; omega))).trans (hb7.mono (by have := hch5.size; have := hc6.size; omega)))
    have hXP : X < P := by have h1 := blk_lt hX5; have h2 := hc6.size; omega
    have HX7 := Lib.hid hX7; have HP7 := Lib.hid hP7; have HRB7 := Lib.hid hrb7; have HR1 := Lib.hid hr1
    have hz7 := HC7.out.size
    clear hX7 hP7 hrb7 hb7 hc6 hrb5 hch5 hX5 HX4 HRB4 hr1
    go_wp2_with fail
    rw [← hw7, ← hP]
    clear hw7 hP f0 x0
    go_loopw [40] (fun i wr => ∃ k : Nat, k ≤ 3 ∧ i = .int .i64 k ∧ RdB wr R A n c (rdS r1.2 k) ∧ Blk wr X 24 (pcs r1.1 r1.2 k) ∧ Blk wr P 63 (ptrs X) ∧ Below (Z + 2) w2 wr) (fun i _ => 3 - (intOf i).toNat)
    case atStart => exact ⟨0, by omega, rfl, HRB7.out, HX7.out, HP7.out, HC7.out⟩
    case round =>
      clear HX7 HP7 HRB7 HC7 HC4 hz4 hz7
      obtain ⟨k, hk, rfl, hrb, hx, hp, hc⟩ := hrel
      have HRB := Lib.hid hrb; have HXr := Lib.hid hx; have HPr := Lib.hid hp; have HCr := Lib.hid hc
      have hzr := hc.size
      clear hrb hc
      by_cases hlt : k < 3
      · have hpk : wr.cell? ⟨P, k, none⟩ = some (.pointer (some ⟨X, k + 1, none⟩)) := blk_cell hp k _ (ptrs_at X k hlt)
        clear hx hp
        go_wp2_with fail
        refine (num_any HRB.out 0 1099511627776).mono ?_
        rw [← rdN_S]
        rintro e w8 ⟨rfl, hrb8, hch8⟩
        have hx8 := blk_ch HXr.out hch8 (by omega)
        have hp8 := blk_ch HPr.out hch8 (by omega)
        have x1 := blk_cell hx8 (k + 1) _ (pcs_at r1.1 r1.2 k hlt)
        have f1 := blk_thawed hx8 (k + 1)
        have hx9 := blk_set hx8 (k + 1) (.int .i64 (rdN r1.2 k).1)
        rw [pcs_set r1.1 r1.2 k hlt] at hx9
        have hcs := Ch.setCell w8 ⟨X, k + 1, none⟩ (.int .i64 (rdN r1.2 k).1)
        have hp9 := blk_ch hp8 hcs (fun e => by have e : P = X := e; omega)
        have hrb9 : RdB (w8.setCell ⟨X, k + 1, none⟩ (.int .i64 (rdN r1.2 k).1)) R A n c (rdS r1.2 (k + 1)) := rdb_ch0 hrb8 hcs (fun e => by have e : R = X := e; omega) (fun a ha h0 e => by have h9 := HA.out a ha h0; have e : a.block = X := e; omega)
        have hc9 : Below (Z + 2) w2 (w8.setCell ⟨X, k + 1, none⟩ (.int .i64 (rdN r1.2 k).1)) := (HCr.out.trans (hch8.below (by omega) (fun k hk => by omega))).trans (hcs.below (by have := hch8.size; omega) (fun k hk => by have hk : k = X := hk; omega))
        have HX9 := Lib.hid hx9; have HP9 := Lib.hid hp9; have HRB9 := Lib.hid hrb9; have HC9 := Lib.hid hc9
        clear hx8 hp8 hx9 hcs hp9 hrb9 hc9 hrb8 hch8 hpk
        go_wp2
        go_roundw
        case rel => exact ⟨k + 1, by omega, by go_num, HRB9.out, HX9.out, HP9.out, HC9.out⟩
        case measure => simp [intOf]; omega
      · obtain rfl : k = 3 := by omega
        have HX10 := Lib.hid (show Blk wr X 24 #[.int .i64 r1.1, .int .i64 (rdN r1.2 0).1, .int .i64 (rdN r1.2 1).1, .int .i64 (rdN r1.2 2).1, .slice none 0 0] from hx)
        obtain ⟨u0, hu0⟩ : ∃ z, z = (rdN r1.2 0).1 := ⟨_, rfl⟩
        obtain ⟨u1, hu1⟩ : ∃ z, z = (rdN r1.2 1).1 := ⟨_, rfl⟩
        obtain ⟨u2, hu2⟩ : ∃ z, z = (rdN r1.2 2).1 := ⟨_, rfl⟩
        rw [← hu0, ← hu1, ← hu2] at HX10
        have HU := Lib.hid (And.intro hu0 (And.intro hu1 hu2))
        clear hu0 hu1 hu2 hx hp HXr HPr
        obtain ⟨r3, hr3⟩ : ∃ z, z = gL x := ⟨_, rfl⟩
        have HR3 := Lib.hid hr3
        clear hr3
        go_wp2_with fail
        refine (raw_any HRB.out (by omega) 400).mono ?_
        rw [show rraw (rdS r1.2 3) 400 = r3 by rw [HR3.out, HR1.out]; rfl]
        rintro e wa ⟨A7, n7, c7, rfl, hh7, hrb7, hch7⟩
        have hXa := blk_ch HX10.out hch7 (by omega)
        have hXr : X < wr.heap.size := blk_lt HX10.out
        have f4 := blk_thawed hXa 4
        have x4 := blk_cell hXa 4 _ rfl
        have hlen7 : r3.1.length = n7 := held_len hh7
        have hn7 : n7 ≤ 9223372036854775807 := (held_rd hh7).small
        have hcs := Ch.setCell wa ⟨X, 4, none⟩ (.slice A7 n7 c7)
        obtain ⟨wb, hwb⟩ : ∃ z, z = wa.setCell ⟨X, 4, none⟩ (.slice A7 n7 c7) := ⟨_, rfl⟩
        rw [← hwb] at hcs
        have hXb : Blk wb X 24 #[.int .i64 r1.1, .int .i64 u0, .int .i64 u1, .int .i64 u2, .slice A7 n7 c7] := by rw [hwb]; exact blk_set hXa 4 (.slice A7 n7 c7)
        have hrbb : RdB wb R A n c r3.2 := rdb_ch0 hrb7 hcs (fun e => by have e : R = X := e; omega) (fun a ha h0 e => by have h9 := HA.out a ha h0; have e : a.block = X := e; omega)
        have hhb : Held wb wr.heap.size A7 n7 c7 r3.1 := held_ch hh7 hcs (fun a ha e => by have h9 := (held_lt hh7 a ha).1; have e : a.block = X := e; omega)
        have hcb : Below (Z + 2) w2 wb := (HCr.out.trans (hch7.below (by omega) (fun k hk => by omega))).trans (hcs.below (by have := hch7.size; omega) (fun k hk => by have hk : k = X := hk; omega))
        have HXb := Lib.hid hXb; have HRBb := Lib.hid hrbb; have HHb := Lib.hid hhb; have HCb := Lib.hid hcb; have HL7 := Lib.hid hlen7
        have hzb : wr.heap.size ≤ wb.heap.size := Nat.le_trans hch7.size hcs.size
        have hz2b := hcb.size
        clear hXa hXb hrbb hhb hcb hh7 hrb7 hch7 hcs hlen7 HX10
        go_wp2_with fail
        rw [← hwb]
        clear hwb f4 x4
        obtain ⟨r4, hr4⟩ : ∃ z, z = gE x := ⟨_, rfl⟩
        have HR4 := Lib.hid hr4
        clear hr4
        refine (end_any HRBb.out).mono ?_
        rw [show rend r3.2 = r4 by rw [HR4.out, HR3.out]; rfl]
        rintro e wc ⟨rfl, hbc⟩
        have hzc := hbc.size
        obtain ⟨F, hF⟩ : ∃ z, z = wc.heap.size := ⟨_, rfl⟩
        obtain ⟨wd, hwd⟩ : ∃ z, z = wc.alloc (.cells #[.int .i64 r4.1, .int .i64 r4.2] 32) := ⟨_, rfl⟩
        have hbd : Below wc.heap.size wc wd := by rw [hwd]; exact box_below _ _
        have hFd : Blk wd F 32 #[.int .i64 r4.1, .int .i64 r4.2] := by rw [hwd, hF]; exact blk_new _ _ _
        have hXd := blk_below (blk_below HXb.out hbc) hbd
        have hXc := blk_below HXb.out hbc
        have HFd := Lib.hid hFd; have HXd := Lib.hid hXd
        have HHd := Lib.hid (held_ch (held_ch HHb.out (Ch.of_below hbc No) (fun _ _ => id)) (Ch.of_below hbd No) (fun _ _ => id))
        have HAF := Lib.hid (show ∀ a, A7 = some a → X < a.block ∧ a.block < F from fun a ha => by have h1 := held_lt HHb.out a ha; omega)
        have HCd := Lib.hid (show Below (Z + 2) w2 wd from (HCb.out.trans (hbc.mono (by omega))).trans (hbd.mono (by omega)))
        have hXF : X < F := by omega
        have hZF : Z + 2 ≤ F := by omega
        have hFw := blk_lt hFd
        have e0 : (wc.alloc (.cells #[.int .i64 r4.1, .int .i64 r4.2] 32)).cell? ⟨X, 0, none⟩ = some (.int .i64 r1.1) := below_cell (box_below _ _) (blk_cell hXc 0 _ rfl)
        have e1 : (wc.alloc (.cells #[.int .i64 r4.1, .int .i64 r4.2] 32)).cell? ⟨X, 1, none⟩ = some (.int .i64 u0) := below_cell (box_below _ _) (blk_cell hXc 1 _ rfl)
        have e2 : (wc.alloc (.cells #[.int .i64 r4.1, .int .i64 r4.2] 32)).cell? ⟨X, 2, none⟩ = some (.int .i64 u1) := below_cell (box_below _ _) (blk_cell hXc 2 _ rfl)
        have e3 : (wc.alloc (.cells #[.int .i64 r4.1, .int .i64 r4.2] 32)).cell? ⟨X, 3, none⟩ = some (.int .i64 u2) := below_cell (box_below _ _) (blk_cell hXc 3 _ rfl)
        have e4 : (wc.alloc (.cells #[.int .i64 r4.1, .int .i64 r4.2] 32)).cell? ⟨X, 4, none⟩ = some (.slice A7 n7 c7) := below_cell (box_below _ _) (blk_cell hXc 4 _ rfl)
        clear hbc hbd hFd hXd hXc HXb HRBb HHb HCb HCr HRB
        by_cases he : r4.1 = 0
        · have ge : (r4.1 == 0) = true := by simpa using he
          have HE := Lib.hid he
          clear he
          go_wp2_with fail
          rw [← hwd, ← hF]
          clear hwd hF e0 e1 e2 e3 e4
          refine (pcheck_any r1.1 u0 u1 u2 A7 n7 c7 _ hn7).mono ?_
          obtain ⟨ck, hck⟩ : ∃ z, z = chkP r1.1 u0 u1 u2 n7 := ⟨_, rfl⟩
          rw [← hck]
          rintro e we ⟨rfl, hbe⟩
          have hFe := blk_below HFd.out hbe
          have g0 := blk_thawed hFe 0
          have p0 := blk_cell hFe 0 _ rfl
          obtain ⟨wf, hwf⟩ : ∃ z, z = we.setCell ⟨F, 0, none⟩ (.int .i64 ck) := ⟨_, rfl⟩
          have hcf := Ch.setCell we ⟨F, 0, none⟩ (.int .i64 ck)
          rw [← hwf] at hcf
          have hXf := blk_ch (blk_below HXd.out hbe) hcf (fun e => by have e : X = F := e; omega)
          have hFf : Blk wf F 32 #[.int .i64 ck, .int .i64 r4.2] := by rw [hwf]; exact blk_set hFe 0 (.int .i64 ck)
          have hze := hbe.size
          have HCf := Lib.hid (show Below (Z + 2) w2 wf from (HCd.out.trans (hbe.mono (by omega))).trans (hcf.below (by omega) (fun k hk => by have hk : k = F := hk; omega)))
          have HHf := Lib.hid (held_ch (held_ch HHd.out (Ch.of_below hbe No) (fun _ _ => id)) hcf (fun a ha e => by have h9 := HAF.out a ha; have e : a.block = F := e; omega))
          have HXf := Lib.hid hXf; have HFf := Lib.hid hFf; have HCK := Lib.hid hck
          have HZf := Lib.hid (blk_same HZ2.out HCf.out (by omega)); have HYf := Lib.hid (blk_same HY2.out HCf.out (by omega))
          clear hFe hcf hXf hFf hbe hck
          by_cases hc : ck = 0
          · have gc : (ck != 0) = false := by simpa using hc
            have HCK0 := Lib.hid hc
            clear hc
            have z0 := blk_thawed HZf.out 0
            have v0 := blk_cell HZf.out 0 _ rfl
            have z1 := blk_thawed HZf.out 1
            have v1 := blk_cell HZf.out 1 _ rfl
            have z2 := blk_thawed HZf.out 2
            have v2 := blk_cell HZf.out 2 _ rfl
            have z3 := blk_thawed HZf.out 3
            have v3 := blk_cell HZf.out 3 _ rfl
            have z4 := blk_thawed HZf.out 4
            have v4 := blk_cell HZf.out 4 _ rfl
            have y0 := blk_thawed HYf.out 0
            have yc0 := blk_cell HYf.out 0 _ rfl
            have y1 := blk_thawed HYf.out 1
            have yc1 := blk_cell HYf.out 1 _ rfl
            have e0 := blk_cell HXf.out 0 _ rfl
            have e1 := blk_cell HXf.out 1 _ rfl
            have e2 := blk_cell HXf.out 2 _ rfl
            have e3 := blk_cell HXf.out 3 _ rfl
            have e4 := blk_cell HXf.out 4 _ rfl
            have t0 := blk_cell HFf.out 0 _ rfl
            have t1 := blk_cell HFf.out 1 _ rfl
            go_wp2_with fail
            rw [← hwf]
            clear hwf
            go_region
            all_goals
              go_wp2
              have hq := put_pk HZf.out HYf.out (.int .i64 r1.1) (.int .i64 u0) (.int .i64 u1) (.int .i64 u2) (.slice A7 n7 c7) (.int .i64 ck) (.int .i64 r4.2)
              have hq1 := blk_ch hq.1 (Ch.drew _ No) id
              have hq2 := blk_ch hq.2.1 (Ch.drew _ No) id
              have hz := HZW.out
              have hres : getP b = ⟨r1.1, u0, u1, u2, r3.1, ck, r4.2⟩ := by rw [HGP.out, HCK0.out]; exact (getX_mk x r1 u0 u1 u2 r3 r4 HR1.out HU.out HR3.out HR4.out).1 HE.out (by rw [HL7.out, ← HCK.out]; exact HCK0.out)
              exact bodyPost_ret (results_two rfl _ _ Z (Z + 1) 24 32 _ _ (0, 0) (0, 0) _ _ rfl hq1 Try.underlying24 rfl (by kernel_rfl) rfl hq2 Try.underlying32 rfl (by kernel_rfl)) rfl ⟨A7, n7, c7, by rw [hres], by rw [hres]; exact held_base (held_ch (held_ch HHf.out hq.2.2 (fun a ha e => by have h9 := HAF.out a ha; omega)) (Ch.drew _ No) (fun _ _ => id)) (fun a ha => by have h9 := HAF.out a ha; omega), (((Ch.of_below (HB2.out.trans (HCf.out.mono (by omega))) (fun j => Z ≤ j)).trans hq.2.2 (S := (fun j => Z ≤ j)) (fun i hi => by omega)).trans (Ch.drew _ No) (fun _ h => h.elim)).below (Nat.le_refl _) (fun j hj => by omega)⟩
          · have gc : (ck != 0) = true := by simpa using hc
            have HCK0 := Lib.hid hc
            clear hc
            have z0 := blk_thawed HZf.out 0
            have v0 := blk_cell HZf.out 0 _ rfl
            have z1 := blk_thawed HZf.out 1
            have v1 := blk_cell HZf.out 1 _ rfl
            have z2 := blk_thawed HZf.out 2
            have v2 := blk_cell HZf.out 2 _ rfl
            have z3 := blk_thawed HZf.out 3
            have v3 := blk_cell HZf.out 3 _ rfl
            have z4 := blk_thawed HZf.out 4
            have v4 := blk_cell HZf.out 4 _ rfl
            have y0 := blk_thawed HYf.out 0
            have yc0 := blk_cell HYf.out 0 _ rfl
            have y1 := blk_thawed HYf.out 1
            have yc1 := blk_cell HYf.out 1 _ rfl
            have e0 := blk_cell HXf.out 0 _ rfl
            have e1 := blk_cell HXf.out 1 _ rfl
            have e2 := blk_cell HXf.out 2 _ rfl
            have e3 := blk_cell HXf.out 3 _ rfl
            have e4 := blk_cell HXf.out 4 _ rfl
            have t0 := blk_cell HFf.out 0 _ rfl
            have t1 := blk_cell HFf.out 1 _ rfl
            go_wp2_with fail
            rw [← hwf]
            clear hwf
            go_region
            all_goals
              go_wp2
              have hq := put_pk HZf.out HYf.out (.int .i64 0) (.int .i64 0) (.int .i64 0) (.int .i64 0) (.slice none 0 0) (.int .i64 ck) (.int .i64 r4.2)
              have hq1 := blk_ch hq.1 (Ch.drew _ No) id
              have hq2 := blk_ch hq.2.1 (Ch.drew _ No) id
              have hz := HZW.out
              have hres : getP b = ⟨0, 0, 0, 0, [], ck, r4.2⟩ := by
                have h2 : ck = 2 := by rw [HCK.out]; exact chkP_two (by rw [← HCK.out]; exact HCK0.out)
                rw [HGP.out, h2]
                exact (getX_mk x r1 u0 u1 u2 r3 r4 HR1.out HU.out HR3.out HR4.out).2.1 HE.out (by rw [HL7.out, ← HCK.out]; exact HCK0.out)
              exact bodyPost_ret (results_two rfl _ _ Z (Z + 1) 24 32 _ _ (0, 0) (0, 0) _ _ rfl hq1 Try.underlying24 rfl (by kernel_rfl) rfl hq2 Try.underlying32 rfl (by kernel_rfl)) rfl ⟨none, 0, 0, by rw [hres], by rw [hres]; exact held_nil _ _, (((Ch.of_below (HB2.out.trans (HCf.out.mono (by omega))) (fun j => Z ≤ j)).trans hq.2.2 (S := (fun j => Z ≤ j)) (fun i hi => by omega)).trans (Ch.drew _ No) (fun _ h => h.elim)).below (Nat.le_refl _) (fun j hj => by omega)⟩
        · have ge : (r4.1 == 0) = false := by simpa using he
          have ge2 : (r4.1 != 0) = true := by simpa using he
          have HE := Lib.hid he
          have HZf := Lib.hid (blk_same HZ2.out HCd.out (by omega)); have HYf := Lib.hid (blk_same HY2.out HCd.out (by omega))
          clear he
          have z0 := blk_thawed HZf.out 0
          have v0 := blk_cell HZf.out 0 _ rfl
          have z1 := blk_thawed HZf.out 1
          have v1 := blk_cell HZf.out 1 _ rfl
          have z2 := blk_thawed HZf.out 2
          have v2 := blk_cell HZf.out 2 _ rfl
          have z3 := blk_thawed HZf.out 3
          have v3 := blk_cell HZf.out 3 _ rfl
          have z4 := blk_thawed HZf.out 4
          have v4 := blk_cell HZf.out 4 _ rfl
          have y0 := blk_thawed HYf.out 0
          have yc0 := blk_cell HYf.out 0 _ rfl
          have y1 := blk_thawed HYf.out 1
          have yc1 := blk_cell HYf.out 1 _ rfl
          have t0 := blk_cell HFd.out 0 _ rfl
          have t1 := blk_cell HFd.out 1 _ rfl
          go_wp2_with fail
          rw [← hwd, ← hF]
          clear hwd hF e0 e1 e2 e3 e4
          go_region
          all_goals
            go_wp2
            have hq := put_pk HZf.out HYf.out (.int .i64 0) (.int .i64 0) (.int .i64 0) (.int .i64 0) (.slice none 0 0) (.int .i64 r4.1) (.int .i64 r4.2)
            have hq1 := blk_ch hq.1 (Ch.drew _ No) id
            have hq2 := blk_ch hq.2.1 (Ch.drew _ No) id
            have hz := HZW.out
            have hres : getP b = ⟨0, 0, 0, 0, [], r4.1, r4.2⟩ := by rw [HGP.out]; exact (getX_mk x r1 u0 u1 u2 r3 r4 HR1.out HU.out HR3.out HR4.out).2.2 HE.out
            exact bodyPost_ret (results_two rfl _ _ Z (Z + 1) 24 32 _ _ (0, 0) (0, 0) _ _ rfl hq1 Try.underlying24 rfl (by kernel_rfl) rfl hq2 Try.underlying32 rfl (by kernel_rfl)) rfl ⟨none, 0, 0, by rw [hres], by rw [hres]; exact held_nil _ _, (((Ch.of_below (HB2.out.trans (HCd.out.mono (by omega))) (fun j => Z ≤ j)).trans hq.2.2 (S := (fun j => Z ≤ j)) (fun i hi => by omega)).trans (Ch.drew _ No) (fun _ h => h.elim)).below (Nat.le_refl _) (fun j hj => by omega)⟩
  · have HEQ := Lib.hid (show eqB (sum8 x) y = false by unfold eqB; rw [beq_eq_false_iff_ne]; exact heq)
    have HGP := Lib.hid (show getP b = ⟨0, 0, 0, 0, [], 11, 0⟩ by unfold getP; rw [if_neg HXB.out.2.2, HXB.out.1, HXB.out.2.1, if_neg heq])
    clear heq
    go_enter Try.func13, Try.ntmps13
    go_wp2_with fail
    rw [← hV, ← hZ]
    clear hV hZ
    have s0 : V.drew.cell? ⟨Z, 0, none⟩ = some (.int .i64 0) := blk_cell HZ0.out 0 _ rfl
    go_region_held3 (fun W => W.cell? ⟨Z, 0, none⟩ = some (.int .i64 0)) (first | exact s2 | exact s0) (first | (go_at_call 36; ((with_reducible refine (fsum_any q1).mono ?_); rintro e w2 ⟨A8, c8, rfl, hr8, hf8, hb8⟩; have s2 := below_cell hb8 s0)) | (go_at_call 41; ((with_reducible refine (equal_any hr8 (q2.below hb8)).mono ?_); rw [HEQ.out]; rintro e wx ⟨rfl, rfl⟩)))
    have hb2 : Below V.heap.size V w2 := ((Ch.drew V No).below (Nat.le_refl _) (fun _ h => h.elim)).trans hb8
    have HB2 := Lib.hid (HB0.out.trans (hb2.mono HB0.out.size)); have HZ2 := Lib.hid (blk_below HZ0.out hb2); have HY2 := Lib.hid (blk_below HY0.out hb2)
    have hz2 := hb2.size
    have z0 := blk_thawed HZ2.out 0
    have v0 := blk_cell HZ2.out 0 _ rfl
    have z1 := blk_thawed HZ2.out 1
    have v1 := blk_cell HZ2.out 1 _ rfl
    have z2 := blk_thawed HZ2.out 2
    have v2 := blk_cell HZ2.out 2 _ rfl
    have z3 := blk_thawed HZ2.out 3
    have v3 := blk_cell HZ2.out 3 _ rfl
    have z4 := blk_thawed HZ2.out 4
    have v4 := blk_cell HZ2.out 4 _ rfl
    have y0 := blk_thawed HY2.out 0
    have yc0 := blk_cell HY2.out 0 _ rfl
    have y1 := blk_thawed HY2.out 1
    have yc1 := blk_cell HY2.out 1 _ rfl
    clear hb2 hb8 hr8 hf8 s0 s2 q1 q2
    go_wp2_with fail
    have hq := put_pk HZ2.out HY2.out (.int .i64 0) (.int .i64 0) (.int .i64 0) (.int .i64 0) (.slice none 0 0) (.int .i64 11) (.int .i64 0)
    have hz := HZW.out
    have hres : getP b = ⟨0, 0, 0, 0, [], 11, 0⟩ := HGP.out
    exact bodyPost_ret (results_two rfl _ _ Z (Z + 1) 24 32 _ _ (0, 0) (0, 0) _ _ rfl hq.1 Try.underlying24 rfl (by kernel_rfl) rfl hq.2.1 Try.underlying32 rfl (by kernel_rfl)) rfl ⟨none, 0, 0, by rw [hres], by rw [hres]; exact held_nil _ _, (((Ch.of_below HB2.out (fun j => j = Z ∨ j = Z + 1)).trans hq.2.2 (S := (fun j => j = Z ∨ j = Z + 1)) (fun i hi => by omega))).below (Nat.le_refl _) (fun j hj => by omega)⟩
end Go.Proofs.Ytncahekankbalaa
