/- Walk: the packet of bytes by the reference (GetPacket). Conditions: the bytes are read, and short. -/
import Derived.Test.YtncahekankbalaaF4
namespace Go.Proofs.Ytncahekankbalaa
open Go.RowKit
set_option linter.unusedVariables false
set_option linter.unusedSimpArgs false

theorem gE_zero (x : List UInt8) (h : (gE x).1 = 0) : (gE x).2 = 0 := by
  unfold gE rend at h ⊢
  split at h
  · simp at h
  · rename_i hn
    rw [if_neg hn]
    have h : (gL x).2.e = 0 := h
    obtain ⟨p1, e1⟩ := rraw_p _ _ h
    obtain ⟨p2, e2⟩ := rnum_p _ _ _ (show (rnum (rdN (gF x).2 1).2 0 1099511627776).2.e = 0 from e1)
    obtain ⟨p3, e3⟩ := rnum_p _ _ _ (show (rnum (rdN (gF x).2 0).2 0 1099511627776).2.e = 0 from e2)
    obtain ⟨p4, e4⟩ := rnum_p _ _ _ (show (rnum (gF x).2 0 1099511627776).2.e = 0 from e3)
    obtain ⟨p5, _⟩ := rnum_p _ _ _ (show (rnum ⟨x, 0, 0, 0⟩ 1 1099511627776).2.e = 0 from e4)
    exact p1.trans (show (gN x 2).2.p = 0 from p2.trans (p3.trans (p4.trans p5)))
def RPktQ (w : World) (r : Pkt) (e : Ending) (w' : World) : Prop := ∃ A n c, e = .returned (.tuple #[.agg #[.int .i64 r.f, .int .i64 r.t, .int .i64 r.n, .int .i64 r.a, .slice A n c], .agg #[.int .i64 r.e, .int .i64 r.p]]) ∧ Rd w' A n c 1 (u8s r.l) ∧ Below w.heap.size w w'
set_option maxRecDepth 100000 in
set_option maxHeartbeats 8000000 in
theorem rpget_any {A0 : Option Addr} {n0 c0 : Nat} {b : List UInt8} {w : World} (hr : Rd w A0 n0 c0 1 (u8s b)) (hn : n0 ≤ 100000000) : Calls Try.prog 14 #[.slice A0 n0 c0] w (RPktQ w (getP b)) := by
  have hl : b.length = n0 := by have := hr.len; simpa using this
  obtain ⟨Z, hZ⟩ : ∃ z, z = w.heap.size := ⟨_, rfl⟩
  obtain ⟨V, hV⟩ : ∃ z, z = (w.alloc (.cells #[.int .i64 0, .int .i64 0, .int .i64 0, .int .i64 0, .slice none 0 0] 24)).alloc (.cells #[.int .i64 0, .int .i64 0] 32) := ⟨_, rfl⟩
  obtain ⟨b1, b2, b3⟩ := two_new w #[.int .i64 0, .int .i64 0, .int .i64 0, .int .i64 0, .slice none 0 0] 24 #[.int .i64 0, .int .i64 0] 32
  rw [← hV, ← hZ] at b1 b2
  rw [← hV] at b3
  have hsz : Z + 2 = V.heap.size := by rw [hV, hZ]; simp
  have hcap := hr.cap
  have hbig := hr.big
  have hAZ := fun a (ha : A0 = some a) (h0 : 0 < n0) => rd_in hr a ha h0
  have HR := Lib.hid (hr.below b3); have HB0 := Lib.hid b3; have HZ0 := Lib.hid b1; have HY0 := Lib.hid b2; have HL := Lib.hid hl; have HZW := Lib.hid hZ
  have HAZ := Lib.hid (show ∀ a, A0 = some a → 0 < n0 → a.block < Z from fun a ha h0 => by have := hAZ a ha h0; omega)
  clear b1 b2 b3 hr hl hAZ
  by_cases hs : n0 < 8
  · have hw : IntKind.i64.wrap ((n0 : Int) - 8) = (n0 : Int) - 8 := by rw [IntKind.wrap_i64]; omega
    have hneg : decide ((n0 : Int) - 8 < 0) = true := decide_eq_true (by omega)
    have z0 := blk_thawed HZ0.out 0
    have v0 := blk_cell HZ0.out 0 _ rfl
    have z1 := blk_thawed HZ0.out 1
    have v1 := blk_cell HZ0.out 1 _ rfl
    have z2 := blk_thawed HZ0.out 2
    have v2 := blk_cell HZ0.out 2 _ rfl
    have z3 := blk_thawed HZ0.out 3
    have v3 := blk_cell HZ0.out 3 _ rfl
    have z4 := blk_thawed HZ0.out 4
    have v4 := blk_cell HZ0.out 4 _ rfl
    have y0 := blk_thawed HY0.out 0
    have yc0 := blk_cell HY0.out 0 _ rfl
    have y1 := blk_thawed HY0.out 1
    have yc1 := blk_cell HY0.out 1 _ rfl
    go_enter Try.func14, Try.ntmps14
    go_wp2_with fail
    rw [← hV, ← hZ]
    clear hV hZ
    go_quiet (fail)
    go_wp2_with fail
    have hq := put_pk (blk_ch HZ0.out (ch_drewN No V nq) id) (blk_ch HY0.out (ch_drewN No V nq) id) (.int .i64 0) (.int .i64 0) (.int .i64 0) (.int .i64 0) (.slice none 0 0) (.int .i64 11) (.int .i64 0)
    have hz := HZW.out
    have hres : getP b = ⟨0, 0, 0, 0, [], 11, 0⟩ := by unfold getP; rw [HL.out, if_pos hs]
    exact bodyPost_ret (results_two rfl _ _ Z (Z + 1) 24 32 _ _ (0, 0) (0, 0) _ _ rfl hq.1 Try.underlying24 rfl (by kernel_rfl) rfl hq.2.1 Try.underlying32 rfl (by kernel_rfl)) rfl ⟨none, 0, 0, by rw [hres], by rw [hres]; exact nil_rd _ _, ((((Ch.of_below HB0.out (fun j => j = Z ∨ j = Z + 1)).trans (ch_drewN No V nq) (fun _ h => h.elim)).trans hq.2.2 (S := (fun j => j = Z ∨ j = Z + 1)) (fun i hi => by omega))).below (Nat.le_refl _) (fun j hj => by omega)⟩
  obtain ⟨k0, rfl⟩ : ∃ k0, n0 = k0 + 8 := ⟨n0 - 8, by omega⟩
  have hw : IntKind.i64.wrap (((k0 + 8 : Nat) : Int) - 8) = (k0 : Int) := by rw [IntKind.wrap_i64]; omega
  have hneg : decide ((k0 : Int) < 0) = false := decide_eq_false (by omega)
  have hk0 : (0 : Int) ≤ (k0 : Int) := by omega
  have hkc : (k0 : Int) ≤ (c0 : Int) := by omega
  have hkn : (k0 : Int) ≤ (k0 : Int) + 8 := by omega
  have hne : ¬ (c0 = k0) := by omega
  obtain ⟨ab, off, hA0, _⟩ := HR.out.cells 0 _ (u8s_get b 0 (by have := HL.out; omega))
  subst hA0
  obtain ⟨x, hx⟩ : ∃ x, x = b.take k0 := ⟨_, rfl⟩
  obtain ⟨y, hy⟩ : ∃ y, y = b.drop k0 := ⟨_, rfl⟩
  have hcx : Rd V (some ⟨ab, off, none⟩) k0 c0 1 (u8s x) := by
    have := HR.out.cut 0 k0 (by omega) (u8s x) (by rw [Nat.zero_mul, List.drop_zero, Nat.mul_one, u8s_take, hx])
    simpa [Addr.add] using this
  have hcy : Rd V (some ⟨ab, off + k0, none⟩) 8 (c0 - k0) 1 (u8s y) := by
    have := HR.out.cut k0 8 (by omega) (u8s y) (by rw [Nat.mul_one, Nat.mul_one, u8s_drop, u8s_take, hy, List.take_of_length_le (by rw [List.length_drop]; have := HL.out; omega)])
    rw [Option.map_some, Nat.mul_one] at this
    have e : (⟨ab, off, none⟩ : Addr).add k0 = ⟨ab, off + k0, none⟩ := by unfold Addr.add; split <;> simp_all
    rw [e] at this
    exact this
  have HCX := Lib.hid hcx; have HCY := Lib.hid hcy; have HX := Lib.hid hx; have HY := Lib.hid hy
  have q1 := hcx.ch (Ch.drew V No) (fun _ _ => id)
  have q2 := hcy.ch (Ch.drew V No) (fun _ _ => id)
  have sty0 := q2.str (P := Try.prog) 22 5 9 Try.underlying22 Try.underlying5 Try.underlying9
  clear hs hcx hcy hx hy
  have hxb : b.take (b.length - 8) = x ∧ b.drop (b.length - 8) = y ∧ ¬ (b.length < 8) := by
    have h1 := HL.out; have h2 := HX.out; have h3 := HY.out
    rw [h1, Nat.add_sub_cancel]
    exact ⟨h2.symm, h3.symm, by omega⟩
  have HXB := Lib.hid hxb
  clear hxb
  by_cases heq : sum8 x = y
  · have hq1 : (sum8 x == y) = true := by rw [beq_iff_eq]; exact heq
    have hq2 : (sum8 x != y) = false := by rw [bne, hq1]; rfl
    have HGP := Lib.hid (show getP b = getX x by unfold getP; rw [if_neg HXB.out.2.2, HXB.out.1, HXB.out.2.1, if_pos heq])
    clear heq
    go_enter Try.func14, Try.ntmps14
    go_wp2_with fail
    rw [← hV, ← hZ]
    clear hV hZ
    refine wp_region_held_drew (S := fun W => (convert 22 9 (.slice (some ⟨ab, off + k0, none⟩) 8 (c0 - k0))).run Try.prog W = .ok (.string ⟨y.toArray⟩) W) (by kernel_rfl) sty0 (fun hHeld => ?_)
    refine wpAnyH_take (i := 0) (oi := { dst := some 11, op := Go.Op.move (Go.Operand.tmp 4), type := 3, pos := "ref.go:49", after := #[], guard := none }) (v := .int .i64 k0) rfl (by kernel_rfl) (by kernel_rfl) (by kernel_rfl) (fun _ _ _ h => h) (Or.inl ⟨by rfl, ?_⟩) (by assumption) ?_
    · intro W hSw
      (try dsimp only at hSw)
      go_simp
    simp only [Act.put, List.setIfInBounds_toArray, List.set_cons_zero, List.set_cons_succ]
    refine wpAnyH_take (i := 1) (oi := { dst := some 12, op := Go.Op.binOp Go.BinOp.lss 3 (Go.Operand.tmp 11) (Go.Operand.const (Go.Value.int Go.IntKind.i64 0)) 3, type := 4, pos := "ref.go:49", after := #[{ on := 0, ground := Go.Ground.data }], guard := none }) (v := .bool false) rfl (by kernel_rfl) (by kernel_rfl) (by kernel_rfl) (fun _ _ _ h => h) (Or.inl ⟨by rfl, ?_⟩) (by assumption) ?_
    · intro W hSw
      (try dsimp only at hSw)
      go_simp
    simp only [Act.put, List.setIfInBounds_toArray, List.set_cons_zero, List.set_cons_succ]
    refine wpAnyH_take (i := 2) (oi := { dst := some 13, op := Go.Op.move (Go.Operand.tmp 12), type := 4, pos := "ref.go:49", after := #[{ on := 1, ground := Go.Ground.data }], guard := none }) (v := .bool false) rfl (by kernel_rfl) (by kernel_rfl) (by kernel_rfl) (fun _ _ _ h => h) (Or.inl ⟨by rfl, ?_⟩) (by assumption) ?_
    · intro W hSw
      (try dsimp only at hSw)
      go_simp
    simp only [Act.put, List.setIfInBounds_toArray, List.set_cons_zero, List.set_cons_succ]
    refine wpAnyH_take (i := 3) (oi := { dst := some 14, op := Go.Op.move (Go.Operand.tmp 0), type := 22, pos := "ref.go:49", after := #[{ on := 2, ground := Go.Ground.guard }], guard := some (2, false) }) (v := .slice (some ⟨ab, off, none⟩) (k0 + 8) c0) rfl (by kernel_rfl) (by kernel_rfl) (by kernel_rfl) (fun _ _ _ h => h) (Or.inl ⟨by rfl, ?_⟩) (by assumption) ?_
    · intro W hSw
      (try dsimp only at hSw)
      go_simp
    simp only [Act.put, List.setIfInBounds_toArray, List.set_cons_zero, List.set_cons_succ]
    refine wpAnyH_take (i := 4) (oi := { dst := some 15, op := Go.Op.move (Go.Operand.tmp 4), type := 3, pos := "ref.go:49", after := #[{ on := 2, ground := Go.Ground.guard }], guard := some (2, false) }) (v := .int .i64 k0) rfl (by kernel_rfl) (by kernel_rfl) (by kernel_rfl) (fun _ _ _ h => h) (Or.inl ⟨by rfl, ?_⟩) (by assumption) ?_
    · intro W hSw
      (try dsimp only at hSw)
      go_simp
    simp only [Act.put, List.setIfInBounds_toArray, List.set_cons_zero, List.set_cons_succ]
    refine wpAnyH_take (i := 5) (oi := { dst := some 16, op := Go.Op.slice 22 (Go.Operand.tmp 14) none (some (Go.Operand.tmp 15)) none, type := 22, pos := "ref.go:49", after := #[{ on := 3, ground := Go.Ground.data }, { on := 4, ground := Go.Ground.data }, { on := 2, ground := Go.Ground.guard }], guard := some (2, false) }) (v := .slice (some ⟨ab, off, none⟩) k0 c0) rfl (by kernel_rfl) (by kernel_rfl) (by kernel_rfl) (fun _ _ _ h => h) (Or.inl ⟨by rfl, ?_⟩) (by assumption) ?_
    · intro W hSw
      (try dsimp only at hSw)
      go_simp
    simp only [Act.put, List.setIfInBounds_toArray, List.set_cons_zero, List.set_cons_succ]
    refine wpAnyH_take (i := 8) (oi := { dst := some 19, op := Go.Op.move (Go.Operand.tmp 0), type := 22, pos := "ref.go:49", after := #[{ on := 2, ground := Go.Ground.guard }], guard := some (2, false) }) (v := .slice (some ⟨ab, off, none⟩) (k0 + 8) c0) rfl (by kernel_rfl) (by kernel_rfl) (by kernel_rfl) (fun _ _ _ h => h) (Or.inl ⟨by rfl, ?_⟩) (by assumption) ?_
    · intro W hSw
      (try dsimp only at hSw)
      go_simp
    simp only [Act.put, List.setIfInBounds_toArray, List.set_cons_zero, List.set_cons_succ]
    refine wpAnyH_take (i := 9) (oi := { dst := some 20, op := Go.Op.move (Go.Operand.tmp 4), type := 3, pos := "ref.go:49", after := #[{ on := 2, ground := Go.Ground.guard }], guard := some (2, false) }) (v := .int .i64 k0) rfl (by kernel_rfl) (by kernel_rfl) (by kernel_rfl) (fun _ _ _ h => h) (Or.inl ⟨by rfl, ?_⟩) (by assumption) ?_
    · intro W hSw
      (try dsimp only at hSw)
      go_simp
    simp only [Act.put, List.setIfInBounds_toArray, List.set_cons_zero, List.set_cons_succ]
    refine wpAnyH_take (i := 10) (oi := { dst := some 21, op := Go.Op.slice 22 (Go.Operand.tmp 19) (some (Go.Operand.tmp 20)) none none, type := 22, pos := "ref.go:49", after := #[{ on := 8, ground := Go.Ground.data }, { on := 9, ground := Go.Ground.data }, { on := 2, ground := Go.Ground.guard }], guard := some (2, false) }) (v := .slice (some ⟨ab, off + k0, none⟩) 8 (c0 - k0)) rfl (by kernel_rfl) (by kernel_rfl) (by kernel_rfl) (fun _ _ _ h => h) (Or.inl ⟨by rfl, ?_⟩) (by assumption) ?_
    · intro W hSw
      (try dsimp only at hSw)
      go_simp
    simp only [Act.put, List.setIfInBounds_toArray, List.set_cons_zero, List.set_cons_succ]
    refine wpAnyH_take (i := 11) (oi := { dst := some 22, op := Go.Op.convert 22 9 (Go.Operand.tmp 21), type := 9, pos := "ref.go:49", after := #[{ on := 10, ground := Go.Ground.data }, { on := 2, ground := Go.Ground.guard }], guard := some (2, false) }) (v := .string ⟨y.toArray⟩) rfl (by kernel_rfl) (by kernel_rfl) (by kernel_rfl) (fun _ _ _ h => h) (Or.inl ⟨by rfl, ?_⟩) (by assumption) ?_
    · intro W hSw
      (try dsimp only at hSw)
      go_simp
    simp only [Act.put, List.setIfInBounds_toArray, List.set_cons_zero, List.set_cons_succ]
    refine wpAnyH_ready (rs := [6]) (by kernel_rfl) (by simp) ?_
    refine AllReadyH.cons (o := { dst := some 17, op := Go.Op.call { callee := Go.Callee.value (Go.Operand.func 40), args := #[Go.Operand.tmp 16], argTypes := #[22] }, type := 22, pos := "ref.go:49", after := #[{ on := 5, ground := Go.Ground.data }, { on := 2, ground := Go.Ground.chain }, { on := 2, ground := Go.Ground.guard }], guard := some (2, false) }) rfl (fun K hK => ?_) AllReadyH.nil
    go_simp
    refine (rsum_any q1).mono ?_; rintro e w2 ⟨A8, c8, rfl, hr8, hf8, hb8⟩
    have st8 := hr8.str (P := Try.prog) 22 5 9 Try.underlying22 Try.underlying5 Try.underlying9
    have sty2 := (q2.below hb8).str (P := Try.prog) 22 5 9 Try.underlying22 Try.underlying5 Try.underlying9
    go_wp2_with fail
    refine hK.out _ _ sty2 (fun hHeld => ?_)
    clear hK K
    try simp only [Act.put, List.setIfInBounds_toArray, List.set_cons_zero, List.set_cons_succ]
    refine wpAnyH_ready (rs := [7]) (by kernel_rfl) (by simp) ?_
    refine AllReadyH.cons (o := { dst := some 18, op := Go.Op.convert 22 9 (Go.Operand.tmp 17), type := 9, pos := "ref.go:49", after := #[{ on := 6, ground := Go.Ground.data }, { on := 2, ground := Go.Ground.guard }], guard := some (2, false) }) rfl (fun K hK => ?_) AllReadyH.nil
    go_simp
    refine hK.out _ _ sty2 (fun hHeld => ?_)
    clear hK K
    try simp only [Act.put, List.setIfInBounds_toArray, List.set_cons_zero, List.set_cons_succ]
    refine wpAnyH_take (i := 12) (oi := { dst := some 23, op := Go.Op.binOp Go.BinOp.neq 9 (Go.Operand.tmp 18) (Go.Operand.tmp 22) 9, type := 4, pos := "ref.go:49", after := #[{ on := 7, ground := Go.Ground.data }, { on := 11, ground := Go.Ground.data }, { on := 2, ground := Go.Ground.guard }], guard := some (2, false) }) (v := .bool false) rfl (by kernel_rfl) (by kernel_rfl) (by kernel_rfl) (fun _ _ _ h => h) (Or.inl ⟨by rfl, ?_⟩) (by assumption) ?_
    · intro W hSw
      (try dsimp only at hSw)
      go_simp
    simp only [Act.put, List.setIfInBounds_toArray, List.set_cons_zero, List.set_cons_succ]
    refine wpAnyH_take (i := 13) (oi := { dst := some 24, op := Go.Op.pick (Go.Operand.tmp 13) (Go.Operand.const (Go.Value.bool true)) (Go.Operand.tmp 23), type := 4, pos := "ref.go:49", after := #[{ on := 2, ground := Go.Ground.data }, { on := 12, ground := Go.Ground.data }], guard := none }) (v := .bool false) rfl (by kernel_rfl) (by kernel_rfl) (by kernel_rfl) (fun _ _ _ h => h) (Or.inl ⟨by rfl, ?_⟩) (by assumption) ?_
    · intro W hSw
      (try dsimp only at hSw)
      go_simp
    simp only [Act.put, List.setIfInBounds_toArray, List.set_cons_zero, List.set_cons_succ]
    refine wpAnyH_done (by kernel_rfl) ?_ _
    have hb2 : Below V.heap.size V w2 := ((Ch.drew V No).below (Nat.le_refl _) (fun _ h => h.elim)).trans hb8
    have HB2 := Lib.hid (HB0.out.trans (hb2.mono HB0.out.size)); have HZ2 := Lib.hid (blk_below HZ0.out hb2); have HY2 := Lib.hid (blk_below HY0.out hb2)
    have hz2 := hb2.size
    have HCX2 := Lib.hid (HCX.out.below hb2)
    clear hb2 hb8 hr8 hf8 q1 q2 st8 sty2 sty0 hq1 hq2
    go_wp2_with fail
    refine (ropen_any HCX2.out (fun a ha h0 => by have h9 := HAZ.out a ha (by omega); omega)).mono ?_
    rintro e w3 ⟨R, rfl, hrb, hR, hb3⟩
    have hR3 : R < w3.heap.size := rrd_lt hrb
    obtain ⟨X, hX⟩ : ∃ z, z = w3.heap.size := ⟨_, rfl⟩
    have HA := Lib.hid (show ∀ a, (some (⟨ab, off, none⟩ : Addr)) = some a → 0 < k0 → a.block < Z from fun a ha h0 => HAZ.out a ha (by omega))
    obtain ⟨w4, hw4⟩ : ∃ z, z = w3.alloc (.cells #[.int .i64 0, .int .i64 0, .int .i64 0, .int .i64 0, .slice none 0 0] 24) := ⟨_, rfl⟩
    have hb4 : Below w3.heap.size w3 w4 := by rw [hw4]; exact box_below _ _
    have hX4 : Blk w4 X 24 #[.int .i64 0, .int .i64 0, .int .i64 0, .int .i64 0, .slice none 0 0] := by rw [hw4, hX]; exact blk_new _ _ _
    have HC4 := Lib.hid (show Below (Z + 2) w2 w4 from (hb3.trans (hb4.mono hb3.size)).mono (by omega))
    have HRB4 := Lib.hid (rrd_ch hrb (Ch.of_below hb4 No) id (fun _ _ _ => id)); have HX4 := Lib.hid hX4
    have hRX : R < X := by omega
    have hZR : Z + 2 ≤ R := by omega
    have hXw4 : X < w4.heap.size := blk_lt hX4
    clear hrb hb3 hb4 hX4
    go_wp2_with fail
    rw [← hw4, ← hX]
    clear hw4 hX
    obtain ⟨r1, hr1⟩ : ∃ z, z = gF x := ⟨_, rfl⟩
    have HR1 := Lib.hid hr1
    clear hr1
    refine (rn_any HRB4.out 1 1099511627776).mono ?_
    rw [show rnum ⟨x, 0, 0, 0⟩ 1 1099511627776 = r1 from HR1.out.symm]
    rintro e w5 ⟨he, hrb, hch⟩
    cases he
    have hx := blk_ch HX4.out hch (by omega)
    have f0 := blk_thawed hx 0
    have x0 := blk_cell hx 0 _ rfl
    obtain ⟨w6, hw6⟩ : ∃ z, z = w5.setCell ⟨X, 0, none⟩ (.int .i64 r1.1) := ⟨_, rfl⟩
    have hcs := Ch.setCell w5 ⟨X, 0, none⟩ (.int .i64 r1.1)
    rw [← hw6] at hcs
    have HX6 := Lib.hid (show Blk w6 X 24 #[.int .i64 r1.1, .int .i64 0, .int .i64 0, .int .i64 0, .slice none 0 0] by rw [hw6]; exact blk_set hx 0 _)
    have HRB6 := Lib.hid (rrd_ch hrb hcs (fun e => by have e : R = X := e; omega) (fun a ha h0 e => by have h9 := HA.out a ha h0; have e : a.block = X := e; omega))
    have HC6 := Lib.hid (show Below (Z + 2) w2 w6 from (HC4.out.trans (hch.below (by have := HC4.out.size; omega) (fun k hk => by omega))).trans (hcs.below (by have := HC4.out.size; have := hch.size; omega) (fun k hk => by have hk : k = X := hk; omega)))
    clear hx hcs hrb hch HRB4 HX4 HC4
    go_wp2_with fail
    rw [← hw6]
    clear hw6 f0 x0
    obtain ⟨u0, hu⟩ : ∃ z, z = (rdN r1.2 0).1 := ⟨_, rfl⟩
    have HU0 := Lib.hid hu
    clear hu
    refine (rn_any HRB6.out 0 1099511627776).mono ?_
    rw [show rnum r1.2 0 1099511627776 = rdN r1.2 0 from rfl]
    rintro e w7 ⟨he, hrb, hch⟩
    rw [← HU0.out] at he
    cases he
    have hx := blk_ch HX6.out hch (by omega)
    have f1 := blk_thawed hx 1
    have x1 := blk_cell hx 1 _ rfl
    obtain ⟨w8, hw8⟩ : ∃ z, z = w7.setCell ⟨X, 1, none⟩ (.int .i64 u0) := ⟨_, rfl⟩
    have hcs := Ch.setCell w7 ⟨X, 1, none⟩ (.int .i64 u0)
    rw [← hw8] at hcs
    have HX8 := Lib.hid (show Blk w8 X 24 #[.int .i64 r1.1, .int .i64 u0, .int .i64 0, .int .i64 0, .slice none 0 0] by rw [hw8]; exact blk_set hx 1 _)
    have HRB8 := Lib.hid (rrd_ch hrb hcs (fun e => by have e : R = X := e; omega) (fun a ha h0 e => by have h9 := HA.out a ha h0; have e : a.block = X := e; omega))
    have HC8 := Lib.hid (show Below (Z + 2) w2 w8 from (HC6.out.trans (hch.below (by have := HC6.out.size; omega) (fun k hk => by omega))).trans (hcs.below (by have := HC6.out.size; have := hch.size; omega) (fun k hk => by have hk : k = X := hk; omega)))
    clear hx hcs hrb hch HRB6 HX6 HC6
    go_wp2_with fail
    rw [← hw8]
    clear hw8 f1 x1
    obtain ⟨u1, hu⟩ : ∃ z, z = (rdN r1.2 1).1 := ⟨_, rfl⟩
    have HU1 := Lib.hid hu
    clear hu
    refine (rn_any HRB8.out 0 1099511627776).mono ?_
    rw [show rnum (rdN r1.2 0).2 0 1099511627776 = rdN r1.2 1 from rfl]
    rintro e w9 ⟨he, hrb, hch⟩
    rw [← HU1.out] at he
    cases he
    have hx := blk_ch HX8.out hch (by omega)
    have f2 := blk_thawed hx 2
    have x2 := blk_cell hx 2 _ rfl
    obtain ⟨w10, hw10⟩ : ∃ z, z = w9.setCell ⟨X, 2, none⟩ (.int .i64 u1) := ⟨_, rfl⟩
    have hcs := Ch.setCell w9 ⟨X, 2, none⟩ (.int .i64 u1)
    rw [← hw10] at hcs
    have HX10 := Lib.hid (show Blk w10 X 24 #[.int .i64 r1.1, .int .i64 u0, .int .i64 u1, .int .i64 0, .slice none 0 0] by rw [hw10]; exact blk_set hx 2 _)
    have HRB10 := Lib.hid (rrd_ch hrb hcs (fun e => by have e : R = X := e; omega) (fun a ha h0 e => by have h9 := HA.out a ha h0; have e : a.block = X := e; omega))
    have HC10 := Lib.hid (show Below (Z + 2) w2 w10 from (HC8.out.trans (hch.below (by have := HC8.out.size; omega) (fun k hk => by omega))).trans (hcs.below (by have := HC8.out.size; have := hch.size; omega) (fun k hk => by have hk : k = X := hk; omega)))
    clear hx hcs hrb hch HRB8 HX8 HC8
    go_wp2_with fail
    rw [← hw10]
    clear hw10 f2 x2
    obtain ⟨u2, hu⟩ : ∃ z, z = (rdN r1.2 2).1 := ⟨_, rfl⟩
    have HU2 := Lib.hid hu
    clear hu
    refine (rn_any HRB10.out 0 1099511627776).mono ?_
    rw [show rnum (rdN r1.2 1).2 0 1099511627776 = rdN r1.2 2 from rfl]
    rintro e w11 ⟨he, hrb, hch⟩
    rw [← HU2.out] at he
    cases he
    have hx := blk_ch HX10.out hch (by omega)
    have f3 := blk_thawed hx 3
    have x3 := blk_cell hx 3 _ rfl
    obtain ⟨w12, hw12⟩ : ∃ z, z = w11.setCell ⟨X, 3, none⟩ (.int .i64 u2) := ⟨_, rfl⟩
    have hcs := Ch.setCell w11 ⟨X, 3, none⟩ (.int .i64 u2)
    rw [← hw12] at hcs
    have HX12 := Lib.hid (show Blk w12 X 24 #[.int .i64 r1.1, .int .i64 u0, .int .i64 u1, .int .i64 u2, .slice none 0 0] by rw [hw12]; exact blk_set hx 3 _)
    have HRB12 := Lib.hid (rrd_ch hrb hcs (fun e => by have e : R = X := e; omega) (fun a ha h0 e => by have h9 := HA.out a ha h0; have e : a.block = X := e; omega))
    have HC12 := Lib.hid (show Below (Z + 2) w2 w12 from (HC10.out.trans (hch.below (by have := HC10.out.size; omega) (fun k hk => by omega))).trans (hcs.below (by have := HC10.out.size; have := hch.size; omega) (fun k hk => by have hk : k = X := hk; omega)))
    clear hx hcs hrb hch HRB10 HX10 HC10
    go_wp2_with fail
    rw [← hw12]
    clear hw12 f3 x3
    obtain ⟨r3, hr3⟩ : ∃ z, z = gL x := ⟨_, rfl⟩
    have HR3 := Lib.hid hr3
    have HU := Lib.hid (And.intro HU0.out (And.intro HU1.out HU2.out))
    clear hr3 HU0 HU1 HU2
    have hX12 : X < w12.heap.size := blk_lt HX12.out
    refine (rrraw_any HRB12.out (by omega) 400).mono ?_
    rw [show rraw (rdN r1.2 2).2 400 = r3 by rw [HR3.out, HR1.out]; rfl]
    rintro e wa ⟨A7, n7, c7, rfl, hh7, hfr, hrb7, hch7⟩
    have hXa := blk_ch HX12.out hch7 (by omega)
    have f4 := blk_thawed hXa 4
    have x4 := blk_cell hXa 4 _ rfl
    have hlen7 : r3.1.length = n7 := by have := hh7.len; simpa using this
    have hn7 : n7 ≤ 9223372036854775807 := hh7.small
    have hcs := Ch.setCell wa ⟨X, 4, none⟩ (.slice A7 n7 c7)
    obtain ⟨wb, hwb⟩ : ∃ z, z = wa.setCell ⟨X, 4, none⟩ (.slice A7 n7 c7) := ⟨_, rfl⟩
    rw [← hwb] at hcs
    have HXb := Lib.hid (show Blk wb X 24 #[.int .i64 r1.1, .int .i64 u0, .int .i64 u1, .int .i64 u2, .slice A7 n7 c7] by rw [hwb]; exact blk_set hXa 4 (.slice A7 n7 c7))
    have HRBb := Lib.hid (rrd_ch hrb7 hcs (fun e => by have e : R = X := e; omega) (fun a ha h0 e => by have h9 := HA.out a ha h0; have e : a.block = X := e; omega))
    have HAF := Lib.hid (show ∀ a, A7 = some a → X < a.block from fun a ha => by have := hfr a ha; omega)
    have HHb := Lib.hid (hh7.ch hcs (fun a ha e => by have h9 := HAF.out a ha; have e : a.block = X := e; omega))
    have HCb := Lib.hid (show Below (Z + 2) w2 wb from (HC12.out.trans (hch7.below (by have := HC12.out.size; omega) (fun k hk => by omega))).trans (hcs.below (by have := HC12.out.size; have := hch7.size; omega) (fun k hk => by have hk : k = X := hk; omega)))
    have HL7 := Lib.hid hlen7
    have hXwb : X < wb.heap.size := blk_lt HXb.out
    have hz2b := HCb.out.size
    clear hXa hh7 hfr hrb7 hch7 hcs hlen7 HX12 HRB12 HC12
    go_wp2_with fail
    rw [← hwb]
    clear hwb f4 x4
    obtain ⟨r4, hr4⟩ : ∃ z, z = gE x := ⟨_, rfl⟩
    have HR4 := Lib.hid hr4
    clear hr4
    refine (rrend_any HRBb.out).mono ?_
    rw [show rend r3.2 = r4 by rw [HR4.out, HR3.out]; rfl]
    rintro e wc ⟨rfl, hbc⟩
    have hzc := hbc.size
    obtain ⟨F, hF⟩ : ∃ z, z = wc.heap.size := ⟨_, rfl⟩
    obtain ⟨wd, hwd⟩ : ∃ z, z = wc.alloc (.cells #[.int .i64 r4.1, .int .i64 r4.2] 32) := ⟨_, rfl⟩
    have hbd : Below wc.heap.size wc wd := by rw [hwd]; exact box_below _ _
    have HFd := Lib.hid (show Blk wd F 32 #[.int .i64 r4.1, .int .i64 r4.2] by rw [hwd, hF]; exact blk_new _ _ _)
    have hXc := blk_below HXb.out hbc
    have HXd := Lib.hid (blk_below hXc hbd)
    have HHd := Lib.hid ((HHb.out.below hbc).below hbd)
    have HCd := Lib.hid (show Below (Z + 2) w2 wd from (HCb.out.trans (hbc.mono (by omega))).trans (hbd.mono (by omega)))
    have hXF : X < F := by omega
    have hZF : Z + 2 ≤ F := by omega
    have hFw := blk_lt HFd.out
    have e0 : (wc.alloc (.cells #[.int .i64 r4.1, .int .i64 r4.2] 32)).cell? ⟨X, 0, none⟩ = some (.int .i64 r1.1) := below_cell (box_below _ _) (blk_cell hXc 0 _ rfl)
    have e1 : (wc.alloc (.cells #[.int .i64 r4.1, .int .i64 r4.2] 32)).cell? ⟨X, 1, none⟩ = some (.int .i64 u0) := below_cell (box_below _ _) (blk_cell hXc 1 _ rfl)
    have e2 : (wc.alloc (.cells #[.int .i64 r4.1, .int .i64 r4.2] 32)).cell? ⟨X, 2, none⟩ = some (.int .i64 u1) := below_cell (box_below _ _) (blk_cell hXc 2 _ rfl)
    have e3 : (wc.alloc (.cells #[.int .i64 r4.1, .int .i64 r4.2] 32)).cell? ⟨X, 3, none⟩ = some (.int .i64 u2) := below_cell (box_below _ _) (blk_cell hXc 3 _ rfl)
    have e4 : (wc.alloc (.cells #[.int .i64 r4.1, .int .i64 r4.2] 32)).cell? ⟨X, 4, none⟩ = some (.slice A7 n7 c7) := below_cell (box_below _ _) (blk_cell hXc 4 _ rfl)
    clear hbc hbd hXc HXb HRBb HHb HCb
    by_cases he : r4.1 = 0
    · have ge : (r4.1 != 0) = false := by simpa using he
      have HE := Lib.hid he
      clear he
      go_wp2_with fail
      rw [← hwd, ← hF]
      clear hwd hF e0 e1 e2 e3 e4
      refine (rpcheck_any r1.1 u0 u1 u2 A7 n7 c7 _ hn7).mono ?_
      obtain ⟨ck, hck⟩ : ∃ z, z = chkP r1.1 u0 u1 u2 n7 := ⟨_, rfl⟩
      rw [← hck]
      rintro e wf ⟨rfl, hbe⟩
      have hFe := blk_below HFd.out hbe
      have hXf := blk_below HXd.out hbe
      have hze := hbe.size
      have HCf := Lib.hid (show Below (Z + 2) w2 wf from HCd.out.trans (hbe.mono (by omega)))
      have HHf := Lib.hid (HHd.out.below hbe)
      have HXf := Lib.hid hXf; have HFf := Lib.hid hFe; have HCK := Lib.hid hck
      have HZf := Lib.hid (blk_same HZ2.out HCf.out (by omega)); have HYf := Lib.hid (blk_same HY2.out HCf.out (by omega))
      clear hFe hXf hbe hck
      have z0 := blk_thawed HZf.out 0
      have v0 := blk_cell HZf.out 0 _ rfl
      have z1 := blk_thawed HZf.out 1
      have v1 := blk_cell HZf.out 1 _ rfl
      have z2 := blk_thawed HZf.out 2
      have v2 := blk_cell HZf.out 2 _ rfl
      have z3 := blk_thawed HZf.out 3
      have v3 := blk_cell HZf.out 3 _ rfl
      have z4 := blk_thawed HZf.out 4
      have v4 := blk_cell HZf.out 4 _ rfl
      have y0 := blk_thawed HYf.out 0
      have yc0 := blk_cell HYf.out 0 _ rfl
      have y1 := blk_thawed HYf.out 1
      have yc1 := blk_cell HYf.out 1 _ rfl
      have e0 := blk_cell HXf.out 0 _ rfl
      have e1 := blk_cell HXf.out 1 _ rfl
      have e2 := blk_cell HXf.out 2 _ rfl
      have e3 := blk_cell HXf.out 3 _ rfl
      have e4 := blk_cell HXf.out 4 _ rfl
      have t0 := blk_cell HFf.out 0 _ rfl
      have t1 := blk_cell HFf.out 1 _ rfl
      by_cases hc : ck = 0
      · have gc : (ck != 0) = false := by simpa using hc
        have HCK0 := Lib.hid hc
        clear hc
        go_wp2_with fail
        go_region
        all_goals
          go_wp2
          have hq := put_pk HZf.out HYf.out (.int .i64 r1.1) (.int .i64 u0) (.int .i64 u1) (.int .i64 u2) (.slice A7 n7 c7) (.int .i64 r4.1) (.int .i64 r4.2)
          have hq1 := blk_ch hq.1 (Ch.drew _ No) id
          have hq2 := blk_ch hq.2.1 (Ch.drew _ No) id
          have hz := HZW.out
          have hres : getP b = ⟨r1.1, u0, u1, u2, r3.1, r4.1, r4.2⟩ := by
            rw [HGP.out, HE.out]
            exact (getX_mk x r1 u0 u1 u2 r3 r4 HR1.out HU.out HR3.out HR4.out).1 HE.out (by rw [HL7.out, ← HCK.out]; exact HCK0.out)
          exact bodyPost_ret (results_two rfl _ _ Z (Z + 1) 24 32 _ _ (0, 0) (0, 0) _ _ rfl hq1 Try.underlying24 rfl (by kernel_rfl) rfl hq2 Try.underlying32 rfl (by kernel_rfl)) rfl ⟨A7, n7, c7, by rw [hres], by rw [hres]; exact (HHf.out.ch hq.2.2 (fun a ha e => by have h9 := HAF.out a ha; omega)).ch (Ch.drew _ No) (fun _ _ => id), (((Ch.of_below (HB2.out.trans (HCf.out.mono (by omega))) (fun j => Z ≤ j)).trans hq.2.2 (S := (fun j => Z ≤ j)) (fun i hi => by omega)).trans (Ch.drew _ No) (fun _ h => h.elim)).below (Nat.le_refl _) (fun j hj => by omega)⟩
      · have gc : (ck != 0) = true := by simpa using hc
        have HCK0 := Lib.hid hc
        clear hc
        go_wp2_with fail
        have hq := put_pk HZf.out HYf.out (.int .i64 0) (.int .i64 0) (.int .i64 0) (.int .i64 0) (.slice none 0 0) (.int .i64 2) (.int .i64 0)
        have hz := HZW.out
        have hres : getP b = ⟨0, 0, 0, 0, [], 2, 0⟩ := by
          have h2 : r4.2 = 0 := by rw [HR4.out]; exact gE_zero x (by rw [← HR4.out]; exact HE.out)
          rw [HGP.out, (getX_mk x r1 u0 u1 u2 r3 r4 HR1.out HU.out HR3.out HR4.out).2.1 HE.out (by rw [HL7.out, ← HCK.out]; exact HCK0.out), h2]
        exact bodyPost_ret (results_two rfl _ _ Z (Z + 1) 24 32 _ _ (0, 0) (0, 0) _ _ rfl hq.1 Try.underlying24 rfl (by kernel_rfl) rfl hq.2.1 Try.underlying32 rfl (by kernel_rfl)) rfl ⟨none, 0, 0, by rw [hres], by rw [hres]; exact nil_rd _ _, (((Ch.of_below (HB2.out.trans (HCf.out.mono (by omega))) (fun j => Z ≤ j)).trans hq.2.2 (S := (fun j => Z ≤ j)) (fun i hi => by omega))).below (Nat.le_refl _) (fun j hj => by omega)⟩
    · have ge : (r4.1 != 0) = true := by simpa using he
      have HE := Lib.hid he
      have HZf := Lib.hid (blk_same HZ2.out HCd.out (by omega)); have HYf := Lib.hid (blk_same HY2.out HCd.out (by omega))
      clear he
      have z0 := blk_thawed HZf.out 0
      have v0 := blk_cell HZf.out 0 _ rfl
      have z1 := blk_thawed HZf.out 1
      have v1 := blk_cell HZf.out 1 _ rfl
      have z2 := blk_thawed HZf.out 2
      have v2 := blk_cell HZf.out 2 _ rfl
      have z3 := blk_thawed HZf.out 3
      have v3 := blk_cell HZf.out 3 _ rfl
      have z4 := blk_thawed HZf.out 4
      have v4 := blk_cell HZf.out 4 _ rfl
      have y0 := blk_thawed HYf.out 0
      have yc0 := blk_cell HYf.out 0 _ rfl
      have y1 := blk_thawed HYf.out 1
      have yc1 := blk_cell HYf.out 1 _ rfl
      have t0 := blk_cell HFd.out 0 _ rfl
      have t1 := blk_cell HFd.out 1 _ rfl
      go_wp2_with fail
      rw [← hwd, ← hF]
      clear hwd hF e0 e1 e2 e3 e4
      go_region
      all_goals
        go_wp2
        have hq := put_pk HZf.out HYf.out (.int .i64 0) (.int .i64 0) (.int .i64 0) (.int .i64 0) (.slice none 0 0) (.int .i64 r4.1) (.int .i64 r4.2)
        have hq1 := blk_ch hq.1 (Ch.drew _ No) id
        have hq2 := blk_ch hq.2.1 (Ch.drew _ No) id
        have hz := HZW.out
        have hres : getP b = ⟨0, 0, 0, 0, [], r4.1, r4.2⟩ := by
          rw [HGP.out]
          exact (getX_mk x r1 u0 u1 u2 r3 r4 HR1.out HU.out HR3.out HR4.out).2.2 HE.out
        exact bodyPost_ret (results_two rfl _ _ Z (Z + 1) 24 32 _ _ (0, 0) (0, 0) _ _ rfl hq1 Try.underlying24 rfl (by kernel_rfl) rfl hq2 Try.underlying32 rfl (by kernel_rfl)) rfl ⟨none, 0, 0, by rw [hres], by rw [hres]; exact nil_rd _ _, (((Ch.of_below (HB2.out.trans (HCd.out.mono (by omega))) (fun j => Z ≤ j)).trans hq.2.2 (S := (fun j => Z ≤ j)) (fun i hi => by omega)).trans (Ch.drew _ No) (fun _ h => h.elim)).below (Nat.le_refl _) (fun j hj => by omega)⟩
  · have hq1 : (sum8 x == y) = false := by rw [beq_eq_false_iff_ne]; exact heq
    have hq2 : (sum8 x != y) = true := by rw [bne, hq1]; rfl
    have HGP := Lib.hid (show getP b = ⟨0, 0, 0, 0, [], 11, 0⟩ by unfold getP; rw [if_neg HXB.out.2.2, HXB.out.1, HXB.out.2.1, if_neg heq])
    clear heq
    go_enter Try.func14, Try.ntmps14
    go_wp2_with fail
    rw [← hV, ← hZ]
    clear hV hZ
    refine wp_region_held_drew (S := fun W => (convert 22 9 (.slice (some ⟨ab, off + k0, none⟩) 8 (c0 - k0))).run Try.prog W = .ok (.string ⟨y.toArray⟩) W) (by kernel_rfl) sty0 (fun hHeld => ?_)
    refine wpAnyH_take (i := 0) (oi := { dst := some 11, op := Go.Op.move (Go.Operand.tmp 4), type := 3, pos := "ref.go:49", after := #[], guard := none }) (v := .int .i64 k0) rfl (by kernel_rfl) (by kernel_rfl) (by kernel_rfl) (fun _ _ _ h => h) (Or.inl ⟨by rfl, ?_⟩) (by assumption) ?_
    · intro W hSw
      (try dsimp only at hSw)
      go_simp
    simp only [Act.put, List.setIfInBounds_toArray, List.set_cons_zero, List.set_cons_succ]
    refine wpAnyH_take (i := 1) (oi := { dst := some 12, op := Go.Op.binOp Go.BinOp.lss 3 (Go.Operand.tmp 11) (Go.Operand.const (Go.Value.int Go.IntKind.i64 0)) 3, type := 4, pos := "ref.go:49", after := #[{ on := 0, ground := Go.Ground.data }], guard := none }) (v := .bool false) rfl (by kernel_rfl) (by kernel_rfl) (by kernel_rfl) (fun _ _ _ h => h) (Or.inl ⟨by rfl, ?_⟩) (by assumption) ?_
    · intro W hSw
      (try dsimp only at hSw)
      go_simp
    simp only [Act.put, List.setIfInBounds_toArray, List.set_cons_zero, List.set_cons_succ]
    refine wpAnyH_take (i := 2) (oi := { dst := some 13, op := Go.Op.move (Go.Operand.tmp 12), type := 4, pos := "ref.go:49", after := #[{ on := 1, ground := Go.Ground.data }], guard := none }) (v := .bool false) rfl (by kernel_rfl) (by kernel_rfl) (by kernel_rfl) (fun _ _ _ h => h) (Or.inl ⟨by rfl, ?_⟩) (by assumption) ?_
    · intro W hSw
      (try dsimp only at hSw)
      go_simp
    simp only [Act.put, List.setIfInBounds_toArray, List.set_cons_zero, List.set_cons_succ]
    refine wpAnyH_take (i := 3) (oi := { dst := some 14, op := Go.Op.move (Go.Operand.tmp 0), type := 22, pos := "ref.go:49", after := #[{ on := 2, ground := Go.Ground.guard }], guard := some (2, false) }) (v := .slice (some ⟨ab, off, none⟩) (k0 + 8) c0) rfl (by kernel_rfl) (by kernel_rfl) (by kernel_rfl) (fun _ _ _ h => h) (Or.inl ⟨by rfl, ?_⟩) (by assumption) ?_
    · intro W hSw
      (try dsimp only at hSw)
      go_simp
    simp only [Act.put, List.setIfInBounds_toArray, List.set_cons_zero, List.set_cons_succ]
    refine wpAnyH_take (i := 4) (oi := { dst := some 15, op := Go.Op.move (Go.Operand.tmp 4), type := 3, pos := "ref.go:49", after := #[{ on := 2, ground := Go.Ground.guard }], guard := some (2, false) }) (v := .int .i64 k0) rfl (by kernel_rfl) (by kernel_rfl) (by kernel_rfl) (fun _ _ _ h => h) (Or.inl ⟨by rfl, ?_⟩) (by assumption) ?_
    · intro W hSw
      (try dsimp only at hSw)
      go_simp
    simp only [Act.put, List.setIfInBounds_toArray, List.set_cons_zero, List.set_cons_succ]
    refine wpAnyH_take (i := 5) (oi := { dst := some 16, op := Go.Op.slice 22 (Go.Operand.tmp 14) none (some (Go.Operand.tmp 15)) none, type := 22, pos := "ref.go:49", after := #[{ on := 3, ground := Go.Ground.data }, { on := 4, ground := Go.Ground.data }, { on := 2, ground := Go.Ground.guard }], guard := some (2, false) }) (v := .slice (some ⟨ab, off, none⟩) k0 c0) rfl (by kernel_rfl) (by kernel_rfl) (by kernel_rfl) (fun _ _ _ h => h) (Or.inl ⟨by rfl, ?_⟩) (by assumption) ?_
    · intro W hSw
      (try dsimp only at hSw)
      go_simp
    simp only [Act.put, List.setIfInBounds_toArray, List.set_cons_zero, List.set_cons_succ]
    refine wpAnyH_take (i := 8) (oi := { dst := some 19, op := Go.Op.move (Go.Operand.tmp 0), type := 22, pos := "ref.go:49", after := #[{ on := 2, ground := Go.Ground.guard }], guard := some (2, false) }) (v := .slice (some ⟨ab, off, none⟩) (k0 + 8) c0) rfl (by kernel_rfl) (by kernel_rfl) (by kernel_rfl) (fun _ _ _ h => h) (Or.inl ⟨by rfl, ?_⟩) (by assumption) ?_
    · intro W hSw
      (try dsimp only at hSw)
      go_simp
    simp only [Act.put, List.setIfInBounds_toArray, List.set_cons_zero, List.set_cons_succ]
    refine wpAnyH_take (i := 9) (oi := { dst := some 20, op := Go.Op.move (Go.Operand.tmp 4), type := 3, pos := "ref.go:49", after := #[{ on := 2, ground := Go.Ground.guard }], guard := some (2, false) }) (v := .int .i64 k0) rfl (by kernel_rfl) (by kernel_rfl) (by kernel_rfl) (fun _ _ _ h => h) (Or.inl ⟨by rfl, ?_⟩) (by assumption) ?_
    · intro W hSw
      (try dsimp only at hSw)
      go_simp
    simp only [Act.put, List.setIfInBounds_toArray, List.set_cons_zero, List.set_cons_succ]
    refine wpAnyH_take (i := 10) (oi := { dst := some 21, op := Go.Op.slice 22 (Go.Operand.tmp 19) (some (Go.Operand.tmp 20)) none none, type := 22, pos := "ref.go:49", after := #[{ on := 8, ground := Go.Ground.data }, { on := 9, ground := Go.Ground.data }, { on := 2, ground := Go.Ground.guard }], guard := some (2, false) }) (v := .slice (some ⟨ab, off + k0, none⟩) 8 (c0 - k0)) rfl (by kernel_rfl) (by kernel_rfl) (by kernel_rfl) (fun _ _ _ h => h) (Or.inl ⟨by rfl, ?_⟩) (by assumption) ?_
    · intro W hSw
      (try dsimp only at hSw)
      go_simp
    simp only [Act.put, List.setIfInBounds_toArray, List.set_cons_zero, List.set_cons_succ]
    refine wpAnyH_take (i := 11) (oi := { dst := some 22, op := Go.Op.convert 22 9 (Go.Operand.tmp 21), type := 9, pos := "ref.go:49", after := #[{ on := 10, ground := Go.Ground.data }, { on := 2, ground := Go.Ground.guard }], guard := some (2, false) }) (v := .string ⟨y.toArray⟩) rfl (by kernel_rfl) (by kernel_rfl) (by kernel_rfl) (fun _ _ _ h => h) (Or.inl ⟨by rfl, ?_⟩) (by assumption) ?_
    · intro W hSw
      (try dsimp only at hSw)
      go_simp
    simp only [Act.put, List.setIfInBounds_toArray, List.set_cons_zero, List.set_cons_succ]
    refine wpAnyH_ready (rs := [6]) (by kernel_rfl) (by simp) ?_
    refine AllReadyH.cons (o := { dst := some 17, op := Go.Op.call { callee := Go.Callee.value (Go.Operand.func 40), args := #[Go.Operand.tmp 16], argTypes := #[22] }, type := 22, pos := "ref.go:49", after := #[{ on := 5, ground := Go.Ground.data }, { on := 2, ground := Go.Ground.chain }, { on := 2, ground := Go.Ground.guard }], guard := some (2, false) }) rfl (fun K hK => ?_) AllReadyH.nil
    go_simp
    refine (rsum_any q1).mono ?_; rintro e w2 ⟨A8, c8, rfl, hr8, hf8, hb8⟩
    have st8 := hr8.str (P := Try.prog) 22 5 9 Try.underlying22 Try.underlying5 Try.underlying9
    have sty2 := (q2.below hb8).str (P := Try.prog) 22 5 9 Try.underlying22 Try.underlying5 Try.underlying9
    go_wp2_with fail
    refine hK.out _ _ sty2 (fun hHeld => ?_)
    clear hK K
    try simp only [Act.put, List.setIfInBounds_toArray, List.set_cons_zero, List.set_cons_succ]
    refine wpAnyH_ready (rs := [7]) (by kernel_rfl) (by simp) ?_
    refine AllReadyH.cons (o := { dst := some 18, op := Go.Op.convert 22 9 (Go.Operand.tmp 17), type := 9, pos := "ref.go:49", after := #[{ on := 6, ground := Go.Ground.data }, { on := 2, ground := Go.Ground.guard }], guard := some (2, false) }) rfl (fun K hK => ?_) AllReadyH.nil
    go_simp
    refine hK.out _ _ sty2 (fun hHeld => ?_)
    clear hK K
    try simp only [Act.put, List.setIfInBounds_toArray, List.set_cons_zero, List.set_cons_succ]
    refine wpAnyH_take (i := 12) (oi := { dst := some 23, op := Go.Op.binOp Go.BinOp.neq 9 (Go.Operand.tmp 18) (Go.Operand.tmp 22) 9, type := 4, pos := "ref.go:49", after := #[{ on := 7, ground := Go.Ground.data }, { on := 11, ground := Go.Ground.data }, { on := 2, ground := Go.Ground.guard }], guard := some (2, false) }) (v := .bool true) rfl (by kernel_rfl) (by kernel_rfl) (by kernel_rfl) (fun _ _ _ h => h) (Or.inl ⟨by rfl, ?_⟩) (by assumption) ?_
    · intro W hSw
      (try dsimp only at hSw)
      go_simp
    simp only [Act.put, List.setIfInBounds_toArray, List.set_cons_zero, List.set_cons_succ]
    refine wpAnyH_take (i := 13) (oi := { dst := some 24, op := Go.Op.pick (Go.Operand.tmp 13) (Go.Operand.const (Go.Value.bool true)) (Go.Operand.tmp 23), type := 4, pos := "ref.go:49", after := #[{ on := 2, ground := Go.Ground.data }, { on := 12, ground := Go.Ground.data }], guard := none }) (v := .bool true) rfl (by kernel_rfl) (by kernel_rfl) (by kernel_rfl) (fun _ _ _ h => h) (Or.inl ⟨by rfl, ?_⟩) (by assumption) ?_
    · intro W hSw
      (try dsimp only at hSw)
      go_simp
    simp only [Act.put, List.setIfInBounds_toArray, List.set_cons_zero, List.set_cons_succ]
    refine wpAnyH_done (by kernel_rfl) ?_ _
    have hb2 : Below V.heap.size V w2 := ((Ch.drew V No).below (Nat.le_refl _) (fun _ h => h.elim)).trans hb8
    have HB2 := Lib.hid (HB0.out.trans (hb2.mono HB0.out.size)); have HZ2 := Lib.hid (blk_below HZ0.out hb2); have HY2 := Lib.hid (blk_below HY0.out hb2)
    have hz2 := hb2.size
    have z0 := blk_thawed HZ2.out 0
    have v0 := blk_cell HZ2.out 0 _ rfl
    have z1 := blk_thawed HZ2.out 1
    have v1 := blk_cell HZ2.out 1 _ rfl
    have z2 := blk_thawed HZ2.out 2
    have v2 := blk_cell HZ2.out 2 _ rfl
    have z3 := blk_thawed HZ2.out 3
    have v3 := blk_cell HZ2.out 3 _ rfl
    have z4 := blk_thawed HZ2.out 4
    have v4 := blk_cell HZ2.out 4 _ rfl
    have y0 := blk_thawed HY2.out 0
    have yc0 := blk_cell HY2.out 0 _ rfl
    have y1 := blk_thawed HY2.out 1
    have yc1 := blk_cell HY2.out 1 _ rfl
    clear hb2 hb8 hr8 hf8 q1 q2 st8 sty2 sty0 hq1 hq2
    go_wp2_with fail
    have hq := put_pk HZ2.out HY2.out (.int .i64 0) (.int .i64 0) (.int .i64 0) (.int .i64 0) (.slice none 0 0) (.int .i64 11) (.int .i64 0)
    have hz := HZW.out
    have hres : getP b = ⟨0, 0, 0, 0, [], 11, 0⟩ := HGP.out
    exact bodyPost_ret (results_two rfl _ _ Z (Z + 1) 24 32 _ _ (0, 0) (0, 0) _ _ rfl hq.1 Try.underlying24 rfl (by kernel_rfl) rfl hq.2.1 Try.underlying32 rfl (by kernel_rfl)) rfl ⟨none, 0, 0, by rw [hres], by rw [hres]; exact nil_rd _ _, (((Ch.of_below HB2.out (fun j => j = Z ∨ j = Z + 1)).trans hq.2.2 (S := (fun j => j = Z ∨ j = Z + 1)) (fun i hi => by omega))).below (Nat.le_refl _) (fun j hj => by omega)⟩
end Go.Proofs.Ytncahekankbalaa
