/- Walks: a packet's bytes (PutPacket, the program's and the reference's). Conditions: the body is read, and short. -/
import Derived.Test.YtncahekankbalaaF1
namespace Go.Proofs.Ytncahekankbalaa
open Go.RowKit
set_option linter.unusedVariables false
set_option linter.unusedSimpArgs false

/-- numbers written one behind the other -/
def numsW (p : List UInt8 × Int) (xs : List Int) : List UInt8 × Int := xs.foldl (fun p x => wnum p.1 p.2 x) p
theorem numsW_snoc (p : List UInt8 × Int) (xs : List Int) (x : Int) : numsW p (xs ++ [x]) = wnum (numsW p xs).1 (numsW p xs).2 x := by simp [numsW]
theorem numsW_len : ∀ (xs : List Int) (p : List UInt8 × Int), p.1.length ≤ 1048576 → (numsW p xs).1.length ≤ 1048576
  | [], p, h => h
  | x :: xs, p, h => numsW_len xs _ (wnum_len _ _ _ h)
def pktW (f t n a : Int) (l : List UInt8) : List UInt8 × Int := wraw (numsW ([], 0) [f, t, n, a]).1 (numsW ([], 0) [f, t, n, a]).2 l
/-- a packet's bytes without the check -/
def pktX (f t n a : Int) (l : List UInt8) : List UInt8 := frm f.toNat ++ (frm t.toNat ++ (frm n.toNat ++ (frm a.toNat ++ (frm l.length ++ l))))
theorem pktX_len (f t n a : Int) (l : List UInt8) : (pktX f t n a l).length ≤ 45 + l.length ∧ 1 ≤ (pktX f t n a l).length := by
  have h1 := frm_len9 f.toNat; have h2 := frm_len9 t.toNat; have h3 := frm_len9 n.toNat; have h4 := frm_len9 a.toNat; have h5 := frm_len9 l.length
  have h6 := frm_len f.toNat
  unfold pktX
  simp only [List.length_append]
  omega
theorem chkP_fine {f t n a : Int} {m : Nat} (h : chkP f t n a m = 0) : PFine f t n a m := by
  unfold chkP at h
  split at h
  · assumption
  · simp at h
theorem chkP_two {f t n a : Int} {m : Nat} (h : chkP f t n a m ≠ 0) : chkP f t n a m = 2 := by
  unfold chkP at h ⊢
  split at h
  · exact absurd rfl h
  · rename_i h1; rw [if_neg h1]
theorem pktW_ok (f t n a : Int) (l : List UInt8) (h : chkP f t n a l.length = 0) : pktW f t n a l = (pktX f t n a l, 0) := by
  obtain ⟨h1, ⟨hf, ht, hn, ha⟩, hm, _⟩ := chkP_fine h
  have hf := okN_yes hf; have ht := okN_yes ht; have hn := okN_yes hn; have ha := okN_yes ha
  obtain ⟨f, rfl⟩ : ∃ x : Nat, f = x := ⟨f.toNat, by omega⟩
  obtain ⟨t, rfl⟩ : ∃ x : Nat, t = x := ⟨t.toNat, by omega⟩
  obtain ⟨n, rfl⟩ : ∃ x : Nat, n = x := ⟨n.toNat, by omega⟩
  obtain ⟨a, rfl⟩ : ∃ x : Nat, a = x := ⟨a.toNat, by omega⟩
  have k1 := frm_len9 f; have k2 := frm_len9 t; have k3 := frm_len9 n; have k4 := frm_len9 a; have k5 := frm_len9 l.length
  unfold pktW
  have e : numsW ([], 0) [(f : Int), t, n, a] = (frm f ++ (frm t ++ (frm n ++ frm a)), 0) := by
    show wnum (wnum (wnum (wnum [] 0 (f : Int)).1 (wnum [] 0 (f : Int)).2 (t : Int)).1 (wnum (wnum [] 0 (f : Int)).1 (wnum [] 0 (f : Int)).2 (t : Int)).2 (n : Int)).1 (wnum (wnum (wnum [] 0 (f : Int)).1 (wnum [] 0 (f : Int)).2 (t : Int)).1 (wnum (wnum [] 0 (f : Int)).1 (wnum [] 0 (f : Int)).2 (t : Int)).2 (n : Int)).2 (a : Int) = _
    rw [wnum_ok [] f (by omega) (by simp; omega)]
    show wnum (wnum (wnum ([] ++ frm f) 0 (t : Int)).1 (wnum ([] ++ frm f) 0 (t : Int)).2 (n : Int)).1 (wnum (wnum ([] ++ frm f) 0 (t : Int)).1 (wnum ([] ++ frm f) 0 (t : Int)).2 (n : Int)).2 (a : Int) = _
    rw [wnum_ok _ t (by omega) (by simp; omega)]
    show wnum (wnum (([] ++ frm f) ++ frm t) 0 (n : Int)).1 (wnum (([] ++ frm f) ++ frm t) 0 (n : Int)).2 (a : Int) = _
    rw [wnum_ok _ n (by omega) (by simp; omega)]
    show wnum ((([] ++ frm f) ++ frm t) ++ frm n) 0 (a : Int) = _
    rw [wnum_ok _ a (by omega) (by simp; omega)]
    simp
  rw [e]
  unfold wraw
  rw [wput_ok _ _ (by simp; omega)]
  unfold pktX
  simp
def pktB (f t n a : Int) (l : List UInt8) : List UInt8 × Int := if chkP f t n a l.length = 0 then (pktX f t n a l ++ sum8 (pktX f t n a l), 0) else ([], 2)
def ToldP (w : World) (r : List UInt8 × Int) (e : Ending) (w' : World) : Prop := ∃ A n c, e = .returned (.tuple #[.slice A n c, .int .i64 r.2]) ∧ Held w' w.heap.size A n c r.1 ∧ Below w.heap.size w w'
theorem okN_mem {f t n a x : Int} (h : okN f = true ∧ okN t = true ∧ okN n = true ∧ okN a = true) {k : Nat} (hx : [f, t, n, a][k]? = some x) : x ≤ 9223372036854775807 := by
  have hm := List.mem_of_getElem? hx
  simp only [List.mem_cons, List.not_mem_nil, or_false] at hm
  obtain ⟨h1, h2, h3, h4⟩ := h
  have h1 := okN_yes h1; have h2 := okN_yes h2; have h3 := okN_yes h3; have h4 := okN_yes h4
  rcases hm with rfl | rfl | rfl | rfl <;> omega
set_option maxRecDepth 100000 in
set_option maxHeartbeats 4000000 in
theorem pput_any (f t n a : Int) {A : Option Addr} {m c : Nat} {l : List UInt8} {w : World} (hr : Rd w A m c 1 (u8s l)) (hm : m ≤ 9223372036854775807) : Calls Try.prog 11 #[.agg #[.int .i64 f, .int .i64 t, .int .i64 n, .int .i64 a, .slice A m c]] w (ToldP w (pktB f t n a l)) := by
  have hl : l.length = m := by have := hr.len; simpa using this
  obtain ⟨B, hB⟩ : ∃ z, z = w.heap.size := ⟨_, rfl⟩
  obtain ⟨V, hV⟩ : ∃ z, z = w.alloc (.cells #[.int .i64 f, .int .i64 t, .int .i64 n, .int .i64 a, .slice A m c] 24) := ⟨_, rfl⟩
  have HBL := Lib.hid (show Blk V B 24 #[.int .i64 f, .int .i64 t, .int .i64 n, .int .i64 a, .slice A m c] by rw [hV, hB]; exact blk_new _ _ _)
  have HB0 := Lib.hid (show Below w.heap.size w V by rw [hV]; exact box_below _ _)
  have HR := Lib.hid hr; have HBW := Lib.hid hB
  have HML := Lib.hid (show ∀ a, A = some a → 0 < m → a.block < B from fun a ha h0 => by have := rd_in hr a ha h0; omega)
  clear hr
  by_cases hc : chkP f t n a m = 0
  · have hall := (chkP_fine hc).2.1
    have HOK := Lib.hid hall
    have hX := pktW_ok f t n a l (by rw [hl]; exact hc)
    have hlen := pktX_len f t n a l
    have hlm := (chkP_fine hc).2.2.1
    obtain ⟨X, hXd⟩ : ∃ z, z = pktX f t n a l := ⟨_, rfl⟩
    have HRES := Lib.hid (show pktB f t n a l = (X ++ sum8 X, 0) by unfold pktB; rw [hl, if_pos hc, hXd])
    rw [← hXd] at hX hlen
    have HX := Lib.hid hX; have HC := Lib.hid hc
    clear hX hXd hc hall
    go_enter Try.func11, Try.ntmps11
    go_wp2_with fail
    rw [← hV, ← hB]
    clear hV hB
    refine (pcheck_any f t n a A m c _ (by omega)).mono ?_
    rw [HC.out]
    rintro e w2 ⟨rfl, hb2⟩
    have HB2 := Lib.hid (HB0.out.trans (hb2.mono HB0.out.size)); have HBL2 := Lib.hid (blk_below HBL.out hb2)
    clear hb2
    go_wp2_with fail
    refine (new_any w2).mono ?_
    rintro e w3 ⟨W, rfl, hW, hwr, hb3⟩
    have hBX : B < w2.heap.size := blk_lt HBL2.out
    have hWlt := wr_lt hwr
    obtain ⟨G, hG⟩ : ∃ z, z = w3.heap.size := ⟨_, rfl⟩
    obtain ⟨w4, hw4⟩ : ∃ z, z = w3.alloc (.cells #[.int .i64 f, .int .i64 t, .int .i64 n, .int .i64 a] 3) := ⟨_, rfl⟩
    have hb4 : Below w3.heap.size w3 w4 := by rw [hw4]; exact box_below _ _
    have hG4 : Blk w4 G 3 #[.int .i64 f, .int .i64 t, .int .i64 n, .int .i64 a] := by rw [hw4, hG]; exact blk_new _ _ _
    have HB4 := Lib.hid (HB2.out.trans ((hb3.trans (hb4.mono hb3.size)).mono HB2.out.size)); have HBL4 := Lib.hid (blk_below (blk_below HBL2.out hb3) hb4)
    have HW4 := Lib.hid (wr_ch hwr (Ch.of_below hb4 No) id (fun _ _ => id)); have HG4 := Lib.hid hG4
    have b0 := blk_cell (blk_below HBL2.out hb3) 0 _ rfl
    have b1 := blk_cell (blk_below HBL2.out hb3) 1 _ rfl
    have b2 := blk_cell (blk_below HBL2.out hb3) 2 _ rfl
    have b3 := blk_cell (blk_below HBL2.out hb3) 3 _ rfl
    have hWG : W < G := by omega
    have hBG : B < G := by omega
    have hBW : B < W := by omega
    clear hb3 hb4 hG4 hwr
    go_wp2_with fail
    rw [← hw4, ← hG]
    clear hw4 hG b0 b1 b2 b3
    go_loopw [26] (fun i wr => ∃ (k : Nat) (v : Value), k ≤ 4 ∧ i = .int .i64 k ∧ Wr wr W v (numsW ([], 0) ([f, t, n, a].take k)).1 (numsW ([], 0) ([f, t, n, a].take k)).2 ∧ Blk wr B 24 #[.int .i64 f, .int .i64 t, .int .i64 n, .int .i64 a, .slice A m c] ∧ Blk wr G 3 #[.int .i64 f, .int .i64 t, .int .i64 n, .int .i64 a] ∧ (∀ j, v.ownBlock = some j → j ≠ G) ∧ Below w.heap.size w wr) (fun i _ => 4 - (intOf i).toNat)
    case atStart => exact ⟨0, _, by omega, rfl, HW4.out, HBL4.out, HG4.out, (fun j hj => by cases hj), HB4.out⟩
    case round =>
      clear HW4 HBL4 HG4 HB4
      obtain ⟨k, v, hk, rfl, hwr, hbl, hg, hvg, hbb⟩ := hrel
      have HWR := Lib.hid hwr; have HBLr := Lib.hid hbl; have HGr := Lib.hid hg; have HVG := Lib.hid hvg; have HBB := Lib.hid hbb
      have hGr := blk_lt hg
      clear hwr hbl hvg hbb
      by_cases hlt : k < 4
      · obtain ⟨x, hx⟩ : ∃ x, [f, t, n, a][k]? = some x := ⟨[f, t, n, a][k], by simp [hlt]⟩
        have hxb := okN_mem HOK.out hx
        have hcell : wr.cell? ⟨G, k, none⟩ = some (.int .i64 x) := blk_cell hg k _ (by
          show ((i64s [f, t, n, a]).toArray)[k]? = some (.int .i64 x)
          rw [List.getElem?_toArray]
          unfold i64s
          rw [List.getElem?_map, hx]; rfl)
        have htk : [f, t, n, a].take (k + 1) = [f, t, n, a].take k ++ [x] := by rw [List.take_add_one, hx]; rfl
        have HXB := Lib.hid hxb; have HTK := Lib.hid htk
        have hlen2 := numsW_len ([f, t, n, a].take k) ([], 0) (by decide)
        have HL2 := Lib.hid hlen2
        clear hxb htk hx hg hlen2
        go_wp2_with fail
        refine (wnum_any HWR.out HL2.out x HXB.out).mono ?_
        rw [← numsW_snoc, ← HTK.out]
        rintro e w5 ⟨he5, v5, hwr5, hch5, ho5⟩
        cases he5
        have hz5 := hch5.size
        have hbl5 := blk_ch HBLr.out hch5 (by rintro (e | e); omega; have := wr_own HWR.out e; omega)
        have hg5 := blk_ch HGr.out hch5 (by rintro (e | e); omega; exact HVG.out _ e rfl)
        have hbe5 := ((Ch.of_below HBB.out (fun j => j = W ∨ v.ownBlock = some j)).trans hch5 (fun i hi => .inl hi)).below (Nat.le_refl _) (fun j hj => by have := HBW.out; rcases hj with e | e; omega; have := wr_own HWR.out e; omega)
        have hvg5 : ∀ j, v5.ownBlock = some j → j ≠ G := fun j hj => by
          rcases ho5 with e | ⟨y, e, hy⟩
          · rw [e] at hj; exact HVG.out j hj
          · rw [e] at hj; cases hj; omega
        clear hcell hch5
        go_wp2
        go_roundw
        case rel => exact ⟨k + 1, v5, by omega, by go_num, hwr5, hbl5, hg5, hvg5, hbe5⟩
        case measure => simp [intOf]; omega
      · obtain rfl : k = 4 := by omega
        clear hg
        have c4 := blk_cell HBLr.out 4 _ rfl
        go_wp2_with fail
        refine (wraw_any HWR.out (numsW_len _ _ (by decide)) (HR.out.below HBB.out) (by omega) (fun a ha h0 => by have h1 := HML.out a ha h0; exact ⟨by omega, fun j hj => by have := wr_own HWR.out hj; omega⟩)).mono ?_
        rw [show wraw (numsW ([], 0) ([f, t, n, a].take 4)).1 (numsW ([], 0) ([f, t, n, a].take 4)).2 l = (X, 0) from HX.out]
        rintro e w6 ⟨he6, v6, hwr6, hch6, ho6⟩
        cases he6
        have HB6 := Lib.hid (((Ch.of_below HBB.out (fun j => j = W ∨ v.ownBlock = some j)).trans hch6 (fun i hi => .inl hi)).below (Nat.le_refl _) (fun j hj => by have := HBW.out; rcases hj with e | e; omega; have := wr_own HWR.out e; omega))
        have HW6 := Lib.hid hwr6
        clear hch6 ho6 hwr6 c4
        go_wp2_with fail
        refine (wout_any HW6.out (by show X.length ≤ _; omega)).mono ?_
        rintro e w7 ⟨A7, n7, c7, rfl, hh7, hb7⟩
        have hh7 : Held w7 w6.heap.size A7 n7 c7 X := hh7
        have HB7 := Lib.hid (HB6.out.trans (hb7.mono HB6.out.size))
        have hz6 := HB6.out.size
        rcases hh7 with ⟨_, _, _, hxn⟩ | ⟨g, rfl, hbyt, hxl, hge⟩
        · exfalso; rw [hxn] at hlen; simp at hlen
        have HBY := Lib.hid hbyt; have HXL := Lib.hid hxl
        clear hb7 hbyt
        have hrd7 := byt_row HBY.out
        have hrd7' : Rd w7 (some ⟨g, 0, none⟩) n7 c7 1 (u8s X) := held_rd (base := 0) (.inr ⟨g, rfl, HBY.out, HXL.out, Nat.zero_le _⟩)
        have HRD7 := Lib.hid hrd7'
        clear hrd7 hrd7'
        go_wp2_with fail
        refine (fsum_any HRD7.out).mono ?_
        rintro e w8 ⟨A8, c8, rfl, hr8, hf8, hb8⟩
        have HB8 := Lib.hid (HB7.out.trans (hb8.mono HB7.out.size)); have HBY8 := Lib.hid (byt_below HBY.out hb8); have HR8 := Lib.hid hr8
        clear hb8 hr8 hf8
        go_wp2_with (at_builtin; refine wpList_app_b _ rfl _ _ 22 rfl 5 Try.underlying22 info5 g n7 c7 X rfl HBY8.out HXL.out A8 8 c8 (sum8 X) rfl HR8.out (by omega) ?_; intro g' c' w9 hb9 hat9 hch9)
        go_ret2
        have hb8 := HB8.out
        have hz8 := hb8.size
        refine ⟨some ⟨g', 0, none⟩, n7 + 8, c', by rw [HRES.out] <;> rfl, ?_, ((Ch.of_below hb8 (fun j => j = g)).trans hch9 (fun i hi => .inl hi)).below (Nat.le_refl _) (fun j hj => by omega)⟩
        rw [HRES.out]
        exact .inr ⟨g', rfl, hb9, by rw [List.length_append, HXL.out, sum8_len], by rcases hat9 with ⟨h, _⟩ | ⟨h, _⟩ <;> omega⟩
  · have hc2 := chkP_two hc
    have HRES := Lib.hid (show pktB f t n a l = ([], 2) by unfold pktB; rw [hl, if_neg hc])
    have HC := Lib.hid hc2
    clear hc hc2
    go_enter Try.func11, Try.ntmps11
    go_wp2_with fail
    rw [← hV, ← hB]
    clear hV hB
    refine (pcheck_any f t n a A m c _ (by omega)).mono ?_
    rw [HC.out]
    rintro e w2 ⟨rfl, hb2⟩
    go_wp2
    go_ret2
    exact ⟨none, 0, 0, by rw [HRES.out] <;> rfl, by rw [HRES.out]; exact held_nil _ _, HB0.out.trans (hb2.mono HB0.out.size)⟩
end Go.Proofs.Ytncahekankbalaa
