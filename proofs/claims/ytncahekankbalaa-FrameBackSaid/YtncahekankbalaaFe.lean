/- Walk: the message of bytes, by the program. Conditions: the bytes are read, and short. -/
import Derived.Test.YtncahekankbalaaFc
import Derived.Test.YtncahekankbalaaF5
import Derived.Test.YtncahekankbalaaFd
namespace Go.Proofs.Ytncahekankbalaa
open Go.RowKit
set_option linter.unusedVariables false
set_option linter.unusedSimpArgs false
theorem lk1 {W : World} {M : Nat} {k : Int} (h : W.ownsMap Try.prog 71 fnElem M 3 rdD) (hk : k = 1) : (Instr.lookup 74 (.map (some M)) (.int .i64 k) true).run Try.prog W = .ok (.tuple #[.func (.func 64) #[] #[], .bool true]) W := by subst hk; exact look1 h
theorem lk2 {W : World} {M : Nat} {k : Int} (h : W.ownsMap Try.prog 71 fnElem M 3 rdD) (hk : k = 2 ∨ k = 3) : (Instr.lookup 74 (.map (some M)) (.int .i64 k) true).run Try.prog W = .ok (.tuple #[.func (.func 63) #[] #[], .bool true]) W := by rcases hk with rfl | rfl; exact look2 h; exact look3 h
theorem lk0 {W : World} {M : Nat} {k : Int} (h : W.ownsMap Try.prog 71 fnElem M 3 rdD) (hk : k = 0) : ∃ v, (Instr.lookup 74 (.map (some M)) (.int .i64 k) true).run Try.prog W = .ok (.tuple #[v, .bool false]) W := by subst hk; exact look0 h
set_option maxRecDepth 100000 in
set_option maxHeartbeats 8000000 in
theorem mget_any {A0 : Option Addr} {n0 c0 : Nat} {b : List UInt8} {w : World} (hr : Rd w A0 n0 c0 1 (u8s b)) (hn : n0 ≤ 100000000) : Calls Try.prog 25 #[.slice A0 n0 c0] w (MsgQ w (getM b)) := by
  have hl : b.length = n0 := by have := hr.len; simpa using this
  obtain ⟨Z, hZ⟩ : ∃ z, z = w.heap.size := ⟨_, rfl⟩
  obtain ⟨V, hV⟩ : ∃ z, z = (w.alloc (.cells #[.int .i64 0, .int .i64 0, .int .i64 0, .int .i64 0, .slice none 0 0] 43)).alloc (.cells #[.int .i64 0, .int .i64 0] 32) := ⟨_, rfl⟩
  obtain ⟨b1, b2, b3⟩ := two_new w #[.int .i64 0, .int .i64 0, .int .i64 0, .int .i64 0, .slice none 0 0] 43 #[.int .i64 0, .int .i64 0] 32
  rw [← hV, ← hZ] at b1 b2
  rw [← hV] at b3
  have hsz : Z + 2 = V.heap.size := by rw [hV, hZ]; simp
  have hAZ := fun a (ha : A0 = some a) (h0 : 0 < n0) => rd_in hr a ha h0
  have HR := Lib.hid (hr.below b3); have HB0 := Lib.hid b3; have HZ0 := Lib.hid b1; have HY0 := Lib.hid b2; have HL := Lib.hid hl; have HZW := Lib.hid hZ
  have HAZ := Lib.hid (show ∀ a, A0 = some a → 0 < n0 → a.block < Z from fun a ha h0 => by have := hAZ a ha h0; omega)
  clear b1 b2 b3 hr hl hAZ
  go_enter Try.func25, Try.ntmps25
  go_wp2_with fail
  rw [← hV, ← hZ]
  clear hV hZ
  refine (open_any HR.out (by omega)).mono ?_
  rintro e w3 ⟨R, A, n, c, rfl, hrb, hR, hA, hb3⟩
  have hn1 : n ≤ 100000000 := by have h9 : b.length = n := rdb_len hrb; have h8 := HL.out; omega
  have hR3 : R < w3.heap.size := rdb_lt hrb
  obtain ⟨X, hX⟩ : ∃ z, z = w3.heap.size := ⟨_, rfl⟩
  have HA := Lib.hid (show ∀ a, A = some a → 0 < n → Z + 2 ≤ a.block ∧ a.block < X from fun a ha h0 => ⟨by have := hA a ha; omega, by have := rd_in hrb.rd a ha h0; omega⟩)
  obtain ⟨w4, hw4⟩ : ∃ z, z = w3.alloc (.cells #[.int .i64 0, .int .i64 0, .int .i64 0, .int .i64 0, .slice none 0 0] 43) := ⟨_, rfl⟩
  have hb4 : Below w3.heap.size w3 w4 := by rw [hw4]; exact box_below _ _
  have hX4 : Blk w4 X 43 #[.int .i64 0, .int .i64 0, .int .i64 0, .int .i64 0, .slice none 0 0] := by rw [hw4, hX]; exact blk_new _ _ _
  have HC4 := Lib.hid (show Below (Z + 2) V w4 from (hb3.trans (hb4.mono hb3.size)).mono (by omega))
  have HRB4 := Lib.hid (rdb_ch hrb (Ch.of_below hb4 No) id (fun _ _ => id)); have HX4 := Lib.hid hX4
  have hRX : R < X := by omega
  have hZR : Z + 2 ≤ R := by omega
  have hXw4 : X < w4.heap.size := blk_lt hX4
  clear hrb hb3 hb4 hX4
  go_wp2_with fail
  rw [← hw4, ← hX]
  clear hw4 hX
  refine (num_any HRB4.out 1 3).mono ?_
  obtain ⟨r1, hr1⟩ : ∃ z, z = rnum ⟨b, 0, 0, 0⟩ 1 3 := ⟨_, rfl⟩
  rw [← hr1]
  have Hr1 := Lib.hid hr1
  clear hr1
  obtain ⟨kv, hkv⟩ : ∃ z, z = r1.1 := ⟨_, rfl⟩
  rintro e w5 ⟨he, hrb, hch⟩
  rw [← hkv] at he
  cases he
  have Hkv := Lib.hid hkv
  clear hkv
  have hx := blk_ch HX4.out hch (by omega)
  have f0 := blk_thawed hx 0
  have x0 := blk_cell hx 0 _ rfl
  obtain ⟨w6, hw6⟩ : ∃ z, z = w5.setCell ⟨X, 0, none⟩ (.int .i64 kv) := ⟨_, rfl⟩
  have hcs := Ch.setCell w5 ⟨X, 0, none⟩ (.int .i64 kv)
  rw [← hw6] at hcs
  have HX6 := Lib.hid (show Blk w6 X 43 #[.int .i64 kv, .int .i64 0, .int .i64 0, .int .i64 0, .slice none 0 0] by rw [hw6]; exact blk_set hx 0 _)
  have HRB6 := Lib.hid (rdb_ch0 hrb hcs (fun e => by have e : R = X := e; omega) (fun a ha h0 e => by have h9 := HA.out a ha h0; have e : a.block = X := e; omega))
  have HC6 := Lib.hid (show Below (Z + 2) V w6 from (HC4.out.trans (hch.below (by have := HC4.out.size; omega) (fun k hk => by omega))).trans (hcs.below (by have := HC4.out.size; have := hch.size; omega) (fun k hk => by have hk : k = X := hk; omega)))
  clear hx hcs hrb hch HC4 HRB4 HX4
  go_wp2_with fail
  rw [← hw6]
  clear hw6 f0 x0
  refine (num_any HRB6.out 1 1099511627776).mono ?_
  obtain ⟨r2, hr2⟩ : ∃ z, z = rnum r1.2 1 1099511627776 := ⟨_, rfl⟩
  rw [← hr2]
  have Hr2 := Lib.hid hr2
  clear hr2
  obtain ⟨iv, hiv⟩ : ∃ z, z = r2.1 := ⟨_, rfl⟩
  rintro e w7 ⟨he, hrb, hch⟩
  rw [← hiv] at he
  cases he
  have Hiv := Lib.hid hiv
  clear hiv
  have hx := blk_ch HX6.out hch (by omega)
  have f1 := blk_thawed hx 1
  have x1 := blk_cell hx 1 _ rfl
  obtain ⟨w8, hw8⟩ : ∃ z, z = w7.setCell ⟨X, 1, none⟩ (.int .i64 iv) := ⟨_, rfl⟩
  have hcs := Ch.setCell w7 ⟨X, 1, none⟩ (.int .i64 iv)
  rw [← hw8] at hcs
  have HX8 := Lib.hid (show Blk w8 X 43 #[.int .i64 kv, .int .i64 iv, .int .i64 0, .int .i64 0, .slice none 0 0] by rw [hw8]; exact blk_set hx 1 _)
  have HRB8 := Lib.hid (rdb_ch0 hrb hcs (fun e => by have e : R = X := e; omega) (fun a ha h0 e => by have h9 := HA.out a ha h0; have e : a.block = X := e; omega))
  have HC8 := Lib.hid (show Below (Z + 2) V w8 from (HC6.out.trans (hch.below (by have := HC6.out.size; omega) (fun k hk => by omega))).trans (hcs.below (by have := HC6.out.size; have := hch.size; omega) (fun k hk => by have hk : k = X := hk; omega)))
  clear hx hcs hrb hch HC6 HRB6 HX6
  have hk3 : kv = 1 ∨ (kv = 2 ∨ kv = 3) ∨ kv = 0 := by
    have h9 := rnum_in ⟨b, 0, 0, 0⟩ 1 3
    rw [← Hr1.out, ← Hkv.out] at h9
    omega
  have hXw8 : X < w8.heap.size := blk_lt HX8.out
  rcases hk3 with hk | hk | hk
  · have HK := Lib.hid hk
    clear hk
    go_wp2_with fail
    rw [← hw8]
    clear hw8 f1 x1
    have s0 : w8.drew.cell? ⟨X, 0, none⟩ = some (.int .i64 kv) := blk_cell HX8.out 0 _ rfl
    go_region_held3 (fun W => W.cell? ⟨X, 0, none⟩ = some (.int .i64 kv)) (first | exact s2 | exact s0) (first | (go_at_call 52; ((with_reducible refine (readers_any _).mono ?_); rintro e w9 ⟨rfl, hown, hb9⟩; have s2 := below_cell hb9 s0; have hlk := lk1 (M := w8.heap.size) hown HK.out)))
    have hb : Below w8.heap.size w8 w9 := ((Ch.drew w8 No).below (Nat.le_refl _) (fun _ h => h.elim)).trans hb9
    have HX9 := Lib.hid (blk_below HX8.out hb); have HRB9 := Lib.hid (rdb_ch HRB8.out (Ch.of_below hb No) id (fun _ _ => id)); have HC9 := Lib.hid (HC8.out.trans (hb.mono (by have := HC8.out.size; omega)))
    have hz9 := hb.size
    clear s0 s2 hlk hown hb9 hb HX8 HRB8 HC8
    go_wp2_with fail
    obtain ⟨r3, hr3⟩ : ∃ z, z = rnum r2.2 1 60000 := ⟨_, rfl⟩
    obtain ⟨r4n, hr4n⟩ : ∃ z, z = rnum r3.2 0 60000 := ⟨_, rfl⟩
    obtain ⟨r5, hr5⟩ : ∃ z, z = rraw r4n.2 200 := ⟨_, rfl⟩
    obtain ⟨sv, hsv⟩ : ∃ z, z = r3.1 := ⟨_, rfl⟩
    obtain ⟨av, hav⟩ : ∃ z, z = r4n.1 := ⟨_, rfl⟩
    obtain ⟨lv, hlv⟩ : ∃ z, z = r5.1 := ⟨_, rfl⟩
    obtain ⟨rr, hrr⟩ : ∃ z, z = r5.2 := ⟨_, rfl⟩
    have Hf := f64_any HRB9.out (by omega) HX9.out (by omega) (fun a ha h0 => by have h9 := HA.out a ha h0; omega) r3 r4n r5 hr3 hr4n hr5
    rw [← hsv, ← hav, ← hlv, ← hrr] at Hf
    refine Hf.mono ?_
    clear Hf
    have HGM := Lib.hid (show getM b = getW kv iv sv av lv (rend rr) by rw [Hkv.out, Hiv.out, hsv, hav, hlv, hrr]; exact getM_one Hr1.out Hr2.out hr3 hr4n hr5 (by rw [← Hkv.out]; exact HK.out))
    clear hr3 hr4n hr5 hsv hav hlv hrr
    rintro e wb ⟨A7, n7, c7, rfl, hh7, hrb7, hX7, hch7⟩
    have hlen7 : lv.length = n7 := held_len hh7
    have hn7 : n7 ≤ 9223372036854775807 := (held_rd hh7).small
    have HXb := Lib.hid hX7; have HRBb := Lib.hid hrb7; have HL7 := Lib.hid hlen7
    have HHb := Lib.hid (show Held wb (X + 1) A7 n7 c7 lv from held_base hh7 (fun a ha => by have h9 := (held_lt hh7 a ha).1; have h8 := blk_lt HX9.out; omega))
    have HCb := Lib.hid (show Below (Z + 2) V wb from HC9.out.trans (hch7.below (by have := HC9.out.size; omega) (fun k hk => by rcases hk with hk | hk <;> omega)))
    have hXwb : X < wb.heap.size := blk_lt HXb.out
    have hz2b := HCb.out.size
    clear hlen7 hh7 hrb7 hX7 hch7 HX9 HRB9 HC9
    go_wp2_with fail
    obtain ⟨r4, hr4⟩ : ∃ z, z = rend rr := ⟨_, rfl⟩
    have HR4 := Lib.hid hr4
    clear hr4
    refine (end_any HRBb.out).mono ?_
    rw [← HR4.out]
    have HGP := Lib.hid (show getM b = getW kv iv sv av lv r4 by rw [HR4.out]; exact HGM.out)
    rintro e wc ⟨rfl, hbc⟩
    have hzc := hbc.size
    obtain ⟨F, hF⟩ : ∃ z, z = wc.heap.size := ⟨_, rfl⟩
    obtain ⟨wd, hwd⟩ : ∃ z, z = wc.alloc (.cells #[.int .i64 r4.1, .int .i64 r4.2] 32) := ⟨_, rfl⟩
    have hbd : Below wc.heap.size wc wd := by rw [hwd]; exact box_below _ _
    have hFd : Blk wd F 32 #[.int .i64 r4.1, .int .i64 r4.2] := by rw [hwd, hF]; exact blk_new _ _ _
    have hXd := blk_below (blk_below HXb.out hbc) hbd
    have hXc := blk_below HXb.out hbc
    have HFd := Lib.hid hFd; have HXd := Lib.hid hXd
    have HHd := Lib.hid (held_ch (held_ch HHb.out (Ch.of_below hbc No) (fun _ _ => id)) (Ch.of_below hbd No) (fun _ _ => id))
    have HAF := Lib.hid (show ∀ a, A7 = some a → X < a.block ∧ a.block < F from fun a ha => by have h1 := held_lt HHb.out a ha; omega)
    have HCd := Lib.hid (show Below (Z + 2) V wd from (HCb.out.trans (hbc.mono (by omega))).trans (hbd.mono (by omega)))
    have hXF : X < F := by omega
    have hZF : Z + 2 ≤ F := by omega
    have hFw := blk_lt hFd
    have e0 : (wc.alloc (.cells #[.int .i64 r4.1, .int .i64 r4.2] 32)).cell? ⟨X, 0, none⟩ = some (.int .i64 kv) := below_cell (box_below _ _) (blk_cell hXc 0 _ rfl)
    have e1 : (wc.alloc (.cells #[.int .i64 r4.1, .int .i64 r4.2] 32)).cell? ⟨X, 1, none⟩ = some (.int .i64 iv) := below_cell (box_below _ _) (blk_cell hXc 1 _ rfl)
    have e2 : (wc.alloc (.cells #[.int .i64 r4.1, .int .i64 r4.2] 32)).cell? ⟨X, 2, none⟩ = some (.int .i64 sv) := below_cell (box_below _ _) (blk_cell hXc 2 _ rfl)
    have e3 : (wc.alloc (.cells #[.int .i64 r4.1, .int .i64 r4.2] 32)).cell? ⟨X, 3, none⟩ = some (.int .i64 av) := below_cell (box_below _ _) (blk_cell hXc 3 _ rfl)
    have e4 : (wc.alloc (.cells #[.int .i64 r4.1, .int .i64 r4.2] 32)).cell? ⟨X, 4, none⟩ = some (.slice A7 n7 c7) := below_cell (box_below _ _) (blk_cell hXc 4 _ rfl)
    clear hbc hbd hFd hXd hXc HXb HRBb HHb HCb
    by_cases he : r4.1 = 0
    · have ge : (r4.1 == 0) = true := by simpa using he
      have HE := Lib.hid he
      clear he
      go_wp2_with fail
      rw [← hwd, ← hF]
      clear hwd hF e0 e1 e2 e3 e4
      refine (mcheck_any kv iv sv av A7 n7 c7 _ hn7).mono ?_
      obtain ⟨ck, hck⟩ : ∃ z, z = chkM kv iv sv av n7 := ⟨_, rfl⟩
      rw [← hck]
      rintro e we ⟨rfl, hbe⟩
      have hFe := blk_below HFd.out hbe
      have g0 := blk_thawed hFe 0
      have p0 := blk_cell hFe 0 _ rfl
      obtain ⟨wf, hwf⟩ : ∃ z, z = we.setCell ⟨F, 0, none⟩ (.int .i64 ck) := ⟨_, rfl⟩
      have hcf := Ch.setCell we ⟨F, 0, none⟩ (.int .i64 ck)
      rw [← hwf] at hcf
      have hXf := blk_ch (blk_below HXd.out hbe) hcf (fun e => by have e : X = F := e; omega)
      have hFf : Blk wf F 32 #[.int .i64 ck, .int .i64 r4.2] := by rw [hwf]; exact blk_set hFe 0 (.int .i64 ck)
      have hze := hbe.size
      have HCf := Lib.hid (show Below (Z + 2) V wf from (HCd.out.trans (hbe.mono (by omega))).trans (hcf.below (by omega) (fun k hk => by have hk : k = F := hk; omega)))
      have HHf := Lib.hid (held_ch (held_ch HHd.out (Ch.of_below hbe No) (fun _ _ => id)) hcf (fun a ha e => by have h9 := HAF.out a ha; have e : a.block = F := e; omega))
      have HXf := Lib.hid hXf; have HFf := Lib.hid hFf; have HCK := Lib.hid hck
      have HZf := Lib.hid (blk_same HZ0.out HCf.out (by omega)); have HYf := Lib.hid (blk_same HY0.out HCf.out (by omega))
      clear hFe hcf hXf hFf hbe hck
      by_cases hc : ck = 0
      · have gc : (ck != 0) = false := by simpa using hc
        have HCK0 := Lib.hid hc
        clear hc
        have z0 := blk_thawed HZf.out 0
        have v0 := blk_cell HZf.out 0 _ rfl
        have z1 := blk_thawed HZf.out 1
        have v1 := blk_cell HZf.out 1 _ rfl
        have z2 := blk_thawed HZf.out 2
        have v2 := blk_cell HZf.out 2 _ rfl
        have z3 := blk_thawed HZf.out 3
        have v3 := blk_cell HZf.out 3 _ rfl
        have z4 := blk_thawed HZf.out 4
        have v4 := blk_cell HZf.out 4 _ rfl
        have y0 := blk_thawed HYf.out 0
        have yc0 := blk_cell HYf.out 0 _ rfl
        have y1 := blk_thawed HYf.out 1
        have yc1 := blk_cell HYf.out 1 _ rfl
        have e0 := blk_cell HXf.out 0 _ rfl
        have e1 := blk_cell HXf.out 1 _ rfl
        have e2 := blk_cell HXf.out 2 _ rfl
        have e3 := blk_cell HXf.out 3 _ rfl
        have e4 := blk_cell HXf.out 4 _ rfl
        have t0 := blk_cell HFf.out 0 _ rfl
        have t1 := blk_cell HFf.out 1 _ rfl
        go_wp2_with fail
        rw [← hwf]
        clear hwf
        go_region
        all_goals
          go_wp2
          have hq := put_ms HZf.out HYf.out (.int .i64 kv) (.int .i64 iv) (.int .i64 sv) (.int .i64 av) (.slice A7 n7 c7) (.int .i64 ck) (.int .i64 r4.2)
          have hq1 := blk_ch hq.1 (Ch.drew _ No) id
          have hq2 := blk_ch hq.2.1 (Ch.drew _ No) id
          have hz := HZW.out
          have hres : getM b = ⟨kv, iv, sv, av, lv, ck, r4.2⟩ := by rw [HGP.out, HCK0.out]; exact (getW_mk kv iv sv av lv r4).1 HE.out (by rw [HL7.out, ← HCK.out]; exact HCK0.out)
          exact bodyPost_ret (results_two rfl _ _ Z (Z + 1) 43 32 _ _ (0, 0) (0, 0) _ _ rfl hq1 Try.underlying43 rfl (by kernel_rfl) rfl hq2 Try.underlying32 rfl (by kernel_rfl)) rfl ⟨A7, n7, c7, by rw [hres], by rw [hres]; exact held_base (held_ch (held_ch HHf.out hq.2.2 (fun a ha e => by have h9 := HAF.out a ha; omega)) (Ch.drew _ No) (fun _ _ => id)) (fun a ha => by have h9 := HAF.out a ha; omega), (((Ch.of_below (HB0.out.trans (HCf.out.mono (by omega))) (fun j => Z ≤ j)).trans hq.2.2 (S := (fun j => Z ≤ j)) (fun i hi => by omega)).trans (Ch.drew _ No) (fun _ h => h.elim)).below (Nat.le_refl _) (fun j hj => by omega)⟩
      · have gc : (ck != 0) = true := by simpa using hc
        have HCK0 := Lib.hid hc
        clear hc
        have z0 := blk_thawed HZf.out 0
        have v0 := blk_cell HZf.out 0 _ rfl
        have z1 := blk_thawed HZf.out 1
        have v1 := blk_cell HZf.out 1 _ rfl
        have z2 := blk_thawed HZf.out 2
        have v2 := blk_cell HZf.out 2 _ rfl
        have z3 := blk_thawed HZf.out 3
        have v3 := blk_cell HZf.out 3 _ rfl
        have z4 := blk_thawed HZf.out 4
        have v4 := blk_cell HZf.out 4 _ rfl
        have y0 := blk_thawed HYf.out 0
        have yc0 := blk_cell HYf.out 0 _ rfl
        have y1 := blk_thawed HYf.out 1
        have yc1 := blk_cell HYf.out 1 _ rfl
        have e0 := blk_cell HXf.out 0 _ rfl
        have e1 := blk_cell HXf.out 1 _ rfl
        have e2 := blk_cell HXf.out 2 _ rfl
        have e3 := blk_cell HXf.out 3 _ rfl
        have e4 := blk_cell HXf.out 4 _ rfl
        have t0 := blk_cell HFf.out 0 _ rfl
        have t1 := blk_cell HFf.out 1 _ rfl
        go_wp2_with fail
        rw [← hwf]
        clear hwf
        go_region
        all_goals
          go_wp2
          have hq := put_ms HZf.out HYf.out (.int .i64 0) (.int .i64 0) (.int .i64 0) (.int .i64 0) (.slice none 0 0) (.int .i64 ck) (.int .i64 r4.2)
          have hq1 := blk_ch hq.1 (Ch.drew _ No) id
          have hq2 := blk_ch hq.2.1 (Ch.drew _ No) id
          have hz := HZW.out
          have hres : getM b = ⟨0, 0, 0, 0, [], ck, r4.2⟩ := by
            have h2 : ck = 2 := by rw [HCK.out]; exact chkM_two (by rw [← HCK.out]; exact HCK0.out)
            rw [HGP.out, h2]
            exact (getW_mk kv iv sv av lv r4).2.1 HE.out (by rw [HL7.out, ← HCK.out]; exact HCK0.out)
          exact bodyPost_ret (results_two rfl _ _ Z (Z + 1) 43 32 _ _ (0, 0) (0, 0) _ _ rfl hq1 Try.underlying43 rfl (by kernel_rfl) rfl hq2 Try.underlying32 rfl (by kernel_rfl)) rfl ⟨none, 0, 0, by rw [hres], by rw [hres]; exact held_nil _ _, (((Ch.of_below (HB0.out.trans (HCf.out.mono (by omega))) (fun j => Z ≤ j)).trans hq.2.2 (S := (fun j => Z ≤ j)) (fun i hi => by omega)).trans (Ch.drew _ No) (fun _ h => h.elim)).below (Nat.le_refl _) (fun j hj => by omega)⟩
    · have ge : (r4.1 == 0) = false := by simpa using he
      have ge2 : (r4.1 != 0) = true := by simpa using he
      have HE := Lib.hid he
      have HZf := Lib.hid (blk_same HZ0.out HCd.out (by omega)); have HYf := Lib.hid (blk_same HY0.out HCd.out (by omega))
      clear he
      have z0 := blk_thawed HZf.out 0
      have v0 := blk_cell HZf.out 0 _ rfl
      have z1 := blk_thawed HZf.out 1
      have v1 := blk_cell HZf.out 1 _ rfl
      have z2 := blk_thawed HZf.out 2
      have v2 := blk_cell HZf.out 2 _ rfl
      have z3 := blk_thawed HZf.out 3
      have v3 := blk_cell HZf.out 3 _ rfl
      have z4 := blk_thawed HZf.out 4
      have v4 := blk_cell HZf.out 4 _ rfl
      have y0 := blk_thawed HYf.out 0
      have yc0 := blk_cell HYf.out 0 _ rfl
      have y1 := blk_thawed HYf.out 1
      have yc1 := blk_cell HYf.out 1 _ rfl
      have t0 := blk_cell HFd.out 0 _ rfl
      have t1 := blk_cell HFd.out 1 _ rfl
      go_wp2_with fail
      rw [← hwd, ← hF]
      clear hwd hF e0 e1 e2 e3 e4
      go_region
      all_goals
        go_wp2
        have hq := put_ms HZf.out HYf.out (.int .i64 0) (.int .i64 0) (.int .i64 0) (.int .i64 0) (.slice none 0 0) (.int .i64 r4.1) (.int .i64 r4.2)
        have hq1 := blk_ch hq.1 (Ch.drew _ No) id
        have hq2 := blk_ch hq.2.1 (Ch.drew _ No) id
        have hz := HZW.out
        have hres : getM b = ⟨0, 0, 0, 0, [], r4.1, r4.2⟩ := by rw [HGP.out]; exact (getW_mk kv iv sv av lv r4).2.2 HE.out
        exact bodyPost_ret (results_two rfl _ _ Z (Z + 1) 43 32 _ _ (0, 0) (0, 0) _ _ rfl hq1 Try.underlying43 rfl (by kernel_rfl) rfl hq2 Try.underlying32 rfl (by kernel_rfl)) rfl ⟨none, 0, 0, by rw [hres], by rw [hres]; exact held_nil _ _, (((Ch.of_below (HB0.out.trans (HCd.out.mono (by omega))) (fun j => Z ≤ j)).trans hq.2.2 (S := (fun j => Z ≤ j)) (fun i hi => by omega)).trans (Ch.drew _ No) (fun _ h => h.elim)).below (Nat.le_refl _) (fun j hj => by omega)⟩
  · have HK := Lib.hid hk
    clear hk
    go_wp2_with fail
    rw [← hw8]
    clear hw8 f1 x1
    have s0 : w8.drew.cell? ⟨X, 0, none⟩ = some (.int .i64 kv) := blk_cell HX8.out 0 _ rfl
    go_region_held3 (fun W => W.cell? ⟨X, 0, none⟩ = some (.int .i64 kv)) (first | exact s2 | exact s0) (first | (go_at_call 52; ((with_reducible refine (readers_any _).mono ?_); rintro e w9 ⟨rfl, hown, hb9⟩; have s2 := below_cell hb9 s0; have hlk := lk2 (M := w8.heap.size) hown HK.out)))
    have hb : Below w8.heap.size w8 w9 := ((Ch.drew w8 No).below (Nat.le_refl _) (fun _ h => h.elim)).trans hb9
    have HX9 := Lib.hid (blk_below HX8.out hb); have HRB9 := Lib.hid (rdb_ch HRB8.out (Ch.of_below hb No) id (fun _ _ => id)); have HC9 := Lib.hid (HC8.out.trans (hb.mono (by have := HC8.out.size; omega)))
    have hz9 := hb.size
    clear s0 s2 hlk hown hb9 hb HX8 HRB8 HC8
    go_wp2_with fail
    refine (f63_any _ _ _).mono ?_
    rintro e wb ⟨rfl, hbb⟩
    obtain ⟨rr, hrr⟩ : ∃ z, z = r2.2 := ⟨_, rfl⟩
    obtain ⟨sv, hsv⟩ : ∃ z : Int, z = 0 := ⟨_, rfl⟩
    obtain ⟨av, hav⟩ : ∃ z : Int, z = 0 := ⟨_, rfl⟩
    obtain ⟨lv, hlv⟩ : ∃ z : List UInt8, z = [] := ⟨_, rfl⟩
    obtain ⟨A7, hA7⟩ : ∃ z : Option Addr, z = none := ⟨_, rfl⟩
    obtain ⟨n7, hn70⟩ : ∃ z : Nat, z = 0 := ⟨_, rfl⟩
    obtain ⟨c7, hc7⟩ : ∃ z : Nat, z = 0 := ⟨_, rfl⟩
    have HGM := Lib.hid (show getM b = getW kv iv sv av lv (rend rr) by rw [Hkv.out, Hiv.out, hsv, hav, hlv, hrr]; exact getM_two Hr1.out Hr2.out (by rw [← Hkv.out]; have h9 := HK.out; omega))
    have hlen7 : lv.length = n7 := by rw [hlv, hn70]; rfl
    have hn7 : n7 ≤ 9223372036854775807 := by omega
    have HXb := Lib.hid (show Blk wb X 43 #[.int .i64 kv, .int .i64 iv, .int .i64 sv, .int .i64 av, .slice A7 n7 c7] by rw [hsv, hav, hA7, hn70, hc7]; exact blk_below HX9.out hbb)
    have HRBb := Lib.hid (show RdB wb R A n c rr by rw [hrr]; exact rdb_ch HRB9.out (Ch.of_below hbb No) id (fun _ _ => id))
    have HHb := Lib.hid (show Held wb (X + 1) A7 n7 c7 lv by rw [hlv, hA7, hn70, hc7]; exact held_nil _ _)
    have HCb := Lib.hid (show Below (Z + 2) V wb from HC9.out.trans (hbb.mono (by have := HC9.out.size; omega)))
    have HL7 := Lib.hid hlen7
    have hXwb : X < wb.heap.size := blk_lt HXb.out
    have hz2b := HCb.out.size
    clear hlen7 HX9 HRB9 HC9 hbb hrr hsv hav hlv hA7 hn70 hc7
    go_wp2_with fail
    obtain ⟨r4, hr4⟩ : ∃ z, z = rend rr := ⟨_, rfl⟩
    have HR4 := Lib.hid hr4
    clear hr4
    refine (end_any HRBb.out).mono ?_
    rw [← HR4.out]
    have HGP := Lib.hid (show getM b = getW kv iv sv av lv r4 by rw [HR4.out]; exact HGM.out)
    rintro e wc ⟨rfl, hbc⟩
    have hzc := hbc.size
    obtain ⟨F, hF⟩ : ∃ z, z = wc.heap.size := ⟨_, rfl⟩
    obtain ⟨wd, hwd⟩ : ∃ z, z = wc.alloc (.cells #[.int .i64 r4.1, .int .i64 r4.2] 32) := ⟨_, rfl⟩
    have hbd : Below wc.heap.size wc wd := by rw [hwd]; exact box_below _ _
    have hFd : Blk wd F 32 #[.int .i64 r4.1, .int .i64 r4.2] := by rw [hwd, hF]; exact blk_new _ _ _
    have hXd := blk_below (blk_below HXb.out hbc) hbd
    have hXc := blk_below HXb.out hbc
    have HFd := Lib.hid hFd; have HXd := Lib.hid hXd
    have HHd := Lib.hid (held_ch (held_ch HHb.out (Ch.of_below hbc No) (fun _ _ => id)) (Ch.of_below hbd No) (fun _ _ => id))
    have HAF := Lib.hid (show ∀ a, A7 = some a → X < a.block ∧ a.block < F from fun a ha => by have h1 := held_lt HHb.out a ha; omega)
    have HCd := Lib.hid (show Below (Z + 2) V wd from (HCb.out.trans (hbc.mono (by omega))).trans (hbd.mono (by omega)))
    have hXF : X < F := by omega
    have hZF : Z + 2 ≤ F := by omega
    have hFw := blk_lt hFd
    have e0 : (wc.alloc (.cells #[.int .i64 r4.1, .int .i64 r4.2] 32)).cell? ⟨X, 0, none⟩ = some (.int .i64 kv) := below_cell (box_below _ _) (blk_cell hXc 0 _ rfl)
    have e1 : (wc.alloc (.cells #[.int .i64 r4.1, .int .i64 r4.2] 32)).cell? ⟨X, 1, none⟩ = some (.int .i64 iv) := below_cell (box_below _ _) (blk_cell hXc 1 _ rfl)
    have e2 : (wc.alloc (.cells #[.int .i64 r4.1, .int .i64 r4.2] 32)).cell? ⟨X, 2, none⟩ = some (.int .i64 sv) := below_cell (box_below _ _) (blk_cell hXc 2 _ rfl)
    have e3 : (wc.alloc (.cells #[.int .i64 r4.1, .int .i64 r4.2] 32)).cell? ⟨X, 3, none⟩ = some (.int .i64 av) := below_cell (box_below _ _) (blk_cell hXc 3 _ rfl)
    have e4 : (wc.alloc (.cells #[.int .i64 r4.1, .int .i64 r4.2] 32)).cell? ⟨X, 4, none⟩ = some (.slice A7 n7 c7) := below_cell (box_below _ _) (blk_cell hXc 4 _ rfl)
    clear hbc hbd hFd hXd hXc HXb HRBb HHb HCb
    by_cases he : r4.1 = 0
    · have ge : (r4.1 == 0) = true := by simpa using he
      have HE := Lib.hid he
      clear he
      go_wp2_with fail
      rw [← hwd, ← hF]
      clear hwd hF e0 e1 e2 e3 e4
      refine (mcheck_any kv iv sv av A7 n7 c7 _ hn7).mono ?_
      obtain ⟨ck, hck⟩ : ∃ z, z = chkM kv iv sv av n7 := ⟨_, rfl⟩
      rw [← hck]
      rintro e we ⟨rfl, hbe⟩
      have hFe := blk_below HFd.out hbe
      have g0 := blk_thawed hFe 0
      have p0 := blk_cell hFe 0 _ rfl
      obtain ⟨wf, hwf⟩ : ∃ z, z = we.setCell ⟨F, 0, none⟩ (.int .i64 ck) := ⟨_, rfl⟩
      have hcf := Ch.setCell we ⟨F, 0, none⟩ (.int .i64 ck)
      rw [← hwf] at hcf
      have hXf := blk_ch (blk_below HXd.out hbe) hcf (fun e => by have e : X = F := e; omega)
      have hFf : Blk wf F 32 #[.int .i64 ck, .int .i64 r4.2] := by rw [hwf]; exact blk_set hFe 0 (.int .i64 ck)
      have hze := hbe.size
      have HCf := Lib.hid (show Below (Z + 2) V wf from (HCd.out.trans (hbe.mono (by omega))).trans (hcf.below (by omega) (fun k hk => by have hk : k = F := hk; omega)))
      have HHf := Lib.hid (held_ch (held_ch HHd.out (Ch.of_below hbe No) (fun _ _ => id)) hcf (fun a ha e => by have h9 := HAF.out a ha; have e : a.block = F := e; omega))
      have HXf := Lib.hid hXf; have HFf := Lib.hid hFf; have HCK := Lib.hid hck
      have HZf := Lib.hid (blk_same HZ0.out HCf.out (by omega)); have HYf := Lib.hid (blk_same HY0.out HCf.out (by omega))
      clear hFe hcf hXf hFf hbe hck
      by_cases hc : ck = 0
      · have gc : (ck != 0) = false := by simpa using hc
        have HCK0 := Lib.hid hc
        clear hc
        have z0 := blk_thawed HZf.out 0
        have v0 := blk_cell HZf.out 0 _ rfl
        have z1 := blk_thawed HZf.out 1
        have v1 := blk_cell HZf.out 1 _ rfl
        have z2 := blk_thawed HZf.out 2
        have v2 := blk_cell HZf.out 2 _ rfl
        have z3 := blk_thawed HZf.out 3
        have v3 := blk_cell HZf.out 3 _ rfl
        have z4 := blk_thawed HZf.out 4
        have v4 := blk_cell HZf.out 4 _ rfl
        have y0 := blk_thawed HYf.out 0
        have yc0 := blk_cell HYf.out 0 _ rfl
        have y1 := blk_thawed HYf.out 1
        have yc1 := blk_cell HYf.out 1 _ rfl
        have e0 := blk_cell HXf.out 0 _ rfl
        have e1 := blk_cell HXf.out 1 _ rfl
        have e2 := blk_cell HXf.out 2 _ rfl
        have e3 := blk_cell HXf.out 3 _ rfl
        have e4 := blk_cell HXf.out 4 _ rfl
        have t0 := blk_cell HFf.out 0 _ rfl
        have t1 := blk_cell HFf.out 1 _ rfl
        go_wp2_with fail
        rw [← hwf]
        clear hwf
        go_region
        all_goals
          go_wp2
          have hq := put_ms HZf.out HYf.out (.int .i64 kv) (.int .i64 iv) (.int .i64 sv) (.int .i64 av) (.slice A7 n7 c7) (.int .i64 ck) (.int .i64 r4.2)
          have hq1 := blk_ch hq.1 (Ch.drew _ No) id
          have hq2 := blk_ch hq.2.1 (Ch.drew _ No) id
          have hz := HZW.out
          have hres : getM b = ⟨kv, iv, sv, av, lv, ck, r4.2⟩ := by rw [HGP.out, HCK0.out]; exact (getW_mk kv iv sv av lv r4).1 HE.out (by rw [HL7.out, ← HCK.out]; exact HCK0.out)
          exact bodyPost_ret (results_two rfl _ _ Z (Z + 1) 43 32 _ _ (0, 0) (0, 0) _ _ rfl hq1 Try.underlying43 rfl (by kernel_rfl) rfl hq2 Try.underlying32 rfl (by kernel_rfl)) rfl ⟨A7, n7, c7, by rw [hres], by rw [hres]; exact held_base (held_ch (held_ch HHf.out hq.2.2 (fun a ha e => by have h9 := HAF.out a ha; omega)) (Ch.drew _ No) (fun _ _ => id)) (fun a ha => by have h9 := HAF.out a ha; omega), (((Ch.of_below (HB0.out.trans (HCf.out.mono (by omega))) (fun j => Z ≤ j)).trans hq.2.2 (S := (fun j => Z ≤ j)) (fun i hi => by omega)).trans (Ch.drew _ No) (fun _ h => h.elim)).below (Nat.le_refl _) (fun j hj => by omega)⟩
      · have gc : (ck != 0) = true := by simpa using hc
        have HCK0 := Lib.hid hc
        clear hc
        have z0 := blk_thawed HZf.out 0
        have v0 := blk_cell HZf.out 0 _ rfl
        have z1 := blk_thawed HZf.out 1
        have v1 := blk_cell HZf.out 1 _ rfl
        have z2 := blk_thawed HZf.out 2
        have v2 := blk_cell HZf.out 2 _ rfl
        have z3 := blk_thawed HZf.out 3
        have v3 := blk_cell HZf.out 3 _ rfl
        have z4 := blk_thawed HZf.out 4
        have v4 := blk_cell HZf.out 4 _ rfl
        have y0 := blk_thawed HYf.out 0
        have yc0 := blk_cell HYf.out 0 _ rfl
        have y1 := blk_thawed HYf.out 1
        have yc1 := blk_cell HYf.out 1 _ rfl
        have e0 := blk_cell HXf.out 0 _ rfl
        have e1 := blk_cell HXf.out 1 _ rfl
        have e2 := blk_cell HXf.out 2 _ rfl
        have e3 := blk_cell HXf.out 3 _ rfl
        have e4 := blk_cell HXf.out 4 _ rfl
        have t0 := blk_cell HFf.out 0 _ rfl
        have t1 := blk_cell HFf.out 1 _ rfl
        go_wp2_with fail
        rw [← hwf]
        clear hwf
        go_region
        all_goals
          go_wp2
          have hq := put_ms HZf.out HYf.out (.int .i64 0) (.int .i64 0) (.int .i64 0) (.int .i64 0) (.slice none 0 0) (.int .i64 ck) (.int .i64 r4.2)
          have hq1 := blk_ch hq.1 (Ch.drew _ No) id
          have hq2 := blk_ch hq.2.1 (Ch.drew _ No) id
          have hz := HZW.out
          have hres : getM b = ⟨0, 0, 0, 0, [], ck, r4.2⟩ := by
            have h2 : ck = 2 := by rw [HCK.out]; exact chkM_two (by rw [← HCK.out]; exact HCK0.out)
            rw [HGP.out, h2]
            exact (getW_mk kv iv sv av lv r4).2.1 HE.out (by rw [HL7.out, ← HCK.out]; exact HCK0.out)
          exact bodyPost_ret (results_two rfl _ _ Z (Z + 1) 43 32 _ _ (0, 0) (0, 0) _ _ rfl hq1 Try.underlying43 rfl (by kernel_rfl) rfl hq2 Try.underlying32 rfl (by kernel_rfl)) rfl ⟨none, 0, 0, by rw [hres], by rw [hres]; exact held_nil _ _, (((Ch.of_below (HB0.out.trans (HCf.out.mono (by omega))) (fun j => Z ≤ j)).trans hq.2.2 (S := (fun j => Z ≤ j)) (fun i hi => by omega)).trans (Ch.drew _ No) (fun _ h => h.elim)).below (Nat.le_refl _) (fun j hj => by omega)⟩
    · have ge : (r4.1 == 0) = false := by simpa using he
      have ge2 : (r4.1 != 0) = true := by simpa using he
      have HE := Lib.hid he
      have HZf := Lib.hid (blk_same HZ0.out HCd.out (by omega)); have HYf := Lib.hid (blk_same HY0.out HCd.out (by omega))
      clear he
      have z0 := blk_thawed HZf.out 0
      have v0 := blk_cell HZf.out 0 _ rfl
      have z1 := blk_thawed HZf.out 1
      have v1 := blk_cell HZf.out 1 _ rfl
      have z2 := blk_thawed HZf.out 2
      have v2 := blk_cell HZf.out 2 _ rfl
      have z3 := blk_thawed HZf.out 3
      have v3 := blk_cell HZf.out 3 _ rfl
      have z4 := blk_thawed HZf.out 4
      have v4 := blk_cell HZf.out 4 _ rfl
      have y0 := blk_thawed HYf.out 0
      have yc0 := blk_cell HYf.out 0 _ rfl
      have y1 := blk_thawed HYf.out 1
      have yc1 := blk_cell HYf.out 1 _ rfl
      have t0 := blk_cell HFd.out 0 _ rfl
      have t1 := blk_cell HFd.out 1 _ rfl
      go_wp2_with fail
      rw [← hwd, ← hF]
      clear hwd hF e0 e1 e2 e3 e4
      go_region
      all_goals
        go_wp2
        have hq := put_ms HZf.out HYf.out (.int .i64 0) (.int .i64 0) (.int .i64 0) (.int .i64 0) (.slice none 0 0) (.int .i64 r4.1) (.int .i64 r4.2)
        have hq1 := blk_ch hq.1 (Ch.drew _ No) id
        have hq2 := blk_ch hq.2.1 (Ch.drew _ No) id
        have hz := HZW.out
        have hres : getM b = ⟨0, 0, 0, 0, [], r4.1, r4.2⟩ := by rw [HGP.out]; exact (getW_mk kv iv sv av lv r4).2.2 HE.out
        exact bodyPost_ret (results_two rfl _ _ Z (Z + 1) 43 32 _ _ (0, 0) (0, 0) _ _ rfl hq1 Try.underlying43 rfl (by kernel_rfl) rfl hq2 Try.underlying32 rfl (by kernel_rfl)) rfl ⟨none, 0, 0, by rw [hres], by rw [hres]; exact held_nil _ _, (((Ch.of_below (HB0.out.trans (HCd.out.mono (by omega))) (fun j => Z ≤ j)).trans hq.2.2 (S := (fun j => Z ≤ j)) (fun i hi => by omega)).trans (Ch.drew _ No) (fun _ h => h.elim)).below (Nat.le_refl _) (fun j hj => by omega)⟩
  · have HK := Lib.hid hk
    clear hk
    go_wp2_with fail
    rw [← hw8]
    clear hw8 f1 x1
    have s0 : w8.drew.cell? ⟨X, 0, none⟩ = some (.int .i64 kv) := blk_cell HX8.out 0 _ rfl
    go_region_held3 (fun W => W.cell? ⟨X, 0, none⟩ = some (.int .i64 kv)) (first | exact s2 | exact s0) (first | (go_at_call 52; ((with_reducible refine (readers_any _).mono ?_); rintro e wb9 ⟨rfl, hown, hb9⟩; have s2 := below_cell hb9 s0; obtain ⟨fv, hlk⟩ := lk0 (M := w8.heap.size) hown HK.out)))
    have hb : Below w8.heap.size w8 wb9 := ((Ch.drew w8 No).below (Nat.le_refl _) (fun _ h => h.elim)).trans hb9
    have HX9 := Lib.hid (blk_below HX8.out hb); have HRB9 := Lib.hid (rdb_ch HRB8.out (Ch.of_below hb No) id (fun _ _ => id)); have HC9 := Lib.hid (HC8.out.trans (hb.mono (by have := HC8.out.size; omega)))
    have hz9 := hb.size
    clear s0 s2 hlk hown hb9 hb HX8 HRB8 HC8
    obtain ⟨wb, hwb⟩ : ∃ z, z = wb9 := ⟨_, rfl⟩
    rw [← hwb] at HX9 HRB9 HC9 hz9
    rw [← hwb]
    clear hwb
    have hbb : Below wb.heap.size wb wb := Below.refl _ _
    obtain ⟨rr, hrr⟩ : ∃ z, z = r2.2 := ⟨_, rfl⟩
    obtain ⟨sv, hsv⟩ : ∃ z : Int, z = 0 := ⟨_, rfl⟩
    obtain ⟨av, hav⟩ : ∃ z : Int, z = 0 := ⟨_, rfl⟩
    obtain ⟨lv, hlv⟩ : ∃ z : List UInt8, z = [] := ⟨_, rfl⟩
    obtain ⟨A7, hA7⟩ : ∃ z : Option Addr, z = none := ⟨_, rfl⟩
    obtain ⟨n7, hn70⟩ : ∃ z : Nat, z = 0 := ⟨_, rfl⟩
    obtain ⟨c7, hc7⟩ : ∃ z : Nat, z = 0 := ⟨_, rfl⟩
    have HGM := Lib.hid (show getM b = getW kv iv sv av lv (rend rr) by rw [Hkv.out, Hiv.out, hsv, hav, hlv, hrr]; exact getM_two Hr1.out Hr2.out (by rw [← Hkv.out]; have h9 := HK.out; omega))
    have hlen7 : lv.length = n7 := by rw [hlv, hn70]; rfl
    have hn7 : n7 ≤ 9223372036854775807 := by omega
    have HXb := Lib.hid (show Blk wb X 43 #[.int .i64 kv, .int .i64 iv, .int .i64 sv, .int .i64 av, .slice A7 n7 c7] by rw [hsv, hav, hA7, hn70, hc7]; exact blk_below HX9.out hbb)
    have HRBb := Lib.hid (show RdB wb R A n c rr by rw [hrr]; exact rdb_ch HRB9.out (Ch.of_below hbb No) id (fun _ _ => id))
    have HHb := Lib.hid (show Held wb (X + 1) A7 n7 c7 lv by rw [hlv, hA7, hn70, hc7]; exact held_nil _ _)
    have HCb := Lib.hid (show Below (Z + 2) V wb from HC9.out.trans (hbb.mono (by have := HC9.out.size; omega)))
    have HL7 := Lib.hid hlen7
    have hXwb : X < wb.heap.size := blk_lt HXb.out
    have hz2b := HCb.out.size
    clear hlen7 HX9 HRB9 HC9 hbb hrr hsv hav hlv hA7 hn70 hc7
    go_wp2_with fail
    obtain ⟨r4, hr4⟩ : ∃ z, z = rend rr := ⟨_, rfl⟩
    have HR4 := Lib.hid hr4
    clear hr4
    refine (end_any HRBb.out).mono ?_
    rw [← HR4.out]
    have HGP := Lib.hid (show getM b = getW kv iv sv av lv r4 by rw [HR4.out]; exact HGM.out)
    rintro e wc ⟨rfl, hbc⟩
    have hzc := hbc.size
    obtain ⟨F, hF⟩ : ∃ z, z = wc.heap.size := ⟨_, rfl⟩
    obtain ⟨wd, hwd⟩ : ∃ z, z = wc.alloc (.cells #[.int .i64 r4.1, .int .i64 r4.2] 32) := ⟨_, rfl⟩
    have hbd : Below wc.heap.size wc wd := by rw [hwd]; exact box_below _ _
    have hFd : Blk wd F 32 #[.int .i64 r4.1, .int .i64 r4.2] := by rw [hwd, hF]; exact blk_new _ _ _
    have hXd := blk_below (blk_below HXb.out hbc) hbd
    have hXc := blk_below HXb.out hbc
    have HFd := Lib.hid hFd; have HXd := Lib.hid hXd
    have HHd := Lib.hid (held_ch (held_ch HHb.out (Ch.of_below hbc No) (fun _ _ => id)) (Ch.of_below hbd No) (fun _ _ => id))
    have HAF := Lib.hid (show ∀ a, A7 = some a → X < a.block ∧ a.block < F from fun a ha => by have h1 := held_lt HHb.out a ha; omega)
    have HCd := Lib.hid (show Below (Z + 2) V wd from (HCb.out.trans (hbc.mono (by omega))).trans (hbd.mono (by omega)))
    have hXF : X < F := by omega
    have hZF : Z + 2 ≤ F := by omega
    have hFw := blk_lt hFd
    have e0 : (wc.alloc (.cells #[.int .i64 r4.1, .int .i64 r4.2] 32)).cell? ⟨X, 0, none⟩ = some (.int .i64 kv) := below_cell (box_below _ _) (blk_cell hXc 0 _ rfl)
    have e1 : (wc.alloc (.cells #[.int .i64 r4.1, .int .i64 r4.2] 32)).cell? ⟨X, 1, none⟩ = some (.int .i64 iv) := below_cell (box_below _ _) (blk_cell hXc 1 _ rfl)
    have e2 : (wc.alloc (.cells #[.int .i64 r4.1, .int .i64 r4.2] 32)).cell? ⟨X, 2, none⟩ = some (.int .i64 sv) := below_cell (box_below _ _) (blk_cell hXc 2 _ rfl)
    have e3 : (wc.alloc (.cells #[.int .i64 r4.1, .int .i64 r4.2] 32)).cell? ⟨X, 3, none⟩ = some (.int .i64 av) := below_cell (box_below _ _) (blk_cell hXc 3 _ rfl)
    have e4 : (wc.alloc (.cells #[.int .i64 r4.1, .int .i64 r4.2] 32)).cell? ⟨X, 4, none⟩ = some (.slice A7 n7 c7) := below_cell (box_below _ _) (blk_cell hXc 4 _ rfl)
    clear hbc hbd hFd hXd hXc HXb HRBb HHb HCb
    by_cases he : r4.1 = 0
    · have ge : (r4.1 == 0) = true := by simpa using he
      have HE := Lib.hid he
      clear he
      go_wp2_with fail
      rw [← hwd, ← hF]
      clear hwd hF e0 e1 e2 e3 e4
      refine (mcheck_any kv iv sv av A7 n7 c7 _ hn7).mono ?_
      obtain ⟨ck, hck⟩ : ∃ z, z = chkM kv iv sv av n7 := ⟨_, rfl⟩
      rw [← hck]
      rintro e we ⟨rfl, hbe⟩
      have hFe := blk_below HFd.out hbe
      have g0 := blk_thawed hFe 0
      have p0 := blk_cell hFe 0 _ rfl
      obtain ⟨wf, hwf⟩ : ∃ z, z = we.setCell ⟨F, 0, none⟩ (.int .i64 ck) := ⟨_, rfl⟩
      have hcf := Ch.setCell we ⟨F, 0, none⟩ (.int .i64 ck)
      rw [← hwf] at hcf
      have hXf := blk_ch (blk_below HXd.out hbe) hcf (fun e => by have e : X = F := e; omega)
      have hFf : Blk wf F 32 #[.int .i64 ck, .int .i64 r4.2] := by rw [hwf]; exact blk_set hFe 0 (.int .i64 ck)
      have hze := hbe.size
      have HCf := Lib.hid (show Below (Z + 2) V wf from (HCd.out.trans (hbe.mono (by omega))).trans (hcf.below (by omega) (fun k hk => by have hk : k = F := hk; omega)))
      have HHf := Lib.hid (held_ch (held_ch HHd.out (Ch.of_below hbe No) (fun _ _ => id)) hcf (fun a ha e => by have h9 := HAF.out a ha; have e : a.block = F := e; omega))
      have HXf := Lib.hid hXf; have HFf := Lib.hid hFf; have HCK := Lib.hid hck
      have HZf := Lib.hid (blk_same HZ0.out HCf.out (by omega)); have HYf := Lib.hid (blk_same HY0.out HCf.out (by omega))
      clear hFe hcf hXf hFf hbe hck
      by_cases hc : ck = 0
      · have gc : (ck != 0) = false := by simpa using hc
        have HCK0 := Lib.hid hc
        clear hc
        have z0 := blk_thawed HZf.out 0
        have v0 := blk_cell HZf.out 0 _ rfl
        have z1 := blk_thawed HZf.out 1
        have v1 := blk_cell HZf.out 1 _ rfl
        have z2 := blk_thawed HZf.out 2
        have v2 := blk_cell HZf.out 2 _ rfl
        have z3 := blk_thawed HZf.out 3
        have v3 := blk_cell HZf.out 3 _ rfl
        have z4 := blk_thawed HZf.out 4
        have v4 := blk_cell HZf.out 4 _ rfl
        have y0 := blk_thawed HYf.out 0
        have yc0 := blk_cell HYf.out 0 _ rfl
        have y1 := blk_thawed HYf.out 1
        have yc1 := blk_cell HYf.out 1 _ rfl
        have e0 := blk_cell HXf.out 0 _ rfl
        have e1 := blk_cell HXf.out 1 _ rfl
        have e2 := blk_cell HXf.out 2 _ rfl
        have e3 := blk_cell HXf.out 3 _ rfl
        have e4 := blk_cell HXf.out 4 _ rfl
        have t0 := blk_cell HFf.out 0 _ rfl
        have t1 := blk_cell HFf.out 1 _ rfl
        go_wp2_with fail
        rw [← hwf]
        clear hwf
        go_region
        all_goals
          go_wp2
          have hq := put_ms HZf.out HYf.out (.int .i64 kv) (.int .i64 iv) (.int .i64 sv) (.int .i64 av) (.slice A7 n7 c7) (.int .i64 ck) (.int .i64 r4.2)
          have hq1 := blk_ch hq.1 (Ch.drew _ No) id
          have hq2 := blk_ch hq.2.1 (Ch.drew _ No) id
          have hz := HZW.out
          have hres : getM b = ⟨kv, iv, sv, av, lv, ck, r4.2⟩ := by rw [HGP.out, HCK0.out]; exact (getW_mk kv iv sv av lv r4).1 HE.out (by rw [HL7.out, ← HCK.out]; exact HCK0.out)
          exact bodyPost_ret (results_two rfl _ _ Z (Z + 1) 43 32 _ _ (0, 0) (0, 0) _ _ rfl hq1 Try.underlying43 rfl (by kernel_rfl) rfl hq2 Try.underlying32 rfl (by kernel_rfl)) rfl ⟨A7, n7, c7, by rw [hres], by rw [hres]; exact held_base (held_ch (held_ch HHf.out hq.2.2 (fun a ha e => by have h9 := HAF.out a ha; omega)) (Ch.drew _ No) (fun _ _ => id)) (fun a ha => by have h9 := HAF.out a ha; omega), (((Ch.of_below (HB0.out.trans (HCf.out.mono (by omega))) (fun j => Z ≤ j)).trans hq.2.2 (S := (fun j => Z ≤ j)) (fun i hi => by omega)).trans (Ch.drew _ No) (fun _ h => h.elim)).below (Nat.le_refl _) (fun j hj => by omega)⟩
      · have gc : (ck != 0) = true := by simpa using hc
        have HCK0 := Lib.hid hc
        clear hc
        have z0 := blk_thawed HZf.out 0
        have v0 := blk_cell HZf.out 0 _ rfl
        have z1 := blk_thawed HZf.out 1
        have v1 := blk_cell HZf.out 1 _ rfl
        have z2 := blk_thawed HZf.out 2
        have v2 := blk_cell HZf.out 2 _ rfl
        have z3 := blk_thawed HZf.out 3
        have v3 := blk_cell HZf.out 3 _ rfl
        have z4 := blk_thawed HZf.out 4
        have v4 := blk_cell HZf.out 4 _ rfl
        have y0 := blk_thawed HYf.out 0
        have yc0 := blk_cell HYf.out 0 _ rfl
        have y1 := blk_thawed HYf.out 1
        have yc1 := blk_cell HYf.out 1 _ rfl
        have e0 := blk_cell HXf.out 0 _ rfl
        have e1 := blk_cell HXf.out 1 _ rfl
        have e2 := blk_cell HXf.out 2 _ rfl
        have e3 := blk_cell HXf.out 3 _ rfl
        have e4 := blk_cell HXf.out 4 _ rfl
        have t0 := blk_cell HFf.out 0 _ rfl
        have t1 := blk_cell HFf.out 1 _ rfl
        go_wp2_with fail
        rw [← hwf]
        clear hwf
        go_region
        all_goals
          go_wp2
          have hq := put_ms HZf.out HYf.out (.int .i64 0) (.int .i64 0) (.int .i64 0) (.int .i64 0) (.slice none 0 0) (.int .i64 ck) (.int .i64 r4.2)
          have hq1 := blk_ch hq.1 (Ch.drew _ No) id
          have hq2 := blk_ch hq.2.1 (Ch.drew _ No) id
          have hz := HZW.out
          have hres : getM b = ⟨0, 0, 0, 0, [], ck, r4.2⟩ := by
            have h2 : ck = 2 := by rw [HCK.out]; exact chkM_two (by rw [← HCK.out]; exact HCK0.out)
            rw [HGP.out, h2]
            exact (getW_mk kv iv sv av lv r4).2.1 HE.out (by rw [HL7.out, ← HCK.out]; exact HCK0.out)
          exact bodyPost_ret (results_two rfl _ _ Z (Z + 1) 43 32 _ _ (0, 0) (0, 0) _ _ rfl hq1 Try.underlying43 rfl (by kernel_rfl) rfl hq2 Try.underlying32 rfl (by kernel_rfl)) rfl ⟨none, 0, 0, by rw [hres], by rw [hres]; exact held_nil _ _, (((Ch.of_below (HB0.out.trans (HCf.out.mono (by omega))) (fun j => Z ≤ j)).trans hq.2.2 (S := (fun j => Z ≤ j)) (fun i hi => by omega)).trans (Ch.drew _ No) (fun _ h => h.elim)).below (Nat.le_refl _) (fun j hj => by omega)⟩
    · have ge : (r4.1 == 0) = false := by simpa using he
      have ge2 : (r4.1 != 0) = true := by simpa using he
      have HE := Lib.hid he
      have HZf := Lib.hid (blk_same HZ0.out HCd.out (by omega)); have HYf := Lib.hid (blk_same HY0.out HCd.out (by omega))
      clear he
      have z0 := blk_thawed HZf.out 0
      have v0 := blk_cell HZf.out 0 _ rfl
      have z1 := blk_thawed HZf.out 1
      have v1 := blk_cell HZf.out 1 _ rfl
      have z2 := blk_thawed HZf.out 2
      have v2 := blk_cell HZf.out 2 _ rfl
      have z3 := blk_thawed HZf.out 3
      have v3 := blk_cell HZf.out 3 _ rfl
      have z4 := blk_thawed HZf.out 4
      have v4 := blk_cell HZf.out 4 _ rfl
      have y0 := blk_thawed HYf.out 0
      have yc0 := blk_cell HYf.out 0 _ rfl
      have y1 := blk_thawed HYf.out 1
      have yc1 := blk_cell HYf.out 1 _ rfl
      have t0 := blk_cell HFd.out 0 _ rfl
      have t1 := blk_cell HFd.out 1 _ rfl
      go_wp2_with fail
      rw [← hwd, ← hF]
      clear hwd hF e0 e1 e2 e3 e4
      go_region
      all_goals
        go_wp2
        have hq := put_ms HZf.out HYf.out (.int .i64 0) (.int .i64 0) (.int .i64 0) (.int .i64 0) (.slice none 0 0) (.int .i64 r4.1) (.int .i64 r4.2)
        have hq1 := blk_ch hq.1 (Ch.drew _ No) id
        have hq2 := blk_ch hq.2.1 (Ch.drew _ No) id
        have hz := HZW.out
        have hres : getM b = ⟨0, 0, 0, 0, [], r4.1, r4.2⟩ := by rw [HGP.out]; exact (getW_mk kv iv sv av lv r4).2.2 HE.out
        exact bodyPost_ret (results_two rfl _ _ Z (Z + 1) 43 32 _ _ (0, 0) (0, 0) _ _ rfl hq1 Try.underlying43 rfl (by kernel_rfl) rfl hq2 Try.underlying32 rfl (by kernel_rfl)) rfl ⟨none, 0, 0, by rw [hres], by rw [hres]; exact held_nil _ _, (((Ch.of_below (HB0.out.trans (HCd.out.mono (by omega))) (fun j => Z ≤ j)).trans hq.2.2 (S := (fun j => Z ≤ j)) (fun i hi => by omega)).trans (Ch.drew _ No) (fun _ h => h.elim)).below (Nat.le_refl _) (fun j hj => by omega)⟩
end Go.Proofs.Ytncahekankbalaa
