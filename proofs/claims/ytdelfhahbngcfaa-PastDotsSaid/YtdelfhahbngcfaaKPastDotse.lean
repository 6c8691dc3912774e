/- Words, walks and plain laws for the row, packed: each text in a section of its own. Conditions stand with each theorem. -/
import Derived.Deep.QuietTactic
import Derived.BigQuiet
import Derived.RegionTactic
import Derived.StillTailTactics
import Derived.Test.YtdelfhahbngcfaaKPastDotsa
import Derived.Test.YtdelfhahbngcfaaKPastDotsb
import Derived.Test.YtdelfhahbngcfaaKPastDotsc
import Derived.Test.YtdelfhahbngcfaaKPastDotsd
section
namespace Go.Proofs.YtdelfhahbngcfaaX.P07
open Go.RowKit Go.Shelf Go.Sort Go.Lib Go.Proofs.Ytdelfhahbngcfaa Go.Proofs.YtdelfhahbngcfaaW.PrintWords Go.Proofs.YtdelfhahbngcfaaW.PrintLast Go.Proofs.YtdelfhahbngcfaaW.PrintMore
set_option linter.unusedVariables false
set_option linter.unusedSimpArgs false
attribute [local go_sem] Oper.semAt_some
def ahB (a b : S60) : Bool := decide (a.f0 < b.f0 ∨ (a.f0 = b.f0 ∧ (a.f1 < b.f1 ∨ (a.f1 = b.f1 ∧ a.f2 < b.f2))))
theorem ahead_eq (a b : S60) : tributaryref07_ahead.f a.f0 a.f1 a.f2 b.f0 b.f1 b.f2 = some (ahB a b) := by
  unfold tributaryref07_ahead.f ahB
  by_cases h1 : a.f0 < b.f0
  · rw [if_pos h1]; simp [h1]
  rw [if_neg h1]
  by_cases h2 : a.f0 = b.f0
  · rw [if_pos h2]
    by_cases h3 : a.f1 < b.f1
    · rw [if_pos h3]; simp [h1, h2, h3]
    rw [if_neg h3]
    by_cases h4 : a.f1 = b.f1
    · rw [if_pos h4]; simp [h1, h2, h3, h4]
    · rw [if_neg h4]; simp [h1, h2, h3, h4]
  · rw [if_neg h2]; simp [h1, h2]
def posV (rs : List S60) (x : S60) : Nat := (rs.takeWhile (fun y => ahB y x)).length
def insV (rs : List S60) (x : S60) : List S60 := (rs.take (posV rs x) ++ [x]) ++ rs.drop (posV rs x)
theorem pos_le (rs : List S60) (x : S60) : posV rs x ≤ rs.length := by
  unfold posV
  have := (List.takeWhile_prefix (p := fun y => ahB y x) (l := rs)).length_le
  exact this
theorem pos_lt : ∀ (rs : List S60) (x : S60) (q : Nat), q < posV rs x → ahB (rd_T60 rs (q : Int)) x = true
  | [], x, q, h => by simp [posV] at h
  | y :: rs, x, q, h => by
    unfold posV at h
    rw [List.takeWhile_cons] at h
    by_cases hy : ahB y x = true
    · rw [if_pos hy] at h
      cases q with
      | zero => exact hy
      | succ q =>
        have := pos_lt rs x q (by unfold posV; simpa using h)
        unfold rd_T60 at this ⊢
        simpa using this
    · rw [if_neg hy] at h; simp at h
theorem pos_at : ∀ (rs : List S60) (x : S60), posV rs x < rs.length → ahB (rd_T60 rs (posV rs x : Int)) x = false
  | [], x, h => by simp at h
  | y :: rs, x, h => by
    have e : posV (y :: rs) x = if ahB y x = true then posV rs x + 1 else 0 := by
      unfold posV; rw [List.takeWhile_cons]; split <;> simp
    by_cases hy : ahB y x = true
    · rw [if_pos hy] at e
      rw [e] at h ⊢
      have := pos_at rs x (by simpa using h)
      unfold rd_T60 at this ⊢
      simpa using this
    · rw [if_neg hy] at e
      rw [e]
      unfold rd_T60
      simpa using hy
theorem below_drewN' {w : World} (n : Nat) : Below w.heap.size w (w.drewN n) := pw_below_drewN (Below.refl _ _) n
theorem one60 {w : World} {G : Nat} (x : S60) (h : Ytdelfhahbngcfaa.Blk w G 60 #[.int .i64 x.f0, .int .i64 x.f1, .int .i64 x.f2]) : Kd.C k60 w (some ⟨G, 0, none⟩) 1 [x] :=
  ⟨rfl, by decide, fun _ => ⟨_, rfl, fun j p hp => by
    cases j with
    | succ j => simp at hp
    | zero =>
      have e : p = x := by simpa using hp.symm
      subst e
      refine ⟨[.int .i64 p.f0, .int .i64 p.f1, .int .i64 p.f2], rfl, k60_mk _ p, fun t u hu => ?_⟩
      have ht : t < 3 := (List.getElem?_eq_some_iff.1 hu).1
      have hadd : ((⟨G, 0, none⟩ : Addr).add (0 * k60.sz + t)) = ⟨G, t, none⟩ := by unfold Addr.add; split <;> simp_all
      rw [hadd]
      exact Ytdelfhahbngcfaa.blk_cell h _ _ (by simpa using hu)⟩⟩
def mergeV (out : List S60) (x : S60) : List S60 :=
  if 0 < out.length ∧ (rd_T60 out ((out.length : Int) - 1)).f0 = x.f0 ∧ x.f1 ≤ wrap64 ((rd_T60 out ((out.length : Int) - 1)).f2 + 1) then
    out.dropLast ++ [⟨(rd_T60 out ((out.length : Int) - 1)).f0, (rd_T60 out ((out.length : Int) - 1)).f1, max (rd_T60 out ((out.length : Int) - 1)).f2 x.f2⟩]
  else out ++ [x]
def riseV (l : List S60) : List S60 := l.foldl insV []
def tidyL (l : List S60) : List S60 := (riseV l).foldl mergeV []
def tidyV (l : List S60) : List S60 × Int := if 4000 < (tidyL l).length then ([], 8) else (tidyL l, 0)
def tributaryref07_tidy.f (l0 : List S60) : Option (List S60 × Int) := if l0.length < 1000000 then some (tidyV l0) else none
theorem ins_len (rs : List S60) (x : S60) : (insV rs x).length = rs.length + 1 := by
  have := pos_le rs x
  unfold insV
  simp
  omega
theorem rise_len : ∀ (l rs : List S60), (l.foldl insV rs).length = rs.length + l.length
  | [], rs => rfl
  | x :: l, rs => by rw [List.foldl_cons, rise_len l, ins_len, List.length_cons]; omega
theorem merge_len (out : List S60) (x : S60) : (mergeV out x).length ≤ out.length + 1 := by
  unfold mergeV
  split <;> simp <;> omega
theorem tidy_len : ∀ (l out : List S60), (l.foldl mergeV out).length ≤ out.length + l.length
  | [], out => Nat.le_refl _
  | x :: l, out => by
    have h1 := tidy_len l (mergeV out x)
    have h2 := merge_len out x
    simp only [List.foldl_cons, List.length_cons]
    omega
set_option maxRecDepth 100000 in
set_option maxHeartbeats 8000000 in
theorem tributaryref07_tidy.calls (A0 : Option Addr) (c0 : Nat) (l0 : List S60) (r1 : List S60) (r2 : Int) (w : World) (hr0 : Kd.C k60 w A0 l0.length l0) (hc0 : l0.length ≤ c0) (h : tributaryref07_tidy.f l0 = some (r1, r2)) :
    Calls Try.prog 54 #[.slice A0 l0.length c0] w fun e w' => ∃ v0_ : Value, e = .returned (.tuple #[v0_, .int .i64 r2]) ∧ Kd.R k60 60 w' w.heap.size (fun _ => True) v0_ r1 ∧ Below w.heap.size w w' := by
  unfold tributaryref07_tidy.f at h
  by_cases hn : l0.length < 1000000
  rotate_left
  · rw [if_neg hn] at h; cases h
  rw [if_pos hn] at h
  have HH := Lib.hid (Option.some.inj h)
  have HX := Lib.hid (fun h0 => cells60 hr0 h0)
  obtain ⟨NN, hN⟩ : ∃ NN, NN = l0.length := ⟨_, rfl⟩
  have HN := Lib.hid hN
  rw [← hN] at hn hc0 ⊢
  clear hr0 h hN
  go_enter Try.func54, Try.ntmps54
  go_wp2
  go_loopw [4, 5] (fun v i wr => ∃ j : Nat, j ≤ NN ∧ i = .int .i64 j ∧ Hid (Kd.R k60 60 wr w.heap.size (fun _ => True) v ((l0.take j).foldl insV []) ∧ Below w.heap.size w wr)) (fun _ i _ => NN - (intOf i).toNat)
  case atStart => exact ⟨0, Nat.zero_le _, rfl, Lib.hid ⟨Kd.R_nil _ _ _ _ _, Below.refl _ _⟩⟩
  case round =>
    obtain ⟨i, hi, rfl, HI⟩ := hrel
    by_cases hlt : i < NN
    · have hkl : i < l0.length := by rw [← HN.out]; exact hlt
      obtain ⟨b, off, rfl, hc⟩ := HX.out (by omega)
      obtain ⟨q0, q1, q2⟩ := hc i hkl
      obtain ⟨x, hx⟩ : ∃ x, x = rd_T60 l0 (i : Int) := ⟨_, rfl⟩
      rw [← hx] at q0 q1 q2
      replace q0 := (HI.out.2.cell (World.block_lt_of_cell? w _ q0)).trans q0
      replace q1 := (HI.out.2.cell (World.block_lt_of_cell? w _ q1)).trans q1
      replace q2 := (HI.out.2.cell (World.block_lt_of_cell? w _ q2)).trans q2
      have hxx : l0[i] = x := by rw [hx]; unfold rd_T60; simp [List.getD_eq_getElem?_getD, hkl]
      obtain ⟨rs, hrs⟩ : ∃ rs, rs = (l0.take i).foldl insV [] := ⟨_, rfl⟩
      have HT := Lib.hid (show (l0.take (i + 1)).foldl insV [] = insV rs x by rw [List.take_succ_eq_append_getElem hkl, hxx, List.foldl_append, ← hrs]; rfl)
      have hrl : rs.length ≤ i := by rw [hrs, rise_len]; simp; omega
      rw [← hrs] at HI
      obtain ⟨Ar, cr, rfl, hlc, hrc⟩ := Kd.R_reads HI.out.1
      have HRX := Lib.hid (fun h0 => cells60 hrc h0)
      have HRC := Lib.hid hrc; have HLC := Lib.hid hlc
      have HXC := Lib.hid (show ∀ W, Below wr.heap.size wr W → W.cell? ⟨b, off + i * 3, none⟩ = some (.int .i64 x.f0) ∧ W.cell? ⟨b, off + i * 3 + 1, none⟩ = some (.int .i64 x.f1) ∧ W.cell? ⟨b, off + i * 3 + 2, none⟩ = some (.int .i64 x.f2) from fun W hW => ⟨below_cell hW q0, below_cell hW q1, below_cell hW q2⟩)
      obtain ⟨M, hM⟩ : ∃ M, M = rs.length := ⟨_, rfl⟩
      have HRL := Lib.hid hM.symm
      obtain ⟨K, hK⟩ : ∃ K, K = posV rs x := ⟨_, rfl⟩
      have hKM : K ≤ M := by rw [hK, hM]; exact pos_le rs x
      have HK := Lib.hid hK
      rw [← hM] at hrl ⊢
      clear hc hx hxx hkl hrs hrc hlc hM hK q0 q1 q2
      rename World => w1
      go_wp2
      go_loopw [6] (fun k wq => ∃ q : Nat, q ≤ K ∧ k = .int .i64 q ∧ Hid (Below w1.heap.size w1 wq)) (fun k _ => M - (intOf k).toNat)
      case atStart => exact ⟨0, Nat.zero_le _, rfl, Lib.hid (Below.refl _ _)⟩
      case round =>
        rename World => wq
        obtain ⟨q, hq, rfl, HWQ⟩ := hrel
        by_cases hqm : q < M
        · obtain ⟨b2, off2, rfl, hc2⟩ := HRX.out (by have := HRL.out; omega)
          obtain ⟨p0, p1, p2⟩ := hc2 q (by have := HRL.out; omega)
          obtain ⟨y, hy⟩ : ∃ y, y = rd_T60 rs (q : Int) := ⟨_, rfl⟩
          rw [← hy] at p0 p1 p2
          have HS6 := Lib.hid (show ∀ W, Below wq.heap.size wq W → (fun W => (W.cell? ⟨b, off + i * 3, none⟩ = some (.int .i64 x.f0) ∧ W.cell? ⟨b, off + i * 3 + 1, none⟩ = some (.int .i64 x.f1) ∧ W.cell? ⟨b, off + i * 3 + 2, none⟩ = some (.int .i64 x.f2)) ∧ (W.cell? ⟨b2, off2 + q * 3, none⟩ = some (.int .i64 y.f0) ∧ W.cell? ⟨b2, off2 + q * 3 + 1, none⟩ = some (.int .i64 y.f1) ∧ W.cell? ⟨b2, off2 + q * 3 + 2, none⟩ = some (.int .i64 y.f2))) W from fun W hW => ⟨⟨below_cell hW (HXC.out _ HWQ.out).1, below_cell hW (HXC.out _ HWQ.out).2.1, below_cell hW (HXC.out _ HWQ.out).2.2⟩, ⟨below_cell hW (below_cell HWQ.out p0), below_cell hW (below_cell HWQ.out p1), below_cell hW (below_cell HWQ.out p2)⟩⟩)
          have s6 := HS6.out _ (below_drew1 (Below.refl _ wq))
          have hqm' : decide ((q : Int) < (M : Int)) = true := by simp; omega
          clear hc2 p0 p1 p2
          by_cases hqk : q < K
          · have HAH := Lib.hid (show ahB y x = true by rw [hy]; exact pos_lt rs x q (by rw [← HK.out]; exact hqk))
            have HCL := Lib.hid (tributaryref07_ahead.calls y.f0 y.f1 y.f2 x.f0 x.f1 x.f2 _ wq.drew (by rw [ahead_eq, HAH.out]))
            clear hy
            go_wp2
            go_region_held3 (fun W => (W.cell? ⟨b, off + i * 3, none⟩ = some (.int .i64 x.f0) ∧ W.cell? ⟨b, off + i * 3 + 1, none⟩ = some (.int .i64 x.f1) ∧ W.cell? ⟨b, off + i * 3 + 2, none⟩ = some (.int .i64 x.f2)) ∧ (W.cell? ⟨b2, off2 + q * 3, none⟩ = some (.int .i64 y.f0) ∧ W.cell? ⟨b2, off2 + q * 3 + 1, none⟩ = some (.int .i64 y.f1) ∧ W.cell? ⟨b2, off2 + q * 3 + 2, none⟩ = some (.int .i64 y.f2))) (first | exact s6 | exact s7) (first | (go_at_call 71; refine HCL.out.mono ?_; rintro e wB ⟨rfl, hbB⟩; have s7 := HS6.out _ (show Below wq.heap.size wq wB from (below_drew1 (Below.refl _ wq)).trans (hbB.mono (Nat.le_refl _))); have HBB := Lib.hid hbB; clear hbB))
            go_wp2
            go_roundw
            case rel => exact ⟨q + 1, by omega, by go_num, Lib.hid (HWQ.out.trans (((below_drew1 (Below.refl _ wq)).trans (HBB.out.mono (Nat.le_refl _))).mono HWQ.out.size))⟩
            case measure => simp [intOf]; omega
          · obtain rfl : q = K := by omega
            have HAH := Lib.hid (show ahB y x = false by rw [hy, HK.out]; exact pos_at rs x (by rw [← HK.out, HRL.out]; exact hqm))
            have HCL := Lib.hid (tributaryref07_ahead.calls y.f0 y.f1 y.f2 x.f0 x.f1 x.f2 _ wq.drew (by rw [ahead_eq, HAH.out]))
            clear hy
            go_wp2
            go_region_held3 (fun W => (W.cell? ⟨b, off + i * 3, none⟩ = some (.int .i64 x.f0) ∧ W.cell? ⟨b, off + i * 3 + 1, none⟩ = some (.int .i64 x.f1) ∧ W.cell? ⟨b, off + i * 3 + 2, none⟩ = some (.int .i64 x.f2)) ∧ (W.cell? ⟨b2, off2 + q * 3, none⟩ = some (.int .i64 y.f0) ∧ W.cell? ⟨b2, off2 + q * 3 + 1, none⟩ = some (.int .i64 y.f1) ∧ W.cell? ⟨b2, off2 + q * 3 + 2, none⟩ = some (.int .i64 y.f2))) (first | exact s6 | exact s7) (first | (go_at_call 71; refine HCL.out.mono ?_; rintro e wB ⟨rfl, hbB⟩; have s7 := HS6.out _ (show Below wq.heap.size wq wB from (below_drew1 (Below.refl _ wq)).trans (hbB.mono (Nat.le_refl _))); have HBB := Lib.hid hbB; clear hbB))
            have HWB := Lib.hid (HWQ.out.trans (((below_drew1 (Below.refl _ wq)).trans (HBB.out.mono (Nat.le_refl _))).mono HWQ.out.size))
            clear s6 s7 hqk hqm'
            go_wp2
            have hqr : q ≤ rs.length := by have := HRL.out; omega
            have HRQ := Lib.hid (Kd.C_below HRC.out HWB.out)
            obtain ⟨A2, hA2⟩ : ∃ A2 : Option Addr, A2 = if cr = q then (some ⟨b2, off2, none⟩) else Option.map (fun z : Addr => z.add (q * 3)) (some ⟨b2, off2, none⟩) := ⟨_, rfl⟩
            have hcut1 : ∀ W : World, (Instr.slice 22 (.slice (some ⟨b2, off2, none⟩) M cr) none (some (.int .i64 (q : Int))) none).run Try.prog W = .ok (.slice (some ⟨b2, off2, none⟩) q cr) W := by
              intro W
              obtain ⟨i0, hi0, _, _, _⟩ := info_parts info60
              have := cut_to (P := Try.prog) 22 60 .i64 Try.underlying22 hi0 (some ⟨b2, off2, none⟩) M cr (q : Int) (by omega) (by omega) (by have := HLC.out; have := HRL.out; omega) W
              simpa using this
            have hcut2 : ∀ W : World, (Instr.slice 22 (.slice (some ⟨b2, off2, none⟩) M cr) (some (.int .i64 (q : Int))) none none).run Try.prog W = .ok (.slice A2 (M - q) (cr - q)) W := by
              intro W
              obtain ⟨i0, hi0, _, hsz0, _⟩ := info_parts info60
              have := cut_from (P := Try.prog) 22 60 .i64 Try.underlying22 hi0 3 hsz0 (some ⟨b2, off2, none⟩) M cr (q : Int) (by omega) (by omega) W
              rw [hA2]
              simpa using this
            have HA2 := Lib.hid hA2
            clear hA2
            have HSX := Lib.hid (show ∀ W, Below wB.heap.size wB W → (fun W => W.cell? ⟨b, off + i * 3, none⟩ = some (.int .i64 x.f0) ∧ W.cell? ⟨b, off + i * 3 + 1, none⟩ = some (.int .i64 x.f1) ∧ W.cell? ⟨b, off + i * 3 + 2, none⟩ = some (.int .i64 x.f2)) W from fun W hW => ⟨below_cell hW (HXC.out _ HWB.out).1, below_cell hW (HXC.out _ HWB.out).2.1, below_cell hW (HXC.out _ HWB.out).2.2⟩)
            have HBQ := Lib.hid (HI.out.2.trans (HWB.out.mono HI.out.2.size))
            have hV0 : Below wB.heap.size wB wB.drew := below_drew1 (Below.refl _ _)
            refine wp_region_held_drew (S := (fun W => W.cell? ⟨b, off + i * 3, none⟩ = some (.int .i64 x.f0) ∧ W.cell? ⟨b, off + i * 3 + 1, none⟩ = some (.int .i64 x.f1) ∧ W.cell? ⟨b, off + i * 3 + 2, none⟩ = some (.int .i64 x.f2))) (by kernel_rfl) (HSX.out _ hV0) (fun hHeld => ?_)
            obtain ⟨Wd, hWd⟩ : ∃ W, W = wB.drew := ⟨_, rfl⟩
            rw [← hWd] at hHeld hV0 ⊢
            clear hWd
            refine wpAnyH_take (i := 1) (oi := { dst := some 34, op := Go.Op.move (Go.Operand.tmp 4), type := 22, pos := "ref.go:52", after := #[], guard := none }) (v := .slice (some ⟨b2, off2, none⟩) M cr) rfl (by kernel_rfl) (by kernel_rfl) (by kernel_rfl) (fun _ _ _ h => h) (Or.inl ⟨by rfl, ?_⟩) (by assumption) ?_
            · intro W hSw
              go_simp
              try with_reducible rfl
            simp only [Act.put, List.setIfInBounds_toArray, List.set_cons_zero, List.set_cons_succ]
            refine wpAnyH_take (i := 2) (oi := { dst := some 35, op := Go.Op.move (Go.Operand.tmp 6), type := 3, pos := "ref.go:52", after := #[], guard := none }) (v := .int .i64 q) rfl (by kernel_rfl) (by kernel_rfl) (by kernel_rfl) (fun _ _ _ h => h) (Or.inl ⟨by rfl, ?_⟩) (by assumption) ?_
            · intro W hSw
              go_simp
              try with_reducible rfl
            simp only [Act.put, List.setIfInBounds_toArray, List.set_cons_zero, List.set_cons_succ]
            refine wpAnyH_take (i := 3) (oi := { dst := some 36, op := Go.Op.slice 22 (Go.Operand.tmp 34) none (some (Go.Operand.tmp 35)) none, type := 22, pos := "ref.go:52", after := #[{ on := 1, ground := Go.Ground.data }, { on := 2, ground := Go.Ground.data }], guard := none }) (v := .slice (some ⟨b2, off2, none⟩) q cr) rfl (by kernel_rfl) (by kernel_rfl) (by kernel_rfl) (fun _ _ _ h => h) (Or.inl ⟨by rfl, ?_⟩) (by assumption) ?_
            · intro W hSw
              go_simp
              try with_reducible rfl
            simp only [Act.put, List.setIfInBounds_toArray, List.set_cons_zero, List.set_cons_succ]
            refine wpAnyH_take (i := 5) (oi := { dst := some 38, op := Go.Op.move (Go.Operand.tmp 0), type := 22, pos := "ref.go:52", after := #[], guard := none }) (v := .slice (some ⟨b, off, none⟩) NN c0) rfl (by kernel_rfl) (by kernel_rfl) (by kernel_rfl) (fun _ _ _ h => h) (Or.inl ⟨by rfl, ?_⟩) (by assumption) ?_
            · intro W hSw
              go_simp
              try with_reducible rfl
            simp only [Act.put, List.setIfInBounds_toArray, List.set_cons_zero, List.set_cons_succ]
            refine wpAnyH_take (i := 6) (oi := { dst := some 39, op := Go.Op.move (Go.Operand.tmp 5), type := 3, pos := "ref.go:52", after := #[], guard := none }) (v := .int .i64 i) rfl (by kernel_rfl) (by kernel_rfl) (by kernel_rfl) (fun _ _ _ h => h) (Or.inl ⟨by rfl, ?_⟩) (by assumption) ?_
            · intro W hSw
              go_simp
              try with_reducible rfl
            simp only [Act.put, List.setIfInBounds_toArray, List.set_cons_zero, List.set_cons_succ]
            refine wpAnyH_take (i := 7) (oi := { dst := some 40, op := Go.Op.indexAddr 22 (Go.Operand.tmp 38) (Go.Operand.tmp 39), type := 0, pos := "ref.go:52", after := #[{ on := 5, ground := Go.Ground.data }, { on := 6, ground := Go.Ground.data }], guard := none }) (v := .pointer (some ⟨b, off + i * 3, none⟩)) rfl (by kernel_rfl) (by kernel_rfl) (by kernel_rfl) (fun _ _ _ h => h) (Or.inl ⟨by rfl, ?_⟩) (by assumption) ?_
            · intro W hSw
              go_simp
              try with_reducible rfl
            simp only [Act.put, List.setIfInBounds_toArray, List.set_cons_zero, List.set_cons_succ]
            refine wpAnyH_take (i := 8) (oi := { dst := some 41, op := Go.Op.load 60 (Go.Operand.tmp 40), type := 60, pos := "ref.go:52", after := #[{ on := 7, ground := Go.Ground.data }], guard := none }) (v := .agg #[.int .i64 x.f0, .int .i64 x.f1, .int .i64 x.f2]) rfl (by kernel_rfl) (by kernel_rfl) (by kernel_rfl) (fun _ _ _ h => h) (Or.inl ⟨by rfl, ?_⟩) (by assumption) ?_
            · intro W hSw
              go_simp
              try with_reducible rfl
            simp only [Act.put, List.setIfInBounds_toArray, List.set_cons_zero, List.set_cons_succ]
            refine wpAnyH_take (i := 11) (oi := { dst := some 44, op := Go.Op.move (Go.Operand.tmp 4), type := 22, pos := "ref.go:52", after := #[], guard := none }) (v := .slice (some ⟨b2, off2, none⟩) M cr) rfl (by kernel_rfl) (by kernel_rfl) (by kernel_rfl) (fun _ _ _ h => h) (Or.inl ⟨by rfl, ?_⟩) (by assumption) ?_
            · intro W hSw
              go_simp
              try with_reducible rfl
            simp only [Act.put, List.setIfInBounds_toArray, List.set_cons_zero, List.set_cons_succ]
            refine wpAnyH_take (i := 12) (oi := { dst := some 45, op := Go.Op.move (Go.Operand.tmp 6), type := 3, pos := "ref.go:52", after := #[], guard := none }) (v := .int .i64 q) rfl (by kernel_rfl) (by kernel_rfl) (by kernel_rfl) (fun _ _ _ h => h) (Or.inl ⟨by rfl, ?_⟩) (by assumption) ?_
            · intro W hSw
              go_simp
              try with_reducible rfl
            simp only [Act.put, List.setIfInBounds_toArray, List.set_cons_zero, List.set_cons_succ]
            refine wpAnyH_take (i := 13) (oi := { dst := some 46, op := Go.Op.slice 22 (Go.Operand.tmp 44) (some (Go.Operand.tmp 45)) none none, type := 22, pos := "ref.go:52", after := #[{ on := 11, ground := Go.Ground.data }, { on := 12, ground := Go.Ground.data }], guard := none }) (v := .slice A2 (M - q) (cr - q)) rfl (by kernel_rfl) (by kernel_rfl) (by kernel_rfl) (fun _ _ _ h => h) (Or.inl ⟨by rfl, ?_⟩) (by assumption) ?_
            · intro W hSw
              go_simp
              try with_reducible rfl
            simp only [Act.put, List.setIfInBounds_toArray, List.set_cons_zero, List.set_cons_succ]
            refine wpAnyH_ready (rs := [0, 9]) (by kernel_rfl) (by simp) ?_
            refine AllReadyH.cons (o := { dst := some 33, op := Go.Op.buildSlice 22 0 #[], type := 22, pos := "ref.go:52", after := #[], guard := none }) rfl (fun K hK => ?_) (AllReadyH.cons (o := { dst := some 42, op := Go.Op.buildSlice 22 1 #[(0, Go.Operand.tmp 41)], type := 22, pos := "ref.go:52", after := #[{ on := 8, ground := Go.Ground.data }], guard := none }) rfl (fun K hK => ?_) (AllReadyH.nil))
            · go_simp
              have bV1 : Below wB.heap.size wB (Wd.alloc (.cells #[] 60)) := below_alloc hV0 _
              refine hK.out _ _ (HSX.out _ bV1) (fun hHeld => ?_)
              clear hK K
              try simp only [Act.put, List.setIfInBounds_toArray, List.set_cons_zero, List.set_cons_succ]
              have hN1 := Ytdelfhahbngcfaa.blk_new Wd 60 #[]
              have hs1 : Below Wd.heap.size Wd (Wd.alloc (.cells #[] 60)) := below_alloc (Below.refl _ _) _
              have hR1 : Kd.R k60 60 (Wd.alloc (.cells #[] 60)) wB.heap.size (fun _ => True) (.slice (some ⟨Wd.heap.size, 0, none⟩) 0 0) [] := Kd.R_lower (R60_empty Wd) hV0.size
              obtain ⟨V1, hV1⟩ : ∃ V, V = Wd.alloc (.cells #[] 60) := ⟨_, rfl⟩
              obtain ⟨G1, hG1⟩ : ∃ G, G = Wd.heap.size := ⟨_, rfl⟩
              have hl1 : G1 < V1.heap.size := by rw [hV1, hG1]; simp
              have hg1 : wB.heap.size ≤ G1 := by rw [hG1]; exact hV0.size
              rw [← hV1] at hHeld bV1 hN1 hs1 hR1 ⊢
              rw [← hG1] at hR1 ⊢
              clear hV1 hG1
              refine wpAnyH_ready (rs := [4, 9]) (by kernel_rfl) (by simp) ?_
              refine AllReadyH.cons (o := { dst := some 37, op := Go.Op.call { callee := Go.Callee.builtin Go.Builtin.append, args := #[Go.Operand.tmp 33, Go.Operand.tmp 36], argTypes := #[22, 22] }, type := 22, pos := "ref.go:52", after := #[{ on := 0, ground := Go.Ground.data }, { on := 3, ground := Go.Ground.data }], guard := none }) rfl (fun K hK => ?_) (AllReadyH.cons (o := { dst := some 42, op := Go.Op.buildSlice 22 1 #[(0, Go.Operand.tmp 41)], type := 22, pos := "ref.go:52", after := #[{ on := 8, ground := Go.Ground.data }], guard := none }) rfl (fun K hK => ?_) (AllReadyH.nil))
              · have hC2 := (Kd.C_below (Kd.C_take HRQ.out (m := q) hqr) bV1)
                try rw [show (rs.take q).length = q from by rw [List.length_take]; omega] at hC2
                refine Kd.R_append_rows_step k60 (Rr := k60.K V1) (w0 := wB) wB.heap.size rfl (.tmp 33) (.tmp 36) 22 60 (.agg #[.int .i64 0, .int .i64 0, .int .i64 0]) 24 rfl Try.underlying22 info60 rfl (by decide) (by decide) (.slice (some ⟨G1, 0, none⟩) 0 0) [] (rs.take q) _ _ _ (fun _ => True) (fun _ => False) (by rfl) (by rfl) hR1 hC2 (fun x cs h => k60_flat x cs _ _ h) (fun _ h => h.elim) (fun _ _ => trivial) bV1 bV1.size (by (first | (simp; omega) | (simp [List.length_take]; omega))) ?_
                intro v2 V2 hR2 bV2 hgr2 hat2
                obtain ⟨Ar2, cr2, rfl, _, _⟩ := Kd.R_reads hR2
                obtain ⟨L2, hL2⟩ : ∃ L, L = ([] ++ (rs.take q)).length := ⟨_, rfl⟩
                rw [← hL2] at hR2 hat2 ⊢
                have HL2 := Lib.hid hL2
                clear hL2
                refine hK.out _ _ (HSX.out _ bV2) (fun hHeld => ?_)
                clear hK K
                try simp only [Act.put, List.setIfInBounds_toArray, List.set_cons_zero, List.set_cons_succ]
                refine wpAnyH_ready (rs := [9]) (by kernel_rfl) (by simp) ?_
                refine AllReadyH.cons (o := { dst := some 42, op := Go.Op.buildSlice 22 1 #[(0, Go.Operand.tmp 41)], type := 22, pos := "ref.go:52", after := #[{ on := 8, ground := Go.Ground.data }], guard := none }) rfl (fun K hK => ?_) (AllReadyH.nil)
                go_simp
                have bV3 : Below wB.heap.size wB (V2.alloc (.cells #[.int .i64 x.f0, .int .i64 x.f1, .int .i64 x.f2] 60)) := below_alloc bV2 _
                refine hK.out _ _ (HSX.out _ bV3) (fun hHeld => ?_)
                clear hK K
                try simp only [Act.put, List.setIfInBounds_toArray, List.set_cons_zero, List.set_cons_succ]
                have hN3 := Ytdelfhahbngcfaa.blk_new V2 60 #[.int .i64 x.f0, .int .i64 x.f1, .int .i64 x.f2]
                have hs3 : Below V2.heap.size V2 (V2.alloc (.cells #[.int .i64 x.f0, .int .i64 x.f1, .int .i64 x.f2] 60)) := below_alloc (Below.refl _ _) _
                obtain ⟨V3, hV3⟩ : ∃ V, V = V2.alloc (.cells #[.int .i64 x.f0, .int .i64 x.f1, .int .i64 x.f2] 60) := ⟨_, rfl⟩
                obtain ⟨G3, hG3⟩ : ∃ G, G = V2.heap.size := ⟨_, rfl⟩
                have hl3 : G3 < V3.heap.size := by rw [hV3, hG3]; simp
                have hg3 : wB.heap.size ≤ G3 := by rw [hG3]; exact bV2.size
                rw [← hV3] at hHeld bV3 hN3 hs3 ⊢
                have hR3 := Kd.R_below hR2 hs3
                have hO3 : Value.ownBlock (.slice Ar2 L2 cr2) ≠ some G3 := fun e => by have := Kd.R_lt hR2 _ e; omega
                rw [← hG3] at hN3 ⊢
                clear hV3 hG3
                refine wpAnyH_ready (rs := [10]) (by kernel_rfl) (by simp) ?_
                refine AllReadyH.cons (o := { dst := some 43, op := Go.Op.call { callee := Go.Callee.builtin Go.Builtin.append, args := #[Go.Operand.tmp 37, Go.Operand.tmp 42], argTypes := #[22, 22] }, type := 22, pos := "ref.go:52", after := #[{ on := 4, ground := Go.Ground.data }, { on := 9, ground := Go.Ground.data }, { on := 4, ground := Go.Ground.chain }], guard := none }) rfl (fun K hK => ?_) (AllReadyH.nil)
                have hC4 := (one60 x hN3)
                try rw [show ([x] : List S60).length = 1 from rfl] at hC4
                refine Kd.R_append_rows_step k60 (Rr := k60.K V3) (w0 := wB) wB.heap.size rfl (.tmp 37) (.tmp 42) 22 60 (.agg #[.int .i64 0, .int .i64 0, .int .i64 0]) 24 rfl Try.underlying22 info60 rfl (by decide) (by decide) (.slice Ar2 L2 cr2) ([] ++ (rs.take q)) [x] _ _ _ (fun _ => True) (fun _ => False) (by rfl) (by rfl) hR3 hC4 (fun x cs h => k60_flat x cs _ _ h) (fun _ h => h.elim) (fun _ _ => trivial) bV3 bV3.size (by (first | (simp; omega) | (simp [List.length_take]; omega))) ?_
                intro v4 V4 hR4 bV4 hgr4 hat4
                obtain ⟨Ar4, cr4, rfl, _, _⟩ := Kd.R_reads hR4
                obtain ⟨L4, hL4⟩ : ∃ L, L = (([] ++ (rs.take q)) ++ [x]).length := ⟨_, rfl⟩
                rw [← hL4] at hR4 hat4 ⊢
                have HL4 := Lib.hid hL4
                clear hL4
                refine hK.out _ _ (HSX.out _ bV4) (fun hHeld => ?_)
                clear hK K
                try simp only [Act.put, List.setIfInBounds_toArray, List.set_cons_zero, List.set_cons_succ]
                refine wpAnyH_ready (rs := [14]) (by kernel_rfl) (by simp) ?_
                refine AllReadyH.cons (o := { dst := some 47, op := Go.Op.call { callee := Go.Callee.builtin Go.Builtin.append, args := #[Go.Operand.tmp 43, Go.Operand.tmp 46], argTypes := #[22, 22] }, type := 22, pos := "ref.go:52", after := #[{ on := 10, ground := Go.Ground.data }, { on := 13, ground := Go.Ground.data }, { on := 10, ground := Go.Ground.chain }], guard := none }) rfl (fun K hK => ?_) (AllReadyH.nil)
                have hC5 := (show Kd.C k60 V4 A2 (rs.drop q).length (rs.drop q) from by rw [HA2.out]; exact Kd.C_below (Kd.C_drop HRQ.out (m := q) hqr HLC.out) bV4)
                try rw [show (rs.drop q).length = M - q from by rw [List.length_drop, HRL.out]] at hC5
                refine Kd.R_append_rows_step k60 (Rr := k60.K V4) (w0 := wB) wB.heap.size rfl (.tmp 43) (.tmp 46) 22 60 (.agg #[.int .i64 0, .int .i64 0, .int .i64 0]) 24 rfl Try.underlying22 info60 rfl (by decide) (by decide) (.slice Ar4 L4 cr4) (([] ++ (rs.take q)) ++ [x]) (rs.drop q) _ _ _ (fun _ => True) (fun _ => False) (by rfl) (by rfl) hR4 hC5 (fun x cs h => k60_flat x cs _ _ h) (fun _ h => h.elim) (fun _ _ => trivial) bV4 bV4.size (by (first | (simp; omega) | (simp [List.length_take]; omega))) ?_
                intro v5 V5 hR5 bV5 hgr5 hat5
                obtain ⟨Ar5, cr5, rfl, _, _⟩ := Kd.R_reads hR5
                obtain ⟨L5, hL5⟩ : ∃ L, L = ((([] ++ (rs.take q)) ++ [x]) ++ (rs.drop q)).length := ⟨_, rfl⟩
                rw [← hL5] at hR5 hat5 ⊢
                have HL5 := Lib.hid hL5
                clear hL5
                refine hK.out _ _ (HSX.out _ bV5) (fun hHeld => ?_)
                clear hK K
                try simp only [Act.put, List.setIfInBounds_toArray, List.set_cons_zero, List.set_cons_succ]
                refine wpAnyH_ready (rs := [15]) (by kernel_rfl) (by simp) ?_
                refine AllReadyH.cons (o := { dst := some 4, op := Go.Op.assign (Go.Operand.tmp 47), type := 22, pos := "ref.go:52", after := #[{ on := 14, ground := Go.Ground.data }, { on := 14, ground := Go.Ground.chain }, { on := 0, ground := Go.Ground.phase }, { on := 1, ground := Go.Ground.phase }, { on := 2, ground := Go.Ground.phase }, { on := 3, ground := Go.Ground.phase }, { on := 4, ground := Go.Ground.phase }, { on := 5, ground := Go.Ground.phase }, { on := 6, ground := Go.Ground.phase }, { on := 7, ground := Go.Ground.phase }, { on := 8, ground := Go.Ground.phase }, { on := 9, ground := Go.Ground.phase }, { on := 10, ground := Go.Ground.phase }, { on := 11, ground := Go.Ground.phase }, { on := 12, ground := Go.Ground.phase }, { on := 13, ground := Go.Ground.phase }, { on := 14, ground := Go.Ground.phase }], guard := none }) rfl (fun K hK => ?_) (AllReadyH.nil)
                go_simp
                refine hK.out _ _ (HSX.out _ bV5) (fun hHeld => ?_)
                clear hK K
                try simp only [Act.put, List.setIfInBounds_toArray, List.set_cons_zero, List.set_cons_succ]
                refine wpAnyH_done (by kernel_rfl) ?_ _
                have HFIN := Lib.hid hR5
                have HBF := Lib.hid bV5
                clear hHeld
                go_wp2
                go_roundw
                case rel => exact ⟨i + 1, by omega, by go_num, Lib.hid ⟨by rw [HT.out]; have h9 := Kd.R_lower HFIN.out HBQ.out.size; rw [List.nil_append] at h9; unfold insV; rw [← HK.out]; exact h9, HBQ.out.trans (HBF.out.mono HBQ.out.size)⟩⟩
                case measure => simp [intOf]; omega
              · go_simp
                have bV7 : Below wB.heap.size wB (V1.alloc (.cells #[.int .i64 x.f0, .int .i64 x.f1, .int .i64 x.f2] 60)) := below_alloc bV1 _
                refine hK.out _ _ (HSX.out _ bV7) (fun hHeld => ?_)
                clear hK K
                try simp only [Act.put, List.setIfInBounds_toArray, List.set_cons_zero, List.set_cons_succ]
                have hN7 := Ytdelfhahbngcfaa.blk_new V1 60 #[.int .i64 x.f0, .int .i64 x.f1, .int .i64 x.f2]
                have hs7 : Below V1.heap.size V1 (V1.alloc (.cells #[.int .i64 x.f0, .int .i64 x.f1, .int .i64 x.f2] 60)) := below_alloc (Below.refl _ _) _
                obtain ⟨V7, hV7⟩ : ∃ V, V = V1.alloc (.cells #[.int .i64 x.f0, .int .i64 x.f1, .int .i64 x.f2] 60) := ⟨_, rfl⟩
                obtain ⟨G7, hG7⟩ : ∃ G, G = V1.heap.size := ⟨_, rfl⟩
                have hl7 : G7 < V7.heap.size := by rw [hV7, hG7]; simp
                have hg7 : wB.heap.size ≤ G7 := by rw [hG7]; exact bV1.size
                rw [← hV7] at hHeld bV7 hN7 hs7 ⊢
                have hR7 := Kd.R_below hR1 hs7
                have hO7 : Value.ownBlock (.slice (some ⟨G1, 0, none⟩) 0 0) ≠ some G7 := fun e => by have := Kd.R_lt hR1 _ e; omega
                rw [← hG7] at hN7 ⊢
                clear hV7 hG7
                refine wpAnyH_ready (rs := [4]) (by kernel_rfl) (by simp) ?_
                refine AllReadyH.cons (o := { dst := some 37, op := Go.Op.call { callee := Go.Callee.builtin Go.Builtin.append, args := #[Go.Operand.tmp 33, Go.Operand.tmp 36], argTypes := #[22, 22] }, type := 22, pos := "ref.go:52", after := #[{ on := 0, ground := Go.Ground.data }, { on := 3, ground := Go.Ground.data }], guard := none }) rfl (fun K hK => ?_) (AllReadyH.nil)
                have hC8 := (Kd.C_below (Kd.C_take HRQ.out (m := q) hqr) bV7)
                try rw [show (rs.take q).length = q from by rw [List.length_take]; omega] at hC8
                refine Kd.R_append_rows_step k60 (Rr := k60.K V7) (w0 := wB) wB.heap.size rfl (.tmp 33) (.tmp 36) 22 60 (.agg #[.int .i64 0, .int .i64 0, .int .i64 0]) 24 rfl Try.underlying22 info60 rfl (by decide) (by decide) (.slice (some ⟨G1, 0, none⟩) 0 0) [] (rs.take q) _ _ _ (fun _ => True) (fun _ => False) (by rfl) (by rfl) hR7 hC8 (fun x cs h => k60_flat x cs _ _ h) (fun _ h => h.elim) (fun _ _ => trivial) bV7 bV7.size (by (first | (simp; omega) | (simp [List.length_take]; omega))) ?_
                intro v8 V8 hR8 bV8 hgr8 hat8
                obtain ⟨Ar8, cr8, rfl, _, _⟩ := Kd.R_reads hR8
                obtain ⟨L8, hL8⟩ : ∃ L, L = ([] ++ (rs.take q)).length := ⟨_, rfl⟩
                rw [← hL8] at hR8 hat8 ⊢
                have HL8 := Lib.hid hL8
                clear hL8
                have hX8 := Ytdelfhahbngcfaa.blk_ch hN7 (Ytdelfhahbngcfaa.Ch.of_grown hgr8) hO7
                have hO8 : (Value.slice Ar8 L8 cr8).ownBlock ≠ some G7 := by
                  rcases hat8 with e | ⟨q, e, hq⟩
                  · rw [e]; exact hO7
                  · rw [e]; intro e2; have := Ytdelfhahbngcfaa.blk_lt hN7; injection e2 with e2; omega
                refine hK.out _ _ (HSX.out _ bV8) (fun hHeld => ?_)
                clear hK K
                try simp only [Act.put, List.setIfInBounds_toArray, List.set_cons_zero, List.set_cons_succ]
                refine wpAnyH_ready (rs := [10]) (by kernel_rfl) (by simp) ?_
                refine AllReadyH.cons (o := { dst := some 43, op := Go.Op.call { callee := Go.Callee.builtin Go.Builtin.append, args := #[Go.Operand.tmp 37, Go.Operand.tmp 42], argTypes := #[22, 22] }, type := 22, pos := "ref.go:52", after := #[{ on := 4, ground := Go.Ground.data }, { on := 9, ground := Go.Ground.data }, { on := 4, ground := Go.Ground.chain }], guard := none }) rfl (fun K hK => ?_) (AllReadyH.nil)
                have hC9 := (one60 x hX8)
                try rw [show ([x] : List S60).length = 1 from rfl] at hC9
                refine Kd.R_append_rows_step k60 (Rr := k60.K V8) (w0 := wB) wB.heap.size rfl (.tmp 37) (.tmp 42) 22 60 (.agg #[.int .i64 0, .int .i64 0, .int .i64 0]) 24 rfl Try.underlying22 info60 rfl (by decide) (by decide) (.slice Ar8 L8 cr8) ([] ++ (rs.take q)) [x] _ _ _ (fun _ => True) (fun _ => False) (by rfl) (by rfl) hR8 hC9 (fun x cs h => k60_flat x cs _ _ h) (fun _ h => h.elim) (fun _ _ => trivial) bV8 bV8.size (by (first | (simp; omega) | (simp [List.length_take]; omega))) ?_
                intro v9 V9 hR9 bV9 hgr9 hat9
                obtain ⟨Ar9, cr9, rfl, _, _⟩ := Kd.R_reads hR9
                obtain ⟨L9, hL9⟩ : ∃ L, L = (([] ++ (rs.take q)) ++ [x]).length := ⟨_, rfl⟩
                rw [← hL9] at hR9 hat9 ⊢
                have HL9 := Lib.hid hL9
                clear hL9
                refine hK.out _ _ (HSX.out _ bV9) (fun hHeld => ?_)
                clear hK K
                try simp only [Act.put, List.setIfInBounds_toArray, List.set_cons_zero, List.set_cons_succ]
                refine wpAnyH_ready (rs := [14]) (by kernel_rfl) (by simp) ?_
                refine AllReadyH.cons (o := { dst := some 47, op := Go.Op.call { callee := Go.Callee.builtin Go.Builtin.append, args := #[Go.Operand.tmp 43, Go.Operand.tmp 46], argTypes := #[22, 22] }, type := 22, pos := "ref.go:52", after := #[{ on := 10, ground := Go.Ground.data }, { on := 13, ground := Go.Ground.data }, { on := 10, ground := Go.Ground.chain }], guard := none }) rfl (fun K hK => ?_) (AllReadyH.nil)
                have hC10 := (show Kd.C k60 V9 A2 (rs.drop q).length (rs.drop q) from by rw [HA2.out]; exact Kd.C_below (Kd.C_drop HRQ.out (m := q) hqr HLC.out) bV9)
                try rw [show (rs.drop q).length = M - q from by rw [List.length_drop, HRL.out]] at hC10
                refine Kd.R_append_rows_step k60 (Rr := k60.K V9) (w0 := wB) wB.heap.size rfl (.tmp 43) (.tmp 46) 22 60 (.agg #[.int .i64 0, .int .i64 0, .int .i64 0]) 24 rfl Try.underlying22 info60 rfl (by decide) (by decide) (.slice Ar9 L9 cr9) (([] ++ (rs.take q)) ++ [x]) (rs.drop q) _ _ _ (fun _ => True) (fun _ => False) (by rfl) (by rfl) hR9 hC10 (fun x cs h => k60_flat x cs _ _ h) (fun _ h => h.elim) (fun _ _ => trivial) bV9 bV9.size (by (first | (simp; omega) | (simp [List.length_take]; omega))) ?_
                intro v10 V10 hR10 bV10 hgr10 hat10
                obtain ⟨Ar10, cr10, rfl, _, _⟩ := Kd.R_reads hR10
                obtain ⟨L10, hL10⟩ : ∃ L, L = ((([] ++ (rs.take q)) ++ [x]) ++ (rs.drop q)).length := ⟨_, rfl⟩
                rw [← hL10] at hR10 hat10 ⊢
                have HL10 := Lib.hid hL10
                clear hL10
                refine hK.out _ _ (HSX.out _ bV10) (fun hHeld => ?_)
                clear hK K
                try simp only [Act.put, List.setIfInBounds_toArray, List.set_cons_zero, List.set_cons_succ]
                refine wpAnyH_ready (rs := [15]) (by kernel_rfl) (by simp) ?_
                refine AllReadyH.cons (o := { dst := some 4, op := Go.Op.assign (Go.Operand.tmp 47), type := 22, pos := "ref.go:52", after := #[{ on := 14, ground := Go.Ground.data }, { on := 14, ground := Go.Ground.chain }, { on := 0, ground := Go.Ground.phase }, { on := 1, ground := Go.Ground.phase }, { on := 2, ground := Go.Ground.phase }, { on := 3, ground := Go.Ground.phase }, { on := 4, ground := Go.Ground.phase }, { on := 5, ground := Go.Ground.phase }, { on := 6, ground := Go.Ground.phase }, { on := 7, ground := Go.Ground.phase }, { on := 8, ground := Go.Ground.phase }, { on := 9, ground := Go.Ground.phase }, { on := 10, ground := Go.Ground.phase }, { on := 11, ground := Go.Ground.phase }, { on := 12, ground := Go.Ground.phase }, { on := 13, ground := Go.Ground.phase }, { on := 14, ground := Go.Ground.phase }], guard := none }) rfl (fun K hK => ?_) (AllReadyH.nil)
                go_simp
                refine hK.out _ _ (HSX.out _ bV10) (fun hHeld => ?_)
                clear hK K
                try simp only [Act.put, List.setIfInBounds_toArray, List.set_cons_zero, List.set_cons_succ]
                refine wpAnyH_done (by kernel_rfl) ?_ _
                have HFIN := Lib.hid hR10
                have HBF := Lib.hid bV10
                clear hHeld
                go_wp2
                go_roundw
                case rel => exact ⟨i + 1, by omega, by go_num, Lib.hid ⟨by rw [HT.out]; have h9 := Kd.R_lower HFIN.out HBQ.out.size; rw [List.nil_append] at h9; unfold insV; rw [← HK.out]; exact h9, HBQ.out.trans (HBF.out.mono HBQ.out.size)⟩⟩
                case measure => simp [intOf]; omega
            · go_simp
              have bV12 : Below wB.heap.size wB (Wd.alloc (.cells #[.int .i64 x.f0, .int .i64 x.f1, .int .i64 x.f2] 60)) := below_alloc hV0 _
              refine hK.out _ _ (HSX.out _ bV12) (fun hHeld => ?_)
              clear hK K
              try simp only [Act.put, List.setIfInBounds_toArray, List.set_cons_zero, List.set_cons_succ]
              have hN12 := Ytdelfhahbngcfaa.blk_new Wd 60 #[.int .i64 x.f0, .int .i64 x.f1, .int .i64 x.f2]
              have hs12 : Below Wd.heap.size Wd (Wd.alloc (.cells #[.int .i64 x.f0, .int .i64 x.f1, .int .i64 x.f2] 60)) := below_alloc (Below.refl _ _) _
              obtain ⟨V12, hV12⟩ : ∃ V, V = Wd.alloc (.cells #[.int .i64 x.f0, .int .i64 x.f1, .int .i64 x.f2] 60) := ⟨_, rfl⟩
              obtain ⟨G12, hG12⟩ : ∃ G, G = Wd.heap.size := ⟨_, rfl⟩
              have hl12 : G12 < V12.heap.size := by rw [hV12, hG12]; simp
              have hg12 : wB.heap.size ≤ G12 := by rw [hG12]; exact hV0.size
              rw [← hV12] at hHeld bV12 hN12 hs12 ⊢
              rw [← hG12] at hN12 ⊢
              clear hV12 hG12
              refine wpAnyH_ready (rs := [0]) (by kernel_rfl) (by simp) ?_
              refine AllReadyH.cons (o := { dst := some 33, op := Go.Op.buildSlice 22 0 #[], type := 22, pos := "ref.go:52", after := #[], guard := none }) rfl (fun K hK => ?_) (AllReadyH.nil)
              go_simp
              have bV13 : Below wB.heap.size wB (V12.alloc (.cells #[] 60)) := below_alloc bV12 _
              refine hK.out _ _ (HSX.out _ bV13) (fun hHeld => ?_)
              clear hK K
              try simp only [Act.put, List.setIfInBounds_toArray, List.set_cons_zero, List.set_cons_succ]
              have hN13 := Ytdelfhahbngcfaa.blk_new V12 60 #[]
              have hs13 : Below V12.heap.size V12 (V12.alloc (.cells #[] 60)) := below_alloc (Below.refl _ _) _
              have hR13 : Kd.R k60 60 (V12.alloc (.cells #[] 60)) wB.heap.size (fun _ => True) (.slice (some ⟨V12.heap.size, 0, none⟩) 0 0) [] := Kd.R_lower (R60_empty V12) bV12.size
              obtain ⟨V13, hV13⟩ : ∃ V, V = V12.alloc (.cells #[] 60) := ⟨_, rfl⟩
              obtain ⟨G13, hG13⟩ : ∃ G, G = V12.heap.size := ⟨_, rfl⟩
              have hl13 : G13 < V13.heap.size := by rw [hV13, hG13]; simp
              have hg13 : wB.heap.size ≤ G13 := by rw [hG13]; exact bV12.size
              rw [← hV13] at hHeld bV13 hN13 hs13 hR13 ⊢
              have hX13 := Ytdelfhahbngcfaa.blk_below hN12 hs13
              have hO13 : (Value.slice (some ⟨G13, 0, none⟩) 0 0).ownBlock ≠ some G12 := by have := Ytdelfhahbngcfaa.blk_lt hN12; simp [Value.ownBlock]; omega
              rw [← hG13] at hR13 ⊢
              clear hV13 hG13
              refine wpAnyH_ready (rs := [4]) (by kernel_rfl) (by simp) ?_
              refine AllReadyH.cons (o := { dst := some 37, op := Go.Op.call { callee := Go.Callee.builtin Go.Builtin.append, args := #[Go.Operand.tmp 33, Go.Operand.tmp 36], argTypes := #[22, 22] }, type := 22, pos := "ref.go:52", after := #[{ on := 0, ground := Go.Ground.data }, { on := 3, ground := Go.Ground.data }], guard := none }) rfl (fun K hK => ?_) (AllReadyH.nil)
              have hC14 := (Kd.C_below (Kd.C_take HRQ.out (m := q) hqr) bV13)
              try rw [show (rs.take q).length = q from by rw [List.length_take]; omega] at hC14
              refine Kd.R_append_rows_step k60 (Rr := k60.K V13) (w0 := wB) wB.heap.size rfl (.tmp 33) (.tmp 36) 22 60 (.agg #[.int .i64 0, .int .i64 0, .int .i64 0]) 24 rfl Try.underlying22 info60 rfl (by decide) (by decide) (.slice (some ⟨G13, 0, none⟩) 0 0) [] (rs.take q) _ _ _ (fun _ => True) (fun _ => False) (by rfl) (by rfl) hR13 hC14 (fun x cs h => k60_flat x cs _ _ h) (fun _ h => h.elim) (fun _ _ => trivial) bV13 bV13.size (by (first | (simp; omega) | (simp [List.length_take]; omega))) ?_
              intro v14 V14 hR14 bV14 hgr14 hat14
              obtain ⟨Ar14, cr14, rfl, _, _⟩ := Kd.R_reads hR14
              obtain ⟨L14, hL14⟩ : ∃ L, L = ([] ++ (rs.take q)).length := ⟨_, rfl⟩
              rw [← hL14] at hR14 hat14 ⊢
              have HL14 := Lib.hid hL14
              clear hL14
              have hX14 := Ytdelfhahbngcfaa.blk_ch hX13 (Ytdelfhahbngcfaa.Ch.of_grown hgr14) hO13
              have hO14 : (Value.slice Ar14 L14 cr14).ownBlock ≠ some G12 := by
                rcases hat14 with e | ⟨q, e, hq⟩
                · rw [e]; exact hO13
                · rw [e]; intro e2; have := Ytdelfhahbngcfaa.blk_lt hX13; injection e2 with e2; omega
              refine hK.out _ _ (HSX.out _ bV14) (fun hHeld => ?_)
              clear hK K
              try simp only [Act.put, List.setIfInBounds_toArray, List.set_cons_zero, List.set_cons_succ]
              refine wpAnyH_ready (rs := [10]) (by kernel_rfl) (by simp) ?_
              refine AllReadyH.cons (o := { dst := some 43, op := Go.Op.call { callee := Go.Callee.builtin Go.Builtin.append, args := #[Go.Operand.tmp 37, Go.Operand.tmp 42], argTypes := #[22, 22] }, type := 22, pos := "ref.go:52", after := #[{ on := 4, ground := Go.Ground.data }, { on := 9, ground := Go.Ground.data }, { on := 4, ground := Go.Ground.chain }], guard := none }) rfl (fun K hK => ?_) (AllReadyH.nil)
              have hC15 := (one60 x hX14)
              try rw [show ([x] : List S60).length = 1 from rfl] at hC15
              refine Kd.R_append_rows_step k60 (Rr := k60.K V14) (w0 := wB) wB.heap.size rfl (.tmp 37) (.tmp 42) 22 60 (.agg #[.int .i64 0, .int .i64 0, .int .i64 0]) 24 rfl Try.underlying22 info60 rfl (by decide) (by decide) (.slice Ar14 L14 cr14) ([] ++ (rs.take q)) [x] _ _ _ (fun _ => True) (fun _ => False) (by rfl) (by rfl) hR14 hC15 (fun x cs h => k60_flat x cs _ _ h) (fun _ h => h.elim) (fun _ _ => trivial) bV14 bV14.size (by (first | (simp; omega) | (simp [List.length_take]; omega))) ?_
              intro v15 V15 hR15 bV15 hgr15 hat15
              obtain ⟨Ar15, cr15, rfl, _, _⟩ := Kd.R_reads hR15
              obtain ⟨L15, hL15⟩ : ∃ L, L = (([] ++ (rs.take q)) ++ [x]).length := ⟨_, rfl⟩
              rw [← hL15] at hR15 hat15 ⊢
              have HL15 := Lib.hid hL15
              clear hL15
              refine hK.out _ _ (HSX.out _ bV15) (fun hHeld => ?_)
              clear hK K
              try simp only [Act.put, List.setIfInBounds_toArray, List.set_cons_zero, List.set_cons_succ]
              refine wpAnyH_ready (rs := [14]) (by kernel_rfl) (by simp) ?_
              refine AllReadyH.cons (o := { dst := some 47, op := Go.Op.call { callee := Go.Callee.builtin Go.Builtin.append, args := #[Go.Operand.tmp 43, Go.Operand.tmp 46], argTypes := #[22, 22] }, type := 22, pos := "ref.go:52", after := #[{ on := 10, ground := Go.Ground.data }, { on := 13, ground := Go.Ground.data }, { on := 10, ground := Go.Ground.chain }], guard := none }) rfl (fun K hK => ?_) (AllReadyH.nil)
              have hC16 := (show Kd.C k60 V15 A2 (rs.drop q).length (rs.drop q) from by rw [HA2.out]; exact Kd.C_below (Kd.C_drop HRQ.out (m := q) hqr HLC.out) bV15)
              try rw [show (rs.drop q).length = M - q from by rw [List.length_drop, HRL.out]] at hC16
              refine Kd.R_append_rows_step k60 (Rr := k60.K V15) (w0 := wB) wB.heap.size rfl (.tmp 43) (.tmp 46) 22 60 (.agg #[.int .i64 0, .int .i64 0, .int .i64 0]) 24 rfl Try.underlying22 info60 rfl (by decide) (by decide) (.slice Ar15 L15 cr15) (([] ++ (rs.take q)) ++ [x]) (rs.drop q) _ _ _ (fun _ => True) (fun _ => False) (by rfl) (by rfl) hR15 hC16 (fun x cs h => k60_flat x cs _ _ h) (fun _ h => h.elim) (fun _ _ => trivial) bV15 bV15.size (by (first | (simp; omega) | (simp [List.length_take]; omega))) ?_
              intro v16 V16 hR16 bV16 hgr16 hat16
              obtain ⟨Ar16, cr16, rfl, _, _⟩ := Kd.R_reads hR16
              obtain ⟨L16, hL16⟩ : ∃ L, L = ((([] ++ (rs.take q)) ++ [x]) ++ (rs.drop q)).length := ⟨_, rfl⟩
              rw [← hL16] at hR16 hat16 ⊢
              have HL16 := Lib.hid hL16
              clear hL16
              refine hK.out _ _ (HSX.out _ bV16) (fun hHeld => ?_)
              clear hK K
              try simp only [Act.put, List.setIfInBounds_toArray, List.set_cons_zero, List.set_cons_succ]
              refine wpAnyH_ready (rs := [15]) (by kernel_rfl) (by simp) ?_
              refine AllReadyH.cons (o := { dst := some 4, op := Go.Op.assign (Go.Operand.tmp 47), type := 22, pos := "ref.go:52", after := #[{ on := 14, ground := Go.Ground.data }, { on := 14, ground := Go.Ground.chain }, { on := 0, ground := Go.Ground.phase }, { on := 1, ground := Go.Ground.phase }, { on := 2, ground := Go.Ground.phase }, { on := 3, ground := Go.Ground.phase }, { on := 4, ground := Go.Ground.phase }, { on := 5, ground := Go.Ground.phase }, { on := 6, ground := Go.Ground.phase }, { on := 7, ground := Go.Ground.phase }, { on := 8, ground := Go.Ground.phase }, { on := 9, ground := Go.Ground.phase }, { on := 10, ground := Go.Ground.phase }, { on := 11, ground := Go.Ground.phase }, { on := 12, ground := Go.Ground.phase }, { on := 13, ground := Go.Ground.phase }, { on := 14, ground := Go.Ground.phase }], guard := none }) rfl (fun K hK => ?_) (AllReadyH.nil)
              go_simp
              refine hK.out _ _ (HSX.out _ bV16) (fun hHeld => ?_)
              clear hK K
              try simp only [Act.put, List.setIfInBounds_toArray, List.set_cons_zero, List.set_cons_succ]
              refine wpAnyH_done (by kernel_rfl) ?_ _
              have HFIN := Lib.hid hR16
              have HBF := Lib.hid bV16
              clear hHeld
              go_wp2
              go_roundw
              case rel => exact ⟨i + 1, by omega, by go_num, Lib.hid ⟨by rw [HT.out]; have h9 := Kd.R_lower HFIN.out HBQ.out.size; rw [List.nil_append] at h9; unfold insV; rw [← HK.out]; exact h9, HBQ.out.trans (HBF.out.mono HBQ.out.size)⟩⟩
              case measure => simp [intOf]; omega
        · obtain rfl : q = K := by omega
          have hqm' : decide ((q : Int) < (M : Int)) = false := by simp; omega
          go_wp2
          go_quiet (fail)
          obtain ⟨wz, hwz⟩ : ∃ wz, wz = wq.drewN nq := ⟨_, rfl⟩
          have HWZ := Lib.hid (HWQ.out.trans ((below_drewN' (w := wq) nq).mono HWQ.out.size))
          rw [← hwz] at HWZ ⊢
          clear hwz hqm'
          go_wp2
          have hqr : q ≤ rs.length := by have := HRL.out; omega
          have HRQ := Lib.hid (Kd.C_below HRC.out HWZ.out)
          obtain ⟨A2, hA2⟩ : ∃ A2 : Option Addr, A2 = if cr = q then Ar else Option.map (fun z : Addr => z.add (q * 3)) Ar := ⟨_, rfl⟩
          have hcut1 : ∀ W : World, (Instr.slice 22 (.slice Ar M cr) none (some (.int .i64 (q : Int))) none).run Try.prog W = .ok (.slice Ar q cr) W := by
            intro W
            obtain ⟨i0, hi0, _, _, _⟩ := info_parts info60
            have := cut_to (P := Try.prog) 22 60 .i64 Try.underlying22 hi0 Ar M cr (q : Int) (by omega) (by omega) (by have := HLC.out; have := HRL.out; omega) W
            simpa using this
          have hcut2 : ∀ W : World, (Instr.slice 22 (.slice Ar M cr) (some (.int .i64 (q : Int))) none none).run Try.prog W = .ok (.slice A2 (M - q) (cr - q)) W := by
            intro W
            obtain ⟨i0, hi0, _, hsz0, _⟩ := info_parts info60
            have := cut_from (P := Try.prog) 22 60 .i64 Try.underlying22 hi0 3 hsz0 Ar M cr (q : Int) (by omega) (by omega) W
            rw [hA2]
            simpa using this
          have HA2 := Lib.hid hA2
          clear hA2
          have HSX := Lib.hid (show ∀ W, Below wz.heap.size wz W → (fun W => W.cell? ⟨b, off + i * 3, none⟩ = some (.int .i64 x.f0) ∧ W.cell? ⟨b, off + i * 3 + 1, none⟩ = some (.int .i64 x.f1) ∧ W.cell? ⟨b, off + i * 3 + 2, none⟩ = some (.int .i64 x.f2)) W from fun W hW => ⟨below_cell hW (HXC.out _ HWZ.out).1, below_cell hW (HXC.out _ HWZ.out).2.1, below_cell hW (HXC.out _ HWZ.out).2.2⟩)
          have HBQ := Lib.hid (HI.out.2.trans (HWZ.out.mono HI.out.2.size))
          have hV0 : Below wz.heap.size wz wz.drew := below_drew1 (Below.refl _ _)
          refine wp_region_held_drew (S := (fun W => W.cell? ⟨b, off + i * 3, none⟩ = some (.int .i64 x.f0) ∧ W.cell? ⟨b, off + i * 3 + 1, none⟩ = some (.int .i64 x.f1) ∧ W.cell? ⟨b, off + i * 3 + 2, none⟩ = some (.int .i64 x.f2))) (by kernel_rfl) (HSX.out _ hV0) (fun hHeld => ?_)
          obtain ⟨Wd, hWd⟩ : ∃ W, W = wz.drew := ⟨_, rfl⟩
          rw [← hWd] at hHeld hV0 ⊢
          clear hWd
          refine wpAnyH_take (i := 1) (oi := { dst := some 34, op := Go.Op.move (Go.Operand.tmp 4), type := 22, pos := "ref.go:52", after := #[], guard := none }) (v := .slice Ar M cr) rfl (by kernel_rfl) (by kernel_rfl) (by kernel_rfl) (fun _ _ _ h => h) (Or.inl ⟨by rfl, ?_⟩) (by assumption) ?_
          · intro W hSw
            go_simp
            try with_reducible rfl
          simp only [Act.put, List.setIfInBounds_toArray, List.set_cons_zero, List.set_cons_succ]
          refine wpAnyH_take (i := 2) (oi := { dst := some 35, op := Go.Op.move (Go.Operand.tmp 6), type := 3, pos := "ref.go:52", after := #[], guard := none }) (v := .int .i64 q) rfl (by kernel_rfl) (by kernel_rfl) (by kernel_rfl) (fun _ _ _ h => h) (Or.inl ⟨by rfl, ?_⟩) (by assumption) ?_
          · intro W hSw
            go_simp
            try with_reducible rfl
          simp only [Act.put, List.setIfInBounds_toArray, List.set_cons_zero, List.set_cons_succ]
          refine wpAnyH_take (i := 3) (oi := { dst := some 36, op := Go.Op.slice 22 (Go.Operand.tmp 34) none (some (Go.Operand.tmp 35)) none, type := 22, pos := "ref.go:52", after := #[{ on := 1, ground := Go.Ground.data }, { on := 2, ground := Go.Ground.data }], guard := none }) (v := .slice Ar q cr) rfl (by kernel_rfl) (by kernel_rfl) (by kernel_rfl) (fun _ _ _ h => h) (Or.inl ⟨by rfl, ?_⟩) (by assumption) ?_
          · intro W hSw
            go_simp
            try with_reducible rfl
          simp only [Act.put, List.setIfInBounds_toArray, List.set_cons_zero, List.set_cons_succ]
          refine wpAnyH_take (i := 5) (oi := { dst := some 38, op := Go.Op.move (Go.Operand.tmp 0), type := 22, pos := "ref.go:52", after := #[], guard := none }) (v := .slice (some ⟨b, off, none⟩) NN c0) rfl (by kernel_rfl) (by kernel_rfl) (by kernel_rfl) (fun _ _ _ h => h) (Or.inl ⟨by rfl, ?_⟩) (by assumption) ?_
          · intro W hSw
            go_simp
            try with_reducible rfl
          simp only [Act.put, List.setIfInBounds_toArray, List.set_cons_zero, List.set_cons_succ]
          refine wpAnyH_take (i := 6) (oi := { dst := some 39, op := Go.Op.move (Go.Operand.tmp 5), type := 3, pos := "ref.go:52", after := #[], guard := none }) (v := .int .i64 i) rfl (by kernel_rfl) (by kernel_rfl) (by kernel_rfl) (fun _ _ _ h => h) (Or.inl ⟨by rfl, ?_⟩) (by assumption) ?_
          · intro W hSw
            go_simp
            try with_reducible rfl
          simp only [Act.put, List.setIfInBounds_toArray, List.set_cons_zero, List.set_cons_succ]
          refine wpAnyH_take (i := 7) (oi := { dst := some 40, op := Go.Op.indexAddr 22 (Go.Operand.tmp 38) (Go.Operand.tmp 39), type := 0, pos := "ref.go:52", after := #[{ on := 5, ground := Go.Ground.data }, { on := 6, ground := Go.Ground.data }], guard := none }) (v := .pointer (some ⟨b, off + i * 3, none⟩)) rfl (by kernel_rfl) (by kernel_rfl) (by kernel_rfl) (fun _ _ _ h => h) (Or.inl ⟨by rfl, ?_⟩) (by assumption) ?_
          · intro W hSw
            go_simp
            try with_reducible rfl
          simp only [Act.put, List.setIfInBounds_toArray, List.set_cons_zero, List.set_cons_succ]
          refine wpAnyH_take (i := 8) (oi := { dst := some 41, op := Go.Op.load 60 (Go.Operand.tmp 40), type := 60, pos := "ref.go:52", after := #[{ on := 7, ground := Go.Ground.data }], guard := none }) (v := .agg #[.int .i64 x.f0, .int .i64 x.f1, .int .i64 x.f2]) rfl (by kernel_rfl) (by kernel_rfl) (by kernel_rfl) (fun _ _ _ h => h) (Or.inl ⟨by rfl, ?_⟩) (by assumption) ?_
          · intro W hSw
            go_simp
            try with_reducible rfl
          simp only [Act.put, List.setIfInBounds_toArray, List.set_cons_zero, List.set_cons_succ]
          refine wpAnyH_take (i := 11) (oi := { dst := some 44, op := Go.Op.move (Go.Operand.tmp 4), type := 22, pos := "ref.go:52", after := #[], guard := none }) (v := .slice Ar M cr) rfl (by kernel_rfl) (by kernel_rfl) (by kernel_rfl) (fun _ _ _ h => h) (Or.inl ⟨by rfl, ?_⟩) (by assumption) ?_
          · intro W hSw
            go_simp
            try with_reducible rfl
          simp only [Act.put, List.setIfInBounds_toArray, List.set_cons_zero, List.set_cons_succ]
          refine wpAnyH_take (i := 12) (oi := { dst := some 45, op := Go.Op.move (Go.Operand.tmp 6), type := 3, pos := "ref.go:52", after := #[], guard := none }) (v := .int .i64 q) rfl (by kernel_rfl) (by kernel_rfl) (by kernel_rfl) (fun _ _ _ h => h) (Or.inl ⟨by rfl, ?_⟩) (by assumption) ?_
          · intro W hSw
            go_simp
            try with_reducible rfl
          simp only [Act.put, List.setIfInBounds_toArray, List.set_cons_zero, List.set_cons_succ]
          refine wpAnyH_take (i := 13) (oi := { dst := some 46, op := Go.Op.slice 22 (Go.Operand.tmp 44) (some (Go.Operand.tmp 45)) none none, type := 22, pos := "ref.go:52", after := #[{ on := 11, ground := Go.Ground.data }, { on := 12, ground := Go.Ground.data }], guard := none }) (v := .slice A2 (M - q) (cr - q)) rfl (by kernel_rfl) (by kernel_rfl) (by kernel_rfl) (fun _ _ _ h => h) (Or.inl ⟨by rfl, ?_⟩) (by assumption) ?_
          · intro W hSw
            go_simp
            try with_reducible rfl
          simp only [Act.put, List.setIfInBounds_toArray, List.set_cons_zero, List.set_cons_succ]
          refine wpAnyH_ready (rs := [0, 9]) (by kernel_rfl) (by simp) ?_
          refine AllReadyH.cons (o := { dst := some 33, op := Go.Op.buildSlice 22 0 #[], type := 22, pos := "ref.go:52", after := #[], guard := none }) rfl (fun K hK => ?_) (AllReadyH.cons (o := { dst := some 42, op := Go.Op.buildSlice 22 1 #[(0, Go.Operand.tmp 41)], type := 22, pos := "ref.go:52", after := #[{ on := 8, ground := Go.Ground.data }], guard := none }) rfl (fun K hK => ?_) (AllReadyH.nil))
          · go_simp
            have bV1 : Below wz.heap.size wz (Wd.alloc (.cells #[] 60)) := below_alloc hV0 _
            refine hK.out _ _ (HSX.out _ bV1) (fun hHeld => ?_)
            clear hK K
            try simp only [Act.put, List.setIfInBounds_toArray, List.set_cons_zero, List.set_cons_succ]
            have hN1 := Ytdelfhahbngcfaa.blk_new Wd 60 #[]
            have hs1 : Below Wd.heap.size Wd (Wd.alloc (.cells #[] 60)) := below_alloc (Below.refl _ _) _
            have hR1 : Kd.R k60 60 (Wd.alloc (.cells #[] 60)) wz.heap.size (fun _ => True) (.slice (some ⟨Wd.heap.size, 0, none⟩) 0 0) [] := Kd.R_lower (R60_empty Wd) hV0.size
            obtain ⟨V1, hV1⟩ : ∃ V, V = Wd.alloc (.cells #[] 60) := ⟨_, rfl⟩
            obtain ⟨G1, hG1⟩ : ∃ G, G = Wd.heap.size := ⟨_, rfl⟩
            have hl1 : G1 < V1.heap.size := by rw [hV1, hG1]; simp
            have hg1 : wz.heap.size ≤ G1 := by rw [hG1]; exact hV0.size
            rw [← hV1] at hHeld bV1 hN1 hs1 hR1 ⊢
            rw [← hG1] at hR1 ⊢
            clear hV1 hG1
            refine wpAnyH_ready (rs := [4, 9]) (by kernel_rfl) (by simp) ?_
            refine AllReadyH.cons (o := { dst := some 37, op := Go.Op.call { callee := Go.Callee.builtin Go.Builtin.append, args := #[Go.Operand.tmp 33, Go.Operand.tmp 36], argTypes := #[22, 22] }, type := 22, pos := "ref.go:52", after := #[{ on := 0, ground := Go.Ground.data }, { on := 3, ground := Go.Ground.data }], guard := none }) rfl (fun K hK => ?_) (AllReadyH.cons (o := { dst := some 42, op := Go.Op.buildSlice 22 1 #[(0, Go.Operand.tmp 41)], type := 22, pos := "ref.go:52", after := #[{ on := 8, ground := Go.Ground.data }], guard := none }) rfl (fun K hK => ?_) (AllReadyH.nil))
            · have hC2 := (Kd.C_below (Kd.C_take HRQ.out (m := q) hqr) bV1)
              try rw [show (rs.take q).length = q from by rw [List.length_take]; omega] at hC2
              refine Kd.R_append_rows_step k60 (Rr := k60.K V1) (w0 := wz) wz.heap.size rfl (.tmp 33) (.tmp 36) 22 60 (.agg #[.int .i64 0, .int .i64 0, .int .i64 0]) 24 rfl Try.underlying22 info60 rfl (by decide) (by decide) (.slice (some ⟨G1, 0, none⟩) 0 0) [] (rs.take q) _ _ _ (fun _ => True) (fun _ => False) (by rfl) (by rfl) hR1 hC2 (fun x cs h => k60_flat x cs _ _ h) (fun _ h => h.elim) (fun _ _ => trivial) bV1 bV1.size (by (first | (simp; omega) | (simp [List.length_take]; omega))) ?_
              intro v2 V2 hR2 bV2 hgr2 hat2
              obtain ⟨Ar2, cr2, rfl, _, _⟩ := Kd.R_reads hR2
              obtain ⟨L2, hL2⟩ : ∃ L, L = ([] ++ (rs.take q)).length := ⟨_, rfl⟩
              rw [← hL2] at hR2 hat2 ⊢
              have HL2 := Lib.hid hL2
              clear hL2
              refine hK.out _ _ (HSX.out _ bV2) (fun hHeld => ?_)
              clear hK K
              try simp only [Act.put, List.setIfInBounds_toArray, List.set_cons_zero, List.set_cons_succ]
              refine wpAnyH_ready (rs := [9]) (by kernel_rfl) (by simp) ?_
              refine AllReadyH.cons (o := { dst := some 42, op := Go.Op.buildSlice 22 1 #[(0, Go.Operand.tmp 41)], type := 22, pos := "ref.go:52", after := #[{ on := 8, ground := Go.Ground.data }], guard := none }) rfl (fun K hK => ?_) (AllReadyH.nil)
              go_simp
              have bV3 : Below wz.heap.size wz (V2.alloc (.cells #[.int .i64 x.f0, .int .i64 x.f1, .int .i64 x.f2] 60)) := below_alloc bV2 _
              refine hK.out _ _ (HSX.out _ bV3) (fun hHeld => ?_)
              clear hK K
              try simp only [Act.put, List.setIfInBounds_toArray, List.set_cons_zero, List.set_cons_succ]
              have hN3 := Ytdelfhahbngcfaa.blk_new V2 60 #[.int .i64 x.f0, .int .i64 x.f1, .int .i64 x.f2]
              have hs3 : Below V2.heap.size V2 (V2.alloc (.cells #[.int .i64 x.f0, .int .i64 x.f1, .int .i64 x.f2] 60)) := below_alloc (Below.refl _ _) _
              obtain ⟨V3, hV3⟩ : ∃ V, V = V2.alloc (.cells #[.int .i64 x.f0, .int .i64 x.f1, .int .i64 x.f2] 60) := ⟨_, rfl⟩
              obtain ⟨G3, hG3⟩ : ∃ G, G = V2.heap.size := ⟨_, rfl⟩
              have hl3 : G3 < V3.heap.size := by rw [hV3, hG3]; simp
              have hg3 : wz.heap.size ≤ G3 := by rw [hG3]; exact bV2.size
              rw [← hV3] at hHeld bV3 hN3 hs3 ⊢
              have hR3 := Kd.R_below hR2 hs3
              have hO3 : Value.ownBlock (.slice Ar2 L2 cr2) ≠ some G3 := fun e => by have := Kd.R_lt hR2 _ e; omega
              rw [← hG3] at hN3 ⊢
              clear hV3 hG3
              refine wpAnyH_ready (rs := [10]) (by kernel_rfl) (by simp) ?_
              refine AllReadyH.cons (o := { dst := some 43, op := Go.Op.call { callee := Go.Callee.builtin Go.Builtin.append, args := #[Go.Operand.tmp 37, Go.Operand.tmp 42], argTypes := #[22, 22] }, type := 22, pos := "ref.go:52", after := #[{ on := 4, ground := Go.Ground.data }, { on := 9, ground := Go.Ground.data }, { on := 4, ground := Go.Ground.chain }], guard := none }) rfl (fun K hK => ?_) (AllReadyH.nil)
              have hC4 := (one60 x hN3)
              try rw [show ([x] : List S60).length = 1 from rfl] at hC4
              refine Kd.R_append_rows_step k60 (Rr := k60.K V3) (w0 := wz) wz.heap.size rfl (.tmp 37) (.tmp 42) 22 60 (.agg #[.int .i64 0, .int .i64 0, .int .i64 0]) 24 rfl Try.underlying22 info60 rfl (by decide) (by decide) (.slice Ar2 L2 cr2) ([] ++ (rs.take q)) [x] _ _ _ (fun _ => True) (fun _ => False) (by rfl) (by rfl) hR3 hC4 (fun x cs h => k60_flat x cs _ _ h) (fun _ h => h.elim) (fun _ _ => trivial) bV3 bV3.size (by (first | (simp; omega) | (simp [List.length_take]; omega))) ?_
              intro v4 V4 hR4 bV4 hgr4 hat4
              obtain ⟨Ar4, cr4, rfl, _, _⟩ := Kd.R_reads hR4
              obtain ⟨L4, hL4⟩ : ∃ L, L = (([] ++ (rs.take q)) ++ [x]).length := ⟨_, rfl⟩
              rw [← hL4] at hR4 hat4 ⊢
              have HL4 := Lib.hid hL4
              clear hL4
              refine hK.out _ _ (HSX.out _ bV4) (fun hHeld => ?_)
              clear hK K
              try simp only [Act.put, List.setIfInBounds_toArray, List.set_cons_zero, List.set_cons_succ]
              refine wpAnyH_ready (rs := [14]) (by kernel_rfl) (by simp) ?_
              refine AllReadyH.cons (o := { dst := some 47, op := Go.Op.call { callee := Go.Callee.builtin Go.Builtin.append, args := #[Go.Operand.tmp 43, Go.Operand.tmp 46], argTypes := #[22, 22] }, type := 22, pos := "ref.go:52", after := #[{ on := 10, ground := Go.Ground.data }, { on := 13, ground := Go.Ground.data }, { on := 10, ground := Go.Ground.chain }], guard := none }) rfl (fun K hK => ?_) (AllReadyH.nil)
              have hC5 := (show Kd.C k60 V4 A2 (rs.drop q).length (rs.drop q) from by rw [HA2.out]; exact Kd.C_below (Kd.C_drop HRQ.out (m := q) hqr HLC.out) bV4)
              try rw [show (rs.drop q).length = M - q from by rw [List.length_drop, HRL.out]] at hC5
              refine Kd.R_append_rows_step k60 (Rr := k60.K V4) (w0 := wz) wz.heap.size rfl (.tmp 43) (.tmp 46) 22 60 (.agg #[.int .i64 0, .int .i64 0, .int .i64 0]) 24 rfl Try.underlying22 info60 rfl (by decide) (by decide) (.slice Ar4 L4 cr4) (([] ++ (rs.take q)) ++ [x]) (rs.drop q) _ _ _ (fun _ => True) (fun _ => False) (by rfl) (by rfl) hR4 hC5 (fun x cs h => k60_flat x cs _ _ h) (fun _ h => h.elim) (fun _ _ => trivial) bV4 bV4.size (by (first | (simp; omega) | (simp [List.length_take]; omega))) ?_
              intro v5 V5 hR5 bV5 hgr5 hat5
              obtain ⟨Ar5, cr5, rfl, _, _⟩ := Kd.R_reads hR5
              obtain ⟨L5, hL5⟩ : ∃ L, L = ((([] ++ (rs.take q)) ++ [x]) ++ (rs.drop q)).length := ⟨_, rfl⟩
              rw [← hL5] at hR5 hat5 ⊢
              have HL5 := Lib.hid hL5
              clear hL5
              refine hK.out _ _ (HSX.out _ bV5) (fun hHeld => ?_)
              clear hK K
              try simp only [Act.put, List.setIfInBounds_toArray, List.set_cons_zero, List.set_cons_succ]
              refine wpAnyH_ready (rs := [15]) (by kernel_rfl) (by simp) ?_
              refine AllReadyH.cons (o := { dst := some 4, op := Go.Op.assign (Go.Operand.tmp 47), type := 22, pos := "ref.go:52", after := #[{ on := 14, ground := Go.Ground.data }, { on := 14, ground := Go.Ground.chain }, { on := 0, ground := Go.Ground.phase }, { on := 1, ground := Go.Ground.phase }, { on := 2, ground := Go.Ground.phase }, { on := 3, ground := Go.Ground.phase }, { on := 4, ground := Go.Ground.phase }, { on := 5, ground := Go.Ground.phase }, { on := 6, ground := Go.Ground.phase }, { on := 7, ground := Go.Ground.phase }, { on := 8, ground := Go.Ground.phase }, { on := 9, ground := Go.Ground.phase }, { on := 10, ground := Go.Ground.phase }, { on := 11, ground := Go.Ground.phase }, { on := 12, ground := Go.Ground.phase }, { on := 13, ground := Go.Ground.phase }, { on := 14, ground := Go.Ground.phase }], guard := none }) rfl (fun K hK => ?_) (AllReadyH.nil)
              go_simp
              refine hK.out _ _ (HSX.out _ bV5) (fun hHeld => ?_)
              clear hK K
              try simp only [Act.put, List.setIfInBounds_toArray, List.set_cons_zero, List.set_cons_succ]
              refine wpAnyH_done (by kernel_rfl) ?_ _
              have HFIN := Lib.hid hR5
              have HBF := Lib.hid bV5
              clear hHeld
              go_wp2
              go_roundw
              case rel => exact ⟨i + 1, by omega, by go_num, Lib.hid ⟨by rw [HT.out]; have h9 := Kd.R_lower HFIN.out HBQ.out.size; rw [List.nil_append] at h9; unfold insV; rw [← HK.out]; exact h9, HBQ.out.trans (HBF.out.mono HBQ.out.size)⟩⟩
              case measure => simp [intOf]; omega
            · go_simp
              have bV7 : Below wz.heap.size wz (V1.alloc (.cells #[.int .i64 x.f0, .int .i64 x.f1, .int .i64 x.f2] 60)) := below_alloc bV1 _
              refine hK.out _ _ (HSX.out _ bV7) (fun hHeld => ?_)
              clear hK K
              try simp only [Act.put, List.setIfInBounds_toArray, List.set_cons_zero, List.set_cons_succ]
              have hN7 := Ytdelfhahbngcfaa.blk_new V1 60 #[.int .i64 x.f0, .int .i64 x.f1, .int .i64 x.f2]
              have hs7 : Below V1.heap.size V1 (V1.alloc (.cells #[.int .i64 x.f0, .int .i64 x.f1, .int .i64 x.f2] 60)) := below_alloc (Below.refl _ _) _
              obtain ⟨V7, hV7⟩ : ∃ V, V = V1.alloc (.cells #[.int .i64 x.f0, .int .i64 x.f1, .int .i64 x.f2] 60) := ⟨_, rfl⟩
              obtain ⟨G7, hG7⟩ : ∃ G, G = V1.heap.size := ⟨_, rfl⟩
              have hl7 : G7 < V7.heap.size := by rw [hV7, hG7]; simp
              have hg7 : wz.heap.size ≤ G7 := by rw [hG7]; exact bV1.size
              rw [← hV7] at hHeld bV7 hN7 hs7 ⊢
              have hR7 := Kd.R_below hR1 hs7
              have hO7 : Value.ownBlock (.slice (some ⟨G1, 0, none⟩) 0 0) ≠ some G7 := fun e => by have := Kd.R_lt hR1 _ e; omega
              rw [← hG7] at hN7 ⊢
              clear hV7 hG7
              refine wpAnyH_ready (rs := [4]) (by kernel_rfl) (by simp) ?_
              refine AllReadyH.cons (o := { dst := some 37, op := Go.Op.call { callee := Go.Callee.builtin Go.Builtin.append, args := #[Go.Operand.tmp 33, Go.Operand.tmp 36], argTypes := #[22, 22] }, type := 22, pos := "ref.go:52", after := #[{ on := 0, ground := Go.Ground.data }, { on := 3, ground := Go.Ground.data }], guard := none }) rfl (fun K hK => ?_) (AllReadyH.nil)
              have hC8 := (Kd.C_below (Kd.C_take HRQ.out (m := q) hqr) bV7)
              try rw [show (rs.take q).length = q from by rw [List.length_take]; omega] at hC8
              refine Kd.R_append_rows_step k60 (Rr := k60.K V7) (w0 := wz) wz.heap.size rfl (.tmp 33) (.tmp 36) 22 60 (.agg #[.int .i64 0, .int .i64 0, .int .i64 0]) 24 rfl Try.underlying22 info60 rfl (by decide) (by decide) (.slice (some ⟨G1, 0, none⟩) 0 0) [] (rs.take q) _ _ _ (fun _ => True) (fun _ => False) (by rfl) (by rfl) hR7 hC8 (fun x cs h => k60_flat x cs _ _ h) (fun _ h => h.elim) (fun _ _ => trivial) bV7 bV7.size (by (first | (simp; omega) | (simp [List.length_take]; omega))) ?_
              intro v8 V8 hR8 bV8 hgr8 hat8
              obtain ⟨Ar8, cr8, rfl, _, _⟩ := Kd.R_reads hR8
              obtain ⟨L8, hL8⟩ : ∃ L, L = ([] ++ (rs.take q)).length := ⟨_, rfl⟩
              rw [← hL8] at hR8 hat8 ⊢
              have HL8 := Lib.hid hL8
              clear hL8
              have hX8 := Ytdelfhahbngcfaa.blk_ch hN7 (Ytdelfhahbngcfaa.Ch.of_grown hgr8) hO7
              have hO8 : (Value.slice Ar8 L8 cr8).ownBlock ≠ some G7 := by
                rcases hat8 with e | ⟨q, e, hq⟩
                · rw [e]; exact hO7
                · rw [e]; intro e2; have := Ytdelfhahbngcfaa.blk_lt hN7; injection e2 with e2; omega
              refine hK.out _ _ (HSX.out _ bV8) (fun hHeld => ?_)
              clear hK K
              try simp only [Act.put, List.setIfInBounds_toArray, List.set_cons_zero, List.set_cons_succ]
              refine wpAnyH_ready (rs := [10]) (by kernel_rfl) (by simp) ?_
              refine AllReadyH.cons (o := { dst := some 43, op := Go.Op.call { callee := Go.Callee.builtin Go.Builtin.append, args := #[Go.Operand.tmp 37, Go.Operand.tmp 42], argTypes := #[22, 22] }, type := 22, pos := "ref.go:52", after := #[{ on := 4, ground := Go.Ground.data }, { on := 9, ground := Go.Ground.data }, { on := 4, ground := Go.Ground.chain }], guard := none }) rfl (fun K hK => ?_) (AllReadyH.nil)
              have hC9 := (one60 x hX8)
              try rw [show ([x] : List S60).length = 1 from rfl] at hC9
              refine Kd.R_append_rows_step k60 (Rr := k60.K V8) (w0 := wz) wz.heap.size rfl (.tmp 37) (.tmp 42) 22 60 (.agg #[.int .i64 0, .int .i64 0, .int .i64 0]) 24 rfl Try.underlying22 info60 rfl (by decide) (by decide) (.slice Ar8 L8 cr8) ([] ++ (rs.take q)) [x] _ _ _ (fun _ => True) (fun _ => False) (by rfl) (by rfl) hR8 hC9 (fun x cs h => k60_flat x cs _ _ h) (fun _ h => h.elim) (fun _ _ => trivial) bV8 bV8.size (by (first | (simp; omega) | (simp [List.length_take]; omega))) ?_
              intro v9 V9 hR9 bV9 hgr9 hat9
              obtain ⟨Ar9, cr9, rfl, _, _⟩ := Kd.R_reads hR9
              obtain ⟨L9, hL9⟩ : ∃ L, L = (([] ++ (rs.take q)) ++ [x]).length := ⟨_, rfl⟩
              rw [← hL9] at hR9 hat9 ⊢
              have HL9 := Lib.hid hL9
              clear hL9
              refine hK.out _ _ (HSX.out _ bV9) (fun hHeld => ?_)
              clear hK K
              try simp only [Act.put, List.setIfInBounds_toArray, List.set_cons_zero, List.set_cons_succ]
              refine wpAnyH_ready (rs := [14]) (by kernel_rfl) (by simp) ?_
              refine AllReadyH.cons (o := { dst := some 47, op := Go.Op.call { callee := Go.Callee.builtin Go.Builtin.append, args := #[Go.Operand.tmp 43, Go.Operand.tmp 46], argTypes := #[22, 22] }, type := 22, pos := "ref.go:52", after := #[{ on := 10, ground := Go.Ground.data }, { on := 13, ground := Go.Ground.data }, { on := 10, ground := Go.Ground.chain }], guard := none }) rfl (fun K hK => ?_) (AllReadyH.nil)
              have hC10 := (show Kd.C k60 V9 A2 (rs.drop q).length (rs.drop q) from by rw [HA2.out]; exact Kd.C_below (Kd.C_drop HRQ.out (m := q) hqr HLC.out) bV9)
              try rw [show (rs.drop q).length = M - q from by rw [List.length_drop, HRL.out]] at hC10
              refine Kd.R_append_rows_step k60 (Rr := k60.K V9) (w0 := wz) wz.heap.size rfl (.tmp 43) (.tmp 46) 22 60 (.agg #[.int .i64 0, .int .i64 0, .int .i64 0]) 24 rfl Try.underlying22 info60 rfl (by decide) (by decide) (.slice Ar9 L9 cr9) (([] ++ (rs.take q)) ++ [x]) (rs.drop q) _ _ _ (fun _ => True) (fun _ => False) (by rfl) (by rfl) hR9 hC10 (fun x cs h => k60_flat x cs _ _ h) (fun _ h => h.elim) (fun _ _ => trivial) bV9 bV9.size (by (first | (simp; omega) | (simp [List.length_take]; omega))) ?_
              intro v10 V10 hR10 bV10 hgr10 hat10
              obtain ⟨Ar10, cr10, rfl, _, _⟩ := Kd.R_reads hR10
              obtain ⟨L10, hL10⟩ : ∃ L, L = ((([] ++ (rs.take q)) ++ [x]) ++ (rs.drop q)).length := ⟨_, rfl⟩
              rw [← hL10] at hR10 hat10 ⊢
              have HL10 := Lib.hid hL10
              clear hL10
              refine hK.out _ _ (HSX.out _ bV10) (fun hHeld => ?_)
              clear hK K
              try simp only [Act.put, List.setIfInBounds_toArray, List.set_cons_zero, List.set_cons_succ]
              refine wpAnyH_ready (rs := [15]) (by kernel_rfl) (by simp) ?_
              refine AllReadyH.cons (o := { dst := some 4, op := Go.Op.assign (Go.Operand.tmp 47), type := 22, pos := "ref.go:52", after := #[{ on := 14, ground := Go.Ground.data }, { on := 14, ground := Go.Ground.chain }, { on := 0, ground := Go.Ground.phase }, { on := 1, ground := Go.Ground.phase }, { on := 2, ground := Go.Ground.phase }, { on := 3, ground := Go.Ground.phase }, { on := 4, ground := Go.Ground.phase }, { on := 5, ground := Go.Ground.phase }, { on := 6, ground := Go.Ground.phase }, { on := 7, ground := Go.Ground.phase }, { on := 8, ground := Go.Ground.phase }, { on := 9, ground := Go.Ground.phase }, { on := 10, ground := Go.Ground.phase }, { on := 11, ground := Go.Ground.phase }, { on := 12, ground := Go.Ground.phase }, { on := 13, ground := Go.Ground.phase }, { on := 14, ground := Go.Ground.phase }], guard := none }) rfl (fun K hK => ?_) (AllReadyH.nil)
              go_simp
              refine hK.out _ _ (HSX.out _ bV10) (fun hHeld => ?_)
              clear hK K
              try simp only [Act.put, List.setIfInBounds_toArray, List.set_cons_zero, List.set_cons_succ]
              refine wpAnyH_done (by kernel_rfl) ?_ _
              have HFIN := Lib.hid hR10
              have HBF := Lib.hid bV10
              clear hHeld
              go_wp2
              go_roundw
              case rel => exact ⟨i + 1, by omega, by go_num, Lib.hid ⟨by rw [HT.out]; have h9 := Kd.R_lower HFIN.out HBQ.out.size; rw [List.nil_append] at h9; unfold insV; rw [← HK.out]; exact h9, HBQ.out.trans (HBF.out.mono HBQ.out.size)⟩⟩
              case measure => simp [intOf]; omega
          · go_simp
            have bV12 : Below wz.heap.size wz (Wd.alloc (.cells #[.int .i64 x.f0, .int .i64 x.f1, .int .i64 x.f2] 60)) := below_alloc hV0 _
            refine hK.out _ _ (HSX.out _ bV12) (fun hHeld => ?_)
            clear hK K
            try simp only [Act.put, List.setIfInBounds_toArray, List.set_cons_zero, List.set_cons_succ]
            have hN12 := Ytdelfhahbngcfaa.blk_new Wd 60 #[.int .i64 x.f0, .int .i64 x.f1, .int .i64 x.f2]
            have hs12 : Below Wd.heap.size Wd (Wd.alloc (.cells #[.int .i64 x.f0, .int .i64 x.f1, .int .i64 x.f2] 60)) := below_alloc (Below.refl _ _) _
            obtain ⟨V12, hV12⟩ : ∃ V, V = Wd.alloc (.cells #[.int .i64 x.f0, .int .i64 x.f1, .int .i64 x.f2] 60) := ⟨_, rfl⟩
            obtain ⟨G12, hG12⟩ : ∃ G, G = Wd.heap.size := ⟨_, rfl⟩
            have hl12 : G12 < V12.heap.size := by rw [hV12, hG12]; simp
            have hg12 : wz.heap.size ≤ G12 := by rw [hG12]; exact hV0.size
            rw [← hV12] at hHeld bV12 hN12 hs12 ⊢
            rw [← hG12] at hN12 ⊢
            clear hV12 hG12
            refine wpAnyH_ready (rs := [0]) (by kernel_rfl) (by simp) ?_
            refine AllReadyH.cons (o := { dst := some 33, op := Go.Op.buildSlice 22 0 #[], type := 22, pos := "ref.go:52", after := #[], guard := none }) rfl (fun K hK => ?_) (AllReadyH.nil)
            go_simp
            have bV13 : Below wz.heap.size wz (V12.alloc (.cells #[] 60)) := below_alloc bV12 _
            refine hK.out _ _ (HSX.out _ bV13) (fun hHeld => ?_)
            clear hK K
            try simp only [Act.put, List.setIfInBounds_toArray, List.set_cons_zero, List.set_cons_succ]
            have hN13 := Ytdelfhahbngcfaa.blk_new V12 60 #[]
            have hs13 : Below V12.heap.size V12 (V12.alloc (.cells #[] 60)) := below_alloc (Below.refl _ _) _
            have hR13 : Kd.R k60 60 (V12.alloc (.cells #[] 60)) wz.heap.size (fun _ => True) (.slice (some ⟨V12.heap.size, 0, none⟩) 0 0) [] := Kd.R_lower (R60_empty V12) bV12.size
            obtain ⟨V13, hV13⟩ : ∃ V, V = V12.alloc (.cells #[] 60) := ⟨_, rfl⟩
            obtain ⟨G13, hG13⟩ : ∃ G, G = V12.heap.size := ⟨_, rfl⟩
            have hl13 : G13 < V13.heap.size := by rw [hV13, hG13]; simp
            have hg13 : wz.heap.size ≤ G13 := by rw [hG13]; exact bV12.size
            rw [← hV13] at hHeld bV13 hN13 hs13 hR13 ⊢
            have hX13 := Ytdelfhahbngcfaa.blk_below hN12 hs13
            have hO13 : (Value.slice (some ⟨G13, 0, none⟩) 0 0).ownBlock ≠ some G12 := by have := Ytdelfhahbngcfaa.blk_lt hN12; simp [Value.ownBlock]; omega
            rw [← hG13] at hR13 ⊢
            clear hV13 hG13
            refine wpAnyH_ready (rs := [4]) (by kernel_rfl) (by simp) ?_
            refine AllReadyH.cons (o := { dst := some 37, op := Go.Op.call { callee := Go.Callee.builtin Go.Builtin.append, args := #[Go.Operand.tmp 33, Go.Operand.tmp 36], argTypes := #[22, 22] }, type := 22, pos := "ref.go:52", after := #[{ on := 0, ground := Go.Ground.data }, { on := 3, ground := Go.Ground.data }], guard := none }) rfl (fun K hK => ?_) (AllReadyH.nil)
            have hC14 := (Kd.C_below (Kd.C_take HRQ.out (m := q) hqr) bV13)
            try rw [show (rs.take q).length = q from by rw [List.length_take]; omega] at hC14
            refine Kd.R_append_rows_step k60 (Rr := k60.K V13) (w0 := wz) wz.heap.size rfl (.tmp 33) (.tmp 36) 22 60 (.agg #[.int .i64 0, .int .i64 0, .int .i64 0]) 24 rfl Try.underlying22 info60 rfl (by decide) (by decide) (.slice (some ⟨G13, 0, none⟩) 0 0) [] (rs.take q) _ _ _ (fun _ => True) (fun _ => False) (by rfl) (by rfl) hR13 hC14 (fun x cs h => k60_flat x cs _ _ h) (fun _ h => h.elim) (fun _ _ => trivial) bV13 bV13.size (by (first | (simp; omega) | (simp [List.length_take]; omega))) ?_
            intro v14 V14 hR14 bV14 hgr14 hat14
            obtain ⟨Ar14, cr14, rfl, _, _⟩ := Kd.R_reads hR14
            obtain ⟨L14, hL14⟩ : ∃ L, L = ([] ++ (rs.take q)).length := ⟨_, rfl⟩
            rw [← hL14] at hR14 hat14 ⊢
            have HL14 := Lib.hid hL14
            clear hL14
            have hX14 := Ytdelfhahbngcfaa.blk_ch hX13 (Ytdelfhahbngcfaa.Ch.of_grown hgr14) hO13
            have hO14 : (Value.slice Ar14 L14 cr14).ownBlock ≠ some G12 := by
              rcases hat14 with e | ⟨q, e, hq⟩
              · rw [e]; exact hO13
              · rw [e]; intro e2; have := Ytdelfhahbngcfaa.blk_lt hX13; injection e2 with e2; omega
            refine hK.out _ _ (HSX.out _ bV14) (fun hHeld => ?_)
            clear hK K
            try simp only [Act.put, List.setIfInBounds_toArray, List.set_cons_zero, List.set_cons_succ]
            refine wpAnyH_ready (rs := [10]) (by kernel_rfl) (by simp) ?_
            refine AllReadyH.cons (o := { dst := some 43, op := Go.Op.call { callee := Go.Callee.builtin Go.Builtin.append, args := #[Go.Operand.tmp 37, Go.Operand.tmp 42], argTypes := #[22, 22] }, type := 22, pos := "ref.go:52", after := #[{ on := 4, ground := Go.Ground.data }, { on := 9, ground := Go.Ground.data }, { on := 4, ground := Go.Ground.chain }], guard := none }) rfl (fun K hK => ?_) (AllReadyH.nil)
            have hC15 := (one60 x hX14)
            try rw [show ([x] : List S60).length = 1 from rfl] at hC15
            refine Kd.R_append_rows_step k60 (Rr := k60.K V14) (w0 := wz) wz.heap.size rfl (.tmp 37) (.tmp 42) 22 60 (.agg #[.int .i64 0, .int .i64 0, .int .i64 0]) 24 rfl Try.underlying22 info60 rfl (by decide) (by decide) (.slice Ar14 L14 cr14) ([] ++ (rs.take q)) [x] _ _ _ (fun _ => True) (fun _ => False) (by rfl) (by rfl) hR14 hC15 (fun x cs h => k60_flat x cs _ _ h) (fun _ h => h.elim) (fun _ _ => trivial) bV14 bV14.size (by (first | (simp; omega) | (simp [List.length_take]; omega))) ?_
            intro v15 V15 hR15 bV15 hgr15 hat15
            obtain ⟨Ar15, cr15, rfl, _, _⟩ := Kd.R_reads hR15
            obtain ⟨L15, hL15⟩ : ∃ L, L = (([] ++ (rs.take q)) ++ [x]).length := ⟨_, rfl⟩
            rw [← hL15] at hR15 hat15 ⊢
            have HL15 := Lib.hid hL15
            clear hL15
            refine hK.out _ _ (HSX.out _ bV15) (fun hHeld => ?_)
            clear hK K
            try simp only [Act.put, List.setIfInBounds_toArray, List.set_cons_zero, List.set_cons_succ]
            refine wpAnyH_ready (rs := [14]) (by kernel_rfl) (by simp) ?_
            refine AllReadyH.cons (o := { dst := some 47, op := Go.Op.call { callee := Go.Callee.builtin Go.Builtin.append, args := #[Go.Operand.tmp 43, Go.Operand.tmp 46], argTypes := #[22, 22] }, type := 22, pos := "ref.go:52", after := #[{ on := 10, ground := Go.Ground.data }, { on := 13, ground := Go.Ground.data }, { on := 10, ground := Go.Ground.chain }], guard := none }) rfl (fun K hK => ?_) (AllReadyH.nil)
            have hC16 := (show Kd.C k60 V15 A2 (rs.drop q).length (rs.drop q) from by rw [HA2.out]; exact Kd.C_below (Kd.C_drop HRQ.out (m := q) hqr HLC.out) bV15)
            try rw [show (rs.drop q).length = M - q from by rw [List.length_drop, HRL.out]] at hC16
            refine Kd.R_append_rows_step k60 (Rr := k60.K V15) (w0 := wz) wz.heap.size rfl (.tmp 43) (.tmp 46) 22 60 (.agg #[.int .i64 0, .int .i64 0, .int .i64 0]) 24 rfl Try.underlying22 info60 rfl (by decide) (by decide) (.slice Ar15 L15 cr15) (([] ++ (rs.take q)) ++ [x]) (rs.drop q) _ _ _ (fun _ => True) (fun _ => False) (by rfl) (by rfl) hR15 hC16 (fun x cs h => k60_flat x cs _ _ h) (fun _ h => h.elim) (fun _ _ => trivial) bV15 bV15.size (by (first | (simp; omega) | (simp [List.length_take]; omega))) ?_
            intro v16 V16 hR16 bV16 hgr16 hat16
            obtain ⟨Ar16, cr16, rfl, _, _⟩ := Kd.R_reads hR16
            obtain ⟨L16, hL16⟩ : ∃ L, L = ((([] ++ (rs.take q)) ++ [x]) ++ (rs.drop q)).length := ⟨_, rfl⟩
            rw [← hL16] at hR16 hat16 ⊢
            have HL16 := Lib.hid hL16
            clear hL16
            refine hK.out _ _ (HSX.out _ bV16) (fun hHeld => ?_)
            clear hK K
            try simp only [Act.put, List.setIfInBounds_toArray, List.set_cons_zero, List.set_cons_succ]
            refine wpAnyH_ready (rs := [15]) (by kernel_rfl) (by simp) ?_
            refine AllReadyH.cons (o := { dst := some 4, op := Go.Op.assign (Go.Operand.tmp 47), type := 22, pos := "ref.go:52", after := #[{ on := 14, ground := Go.Ground.data }, { on := 14, ground := Go.Ground.chain }, { on := 0, ground := Go.Ground.phase }, { on := 1, ground := Go.Ground.phase }, { on := 2, ground := Go.Ground.phase }, { on := 3, ground := Go.Ground.phase }, { on := 4, ground := Go.Ground.phase }, { on := 5, ground := Go.Ground.phase }, { on := 6, ground := Go.Ground.phase }, { on := 7, ground := Go.Ground.phase }, { on := 8, ground := Go.Ground.phase }, { on := 9, ground := Go.Ground.phase }, { on := 10, ground := Go.Ground.phase }, { on := 11, ground := Go.Ground.phase }, { on := 12, ground := Go.Ground.phase }, { on := 13, ground := Go.Ground.phase }, { on := 14, ground := Go.Ground.phase }], guard := none }) rfl (fun K hK => ?_) (AllReadyH.nil)
            go_simp
            refine hK.out _ _ (HSX.out _ bV16) (fun hHeld => ?_)
            clear hK K
            try simp only [Act.put, List.setIfInBounds_toArray, List.set_cons_zero, List.set_cons_succ]
            refine wpAnyH_done (by kernel_rfl) ?_ _
            have HFIN := Lib.hid hR16
            have HBF := Lib.hid bV16
            clear hHeld
            go_wp2
            go_roundw
            case rel => exact ⟨i + 1, by omega, by go_num, Lib.hid ⟨by rw [HT.out]; have h9 := Kd.R_lower HFIN.out HBQ.out.size; rw [List.nil_append] at h9; unfold insV; rw [← HK.out]; exact h9, HBQ.out.trans (HBF.out.mono HBQ.out.size)⟩⟩
            case measure => simp [intOf]; omega
    · obtain rfl : i = NN := by omega
      have HRISE := Lib.hid (show (l0.take i).foldl insV [] = riseV l0 by rw [HN.out, List.take_length]; rfl)
      rw [HRISE.out] at HI
      obtain ⟨Ar, cr, rfl, hlc, hrc⟩ := Kd.R_reads HI.out.1
      have HRX := Lib.hid (fun h0 => cells60 hrc h0)
      have hrl : (riseV l0).length = i := by unfold riseV; rw [rise_len, HN.out]; simp
      obtain ⟨M, hM⟩ : ∃ M, M = (riseV l0).length := ⟨_, rfl⟩
      have HM := Lib.hid hM
      have hMi : M < 1000000 := by omega
      rw [← hM]
      clear hlc hrc hrl hM HRISE
      rename World => w1
      go_wp2
      go_loopw [7, 8] (fun v k wq => ∃ j : Nat, j ≤ M ∧ k = .int .i64 j ∧ Hid (Own60 wq w1.heap.size v (((riseV l0).take j).foldl mergeV []) ∧ Below w1.heap.size w1 wq)) (fun _ k _ => M - (intOf k).toNat)
      case atStart => exact ⟨0, Nat.zero_le _, rfl, Lib.hid ⟨⟨rfl, .inl ⟨rfl, rfl⟩⟩, Below.refl _ _⟩⟩
      case round =>
        rename World => wq
        obtain ⟨j, hj, rfl, HJ⟩ := hrel
        by_cases hjm : j < M
        · have hjr : j < (riseV l0).length := by rw [← HM.out]; exact hjm
          obtain ⟨b2, off2, rfl, hc2⟩ := HRX.out (by omega)
          obtain ⟨p0, p1, p2⟩ := hc2 j hjr
          obtain ⟨y, hy⟩ : ∃ y, y = rd_T60 (riseV l0) (j : Int) := ⟨_, rfl⟩
          rw [← hy] at p0 p1 p2
          have HB2 := Lib.hid (show b2 < w1.heap.size from World.block_lt_of_cell? w1 _ p0)
          replace p0 := below_cell HJ.out.2 p0
          replace p1 := below_cell HJ.out.2 p1
          replace p2 := below_cell HJ.out.2 p2
          have hyy : (riseV l0)[j] = y := by rw [hy]; unfold rd_T60; simp [List.getD_eq_getElem?_getD, hjr]
          obtain ⟨out, hout⟩ : ∃ out, out = ((riseV l0).take j).foldl mergeV [] := ⟨_, rfl⟩
          have HT := Lib.hid (show ((riseV l0).take (j + 1)).foldl mergeV [] = mergeV out y by rw [List.take_succ_eq_append_getElem hjr, hyy, List.foldl_append, ← hout]; rfl)
          have hol : out.length ≤ j := by rw [hout]; exact Nat.le_trans (tidy_len _ []) (by simp; omega)
          rw [← hout] at HJ
          clear hc2 hy hyy hout hjr
          rcases Nat.eq_zero_or_pos out.length with h0 | hpos
          · obtain rfl : out = [] := List.eq_nil_of_length_eq_zero h0
            obtain ⟨Ao, co, rfl, _, _⟩ := own_form HJ.out.1
            have HMG := Lib.hid (show mergeV [] y = [y] from rfl)
            simp only [List.length_nil] at HJ ⊢
            go_wp2
            go_quiet (fail)
            obtain ⟨wz, hwz⟩ : ∃ wz, wz = wq.drewN nq := ⟨_, rfl⟩
            have HZ := Lib.hid (show Own60 (wq.drewN nq) w1.heap.size (.slice Ao 0 co) ([] : List S60) ∧ Below w1.heap.size w1 (wq.drewN nq) from ⟨own_ch HJ.out.1 (Ytdelfhahbngcfaa.ch_drewN No wq nq) (fun _ _ => id), HJ.out.2.trans ((below_drewN' (w := wq) nq).mono HJ.out.2.size)⟩)
            have z0 : (wq.drewN nq).cell? ⟨b2, off2 + j * 3, none⟩ = some (.int .i64 y.f0) := p0
            have z1 : (wq.drewN nq).cell? ⟨b2, off2 + j * 3 + 1, none⟩ = some (.int .i64 y.f1) := p1
            have z2 : (wq.drewN nq).cell? ⟨b2, off2 + j * 3 + 2, none⟩ = some (.int .i64 y.f2) := p2
            rw [← hwz] at HZ z0 z1 z2 ⊢
            clear hwz p0 p1 p2 HJ
            have hbs : w1.heap.size ≤ wz.heap.size := HZ.out.2.size
            go_wp2_with (at_builtin; refine Kd.R_append k60 (w0 := w1) w1.heap.size rfl (.tmp 101) (.tmp 106) 22 60 (.agg #[.int .i64 0, .int .i64 0, .int .i64 0]) 24 rfl Try.underlying22 info60 rfl (by decide) (by decide) (.slice Ao 0 co) ([] : List S60) y [.int .i64 y.f0, .int .i64 y.f1, .int .i64 y.f2] (fun _ => True) (fun _ => False) rfl rfl (k60_mkM _ _ _ y) (fun _ h => h.elim) (fun _ _ => trivial) (R_of_own HZ.out.1) HZ.out.2 hbs (by simp) ?_; intro v9 w9 hR9 hB9 hgr9 hat9; obtain ⟨A9, c9, rfl, _, _⟩ := Kd.R_reads hR9; obtain ⟨L9, hL9⟩ : ∃ L, L = (([] : List S60) ++ [y]).length := ⟨_, rfl⟩; rw [← hL9] at hR9 ⊢; have HR9 := Lib.hid hR9; have HB9 := Lib.hid hB9; clear hR9 hB9 hgr9 hat9 hL9)
            go_roundw
            case rel => exact ⟨j + 1, by omega, by go_num, Lib.hid ⟨by rw [HT.out, HMG.out]; exact own_of_R HR9.out, HB9.out⟩⟩
            case measure => simp [intOf]; omega
          · obtain ⟨g, cap, cur, rfl, g2, g3, g4, g5, g6, g7⟩ := own_cells HJ.out.1 hpos
            obtain ⟨u0, _, u2⟩ := g7 (out.length - 1) (by omega)
            rw [show (((out.length - 1 : Nat)) : Int) = (out.length : Int) - 1 by omega] at u0 u2
            have l0' := Ytdelfhahbngcfaa.blk_cell g3 _ _ u0
            have l2' := Ytdelfhahbngcfaa.blk_cell g3 _ _ u2
            have lf := Ytdelfhahbngcfaa.blk_thawed g3 ((out.length - 1) * 3 + 2)
            have HG3 := Lib.hid g3
            obtain ⟨la, hla⟩ : ∃ la, la = rd_T60 out ((out.length : Int) - 1) := ⟨_, rfl⟩
            rw [← hla] at l0' l2'
            have HLA := Lib.hid hla
            have hpos' : decide ((0 : Int) ≤ (out.length : Int) - 1) = true := by simp; omega
            have hpos2 : decide ((1 : Int) ≤ (out.length : Int)) = true := by simp; omega
            have hpos3 : decide (1 ≤ out.length) = true := by simp; omega
            have hpos4 : decide (0 < out.length) = true := by simp; omega
            have hpos5 : (1 : Int) ≤ (out.length : Int) := by omega
            clear u0 u2 g7 g6 g5 g4 g2 g3 hla
            by_cases k1 : la.f0 = y.f0
            · have k1' : (la.f0 == y.f0) = true := by simp [k1]
              by_cases k2 : y.f1 ≤ wrap64 (la.f2 + 1)
              · have k2' : decide (y.f1 ≤ IntKind.i64.wrap (la.f2 + 1)) = true := by rw [i64_w]; exact decide_eq_true k2
                have k2'' : decide (y.f1 ≤ wrap64 (la.f2 + 1)) = true := decide_eq_true k2
                have HMG := Lib.hid (show mergeV out y = out.dropLast ++ [⟨la.f0, la.f1, max la.f2 y.f2⟩] from by
                  unfold mergeV; rw [← HLA.out, if_pos ⟨hpos, k1, k2⟩])
                clear k1 k2
                go_wp2
                go_quiet (fail)
                have z0 : (wq.drewN nq).cell? ⟨b2, off2 + j * 3 + 2, none⟩ = some (.int .i64 y.f2) := p2
                have z1 : (wq.drewN nq).cell? ⟨g, (out.length - 1) * 3 + 2, none⟩ = some (.int .i64 la.f2) := l2'
                have z2 : (wq.drewN nq).frozen? ⟨g, (out.length - 1) * 3 + 2, none⟩ = false := lf
                go_wp2_with fail
                have HFL := Lib.hid (show ∀ m : Nat, Own60 (((wq.drewN nq).drewN m).setCell ⟨g, (out.length - 1) * 3 + 2, none⟩ (.int .i64 (max la.f2 y.f2))) w1.heap.size (.slice (some ⟨g, 0, none⟩) out.length cap) (mergeV out y) ∧ Below w1.heap.size w1 (((wq.drewN nq).drewN m).setCell ⟨g, (out.length - 1) * 3 + 2, none⟩ (.int .i64 (max la.f2 y.f2))) from fun m => by
                  have hz : Own60 ((wq.drewN nq).drewN m) w1.heap.size (.slice (some ⟨g, 0, none⟩) out.length cap) out := own_ch (own_ch HJ.out.1 (Ytdelfhahbngcfaa.ch_drewN No wq nq) (fun _ _ => id)) (Ytdelfhahbngcfaa.ch_drewN No _ m) (fun _ _ => id)
                  have h1 := own_last hz hpos (max la.f2 y.f2)
                  rw [← HLA.out] at h1
                  refine ⟨by rw [HMG.out]; exact h1, ?_⟩
                  have c2 := (Ytdelfhahbngcfaa.ch_drewN (fun k => k = g) (wq.drewN nq) m).trans (Ytdelfhahbngcfaa.Ch.setCell ((wq.drewN nq).drewN m) ⟨g, (out.length - 1) * 3 + 2, none⟩ (.int .i64 (max la.f2 y.f2))) (fun _ h => .inl h)
                  have hb0 := HJ.out.2.trans ((below_drewN' (w := wq) nq).mono HJ.out.2.size)
                  exact hb0.trans (c2.below hb0.size (fun k hk => by rw [hk]; exact (HJ.out.1.lt g rfl).1)))
                clear l0' p0 p1 z0 z1 z2
                go_region_with (fail)
                all_goals
                  go_wp2
                  go_roundw
                  case rel => exact ⟨j + 1, by omega, by go_num, Lib.hid ⟨by rw [HT.out]; exact (HFL.out 1).1, (HFL.out 1).2⟩⟩
                  case measure => simp [intOf]; omega
              · have k2' : decide (y.f1 ≤ IntKind.i64.wrap (la.f2 + 1)) = false := by rw [i64_w]; exact decide_eq_false k2
                have k2'' : decide (y.f1 ≤ wrap64 (la.f2 + 1)) = false := decide_eq_false k2
                have HMG := Lib.hid (show mergeV out y = out ++ [y] from by
                  unfold mergeV; rw [← HLA.out, if_neg (fun h => k2 h.2.2)])
                clear k1 k2
                go_wp2
                go_quiet (fail)
                obtain ⟨wz, hwz⟩ : ∃ wz, wz = wq.drewN nq := ⟨_, rfl⟩
                have HZ := Lib.hid (show Own60 (wq.drewN nq) w1.heap.size (.slice (some ⟨g, 0, none⟩) out.length cap) out ∧ Below w1.heap.size w1 (wq.drewN nq) from ⟨own_ch HJ.out.1 (Ytdelfhahbngcfaa.ch_drewN No wq nq) (fun _ _ => id), HJ.out.2.trans ((below_drewN' (w := wq) nq).mono HJ.out.2.size)⟩)
                have z0 : (wq.drewN nq).cell? ⟨b2, off2 + j * 3, none⟩ = some (.int .i64 y.f0) := p0
                have z1 : (wq.drewN nq).cell? ⟨b2, off2 + j * 3 + 1, none⟩ = some (.int .i64 y.f1) := p1
                have z2 : (wq.drewN nq).cell? ⟨b2, off2 + j * 3 + 2, none⟩ = some (.int .i64 y.f2) := p2
                rw [← hwz] at HZ z0 z1 z2 ⊢
                clear hwz p0 p1 p2 HJ
                have hbs : w1.heap.size ≤ wz.heap.size := HZ.out.2.size
                go_wp2_with (at_builtin; refine Kd.R_append k60 (w0 := w1) w1.heap.size rfl (.tmp 101) (.tmp 106) 22 60 (.agg #[.int .i64 0, .int .i64 0, .int .i64 0]) 24 rfl Try.underlying22 info60 rfl (by decide) (by decide) (.slice (some ⟨g, 0, none⟩) out.length cap) out y [.int .i64 y.f0, .int .i64 y.f1, .int .i64 y.f2] (fun _ => True) (fun _ => False) rfl rfl (k60_mkM _ _ _ y) (fun _ h => h.elim) (fun _ _ => trivial) (R_of_own HZ.out.1) HZ.out.2 hbs (by omega) ?_; intro v9 w9 hR9 hB9 hgr9 hat9; obtain ⟨A9, c9, rfl, _, _⟩ := Kd.R_reads hR9; obtain ⟨L9, hL9⟩ : ∃ L, L = (out ++ [y]).length := ⟨_, rfl⟩; rw [← hL9] at hR9 ⊢; have HR9 := Lib.hid hR9; have HB9 := Lib.hid hB9; clear hR9 hB9 hgr9 hat9 hL9)
                go_roundw
                case rel => exact ⟨j + 1, by omega, by go_num, Lib.hid ⟨by rw [HT.out, HMG.out]; exact own_of_R HR9.out, HB9.out⟩⟩
                case measure => simp [intOf]; omega
            · have k1' : (la.f0 == y.f0) = false := by simp [k1]
              have HMG := Lib.hid (show mergeV out y = out ++ [y] from by
                unfold mergeV; rw [← HLA.out, if_neg (fun h => k1 h.2.1)])
              clear k1
              go_wp2
              go_quiet (fail)
              obtain ⟨wz, hwz⟩ : ∃ wz, wz = wq.drewN nq := ⟨_, rfl⟩
              have HZ := Lib.hid (show Own60 (wq.drewN nq) w1.heap.size (.slice (some ⟨g, 0, none⟩) out.length cap) out ∧ Below w1.heap.size w1 (wq.drewN nq) from ⟨own_ch HJ.out.1 (Ytdelfhahbngcfaa.ch_drewN No wq nq) (fun _ _ => id), HJ.out.2.trans ((below_drewN' (w := wq) nq).mono HJ.out.2.size)⟩)
              have z0 : (wq.drewN nq).cell? ⟨b2, off2 + j * 3, none⟩ = some (.int .i64 y.f0) := p0
              have z1 : (wq.drewN nq).cell? ⟨b2, off2 + j * 3 + 1, none⟩ = some (.int .i64 y.f1) := p1
              have z2 : (wq.drewN nq).cell? ⟨b2, off2 + j * 3 + 2, none⟩ = some (.int .i64 y.f2) := p2
              rw [← hwz] at HZ z0 z1 z2 ⊢
              clear hwz p0 p1 p2 HJ
              have hbs : w1.heap.size ≤ wz.heap.size := HZ.out.2.size
              go_wp2_with (at_builtin; refine Kd.R_append k60 (w0 := w1) w1.heap.size rfl (.tmp 101) (.tmp 106) 22 60 (.agg #[.int .i64 0, .int .i64 0, .int .i64 0]) 24 rfl Try.underlying22 info60 rfl (by decide) (by decide) (.slice (some ⟨g, 0, none⟩) out.length cap) out y [.int .i64 y.f0, .int .i64 y.f1, .int .i64 y.f2] (fun _ => True) (fun _ => False) rfl rfl (k60_mkM _ _ _ y) (fun _ h => h.elim) (fun _ _ => trivial) (R_of_own HZ.out.1) HZ.out.2 hbs (by omega) ?_; intro v9 w9 hR9 hB9 hgr9 hat9; obtain ⟨A9, c9, rfl, _, _⟩ := Kd.R_reads hR9; obtain ⟨L9, hL9⟩ : ∃ L, L = (out ++ [y]).length := ⟨_, rfl⟩; rw [← hL9] at hR9 ⊢; have HR9 := Lib.hid hR9; have HB9 := Lib.hid hB9; clear hR9 hB9 hgr9 hat9 hL9)
              go_roundw
              case rel => exact ⟨j + 1, by omega, by go_num, Lib.hid ⟨by rw [HT.out, HMG.out]; exact own_of_R HR9.out, HB9.out⟩⟩
              case measure => simp [intOf]; omega
        · obtain rfl : j = M := by omega
          have HTL := Lib.hid (show ((riseV l0).take j).foldl mergeV [] = tidyL l0 from by rw [HM.out, List.take_length]; rfl)
          rw [HTL.out] at HJ
          have HOWN := Lib.hid HJ.out.1
          have HBJ := Lib.hid (HI.out.2.trans (HJ.out.2.mono HI.out.2.size))
          have HBS := Lib.hid HI.out.2.size
          obtain ⟨Ao, co, rfl, _, _⟩ := own_form HJ.out.1
          by_cases h4 : 4000 < (tidyL l0).length
          · have hg : decide ((4000 : Int) < ((tidyL l0).length : Int)) = true := by simp; omega
            have HE := Lib.hid (show r1 = [] ∧ r2 = 8 by
              have := HH.out
              unfold tidyV at this
              rw [if_pos h4] at this
              exact ⟨(Prod.mk.inj this).1.symm, (Prod.mk.inj this).2.symm⟩)
            clear h4
            go_wp2
            go_ret2
            obtain ⟨e1, e2⟩ := HE.out
            exact ⟨_, by rw [e2]; rfl, by rw [e1]; exact Kd.R_nil _ _ _ _ _, HBJ.out⟩
          · have hg : decide ((4000 : Int) < ((tidyL l0).length : Int)) = false := by simp; omega
            have HE := Lib.hid (show r1 = tidyL l0 ∧ r2 = 0 by
              have := HH.out
              unfold tidyV at this
              rw [if_neg h4] at this
              exact ⟨(Prod.mk.inj this).1.symm, (Prod.mk.inj this).2.symm⟩)
            clear h4
            go_wp2
            go_ret2
            obtain ⟨e1, e2⟩ := HE.out
            exact ⟨_, by rw [e2]; rfl, by rw [e1]; exact Kd.R_lower (R_of_own HOWN.out) HBS.out, HBJ.out⟩
end Go.Proofs.YtdelfhahbngcfaaX.P07
end
section
namespace Go.Proofs.YtdelfhahbngcfaaX.P07
open Go.RowKit Go.Proofs.YtdelfhahbngcfaaW.PrintWords Go.Proofs.YtdelfhahbngcfaaW.PrintLast Go.Proofs.YtdelfhahbngcfaaW.PrintMore
set_option linter.unusedVariables false
set_option linter.unusedSimpArgs false
def HasP (l : List S60) (n q : Int) : Prop := ∃ s ∈ l, s.f0 = n ∧ s.f1 ≤ q ∧ q ≤ s.f2
def Aft (s u : S60) : Prop := s.f0 < u.f0 ∨ (s.f0 = u.f0 ∧ s.f2 + 1 < u.f1)
def Can : List S60 → Prop
  | [] => True
  | s :: l => s.f1 ≤ s.f2 ∧ (∀ u ∈ l, Aft s u) ∧ Can l
theorem has_nil (n q : Int) : ¬ HasP [] n q := fun ⟨s, h, _⟩ => by cases h
theorem has_cons {s : S60} {l : List S60} {n q : Int} : HasP (s :: l) n q ↔ (s.f0 = n ∧ s.f1 ≤ q ∧ q ≤ s.f2) ∨ HasP l n q := by
  constructor
  · rintro ⟨u, hu, h⟩
    rcases List.mem_cons.1 hu with rfl | hu
    · exact .inl h
    · exact .inr ⟨u, hu, h⟩
  · rintro (h | ⟨u, hu, h⟩)
    · exact ⟨s, List.mem_cons_self .., h⟩
    · exact ⟨u, List.mem_cons_of_mem _ hu, h⟩
theorem has_app {l k : List S60} {n q : Int} : HasP (l ++ k) n q ↔ HasP l n q ∨ HasP k n q := by
  constructor
  · rintro ⟨u, hu, h⟩
    rcases List.mem_append.1 hu with hu | hu
    · exact .inl ⟨u, hu, h⟩
    · exact .inr ⟨u, hu, h⟩
  · rintro (⟨u, hu, h⟩ | ⟨u, hu, h⟩)
    · exact ⟨u, List.mem_append_left _ hu, h⟩
    · exact ⟨u, List.mem_append_right _ hu, h⟩
theorem can_mem : ∀ {l : List S60}, Can l → ∀ {s}, s ∈ l → s.f1 ≤ s.f2
  | s :: l, h, u, hu => by
    rcases List.mem_cons.1 hu with rfl | hu
    · exact h.1
    · exact can_mem h.2.2 hu
theorem aft_trans {s u v : S60} (h : Aft s u) (hu : u.f1 ≤ u.f2) (k : Aft u v) : Aft s v := by unfold Aft at *; omega
theorem can_app : ∀ {l k : List S60}, Can (l ++ k) ↔ Can l ∧ Can k ∧ ∀ s ∈ l, ∀ u ∈ k, Aft s u
  | [], k => by simp [Can]
  | s :: l, k => by
    have ih := can_app (l := l) (k := k)
    simp only [List.cons_append, Can, ih]
    constructor
    · rintro ⟨h1, h2, h3, h4, h5⟩
      refine ⟨⟨h1, fun u hu => h2 u (List.mem_append_left _ hu), h3⟩, h4, fun x hx u hu => ?_⟩
      rcases List.mem_cons.1 hx with rfl | hx
      · exact h2 u (List.mem_append_right _ hu)
      · exact h5 x hx u hu
    · rintro ⟨⟨h1, h2, h3⟩, h4, h5⟩
      refine ⟨h1, fun u hu => ?_, h3, h4, fun x hx u hu => h5 x (List.mem_cons_of_mem _ hx) u hu⟩
      rcases List.mem_append.1 hu with hu | hu
      · exact h2 u hu
      · exact h5 s (List.mem_cons_self ..) u hu
theorem can_head {s : S60} {l : List S60} (h : Can (s :: l)) {n q : Int} (hh : HasP (s :: l) n q) : s.f0 < n ∨ (s.f0 = n ∧ s.f1 ≤ q) := by
  obtain ⟨u, hu, rfl, h1, h2⟩ := hh
  rcases List.mem_cons.1 hu with rfl | hu
  · omega
  · have := h.2.1 u hu; have := h.1; unfold Aft at *; omega
theorem can_tail {s : S60} {l : List S60} (h : Can (s :: l)) {n q : Int} (hh : HasP l n q) : s.f0 < n ∨ (s.f0 = n ∧ s.f2 + 1 < q) := by
  obtain ⟨u, hu, rfl, h1, h2⟩ := hh
  have := h.2.1 u hu; unfold Aft at *; omega
theorem can_one {l k : List S60} (hl : Can l) (hk : Can k) (h : ∀ n q, HasP l n q ↔ HasP k n q) : l = k := by
  induction l generalizing k with
  | nil =>
    cases k with
    | nil => rfl
    | cons u k => exact absurd ((h u.f0 u.f1).2 ⟨u, List.mem_cons_self .., rfl, Int.le_refl _, hk.1⟩) (has_nil _ _)
  | cons s l ih =>
    cases k with
    | nil => exact absurd ((h s.f0 s.f1).1 ⟨s, List.mem_cons_self .., rfl, Int.le_refl _, hl.1⟩) (has_nil _ _)
    | cons u k =>
      have a1 := can_head hk ((h s.f0 s.f1).1 ⟨s, List.mem_cons_self .., rfl, Int.le_refl _, hl.1⟩)
      have a2 := can_head hl ((h u.f0 u.f1).2 ⟨u, List.mem_cons_self .., rfl, Int.le_refl _, hk.1⟩)
      have hn : s.f0 = u.f0 := by omega
      have hf : s.f1 = u.f1 := by omega
      have hst := hl.1
      have hut := hk.1
      have b1 : ¬ s.f2 < u.f2 := fun hlt => by
        have := (h s.f0 (s.f2 + 1)).2 (has_cons.2 (.inl ⟨hn.symm, by omega, by omega⟩))
        rcases has_cons.1 this with h1 | h1
        · omega
        · have := can_tail hl h1; omega
      have b2 : ¬ u.f2 < s.f2 := fun hlt => by
        have := (h s.f0 (u.f2 + 1)).1 (has_cons.2 (.inl ⟨rfl, by omega, by omega⟩))
        rcases has_cons.1 this with h1 | h1
        · omega
        · have := can_tail hk h1; omega
      have ht : s.f2 = u.f2 := by omega
      have hsu : s = u := by cases s; cases u; simp_all
      subst hsu
      congr 1
      refine ih hl.2.2 hk.2.2 fun n q => ?_
      constructor
      · intro hh
        rcases has_cons.1 ((h n q).1 (has_cons.2 (.inr hh))) with h1 | h1
        · have := can_tail hl hh; omega
        · exact h1
      · intro hh
        rcases has_cons.1 ((h n q).2 (has_cons.2 (.inr hh))) with h1 | h1
        · have := can_tail hk hh; omega
        · exact h1
def okS60 (s : S60) : Prop := 1 ≤ s.f0 ∧ s.f0 ≤ 200 ∧ 1 ≤ s.f1 ∧ s.f1 ≤ s.f2 ∧ s.f2 ≤ 2147483647
instance (s : S60) : Decidable (okS60 s) := by unfold okS60; infer_instance
instance (s u : S60) : Decidable (Aft s u) := by unfold Aft; infer_instance
def chkTo (l : List S60) (k : Nat) : Prop := ∀ i s, i < k → l[i]? = some s → okS60 s ∧ ∀ p, 1 ≤ i → l[i - 1]? = some p → Aft p s
def Chk (l : List S60) : Prop := l.length ≤ 4000 ∧ chkTo l l.length
noncomputable instance (l : List S60) : Decidable (Chk l) := Classical.propDecidable _
theorem chkTo_tail {s : S60} {l : List S60} (h : chkTo (s :: l) (s :: l).length) : chkTo l l.length := fun i u hi hu => by
  have := h (i + 1) u (by simp; omega) (by simpa using hu)
  refine ⟨this.1, fun p hp1 hp => this.2 p (by omega) ?_⟩
  obtain ⟨j, rfl⟩ : ∃ j, i = j + 1 := ⟨i - 1, by omega⟩
  simpa using hp
theorem chk_can : ∀ {l : List S60}, chkTo l l.length → Can l ∧ ∀ s ∈ l, okS60 s
  | [], _ => ⟨trivial, fun s h => by cases h⟩
  | [s], h => by
    have h0 := (h 0 s (by simp) rfl).1
    exact ⟨⟨h0.2.2.2.1, fun u hu => (by cases hu), trivial⟩, fun u hu => by rw [List.mem_singleton.1 hu]; exact h0⟩
  | s :: u :: l, h => by
    have ih := chk_can (chkTo_tail h)
    have h0 := (h 0 s (by simp) rfl).1
    have h1 := (h 1 u (by simp) rfl).2 s (by omega) rfl
    refine ⟨⟨h0.2.2.2.1, fun v hv => ?_, ih.1⟩, fun v hv => ?_⟩
    · rcases List.mem_cons.1 hv with rfl | hv
      · exact h1
      · exact aft_trans h1 ih.1.1 (ih.1.2.1 v hv)
    · rcases List.mem_cons.1 hv with rfl | hv
      · exact h0
      · exact ih.2 v hv
theorem can_chk : ∀ {l : List S60}, Can l → (∀ s ∈ l, okS60 s) → chkTo l l.length
  | [], _, _ => fun i s hi hs => by simp at hs
  | s :: l, h, hok => fun i u hi hu => by
    refine ⟨hok u (List.mem_of_getElem? hu), fun p hp1 hp => ?_⟩
    obtain ⟨j, rfl⟩ : ∃ j, i = j + 1 := ⟨i - 1, by omega⟩
    simp only [Nat.add_sub_cancel, List.getElem?_cons_succ] at hu hp
    cases j with
    | zero =>
      simp only [List.getElem?_cons_zero, Option.some.injEq] at hp
      subst hp
      exact h.2.1 u (List.mem_of_getElem? hu)
    | succ j =>
      have := can_chk h.2.2 (fun v hv => hok v (List.mem_cons_of_mem _ hv)) (j + 1) u (by simp only [List.length_cons] at hi; omega) hu
      exact this.2 p (by omega) (by simpa using hp)
def Beh (out : List S60) (n q : Int) : Prop := ∀ s ∈ out, s.f0 < n ∨ (s.f0 = n ∧ s.f2 < q)
theorem last_mem {out : List S60} (h : 0 < out.length) : rd_T60 out ((out.length : Int) - 1) ∈ out := by
  rw [last_eq out (List.length_pos_iff.1 h)]
  exact List.getLast_mem _
theorem init_last {out : List S60} (h : 0 < out.length) : out = out.dropLast ++ [rd_T60 out ((out.length : Int) - 1)] := by
  rw [last_eq out (List.length_pos_iff.1 h)]
  exact (List.dropLast_concat_getLast (List.length_pos_iff.1 h)).symm
theorem can_longer {I : List S60} {la : S60} {t : Int} (hc : Can (I ++ [la])) (ht : la.f2 ≤ t) : Can (I ++ [⟨la.f0, la.f1, t⟩]) := by
  rw [can_app] at hc ⊢
  obtain ⟨h1, h2, h3⟩ := hc
  have h4 := h2.1
  refine ⟨h1, ⟨by show la.f1 ≤ t; omega, fun u hu => (by cases hu), trivial⟩, fun s hs u hu => ?_⟩
  have h5 := h3 s hs la (List.mem_singleton_self _)
  rw [List.mem_singleton] at hu
  subst hu
  exact h5
theorem addV_can {out : List S60} {x : S60} (hc : Can out) (hx : x.f1 ≤ x.f2) (hb : Beh out x.f0 x.f1) (hmx : ∀ s ∈ out, -9223372036854775808 ≤ s.f2 ∧ s.f2 ≤ 2147483647) :
    Can (addV out x) ∧ (∀ n q, HasP (addV out x) n q ↔ HasP out n q ∨ (x.f0 = n ∧ x.f1 ≤ q ∧ q ≤ x.f2)) := by
  unfold addV
  split
  · rename_i h
    obtain ⟨h0, h1, h2⟩ := h
    have e := init_last h0
    have hm := last_mem h0
    obtain ⟨la, hla⟩ : ∃ la, la = rd_T60 out ((out.length : Int) - 1) := ⟨_, rfl⟩
    rw [← hla] at e hm h1 h2 ⊢
    obtain ⟨I, hI⟩ : ∃ I, I = out.dropLast := ⟨_, rfl⟩
    rw [← hI] at e ⊢
    have h3 : wrap64 (la.f2 + 1) = la.f2 + 1 := by have := hmx la hm; unfold wrap64; omega
    rw [h3] at h2
    subst e
    have hlc := can_mem hc hm
    refine ⟨can_longer hc (by omega), fun n q => ?_⟩
    rw [has_app, has_app, has_cons, has_cons]
    simp only [has_nil, or_false]
    constructor
    · rintro (h | ⟨h5, h6, h7⟩)
      · exact .inl (.inl h)
      · by_cases hq : q ≤ la.f2
        · exact .inl (.inr ⟨h5, h6, hq⟩)
        · exact .inr ⟨by rw [← h1]; exact h5, by omega, h7⟩
    · rintro ((h | ⟨h5, h6, h7⟩) | ⟨h5, h6, h7⟩)
      · exact .inl h
      · exact .inr ⟨h5, h6, by show q ≤ x.f2; omega⟩
      · exact .inr ⟨by rw [h1]; exact h5, by show la.f1 ≤ q; omega, h7⟩
  · rename_i h
    refine ⟨?_, fun n q => ?_⟩
    · rw [can_app]
      refine ⟨hc, ⟨hx, fun u hu => (by cases hu), trivial⟩, fun s hs u hu => ?_⟩
      rw [List.mem_singleton] at hu
      subst hu
      have h0 : 0 < out.length := List.length_pos_of_mem hs
      have e := init_last h0
      obtain ⟨la, hla⟩ : ∃ la, la = rd_T60 out ((out.length : Int) - 1) := ⟨_, rfl⟩
      have hm := last_mem h0
      rw [← hla] at e hm h
      have h3 : wrap64 (la.f2 + 1) = la.f2 + 1 := by have := hmx la hm; unfold wrap64; omega
      have key : Aft la u := by
        have := hb la hm
        unfold Aft
        rcases this with h4 | ⟨h4, h5⟩
        · exact .inl h4
        · right
          refine ⟨h4, ?_⟩
          have : ¬ la.f2 + 1 = u.f1 := fun h6 => h ⟨h0, h4, by rw [h3]; exact h6⟩
          omega
      rw [e] at hs
      rcases List.mem_append.1 hs with hs | hs
      · have hc' := hc
        rw [e, can_app] at hc'
        exact aft_trans (hc'.2.2 s hs la (List.mem_singleton_self _)) (can_mem hc hm) key
      · rw [List.mem_singleton.1 hs]; exact key
    · rw [has_app, has_cons]
      simp [has_nil]
end Go.Proofs.YtdelfhahbngcfaaX.P07
end
section
namespace Go.Proofs.YtdelfhahbngcfaaX.P07
open Go.RowKit Go.Proofs.YtdelfhahbngcfaaW.PrintWords Go.Proofs.YtdelfhahbngcfaaW.PrintLast Go.Proofs.YtdelfhahbngcfaaW.PrintMore
set_option linter.unusedVariables false
set_option linter.unusedSimpArgs false
def cnt : List S60 → Int
  | [] => 0
  | s :: l => s.f2 - s.f1 + 1 + cnt l
theorem cnt_app : ∀ l k : List S60, cnt (l ++ k) = cnt l + cnt k
  | [], k => by simp [cnt]
  | s :: l, k => by simp only [List.cons_append, cnt, cnt_app l k]; omega
theorem addV_cnt {out : List S60} {x : S60} (hmx : ∀ s ∈ out, -9223372036854775808 ≤ s.f2 ∧ s.f2 ≤ 2147483647) : cnt (addV out x) = cnt out + (x.f2 - x.f1 + 1) := by
  unfold addV
  split
  · rename_i h
    obtain ⟨h0, h1, h2⟩ := h
    have e := init_last h0
    have hm := last_mem h0
    obtain ⟨la, hla⟩ : ∃ la, la = rd_T60 out ((out.length : Int) - 1) := ⟨_, rfl⟩
    rw [← hla] at e hm h2 ⊢
    have h3 : wrap64 (la.f2 + 1) = la.f2 + 1 := by have := hmx la hm; unfold wrap64; omega
    rw [h3] at h2
    have : cnt out = cnt (out.dropLast ++ [la]) := by rw [← e]
    rw [this, cnt_app, cnt_app]
    simp only [cnt]
    omega
  · rw [cnt_app]; simp only [cnt]; omega
theorem addV_ok {out : List S60} {x : S60} (ho : ∀ s ∈ out, okI s = true) (hx : okI x = true) : ∀ s ∈ addV out x, okI s = true := by
  unfold addV
  split
  · rename_i h
    obtain ⟨h0, h1, h2⟩ := h
    have hm := last_mem h0
    intro s hs
    rcases List.mem_append.1 hs with hs | hs
    · exact ho s (List.dropLast_subset _ hs)
    · rw [List.mem_singleton] at hs
      subst hs
      have a1 := okI_spec (ho _ hm)
      have a2 := okI_spec hx
      have h3 : wrap64 ((rd_T60 out ((out.length : Int) - 1)).f2 + 1) = (rd_T60 out ((out.length : Int) - 1)).f2 + 1 := by unfold wrap64; omega
      rw [h3] at h2
      unfold okI
      simp
      omega
  · intro s hs
    rcases List.mem_append.1 hs with hs | hs
    · exact ho s hs
    · rw [List.mem_singleton.1 hs]; exact hx
structure SideOk (l l' : List S60) (n fr t : Int) (a : Bool) : Prop where
  can : Can l'
  ok : ∀ s ∈ l', okI s = true
  mem : ∀ m q, HasP l' m q ↔ HasP l m q ∧ ¬(m = n ∧ q ≤ t)
  frm : ∀ m q, HasP l m q → n < m ∨ (n = m ∧ fr ≤ q)
  inn : ∀ q, fr ≤ q → q ≤ t → (HasP l n q ↔ a = true)
  num : cnt l = cnt l' + if a = true then t - fr + 1 else 0
theorem side_in {x : S60} {r : List S60} {t : Int} (hc : Can (x :: r)) (ho : ∀ s ∈ x :: r, okI s = true) (h1 : x.f1 ≤ t) (h2 : t ≤ x.f2) : SideOk (x :: r) (behV (x :: r) t) x.f0 x.f1 t true := by
  have hr : ∀ m q, HasP r m q → x.f0 < m ∨ (x.f0 = m ∧ x.f2 + 1 < q) := fun m q h => can_tail hc h
  unfold behV
  by_cases e : x.f2 = t
  · simp only [e, if_true]
    refine ⟨hc.2.2, fun s hs => ho s (List.mem_cons_of_mem _ hs), fun m q => ?_, fun m q h => can_head hc h, fun q a b => ?_, ?_⟩
    · rw [has_cons]
      constructor
      · intro h
        have := hr m q h
        exact ⟨.inr h, by omega⟩
      · rintro ⟨h | h, h3⟩
        · exact absurd ⟨h.1.symm, by omega⟩ h3
        · exact h
    · rw [has_cons]; simp; left; omega
    · simp only [cnt, if_true]; omega
  · simp only [if_neg e]
    refine ⟨⟨by show t + 1 ≤ x.f2; omega, fun u hu => hc.2.1 u hu, hc.2.2⟩, fun s hs => ?_, fun m q => ?_, fun m q h => can_head hc h, fun q a b => ?_, ?_⟩
    · rcases List.mem_cons.1 hs with rfl | hs
      · have := okI_spec (ho x (List.mem_cons_self ..))
        unfold okI
        simp
        omega
      · exact ho s (List.mem_cons_of_mem _ hs)
    · rw [has_cons, has_cons]
      constructor
      · rintro (⟨h3, h4, h5⟩ | h)
        · have h4 : t + 1 ≤ q := h4
          exact ⟨.inl ⟨h3, by omega, h5⟩, by omega⟩
        · have := hr m q h
          exact ⟨.inr h, by omega⟩
      · rintro ⟨⟨h3, h4, h5⟩ | h, h6⟩
        · left
          refine ⟨h3, ?_, h5⟩
          show t + 1 ≤ q
          have : ¬ q ≤ t := fun h7 => h6 ⟨h3.symm, h7⟩
          omega
        · exact .inr h
    · rw [has_cons]; simp; left; omega
    · simp only [cnt, if_true]; omega
theorem side_out {l : List S60} {n fr t : Int} (hc : Can l) (ho : ∀ s ∈ l, okI s = true) (hft : fr ≤ t) (h : ∀ m q, HasP l m q → n < m ∨ (n = m ∧ t < q)) : SideOk l l n fr t false :=
  { can := hc
    ok := ho
    mem := fun m q => ⟨fun hh => ⟨hh, by have := h m q hh; omega⟩, fun hh => hh.1⟩
    frm := fun m q hh => by have := h m q hh; omega
    inn := fun q a b => ⟨fun hh => by have := h n q hh; omega, fun e => by cases e⟩
    num := by simp }
def hasB (l : List S60) (n q : Int) : Bool := l.any (fun x => inS x n q)
theorem hasB_iff (l : List S60) (n q : Int) : hasB l n q = true ↔ HasP l n q := by
  unfold hasB HasP
  rw [List.any_eq_true]
  constructor
  · rintro ⟨x, hx, h⟩
    refine ⟨x, hx, ?_⟩
    unfold inS at h
    simpa [and_assoc] using h
  · rintro ⟨x, hx, h⟩
    refine ⟨x, hx, ?_⟩
    unfold inS
    simpa [and_assoc] using h
structure Rest (la lb out : List S60) : Prop where
  ca : Can la
  cb : Can lb
  oa : ∀ s ∈ la, okI s = true
  ob : ∀ s ∈ lb, okI s = true
  co : Can out
  oo : ∀ s ∈ out, okI s = true
  beh : ∀ n q, HasP la n q ∨ HasP lb n q → Beh out n q
theorem bnd {out : List S60} (h : ∀ s ∈ out, okI s = true) : ∀ s ∈ out, -9223372036854775808 ≤ s.f2 ∧ s.f2 ≤ 2147483647 := fun s hs => by have := okI_spec (h s hs); omega
theorem step_core {kf : Bool → Bool → Bool} (hkf : kf false false = false) {la lb la' lb' out : List S60} {n fr t : Int} {a b : Bool} (hR : Rest la lb out) (ha : SideOk la la' n fr t a) (hb : SideOk lb lb' n fr t b) (hft : fr ≤ t) (hab : a = true ∨ b = true) (h1 : 1 ≤ fr) (h2 : t ≤ 2147483647) :
    Rest la' lb' (putV kf a b out ⟨n, fr, t⟩) ∧ (∀ m q, (HasP (putV kf a b out ⟨n, fr, t⟩) m q ∨ kf (hasB la' m q) (hasB lb' m q) = true) ↔ (HasP out m q ∨ kf (hasB la m q) (hasB lb m q) = true)) ∧ cnt (putV kf a b out ⟨n, fr, t⟩) = cnt out + (if kf a b = true then t - fr + 1 else 0) := by
  have hbeh : Beh out n fr := by
    rcases hab with rfl | rfl
    · exact hR.beh n fr (.inl ((ha.inn fr (Int.le_refl _) hft).2 rfl))
    · exact hR.beh n fr (.inr ((hb.inn fr (Int.le_refl _) hft).2 rfl))
  have hout : Can (putV kf a b out ⟨n, fr, t⟩) ∧ (∀ s ∈ putV kf a b out ⟨n, fr, t⟩, okI s = true) ∧ (∀ m q, HasP (putV kf a b out ⟨n, fr, t⟩) m q ↔ HasP out m q ∨ (kf a b = true ∧ n = m ∧ fr ≤ q ∧ q ≤ t)) ∧ cnt (putV kf a b out ⟨n, fr, t⟩) = cnt out + (if kf a b = true then t - fr + 1 else 0) := by
    unfold putV
    by_cases hk : kf a b = true
    · rw [if_pos hk, if_pos hk]
      obtain ⟨c1, c2⟩ := addV_can (x := ⟨n, fr, t⟩) hR.co hft hbeh (bnd hR.oo)
      refine ⟨c1, addV_ok hR.oo (by unfold okI; simp; omega), fun m q => ?_, addV_cnt (bnd hR.oo)⟩
      rw [c2]; simp [hk]
    · rw [if_neg hk, if_neg hk]
      exact ⟨hR.co, hR.oo, fun m q => by simp [hk], by omega⟩
  obtain ⟨o1, o2, o3, o4⟩ := hout
  have hout2 : ∀ s ∈ putV kf a b out ⟨n, fr, t⟩, s.f0 < n ∨ (s.f0 = n ∧ s.f2 ≤ t) := fun s hs => by
    have hh : HasP (putV kf a b out ⟨n, fr, t⟩) s.f0 s.f2 := ⟨s, hs, rfl, can_mem o1 hs, Int.le_refl _⟩
    rcases (o3 _ _).1 hh with ⟨u, hu, h3, h4, h5⟩ | ⟨_, h3, _, h4⟩
    · have := hbeh u hu; omega
    · omega
  refine ⟨⟨ha.can, hb.can, ha.ok, hb.ok, o1, o2, fun m q hh s hs => ?_⟩, fun m q => ?_, o4⟩
  · have h3 := hout2 s hs
    rcases hh with hh | hh
    · obtain ⟨h4, h5⟩ := (ha.mem m q).1 hh
      have := ha.frm m q h4
      omega
    · obtain ⟨h4, h5⟩ := (hb.mem m q).1 hh
      have := hb.frm m q h4
      omega
  · by_cases hin : m = n ∧ q ≤ t
    · have e1 : hasB la' m q = false := by
        rw [Bool.eq_false_iff]; intro h; exact ((ha.mem m q).1 ((hasB_iff _ _ _).1 h)).2 hin
      have e2 : hasB lb' m q = false := by
        rw [Bool.eq_false_iff]; intro h; exact ((hb.mem m q).1 ((hasB_iff _ _ _).1 h)).2 hin
      rw [e1, e2, hkf, o3]
      obtain ⟨rfl, hq⟩ := hin
      by_cases hq2 : fr ≤ q
      · have f1 : hasB la m q = a := by rw [Bool.eq_iff_iff, hasB_iff]; exact ha.inn q hq2 hq
        have f2 : hasB lb m q = b := by rw [Bool.eq_iff_iff, hasB_iff]; exact hb.inn q hq2 hq
        rw [f1, f2]
        simp [hq, hq2]
      · have f1 : hasB la m q = false := by rw [Bool.eq_false_iff]; intro h; have := ha.frm m q ((hasB_iff _ _ _).1 h); omega
        have f2 : hasB lb m q = false := by rw [Bool.eq_false_iff]; intro h; have := hb.frm m q ((hasB_iff _ _ _).1 h); omega
        rw [f1, f2, hkf]
        simp [hq2]
    · have e1 : hasB la' m q = hasB la m q := by rw [Bool.eq_iff_iff, hasB_iff, hasB_iff, ha.mem]; exact ⟨fun h => h.1, fun h => ⟨h, hin⟩⟩
      have e2 : hasB lb' m q = hasB lb m q := by rw [Bool.eq_iff_iff, hasB_iff, hasB_iff, hb.mem]; exact ⟨fun h => h.1, fun h => ⟨h, hin⟩⟩
      rw [e1, e2, o3]
      constructor
      · rintro ((h | ⟨_, h3, h4, h5⟩) | h)
        · exact .inl h
        · exact absurd ⟨h3.symm, h5⟩ hin
        · exact .inr h
      · rintro (h | h)
        · exact .inl (.inl h)
        · exact .inr h
def mu : List S60 → List S60 → Nat
  | x :: la, y :: lb => 2 * (la.length + lb.length + 2) + (if x.f0 = y.f0 ∧ x.f1 ≠ y.f1 then 1 else 0)
  | la, lb => 2 * (la.length + lb.length)
theorem mu_le (la lb : List S60) : mu la lb ≤ 2 * (la.length + lb.length) + 1 := by
  match la, lb with
  | [], [] => simp [mu]
  | [], y :: lb => simp [mu]
  | x :: la, [] => simp [mu]
  | x :: la, y :: lb => simp only [mu, List.length_cons]; split <;> omega
theorem mu_ge (la lb : List S60) : 2 * (la.length + lb.length) ≤ mu la lb := by
  match la, lb with
  | [], [] => simp [mu]
  | [], y :: lb => simp [mu]
  | x :: la, [] => simp [mu]
  | x :: la, y :: lb => simp only [mu, List.length_cons]; split <;> omega
theorem behV_eq (x : S60) (r : List S60) : behV (x :: r) x.f2 = r := by simp [behV]
theorem behV_ne (x : S60) (r : List S60) (t : Int) (h : x.f2 ≠ t) : behV (x :: r) t = ⟨x.f0, t + 1, x.f2⟩ :: r := by simp [behV, h]
theorem can_all {l : List S60} (h : ∀ s ∈ l, okI s = true) : l.all okI = true := List.all_eq_true.2 h
theorem step_law {kf : Bool → Bool → Bool} (hkf : kf false false = false) {la lb out : List S60} (hR : Rest la lb out) (hne : ¬ (la = [] ∧ lb = [])) :
    ∃ n fr t a b, SideOk la (stepV kf la lb out).1 n fr t a ∧ SideOk lb (stepV kf la lb out).2.1 n fr t b ∧ (stepV kf la lb out).2.2 = putV kf a b out ⟨n, fr, t⟩ ∧ fr ≤ t ∧ (a = true ∨ b = true) ∧ 1 ≤ fr ∧ t ≤ 2147483647 ∧ mu (stepV kf la lb out).1 (stepV kf la lb out).2.1 < mu la lb := by
  match la, lb, hne, hR with
  | [], [], hne, _ => exact absurd ⟨rfl, rfl⟩ hne
  | x :: la, [], _, hR =>
    obtain ⟨p1, p2, p3⟩ := okI_spec (hR.oa x (List.mem_cons_self ..))
    have e : min 2147483647 x.f2 = x.f2 := by omega
    simp only [stepV, e]
    refine ⟨x.f0, x.f1, x.f2, true, false, side_in hR.ca hR.oa p2 (Int.le_refl _), side_out trivial (fun s h => (by cases h)) p2 (fun m q h => absurd h (has_nil _ _)), rfl, p2, .inl rfl, p1, p3, ?_⟩
    rw [behV_eq]
    have := mu_le la []
    cases la <;> simp [mu]
  | [], y :: lb, _, hR =>
    obtain ⟨p1, p2, p3⟩ := okI_spec (hR.ob y (List.mem_cons_self ..))
    have e : min 2147483647 y.f2 = y.f2 := by omega
    simp only [stepV, e]
    refine ⟨y.f0, y.f1, y.f2, false, true, side_out trivial (fun s h => (by cases h)) p2 (fun m q h => absurd h (has_nil _ _)), side_in hR.cb hR.ob p2 (Int.le_refl _), rfl, p2, .inr rfl, p1, p3, ?_⟩
    rw [behV_eq]
    cases lb <;> simp [mu]
  | x :: la, y :: lb, _, hR =>
    obtain ⟨p1, p2, p3⟩ := okI_spec (hR.oa x (List.mem_cons_self ..))
    obtain ⟨q1, q2, q3⟩ := okI_spec (hR.ob y (List.mem_cons_self ..))
    have hmu : 2 * (la.length + lb.length + 2) ≤ mu (x :: la) (y :: lb) := by simp only [mu]; omega
    have hA : ∀ m q, HasP (x :: la) m q → x.f0 < m ∨ (x.f0 = m ∧ x.f1 ≤ q) := fun m q h => can_head hR.ca h
    have hB : ∀ m q, HasP (y :: lb) m q → y.f0 < m ∨ (y.f0 = m ∧ y.f1 ≤ q) := fun m q h => can_head hR.cb h
    have ex : min 2147483647 x.f2 = x.f2 := by omega
    have ey : min 2147483647 y.f2 = y.f2 := by omega
    have oneA : mu la (y :: lb) < mu (x :: la) (y :: lb) := by have := mu_le la (y :: lb); simp only [List.length_cons] at this; omega
    have oneB : mu (x :: la) lb < mu (x :: la) (y :: lb) := by have := mu_le (x :: la) lb; simp only [List.length_cons] at this; omega
    by_cases h1 : x.f0 < y.f0
    · have e : stepV kf (x :: la) (y :: lb) out = (behV (x :: la) x.f2, y :: lb, putV kf true false out ⟨x.f0, x.f1, x.f2⟩) := by simp only [stepV]; rw [if_pos h1, ex]
      rw [e]
      refine ⟨x.f0, x.f1, x.f2, true, false, side_in hR.ca hR.oa p2 (Int.le_refl _), side_out hR.cb hR.ob p2 (fun m q h => by have := hB m q h; omega), rfl, p2, .inl rfl, p1, p3, ?_⟩
      rw [behV_eq]; exact oneA
    by_cases h2 : y.f0 < x.f0
    · have e : stepV kf (x :: la) (y :: lb) out = (x :: la, behV (y :: lb) y.f2, putV kf false true out ⟨y.f0, y.f1, y.f2⟩) := by simp only [stepV]; rw [if_neg h1, if_pos h2, ey]
      rw [e]
      refine ⟨y.f0, y.f1, y.f2, false, true, side_out hR.ca hR.oa q2 (fun m q h => by have := hA m q h; omega), side_in hR.cb hR.ob q2 (Int.le_refl _), rfl, q2, .inr rfl, q1, q3, ?_⟩
      rw [behV_eq]; exact oneB
    have h3 : x.f0 = y.f0 := by omega
    by_cases h4 : x.f1 < y.f1
    · obtain ⟨t, ht⟩ : ∃ t, t = min x.f2 (y.f1 - 1) := ⟨_, rfl⟩
      have e : stepV kf (x :: la) (y :: lb) out = (behV (x :: la) t, y :: lb, putV kf true false out ⟨x.f0, x.f1, t⟩) := by simp only [stepV]; rw [if_neg h1, if_neg h2, if_pos h4, ex, ht]
      rw [e]
      refine ⟨x.f0, x.f1, t, true, false, side_in hR.ca hR.oa (by omega) (by omega), side_out hR.cb hR.ob (by omega) (fun m q h => by have := hB m q h; omega), rfl, by omega, .inl rfl, p1, by omega, ?_⟩
      by_cases e2 : x.f2 = t
      · rw [← e2, behV_eq]; exact oneA
      · rw [behV_ne _ _ _ e2]
        simp only [mu]
        rw [if_neg (fun h => h.2 (show t + 1 = y.f1 by omega)), if_pos ⟨h3, by omega⟩]
        omega
    by_cases h5 : y.f1 < x.f1
    · obtain ⟨t, ht⟩ : ∃ t, t = min (x.f1 - 1) y.f2 := ⟨_, rfl⟩
      have e : stepV kf (x :: la) (y :: lb) out = (x :: la, behV (y :: lb) t, putV kf false true out ⟨y.f0, y.f1, t⟩) := by
        simp only [stepV]; rw [if_neg h1, if_neg h2, if_neg h4, if_pos h5, h3, show min (min 2147483647 (x.f1 - 1)) y.f2 = t by omega]
      rw [e]
      refine ⟨y.f0, y.f1, t, false, true, side_out hR.ca hR.oa (by omega) (fun m q h => by have := hA m q h; omega), side_in hR.cb hR.ob (by omega) (by omega), rfl, by omega, .inr rfl, q1, by omega, ?_⟩
      by_cases e2 : y.f2 = t
      · rw [← e2, behV_eq]; exact oneB
      · rw [behV_ne _ _ _ e2]
        simp only [mu]
        rw [if_neg (fun h => h.2 (show x.f1 = t + 1 by omega)), if_pos ⟨h3, by omega⟩]
        omega
    · have h6 : x.f1 = y.f1 := by omega
      obtain ⟨t, ht⟩ : ∃ t, t = min x.f2 y.f2 := ⟨_, rfl⟩
      have e : stepV kf (x :: la) (y :: lb) out = (behV (x :: la) t, behV (y :: lb) t, putV kf true true out ⟨x.f0, x.f1, t⟩) := by
        simp only [stepV]; rw [if_neg h1, if_neg h2, if_neg h4, if_neg h5, ex, ht]
      rw [e]
      have sb := side_in (t := t) hR.cb hR.ob (by omega) (by omega)
      rw [← h3, ← h6] at sb
      refine ⟨x.f0, x.f1, t, true, true, side_in hR.ca hR.oa (by omega) (by omega), sb, rfl, by omega, .inl rfl, p1, by omega, ?_⟩
      have m0 : mu (x :: la) (y :: lb) = 2 * (la.length + lb.length + 2) := by simp only [mu]; rw [if_neg (fun h => h.2 h6)]; omega
      rw [m0]
      show mu (behV (x :: la) t) (behV (y :: lb) t) < _
      by_cases e2 : x.f2 = t
      · rw [← e2, behV_eq]
        by_cases e3 : y.f2 = x.f2
        · rw [← e3, behV_eq]; have := mu_le la lb; omega
        · rw [behV_ne _ _ _ e3]; have := mu_le la (⟨y.f0, x.f2 + 1, y.f2⟩ :: lb); simp only [List.length_cons] at this; omega
      · have e3 : y.f2 = t := by omega
        rw [behV_ne _ _ _ e2, ← e3, behV_eq]
        have := mu_le (⟨x.f0, y.f2 + 1, x.f2⟩ :: la) lb; simp only [List.length_cons] at this; omega
theorem sweep_law {kf : Bool → Bool → Bool} (hkf : kf false false = false) : ∀ (m : Nat) (la lb out : List S60), Rest la lb out → mu la lb ≤ m → out.length + m < 1000000 →
    ∃ o, sweepF kf (m + 1) la lb out = some o ∧ Can o ∧ (∀ s ∈ o, okI s = true) ∧ (∀ n q, HasP o n q ↔ HasP out n q ∨ kf (hasB la n q) (hasB lb n q) = true)
  | m, la, lb, out, hR, hm, hl => by
    rw [sweepF]
    by_cases he : la = [] ∧ lb = []
    · rw [if_pos he]
      obtain ⟨rfl, rfl⟩ := he
      exact ⟨out, rfl, hR.co, hR.oo, fun n q => by
        have : hasB [] n q = false := rfl
        rw [this, hkf]; simp⟩
    · have hge := mu_ge la lb
      rw [if_neg he, if_pos ⟨can_all hR.oa, can_all hR.ob, by omega, by omega, by omega⟩]
      obtain ⟨n, fr, t, a, b, ha, hb, ho, hft, hab, h1, h2, hlt⟩ := step_law hkf hR he
      obtain ⟨c1, c2, c3⟩ := step_core hkf hR ha hb hft hab h1 h2
      rw [← ho] at c1 c2
      obtain ⟨m', rfl⟩ : ∃ m', m = m' + 1 := ⟨m - 1, by omega⟩
      have hlen : (stepV kf la lb out).2.2.length ≤ out.length + 1 := by
        rw [ho]; unfold putV; split
        · exact addV_len _ _
        · omega
      obtain ⟨o, e1, e2, e3, e4⟩ := sweep_law hkf m' _ _ _ c1 (by omega) (by omega)
      exact ⟨o, e1, e2, e3, fun n q => (e4 n q).trans (c2 n q)⟩
end Go.Proofs.YtdelfhahbngcfaaX.P07
end
section
namespace Go.Proofs.YtdelfhahbngcfaaX.P07
open Go.RowKit Go.Sort Go.Lib Go.Proofs.YtdelfhahbngcfaaW.PrintWords Go.Proofs.YtdelfhahbngcfaaW.PrintLast Go.Proofs.YtdelfhahbngcfaaW.PrintMore
set_option linter.unusedVariables false
set_option linter.unusedSimpArgs false
def leS (a b : S60) : Prop := a.f0 < b.f0 ∨ (a.f0 = b.f0 ∧ (a.f1 < b.f1 ∨ (a.f1 = b.f1 ∧ a.f2 ≤ b.f2)))
theorem ins_nil (x : S60) : insV [] x = [x] := rfl
theorem ins_cons (y : S60) (rs : List S60) (x : S60) : insV (y :: rs) x = if ahB y x = true then y :: insV rs x else x :: y :: rs := by
  unfold insV posV
  rw [List.takeWhile_cons]
  by_cases h : ahB y x = true
  · rw [if_pos h, if_pos h]; simp
  · rw [if_neg h, if_neg h]; simp
theorem ins_mem (x : S60) : ∀ (rs : List S60) (s : S60), s ∈ insV rs x ↔ s = x ∨ s ∈ rs
  | [], s => by rw [ins_nil]; simp
  | y :: rs, s => by
    rw [ins_cons]
    split
    · rw [List.mem_cons, ins_mem x rs, List.mem_cons]
      constructor
      · rintro (h | h | h)
        · exact .inr (.inl h)
        · exact .inl h
        · exact .inr (.inr h)
      · rintro (h | h | h)
        · exact .inr (.inl h)
        · exact .inl h
        · exact .inr (.inr h)
    · simp
theorem ins_sorted (x : S60) : ∀ (rs : List S60), rs.Pairwise leS → (insV rs x).Pairwise leS
  | [], _ => by rw [ins_nil]; simp
  | y :: rs, h => by
    rw [List.pairwise_cons] at h
    rw [ins_cons]
    split
    · rename_i hy
      rw [List.pairwise_cons]
      refine ⟨fun s hs => ?_, ins_sorted x rs h.2⟩
      rcases (ins_mem x rs s).1 hs with rfl | hs
      · unfold ahB at hy; simp at hy; unfold leS; omega
      · exact h.1 s hs
    · rename_i hy
      have hxy : leS x y := by unfold ahB at hy; simp at hy; unfold leS; omega
      rw [List.pairwise_cons, List.pairwise_cons]
      refine ⟨fun s hs => ?_, h.1, h.2⟩
      rcases List.mem_cons.1 hs with rfl | hs
      · exact hxy
      · have := h.1 s hs; unfold leS at *; omega
theorem rise_law : ∀ (l rs : List S60), rs.Pairwise leS → (l.foldl insV rs).Pairwise leS ∧ ∀ s, s ∈ l.foldl insV rs ↔ s ∈ l ∨ s ∈ rs
  | [], rs, h => ⟨h, fun s => by simp⟩
  | x :: l, rs, h => by
    obtain ⟨h1, h2⟩ := rise_law l (insV rs x) (ins_sorted x rs h)
    refine ⟨h1, fun s => ?_⟩
    rw [List.foldl_cons, h2, ins_mem, List.mem_cons]
    constructor
    · rintro (h | h | h)
      · exact .inl (.inr h)
      · exact .inl (.inl h)
      · exact .inr h
    · rintro ((h | h) | h)
      · exact .inr (.inl h)
      · exact .inl h
      · exact .inr (.inr h)
def Sle (out : List S60) (x : S60) : Prop := ∀ s ∈ out, s.f0 < x.f0 ∨ (s.f0 = x.f0 ∧ s.f1 ≤ x.f1)
theorem merge_law {out : List S60} {x : S60} (hc : Can out) (ho : ∀ s ∈ out, okI s = true) (hx : okI x = true) (hs : Sle out x) :
    Can (mergeV out x) ∧ (∀ s ∈ mergeV out x, okI s = true) ∧ (∀ n q, HasP (mergeV out x) n q ↔ HasP out n q ∨ (x.f0 = n ∧ x.f1 ≤ q ∧ q ≤ x.f2)) ∧ Sle (mergeV out x) x := by
  have a2 := okI_spec hx
  unfold mergeV
  split
  · rename_i h
    obtain ⟨h0, h1, h2⟩ := h
    have e := init_last h0
    have hm := last_mem h0
    obtain ⟨la, hla⟩ : ∃ la, la = rd_T60 out ((out.length : Int) - 1) := ⟨_, rfl⟩
    rw [← hla] at e hm h1 h2 ⊢
    obtain ⟨I, hI⟩ : ∃ I, I = out.dropLast := ⟨_, rfl⟩
    rw [← hI] at e ⊢
    have a1 := okI_spec (ho la hm)
    have h3 : wrap64 (la.f2 + 1) = la.f2 + 1 := by unfold wrap64; omega
    rw [h3] at h2
    have h4 := hs la hm
    subst e
    refine ⟨can_longer hc (by omega), fun s hs' => ?_, fun n q => ?_, fun s hs' => ?_⟩
    · rcases List.mem_append.1 hs' with h | h
      · exact ho s (List.mem_append_left _ h)
      · rw [List.mem_singleton] at h
        subst h
        unfold okI
        simp
        omega
    · rw [has_app, has_app, has_cons, has_cons]
      simp only [has_nil, or_false]
      constructor
      · rintro (h | ⟨h5, h6, h7⟩)
        · exact .inl (.inl h)
        · have h7 : q ≤ max la.f2 x.f2 := h7
          by_cases hq : q ≤ la.f2
          · exact .inl (.inr ⟨h5, h6, hq⟩)
          · exact .inr ⟨by rw [← h1]; exact h5, by omega, by omega⟩
      · rintro ((h | ⟨h5, h6, h7⟩) | ⟨h5, h6, h7⟩)
        · exact .inl h
        · exact .inr ⟨h5, h6, by show q ≤ max la.f2 x.f2; omega⟩
        · exact .inr ⟨by rw [h1]; exact h5, by show la.f1 ≤ q; omega, by show q ≤ max la.f2 x.f2; omega⟩
    · rcases List.mem_append.1 hs' with h | h
      · exact hs s (List.mem_append_left _ h)
      · rw [List.mem_singleton] at h
        subst h
        exact h4
  · rename_i h
    refine ⟨?_, fun s hs' => ?_, fun n q => ?_, fun s hs' => ?_⟩
    · rw [can_app]
      refine ⟨hc, ⟨by omega, fun u hu => (by cases hu), trivial⟩, fun s hs' u hu => ?_⟩
      rw [List.mem_singleton] at hu
      subst hu
      have h0 : 0 < out.length := List.length_pos_of_mem hs'
      have e := init_last h0
      obtain ⟨la, hla⟩ : ∃ la, la = rd_T60 out ((out.length : Int) - 1) := ⟨_, rfl⟩
      have hm := last_mem h0
      rw [← hla] at e hm h
      have a1 := okI_spec (ho la hm)
      have h3 : wrap64 (la.f2 + 1) = la.f2 + 1 := by unfold wrap64; omega
      have key : Aft la u := by
        have := hs la hm
        unfold Aft
        rcases this with h4 | ⟨h4, h5⟩
        · exact .inl h4
        · right
          refine ⟨h4, ?_⟩
          have : ¬ u.f1 ≤ la.f2 + 1 := fun h6 => h ⟨h0, h4, by rw [h3]; exact h6⟩
          omega
      rw [e] at hs'
      rcases List.mem_append.1 hs' with hs' | hs'
      · have hc' := hc
        rw [e, can_app] at hc'
        exact aft_trans (hc'.2.2 s hs' la (List.mem_singleton_self _)) (can_mem hc hm) key
      · rw [List.mem_singleton.1 hs']; exact key
    · rcases List.mem_append.1 hs' with h | h
      · exact ho s h
      · rw [List.mem_singleton.1 h]; exact hx
    · rw [has_app, has_cons]
      simp [has_nil]
    · rcases List.mem_append.1 hs' with h | h
      · exact hs s h
      · rw [List.mem_singleton.1 h]; exact .inr ⟨rfl, Int.le_refl _⟩
theorem fold_law : ∀ (l out : List S60), Can out → (∀ s ∈ out, okI s = true) → (∀ s ∈ l, okI s = true) → l.Pairwise leS → (∀ x ∈ l, Sle out x) →
    Can (l.foldl mergeV out) ∧ (∀ s ∈ l.foldl mergeV out, okI s = true) ∧ (∀ n q, HasP (l.foldl mergeV out) n q ↔ HasP out n q ∨ HasP l n q)
  | [], out, h1, h2, _, _, _ => ⟨h1, h2, fun n q => by simp [has_nil]⟩
  | x :: l, out, h1, h2, h3, h4, h5 => by
    obtain ⟨c1, c2, c3, c4⟩ := merge_law h1 h2 (h3 x (List.mem_cons_self ..)) (h5 x (List.mem_cons_self ..))
    rw [List.pairwise_cons] at h4
    obtain ⟨d1, d2, d3⟩ := fold_law l (mergeV out x) c1 c2 (fun s hs => h3 s (List.mem_cons_of_mem _ hs)) h4.2 (fun y hy s hs => by
      have e1 := c4 s hs
      have e2 := h4.1 y hy
      unfold leS at e2
      omega)
    refine ⟨d1, d2, fun n q => ?_⟩
    rw [List.foldl_cons, d3, c3, has_cons, or_assoc]
theorem tidy_law (l : List S60) (h : ∀ s ∈ l, okI s = true) : Can (tidyL l) ∧ (∀ s ∈ tidyL l, okI s = true) ∧ ∀ n q, HasP (tidyL l) n q ↔ HasP l n q := by
  obtain ⟨h1, h2⟩ := rise_law l [] (by simp)
  have h2' : ∀ s, s ∈ riseV l ↔ s ∈ l := fun s => by unfold riseV; rw [h2]; simp
  obtain ⟨c1, c2, c3⟩ := fold_law (riseV l) [] trivial (fun s hs => by cases hs) (fun s hs => h s ((h2' s).1 hs)) h1 (fun x _ s hs => by cases hs)
  refine ⟨c1, c2, fun n q => ?_⟩
  unfold tidyL
  rw [c3]
  simp only [has_nil, false_or]
  unfold HasP
  constructor
  · rintro ⟨s, hs, hh⟩; exact ⟨s, (h2' s).1 hs, hh⟩
  · rintro ⟨s, hs, hh⟩; exact ⟨s, (h2' s).2 hs, hh⟩
end Go.Proofs.YtdelfhahbngcfaaX.P07
end
section
namespace Go.Proofs.YtdelfhahbngcfaaX.P07
open Go.RowKit Go.Sort Go.Lib Go.Proofs.YtdelfhahbngcfaaW.PrintWords Go.Proofs.YtdelfhahbngcfaaW.PrintLast Go.Proofs.YtdelfhahbngcfaaW.PrintMore
set_option linter.unusedVariables false
set_option linter.unusedSimpArgs false
def ltDot (x y : S41) : Prop := x.f0 < y.f0 ∨ (x.f0 = y.f0 ∧ x.f1 < y.f1)
def leDot (x y : S41) : Prop := x.f0 < y.f0 ∨ (x.f0 = y.f0 ∧ x.f1 ≤ y.f1)
theorem srt_pw (l : List S41) : (srt l).Pairwise leDot := by
  unfold srt
  have := List.pairwise_mergeSort (le := fun x y : S41 => !(ltOf ordD) y x) (fun a b c h1 h2 => by
    simp only [ltD, Bool.not_eq_true', decide_eq_false_iff_not] at *
    omega) (fun a b => by
    simp only [ltD, Bool.or_eq_true, Bool.not_eq_true', decide_eq_false_iff_not]
    omega) l
  refine this.imp ?_
  intro a b h
  simp only [ltD, Bool.not_eq_true', decide_eq_false_iff_not] at h
  unfold leDot
  omega
theorem srt_mem (l : List S41) (x : S41) : x ∈ srt l ↔ x ∈ l := by unfold srt; exact List.mem_mergeSort
theorem get_le {l : List S41} (h : l.Pairwise leDot) {i j : Nat} (hij : i < j) (hj : j < l.length) : leDot l[i] l[j] := by
  have := List.pairwise_iff_getElem.1 h i j (by omega) hj hij
  exact this
theorem arr_get (l : List S41) (i : Nat) (hi : i < l.length) : l.toArray[i]! = l[i] := by simp [hi]
theorem compact_law (l : List S41) (h : l.Pairwise leDot) : ∀ m, m ≤ l.length → (compactUpTo l.toArray m).Pairwise ltDot ∧ (∀ x, x ∈ compactUpTo l.toArray m ↔ ∃ j, ∃ hj : j < l.length, j < m ∧ l[j] = x)
  | 0, _ => by
    have e : compactUpTo l.toArray 0 = [] := rfl
    rw [e]
    exact ⟨List.Pairwise.nil, fun x => ⟨fun h => (by cases h), fun ⟨j, _, h, _⟩ => absurd h (Nat.not_lt_zero j)⟩⟩
  | m + 1, hm => by
    obtain ⟨h1, h2⟩ := compact_law l h m (by omega)
    rw [compactUpTo_succ]
    have hml : m < l.length := by omega
    rw [arr_get l m hml]
    cases hk : keeps l.toArray m with
    | true =>
      simp only [if_true]
      refine ⟨?_, fun x => ?_⟩
      · rw [List.pairwise_append]
        refine ⟨h1, List.pairwise_singleton _ _, fun x hx y hy => ?_⟩
        rw [List.mem_singleton] at hy
        subst hy
        obtain ⟨j, hj, hjm, rfl⟩ := (h2 x).1 hx
        unfold keeps at hk
        have hk := of_decide_eq_true hk
        have hm0 : m ≠ 0 := by omega
        have hne : l[m] ≠ l[m - 1] := by
          rcases hk with e | e
          · exact absurd e hm0
          · rw [arr_get l m hml, arr_get l (m - 1) (by omega)] at e; exact e
        have hle1 := get_le h (i := m - 1) (j := m) (by omega) hml
        have hle2 : leDot l[j] l[m - 1] := by
          by_cases e : j = m - 1
          · subst e; exact .inr ⟨rfl, Int.le_refl _⟩
          · exact get_le h (by omega) (by omega)
        have hlt : ltDot l[m - 1] l[m] := by
          unfold leDot at hle1
          unfold ltDot
          rcases hle1 with h3 | ⟨h3, h4⟩
          · exact .inl h3
          · by_cases e : l[m - 1].f1 = l[m].f1
            · exfalso
              apply hne
              have : ∀ a b : S41, a.f0 = b.f0 → a.f1 = b.f1 → b = a := fun a b h1 h2 => by cases a; cases b; simp_all
              exact this _ _ h3 e
            · exact .inr ⟨h3, by omega⟩
        unfold leDot at hle2
        unfold ltDot at hlt ⊢
        omega
      · rw [List.mem_append, List.mem_singleton, h2]
        constructor
        · rintro (⟨j, hj, hjm, e⟩ | e)
          · exact ⟨j, hj, by omega, e⟩
          · exact ⟨m, hml, by omega, e.symm⟩
        · rintro ⟨j, hj, hjm, e⟩
          by_cases hje : j = m
          · subst hje; exact .inr e.symm
          · exact .inl ⟨j, hj, by omega, e⟩
    | false =>
      simp only [Bool.false_eq_true, if_false, List.append_nil]
      refine ⟨h1, fun x => ?_⟩
      unfold keeps at hk
      have hk := of_decide_eq_false hk
      have hm0 : m ≠ 0 := fun e => hk (.inl e)
      have heq : l[m] = l[m - 1] := Classical.byContradiction fun e => hk (.inr (by rw [arr_get l m hml, arr_get l (m - 1) (by omega)]; exact e))
      rw [h2]
      constructor
      · rintro ⟨j, hj, hjm, e⟩; exact ⟨j, hj, by omega, e⟩
      · rintro ⟨j, hj, hjm, e⟩
        by_cases hje : j = m
        · subst hje; exact ⟨j - 1, by omega, by omega, by rw [← heq]; exact e⟩
        · exact ⟨j, hj, by omega, e⟩
theorem sort_law (l : List S41) : (sortV l).Pairwise ltDot ∧ ∀ x, x ∈ sortV l ↔ x ∈ l := by
  obtain ⟨h1, h2⟩ := compact_law (srt l) (srt_pw l) (srt l).length (Nat.le_refl _)
  refine ⟨h1, fun x => ?_⟩
  unfold sortV
  rw [h2, ← srt_mem, List.mem_iff_getElem]
  constructor
  · rintro ⟨j, hj, _, e⟩; exact ⟨j, hj, e⟩
  · rintro ⟨j, hj, e⟩; exact ⟨j, hj, hj, e⟩
end Go.Proofs.YtdelfhahbngcfaaX.P07
end
section
namespace Go.Proofs.YtdelfhahbngcfaaX.P07
open Go.RowKit Go.Proofs.YtdelfhahbngcfaaW.PrintWords Go.Proofs.YtdelfhahbngcfaaW.PrintLast Go.Proofs.YtdelfhahbngcfaaW.PrintMore
set_option linter.unusedVariables false
set_option linter.unusedSimpArgs false
section
variable {α β : Type} {f g : Nat → Option α} {r : α}
theorem ev_pos {c : Prop} [Decidable c] (hc : c) (h : Ev g r) : Ev (fun k => if c then g k else f k) r := Ev.congr (fun _ => if_pos hc) h
theorem ev_neg {c : Prop} [Decidable c] (hc : ¬ c) (h : Ev f r) : Ev (fun k => if c then g k else f k) r := Ev.congr (fun _ => if_neg hc) h
theorem ev_some {a : β} {f : Nat → β → Option α} (h : Ev (fun k => f k a) r) : Ev (fun k => (some a).bind (f k)) r := Ev.congr (fun _ => rfl) h
end
theorem w64 {a : Int} (h : -9223372036854775808 ≤ a ∧ a ≤ 9223372036854775807) : wrap64 a = a := by unfold wrap64; omega
instance : DecidableEq S60 := fun a b => decidable_of_iff (a.f0 = b.f0 ∧ a.f1 = b.f1 ∧ a.f2 = b.f2) (by cases a; cases b; simp)
theorem rd_at {l : List S60} {j : Nat} (h : j < l.length) : rd_T60 l (j : Int) = l[j] := by unfold rd_T60; simp [List.getD_eq_getElem?_getD, h]
theorem chk_step {l : List S60} {j : Nat} (hj : j < l.length) (h : chkTo l j) (h1 : okS60 l[j]) (h2 : ∀ p, 1 ≤ j → l[j - 1]? = some p → Aft p l[j]) : chkTo l (j + 1) := fun i s hi hs => by
  by_cases e : i = j
  · subst e
    have e2 : s = l[i] := by rw [List.getElem?_eq_getElem hj] at hs; exact (Option.some.inj hs).symm
    subst e2
    exact ⟨h1, h2⟩
  · exact h i s (by omega) hs
theorem chk_bad {l : List S60} {j : Nat} (hj : j < l.length) (h : ¬ (okS60 l[j] ∧ ∀ p, 1 ≤ j → l[j - 1]? = some p → Aft p l[j])) : ¬ chkTo l l.length := fun hc => h (hc j l[j] hj (List.getElem?_eq_getElem hj))
open Classical in
noncomputable def chkV (l : List S60) : Int := if Chk l then 0 else 2
open Classical in
theorem check_loop (l : List S60) (hl : l.length < 1000000) : ∀ (d j : Nat), j + d = l.length → chkTo l j → Ev (fun k => past_Check.l0 k l l (l.length : Int) (j : Int)) (if chkTo l l.length then 0 else 2)
  | 0, j, hj, hc => by
    obtain rfl : j = l.length := by omega
    rw [if_pos hc]
    refine Ev.step (fun _ => rfl) ?_
    simp only [past_Check.l0]
    exact ev_neg (by omega) (Ev.now 0)
  | d + 1, j, hj, hc => by
    have hjl : j < l.length := by omega
    have ih := check_loop l hl d (j + 1) (by omega)
    obtain ⟨x, hx⟩ : ∃ x, x = l[j] := ⟨_, rfl⟩
    have hrd : rd_T60 l (j : Int) = x := by rw [rd_at hjl, hx]
    have hw : wrap64 ((j : Int) + 1) = ((j + 1 : Nat) : Int) := w64 (by omega)
    have bad : okS60 x → ¬ (∀ p, 1 ≤ j → l[j - 1]? = some p → Aft p x) → ¬ chkTo l l.length := fun _ h => chk_bad hjl (by rw [← hx]; exact fun hh => h hh.2)
    have key : ∀ b : Bool, (b = true → ¬ okS60 x) → (b = false → okS60 x) → Ev (fun k => past_Check.j1 k l (j : Int) l (l.length : Int) (j : Int) b x.f0 x.f1 x.f2) (if chkTo l l.length then 0 else 2) := by
      intro b hb1 hb2
      cases b with
      | true =>
        rw [if_neg (chk_bad hjl (by rw [← hx]; exact fun hh => hb1 rfl hh.1))]
        refine Ev.step (fun _ => rfl) ?_
        simp only [past_Check.j1]
        first | exact ev_pos trivial (Ev.now 2) | exact Ev.now 2
      | false =>
        have hok := hb2 rfl
        refine Ev.step (fun _ => rfl) ?_
        simp only [past_Check.j1]
        refine ev_neg (by decide) ?_
        by_cases h0 : j = 0
        · refine ev_neg (by omega) ?_
          rw [hw]
          refine ih (chk_step hjl hc (by rw [← hx]; exact hok) (fun p h => by omega))
        · refine ev_pos (by omega) ?_
          have e1 : wrap64 ((j : Int) - 1) = ((j - 1 : Nat) : Int) := by rw [w64 (by omega)]; omega
          have hp : j - 1 < l.length := by omega
          have hrp : rd_T60 l ((j - 1 : Nat) : Int) = l[j - 1] := rd_at hp
          have hpk := (hc (j - 1) l[j - 1] (by omega) (List.getElem?_eq_getElem hp)).1
          obtain ⟨p, hpe⟩ : ∃ p, p = l[j - 1] := ⟨_, rfl⟩
          rw [← hpe] at hrp hpk
          have hpo : l[j - 1]? = some p := by rw [hpe]; exact List.getElem?_eq_getElem hp
          rw [e1, hrp]
          have e2 : wrap64 (p.f2 + 1) = p.f2 + 1 := w64 (by unfold okS60 at hpk; omega)
          rw [e2]
          have nb : ¬ Aft p x → Ev (fun _ : Nat => some (2 : Int)) (if chkTo l l.length then 0 else 2) := fun h => by
            rw [if_neg (bad hok (fun hh => h (hh p (by omega) hpo)))]
            exact Ev.now 2
          have go : Aft p x → Ev (fun k => past_Check.l0 k l l (l.length : Int) (wrap64 ((j : Int) + 1))) (if chkTo l l.length then 0 else 2) := fun h => by
            rw [hw]
            exact ih (chk_step hjl hc (by rw [← hx]; exact hok) (fun p' _ hp' => by
              rw [hpo] at hp'
              obtain rfl := Option.some.inj hp'
              rw [← hx]; exact h))
          refine ev_pos (by omega) (ev_pos (by omega) ?_)
          unfold Aft at nb go
          by_cases h1 : x.f0 < p.f0
          · exact ev_pos h1 (nb (by omega))
          refine ev_neg h1 ?_
          by_cases h2 : x.f0 = p.f0
          · refine ev_pos h2 ?_
            by_cases h3 : x.f1 ≤ p.f2 + 1
            · exact ev_pos h3 (nb (by omega))
            · exact ev_neg h3 (go (by omega))
          · exact ev_neg h2 (go (by omega))
    refine Ev.step (fun _ => rfl) ?_
    simp only [past_Check.l0]
    rw [hrd]
    refine ev_pos (by omega) (ev_pos (by omega) (ev_pos (by omega) ?_))
    by_cases h1 : x.f0 < 1
    · exact ev_pos h1 (key true (fun _ h => by unfold okS60 at h; omega) (fun h => by cases h))
    refine ev_neg h1 ?_
    by_cases h2 : x.f0 > 200
    · exact ev_pos h2 (key true (fun _ h => by unfold okS60 at h; omega) (fun h => by cases h))
    refine ev_neg h2 ?_
    by_cases h3 : x.f1 < 1
    · exact ev_pos h3 (key true (fun _ h => by unfold okS60 at h; omega) (fun h => by cases h))
    refine ev_neg h3 ?_
    by_cases h4 : x.f1 > x.f2
    · exact ev_pos h4 (key true (fun _ h => by unfold okS60 at h; omega) (fun h => by cases h))
    refine ev_neg h4 ?_
    exact key _ (fun h hh => by have := of_decide_eq_true h; unfold okS60 at hh; omega) (fun h => by have := of_decide_eq_false h; unfold okS60; omega)
open Classical in
theorem check_ev (l : List S60) (hl : l.length < 1000000) : Ev (fun k => past_Check.f k l) (chkV l) := by
  unfold past_Check.f chkV
  by_cases h : (l.length : Int) > 4000
  · rw [if_neg (fun hc : Chk l => by have := hc.1; omega)]
    exact ev_pos h (Ev.now 2)
  · refine ev_neg h ?_
    have := check_loop l hl l.length 0 (by omega) (fun i s hi => absurd hi (by omega))
    have e : Chk l ↔ chkTo l l.length := ⟨fun h => h.2, fun hh => ⟨by omega, hh⟩⟩
    by_cases hc : chkTo l l.length
    · rw [if_pos hc] at this
      rw [if_pos (e.2 hc)]
      exact this
    · rw [if_neg hc] at this
      rw [if_neg (fun h => hc (e.1 h))]
      exact this
open Classical in
theorem rcheck_loop (l : List S60) (hl : l.length < 1000000) : ∀ (d j : Nat), j + d = l.length → chkTo l j → Ev (fun k => tributaryref07_Check.l0 k l (j : Int)) (if chkTo l l.length then 0 else 2)
  | 0, j, hj, hc => by
    obtain rfl : j = l.length := by omega
    rw [if_pos hc]
    refine Ev.step (fun _ => rfl) ?_
    simp only [tributaryref07_Check.l0]
    exact ev_neg (by omega) (Ev.now 0)
  | d + 1, j, hj, hc => by
    have hjl : j < l.length := by omega
    have ih := rcheck_loop l hl d (j + 1) (by omega)
    obtain ⟨x, hx⟩ : ∃ x, x = l[j] := ⟨_, rfl⟩
    have hrd : rd_T60 l (j : Int) = x := by rw [rd_at hjl, hx]
    have hw : wrap64 ((j : Int) + 1) = ((j + 1 : Nat) : Int) := w64 (by omega)
    have bad : okS60 x → ¬ (∀ p, 1 ≤ j → l[j - 1]? = some p → Aft p x) → ¬ chkTo l l.length := fun _ h => chk_bad hjl (by rw [← hx]; exact fun hh => h hh.2)
    have key : ∀ b : Bool, (b = true → ¬ okS60 x) → (b = false → okS60 x) → Ev (fun k => tributaryref07_Check.j1 k l (j : Int) b x.f0 x.f1 x.f2) (if chkTo l l.length then 0 else 2) := by
      intro b hb1 hb2
      cases b with
      | true =>
        rw [if_neg (chk_bad hjl (by rw [← hx]; exact fun hh => hb1 rfl hh.1))]
        refine Ev.step (fun _ => rfl) ?_
        simp only [tributaryref07_Check.j1]
        first | exact ev_pos trivial (Ev.now 2) | exact Ev.now 2
      | false =>
        have hok := hb2 rfl
        refine Ev.step (fun _ => rfl) ?_
        simp only [tributaryref07_Check.j1]
        refine ev_neg (by decide) ?_
        by_cases h0 : j = 0
        · refine ev_neg (by omega) ?_
          rw [hw]
          refine ih (chk_step hjl hc (by rw [← hx]; exact hok) (fun p h => by omega))
        · refine ev_pos (by omega) ?_
          have e1 : wrap64 ((j : Int) - 1) = ((j - 1 : Nat) : Int) := by rw [w64 (by omega)]; omega
          have hp : j - 1 < l.length := by omega
          have hrp : rd_T60 l ((j - 1 : Nat) : Int) = l[j - 1] := rd_at hp
          have hpk := (hc (j - 1) l[j - 1] (by omega) (List.getElem?_eq_getElem hp)).1
          obtain ⟨p, hpe⟩ : ∃ p, p = l[j - 1] := ⟨_, rfl⟩
          rw [← hpe] at hrp hpk
          have hpo : l[j - 1]? = some p := by rw [hpe]; exact List.getElem?_eq_getElem hp
          rw [e1, hrp]
          have e2 : wrap64 (p.f2 + 1) = p.f2 + 1 := w64 (by unfold okS60 at hpk; omega)
          rw [e2]
          have nb : ¬ Aft p x → Ev (fun _ : Nat => some (2 : Int)) (if chkTo l l.length then 0 else 2) := fun h => by
            rw [if_neg (bad hok (fun hh => h (hh p (by omega) hpo)))]
            exact Ev.now 2
          have go : Aft p x → Ev (fun k => tributaryref07_Check.l0 k l (wrap64 ((j : Int) + 1))) (if chkTo l l.length then 0 else 2) := fun h => by
            rw [hw]
            exact ih (chk_step hjl hc (by rw [← hx]; exact hok) (fun p' _ hp' => by
              rw [hpo] at hp'
              obtain rfl := Option.some.inj hp'
              rw [← hx]; exact h))
          refine ev_pos (by omega) (ev_pos (by omega) ?_)
          unfold Aft at nb go
          by_cases h1 : x.f0 < p.f0
          · exact ev_pos h1 (nb (by omega))
          refine ev_neg h1 ?_
          by_cases h2 : x.f0 = p.f0
          · refine ev_pos h2 ?_
            by_cases h3 : x.f1 ≤ p.f2 + 1
            · exact ev_pos h3 (nb (by omega))
            · exact ev_neg h3 (go (by omega))
          · exact ev_neg h2 (go (by omega))
    refine Ev.step (fun _ => rfl) ?_
    simp only [tributaryref07_Check.l0]
    rw [hrd]
    refine ev_pos (by omega) (ev_pos (by omega) ?_)
    by_cases h1 : x.f0 < 1
    · exact ev_pos h1 (key true (fun _ h => by unfold okS60 at h; omega) (fun h => by cases h))
    refine ev_neg h1 ?_
    by_cases h2 : x.f0 > 200
    · exact ev_pos h2 (key true (fun _ h => by unfold okS60 at h; omega) (fun h => by cases h))
    refine ev_neg h2 ?_
    by_cases h3 : x.f1 < 1
    · exact ev_pos h3 (key true (fun _ h => by unfold okS60 at h; omega) (fun h => by cases h))
    refine ev_neg h3 ?_
    by_cases h4 : x.f1 > x.f2
    · exact ev_pos h4 (key true (fun _ h => by unfold okS60 at h; omega) (fun h => by cases h))
    refine ev_neg h4 ?_
    exact key _ (fun h hh => by have := of_decide_eq_true h; unfold okS60 at hh; omega) (fun h => by have := of_decide_eq_false h; unfold okS60; omega)
open Classical in
theorem rcheck_ev (l : List S60) (hl : l.length < 1000000) : Ev (fun k => tributaryref07_Check.f k l) (chkV l) := by
  unfold tributaryref07_Check.f chkV
  by_cases h : (l.length : Int) > 4000
  · rw [if_neg (fun hc : Chk l => by have := hc.1; omega)]
    exact ev_pos h (Ev.now 2)
  · refine ev_neg h ?_
    have := rcheck_loop l hl l.length 0 (by omega) (fun i s hi => absurd hi (by omega))
    have e : Chk l ↔ chkTo l l.length := ⟨fun h => h.2, fun hh => ⟨by omega, hh⟩⟩
    by_cases hc : chkTo l l.length
    · rw [if_pos hc] at this
      rw [if_pos (e.2 hc)]
      exact this
    · rw [if_neg hc] at this
      rw [if_neg (fun h => hc (e.1 h))]
      exact this
theorem same_loop (a b : List S60) (hab : a.length = b.length) (hl : a.length < 1000000) : ∀ (d j : Nat), j + d = a.length → Ev (fun k => tributarykit_SameSpans.l0 k a b (j : Int)) (decide (a.drop j = b.drop j))
  | 0, j, hj => by
    rw [List.drop_of_length_le (by omega), List.drop_of_length_le (by omega)]
    refine Ev.step (fun _ => rfl) ?_
    simp only [tributarykit_SameSpans.l0]
    exact ev_neg (by omega) (by simpa using Ev.now true)
  | d + 1, j, hj => by
    have h1 : j < a.length := by omega
    have h2 : j < b.length := by omega
    have ih := same_loop a b hab hl d (j + 1) (by omega)
    refine Ev.step (fun _ => rfl) ?_
    simp only [tributarykit_SameSpans.l0]
    refine ev_pos (by omega) (ev_pos (by omega) (ev_pos (by omega) ?_))
    rw [rd_at h1, rd_at h2, w64 (by omega : -9223372036854775808 ≤ (j : Int) + 1 ∧ (j : Int) + 1 ≤ 9223372036854775807), show (j : Int) + 1 = ((j + 1 : Nat) : Int) by omega]
    have e : (a.drop j = b.drop j) ↔ (a[j] = b[j] ∧ a.drop (j + 1) = b.drop (j + 1)) := by
      rw [List.drop_eq_getElem_cons h1, List.drop_eq_getElem_cons h2, List.cons.injEq]
    have eq60 : ∀ x y : S60, (!(x.f0 == y.f0) || (!(x.f1 == y.f1) || (!(x.f2 == y.f2)))) = true ↔ ¬ x = y := by
      intro x y
      cases x; cases y
      simp only [S60.mk.injEq]
      simp
      omega
    by_cases hx : a[j] = b[j]
    · refine ev_neg (fun h => (eq60 _ _).1 h hx) ?_
      have : decide (a.drop j = b.drop j) = decide (a.drop (j + 1) = b.drop (j + 1)) := by
        rw [decide_eq_decide, e]; simp [hx]
      rw [this]; exact ih
    · refine ev_pos ((eq60 _ _).2 hx) ?_
      have : decide (a.drop j = b.drop j) = false := by rw [decide_eq_false_iff_not, e]; exact fun h => hx h.1
      rw [this]; exact Ev.now false
theorem same_ev (a b : List S60) (hl : a.length < 1000000) : Ev (fun k => tributarykit_SameSpans.f k a b) (decide (a = b)) := by
  unfold tributarykit_SameSpans.f
  by_cases h : a.length = b.length
  · refine ev_pos (by omega) ?_
    have := same_loop a b h hl a.length 0 (by omega)
    simpa using this
  · refine ev_neg (by omega) ?_
    have : decide (a = b) = false := by rw [decide_eq_false_iff_not]; exact fun e => h (by rw [e])
    rw [this]; exact Ev.now false
theorem copy_eq (l : List S60) (hl : l.length < 1000000) : tributarykit_CopySpans.f l = some l := by
  unfold tributarykit_CopySpans.f
  rw [Option.bind_some, if_pos (by simp; omega)]
  simp
end Go.Proofs.YtdelfhahbngcfaaX.P07
end
