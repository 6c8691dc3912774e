/- Walk of turn: what happens at the second end, when its packets go into the air. Conditions: the world is as turns make it. -/
import Derived.Test.YtadcahnoghnkcaaB33
namespace Go.Proofs.Ytadcahnoghnkcaa
open Go.RowKit
set_option linter.unusedVariables false
set_option linter.unusedSimpArgs false
attribute [local go_sem] Oper.semAt_some

/-- what the loop keeps -/
def TurnI1 (w w1 : World) (B : Nat) (T T2 : Nat → Nat) (M : Nat) (P : Bool → Nat) (W : Wd) (X : Nat) (tc : Array Value) (a : Ab) (L : List Pk) (k : Nat) (V : World) : Prop :=
  ∃ Tk xk, TS w V B T Tk M P xk { W with e := bset W.e true a, air := W.air ++ (L.take k).map (fun p => (p, !true)) } X tc ∧ Ch (Held2 T2) w1 V ∧ Agr w1.heap.size T2 Tk
theorem turnI1_step {w w1 V V1 V2 : World} {B : Nat} {T T2 Tk : Nat → Nat} {M : Nat} {P : Bool → Nat} {xk : Ws} {W : Wd} {X : Nat} {tc : Array Value} {a : Ab} {L : List Pk} {k : Nat} {p : Pk} {A : Option Addr} {n c m : Nat} {v : Value} (hp : L[k]? = some p)
    (h : TS w V B T Tk M P xk { W with e := bset W.e true a, air := W.air ++ (L.take k).map (fun p => (p, !true)) } X tc) (hc1 : Ch (Held2 T2) w1 V) (hA : Agr w1.heap.size T2 Tk) (hcV : Ch No V V1) (hh : Held V 0 A n c p.l) (ht : ∀ b, A = some b → Tk b.block = 1) (hm : m = xk.fs.length)
    (hown : V2.ownsRow 0 81 6 v (m + 1) (xk.fs.flatMap flCells ++ flCells ((p, !true), A, n, c))) (hc : Ch (fun k => xk.va.ownBlock = some k) V1 V2) (hat : v.ownBlock = xk.va.ownBlock ∨ ∃ q, v.ownBlock = some q ∧ V1.heap.size ≤ q) :
    TurnI1 w w1 B T T2 M P W X tc a L (k + 1) (V2.setCell ⟨B, 2, none⟩ v) := by
  have hk : k < L.length := (List.getElem?_eq_some_iff.1 hp).1
  have he : L[k]'hk = p := (List.getElem?_eq_some_iff.1 hp).2
  obtain ⟨T', x', hT', h'⟩ := ts_air (f := ((p, !true), A, n, c)) h hcV ⟨hh, ht⟩ hm hown hc hat
  refine ⟨T', x', ?_, ?_, agr_trans hA hT' hc1.size⟩
  · have e1 : W.air ++ (L.take (k + 1)).map (fun p => (p, !true)) = (W.air ++ (L.take k).map (fun p => (p, !true))) ++ [(p, !true)] := by
      rw [List.take_succ_eq_append_getElem hk, he, List.map_append, List.append_assoc]
      rfl
    rw [e1]
    exact h'
  · refine ch_held2 (ch_held2 (ch_held2 hc1 hA hcV (fun _ e => e.elim)) hA (S := fun k => xk.va.ownBlock = some k) (hc) (fun q hq => ?_)) hA (Ch.setCell V2 ⟨B, 2, none⟩ v) (fun q hq => ?_)
    · rw [h.wd.air.row q hq]; omega
    · rw [hq, show Tk B = 4 from h.wd.tag]; omega
set_option maxRecDepth 100000 in
set_option maxHeartbeats 8000000 in
theorem turn1k2 {w : World} {B : Nat} {T : Nat → Nat} {M : Nat} {x : Ws} {W : Wd} (h : WdI w B T M x W) (hM : M ≤ 400000) (hF : Fit W) (u : Tu) (hu : u.o = true) (hr : Rd w u.M u.m u.d 1 (u8s u.l)) (hm : u.m ≤ 400) (hT0 : ∀ b, u.M = some b → 0 < u.m → T b.block = 0 ∧ b.block < w.heap.size) (hk : u.k = 2) :
    Calls Try.prog 25 #[.pointer (some ⟨B, 0, none⟩), .agg #[.int .i64 u.k, .int .i64 u.wh, .bool u.o, .slice u.M u.m u.d]] w (StepQ w B T (M + 8) x.P (W.turn u)) := by
  obtain ⟨uk, uwh, uo, uM, um, ud, ul⟩ := u
  simp only at hu hr hm hT0 hk
  subst hu
  have HT1 := agr_ext T w.heap.size (fun _ => 0)
  obtain ⟨T1, hT1⟩ : ∃ T1, T1 = ext T w.heap.size (fun _ => 0) := ⟨_, rfl⟩
  have hz1 : ∀ k, w.heap.size ≤ k → T1 k = 0 := fun k hk => by rw [hT1]; exact ext_new _ _ _ hk
  rw [← hT1] at HT1
  have hb1 : Below w.heap.size w (w.alloc (.cells (Tu.cells (⟨uk, uwh, true, uM, um, ud, ul⟩ : Tu)).toArray 50)) := (Below.refl _ w).alloc (Nat.le_refl _) _
  have hX := blk_new w 50 (Tu.cells (⟨uk, uwh, true, uM, um, ud, ul⟩ : Tu)).toArray
  obtain ⟨W1, hW1⟩ : ∃ W1, W1 = w.alloc (.cells (Tu.cells (⟨uk, uwh, true, uM, um, ud, ul⟩ : Tu)).toArray 50) := ⟨_, rfl⟩
  rw [← hW1] at hb1 hX
  have HR1 := Lib.hid (hr.below hb1)
  have hs1 : TS w W1 B T T1 M x.P x W w.heap.size (Tu.cells (⟨uk, uwh, true, uM, um, ud, ul⟩ : Tu)).toArray := ⟨h.below hb1 HT1, rfl, Ch.of_below hb1 _, HT1, hX, hz1 _ (Nat.le_refl _)⟩
  have rI : (w.alloc (.cells #[.int .i64 uk, .int .i64 uwh, .bool true, .slice uM um ud] 50)).cell? ⟨B, 1, none⟩ = some (.pointer (some ⟨x.P true, 0, none⟩)) := by rw [show (w.alloc (.cells #[.int .i64 uk, .int .i64 uwh, .bool true, .slice uM um ud] 50)) = W1 from hW1.symm]; exact (wdi_cell hs1.wd).1 true
  have HS1 := Lib.hid hs1; have HW1 := Lib.hid hW1; have HZ1 := Lib.hid hz1; have HF := Lib.hid hF; have HMM := Lib.hid hM; have HM4 := Lib.hid hm
  have HL := Lib.hid (show ul.length = um from by have := hr.len; simpa using this)
  have HT0 := Lib.hid (show ∀ b, uM = some b → 0 < um → T1 b.block = 0 from fun b hb h0 => (HT1 _ (hT0 b hb h0).2).trans (hT0 b hb h0).1)
  clear h hT0 HT1 hT1 hz1 hb1 hX hW1 hs1 hF hM hr hm
  have g0 : (uk == 0) = false := by simp; omega
  have g1 : (uk == 1) = false := by simp; omega
  have g2 : (uk == 2) = true := by simp; omega
  have HE := Lib.hid (show W.turn (⟨uk, uwh, true, uM, um, ud, ul⟩ : Tu) = W.out true from by unfold Wd.turn; dsimp only; rw [if_neg (by omega), if_neg (by omega), if_pos hk])
  clear hk
  go_enter Try.func25, Try.ntmps25
  go_wp2_with fail
  rw [show (w.alloc (.cells #[.int .i64 uk, .int .i64 uwh, .bool true, .slice uM um ud] 50)) = W1 from HW1.out.symm]
  obtain ⟨X, hX⟩ : ∃ X, X = w.heap.size := ⟨_, rfl⟩
  rw [← hX] at HS1 ⊢
  clear hX rI HW1
  obtain ⟨T0, hT0d⟩ : ∃ T', T' = ext T1 W1.heap.size (fun _ => 0) := ⟨_, rfl⟩
  refine (outA ((HS1.out.wd.ends true).retag (show Agr W1.heap.size T1 T0 from by rw [hT0d]; exact agr_ext _ _ _)) (HF.out.ep true) (by have := HMM.out; omega)).mono ?_
  rintro e w1 ⟨v, ps, rfl, hs, hpk, hmap, hc⟩
  obtain ⟨T2, hS2, hlow, hbod⟩ := ts_out HS1.out true hT0d hs hc hpk
  obtain ⟨A, c, rfl, hrd, hlt⟩ := own_form hpk.own
  have hz1 := hc.size
  have hcap := hrd.cap
  have hbig := hrd.big
  have hpl : ps.length ≤ 8 := by
    have h9 := congrArg List.length hmap
    rw [List.length_map] at h9
    have h8 := outP_len (W.e true) (HS1.out.wd.ends true).q8
    omega
  obtain ⟨N, hN⟩ : ∃ N, N = ps.length := ⟨_, rfl⟩
  rw [← hN] at hpk hcap hpl ⊢
  have HI0 : Hid (TurnI1 w w1 B T T2 M x.P W X (Tu.cells (⟨uk, uwh, true, uM, um, ud, ul⟩ : Tu)).toArray (W.e true).out (ps.map (·.1)) 0 w1) := Lib.hid ⟨T2, x, by rw [List.take_zero, List.map_nil, List.append_nil]; exact hS2, Ch.refl _ _, agr_refl _ _⟩
  have HPK := Lib.hid hpk; have HMAP := Lib.hid hmap; have HNN := Lib.hid hN; have HLOW := Lib.hid hlow; have HBOD := Lib.hid hbod; have HZ := Lib.hid hz1; have HBIG := Lib.hid hbig; have HCAP := Lib.hid hcap
  have hair := HF.out.air
  clear hs hpk hmap hc hrd hlt hN hS2 hlow hbod hT0d hz1 HS1 hbig
  go_wp2_with fail
  go_loopw [6] (fun i wr => ∃ k : Nat, k ≤ N ∧ W.air.length + k ≤ 200 ∧ i = .int .i64 k ∧ Hid (TurnI1 w w1 B T T2 M x.P W X (Tu.cells (⟨uk, uwh, true, uM, um, ud, ul⟩ : Tu)).toArray (W.e true).out (ps.map (·.1)) k wr)) (fun i _ => N - (intOf i).toNat)
  case atStart => exact ⟨0, Nat.zero_le _, by omega, rfl, HI0⟩
  case round =>
    clear HI0
    obtain ⟨k, hk, hka, rfl, HI⟩ := hrel
    obtain ⟨Tk, xk, hTS, hcw, hAg⟩ := HI.out
    obtain ⟨Aa, ca, hva, hra, _⟩ := own_form hTS.wd.air.own
    obtain ⟨na, hna⟩ : ∃ q, q = xk.fs.length := ⟨_, rfl⟩
    rw [← hna] at hva hra
    have hnk : na = W.air.length + k := by
      have h9 := congrArg List.length hTS.wd.airl
      rw [List.length_map, List.length_append, List.length_map, List.length_take, List.length_map, ← hna, ← HNN.out] at h9
      omega
    have q0 : wr.cell? ⟨B, 2, none⟩ = some (.slice Aa na ca) := by rw [← hva]; exact (wdi_cell hTS.wd).2.1
    have qz := (wdi_cell hTS.wd).2.2.2.2 2
    have hac := hra.cap
    have hab := hra.big
    have HTS := Lib.hid hTS; have HCW := Lib.hid hcw; have HAG := Lib.hid hAg; have HVA := Lib.hid hva; have HNA := Lib.hid hna; have HAB := Lib.hid hab; have HNK := Lib.hid hnk
    have HRA := Lib.hid (show wr.ownsRow 0 81 6 (.slice Aa na ca) na (xk.fs.flatMap flCells) from by rw [← hva, hna]; exact hTS.wd.air.own)
    clear hTS hcw hAg hva hna hra hab hnk
    by_cases hlt : k < N
    · have glt : decide ((k : Int) < (N : Int)) = true := by simp; omega
      by_cases h200 : W.air.length + k < 200
      · have g200 : decide ((na : Int) < 200) = true := by have := HNK.out; simp; omega
        obtain ⟨g, cv, hv, _, hcv, _⟩ := own_row HPK.out.own (own_some HPK.out.own (by rw [← HNN.out]; omega))
        injection hv with hv1 hv2 hv3
        subst hv1
        have hlow2 : ∀ q, W1.heap.size ≤ q → q < w1.heap.size → ¬ Held2 T2 q := fun q h1 h2 e => by have h3 := HLOW.out q h1; have h4 : 2 ≤ T2 q := e; omega
        obtain ⟨q, hq, c0, c1, c2, c3, c4, hh⟩ := packs_get (packs_ch HPK.out HCW.out hlow2) (k := k) (by rw [← HNN.out]; exact hlt)
        obtain ⟨⟨fr, to, nu, ac, l⟩, A1, n1, d1⟩ := q
        simp only at c0 c1 c2 c3 c4 hh
        have HH := Lib.hid (held_base (mid := 0) hh (fun _ _ => Nat.zero_le _))
        have HPS := Lib.hid (show (ps.map (·.1))[k]? = some ⟨fr, to, nu, ac, l⟩ from by rw [List.getElem?_map, hq]; rfl)
        have HTB := Lib.hid (show ∀ b, A1 = some b → Tk b.block = 1 from fun b hb => by
          obtain ⟨q', hq', _, _, _, _, _, hh'⟩ := packs_get HPK.out (k := k) (by rw [← HNN.out]; exact hlt)
          rw [hq] at hq'
          injection hq' with hq'
          subst hq'
          rw [HAG.out _ (held_lt hh' b hb).2]
          exact HBOD.out _ (List.mem_of_getElem? hq) b hb)
        have hal : Below wr.heap.size wr (wr.alloc (.cells #[.int .i64 fr, .int .i64 to, .int .i64 nu, .int .i64 ac, .slice A1 n1 d1, .bool false] 81)) := (Below.refl _ _).alloc (Nat.le_refl _) _
        have q1 := below_cell hal q0
        have e0 := below_cell hal c0
        have e1 := below_cell hal c1
        have e2 := below_cell hal c2
        have e3 := below_cell hal c3
        have e4 := below_cell hal c4
        have HCA := Lib.hid (show Ch No wr (wr.alloc (.cells #[.int .i64 fr, .int .i64 to, .int .i64 nu, .int .i64 ac, .slice A1 n1 d1, .bool false] 81)).drew from (Ch.of_below hal No).trans (Ch.drew _ No) (fun _ h => h.elim))
        have HRL := Lib.hid (show Rd (wr.alloc (.cells #[.int .i64 fr, .int .i64 to, .int .i64 nu, .int .i64 ac, .slice A1 n1 d1, .bool false] 81)).drew (some ⟨wr.heap.size, 0, none⟩) 1 1 6 (flCells ((⟨fr, to, nu, ac, l⟩, false), A1, n1, d1)) from (rd_lit wr (flCells ((⟨fr, to, nu, ac, l⟩, false), A1, n1, d1)).toArray 81 1 6 rfl (by decide)).ch (Ch.drew _ No) (fun _ _ => id))
        have hna5 : na ≤ 200 := by have := HNK.out; omega
        have HBW := Lib.hid (show ∀ q, (Value.slice Aa na ca).ownBlock = some q → q ≠ B from fun q hq e => by
          rw [← HVA.out] at hq
          have h9 := HTS.out.wd.air.row q hq
          rw [e, HTS.out.wd.tag] at h9; cases h9)
        have hcv' : N ≤ c := HCAP.out
        clear hh hq hal hv2 hv3 hcv hlow2 HI
        go_wp2_with fail
        apply join3 (fun (A3 : Option Addr) (cq : Nat) (V2 : World) => V2.ownsRow 0 81 6 (.slice A3 (na + 1) cq) (na + 1) (xk.fs.flatMap flCells ++ flCells ((⟨fr, to, nu, ac, l⟩, false), A1, n1, d1)) ∧ Ch (fun q => (Value.slice Aa na ca).ownBlock = some q) (wr.alloc (.cells #[.int .i64 fr, .int .i64 to, .int .i64 nu, .int .i64 ac, .slice A1 n1 d1, .bool false] 81)).drew V2 ∧ ((Value.slice A3 (na + 1) cq).ownBlock = (Value.slice Aa na ca).ownBlock ∨ (Value.slice A3 (na + 1) cq).ownBlock = some (wr.alloc (.cells #[.int .i64 fr, .int .i64 to, .int .i64 nu, .int .i64 ac, .slice A1 n1 d1, .bool false] 81)).drew.heap.size))
        · intro HC
          go_region_law (first
            | (refine step_app_own (wr.alloc (.cells #[.int .i64 fr, .int .i64 to, .int .i64 nu, .int .i64 ac, .slice A1 n1 d1, .bool false] 81)).drew rfl (.tmp 75) (.tmp 83) 43 rfl 0 81 _ 6 64 Try.underlying43 info81 rfl (by decide) (.slice Aa na ca) na (xk.fs.flatMap flCells) (by simp [Act.eval, Act.put]) (own_ch HRA.out HCA.out (fun _ _ => id)) (some ⟨wr.heap.size, 0, none⟩) 1 1 (flCells ((⟨fr, to, nu, ac, l⟩, false), A1, n1, d1)) (by simp [Act.eval, Act.put]) HRL.out (by intro z hz; simp only [flCells, List.mem_cons, List.not_mem_nil, or_false] at hz; rcases hz with rfl | rfl | rfl | rfl | rfl | rfl <;> rfl) (by simp [maxLen]; omega) (by omega) (Nat.zero_le _) ?_; intro v2 V2 hown2 hch2 hat2; obtain ⟨A3, cq, rfl, -, -⟩ := own_form hown2; have q4 : V2.cell? ⟨B, 2, none⟩ = some (.slice Aa na ca) := ch_cell hch2 (show (wr.alloc (.cells #[.int .i64 fr, .int .i64 to, .int .i64 nu, .int .i64 ac, .slice A1 n1 d1, .bool false] 81)).drew.cell? _ = _ from q1) (fun e => HBW.out _ e rfl); have q5 : V2.frozen? ⟨B, 2, none⟩ = false := blk_thawed (blk_ch (blk_ch HTS.out.wd.mem HCA.out id) hch2 (fun e => HBW.out _ e rfl)) 2))
          all_goals exact HC A3 cq V2 ⟨hown2, hch2, hat2⟩
        · intro A3 cq V2 hJ
          obtain ⟨hown2, hch2, hat2⟩ := hJ
          have HIN := Lib.hid (turnI1_step HPS.out HTS.out HCW.out HAG.out HCA.out HH.out HTB.out HNA.out hown2 (by rw [HVA.out]; exact hch2) (by rw [HVA.out]; exact hat2.imp id (fun e => ⟨_, e, Nat.le_refl _⟩)))
          clear hown2 hch2 hat2 q0 q1 c0 c1 c2 c3 c4 e0 e1 e2 e3 e4
          go_wp2
          go_roundw
          case rel => exact ⟨k + 1, by omega, by omega, by go_num, HIN⟩
          case measure => simp [intOf]; omega
      · have g200 : decide ((na : Int) < 200) = false := by have := HNK.out; simp; omega
        have HFIN := Lib.hid (ts_step HTS.out (show W.turn (⟨uk, uwh, true, uM, um, ud, ul⟩ : Tu) = _ from HE.out.trans (by unfold Wd.out; rw [show (W.e true).outP = ps.map (·.1) from HMAP.out.symm, show 200 - W.air.length = k by omega])) (show M ≤ M + 8 by omega))
        clear HTS HI
        go_wp2
        exact bodyPost_end (results_none rfl _ _ _) rfl HFIN.out
    · have glt : decide ((k : Int) < (N : Int)) = false := by simp; omega
      have hkN : k = N := by omega
      have HFIN := Lib.hid (ts_step HTS.out (show W.turn (⟨uk, uwh, true, uM, um, ud, ul⟩ : Tu) = _ from HE.out.trans (by unfold Wd.out; rw [show (W.e true).outP = ps.map (·.1) from HMAP.out.symm, List.take_of_length_le (l := ps.map (·.1)) (by rw [List.length_map, ← HNN.out]; omega), List.take_of_length_le (l := ps.map (·.1)) (by rw [List.length_map, ← HNN.out]; omega)])) (show M ≤ M + 8 by omega))
      clear HTS HI
      go_wp2
      exact bodyPost_end (results_none rfl _ _ _) rfl HFIN.out
end Go.Proofs.Ytadcahnoghnkcaa
