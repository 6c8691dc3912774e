/- Words for SessionTurns: an end that begins anew; SameLists beside a row that is only read. No conditions. -/
import Derived.Test.YtadcahnoghnkcaaB42
namespace Go.Proofs.Ytadcahnoghnkcaa
open Go.RowKit
set_option linter.unusedVariables false
set_option linter.unusedSimpArgs false

def zNew : Ab := ⟨9, 0, [], 1, 0, true, [], 0⟩
def zMet (b : Bool) : Ab := ⟨9, 4, [], 1, 0, b, [], 1⟩
def yMet (b : Bool) : Ab := ⟨4, 9, [], 1, 0, b, [], 2⟩
def Zok (a : Ab) : Prop := a = zNew ∨ a = zMet true
theorem zok_recv {a : Ab} (h : Zok a) {p : Pk} (h1 : p.fr = 4) (h2 : p.to = 3) : Zok (a.recv p) := by
  obtain ⟨fr, to, nu, ac, l⟩ := p
  simp only at h1 h2
  subst h1
  subst h2
  rcases h with rfl | rfl
  · unfold Ab.recv
    split
    · exact .inl rfl
    · exact .inr rfl
  · unfold Ab.recv
    split
    · exact .inr rfl
    · exact .inr rfl
theorem old_recv {a : Ab} {p : Pk} (h1 : p.fr = 3) (h2 : a.pe = 9) : a.recv p = a := by
  unfold Ab.recv
  rw [if_pos (by unfold Ab.bad; omega)]
def StK (k : Nat) (z y : Ab) : Prop := (k = 0 ∧ Zok z ∧ y.ep = 4 ∧ y.pe = 3 ∧ y.tu = 1 ∧ y.inn = []) ∨ (k = 1 ∧ (∃ b, z = zMet b) ∧ y = yMet false) ∨ (k = 2 ∧ z = zMet false ∧ y = yMet false)
theorem stK_step {k : Nat} {z y : Ab} (h : StK k z y) (hk : k < 2) : StK (k + 1) ((z.outP.foldl Ab.recv y).outP.foldl Ab.recv z.out) (z.outP.foldl Ab.recv y).out := by
  rcases h with ⟨rfl, hz, h1, h2, h3, h4⟩ | ⟨rfl, ⟨b, rfl⟩, rfl⟩ | ⟨rfl, _⟩
  · obtain ⟨ep, pe, q, ba, ca, ow, inn, tu⟩ := y
    simp only at h1 h2 h3 h4
    subst h1; subst h2; subst h3; subst h4
    refine .inr (.inl ⟨rfl, ?_⟩)
    rcases hz with rfl | rfl
    · exact ⟨⟨true, rfl⟩, rfl⟩
    · exact ⟨⟨false, rfl⟩, rfl⟩
  · refine .inr (.inr ⟨rfl, ?_⟩)
    cases b
    · exact ⟨rfl, rfl⟩
    · exact ⟨rfl, rfl⟩
  · omega
theorem stK_end {z y : Ab} (h : StK 2 z y) : z = zMet false ∧ y = yMet false := by
  rcases h with ⟨h, _⟩ | ⟨h, _⟩ | ⟨_, h⟩
  · omega
  · omega
  · exact h
def zSent (l : List UInt8) : Ab := { zMet false with q := [(l, false, 0)] }
theorem zsent (l : List UInt8) (h : l.length ≤ 400) : (zMet false).send l = (0, zSent l) := by
  unfold Ab.send
  rw [if_neg (by omega), if_neg (by show ¬ (4 : Int) = 0; decide), if_neg (by show ¬ (0 : Nat) = 8; decide)]
  rfl
theorem zgot (l : List UInt8) (h : l.length ≤ 400) : ((zSent l).outP.foldl Ab.recv (yMet false)).inn = [l] := by
  show ((yMet false).recv ⟨9, 4, 1, 0, l⟩).inn = [l]
  unfold Ab.recv
  rw [if_neg (by unfold Ab.bad; simp only [yMet]; omega)]
  rfl
/-- the end that begins anew, the other one, what is in the air -/
structure ZS (w V : World) (Bw Bz By : Nat) (T : Nat → Nat) (M : Nat) (x : Ws) (az ay : Ab) : Prop where
  z : SesA V Bz T 10 M az
  y : SesA V By T 3 M ay
  air : Flies V T 5 x.va x.fs
  mem : Blk V Bw 47 x.cells.toArray
  tag : T Bw = 4
  bel : Below w.heap.size w V
  low : ∀ q, q < w.heap.size → T q = 0
theorem zs_two {w V V' : World} {Bw Bz By : Nat} {T T' : Nat → Nat} {M M' : Nat} {x : Ws} {az ay az' ay' : Ab} {S : Nat → Prop} (h : ZS w V Bw Bz By T M x az ay) (hz : SesA V' Bz T' 10 M' az') (hy : SesA V' By T' 3 M' ay') (hc : Ch S V V') (hS : ∀ k, S k → T k = 10 ∨ T k = 3) (hT : Agr V.heap.size T T') : ZS w V' Bw Bz By T' M' x az' ay' :=
  ⟨hz, hy, h.air.keep hc (fun k hk e => by have := hS k e; omega) hT, blk_ch h.mem hc (fun e => by have := hS _ e; rw [h.tag] at this; omega), (hT _ (blk_lt h.mem)).trans h.tag, h.bel.trans (hc.below h.bel.size (fun k hk => by
    rcases Nat.lt_or_ge k w.heap.size with h1 | h1
    · have h2 := h.low k h1
      have h3 := hS k hk
      omega
    · exact h1)), fun q hq => (hT q (Nat.lt_of_lt_of_le hq h.bel.size)).trans (h.low q hq)⟩
def ZQ (w V : World) (Bw Bz By M : Nat) (x : Ws) (az ay : Ab) : Prop := ∃ T, ZS w V Bw Bz By T M x az ay
theorem zq_up {w V : World} {Bw Bz By M M' : Nat} {x : Ws} {az ay : Ab} (h : ZQ w V Bw Bz By M x az ay) (hM : M ≤ M') : ZQ w V Bw Bz By M' x az ay := by
  obtain ⟨T, h⟩ := h
  exact ⟨T, { h with z := h.z.up hM, y := h.y.up hM }⟩
theorem zq_recvz {w V : World} {Bw Bz By M : Nat} {x : Ws} {az ay : Ab} (h : ZQ w V Bw Bz By M x az ay) (h0 : az.ep ≠ 0) (hM : M ≤ 900000) {k : Nat} {p : Pk} {d : Bool} {A : Option Addr} {n c : Nat} (hf : x.fs[k]? = some ((p, d), A, n, c)) :
    Calls Try.prog 18 #[.pointer (some ⟨Bz, 0, none⟩), .agg #[.int .i64 p.fr, .int .i64 p.to, .int .i64 p.nu, .int .i64 p.ac, .slice A n c]] V fun e V' => e = .returned (.tuple #[]) ∧ ZQ w V' Bw Bz By (M + 8) x (az.recv p) ay := by
  obtain ⟨T, h⟩ := h
  have hm := List.mem_of_getElem? hf
  refine (recvA h.z h0 (by omega) p A n c (held_rd (h.air.held _ hm)) (fun b hb e => by rw [h.air.bod _ hm b hb] at e; cases e)).mono ?_
  rintro e V' ⟨he, T', hT, hs, hc⟩
  exact ⟨he, T', zs_two h hs ((h.y.keep hc (fun k hk e => by have e' : T k = 10 := e; omega) hT).up (by omega)) hc (fun k hk => .inl hk) hT⟩
theorem zq_recvy {w V : World} {Bw Bz By M : Nat} {x : Ws} {az ay : Ab} (h : ZQ w V Bw Bz By M x az ay) (h0 : ay.ep ≠ 0) (hM : M ≤ 900000) {k : Nat} {p : Pk} {d : Bool} {A : Option Addr} {n c : Nat} (hf : x.fs[k]? = some ((p, d), A, n, c)) :
    Calls Try.prog 18 #[.pointer (some ⟨By, 0, none⟩), .agg #[.int .i64 p.fr, .int .i64 p.to, .int .i64 p.nu, .int .i64 p.ac, .slice A n c]] V fun e V' => e = .returned (.tuple #[]) ∧ ZQ w V' Bw Bz By (M + 8) x az (ay.recv p) := by
  obtain ⟨T, h⟩ := h
  have hm := List.mem_of_getElem? hf
  refine (recvA h.y h0 (by omega) p A n c (held_rd (h.air.held _ hm)) (fun b hb e => by rw [h.air.bod _ hm b hb] at e; cases e)).mono ?_
  rintro e V' ⟨he, T', hT, hs, hc⟩
  exact ⟨he, T', zs_two h ((h.z.keep hc (fun k hk e => by have e' : T k = 3 := e; omega) hT).up (by omega)) hs hc (fun k hk => .inr hk) hT⟩
theorem zq_handszy {w V : World} {Bw Bz By M : Nat} {x : Ws} {az ay : Ab} (h : ZQ w V Bw Bz By M x az ay) (h0 : az.ep ≠ 0) (h1 : ay.ep ≠ 0) (hM : M ≤ 900000) :
    Calls Try.prog 20 #[.pointer (some ⟨Bz, 0, none⟩), .pointer (some ⟨By, 0, none⟩), .bool false] V fun e V' => e = .returned (.tuple #[]) ∧ ZQ w V' Bw Bz By (M + 64) x az.out (az.outP.foldl Ab.recv ay) := by
  obtain ⟨T, h⟩ := h
  refine (handsA h.z h.y (by decide) (by decide) h0 h1 hM).mono ?_
  rintro e V' ⟨he, T', hT, hs, hy, hc⟩
  exact ⟨he, T', zs_two h hs hy hc (fun k hk => hk) hT⟩
theorem zq_handsyz {w V : World} {Bw Bz By M : Nat} {x : Ws} {az ay : Ab} (h : ZQ w V Bw Bz By M x az ay) (h0 : az.ep ≠ 0) (h1 : ay.ep ≠ 0) (hM : M ≤ 900000) :
    Calls Try.prog 20 #[.pointer (some ⟨By, 0, none⟩), .pointer (some ⟨Bz, 0, none⟩), .bool false] V fun e V' => e = .returned (.tuple #[]) ∧ ZQ w V' Bw Bz By (M + 64) x (ay.outP.foldl Ab.recv az) ay.out := by
  obtain ⟨T, h⟩ := h
  refine (handsA h.y h.z (by decide) (by decide) h1 h0 hM).mono ?_
  rintro e V' ⟨he, T', hT, hs, hy, hc⟩
  exact ⟨he, T', zs_two h hy hs hc (fun k hk => hk.elim .inr .inl) hT⟩
theorem zq_takey {w V : World} {Bw Bz By M : Nat} {x : Ws} {az ay : Ab} (h : ZQ w V Bw Bz By M x az ay) (h1 : ay.ep ≠ 0) :
    Calls Try.prog 27 #[.pointer (some ⟨By, 0, none⟩)] V fun e V' => ∃ v ls, e = .returned v ∧ ZQ w V' Bw Bz By M x az ay.take ∧ Lists V' 0 v ls ∧ ls.map (·.1) = ay.inn := by
  obtain ⟨T, h⟩ := h
  refine (takeA h.y h1).mono ?_
  rintro e V' ⟨v, ls, he, hs, hL, hm, _, _, hc⟩
  exact ⟨v, ls, he, ⟨T, zs_two h (h.z.keep hc (fun k hk e => by rw [e, h.y.tag] at hk; omega) (agr_refl _ _)) hs hc (fun k hk => by rw [hk]; exact .inr h.y.tag) (agr_refl _ _)⟩, hL, hm⟩
theorem zq_takez {w V : World} {Bw Bz By M : Nat} {x : Ws} {az ay : Ab} (h : ZQ w V Bw Bz By M x az ay) (h1 : az.ep ≠ 0) :
    Calls Try.prog 27 #[.pointer (some ⟨Bz, 0, none⟩)] V fun e V' => ∃ v ls, e = .returned v ∧ ZQ w V' Bw Bz By M x az.take ay ∧ Lists V' 0 v ls ∧ ls.map (·.1) = az.inn := by
  obtain ⟨T, h⟩ := h
  refine (takeA h.z h1).mono ?_
  rintro e V' ⟨v, ls, he, hs, hL, hm, _, _, hc⟩
  exact ⟨v, ls, he, ⟨T, zs_two h hs (h.y.keep hc (fun k hk e => by rw [e, h.z.tag] at hk; omega) (agr_refl _ _)) hc (fun k hk => by rw [hk]; exact .inl h.z.tag) (agr_refl _ _)⟩, hL, hm⟩
theorem zq_send {w V : World} {Bw Bz By M : Nat} {x : Ws} {az ay : Ab} (h : ZQ w V Bw Bz By M x az ay) (h1 : az.ep ≠ 0) (hM : M ≤ 900000) (A : Option Addr) (n c : Nat) (l : List UInt8) (hr : Rd V A n c 1 (u8s l)) :
    Calls Try.prog 15 #[.pointer (some ⟨Bz, 0, none⟩), .slice A n c] V fun e V' => e = .returned (.int .i64 (az.send l).1) ∧ ZQ w V' Bw Bz By M x (az.send l).2 ay := by
  obtain ⟨T, h⟩ := h
  refine (sendA h.z h1 (by omega) A n c l hr).mono ?_
  rintro e V' ⟨he, T', hT, hs, hc⟩
  exact ⟨he, T', zs_two h hs (h.y.keep hc (fun k hk e => by have e' : T k = 10 := e; omega) hT) hc (fun k hk => .inl hk) hT⟩
theorem zq_bel {w V : World} {Bw Bz By M : Nat} {x : Ws} {az ay : Ab} (h : ZQ w V Bw Bz By M x az ay) : Below w.heap.size w V := by
  obtain ⟨T, h⟩ := h
  exact h.bel
theorem zq_asks {w V : World} {Bw Bz By M : Nat} {x : Ws} {az ay : Ab} (h : ZQ w V Bw Bz By M x az ay) (h0 : az.ep ≠ 0) (h1 : ay.ep ≠ 0) :
    Calls Try.prog 19 #[.pointer (some ⟨Bz, 0, none⟩)] V (fun e w' => e = .returned (.int .i64 az.pe) ∧ V = w') ∧ Calls Try.prog 19 #[.pointer (some ⟨By, 0, none⟩)] V (fun e w' => e = .returned (.int .i64 ay.pe) ∧ V = w') ∧
    Calls Try.prog 35 #[.pointer (some ⟨By, 0, none⟩)] V (fun e w' => e = .returned (.int .i64 ay.tu) ∧ V = w') ∧ Calls Try.prog 22 #[.pointer (some ⟨By, 0, none⟩)] V (fun e w' => e = .returned (.int .i64 (ay.q.length : Int)) ∧ V = w') := by
  obtain ⟨T, h⟩ := h
  exact ⟨peerA h.z h0, peerA h.y h1, turnsA h.y h1, waitA h.y h1⟩
theorem lists_zero {w : World} {v : Value} {ls : List Lb} (h : Lists w 0 v ls) (h0 : ls.map (·.1) = []) : ∃ A c, v = .slice A 0 c := by
  obtain ⟨A, c, e, _, _⟩ := own_form h.own
  have : ls.length = 0 := by have := congrArg List.length h0; simpa using this
  rw [this] at e
  exact ⟨A, c, e⟩
/-- the new session -/
theorem zs_new {w V V' : World} {Bw : Nat} {T : Nat → Nat} {M : Nat} {x : Ws} {W : Wd} (h : FS w V Bw T M x W) (hs : SesB V' V.heap.size (ses0 9)) (hb : Below V.heap.size V V') (hM : 1 ≤ M) : ZQ w V' Bw V.heap.size (x.P true) M x zNew (W.e true) := by
  have hT := agr_ext T V.heap.size (fun _ => 10)
  have hw := h.wd.below hb hT
  refine ⟨ext T V.heap.size (fun _ => 10), ⟨⟨_, [], { mem := hs, tag := ext_new _ _ _ (Nat.le_refl _), t1 := by decide, ep := rfl, pe := rfl, ba := rfl, ma := rfl, ca := rfl, ow := rfl, tu := rfl, q := (fun k x hx => by cases hx), ts := (fun j => ⟨Int.le_refl _, by show (0 : Int) ≤ _; omega⟩), inn := lists_nil _ _, inl := rfl, row := (fun k hk => by cases hk), bod := (fun p hp => by cases hp), q8 := Nat.zero_le _, qn := (fun x hx => by cases hx), baM := hM, caM := ⟨Int.le_refl _, by show (0 : Int) ≤ _; omega⟩, tuM := ⟨Int.le_refl _, by show (0 : Int) ≤ _; omega⟩, inM := Nat.zero_le _ }⟩, hw.ends true, hw.air, hw.mem, hw.tag, h.bel.trans (hb.mono h.bel.size), fun q hq => (hT q (Nat.lt_of_lt_of_le hq h.bel.size)).trans (h.low q hq)⟩⟩

set_option maxRecDepth 100000 in
set_option maxHeartbeats 4000000 in
theorem sameLs_rd {base g c c' : Nat} {A A' : Option Addr} {n d n' d' : Nat} {l : List UInt8} {w : World} (h : Lists w base (.slice (some ⟨g, 0, none⟩) 1 c) [(l, A, n, d)]) (hc : 1 ≤ c) {g' : Nat} (hcell : w.cell? ⟨g', 0, none⟩ = some (.slice A' n' d')) (hr : Rd w A' n' d' 1 (u8s l)) (hc' : 1 ≤ c') :
    Calls Try.prog 28 #[.slice (some ⟨g, 0, none⟩) 1 c, .slice (some ⟨g', 0, none⟩) 1 c'] w fun e w' => e = .returned (.bool true) ∧ Ch No w w' := by
  have H := Lib.hid h; have HR := Lib.hid hr; have HCL := Lib.hid hcell
  clear h hr hcell
  go_enter Try.func28, Try.ntmps28
  go_wp2
  go_loopw [5] (fun i wr => ∃ k : Nat, k ≤ 1 ∧ i = .int .i64 k ∧ Ch No w wr) (fun i _ => 1 - (intOf i).toNat)
  case atStart => exact ⟨0, Nat.zero_le _, rfl, Ch.refl _ _⟩
  case round =>
    obtain ⟨k, hk, rfl, hC⟩ := hrel
    by_cases hlt : k < 1
    · have hk0 : k = 0 := by omega
      obtain ⟨p, hp, c0, hh⟩ := lists_get (lists_ch H.out hC (fun _ _ _ => id)) (k := k) (by simpa using hlt)
      have hpe : p = (l, A, n, d) := by rw [hk0] at hp; simpa using hp.symm
      have d0 : wr.cell? ⟨g', k, none⟩ = some (.slice A' n' d') := by rw [hk0]; exact ch_cell hC HCL.out id
      have HC := Lib.hid hC
      have HR2 := Lib.hid (HR.out.ch hC (fun _ _ => id))
      rw [hpe] at c0 hh
      have HRH := Lib.hid (held_rd hh)
      simp only at c0 HRH
      clear hh hp hpe hC hk0
      have glt : decide ((k : Int) < 1) = true := by simp; omega
      go_wp2_with fail
      go_quiet ((go_at_call 73; exact Calls.quiet_of_same (same_self A A' n d n' d' l _ (HRH.out.ch (ch_drewN No _ _) (fun _ _ => id)) (HR2.out.ch (ch_drewN No _ _) (fun _ _ => id)))))
      go_wp2
      go_roundw
      case rel => exact ⟨k + 1, by omega, by go_num, ch_thenno HC.out (ch_drewN No _ _)⟩
      case measure => simp [intOf]; omega
    · have glt : decide ((k : Int) < 1) = false := by simp; omega
      go_wp2
      go_ret
      exact ⟨rfl, hC⟩
end Go.Proofs.Ytadcahnoghnkcaa
