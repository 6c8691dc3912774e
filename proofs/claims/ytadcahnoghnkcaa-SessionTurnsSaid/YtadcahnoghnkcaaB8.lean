/- Walk: a session's Out. Conditions: the session is as New makes it. -/
import Derived.Test.YtadcahnoghnkcaaB5
import Derived.Test.YtadcahnoghnkcaaLib4
import Derived.Deep.RegionLaw
import Derived.Deep.RegionHeld3
namespace Go.Proofs.Ytadcahnoghnkcaa
open Go.RowKit
set_option linter.unusedVariables false
set_option linter.unusedSimpArgs false

theorem info33 : (Try.prog.info? 33).map (fun i => (i.zero, i.size, i.bytes)) = some (some (.agg #[.int .i64 0, .int .i64 0, .int .i64 0, .int .i64 0, .slice none 0 0]), 5, 56) := by kernel_rfl
/-- a packet -/
structure Pk where
  fr : Int
  to : Int
  nu : Int
  ac : Int
  l : List UInt8
def pkCells (p : Pk × Option Addr × Nat × Nat) : List Value := [.int .i64 p.1.fr, .int .i64 p.1.to, .int .i64 p.1.nu, .int .i64 p.1.ac, .slice p.2.1 p.2.2.1 p.2.2.2]
/-- v is a row of packets; each one's body lies in a block of its own -/
structure Packs (w : World) (base : Nat) (v : Value) (ps : List (Pk × Option Addr × Nat × Nat)) : Prop where
  own : w.ownsRow base 33 5 v ps.length (ps.flatMap pkCells)
  each : ∀ p ∈ ps, Held w base p.2.1 p.2.2.1 p.2.2.2 p.1.l ∧ ∀ a, p.2.1 = some a → v.ownBlock ≠ some a.block
theorem packs_nil (w : World) (base : Nat) : Packs w base (.slice none 0 0) [] := ⟨World.ownsRow_nil w base 33 5, fun p h => by cases h⟩
theorem packs_ch {S : Nat → Prop} {w w' : World} {base : Nat} {v : Value} {ps : List (Pk × Option Addr × Nat × Nat)} (h : Packs w base v ps) (hc : Ch S w w') (hS : ∀ k, base ≤ k → k < w.heap.size → ¬ S k) : Packs w' base v ps :=
  ⟨own_ch h.own hc (fun k hk => hS k (h.own.lt k hk).1 (h.own.lt k hk).2), fun p hp => ⟨held_ch (h.each p hp).1 hc (fun a ha => hS _ (held_lt (h.each p hp).1 a ha).1 (held_lt (h.each p hp).1 a ha).2), (h.each p hp).2⟩⟩
theorem packs_below {w w' : World} {base : Nat} {v : Value} {ps : List (Pk × Option Addr × Nat × Nat)} (h : Packs w base v ps) (hc : Below w.heap.size w w') : Packs w' base v ps := packs_ch h (Ch.of_below hc No) (fun _ _ _ => id)
theorem packs_add {w w' : World} {base : Nat} {v v' : Value} {ps : List (Pk × Option Addr × Nat × Nat)} {p : Pk × Option Addr × Nat × Nat} (h : Packs w base v ps) (hp : Held w base p.2.1 p.2.2.1 p.2.2.2 p.1.l) (hne : ∀ a, p.2.1 = some a → v.ownBlock ≠ some a.block)
    (hown : w'.ownsRow base 33 5 v' (ps.length + 1) (ps.flatMap pkCells ++ pkCells p)) (hch : Ch (fun i => v.ownBlock = some i) w w') (hat : v'.ownBlock = v.ownBlock ∨ ∃ x, v'.ownBlock = some x ∧ w.heap.size ≤ x) : Packs w' base v' (ps ++ [p]) := by
  refine ⟨by rw [List.length_append, List.flatMap_append]; simpa using hown, fun q hq => ?_⟩
  have key : Held w base q.2.1 q.2.2.1 q.2.2.2 q.1.l → (∀ a, q.2.1 = some a → v.ownBlock ≠ some a.block) → Held w' base q.2.1 q.2.2.1 q.2.2.2 q.1.l ∧ ∀ a, q.2.1 = some a → v'.ownBlock ≠ some a.block := by
    intro h1 h2
    refine ⟨held_ch h1 hch (fun a ha e => h2 a ha e), fun a ha e => ?_⟩
    rcases hat with h3 | ⟨x, h3, hx⟩
    · exact h2 a ha (h3 ▸ e)
    · rw [h3] at e
      have e' : x = a.block := by injection e
      have := (held_lt h1 a ha).2
      omega
  rcases List.mem_append.1 hq with hq | hq
  · exact key (h.each q hq).1 (h.each q hq).2
  · rw [List.mem_singleton] at hq
    subst hq
    exact key hp hne

/-- is the place k of the queue due? -/
def due (p : Pl) : Bool := !(p.o && decide (p.t < 4))
/-- the ring when k places have been gone through -/
def outR (s : Ses) : Nat → (Nat → Pl)
  | 0 => s.r
  | k + 1 => if due (outR s k ((s.ba + k) % 8)) then upd (outR s k) ((s.ba + k) % 8) { outR s k ((s.ba + k) % 8) with o := true, t := 0 } else outR s k

theorem outR_off (s : Ses) (j : Nat) : ∀ k, (∀ m, m < k → (s.ba + m) % 8 ≠ j) → outR s k j = s.r j := by
  intro k
  induction k with
  | zero => intro _; rfl
  | succ k ih =>
    intro h
    have h1 := ih (fun m hm => h m (by omega))
    unfold outR
    split
    · rw [upd_off _ _ (fun e => h k (by omega) e.symm), h1]
    · exact h1
theorem outR_at (s : Ses) {k : Nat} (hk : k < 8) : outR s k ((s.ba + k) % 8) = s.r ((s.ba + k) % 8) := outR_off s _ k (fun m hm => by omega)
/-- what is out when k places have been gone through -/
def outL (s : Ses) (bd : Nat → List UInt8) : Nat → List Pk
  | 0 => []
  | k + 1 => if due (s.r ((s.ba + k) % 8)) then outL s bd k ++ [⟨s.ep, s.pe, (s.ba : Int) + (k : Int), s.ca, bd k⟩] else outL s bd k
def likeC (s : Ses) : Array Value := #[.int .i64 s.ep, .int .i64 s.pe, .int .i64 0, .int .i64 s.ca, .slice none 0 0]
def OutI (w : World) (B T : Nat) (s : Ses) (bd : Nat → List UInt8) (k : Nat) (o : Value) (ps : List (Pk × Option Addr × Nat × Nat)) (wr : World) : Prop :=
  SesB wr B { s with r := outR s k } ∧ Packs wr (T + 1) o ps ∧ ps.map (·.1) = outL s bd k ∧ Blk wr T 33 (likeC s) ∧ Ch (fun j => j = B) w wr
theorem packs_base {w : World} {base base' : Nat} {v : Value} {ps : List (Pk × Option Addr × Nat × Nat)} (h : Packs w base v ps) (hb : base' ≤ base) : Packs w base' v ps :=
  ⟨own_base h.own hb, fun p hp => ⟨held_base (h.each p hp).1 (fun a ha => Nat.le_trans hb (held_lt (h.each p hp).1 a ha).1), (h.each p hp).2⟩⟩
/-- what Out tells in the end -/
def outAll (s : Ses) (bd : Nat → List UInt8) : List Pk := if (outL s bd s.ma).length = 0 ∧ (s.ow = true ∨ s.pe = 0) then [⟨s.ep, s.pe, 0, s.ca, []⟩] else outL s bd s.ma
def OutQ (w : World) (B : Nat) (s : Ses) (bd : Nat → List UInt8) (e : Ending) (w' : World) : Prop :=
  ∃ v ps, e = .returned v ∧ SesB w' B { s with r := outR s s.ma, ow := false } ∧ Packs w' w.heap.size v ps ∧ ps.map (·.1) = outAll s bd ∧ Ch (fun j => j = B) w w'
theorem outL_len (s : Ses) (bd : Nat → List UInt8) : ∀ k, (outL s bd k).length ≤ k := by
  intro k
  induction k with
  | zero => exact Nat.le_refl _
  | succ k ih =>
    unfold outL
    split
    · simp; omega
    · omega

set_option maxRecDepth 100000 in
set_option maxHeartbeats 8000000 in
theorem sout_any {B : Nat} {s : Ses} {w : World} (h : SesB w B s) (h0 : s.ep ≠ 0) (hm : s.ma ≤ 8) (hb : s.ba ≤ 1000000000) (bd : Nat → List UInt8)
    (hbd : ∀ k, k < s.ma → Rd w (s.r ((s.ba + k) % 8)).A (s.r ((s.ba + k) % 8)).n (s.r ((s.ba + k) % 8)).c 1 (u8s (bd k)) ∧ (s.r ((s.ba + k) % 8)).n ≤ 1000000 ∧ ∀ a, (s.r ((s.ba + k) % 8)).A = some a → a.block ≠ B) :
    Calls Try.prog 16 #[.pointer (some ⟨B, 0, none⟩)] w (OutQ w B s bd) := by
  have e0 := ses_ep h
  have e1 := ses_pe h
  have e2 := ses_ca h
  have H := Lib.hid h
  have HBD := Lib.hid hbd
  have hBl := blk_lt h
  clear h hbd
  have a2 := below_cell ((Below.refl w.heap.size w).alloc (Nat.le_refl _) (.cells #[.int .i64 0, .int .i64 0, .int .i64 0, .int .i64 0, .slice none 0 0] 33)) e2
  go_enter Try.func16, Try.ntmps16
  go_wp2_with fail
  refine (snone_any H.out h0).mono ?_; rintro e w1 ⟨rfl, rfl⟩
  go_wp2_with fail
  go_region_held3 (fun W => W.cell? ⟨B, 0, none⟩ = some (.int .i64 s.ep) ∧ W.cell? ⟨B, 1, none⟩ = some (.int .i64 s.pe) ∧ W.cell? ⟨B, 28, none⟩ = some (.int .i64 s.ca))
    (first | exact ⟨e0, e1, e2⟩ | exact ⟨below_cell ((Below.refl w.heap.size w).alloc (Nat.le_refl _) _) e0, below_cell ((Below.refl w.heap.size w).alloc (Nat.le_refl _) _) e1, below_cell ((Below.refl w.heap.size w).alloc (Nat.le_refl _) _) e2⟩)
    (first | (go_at_call 67; refine (iload_any B 28 s.ca _ (by first | exact e2 | exact a2)).mono ?_; rintro e w1 ⟨rfl, rfl⟩))
  all_goals
    have hb0 : Below w.heap.size w (w.alloc (.cells (likeC s) 33)).drew := ((Below.refl w.heap.size w).alloc (Nat.le_refl _) _).trans ((Ch.drew _ No).below (by simp) (fun _ h => h.elim))
    have hs0 : SesB (w.alloc (.cells (likeC s) 33)).drew B s := sesB_below H.out hb0
    have hT0 : Blk (w.alloc (.cells (likeC s) 33)).drew w.heap.size 33 (likeC s) := blk_new w 33 (likeC s)
    have hI0 : Hid (OutI w B w.heap.size s bd 0 (.slice none 0 0) [] (w.alloc (.cells (likeC s) 33)).drew) := Lib.hid ⟨hs0, packs_nil _ _, rfl, hT0, Ch.of_below hb0 _⟩
    have b1 := ses_ma hs0
    obtain ⟨W0, hW0⟩ : ∃ x, x = (w.alloc (.cells (likeC s) 33)).drew := ⟨_, rfl⟩
    rw [show (w.alloc (.cells #[.int .i64 s.ep, .int .i64 s.pe, .int .i64 0, .int .i64 s.ca, .slice none 0 0] 33)).drew = W0 from hW0.symm]
    rw [← hW0] at hI0 b1
    obtain ⟨T, hT⟩ : ∃ x, x = w.heap.size := ⟨_, rfl⟩
    rw [show OutI w B w.heap.size s bd 0 (.slice none 0 0) [] W0 = OutI w B T s bd 0 (.slice none 0 0) [] W0 by rw [hT]] at hI0
    rw [← hT]
    have hBT : B < T := by omega
    have HTT := Lib.hid hT
    clear hb0 hs0 hT0 hW0 hT e0 e1 e2 a2
    go_wp2_with fail
    go_loopw [3, 28] (fun o i wr => ∃ k : Nat, k ≤ s.ma ∧ i = .int .i64 k ∧ ∃ ps, Hid (OutI w B T s bd k o ps wr)) (fun _ i _ => s.ma - (intOf i).toNat)
    case atStart => exact ⟨0, Nat.zero_le _, rfl, _, hI0⟩
    case round =>
      clear hI0 b1
      obtain ⟨k, hk, rfl, ps, HI⟩ := hrel
      by_cases hlt : k < s.ma
      · obtain ⟨j, hj⟩ : ∃ j, j = (s.ba + k) % 8 := ⟨_, rfl⟩
        have hj8 : j < 8 := by omega
        have hpj : outR s k j = s.r j := by rw [hj]; exact outR_at s (by omega)
        have HAT := Lib.hid (show Calls Try.prog 66 #[.pointer (some ⟨B, 0, none⟩), .int .i64 (k : Int)] wr fun e w' => e = .returned (.pointer (some ⟨B, 2 + j * 3, none⟩)) ∧ Ch No wr w' from by rw [hj]; exact at_any HI.out.1 k (show s.ba + k ≤ 4611686018427387904 by omega))
        have HJ := Lib.hid hj
        clear hj
        go_wp2_with fail
        refine HAT.out.mono ?_; rintro e V0 ⟨rfl, hc0⟩
        have hs0 := sesB_ch HI.out.1 hc0 id
        have hT0 := blk_ch HI.out.2.2.2.1 hc0 id
        have HPK := Lib.hid (packs_ch HI.out.2.1 hc0 (fun _ _ _ => id))
        have HCH := Lib.hid (ch_thenno HI.out.2.2.2.2 hc0)
        have HZ := Lib.hid hc0.size
        have hring := ses_ring hs0 hj8
        simp only [hpj] at hring
        obtain ⟨q0, q1, q2⟩ := hring
        obtain ⟨hb1, hb2, hb3⟩ := HBD.out k hlt
        rw [← HJ.out] at hb1 hb2 hb3
        obtain ⟨p, hp⟩ : ∃ p, p = s.r j := ⟨_, rfl⟩
        rw [← hp] at q0 q1 q2 hb1 hb2 hb3
        obtain ⟨A, n, c, o, t⟩ := p
        simp only at q0 q1 q2 hb1 hb2 hb3
        have HB1 := Lib.hid hb1; have HB3 := Lib.hid hb3
        have b0 := ses_ba hs0
        clear hc0 hb1 hb3 HAT
        cases o
        · skip
          have hpd : due (outR s k j) = true := by rw [hpj, ← hp]; unfold due; rfl
          have hs1 := ses_set1 hs0 hj8 true
          have hs2 := ses_set2 hs1 hj8 0
          simp only [upd_upd, upd_at] at hs2
          have f1 := ses_fz hs0 (2 + j * 3 + 1)
          have f2 := ses_fz hs0 (2 + j * 3 + 2)
          have hcS : Ch (fun i => i = B) V0 ((V0.setCell ⟨B, 2 + j * 3 + 1, none⟩ (.bool true)).setCell ⟨B, 2 + j * 3 + 2, none⟩ (.int .i64 0)) := (Ch.setCell V0 ⟨B, 2 + j * 3 + 1, none⟩ _).trans (Ch.setCell _ ⟨B, 2 + j * 3 + 2, none⟩ _) (fun i hi => .inl hi)
          have hTS := blk_ch hT0 hcS (fun e => by omega)
          have t0 : ((V0.setCell ⟨B, 2 + j * 3 + 1, none⟩ (.bool true)).setCell ⟨B, 2 + j * 3 + 2, none⟩ (.int .i64 0)).cell? ⟨T, 0, none⟩ = some (.int .i64 s.ep) := blk_cell hTS 0 _ rfl
          have t1 : ((V0.setCell ⟨B, 2 + j * 3 + 1, none⟩ (.bool true)).setCell ⟨B, 2 + j * 3 + 2, none⟩ (.int .i64 0)).cell? ⟨T, 1, none⟩ = some (.int .i64 s.pe) := blk_cell hTS 1 _ rfl
          have t2 : ((V0.setCell ⟨B, 2 + j * 3 + 1, none⟩ (.bool true)).setCell ⟨B, 2 + j * 3 + 2, none⟩ (.int .i64 0)).cell? ⟨T, 2, none⟩ = some (.int .i64 0) := blk_cell hTS 2 _ rfl
          have t3 : ((V0.setCell ⟨B, 2 + j * 3 + 1, none⟩ (.bool true)).setCell ⟨B, 2 + j * 3 + 2, none⟩ (.int .i64 0)).cell? ⟨T, 3, none⟩ = some (.int .i64 s.ca) := blk_cell hTS 3 _ rfl
          have t4 : ((V0.setCell ⟨B, 2 + j * 3 + 1, none⟩ (.bool true)).setCell ⟨B, 2 + j * 3 + 2, none⟩ (.int .i64 0)).cell? ⟨T, 4, none⟩ = some (.slice none 0 0) := blk_cell hTS 4 _ rfl
          have HS2 := Lib.hid hs2; have HCS := Lib.hid hcS; have HTS := Lib.hid hTS
          clear hs1 hs2 hcS hTS hs0 hT0
          go_wp2_with fail
          have hV2s := sesB_below HS2.out ((Below.refl ((V0.setCell ⟨B, 2 + j * 3 + 1, none⟩ (.bool true)).setCell ⟨B, 2 + j * 3 + 2, none⟩ (.int .i64 0)).heap.size ((V0.setCell ⟨B, 2 + j * 3 + 1, none⟩ (.bool true)).setCell ⟨B, 2 + j * 3 + 2, none⟩ (.int .i64 0))).alloc (Nat.le_refl _) (.cells #[.int .i64 s.ep, .int .i64 s.pe, .int .i64 0, .int .i64 s.ca, .slice none 0 0] 33))
          have hV2t := blk_below HTS.out ((Below.refl ((V0.setCell ⟨B, 2 + j * 3 + 1, none⟩ (.bool true)).setCell ⟨B, 2 + j * 3 + 2, none⟩ (.int .i64 0)).heap.size ((V0.setCell ⟨B, 2 + j * 3 + 1, none⟩ (.bool true)).setCell ⟨B, 2 + j * 3 + 2, none⟩ (.int .i64 0))).alloc (Nat.le_refl _) (.cells #[.int .i64 s.ep, .int .i64 s.pe, .int .i64 0, .int .i64 s.ca, .slice none 0 0] 33))
          have hzz : ((V0.setCell ⟨B, 2 + j * 3 + 1, none⟩ (.bool true)).setCell ⟨B, 2 + j * 3 + 2, none⟩ (.int .i64 0)).heap.size = V0.heap.size := by simp [World.setCell]
          have hV2n : Blk (((V0.setCell ⟨B, 2 + j * 3 + 1, none⟩ (.bool true)).setCell ⟨B, 2 + j * 3 + 2, none⟩ (.int .i64 0)).alloc (.cells #[.int .i64 s.ep, .int .i64 s.pe, .int .i64 0, .int .i64 s.ca, .slice none 0 0] 33)) V0.heap.size 33 (likeC s) := by rw [← hzz]; exact blk_new ((V0.setCell ⟨B, 2 + j * 3 + 1, none⟩ (.bool true)).setCell ⟨B, 2 + j * 3 + 2, none⟩ (.int .i64 0)) 33 (likeC s)
          have hV2c : Ch (fun i => i = B) V0 (((V0.setCell ⟨B, 2 + j * 3 + 1, none⟩ (.bool true)).setCell ⟨B, 2 + j * 3 + 2, none⟩ (.int .i64 0)).alloc (.cells #[.int .i64 s.ep, .int .i64 s.pe, .int .i64 0, .int .i64 s.ca, .slice none 0 0] 33)) := HCS.out.trans (Ch.alloc _ _ No) (fun _ h => h.elim)
          have hV2z : (((V0.setCell ⟨B, 2 + j * 3 + 1, none⟩ (.bool true)).setCell ⟨B, 2 + j * 3 + 2, none⟩ (.int .i64 0)).alloc (.cells #[.int .i64 s.ep, .int .i64 s.pe, .int .i64 0, .int .i64 s.ca, .slice none 0 0] 33)).heap.size = V0.heap.size + 1 := by simp [World.setCell]
          obtain ⟨V2, hV2⟩ : ∃ x, x = ((V0.setCell ⟨B, 2 + j * 3 + 1, none⟩ (.bool true)).setCell ⟨B, 2 + j * 3 + 2, none⟩ (.int .i64 0)).alloc (.cells #[.int .i64 s.ep, .int .i64 s.pe, .int .i64 0, .int .i64 s.ca, .slice none 0 0] 33) := ⟨_, rfl⟩
          rw [← hV2] at hV2s hV2t hV2n hV2c hV2z ⊢
          have hz0 : T + 1 ≤ V0.heap.size := by have h1 := blk_lt HI.out.2.2.2.1; have := HZ.out; omega
          have HV2S : Hid (SesB V2 B { s with r := upd (outR s k) j { outR s k j with o := true, t := 0 } }) := Lib.hid hV2s
          have r2 : V2.cell? ⟨B, 2 + j * 3, none⟩ = some (.slice A n c) := by
            have := (ses_ring HV2S.out hj8).1
            simp only [upd_at, hpj, ← hp] at this
            exact this
          have b2 := ses_ba HV2S.out
          simp only at b2
          have HV2T := Lib.hid hV2t; have HV2N := Lib.hid hV2n; have HV2C := Lib.hid hV2c
          obtain ⟨T7, hT7⟩ : ∃ x, x = V0.heap.size := ⟨_, rfl⟩
          rw [← hT7] at HV2N hV2z ⊢
          have HT7 := Lib.hid hT7
          have hT7B : T7 ≠ B := by omega
          have hT7T : T + 1 ≤ T7 := by omega
          have HRV := Lib.hid ((HB1.out.ch HCH.out (fun a ha e => HB3.out a ha e)).ch hV2c (fun a ha e => HB3.out a ha e))
          clear hV2s hV2t hV2n hV2c hV2 hT7 t0 t1 t2 t3 t4 f1 f2 q0 q1 q2 b0 HS2 HCS HTS
          have m2 : V2.cell? ⟨T7, 2, none⟩ = some (.int .i64 0) := blk_cell HV2N.out 2 _ rfl
          have hadd : s.ba + k ≤ 2000000000 := by omega
          have HV2Z := Lib.hid hV2z
          have hw : IntKind.i64.wrap ((s.ba : Int) + (k : Int)) = (s.ba : Int) + (k : Int) := by rw [IntKind.wrap_i64]; omega
          go_region_held3 (fun W => W.cell? ⟨B, 26, none⟩ = some (.int .i64 (s.ba : Int)) ∧ W.cell? ⟨B, 2 + j * 3, none⟩ = some (.slice A n c))
            (first | exact ⟨b2, r2⟩ | exact ⟨y1, y2⟩ | exact ⟨(cell_far V3 ⟨T7, 2, none⟩ ⟨B, 26, none⟩ _ (fun e => hT7B e.symm)).trans y1, (cell_far V3 ⟨T7, 2, none⟩ ⟨B, 2 + j * 3, none⟩ _ (fun e => hT7B e.symm)).trans y2⟩ | exact ⟨(cell_far _ ⟨T7, 4, none⟩ ⟨B, 26, none⟩ _ (fun e => hT7B e.symm)).trans ((cell_far V3 ⟨T7, 2, none⟩ ⟨B, 26, none⟩ _ (fun e => hT7B e.symm)).trans y1), (cell_far _ ⟨T7, 4, none⟩ ⟨B, 2 + j * 3, none⟩ _ (fun e => hT7B e.symm)).trans ((cell_far V3 ⟨T7, 2, none⟩ ⟨B, 2 + j * 3, none⟩ _ (fun e => hT7B e.symm)).trans y2)⟩)
            (first | (go_at_call 65; refine (clone_held A n c (bd k) _ (HRV.out.ch (Ch.drew _ No) (fun _ _ => id)) hb2).mono ?_; rintro e V3 ⟨A', c', rfl, hh3, hb3⟩; have y1 := below_cell hb3 b2; have y2 := below_cell hb3 r2; have hN3 := blk_below (show Blk V2.drew T7 33 (likeC s) from HV2N.out) hb3; have m2' : V3.cell? ⟨T7, 2, none⟩ = some (.int .i64 0) := blk_cell hN3 2 _ rfl; have m4' : V3.cell? ⟨T7, 4, none⟩ = some (.slice none 0 0) := blk_cell hN3 4 _ rfl; have m4'' : (V3.setCell ⟨T7, 2, none⟩ (.int .i64 ((s.ba : Int) + (k : Int)))).cell? ⟨T7, 4, none⟩ = some (.slice none 0 0) := blk_cell (blk_set hN3 2 _) 4 _ rfl; have z2 := blk_thawed hN3 2; have z4 := blk_thawed hN3 4))
          have hb23 : Below V2.heap.size V2 V3 := ((Ch.drew V2 No).below (Nat.le_refl _) (fun _ h => h.elim)).trans hb3
          have hN5 : Blk ((V3.setCell ⟨T7, 2, none⟩ (.int .i64 ((s.ba : Int) + (k : Int)))).setCell ⟨T7, 4, none⟩ (.slice A' n c')) T7 33 #[.int .i64 s.ep, .int .i64 s.pe, .int .i64 ((s.ba : Int) + (k : Int)), .int .i64 s.ca, .slice A' n c'] := blk_set (blk_set hN3 2 _) 4 _
          have l0 : ((V3.setCell ⟨T7, 2, none⟩ (.int .i64 ((s.ba : Int) + (k : Int)))).setCell ⟨T7, 4, none⟩ (.slice A' n c')).cell? ⟨T7, 0, none⟩ = some (.int .i64 s.ep) := blk_cell hN5 0 _ rfl
          have l1 : ((V3.setCell ⟨T7, 2, none⟩ (.int .i64 ((s.ba : Int) + (k : Int)))).setCell ⟨T7, 4, none⟩ (.slice A' n c')).cell? ⟨T7, 1, none⟩ = some (.int .i64 s.pe) := blk_cell hN5 1 _ rfl
          have l2 : ((V3.setCell ⟨T7, 2, none⟩ (.int .i64 ((s.ba : Int) + (k : Int)))).setCell ⟨T7, 4, none⟩ (.slice A' n c')).cell? ⟨T7, 2, none⟩ = some (.int .i64 ((s.ba : Int) + (k : Int))) := blk_cell hN5 2 _ rfl
          have l3 : ((V3.setCell ⟨T7, 2, none⟩ (.int .i64 ((s.ba : Int) + (k : Int)))).setCell ⟨T7, 4, none⟩ (.slice A' n c')).cell? ⟨T7, 3, none⟩ = some (.int .i64 s.ca) := blk_cell hN5 3 _ rfl
          have l4 : ((V3.setCell ⟨T7, 2, none⟩ (.int .i64 ((s.ba : Int) + (k : Int)))).setCell ⟨T7, 4, none⟩ (.slice A' n c')).cell? ⟨T7, 4, none⟩ = some (.slice A' n c') := blk_cell hN5 4 _ rfl
          have hc35 : Ch (fun i => i = T7) V3 ((V3.setCell ⟨T7, 2, none⟩ (.int .i64 ((s.ba : Int) + (k : Int)))).setCell ⟨T7, 4, none⟩ (.slice A' n c')) := (Ch.setCell V3 ⟨T7, 2, none⟩ _).trans (Ch.setCell _ ⟨T7, 4, none⟩ _) (fun i hi => .inl hi)
          have hc05 : Ch (fun i => i = B) V0 ((V3.setCell ⟨T7, 2, none⟩ (.int .i64 ((s.ba : Int) + (k : Int)))).setCell ⟨T7, 4, none⟩ (.slice A' n c')) := (HV2C.out.trans (Ch.of_below hb23 No) (fun _ h => h.elim)).trans hc35 (fun i hi => .inr (by have := HT7.out; omega))
          have hs5 := sesB_ch (sesB_below HV2S.out hb23) hc35 (fun e => hT7B e.symm)
          have hT5 := blk_ch (blk_below HV2T.out hb23) hc35 (fun e => by omega)
          have hA7 : ∀ a, A' = some a → T7 < a.block := fun a ha => by have := (held_lt hh3 a ha).1; have := HV2Z.out; have h1 : V2.drew.heap.size = V2.heap.size := rfl; omega
          have hh5 : Held ((V3.setCell ⟨T7, 2, none⟩ (.int .i64 ((s.ba : Int) + (k : Int)))).setCell ⟨T7, 4, none⟩ (.slice A' n c')) (T + 1) A' n c' (bd k) := held_base (held_ch hh3 hc35 (fun a ha e => by have := hA7 a ha; omega)) (fun a ha => by have := hA7 a ha; omega)
          have hpk5 := packs_ch HPK.out hc05 (fun i h1 h2 e => by omega)
          have hown5 := hpk5.own
          have hz5 : T7 < ((V3.setCell ⟨T7, 2, none⟩ (.int .i64 ((s.ba : Int) + (k : Int)))).setCell ⟨T7, 4, none⟩ (.slice A' n c')).heap.size := blk_lt hN5
          have hpl : ps.length ≤ k := by have h1 := outL_len s bd k; rw [← HI.out.2.2.1, List.length_map] at h1; exact h1
          have hou : ∀ i, u3.ownBlock = some i → T + 1 ≤ i ∧ i < T7 := fun i hi => by have h1 := HPK.out.own.lt i hi; have := HT7.out; omega
          obtain ⟨V5, hV5⟩ : ∃ x, x = ((V3.setCell ⟨T7, 2, none⟩ (.int .i64 ((s.ba : Int) + (k : Int)))).setCell ⟨T7, 4, none⟩ (.slice A' n c')) := ⟨_, rfl⟩
          rw [← hV5] at hN5 l0 l1 l2 l3 l4 hc05 hs5 hT5 hh5 hpk5 hown5 hz5 ⊢
          have HS5 := Lib.hid hs5; have HT5 := Lib.hid hT5; have HH5 := Lib.hid hh5; have HPK5 := Lib.hid hpk5; have HOWN5 := Lib.hid hown5; have HC05 := Lib.hid hc05; have HA7 := Lib.hid hA7; have HOU := Lib.hid hou
          clear hV5 hN5 hc05 hs5 hT5 hh5 hpk5 hown5 hc35 hb23 hb3 hh3 hN3 y1 y2 m2 m2' m4' m4'' z2 z4 b2 r2 hA7 hou HV2S HV2T HV2N HRV HPK hw
          go_wp2_with (at_builtin; refine wpList_add2 V5 rfl (.tmp 65) (.tmp 67) 28 rfl (T + 1) 33 _ 5 56 Try.underlying28 info33 rfl (by decide) u3 ps.length (ps.flatMap pkCells) rfl HOWN5.out #[.int .i64 s.ep, .int .i64 s.pe, .int .i64 ((s.ba : Int) + (k : Int)), .int .i64 s.ca, .slice A' n c'] 33 rfl rfl (by simp [Value.oneCell']) (by simp [maxLen]; omega) (by omega) (by omega) ?_; intro v2 V6 hown2 hnn2 hch2 hat2)
          have HIN : Hid (OutI w B T s bd (k + 1) v2 (ps ++ [(⟨s.ep, s.pe, (s.ba : Int) + (k : Int), s.ca, bd k⟩, A', n, c')]) V6) := by
            refine Lib.hid ⟨?_, ?_, ?_, ?_, ?_⟩
            · unfold outR
              rw [← HJ.out, if_pos hpd]
              exact sesB_ch HS5.out hch2 (fun e => by have := HOU.out _ e; omega)
            · exact packs_add HPK5.out HH5.out (fun a ha e => by have h1 := HOU.out _ e; have h2 := HA7.out a ha; omega) hown2 hch2 (hat2.imp id (fun h => ⟨_, h, by omega⟩))
            · rw [List.map_append, HI.out.2.2.1]
              conv => rhs; unfold outL
              rw [← HJ.out, if_pos (hpj ▸ hpd)]
              rfl
            · exact blk_ch HT5.out hch2 (fun e => by have := HOU.out _ e; omega)
            · exact (HCH.out.trans HC05.out (fun i hi => .inl hi)).trans hch2 (fun i hi => .inr (by have := HOU.out _ hi; have := HTT.out; omega))
          clear hown2 hnn2 hch2 hat2 HS5 HT5 HH5 HPK5 HOWN5 HC05
          go_wp2
          go_roundw
          case rel => exact ⟨k + 1, by omega, by go_num, _, HIN⟩
          case measure => simp [intOf]; omega
        · by_cases ht : t < 4
          · have gt : decide (t < 4) = true := by simpa using ht
            have hpd : due (outR s k j) = false := by rw [hpj, ← hp]; unfold due; simp [gt]
            have hpd2 : due (s.r j) = false := by rw [← hpj]; exact hpd
            have HIN : Hid (OutI w B T s bd (k + 1) u3 ps V0) := Lib.hid ⟨by unfold outR; rw [← HJ.out, hpd]; exact hs0, HPK.out, by unfold outL; rw [← HJ.out, hpd2]; exact HI.out.2.2.1, hT0, HCH.out⟩
            go_wp2
            go_roundw
            case rel => exact ⟨k + 1, by omega, by go_num, _, HIN⟩
            case measure => simp [intOf]; omega
          · have gt : decide (t < 4) = false := by simpa using ht
            have hpd : due (outR s k j) = true := by rw [hpj, ← hp]; unfold due; simp [gt]
            have hs1 := ses_set1 hs0 hj8 true
            have hs2 := ses_set2 hs1 hj8 0
            simp only [upd_upd, upd_at] at hs2
            have f1 := ses_fz hs0 (2 + j * 3 + 1)
            have f2 := ses_fz hs0 (2 + j * 3 + 2)
            have hcS : Ch (fun i => i = B) V0 ((V0.setCell ⟨B, 2 + j * 3 + 1, none⟩ (.bool true)).setCell ⟨B, 2 + j * 3 + 2, none⟩ (.int .i64 0)) := (Ch.setCell V0 ⟨B, 2 + j * 3 + 1, none⟩ _).trans (Ch.setCell _ ⟨B, 2 + j * 3 + 2, none⟩ _) (fun i hi => .inl hi)
            have hTS := blk_ch hT0 hcS (fun e => by omega)
            have t0 : ((V0.setCell ⟨B, 2 + j * 3 + 1, none⟩ (.bool true)).setCell ⟨B, 2 + j * 3 + 2, none⟩ (.int .i64 0)).cell? ⟨T, 0, none⟩ = some (.int .i64 s.ep) := blk_cell hTS 0 _ rfl
            have t1 : ((V0.setCell ⟨B, 2 + j * 3 + 1, none⟩ (.bool true)).setCell ⟨B, 2 + j * 3 + 2, none⟩ (.int .i64 0)).cell? ⟨T, 1, none⟩ = some (.int .i64 s.pe) := blk_cell hTS 1 _ rfl
            have t2 : ((V0.setCell ⟨B, 2 + j * 3 + 1, none⟩ (.bool true)).setCell ⟨B, 2 + j * 3 + 2, none⟩ (.int .i64 0)).cell? ⟨T, 2, none⟩ = some (.int .i64 0) := blk_cell hTS 2 _ rfl
            have t3 : ((V0.setCell ⟨B, 2 + j * 3 + 1, none⟩ (.bool true)).setCell ⟨B, 2 + j * 3 + 2, none⟩ (.int .i64 0)).cell? ⟨T, 3, none⟩ = some (.int .i64 s.ca) := blk_cell hTS 3 _ rfl
            have t4 : ((V0.setCell ⟨B, 2 + j * 3 + 1, none⟩ (.bool true)).setCell ⟨B, 2 + j * 3 + 2, none⟩ (.int .i64 0)).cell? ⟨T, 4, none⟩ = some (.slice none 0 0) := blk_cell hTS 4 _ rfl
            have HS2 := Lib.hid hs2; have HCS := Lib.hid hcS; have HTS := Lib.hid hTS
            clear hs1 hs2 hcS hTS hs0 hT0
            go_wp2_with fail
            have hV2s := sesB_below HS2.out ((Below.refl ((V0.setCell ⟨B, 2 + j * 3 + 1, none⟩ (.bool true)).setCell ⟨B, 2 + j * 3 + 2, none⟩ (.int .i64 0)).heap.size ((V0.setCell ⟨B, 2 + j * 3 + 1, none⟩ (.bool true)).setCell ⟨B, 2 + j * 3 + 2, none⟩ (.int .i64 0))).alloc (Nat.le_refl _) (.cells #[.int .i64 s.ep, .int .i64 s.pe, .int .i64 0, .int .i64 s.ca, .slice none 0 0] 33))
            have hV2t := blk_below HTS.out ((Below.refl ((V0.setCell ⟨B, 2 + j * 3 + 1, none⟩ (.bool true)).setCell ⟨B, 2 + j * 3 + 2, none⟩ (.int .i64 0)).heap.size ((V0.setCell ⟨B, 2 + j * 3 + 1, none⟩ (.bool true)).setCell ⟨B, 2 + j * 3 + 2, none⟩ (.int .i64 0))).alloc (Nat.le_refl _) (.cells #[.int .i64 s.ep, .int .i64 s.pe, .int .i64 0, .int .i64 s.ca, .slice none 0 0] 33))
            have hzz : ((V0.setCell ⟨B, 2 + j * 3 + 1, none⟩ (.bool true)).setCell ⟨B, 2 + j * 3 + 2, none⟩ (.int .i64 0)).heap.size = V0.heap.size := by simp [World.setCell]
            have hV2n : Blk (((V0.setCell ⟨B, 2 + j * 3 + 1, none⟩ (.bool true)).setCell ⟨B, 2 + j * 3 + 2, none⟩ (.int .i64 0)).alloc (.cells #[.int .i64 s.ep, .int .i64 s.pe, .int .i64 0, .int .i64 s.ca, .slice none 0 0] 33)) V0.heap.size 33 (likeC s) := by rw [← hzz]; exact blk_new ((V0.setCell ⟨B, 2 + j * 3 + 1, none⟩ (.bool true)).setCell ⟨B, 2 + j * 3 + 2, none⟩ (.int .i64 0)) 33 (likeC s)
            have hV2c : Ch (fun i => i = B) V0 (((V0.setCell ⟨B, 2 + j * 3 + 1, none⟩ (.bool true)).setCell ⟨B, 2 + j * 3 + 2, none⟩ (.int .i64 0)).alloc (.cells #[.int .i64 s.ep, .int .i64 s.pe, .int .i64 0, .int .i64 s.ca, .slice none 0 0] 33)) := HCS.out.trans (Ch.alloc _ _ No) (fun _ h => h.elim)
            have hV2z : (((V0.setCell ⟨B, 2 + j * 3 + 1, none⟩ (.bool true)).setCell ⟨B, 2 + j * 3 + 2, none⟩ (.int .i64 0)).alloc (.cells #[.int .i64 s.ep, .int .i64 s.pe, .int .i64 0, .int .i64 s.ca, .slice none 0 0] 33)).heap.size = V0.heap.size + 1 := by simp [World.setCell]
            obtain ⟨V2, hV2⟩ : ∃ x, x = ((V0.setCell ⟨B, 2 + j * 3 + 1, none⟩ (.bool true)).setCell ⟨B, 2 + j * 3 + 2, none⟩ (.int .i64 0)).alloc (.cells #[.int .i64 s.ep, .int .i64 s.pe, .int .i64 0, .int .i64 s.ca, .slice none 0 0] 33) := ⟨_, rfl⟩
            rw [← hV2] at hV2s hV2t hV2n hV2c hV2z ⊢
            have hz0 : T + 1 ≤ V0.heap.size := by have h1 := blk_lt HI.out.2.2.2.1; have := HZ.out; omega
            have HV2S : Hid (SesB V2 B { s with r := upd (outR s k) j { outR s k j with o := true, t := 0 } }) := Lib.hid hV2s
            have r2 : V2.cell? ⟨B, 2 + j * 3, none⟩ = some (.slice A n c) := by
              have := (ses_ring HV2S.out hj8).1
              simp only [upd_at, hpj, ← hp] at this
              exact this
            have b2 := ses_ba HV2S.out
            simp only at b2
            have HV2T := Lib.hid hV2t; have HV2N := Lib.hid hV2n; have HV2C := Lib.hid hV2c
            obtain ⟨T7, hT7⟩ : ∃ x, x = V0.heap.size := ⟨_, rfl⟩
            rw [← hT7] at HV2N hV2z ⊢
            have HT7 := Lib.hid hT7
            have hT7B : T7 ≠ B := by omega
            have hT7T : T + 1 ≤ T7 := by omega
            have HRV := Lib.hid ((HB1.out.ch HCH.out (fun a ha e => HB3.out a ha e)).ch hV2c (fun a ha e => HB3.out a ha e))
            clear hV2s hV2t hV2n hV2c hV2 hT7 t0 t1 t2 t3 t4 f1 f2 q0 q1 q2 b0 HS2 HCS HTS
            have m2 : V2.cell? ⟨T7, 2, none⟩ = some (.int .i64 0) := blk_cell HV2N.out 2 _ rfl
            have hadd : s.ba + k ≤ 2000000000 := by omega
            have HV2Z := Lib.hid hV2z
            have hw : IntKind.i64.wrap ((s.ba : Int) + (k : Int)) = (s.ba : Int) + (k : Int) := by rw [IntKind.wrap_i64]; omega
            go_region_held3 (fun W => W.cell? ⟨B, 26, none⟩ = some (.int .i64 (s.ba : Int)) ∧ W.cell? ⟨B, 2 + j * 3, none⟩ = some (.slice A n c))
              (first | exact ⟨b2, r2⟩ | exact ⟨y1, y2⟩ | exact ⟨(cell_far V3 ⟨T7, 2, none⟩ ⟨B, 26, none⟩ _ (fun e => hT7B e.symm)).trans y1, (cell_far V3 ⟨T7, 2, none⟩ ⟨B, 2 + j * 3, none⟩ _ (fun e => hT7B e.symm)).trans y2⟩ | exact ⟨(cell_far _ ⟨T7, 4, none⟩ ⟨B, 26, none⟩ _ (fun e => hT7B e.symm)).trans ((cell_far V3 ⟨T7, 2, none⟩ ⟨B, 26, none⟩ _ (fun e => hT7B e.symm)).trans y1), (cell_far _ ⟨T7, 4, none⟩ ⟨B, 2 + j * 3, none⟩ _ (fun e => hT7B e.symm)).trans ((cell_far V3 ⟨T7, 2, none⟩ ⟨B, 2 + j * 3, none⟩ _ (fun e => hT7B e.symm)).trans y2)⟩)
              (first | (go_at_call 65; refine (clone_held A n c (bd k) _ (HRV.out.ch (Ch.drew _ No) (fun _ _ => id)) hb2).mono ?_; rintro e V3 ⟨A', c', rfl, hh3, hb3⟩; have y1 := below_cell hb3 b2; have y2 := below_cell hb3 r2; have hN3 := blk_below (show Blk V2.drew T7 33 (likeC s) from HV2N.out) hb3; have m2' : V3.cell? ⟨T7, 2, none⟩ = some (.int .i64 0) := blk_cell hN3 2 _ rfl; have m4' : V3.cell? ⟨T7, 4, none⟩ = some (.slice none 0 0) := blk_cell hN3 4 _ rfl; have m4'' : (V3.setCell ⟨T7, 2, none⟩ (.int .i64 ((s.ba : Int) + (k : Int)))).cell? ⟨T7, 4, none⟩ = some (.slice none 0 0) := blk_cell (blk_set hN3 2 _) 4 _ rfl; have z2 := blk_thawed hN3 2; have z4 := blk_thawed hN3 4))
            have hb23 : Below V2.heap.size V2 V3 := ((Ch.drew V2 No).below (Nat.le_refl _) (fun _ h => h.elim)).trans hb3
            have hN5 : Blk ((V3.setCell ⟨T7, 2, none⟩ (.int .i64 ((s.ba : Int) + (k : Int)))).setCell ⟨T7, 4, none⟩ (.slice A' n c')) T7 33 #[.int .i64 s.ep, .int .i64 s.pe, .int .i64 ((s.ba : Int) + (k : Int)), .int .i64 s.ca, .slice A' n c'] := blk_set (blk_set hN3 2 _) 4 _
            have l0 : ((V3.setCell ⟨T7, 2, none⟩ (.int .i64 ((s.ba : Int) + (k : Int)))).setCell ⟨T7, 4, none⟩ (.slice A' n c')).cell? ⟨T7, 0, none⟩ = some (.int .i64 s.ep) := blk_cell hN5 0 _ rfl
            have l1 : ((V3.setCell ⟨T7, 2, none⟩ (.int .i64 ((s.ba : Int) + (k : Int)))).setCell ⟨T7, 4, none⟩ (.slice A' n c')).cell? ⟨T7, 1, none⟩ = some (.int .i64 s.pe) := blk_cell hN5 1 _ rfl
            have l2 : ((V3.setCell ⟨T7, 2, none⟩ (.int .i64 ((s.ba : Int) + (k : Int)))).setCell ⟨T7, 4, none⟩ (.slice A' n c')).cell? ⟨T7, 2, none⟩ = some (.int .i64 ((s.ba : Int) + (k : Int))) := blk_cell hN5 2 _ rfl
            have l3 : ((V3.setCell ⟨T7, 2, none⟩ (.int .i64 ((s.ba : Int) + (k : Int)))).setCell ⟨T7, 4, none⟩ (.slice A' n c')).cell? ⟨T7, 3, none⟩ = some (.int .i64 s.ca) := blk_cell hN5 3 _ rfl
            have l4 : ((V3.setCell ⟨T7, 2, none⟩ (.int .i64 ((s.ba : Int) + (k : Int)))).setCell ⟨T7, 4, none⟩ (.slice A' n c')).cell? ⟨T7, 4, none⟩ = some (.slice A' n c') := blk_cell hN5 4 _ rfl
            have hc35 : Ch (fun i => i = T7) V3 ((V3.setCell ⟨T7, 2, none⟩ (.int .i64 ((s.ba : Int) + (k : Int)))).setCell ⟨T7, 4, none⟩ (.slice A' n c')) := (Ch.setCell V3 ⟨T7, 2, none⟩ _).trans (Ch.setCell _ ⟨T7, 4, none⟩ _) (fun i hi => .inl hi)
            have hc05 : Ch (fun i => i = B) V0 ((V3.setCell ⟨T7, 2, none⟩ (.int .i64 ((s.ba : Int) + (k : Int)))).setCell ⟨T7, 4, none⟩ (.slice A' n c')) := (HV2C.out.trans (Ch.of_below hb23 No) (fun _ h => h.elim)).trans hc35 (fun i hi => .inr (by have := HT7.out; omega))
            have hs5 := sesB_ch (sesB_below HV2S.out hb23) hc35 (fun e => hT7B e.symm)
            have hT5 := blk_ch (blk_below HV2T.out hb23) hc35 (fun e => by omega)
            have hA7 : ∀ a, A' = some a → T7 < a.block := fun a ha => by have := (held_lt hh3 a ha).1; have := HV2Z.out; have h1 : V2.drew.heap.size = V2.heap.size := rfl; omega
            have hh5 : Held ((V3.setCell ⟨T7, 2, none⟩ (.int .i64 ((s.ba : Int) + (k : Int)))).setCell ⟨T7, 4, none⟩ (.slice A' n c')) (T + 1) A' n c' (bd k) := held_base (held_ch hh3 hc35 (fun a ha e => by have := hA7 a ha; omega)) (fun a ha => by have := hA7 a ha; omega)
            have hpk5 := packs_ch HPK.out hc05 (fun i h1 h2 e => by omega)
            have hown5 := hpk5.own
            have hz5 : T7 < ((V3.setCell ⟨T7, 2, none⟩ (.int .i64 ((s.ba : Int) + (k : Int)))).setCell ⟨T7, 4, none⟩ (.slice A' n c')).heap.size := blk_lt hN5
            have hpl : ps.length ≤ k := by have h1 := outL_len s bd k; rw [← HI.out.2.2.1, List.length_map] at h1; exact h1
            have hou : ∀ i, u3.ownBlock = some i → T + 1 ≤ i ∧ i < T7 := fun i hi => by have h1 := HPK.out.own.lt i hi; have := HT7.out; omega
            obtain ⟨V5, hV5⟩ : ∃ x, x = ((V3.setCell ⟨T7, 2, none⟩ (.int .i64 ((s.ba : Int) + (k : Int)))).setCell ⟨T7, 4, none⟩ (.slice A' n c')) := ⟨_, rfl⟩
            rw [← hV5] at hN5 l0 l1 l2 l3 l4 hc05 hs5 hT5 hh5 hpk5 hown5 hz5 ⊢
            have HS5 := Lib.hid hs5; have HT5 := Lib.hid hT5; have HH5 := Lib.hid hh5; have HPK5 := Lib.hid hpk5; have HOWN5 := Lib.hid hown5; have HC05 := Lib.hid hc05; have HA7 := Lib.hid hA7; have HOU := Lib.hid hou
            clear hV5 hN5 hc05 hs5 hT5 hh5 hpk5 hown5 hc35 hb23 hb3 hh3 hN3 y1 y2 m2 m2' m4' m4'' z2 z4 b2 r2 hA7 hou HV2S HV2T HV2N HRV HPK hw
            go_wp2_with (at_builtin; refine wpList_add2 V5 rfl (.tmp 65) (.tmp 67) 28 rfl (T + 1) 33 _ 5 56 Try.underlying28 info33 rfl (by decide) u3 ps.length (ps.flatMap pkCells) rfl HOWN5.out #[.int .i64 s.ep, .int .i64 s.pe, .int .i64 ((s.ba : Int) + (k : Int)), .int .i64 s.ca, .slice A' n c'] 33 rfl rfl (by simp [Value.oneCell']) (by simp [maxLen]; omega) (by omega) (by omega) ?_; intro v2 V6 hown2 hnn2 hch2 hat2)
            have HIN : Hid (OutI w B T s bd (k + 1) v2 (ps ++ [(⟨s.ep, s.pe, (s.ba : Int) + (k : Int), s.ca, bd k⟩, A', n, c')]) V6) := by
              refine Lib.hid ⟨?_, ?_, ?_, ?_, ?_⟩
              · unfold outR
                rw [← HJ.out, if_pos hpd]
                exact sesB_ch HS5.out hch2 (fun e => by have := HOU.out _ e; omega)
              · exact packs_add HPK5.out HH5.out (fun a ha e => by have h1 := HOU.out _ e; have h2 := HA7.out a ha; omega) hown2 hch2 (hat2.imp id (fun h => ⟨_, h, by omega⟩))
              · rw [List.map_append, HI.out.2.2.1]
                conv => rhs; unfold outL
                rw [← HJ.out, if_pos (hpj ▸ hpd)]
                rfl
              · exact blk_ch HT5.out hch2 (fun e => by have := HOU.out _ e; omega)
              · exact (HCH.out.trans HC05.out (fun i hi => .inl hi)).trans hch2 (fun i hi => .inr (by have := HOU.out _ hi; have := HTT.out; omega))
            clear hown2 hnn2 hch2 hat2 HS5 HT5 HH5 HPK5 HOWN5 HC05
            go_wp2
            go_roundw
            case rel => exact ⟨k + 1, by omega, by go_num, _, HIN⟩
            case measure => simp [intOf]; omega
      · obtain rfl : k = s.ma := by omega
        obtain ⟨A3, c3, rfl, -, -⟩ := own_form HI.out.2.1.own
        go_wp2_with fail
        have ow0 := ses_ow HI.out.1
        simp only at ow0
        refine (bswap_any B 29 false s.ow wr ow0 (ses_fz HI.out.1 29)).mono ?_; rintro e V1 ⟨rfl, hV1⟩
        have hs1 : SesB V1 B { s with r := outR s s.ma, ow := false } := by rw [hV1]; exact blk_set (show Blk wr.drew B 75 _ from HI.out.1) 29 (.int .u32 (bit false))
        have hc1 : Ch (fun i => i = B) wr V1 := by rw [hV1]; exact (Ch.drew _ _).trans (Ch.setCell _ ⟨B, 29, none⟩ _) (fun i hi => .inl hi)
        have HPK1 := Lib.hid (packs_ch HI.out.2.1 hc1 (fun i h1 _ e => by omega))
        have hT1 := blk_ch HI.out.2.2.2.1 hc1 (fun e => by omega)
        have HC1 := Lib.hid (HI.out.2.2.2.2.trans hc1 (fun i hi => .inl hi))
        have HMP := Lib.hid HI.out.2.2.1
        have p1 := ses_pe hs1
        simp only at p1
        have l0 : V1.cell? ⟨T, 0, none⟩ = some (.int .i64 s.ep) := blk_cell hT1 0 _ rfl
        have l1 : V1.cell? ⟨T, 1, none⟩ = some (.int .i64 s.pe) := blk_cell hT1 1 _ rfl
        have l2 : V1.cell? ⟨T, 2, none⟩ = some (.int .i64 0) := blk_cell hT1 2 _ rfl
        have l3 : V1.cell? ⟨T, 3, none⟩ = some (.int .i64 s.ca) := blk_cell hT1 3 _ rfl
        have l4 : V1.cell? ⟨T, 4, none⟩ = some (.slice none 0 0) := blk_cell hT1 4 _ rfl
        have HS1 := Lib.hid hs1; have HT1 := Lib.hid hT1
        obtain ⟨ow, how⟩ : ∃ x, x = s.ow := ⟨_, rfl⟩
        rw [← how]
        have HOW := Lib.hid how
        clear hV1 hs1 hc1 hT1 HI how
        by_cases hz : ps.length = 0
        rotate_left
        · have gz : ((ps.length : Int) == 0) = false := by simpa using hz
          have HALL := Lib.hid (show outAll s bd = outL s bd s.ma by unfold outAll; rw [if_neg (fun h => hz (by rw [← List.length_map (f := fun p : Pk × Option Addr × Nat × Nat => p.1), HMP.out]; exact h.1))])
          go_wp2
          go_ret
          exact ⟨_, ps, rfl, HS1.out, packs_base (base' := w.heap.size) HPK1.out (by have := HTT.out; omega), by rw [HALL.out]; exact HMP.out, HC1.out⟩
        have gz : ((ps.length : Int) == 0) = true := by simpa using hz
        have HL0 := Lib.hid (show (outL s bd s.ma).length = 0 by rw [← HMP.out, List.length_map]; exact hz)
        cases ow
        · by_cases hpe : s.pe = 0
          · have gpe : (s.pe == 0) = true := by simpa using hpe
            have HALL := Lib.hid (show outAll s bd = [⟨s.ep, s.pe, 0, s.ca, []⟩] by unfold outAll; rw [if_pos ⟨HL0.out, .inr hpe⟩])
            clear hpe
            obtain rfl : ps = [] := List.eq_nil_of_length_eq_zero hz
            have hsz1 : T + 1 ≤ V1.heap.size := blk_lt HT1.out
            go_wp2_with (at_builtin; refine wpList_add2 V1 rfl (.tmp 87) (.tmp 89) 28 rfl (T + 1) 33 _ 5 56 Try.underlying28 info33 rfl (by decide) (.slice A3 0 c3) 0 [] rfl (show V1.ownsRow (T + 1) 33 5 (.slice A3 0 c3) 0 [] from HPK1.out.own) #[.int .i64 s.ep, .int .i64 s.pe, .int .i64 0, .int .i64 s.ca, .slice none 0 0] 33 rfl rfl (by simp [Value.oneCell']) (by simp [maxLen]) (by omega) (by omega) ?_; intro v2 V6 hown2 hnn2 hch2 hat2)
            go_ret
            have hou : ∀ i, (Value.slice A3 0 c3).ownBlock = some i → T + 1 ≤ i := fun i hi => (HPK1.out.own.lt i hi).1
            refine ⟨v2, [(⟨s.ep, s.pe, 0, s.ca, []⟩, none, 0, 0)], rfl, sesB_ch HS1.out hch2 (fun e => by have := hou _ e; omega), packs_base (base' := w.heap.size) (packs_add (ps := []) HPK1.out (p := (⟨s.ep, s.pe, 0, s.ca, []⟩, none, 0, 0)) (held_nil _ _) (fun a ha => by cases ha) hown2 hch2 (hat2.imp id (fun h => ⟨_, h, by omega⟩))) (by have := HTT.out; omega), ?_, HC1.out.trans hch2 (fun i hi => .inr (by have := hou _ hi; have := HTT.out; omega))⟩
            rw [HALL.out]
            rfl
          · have gpe : (s.pe == 0) = false := by simpa using hpe
            have HALL := Lib.hid (show outAll s bd = outL s bd s.ma by unfold outAll; rw [if_neg (fun h => h.2.elim (fun h1 => by rw [← HOW.out] at h1; cases h1) hpe)])
            obtain rfl : ps = [] := List.eq_nil_of_length_eq_zero hz
            go_wp2
            have hTw := HTT.out
            have hpkF := packs_base (base' := w.heap.size) HPK1.out (by omega)
            go_ret
            exact ⟨_, [], rfl, HS1.out, hpkF, by rw [HALL.out]; exact HMP.out, HC1.out⟩
        · have HALL := Lib.hid (show outAll s bd = [⟨s.ep, s.pe, 0, s.ca, []⟩] by unfold outAll; rw [if_pos ⟨HL0.out, .inl HOW.out.symm⟩])
          obtain rfl : ps = [] := List.eq_nil_of_length_eq_zero hz
          have hsz1 : T + 1 ≤ V1.heap.size := blk_lt HT1.out
          go_wp2_with (at_builtin; refine wpList_add2 V1 rfl (.tmp 87) (.tmp 89) 28 rfl (T + 1) 33 _ 5 56 Try.underlying28 info33 rfl (by decide) (.slice A3 0 c3) 0 [] rfl (show V1.ownsRow (T + 1) 33 5 (.slice A3 0 c3) 0 [] from HPK1.out.own) #[.int .i64 s.ep, .int .i64 s.pe, .int .i64 0, .int .i64 s.ca, .slice none 0 0] 33 rfl rfl (by simp [Value.oneCell']) (by simp [maxLen]) (by omega) (by omega) ?_; intro v2 V6 hown2 hnn2 hch2 hat2)
          go_ret
          have hou : ∀ i, (Value.slice A3 0 c3).ownBlock = some i → T + 1 ≤ i := fun i hi => (HPK1.out.own.lt i hi).1
          refine ⟨v2, [(⟨s.ep, s.pe, 0, s.ca, []⟩, none, 0, 0)], rfl, sesB_ch HS1.out hch2 (fun e => by have := hou _ e; omega), packs_base (base' := w.heap.size) (packs_add (ps := []) HPK1.out (p := (⟨s.ep, s.pe, 0, s.ca, []⟩, none, 0, 0)) (held_nil _ _) (fun a ha => by cases ha) hown2 hch2 (hat2.imp id (fun h => ⟨_, h, by omega⟩))) (by have := HTT.out; omega), ?_, HC1.out.trans hch2 (fun i hi => .inr (by have := hou _ hi; have := HTT.out; omega))⟩
          rw [HALL.out]
          rfl
end Go.Proofs.Ytadcahnoghnkcaa
