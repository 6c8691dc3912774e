/- Walks: the two readers, thing by thing. Conditions: the readers are as Open made them; at most 10^9 bytes. -/
import Derived.Test.YtondodhpmghogaaL5
import Derived.Deep.RegionHeld3
import Derived.Deep.RegionLaw
namespace Go.Proofs.Ytondodhpmghogaa
open Go.RowKit
set_option linter.unusedVariables false
set_option linter.unusedSimpArgs false

theorem rdb_ch0 {S : Nat → Prop} {w w' : World} {R : Nat} {A : Option Addr} {n c : Nat} {s : Rdr} (h : RdB w R A n c s) (hc : Ch S w w') (h1 : ¬ S R) (h2 : ∀ a, A = some a → 0 < n → ¬ S a.block) : RdB w' R A n c s := ⟨blk_ch h.blk hc h1, h.rd.ch0 hc h2, h.far, h.fit⟩
/-- the two readers, apart from each other, at the same place with the same fault -/
structure Rs (w : World) (R V : Nat) (A : Option Addr) (n c : Nat) (A2 : Option Addr) (n2 c2 : Nat) (s : Rdr) : Prop where
  rb : RdB w R A n c s
  rr : RRd w V A2 n2 c2 s
  ne : R ≠ V
  fa : ∀ a, A = some a → 0 < n → a.block ≠ V
  fb : ∀ a, A2 = some a → 0 < n2 → a.block ≠ R
theorem rs_ch {S : Nat → Prop} {w w' : World} {R V : Nat} {A : Option Addr} {n c : Nat} {A2 : Option Addr} {n2 c2 : Nat} {s : Rdr} (h : Rs w R V A n c A2 n2 c2 s) (hc : Ch S w w') (h1 : ¬ S R) (h2 : ¬ S V) (h3 : ∀ a, A = some a → 0 < n → ¬ S a.block) (h4 : ∀ a, A2 = some a → 0 < n2 → ¬ S a.block) : Rs w' R V A n c A2 n2 c2 s :=
  ⟨rdb_ch0 h.rb hc h1 h3, rrd_ch h.rr hc h2 h4, h.ne, h.fa, h.fb⟩
theorem rs_below {w w' : World} {R V : Nat} {A : Option Addr} {n c : Nat} {A2 : Option Addr} {n2 c2 : Nat} {s : Rdr} (h : Rs w R V A n c A2 n2 c2 s) (hb : Below w.heap.size w w') : Rs w' R V A n c A2 n2 c2 s := rs_ch h (Ch.of_below hb No) id id (fun _ _ _ => id) (fun _ _ _ => id)
/-- what a thing that is read leaves -/
def askS (s : Rdr) (x : Ask) : Rdr := if x.k = 0 then (rnum s x.lo x.hi).2 else (rraw s x.hi).2
theorem askS_b (s : Rdr) (x : Ask) : (askS s x).b = s.b := by
  unfold askS; split
  · exact rnum_b _ _ _
  · exact rraw_b _ _
def ReadQ (w : World) (R V : Nat) (A : Option Addr) (n c : Nat) (A2 : Option Addr) (n2 c2 : Nat) (s : Rdr) (e : Ending) (w' : World) : Prop := e = .returned (.bool true) ∧ Rs w' R V A n c A2 n2 c2 s ∧ Ch (fun k => k = R ∨ k = V) w w'
set_option maxRecDepth 100000 in
set_option maxHeartbeats 4000000 in
theorem read_any {w : World} {R V : Nat} {A : Option Addr} {n c : Nat} {A2 : Option Addr} {n2 c2 : Nat} {s : Rdr} (h : Rs w R V A n c A2 n2 c2 s) (hn : n ≤ 1000000000) (hn2 : n2 ≤ 1000000000) (x : Ask) :
    Calls Try.prog 29 #[.pointer (some ⟨R, 0, none⟩), .pointer (some ⟨V, 0, none⟩), .agg x.cells.toArray] w (ReadQ w R V A n c A2 n2 c2 (askS s x)) := by
  obtain ⟨k, lo, hi⟩ := x
  have hbx := box_below w (.cells #[.int .i64 k, .int .i64 lo, .int .i64 hi] 44)
  have hblk := blk_new w 44 #[.int .i64 k, .int .i64 lo, .int .i64 hi]
  have hR := rdb_lt h.rb
  have hV := rrd_lt h.rr
  have c0 := blk_cell hblk 0 _ rfl
  have c1 := blk_cell hblk 1 _ rfl
  have c2' := blk_cell hblk 2 _ rfl
  obtain ⟨w1, hw1⟩ : ∃ y, y = w.alloc (.cells #[.int .i64 k, .int .i64 lo, .int .i64 hi] 44) := ⟨_, rfl⟩
  rw [← hw1] at hbx hblk c0 c1 c2'
  have H := Lib.hid (rs_below h hbx)
  have HBX := Lib.hid hbx; have HBLK := Lib.hid hblk
  have hk1 : ∀ w', Ch (fun k => k = R) w1 w' → Blk w' w.heap.size 44 #[.int .i64 k, .int .i64 lo, .int .i64 hi] := fun w' hc => blk_ch HBLK.out hc (by omega)
  have HK1 := Lib.hid hk1
  have hs1 : ∀ w' s', Ch (fun k => k = R) w1 w' → RdB w' R A n c s' → RRd w' V A2 n2 c2 s := fun w' s' hc hb => rrd_ch H.out.rr hc (fun e => H.out.ne e.symm) (fun a ha h0 => H.out.fb a ha h0)
  have HS1 := Lib.hid hs1
  have hs2 : ∀ w' w'' s', Ch (fun k => k = R) w1 w' → RdB w' R A n c s' → Ch (fun k => k = V) w' w'' → RRd w'' V A2 n2 c2 s' → Rs w'' R V A n c A2 n2 c2 s' ∧ Ch (fun k => k = R ∨ k = V) w w'' := fun w' w'' s' hc hb hc2 hr =>
    ⟨⟨rdb_ch0 hb hc2 H.out.ne (fun a ha h0 => H.out.fa a ha h0), hr, H.out.ne, H.out.fa, H.out.fb⟩, ((Ch.of_below HBX.out _).trans hc (fun i hi => .inl (.inl hi))).trans hc2 (fun i hi => .inl (.inr hi))⟩
  have HS2 := Lib.hid hs2
  clear h hbx hblk hk1 hs1 hs2
  show Calls Try.prog 29 #[.pointer (some ⟨R, 0, none⟩), .pointer (some ⟨V, 0, none⟩), .agg #[.int .i64 k, .int .i64 lo, .int .i64 hi]] w _
  by_cases h0 : k = 0
  · have hres : askS s ⟨k, lo, hi⟩ = (rnum s lo hi).2 := by unfold askS; rw [if_pos h0]
    rw [hres]
    have g1 : (k == 0) = true := by simpa using h0
    clear h0 hres
    generalize hq : rnum s lo hi = q
    have HQ := Lib.hid hq
    clear hq
    go_enter Try.func29, Try.ntmps29
    go_wp2_with fail
    rw [← hw1]
    clear hw1
    go_region_held3 (fun W => W.cell? ⟨w.heap.size, 1, none⟩ = some (.int .i64 lo) ∧ W.cell? ⟨w.heap.size, 2, none⟩ = some (.int .i64 hi))
      (first | exact ⟨c1, c2'⟩ | exact ⟨d1, d2⟩ | exact ⟨e1, e2⟩)
      (first | (go_at_call 37; refine (num_any (rdb_ch H.out.rb (Ch.drew w1 No) id (fun _ _ => id)) lo hi).mono ?_; rw [HQ.out]; rintro e w2 ⟨rfl, hb2, hch2⟩; have hc2 : Ch (fun k => k = R) w1 w2 := (Ch.drew w1 _).trans hch2 (fun i hi => .inl hi); have hr2 := HS1.out w2 _ hc2 hb2; have hk2 := HK1.out w2 hc2; have d1 := blk_cell hk2 1 _ rfl; have d2 := blk_cell hk2 2 _ rfl) | (go_at_call 68; refine (rn_any hr2 lo hi).mono ?_; rw [HQ.out]; rintro e w3 ⟨rfl, hr3, hch3⟩; have hk3 := blk_ch hk2 hch3 (by omega); have e1 := blk_cell hk3 1 _ rfl; have e2 := blk_cell hk3 2 _ rfl))
    go_wp2
    go_ret
    exact ⟨by simp, HS2.out w2 w3 _ hc2 hb2 hch3 hr3⟩
  have g1 : (k == 0) = false := by simpa using h0
  have hres : askS s ⟨k, lo, hi⟩ = (rraw s hi).2 := by unfold askS; rw [if_neg h0]
  rw [hres]
  clear h0 hres
  generalize hq : rraw s hi = q
  have HQ := Lib.hid hq
  clear hq
  by_cases h1 : k = 1
  · have g2 : (k == 1) = true := by simpa using h1
    clear h1
    go_enter Try.func29, Try.ntmps29
    go_wp2_with fail
    rw [← hw1]
    clear hw1
    go_region_held3 (fun W => W.cell? ⟨w.heap.size, 2, none⟩ = some (.int .i64 hi))
      (first | exact c2' | exact d2 | exact e2)
      (first | (go_at_call 38; refine (text_any (rdb_ch H.out.rb (Ch.drew w1 No) id (fun _ _ => id)) hn hi).mono ?_; rw [HQ.out]; rintro e w2 ⟨rfl, hb2, hch2⟩; have hc2 : Ch (fun k => k = R) w1 w2 := (Ch.drew w1 _).trans hch2 (fun i hi => .inl hi); have hr2 := HS1.out w2 _ hc2 hb2; have hk2 := HK1.out w2 hc2; have d2 := blk_cell hk2 2 _ rfl) | (go_at_call 69; refine (rrtext_any hr2 hn2 hi).mono ?_; rw [HQ.out]; rintro e w3 ⟨rfl, hr3, hch3⟩; have hk3 := blk_ch hk2 hch3 (by omega); have e2 := blk_cell hk3 2 _ rfl))
    go_wp2
    go_ret
    exact ⟨by simp, HS2.out w2 w3 _ hc2 hb2 hch3 hr3⟩
  have g2 : (k == 1) = false := by simpa using h1
  clear h1
  go_enter Try.func29, Try.ntmps29
  go_wp2_with fail
  rw [← hw1]
  clear hw1
  refine (raw_any H.out.rb hn hi).mono ?_
  rw [HQ.out]
  rintro e w2 ⟨A', n', c', rfl, hh2, hb2, hc2⟩
  have HR2 := Lib.hid (HS1.out w2 _ hc2 hb2); have hk2 := HK1.out w2 hc2
  have d2 := blk_cell hk2 2 _ rfl
  have HH2 := Lib.hid hh2; have HB2 := Lib.hid hb2; have HC2 := Lib.hid hc2
  have hz2 := hc2.size
  clear hh2 hb2 hc2 hk2
  go_wp2_with fail
  refine (rrraw_any HR2.out hn2 hi).mono ?_
  rw [HQ.out]
  rintro e w3 ⟨A3, n3, c3, rfl, hd3, _, hr3, hch3⟩
  have hV2 : V < w1.heap.size := rrd_lt H.out.rr
  have HH3 := Lib.hid (held_ch HH2.out hch3 (fun a ha e => by have := held_lt HH2.out a ha; have e : a.block = V := e; omega))
  have HD3 := Lib.hid hd3; have HR3 := Lib.hid hr3; have HC3 := Lib.hid hch3
  clear hd3 hr3 hch3
  go_wp2_with fail
  refine (same_any _ _ _ _ _ _ _ _ _ (held_rd HH3.out) HD3.out).mono ?_
  rw [eqB_self]
  rintro e w4 ⟨rfl, rfl⟩
  go_wp2_with fail
  refine (over_held HH3.out).mono ?_
  rintro e w4 ⟨rfl, hch4⟩
  go_wp2
  go_ret
  obtain ⟨k1, k2⟩ := HS2.out w2 w3 _ HC2.out HB2.out HC3.out HR3.out
  have hz := HBX.out.size
  have hR1 := rdb_lt H.out.rb
  have hA1 : ∀ a, A = some a → 0 < n → a.block < w1.heap.size := fun a ha h0 => rd_in H.out.rb.rd a ha h0
  have hA2 : ∀ a, A2 = some a → 0 < n2 → a.block < w1.heap.size := fun a ha h0 => rd_in H.out.rr.rd a ha h0
  exact ⟨rfl, ⟨⟨blk_ch k1.rb.blk hch4 (by omega), k1.rb.rd.ch0 hch4 (fun a ha h0 e => by have := hA1 a ha h0; omega), k1.rb.far, k1.rb.fit⟩, rrd_ch k1.rr hch4 (by omega) (fun a ha h0 e => by have := hA2 a ha h0; omega), k1.ne, k1.fa, k1.fb⟩, k2.trans hch4 (fun i hi => .inr (by omega))⟩
end Go.Proofs.Ytondodhpmghogaa
