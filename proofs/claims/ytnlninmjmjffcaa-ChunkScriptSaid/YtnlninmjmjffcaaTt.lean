/- Walk: SameMessages, of two rows of the same pieces. No conditions. -/
import Derived.Test.YtnlninmjmjffcaaTs
import Derived.Deep.RegionHeld3
namespace Go.Proofs.Ytnlninmjmjffcaa
open Go.RowKit
set_option linter.unusedVariables false
set_option linter.unusedSimpArgs false

/-- message j of a row of pieces, as it lies -/
theorem parts_get {w : World} {base : Nat} {item : Int} {b : List UInt8} {f : Nat → Int} {N g cv : Nat} {gs : List (Nat × Nat)} (h : Parts w base item b f N (.slice (some ⟨g, 0, none⟩) N cv) gs) {k : Nat} (hk : k < N) :
    ∃ gk ck, w.cell? ⟨g, k * 5, none⟩ = some (.int .i64 1) ∧ w.cell? ⟨g, k * 5 + 1, none⟩ = some (.int .i64 item) ∧ w.cell? ⟨g, k * 5 + 2, none⟩ = some (.int .i64 (b.length : Int)) ∧ w.cell? ⟨g, k * 5 + 3, none⟩ = some (.int .i64 (f k)) ∧
      w.cell? ⟨g, k * 5 + 4, none⟩ = some (.slice (some ⟨gk, 0, none⟩) (plen b.length k) ck) ∧ Byt w gk 5 ck (piece b k) ∧ base ≤ gk ∧ gk ≠ g ∧ gs[k]? = some (gk, ck) := by
  have hl := h.len
  obtain ⟨g', cv', e, _, _, hrow⟩ := own_row h.own (own_some h.own (by omega))
  cases e
  have hgs : gs[k]? = some (gs[k]'(by omega)) := by simp
  obtain ⟨h1, h2, h3⟩ := h.each k _ _ hgs
  have key : ∀ i u, i < 5 → (mcell item b.length (f k) (plen b.length k) (gs[k]'(by omega)).1 (gs[k]'(by omega)).2)[i]? = some u → w.cell? ⟨g, k * 5 + i, none⟩ = some u := by
    intro i u hi hu
    refine hrow.cell ?_
    rw [pcells_get _ _ _ _ _ _ hi, hgs, Option.bind_some]
    exact hu
  exact ⟨_, _, key 0 _ (by omega) rfl, key 1 _ (by omega) rfl, key 2 _ (by omega) rfl, key 3 _ (by omega) rfl, key 4 _ (by omega) rfl, h1, h2, fun e => h3 (congrArg some e.symm), hgs⟩
theorem byt_rd {w : World} {g c n : Nat} {l : List UInt8} (h : Byt w g 5 c l) (hn : l.length = n) : Rd w (some ⟨g, 0, none⟩) n c 1 (u8s l) := by
  subst hn
  exact (byt_row h).rd 0 _ c _ (by rw [List.drop_zero, Nat.mul_one, List.take_of_length_le (by simp)]) (by simp) (byt_fits h) h.big
theorem eqM_self (k i s a : Int) (l : List UInt8) : eqM k i s a l k i s a l = true := by simp [eqM, eqB]

set_option maxHeartbeats 1000000 in
theorem sameMsgs_parts {base base' : Nat} {item : Int} {b : List UInt8} {f : Nat → Int} {N : Nat} {v v' : Value} {gs gs' : List (Nat × Nat)} {w : World} (h : Parts w base item b f N v gs) (h' : Parts w base' item b f N v' gs') (hN : 1 ≤ N) (hN2 : N ≤ 100000) :
    Calls Try.prog 35 #[v, v'] w fun e w' => e = .returned (.bool true) ∧ Below w.heap.size w w' := by
  obtain ⟨g, cv, rfl, _, hc, hrow⟩ := own_row h.own (own_some h.own (by omega))
  obtain ⟨g', cv', rfl, _, hc', hrow'⟩ := own_row h'.own (own_some h'.own (by omega))
  have HP := Lib.hid h; have HP' := Lib.hid h'
  clear h h' hrow hrow' hc hc'
  go_enter Try.func35, Try.ntmps35
  go_wp2
  go_loopw [5] (fun i wr => ∃ k : Nat, k ≤ N ∧ i = .int .i64 k ∧ Below w.heap.size w wr) (fun i _ => N - (intOf i).toNat)
  case atStart => exact ⟨0, Nat.zero_le _, rfl, Below.refl _ _⟩
  case round =>
    obtain ⟨k, hk, rfl, hB⟩ := hrel
    by_cases hlt : k < N
    · obtain ⟨gk, ck, c0, c1, c2, c3, c4, hb, -, -, -⟩ := parts_get (parts_below HP.out hB) hlt
      obtain ⟨gk', ck', d0, d1, d2, d3, d4, hb', -, -, -⟩ := parts_get (parts_below HP'.out hB) hlt
      have hR := Lib.hid (byt_rd hb (piece_len b k))
      have hR' := Lib.hid (byt_rd hb' (piece_len b k))
      have HB := Lib.hid hB
      clear hb hb' hB
      go_wp2
      go_region_held3 (fun W => (W.cell? ⟨g, k * 5, none⟩ = some (.int .i64 1) ∧ W.cell? ⟨g, k * 5 + 1, none⟩ = some (.int .i64 item) ∧ W.cell? ⟨g, k * 5 + 2, none⟩ = some (.int .i64 (b.length : Int)) ∧ W.cell? ⟨g, k * 5 + 3, none⟩ = some (.int .i64 (f k)) ∧ W.cell? ⟨g, k * 5 + 4, none⟩ = some (.slice (some ⟨gk, 0, none⟩) (plen b.length k) ck)) ∧
        W.cell? ⟨g', k * 5, none⟩ = some (.int .i64 1) ∧ W.cell? ⟨g', k * 5 + 1, none⟩ = some (.int .i64 item) ∧ W.cell? ⟨g', k * 5 + 2, none⟩ = some (.int .i64 (b.length : Int)) ∧ W.cell? ⟨g', k * 5 + 3, none⟩ = some (.int .i64 (f k)) ∧ W.cell? ⟨g', k * 5 + 4, none⟩ = some (.slice (some ⟨gk', 0, none⟩) (plen b.length k) ck'))
        (first | exact ⟨⟨c0, c1, c2, c3, c4⟩, d0, d1, d2, d3, d4⟩ | exact ⟨⟨below_cell hb1 c0, below_cell hb1 c1, below_cell hb1 c2, below_cell hb1 c3, below_cell hb1 c4⟩, below_cell hb1 d0, below_cell hb1 d1, below_cell hb1 d2, below_cell hb1 d3, below_cell hb1 d4⟩)
        (first | (go_at_call 45; refine (sameMsg_any 1 item b.length (f k) 1 item b.length (f k) _ _ _ _ _ _ (piece b k) (piece b k) _ (hR.out.ch (Ch.drew _ No) (fun _ _ => id)) (hR'.out.ch (Ch.drew _ No) (fun _ _ => id))).mono ?_; rintro e w1 ⟨rfl, hb1⟩; rw [eqM_self]))
      go_wp2
      go_roundw
      case rel => exact ⟨k + 1, by omega, by go_num, HB.out.trans (((Ch.drew wr No).below HB.out.size (fun _ h => h.elim)).trans (hb1.mono HB.out.size))⟩
      case measure => simp [intOf]; omega
    · obtain rfl : k = N := by omega
      go_wp2
      go_ret
      exact ⟨rfl, hB⟩

set_option maxHeartbeats 400000 in
theorem sameMsgs_nil (w : World) : Calls Try.prog 35 #[.slice none 0 0, .slice none 0 0] w fun e w' => e = .returned (.bool true) ∧ w = w' := by
  go_enter Try.func35, Try.ntmps35
  go_wp2
  go_loop [5] (fun i => i = .int .i64 0) (fun _ => 0)
  case atStart => rfl
  case round =>
    subst hrel
    go_wp2
    go_ret
    exact ⟨rfl, rfl⟩

end Go.Proofs.Ytnlninmjmjffcaa
