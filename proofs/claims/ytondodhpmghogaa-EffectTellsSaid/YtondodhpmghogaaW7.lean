/- Walks: the reference's Num, Raw, Text, Out of the writer. Conditions: what is handed in is short and lies apart from it. -/
import Derived.Test.YtondodhpmghogaaW6
namespace Go.Proofs.Ytondodhpmghogaa
open Go.RowKit
set_option linter.unusedVariables false
set_option linter.unusedSimpArgs false

theorem rput_ok (b : List UInt8) (e : Int) (k : List UInt8) : rput b e k 0 = wput b e k := by
  unfold rput wput
  by_cases he : e = 0
  · subst he; simp
  · simp [he]
set_option maxRecDepth 100000 in
set_option maxHeartbeats 1000000 in
theorem rwnum_any {w : World} {V : Nat} {v : Value} {b : List UInt8} {e : Int} (h : RW w V v b e) (hb : b.length ≤ 1048576) (n : Int) (hn : n ≤ 9223372036854775807) :
    Calls Try.prog 63 #[.pointer (some ⟨V, 0, none⟩), .int .i64 n] w (RPutQ w V v (wnum b e n)) := by
  have H := Lib.hid h
  have hV := rw_lt h
  obtain ⟨r, hrr⟩ : ∃ r, r = wnum b e n := ⟨_, rfl⟩
  rw [← hrr]
  clear h
  by_cases hr : n < 0 ∨ 4611686018427387903 < n
  · have hr1 : rput b e [] 5 = r := by rw [hrr]; unfold wnum rput; simp [hr]
    have g1 : (decide (n < 0) = false → decide (4611686018427387903 < n) = true) := by intro h1; simp at h1 ⊢; omega
    clear hrr
    by_cases h0 : n < 0
    · go_enter Try.func63, Try.ntmps63
      go_wp2_with fail
      refine (rput_any H.out hb (l := []) (nil_rd w 1) (by decide) (fun a ha => by cases ha) 5).mono ?_
      rw [hr1]
      rintro e2 w2 ⟨he, v', hQ⟩
      cases he
      go_wp2
      exact bodyPost_ret (results_none rfl _ _ _) rfl ⟨rfl, v', hQ⟩
    · have h1 : 4611686018427387903 < n := by omega
      go_enter Try.func63, Try.ntmps63
      go_wp2_with fail
      refine (rput_any H.out hb (l := []) (nil_rd w 1) (by decide) (fun a ha => by cases ha) 5).mono ?_
      rw [hr1]
      rintro e2 w2 ⟨he, v', hQ⟩
      cases he
      go_wp2
      exact bodyPost_ret (results_none rfl _ _ _) rfl ⟨rfl, v', hQ⟩
  · obtain ⟨N, rfl⟩ : ∃ N : Nat, n = N := ⟨n.toNat, by omega⟩
    have hr1 : rput b e (frm N) 0 = r := by
      rw [rput_ok, hrr]; unfold wnum; rw [if_neg hr]
      by_cases he : e = 0
      · subst he; simp
      · unfold wput; simp [he]
    have h9 := frm_len9 N
    clear hrr
    have g1 : decide ((N : Int) < 0) = false := by simp
    have g2 : decide ((4611686018427387903 : Int) < N) = false := by simp; omega
    have hN : N < 9223372036854775808 := by omega
    go_enter Try.func63, Try.ntmps63
    go_wp2_with (go_at_call 78; refine (rform_any N hN _).mono ?_; rintro e w1 ⟨g, c', rfl, hg, hc', hrow, hbel⟩)
    refine (rput_any (rw_ch H.out (Ch.of_below hbel No) id (fun _ _ => id)) hb (row_u8_rd hrow rfl hc') (by omega) (fun a ha => by cases ha; simp; omega) 0).mono ?_
    rw [hr1]
    rintro e2 w2 hput
    obtain ⟨he, v', hQ⟩ := rputq_of hbel hput
    cases he
    go_wp2
    exact bodyPost_end (results_none rfl _ _ _) rfl ⟨rfl, v', hQ⟩

set_option maxRecDepth 100000 in
set_option maxHeartbeats 1000000 in
theorem rwraw_any {w : World} {V : Nat} {v : Value} {b : List UInt8} {e : Int} (h : RW w V v b e) (hb : b.length ≤ 1048576) {A : Option Addr} {n c : Nat} {l : List UInt8} (hr : Rd w A n c 1 (u8s l)) (hn : n ≤ 100000000) :
    Calls Try.prog 65 #[.pointer (some ⟨V, 0, none⟩), .slice A n c] w (RPutQ w V v (wraw b e l)) := by
  have hl : l.length = n := by have := hr.len; simpa using this
  have H := Lib.hid h
  have hV := rw_lt h
  have h9 := frm_len9 n
  obtain ⟨r, hrr⟩ : ∃ r, r = wraw b e l := ⟨_, rfl⟩
  rw [← hrr]
  have hr1 : rput b e (frm n ++ l) 0 = r := by rw [rput_ok, hrr]; unfold wraw; rw [hl]
  have HR := Lib.hid hr; have HL := Lib.hid hl; have HE := Lib.hid hr1
  clear h hr hl hrr hr1
  go_enter Try.func65, Try.ntmps65
  go_wp2_with (first | (go_at_call 78; refine (rform_any n (by omega) _).mono ?_; rintro e w1 ⟨g, c', rfl, hg, hc', hrow, hbel⟩; have hsz := hbel.size) | (at_builtin; refine wpList_app_row w1 rfl _ _ 26 rfl w.heap.size 5 _ 1 1 Try.underlying26 info5 rfl (by decide) g (frm n).length c' (u8s (frm n)) rfl hrow hg (by rw [u8s_length, Nat.mul_one]) hc' A n c (u8s l) rfl (HR.out.below hbel) (u8s_one l) (by simp [maxLen]; omega) (by omega) hsz ?_; intro g2 c2 w2 hrow2 hnc2 hbg2 hat2 hch2))
  have hbel2 : Below w.heap.size w w2 := hbel.trans (hch2.below hsz (fun k hk => by omega))
  rw [← u8s_append] at hrow2
  refine (rput_any (rw_ch H.out (Ch.of_below hbel2 No) id (fun _ _ => id)) hb (row_u8_rd hrow2 (by rw [List.length_append, HL.out]) hnc2) (by omega) (fun a ha => by cases ha; simp; omega) 0).mono ?_
  rw [HE.out]
  rintro e2 w3 hput
  obtain ⟨he, v', hQ⟩ := rputq_of hbel2 hput
  cases he
  go_wp2
  exact bodyPost_end (results_none rfl _ _ _) rfl ⟨rfl, v', hQ⟩

set_option maxRecDepth 100000 in
set_option maxHeartbeats 1000000 in
theorem rwtext_any {w : World} {V : Nat} {v : Value} {b : List UInt8} {e : Int} (h : RW w V v b e) (hb : b.length ≤ 1048576) (s : ByteArray) (hn : s.size ≤ 100000000) :
    Calls Try.prog 64 #[.pointer (some ⟨V, 0, none⟩), .string s] w (RPutQ w V v (wraw b e s.data.toList)) := by
  have H := Lib.hid h
  obtain ⟨r, hrr⟩ : ∃ r, r = wraw b e s.data.toList := ⟨_, rfl⟩
  have HRR := Lib.hid hrr
  rw [← hrr]
  clear h hrr
  obtain ⟨c, w1, hcv, hrd, hbel⟩ := conv_bytes (P := Try.prog) w 9 26 5 s Try.underlying9 Try.underlying26 Try.underlying5 (by omega)
  have HR := Lib.hid hrd
  have HBel := Lib.hid hbel
  clear hrd hbel
  go_enter Try.func64, Try.ntmps64
  go_wp2_with fail
  refine (rwraw_any (rw_ch H.out (Ch.of_below HBel.out No) id (fun _ _ => id)) hb HR.out (by omega)).mono ?_
  rintro e2 w2 hput
  have hput' := rputq_of HBel.out hput
  rw [← HRR.out] at hput'
  obtain ⟨he, v', hQ⟩ := hput'
  cases he
  go_wp2
  exact bodyPost_end (results_none rfl _ _ _) rfl ⟨rfl, v', hQ⟩

def ROutQ (w : World) (b : List UInt8) (e : Int) (E : Ending) (w' : World) : Prop := ∃ A n c, E = .returned (.tuple #[.slice A n c, .int .i64 e]) ∧ Rd w' A n c 1 (u8s (if e = 0 then b else [])) ∧ (∀ a, A = some a → w.heap.size ≤ a.block) ∧ Below w.heap.size w w'
set_option maxRecDepth 100000 in
set_option maxHeartbeats 1000000 in
theorem rout_any {w : World} {V : Nat} {v : Value} {b : List UInt8} {e : Int} (h : RW w V v b e) (hb : b.length ≤ 1048576) :
    Calls Try.prog 20 #[.pointer (some ⟨V, 0, none⟩)] w (ROutQ w b e) := by
  have c1 : w.cell? ⟨V, 1, none⟩ = some (.int .i64 e) := blk_cell h.blk 1 _ rfl
  by_cases he : e ≠ 0
  · have g2 : (e != 0) = true := by simpa using he
    go_enter Try.func20, Try.ntmps20
    go_wp2
    go_quiet (fail)
    go_wp2
    go_ret2
    exact ⟨none, 0, 0, rfl, by rw [if_neg he]; exact nil_rd _ _, (fun a ha => by cases ha), (ch_drewN No w _).below (Nat.le_refl _) (fun _ h => h.elim)⟩
  obtain rfl : e = 0 := Decidable.not_not.1 he
  clear he
  obtain ⟨A, c, rfl, hr, hA⟩ := rw_form h
  have c0 : w.cell? ⟨V, 0, none⟩ = some (.slice A b.length c) := blk_cell h.blk 0 _ rfl
  have hV := rw_lt h
  have d0 : (w.alloc (.cells #[] 5)).cell? ⟨V, 0, none⟩ = some (.slice A b.length c) := by rw [((Below.refl w.heap.size w).alloc (Nat.le_refl _) (.cells #[] 5)).cell hV]; exact c0
  have HR := Lib.hid (hr.ch (Ch.alloc w (.cells #[] 5) No) (fun _ _ => id))
  have HO := Lib.hid (row_lit w #[] 5 0 1 rfl (by omega))
  clear hr
  go_enter Try.func20, Try.ntmps20
  go_wp2_with (at_builtin; refine wpList_app_row _ rfl _ _ 26 rfl w.heap.size 5 _ 1 1 Try.underlying26 info5 rfl (by decide) _ 0 _ [] rfl HO.out (Nat.le_refl _) rfl (Nat.le_refl _) A b.length c (u8s b) rfl HR.out (u8s_one b) (by simp [maxLen]; omega) (by omega) (by simp) ?_; intro g' c' w1 hrow hnc hbg hat hch)
  go_ret2
  exact ⟨_, _, _, rfl, by rw [if_pos rfl]; exact row_u8_rd (by simpa using hrow) rfl (by omega), (fun a ha => by cases ha; exact hbg), ((Ch.alloc w _ No).trans hch (fun i hi => .inr (by omega))).below (Nat.le_refl _) (fun k hk => hk.elim)⟩
end Go.Proofs.Ytondodhpmghogaa
