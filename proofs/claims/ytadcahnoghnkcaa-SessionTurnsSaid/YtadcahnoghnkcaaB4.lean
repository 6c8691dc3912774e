/- Walks: making a session, asking it, turning it, ticking it. Conditions: the session is as New makes it. -/
import Derived.Test.YtadcahnoghnkcaaB3
namespace Go.Proofs.Ytadcahnoghnkcaa
open Go.RowKit
set_option linter.unusedVariables false
set_option linter.unusedSimpArgs false

def sesI (ep : Int) (b : Bool) : Ses := ⟨ep, 0, fun _ => ⟨none, 0, 0, false, 0⟩, 1, 0, 0, b, .slice none 0 0, 0⟩
def ses0 (ep : Int) : Ses := sesI ep true
def NewSQ (w : World) (ep : Int) (e : Ending) (w' : World) : Prop :=
  ((ep < 1 ∨ 1099511627776 < ep) ∧ e = .returned (.tuple #[.pointer none, .int .i64 2]) ∧ w' = w) ∨
  (1 ≤ ep ∧ ep ≤ 1099511627776 ∧ e = .returned (.tuple #[.pointer (some ⟨w.heap.size, 0, none⟩), .int .i64 0]) ∧ SesB w' w.heap.size (ses0 ep) ∧ Below w.heap.size w w')
set_option maxRecDepth 100000 in
set_option maxHeartbeats 1000000 in
theorem snew_any (ep : Int) (w : World) : Calls Try.prog 14 #[.int .i64 ep] w (NewSQ w ep) := by
  by_cases h0 : ep < 1
  · go_enter Try.func14, Try.ntmps14
    go_wp2
    exact bodyPost_ret (results_tmp2 rfl _ _ _) rfl (.inl ⟨.inl h0, rfl, rfl⟩)
  by_cases h1 : 1099511627776 < ep
  · go_enter Try.func14, Try.ntmps14
    go_wp2
    exact bodyPost_ret (results_tmp2 rfl _ _ _) rfl (.inl ⟨.inr h1, rfl, rfl⟩)
  · have hb0 : SesB (w.alloc (.cells (sesI ep false).cells.toArray 75)) w.heap.size (sesI ep false) := blk_new w 75 _
    have hf := ses_fz hb0 29
    have hc := ses_ow hb0
    have hbel : Below w.heap.size w (w.alloc (.cells (sesI ep false).cells.toArray 75)) := (Below.refl _ w).alloc (Nat.le_refl _) _
    obtain ⟨W, hW⟩ : ∃ W, W = w.alloc (.cells (sesI ep false).cells.toArray 75) := ⟨_, rfl⟩
    rw [← hW] at hb0 hf hc hbel
    have HB := Lib.hid hb0; have HBE := Lib.hid hbel; have HW := Lib.hid hW
    clear hb0 hbel hW
    go_enter Try.func14, Try.ntmps14
    go_wp2_with fail
    rw [show w.alloc (.cells #[.int .i64 ep, .int .i64 0, .slice none 0 0, .bool false, .int .i64 0, .slice none 0 0, .bool false, .int .i64 0, .slice none 0 0, .bool false, .int .i64 0, .slice none 0 0, .bool false, .int .i64 0, .slice none 0 0, .bool false, .int .i64 0, .slice none 0 0, .bool false, .int .i64 0, .slice none 0 0, .bool false, .int .i64 0, .slice none 0 0, .bool false, .int .i64 0, .int .i64 1, .int .i64 0, .int .i64 0, .int .u32 0, .slice none 0 0, .int .i64 0] 75) = W from HW.out.symm]
    refine (bstore_any w.heap.size 29 true _ W hc hf).mono ?_; rintro e w1 ⟨rfl, hw1⟩
    have hs : SesB w1 w.heap.size (ses0 ep) := by rw [hw1]; exact blk_set (show Blk W.drew w.heap.size 75 (sesI ep false).cells.toArray from HB.out) 29 (.int .u32 (bit true))
    have hb1 : Below w.heap.size w w1 := by
      rw [hw1]
      exact HBE.out.trans (((Ch.drew W (fun k => k = w.heap.size)).trans (Ch.setCell _ ⟨w.heap.size, 29, none⟩ _) (fun i hi => .inl hi)).below HBE.out.size (fun k hk => by omega))
    clear hw1
    go_wp2
    exact bodyPost_ret (results_tmp2 rfl _ _ _) rfl (.inr ⟨by omega, by omega, rfl, hs, hb1⟩)
set_option maxHeartbeats 400000 in
theorem speer_any {B : Nat} {s : Ses} {w : World} (h : SesB w B s) (h0 : s.ep ≠ 0) : Calls Try.prog 19 #[.pointer (some ⟨B, 0, none⟩)] w fun e w' => e = .returned (.int .i64 s.pe) ∧ w = w' := by
  have c0 := ses_pe h
  have H := Lib.hid h; clear h
  go_enter Try.func19, Try.ntmps19
  go_wp2_with fail
  refine (snone_any H.out h0).mono ?_; rintro e w1 ⟨rfl, rfl⟩
  go_wp2
  go_ret
  exact ⟨rfl, rfl⟩
set_option maxHeartbeats 400000 in
theorem swait_any {B : Nat} {s : Ses} {w : World} (h : SesB w B s) (h0 : s.ep ≠ 0) : Calls Try.prog 22 #[.pointer (some ⟨B, 0, none⟩)] w fun e w' => e = .returned (.int .i64 (s.ma : Int)) ∧ w = w' := by
  have c0 := ses_ma h
  have H := Lib.hid h; clear h
  go_enter Try.func22, Try.ntmps22
  go_wp2_with fail
  refine (snone_any H.out h0).mono ?_; rintro e w1 ⟨rfl, rfl⟩
  go_wp2
  go_ret
  exact ⟨rfl, rfl⟩
set_option maxHeartbeats 400000 in
theorem sturns_any {B : Nat} {s : Ses} {w : World} (h : SesB w B s) (h0 : s.ep ≠ 0) : Calls Try.prog 35 #[.pointer (some ⟨B, 0, none⟩)] w fun e w' => e = .returned (.int .i64 s.tu) ∧ w = w' := by
  have c0 := ses_tu h
  have H := Lib.hid h; clear h
  go_enter Try.func35, Try.ntmps35
  go_wp2_with fail
  refine (snone_any H.out h0).mono ?_; rintro e w1 ⟨rfl, rfl⟩
  go_wp2
  go_ret
  exact ⟨rfl, rfl⟩
set_option maxHeartbeats 400000 in
theorem stake_any {B : Nat} {s : Ses} {w : World} (h : SesB w B s) (h0 : s.ep ≠ 0) : Calls Try.prog 27 #[.pointer (some ⟨B, 0, none⟩)] w fun e w' => e = .returned s.inn ∧ SesB w' B { s with inn := .slice none 0 0 } ∧ Ch (fun k => k = B) w w' := by
  have c0 := ses_in h
  have f0 := ses_fz h 30
  have H := Lib.hid h; clear h
  go_enter Try.func27, Try.ntmps27
  go_wp2_with fail
  refine (snone_any H.out h0).mono ?_; rintro e w1 ⟨rfl, rfl⟩
  go_wp2
  go_ret
  exact ⟨rfl, blk_set H.out 30 (.slice none 0 0), Ch.setCell _ ⟨B, 30, none⟩ _⟩
/-- the session turned -/
def Ses.turned (s : Ses) (x : Int) : Ses := { s with pe := x, ba := 1, ma := 0, ca := 0, ow := true, tu := s.tu + 1 }
set_option maxRecDepth 100000 in
set_option maxHeartbeats 1000000 in
theorem sturn_any {B : Nat} {s : Ses} {w : World} (h : SesB w B s) (x : Int) (ht0 : 0 ≤ s.tu) (ht : s.tu ≤ 1000000000) : Calls Try.prog 69 #[.pointer (some ⟨B, 0, none⟩), .int .i64 x] w fun e w' => e = .returned (.tuple #[]) ∧ SesB w' B (s.turned x) ∧ Ch (fun k => k = B) w w' := by
  have c1 := ses_pe h
  have f1 := ses_fz h 1
  have f26 := ses_fz h 26
  have f27 := ses_fz h 27
  have c26 := ses_ba h
  have c27 := ses_ma h
  have hs3 : SesB (((w.setCell ⟨B, 1, none⟩ (.int .i64 x)).setCell ⟨B, 26, none⟩ (.int .i64 1)).setCell ⟨B, 27, none⟩ (.int .i64 0)) B { s with pe := x, ba := 1, ma := 0 } := blk_set (blk_set (blk_set h 1 (.int .i64 x)) 26 (.int .i64 1)) 27 (.int .i64 0)
  have hc3 : Ch (fun k => k = B) w (((w.setCell ⟨B, 1, none⟩ (.int .i64 x)).setCell ⟨B, 26, none⟩ (.int .i64 1)).setCell ⟨B, 27, none⟩ (.int .i64 0)) := ((Ch.setCell w ⟨B, 1, none⟩ _).trans (Ch.setCell _ ⟨B, 26, none⟩ _) (fun i hi => .inl hi)).trans (Ch.setCell _ ⟨B, 27, none⟩ _) (fun i hi => .inl hi)
  have HS := Lib.hid hs3; have HC := Lib.hid hc3
  clear h hs3 hc3
  go_enter Try.func69, Try.ntmps69
  go_wp2_with fail
  refine (istore_any B 28 0 _ _ (ses_ca HS.out) (ses_fz HS.out 28)).mono ?_; rintro e w1 ⟨rfl, hw1⟩
  have hs4 : SesB w1 B { s with pe := x, ba := 1, ma := 0, ca := 0 } := by rw [hw1]; exact blk_set HS.out 28 (.int .i64 0)
  have hc4 : Ch (fun k => k = B) w w1 := by rw [hw1]; exact ch_one HC.out 28 _
  have HS4 := Lib.hid hs4; have HC4 := Lib.hid hc4
  clear hw1 hs4 hc4 HS HC
  go_wp2_with fail
  refine (bstore_any B 29 true _ _ (ses_ow HS4.out) (ses_fz HS4.out 29)).mono ?_; rintro e w2 ⟨rfl, hw2⟩
  have hs5 : SesB w2 B { s with pe := x, ba := 1, ma := 0, ca := 0, ow := true } := by rw [hw2]; exact blk_set (show Blk w1.drew B 75 _ from HS4.out) 29 (.int .u32 (bit true))
  have hc5 : Ch (fun k => k = B) w w2 := by rw [hw2]; exact ch_one (ch_thendrew HC4.out) 29 _
  have d31 := ses_tu hs5
  have f31 := ses_fz hs5 31
  simp only at d31
  have HS5 := Lib.hid hs5; have HC5 := Lib.hid hc5
  clear hw2 hs5 hc5 HS4 HC4
  go_wp2
  refine bodyPost_end (results_none rfl _ _ _) rfl ⟨rfl, ?_, ch_one HC5.out 31 _⟩
  exact blk_set HS5.out 31 (.int .i64 (s.tu + 1))
end Go.Proofs.Ytadcahnoghnkcaa
