/- Walk: the chapter's examples. No conditions. -/
import Derived.Test.YtondodhpmghogaaL2
namespace Go.Proofs.Ytondodhpmghogaa
open Go.RowKit
set_option linter.unusedVariables false
set_option linter.unusedSimpArgs false

theorem acOk_none (w : World) (k n : Int) (s : ByteArray) (hn : n ≤ 9223372036854775807) (hs : s.size ≤ 100000000) : AcOk w ⟨k, n, s, none, 0, 0, []⟩ := ⟨hn, hs, Nat.zero_le _, nil_rd w 1⟩
theorem rd_bytes (w : World) (l : List UInt8) (cs : Array Value) (n : Nat) (hc : cs = (u8s l).toArray) (hn : l.length = n) (h9 : n ≤ 9223372036854775807) : Rd (w.alloc (.cells cs 5)) (some ⟨w.heap.size, 0, none⟩) n n 1 (u8s l) := by
  subst hc
  have := rd_lit w (u8s l).toArray 5 n 1 (by simp; omega) h9
  simpa using this
def exB : List UInt8 := [2, 1, 0, 1, 2, 97, 98]
theorem ex_num : rnum ⟨exB, 0, 0, 0⟩ 0 999 = (256, ⟨exB, 3, 0, 0⟩) := by kernel_rfl
theorem ex_text : rraw ⟨exB, 3, 0, 0⟩ 3 = ([97, 98], ⟨exB, 7, 0, 0⟩) := by kernel_rfl
theorem ex_end : rend ⟨exB, 7, 0, 0⟩ = (0, 0) := by kernel_rfl
theorem ex_s0 : saysR ⟨0, 0, ⟨#[]⟩, none, 0, 0, []⟩ [0] = true := by kernel_rfl
theorem ex_s1 : saysR ⟨0, 255, ⟨#[]⟩, none, 0, 0, []⟩ [1, 255] = true := by kernel_rfl
theorem ex_s2 : saysR ⟨1, 0, ⟨#[97, 98]⟩, none, 0, 0, []⟩ [1, 2, 97, 98] = true := by kernel_rfl
set_option maxRecDepth 100000 in
set_option maxHeartbeats 4000000 in
theorem awake_any (w : World) : Calls Try.prog 16 #[] w fun e w' => e = .returned (.bool true) ∧ Below w.heap.size w w' := by
  have hr := rd_bytes w exB #[.int .u8 2, .int .u8 1, .int .u8 0, .int .u8 1, .int .u8 2, .int .u8 97, .int .u8 98] 7 rfl rfl (by decide)
  have hb0 := box_below w (.cells #[.int .u8 2, .int .u8 1, .int .u8 0, .int .u8 1, .int .u8 2, .int .u8 97, .int .u8 98] 5)
  have HR := Lib.hid hr; have HB0 := Lib.hid hb0
  clear hr hb0
  go_enter Try.func16, Try.ntmps16
  go_wp2_with fail
  refine (open_any HR.out (by decide)).mono ?_
  rintro e w1 ⟨R, A, n, c, rfl, hrd, hR, hA, hb1⟩
  have hb := HB0.out.trans (hb1.mono (by simp))
  rw [World.size_alloc] at hR
  have HB1 := Lib.hid hb; have HRD := Lib.hid hrd
  have hn7 : n = 7 := by have := rdb_len hrd; simpa [exB] using this.symm
  clear hb1 hb hrd hA
  go_wp2_with fail
  refine (says_any ⟨0, 0, ⟨#[]⟩, none, 0, 0, []⟩ (acOk_none _ _ _ _ (by decide) (by decide)) (rd_bytes w1 [0] #[.int .u8 0] 1 rfl rfl (by decide))).mono ?_
  rw [ex_s0]
  rintro e w2 ⟨rfl, hb2⟩
  have hb := (box_below w1 (.cells #[.int .u8 0] 5)).trans (hb2.mono (by simp))
  have HB2 := Lib.hid (HB1.out.trans (hb.mono HB1.out.size)); have HRD2 := Lib.hid (rdb_ch HRD.out (Ch.of_below hb No) id (fun _ _ => id))
  clear hb hb2
  go_wp2_with fail
  refine (says_any ⟨0, 255, ⟨#[]⟩, none, 0, 0, []⟩ (acOk_none _ _ _ _ (by decide) (by decide)) (rd_bytes w2 [1, 255] #[.int .u8 1, .int .u8 255] 2 rfl rfl (by decide))).mono ?_
  rw [ex_s1]
  rintro e w3 ⟨rfl, hb2⟩
  have hb := (box_below w2 (.cells #[.int .u8 1, .int .u8 255] 5)).trans (hb2.mono (by simp))
  have HB3 := Lib.hid (HB2.out.trans (hb.mono HB2.out.size)); have HRD3 := Lib.hid (rdb_ch HRD2.out (Ch.of_below hb No) id (fun _ _ => id))
  clear hb hb2
  go_wp2_with fail
  refine (says_any ⟨1, 0, ⟨#[97, 98]⟩, none, 0, 0, []⟩ (acOk_none _ _ _ _ (by decide) (by decide)) (rd_bytes w3 [1, 2, 97, 98] #[.int .u8 1, .int .u8 2, .int .u8 97, .int .u8 98] 4 rfl rfl (by decide))).mono ?_
  rw [ex_s2]
  rintro e w4 ⟨rfl, hb2⟩
  have hb := (box_below w3 (.cells #[.int .u8 1, .int .u8 2, .int .u8 97, .int .u8 98] 5)).trans (hb2.mono (by simp))
  have HB4 := Lib.hid (HB3.out.trans (hb.mono HB3.out.size)); have HRD4 := Lib.hid (rdb_ch HRD3.out (Ch.of_below hb No) id (fun _ _ => id))
  clear hb hb2
  go_wp2_with fail
  refine (num_any HRD4.out 0 999).mono ?_
  rw [ex_num]
  rintro e w5 ⟨rfl, hrd, hch⟩
  have HB5 := Lib.hid (((Ch.of_below HB4.out (fun k => k = R)).trans hch (fun i hi => .inl hi)).below (Nat.le_refl _) (fun k hk => by omega))
  have HRD5 := Lib.hid hrd
  clear hrd hch
  go_wp2_with fail
  refine (text_any HRD5.out (by omega) 3).mono ?_
  rw [ex_text]
  rintro e w6 ⟨rfl, hrd, hch⟩
  have HB6 := Lib.hid (((Ch.of_below HB5.out (fun k => k = R)).trans hch (fun i hi => .inl hi)).below (Nat.le_refl _) (fun k hk => by omega))
  have HRD6 := Lib.hid hrd
  clear hrd hch
  go_wp2_with fail
  refine (end_any HRD6.out).mono ?_
  rw [ex_end]
  rintro e w7 ⟨rfl, hb⟩
  have HB7 := Lib.hid (HB6.out.trans (hb.mono HB6.out.size)); have HRD7 := Lib.hid (rdb_ch HRD6.out (Ch.of_below hb No) id (fun _ _ => id))
  clear hb
  go_wp2_with fail
  refine (rat_any HRD7.out).mono ?_
  rintro e w8 ⟨rfl, rfl⟩
  go_wp2_with fail
  go_ret
  exact ⟨rfl, HB7.out⟩
end Go.Proofs.Ytondodhpmghogaa
