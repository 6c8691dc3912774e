/- Walks: slices.Chunk and its closure over bytes. No conditions beyond a bound on the length. -/
import Derived.Test.YtnlninmjmjffcaaTp
import Derived.Test.YtnlninmjmjffcaaLib5
import Derived.Sort.QuietIn
namespace Go.Proofs.Ytnlninmjmjffcaa
open Go.RowKit Go.Shelf
set_option linter.unusedVariables false
set_option linter.unusedSimpArgs false
attribute [local go_sem] Oper.semAt_some

set_option maxHeartbeats 400000 in
theorem chunk_any (A : Option Addr) (n c : Nat) (w : World) :
    Calls Try.prog 59 #[.slice A n c, .int .i64 200] w fun e w' => e = .returned (.func (.func 65) #[] #[.pointer (some ⟨w.heap.size, 0, none⟩), .pointer (some ⟨w.heap.size + 1, 0, none⟩)]) ∧ (w.alloc (.cells #[.slice A n c] 22)).alloc (.cells #[.int .i64 200] 3) = w' := by
  go_enter Try.func59, Try.ntmps59
  go_wp2
  go_ret
  exact ⟨rfl, rfl⟩

theorem range_prefix {k m : Nat} (h : k ≤ m) : List.range k <+: List.range m := by
  obtain ⟨d, rfl⟩ := Nat.exists_eq_add_of_le h
  rw [List.range_add]
  exact List.prefix_append _ _
/-- the two blocks of the closure are as they were -/
def KB (Bs Bn : Nat) (A B : World) : Prop := B.heap[Bs]? = A.heap[Bs]? ∧ B.heap[Bn]? = A.heap[Bn]?
theorem KB_refl (Bs Bn : Nat) (A : World) : KB Bs Bn A A := ⟨rfl, rfl⟩
theorem KB_trans {Bs Bn : Nat} {A B C : World} (h : KB Bs Bn A B) (k : KB Bs Bn B C) : KB Bs Bn A C := ⟨k.1.trans h.1, k.2.trans h.2⟩
theorem KB_s {Bs Bn : Nat} {A B : World} {v : Value} (h : KB Bs Bn A B) (hc : A.cell? ⟨Bs, 0, none⟩ = some v) : B.cell? ⟨Bs, 0, none⟩ = some v := (World.cell?_of_block (a := ⟨Bs, 0, none⟩) h.1).trans hc
theorem KB_n {Bs Bn : Nat} {A B : World} {v : Value} (h : KB Bs Bn A B) (hc : A.cell? ⟨Bn, 0, none⟩ = some v) : B.cell? ⟨Bn, 0, none⟩ = some v := (World.cell?_of_block (a := ⟨Bn, 0, none⟩) h.2).trans hc
def pieceV (b0 off n x : Nat) : Array Value := #[.slice (some ⟨b0, off + 200 * x, none⟩) (plen n x) (plen n x)]
set_option maxRecDepth 100000 in
set_option maxHeartbeats 2000000 in
/-- slices.Chunk's closure: its pieces, by number -/
theorem chunk1 (l Bs Bn : Nat) (b0 off n c : Nat) (hn : n ≤ 60000) (hnc : n ≤ c) (hc63 : c ≤ 9223372036854775807) (J Jx : List Nat → World → Prop)
    (hY : ∀ pre x W, J pre W → pre.length < npc n → YieldAt FW 2 Try.prog l (pieceV b0 off n x) W fun e W' =>
      (e = .returned (.bool true) ∧ J (pre ++ [x]) W' ∧ KB Bs Bn W W') ∨ (e = .returned (.bool false) ∧ Jx (pre ++ [x]) W'))
    (W : World) (hBs : W.cell? ⟨Bs, 0, none⟩ = some (.slice (some ⟨b0, off, none⟩) n c)) (hBn : W.cell? ⟨Bn, 0, none⟩ = some (.int .i64 200)) (h0 : J [] W) (hJd : ∀ pre W m, J pre W → J pre (W.drewN m)) :
    CallsIn FW 3 Try.prog 65 #[.func (.yield l) #[] #[], .pointer (some ⟨Bs, 0, none⟩), .pointer (some ⟨Bn, 0, none⟩)] W fun e W' => (∃ v, e = .returned v) ∧
      ((∃ ys, ys = List.range (npc n) ∧ J ys W') ∨ (∃ pre, pre <+: List.range (npc n) ∧ Jx pre W')) := by
  refine callsIn_of_wp Try.func65 rfl trivial ?_ rfl
  simp only [Try.ntmps65, List.size_toArray, List.length_cons, List.length_nil, Nat.reduceAdd, Nat.reduceSub, Array.replicate_succ, Array.replicate_zero, List.push_toArray, List.append_toArray, List.nil_append, List.cons_append]
  have HY := Lib.hid hY; have HBS := Lib.hid hBs; have HBN := Lib.hid hBn; have HJD := Lib.hid hJd
  clear hY hBs hBn hJd
  gi_wp2
  gi_loopw [4, 5] (fun i _ wr => ∃ k t : Nat, Hid (t = 200 * k ∧ J (List.range k) wr ∧ KB Bs Bn W wr) ∧ t < n + 200 ∧ i = .int .i64 t)
    (fun i _ _ => n + 200 - (intOf i).toNat)
  case atStart => exact ⟨0, 0, Lib.hid ⟨rfl, h0, KB_refl _ _ _⟩, by omega, rfl⟩
  case round =>
    obtain ⟨k, t, hH, hk, rfl⟩ := hrel
    have hcs : wr.cell? ⟨Bs, 0, none⟩ = some (.slice (some ⟨b0, off, none⟩) n c) := KB_s hH.out.2.2 HBS.out
    have hcn : wr.cell? ⟨Bn, 0, none⟩ = some (.int .i64 200) := KB_n hH.out.2.2 HBN.out
    by_cases hlt : t < n
    · have hct : ¬ c = t := by omega
      have hkn : k < npc n := by have := hH.out.1; unfold npc; omega
      by_cases hto : t + 200 ≤ n
      ·
        have hpv : pieceV b0 off n k = #[.slice (some ⟨b0, off + t, none⟩) (200) (200)] := by
          have h1 := hH.out.1
          have : plen n k = 200 := by unfold plen; omega
          unfold pieceV; rw [this, h1]
        have HPV := Lib.hid hpv; clear hpv
        gi_wp2
        gi_quiet (fail)
        obtain ⟨fn, tmps, assign, body, hy, hR⟩ := HY.out (List.range k) k (wr.drewN nq) (HJD.out _ _ _ hH.out.2.1) (by rw [List.length_range]; exact hkn)
        rw [HPV.out] at hy
        gi_wp2
        refine hR.mono ?_
        rintro e W3 (⟨rfl, hJ3, hk3⟩ | ⟨rfl, hJx3⟩)
        · have HJ3 := Lib.hid hJ3; have HK3 := Lib.hid hk3; clear hJ3 hk3 hy hR
          have hcn3 : W3.cell? ⟨Bn, 0, none⟩ = some (.int .i64 200) := KB_n HK3.out ((World.cell?_drewN _ _ _).trans hcn)
          gi_wp2
          go_roundw
          case rel => exact ⟨k + 1, t + 200, Lib.hid ⟨by have := hH.out.1; omega, by rw [List.range_succ]; exact HJ3.out, KB_trans (KB_trans hH.out.2.2 (KB_refl _ _ (wr.drewN nq))) HK3.out⟩, by omega, by go_num⟩
          case measure => simp [intOf]; omega
        · gi_wp2
          refine bodyPost_ret (results_none rfl _ _ _) rfl ?_
          exact ⟨⟨_, rfl⟩, .inr ⟨_, by rw [← List.range_succ]; exact range_prefix (by omega), hJx3⟩⟩
      ·
        have hpv : pieceV b0 off n k = #[.slice (some ⟨b0, off + t, none⟩) (n - t) (n - t)] := by
          have h1 := hH.out.1
          have : plen n k = n - t := by unfold plen; omega
          unfold pieceV; rw [this, h1]
        have HPV := Lib.hid hpv; clear hpv
        gi_wp2
        gi_quiet (fail)
        obtain ⟨fn, tmps, assign, body, hy, hR⟩ := HY.out (List.range k) k (wr.drewN nq) (HJD.out _ _ _ hH.out.2.1) (by rw [List.length_range]; exact hkn)
        rw [HPV.out] at hy
        gi_wp2
        refine hR.mono ?_
        rintro e W3 (⟨rfl, hJ3, hk3⟩ | ⟨rfl, hJx3⟩)
        · have HJ3 := Lib.hid hJ3; have HK3 := Lib.hid hk3; clear hJ3 hk3 hy hR
          have hcn3 : W3.cell? ⟨Bn, 0, none⟩ = some (.int .i64 200) := KB_n HK3.out ((World.cell?_drewN _ _ _).trans hcn)
          gi_wp2
          go_roundw
          case rel => exact ⟨k + 1, t + 200, Lib.hid ⟨by have := hH.out.1; omega, by rw [List.range_succ]; exact HJ3.out, KB_trans (KB_trans hH.out.2.2 (KB_refl _ _ (wr.drewN nq))) HK3.out⟩, by omega, by go_num⟩
          case measure => simp [intOf]; omega
        · gi_wp2
          refine bodyPost_ret (results_none rfl _ _ _) rfl ?_
          exact ⟨⟨_, rfl⟩, .inr ⟨_, by rw [← List.range_succ]; exact range_prefix (by omega), hJx3⟩⟩
    · have hk0 : npc n = k := by have := hH.out.1; unfold npc; omega
      have HK0 := Lib.hid hk0; clear hk0
      gi_wp2
      go_end0
      exact ⟨⟨_, rfl⟩, .inl ⟨_, by rw [HK0.out], hH.out.2.1⟩⟩

theorem chunk_stops (Bs Bn : Nat) (b0 off n c : Nat) (w : World) (hn : n ≤ 60000) (hnc : n ≤ c) (hc63 : c ≤ 9223372036854775807) (hBs0 : Bs < w.heap.size) (hBn0 : Bn < w.heap.size)
    (hc : w.cell? ⟨Bs, 0, none⟩ = some (.slice (some ⟨b0, off, none⟩) n c)) (hcn : w.cell? ⟨Bn, 0, none⟩ = some (.int .i64 200)) :
    SeqStopsK FW 3 Try.prog 65 #[.pointer (some ⟨Bs, 0, none⟩), .pointer (some ⟨Bn, 0, none⟩)] (pieceV b0 off n) (KB Bs Bn) (fun ys => ys = List.range (npc n)) (fun pre => pre <+: List.range (npc n)) (npc n) w := fun l J Jx W hW hJ _ hY h0 =>
  chunk1 l Bs Bn b0 off n c hn hnc hc63 J Jx hY W ((hW.cell (p := ⟨Bs, 0, none⟩) hBs0).trans hc) ((hW.cell (p := ⟨Bn, 0, none⟩) hBn0).trans hcn) h0
    (fun pre W' m hJs => hJ pre W' _ none hJs ⟨rfl, rfl, rfl, Nat.le_refl _, fun _ _ _ => rfl⟩ (fun r e => by cases e))

end Go.Proofs.Ytnlninmjmjffcaa
