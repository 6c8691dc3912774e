/- Walks: a list of nodes put together, copied, written over. Conditions: fewer than a million nodes. -/
import Derived.Test.YtadcahnoghnkcaaG3
import Derived.Test.YtadcahnoghnkcaaB2
namespace Go.Proofs.YtadcahnoghnkcaaX.P27
open Go.RowKit Go.Shelf Go.Proofs.Ytadcahnoghnkcaa Go.Proofs.YtadcahnoghnkcaaW.PrintWords Go.Proofs.YtadcahnoghnkcaaW.PrintLast Go.Proofs.YtadcahnoghnkcaaW.PrintMore
set_option linter.unusedVariables false
set_option linter.unusedSimpArgs false

theorem own_zero {w : World} {base e sz g n cap : Nat} {xs : List Value} (h : w.ownsRow base e sz (.slice (some ⟨g, 0, none⟩) n cap) n xs) : w.ownsRow base e sz (.slice (some ⟨g, 0, none⟩) 0 cap) 0 [] := by
  rcases h.2 with ⟨h, _⟩ | ⟨g', cap', cur, h1, h2, h3, h4, h5, h6, h7⟩
  · cases h
  · cases h1
    exact ⟨by simp, .inr ⟨g, cap, cur, rfl, h2, h3, Nat.zero_le _, h5, h6, by simp⟩⟩
theorem R109_zero {w : World} {base g n cap : Nat} {xs : List S109} (h : Kd.R k109 109 w base (fun _ => True) (.slice (some ⟨g, 0, none⟩) n cap) xs) : Kd.R k109 109 w base (fun _ => True) (.slice (some ⟨g, 0, none⟩) 0 cap) [] := by
  obtain ⟨inner, ho⟩ := Kd.R_own h
  have hn : xs.length = n := by
    obtain ⟨A, c, e, _⟩ := Kd.R_reads h
    cases e; rfl
  subst hn
  exact ⟨fun _ _ => trivial, [], own_zero ho, by simp [Reps]⟩
theorem R109_some {w : World} {base n : Nat} {v : Value} {xs : List S109} (h : Kd.R k109 109 w base (fun _ => True) v xs) (hn : xs.length = n) (h0 : 0 < n) : ∃ g cap, v = .slice (some ⟨g, 0, none⟩) n cap ∧ n ≤ cap ∧ cap ≤ 9223372036854775807 := by
  obtain ⟨inner, ho⟩ := Kd.R_own h
  subst hn
  rcases ho.2 with ⟨_, h1⟩ | ⟨g, cap, cur, h1, h2, h3, h4, h5, h6, h7⟩
  · omega
  · exact ⟨g, cap, h1, h4, by simpa only [maxLen] using h5⟩
set_option maxRecDepth 100000 in
set_option maxHeartbeats 1000000 in
theorem grow_any (n : Nat) (w : World) (hn : n < 1000000) :
    Calls Try.prog 98 #[.slice none 0 0, .int .i64 (n : Int)] w fun e w' => ∃ v, e = .returned v ∧ Kd.R k109 109 w' w.heap.size (fun _ => True) v [] ∧ Below w.heap.size w w' := by
  by_cases h0 : n = 0
  · subst h0
    go_enter Try.func98, Try.ntmps98
    go_wp2
    go_ret
    exact ⟨_, rfl, Kd.R_nil _ _ _ _ _, Below.refl _ _⟩
  · have g0 : decide ((0 : Int) < (n : Int)) = true := by simp; omega
    have hR0 := Lib.hid (Kd.R_nil k109 109 w w.heap.size (fun _ => True))
    go_enter Try.func98, Try.ntmps98
    go_wp2_with (at_builtin; refine Kd.R_append_zeros k109 (w0 := w) w.heap.size rfl (.tmp 20) (.tmp 21) 83 3 109 _ 24 rfl Try.underlying83 Try.underlying3 info109 rfl (by decide) (by decide) (.slice none 0 0) [] z109 (kx := .i64) (n : Int) (fun _ => True) rfl rfl (k109_mkM _ _ _ z109) (fun _ _ => trivial) hR0.out (by omega) (Below.refl _ _) (Nat.le_refl _) (by simp; omega) ?_; intro v1 w1 ho hb hg hat; obtain ⟨g, cap, rfl, hc1, hc2⟩ := R109_some ho (n := n) (by simp) (by omega); have HO := Lib.hid (R109_zero ho); have HBB := Lib.hid hb; clear ho hb hg hat)
    go_ret
    exact ⟨_, rfl, HO.out, HBB.out⟩
theorem flat_take (l : List (List S109)) (k : Nat) (h : k < l.length) : (l.take (k + 1)).flatten = (l.take k).flatten ++ (rd_L3 l (k : Int)) := by
  rw [List.take_succ_eq_append_getElem h, List.flatten_append]
  simp [rd_L3, List.getD_eq_getElem?_getD, h]
theorem flat_le (l : List (List S109)) (k : Nat) : (l.take k).flatten.length ≤ l.flatten.length := by
  conv => rhs; rw [← List.take_append_drop k l, List.flatten_append, List.length_append]
  omega
theorem addr_plain0 {w : World} {x : Addr} {v : Value} (h : w.cell? x = some v) : ∃ b off, x = ⟨b, off, none⟩ := by
  obtain ⟨b, off, spot⟩ := x
  cases spot with
  | none => exact ⟨b, off, rfl⟩
  | some s => simp [World.cell?] at h; split at h <;> simp_all
theorem rows_of_C {w : World} {A : Option Addr} {n : Nat} {l : List (List S109)} (h : Kd.C (Kd.slice 109 k109) w A n l) (h0 : 0 < n) : ∃ b off, A = some ⟨b, off, none⟩ ∧ ∀ k : Nat, k < n → ∃ A1 c1, w.cell? ⟨b, off + k, none⟩ = some (.slice A1 (rd_L3 l k).length c1) ∧ (rd_L3 l k).length ≤ c1 ∧ k109.C w A1 (rd_L3 l k).length (rd_L3 l k) := by
  obtain ⟨ad, A1, c1, rfl, hc, _⟩ := at_L3 h 0 (by omega) (by omega)
  obtain ⟨b, off, rfl⟩ := addr_plain0 (x := ad) (by simpa [Addr.add] using hc)
  refine ⟨b, off, rfl, fun k hk => ?_⟩
  obtain ⟨ad, A1, c1, e, hc, hl, hC⟩ := at_L3 h (k : Int) (by omega) (by omega)
  cases e
  have hadd : (⟨b, off, none⟩ : Addr).add k = ⟨b, off + k, none⟩ := by unfold Addr.add; split <;> simp_all
  simp only [Int.toNat_natCast, hadd] at hc
  exact ⟨A1, c1, hc, hl, hC⟩
theorem k109_flat {W : World} (x : S109) (cs : List Value) (base : Nat) (ok : Nat → Prop) (h : k109.K W x cs) : k109.M W base ok x cs := by
  rw [k109_open h]
  exact k109_mkM _ _ _ _
set_option maxRecDepth 100000 in
set_option maxHeartbeats 4000000 in
theorem concat_any (A0 : Option Addr) (c0 : Nat) (l0 : List (List (S109))) (w : World) (hr0 : Kd.C (Kd.slice 109 k109) w A0 l0.length l0) (hc0 : l0.length ≤ c0) (h1 : l0.length < 1000) (h2 : l0.flatten.length < 1000000) :
    Calls Try.prog 87 #[.slice A0 l0.length c0] w fun e w' => ∃ v0_ : Value, e = .returned (v0_) ∧ Kd.R k109 109 w' w.heap.size (fun _ => True) v0_ l0.flatten ∧ Below w.heap.size w w' := by
  have HEL := Lib.hid (show ∀ (k : Nat), k < l0.length → ∃ b off, A0 = some ⟨b, off, none⟩ ∧ ∀ W : World, Below w.heap.size w W → ∃ A1 c1, W.cell? ⟨b, off + k, none⟩ = some (.slice A1 (rd_L3 l0 k).length c1) ∧ (rd_L3 l0 k).length ≤ c1 ∧ k109.C W A1 (rd_L3 l0 k).length (rd_L3 l0 k) from fun k hk => by
    obtain ⟨b, off, rfl, hf⟩ := rows_of_C hr0 (by omega)
    obtain ⟨A1, c1, hc, hl, hC⟩ := hf k hk
    exact ⟨b, off, rfl, fun W hb => ⟨A1, c1, below_cell hb hc, hl, Kd.C_below hC hb⟩⟩)
  have HFL := Lib.hid (fun k => flat_le l0 k)
  have HTK := Lib.hid (fun k hk => flat_take l0 k hk)
  obtain ⟨N, hN⟩ : ∃ N, N = l0.length := ⟨_, rfl⟩
  rw [← hN] at HEL HTK hc0 h1 ⊢
  have HN := Lib.hid hN
  clear hr0 hN
  go_enter Try.func87, Try.ntmps87
  go_wp2
  go_loopw [3, 11] (fun s i wr => ∃ k m : Nat, k ≤ N ∧ i = .int .i64 k ∧ s = .int .i64 (m : Int) ∧ Hid (m = (l0.take k).flatten.length) ∧ Hid (w = wr)) (fun _ i _ => N - (intOf i).toNat)
  case atStart => exact ⟨0, 0, Nat.zero_le _, rfl, rfl, Lib.hid rfl, Lib.hid rfl⟩
  case round =>
    obtain ⟨k, m, hk, rfl, rfl, HMK, HW⟩ := hrel
    obtain rfl := HW.out
    have HFIN := Lib.hid HFL.out
    by_cases hlt : k < N
    · obtain ⟨b, off, rfl, hf⟩ := HEL.out k hlt
      obtain ⟨A1, c1, hc, hl, hC⟩ := hf w (Below.refl _ _)
      have hs2 := HFL.out (k + 1)
      have ht := HTK.out k hlt
      have hlen : (l0.take (k + 1)).flatten.length = (l0.take k).flatten.length + (rd_L3 l0 k).length := by rw [ht, List.length_append]
      have HL := Lib.hid (show (l0.take (k + 1)).flatten.length = m + (rd_L3 l0 k).length by rw [hlen, HMK.out])
      have hb1 : m + (rd_L3 l0 k).length < 1000000 := by rw [← HL.out]; omega
      clear ht hlen hC hf hs2
      obtain ⟨q, hq⟩ : ∃ q, q = (rd_L3 l0 k).length := ⟨_, rfl⟩
      rw [← hq] at hc hl hb1
      have HQ := Lib.hid hq; clear hq
      have hneg : decide ((m : Int) + (q : Int) < 0) = false := by simp; omega
      go_wp2
      go_roundw
      case rel => exact ⟨k + 1, m + q, by omega, by go_num, by go_num, Lib.hid (by rw [HL.out, HQ.out]), Lib.hid trivial⟩
      case measure => simp [intOf]; omega
    · obtain rfl : k = N := by omega
      have hall : (l0.take k).flatten = l0.flatten := by rw [HN.out, List.take_length]
      have hM : m = l0.flatten.length := by rw [HMK.out, hall]
      rw [← hM] at h2
      have HALL := Lib.hid hall; have HM := Lib.hid hM
      clear hall hM
      go_wp2_with (go_at_call 98; refine (grow_any m w h2).mono ?_; rintro e w1 ⟨v1, rfl, ho, hb⟩; have HO := Lib.hid ho; have HB := Lib.hid hb; clear ho hb)
      go_loopw [6, 27] (fun v i wr => ∃ j : Nat, j ≤ k ∧ i = .int .i64 j ∧ (∃ L, Hid (L = (l0.take j).flatten ∧ Kd.R k109 109 wr w.heap.size (fun _ => True) v L)) ∧ Hid (Below w.heap.size w wr)) (fun _ i _ => k - (intOf i).toNat)
      case atStart => exact ⟨0, Nat.zero_le _, rfl, ⟨_, Lib.hid ⟨rfl, HO.out⟩⟩, HB⟩
      case round =>
        clear HO HB
        obtain ⟨j, hj, rfl, ⟨L, HLO⟩, HB⟩ := hrel
        have HO := Lib.hid HLO.out.2
        by_cases hlj : j < k
        · obtain ⟨b, off, rfl, hf⟩ := HEL.out j hlj
          obtain ⟨A1, c1, hc, hl, hC⟩ := hf wr HB.out
          have ht := HTK.out j hlj
          have hs1 := HFIN.out (j + 1)
          have hb1 : L.length + (rd_L3 l0 j).length < 1000000 := by rw [ht, List.length_append, ← HM.out] at hs1; rw [HLO.out.1]; omega
          have HC := Lib.hid hC; have HT := Lib.hid ht
          clear hf hC ht hs1
          go_wp2_with (at_builtin; refine Kd.R_append_rows k109 (Rr := k109.K wr) (w0 := w) w.heap.size rfl (.tmp 31) (.tmp 32) 83 109 _ 24 rfl Try.underlying83 info109 rfl (by decide) (by decide) _ _ _ _ _ _ (fun _ => True) (fun _ => False) rfl rfl HO.out HC.out (fun x cs h => k109_flat x cs _ _ h) (fun _ h => h.elim) (fun _ _ => trivial) HB.out HB.out.size (by omega) ?_; intro v1 w1 ho hb hg hat; have HO1 := Lib.hid ho; have HB1 := Lib.hid hb; clear ho hb hg hat)
          go_roundw
          case rel => exact ⟨j + 1, by omega, by go_num, ⟨_, Lib.hid ⟨by rw [HT.out, HLO.out.1], HO1.out⟩⟩, HB1⟩
          case measure => simp [intOf]; omega
        · obtain rfl : j = k := by omega
          go_wp2
          go_ret
          exact ⟨_, rfl, by rw [← HALL.out, ← HLO.out.1]; exact HO.out, HB.out⟩
theorem R109_empty (w : World) : Kd.R k109 109 (w.alloc (.cells #[] 109)) w.heap.size (fun _ => True) (.slice (some ⟨w.heap.size, 0, none⟩) 0 0) [] := by
  refine ⟨fun _ _ => trivial, [], ?_, by simp [Reps]⟩
  exact ⟨by simp, .inr ⟨w.heap.size, 0, #[], rfl, Nat.le_refl _, Go.heap_alloc_new w _, Nat.le_refl _, by simp [maxLen], by simp, by simp⟩⟩
set_option maxRecDepth 100000 in
set_option maxHeartbeats 1000000 in
theorem clone_any (A0 : Option Addr) (c0 : Nat) (l0 : List (S109)) (w : World) (hr0 : Kd.C k109 w A0 l0.length l0) (hc0 : l0.length ≤ c0) (hn : l0.length < 1000000) :
    Calls Try.prog 88 #[.slice A0 l0.length c0] w fun e w' => ∃ v0_ : Value, e = .returned (v0_) ∧ Kd.R k109 109 w' w.heap.size (fun _ => True) v0_ l0 ∧ Below w.heap.size w w' := by
  cases A0 with
  | none =>
    have h0 : l0.length = 0 := by
      rcases Nat.eq_zero_or_pos l0.length with h | h
      · exact h
      · obtain ⟨ad, e, _⟩ := hr0.2.2 h
        cases e
    obtain rfl : l0 = [] := List.eq_nil_of_length_eq_zero h0
    have he : ∀ w : World, (binOp .eql 83 (.slice none 0 c0) (.slice none 0 0)).run Try.prog w = .ok (.bool true) w := fun _ => rfl
    clear hr0 h0
    simp only [List.length_nil]
    go_enter Try.func88, Try.ntmps88
    go_wp2
    go_ret
    exact ⟨_, rfl, Kd.R_nil _ _ _ _ _, Below.refl _ _⟩
  | some a =>
    have he : ∀ w : World, (binOp .eql 83 (.slice (some a) l0.length c0) (.slice none 0 0)).run Try.prog w = .ok (.bool false) w := fun _ => rfl
    have hb0 : Below w.heap.size w (w.alloc (.cells #[] 109)) := (Below.refl _ w).alloc (Nat.le_refl _) _
    have HR := Lib.hid (Kd.C_below hr0 hb0)
    have HE := Lib.hid (R109_empty w); have HB := Lib.hid hb0
    clear hr0 hb0
    go_enter Try.func88, Try.ntmps88
    go_wp2_with (at_builtin; refine Kd.R_append_rows k109 (Rr := k109.K (w.alloc (.cells #[] 109))) (w0 := w) w.heap.size rfl (.tmp 5) (.tmp 6) 83 109 _ 24 rfl Try.underlying83 info109 rfl (by decide) (by decide) _ [] l0 _ _ _ (fun _ => True) (fun _ => False) rfl rfl HE.out HR.out (fun x cs h => k109_flat x cs _ _ h) (fun _ h => h.elim) (fun _ _ => trivial) HB.out HB.out.size (by simp; omega) ?_; intro v1 w1 ho hb hg hat; rw [List.nil_append] at ho; have HO := Lib.hid ho; have HB1 := Lib.hid hb; clear ho hb hg hat)
    go_ret
    exact ⟨_, rfl, HO.out, HB1.out⟩
def o109 : S109 := ⟨-7, 0, false⟩
def c109 (x : S109) : List Value := [.int .i64 x.f0, .int .i64 x.f1, .bool x.f2]
theorem reps_flat {α : Type} {R : α → List Value → Prop} {sz : Nat} (F : α → List Value) (hF : ∀ x, R x (F x)) (hl : ∀ x, (F x).length = sz) : ∀ l, Reps R sz l (l.flatMap F)
  | [] => Reps.none _ _
  | x :: t => Reps.front (hF x) (hl x) (reps_flat F hF hl t) rfl
theorem len109 (n : Nat) (x : S109) : ((List.replicate n x).flatMap c109).length = n * 3 := by
  induction n with
  | zero => rfl
  | succ n ih => rw [List.replicate_succ, List.flatMap_cons, List.length_append, ih]; simp [c109]; omega
theorem R109_rep {w : World} {base g n cap : Nat} {cur : Array Value} {ok : Nat → Prop} (hb : base ≤ g) (hg : w.heap[g]? = some (.cells cur 109 (0, 0))) (hn : n ≤ cap) (hc : cap ≤ maxLen) (hs : cur.size = cap * 3) (ht : cur.toList.take (n * 3) = (List.replicate n o109).flatMap c109) (hok : ok g) :
    Kd.R k109 109 w base ok (.slice (some ⟨g, 0, none⟩) n cap) (List.replicate n o109) := by
  refine ⟨fun k hk => by have e : g = k := by simpa [Value.ownBlock] using hk
                         rw [← e]; exact hok, (List.replicate n o109).flatMap c109, ?_, ?_⟩
  · have hl : (List.replicate n o109).length = n := by simp
    refine ⟨?_, .inr ⟨g, cap, cur, by rw [hl], hb, hg, by rw [hl]; exact hn, hc, hs, ?_⟩⟩
    · rw [hl]; exact len109 _ _
    · rw [hl]; exact ht
  · exact reps_flat c109 (fun x => k109_mkM _ _ _ x) (fun _ => rfl) _
theorem rep_snoc (n : Nat) (x : S109) : (List.replicate (n + 1) x).flatMap c109 = (List.replicate n x).flatMap c109 ++ c109 x := by
  rw [List.replicate_succ', List.flatMap_append]
  simp
theorem set3 {α : Type} (L : List α) (m : Nat) (a b c : α) (h : m + 3 ≤ L.length) : (((L.set m a).set (m + 1) b).set (m + 2) c).take (m + 3) = L.take m ++ [a, b, c] := by
  obtain ⟨P, hP⟩ : ∃ P, P = L.take m := ⟨_, rfl⟩
  obtain ⟨D, hD⟩ : ∃ D, D = L.drop m := ⟨_, rfl⟩
  have hL : L = P ++ D := by rw [hP, hD, List.take_append_drop]
  have hp : P.length = m := by rw [hP]; simp; omega
  have hd : 3 ≤ D.length := by rw [hD]; simp; omega
  match D, hd with
  | x :: y :: z :: R, _ =>
    subst hL
    rw [← hP, ← hp]
    rw [List.set_append_right _ _ (by omega), Nat.sub_self, List.set_append_right _ _ (by omega), List.set_append_right _ _ (by omega)]
    simp [show P.length + 1 - P.length = 1 by omega, show P.length + 2 - P.length = 2 by omega, List.take_append]
    exact List.take_of_length_le (by omega)
/-- one node written -/
theorem put109 {cur : Array Value} {cap k : Nat} (hs : cur.size = cap * 3) (hk : k < cap) (ht : cur.toList.take (k * 3) = (List.replicate k o109).flatMap c109) :
    (((cur.setIfInBounds (k * 3) (.int .i64 (-7))).setIfInBounds (k * 3 + 1) (.int .i64 0)).setIfInBounds (k * 3 + 2) (.bool false)).toList.take ((k + 1) * 3) = (List.replicate (k + 1) o109).flatMap c109 := by
  rw [rep_snoc, ← ht]
  simp only [Array.toList_setIfInBounds, show (k + 1) * 3 = k * 3 + 3 by omega]
  exact set3 _ _ _ _ _ (by simp; omega)
set_option maxRecDepth 100000 in
set_option maxHeartbeats 4000000 in
theorem over_row (g n cap : Nat) (cur0 : Array Value) (w : World) (hg : w.heap[g]? = some (.cells cur0 109 (0, 0))) (hn : n ≤ cap) (hc : cap ≤ 9223372036854775807) (hs : cur0.size = cap * 3) :
    Calls Try.prog 57 #[.slice (some ⟨g, 0, none⟩) n cap] w fun e w' => e = .returned (.tuple #[]) ∧ (∃ cur : Array Value, w'.heap[g]? = some (.cells cur 109 (0, 0)) ∧ cur.size = cap * 3 ∧ cur.toList.take (cap * 3) = (List.replicate cap o109).flatMap c109) ∧ Ch (fun k => k = g) w w' := by
  have H0 := Lib.hid (show Blk w g 109 cur0 from hg); have HS := Lib.hid hs
  clear hg hs
  go_enter Try.func57, Try.ntmps57
  go_wp2
  go_loopw [3] (fun i wr => ∃ k : Nat, k ≤ cap ∧ i = .int .i64 k ∧ (∃ cur : Array Value, Hid (Blk wr g 109 cur ∧ cur.size = cap * 3 ∧ cur.toList.take (k * 3) = (List.replicate k o109).flatMap c109)) ∧ Hid (Ch (fun k => k = g) w wr)) (fun i _ => cap - (intOf i).toNat)
  case atStart => exact ⟨0, Nat.zero_le _, rfl, ⟨cur0, Lib.hid ⟨H0.out, HS.out, by simp⟩⟩, Lib.hid (Ch.refl _ _)⟩
  case round =>
    clear H0 HS
    obtain ⟨k, hk, rfl, ⟨cur, HC⟩, HCH⟩ := hrel
    by_cases hlt : k < cap
    · obtain ⟨hb, hs, ht⟩ := HC.out
      have q : ∀ j, j < 3 → ∃ u, wr.cell? ⟨g, k * 3 + j, none⟩ = some u := fun j hj => by
        have hlt : k * 3 + j < cur.size := by omega
        exact ⟨_, Ytadcahnoghnkcaa.blk_cell hb _ _ (Array.getElem?_eq_getElem hlt)⟩
      obtain ⟨u0, q0⟩ := q 0 (by omega)
      obtain ⟨u1, q1⟩ := q 1 (by omega)
      obtain ⟨u2, q2⟩ := q 2 (by omega)
      have f0 := Ytadcahnoghnkcaa.blk_thawed hb (k * 3)
      have f1 := Ytadcahnoghnkcaa.blk_thawed hb (k * 3 + 1)
      have f2 := Ytadcahnoghnkcaa.blk_thawed hb (k * 3 + 2)
      have hb1 := Ytadcahnoghnkcaa.blk_set (Ytadcahnoghnkcaa.blk_set (Ytadcahnoghnkcaa.blk_set hb (k * 3) (.int .i64 (-7))) (k * 3 + 1) (.int .i64 0)) (k * 3 + 2) (.bool false)
      have HN := Lib.hid (show ∃ cur : Array Value, Hid (Blk (((wr.setCell ⟨g, k * 3, none⟩ (.int .i64 (-7))).setCell ⟨g, k * 3 + 1, none⟩ (.int .i64 0)).setCell ⟨g, k * 3 + 2, none⟩ (.bool false)) g 109 cur ∧ cur.size = cap * 3 ∧ cur.toList.take ((k + 1) * 3) = (List.replicate (k + 1) o109).flatMap c109) from ⟨_, Lib.hid ⟨hb1, by simpa using hs, put109 hs hlt ht⟩⟩)
      have HC1 := Lib.hid (ch_one (ch_one (ch_one HCH.out (k * 3) (.int .i64 (-7))) (k * 3 + 1) (.int .i64 0)) (k * 3 + 2) (.bool false))
      rw [Nat.add_zero] at q0
      clear q hb hs ht hb1 HC HCH
      go_wp2
      go_roundw
      case rel => exact ⟨k + 1, by omega, by go_num, HN.out, HC1⟩
      case measure => simp [intOf]; omega
    · obtain rfl : k = cap := by omega
      go_wp2
      exact bodyPost_end (results_none rfl _ _ _) rfl ⟨rfl, ⟨cur, HC.out⟩, HCH.out⟩
theorem over_any (P0_ : Nat → Prop) (u9000_ : Value) (l0 : List S109) (w0 w : World) (hB : Below w0.heap.size w0 w) (ho0 : Kd.R k109 109 w w0.heap.size P0_ u9000_ l0) :
    Calls Try.prog 57 #[u9000_] w fun e w' => e = .returned (.tuple #[]) ∧ Kd.R k109 109 w' w0.heap.size (fun k_ => P0_ k_ ∨ w.heap.size ≤ k_) u9000_ (List.replicate l0.length o109) ∧ Below w0.heap.size w0 w' ∧ Kept w w' (fun k_ => P0_ k_) := by
  obtain ⟨inner, ho⟩ := Kd.R_own ho0
  rcases ho.2 with ⟨rfl, h0⟩ | ⟨g, cap, cur, rfl, h2, h3, h4, h5, h6, h7⟩
  · rw [h0]
    refine Calls.mono (R := fun e w' => e = .returned (.tuple #[]) ∧ w = w') ?_ (fun e w' ⟨h1, h2⟩ => by
      subst h2
      exact ⟨h1, Kd.R_nil _ _ _ _ _, hB, Kept.refl _ _⟩)
    clear ho0 ho h0
    go_enter Try.func57, Try.ntmps57
    go_wp2
    go_loop [3] (fun i => i = .int .i64 0) (fun _ => 0)
    case atStart => rfl
    case round =>
      subst hrel
      go_wp2
      exact bodyPost_end (results_none rfl _ _ _) rfl ⟨rfl, rfl⟩
  · have hP : P0_ g := ho0.1 g rfl
    refine (over_row g l0.length cap cur w h3 h4 (by simpa only [maxLen] using h5) h6).mono ?_
    rintro e w' ⟨rfl, ⟨cur', k1, k2, k3⟩, hch⟩
    refine ⟨rfl, R109_rep h2 k1 h4 h5 k2 ?_ (.inl hP), ?_, hch.size, fun i hi hn => hch.block i hi (fun e => hn (by rw [e]; exact hP))⟩
    · have := congrArg (List.take (l0.length * 3)) k3
      rw [List.take_take, Nat.min_eq_left (Nat.mul_le_mul_right _ h4)] at this
      rw [this, show cap = l0.length + (cap - l0.length) by omega, ← List.replicate_append_replicate, List.flatMap_append]
      exact List.take_left' (len109 _ _)
    · exact hB.trans (hch.below hB.size (fun k hk => by omega))
end Go.Proofs.YtadcahnoghnkcaaX.P27
