/- Walks: Receive in all cases; hands, of one packet; met. Conditions: the sessions are as New makes them. -/
import Derived.Test.YtadcahnoghnkcaaB7
import Derived.Test.YtadcahnoghnkcaaB10
namespace Go.Proofs.Ytadcahnoghnkcaa
open Go.RowKit
set_option linter.unusedVariables false
set_option linter.unusedSimpArgs false

theorem srecv_any {B : Nat} {s : Ses} {w : World} (h : SesB w B s) (h0 : s.ep ≠ 0) (fr to nu ac : Int) (A : Option Addr) (n c : Nat) (l : List UInt8) (hr : Rd w A n c 1 (u8s l)) (hAB : ∀ a, A = some a → a.block ≠ B)
    (bas m : Nat) (xs : List Value) (hown : w.ownsRow bas 27 1 s.inn m xs) (hne : s.inn.ownBlock ≠ some B) (hbas : bas ≤ w.heap.size) (hm : m ≤ 1000000) (hba : s.ba ≤ 1000000000) (hma : s.ma ≤ 8) (hca0 : 0 ≤ s.ca) (hca : s.ca ≤ 1000000000) (htu0 : 0 ≤ s.tu) (htu : s.tu ≤ 1000000000) :
    Calls Try.prog 18 #[.pointer (some ⟨B, 0, none⟩), .agg #[.int .i64 fr, .int .i64 to, .int .i64 nu, .int .i64 ac, .slice A n c]] w (RecvQ w B s fr to nu ac n l bas m xs) := by
  by_cases hb : Bad s fr to nu ac n
  · have hR : recvS s fr to nu ac n = (s, false) := by unfold recvS; rw [if_pos hb]
    refine (srecv_bad h h0 fr to nu ac A n c hr.small hb).mono fun e w' ⟨he, hw⟩ => ⟨he, Ch.of_below hw _, .inl ?_⟩
    rw [hR]
    exact ⟨rfl, sesB_below h hw, own_ch hown (Ch.of_below hw No) (fun _ _ => id)⟩
  · exact srecv_good h h0 fr to nu ac A n c l hr hb hAB bas m xs hown hne hbas hm hba hma hca0 hca htu0 htu
/-- Receive, where nothing came yet -/
def RecvP (w : World) (B : Nat) (n : Nat) (l : List UInt8) (r : Ses × Bool) (e : Ending) (w' : World) : Prop :=
  e = .returned (.tuple #[]) ∧ Ch (fun k => k = B) w w' ∧
  ((r.2 = false ∧ SesB w' B r.1) ∨ (r.2 = true ∧ ∃ v' A' c', SesB w' B { r.1 with inn := v' } ∧ Lists w' w.heap.size v' [(l, A', n, c')]))
theorem srecv_plain {B : Nat} {s : Ses} {w : World} (h : SesB w B s) (h0 : s.ep ≠ 0) (hin : s.inn = .slice none 0 0) (hba : s.ba ≤ 1000000000) (hma : s.ma ≤ 8) (hca0 : 0 ≤ s.ca) (hca : s.ca ≤ 1000000000) (htu0 : 0 ≤ s.tu) (htu : s.tu ≤ 1000000000)
    (fr to nu ac : Int) (A : Option Addr) (n c : Nat) (l : List UInt8) (hr : Rd w A n c 1 (u8s l)) (hAB : ∀ a, A = some a → a.block ≠ B) :
    Calls Try.prog 18 #[.pointer (some ⟨B, 0, none⟩), .agg #[.int .i64 fr, .int .i64 to, .int .i64 nu, .int .i64 ac, .slice A n c]] w (RecvP w B n l (recvS s fr to nu ac n)) := by
  have hn : ∀ k, s.inn.ownBlock ≠ some k := fun k e => by rw [hin] at e; cases e
  refine (srecv_any h h0 fr to nu ac A n c l hr hAB w.heap.size 0 [] (by rw [hin]; exact World.ownsRow_nil w _ 27 1) (hn B) (Nat.le_refl _) (by omega) hba hma hca0 hca htu0 htu).mono ?_
  rintro e w' ⟨he, hc, hq⟩
  refine ⟨he, hc.mono (fun i _ hi => hi.elim id (fun h => absurd h (hn i))), hq.imp (fun h => ⟨h.1, h.2.1⟩) ?_⟩
  rintro ⟨h1, v', A', c', h2, h3, h4, h5, h6⟩
  refine ⟨h1, v', A', c', h2, ⟨h3, fun p hp => ?_⟩⟩
  rw [List.mem_singleton] at hp
  subst hp
  exact ⟨h4, h6⟩

/-- hands, where just one packet is out -/
def HandsQ (w : World) (Ba Bb : Nat) (sa : Ses) (n : Nat) (l : List UInt8) (r : Ses × Bool) (e : Ending) (w' : World) : Prop :=
  e = .returned (.tuple #[]) ∧ SesB w' Ba { sa with r := outR sa sa.ma, ow := false } ∧ Ch (fun k => k = Ba ∨ k = Bb) w w' ∧
  ((r.2 = false ∧ SesB w' Bb r.1) ∨ (r.2 = true ∧ ∃ v' A' c', SesB w' Bb { r.1 with inn := v' } ∧ Lists w' w.heap.size v' [(l, A', n, c')]))
set_option maxRecDepth 100000 in
set_option maxHeartbeats 4000000 in
theorem hands_one {Ba Bb : Nat} {sa sb : Ses} {w : World} (ha : SesB w Ba sa) (hb : SesB w Bb sb) (hne : Ba ≠ Bb) (ha0 : sa.ep ≠ 0) (ham : sa.ma ≤ 8) (hab : sa.ba ≤ 1000000000) (bd : Nat → List UInt8)
    (hbd : ∀ k, k < sa.ma → Rd w (sa.r ((sa.ba + k) % 8)).A (sa.r ((sa.ba + k) % 8)).n (sa.r ((sa.ba + k) % 8)).c 1 (u8s (bd k)) ∧ (sa.r ((sa.ba + k) % 8)).n ≤ 1000000 ∧ ∀ a, (sa.r ((sa.ba + k) % 8)).A = some a → a.block ≠ Ba)
    (p : Pk) (hout : outAll sa bd = [p])
    (h0 : sb.ep ≠ 0) (hin : sb.inn = .slice none 0 0) (hba : sb.ba ≤ 1000000000) (hma : sb.ma ≤ 8) (hca0 : 0 ≤ sb.ca) (hca : sb.ca ≤ 1000000000) (htu0 : 0 ≤ sb.tu) (htu : sb.tu ≤ 1000000000) :
    Calls Try.prog 20 #[.pointer (some ⟨Ba, 0, none⟩), .pointer (some ⟨Bb, 0, none⟩), .bool false] w (HandsQ w Ba Bb sa p.l.length p.l (recvS sb p.fr p.to p.nu p.ac p.l.length)) := by
  have HO := Lib.hid (sout_any ha ha0 ham hab bd hbd)
  have HB := Lib.hid hb
  have hBb := blk_lt hb
  have hBa := blk_lt ha
  clear ha hb hbd
  go_enter Try.func20, Try.ntmps20
  go_wp2_with fail
  refine HO.out.mono ?_; rintro e w1 ⟨v, ps, rfl, hs1, hpk, hmap, hc1⟩
  rw [hout] at hmap
  obtain ⟨q, rfl⟩ : ∃ q, ps = [q] := by
    match ps, hmap with
    | [q], _ => exact ⟨q, rfl⟩
  obtain ⟨p', A, n, c⟩ := q
  have hpp : p' = p := by simpa using hmap
  subst hpp
  obtain ⟨g, cv, rfl, _, hcv, _⟩ := own_row hpk.own (own_some hpk.own (by simp))
  have HS1 := Lib.hid hs1; have HPK := Lib.hid hpk; have HC1 := Lib.hid hc1
  have HB1 := Lib.hid (sesB_ch HB.out hc1 (fun e => hne e.symm))
  have hs1z := hc1.size
  clear hs1 hpk hc1 HO HB
  go_wp2_with fail
  go_loopw [7] (fun i wr => (i = .int .i64 0 ∧ w1 = wr) ∨ (i = .int .i64 1 ∧ HandsQ w Ba Bb sa p'.l.length p'.l (recvS sb p'.fr p'.to p'.nu p'.ac p'.l.length) (.returned (.tuple #[])) wr)) (fun i _ => 1 - (intOf i).toNat)
  case atStart => exact .inl ⟨rfl, rfl⟩
  case round =>
    rcases hrel with ⟨rfl, rfl⟩ | ⟨rfl, hQ⟩
    · obtain ⟨q, hq, c0, c1, c2, c3, c4, hh⟩ := packs_get HPK.out (k := 0) (by simp)
      simp only [List.getElem?_cons_zero, Option.some.injEq] at hq
      subst hq
      simp only [Nat.zero_mul, Nat.zero_add] at c0 c1 c2 c3 c4 hh
      have hln := held_len hh
      have HR := Lib.hid (held_rd hh)
      have hAB : ∀ a, A = some a → a.block ≠ Bb := fun a ha => by have := (held_lt hh a ha).1; omega
      clear hh
      go_wp2_with fail
      refine (srecv_plain HB1.out h0 hin hba hma hca0 hca htu0 htu p'.fr p'.to p'.nu p'.ac A n c p'.l HR.out hAB).mono ?_
      rintro e w2 ⟨rfl, hc2, hq2⟩
      have hs2 := sesB_ch HS1.out hc2 hne
      have hQ : HandsQ w Ba Bb sa p'.l.length p'.l (recvS sb p'.fr p'.to p'.nu p'.ac p'.l.length) (.returned (.tuple #[])) w2 := by
        rw [← hln] at hq2
        refine ⟨rfl, hs2, (HC1.out.mono (fun _ _ h => .inl h)).trans hc2 (fun i hi => .inl (.inr hi)), hq2.imp id ?_⟩
        rintro ⟨h1, v', A', c', h2, h3⟩
        refine ⟨h1, v', A', c', h2, ?_⟩
        exact ⟨own_base h3.own hs1z, fun p hp => ⟨held_base (h3.each p hp).1 (fun a ha => Nat.le_trans hs1z (held_lt (h3.each p hp).1 a ha).1), (h3.each p hp).2⟩⟩
      have HQ := Lib.hid hQ
      clear hc2 hq2 hs2 hQ c0 c1 c2 c3 c4
      go_wp2
      go_roundw
      case rel => exact .inr ⟨rfl, HQ.out⟩
      case measure => simp [intOf]
    · have HQ := Lib.hid hQ
      clear hQ
      go_wp2
      exact bodyPost_end (results_none rfl _ _ _) rfl HQ.out
end Go.Proofs.Ytadcahnoghnkcaa
