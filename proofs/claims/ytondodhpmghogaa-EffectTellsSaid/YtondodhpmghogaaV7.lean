/- Walk: Num of the reader, all cases joined. Conditions: the reader is as Open made it. -/
import Derived.Test.YtondodhpmghogaaV3
import Derived.Test.YtondodhpmghogaaV4
import Derived.Test.YtondodhpmghogaaV5
import Derived.Test.YtondodhpmghogaaV6
namespace Go.Proofs.Ytondodhpmghogaa
open Go.RowKit
set_option linter.unusedVariables false
set_option linter.unusedSimpArgs false

theorem num_any {w : World} {R : Nat} {A : Option Addr} {n c : Nat} {s : Rdr} (h : RdB w R A n c s) (lo hi : Int) : Calls Try.prog 37 #[.pointer (some ⟨R, 0, none⟩), .int .i64 lo, .int .i64 hi] w (RNumQ w R A n c (rnum s lo hi)) := by
  by_cases hsome : s.e ≠ 0 ∨ s.b.length ≤ s.at_ ∨ 8 < (s.b[s.at_]?.getD 0).toNat ∨ s.b.length < s.at_ + 1 + (s.b[s.at_]?.getD 0).toNat
  · exact num_few h lo hi hsome
  obtain ⟨k1, k2⟩ := not_or.1 hsome
  obtain ⟨k2, k3⟩ := not_or.1 k2
  obtain ⟨k3, k4⟩ := not_or.1 k3
  have he0 : s.e = 0 := Decidable.not_not.1 k1
  have hl := rdb_len h
  obtain ⟨b, off, rfl, hcell⟩ := h.rd.cells s.at_ _ (u8s_get s.b s.at_ (by omega))
  obtain ⟨r, hr⟩ : ∃ r, r = rnum s lo hi := ⟨_, rfl⟩
  have hf := rnum_fit s lo hi h.fit
  rw [← hr] at hf ⊢
  unfold rnum at hr
  rw [if_neg k1, if_neg k2, if_neg k3, if_neg k4] at hr
  obtain ⟨m, hm⟩ : ∃ m, m = (s.b[s.at_]?.getD 0).toNat := ⟨_, rfl⟩
  obtain ⟨xs, hxs⟩ : ∃ xs, xs = (s.b.drop (s.at_ + 1)).take m := ⟨_, rfl⟩
  obtain ⟨V, hV⟩ : ∃ V, V = valB xs := ⟨_, rfl⟩
  rw [← hm] at hr k3 k4
  rw [← hxs, ← hV] at hr
  by_cases hm0 : m = 0
  · subst hm0
    have hx0 : xs = [] := by rw [hxs]; rfl
    rw [hx0] at hV
    have hV0 : V = 0 := hV
    subst hV0
    rw [if_neg (by omega)] at hr
    by_cases h2 : (0 : Int) < lo
    · rw [if_pos (by omega)] at hr
      subst hr
      exact num_zlow h lo hi he0 hm.symm (by omega) h2 hf
    · by_cases h3 : hi < (0 : Int)
      · rw [if_pos (by omega)] at hr
        subst hr
        exact num_zhigh h lo hi he0 hm.symm (by omega) h2 h3 hf
      · rw [if_neg (by omega)] at hr
        rw [he0] at hr
        subst hr
        exact num_zfine h lo hi he0 hm.symm (by omega) h2 h3 hf
  · have hmp : 0 < m := by omega
    by_cases hy : s.b[s.at_ + 1]?.getD 0 = 0
    · rw [if_pos ⟨hmp, hy⟩] at hr
      subst hr
      exact num_nought h lo hi he0 m hm (by omega) (by omega) xs hxs V hV hmp hy hf
    · rw [if_neg (fun e => hy e.2)] at hr
      by_cases h1 : 4611686018427387903 < V
      · rw [if_pos (.inl h1)] at hr
        subst hr
        exact num_big h lo hi he0 m hm (by omega) (by omega) xs hxs V hV hmp hy h1 hf
      · by_cases h2 : (V : Int) < lo
        · rw [if_pos (.inr (.inl h2))] at hr
          subst hr
          exact num_low h lo hi he0 m hm (by omega) (by omega) xs hxs V hV hmp hy (by omega) h2 hf
        · by_cases h3 : hi < (V : Int)
          · rw [if_pos (.inr (.inr h3))] at hr
            subst hr
            exact num_high h lo hi he0 m hm (by omega) (by omega) xs hxs V hV hmp hy (by omega) h2 h3 hf
          · rw [if_neg (by rintro (e | e | e); exact h1 e; exact h2 e; exact h3 e)] at hr
            rw [he0] at hr
            subst hr
            exact num_fine h lo hi he0 m hm (by omega) (by omega) xs hxs V hV hmp hy (by omega) h2 h3 hf
end Go.Proofs.Ytondodhpmghogaa
