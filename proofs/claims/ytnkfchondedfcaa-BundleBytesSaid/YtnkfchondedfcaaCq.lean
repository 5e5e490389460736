/-
  Plain laws of numbers as bytes: what is read was written so, and what was written is read.
-/
import Derived.Test.YtnkfchondedfcaaCp
namespace Go.Proofs.Ytnkfchondedfcaa

theorem pow7 (i : Nat) : 2 ^ (7 * (i + 1)) = 128 * 2 ^ (7 * i) := by rw [Nat.mul_add, Nat.pow_add]; omega

theorem u8_self (c : UInt8) : UInt8.ofNat c.toNat = c := UInt8.ofNat_toNat

theorem fits_sum {i a m : Nat} (hi : i ≤ 8) (ha : a < 128) (hm : m * 2 ^ (7 * (i + 1)) < 18446744073709551616) : (a + 128 * m) * 2 ^ (7 * i) < 18446744073709551616 := by
  have hP : 2 ^ (64 - 7 * (i + 1)) * 2 ^ (7 * (i + 1)) = 18446744073709551616 := by
    rw [← Nat.pow_add, show 64 - 7 * (i + 1) + 7 * (i + 1) = 64 by omega]
  have hlt : m < 2 ^ (64 - 7 * (i + 1)) := by
    refine Nat.lt_of_mul_lt_mul_right (a := 2 ^ (7 * (i + 1))) ?_
    rw [hP]; exact hm
  have h1 : (m + 1) * 2 ^ (7 * (i + 1)) ≤ 18446744073709551616 := by
    rw [← hP]; exact Nat.mul_le_mul_right _ hlt
  have h2 : (a + 128 * m) * 2 ^ (7 * i) < (m + 1) * 2 ^ (7 * (i + 1)) := by
    rw [pow7, ← Nat.mul_assoc]
    exact Nat.mul_lt_mul_of_pos_right (by omega) (Nat.two_pow_pos _)
  omega

/-- What is read is a number's own bytes. -/
theorem rdGo_some : ∀ (l : List UInt8) (i n v u : Nat), rdGo i n l = some (v, u) →
    ∃ m, v = n + m * 2 ^ (7 * i) ∧ i ≤ 9 ∧ i < u ∧ u - i ≤ l.length ∧ l.take (u - i) = encN m ∧ (0 < i → 0 < m) ∧ m * 2 ^ (7 * i) < 18446744073709551616
  | [], i, n, v, u, h => by simp [rdGo] at h
  | c :: cs, i, n, v, u, h => by
    have hc := UInt8.toNat_lt c
    by_cases hb : rdBad i c = true
    · rw [rdGo_bad hb] at h; cases h
    · have hb' : rdBad i c = false := by simpa using hb
      have hn := (rdBad_not i c).1 hb'
      by_cases h128 : c.toNat < 128
      · rw [rdGo_last hb' h128] at h
        simp only [Option.some.injEq, Prod.mk.injEq] at h
        obtain ⟨rfl, rfl⟩ := h
        have e : c.toNat % 128 = c.toNat := Nat.mod_eq_of_lt h128
        refine ⟨c.toNat, by rw [e], hn.1, by omega, by simp, ?_, fun h0 => ?_, by have := hn.2.1; rwa [e] at this⟩
        · rw [show i + 1 - i = 1 by omega, encN_small h128, u8_self]; rfl
        · by_cases hz : c.toNat = 0
          · have := hn.2.2 hz; omega
          · omega
      · rw [rdGo_on hb' h128] at h
        obtain ⟨m, hv, h9, hu, hl, ht, hp, hlt⟩ := rdGo_some cs (i + 1) _ v u h
        have hm := hp (by omega)
        refine ⟨c.toNat % 128 + 128 * m, ?_, by omega, by omega, by simp; omega, ?_, fun _ => by omega, fits_sum (by omega) (by omega) hlt⟩
        · have e : (c.toNat % 128 + 128 * m) * 2 ^ (7 * i) = c.toNat % 128 * 2 ^ (7 * i) + m * (128 * 2 ^ (7 * i)) := by
            rw [Nat.add_mul, Nat.mul_comm 128 m, Nat.mul_assoc]
          rw [hv, pow7, e]
          omega
        · rw [encN_great (by omega), show u - i = (u - (i + 1)) + 1 by omega, List.take_succ_cons, ht]
          rw [show (c.toNat % 128 + 128 * m) / 128 = m by omega, show (c.toNat % 128 + 128 * m) % 128 + 128 = c.toNat by omega, u8_self]

/-- What was written is read. -/
theorem rdGo_encN (m : Nat) : ∀ (i n : Nat) (rest : List UInt8), m * 2 ^ (7 * i) < 18446744073709551616 → (0 < i → 0 < m) → rdGo i n (encN m ++ rest) = some (n + m * 2 ^ (7 * i), i + (encN m).length) := by
  induction m using Nat.strongRecOn with
  | ind m ih =>
    intro i n rest hlt hp
    have h9 : i ≤ 9 := by
      rcases Nat.eq_zero_or_pos i with h0 | h0
      · omega
      · rcases Nat.lt_or_ge i 10 with h | h
        · omega
        · have hm := hp h0
          have h1 : 2 ^ 64 ≤ 2 ^ (7 * i) := Nat.pow_le_pow_right (by omega) (by omega)
          have h2 : 1 * 2 ^ (7 * i) ≤ m * 2 ^ (7 * i) := Nat.mul_le_mul_right _ hm
          omega
    by_cases h128 : m < 128
    · rw [encN_small h128]
      have e : (UInt8.ofNat m).toNat = m := ofNat_toNat_lt (by omega)
      have hb : rdBad i (UInt8.ofNat m) = false := (rdBad_not _ _).2 ⟨h9, by rw [e, Nat.mod_eq_of_lt h128]; exact hlt, fun hz => by rw [e] at hz; omega⟩
      rw [List.singleton_append, rdGo_last hb (by rw [e]; exact h128), e, Nat.mod_eq_of_lt h128]
      rfl
    · rw [encN_great h128, List.cons_append]
      have e : (UInt8.ofNat (m % 128 + 128)).toNat = m % 128 + 128 := ofNat_toNat_lt (by omega)
      have e2 : (m % 128 + 128) % 128 = m % 128 := by omega
      have hmd : m = m % 128 + 128 * (m / 128) := by omega
      have hmul : m * 2 ^ (7 * i) = m % 128 * 2 ^ (7 * i) + m / 128 * 2 ^ (7 * (i + 1)) := by
        conv => lhs; rw [hmd]
        rw [Nat.add_mul, pow7, Nat.mul_comm 128 (m / 128), Nat.mul_assoc]
      have hb : rdBad i (UInt8.ofNat (m % 128 + 128)) = false := (rdBad_not _ _).2 ⟨h9, by rw [e, e2]; omega, fun hz => by rw [e] at hz; omega⟩
      rw [rdGo_on hb (by rw [e]; omega), e, e2, ih (m / 128) (by omega) (i + 1) _ rest (by omega) (fun _ => by omega), hmul]
      simp only [List.length_cons, Option.some.injEq, Prod.mk.injEq]
      omega

theorem RN_encN {n most : Nat} (rest : List UInt8) (h : n < 18446744073709551616) (hm : n ≤ most) : Rd.N ⟨encN n ++ rest, true⟩ most = (n, ⟨rest, true⟩) := by
  have := rdGo_encN n 0 0 rest (by simpa using h) (by omega)
  rw [Rd.N_some this (by simpa using hm)]
  simp

/-- The law of CodecOnce. -/
theorem once_plain (l : List UInt8) (most : Nat) (h : Rd.End (Rd.N ⟨l, true⟩ most).2 = 0) : encN (Rd.N ⟨l, true⟩ most).1 = l ∧ (Rd.N ⟨l, true⟩ most).1 < 18446744073709551616 := by
  unfold Rd.N at *
  simp only [if_true] at *
  split at h
  · rename_i v u hg
    split at h
    · rename_i hm
      rw [if_pos hm]
      obtain ⟨m, hv, _, hu, hl, ht, _, hlt⟩ := rdGo_some l 0 0 v u hg
      simp at hv hl ht hlt
      subst hv
      refine ⟨?_, hlt⟩
      have hd : l.drop u = [] := by
        unfold Rd.End at h
        split at h
        · rename_i h1 h2; exact h2
        · cases h
      rw [← ht, List.take_of_length_le]
      exact List.drop_eq_nil_iff.1 hd
    · simp [Rd.End] at h
  · simp [Rd.End] at h
end Go.Proofs.Ytnkfchondedfcaa
