/-
  Plain functions: numbers as bytes, and what a reader is behind a read.
-/
namespace Go.Proofs.YtnplamcajjblkaaGreat

/-- A reader: the bytes that are left; whether nothing failed. -/
structure Rd where
  l : List UInt8
  good : Bool

abbrev Rd.bad : Rd := ⟨[], false⟩

/-- OK, or ErrCodec. -/
def Rd.End (r : Rd) : Int := match r.good, r.l with | true, [] => 0 | _, _ => 80

/-- The byte c at place i ends the reading of a number. -/
def rdBad (i : Nat) (c : UInt8) : Bool := decide (9 < i) || (decide (18446744073709551616 ≤ c.toNat % 128 * 2 ^ (7 * i)) || (decide (c.toNat = 0) && decide (0 < i)))

/-- A number: what was met of it is n, at place i. -/
def rdGo : Nat → Nat → List UInt8 → Option (Nat × Nat)
  | _, _, [] => none
  | i, n, c :: cs => if rdBad i c = true then none else if c.toNat < 128 then some (n + c.toNat % 128 * 2 ^ (7 * i), i + 1) else rdGo (i + 1) (n + c.toNat % 128 * 2 ^ (7 * i)) cs

def Rd.N (r : Rd) (most : Nat) : Nat × Rd :=
  if r.good = true then
    match rdGo 0 0 r.l with
    | some (v, u) => if v ≤ most then (v, ⟨r.l.drop u, true⟩) else (0, Rd.bad)
    | none => (0, Rd.bad)
  else (0, Rd.bad)

theorem Rd.N_none {l : List UInt8} {most : Nat} (h : rdGo 0 0 l = none) : Rd.N ⟨l, true⟩ most = (0, Rd.bad) := by simp [Rd.N, h]
theorem Rd.N_some {l : List UInt8} {most v u : Nat} (h : rdGo 0 0 l = some (v, u)) (hm : v ≤ most) : Rd.N ⟨l, true⟩ most = (v, ⟨l.drop u, true⟩) := by simp [Rd.N, h, hm]
theorem Rd.N_great {l : List UInt8} {most v u : Nat} (h : rdGo 0 0 l = some (v, u)) (hm : ¬ v ≤ most) : Rd.N ⟨l, true⟩ most = (0, Rd.bad) := by simp [Rd.N, h, hm]
theorem rdGo_nil (i n : Nat) : rdGo i n [] = none := rfl
theorem rdGo_bad {i n : Nat} {c : UInt8} {cs : List UInt8} (h : rdBad i c = true) : rdGo i n (c :: cs) = none := by simp [rdGo, h]
theorem rdGo_last {i n : Nat} {c : UInt8} {cs : List UInt8} (h : rdBad i c = false) (h1 : c.toNat < 128) : rdGo i n (c :: cs) = some (n + c.toNat % 128 * 2 ^ (7 * i), i + 1) := by simp [rdGo, h, h1]
theorem rdGo_on {i n : Nat} {c : UInt8} {cs : List UInt8} (h : rdBad i c = false) (h1 : ¬ c.toNat < 128) : rdGo i n (c :: cs) = rdGo (i + 1) (n + c.toNat % 128 * 2 ^ (7 * i)) cs := by simp [rdGo, h, h1]

/-- The arithmetic of a round: the shifted part fits, or its quotient is less. -/
theorem part_fits {y k : Nat} (h : y % 128 * 2 ^ (7 * k) < 18446744073709551616) : ((y : Int) % 128 * 2 ^ (7 * k)) % 18446744073709551616 = ((y % 128 * 2 ^ (7 * k) : Nat) : Int) := by
  have e : ((y : Int) % 128 * 2 ^ (7 * k)) = ((y % 128 * 2 ^ (7 * k) : Nat) : Int) := by simp
  rw [e]; omega
theorem part_back (y k : Nat) : ((y % 128 * 2 ^ (7 * k) : Nat) : Int) / 2 ^ (7 * k) = (y : Int) % 128 := by
  have e : ((2 : Int) ^ (7 * k)) = ((2 ^ (7 * k) : Nat) : Int) := by simp
  rw [e, ← Int.natCast_ediv, Nat.mul_div_cancel _ (Nat.two_pow_pos _)]; simp
theorem part_over {y k : Nat} (h : 18446744073709551616 ≤ y % 128 * 2 ^ (7 * k)) : ∃ q : Nat, (((y : Int) % 128 * 2 ^ (7 * k)) % 18446744073709551616) / 2 ^ (7 * k) = (q : Int) ∧ q < y % 128 := by
  have e : ((y : Int) % 128 * 2 ^ (7 * k)) = ((y % 128 * 2 ^ (7 * k) : Nat) : Int) := by simp
  have e2 : ((2 : Int) ^ (7 * k)) = ((2 ^ (7 * k) : Nat) : Int) := by simp
  refine ⟨(y % 128 * 2 ^ (7 * k)) % 18446744073709551616 / 2 ^ (7 * k), by rw [e, e2]; simp, ?_⟩
  rw [Nat.div_lt_iff_lt_mul (Nat.two_pow_pos _)]
  omega
theorem part_lt {y k v : Nat} (hv : v < 2 ^ (7 * k)) : v + y % 128 * 2 ^ (7 * k) < 2 ^ (7 * (k + 1)) := by
  have e : 2 ^ (7 * (k + 1)) = 128 * 2 ^ (7 * k) := by rw [Nat.mul_add, Nat.pow_add]; omega
  have h1 : (y % 128 + 1) * 2 ^ (7 * k) ≤ 128 * 2 ^ (7 * k) := Nat.mul_le_mul_right _ (by omega)
  rw [e]
  have h2 : (y % 128 + 1) * 2 ^ (7 * k) = y % 128 * 2 ^ (7 * k) + 2 ^ (7 * k) := by rw [Nat.add_mul]; omega
  omega
theorem part_or {y k v : Nat} (hv : v < 2 ^ (7 * k)) : v ||| y % 128 * 2 ^ (7 * k) = v + y % 128 * 2 ^ (7 * k) := by
  rw [Nat.or_comm, Nat.add_comm, Nat.mul_comm, ← Nat.two_pow_add_eq_or_of_lt hv]
theorem pow_le_63 {k : Nat} (hk : k ≤ 9) : 2 ^ (7 * k) ≤ 9223372036854775808 := Nat.le_trans (Nat.pow_le_pow_right (by omega) (show 7 * k ≤ 63 by omega)) (by decide)
theorem part_zero {y k : Nat} (h : y = 0) : y % 128 * 2 ^ (7 * k) = 0 := by subst h; simp
theorem rdBad_iff (i : Nat) (c : UInt8) : rdBad i c = true ↔ 9 < i ∨ 18446744073709551616 ≤ c.toNat % 128 * 2 ^ (7 * i) ∨ (c.toNat = 0 ∧ 0 < i) := by simp [rdBad]
theorem rdBad_not (i : Nat) (c : UInt8) : rdBad i c = false ↔ i ≤ 9 ∧ c.toNat % 128 * 2 ^ (7 * i) < 18446744073709551616 ∧ (c.toNat = 0 → i = 0) := by
  rw [← Bool.not_eq_true, rdBad_iff]; omega

/-- A number's bytes. -/
def encN (n : Nat) : List UInt8 := if n < 128 then [UInt8.ofNat n] else UInt8.ofNat (n % 128 + 128) :: encN (n / 128)
termination_by n
decreasing_by omega

theorem encN_small {n : Nat} (h : n < 128) : encN n = [UInt8.ofNat n] := by rw [encN, if_pos h]
theorem encN_great {n : Nat} (h : ¬ n < 128) : encN n = UInt8.ofNat (n % 128 + 128) :: encN (n / 128) := by rw [encN, if_neg h]
theorem encN_len_pos (n : Nat) : 0 < (encN n).length := by rw [encN]; split <;> simp
theorem encN_len (k : Nat) : ∀ n, n < 128 ^ (k + 1) → (encN n).length ≤ k + 1 := by
  induction k with
  | zero => intro n h; rw [encN_small (by simpa using h)]; simp
  | succ k ih =>
    intro n h
    by_cases hn : n < 128
    · rw [encN_small hn]; simp
    · rw [encN_great hn, List.length_cons]
      have := ih (n / 128) (by rw [Nat.div_lt_iff_lt_mul (by omega)]; rw [Nat.pow_succ] at h; exact h)
      omega
theorem encN_len64 {n : Nat} (h : n < 18446744073709551616) : (encN n).length ≤ 10 := encN_len 9 n (Nat.lt_of_lt_of_le h (by decide))
theorem byte_or (n : Nat) : n % 256 ||| 128 = n % 128 + 128 := by
  have h : n % 256 = 128 * (n % 256 / 128) + n % 256 % 128 := by omega
  have h2 : n % 256 / 128 = 0 ∨ n % 256 / 128 = 1 := by omega
  have e : n % 256 % 128 = n % 128 := by omega
  have hlt : n % 128 < 2 ^ 7 := by omega
  have hb : ∀ x, x < 2 ^ 7 → x ||| 128 = x + 128 := fun x hx => by
    rw [Nat.or_comm, Nat.add_comm]
    exact (Nat.two_pow_add_eq_or_of_lt hx 1).symm
  rcases h2 with h2 | h2
  · rw [h, h2, e, Nat.mul_zero, Nat.zero_add]; exact hb _ hlt
  · rw [h, h2, e, Nat.mul_one, Nat.add_comm 128, ← hb _ hlt, Nat.or_assoc, Nat.or_self]
theorem ofNat_toNat_lt {n : Nat} (h : n < 256) : (UInt8.ofNat n).toNat = n := by
  rw [UInt8.toNat_ofNat']; exact Nat.mod_eq_of_lt h

theorem encN_300 : [] ++ [300].flatMap encN = [172, 2] := by
  simp only [List.flatMap_cons, List.flatMap_nil, List.append_nil, List.nil_append]
  rw [encN_great (by omega), encN_small (by omega)]
  rfl
theorem rd_awake : Rd.N ⟨[128, 0], true⟩ 500 = (0, Rd.bad) := Rd.N_none (by
  rw [rdGo_on (by decide) (by decide), rdGo_bad (by decide)])

end Go.Proofs.YtnplamcajjblkaaGreat
