/-
  Letters that are turned (chapter 31): plain functions.
-/
import Derived.Test.YtnkfchondedfcaaWd
namespace Go.Proofs.Ytnkfchondedfcaa

/-- How far letters are turned. -/
def turnK (k : Int) : Nat := ((k.tmod 26 + 26) % 26).toNat
theorem tmod26 (k : Int) : -26 < k.tmod 26 ∧ k.tmod 26 < 26 := by
  have h1 := Int.tmod_lt_of_pos k (b := 26) (by omega)
  have h2 := Int.lt_tmod_of_pos k (b := 26) (by omega)
  omega
theorem turnK_eq (k : Int) : (k.tmod 26 + 26) % 26 = (turnK k : Int) := by unfold turnK; omega
theorem turnK_lt (k : Int) : turnK k < 26 := by unfold turnK; omega
theorem turnK_neg (k : Int) (h : k.tmod 26 < 0) : k.tmod 26 + 26 = (turnK k : Int) := by have := tmod26 k; unfold turnK; omega
theorem turnK_pos (k : Int) (h : 0 ≤ k.tmod 26) : k.tmod 26 = (turnK k : Int) := by have := tmod26 k; unfold turnK; omega

def turnB (k : Nat) (c : UInt8) : UInt8 := if 97 ≤ c.toNat ∧ c.toNat ≤ 122 then UInt8.ofNat (97 + (c.toNat - 97 + k) % 26) else c
def turnL (k : Nat) (l : List UInt8) : List UInt8 := l.map (turnB k)
theorem turnL_len (k : Nat) (l : List UInt8) : (turnL k l).length = l.length := by simp [turnL]
theorem turnB_out {k : Nat} {c : UInt8} (h : ¬ (97 ≤ c.toNat ∧ c.toNat ≤ 122)) : turnB k c = c := if_neg h
theorem turnB_in {k : Nat} {c : UInt8} (h : 97 ≤ c.toNat ∧ c.toNat ≤ 122) : (turnB k c).toNat = 97 + (c.toNat - 97 + k) % 26 := by
  rw [turnB, if_pos h, UInt8.toNat_ofNat', Nat.mod_eq_of_lt (by omega)]
theorem turnB_val {k : Nat} {c : UInt8} (h1 : 97 ≤ c.toNat) (h2 : c.toNat ≤ 122) : bv (turnB k c) = .int .u8 (97 + ((c.toNat : Int) - 97 + k) % 26) := by
  rw [bv, turnB_in ⟨h1, h2⟩]
  congr 1
  omega
theorem turnB_back (k : Int) (c : UInt8) : turnB (turnK (-k)) (turnB (turnK k) c) = c := by
  by_cases h : 97 ≤ c.toNat ∧ c.toNat ≤ 122
  · have h1 := turnB_in (k := turnK k) h
    have h2 : 97 ≤ (turnB (turnK k) c).toNat ∧ (turnB (turnK k) c).toNat ≤ 122 := by omega
    have h3 := turnB_in (k := turnK (-k)) h2
    apply UInt8.toNat_inj.1
    rw [h3, h1]
    have e : (-k).tmod 26 = - (k.tmod 26) := Int.neg_tmod ..
    have hk := tmod26 k
    unfold turnK
    rw [e]
    omega
  · rw [turnB_out h, turnB_out h]
theorem turnL_back (k : Int) (l : List UInt8) : turnL (turnK (-k)) (turnL (turnK k) l) = l := by
  unfold turnL
  rw [List.map_map]
  conv => rhs; rw [← List.map_id l]
  exact List.map_congr_left fun c _ => turnB_back k c

/-- A text of which the first n letters are turned. -/
def turned (k : Nat) (l : List UInt8) (n : Nat) : List UInt8 := (l.take n).map (turnB k) ++ l.drop n
theorem turned_zero (k : Nat) (l : List UInt8) : turned k l 0 = l := by simp [turned]
theorem turned_len (k : Nat) (l : List UInt8) (n : Nat) : (turned k l n).length = l.length := by simp [turned]; omega
theorem turned_all {k : Nat} {l : List UInt8} {n : Nat} (h : l.length ≤ n) : turned k l n = turnL k l := by
  rw [turned, turnL, List.take_of_length_le h, List.drop_of_length_le h, List.append_nil]
theorem turned_at {k : Nat} {l : List UInt8} {n : Nat} (h : n < l.length) : (turned k l n)[n]'(by rw [turned_len]; exact h) = l[n] := by
  simp only [turned]
  rw [List.getElem_append_right (by simp; omega)]
  simp [Nat.min_eq_left (Nat.le_of_lt h)]
theorem turned_succ {k : Nat} {l : List UInt8} {n : Nat} (h : n < l.length) : turned k l (n + 1) = (turned k l n).set n (turnB k l[n]) := by
  simp only [turned]
  rw [List.take_succ_eq_append_getElem h, List.map_append, List.append_assoc, List.set_append_right _ _ (by simp; omega)]
  congr 1
  simp only [List.length_map, List.length_take, Nat.min_eq_left (Nat.le_of_lt h), Nat.sub_self, List.map_cons, List.map_nil, List.cons_append, List.nil_append]
  rw [List.drop_eq_getElem_cons h]
  rfl
theorem turned_same {k : Nat} {l : List UInt8} {n : Nat} (h : n < l.length) (hc : turnB k l[n] = l[n]) : turned k l (n + 1) = turned k l n := by
  rw [turned_succ h, hc]
  have := turned_at (k := k) h
  rw [← this, List.set_getElem_self]
end Go.Proofs.Ytnkfchondedfcaa
