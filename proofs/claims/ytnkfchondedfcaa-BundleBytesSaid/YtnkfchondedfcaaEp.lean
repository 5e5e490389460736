/-
  Plain functions: what a reader does further (Raw, Text, Ids, Rest).
-/
import Derived.Test.YtnkfchondedfcaaCx
import Derived.Test.YtnkfchondedfcaaCq
namespace Go.Proofs.Ytnkfchondedfcaa

def Rd.Raw (r : Rd) (k : Int) : List UInt8 × Rd :=
  if r.good = true ∧ 0 ≤ k ∧ k ≤ r.l.length then (r.l.take k.toNat, ⟨r.l.drop k.toNat, true⟩) else ([], Rd.bad)
def Rd.Text (r : Rd) (most : Int) : List UInt8 × Rd := if most < 0 then ([], Rd.bad) else (r.N most.toNat).2.Raw (r.N most.toNat).1
def Rd.Rest (r : Rd) : Nat := if r.good = true then r.l.length else 0
def Rd.idsGo : Nat → Rd → List Id32 × Rd
  | 0, r => ([], r)
  | n + 1, r => if h : (r.Raw 32).1.length = 32 then (⟨(r.Raw 32).1, h⟩ :: (Rd.idsGo n (r.Raw 32).2).1, (Rd.idsGo n (r.Raw 32).2).2) else ([], (r.Raw 32).2)
def Rd.Ids (r : Rd) (most : Int) : List Id32 × Rd :=
  if most < 0 then ([], Rd.bad) else if (Rd.idsGo (r.N most.toNat).1 (r.N most.toNat).2).2.good = true then Rd.idsGo (r.N most.toNat).1 (r.N most.toNat).2 else ([], (Rd.idsGo (r.N most.toNat).1 (r.N most.toNat).2).2)

theorem Rd.N_le (r : Rd) (most : Nat) : (r.N most).1 ≤ most := by
  unfold Rd.N
  split
  · split
    · split
      · assumption
      · exact Nat.zero_le _
    · exact Nat.zero_le _
  · exact Nat.zero_le _
theorem Rd.N_len (r : Rd) (most : Nat) : (r.N most).2.l.length ≤ r.l.length := by
  unfold Rd.N
  split
  · split
    · split
      · simp
      · simp
    · simp
  · simp
theorem Rd.Raw_len (r : Rd) (k : Int) : (r.Raw k).1.length + (r.Raw k).2.l.length ≤ r.l.length := by
  unfold Rd.Raw
  split
  · simp; omega
  · simp
theorem Rd.Raw_32 (r : Rd) : (r.Raw 32).1.length = 32 ∨ (r.Raw 32).1.length = 0 := by
  unfold Rd.Raw
  split
  · rename_i h
    left
    simp; omega
  · right; rfl
end Go.Proofs.Ytnkfchondedfcaa
