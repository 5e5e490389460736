/-
  Plain laws: ops whose letters are turned.
-/
import Derived.Test.YtnkfchondedfcaaTa
import Derived.Test.YtnkfchondedfcaaJp
namespace Go.Proofs.Ytnkfchondedfcaa
open Go.RowKit

def turnS (k : Int) (s : ByteArray) : ByteArray := ⟨(turnL (turnK k) s.data.toList).toArray⟩
theorem turnS_size (k : Int) (s : ByteArray) : (turnS k s).size = s.size := by
  show (turnL (turnK k) s.data.toList).toArray.size = s.data.size
  rw [List.size_toArray, turnL_len, Array.length_toList]
theorem turnS_back (k : Int) (s : ByteArray) : turnS (-k) (turnS k s) = s := by
  unfold turnS
  simp only [turnL_back]
def opTurn (k : Int) (o : Opn) : Opn := ⟨o.client, o.kind, o.branch, turnS k o.path, turnS k o.other, turnS k o.text, o.n⟩
theorem opTurn_wf {k : Int} {o : Opn} (h : opWf o) : opWf (opTurn k o) := by
  obtain ⟨h1, h2, h3, h4⟩ := h
  exact ⟨h1, by rw [opTurn, turnS_size]; exact h2, by rw [opTurn, turnS_size]; exact h3, by rw [opTurn, turnS_size]; exact h4⟩
/-- The first n ops are turned. -/
def opsTurned (k : Int) (l : List Opn) (n : Nat) : List Opn := (l.take n).map (opTurn k) ++ l.drop n
theorem opsTurned_zero (k : Int) (l : List Opn) : opsTurned k l 0 = l := by simp [opsTurned]
theorem opsTurned_len (k : Int) (l : List Opn) (n : Nat) : (opsTurned k l n).length = l.length := by simp [opsTurned]; omega
theorem opsTurned_all {k : Int} {l : List Opn} {n : Nat} (h : l.length ≤ n) : opsTurned k l n = l.map (opTurn k) := by
  rw [opsTurned, List.take_of_length_le h, List.drop_eq_nil_of_le h, List.append_nil]
theorem opsTurned_at {k : Int} {l : List Opn} {n : Nat} (h : n < l.length) : (opsTurned k l n)[n]? = some l[n] := by
  unfold opsTurned
  rw [List.getElem?_append_right (by rw [List.length_map, List.length_take]; omega), List.length_map, List.length_take, Nat.min_eq_left (Nat.le_of_lt h), Nat.sub_self, List.getElem?_drop]
  simp
theorem opsTurned_succ {k : Int} {l : List Opn} {n : Nat} (h : n < l.length) : opsTurned k l (n + 1) = (opsTurned k l n).set n (opTurn k l[n]) := by
  unfold opsTurned
  rw [List.take_succ_eq_append_getElem h, List.map_append, List.append_assoc, List.set_append_right _ _ (by rw [List.length_map, List.length_take]; omega), List.length_map, List.length_take, Nat.min_eq_left (Nat.le_of_lt h), Nat.sub_self,
    List.drop_eq_getElem_cons h, List.set_cons_zero]
  rfl
theorem opsTurned_take {k : Int} {l : List Opn} {n : Nat} (h : n < l.length) : (l.take (n + 1)).map (opTurn k) = (l.take n).map (opTurn k) ++ [opTurn k l[n]] := by
  rw [List.take_succ_eq_append_getElem h, List.map_append]
  rfl
end Go.Proofs.Ytnkfchondedfcaa
