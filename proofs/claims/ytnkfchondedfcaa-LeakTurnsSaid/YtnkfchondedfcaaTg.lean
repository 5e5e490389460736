/-
  Turn, on strings; an op in a block of its own. Conditions: each contract states its own.
-/
import Derived.Test.YtnkfchondedfcaaTf
import Derived.Test.YtnkfchondedfcaaJd
namespace Go.Proofs.Ytnkfchondedfcaa
open Go.RowKit

theorem TurnS_any (w : World) (s : ByteArray) (k : Int) (hs : s.size ≤ maxLen) :
    Calls Try.prog 22 #[.string s, .int .i64 k] w fun e w' => e = .returned (.string (turnS k s)) ∧ Fr NoB w w' := Turn_any w s k hs
theorem refTurnS_any (w : World) (s : ByteArray) (k : Int) (hs : s.size ≤ 70368744177664) :
    Calls Try.prog 21 #[.string s, .int .i64 k] w fun e w' => e = .returned (.string (turnS k s)) ∧ Fr NoB w w' := refTurn_any w s k hs
/-- An op in a block of its own. -/
structure OpBlk (w : World) (g : Nat) (o : Opn) : Prop where
  blk : Blk w g 34 (opCells o).toArray
section
variable {w w' : World} {g : Nat} {o : Opn} {S : Nat → Prop}
theorem OpBlk.fr (h : OpBlk w g o) (hf : Fr S w w') (hd : ¬ S g) : OpBlk w' g o := ⟨h.blk.fr hf hd⟩
theorem OpBlk.c2 (h : OpBlk w g o) : w.cell? ⟨g, 2, none⟩ = some (.string o.branch) := (h.blk.cell 2).trans rfl
theorem OpBlk.c3 (h : OpBlk w g o) : w.cell? ⟨g, 3, none⟩ = some (.string o.path) := (h.blk.cell 3).trans rfl
theorem OpBlk.c4 (h : OpBlk w g o) : w.cell? ⟨g, 4, none⟩ = some (.string o.other) := (h.blk.cell 4).trans rfl
theorem OpBlk.c5 (h : OpBlk w g o) : w.cell? ⟨g, 5, none⟩ = some (.string o.text) := (h.blk.cell 5).trans rfl
theorem OpBlk.s3 (h : OpBlk w g o) (s : ByteArray) : OpBlk (w.setCell ⟨g, 3, none⟩ (.string s)) g { o with path := s } := ⟨h.blk.set_ _ _⟩
theorem OpBlk.s4 (h : OpBlk w g o) (s : ByteArray) : OpBlk (w.setCell ⟨g, 4, none⟩ (.string s)) g { o with other := s } := ⟨h.blk.set_ _ _⟩
theorem OpBlk.s5 (h : OpBlk w g o) (s : ByteArray) : OpBlk (w.setCell ⟨g, 5, none⟩ (.string s)) g { o with text := s } := ⟨h.blk.set_ _ _⟩
end
end Go.Proofs.Ytnkfchondedfcaa
