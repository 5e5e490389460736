/-
  The disk of 100 sectors that was just made (plain). Conditions: none.
-/
import Derived.Test.YtnplamcajjblkaaGreatKu
namespace Go.Proofs.YtnplamcajjblkaaGreat
open Go.RowKit

def fresh100 : List (List UInt8) := createdL 100 (List.replicate 100 (List.replicate 64 0))
theorem fresh_gen : genAcc fresh100 2 = 1 := by decide +kernel
theorem fresh_sec : fresh100[51]? = some (List.replicate 64 0) := by decide +kernel
theorem fresh_due : dueF 1 0 49 (List.replicate 64 0) = (0, false) := by decide +kernel
theorem freshOpen_any (w : World) (s p r k : Nat) (h : DiskAt w p r 100 k fresh100) :
    Calls Tryz.prog 19 #[.pointer (some ⟨s, 0, none⟩), .pointer (some ⟨p, 0, none⟩)] w fun e w' => ∃ ho, e = .returned (.tuple #[.pointer (some ⟨ho, 0, none⟩), .int .i64 0]) ∧ Fr NoB w w' :=
  hostOpen_any w s p r 100 k 1 49 51 fresh100 h (by omega) (by omega) fresh_gen.symm (by omega) (by omega) rfl rfl _ fresh_sec fresh_due
end Go.Proofs.YtnplamcajjblkaaGreat
