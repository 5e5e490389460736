/-
  A tree that knows one key (tree.New, Know). Conditions: each contract states its own.
-/
import Derived.Test.YtnplamcajjblkaaGreatKs
import Derived.Test.YtnplamcajjblkaaGreatZa
import Derived.DeepKeys4
namespace Go.Proofs.YtnplamcajjblkaaGreat
open Go.RowKit
open Go.Maps (Keyed)
open Go.ChangeMaps Go.MapKept

theorem spanLaid : laidOutB Tryz.prog = true := by kernel_rfl
theorem spanRow : 254 < Tryz.prog.types.size := of_decide_eq_true (by kernel_rfl)
theorem span_keyed : Keyed Tryz.prog 254 := Keyed.of_law (deep_law_laid spanLaid (m := 2) (by omega) spanRow (by kernel_rfl) (by rw [Tryz.underlying254]))
theorem span_key : (keyOf Tryz.prog 254 (.agg #[.int .u32 1, .int .u32 0])).isSome = true := by kernel_rfl
noncomputable def spanLit : Lit := (keyOf Tryz.prog 254 (.agg #[.int .u32 1, .int .u32 0])).get span_key
theorem span_as : KeyAs Tryz.prog 254 (fun _ : Unit => True) (fun _ => .agg #[.int .u32 1, .int .u32 0]) (fun _ => spanLit) :=
  ⟨span_keyed, fun _ _ => (Option.some_get span_key).symm, fun _ _ _ => rfl⟩
end Go.Proofs.YtnplamcajjblkaaGreat
