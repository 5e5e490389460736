/-
  More words for memory: a variable made for a struct or an array; a whole array of bytes. Conditions: each lemma states its own.
-/
import Derived.Test.YtnplamcajjblkaaGreatWd
namespace Go.Proofs.YtnplamcajjblkaaGreat
open Go.RowKit

section
variable {P : Program}
theorem run_alloc_any (w : World) (ty : TypeId) (z : Value) (hz : (P.info? ty).bind (·.zero) = some z) :
    (Instr.alloc ty true (.tuple #[])).run P w = .ok (.pointer (some ⟨w.heap.size, 0, none⟩)) (w.alloc (.cells z.cells ty)) := by
  cases hq : P.info? ty with
  | none => rw [hq] at hz; cases hz
  | some i =>
    have h : i.zero = some z := by rw [hq] at hz; exact hz
    simp [Instr.alloc, zeroValue, typeInfo, hq, h, newVar, newRow]

/-- 'var x T', T a struct or an array, in memory: a new block of so many cells. -/
theorem wpList_alloc_any {ops : Array Oper} {rest : List Oper} {o : Oper} {a : Act} {w : World} {Q : Exit → Act → World → Prop} (hgd : o.guard = none) (ty : TypeId) (ho : o.op = .alloc ty) (n : Nat)
    (hz : ((P.info? ty).bind (·.zero)).map (·.cells.size) = some n)
    (h : ∀ z : Array Value, z.size = n → wpList P ops Q rest (a.put o.dst (.pointer (some ⟨w.heap.size, 0, none⟩))) (w.alloc (.cells z ty))) : wpList P ops Q (o :: rest) a w := by
  refine wpList_plain hgd fun _ hK => ?_
  cases hq : (P.info? ty).bind (·.zero) with
  | none => rw [hq] at hz; cases hz
  | some z =>
    have hs : z.cells.size = n := by rw [hq] at hz; injection hz
    unfold Oper.wp execOp
    simp only [ho, Sem.run_bind, run_alloc_any w ty z hq, Result.andThen_ok, Sem.run_pure]
    exact hK _ _ (h _ hs)
/-- 'wpList_store_new' with the size named. -/
theorem wpList_store_newN {ops : Array Oper} {rest : List Oper} {o : Oper} {a : Act} {w : World} {Q : Exit → Act → World → Prop} (hgd : o.guard = none) (ty : TypeId) (x y : Operand) (ho : o.op = .store ty x y) (n : Nat) (hi : (P.info? ty).map (·.size) = some n)
    (t : TypeId) (old : Array Value) (hold : old.size = n) (cells : Array Value) (hx : a.eval x = .pointer (some ⟨w.heap.size, 0, none⟩)) (hy : a.eval y = .agg cells) (hcs : cells.size = n) (h1 : cells.all (·.oneCell') = true)
    (h : wpList P ops Q rest (a.put o.dst undef) (w.alloc (.cells cells t))) : wpList P ops Q (o :: rest) a (w.alloc (.cells old t)) :=
  wpList_store_new hgd ty x y ho t old cells hx hy (by rw [hcs]; exact hi) (by rw [hold, hcs]) h1 h
end
end Go.Proofs.YtnplamcajjblkaaGreat
