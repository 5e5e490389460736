/-
  Steps of a region that draws its order, where an operation that yields in every world that keeps what was there is taken first. Conditions: each lemma states its own.
-/
import Derived.Test.YtnkfchondedfcaaRg
import Derived.OrdersHeld
namespace Go.Proofs.Ytnkfchondedfcaa
open Go.RowKit

section
variable {P : Program} {ops : Array Oper} {Q : Exit → Act → World → Prop} {K : Act → World → Prop} {o : Oper} {a : Act} {w w' : World} {v : Value} {i : Nat}

/-- An operation that runs. -/
theorem wpOp_run (hi : ops[i]? = some o) (hw : Region.wanted o (yielded ops a.tmps) = true) (hr : (execOp a.eval o).run P w = .ok (.value v) w') (h : K (a.put o.dst v) w') : wpOp P ops Q i K a w := by
  unfold wpOp
  simp only [hi, hw, if_true, Oper.wp, hr, Oper.upon]
  exact .inl h

theorem wpOp_skip (hi : ops[i]? = some o) (hw : Region.wanted o (yielded ops a.tmps) = true) (hr : (execOp a.eval o).run P w = .ok .skip w') (h : K (a.put o.dst undef) w') : wpOp P ops Q i K a w := by
  unfold wpOp
  simp only [hi, hw, if_true, Oper.wp, hr, Oper.upon]
  exact .inl h

theorem exec_alloc_any (ty : TypeId) (ho : o.op = .alloc ty) (n : Nat) (hz : ((P.info? ty).bind (·.zero)).map (·.cells.size) = some n) :
    ∃ z : Array Value, z.size = n ∧ (execOp a.eval o).run P w = .ok (.value (.pointer (some ⟨w.heap.size, 0, none⟩))) (w.alloc (.cells z ty)) := by
  cases hq : (P.info? ty).bind (·.zero) with
  | none => rw [hq] at hz; cases hz
  | some z =>
    have hs : z.cells.size = n := by rw [hq] at hz; injection hz
    refine ⟨z.cells, hs, ?_⟩
    unfold execOp
    simp only [ho, Sem.run_bind, run_alloc_any w ty z hq, Result.andThen_ok, Sem.run_pure]

theorem exec_store_row (ty : TypeId) (x y : Operand) (ho : o.op = .store ty x y) (g : Nat) (cells : Array Value) (hx : a.eval x = .pointer (some ⟨g, 0, none⟩)) (hy : a.eval y = .agg cells)
    (t : TypeId) (old : Array Value) (hg : Blk w g t old) (hi : (P.info? ty).map (·.size) = some cells.size) (hold : old.size = cells.size) (h1 : cells.all (·.oneCell') = true) :
    (execOp a.eval o).run P w = .ok .skip (w.setRow g cells) := by
  have hr := run_storeVar_row (P := P) w g t ty old cells hg hi hold h1
  unfold execOp
  simp only [ho, hx, hy, Instr.storeAt, Instr.sureAddr, Sem.run_bind, Sem.run_pure, Result.andThen_ok, hr]

theorem setRow_fr' {g : Nat} {t : TypeId} {cs ds : Array Value} (h : Blk w g t cs) : Fr (· = g) w (w.setRow g ds) ∧ Blk (w.setRow g ds) g t ds :=
  ⟨⟨rfl, rfl, rfl, by simp, fun k _ hk => by simp [World.setRow, Array.getElem?_modify, Ne.symm hk]⟩, setRow_heap w g cs ds t (0, 0) h⟩

theorem wpOp_alloc (hi : ops[i]? = some o) (hw : Region.wanted o (yielded ops a.tmps) = true) (ty : TypeId) (ho : o.op = .alloc ty) (n : Nat) (hz : ((P.info? ty).bind (·.zero)).map (·.cells.size) = some n)
    (h : ∀ (g : Nat) (z : Array Value) (W : World), w.heap.size ≤ g → z.size = n → Blk W g ty z → Fr NoB w W → K (a.put o.dst (.pointer (some ⟨g, 0, none⟩))) W) : wpOp P ops Q i K a w := by
  obtain ⟨z, h1, h2⟩ := exec_alloc_any (P := P) (a := a) (w := w) ty ho n hz
  exact wpOp_run hi hw h2 (h _ z _ (Nat.le_refl _) h1 (Blk.new _ _ _) ((Fr.refl _ _).alloc _))
theorem wpOp_store_row (hi : ops[i]? = some o) (hw : Region.wanted o (yielded ops a.tmps) = true) (ty : TypeId) (x y : Operand) (ho : o.op = .store ty x y) (g : Nat) (cells : Array Value) (hx : a.eval x = .pointer (some ⟨g, 0, none⟩)) (hy : a.eval y = .agg cells)
    (t : TypeId) (old : Array Value) (hg : Blk w g t old) (hinf : (P.info? ty).map (·.size) = some cells.size) (hold : old.size = cells.size) (h1 : cells.all (·.oneCell') = true)
    (h : ∀ W : World, Fr (· = g) w W → Blk W g t cells → K (a.put o.dst undef) W) : wpOp P ops Q i K a w :=
  wpOp_skip hi hw (exec_store_row ty x y ho g cells hx hy t old hg hinf hold h1) (h _ (setRow_fr' hg).1 (setRow_fr' hg).2)
end
end Go.Proofs.Ytnkfchondedfcaa
