/-
  Steps of a region that draws its order, where an operation that yields in every world that keeps what was there is taken first. Conditions: each lemma states its own.
-/
import Derived.Test.YtnplamcajjblkaaGreatRg
import Derived.OrdersHeld
namespace Go.Proofs.YtnplamcajjblkaaGreat
open Go.RowKit

section
variable {P : Program} {ops : Array Oper} {Q : Exit → Act → World → Prop} {K : Act → World → Prop} {o : Oper} {a : Act} {w w' : World} {v : Value} {i : Nat}

/-- An operation that runs. -/
theorem wpOp_run (hi : ops[i]? = some o) (hw : Region.wanted o (yielded ops a.tmps) = true) (hr : (execOp a.eval o).run P w = .ok (.value v) w') (h : K (a.put o.dst v) w') : wpOp P ops Q i K a w := by
  unfold wpOp
  simp only [hi, hw, if_true, Oper.wp, hr, Oper.upon]
  exact .inl h

theorem wpOp_skip (hi : ops[i]? = some o) (hw : Region.wanted o (yielded ops a.tmps) = true) (hr : (execOp a.eval o).run P w = .ok .skip w') (h : K (a.put o.dst undef) w') : wpOp P ops Q i K a w := by
  unfold wpOp
  simp only [hi, hw, if_true, Oper.wp, hr, Oper.upon]
  exact .inl h

theorem exec_alloc_any (ty : TypeId) (ho : o.op = .alloc ty) (n : Nat) (hz : ((P.info? ty).bind (·.zero)).map (·.cells.size) = some n) :
    ∃ z : Array Value, z.size = n ∧ (execOp a.eval o).run P w = .ok (.value (.pointer (some ⟨w.heap.size, 0, none⟩))) (w.alloc (.cells z ty)) := by
  cases hq : (P.info? ty).bind (·.zero) with
  | none => rw [hq] at hz; cases hz
  | some z =>
    have hs : z.cells.size = n := by rw [hq] at hz; injection hz
    refine ⟨z.cells, hs, ?_⟩
    unfold execOp
    simp only [ho, Sem.run_bind, run_alloc_any w ty z hq, Result.andThen_ok, Sem.run_pure]

theorem exec_store_row (ty : TypeId) (x y : Operand) (ho : o.op = .store ty x y) (g : Nat) (cells : Array Value) (hx : a.eval x = .pointer (some ⟨g, 0, none⟩)) (hy : a.eval y = .agg cells)
    (t : TypeId) (old : Array Value) (hg : Blk w g t old) (hi : (P.info? ty).map (·.size) = some cells.size) (hold : old.size = cells.size) (h1 : cells.all (·.oneCell') = true) :
    (execOp a.eval o).run P w = .ok .skip (w.setRow g cells) := by
  have hr := run_storeVar_row (P := P) w g t ty old cells hg hi hold h1
  unfold execOp
  simp only [ho, hx, hy, Instr.storeAt, Instr.sureAddr, Sem.run_bind, Sem.run_pure, Result.andThen_ok, hr]

theorem setRow_fr' {g : Nat} {t : TypeId} {cs ds : Array Value} (h : Blk w g t cs) : Fr (· = g) w (w.setRow g ds) ∧ Blk (w.setRow g ds) g t ds :=
  ⟨⟨rfl, rfl, rfl, by simp, fun k _ hk => by simp [World.setRow, Array.getElem?_modify, Ne.symm hk]⟩, setRow_heap w g cs ds t (0, 0) h⟩

theorem wpOp_alloc (hi : ops[i]? = some o) (hw : Region.wanted o (yielded ops a.tmps) = true) (ty : TypeId) (ho : o.op = .alloc ty) (n : Nat) (hz : ((P.info? ty).bind (·.zero)).map (·.cells.size) = some n)
    (h : ∀ (g : Nat) (z : Array Value) (W : World), w.heap.size ≤ g → z.size = n → Blk W g ty z → Fr NoB w W → K (a.put o.dst (.pointer (some ⟨g, 0, none⟩))) W) : wpOp P ops Q i K a w := by
  obtain ⟨z, h1, h2⟩ := exec_alloc_any (P := P) (a := a) (w := w) ty ho n hz
  exact wpOp_run hi hw h2 (h _ z _ (Nat.le_refl _) h1 (Blk.new _ _ _) ((Fr.refl _ _).alloc _))
theorem wpOp_store_row (hi : ops[i]? = some o) (hw : Region.wanted o (yielded ops a.tmps) = true) (ty : TypeId) (x y : Operand) (ho : o.op = .store ty x y) (g : Nat) (cells : Array Value) (hx : a.eval x = .pointer (some ⟨g, 0, none⟩)) (hy : a.eval y = .agg cells)
    (t : TypeId) (old : Array Value) (hg : Blk w g t old) (hinf : (P.info? ty).map (·.size) = some cells.size) (hold : old.size = cells.size) (h1 : cells.all (·.oneCell') = true)
    (h : ∀ W : World, Fr (· = g) w W → Blk W g t cells → K (a.put o.dst undef) W) : wpOp P ops Q i K a w :=
  wpOp_skip hi hw (exec_store_row ty x y ho g cells hx hy t old hg hinf hold h1) (h _ (setRow_fr' hg).1 (setRow_fr' hg).2)
/-- append onto an owned row. -/
theorem wpOp_app {t e : TypeId} {z : Value} {size bytes : Nat} (E : ElemOk P t e z size bytes) (hi : ops[i]? = some o) (hw : Region.wanted o (yielded ops a.tmps) = true) (s x : Operand)
    (ho : o.op = .call { callee := .builtin .append, args := #[s, x], argTypes := #[t, t] })
    (A : Option Addr) (n c : Nat) (xs : List Value) (hs : a.eval s = .slice A n c) (hown : Own w e size A n c xs)
    (G : Nat → Prop) (B : Option Addr) (m d : Nat) (news : List Value) (hx : a.eval x = .slice B m d) (hr : Arr w G size B m news) (h1 : ∀ u ∈ news, u.oneCell' = true)
    (hbytes : (n + m) * bytes ≤ 140737488355328)
    (h : ∀ A' c' w', Own w' e size A' (n + m) c' (xs ++ news) → Fr (inB A) w w' → (∀ k, inB A' k → inB A k ∨ k = w.heap.size) → K (a.put o.dst (.slice A' (n + m) c')) w') : wpOp P ops Q i K a w := by
  obtain ⟨A', c', w', hrun, h2, h3, h4, _⟩ := run_app w E o.type A n c xs hown G B m d news hr h1 hbytes
  refine wpOp_run (v := .slice A' (n + m) c') (w' := w') hi hw ?_ (h A' c' w' h2 h3 h4)
  simp [execOp, ho, resolve, invoke, builtin, hs, hx, hrun, Result.andThen]
/-- A call of a function of the program. -/
theorem wpOp_call (hi : ops[i]? = some o) (hw : Region.wanted o (yielded ops a.tmps) = true) (f : FuncId) (hE : Enters P f) (xs : Array Operand) (ts : Array TypeId) (ho : o.op = .call { callee := .value (.func f), args := xs, argTypes := ts })
    (args : Array Value) (ha : (xs.toList.map a.eval).toArray = args) {p : Ending → World → Prop} (h : Calls P f args w p) (hp : ∀ e W, p e W → ∃ v, e = .returned v ∧ K (a.put o.dst v) W) : wpOp P ops Q i K a w := by
  have hr : (execOp a.eval o).run P w = .ok (.enter f args) w := by
    have he : (xs.toList.map a.eval).toArray = xs.map a.eval := by apply Array.ext'; simp
    rw [← ha, he]
    simp [execOp, ho, resolve, invoke, Act.eval, Deferred.ofValue, hE _ _]
  unfold wpOp
  simp only [hi, hw, if_true, Oper.wp, hr, Oper.upon]
  refine .inl (h.mono fun e W he => ?_)
  obtain ⟨v, rfl, hk⟩ := hp e W he
  exact hk
end
end Go.Proofs.YtnplamcajjblkaaGreat
