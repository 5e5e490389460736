/-
  The words for memory inside a fence (a round of a range over a function, an iterator), and at guarded operations. Conditions: each lemma states its own.
-/
import Derived.Test.YtnplamcajjblkaaGreatRf
import Derived.Great.FillDense
namespace Go.Proofs.YtnplamcajjblkaaGreat
open Go.RowKit

section
variable {P : Program} {F : Fence} {nF : Nat} {ops : Array Oper} {rest : List Oper} {o : Oper} {a : Act} {w w' : World} {Q : Exit → Act → World → Prop} {v : Value}

theorem wpListIn_run (hw : Region.wanted o (yielded ops a.tmps) = true) (hab : ∀ f, o.about P w a.eval = some f → F.fn f) (hnd : ∀ c, o.op ≠ .defer c) (hr : (execOp a.eval o).run P w = .ok (.value v) w')
    (h : wpListIn F nF P ops Q rest (a.put o.dst v) w') : wpListIn F nF P ops Q (o :: rest) a w :=
  wpListIn_step fun K hK => by
    rw [if_pos hw]
    refine ⟨hab, ?_⟩
    rw [Oper.semAt_plain F _ _ hnd, hr]
    exact hK _ _ h
theorem wpList_run (hw : Region.wanted o (yielded ops a.tmps) = true) (hr : (execOp a.eval o).run P w = .ok (.value v) w')
    (h : wpList P ops Q rest (a.put o.dst v) w') : wpList P ops Q (o :: rest) a w :=
  wpList_step fun K hK => by
    rw [if_pos hw]
    unfold Oper.wp
    rw [hr]
    exact hK _ _ h

theorem exec_load_agg (ty : TypeId) (x : Operand) (ho : o.op = .load ty x) (b off : Nat) (hx : a.eval x = .pointer (some ⟨b, off, none⟩)) (y : List Value) (d : TypeDesc) (hc : ∀ j u, y[j]? = some u → w.cell? ⟨b, off + j, none⟩ = some u)
    (hu : P.underlying ty = some d) (hd : (match d with | .struct _ | .array _ _ => true | _ => false) = true) (hi : (P.info? ty).map (·.size) = some y.length) :
    (execOp a.eval o).run P w = .ok (.value (.agg y.toArray)) w := by
  unfold execOp
  simp only [ho, hx, Instr.loadAt, Instr.sureAddr, Sem.run_bind, Sem.run_pure, Result.andThen_ok, run_load_agg w ty b off y d hc hu hd hi]

theorem about_load (ty : TypeId) (x : Operand) (ho : o.op = .load ty x) (f : FuncId) (h : o.about P w a.eval = some f) : F.fn f := by
  simp [Oper.about, ho] at h

/-- A struct or an array loaded, at an operation that may be guarded. -/
theorem wpList_load_aggG (hw : Region.wanted o (yielded ops a.tmps) = true) (ty : TypeId) (x : Operand) (ho : o.op = .load ty x) (b off : Nat) (hx : a.eval x = .pointer (some ⟨b, off, none⟩)) (y : List Value) (d : TypeDesc) (hc : ∀ j u, y[j]? = some u → w.cell? ⟨b, off + j, none⟩ = some u)
    (hu : P.underlying ty = some d) (hd : (match d with | .struct _ | .array _ _ => true | _ => false) = true) (hi : (P.info? ty).map (·.size) = some y.length)
    (h : wpList P ops Q rest (a.put o.dst (.agg y.toArray)) w) : wpList P ops Q (o :: rest) a w :=
  wpList_run hw (exec_load_agg ty x ho b off hx y d hc hu hd hi) h
theorem wpListIn_load_agg (hw : Region.wanted o (yielded ops a.tmps) = true) (ty : TypeId) (x : Operand) (ho : o.op = .load ty x) (b off : Nat) (hx : a.eval x = .pointer (some ⟨b, off, none⟩)) (y : List Value) (d : TypeDesc) (hc : ∀ j u, y[j]? = some u → w.cell? ⟨b, off + j, none⟩ = some u)
    (hu : P.underlying ty = some d) (hd : (match d with | .struct _ | .array _ _ => true | _ => false) = true) (hi : (P.info? ty).map (·.size) = some y.length)
    (h : wpListIn F nF P ops Q rest (a.put o.dst (.agg y.toArray)) w) : wpListIn F nF P ops Q (o :: rest) a w :=
  wpListIn_run hw (about_load ty x ho) (by rw [ho]; intro c hc'; cases hc') (exec_load_agg ty x ho b off hx y d hc hu hd hi) h

theorem wpListIn_alloc_any (hgd : o.guard = none) (ty : TypeId) (ho : o.op = .alloc ty) (n : Nat) (hz : ((P.info? ty).bind (·.zero)).map (·.cells.size) = some n)
    (h : ∀ z : Array Value, z.size = n → wpListIn F nF P ops Q rest (a.put o.dst (.pointer (some ⟨w.heap.size, 0, none⟩))) (w.alloc (.cells z ty))) : wpListIn F nF P ops Q (o :: rest) a w := by
  cases hq : (P.info? ty).bind (·.zero) with
  | none => rw [hq] at hz; cases hz
  | some z =>
    have hs : z.cells.size = n := by rw [hq] at hz; injection hz
    refine wpListIn_run (v := .pointer (some ⟨w.heap.size, 0, none⟩)) (w' := w.alloc (.cells z.cells ty)) (by simp [Region.wanted, hgd]) (fun f hf => by simp [Oper.about, ho] at hf) (by rw [ho]; intro c hc'; cases hc') ?_ (h _ hs)
    unfold execOp
    simp only [ho, Sem.run_bind, run_alloc_any w ty z hq, Result.andThen_ok, Sem.run_pure]

theorem wpListIn_store_newN (hgd : o.guard = none) (ty : TypeId) (x y : Operand) (ho : o.op = .store ty x y) (n : Nat) (hi : (P.info? ty).map (·.size) = some n)
    (t : TypeId) (old : Array Value) (hold : old.size = n) (cells : Array Value) (hx : a.eval x = .pointer (some ⟨w.heap.size, 0, none⟩)) (hy : a.eval y = .agg cells) (hcs : cells.size = n) (h1 : cells.all (·.oneCell') = true)
    (h : wpListIn F nF P ops Q rest (a.put o.dst undef) (w.alloc (.cells cells t))) : wpListIn F nF P ops Q (o :: rest) a (w.alloc (.cells old t)) := by
  have hr := run_storeVar_row (P := P) (w.alloc (.cells old t)) w.heap.size t ty old cells (heap_alloc_new w _) (by rw [hcs]; exact hi) (by rw [hold, hcs]) h1
  rw [setRow_alloc] at hr
  refine wpListIn_step fun K hK => ?_
  rw [if_pos (by simp [Region.wanted, hgd])]
  refine ⟨fun f hf => by simp [Oper.about, ho] at hf, ?_⟩
  rw [Oper.semAt_plain F _ _ (by rw [ho]; intro c hc'; cases hc')]
  unfold execOp
  simp only [ho, hx, hy, Instr.storeAt, Instr.sureAddr, Sem.run_bind, Sem.run_pure, Result.andThen_ok, hr]
  exact hK _ _ h

theorem run_app (w : World) {t e : TypeId} {z : Value} {size bytes : Nat} (E : ElemOk P t e z size bytes) (ty : TypeId)
    (A : Option Addr) (n c : Nat) (xs : List Value) (hown : Own w e size A n c xs)
    (F : Nat → Prop) (B : Option Addr) (m d : Nat) (news : List Value) (hr : Arr w F size B m news) (h1 : ∀ u ∈ news, u.oneCell' = true) (hbytes : (n + m) * bytes ≤ 140737488355328) :
    ∃ A' c' w', (Builtin.append_ #[t, t] ty #[.slice A n c, .slice B m d]).run P w = .ok (.slice A' (n + m) c') w' ∧ Own w' e size A' (n + m) c' (xs ++ news) ∧ Fr (inB A) w w' ∧ (∀ k, inB A' k → inB A k ∨ k = w.heap.size) ∧ (A' = none ↔ A = none ∧ m = 0) := by
  obtain ⟨ht, ⟨i, hi, hz, hsize, hby⟩, hzs, hsz, hb0⟩ := E
  have h63 : n + m ≤ maxLen := by
    have := Nat.le_mul_of_pos_right (n + m) hb0
    simp only [maxLen]; omega
  obtain ⟨v', w', hrun, h2, h3, h4, h5⟩ := run_append_any (P := P) w 0 t ty e i z size bytes ht hi hz hsize hby hzs hsz (.slice A n c) n xs hown F B m d news hr h1 h63 hbytes (Nat.zero_le _)
  have hv : ∃ A' c', v' = .slice A' (n + m) c' := by
    rcases h2.2 with ⟨rfl, e0⟩ | ⟨g, cap, _, rfl, _⟩
    · exact ⟨none, 0, by rw [e0]⟩
    · exact ⟨_, _, rfl⟩
  obtain ⟨A', c', rfl⟩ := hv
  have hblk : ∀ (X : Option Addr) (p q k : Nat), (Value.slice X p q).ownBlock = some k ↔ inB X k := by
    intro X p q k
    cases X with
    | none => exact ⟨fun h => (by cases h), fun h => absurd h (inB_none k)⟩
    | some a => rw [inB_some]; simp [Value.ownBlock]
  have hnil : ∀ {w : World} {X : Option Addr} {p q : Nat} {ys : List Value}, Own w e size X p q ys → (X = none ↔ Value.slice X p q = .slice none 0 0) := by
    intro w X p q ys hX
    constructor
    · intro hA
      rcases Own.form hX with ⟨_, e1, e2, _⟩ | ⟨g, _, e1, _⟩
      · rw [hA, e1, e2]
      · rw [hA] at e1; cases e1
    · intro hA; injection hA
  refine ⟨A', c', w', hrun, h2, (Fr.refl _ w).grown h3 fun k hk => .inl ((hblk _ _ _ _).1 hk), fun k hk => ?_, ?_⟩
  · have hk' := (hblk A' (n + m) c' k).2 hk
    rcases h5 with h5 | h5 <;> rw [h5] at hk'
    · exact .inl ((hblk _ _ _ _).1 hk')
    · exact .inr (by injection hk' with hk'; exact hk'.symm)
  · rw [hnil h2, h4, hnil hown]

theorem wpListIn_app {t e : TypeId} {z : Value} {size bytes : Nat} (E : ElemOk P t e z size bytes) (hgd : o.guard = none) (s x : Operand)
    (ho : o.op = .call { callee := .builtin .append, args := #[s, x], argTypes := #[t, t] })
    (A : Option Addr) (n c : Nat) (xs : List Value) (hs : a.eval s = .slice A n c) (hown : Own w e size A n c xs)
    (G : Nat → Prop) (B : Option Addr) (m d : Nat) (news : List Value) (hx : a.eval x = .slice B m d) (hr : Arr w G size B m news) (h1 : ∀ u ∈ news, u.oneCell' = true)
    (hbytes : (n + m) * bytes ≤ 140737488355328)
    (h : ∀ A' c' w', Own w' e size A' (n + m) c' (xs ++ news) → Fr (inB A) w w' → (∀ k, inB A' k → inB A k ∨ k = w.heap.size) → (A' = none ↔ A = none ∧ m = 0) → wpListIn F nF P ops Q rest (a.put o.dst (.slice A' (n + m) c')) w') : wpListIn F nF P ops Q (o :: rest) a w := by
  obtain ⟨A', c', w', hrun, h2, h3, h4, h5⟩ := run_app w E o.type A n c xs hown G B m d news hr h1 hbytes
  refine wpListIn_run (v := .slice A' (n + m) c') (w' := w') (by simp [Region.wanted, hgd]) ?_ (by rw [ho]; intro c hc'; cases hc') ?_ (h A' c' w' h2 h3 h4 h5)
  · simp [Oper.about, ho, resolve, Target.leads, Sem.run_pure]
  · simp [execOp, ho, resolve, invoke, builtin, hs, hx, hrun, Result.andThen]
/-- 'append(s, x)' of one struct or array x: x is laid in a new block of its own. -/
theorem run_build1 (w : World) {t e : TypeId} {z : Value} {size bytes : Nat} (E : ElemOk P t e z size bytes) (hsm : size ≤ 16777216) (cells : Array Value) (hc : cells.size = size) :
    (Instr.buildSlice t 1 #[(0, .agg cells)]).run P w = .ok (.slice (some ⟨w.heap.size, 0, none⟩) 1 1) (w.alloc (.cells cells e)) := by
  obtain ⟨ht, ⟨i, hi, hz, hsize, _⟩, hzs, hsz, _⟩ := E
  have hf := Great.fill_whole hsz [.agg cells] ((Array.range (1 * size)).map (z.cells[· % z.cells.size]!)) (by simp [Value.cells, hc]) (by simp)
  simp only [List.zipIdx_cons, List.zipIdx_nil, List.map_cons, List.map_nil, List.flatMap_cons, List.flatMap_nil, List.append_nil, show (Value.agg cells).cells = cells from rfl, Array.toArray_toList, Nat.one_mul] at hf
  subst hsize
  simp [Instr.buildSlice, run_underlying ht, sizeOf, typeInfo, zeroValue, hi, hz, hf, newRow, show ¬ i.size > 16777216 by omega, show ¬ i.size = 0 by omega]

theorem Arr.new (w : World) (t : TypeId) (cs : Array Value) (n size : Nat) (h : cs.size = n * size) : Arr (w.alloc (.cells cs t)) (fun k => k = w.heap.size) size (some ⟨w.heap.size, 0, none⟩) n cs.toList := by
  refine ⟨by simpa using h, fun _ => ⟨_, _, rfl, rfl, fun j u hu => ?_⟩⟩
  rw [Nat.zero_add]
  refine ((Blk.new w t cs).cell j).trans ?_
  simpa using hu

theorem exec_build1 {t e : TypeId} {z : Value} {size bytes : Nat} (E : ElemOk P t e z size bytes) (hsm : size ≤ 16777216) (x : Operand) (ho : o.op = .buildSlice t 1 #[(0, x)]) (cells : Array Value) (hx : a.eval x = .agg cells) (hc : cells.size = size) :
    (execOp a.eval o).run P w = .ok (.value (.slice (some ⟨w.heap.size, 0, none⟩) 1 1)) (w.alloc (.cells cells e)) := by
  have h := run_build1 (P := P) w E hsm cells hc
  unfold execOp
  simp only [ho, List.map_toArray, List.map_cons, List.map_nil, hx, Sem.run_bind, h, Result.andThen_ok, Sem.run_pure]

theorem wpListIn_build1 (hgd : o.guard = none) {t e : TypeId} {z : Value} {size bytes : Nat} (E : ElemOk P t e z size bytes) (hsm : size ≤ 16777216) (x : Operand) (ho : o.op = .buildSlice t 1 #[(0, x)]) (cells : Array Value) (hx : a.eval x = .agg cells) (hc : cells.size = size)
    (h : wpListIn F nF P ops Q rest (a.put o.dst (.slice (some ⟨w.heap.size, 0, none⟩) 1 1)) (w.alloc (.cells cells e))) : wpListIn F nF P ops Q (o :: rest) a w :=
  wpListIn_run (by simp [Region.wanted, hgd]) (fun f hf => by simp [Oper.about, ho] at hf) (by rw [ho]; intro c hc'; cases hc') (exec_build1 E hsm x ho cells hx hc) h
theorem wpList_build1 (hgd : o.guard = none) {t e : TypeId} {z : Value} {size bytes : Nat} (E : ElemOk P t e z size bytes) (hsm : size ≤ 16777216) (x : Operand) (ho : o.op = .buildSlice t 1 #[(0, x)]) (cells : Array Value) (hx : a.eval x = .agg cells) (hc : cells.size = size)
    (h : wpList P ops Q rest (a.put o.dst (.slice (some ⟨w.heap.size, 0, none⟩) 1 1)) (w.alloc (.cells cells e))) : wpList P ops Q (o :: rest) a w :=
  wpList_run (by simp [Region.wanted, hgd]) (exec_build1 E hsm x ho cells hx hc) h

end
end Go.Proofs.YtnplamcajjblkaaGreat
