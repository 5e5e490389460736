/-
  The document's reader (tabulariumref08.Reader): fail, End, Raw, N, Text. Conditions: each contract states its own.
-/
import Derived.Test.YtnkfchondedfcaaK1
import Derived.Great.FillDense
import Derived.Stop.BytesEq
import Derived.Deep.QuietTactic
import Derived.BigQuiet
import Derived.Test.YtnkfchondedfcaaRows
import Derived.Outline
import Derived.Laws.Cover3
namespace Go.Proofs.Ytnkfchondedfcaa
section
open Go.RowKit

section
variable {P : Program} {F : Fence} {nF : Nat} {ops : Array Oper} {rest : List Oper} {o : Oper} {a : Act} {w w' : World} {Q : Exit → Act → World → Prop} {v : Value}

theorem wpListIn_run (hw : Region.wanted o (yielded ops a.tmps) = true) (hab : ∀ f, o.about P w a.eval = some f → F.fn f) (hnd : ∀ c, o.op ≠ .defer c) (hr : (execOp a.eval o).run P w = .ok (.value v) w')
    (h : wpListIn F nF P ops Q rest (a.put o.dst v) w') : wpListIn F nF P ops Q (o :: rest) a w :=
  wpListIn_step fun K hK => by
    rw [if_pos hw]
    refine ⟨hab, ?_⟩
    rw [Oper.semAt_plain F _ _ hnd, hr]
    exact hK _ _ h
theorem wpList_run (hw : Region.wanted o (yielded ops a.tmps) = true) (hr : (execOp a.eval o).run P w = .ok (.value v) w')
    (h : wpList P ops Q rest (a.put o.dst v) w') : wpList P ops Q (o :: rest) a w :=
  wpList_step fun K hK => by
    rw [if_pos hw]
    unfold Oper.wp
    rw [hr]
    exact hK _ _ h

theorem exec_load_agg (ty : TypeId) (x : Operand) (ho : o.op = .load ty x) (b off : Nat) (hx : a.eval x = .pointer (some ⟨b, off, none⟩)) (y : List Value) (d : TypeDesc) (hc : ∀ j u, y[j]? = some u → w.cell? ⟨b, off + j, none⟩ = some u)
    (hu : P.underlying ty = some d) (hd : (match d with | .struct _ | .array _ _ => true | _ => false) = true) (hi : (P.info? ty).map (·.size) = some y.length) :
    (execOp a.eval o).run P w = .ok (.value (.agg y.toArray)) w := by
  unfold execOp
  simp only [ho, hx, Instr.loadAt, Instr.sureAddr, Sem.run_bind, Sem.run_pure, Result.andThen_ok, run_load_agg w ty b off y d hc hu hd hi]

theorem about_load (ty : TypeId) (x : Operand) (ho : o.op = .load ty x) (f : FuncId) (h : o.about P w a.eval = some f) : F.fn f := by
  simp [Oper.about, ho] at h

/-- A struct or an array loaded, at an operation that may be guarded. -/
theorem wpList_load_aggG (hw : Region.wanted o (yielded ops a.tmps) = true) (ty : TypeId) (x : Operand) (ho : o.op = .load ty x) (b off : Nat) (hx : a.eval x = .pointer (some ⟨b, off, none⟩)) (y : List Value) (d : TypeDesc) (hc : ∀ j u, y[j]? = some u → w.cell? ⟨b, off + j, none⟩ = some u)
    (hu : P.underlying ty = some d) (hd : (match d with | .struct _ | .array _ _ => true | _ => false) = true) (hi : (P.info? ty).map (·.size) = some y.length)
    (h : wpList P ops Q rest (a.put o.dst (.agg y.toArray)) w) : wpList P ops Q (o :: rest) a w :=
  wpList_run hw (exec_load_agg ty x ho b off hx y d hc hu hd hi) h
theorem wpListIn_load_agg (hw : Region.wanted o (yielded ops a.tmps) = true) (ty : TypeId) (x : Operand) (ho : o.op = .load ty x) (b off : Nat) (hx : a.eval x = .pointer (some ⟨b, off, none⟩)) (y : List Value) (d : TypeDesc) (hc : ∀ j u, y[j]? = some u → w.cell? ⟨b, off + j, none⟩ = some u)
    (hu : P.underlying ty = some d) (hd : (match d with | .struct _ | .array _ _ => true | _ => false) = true) (hi : (P.info? ty).map (·.size) = some y.length)
    (h : wpListIn F nF P ops Q rest (a.put o.dst (.agg y.toArray)) w) : wpListIn F nF P ops Q (o :: rest) a w :=
  wpListIn_run hw (about_load ty x ho) (by rw [ho]; intro c hc'; cases hc') (exec_load_agg ty x ho b off hx y d hc hu hd hi) h

theorem wpListIn_alloc_any (hgd : o.guard = none) (ty : TypeId) (ho : o.op = .alloc ty) (n : Nat) (hz : ((P.info? ty).bind (·.zero)).map (·.cells.size) = some n)
    (h : ∀ z : Array Value, z.size = n → wpListIn F nF P ops Q rest (a.put o.dst (.pointer (some ⟨w.heap.size, 0, none⟩))) (w.alloc (.cells z ty))) : wpListIn F nF P ops Q (o :: rest) a w := by
  cases hq : (P.info? ty).bind (·.zero) with
  | none => rw [hq] at hz; cases hz
  | some z =>
    have hs : z.cells.size = n := by rw [hq] at hz; injection hz
    refine wpListIn_run (v := .pointer (some ⟨w.heap.size, 0, none⟩)) (w' := w.alloc (.cells z.cells ty)) (by simp [Region.wanted, hgd]) (fun f hf => by simp [Oper.about, ho] at hf) (by rw [ho]; intro c hc'; cases hc') ?_ (h _ hs)
    unfold execOp
    simp only [ho, Sem.run_bind, run_alloc_any w ty z hq, Result.andThen_ok, Sem.run_pure]

theorem wpListIn_store_newN (hgd : o.guard = none) (ty : TypeId) (x y : Operand) (ho : o.op = .store ty x y) (n : Nat) (hi : (P.info? ty).map (·.size) = some n)
    (t : TypeId) (old : Array Value) (hold : old.size = n) (cells : Array Value) (hx : a.eval x = .pointer (some ⟨w.heap.size, 0, none⟩)) (hy : a.eval y = .agg cells) (hcs : cells.size = n) (h1 : cells.all (·.oneCell') = true)
    (h : wpListIn F nF P ops Q rest (a.put o.dst undef) (w.alloc (.cells cells t))) : wpListIn F nF P ops Q (o :: rest) a (w.alloc (.cells old t)) := by
  have hr := run_storeVar_row (P := P) (w.alloc (.cells old t)) w.heap.size t ty old cells (heap_alloc_new w _) (by rw [hcs]; exact hi) (by rw [hold, hcs]) h1
  rw [setRow_alloc] at hr
  refine wpListIn_step fun K hK => ?_
  rw [if_pos (by simp [Region.wanted, hgd])]
  refine ⟨fun f hf => by simp [Oper.about, ho] at hf, ?_⟩
  rw [Oper.semAt_plain F _ _ (by rw [ho]; intro c hc'; cases hc')]
  unfold execOp
  simp only [ho, hx, hy, Instr.storeAt, Instr.sureAddr, Sem.run_bind, Sem.run_pure, Result.andThen_ok, hr]
  exact hK _ _ h

theorem run_app (w : World) {t e : TypeId} {z : Value} {size bytes : Nat} (E : ElemOk P t e z size bytes) (ty : TypeId)
    (A : Option Addr) (n c : Nat) (xs : List Value) (hown : Own w e size A n c xs)
    (F : Nat → Prop) (B : Option Addr) (m d : Nat) (news : List Value) (hr : Arr w F size B m news) (h1 : ∀ u ∈ news, u.oneCell' = true) (hbytes : (n + m) * bytes ≤ 140737488355328) :
    ∃ A' c' w', (Builtin.append_ #[t, t] ty #[.slice A n c, .slice B m d]).run P w = .ok (.slice A' (n + m) c') w' ∧ Own w' e size A' (n + m) c' (xs ++ news) ∧ Fr (inB A) w w' ∧ (∀ k, inB A' k → inB A k ∨ k = w.heap.size) ∧ (A' = none ↔ A = none ∧ m = 0) := by
  obtain ⟨ht, ⟨i, hi, hz, hsize, hby⟩, hzs, hsz, hb0⟩ := E
  have h63 : n + m ≤ maxLen := by
    have := Nat.le_mul_of_pos_right (n + m) hb0
    simp only [maxLen]; omega
  obtain ⟨v', w', hrun, h2, h3, h4, h5⟩ := run_append_any (P := P) w 0 t ty e i z size bytes ht hi hz hsize hby hzs hsz (.slice A n c) n xs hown F B m d news hr h1 h63 hbytes (Nat.zero_le _)
  have hv : ∃ A' c', v' = .slice A' (n + m) c' := by
    rcases h2.2 with ⟨rfl, e0⟩ | ⟨g, cap, _, rfl, _⟩
    · exact ⟨none, 0, by rw [e0]⟩
    · exact ⟨_, _, rfl⟩
  obtain ⟨A', c', rfl⟩ := hv
  have hblk : ∀ (X : Option Addr) (p q k : Nat), (Value.slice X p q).ownBlock = some k ↔ inB X k := by
    intro X p q k
    cases X with
    | none => exact ⟨fun h => (by cases h), fun h => absurd h (inB_none k)⟩
    | some a => rw [inB_some]; simp [Value.ownBlock]
  have hnil : ∀ {w : World} {X : Option Addr} {p q : Nat} {ys : List Value}, Own w e size X p q ys → (X = none ↔ Value.slice X p q = .slice none 0 0) := by
    intro w X p q ys hX
    constructor
    · intro hA
      rcases Own.form hX with ⟨_, e1, e2, _⟩ | ⟨g, _, e1, _⟩
      · rw [hA, e1, e2]
      · rw [hA] at e1; cases e1
    · intro hA; injection hA
  refine ⟨A', c', w', hrun, h2, (Fr.refl _ w).grown h3 fun k hk => .inl ((hblk _ _ _ _).1 hk), fun k hk => ?_, ?_⟩
  · have hk' := (hblk A' (n + m) c' k).2 hk
    rcases h5 with h5 | h5 <;> rw [h5] at hk'
    · exact .inl ((hblk _ _ _ _).1 hk')
    · exact .inr (by injection hk' with hk'; exact hk'.symm)
  · rw [hnil h2, h4, hnil hown]

theorem wpListIn_app {t e : TypeId} {z : Value} {size bytes : Nat} (E : ElemOk P t e z size bytes) (hgd : o.guard = none) (s x : Operand)
    (ho : o.op = .call { callee := .builtin .append, args := #[s, x], argTypes := #[t, t] })
    (A : Option Addr) (n c : Nat) (xs : List Value) (hs : a.eval s = .slice A n c) (hown : Own w e size A n c xs)
    (G : Nat → Prop) (B : Option Addr) (m d : Nat) (news : List Value) (hx : a.eval x = .slice B m d) (hr : Arr w G size B m news) (h1 : ∀ u ∈ news, u.oneCell' = true)
    (hbytes : (n + m) * bytes ≤ 140737488355328)
    (h : ∀ A' c' w', Own w' e size A' (n + m) c' (xs ++ news) → Fr (inB A) w w' → (∀ k, inB A' k → inB A k ∨ k = w.heap.size) → (A' = none ↔ A = none ∧ m = 0) → wpListIn F nF P ops Q rest (a.put o.dst (.slice A' (n + m) c')) w') : wpListIn F nF P ops Q (o :: rest) a w := by
  obtain ⟨A', c', w', hrun, h2, h3, h4, h5⟩ := run_app w E o.type A n c xs hown G B m d news hr h1 hbytes
  refine wpListIn_run (v := .slice A' (n + m) c') (w' := w') (by simp [Region.wanted, hgd]) ?_ (by rw [ho]; intro c hc'; cases hc') ?_ (h A' c' w' h2 h3 h4 h5)
  · simp [Oper.about, ho, resolve, Target.leads, Sem.run_pure]
  · simp [execOp, ho, resolve, invoke, builtin, hs, hx, hrun, Result.andThen]
/-- 'append(s, x)' of one struct or array x: x is laid in a new block of its own. -/
theorem run_build1 (w : World) {t e : TypeId} {z : Value} {size bytes : Nat} (E : ElemOk P t e z size bytes) (hsm : size ≤ 16777216) (cells : Array Value) (hc : cells.size = size) :
    (Instr.buildSlice t 1 #[(0, .agg cells)]).run P w = .ok (.slice (some ⟨w.heap.size, 0, none⟩) 1 1) (w.alloc (.cells cells e)) := by
  obtain ⟨ht, ⟨i, hi, hz, hsize, _⟩, hzs, hsz, _⟩ := E
  have hf := Great.fill_whole hsz [.agg cells] ((Array.range (1 * size)).map (z.cells[· % z.cells.size]!)) (by simp [Value.cells, hc]) (by simp)
  simp only [List.zipIdx_cons, List.zipIdx_nil, List.map_cons, List.map_nil, List.flatMap_cons, List.flatMap_nil, List.append_nil, show (Value.agg cells).cells = cells from rfl, Array.toArray_toList, Nat.one_mul] at hf
  subst hsize
  simp [Instr.buildSlice, run_underlying ht, sizeOf, typeInfo, zeroValue, hi, hz, hf, newRow, show ¬ i.size > 16777216 by omega, show ¬ i.size = 0 by omega]

theorem Arr.new (w : World) (t : TypeId) (cs : Array Value) (n size : Nat) (h : cs.size = n * size) : Arr (w.alloc (.cells cs t)) (fun k => k = w.heap.size) size (some ⟨w.heap.size, 0, none⟩) n cs.toList := by
  refine ⟨by simpa using h, fun _ => ⟨_, _, rfl, rfl, fun j u hu => ?_⟩⟩
  rw [Nat.zero_add]
  refine ((Blk.new w t cs).cell j).trans ?_
  simpa using hu

theorem exec_build1 {t e : TypeId} {z : Value} {size bytes : Nat} (E : ElemOk P t e z size bytes) (hsm : size ≤ 16777216) (x : Operand) (ho : o.op = .buildSlice t 1 #[(0, x)]) (cells : Array Value) (hx : a.eval x = .agg cells) (hc : cells.size = size) :
    (execOp a.eval o).run P w = .ok (.value (.slice (some ⟨w.heap.size, 0, none⟩) 1 1)) (w.alloc (.cells cells e)) := by
  have h := run_build1 (P := P) w E hsm cells hc
  unfold execOp
  simp only [ho, List.map_toArray, List.map_cons, List.map_nil, hx, Sem.run_bind, h, Result.andThen_ok, Sem.run_pure]

theorem wpListIn_build1 (hgd : o.guard = none) {t e : TypeId} {z : Value} {size bytes : Nat} (E : ElemOk P t e z size bytes) (hsm : size ≤ 16777216) (x : Operand) (ho : o.op = .buildSlice t 1 #[(0, x)]) (cells : Array Value) (hx : a.eval x = .agg cells) (hc : cells.size = size)
    (h : wpListIn F nF P ops Q rest (a.put o.dst (.slice (some ⟨w.heap.size, 0, none⟩) 1 1)) (w.alloc (.cells cells e))) : wpListIn F nF P ops Q (o :: rest) a w :=
  wpListIn_run (by simp [Region.wanted, hgd]) (fun f hf => by simp [Oper.about, ho] at hf) (by rw [ho]; intro c hc'; cases hc') (exec_build1 E hsm x ho cells hx hc) h
theorem wpList_build1 (hgd : o.guard = none) {t e : TypeId} {z : Value} {size bytes : Nat} (E : ElemOk P t e z size bytes) (hsm : size ≤ 16777216) (x : Operand) (ho : o.op = .buildSlice t 1 #[(0, x)]) (cells : Array Value) (hx : a.eval x = .agg cells) (hc : cells.size = size)
    (h : wpList P ops Q rest (a.put o.dst (.slice (some ⟨w.heap.size, 0, none⟩) 1 1)) (w.alloc (.cells cells e))) : wpList P ops Q (o :: rest) a w :=
  wpList_run (by simp [Region.wanted, hgd]) (exec_build1 E hsm x ho cells hx hc) h

end
end

section
open Go.RowKit

section
variable {P : Program} {ops : Array Oper} {rest : List Oper} {o : Oper} {a : Act} {w : World} {Q : Exit → Act → World → Prop}

theorem bv_cell : bv = Extern.Stop.cell := rfl

theorem exec_eql_arr (t e t' : TypeId) (n : Nat) (x y : Operand) (ho : o.op = .binOp .eql t x y t') (ht : P.underlying t = some (.array n e)) (he : P.underlying e = some (.int .u8)) (hsz : ∀ w, (sizeOf e).run P w = .ok 1 w) (hm : P.eqGuardType P.depth t = false)
    (xs ys : List UInt8) (hx : a.eval x = .agg (xs.map bv).toArray) (hy : a.eval y = .agg (ys.map bv).toArray) (hxl : xs.length = n) (hyl : ys.length = n) :
    (execOp a.eval o).run P w = .ok (.value (.bool (xs == ys))) w := by
  unfold execOp
  simp only [ho, hx, hy, Sem.run_bind, run_eqGuard_agg w _ _ _ _ _ _ hm, Result.andThen_ok, run_eql_struct, bv_cell, run_equalIn_bytes w 9998 t e n ht he hsz xs ys hxl hyl, Sem.run_pure]
theorem exec_neq_arr (t e t' : TypeId) (n : Nat) (x y : Operand) (ho : o.op = .binOp .neq t x y t') (ht : P.underlying t = some (.array n e)) (he : P.underlying e = some (.int .u8)) (hsz : ∀ w, (sizeOf e).run P w = .ok 1 w) (hm : P.eqGuardType P.depth t = false)
    (xs ys : List UInt8) (hx : a.eval x = .agg (xs.map bv).toArray) (hy : a.eval y = .agg (ys.map bv).toArray) (hxl : xs.length = n) (hyl : ys.length = n) :
    (execOp a.eval o).run P w = .ok (.value (.bool (!(xs == ys)))) w := by
  unfold execOp
  simp only [ho, hx, hy, Sem.run_bind, run_eqGuard_agg w _ _ _ _ _ _ hm, Result.andThen_ok, run_neq_struct, bv_cell, run_equalIn_bytes w 9998 t e n ht he hsz xs ys hxl hyl, Sem.run_pure]
/-- An operation of a region that draws its order and only reads. -/
theorem wpQuiet_run {C : World → Prop} {Qq : Act → Prop} {v : Value} (hw : Region.wanted o (yielded ops a.tmps) = true) (hr : ∀ w, C w → (execOp a.eval o).run P w = .ok (.value v) w) (h : wpQuiet P ops C Qq rest (a.put o.dst v)) : wpQuiet P ops C Qq (o :: rest) a := by
  unfold wpQuiet
  rw [if_pos hw]
  exact ⟨v, fun w hC => by unfold Oper.quietAt; rw [hr w hC]; exact ⟨rfl, rfl⟩, h⟩
theorem wpQuiet_load_agg {Qq : Act → Prop} (hw : Region.wanted o (yielded ops a.tmps) = true) (ty : TypeId) (x : Operand) (ho : o.op = .load ty x) (b off : Nat) (hx : a.eval x = .pointer (some ⟨b, off, none⟩)) (y : List Value) (d : TypeDesc) (hc : ∀ j u, y[j]? = some u → w.cell? ⟨b, off + j, none⟩ = some u)
    (hu : P.underlying ty = some d) (hd : (match d with | .struct _ | .array _ _ => true | _ => false) = true) (hi : (P.info? ty).map (·.size) = some y.length)
    (h : wpQuiet P ops (fun w' => ∃ n, w' = w.drewN n) Qq rest (a.put o.dst (.agg y.toArray))) : wpQuiet P ops (fun w' => ∃ n, w' = w.drewN n) Qq (o :: rest) a :=
  wpQuiet_run hw (fun w' ⟨n, hn⟩ => by subst hn; exact exec_load_agg ty x ho b off hx y d hc hu hd hi) h
end
end

section
open Go.RowKit

theorem id_und : ∃ d, Try.prog.underlying 74 = some d ∧ (match d with | .struct _ | .array _ _ => true | _ => false) = true := ⟨_, Try.underlying74, rfl⟩
theorem id_size : (Try.prog.info? 74).map (·.size) = some 32 := by kernel_rfl
theorem id_zero : ((Try.prog.info? 74).bind (·.zero)).map (·.cells.size) = some 32 := by kernel_rfl

set_option maxRecDepth 100000 in
set_option maxHeartbeats 1000000 in
theorem WIds_any (w : World) (F G : Nat → Prop) (b : Nat) (l : List UInt8) (A : Option Addr) (m c : Nat) (ids : List Id32) (h : WrAt w F b l) (hr : ArrOf IdR w G 32 A m ids) (hd : ∀ k, F k → ¬ G k) (hG : ∀ k, G k → k < w.heap.size)
    (hroom : l.length + 32 * m + 10 ≤ 70368744177664) :
    Calls Try.prog 82 #[.pointer (some ⟨b, 0, none⟩), .slice A m c] w fun e w' => e = .returned (.tuple #[]) ∧ Fr F w w' ∧ WrAt w' (fun k => F k ∨ w.heap.size ≤ k) b (l ++ idsBytes ids) := by
  go_enter Try.func82, Try.ntmps82
  go_wp2_with fail
  have hlm := hr.len
  have Hlm := Lib.hid hlm
  clear hlm
  refine (WN_any _ (fun j => F j ∧ j < w.heap.size) (fun k => k = w.heap.size) b l _ 1 1 [m] (h.tight.fr ((Fr.refl NoB _).alloc _) (fun _ _ _ h => h)) ?_ (fun k hk => by omega) (by simp; omega) (by omega)).mono ?_
  · have := Arr.one w (u64v m) 23
    simpa [u64v] using this
  rintro e w2 ⟨rfl, hf2, hW2⟩
  simp only [List.flatMap_cons, List.flatMap_nil, List.append_nil] at hW2
  have s2 := hf2.size
  simp only [World.size_alloc] at s2
  have hW3 : WrAt w2 (fun j => F j ∨ w.heap.size ≤ j) b (l ++ encN m) := hW2.more fun j hj => by simp only [World.size_alloc] at hj; grind
  have hf3 : Fr F w w2 := ((Fr.refl F w).alloc _).new hf2 fun j hj => .inl hj.1
  have hlen3 : (l ++ encN m).length ≤ l.length + 10 := by have := encN_len64 (n := m) (by omega); rw [List.length_append]; omega
  have hr2 := hr.fr hf3 (fun k hG hF => hd k hF hG) (R' := IdR) fun y a _ hy => hy
  go_wp2
  obtain ⟨w0, rfl⟩ : ∃ w0 : World, w0 = w2 := ⟨_, rfl⟩
  obtain ⟨l0, hl0⟩ : ∃ l0, l ++ encN m = l0 := ⟨_, rfl⟩
  rw [hl0] at hW2 hW3 hlen3
  have Hl0 := Lib.hid hl0
  clear hl0
  go_loopw [14] (fun i wr => ∃ k : Nat, k ≤ m ∧ i = .int .i64 k ∧ WrAt wr (fun j => F j ∨ w.heap.size ≤ j) b (l0 ++ idsFlat (ids.take k)) ∧ Fr (fun j => F j ∨ w.heap.size ≤ j) w0 wr) (fun i _ => m - (intOf i).toNat)
  case atStart => exact ⟨0, by omega, rfl, by simpa [idsFlat] using hW3, Fr.refl _ _⟩
  case round =>
    obtain ⟨k, hk, rfl, hW, hF0⟩ := hrel
    obtain ⟨w1, rfl⟩ : ∃ w1 : World, w1 = wr := ⟨_, rfl⟩
    by_cases hkm : k < m
    · have hrw := hr2.fr hF0 (fun k hG' hF => hF.elim (fun h => hd k h hG') fun h => by have := hG k hG'; omega) (R' := IdR) fun y a _ hy => hy
      obtain ⟨bb, o, t, y, rfl, hGb, ht, hy, hyr, hcell⟩ := hrw.at_ hkm
      have hkl : k < ids.length := by rw [Hlm.out]; exact hkm
      have hyt : y = t.1.map bv := hyr
      have Htake : Hid (l0 ++ idsFlat (ids.take (k + 1)) = l0 ++ idsFlat (ids.take k) ++ t.1) := by
        show _ = _
        rw [List.take_succ_eq_append_getElem hkl, idsFlat, List.flatMap_append]
        rw [List.getElem?_eq_getElem hkl] at ht
        injection ht with ht
        rw [ht]; simp [idsFlat]
      have hle : (l0 ++ idsFlat (ids.take k)).length + 32 ≤ 70368744177664 := by
        have e : ∀ x : List Id32, (idsFlat x).length = 32 * x.length := fun x => by
          induction x with
          | nil => rfl
          | cons a x ih => simp only [idsFlat, List.flatMap_cons, List.length_append, List.length_cons] at ih ⊢; rw [ih, a.2]; omega
        rw [List.length_append, e, List.length_take]
        omega
      generalize l0 ++ idsFlat (ids.take k) = l1 at *
      have hys : y.toArray.size = 32 := by simpa using hy
      have hy1 : y.toArray.all (·.oneCell') = true := by
        rw [Array.all_eq_true_iff_forall_mem]
        intro v hv
        exact bv_one t.1 v (by rw [← hyt]; simpa using hv)
      have Hyt := Lib.hid hyt
      have Hys := Lib.hid hys
      have Hy1 := Lib.hid hy1
      have Hy := Lib.hid hy
      clear hyt hys hy1 hyr ht hrw hy
      go_wp2_with (first
        | (refine wpList_load_agg rfl 74 (.tmp 16) rfl bb (o + k * 32) rfl y _ hcell Try.underlying74 rfl (by rw [Hy.out]; exact id_size) ?_)
        | (refine wpList_alloc_any rfl 74 rfl 32 id_zero ?_; intro z hz; have Hz := Lib.hid hz; clear hz)
        | (refine wpList_store_new rfl 74 (.tmp 5) (.tmp 17) rfl _ z y.toArray rfl rfl (by rw [Hys.out]; exact id_size) (by rw [Hys.out, Hz.out]) Hy1.out ?_))
      have hb : Byt (w1.alloc (.cells y.toArray 74)) (fun k => k = w1.heap.size) (some ⟨w1.heap.size, 0, none⟩) 32 t.1 := by
        have := Byt.new w1 74 t.1 y.toArray (by simpa using Hyt.out)
        rwa [t.2] at this
      refine (WRaw_any _ _ _ _ _ _ _ _ _ (hW.tight.fr ((Fr.refl NoB _).alloc _) fun _ _ _ h => h) hb hle).mono ?_
      rintro e w5 ⟨rfl, hf5, hW5⟩
      have s5 := hf5.size
      have s0 := hF0.size
      simp only [World.size_alloc] at s5
      go_wp2
      go_roundw
      case rel =>
        refine ⟨k + 1, by omega, by go_num, ?_, ?_⟩
        · rw [Htake.out]
          exact hW5.more fun j hj => by simp only [World.size_alloc] at hj; grind
        · exact (hF0.alloc _).new hf5 fun j hj => by grind
      case measure => simp [intOf]; omega
    · have hke : k = m := by omega
      subst hke
      have Hw : WrAt w1 (fun j => F j ∨ w.heap.size ≤ j) b (l0 ++ idsFlat ids) := by rwa [List.take_of_length_le (by rw [Hlm.out]; exact Nat.le_refl _)] at hW
      go_wp2
      go_end0
      refine ⟨rfl, hf3.trans hF0 fun j hj h => h.elim id fun h => by omega, ?_⟩
      rw [idsBytes, Hlm.out, ← List.append_assoc, Hl0.out]
      exact Hw
end

section
open Go.RowKit

/-- Whole numbers that lie in a row. -/
def Ints (w : World) (F : Nat → Prop) (A : Option Addr) (n : Nat) (l : List Int) : Prop := Arr w F 1 A n (l.map (Value.int .i64))
theorem Ints.len {w : World} {F : Nat → Prop} {A : Option Addr} {n : Nat} {l : List Int} (h : Ints w F A n l) : l.length = n := by have := h.1; simpa using this
theorem Ints.at_ {w : World} {F : Nat → Prop} {A : Option Addr} {n : Nat} {l : List Int} (h : Ints w F A n l) {k : Nat} (hk : k < n) : ∃ b o x, A = some ⟨b, o, none⟩ ∧ F b ∧ l[k]? = some x ∧ w.cell? ⟨b, o + k, none⟩ = some (.int .i64 x) := by
  obtain ⟨b, o, u, e, hb, hx, hc⟩ := Arr.at1 h hk
  have hl := h.len
  rw [List.getElem?_map, List.getElem?_eq_getElem (by omega)] at hx
  simp only [Option.map_some, Option.some.injEq] at hx
  exact ⟨b, o, _, e, hb, List.getElem?_eq_getElem (by omega), by rw [hc, ← hx]⟩

theorem take_snoc_of {α : Type} {l : List α} {k : Nat} {x : α} (h : l[k]? = some x) : l.take (k + 1) = l.take k ++ [x] := by
  have hk : k < l.length := (List.getElem?_eq_some_iff.1 h).1
  rw [List.take_succ_eq_append_getElem hk]
  rw [List.getElem?_eq_getElem hk] at h
  injection h with h; rw [h]
theorem ne_of_at {α : Type} {xs ys : List α} {k : Nat} {x y : α} (hx : xs[k]? = some x) (hy : ys[k]? = some y) (h : x ≠ y) : xs ≠ ys := by
  rintro rfl
  rw [hx] at hy
  injection hy with hy
  exact h hy

set_option maxRecDepth 100000 in
set_option maxHeartbeats 1000000 in
theorem EqInts_any (w : World) (G1 G2 : Nat → Prop) (A B : Option Addr) (n c m d : Nat) (xs ys : List Int) (hx : Ints w G1 A n xs) (hy : Ints w G2 B m ys) (hn : n ≤ 9223372036854775807) :
    Calls Try.prog 79 #[.slice A n c, .slice B m d] w fun e w' => e = .returned (.bool (decide (xs = ys))) ∧ ∃ q, w' = w.drewN q := by
  have hxl := hx.len
  have hyl := hy.len
  by_cases hnm : n = m
  · subst hnm
    have Hxl := Lib.hid hxl
    have Hyl := Lib.hid hyl
    clear hxl hyl
    go_enter Try.func79, Try.ntmps79
    go_wp2
    go_loopw [13] (fun i wr => ∃ k q : Nat, k ≤ n ∧ i = .int .i64 k ∧ xs.take k = ys.take k ∧ wr = w.drewN q) (fun i _ => n - (intOf i).toNat)
    case atStart => exact ⟨0, 0, by omega, rfl, rfl, rfl⟩
    case round =>
      obtain ⟨k, q, hk, rfl, hpre, hwr⟩ := hrel
      have hxr : Ints wr G1 A n xs := by rw [hwr]; exact hx
      have hyr : Ints wr G2 B n ys := by rw [hwr]; exact hy
      have Hwr := Lib.hid hwr
      clear hwr
      have Hpre := Lib.hid hpre
      clear hpre
      by_cases hkn : k < n
      · obtain ⟨b1, o1, x, rfl, _, gx, hc1⟩ := hxr.at_ hkn
        obtain ⟨b2, o2, y, rfl, _, gy, hc2⟩ := hyr.at_ hkn
        have Hex := Lib.hid (take_snoc_of gx)
        have Hey := Lib.hid (take_snoc_of gy)
        have Hne := Lib.hid (ne_of_at gx gy)
        clear gx gy
        by_cases hxy : x = y
        · subst hxy
          go_wp2
          go_quiet (fail)
          go_wp2
          go_roundw
          case rel => exact ⟨k + 1, _, by omega, by go_num, by rw [Hex.out, Hey.out, Hpre.out], by rw [Hwr.out, World.drewN_drewN]⟩
          case measure => simp [intOf]; omega
        · have hne := Lib.hid (decide_eq_false (Hne.out hxy))
          have hb : (x != y) = true := by simpa using hxy
          clear hxy
          go_wp2
          go_quiet (fail)
          go_wp2
          go_ret
          exact ⟨ret_bool hne.out.symm, _, by rw [Hwr.out, World.drewN_drewN]⟩
      · have hke : k = n := by omega
        subst hke
        have he : Hid (decide (xs = ys) = true) := by
          show _ = _
          have := Hpre.out
          rw [List.take_of_length_le (by rw [Hxl.out]; exact Nat.le_refl _), List.take_of_length_le (by rw [Hyl.out]; exact Nat.le_refl _)] at this
          simpa using this
        go_wp2
        go_ret
        exact ⟨ret_bool he.out.symm, _, Hwr.out⟩
  · have hne : Hid (decide (xs = ys) = false) := by
      show _ = _
      rw [decide_eq_false_iff_not]
      rintro rfl
      exact hnm (hxl.symm.trans hyl)
    clear hxl hyl
    have hb : ((n : Int) != (m : Int)) = true := by simp; omega
    clear hnm
    go_enter Try.func79, Try.ntmps79
    go_wp2
    go_ret
    exact ⟨ret_bool hne.out.symm, 0, rfl⟩

/-- An object als somebody sees it who has not its key. -/
structure Seal where
  number : Int
  kind : Int
  realm : Int
  epoch : Int
  size : Int
  links : List Int
deriving DecidableEq

def SealR (w : World) (F : Nat → Prop) (y : List Value) (s : Seal) : Prop :=
  ∃ A n c, y = [.int .i64 s.number, .int .i64 s.kind, .int .u32 s.realm, .int .u32 s.epoch, .int .i64 s.size, .slice A n c] ∧ n ≤ c ∧ c ≤ maxLen ∧ Ints w F A n s.links
theorem SealR.fr {w w' : World} {F S : Nat → Prop} {y : List Value} {s : Seal} (h : SealR w F y s) (hf : Fr S w w') (hd : ∀ k, F k → ¬ S k) : SealR w' F y s := by
  obtain ⟨A, n, c, h1, h2, h3, h4⟩ := h
  exact ⟨A, n, c, h1, h2, h3, Arr.fr h4 hf hd⟩
def Seals (w : World) (F : Nat → Prop) (A : Option Addr) (n : Nat) (l : List Seal) : Prop := ArrOf (SealR w F) w F 6 A n l
theorem Seals.fr {w w' : World} {F S : Nat → Prop} {A : Option Addr} {n : Nat} {l : List Seal} (h : Seals w F A n l) (hf : Fr S w w') (hd : ∀ k, F k → ¬ S k) : Seals w' F A n l :=
  ArrOf.fr h hf hd fun _ _ _ hy => hy.fr hf hd

set_option maxRecDepth 100000 in
set_option maxHeartbeats 2000000 in
theorem sealEq_any (w : World) (F G : Nat → Prop) (xs ys : List Value) (x y : Seal) (hx : SealR w F xs x) (hy : SealR w G ys y) :
    Calls Try.prog 78 #[.agg xs.toArray, .agg ys.toArray] w fun e w' => e = .returned (.bool (decide (x = y))) ∧ Fr NoB w w' := by
  obtain ⟨A, n, c, rfl, hnc, hcm, hl⟩ := hx
  obtain ⟨B, m, d, rfl, hmd, hdm, hl2⟩ := hy
  obtain ⟨x1, x2, x3, x4, x5, x6⟩ := x
  obtain ⟨y1, y2, y3, y4, y5, y6⟩ := y
  dsimp only at hl hl2 ⊢
  have hn : n ≤ 9223372036854775807 := by unfold maxLen at hcm; omega
  clear hnc hcm hmd hdm
  by_cases h1 : x1 = y1
  · subst h1
    by_cases h2 : x2 = y2
    · subst h2
      by_cases h3 : x3 = y3
      · subst h3
        by_cases h4 : x4 = y4
        · subst h4
          by_cases h5 : x5 = y5
          · subst h5
            have he : Hid (decide (Seal.mk x1 x2 x3 x4 x5 x6 = Seal.mk x1 x2 x3 x4 x5 y6) = decide (x6 = y6)) := by show _ = _; simp
            go_enter Try.func78, Try.ntmps78
            go_wp2_with (go_at_call 79; refine (EqInts_any _ _ _ _ _ _ _ _ _ _ _ ((hl.alloc _).alloc _) ((hl2.alloc _).alloc _) hn).mono ?_; rintro e w' ⟨rfl, q, rfl⟩)
            go_ret
            exact ⟨ret_bool he.out.symm, ((((Fr.refl NoB w).alloc _).alloc _).drewN _)⟩
          · have hb : (x5 == y5) = false := by simpa using h5
            have he : Hid (decide (Seal.mk x1 x2 x3 x4 x5 x6 = Seal.mk x1 x2 x3 x4 y5 y6) = false) := by show _ = _; simp [h5]
            clear h5
            go_enter Try.func78, Try.ntmps78
            go_wp2
            go_ret
            exact ⟨ret_bool he.out.symm, (((Fr.refl NoB w).alloc _).alloc _)⟩
        · have hb : (x4 == y4) = false := by simpa using h4
          have he : Hid (decide (Seal.mk x1 x2 x3 x4 x5 x6 = Seal.mk x1 x2 x3 y4 y5 y6) = false) := by show _ = _; simp [h4]
          clear h4
          go_enter Try.func78, Try.ntmps78
          go_wp2
          go_ret
          exact ⟨ret_bool he.out.symm, (((Fr.refl NoB w).alloc _).alloc _)⟩
      · have hb : (x3 == y3) = false := by simpa using h3
        have he : Hid (decide (Seal.mk x1 x2 x3 x4 x5 x6 = Seal.mk x1 x2 y3 y4 y5 y6) = false) := by show _ = _; simp [h3]
        clear h3
        go_enter Try.func78, Try.ntmps78
        go_wp2
        go_ret
        exact ⟨ret_bool he.out.symm, (((Fr.refl NoB w).alloc _).alloc _)⟩
    · have hb : (x2 == y2) = false := by simpa using h2
      have he : Hid (decide (Seal.mk x1 x2 x3 x4 x5 x6 = Seal.mk x1 y2 y3 y4 y5 y6) = false) := by show _ = _; simp [h2]
      clear h2
      go_enter Try.func78, Try.ntmps78
      go_wp2
      go_ret
      exact ⟨ret_bool he.out.symm, (((Fr.refl NoB w).alloc _).alloc _)⟩
  · have hb : (x1 == y1) = false := by simpa using h1
    have he : Hid (decide (Seal.mk x1 x2 x3 x4 x5 x6 = Seal.mk y1 y2 y3 y4 y5 y6) = false) := by show _ = _; simp [h1]
    clear h1
    go_enter Try.func78, Try.ntmps78
    go_wp2
    go_ret
    exact ⟨ret_bool he.out.symm, (((Fr.refl NoB w).alloc _).alloc _)⟩
end

section
open Go.RowKit

theorem bs_beq (x y : ByteArray) : (x.toList == y.toList) = decide (x = y) := by
  rw [ByteArray.toList_eq, ByteArray.toList_eq, Bool.eq_iff_iff]
  simp only [beq_iff_eq, decide_eq_true_eq]
  constructor
  · intro h
    exact ByteArray.ext (by
      have := congrArg List.toArray h
      simpa using this)
  · rintro rfl; rfl
theorem bs_ne {x y : ByteArray} (h : x ≠ y) : (x.toList == y.toList) = false := by rw [bs_beq]; simpa using h

/-- Strings that lie in a row. -/
def Strs (w : World) (F : Nat → Prop) (A : Option Addr) (n : Nat) (l : List ByteArray) : Prop := Arr w F 1 A n (l.map (Value.string))
theorem Strs.len {w : World} {F : Nat → Prop} {A : Option Addr} {n : Nat} {l : List ByteArray} (h : Strs w F A n l) : l.length = n := by have := h.1; simpa using this
theorem Strs.at_ {w : World} {F : Nat → Prop} {A : Option Addr} {n : Nat} {l : List ByteArray} (h : Strs w F A n l) {k : Nat} (hk : k < n) : ∃ b o x, A = some ⟨b, o, none⟩ ∧ F b ∧ l[k]? = some x ∧ w.cell? ⟨b, o + k, none⟩ = some (.string x) := by
  obtain ⟨b, o, u, e, hb, hx, hc⟩ := Arr.at1 h hk
  have hl := h.len
  rw [List.getElem?_map, List.getElem?_eq_getElem (by omega)] at hx
  simp only [Option.map_some, Option.some.injEq] at hx
  exact ⟨b, o, _, e, hb, List.getElem?_eq_getElem (by omega), by rw [hc, ← hx]⟩

set_option maxRecDepth 100000 in
set_option maxHeartbeats 1000000 in
theorem EqStrs_any (w : World) (G1 G2 : Nat → Prop) (A B : Option Addr) (n c m d : Nat) (xs ys : List ByteArray) (hx : Strs w G1 A n xs) (hy : Strs w G2 B m ys) (hn : n ≤ 9223372036854775807) :
    Calls Try.prog 92 #[.slice A n c, .slice B m d] w fun e w' => e = .returned (.bool (decide (xs = ys))) ∧ ∃ q, w' = w.drewN q := by
  have hxl := hx.len
  have hyl := hy.len
  by_cases hnm : n = m
  · subst hnm
    have Hxl := Lib.hid hxl
    have Hyl := Lib.hid hyl
    clear hxl hyl
    go_enter Try.func92, Try.ntmps92
    go_wp2
    go_loopw [13] (fun i wr => ∃ k q : Nat, k ≤ n ∧ i = .int .i64 k ∧ xs.take k = ys.take k ∧ wr = w.drewN q) (fun i _ => n - (intOf i).toNat)
    case atStart => exact ⟨0, 0, by omega, rfl, rfl, rfl⟩
    case round =>
      obtain ⟨k, q, hk, rfl, hpre, hwr⟩ := hrel
      have hxr : Strs wr G1 A n xs := by rw [hwr]; exact hx
      have hyr : Strs wr G2 B n ys := by rw [hwr]; exact hy
      have Hwr := Lib.hid hwr
      clear hwr
      have Hpre := Lib.hid hpre
      clear hpre
      by_cases hkn : k < n
      · obtain ⟨b1, o1, x, rfl, _, gx, hc1⟩ := hxr.at_ hkn
        obtain ⟨b2, o2, y, rfl, _, gy, hc2⟩ := hyr.at_ hkn
        have Hex := Lib.hid (take_snoc_of gx)
        have Hey := Lib.hid (take_snoc_of gy)
        have Hne := Lib.hid (ne_of_at gx gy)
        clear gx gy
        by_cases hxy : x = y
        · subst hxy
          go_wp2
          go_quiet (fail)
          go_wp2
          go_roundw
          case rel => exact ⟨k + 1, _, by omega, by go_num, by rw [Hex.out, Hey.out, Hpre.out], by rw [Hwr.out, World.drewN_drewN]⟩
          case measure => simp [intOf]; omega
        · have hne := Lib.hid (decide_eq_false (Hne.out hxy))
          have hb := bs_ne hxy
          clear hxy
          go_wp2
          go_quiet (fail)
          go_wp2
          go_ret
          exact ⟨ret_bool hne.out.symm, _, by rw [Hwr.out, World.drewN_drewN]⟩
      · have hke : k = n := by omega
        subst hke
        have he : Hid (decide (xs = ys) = true) := by
          show _ = _
          have := Hpre.out
          rw [List.take_of_length_le (by rw [Hxl.out]; exact Nat.le_refl _), List.take_of_length_le (by rw [Hyl.out]; exact Nat.le_refl _)] at this
          simpa using this
        go_wp2
        go_ret
        exact ⟨ret_bool he.out.symm, _, Hwr.out⟩
  · have hne : Hid (decide (xs = ys) = false) := by
      show _ = _
      rw [decide_eq_false_iff_not]
      rintro rfl
      exact hnm (hxl.symm.trans hyl)
    clear hxl hyl
    have hb : ((n : Int) != (m : Int)) = true := by simp; omega
    clear hnm
    go_enter Try.func92, Try.ntmps92
    go_wp2
    go_ret
    exact ⟨ret_bool hne.out.symm, 0, rfl⟩

set_option maxRecDepth 100000 in
set_option maxHeartbeats 1000000 in
theorem SameNames_any (w : World) (G1 G2 : Nat → Prop) (A B : Option Addr) (n c m d : Nat) (xs ys : List ByteArray) (hx : Strs w G1 A n xs) (hy : Strs w G2 B m ys) (hn : n ≤ 9223372036854775807) :
    Calls Try.prog 93 #[.slice A n c, .slice B m d] w fun e w' => e = .returned (.bool (decide (xs = ys))) ∧ ∃ q, w' = w.drewN q := by
  have hxl := hx.len
  have hyl := hy.len
  by_cases hnm : n = m
  · subst hnm
    have Hxl := Lib.hid hxl
    have Hyl := Lib.hid hyl
    clear hxl hyl
    go_enter Try.func93, Try.ntmps93
    go_wp2
    go_loopw [13] (fun i wr => ∃ k q : Nat, k ≤ n ∧ i = .int .i64 k ∧ xs.take k = ys.take k ∧ wr = w.drewN q) (fun i _ => n - (intOf i).toNat)
    case atStart => exact ⟨0, 0, by omega, rfl, rfl, rfl⟩
    case round =>
      obtain ⟨k, q, hk, rfl, hpre, hwr⟩ := hrel
      have hxr : Strs wr G1 A n xs := by rw [hwr]; exact hx
      have hyr : Strs wr G2 B n ys := by rw [hwr]; exact hy
      have Hwr := Lib.hid hwr
      clear hwr
      have Hpre := Lib.hid hpre
      clear hpre
      by_cases hkn : k < n
      · obtain ⟨b1, o1, x, rfl, _, gx, hc1⟩ := hxr.at_ hkn
        obtain ⟨b2, o2, y, rfl, _, gy, hc2⟩ := hyr.at_ hkn
        have Hex := Lib.hid (take_snoc_of gx)
        have Hey := Lib.hid (take_snoc_of gy)
        have Hne := Lib.hid (ne_of_at gx gy)
        clear gx gy
        by_cases hxy : x = y
        · subst hxy
          go_wp2
          go_quiet (fail)
          go_wp2
          go_roundw
          case rel => exact ⟨k + 1, _, by omega, by go_num, by rw [Hex.out, Hey.out, Hpre.out], by rw [Hwr.out, World.drewN_drewN]⟩
          case measure => simp [intOf]; omega
        · have hne := Lib.hid (decide_eq_false (Hne.out hxy))
          have hb := bs_ne hxy
          clear hxy
          go_wp2
          go_quiet (fail)
          go_wp2
          go_ret
          exact ⟨ret_bool hne.out.symm, _, by rw [Hwr.out, World.drewN_drewN]⟩
      · have hke : k = n := by omega
        subst hke
        have he : Hid (decide (xs = ys) = true) := by
          show _ = _
          have := Hpre.out
          rw [List.take_of_length_le (by rw [Hxl.out]; exact Nat.le_refl _), List.take_of_length_le (by rw [Hyl.out]; exact Nat.le_refl _)] at this
          simpa using this
        go_wp2
        go_ret
        exact ⟨ret_bool he.out.symm, _, Hwr.out⟩
  · have hne : Hid (decide (xs = ys) = false) := by
      show _ = _
      rw [decide_eq_false_iff_not]
      rintro rfl
      exact hnm (hxl.symm.trans hyl)
    clear hxl hyl
    have hb : ((n : Int) != (m : Int)) = true := by simp; omega
    clear hnm
    go_enter Try.func93, Try.ntmps93
    go_wp2
    go_ret
    exact ⟨ret_bool hne.out.symm, 0, rfl⟩
end

section
open Go.RowKit

structure Opn where
  client : Int
  kind : Int
  branch : ByteArray
  path : ByteArray
  other : ByteArray
  text : ByteArray
  n : Int
deriving DecidableEq
def opCells (o : Opn) : List Value := [.int .u32 o.client, .int .i64 o.kind, .string o.branch, .string o.path, .string o.other, .string o.text, .int .u64 o.n]
theorem opCells_len (o : Opn) : (opCells o).length = 7 := rfl
def opWf (o : Opn) : Prop := o.branch.size ≤ maxLen ∧ o.path.size ≤ maxLen ∧ o.other.size ≤ maxLen ∧ o.text.size ≤ maxLen
def OpnR (y : List Value) (o : Opn) : Prop := y = opCells o ∧ opWf o
def Opns (w : World) (F : Nat → Prop) (A : Option Addr) (n : Nat) (l : List Opn) : Prop := ArrOf OpnR w F 7 A n l
theorem Opns.fr {w w' : World} {F S : Nat → Prop} {A : Option Addr} {n : Nat} {l : List Opn} (h : Opns w F A n l) (hf : Fr S w w') (hd : ∀ k, F k → ¬ S k) : Opns w' F A n l :=
  ArrOf.fr h hf hd fun _ _ _ hy => hy
/-- Two integers: a crash, a fate. -/
def TwoR (y : List Value) (p : Int × Int) : Prop := y = [.int .i64 p.1, .int .i64 p.2]
def Twos (w : World) (F : Nat → Prop) (A : Option Addr) (n : Nat) (l : List (Int × Int)) : Prop := ArrOf TwoR w F 2 A n l
theorem Twos.fr {w w' : World} {F S : Nat → Prop} {A : Option Addr} {n : Nat} {l : List (Int × Int)} (h : Twos w F A n l) (hf : Fr S w w') (hd : ∀ k, F k → ¬ S k) : Twos w' F A n l :=
  ArrOf.fr h hf hd fun _ _ _ hy => hy

/-- Where the slices of a script lie. -/
structure ScrAt where
  A1 : Option Addr
  n1 : Nat
  c1 : Nat
  A5 : Option Addr
  n5 : Nat
  c5 : Nat
  A6 : Option Addr
  n6 : Nat
  c6 : Nat
  A7 : Option Addr
  n7 : Nat
  c7 : Nat
  A8 : Option Addr
  n8 : Nat
  c8 : Nat
structure Scr where
  mode : Int
  draws : List UInt8
  sectors : Int
  quota : Int
  tries : Int
  crashes : List (Int × Int)
  up : List (Int × Int)
  down : List (Int × Int)
  ops : List Opn
def scrCells (s : Scr) (p : ScrAt) : List Value :=
  [.int .i64 s.mode, .slice p.A1 p.n1 p.c1, .int .i64 s.sectors, .int .u64 s.quota, .int .i64 s.tries, .slice p.A5 p.n5 p.c5, .slice p.A6 p.n6 p.c6, .slice p.A7 p.n7 p.c7, .slice p.A8 p.n8 p.c8]
theorem scrCells_len (s : Scr) (p : ScrAt) : (scrCells s p).length = 9 := rfl
/-- The slices of a script read als its parts; they lie in blocks of F. -/
def ScrIn (w : World) (F : Nat → Prop) (p : ScrAt) (s : Scr) : Prop :=
  (p.n1 ≤ p.c1 ∧ p.c1 ≤ maxLen ∧ Byt w F p.A1 p.n1 s.draws) ∧ (p.n5 ≤ p.c5 ∧ p.c5 ≤ maxLen ∧ Twos w F p.A5 p.n5 s.crashes) ∧ (p.n6 ≤ p.c6 ∧ p.c6 ≤ maxLen ∧ Twos w F p.A6 p.n6 s.up) ∧ (p.n7 ≤ p.c7 ∧ p.c7 ≤ maxLen ∧ Twos w F p.A7 p.n7 s.down) ∧ (p.n8 ≤ p.c8 ∧ p.c8 ≤ maxLen ∧ Opns w F p.A8 p.n8 s.ops)
theorem ScrIn.fr {w w' : World} {F S : Nat → Prop} {p : ScrAt} {s : Scr} (h : ScrIn w F p s) (hf : Fr S w w') (hd : ∀ k, F k → ¬ S k) : ScrIn w' F p s := by
  obtain ⟨⟨a1, b1, d1⟩, ⟨a5, b5, d5⟩, ⟨a6, b6, d6⟩, ⟨a7, b7, d7⟩, a8, b8, d8⟩ := h
  exact ⟨⟨a1, b1, d1.fr hf hd⟩, ⟨a5, b5, d5.fr hf hd⟩, ⟨a6, b6, d6.fr hf hd⟩, ⟨a7, b7, d7.fr hf hd⟩, a8, b8, d8.fr hf hd⟩
def ScrR (w : World) (F : Nat → Prop) (y : List Value) (s : Scr) : Prop := ∃ p, y = scrCells s p ∧ ScrIn w F p s
theorem ScrR.fr {w w' : World} {F S : Nat → Prop} {y : List Value} {s : Scr} (h : ScrR w F y s) (hf : Fr S w w') (hd : ∀ k, F k → ¬ S k) : ScrR w' F y s := by
  obtain ⟨p, h1, h2⟩ := h
  exact ⟨p, h1, h2.fr hf hd⟩
theorem ScrR.len {w : World} {F : Nat → Prop} {y : List Value} {s : Scr} (h : ScrR w F y s) : y.length = 9 := by
  obtain ⟨p, rfl, _⟩ := h
  rfl
theorem scr_size : (Try.prog.info? 28).map (·.size) = some 9 := by kernel_rfl
theorem scr_zero : ((Try.prog.info? 28).bind (·.zero)).map (·.cells.size) = some 9 := by kernel_rfl
theorem op_size : (Try.prog.info? 34).map (·.size) = some 7 := by kernel_rfl
theorem op_zero : ((Try.prog.info? 34).bind (·.zero)).map (·.cells.size) = some 7 := by kernel_rfl
end

section
open Go.RowKit

/-- A reader in block b. -/
def RdAt (w : World) (F : Nat → Prop) (b : Nat) (r : Rd) : Prop :=
  F b ∧ ∃ A n c, Blk w b 71 #[.slice A n c, .bool r.good] ∧ n ≤ c ∧ c ≤ maxLen ∧ Byt w (fun k => F k ∧ k ≠ b) A n r.l

set_option maxHeartbeats 400000 in
theorem ok_nil (w : World) :
    Calls Try.prog 80 #[.pointer none] w fun e w' => e = .returned (.bool false) ∧ w = w' := by
  go_enter Try.func80, Try.ntmps80
  go_wp2
  go_ret
  exact ⟨rfl, rfl⟩

set_option maxHeartbeats 400000 in
theorem ok_some (w : World) (b : Nat) (g : Bool) (h : w.cell? ⟨b, 1, none⟩ = some (.bool g)) :
    Calls Try.prog 80 #[.pointer (some ⟨b, 0, none⟩)] w fun e w' => e = .returned (.bool g) ∧ w = w' := by
  go_enter Try.func80, Try.ntmps80
  go_wp2
  go_ret
  exact ⟨rfl, rfl⟩

set_option maxHeartbeats 400000 in
theorem fail_some (w : World) (b : Nat) (v : Value) (g : Bool) (h : Blk w b 71 #[v, .bool g]) :
    Calls Try.prog 81 #[.pointer (some ⟨b, 0, none⟩)] w fun e w' => e = .returned (.tuple #[]) ∧ w' = (w.setCell ⟨b, 0, none⟩ (.slice none 0 0)).setCell ⟨b, 1, none⟩ (.bool false) := by
  have h0 := h.cell 0
  have h1 := h.cell 1
  have f0 := h.frozen 0
  have f1 := h.frozen 1
  simp at h0 h1
  go_enter Try.func81, Try.ntmps81
  go_wp2
  go_end0
  exact ⟨rfl, rfl⟩

set_option maxHeartbeats 400000 in
theorem fail_nil (w : World) :
    Calls Try.prog 81 #[.pointer none] w fun e w' => e = .returned (.tuple #[]) ∧ w = w' := by
  go_enter Try.func81, Try.ntmps81
  go_wp2
  go_end0
  exact ⟨rfl, rfl⟩

theorem el_u8 : ElemOk Try.prog 22 5 (.int .u8 0) 1 1 := .mk Try.underlying22 (by kernel_rfl) rfl (by omega) (by omega)

set_option maxHeartbeats 400000 in
theorem Read_any (w : World) (F : Nat → Prop) (A : Option Addr) (n c : Nat) (l : List UInt8) (h : Byt w F A n l) (hn : n ≤ 140737488351232) :
    Calls Try.prog 27 #[.slice A n c] w fun e w' => ∃ b, e = .returned (.pointer (some ⟨b, 0, none⟩)) ∧ Fr NoB w w' ∧ RdAt w' (fun k => w.heap.size ≤ k) b ⟨l, true⟩ := by
  go_enter Try.func27, Try.ntmps27
  go_wp2_with (at_builtin; refine wpList_app _ el_u8 rfl (.const (.slice none 0 0)) (.tmp 3) rfl none 0 0 [] rfl (Own.nil _ _ _) F A n c _ rfl h (bv_one l) (by omega) ?_; intro A1 c1 w1 hown1 hf1 hin1 hnil1)
  go_ret
  refine ⟨w1.heap.size, rfl, (hf1.mono fun k _ hk => (inB_none k hk)).alloc _, hf1.size, A1, n, c1, Blk.new _ _ _, by simpa using hown1.le, hown1.cap, ?_⟩
  have hb : Byt w1 (fun k => w.heap.size ≤ k ∧ k ≠ w1.heap.size) A1 n l := by
    have := hown1.arr (F := fun k => w.heap.size ≤ k ∧ k ≠ w1.heap.size) fun k hk hin => ⟨by
    rcases hin1 k hin with h | h
    · exact absurd h (inB_none k)
    · omega, by omega⟩
    have e : 0 + n = n := by omega
    rw [e] at this
    exact this
  exact hb.alloc _

set_option maxHeartbeats 400000 in
theorem RN_bad (w : World) (F : Nat → Prop) (b : Nat) (r : Rd) (most : Int) (h : RdAt w F b r) (hg : r.good = false) :
    Calls Try.prog 28 #[.pointer (some ⟨b, 0, none⟩), .int .u64 most] w fun e w' => e = .returned (.int .u64 0) ∧ Fr (· = b) w w' ∧ RdAt w' F b Rd.bad := by
  obtain ⟨hF, A, n, c, hB, hc, hm, hl⟩ := h
  have h1 := hB.cell 1
  simp [hg] at h1
  go_enter Try.func28, Try.ntmps28
  go_wp2_with (first | (go_at_call 80; refine (ok_some _ _ _ h1).mono ?_; rintro e w' ⟨rfl, rfl⟩) | (go_at_call 81; refine (fail_some _ _ _ _ hB).mono ?_; rintro e w' ⟨rfl, rfl⟩))
  go_ret
  refine ⟨rfl, ((Fr.refl _ _).at_ _ _).at_ _ _, ?_⟩
  exact ⟨hF, none, 0, 0, by simpa using (hB.set_ 0 _).set_ 1 _, Nat.le_refl _, by simp [maxLen], Byt.nil _ _ _⟩

theorem rd_fail {w : World} {F : Nat → Prop} {b : Nat} {v : Value} {g : Bool} (hF : F b) (hB : Blk w b 71 #[v, .bool g]) :
    Fr (· = b) w ((w.setCell ⟨b, 0, none⟩ (.slice none 0 0)).setCell ⟨b, 1, none⟩ (.bool false)) ∧ RdAt ((w.setCell ⟨b, 0, none⟩ (.slice none 0 0)).setCell ⟨b, 1, none⟩ (.bool false)) F b Rd.bad :=
  ⟨((Fr.refl _ _).at_ _ _).at_ _ _, hF, none, 0, 0, by simpa using (hB.set_ 0 _).set_ 1 _, Nat.le_refl _, by simp [maxLen], Byt.nil _ _ _⟩
theorem rd_cut {w : World} {F : Nat → Prop} {b n c k : Nat} {A : Option Addr} {g : Bool} {l : List UInt8} (hF : F b) (hB : Blk w b 71 #[.slice A n c, .bool g]) (hc : n ≤ c) (hm : c ≤ maxLen) (hl : Byt w (fun k => F k ∧ k ≠ b) A n l) (hk : k ≤ n) :
    Fr (· = b) w (w.setCell ⟨b, 0, none⟩ (.slice (slA A k c 1) (n - k) (c - k))) ∧ RdAt (w.setCell ⟨b, 0, none⟩ (.slice (slA A k c 1) (n - k) (c - k))) F b ⟨l.drop k, g⟩ :=
  ⟨(Fr.refl _ _).at_ _ _, hF, _, _, _, by simpa using hB.set_ 0 _, by omega, by omega, (hl.cut hk hc).setCell (by simp) _⟩

set_option maxRecDepth 100000 in
set_option maxHeartbeats 1000000 in
theorem RN_good (w : World) (F : Nat → Prop) (b : Nat) (l : List UInt8) (most : Nat) (h : RdAt w F b ⟨l, true⟩) :
    Calls Try.prog 28 #[.pointer (some ⟨b, 0, none⟩), .int .u64 most] w fun e w' => e = .returned (.int .u64 (Rd.N ⟨l, true⟩ most).1) ∧ Fr (· = b) w w' ∧ RdAt w' F b (Rd.N ⟨l, true⟩ most).2 := by
  obtain ⟨hF, A, n, c, hB, hc, hm, hl⟩ := h
  have h0 := hB.cell 0
  have h1 := hB.cell 1
  have f0 := hB.frozen 0
  simp at h0 h1
  have hlen : n ≤ 9223372036854775807 := by unfold maxLen at hm; omega
  go_enter Try.func28, Try.ntmps28
  go_wp2_with (first | (go_at_call 80; refine (ok_some _ _ _ h1).mono ?_; rintro e w' ⟨rfl, rfl⟩))
  go_step3
  go_wp2
  go_step3
  go_wp2
  go_loop [5, 6, 7, 8, 19] (fun acc sh us wh i => ∃ k v : Nat, us = .int .i64 0 ∧ wh = .bool false ∧ k ≤ n ∧ k ≤ 10 ∧ v < 2 ^ (7 * k) ∧ i = .int .i64 k ∧ sh = .int .i64 (7 * k : Nat) ∧ acc = .int .u64 v ∧ rdGo 0 0 l = rdGo k v (l.drop k)) (fun _ _ _ _ i => n - (intOf i).toNat)
  case atStart => exact ⟨0, 0, rfl, rfl, by omega, by omega, by omega, rfl, rfl, rfl, rfl⟩
  case round =>
    obtain ⟨k, v, rfl, rfl, hk, hk10, hv, rfl, rfl, rfl, hgo⟩ := hrel
    have Hgo := Lib.hid hgo
    clear hgo
    by_cases hkn : k < n
    · obtain ⟨bb, o, y, x, rfl, hFb, hcell, hyx, hy, hx, hdrop⟩ := hl.get hkn
      have hand : bits .andNot .u8 (y : Int) 128 = ((y % 128 : Nat) : Int) := by
        have := u8_andNot_nat y 128 hy (by omega)
        rw [show ((128 : Nat) : Int) = 128 from rfl] at this
        rw [this]
        have h2 := Nat.and_two_pow_sub_one_eq_mod y 7
        have h3 : y &&& (255 - 128) = y % 128 := h2
        rw [h3]
      by_cases hk9 : k ≤ 9
      · by_cases hov : 18446744073709551616 ≤ y % 128 * 2 ^ (7 * k)
        · have HN := Lib.hid (Rd.N_none (most := most) (Hgo.out.trans (by rw [hdrop]; exact rdGo_bad ((rdBad_iff k x).2 (.inr (.inl (hyx ▸ hov)))))))
          obtain ⟨q, hq, hq2⟩ := part_over hov
          rw [← IntKind.wrap_u64] at hq
          clear hyx hdrop hx hv hov
          go_wp2_with (first | (go_at_call 81; refine (fail_some _ _ _ _ hB).mono ?_; rintro e w' ⟨rfl, rfl⟩))
          go_ret
          rw [HN.out]
          exact ⟨rfl, rd_fail hF hB⟩
        · have hM1 := part_fits (y := y) (k := k) (by omega)
          have hM2 := part_back y k
          rw [← IntKind.wrap_u64] at hM1
          have hp := pow_le_63 hk9
          have hM3 : y % 128 * 2 ^ (7 * k) < 18446744073709551616 := by omega
          have hor := u64_or_nat v (y % 128 * 2 ^ (7 * k)) (by omega) hM3
          rw [part_or hv] at hor
          have Hlt := Lib.hid (part_lt (y := y) hv)
          by_cases hy0 : y = 0 ∧ 0 < k
          · have HN := Lib.hid (Rd.N_none (most := most) (Hgo.out.trans (by rw [hdrop]; exact rdGo_bad ((rdBad_iff k x).2 (.inr (.inr ⟨hyx ▸ hy0.1, hy0.2⟩))))))
            obtain ⟨hy1, hk1⟩ := hy0
            have hyb : ((y : Int) == 0) = true := by simp [hy1]
            clear hy1 hyx hdrop hx hv hov hp hM3 hor
            generalize y % 128 * 2 ^ (7 * k) = M at *
            go_wp2_with (first | (go_at_call 81; refine (fail_some _ _ _ _ hB).mono ?_; rintro e w' ⟨rfl, rfl⟩))
            go_ret
            rw [HN.out]
            exact ⟨rfl, rd_fail hF hB⟩
          · have hnb : rdBad k x = false := (rdBad_not k x).2 ⟨hk9, by rw [← hyx]; exact hM3, fun h => by omega⟩
            have hz : (((y : Int) == 0) = true ∧ ¬ 0 < k) ∨ ((y : Int) == 0) = false := by
              by_cases h : y = 0
              · exact .inl ⟨by simp [h], fun h' => hy0 ⟨h, h'⟩⟩
              · exact .inr (by simp [h])
            clear hy0
            by_cases hy128 : y < 128
            · have hs : rdGo 0 0 l = some (v + y % 128 * 2 ^ (7 * k), k + 1) := Hgo.out.trans (by rw [hdrop, hyx]; exact rdGo_last hnb (by omega))
              by_cases hmost : v + y % 128 * 2 ^ (7 * k) ≤ most
              · have HN := Lib.hid (Rd.N_some hs hmost)
                clear hs hnb hyx hdrop hx hv hov hp hM3
                generalize y % 128 * 2 ^ (7 * k) = M at *
                rcases hz with ⟨hyb, hk0⟩ | hyb
                all_goals
                  go_wp2
                  go_ret
                  rw [HN.out]
                  exact ⟨rfl, rd_cut hF hB hc hm hl hkn⟩
              · have HN := Lib.hid (Rd.N_great hs hmost)
                clear hs hnb hyx hdrop hx hv hov hp hM3
                generalize y % 128 * 2 ^ (7 * k) = M at *
                rcases hz with ⟨hyb, hk0⟩ | hyb
                all_goals
                  go_wp2_with (first | (go_at_call 81; refine (fail_some _ _ _ _ hB).mono ?_; rintro e w' ⟨rfl, rfl⟩))
                  go_ret
                  rw [HN.out]
                  exact ⟨rfl, rd_fail hF hB⟩
            · have Hs := Lib.hid (Hgo.out.trans (show _ = rdGo (k + 1) (v + y % 128 * 2 ^ (7 * k)) (l.drop (k + 1)) by rw [hdrop, hyx]; exact rdGo_on hnb (by omega)))
              clear hnb hyx hdrop hx hv hov hp hM3
              generalize y % 128 * 2 ^ (7 * k) = M at *
              have hyb : ((y : Int) == 0) = false := by simp; omega
              clear hz
              go_wp2
              go_round
              case rel => exact ⟨k + 1, v + M, rfl, rfl, by omega, by omega, Hlt.out, by go_num, by go_num, by go_num, Hs.out⟩
              case measure => simp [intOf]; omega
      · have HN := Lib.hid (Rd.N_none (most := most) (Hgo.out.trans (by rw [hdrop]; exact rdGo_bad ((rdBad_iff k x).2 (.inl (by omega))))))
        clear hyx hdrop hx hv
        go_wp2_with (first | (go_at_call 81; refine (fail_some _ _ _ _ hB).mono ?_; rintro e w' ⟨rfl, rfl⟩))
        go_ret
        rw [HN.out]
        exact ⟨rfl, rd_fail hF hB⟩
    · have HN := Lib.hid (Rd.N_none (most := most) (Hgo.out.trans (by rw [List.drop_eq_nil_of_le (by have := hl.len; omega)]; rfl)))
      clear hv
      go_wp2_with (first | (go_at_call 81; refine (fail_some _ _ _ _ hB).mono ?_; rintro e w' ⟨rfl, rfl⟩))
      go_ret
      rw [HN.out]
      exact ⟨rfl, rd_fail hF hB⟩

theorem RN_any (w : World) (F : Nat → Prop) (b : Nat) (r : Rd) (most : Nat) (h : RdAt w F b r) :
    Calls Try.prog 28 #[.pointer (some ⟨b, 0, none⟩), .int .u64 most] w fun e w' => e = .returned (.int .u64 (r.N most).1) ∧ Fr (· = b) w w' ∧ RdAt w' F b (r.N most).2 := by
  obtain ⟨l, g⟩ := r
  cases g with
  | true => exact RN_good w F b l most h
  | false =>
    have e : Rd.N ⟨l, false⟩ most = (0, Rd.bad) := by simp [Rd.N]
    rw [e]
    exact RN_bad w F b ⟨l, false⟩ most h rfl

set_option maxHeartbeats 400000 in
theorem REnd_any (w : World) (F : Nat → Prop) (b : Nat) (r : Rd) (h : RdAt w F b r) :
    Calls Try.prog 29 #[.pointer (some ⟨b, 0, none⟩)] w fun e w' => e = .returned (.int .i64 (Rd.End r)) ∧ w = w' := by
  obtain ⟨hF, A, n, c, hB, hc, hm, hl⟩ := h
  obtain ⟨l, g⟩ := r
  have h0 := hB.cell_0
  have h1 := hB.cell 1
  simp at h1
  have hlen := hl.len
  dsimp only at hlen
  subst hlen
  clear hc hm hl hB hF
  cases g with
  | false =>
    go_enter Try.func29, Try.ntmps29
    go_wp2_with (first | (go_at_call 80; refine (ok_some _ _ _ h1).mono ?_; rintro e w' ⟨rfl, rfl⟩))
    go_ret
    exact ⟨rfl, rfl⟩
  | true =>
    cases l with
    | nil =>
      go_enter Try.func29, Try.ntmps29
      go_wp2_with (first | (go_at_call 80; refine (ok_some _ _ _ h1).mono ?_; rintro e w' ⟨rfl, rfl⟩))
      go_ret
      exact ⟨rfl, rfl⟩
    | cons x l =>
      go_enter Try.func29, Try.ntmps29
      go_wp2_with (first | (go_at_call 80; refine (ok_some _ _ _ h1).mono ?_; rintro e w' ⟨rfl, rfl⟩))
      go_ret
      exact ⟨rfl, rfl⟩
end

section
open Go.RowKit

section
variable {P : Program} {o : Oper} {a : Act} {w : World} {ops : Array Oper} {rest : List Oper} {Q : Exit → Act → World → Prop}
theorem exec_build0 {t e : TypeId} {z : Value} {size bytes : Nat} (E : ElemOk P t e z size bytes) (ho : o.op = .buildSlice t 0 #[]) :
    (execOp a.eval o).run P w = .ok (.value (.slice (some ⟨w.heap.size, 0, none⟩) 0 0)) (w.alloc (.cells #[] e)) := by
  obtain ⟨ht, ⟨i, hi, hz, hsize, _⟩, hzs, hsz, _⟩ := E
  have h : (Instr.buildSlice t 0 #[]).run P w = .ok (.slice (some ⟨w.heap.size, 0, none⟩) 0 0) (w.alloc (.cells #[] e)) := by
    simp [Instr.buildSlice, run_underlying ht, sizeOf, typeInfo, hi, Instr.fill, newRow]
    rw [show Array.range 0 = #[] from by decide, List.map_toArray, List.map_nil]
  unfold execOp
  simp only [ho, List.map_toArray, List.map_nil, Sem.run_bind, h, Result.andThen_ok, Sem.run_pure]
theorem wpList_build0 (hgd : o.guard = none) {t e : TypeId} {z : Value} {size bytes : Nat} (E : ElemOk P t e z size bytes) (ho : o.op = .buildSlice t 0 #[])
    (h : wpList P ops Q rest (a.put o.dst (.slice (some ⟨w.heap.size, 0, none⟩) 0 0)) (w.alloc (.cells #[] e))) : wpList P ops Q (o :: rest) a w :=
  wpList_run (by simp [Region.wanted, hgd]) (exec_build0 E ho) h
theorem Own.fresh0 (w : World) (e : TypeId) (size : Nat) : Own (w.alloc (.cells #[] e)) e size (some ⟨w.heap.size, 0, none⟩) 0 0 [] :=
  ⟨by simp, .inr ⟨w.heap.size, 0, #[], rfl, Nat.zero_le _, Blk.new w e #[], Nat.le_refl _, by simp [maxLen], by simp, by simp⟩⟩
end
theorem el_op : ElemOk Try.prog 26 34 (.agg #[.int .u32 0, .int .i64 0, .string ⟨#[]⟩, .string ⟨#[]⟩, .string ⟨#[]⟩, .string ⟨#[]⟩, .int .u64 0]) 7 88 := .mk Try.underlying26 (by kernel_rfl) rfl (by omega) (by omega)
theorem el_crash : ElemOk Try.prog 24 129 (.agg #[.int .i64 0, .int .i64 0]) 2 16 := .mk Try.underlying24 (by kernel_rfl) rfl (by omega) (by omega)
theorem el_fate : ElemOk Try.prog 25 132 (.agg #[.int .i64 0, .int .i64 0]) 2 16 := .mk Try.underlying25 (by kernel_rfl) rfl (by omega) (by omega)
/-- A copy of a slice: its own, new. -/
def Cloned (w w' : World) (e : Ending) (t : TypeId) (size n : Nat) (xs : List Value) : Prop :=
  ∃ A' c', e = .returned (.slice A' n c') ∧ Own w' t size A' n c' xs ∧ Fr NoB w w' ∧ ∀ k, inB A' k → w.heap.size ≤ k

set_option maxRecDepth 100000 in
set_option maxHeartbeats 1000000 in
theorem CloneB_any (w : World) (F : Nat → Prop) (A : Option Addr) (n c : Nat) (xs : List Value) (h : Arr w F 1 A n xs) (h1 : ∀ u ∈ xs, u.oneCell' = true) (hb : n * 1 ≤ 140737488355328) :
    Calls Try.prog 74 #[.slice A n c] w fun e w' => Cloned w w' e 5 1 n xs := by
  have hcmp := Lib.run_eql_slice_nil (P := Try.prog) w 22 5 A n c 0 0 Try.underlying22
  cases A with
  | none =>
    have hn : n = 0 := by
      rcases Nat.eq_zero_or_pos n with h0 | h0
      · exact h0
      · obtain ⟨b, o, e, _⟩ := h.2 h0
        cases e
    subst hn
    have hx : xs = [] := List.eq_nil_of_length_eq_zero (by have := h.1; omega)
    subst hx
    rw [show (none : Option Addr).isNone = true from rfl] at hcmp
    go_enter Try.func74, Try.ntmps74
    go_wp2
    go_ret
    exact ⟨none, 0, rfl, Own.nil _ _ _, Fr.refl _ _, fun k hk => absurd hk (inB_none k)⟩
  | some ad =>
    rw [show (some ad).isNone = false from rfl] at hcmp
    have hO := Own.fresh0 w 5 1
    have hA := h.alloc (.cells #[] 5)
    have H1 := Lib.hid h1
    have Hb := Lib.hid hb
    clear h1 hb
    go_enter Try.func74, Try.ntmps74
    go_wp2_with (first
      | (refine wpList_build0 rfl el_u8 rfl ?_)
      | (refine wpList_app _ el_u8 rfl (.tmp 5) (.tmp 6) rfl _ 0 0 [] rfl hO F _ n c xs rfl hA H1.out (by have := Hb.out; omega) ?_; intro A' c' w' hO' hf' hin' _))
    go_ret
    rw [Nat.zero_add] at hO'
    refine ⟨A', c', rfl, by simpa using hO', ((Fr.refl NoB w).alloc _).new hf' fun j hj => .inr ?_, fun k hk => ?_⟩
    · have hj' := (inB_some _ _).1 hj; dsimp only at hj'; omega
    · rcases hin' k hk with hj | hj
      · have hj' := (inB_some _ _).1 hj; dsimp only at hj'; omega
      · simp only [World.size_alloc] at hj; omega

set_option maxRecDepth 100000 in
set_option maxHeartbeats 1000000 in
theorem CloneOps_any (w : World) (F : Nat → Prop) (A : Option Addr) (n c : Nat) (xs : List Value) (h : Arr w F 7 A n xs) (h1 : ∀ u ∈ xs, u.oneCell' = true) (hb : n * 88 ≤ 140737488355328) :
    Calls Try.prog 73 #[.slice A n c] w fun e w' => Cloned w w' e 34 7 n xs := by
  have hcmp := Lib.run_eql_slice_nil (P := Try.prog) w 26 34 A n c 0 0 Try.underlying26
  cases A with
  | none =>
    have hn : n = 0 := by
      rcases Nat.eq_zero_or_pos n with h0 | h0
      · exact h0
      · obtain ⟨b, o, e, _⟩ := h.2 h0
        cases e
    subst hn
    have hx : xs = [] := List.eq_nil_of_length_eq_zero (by have := h.1; omega)
    subst hx
    rw [show (none : Option Addr).isNone = true from rfl] at hcmp
    go_enter Try.func73, Try.ntmps73
    go_wp2
    go_ret
    exact ⟨none, 0, rfl, Own.nil _ _ _, Fr.refl _ _, fun k hk => absurd hk (inB_none k)⟩
  | some ad =>
    rw [show (some ad).isNone = false from rfl] at hcmp
    have hO := Own.fresh0 w 34 7
    have hA := h.alloc (.cells #[] 34)
    have H1 := Lib.hid h1
    have Hb := Lib.hid hb
    clear h1 hb
    go_enter Try.func73, Try.ntmps73
    go_wp2_with (first
      | (refine wpList_build0 rfl el_op rfl ?_)
      | (refine wpList_app _ el_op rfl (.tmp 5) (.tmp 6) rfl _ 0 0 [] rfl hO F _ n c xs rfl hA H1.out (by have := Hb.out; omega) ?_; intro A' c' w' hO' hf' hin' _))
    go_ret
    rw [Nat.zero_add] at hO'
    refine ⟨A', c', rfl, by simpa using hO', ((Fr.refl NoB w).alloc _).new hf' fun j hj => .inr ?_, fun k hk => ?_⟩
    · have hj' := (inB_some _ _).1 hj; dsimp only at hj'; omega
    · rcases hin' k hk with hj | hj
      · have hj' := (inB_some _ _).1 hj; dsimp only at hj'; omega
      · simp only [World.size_alloc] at hj; omega

set_option maxRecDepth 100000 in
set_option maxHeartbeats 1000000 in
theorem CloneCrashes_any (w : World) (F : Nat → Prop) (A : Option Addr) (n c : Nat) (xs : List Value) (h : Arr w F 2 A n xs) (h1 : ∀ u ∈ xs, u.oneCell' = true) (hb : n * 16 ≤ 140737488355328) :
    Calls Try.prog 75 #[.slice A n c] w fun e w' => Cloned w w' e 129 2 n xs := by
  have hcmp := Lib.run_eql_slice_nil (P := Try.prog) w 24 129 A n c 0 0 Try.underlying24
  cases A with
  | none =>
    have hn : n = 0 := by
      rcases Nat.eq_zero_or_pos n with h0 | h0
      · exact h0
      · obtain ⟨b, o, e, _⟩ := h.2 h0
        cases e
    subst hn
    have hx : xs = [] := List.eq_nil_of_length_eq_zero (by have := h.1; omega)
    subst hx
    rw [show (none : Option Addr).isNone = true from rfl] at hcmp
    go_enter Try.func75, Try.ntmps75
    go_wp2
    go_ret
    exact ⟨none, 0, rfl, Own.nil _ _ _, Fr.refl _ _, fun k hk => absurd hk (inB_none k)⟩
  | some ad =>
    rw [show (some ad).isNone = false from rfl] at hcmp
    have hO := Own.fresh0 w 129 2
    have hA := h.alloc (.cells #[] 129)
    have H1 := Lib.hid h1
    have Hb := Lib.hid hb
    clear h1 hb
    go_enter Try.func75, Try.ntmps75
    go_wp2_with (first
      | (refine wpList_build0 rfl el_crash rfl ?_)
      | (refine wpList_app _ el_crash rfl (.tmp 5) (.tmp 6) rfl _ 0 0 [] rfl hO F _ n c xs rfl hA H1.out (by have := Hb.out; omega) ?_; intro A' c' w' hO' hf' hin' _))
    go_ret
    rw [Nat.zero_add] at hO'
    refine ⟨A', c', rfl, by simpa using hO', ((Fr.refl NoB w).alloc _).new hf' fun j hj => .inr ?_, fun k hk => ?_⟩
    · have hj' := (inB_some _ _).1 hj; dsimp only at hj'; omega
    · rcases hin' k hk with hj | hj
      · have hj' := (inB_some _ _).1 hj; dsimp only at hj'; omega
      · simp only [World.size_alloc] at hj; omega

set_option maxRecDepth 100000 in
set_option maxHeartbeats 1000000 in
theorem CloneFates_any (w : World) (F : Nat → Prop) (A : Option Addr) (n c : Nat) (xs : List Value) (h : Arr w F 2 A n xs) (h1 : ∀ u ∈ xs, u.oneCell' = true) (hb : n * 16 ≤ 140737488355328) :
    Calls Try.prog 76 #[.slice A n c] w fun e w' => Cloned w w' e 132 2 n xs := by
  have hcmp := Lib.run_eql_slice_nil (P := Try.prog) w 25 132 A n c 0 0 Try.underlying25
  cases A with
  | none =>
    have hn : n = 0 := by
      rcases Nat.eq_zero_or_pos n with h0 | h0
      · exact h0
      · obtain ⟨b, o, e, _⟩ := h.2 h0
        cases e
    subst hn
    have hx : xs = [] := List.eq_nil_of_length_eq_zero (by have := h.1; omega)
    subst hx
    rw [show (none : Option Addr).isNone = true from rfl] at hcmp
    go_enter Try.func76, Try.ntmps76
    go_wp2
    go_ret
    exact ⟨none, 0, rfl, Own.nil _ _ _, Fr.refl _ _, fun k hk => absurd hk (inB_none k)⟩
  | some ad =>
    rw [show (some ad).isNone = false from rfl] at hcmp
    have hO := Own.fresh0 w 132 2
    have hA := h.alloc (.cells #[] 132)
    have H1 := Lib.hid h1
    have Hb := Lib.hid hb
    clear h1 hb
    go_enter Try.func76, Try.ntmps76
    go_wp2_with (first
      | (refine wpList_build0 rfl el_fate rfl ?_)
      | (refine wpList_app _ el_fate rfl (.tmp 5) (.tmp 6) rfl _ 0 0 [] rfl hO F _ n c xs rfl hA H1.out (by have := Hb.out; omega) ?_; intro A' c' w' hO' hf' hin' _))
    go_ret
    rw [Nat.zero_add] at hO'
    refine ⟨A', c', rfl, by simpa using hO', ((Fr.refl NoB w).alloc _).new hf' fun j hj => .inr ?_, fun k hk => ?_⟩
    · have hj' := (inB_some _ _).1 hj; dsimp only at hj'; omega
    · rcases hin' k hk with hj | hj
      · have hj' := (inB_some _ _).1 hj; dsimp only at hj'; omega
      · simp only [World.size_alloc] at hj; omega
end

section
theorem pow7 (i : Nat) : 2 ^ (7 * (i + 1)) = 128 * 2 ^ (7 * i) := by rw [Nat.mul_add, Nat.pow_add]; omega

theorem u8_self (c : UInt8) : UInt8.ofNat c.toNat = c := UInt8.ofNat_toNat

theorem fits_sum {i a m : Nat} (hi : i ≤ 8) (ha : a < 128) (hm : m * 2 ^ (7 * (i + 1)) < 18446744073709551616) : (a + 128 * m) * 2 ^ (7 * i) < 18446744073709551616 := by
  have hP : 2 ^ (64 - 7 * (i + 1)) * 2 ^ (7 * (i + 1)) = 18446744073709551616 := by
    rw [← Nat.pow_add, show 64 - 7 * (i + 1) + 7 * (i + 1) = 64 by omega]
  have hlt : m < 2 ^ (64 - 7 * (i + 1)) := by
    refine Nat.lt_of_mul_lt_mul_right (a := 2 ^ (7 * (i + 1))) ?_
    rw [hP]; exact hm
  have h1 : (m + 1) * 2 ^ (7 * (i + 1)) ≤ 18446744073709551616 := by
    rw [← hP]; exact Nat.mul_le_mul_right _ hlt
  have h2 : (a + 128 * m) * 2 ^ (7 * i) < (m + 1) * 2 ^ (7 * (i + 1)) := by
    rw [pow7, ← Nat.mul_assoc]
    exact Nat.mul_lt_mul_of_pos_right (by omega) (Nat.two_pow_pos _)
  omega

/-- What is read is a number's own bytes. -/
theorem rdGo_some : ∀ (l : List UInt8) (i n v u : Nat), rdGo i n l = some (v, u) →
    ∃ m, v = n + m * 2 ^ (7 * i) ∧ i ≤ 9 ∧ i < u ∧ u - i ≤ l.length ∧ l.take (u - i) = encN m ∧ (0 < i → 0 < m) ∧ m * 2 ^ (7 * i) < 18446744073709551616
  | [], i, n, v, u, h => by simp [rdGo] at h
  | c :: cs, i, n, v, u, h => by
    have hc := UInt8.toNat_lt c
    by_cases hb : rdBad i c = true
    · rw [rdGo_bad hb] at h; cases h
    · have hb' : rdBad i c = false := by simpa using hb
      have hn := (rdBad_not i c).1 hb'
      by_cases h128 : c.toNat < 128
      · rw [rdGo_last hb' h128] at h
        simp only [Option.some.injEq, Prod.mk.injEq] at h
        obtain ⟨rfl, rfl⟩ := h
        have e : c.toNat % 128 = c.toNat := Nat.mod_eq_of_lt h128
        refine ⟨c.toNat, by rw [e], hn.1, by omega, by simp, ?_, fun h0 => ?_, by have := hn.2.1; rwa [e] at this⟩
        · rw [show i + 1 - i = 1 by omega, encN_small h128, u8_self]; rfl
        · by_cases hz : c.toNat = 0
          · have := hn.2.2 hz; omega
          · omega
      · rw [rdGo_on hb' h128] at h
        obtain ⟨m, hv, h9, hu, hl, ht, hp, hlt⟩ := rdGo_some cs (i + 1) _ v u h
        have hm := hp (by omega)
        refine ⟨c.toNat % 128 + 128 * m, ?_, by omega, by omega, by simp; omega, ?_, fun _ => by omega, fits_sum (by omega) (by omega) hlt⟩
        · have e : (c.toNat % 128 + 128 * m) * 2 ^ (7 * i) = c.toNat % 128 * 2 ^ (7 * i) + m * (128 * 2 ^ (7 * i)) := by
            rw [Nat.add_mul, Nat.mul_comm 128 m, Nat.mul_assoc]
          rw [hv, pow7, e]
          omega
        · rw [encN_great (by omega), show u - i = (u - (i + 1)) + 1 by omega, List.take_succ_cons, ht]
          rw [show (c.toNat % 128 + 128 * m) / 128 = m by omega, show (c.toNat % 128 + 128 * m) % 128 + 128 = c.toNat by omega, u8_self]

/-- What was written is read. -/
theorem rdGo_encN (m : Nat) : ∀ (i n : Nat) (rest : List UInt8), m * 2 ^ (7 * i) < 18446744073709551616 → (0 < i → 0 < m) → rdGo i n (encN m ++ rest) = some (n + m * 2 ^ (7 * i), i + (encN m).length) := by
  induction m using Nat.strongRecOn with
  | ind m ih =>
    intro i n rest hlt hp
    have h9 : i ≤ 9 := by
      rcases Nat.eq_zero_or_pos i with h0 | h0
      · omega
      · rcases Nat.lt_or_ge i 10 with h | h
        · omega
        · have hm := hp h0
          have h1 : 2 ^ 64 ≤ 2 ^ (7 * i) := Nat.pow_le_pow_right (by omega) (by omega)
          have h2 : 1 * 2 ^ (7 * i) ≤ m * 2 ^ (7 * i) := Nat.mul_le_mul_right _ hm
          omega
    by_cases h128 : m < 128
    · rw [encN_small h128]
      have e : (UInt8.ofNat m).toNat = m := ofNat_toNat_lt (by omega)
      have hb : rdBad i (UInt8.ofNat m) = false := (rdBad_not _ _).2 ⟨h9, by rw [e, Nat.mod_eq_of_lt h128]; exact hlt, fun hz => by rw [e] at hz; omega⟩
      rw [List.singleton_append, rdGo_last hb (by rw [e]; exact h128), e, Nat.mod_eq_of_lt h128]
      rfl
    · rw [encN_great h128, List.cons_append]
      have e : (UInt8.ofNat (m % 128 + 128)).toNat = m % 128 + 128 := ofNat_toNat_lt (by omega)
      have e2 : (m % 128 + 128) % 128 = m % 128 := by omega
      have hmd : m = m % 128 + 128 * (m / 128) := by omega
      have hmul : m * 2 ^ (7 * i) = m % 128 * 2 ^ (7 * i) + m / 128 * 2 ^ (7 * (i + 1)) := by
        conv => lhs; rw [hmd]
        rw [Nat.add_mul, pow7, Nat.mul_comm 128 (m / 128), Nat.mul_assoc]
      have hb : rdBad i (UInt8.ofNat (m % 128 + 128)) = false := (rdBad_not _ _).2 ⟨h9, by rw [e, e2]; omega, fun hz => by rw [e] at hz; omega⟩
      rw [rdGo_on hb (by rw [e]; omega), e, e2, ih (m / 128) (by omega) (i + 1) _ rest (by omega) (fun _ => by omega), hmul]
      simp only [List.length_cons, Option.some.injEq, Prod.mk.injEq]
      omega

theorem RN_encN {n most : Nat} (rest : List UInt8) (h : n < 18446744073709551616) (hm : n ≤ most) : Rd.N ⟨encN n ++ rest, true⟩ most = (n, ⟨rest, true⟩) := by
  have := rdGo_encN n 0 0 rest (by simpa using h) (by omega)
  rw [Rd.N_some this (by simpa using hm)]
  simp

/-- The law of CodecOnce. -/
theorem once_plain (l : List UInt8) (most : Nat) (h : Rd.End (Rd.N ⟨l, true⟩ most).2 = 0) : encN (Rd.N ⟨l, true⟩ most).1 = l ∧ (Rd.N ⟨l, true⟩ most).1 < 18446744073709551616 := by
  unfold Rd.N at *
  simp only [if_true] at *
  split at h
  · rename_i v u hg
    split at h
    · rename_i hm
      rw [if_pos hm]
      obtain ⟨m, hv, _, hu, hl, ht, _, hlt⟩ := rdGo_some l 0 0 v u hg
      simp at hv hl ht hlt
      subst hv
      refine ⟨?_, hlt⟩
      have hd : l.drop u = [] := by
        unfold Rd.End at h
        split at h
        · rename_i h1 h2; exact h2
        · cases h
      rw [← ht, List.take_of_length_le]
      exact List.drop_eq_nil_iff.1 hd
    · simp [Rd.End] at h
  · simp [Rd.End] at h
end

section
def Rd.Raw (r : Rd) (k : Int) : List UInt8 × Rd :=
  if r.good = true ∧ 0 ≤ k ∧ k ≤ r.l.length then (r.l.take k.toNat, ⟨r.l.drop k.toNat, true⟩) else ([], Rd.bad)
def Rd.Text (r : Rd) (most : Int) : List UInt8 × Rd := if most < 0 then ([], Rd.bad) else (r.N most.toNat).2.Raw (r.N most.toNat).1
def Rd.Rest (r : Rd) : Nat := if r.good = true then r.l.length else 0
def Rd.idsGo : Nat → Rd → List Id32 × Rd
  | 0, r => ([], r)
  | n + 1, r => if h : (r.Raw 32).1.length = 32 then (⟨(r.Raw 32).1, h⟩ :: (Rd.idsGo n (r.Raw 32).2).1, (Rd.idsGo n (r.Raw 32).2).2) else ([], (r.Raw 32).2)
def Rd.Ids (r : Rd) (most : Int) : List Id32 × Rd :=
  if most < 0 then ([], Rd.bad) else if (Rd.idsGo (r.N most.toNat).1 (r.N most.toNat).2).2.good = true then Rd.idsGo (r.N most.toNat).1 (r.N most.toNat).2 else ([], (Rd.idsGo (r.N most.toNat).1 (r.N most.toNat).2).2)

theorem Rd.N_le (r : Rd) (most : Nat) : (r.N most).1 ≤ most := by
  unfold Rd.N
  split
  · split
    · split
      · assumption
      · exact Nat.zero_le _
    · exact Nat.zero_le _
  · exact Nat.zero_le _
theorem Rd.N_len (r : Rd) (most : Nat) : (r.N most).2.l.length ≤ r.l.length := by
  unfold Rd.N
  split
  · split
    · split
      · simp
      · simp
    · simp
  · simp
theorem Rd.Raw_len (r : Rd) (k : Int) : (r.Raw k).1.length + (r.Raw k).2.l.length ≤ r.l.length := by
  unfold Rd.Raw
  split
  · simp; omega
  · simp
theorem Rd.Raw_32 (r : Rd) : (r.Raw 32).1.length = 32 ∨ (r.Raw 32).1.length = 0 := by
  unfold Rd.Raw
  split
  · rename_i h
    left
    simp; omega
  · right; rfl
end

section
open Go.RowKit

/-- A reader behind a read that hands back new bytes. -/
def ReadBytes (w w' : World) (e : Ending) (F : Nat → Prop) (b : Nat) (q : List UInt8 × Rd) : Prop :=
  ∃ A c, e = .returned (.slice A q.1.length c) ∧ Fr (· = b) w w' ∧ RdAt w' F b q.2 ∧ Own w' 5 1 A q.1.length c (q.1.map bv) ∧ ∀ j, inB A j → w.heap.size ≤ j

theorem ret_sl {A : Option Addr} {n m c d : Nat} (h : n = m) (h2 : c = d) : Ending.returned (.slice A n c) = .returned (.slice A m d) := by rw [h, h2]

set_option maxRecDepth 100000 in
set_option maxHeartbeats 1000000 in
theorem RRaw_any (w : World) (F : Nat → Prop) (b : Nat) (r : Rd) (k : Int) (h : RdAt w F b r) (hk0 : -9223372036854775808 ≤ k) (hk1 : k ≤ 9223372036854775807) (hroom : r.l.length ≤ 70368744177664) :
    Calls Try.prog 36 #[.pointer (some ⟨b, 0, none⟩), .int .i64 k] w fun e w' => ReadBytes w w' e F b (r.Raw k) := by
  obtain ⟨hF, A, n, c, hB, hc, hm, hl⟩ := h
  obtain ⟨l, g⟩ := r
  have h1 := hB.cell 1
  simp at h1
  have h0 := hB.cell_0
  have f0 := hB.frozen 0
  have hlen := hl.len
  dsimp only at hlen hroom h0 hl
  subst hlen
  cases g with
  | false =>
    have e : Rd.Raw ⟨l, false⟩ k = ([], Rd.bad) := by simp [Rd.Raw]
    rw [e]
    clear e hl
    go_enter Try.func36, Try.ntmps36
    go_wp2_with (first | (go_at_call 80; refine (ok_some _ _ _ h1).mono ?_; rintro e w' ⟨rfl, rfl⟩) | (go_at_call 81; refine (fail_some _ _ _ _ hB).mono ?_; rintro e w' ⟨rfl, rfl⟩))
    go_ret
    obtain ⟨g1, g2⟩ := rd_fail hF hB
    exact ⟨none, 0, rfl, g1, g2, Own.nil _ _ _, fun j hj => absurd hj (inB_none j)⟩
  | true =>
    by_cases hk : 0 ≤ k ∧ k ≤ l.length
    · obtain ⟨ka, kb⟩ := hk
      obtain ⟨m, rfl⟩ := Int.eq_ofNat_of_zero_le ka
      have hml : m ≤ l.length := by omega
      have e : Rd.Raw ⟨l, true⟩ m = (l.take m, ⟨l.drop m, true⟩) := by simp [Rd.Raw, hml]
      rw [e]
      have ht := hl.take hml
      have hA : Hid ((l.take m).length = m) := by show _ = _; simp; omega
      clear e ka kb
      go_enter Try.func36, Try.ntmps36
      go_wp2_with (first
        | (go_at_call 80; refine (ok_some _ _ _ h1).mono ?_; rintro e w' ⟨rfl, rfl⟩)
        | (at_builtin; refine wpList_app _ el_u8 rfl (.const (.slice none 0 0)) (.tmp 29) rfl none 0 0 [] rfl (Own.nil _ _ _) _ _ m _ _ rfl ht (bv_one _) (by omega) ?_; intro A1 c1 w1 hown1 hf1 hin1 hnil1; have hB1 := hB.fr hf1 (inB_none b); have h01 := hB1.cell_0; have f01 := hB1.frozen 0))
      go_ret
      have hl1 := hl.fr hf1 fun k _ => inB_none k
      obtain ⟨g1, g2⟩ := rd_cut hF hB1 hc hm hl1 hml
      have hb1 := hB.lt
      rw [Nat.zero_add] at hown1
      refine ⟨A1, c1, ret_sl (by rw [hA.out]) rfl, hf1.mono (fun k _ hk => absurd hk (inB_none k)) |>.trans g1 fun _ _ h => h, g2, ?_, fun j hj => (hin1 j hj).elim (fun h => absurd h (inB_none j)) (fun h => by omega)⟩
      rw [hA.out]
      exact hown1.set_ (fun hj => (hin1 b hj).elim (inB_none b) (fun h => by omega)) _ _
    · have e : Rd.Raw ⟨l, true⟩ k = ([], Rd.bad) := by
        unfold Rd.Raw; rw [if_neg (fun h => hk h.2)]
      rw [e]
      clear e hl
      by_cases hk0 : 0 ≤ k
      · have hk2 : (l.length : Int) < k := by omega
        clear hk
        go_enter Try.func36, Try.ntmps36
        go_wp2_with (first | (go_at_call 80; refine (ok_some _ _ _ h1).mono ?_; rintro e w' ⟨rfl, rfl⟩) | (go_at_call 81; refine (fail_some _ _ _ _ hB).mono ?_; rintro e w' ⟨rfl, rfl⟩))
        go_ret
        obtain ⟨g1, g2⟩ := rd_fail hF hB
        exact ⟨none, 0, rfl, g1, g2, Own.nil _ _ _, fun j hj => absurd hj (inB_none j)⟩
      · have hk2 : k < 0 := by omega
        clear hk hk0
        go_enter Try.func36, Try.ntmps36
        go_wp2_with (first | (go_at_call 80; refine (ok_some _ _ _ h1).mono ?_; rintro e w' ⟨rfl, rfl⟩) | (go_at_call 81; refine (fail_some _ _ _ _ hB).mono ?_; rintro e w' ⟨rfl, rfl⟩))
        go_ret
        obtain ⟨g1, g2⟩ := rd_fail hF hB
        exact ⟨none, 0, rfl, g1, g2, Own.nil _ _ _, fun j hj => absurd hj (inB_none j)⟩

set_option maxHeartbeats 400000 in
theorem RRest_any (w : World) (F : Nat → Prop) (b : Nat) (r : Rd) (h : RdAt w F b r) :
    Calls Try.prog 43 #[.pointer (some ⟨b, 0, none⟩)] w fun e w' => e = .returned (.int .i64 (r.Rest : Int)) ∧ w = w' := by
  obtain ⟨hF, A, n, c, hB, hc, hm, hl⟩ := h
  obtain ⟨l, g⟩ := r
  have h1 := hB.cell 1
  simp at h1
  have h0 := hB.cell_0
  have hlen := hl.len
  dsimp only at hlen h0 hl
  subst hlen
  clear hl
  cases g with
  | false =>
    go_enter Try.func43, Try.ntmps43
    go_wp2_with (first | (go_at_call 80; refine (ok_some _ _ _ h1).mono ?_; rintro e w' ⟨rfl, rfl⟩))
    go_ret
    exact ⟨rfl, rfl⟩
  | true =>
    go_enter Try.func43, Try.ntmps43
    go_wp2_with (first | (go_at_call 80; refine (ok_some _ _ _ h1).mono ?_; rintro e w' ⟨rfl, rfl⟩))
    go_ret
    exact ⟨rfl, rfl⟩

set_option maxRecDepth 100000 in
set_option maxHeartbeats 400000 in
theorem RText_any (w : World) (F : Nat → Prop) (b : Nat) (r : Rd) (k : Int) (h : RdAt w F b r) (hk0 : -9223372036854775808 ≤ k) (hk1 : k ≤ 9223372036854775807) (hroom : r.l.length ≤ 70368744177664) :
    Calls Try.prog 38 #[.pointer (some ⟨b, 0, none⟩), .int .i64 k] w fun e w' => ReadBytes w w' e F b (r.Text k) := by
  by_cases hk : k < 0
  · have e : r.Text k = ([], Rd.bad) := by simp [Rd.Text, hk]
    rw [e]
    clear e
    obtain ⟨hF, A, n, c, hB, hc, hm, hl⟩ := h
    go_enter Try.func38, Try.ntmps38
    go_wp2_with (first | (go_at_call 81; refine (fail_some _ _ _ _ hB).mono ?_; rintro e w' ⟨rfl, rfl⟩))
    go_ret
    obtain ⟨g1, g2⟩ := rd_fail hF hB
    exact ⟨none, 0, rfl, g1, g2, Own.nil _ _ _, fun j hj => absurd hj (inB_none j)⟩
  · have e : r.Text k = (r.N k.toNat).2.Raw (r.N k.toNat).1 := by rw [Rd.Text, if_neg hk]
    rw [e]
    clear e
    obtain ⟨m, rfl⟩ := Int.eq_ofNat_of_zero_le (show 0 ≤ k by omega)
    rw [Int.toNat_natCast]
    have hle := Rd.N_le r m
    have hll := Rd.N_len r m
    have hRN := RN_any w F b r m h
    generalize r.N m = q at hle hll hRN ⊢
    obtain ⟨v, r1⟩ := q
    dsimp only at hle hll hRN ⊢
    have HRN := Lib.hid hRN
    clear hRN
    go_enter Try.func38, Try.ntmps38
    go_wp2_with fail
    refine HRN.out.mono ?_
    rintro e w1 ⟨rfl, hf1, hR1⟩
    go_wp2_with fail
    refine (RRaw_any _ _ _ _ v hR1 (by omega) (by omega) (by omega)).mono ?_
    rintro e w2 ⟨A2, c2, rfl, hf2, hR2, hO2, hA2⟩
    have s1 := hf1.size
    go_wp2
    go_ret
    exact ⟨A2, c2, rfl, hf1.trans hf2 fun _ _ h => h, hR2, hO2, fun j hj => by have := hA2 j hj; omega⟩
end

section
open Go.RowKit Go.Shelf
attribute [local go_sem] Oper.semAt_some

set_option maxHeartbeats 400000 in
theorem each_any (w : World) (p : Option Addr) (n : Int) :
    Calls Try.prog 87 #[.pointer p, .int .u64 n] w fun e w' => e = .returned (.func (.func 104) #[] #[.pointer (some ⟨w.heap.size + 1, 0, none⟩), .pointer (some ⟨w.heap.size, 0, none⟩)]) ∧ w' = (w.alloc (.cells #[.pointer p] 43)).alloc (.cells #[.int .u64 n] 23) := by
  go_enter Try.func87, Try.ntmps87
  go_wp2
  go_ret
  exact ⟨rfl, rfl⟩

theorem RdAt.fr {w w' : World} {F S : Nat → Prop} {b : Nat} {r : Rd} (h : RdAt w F b r) (hf : Fr S w w') (hd : ∀ k, F k → ¬ S k) : RdAt w' F b r := by
  obtain ⟨q0, q1, q2, q3, q4, q5, q6, q7⟩ := h
  exact ⟨q0, q1, q2, q3, q4.fr hf (hd _ q0), q5, q6, q7.fr hf fun k hk => hd k hk.1⟩
theorem RdAt.more {w : World} {F G : Nat → Prop} {b : Nat} {r : Rd} (h : RdAt w F b r) (hs : ∀ k, k < w.heap.size → F k → G k) : RdAt w G b r := by
  obtain ⟨q0, q1, q2, q3, q4, q5, q6, q7⟩ := h
  exact ⟨hs _ q4.lt q0, q1, q2, q3, q4, q5, q6, q7.more fun k hk h => ⟨hs k hk h.1, h.2⟩⟩

theorem Rd.idsGo_zero (r : Rd) : Rd.idsGo 0 r = ([], r) := rfl
theorem Rd.idsGo_stop {k : Nat} {r : Rd} (h : (r.Raw 32).1.length ≠ 32) : Rd.idsGo (k + 1) r = ([], (r.Raw 32).2) := by rw [Rd.idsGo, dif_neg h]
theorem Rd.idsGo_on {k : Nat} {r : Rd} (h : (r.Raw 32).1.length = 32) : Rd.idsGo (k + 1) r = (⟨(r.Raw 32).1, h⟩ :: (Rd.idsGo k (r.Raw 32).2).1, (Rd.idsGo k (r.Raw 32).2).2) := by rw [Rd.idsGo, dif_pos h]

set_option maxRecDepth 100000 in
set_option maxHeartbeats 2000000 in
theorem each1_seq (m : Nat) (hm : 2 ≤ m) (w : World) (b bn br : Nat) (r : Rd) (n0 : Nat) (FR T : Nat → Prop) (hR : RdAt w FR b r) (hn : Blk w bn 23 #[.int .u64 n0]) (hr : Blk w br 43 #[.pointer (some ⟨b, 0, none⟩)]) (hn0 : n0 < 18446744073709551616)
    (hT : (∀ k, FR k → ¬ T k) ∧ ¬ T bn ∧ ¬ T br) (hFn : ¬ FR bn ∧ ¬ FR br) (hroom : r.l.length ≤ 70368744177664) :
    SeqG m Try.prog 104 #[.pointer (some ⟨bn, 0, none⟩), .pointer (some ⟨br, 0, none⟩)] (fun x : Id32 => #[.agg (idCells x).toArray]) (fun k => k = b ∨ k = bn) T (fun pre _ => 32 * (pre.length + 1) ≤ r.l.length)
      (fun xs W => xs = (Rd.idsGo n0 r).1 ∧ RdAt W FR b (Rd.idsGo n0 r).2) (fun _ _ => True) w := by
  intro l J Jx W hF0 hl1 hl2 hJ hJx hY h0
  have hbn := hn.lt
  have hbr := hr.lt
  have hRt := hR.more (G := fun k => FR k ∧ k < w.heap.size) fun k hk h => ⟨h, hk⟩
  have hm1 : 1 ≤ m := by omega
  have hm2 : 1 ≤ m - 1 := by omega
  refine callsIn_of_wp Try.func104 rfl trivial ?_ rfl
  simp only [Try.ntmps104, List.size_toArray, List.length_cons, List.length_nil, Nat.reduceAdd, Nat.reduceSub, Array.replicate_succ, Array.replicate_zero, List.push_toArray, List.append_toArray, List.nil_append, List.cons_append]
  gi_wp2
  gi_loopw [4] (fun _ wr => ∃ (pre : List Id32) (r' : Rd) (k : Nat), k ≤ n0 ∧ J pre wr ∧ Blk wr bn 23 #[.int .u64 k] ∧ Blk wr br 43 #[.pointer (some ⟨b, 0, none⟩)] ∧ RdAt wr (fun k => FR k ∧ k < w.heap.size) b r' ∧
      (Rd.idsGo n0 r).1 = pre ++ (Rd.idsGo k r').1 ∧ (Rd.idsGo n0 r).2 = (Rd.idsGo k r').2 ∧ 32 * pre.length + r'.l.length ≤ r.l.length ∧ W.heap.size ≤ wr.heap.size) (fun _ wr => (intOf ((wr.cell? ⟨bn, 0, none⟩).getD undef)).toNat)
  case atStart =>
    exact ⟨[], r, n0, Nat.le_refl _, h0, hn.fr hF0 id, hr.fr hF0 id, hRt.fr hF0 fun _ _ => id, rfl, rfl, by simp, Nat.le_refl _⟩
  case round =>
    obtain ⟨pre, r', k, hk, hJw, hnw, hrw, hRw, he1, he2, hlen, hsz⟩ := hrel
    obtain ⟨w1, rfl⟩ : ∃ w1 : World, w1 = wr := ⟨_, rfl⟩
    have cn := hnw.cell_0
    have cr := hrw.cell_0
    have fzn := hnw.frozen 0
    have He1 := Lib.hid he1
    have He2 := Lib.hid he2
    clear he1 he2
    cases k with
    | zero =>
      gi_wp2
      go_end0
      have e1 := He1.out
      have e2 := He2.out
      rw [Rd.idsGo_zero] at e1 e2
      exact ⟨⟨_, rfl⟩, .inl ⟨pre, ⟨by rw [e1]; simp, by rw [e2]; exact hRw.more fun _ _ h => h.1⟩, hJw⟩⟩
    | succ k =>
      have hcall := RRaw_any w1 _ b r' 32 hRw (by omega) (by omega) (by omega)
      have hrl := Rd.Raw_len r' 32
      rcases Rd.Raw_32 r' with h32 | h32
      · have e1 := He1.out
        have e2 := He2.out
        rw [Rd.idsGo_on h32] at e1 e2
        have hid : (⟨(r'.Raw 32).1, h32⟩ : Id32).1 = (r'.Raw 32).1 := rfl
        unfold ReadBytes at hcall
        rw [h32] at hcall
        generalize (⟨(r'.Raw 32).1, h32⟩ : Id32) = x at e1 e2 hid
        rw [← hid] at hcall
        generalize (r'.Raw 32).2 = r2 at *
        rw [← hid, x.2] at hrl
        have He1' := Lib.hid e1
        have He2' := Lib.hid e2
        have Hcall := Lib.hid hcall
        clear e1 e2 hid hcall He1 He2 h32
        have hG : 32 * (pre.length + 1) ≤ r.l.length := by omega
        have Hx : Hid ((idCells x).length = 32) := idCells_len x
        gi_wp2_with fail
        refine ⟨trivial, ?_⟩
        refine (callsIn_wide.2 Hcall.out).mono ?_
        rintro e w2 ⟨A2, c2, rfl, hf2, hR2, hO2, hA2⟩
        have s2 := hf2.size
        have hJ2 : J pre w2 := hJ _ _ _ hJw (hf2.mono fun _ _ h => .inl h)
        obtain ⟨fn, tmps, assign, body, hy, hRn⟩ := hY pre x w2 hJ2 hG (by omega)
        obtain ⟨g, cur, rfl, hBg, hc32, _, hcs, htk⟩ : ∃ g cur, A2 = some ⟨g, 0, none⟩ ∧ Blk w2 g 5 cur ∧ 32 ≤ c2 ∧ c2 ≤ maxLen ∧ cur.size = c2 * 1 ∧ cur.toList.take (32 * 1) = x.1.map bv := by
          have := Own.form hO2
          rcases this with ⟨_, h, _⟩ | h
          · omega
          · exact h
        have hcg : ∀ (j : Nat) (u : Value), (idCells x)[j]? = some u → w2.cell? ⟨g, 0 + j, none⟩ = some u := fun j u hu => by
          rw [Nat.zero_add, hBg.cell]
          rw [← Array.getElem?_toList]
          have h3 : (cur.toList.take (32 * 1))[j]? = some u := by rw [htk]; exact hu
          rw [List.getElem?_take] at h3
          split at h3
          · exact h3
          · cases h3
        clear htk hcs
        have harr := run_arrayAt (P := Try.prog) (w := w2) 74 5 32 (some ⟨g, 0, none⟩) 32 c2 Try.underlying74 (by omega)
        gi_wp2_with (first
          | (refine wpListIn_load_agg rfl 74 (.tmp 17) rfl g 0 rfl (idCells x) _ hcg Try.underlying74 rfl (by rw [Hx.out]; exact id_size) ?_))
        refine hRn.mono ?_
        have hne : ∀ k, k < w.heap.size → ¬ T k → ¬ (T k ∨ k = l) := fun k hk ht h => h.elim ht fun h => by omega
        have hbb := hRw.1.2
        have hbne : bn ≠ b := fun h => hFn.1 (h ▸ hRw.1.1)
        rintro e w3 (⟨rfl, hJ3, hf3⟩ | ⟨rfl, hJ3, hf3⟩)
        · have s3 := hf3.size
          have hn3 := (hnw.fr hf2 hbne).fr hf3 (hne _ hbn hT.2.1)
          have cn3 := hn3.cell_0
          have fzn3 := hn3.frozen 0
          have hr3 := (hrw.fr hf2 (fun h => hFn.2 (h ▸ hRw.1.1))).fr hf3 (hne _ hbr hT.2.2)
          have hR3 := hR2.fr hf3 fun j hj => hne j hj.2 (hT.1 j hj.1)
          have hFs := (Fr.refl (fun j => j = b ∨ j = bn) w3).set_ (b := bn) (.inl (.inr rfl)) 0 (.int .u64 (k : Int))
          have hJ4 := hJ _ _ _ hJ3 hFs
          gi_wp2
          go_roundw
          case rel =>
            refine ⟨pre ++ [x], r2, k, by omega, hJ4, by simpa using hn3.set_ 0 _, hr3.far (p := ⟨bn, 0, none⟩) (fun h => ?_) _, hR3.fr ((Fr.refl (· = bn) w3).at_ 0 _) (fun j hj h => hFn.1 (h ▸ hj.1)), by rw [He1'.out]; simp, He2'.out, by simp only [List.length_append, List.length_singleton]; omega, by simp [World.setCell]; omega⟩
            exact hr3.ne_ hn3 (by decide) h
          case measure =>
            rw [(hn3.set_ 0 _).cell 0, cn]
            simp [intOf]
        · gi_wp2
          refine bodyPost_ret (results_none rfl _ _ _) rfl ?_
          exact ⟨⟨_, rfl⟩, .inr ⟨pre ++ [x], trivial, hJ3⟩⟩
      · have e1 := He1.out
        have e2 := He2.out
        rw [Rd.idsGo_stop (by omega)] at e1 e2
        unfold ReadBytes at hcall
        rw [h32] at hcall
        generalize (r'.Raw 32).2 = r2 at *
        have He1' := Lib.hid e1
        have He2' := Lib.hid e2
        have Hcall := Lib.hid hcall
        clear e1 e2 hcall He1 He2 h32
        gi_wp2_with fail
        refine ⟨trivial, ?_⟩
        refine (callsIn_wide.2 Hcall.out).mono ?_
        rintro e w2 ⟨A2, c2, rfl, hf2, hR2, hO2, hA2⟩
        have hJ2 : J pre w2 := hJ _ _ _ hJw (hf2.mono fun _ _ h => .inl h)
        gi_wp2
        refine ⟨fun _ h => (by cases h), ?_⟩
        gi_wp2
        refine bodyPost_ret (results_none rfl _ _ _) rfl ?_
        exact ⟨⟨_, rfl⟩, .inl ⟨pre, ⟨by rw [He1'.out]; simp, by rw [He2'.out]; exact hR2.more fun _ _ h => h.1⟩, hJ2⟩⟩
end

section
open Go.RowKit Go.Shelf
attribute [local go_sem] Oper.semAt_some

theorem el_id : ElemOk Try.prog 60 74 (.agg (Array.replicate 32 (.int .u8 0))) 32 32 := .mk Try.underlying60 (by kernel_rfl) rfl (by omega) (by omega)

/-- New ids are handed back by a reader. -/
def ReadIds (w w' : World) (e : Ending) (F : Nat → Prop) (b : Nat) (q : List Id32 × Rd) : Prop :=
  ∃ A c, e = .returned (.slice A q.1.length c) ∧ Fr (· = b) w w' ∧ RdAt w' F b q.2 ∧ Own w' 74 32 A q.1.length c (q.1.flatMap idCells) ∧ ∀ j, inB A j → w.heap.size ≤ j

set_option maxRecDepth 100000 in
set_option maxHeartbeats 400000 in
theorem RIds_neg (w : World) (F : Nat → Prop) (b : Nat) (r : Rd) (k : Int) (h : RdAt w F b r) (hk : k < 0) :
    Calls Try.prog 41 #[.pointer (some ⟨b, 0, none⟩), .int .i64 k] w fun e w' => ReadIds w w' e F b (r.Ids k) := by
  have e : r.Ids k = ([], Rd.bad) := by simp [Rd.Ids, hk]
  rw [e]
  clear e
  obtain ⟨hF, A, n, c, hB, hc, hm, hl⟩ := h
  go_enter Try.func41, Try.ntmps41
  go_wp2_with (first | (go_at_call 81; refine (fail_some _ _ _ _ hB).mono ?_; rintro e w' ⟨rfl, rfl⟩))
  go_ret
  obtain ⟨g1, g2⟩ := rd_fail hF hB
  exact ⟨none, 0, rfl, g1, g2, Own.nil _ _ _, fun j hj => absurd hj (inB_none j)⟩

theorem Rd.idsGo_len : ∀ (v : Nat) (r : Rd), 32 * (Rd.idsGo v r).1.length ≤ r.l.length
  | 0, r => by simp [Rd.idsGo_zero]
  | v + 1, r => by
    by_cases h : (r.Raw 32).1.length = 32
    · rw [Rd.idsGo_on h]
      have h1 := Rd.idsGo_len v (r.Raw 32).2
      have h2 := Rd.Raw_len r 32
      simp only [List.length_cons]
      omega
    · rw [Rd.idsGo_stop h]; simp

set_option maxRecDepth 100000 in
set_option maxHeartbeats 2000000 in
theorem RIds_pos (w : World) (F : Nat → Prop) (b : Nat) (r : Rd) (k : Nat) (h : RdAt w F b r) (hk1 : k ≤ 9223372036854775807) (hroom : r.l.length ≤ 70368744177664) :
    Calls Try.prog 41 #[.pointer (some ⟨b, 0, none⟩), .int .i64 k] w fun e w' => ReadIds w w' e F b (r.Ids k) := by
  have hid : r.Ids k = if (Rd.idsGo (r.N k).1 (r.N k).2).2.good = true then Rd.idsGo (r.N k).1 (r.N k).2 else ([], (Rd.idsGo (r.N k).1 (r.N k).2).2) := by
    rw [Rd.Ids, if_neg (by omega), Int.toNat_natCast]
  rw [hid]
  clear hid
  have hle := Rd.N_le r k
  have hll := Rd.N_len r k
  have hb := h.2
  have hRN := fun W => RN_any W (fun j => F j ∧ j < w.heap.size) b r k
  generalize r.N k = q at hle hll hRN ⊢
  obtain ⟨v, r1⟩ := q
  dsimp only at hle hll hRN ⊢
  have HRN := Lib.hid hRN
  clear hRN
  have hrl1 : 32 * (Rd.idsGo v r1).1.length ≤ r.l.length := Nat.le_trans (Rd.idsGo_len v r1) hll
  obtain ⟨z, hz⟩ : ∃ z, z = Rd.idsGo v r1 := ⟨_, rfl⟩
  rw [← hz] at hrl1 ⊢
  obtain ⟨res, hres⟩ : ∃ res, res = if z.2.good = true then z else ([], z.2) := ⟨_, rfl⟩
  rw [← hres]
  have Hz := Lib.hid hz
  have Hres := Lib.hid hres
  clear hz hres
  refine (callsIn_wide (n := 7)).1 ?_
  refine callsIn_of_wp_marks Try.func41 rfl trivial ?_ rfl
  simp only [Try.ntmps41, List.size_toArray, List.length_cons, List.length_nil, Nat.reduceAdd, Nat.reduceSub, Array.replicate_succ, Array.replicate_zero, List.push_toArray, List.append_toArray, List.nil_append, List.cons_append]
  have hRa := (h.more (G := fun j => F j ∧ j < w.heap.size) fun j hj h => ⟨h, hj⟩).fr ((Fr.refl NoB w).alloc (.cells #[.slice none 0 0] 60)) fun _ _ => id
  gi_wp2_with fail
  refine ⟨trivial, ?_⟩
  refine (callsIn_wide.2 (HRN.out _ hRa)).mono ?_
  rintro e w1 ⟨rfl, hf1, hR1⟩
  gi_wp2_with fail
  refine ⟨trivial, ?_⟩
  refine (callsIn_wide.2 (each_any _ _ _)).mono ?_
  rintro e w2 ⟨rfl, hw2⟩
  have s1 := hf1.size
  simp only [World.size_alloc] at s1
  have hbl := hRa.1.2
  have hBo : Blk w1 w.heap.size 60 #[.slice none 0 0] := (Blk.new w _ _).fr hf1 (by omega)
  have hBr : Blk w2 w1.heap.size 43 #[.pointer (some ⟨b, 0, none⟩)] := by rw [hw2]; exact (Blk.new w1 _ _).alloc _
  have hBn : Blk w2 (w1.heap.size + 1) 23 #[.int .u64 v] := by rw [hw2]; simpa using Blk.new (w1.alloc (.cells #[.pointer (some ⟨b, 0, none⟩)] 43)) 23 #[.int .u64 v]
  have hf12 : Fr NoB w1 w2 := by rw [hw2]; exact ((Fr.refl NoB w1).alloc _).alloc _
  have hsz2 : w2.heap.size = w1.heap.size + 2 := by rw [hw2]; simp
  have hR2 := hR1.fr hf12 fun _ _ => id
  have hBo2 := hBo.fr hf12 id
  clear hw2
  obtain ⟨w3, rfl⟩ : ∃ w3 : World, w3 = w2 := ⟨_, rfl⟩
  have hs2a : w1.heap.size + 2 ≤ w3.heap.size := by omega
  have hs2b : w3.heap.size ≤ w1.heap.size + 2 := by omega
  clear hsz2
  gi_wp2
  refine wpIn_rangeFuncG (gf := 104) (lb := #[.pointer (some ⟨w1.heap.size + 1, 0, none⟩), .pointer (some ⟨w1.heap.size, 0, none⟩)]) rfl (enters_of Try.func104 (by kernel_rfl) rfl)
    (each1_seq 6 (by omega) w3 b (w1.heap.size + 1) w1.heap.size r1 v (fun j => F j ∧ j < w.heap.size) (fun j => j = w.heap.size ∨ w3.heap.size + 2 ≤ j) hR2 hBn hBr (by omega) ⟨fun j hj => by omega, by omega, by omega⟩ ⟨fun hj => by omega, fun hj => by omega⟩ (by omega)) (fun _ => rfl)
    (fun pre W => ∃ A n c, Blk W w.heap.size 60 #[.slice A n c] ∧ n = pre.length ∧ Own W 74 32 A n c (pre.flatMap idCells) ∧ (∀ j, inB A j → w3.heap.size + 2 ≤ j) ∧ Fr (fun j => j = b ∨ w.heap.size ≤ j) w W)
    (fun _ _ _ => False) ?hI (fun _ _ _ _ h _ => h) ⟨by omega, by omega⟩ ⟨by omega, by omega⟩ ?h0
    (fun x a' W' => ∃ g s0 s1 s2 s3 s4 s7 s8 s9 s10 s11 s12 s13 s14 s15 s16 s17 s18 s19 s20 s21 s22 s23 s24 s25, Blk W' g 74 (idCells x).toArray ∧ w3.heap.size + 2 ≤ g ∧ a' = { tmps := #[s0, s1, s2, s3, s4, .pointer (some ⟨w.heap.size, 0, none⟩), .pointer (some ⟨g, 0, none⟩), s7, s8, s9, s10, s11, s12, s13, s14, s15, s16, s17, s18, s19, s20, s21, s22, s23, s24, s25], defers := [] }) ?hAx ?assign ?body ?done ?stop ?hSb ?hSpb
  case hI =>
    rintro pre A B ⟨A2, n2, c2, q1, q2, q3, q4, q5⟩ hf
    exact ⟨A2, n2, c2, q1.fr hf (by omega), q2, q3.fr hf (fun j hj => by have := q4 j hj; omega), q4, q5.trans hf fun j hj h => by omega⟩
  case h0 =>
    exact ⟨none, 0, 0, hBo2, rfl, Own.nil _ _ _, fun j hj => absurd hj (inB_none j), ((((Fr.refl (fun j => j = b ∨ w.heap.size ≤ j) w).alloc _).trans hf1 fun j _ h => .inl h).trans hf12 fun _ _ h => h.elim)⟩
  case hAx =>
    rintro x a' A B ⟨g, s0, s1, s2, s3, s4, s7, s8, s9, s10, s11, s12, s13, s14, s15, s16, s17, s18, s19, s20, s21, s22, s23, s24, s25, q1, q2, q3⟩ hf
    exact ⟨g, s0, s1, s2, s3, s4, s7, s8, s9, s10, s11, s12, s13, s14, s15, s16, s17, s18, s19, s20, s21, s22, s23, s24, s25, q1.fr hf (by omega), q2, q3⟩
  case assign =>
    intro l x W K hsz hK
    have Hx : Hid ((idCells x).toArray.size = 32) := by show _ = _; simp [idCells_len]
    have Hx1 : Hid ((idCells x).toArray.all (·.oneCell') = true) := by
      show _ = _
      rw [Array.all_eq_true_iff_forall_mem]
      intro u hu
      exact bv_one x.1 u (by simpa [idCells] using hu)
    simp only [params_one]
    gi_wp2_with (first
      | (refine wpListIn_alloc_any rfl 74 rfl 32 id_zero ?_; intro z hz; have Hz := Lib.hid hz; clear hz)
      | (refine wpListIn_store_newN rfl 74 (.tmp 6) (.tmp 17) rfl 32 id_size _ z Hz.out (idCells x).toArray rfl rfl Hx.out Hx1.out ?_))
    refine hK _ _ ((Fr.refl NoB W).alloc _) ?_
    exact ⟨W.heap.size, _, _, _, _, _, _, _, _, _, _, _, _, _, _, _, _, _, _, _, _, _, _, _, _, Blk.new _ _ _, hsz, rfl⟩
  case body =>
    rintro pre x W a' ⟨A2, n2, c2, q1, q2, q3, q4, q5⟩ hG ⟨g, s0, s1, s2, s3, s4, s7, s8, s9, s10, s11, s12, s13, s14, s15, s16, s17, s18, s19, s20, s21, s22, s23, s24, s25, q6, q7, rfl⟩ hsz
    have Hx : Hid ((idCells x).length = 32) := idCells_len x
    have Hxs : Hid ((idCells x).toArray.size = 1 * 32) := by show _ = _; simp [idCells_len]
    have Hxt : Hid ((idCells x).toArray.size = 32) := by show _ = _; simp [idCells_len]
    have c5 := q1.cell_0
    have hcg : ∀ (j : Nat) (u : Value), (idCells x)[j]? = some u → W.cell? ⟨g, 0 + j, none⟩ = some u := fun j u hu => by rw [Nat.zero_add, q6.cell]; simpa using hu
    have hone : Hid (∀ u ∈ (idCells x).toArray.toList, u.oneCell' = true) := fun u hu => bv_one x.1 u (by simpa [idCells] using hu)
    have Hq2 := Lib.hid q2
    have hn2 : (n2 + 1) * 32 ≤ 140737488355328 := by rw [q2]; omega
    have q1' := q1.alloc (.cells (idCells x).toArray 74)
    have hob : ¬ inB A2 w.heap.size := fun h => by have := q4 _ h; omega
    clear q2
    gi_wp2_with (first
      | (refine wpListIn_load_agg rfl 74 (.tmp 6) rfl g 0 rfl (idCells x) _ hcg Try.underlying74 rfl (by rw [Hx.out]; exact id_size) ?_)
      | (refine wpListIn_build1 rfl el_id (by omega) (.tmp 19) rfl (idCells x).toArray rfl Hxt.out ?_)
      | (gi_at_builtin; refine wpListIn_app el_id rfl (.tmp 18) (.tmp 20) rfl A2 n2 c2 _ rfl (q3.alloc _) _ _ 1 1 _ rfl (Arr.new _ _ (idCells x).toArray 1 32 Hxs.out) hone.out hn2 ?_; intro A4 c4 w4 hown4 hf4 hin4 hnil4; have c54 := hf4.cell' q1'.cell_0 hob; have f54 := (q1'.fr hf4 hob).frozen 0))
    have hsz4 := hf4.size
    simp only [World.size_alloc] at hsz4 hin4
    have hstep : Fr (fun j => j = w.heap.size ∨ w3.heap.size + 2 ≤ j) W (w4.setCell ⟨w.heap.size, 0, none⟩ (.slice A4 (n2 + 1) c4)) := (((Fr.refl (fun j => j = w.heap.size ∨ w3.heap.size + 2 ≤ j) W).alloc _).trans hf4 fun j _ h => .inr (q4 j h)).set_ (.inl (.inl rfl)) _ _
    refine ⟨hstep, A4, n2 + 1, c4, by simpa using (q1'.fr hf4 hob).set_ 0 _, by simp [Hq2.out], ?_, fun j hj => (hin4 j hj).elim (q4 j) (fun h => by omega), q5.trans hstep fun j hj h => by omega⟩
    have e : (pre ++ [x]).flatMap idCells = pre.flatMap idCells ++ (idCells x).toArray.toList := by simp
    rw [e]
    exact hown4.set_ (fun hj => (hin4 _ hj).elim hob (fun h => by omega)) _ _
  case done =>
    rintro xs W ⟨rfl, hRf⟩ ⟨A2, n2, c2, q1, q2, q3, q4, q5⟩ hK
    rw [← Hz.out] at hRf q2 q3
    obtain ⟨ids, r2⟩ := z
    dsimp only at *
    have Hq2 := Lib.hid q2
    clear q2
    have c5 := q1.cell_0
    have hFin : ∀ {o : Obj}, Fr (fun j => j = b) w (W.putObj w3.heap.size o) := fun {o} => (q5.trans ((Fr.refl (fun j => j = w3.heap.size) W).putObj (r := w3.heap.size) (.inl rfl) o) fun j hj h => .inr (by omega)).mono fun j hj h => by omega
    have hRo : ∀ {o : Obj}, RdAt (W.putObj w3.heap.size o) F b r2 := fun {o} => (hRf.fr ((Fr.refl (fun j => j = w3.heap.size) W).putObj (.inl rfl) o) (fun j hj h => by omega)).more fun j _ h => h.1
    have hOo : ∀ {o : Obj}, Own (W.putObj w3.heap.size o) 74 32 A2 n2 c2 (ids.flatMap idCells) := fun {o} => q3.fr ((Fr.refl (fun j => j = w3.heap.size) W).putObj (.inl rfl) o) (fun j hj h => by have := q4 j hj; omega)
    have hok : ∀ g, r2.good = g → W.cell? ⟨b, 1, none⟩ = some (.bool g) := fun g hg => by
      obtain ⟨_, A9, n9, c9, t1, _⟩ := hRf
      have := t1.cell 1
      simpa [hg] using this
    cases hg : r2.good with
    | true =>
      have hok1 := hok _ hg
      have hr := Hres.out
      rw [if_pos hg] at hr
      subst hr
      clear hg hok
      gi_wp2_with (refine ⟨trivial, ?_⟩; gi_at_call 80; refine (callsIn_wide.2 (ok_some _ _ _ hok1)).mono ?_; rintro e w' ⟨rfl, rfl⟩)
      refine ⟨by simp, .inl ⟨_, _, rfl, run_takeDeferred hK, ?_⟩⟩
      have hq := Hq2.out
      subst hq
      exact ⟨_, results_tmp rfl _ _ _, A2, c2, rfl, hFin, hRo, hOo, fun j hj => by have := q4 j hj; omega⟩
    | false =>
      have hok1 := hok _ hg
      have hr := Hres.out
      rw [if_neg (by simp [hg])] at hr
      subst hr
      clear hg hok
      gi_wp2_with (refine ⟨trivial, ?_⟩; gi_at_call 80; refine (callsIn_wide.2 (ok_some _ _ _ hok1)).mono ?_; rintro e w' ⟨rfl, rfl⟩)
      refine ⟨by simp, .inl ⟨_, _, rfl, run_takeDeferred hK, ?_⟩⟩
      exact ⟨_, results_tmp rfl _ _ _, none, 0, rfl, hFin, hRo, Own.nil _ _ _, fun j hj => absurd hj (inB_none j)⟩
  case stop =>
    rintro c pre W _ h _
    exact h.elim
  case hSb =>
    rintro xs A B ⟨q1, q2⟩ hf
    exact ⟨q1, q2.fr hf fun j hj => by omega⟩
  case hSpb => exact fun _ _ _ h _ => h

theorem RIds_any (w : World) (F : Nat → Prop) (b : Nat) (r : Rd) (k : Int) (h : RdAt w F b r) (hk1 : k ≤ 9223372036854775807) (hroom : r.l.length ≤ 70368744177664) :
    Calls Try.prog 41 #[.pointer (some ⟨b, 0, none⟩), .int .i64 k] w fun e w' => ReadIds w w' e F b (r.Ids k) := by
  by_cases hk : k < 0
  · exact RIds_neg w F b r k h hk
  · obtain ⟨m, rfl⟩ := Int.eq_ofNat_of_zero_le (show 0 ≤ k by omega)
    exact RIds_pos w F b r m h (by omega) hroom
end

section
open Go.RowKit

/-- The document's reader at block b: its bytes lie in blocks of G. -/
def RfAt (w : World) (G : Nat → Prop) (b : Nat) (r : Rd) : Prop :=
  ¬ G b ∧ (r.good = false → r.l = []) ∧ ∃ A n c, Blk w b 59 #[.slice A n c, .bool (!r.good)] ∧ n ≤ c ∧ c ≤ maxLen ∧ Byt w G A n r.l

theorem RfAt.fr {w w' : World} {G S : Nat → Prop} {b : Nat} {r : Rd} (h : RfAt w G b r) (hf : Fr S w w') (hb : ¬ S b) (hd : ∀ k, G k → ¬ S k) : RfAt w' G b r := by
  obtain ⟨q0, q1, A, n, c, q2, q3, q4, q5⟩ := h
  exact ⟨q0, q1, A, n, c, q2.fr hf hb, q3, q4, q5.fr hf hd⟩
theorem RfAt.lt {w : World} {G : Nat → Prop} {b : Nat} {r : Rd} (h : RfAt w G b r) : b < w.heap.size := by
  obtain ⟨q0, q1, A, n, c, q2, q3, q4, q5⟩ := h
  exact q2.lt
theorem RfAt.cell1 {w : World} {G : Nat → Prop} {b : Nat} {r : Rd} (h : RfAt w G b r) : w.cell? ⟨b, 1, none⟩ = some (.bool (!r.good)) := by
  obtain ⟨q0, q1, A, n, c, q2, q3, q4, q5⟩ := h
  have := q2.cell 1
  simpa using this

set_option maxHeartbeats 400000 in
theorem rfail_any (w : World) (b : Nat) (v u : Value) (h : Blk w b 59 #[v, u]) :
    Calls Try.prog 86 #[.pointer (some ⟨b, 0, none⟩)] w fun e w' => e = .returned (.tuple #[]) ∧ w' = (w.setCell ⟨b, 0, none⟩ (.slice none 0 0)).setCell ⟨b, 1, none⟩ (.bool true) := by
  have h0 := h.cell 0
  have h1 := h.cell 1
  have f0 := h.frozen 0
  have f1 := h.frozen 1
  simp at h0 h1
  go_enter Try.func86, Try.ntmps86
  go_wp2
  go_end0
  exact ⟨rfl, rfl⟩

theorem rf_fail {w : World} {G : Nat → Prop} {b : Nat} {v u : Value} (hG : ¬ G b) (hB : Blk w b 59 #[v, u]) :
    Fr (· = b) w ((w.setCell ⟨b, 0, none⟩ (.slice none 0 0)).setCell ⟨b, 1, none⟩ (.bool true)) ∧ RfAt ((w.setCell ⟨b, 0, none⟩ (.slice none 0 0)).setCell ⟨b, 1, none⟩ (.bool true)) G b Rd.bad :=
  ⟨((Fr.refl _ _).at_ _ _).at_ _ _, hG, fun _ => rfl, none, 0, 0, by simpa using (hB.set_ 0 _).set_ 1 _, Nat.le_refl _, by simp [maxLen], Byt.nil _ _ _⟩
theorem rf_cut {w : World} {G : Nat → Prop} {b n c k : Nat} {A : Option Addr} {l : List UInt8} (hG : ¬ G b) (hB : Blk w b 59 #[.slice A n c, .bool false]) (hc : n ≤ c) (hm : c ≤ maxLen) (hl : Byt w G A n l) (hk : k ≤ n) :
    Fr (· = b) w (w.setCell ⟨b, 0, none⟩ (.slice (slA A k c 1) (n - k) (c - k))) ∧ RfAt (w.setCell ⟨b, 0, none⟩ (.slice (slA A k c 1) (n - k) (c - k))) G b ⟨l.drop k, true⟩ :=
  ⟨(Fr.refl _ _).at_ _ _, hG, (fun h => by cases h), _, _, _, by simpa using hB.set_ 0 _, by omega, by omega, (hl.cut hk hc).setCell hG _⟩

set_option maxHeartbeats 400000 in
theorem FEnd_any (w : World) (G : Nat → Prop) (b : Nat) (r : Rd) (h : RfAt w G b r) :
    Calls Try.prog 44 #[.pointer (some ⟨b, 0, none⟩)] w fun e w' => e = .returned (.int .i64 (Rd.End r)) ∧ w = w' := by
  have h1 := h.cell1
  obtain ⟨q0, q1, A, n, c, q2, q3, q4, q5⟩ := h
  obtain ⟨l, g⟩ := r
  have h0 := q2.cell_0
  have hlen := q5.len
  dsimp only at hlen
  subst hlen
  clear q2 q3 q4 q5 q0 q1
  cases g with
  | false =>
    go_enter Try.func44, Try.ntmps44
    go_wp2
    go_ret
    exact ⟨rfl, rfl⟩
  | true =>
    cases l with
    | nil =>
      go_enter Try.func44, Try.ntmps44
      go_wp2
      go_ret
      exact ⟨rfl, rfl⟩
    | cons x l =>
      go_enter Try.func44, Try.ntmps44
      go_wp2
      go_ret
      exact ⟨rfl, rfl⟩

/-- The document's reader behind a read that hands back a part of its bytes. -/
def FReadBytes (w w' : World) (e : Ending) (G : Nat → Prop) (b : Nat) (q : List UInt8 × Rd) : Prop :=
  ∃ A c, e = .returned (.slice A q.1.length c) ∧ Fr (· = b) w w' ∧ RfAt w' G b q.2 ∧ q.1.length ≤ c ∧ c ≤ maxLen ∧ Byt w' G A q.1.length q.1

set_option maxRecDepth 100000 in
set_option maxHeartbeats 1000000 in
theorem FRaw_any (w : World) (G : Nat → Prop) (b : Nat) (r : Rd) (k : Int) (h : RfAt w G b r) (hk0 : -9223372036854775808 ≤ k) (hk1 : k ≤ 9223372036854775807) :
    Calls Try.prog 37 #[.pointer (some ⟨b, 0, none⟩), .int .i64 k] w fun e w' => FReadBytes w w' e G b (r.Raw k) := by
  have h1 := h.cell1
  obtain ⟨q0, q1, A, n, c, hB, hc, hm, hl⟩ := h
  obtain ⟨l, g⟩ := r
  have h0 := hB.cell_0
  have f0 := hB.frozen 0
  have hlen := hl.len
  dsimp only at hlen h0 hl
  subst hlen
  have Hm := Lib.hid hm
  clear hm
  cases g with
  | false =>
    have e : Rd.Raw ⟨l, false⟩ k = ([], Rd.bad) := by simp [Rd.Raw]
    rw [e]
    clear e hl q1
    go_enter Try.func37, Try.ntmps37
    go_wp2_with (first | (go_at_call 86; refine (rfail_any _ _ _ _ hB).mono ?_; rintro e w' ⟨rfl, rfl⟩))
    go_ret
    obtain ⟨g1, g2⟩ := rf_fail q0 hB
    exact ⟨none, 0, rfl, g1, g2, Nat.le_refl _, by simp [maxLen], Byt.nil _ _ _⟩
  | true =>
    by_cases hk : 0 ≤ k ∧ k ≤ l.length
    · obtain ⟨ka, kb⟩ := hk
      obtain ⟨m, rfl⟩ := Int.eq_ofNat_of_zero_le ka
      have hml : m ≤ l.length := by omega
      have e : Rd.Raw ⟨l, true⟩ m = (l.take m, ⟨l.drop m, true⟩) := by simp [Rd.Raw, hml]
      rw [e]
      have ht := hl.take hml
      have hA : Hid ((l.take m).length = m) := by show _ = _; simp; omega
      clear e ka kb q1
      go_enter Try.func37, Try.ntmps37
      go_wp2
      go_ret
      obtain ⟨g1, g2⟩ := rf_cut q0 hB hc Hm.out hl hml
      refine ⟨A, c, ret_sl (by rw [hA.out]) rfl, g1, g2, by rw [hA.out]; omega, Hm.out, ?_⟩
      rw [hA.out]
      exact ht.setCell q0 _
    · have e : Rd.Raw ⟨l, true⟩ k = ([], Rd.bad) := by
        unfold Rd.Raw; rw [if_neg (fun h => hk h.2)]
      rw [e]
      clear e hl q1
      by_cases hk0 : 0 ≤ k
      · have hk2 : (l.length : Int) < k := by omega
        clear hk
        go_enter Try.func37, Try.ntmps37
        go_wp2_with (first | (go_at_call 86; refine (rfail_any _ _ _ _ hB).mono ?_; rintro e w' ⟨rfl, rfl⟩))
        go_ret
        obtain ⟨g1, g2⟩ := rf_fail q0 hB
        exact ⟨none, 0, rfl, g1, g2, Nat.le_refl _, by simp [maxLen], Byt.nil _ _ _⟩
      · have hk2 : k < 0 := by omega
        clear hk hk0
        go_enter Try.func37, Try.ntmps37
        go_wp2_with (first | (go_at_call 86; refine (rfail_any _ _ _ _ hB).mono ?_; rintro e w' ⟨rfl, rfl⟩))
        go_ret
        obtain ⟨g1, g2⟩ := rf_fail q0 hB
        exact ⟨none, 0, rfl, g1, g2, Nat.le_refl _, by simp [maxLen], Byt.nil _ _ _⟩
end
end Go.Proofs.Ytnkfchondedfcaa
