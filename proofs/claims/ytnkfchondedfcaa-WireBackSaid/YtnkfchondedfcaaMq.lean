/-
  A request that is filled field by field; what is read of bytes (plain). Conditions: each lemma states its own.
-/
import Derived.Test.YtnkfchondedfcaaMa
import Derived.Test.YtnkfchondedfcaaMe
namespace Go.Proofs.Ytnkfchondedfcaa
open Go.RowKit

def zeroReq : Req := ⟨0, 0, 0, 0, ⟨#[]⟩, zeroId, zeroId, 0, []⟩
theorem zeroReq_built : Try.prog.built 76 [] = some (reqCells zeroReq none 0 0).toArray := by kernel_rfl
theorem clientReq_built (v : Int) : Try.prog.built 76 [(0, .int .u32 v)] = some (([Value.int .u32 v, .int .u64 0, .int .i64 0, .int .u32 0, .string ⟨#[]⟩] : List Value) ++ (idCells zeroId ++ (idCells zeroId ++ ([.int .u64 0, .slice none 0 0] : List Value)))).toArray := by kernel_rfl
theorem clientReq_built' (v : Nat) : Try.prog.built 76 [(0, .int .u32 (v : Int))] = some (reqCells { zeroReq with client := v } none 0 0).toArray := clientReq_built v

section
variable {P : Program} {ops : Array Oper} {rest : List Oper} {o : Oper} {a : Act} {w : World} {Q : Exit → Act → World → Prop}
theorem wpList_build_eq (hg : o.guard = none) (t : TypeId) (parts : Array (Nat × Operand)) (ho : o.op = .build t parts) (ps : List (Nat × Value)) (hp : (parts.toList.map fun (i, x) => (i, a.eval x)) = ps) (cells : Array Value) (hb : P.built t ps = some cells)
    (h : wpList P ops Q rest (a.put o.dst (.agg cells)) w) : wpList P ops Q (o :: rest) a w := by
  have e : (parts.map fun (i, x) => (i, a.eval x)).toList = ps := by rw [← hp]; simp
  exact wpList_build hg t parts ho (by rw [e, hb]; rfl) (by rw [e, hb]; exact h)

theorem run_storeVar_seg (w : World) (g off : Nat) (t ty : TypeId) (old : Array Value) (cs : List Value) (hg : w.heap[g]? = some (.cells old t (0, 0))) (hi : (P.info? ty).map (·.size) = some cs.length)
    (ho : off + cs.length ≤ old.size) (h1 : ∀ v ∈ cs, v.oneCell' = true) :
    (storeVar ty ⟨g, off, none⟩ (.agg cs.toArray)).run P w = .ok () (w.setRow g (old.toList.take off ++ cs ++ old.toList.drop (off + cs.length)).toArray) := by
  have := run_storeCells_at P g off t cs 0 old w hg (by simpa using ho) h1
  cases hq : P.info? ty with
  | none => simp [hq] at hi
  | some i =>
    have hs : cs.length = i.size := by simp [hq] at hi; omega
    simp [storeVar, sizeOf, typeInfo, hq, Value.cells, hs] at this ⊢
    exact this

theorem wpList_store_seg (hgd : o.guard = none) (ty : TypeId) (x y : Operand) (ho : o.op = .store ty x y)
    (g off : Nat) (cs : List Value) (hx : a.eval x = .pointer (some ⟨g, off, none⟩)) (hy : a.eval y = .agg cs.toArray)
    (t : TypeId) (old : Array Value) (hg : Blk w g t old) (hi : (P.info? ty).map (·.size) = some cs.length) (hfit : off + cs.length ≤ old.size) (h1 : ∀ v ∈ cs, v.oneCell' = true)
    (h : wpList P ops Q rest (a.put o.dst undef) (w.setRow g (old.toList.take off ++ cs ++ old.toList.drop (off + cs.length)).toArray)) : wpList P ops Q (o :: rest) a w := by
  refine wpList_plain hgd fun _ hK => ?_
  unfold Oper.wp execOp
  simp only [ho, hx, hy, Instr.storeAt, Instr.sureAddr, Sem.run_bind, Sem.run_pure, Result.andThen_ok, run_storeVar_seg w g off t ty old cs hg hi hfit h1]
  exact hK _ _ h
end

section
variable {w : World} {g : Nat} {r : Req} {A : Option Addr} {n c : Nat}
theorem ReqBlk.s1 (h : ReqBlk w g r A n c) (v : Nat) : ReqBlk (w.setCell ⟨g, 1, none⟩ (.int .u64 v)) g { r with seq := v } A n c := ⟨by simpa [reqCells] using h.blk.set_ 1 (.int .u64 v)⟩
theorem ReqBlk.s2 (h : ReqBlk w g r A n c) (v : Int) : ReqBlk (w.setCell ⟨g, 2, none⟩ (.int .i64 v)) g { r with kind := v } A n c := ⟨by simpa [reqCells] using h.blk.set_ 2 (.int .i64 v)⟩
theorem ReqBlk.s3 (h : ReqBlk w g r A n c) (v : Nat) : ReqBlk (w.setCell ⟨g, 3, none⟩ (.int .u32 v)) g { r with tenant := v } A n c := ⟨by simpa [reqCells] using h.blk.set_ 3 (.int .u32 v)⟩
theorem ReqBlk.s4 (h : ReqBlk w g r A n c) (v : ByteArray) : ReqBlk (w.setCell ⟨g, 4, none⟩ (.string v)) g { r with name := v } A n c := ⟨by simpa [reqCells] using h.blk.set_ 4 (.string v)⟩
theorem set_far {α : Type} (a b : List α) (i : Nat) (v : α) (h : a.length ≤ i) : (a ++ b).set i v = a ++ b.set (i - a.length) v := List.set_append_right i v h
theorem reqCells_set69 (v : Nat) : (reqCells r A n c).set 69 (.int .u64 v) = reqCells { r with n := v } A n c := by
  unfold reqCells
  rw [set_far _ _ _ _ (by simp), set_far _ _ _ _ (by simp [idCells_len]), set_far _ _ _ _ (by simp [idCells_len])]
  simp [idCells_len]
theorem reqCells_set70 (l : List UInt8) (A' : Option Addr) (n' c' : Nat) : (reqCells r A n c).set 70 (.slice A' n' c') = reqCells { r with body := l } A' n' c' := by
  unfold reqCells
  rw [set_far _ _ _ _ (by simp), set_far _ _ _ _ (by simp [idCells_len]), set_far _ _ _ _ (by simp [idCells_len])]
  simp [idCells_len]
theorem ReqBlk.s69 (h : ReqBlk w g r A n c) (v : Nat) : ReqBlk (w.setCell ⟨g, 69, none⟩ (.int .u64 v)) g { r with n := v } A n c := ⟨by
  have := h.blk.set_ 69 (.int .u64 v)
  rw [List.setIfInBounds_toArray, reqCells_set69] at this
  exact this⟩
theorem ReqBlk.s70 (h : ReqBlk w g r A n c) (l : List UInt8) (A' : Option Addr) (n' c' : Nat) : ReqBlk (w.setCell ⟨g, 70, none⟩ (.slice A' n' c')) g { r with body := l } A' n' c' := ⟨by
  have := h.blk.set_ 70 (.slice A' n' c')
  rw [List.setIfInBounds_toArray, reqCells_set70 l] at this
  exact this⟩
theorem reqCells_id (x : Id32) : (reqCells r A n c).take 5 ++ idCells x ++ (reqCells r A n c).drop (5 + 32) = reqCells { r with id := x } A n c := by
  unfold reqCells
  rw [List.take_left' (by rfl)]
  rw [show 5 + 32 = [Value.int .u32 r.client, .int .u64 r.seq, .int .i64 r.kind, .int .u32 r.tenant, .string r.name].length + 32 from rfl, List.drop_append, List.drop_eq_nil_of_le (by simp), List.nil_append]
  rw [Nat.add_sub_cancel_left, List.drop_left' (idCells_len r.id)]
  simp
theorem reqCells_old (x : Id32) : (reqCells r A n c).take 37 ++ idCells x ++ (reqCells r A n c).drop (37 + 32) = reqCells { r with old := x } A n c := by
  have e : reqCells r A n c = ([Value.int .u32 r.client, .int .u64 r.seq, .int .i64 r.kind, .int .u32 r.tenant, .string r.name] ++ idCells r.id) ++ (idCells r.old ++ [.int .u64 r.n, .slice A n c]) := by unfold reqCells; simp
  have hl : ([Value.int .u32 r.client, .int .u64 r.seq, .int .i64 r.kind, .int .u32 r.tenant, .string r.name] ++ idCells r.id).length = 37 := by simp [idCells_len]
  rw [e, List.take_left' hl, show 37 + 32 = ([Value.int .u32 r.client, .int .u64 r.seq, .int .i64 r.kind, .int .u32 r.tenant, .string r.name] ++ idCells r.id).length + 32 by rw [hl], List.drop_append, List.drop_eq_nil_of_le (by omega), List.nil_append, Nat.add_sub_cancel_left, List.drop_left' (idCells_len r.old)]
  unfold reqCells
  simp
theorem ReqBlk.sid (h : ReqBlk w g r A n c) (x : Id32) : ReqBlk (w.setRow g ((reqCells r A n c).toArray.toList.take 5 ++ idCells x ++ (reqCells r A n c).toArray.toList.drop (5 + (idCells x).length)).toArray) g { r with id := x } A n c := ⟨by
  have := (setRow_fr (ds := ((reqCells r A n c).toArray.toList.take 5 ++ idCells x ++ (reqCells r A n c).toArray.toList.drop (5 + (idCells x).length)).toArray) h.blk).2
  rw [idCells_len] at this ⊢
  simp only at this ⊢
  rw [reqCells_id] at this ⊢
  exact this⟩
theorem ReqBlk.sold (h : ReqBlk w g r A n c) (x : Id32) : ReqBlk (w.setRow g ((reqCells r A n c).toArray.toList.take 37 ++ idCells x ++ (reqCells r A n c).toArray.toList.drop (37 + (idCells x).length)).toArray) g { r with old := x } A n c := ⟨by
  have := (setRow_fr (ds := ((reqCells r A n c).toArray.toList.take 37 ++ idCells x ++ (reqCells r A n c).toArray.toList.drop (37 + (idCells x).length)).toArray) h.blk).2
  rw [idCells_len] at this ⊢
  simp only at this ⊢
  rw [reqCells_old] at this ⊢
  exact this⟩
end

/-- What is read of bytes as a request: step by step. -/
structure ReqSteps (r0 : Rd) (q : Req) (r9 : Rd) where
  r1 : Rd
  r2 : Rd
  r3 : Rd
  r4 : Rd
  r5 : Rd
  r6 : Rd
  r7 : Rd
  r8 : Rd
  h1 : r0.N 4294967295 = (q.client, r1)
  h2 : r1.N 18446744073709551615 = (q.seq, r2)
  kd : Nat
  hk : q.kind = kd
  h3 : r2.N 10 = (kd, r3)
  h4 : r3.N 4294967295 = (q.tenant, r4)
  h5 : r4.Text 64 = (q.name.data.toList, r5)
  i6 : List UInt8
  h6 : r5.Raw 32 = (i6, r6)
  e6 : q.id = idOf i6
  i7 : List UInt8
  h7 : r6.Raw 32 = (i7, r7)
  e7 : q.old = idOf i7
  h8 : r7.N 18446744073709551615 = (q.n, r8)
  h9 : r8.Text 110000 = (q.body, r9)
def reqParse (r0 : Rd) : Req × Rd :=
  let q1 := r0.N 4294967295
  let q2 := q1.2.N 18446744073709551615
  let q3 := q2.2.N 10
  let q4 := q3.2.N 4294967295
  let q5 := q4.2.Text 64
  let q6 := q5.2.Raw 32
  let q7 := q6.2.Raw 32
  let q8 := q7.2.N 18446744073709551615
  let q9 := q8.2.Text 110000
  (⟨q1.1, q2.1, q3.1, q4.1, ⟨q5.1.toArray⟩, idOf q6.1, idOf q7.1, q8.1, q9.1⟩, q9.2)
theorem ReqSteps.eq {r0 r9 : Rd} {q : Req} (s : ReqSteps r0 q r9) : reqParse r0 = (q, r9) := by
  obtain ⟨r1, r2, r3, r4, r5, r6, r7, r8, h1, h2, kd, hk, h3, h4, h5, i6, h6, e6, i7, h7, e7, h8, h9⟩ := s
  unfold reqParse
  simp only [h1, h2, h3, h4, h5, h6, h7, h8, h9, ← e6, ← e7, ← hk, Array.toArray_toList]
/-- The request that bytes are; whether they are one. -/
def reqIs (l : List UInt8) : Bool := match l with | [] => false | c :: t => decide (c.toNat = 1) && (decide (Rd.End (reqParse ⟨t, true⟩).2 = 0) && reqAsks (reqParse ⟨t, true⟩).1)
def reqOf (l : List UInt8) : Req := if reqIs l = true then (reqParse ⟨l.tail, true⟩).1 else zeroReq
def reqBad (l : List UInt8) : Int := if reqIs l = true then 0 else 180

/-- A request and an error's number are handed back. -/
def GotReq (w w' : World) (e : Ending) (r : Req) (bad : Int) : Prop :=
  ∃ y, e = .returned (.tuple #[.agg y.toArray, .int .i64 bad]) ∧ Fr NoB w w' ∧ ReqR w' (fun k => w.heap.size ≤ k) y r
theorem GotReq.zero {w w' : World} (h : Fr NoB w w') : GotReq w w' (.returned (.tuple #[.agg (reqCells zeroReq none 0 0).toArray, .int .i64 180])) zeroReq 180 :=
  ⟨_, rfl, h, none, 0, 0, rfl, Nat.le_refl _, by simp [maxLen], Byt.nil _ _ _, by unfold reqWf; simp [zeroReq, maxLen]; decide⟩
section
variable {P : Program}
theorem results_cell2 {fn : Func} {t t2 : Tmp} {ty : TypeId} {tmps : Array Value} {w : World} {g : Nat} {cs : List Value} {d : TypeDesc} (h : fn.results = #[.cell t ty, .tmp t2]) (ht : tmps.getD t undef = .pointer (some ⟨g, 0, none⟩))
    (hc : ∀ j v, cs[j]? = some v → w.cell? ⟨g, 0 + j, none⟩ = some v) (hu : P.underlying ty = some d) (hd : d.isRow = true) (hi : (P.info? ty).map (·.size) = some cs.length) :
    (results fn tmps).run P w = .ok (.tuple #[.agg cs.toArray, tmps.getD t2 undef]) w := by
  have hl := run_loadVar_mid (P := P) w g 0 ty cs d hc hu hd hi
  have ht' : tmps[t]?.getD undef = .pointer (some ⟨g, 0, none⟩) := by simpa using ht
  simp [results, h, ht', hl, asAddr]
end
end Go.Proofs.Ytnkfchondedfcaa
