/-
  Refs held against each other; chapter 34's example and small bundles. Conditions: each contract states its own.
-/
import Derived.Test.YtnkfchondedfcaaVf
import Derived.Test.YtnkfchondedfcaaEd
namespace Go.Proofs.Ytnkfchondedfcaa
open Go.RowKit

theorem ref_guard : Try.prog.eqGuardType Try.prog.depth 162 = false := by kernel_rfl
theorem ref_stood : Try.prog.stoodInHeld 162 = false := by kernel_rfl
theorem ref_fields0 : (Try.prog.fieldsOf 162).toList.map (fun f => (f.type, f.offset, f.name == "_")) = [(9, 0, false), (74, 1, false)] := by kernel_rfl
theorem ref_fields : ∃ f1 f2 : Field, (Try.prog.fieldsOf 162).toList = [f1, f2] ∧ f1.type = 9 ∧ f1.offset = 0 ∧ ¬ f1.name = "_" ∧ f2.type = 74 ∧ f2.offset = 1 ∧ ¬ f2.name = "_" := by
  have h := ref_fields0
  generalize (Try.prog.fieldsOf 162).toList = fs at h
  cases fs with
  | nil => cases h
  | cons f1 t =>
    cases t with
    | nil => simp at h
    | cons f2 t =>
      cases t with
      | cons f3 t => simp at h
      | nil =>
        simp only [List.map_cons, List.map_nil, List.cons.injEq, Prod.mk.injEq, and_true] at h
        exact ⟨f1, f2, rfl, h.1.1, h.1.2.1, by simpa using h.1.2.2, h.2.1, h.2.2.1, by simpa using h.2.2.2⟩
set_option maxRecDepth 100000 in
theorem part_name (w : World) (x : Ref) : (part 9 (refCells x).toArray 0).run Try.prog w = .ok (.string x.name) w := by
  unfold refCells
  go_simp
set_option maxRecDepth 100000 in
theorem part_id (w : World) (x : Ref) : (part 74 (refCells x).toArray 1).run Try.prog w = .ok (.agg (idCells x.id).toArray) w := by
  unfold part
  go_simp
  rw [refCells, List.tail_cons, List.take_of_length_le (by rw [idCells_len]; exact Nat.le_refl _)]
theorem ref_equal (w : World) (x y : Ref) : (Op.equalIn 10000 162 (.agg (refCells x).toArray) (.agg (refCells y).toArray)).run Try.prog w = .ok (decide (x = y)) w := by
  obtain ⟨f1, f2, hf, h1, h2, h3, h4, h5, h6⟩ := ref_fields
  rw [show (10000 : Nat) = 9999 + 1 from rfl, run_equalIn_agg w 9999 162 _ _ (by kernel_rfl) ref_stood, hf]
  have hid : (Op.equalIn 9999 74 (.agg (idCells x.id).toArray) (.agg (idCells y.id).toArray)).run Try.prog w = .ok (x.id.1 == y.id.1) w := by
    rw [show (9999 : Nat) = 9997 + 2 from rfl]
    unfold idCells
    rw [bv_cell]
    exact run_equalIn_bytes w 9997 74 5 32 Try.underlying74 Try.underlying5 u8_size x.id.1 y.id.1 x.id.2 y.id.2
  have hnm : (Op.equalIn 9999 9 (.string x.name) (.string y.name)).run Try.prog w = .ok (x.name.toList == y.name.toList) w := by
    rw [show (9999 : Nat) = 9998 + 1 from rfl]
    exact run_equalIn_string w 9998 9 x.name y.name Try.underlying9
  simp only [Op.eqFields, h1, h2, h3, h4, h5, h6, ne_eq, not_false_eq_true, if_true, Sem.run_bind, part_name, Result.andThen_ok, hnm]
  have hnn : x.name.toList = y.name.toList ↔ x.name = y.name := ⟨fun h => by
    rw [ByteArray.toList_eq, ByteArray.toList_eq] at h
    exact ByteArray.ext (Array.toList_inj.1 h), fun h => by rw [h]⟩
  have e : decide (x = y) = ((x.name.toList == y.name.toList) && (x.id.1 == y.id.1)) := by
    obtain ⟨xn, xi⟩ := x
    obtain ⟨yn, yi⟩ := y
    rw [Bool.eq_iff_iff]
    simp only [decide_eq_true_eq, Ref.mk.injEq, Bool.and_eq_true, beq_iff_eq]
    exact ⟨fun h => ⟨hnn.2 h.1, by rw [h.2]⟩, fun h => ⟨hnn.1 h.1, Subtype.ext h.2⟩⟩
  rw [e]
  cases hb1 : (x.name.toList == y.name.toList) <;> cases hb2 : (x.id.1 == y.id.1) <;> simp [Sem.run_pure, part_id, hid, hb2]
theorem exec_neq_ref {o : Oper} {a : Act} {w : World} (t' : TypeId) (x y : Operand) (ho : o.op = .binOp .neq 162 x y t') (p q : Ref) (hx : a.eval x = .agg (refCells p).toArray) (hy : a.eval y = .agg (refCells q).toArray) :
    (execOp a.eval o).run Try.prog w = .ok (.value (.bool (!decide (p = q)))) w := by
  unfold execOp
  simp only [ho, hx, hy, Sem.run_bind, run_eqGuard_agg w _ _ _ _ _ _ ref_guard, Result.andThen_ok, run_neq_struct, ref_equal, Sem.run_pure]
theorem exec_eql_ref {o : Oper} {a : Act} {w : World} (t' : TypeId) (x y : Operand) (ho : o.op = .binOp .eql 162 x y t') (p q : Ref) (hx : a.eval x = .agg (refCells p).toArray) (hy : a.eval y = .agg (refCells q).toArray) :
    (execOp a.eval o).run Try.prog w = .ok (.value (.bool (decide (p = q)))) w := by
  unfold execOp
  simp only [ho, hx, hy, Sem.run_bind, run_eqGuard_agg w _ _ _ _ _ _ ref_guard, Result.andThen_ok, run_eql_struct, ref_equal, Sem.run_pure]

theorem bunOut_zero : bunOut zeroBun = [0, 0] ∧ bunErr zeroBun = 0 := by
  have hm : bunMay zeroBun = true := by simp [bunMay, zeroBun, namedP, risingF]
  have e0 : encN 0 = [0] := by rw [encN_small (by omega)]; rfl
  constructor
  · rw [bunOut, if_pos hm, bunBytes]
    show encN 0 ++ ([] ++ (encN 0 ++ [])) = _
    rw [e0]; rfl
  · rw [bunErr, if_pos hm]
theorem zeroBun_r (w : World) : BunR w (fun _ => False) (bunCells none 0 0 none 0 0) zeroBun := ⟨none, 0, 0, none, 0, 0, rfl, Nat.le_refl _, by simp [maxLen], ArrOf.none_ _ _ _ _ _, Nat.le_refl _, by simp [maxLen], ArrOf.none_ _ _ _ _ _⟩

set_option maxRecDepth 100000 in
set_option maxHeartbeats 1000000 in
theorem awake34 (w : World) : Calls Try.prog 64 #[] w fun e w' => e = .returned (.bool true) ∧ Fr NoB w w' := by
  have hcall := bunPut_any w _ _ zeroBun (zeroBun_r w) (fun k h => h.elim) (by simp [zeroBun]) (by simp [zeroBun])
  rw [bunOut_zero.1, bunOut_zero.2] at hcall
  have Hcall := Lib.hid hcall
  have Hb := Lib.hid zeroBun_built
  clear hcall
  go_enter Try.func64, Try.ntmps64
  go_wp2_with (first
    | (refine wpList_build_eqE rfl 112 #[] rfl [] rfl _ Hb.out ?_)
    | (go_at_call 66
       refine Hcall.out.mono ?_
       rintro e w1 ⟨A, c, rfl, hf1, hO, hin⟩
       rw [List.length_cons, List.length_cons, List.length_nil]
       have hb : Byt w1 (fun _ => True) A 2 [0, 0] := hO.arr fun _ _ _ => trivial
       obtain ⟨b1, o1, rfl, _, h0⟩ := hb.at_ (k := 0) (by omega)
       obtain ⟨b2, o2, he, _, h1⟩ := hb.at_ (k := 1) (by omega)
       injection he with he
       injection he with he1 he2
       subst he1 he2
       have h0' : w1.cell? ⟨b1, o1, none⟩ = some (.int .u8 0) := h0
       have h1' : w1.cell? ⟨b1, o1 + 1, none⟩ = some (.int .u8 0) := h1))
  go_ret
  exact ⟨rfl, hf1⟩
end Go.Proofs.Ytnkfchondedfcaa
