/-
  Arrays of bytes held against each other. Conditions: each lemma states its own.
-/
import Derived.Test.YtnplamcajjblkaaGreatRg
import Derived.Stop.BytesEq
import Derived.Deep.QuietTactic
import Derived.BigQuiet
namespace Go.Proofs.YtnplamcajjblkaaGreat
open Go.RowKit

section
variable {P : Program} {ops : Array Oper} {rest : List Oper} {o : Oper} {a : Act} {w : World} {Q : Exit → Act → World → Prop}

theorem bv_cell : bv = Extern.Stop.cell := rfl

theorem exec_eql_arr (t e t' : TypeId) (n : Nat) (x y : Operand) (ho : o.op = .binOp .eql t x y t') (ht : P.underlying t = some (.array n e)) (he : P.underlying e = some (.int .u8)) (hsz : ∀ w, (sizeOf e).run P w = .ok 1 w) (hm : P.eqGuardType P.depth t = false)
    (xs ys : List UInt8) (hx : a.eval x = .agg (xs.map bv).toArray) (hy : a.eval y = .agg (ys.map bv).toArray) (hxl : xs.length = n) (hyl : ys.length = n) :
    (execOp a.eval o).run P w = .ok (.value (.bool (xs == ys))) w := by
  unfold execOp
  simp only [ho, hx, hy, Sem.run_bind, run_eqGuard_agg w _ _ _ _ _ _ hm, Result.andThen_ok, run_eql_struct, bv_cell, run_equalIn_bytes w 9998 t e n ht he hsz xs ys hxl hyl, Sem.run_pure]
theorem exec_neq_arr (t e t' : TypeId) (n : Nat) (x y : Operand) (ho : o.op = .binOp .neq t x y t') (ht : P.underlying t = some (.array n e)) (he : P.underlying e = some (.int .u8)) (hsz : ∀ w, (sizeOf e).run P w = .ok 1 w) (hm : P.eqGuardType P.depth t = false)
    (xs ys : List UInt8) (hx : a.eval x = .agg (xs.map bv).toArray) (hy : a.eval y = .agg (ys.map bv).toArray) (hxl : xs.length = n) (hyl : ys.length = n) :
    (execOp a.eval o).run P w = .ok (.value (.bool (!(xs == ys)))) w := by
  unfold execOp
  simp only [ho, hx, hy, Sem.run_bind, run_eqGuard_agg w _ _ _ _ _ _ hm, Result.andThen_ok, run_neq_struct, bv_cell, run_equalIn_bytes w 9998 t e n ht he hsz xs ys hxl hyl, Sem.run_pure]
/-- An operation of a region that draws its order and only reads. -/
theorem wpQuiet_run {C : World → Prop} {Qq : Act → Prop} {v : Value} (hw : Region.wanted o (yielded ops a.tmps) = true) (hr : ∀ w, C w → (execOp a.eval o).run P w = .ok (.value v) w) (h : wpQuiet P ops C Qq rest (a.put o.dst v)) : wpQuiet P ops C Qq (o :: rest) a := by
  unfold wpQuiet
  rw [if_pos hw]
  exact ⟨v, fun w hC => by unfold Oper.quietAt; rw [hr w hC]; exact ⟨rfl, rfl⟩, h⟩
theorem wpQuiet_load_agg {Qq : Act → Prop} (hw : Region.wanted o (yielded ops a.tmps) = true) (ty : TypeId) (x : Operand) (ho : o.op = .load ty x) (b off : Nat) (hx : a.eval x = .pointer (some ⟨b, off, none⟩)) (y : List Value) (d : TypeDesc) (hc : ∀ j u, y[j]? = some u → w.cell? ⟨b, off + j, none⟩ = some u)
    (hu : P.underlying ty = some d) (hd : (match d with | .struct _ | .array _ _ => true | _ => false) = true) (hi : (P.info? ty).map (·.size) = some y.length)
    (h : wpQuiet P ops (fun w' => ∃ n, w' = w.drewN n) Qq rest (a.put o.dst (.agg y.toArray))) : wpQuiet P ops (fun w' => ∃ n, w' = w.drewN n) Qq (o :: rest) a :=
  wpQuiet_run hw (fun w' ⟨n, hn⟩ => by subst hn; exact exec_load_agg ty x ho b off hx y d hc hu hd hi) h
end
end Go.Proofs.YtnplamcajjblkaaGreat
