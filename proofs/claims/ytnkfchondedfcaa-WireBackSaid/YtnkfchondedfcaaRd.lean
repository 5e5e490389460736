/-
  Laws at one operation that is told by its slot. Conditions: each lemma states its own.
-/
import Derived.Test.YtnkfchondedfcaaWi
namespace Go.Proofs.Ytnkfchondedfcaa
open Go.RowKit

section
variable {P : Program} {ops : Array Oper} {rest : List Oper} {o : Oper} {a : Act} {w w' : World} {Q : Exit → Act → World → Prop} {v : Value}

/-- It is the operation that fills slot d. -/
theorem wpList_isD (d : Nat) (_hd : o.dst = some d) (h : wpList P ops Q (o :: rest) a w) : wpList P ops Q (o :: rest) a w := h
/-- The operation that fills slot d runs. -/
theorem wpList_runD (d : Nat) (_hd : o.dst = some d) (hw : Region.wanted o (yielded ops a.tmps) = true) (hr : (execOp a.eval o).run P w = .ok (.value v) w')
    (h : wpList P ops Q rest (a.put o.dst v) w') : wpList P ops Q (o :: rest) a w := wpList_run hw hr h
/-- The operation that fills slot d loads a struct or an array. -/
theorem wpList_load_aggD (d : Nat) (_hd : o.dst = some d) (ty : TypeId) (x : Operand) (ho : o.op = .load ty x) (b off : Nat) (hx : a.eval x = .pointer (some ⟨b, off, none⟩)) (hw : Region.wanted o (yielded ops a.tmps) = true) (y : List Value) (t : TypeDesc) (hc : ∀ j u, y[j]? = some u → w.cell? ⟨b, off + j, none⟩ = some u)
    (hu : P.underlying ty = some t) (hd : (match t with | .struct _ | .array _ _ => true | _ => false) = true) (hi : (P.info? ty).map (·.size) = some y.length)
    (h : wpList P ops Q rest (a.put o.dst (.agg y.toArray)) w) : wpList P ops Q (o :: rest) a w :=
  wpList_run hw (exec_load_agg ty x ho b off hx y t hc hu hd hi) h
/-- The operation that fills slot d holds two arrays of bytes against each other. -/
theorem wpList_eql_arrD (d : Nat) (_hd : o.dst = some d) (t e t' : TypeId) (n : Nat) (x y : Operand) (ho : o.op = .binOp .eql t x y t') (hw : Region.wanted o (yielded ops a.tmps) = true) (ht : P.underlying t = some (.array n e)) (he : P.underlying e = some (.int .u8)) (hsz : ∀ w, (sizeOf e).run P w = .ok 1 w) (hm : P.eqGuardType P.depth t = false)
    (xs ys : List UInt8) (hx : a.eval x = .agg (xs.map bv).toArray) (hy : a.eval y = .agg (ys.map bv).toArray) (hxl : xs.length = n) (hyl : ys.length = n) (r : Bool) (hr : (xs == ys) = r)
    (h : wpList P ops Q rest (a.put o.dst (.bool r)) w) : wpList P ops Q (o :: rest) a w := by
  subst hr
  exact wpList_run hw (exec_eql_arr t e t' n x y ho ht he hsz hm xs ys hx hy hxl hyl) h
end
end Go.Proofs.Ytnkfchondedfcaa
