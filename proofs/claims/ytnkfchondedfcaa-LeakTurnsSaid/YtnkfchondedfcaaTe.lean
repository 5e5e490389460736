/-
  Ops that are the same (tabulariumref29.SameOps), where they are. Conditions: each contract states its own.
-/
import Derived.Test.YtnkfchondedfcaaTc
import Derived.Test.YtnkfchondedfcaaWi
namespace Go.Proofs.Ytnkfchondedfcaa
open Go.RowKit

theorem op_guard : Try.prog.eqGuardType Try.prog.depth 34 = false := by kernel_rfl
theorem op_stood : Try.prog.stoodInHeld 34 = false := by kernel_rfl
set_option maxRecDepth 100000 in
theorem op_equal (w : World) (q : Opn) : (Op.equalIn 10000 34 (.agg (opCells q).toArray) (.agg (opCells q).toArray)).run Try.prog w = .ok true w := by
  rw [show (10000 : Nat) = 9999 + 1 from rfl, run_equalIn_agg w 9999 34 _ _ (by kernel_rfl) op_stood]
  unfold opCells
  go_simp
theorem exec_neq_op {o : Oper} {a : Act} {w : World} (t' : TypeId) (x y : Operand) (ho : o.op = .binOp .neq 34 x y t') (q : Opn) (hx : a.eval x = .agg (opCells q).toArray) (hy : a.eval y = .agg (opCells q).toArray) :
    (execOp a.eval o).run Try.prog w = .ok (.value (.bool false)) w := by
  unfold execOp
  simp only [ho, hx, hy, Sem.run_bind, run_eqGuard_agg w _ _ _ _ _ _ op_guard, Result.andThen_ok, run_neq_struct, op_equal, Sem.run_pure, Bool.not_true]

set_option maxRecDepth 100000 in
set_option maxHeartbeats 1000000 in
theorem SameOps_true (w : World) (G1 G2 : Nat → Prop) (A B : Option Addr) (n c d : Nat) (l : List Opn) (hx : Opns w G1 A n l) (hy : Opns w G2 B n l) (hn : n ≤ 9223372036854775807) :
    Calls Try.prog 23 #[.slice A n c, .slice B n d] w fun e w' => e = .returned (.bool true) ∧ ∃ q, w' = w.drewN q := by
  have hxl := hx.len
  have Hxl := Lib.hid hxl
  clear hxl
  go_enter Try.func23, Try.ntmps23
  go_wp2
  go_loopw [13] (fun i wr => ∃ k q : Nat, k ≤ n ∧ i = .int .i64 k ∧ wr = w.drewN q) (fun i _ => n - (intOf i).toNat)
  case atStart => exact ⟨0, 0, by omega, rfl, rfl⟩
  case round =>
    obtain ⟨k, q, hk, rfl, hwr⟩ := hrel
    have hxr : Opns wr G1 A n l := by rw [hwr]; exact hx
    have hyr : Opns wr G2 B n l := by rw [hwr]; exact hy
    have Hwr := Lib.hid hwr
    clear hwr
    by_cases hkn : k < n
    · obtain ⟨b1, o1, x, y1, rfl, _, gx, ly1, hr1, hc1⟩ := hxr.at_ hkn
      obtain ⟨b2, o2, y, y2, rfl, _, gy, ly2, hr2, hc2⟩ := hyr.at_ hkn
      obtain rfl : x = y := by rw [gx] at gy; injection gy
      obtain ⟨rfl, _⟩ := hr1
      obtain ⟨rfl, _⟩ := hr2
      clear gx gy ly1 ly2
      have Hl : Hid ((opCells x).length = 7) := rfl
      generalize hoc : opCells x = oc at hc1 hc2 Hl
      have Hoc := Lib.hid hoc
      clear hoc
      go_wp2
      refine wp_region_quiet_lit (by kernel_rfl) (by kernel_rfl) ?_
      repeat (first
        | (refine wpQuiet_load_agg rfl 34 (.tmp 18) rfl b1 (o1 + k * 7) rfl oc _ hc1 Try.underlying34 rfl (by rw [Hl.out]; exact op_size) ?_; go_simp)
        | (refine wpQuiet_load_agg rfl 34 (.tmp 22) rfl b2 (o2 + k * 7) rfl oc _ hc2 Try.underlying34 rfl (by rw [Hl.out]; exact op_size) ?_; go_simp)
        | (refine wpQuiet_run rfl (fun _ _ => exec_neq_op 34 (.tmp 19) (.tmp 23) rfl x (by rw [Hoc.out]; rfl) (by rw [Hoc.out]; rfl)) ?_; go_simp)
        | go_big_quiet_step (fail))
      refine wpQuiet_nil ?_
      intro nq
      go_wp2
      go_roundw
      case rel => exact ⟨k + 1, _, by omega, by go_num, by rw [Hwr.out, World.drewN_drewN]⟩
      case measure => (simp [intOf] <;> omega)
    · have hke : k = n := by omega
      subst hke
      go_wp2
      go_ret
      exact ⟨rfl, _, Hwr.out⟩
end Go.Proofs.Ytnkfchondedfcaa
