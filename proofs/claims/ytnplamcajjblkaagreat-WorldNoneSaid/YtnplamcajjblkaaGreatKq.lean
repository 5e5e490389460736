/-
  What a suite draws (tape.Key, suite.Draw). Conditions: each contract states its own.
-/
import Derived.Test.YtnplamcajjblkaaGreatKp
namespace Go.Proofs.YtnplamcajjblkaaGreat
open Go.RowKit

section
variable {P : Program} {ops : Array Oper} {rest : List Oper} {o : Oper} {a : Act} {w : World} {Q : Exit → Act → World → Prop}
theorem exec_s2aK (ty : TypeId) (x : Operand) (ho : o.op = .sliceToArrayPointer ty x) (A : Option Addr) (m c n : Nat) (e : TypeId) (hx : a.eval x = .slice A m c) (hu : P.underlying ty = some (.array n e)) (hn : n ≤ m) :
    (execOp a.eval o).run P w = .ok (.value (.pointer A)) w := by
  unfold execOp
  simp only [ho, hx, Instr.arrayAt, Sem.run_bind, run_underlying hu, Result.andThen_ok, if_neg (Nat.not_lt.2 hn), Sem.run_pure]
theorem wpList_s2aK (hgd : o.guard = none) (ty : TypeId) (x : Operand) (ho : o.op = .sliceToArrayPointer ty x) (A : Option Addr) (m c n : Nat) (e : TypeId) (hx : a.eval x = .slice A m c) (hu : P.underlying ty = some (.array n e)) (hn : n ≤ m)
    (h : wpList P ops Q rest (a.put o.dst (.pointer A)) w) : wpList P ops Q (o :: rest) a w :=
  wpList_run (by simp [Region.wanted, hgd]) (exec_s2aK ty x ho A m c n e hx hu hn) h
end
theorem key_zeroK : ((Tryz.prog.info? 96).bind (·.zero)).map (·.cells) = some ((List.replicate 32 (0 : UInt8)).map bv).toArray := by kernel_rfl
theorem key_sizeK : (Tryz.prog.info? 96).map (·.size) = some 32 := by kernel_rfl
set_option maxRecDepth 100000 in
set_option maxHeartbeats 2000000 in
theorem tapeKey_any (w : World) (t : Nat) (F : Nat → Prop) (A : Option Addr) (n c : Nat) (l : List UInt8) (h : TapeAt w t F A n c l) (hF : ∀ k, F k → k < w.heap.size ∧ k ≠ t) (hm : 32 ≤ n) (hn : n ≤ 1000000) :
    Calls Tryz.prog 84 #[.pointer (some ⟨t, 0, none⟩)] w fun e w' => e = .returned (.tuple #[.agg ((l.take 32).map bv).toArray, .int .i64 0]) ∧ TapeAt w' t F (slA A 32 c 1) (n - 32) (c - 32) (l.drop 32) ∧ Fr (· = t) w w' := by
  obtain ⟨zs, hzs⟩ : ∃ zs, zs = (List.replicate 32 (0 : UInt8)).map bv := ⟨_, rfl⟩
  have Hz : Hid (((Tryz.prog.info? 96).bind (·.zero)).map (·.cells) = some zs.toArray) := by show _ = _; rw [hzs]; exact key_zeroK
  have Hzl : Hid (zs.toArray.size = 32) := by show _ = _; rw [hzs]; simp
  obtain ⟨B, hB⟩ : ∃ B, B = w.heap.size := ⟨_, rfl⟩
  obtain ⟨w2, hw2⟩ : ∃ w2, w2 = w.alloc (.cells zs.toArray 96) := ⟨_, rfl⟩
  have hf2 : Fr NoB w w2 := by rw [hw2]; exact (Fr.refl _ _).alloc _
  have hY : Blk w2 B 96 zs.toArray := by rw [hw2, hB]; exact Blk.new _ _ _
  have s2 : w2.heap.size = B + 1 := by rw [hw2, hB, World.size_alloc]
  have tl := h.blk.lt
  have H := Lib.hid (tapeTake_any w2 t F A n c 32 l (h.fr hf2 id fun _ _ => id) (fun k hk => ⟨by have := (hF k hk).1; omega, (hF k hk).2⟩) (by omega) hm hn)
  have hll := h.byt.len
  obtain ⟨ys, hys⟩ : ∃ ys, ys = (l.take 32).map bv := ⟨_, rfl⟩
  have Ly : Hid (ys.length = 32) := by show _ = _; rw [hys, List.length_map, List.length_take]; omega
  have Sy : Hid (ys.toArray.size = 32) := by show _ = _; rw [List.size_toArray]; exact Ly.out
  have Ay : Hid (ys.toArray.all (·.oneCell') = true) := by show _ = _; rw [hys]; exact sec_cells _
  have HB := Lib.hid hB
  have Hw2 := Lib.hid hw2
  have Hys := Lib.hid hys
  clear hzs hB hw2 hys hll
  rw [show w.heap.size = B from HB.out.symm] at tl
  go_enter Tryz.func84, Tryz.ntmps84
  go_wp2_with (first
    | (refine wpList_alloc_zcK rfl 96 rfl zs.toArray Hz.out ?_)
    | rw [← Hw2.out, ← HB.out]
    | (go_at_call 153
       refine H.out.mono ?_
       rintro e w3 ⟨A', c', rfl, hby, hT, hf3⟩
       obtain ⟨g, o, rfl, hg, hcells⟩ := hby.2 (by omega)
       rw [← Hys.out] at hcells
       have hY3 := hY.fr hf3 (by omega)
       clear hby hY)
    | (refine wpList_s2aK rfl 96 (.tmp 15) rfl _ _ _ _ _ rfl Tryz.underlying96 (Nat.le_refl _) ?_)
    | (refine wpList_load_agg rfl 96 (.tmp 16) rfl g o rfl ys _ hcells Tryz.underlying96 rfl (by rw [Ly.out]; exact key_sizeK) ?_)
    | (refine wpList_store_rowK rfl 96 (.tmp 2) (.tmp 17) rfl B ys.toArray rfl rfl 96 zs.toArray hY3 (by rw [Sy.out]; exact key_sizeK) (by rw [Hzl.out, Sy.out]) Ay.out ?_))
  have q1 := (setRow_frK (ds := ys.toArray) hY3).1
  have q2 := (setRow_frK (ds := ys.toArray) hY3).2
  have hTB : ¬ (t = B) := by omega
  refine bodyPost_ret (results_cell_tmpK (cs := ys) rfl rfl (fun j v hv => by rw [Nat.zero_add, q2.cell]; simpa using hv) Tryz.underlying96 rfl (by rw [Ly.out]; exact key_sizeK)) rfl ?_
  refine ⟨by rw [Hys.out]; rfl, hT.fr q1 hTB fun k hk e => by have := (hF k hk).1; rw [← HB.out] at this; omega, ?_⟩
  exact ((hf2.mono fun _ _ h => h.elim).trans hf3 fun _ _ h => h).new q1 fun j hj => .inr (by have := HB.out; omega)
end Go.Proofs.YtnplamcajjblkaaGreat
