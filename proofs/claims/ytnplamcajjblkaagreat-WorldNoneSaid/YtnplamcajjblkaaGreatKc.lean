/-
  New disks; a disk made ready (keep.Create); the example of chapter 18; a host that nobody made. Conditions: each contract states its own.
-/
import Derived.Test.YtnplamcajjblkaaGreatKb
import Derived.Maps.OwnSet
namespace Go.Proofs.YtnplamcajjblkaaGreat
open Go.RowKit

section
variable {P : Program} {ops : Array Oper} {o : Oper} {a : Act} {w : World}
theorem exec_makeK {t e : TypeId} {z : Value} {size bytes : Nat} (E : ElemOk P t e z size bytes) (l c : Operand) (ho : o.op = .makeSlice t l c) (kl kc : IntKind) (C : Int) (n : Nat) (hl : a.eval l = .int kl C) (hc : a.eval c = .int kc C) (hC : C = (n : Int)) (hb : bytes * n ≤ 281474976710656) (h63 : n ≤ maxLen) :
    (execOp a.eval o).run P w = .ok (.value (.slice (some ⟨w.heap.size, 0, none⟩) n n)) (w.alloc (.cells (madeCells z.cells (n * size)) e)) := by
  obtain ⟨ht, ⟨i, hi, hz, hs, hby⟩, _⟩ := E
  subst hC hs hby
  have h3 : (n : Int) ≤ 9223372036854775807 := by unfold maxLen at h63; omega
  have hb' : (i.bytes : Int) * (n : Int) ≤ 281474976710656 := by
    have h : ((i.bytes * n : Nat) : Int) ≤ 281474976710656 := by omega
    rwa [Int.natCast_mul] at h
  have hr := run_make (P := P) w t e i z ht hi hz kl kc n n (by omega) (Int.le_refl _) hb' h3
  simp only [Int.toNat_natCast] at hr
  unfold execOp
  simp only [ho, hl, hc, Sem.run_bind, hr, Result.andThen_ok, Sem.run_pure]
end

section
variable {P : Program} {ops : Array Oper} {rest : List Oper} {o : Oper} {a : Act} {w : World} {Q : Exit → Act → World → Prop}
theorem wpList_makeK (hgd : o.guard = none) {t e : TypeId} {z : Value} {size bytes : Nat} (E : ElemOk P t e z size bytes) (l c : Operand) (ho : o.op = .makeSlice t l c) (kl kc : IntKind) (C : Int) (n : Nat) (hl : a.eval l = .int kl C) (hc : a.eval c = .int kc C) (hC : C = (n : Int)) (hb : bytes * n ≤ 281474976710656) (h63 : n ≤ maxLen)
    (h : wpList P ops Q rest (a.put o.dst (.slice (some ⟨w.heap.size, 0, none⟩) n n)) (w.alloc (.cells (madeCells z.cells (n * size)) e))) : wpList P ops Q (o :: rest) a w :=
  wpList_run (by simp [Region.wanted, hgd]) (exec_makeK E l c ho kl kc C n hl hc hC hb h63) h
end
theorem made64 (m : Nat) : (madeCells (Array.replicate 64 (Value.int IntKind.u8 0)) (m * 64)).toList = (List.replicate m (List.replicate 64 (0 : UInt8))).flatMap (·.map bv) := by
  have h1 : ∀ m : Nat, (List.replicate m (List.replicate 64 (0 : UInt8))).flatMap (·.map bv) = List.replicate (m * 64) (Value.int IntKind.u8 0) := by
    intro m
    induction m with
    | zero => rfl
    | succ m ih =>
      rw [List.replicate_succ, List.flatMap_cons, ih, List.map_replicate]
      have e : bv 0 = Value.int IntKind.u8 0 := rfl
      rw [e, List.replicate_append_replicate]
      congr 1
      omega
  rw [h1]
  unfold madeCells
  apply List.ext_getElem
  · simp
  · intro i h2 h3
    have h4 : i % 64 < 64 := Nat.mod_lt i (by omega)
    simp [h4]
theorem el_sec : ElemOk Tryz.prog 108 200 (.agg (Array.replicate 64 (.int .u8 0))) 64 64 := .mk Tryz.underlying108 (by kernel_rfl) rfl (by omega) (by omega)
theorem disk_built (A : Option Addr) (n c : Nat) : Tryz.prog.built 110 [(0, .slice A n c), (1, .slice none 0 0), (3, .bool true)] = some #[.slice A n c, .slice none 0 0, .int .i64 0, .bool true] := by kernel_rfl
set_option maxHeartbeats 1000000 in
theorem cloneCrash_nil (w : World) : Calls Tryz.prog 85 #[.slice none 0 0] w fun e w' => e = .returned (.slice none 0 0) ∧ w' = w := by
  have hcmp := Lib.run_eql_slice_nil (P := Tryz.prog) w 29 198 none 0 0 0 0 Tryz.underlying29
  rw [show (none : Option Addr).isNone = true from rfl] at hcmp
  go_enter Tryz.func85, Tryz.ntmps85
  go_wp2
  go_ret
  exact ⟨rfl, rfl⟩

set_option maxRecDepth 100000 in
set_option maxHeartbeats 2000000 in
theorem diskNew_any (w : World) (x : Int) (m : Nat) (hx : x ≤ 65536) (hm : m = x.toNat) :
    Calls Tryz.prog 39 #[.int .i64 x, .slice none 0 0] w fun e w' => ∃ p r, e = .returned (.pointer (some ⟨p, 0, none⟩)) ∧ DiskAt w' p r m 0 (List.replicate m (List.replicate 64 0)) ∧ Fr NoB w w' ∧ w.heap.size ≤ p ∧ w.heap.size ≤ r := by
  have Hm : Hid (m ≤ 65536) := by show m ≤ _; omega
  have Hm2 := Lib.hid hm
  have Hx := Lib.hid hx
  clear hm hx
  go_enter Tryz.func39, Tryz.ntmps39
  go_wp2
  refine wp_region_held (S := fun _ => True) rfl ?_
  refine wpAnyH_take (i := 0) rfl (by decide +kernel) (by decide +kernel) (by decide +kernel) (fun _ _ _ h => h) (Or.inl ⟨by kernel_rfl, fun W _ => by go_simp; with_reducible rfl⟩) trivial ?_
  refine wpAnyH_take (i := 1) rfl (by decide +kernel) (by decide +kernel) (by decide +kernel) (fun _ _ _ h => h) (Or.inl ⟨by kernel_rfl, fun W _ => by go_simp; with_reducible rfl⟩) trivial ?_
  go_simp
  refine wpAnyH_take (i := 2) rfl (by decide +kernel) (by decide +kernel) (by decide +kernel) (fun _ _ _ h => h) (Or.inl ⟨by kernel_rfl, fun W _ => by go_simp; with_reducible rfl⟩) trivial ?_
  go_simp
  refine wpAnyH_take (i := 4) rfl (by decide +kernel) (by decide +kernel) (by decide +kernel) (fun _ _ _ h => h) (Or.inl ⟨by kernel_rfl, fun W _ => by go_simp; with_reducible rfl⟩) trivial ?_
  go_simp
  refine wpAnyH_all (rs := [3, 5]) (by decide +kernel) (by simp) ?_
  intro i hi
  simp only [List.mem_cons, List.not_mem_nil, or_false] at hi
  rcases hi with rfl | rfl
  · refine wpOp_run (v := .slice (some ⟨w.heap.size, 0, none⟩) m m) (w' := w.drew.alloc (.cells (madeCells (Value.agg (Array.replicate 64 (.int .u8 0))).cells (m * 64)) 200)) rfl (by kernel_rfl) (exec_makeK el_sec (.tmp 7) (.tmp 7) rfl .i64 .i64 _ m rfl rfl (by have := Hx.out; have := Hm2.out; split <;> (try split) <;> omega) (by have := Hm.out; omega) (by have := Hm.out; unfold maxLen; omega)) ⟨trivial, ?_⟩
    go_simp
    refine wpAnyH_all (rs := [5]) (by decide +kernel) (by simp) ?_
    intro i hi
    simp only [List.mem_cons, List.not_mem_nil, or_false] at hi
    subst hi
    refine wpOp_call rfl rfl 85 (enters_of Tryz.func85 (by kernel_rfl) rfl) #[.tmp 9] _ rfl _ rfl (cloneCrash_nil _) ?_
    rintro e w3 ⟨rfl, h3⟩
    rw [h3]
    refine ⟨_, rfl, trivial, ?_⟩
    clear h3
    go_simp
    refine wpAnyH_all (rs := [6]) (by decide +kernel) (by simp) ?_
    intro i hi
    simp only [List.mem_cons, List.not_mem_nil, or_false] at hi
    subst hi
    refine wpOp_run (v := .agg #[.slice (some ⟨w.heap.size, 0, none⟩) m m, .slice none 0 0, .int .i64 0, .bool true]) (w' := (w.drew.alloc (.cells (madeCells (Value.agg (Array.replicate 64 (.int .u8 0))).cells (m * 64)) 200))) rfl (by kernel_rfl) (exec_buildK 110 #[(0, .tmp 8), (1, .tmp 10), (3, .const (.bool true))] rfl _ rfl _ (disk_built _ _ _)) ⟨trivial, ?_⟩
    go_simp
    refine wpAnyH_all (rs := [7]) (by decide +kernel) (by simp) ?_
    intro i hi
    simp only [List.mem_cons, List.not_mem_nil, or_false] at hi
    subst hi
    refine wpOp_run (v := .pointer (some ⟨(w.drew.alloc (.cells (madeCells (Value.agg (Array.replicate 64 (.int .u8 0))).cells (m * 64)) 200)).heap.size, 0, none⟩)) (w' := (w.drew.alloc (.cells (madeCells (Value.agg (Array.replicate 64 (.int .u8 0))).cells (m * 64)) 200)).alloc (.cells #[.slice (some ⟨w.heap.size, 0, none⟩) m m, .slice none 0 0, .int .i64 0, .bool true] 110)) rfl (by kernel_rfl) (by go_simp) ⟨trivial, ?_⟩
    go_simp
    refine wpAnyH_take (i := 8) rfl (by decide +kernel) (by decide +kernel) (by decide +kernel) (fun _ _ _ h => h) (Or.inl ⟨by kernel_rfl, fun W _ => by go_simp; with_reducible rfl⟩) trivial ?_
    go_simp
    refine wpAnyH_done (by decide +kernel) ?_ _
    go_wp2
    all_goals
      go_ret
      have zs : ((w.alloc (.cells (madeCells (Array.replicate 64 (Value.int IntKind.u8 0)) (m * 64)) 200)).heap.size) = w.heap.size + 1 := by simp
      have hr := Blk.new w 200 (madeCells (Array.replicate 64 (Value.int IntKind.u8 0)) (m * 64))
      have hp := Blk.new (w.alloc (.cells (madeCells (Array.replicate 64 (Value.int IntKind.u8 0)) (m * 64)) 200)) 110 #[.slice (some ⟨w.heap.size, 0, none⟩) m m, .slice none 0 0, .int .i64 0, .bool true]
      rw [zs] at hp
      exact ⟨w.heap.size + 1, rfl, w.heap.size, ⟨hp, ⟨_, hr.alloc _, made64 m⟩, by simp, fun s hs => by rw [List.eq_of_mem_replicate hs]; simp⟩, (((Fr.refl NoB w).alloc _).alloc _).drew, by omega, by omega⟩
  · refine wpOp_call rfl rfl 85 (enters_of Tryz.func85 (by kernel_rfl) rfl) #[.tmp 9] _ rfl _ rfl (cloneCrash_nil _) ?_
    rintro e w3 ⟨rfl, h3⟩
    rw [h3]
    refine ⟨_, rfl, trivial, ?_⟩
    clear h3
    go_simp
    refine wpAnyH_all (rs := [3]) (by decide +kernel) (by simp) ?_
    intro i hi
    simp only [List.mem_cons, List.not_mem_nil, or_false] at hi
    subst hi
    refine wpOp_run (v := .slice (some ⟨w.heap.size, 0, none⟩) m m) (w' := w.drew.alloc (.cells (madeCells (Value.agg (Array.replicate 64 (.int .u8 0))).cells (m * 64)) 200)) rfl (by kernel_rfl) (exec_makeK el_sec (.tmp 7) (.tmp 7) rfl .i64 .i64 _ m rfl rfl (by have := Hx.out; have := Hm2.out; split <;> (try split) <;> omega) (by have := Hm.out; omega) (by have := Hm.out; unfold maxLen; omega)) ⟨trivial, ?_⟩
    go_simp
    refine wpAnyH_all (rs := [6]) (by decide +kernel) (by simp) ?_
    intro i hi
    simp only [List.mem_cons, List.not_mem_nil, or_false] at hi
    subst hi
    refine wpOp_run (v := .agg #[.slice (some ⟨w.heap.size, 0, none⟩) m m, .slice none 0 0, .int .i64 0, .bool true]) (w' := (w.drew.alloc (.cells (madeCells (Value.agg (Array.replicate 64 (.int .u8 0))).cells (m * 64)) 200))) rfl (by kernel_rfl) (exec_buildK 110 #[(0, .tmp 8), (1, .tmp 10), (3, .const (.bool true))] rfl _ rfl _ (disk_built _ _ _)) ⟨trivial, ?_⟩
    go_simp
    refine wpAnyH_all (rs := [7]) (by decide +kernel) (by simp) ?_
    intro i hi
    simp only [List.mem_cons, List.not_mem_nil, or_false] at hi
    subst hi
    refine wpOp_run (v := .pointer (some ⟨(w.drew.alloc (.cells (madeCells (Value.agg (Array.replicate 64 (.int .u8 0))).cells (m * 64)) 200)).heap.size, 0, none⟩)) (w' := (w.drew.alloc (.cells (madeCells (Value.agg (Array.replicate 64 (.int .u8 0))).cells (m * 64)) 200)).alloc (.cells #[.slice (some ⟨w.heap.size, 0, none⟩) m m, .slice none 0 0, .int .i64 0, .bool true] 110)) rfl (by kernel_rfl) (by go_simp) ⟨trivial, ?_⟩
    go_simp
    refine wpAnyH_take (i := 8) rfl (by decide +kernel) (by decide +kernel) (by decide +kernel) (fun _ _ _ h => h) (Or.inl ⟨by kernel_rfl, fun W _ => by go_simp; with_reducible rfl⟩) trivial ?_
    go_simp
    refine wpAnyH_done (by decide +kernel) ?_ _
    go_wp2
    all_goals
      go_ret
      have zs : ((w.alloc (.cells (madeCells (Array.replicate 64 (Value.int IntKind.u8 0)) (m * 64)) 200)).heap.size) = w.heap.size + 1 := by simp
      have hr := Blk.new w 200 (madeCells (Array.replicate 64 (Value.int IntKind.u8 0)) (m * 64))
      have hp := Blk.new (w.alloc (.cells (madeCells (Array.replicate 64 (Value.int IntKind.u8 0)) (m * 64)) 200)) 110 #[.slice (some ⟨w.heap.size, 0, none⟩) m m, .slice none 0 0, .int .i64 0, .bool true]
      rw [zs] at hp
      exact ⟨w.heap.size + 1, rfl, w.heap.size, ⟨hp, ⟨_, hr.alloc _, made64 m⟩, by simp, fun s hs => by rw [List.eq_of_mem_replicate hs]; simp⟩, (((Fr.refl NoB w).alloc _).alloc _).drew, by omega, by omega⟩
end Go.Proofs.YtnplamcajjblkaaGreat
