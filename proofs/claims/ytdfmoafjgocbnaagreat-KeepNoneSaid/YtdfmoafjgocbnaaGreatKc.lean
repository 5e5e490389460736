/-
  New disks; a disk made ready (keep.Create); the example of chapter 18; a host that nobody made. Conditions: each contract states its own.
-/
import Derived.Test.YtdfmoafjgocbnaaGreatKb
import Derived.Maps.OwnSet
namespace Go.Proofs.YtdfmoafjgocbnaaGreat
open Go.RowKit

section
variable {P : Program} {ops : Array Oper} {o : Oper} {a : Act} {w : World}
theorem exec_makeK {t e : TypeId} {z : Value} {size bytes : Nat} (E : ElemOk P t e z size bytes) (l c : Operand) (ho : o.op = .makeSlice t l c) (kl kc : IntKind) (C : Int) (n : Nat) (hl : a.eval l = .int kl C) (hc : a.eval c = .int kc C) (hC : C = (n : Int)) (hb : bytes * n ≤ 281474976710656) (h63 : n ≤ maxLen) :
    (execOp a.eval o).run P w = .ok (.value (.slice (some ⟨w.heap.size, 0, none⟩) n n)) (w.alloc (.cells (madeCells z.cells (n * size)) e)) := by
  obtain ⟨ht, ⟨i, hi, hz, hs, hby⟩, _⟩ := E
  subst hC hs hby
  have h3 : (n : Int) ≤ 9223372036854775807 := by unfold maxLen at h63; omega
  have hb' : (i.bytes : Int) * (n : Int) ≤ 281474976710656 := by
    have h : ((i.bytes * n : Nat) : Int) ≤ 281474976710656 := by omega
    rwa [Int.natCast_mul] at h
  have hr := run_make (P := P) w t e i z ht hi hz kl kc n n (by omega) (Int.le_refl _) hb' h3
  simp only [Int.toNat_natCast] at hr
  unfold execOp
  simp only [ho, hl, hc, Sem.run_bind, hr, Result.andThen_ok, Sem.run_pure]
end

section
variable {P : Program} {ops : Array Oper} {rest : List Oper} {o : Oper} {a : Act} {w : World} {Q : Exit → Act → World → Prop}
theorem wpList_makeK (hgd : o.guard = none) {t e : TypeId} {z : Value} {size bytes : Nat} (E : ElemOk P t e z size bytes) (l c : Operand) (ho : o.op = .makeSlice t l c) (kl kc : IntKind) (C : Int) (n : Nat) (hl : a.eval l = .int kl C) (hc : a.eval c = .int kc C) (hC : C = (n : Int)) (hb : bytes * n ≤ 281474976710656) (h63 : n ≤ maxLen)
    (h : wpList P ops Q rest (a.put o.dst (.slice (some ⟨w.heap.size, 0, none⟩) n n)) (w.alloc (.cells (madeCells z.cells (n * size)) e))) : wpList P ops Q (o :: rest) a w :=
  wpList_run (by simp [Region.wanted, hgd]) (exec_makeK E l c ho kl kc C n hl hc hC hb h63) h
end
theorem el_sec : ElemOk Tryz.prog 152 97 (.agg (Array.replicate 64 (.int .u8 0))) 64 64 := .mk Tryz.underlying152 (by kernel_rfl) rfl (by omega) (by omega)
theorem disk_built (A : Option Addr) (n c : Nat) : Tryz.prog.built 157 [(0, .slice A n c), (1, .slice none 0 0), (3, .bool true)] = some #[.slice A n c, .slice none 0 0, .int .i64 0, .bool true] := by kernel_rfl
theorem refDisk_built (A : Option Addr) (n c : Nat) : Tryz.prog.built 159 [(0, .slice A n c), (1, .slice none 0 0)] = some #[.slice A n c, .slice none 0 0, .int .i64 0, .bool false] := by kernel_rfl

set_option maxHeartbeats 1000000 in
theorem cloneCrash_nil (w : World) : Calls Tryz.prog 65 #[.slice none 0 0] w fun e w' => e = .returned (.slice none 0 0) ∧ w' = w := by
  have hcmp := Lib.run_eql_slice_nil (P := Tryz.prog) w 151 155 none 0 0 0 0 Tryz.underlying151
  rw [show (none : Option Addr).isNone = true from rfl] at hcmp
  go_enter Tryz.func65, Tryz.ntmps65
  go_wp2
  go_ret
  exact ⟨rfl, rfl⟩

set_option maxRecDepth 100000 in
set_option maxHeartbeats 2000000 in
theorem diskNew_any (w : World) (x : Int) (m : Nat) (hx : x ≤ 65536) (hm : m = x.toNat) :
    Calls Tryz.prog 30 #[.int .i64 x, .slice none 0 0] w fun e w' => ∃ p r, e = .returned (.pointer (some ⟨p, 0, none⟩)) ∧ DiskAt w' p r m 0 ∧ Fr NoB w w' ∧ w.heap.size ≤ p ∧ w.heap.size ≤ r := by
  have Hm : Hid (m ≤ 65536) := by show m ≤ _; omega
  have Hm2 := Lib.hid hm
  have Hx := Lib.hid hx
  clear hm hx
  go_enter Tryz.func30, Tryz.ntmps30
  go_wp2
  refine wp_region_held (S := fun _ => True) rfl ?_
  refine wpAnyH_take (i := 0) rfl (by decide +kernel) (by decide +kernel) (by decide +kernel) (fun _ _ _ h => h) (Or.inl ⟨by kernel_rfl, fun W _ => by go_simp; with_reducible rfl⟩) trivial ?_
  refine wpAnyH_take (i := 1) rfl (by decide +kernel) (by decide +kernel) (by decide +kernel) (fun _ _ _ h => h) (Or.inl ⟨by kernel_rfl, fun W _ => by go_simp; with_reducible rfl⟩) trivial ?_
  go_simp
  refine wpAnyH_take (i := 2) rfl (by decide +kernel) (by decide +kernel) (by decide +kernel) (fun _ _ _ h => h) (Or.inl ⟨by kernel_rfl, fun W _ => by go_simp; with_reducible rfl⟩) trivial ?_
  go_simp
  refine wpAnyH_take (i := 4) rfl (by decide +kernel) (by decide +kernel) (by decide +kernel) (fun _ _ _ h => h) (Or.inl ⟨by kernel_rfl, fun W _ => by go_simp; with_reducible rfl⟩) trivial ?_
  go_simp
  refine wpAnyH_all (rs := [3, 5]) (by decide +kernel) (by simp) ?_
  intro i hi
  simp only [List.mem_cons, List.not_mem_nil, or_false] at hi
  rcases hi with rfl | rfl
  · refine wpOp_run (v := .slice (some ⟨w.heap.size, 0, none⟩) m m) (w' := w.drew.alloc (.cells (madeCells (Value.agg (Array.replicate 64 (.int .u8 0))).cells (m * 64)) 97)) rfl (by kernel_rfl) (exec_makeK el_sec (.tmp 7) (.tmp 7) rfl .i64 .i64 _ m rfl rfl (by have := Hx.out; have := Hm2.out; split <;> (try split) <;> omega) (by have := Hm.out; omega) (by have := Hm.out; unfold maxLen; omega)) ⟨trivial, ?_⟩
    go_simp
    refine wpAnyH_all (rs := [5]) (by decide +kernel) (by simp) ?_
    intro i hi
    simp only [List.mem_cons, List.not_mem_nil, or_false] at hi
    subst hi
    refine wpOp_call rfl rfl 65 (enters_of Tryz.func65 (by kernel_rfl) rfl) #[.tmp 9] _ rfl _ rfl (cloneCrash_nil _) ?_
    rintro e w3 ⟨rfl, h3⟩
    rw [h3]
    refine ⟨_, rfl, trivial, ?_⟩
    clear h3
    go_simp
    refine wpAnyH_all (rs := [6]) (by decide +kernel) (by simp) ?_
    intro i hi
    simp only [List.mem_cons, List.not_mem_nil, or_false] at hi
    subst hi
    refine wpOp_run (v := .agg #[.slice (some ⟨w.heap.size, 0, none⟩) m m, .slice none 0 0, .int .i64 0, .bool true]) (w' := (w.drew.alloc (.cells (madeCells (Value.agg (Array.replicate 64 (.int .u8 0))).cells (m * 64)) 97))) rfl (by kernel_rfl) (exec_buildK 157 #[(0, .tmp 8), (1, .tmp 10), (3, .const (.bool true))] rfl _ rfl _ (disk_built _ _ _)) ⟨trivial, ?_⟩
    go_simp
    refine wpAnyH_all (rs := [7]) (by decide +kernel) (by simp) ?_
    intro i hi
    simp only [List.mem_cons, List.not_mem_nil, or_false] at hi
    subst hi
    refine wpOp_run (v := .pointer (some ⟨(w.drew.alloc (.cells (madeCells (Value.agg (Array.replicate 64 (.int .u8 0))).cells (m * 64)) 97)).heap.size, 0, none⟩)) (w' := (w.drew.alloc (.cells (madeCells (Value.agg (Array.replicate 64 (.int .u8 0))).cells (m * 64)) 97)).alloc (.cells #[.slice (some ⟨w.heap.size, 0, none⟩) m m, .slice none 0 0, .int .i64 0, .bool true] 157)) rfl (by kernel_rfl) (by go_simp) ⟨trivial, ?_⟩
    go_simp
    refine wpAnyH_take (i := 8) rfl (by decide +kernel) (by decide +kernel) (by decide +kernel) (fun _ _ _ h => h) (Or.inl ⟨by kernel_rfl, fun W _ => by go_simp; with_reducible rfl⟩) trivial ?_
    go_simp
    refine wpAnyH_done (by decide +kernel) ?_ _
    go_wp2
    all_goals
      go_ret
      have zs : ((w.alloc (.cells (madeCells (Array.replicate 64 (Value.int IntKind.u8 0)) (m * 64)) 97)).heap.size) = w.heap.size + 1 := by simp
      have hr := Blk.new w 97 (madeCells (Array.replicate 64 (Value.int IntKind.u8 0)) (m * 64))
      have hp := Blk.new (w.alloc (.cells (madeCells (Array.replicate 64 (Value.int IntKind.u8 0)) (m * 64)) 97)) 157 #[.slice (some ⟨w.heap.size, 0, none⟩) m m, .slice none 0 0, .int .i64 0, .bool true]
      rw [zs] at hp
      exact ⟨w.heap.size + 1, rfl, w.heap.size, ⟨hp, _, hr.alloc _, size_madeCells _ _⟩, (((Fr.refl NoB w).alloc _).alloc _).drew, by omega, by omega⟩
  · refine wpOp_call rfl rfl 65 (enters_of Tryz.func65 (by kernel_rfl) rfl) #[.tmp 9] _ rfl _ rfl (cloneCrash_nil _) ?_
    rintro e w3 ⟨rfl, h3⟩
    rw [h3]
    refine ⟨_, rfl, trivial, ?_⟩
    clear h3
    go_simp
    refine wpAnyH_all (rs := [3]) (by decide +kernel) (by simp) ?_
    intro i hi
    simp only [List.mem_cons, List.not_mem_nil, or_false] at hi
    subst hi
    refine wpOp_run (v := .slice (some ⟨w.heap.size, 0, none⟩) m m) (w' := w.drew.alloc (.cells (madeCells (Value.agg (Array.replicate 64 (.int .u8 0))).cells (m * 64)) 97)) rfl (by kernel_rfl) (exec_makeK el_sec (.tmp 7) (.tmp 7) rfl .i64 .i64 _ m rfl rfl (by have := Hx.out; have := Hm2.out; split <;> (try split) <;> omega) (by have := Hm.out; omega) (by have := Hm.out; unfold maxLen; omega)) ⟨trivial, ?_⟩
    go_simp
    refine wpAnyH_all (rs := [6]) (by decide +kernel) (by simp) ?_
    intro i hi
    simp only [List.mem_cons, List.not_mem_nil, or_false] at hi
    subst hi
    refine wpOp_run (v := .agg #[.slice (some ⟨w.heap.size, 0, none⟩) m m, .slice none 0 0, .int .i64 0, .bool true]) (w' := (w.drew.alloc (.cells (madeCells (Value.agg (Array.replicate 64 (.int .u8 0))).cells (m * 64)) 97))) rfl (by kernel_rfl) (exec_buildK 157 #[(0, .tmp 8), (1, .tmp 10), (3, .const (.bool true))] rfl _ rfl _ (disk_built _ _ _)) ⟨trivial, ?_⟩
    go_simp
    refine wpAnyH_all (rs := [7]) (by decide +kernel) (by simp) ?_
    intro i hi
    simp only [List.mem_cons, List.not_mem_nil, or_false] at hi
    subst hi
    refine wpOp_run (v := .pointer (some ⟨(w.drew.alloc (.cells (madeCells (Value.agg (Array.replicate 64 (.int .u8 0))).cells (m * 64)) 97)).heap.size, 0, none⟩)) (w' := (w.drew.alloc (.cells (madeCells (Value.agg (Array.replicate 64 (.int .u8 0))).cells (m * 64)) 97)).alloc (.cells #[.slice (some ⟨w.heap.size, 0, none⟩) m m, .slice none 0 0, .int .i64 0, .bool true] 157)) rfl (by kernel_rfl) (by go_simp) ⟨trivial, ?_⟩
    go_simp
    refine wpAnyH_take (i := 8) rfl (by decide +kernel) (by decide +kernel) (by decide +kernel) (fun _ _ _ h => h) (Or.inl ⟨by kernel_rfl, fun W _ => by go_simp; with_reducible rfl⟩) trivial ?_
    go_simp
    refine wpAnyH_done (by decide +kernel) ?_ _
    go_wp2
    all_goals
      go_ret
      have zs : ((w.alloc (.cells (madeCells (Array.replicate 64 (Value.int IntKind.u8 0)) (m * 64)) 97)).heap.size) = w.heap.size + 1 := by simp
      have hr := Blk.new w 97 (madeCells (Array.replicate 64 (Value.int IntKind.u8 0)) (m * 64))
      have hp := Blk.new (w.alloc (.cells (madeCells (Array.replicate 64 (Value.int IntKind.u8 0)) (m * 64)) 97)) 157 #[.slice (some ⟨w.heap.size, 0, none⟩) m m, .slice none 0 0, .int .i64 0, .bool true]
      rw [zs] at hp
      exact ⟨w.heap.size + 1, rfl, w.heap.size, ⟨hp, _, hr.alloc _, size_madeCells _ _⟩, (((Fr.refl NoB w).alloc _).alloc _).drew, by omega, by omega⟩
set_option maxRecDepth 100000 in
set_option maxHeartbeats 2000000 in
theorem refDiskNew_any (w : World) (x : Int) (m : Nat) (hx : x ≤ 65536) (hm : m = x.toNat) :
    Calls Tryz.prog 31 #[.int .i64 x, .slice none 0 0] w fun e w' => ∃ p, e = .returned (.pointer (some ⟨p, 0, none⟩)) ∧ RefDisk w' p m ∧ Fr NoB w w' := by
  have key : ∀ (y : Int) (W : World), y = (m : Int) → True := fun _ _ _ => trivial
  clear key
  have hm6 : m ≤ 65536 := by omega
  have Hm6 := Lib.hid hm6
  obtain ⟨W1, hW1⟩ : ∃ W1, W1 = w.alloc (.cells (madeCells (Value.agg (Array.replicate 64 (.int .u8 0))).cells (m * 64)) 97) := ⟨_, rfl⟩
  have HW1 := Lib.hid hW1
  have hf1 : Fr NoB w W1 := by rw [hW1]; exact (Fr.refl _ _).alloc _
  clear hW1
  have fin : ∀ (A : Option Addr) (c : Nat), ∃ p, Ending.returned (.pointer (some ⟨W1.heap.size, 0, none⟩)) = .returned (.pointer (some ⟨p, 0, none⟩)) ∧ RefDisk (W1.alloc (.cells #[.slice A m c, .slice none 0 0, .int .i64 0, .bool false] 159)) p m ∧ Fr NoB w (W1.alloc (.cells #[.slice A m c, .slice none 0 0, .int .i64 0, .bool false] 159)) :=
    fun A c => ⟨_, rfl, ⟨A, c, Blk.new _ _ _⟩, hf1.alloc _⟩
  have Fin := Lib.hid fin
  clear fin
  by_cases h0 : x < 0
  · have hm0 : m = 0 := by omega
    subst hm0
    clear hm hx
    go_enter Tryz.func31, Tryz.ntmps31
    go_wp2_with (first
      | (at_make; refine wpList_makeK rfl el_sec (.tmp 9) (.tmp 9) rfl .i64 .i64 _ 0 rfl rfl rfl (by omega) (by unfold maxLen; omega) ?_; rw [← HW1.out])
      | (refine wpList_buildK rfl 159 #[(0, .tmp 10), (1, .tmp 11)] rfl [(0, .slice (some ⟨w.heap.size, 0, none⟩) 0 0), (1, .slice none 0 0)] rfl _ (refDisk_built _ _ _) ?_))
    go_ret
    exact Fin.out _ _
  · have hxm : x = (m : Int) := by omega
    subst hxm
    clear hm hx
    go_enter Tryz.func31, Tryz.ntmps31
    go_wp2_with (first
      | (at_make; refine wpList_makeK rfl el_sec (.tmp 9) (.tmp 9) rfl .i64 .i64 _ m rfl rfl rfl (by omega) (by unfold maxLen; omega) ?_; rw [← HW1.out])
      | (refine wpList_buildK rfl 159 #[(0, .tmp 10), (1, .tmp 11)] rfl [(0, .slice (some ⟨w.heap.size, 0, none⟩) m m), (1, .slice none 0 0)] rfl _ (refDisk_built _ _ _) ?_))
    go_ret
    exact Fin.out _ _
end Go.Proofs.YtdfmoafjgocbnaaGreat
