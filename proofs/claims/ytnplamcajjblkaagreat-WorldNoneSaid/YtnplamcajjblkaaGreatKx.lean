/-
  Ops of a world (world.edits, (*world.World).Do) that are refused. Conditions: each contract states its own.
-/
import Derived.Test.YtnplamcajjblkaaGreatKw
import Derived.Test.YtnplamcajjblkaaGreatKi
namespace Go.Proofs.YtnplamcajjblkaaGreat
open Go.RowKit

/-- An answer that tells an error and nothing else. -/
def ansL (e : Int) : List Value := .int .i64 e :: .string ⟨#[]⟩ :: .slice none 0 0 :: (List.replicate 32 (.int .u8 0) ++ [.int .u64 0, .slice none 0 0])
theorem ans_zero : ((Tryz.prog.info? 51).bind (·.zero)).map (·.cells) = some (ansL 0).toArray := by kernel_rfl
theorem ans_size : (Tryz.prog.info? 51).map (·.size) = some 37 := by kernel_rfl
theorem ans_built (e : Int) : Tryz.prog.built 51 [(0, .int .i64 e)] = some (ansL e).toArray := by kernel_rfl
theorem ans_one (e : Int) : (ansL e).toArray.all (·.oneCell') = true := by kernel_rfl
theorem ans_set (e : Int) : (ansL 0).toArray.setIfInBounds 0 (.int .i64 e) = (ansL e).toArray := by kernel_rfl
/-- An op's cells. -/
def opC (cl ki : Int) (b p o t : ByteArray) (n : Int) : Array Value := #[.int .u32 cl, .int .i64 ki, .string b, .string p, .string o, .string t, .int .u64 n]
set_option maxRecDepth 100000 in
set_option maxHeartbeats 2000000 in
theorem edits_write (w : World) (q : Nat) (cl : Int) (b pa ot tx : ByteArray) (nn : Int) (h : RepoClosed w q) :
    Calls Tryz.prog 14 #[.pointer (some ⟨q, 0, none⟩), .agg (opC cl 3 b pa ot tx nn)] w fun e w' => e = .returned (.tuple #[.agg (ansL 290).toArray, .bool true]) ∧ Fr NoB w w' := by
  unfold opC
  obtain ⟨B, hB⟩ : ∃ B, B = w.heap.size := ⟨_, rfl⟩
  obtain ⟨w1, hw1⟩ : ∃ w1, w1 = w.alloc (.cells #[.int .u32 cl, .int .i64 3, .string b, .string pa, .string ot, .string tx, .int .u64 nn] 25) := ⟨_, rfl⟩
  have hf1 : Fr NoB w w1 := by rw [hw1]; exact (Fr.refl _ _).alloc _
  have kO : Blk w1 B 25 #[.int .u32 cl, .int .i64 3, .string b, .string pa, .string ot, .string tx, .int .u64 nn] := by rw [hw1, hB]; exact Blk.new _ _ _
  have s1 : w1.heap.size = B + 1 := by rw [hw1, hB, World.size_alloc]
  obtain ⟨zs, hzs⟩ : ∃ zs, zs = ansL 0 := ⟨_, rfl⟩
  obtain ⟨ys, hys⟩ : ∃ ys, ys = ansL 290 := ⟨_, rfl⟩
  have Hz : Hid (((Tryz.prog.info? 51).bind (·.zero)).map (·.cells) = some zs.toArray) := by show _ = _; rw [hzs]; exact ans_zero
  have Lz : Hid (zs.toArray.size = 37) := by show _ = _; rw [hzs]; rfl
  have z0 : Hid (zs.toArray[0]? = some (.int .i64 0)) := by show _ = _; rw [hzs]; rfl
  have Ly : Hid (ys.length = 37) := by show _ = _; rw [hys]; rfl
  have Sy : Hid (ys.toArray.size = 37) := by show _ = _; rw [hys]; rfl
  have Oy : Hid (ys.toArray.all (·.oneCell') = true) := by show _ = _; rw [hys]; exact ans_one _
  have Sz : Hid (zs.toArray.setIfInBounds 0 (.int .i64 290) = ys.toArray) := by show _ = _; rw [hzs, hys]; exact ans_set _
  have HB := Lib.hid hB
  have Hw1 := Lib.hid hw1
  rw [← hys]
  have c1 : w1.cell? ⟨B, 1, none⟩ = some (.int .i64 3) := (kO.cell 1).trans rfl
  clear hB hw1 hzs hys
  go_enter Tryz.func14, Tryz.ntmps14
  go_wp2_with (first
    | (refine wpList_alloc_zcK rfl 51 rfl zs.toArray Hz.out ?_
       rw [← Hw1.out, ← HB.out]
       obtain ⟨g4, hg4⟩ : ∃ g4, g4 = w1.heap.size := ⟨_, rfl⟩
       obtain ⟨w2, hw2⟩ : ∃ w2, w2 = w1.alloc (.cells zs.toArray 51) := ⟨_, rfl⟩
       rw [← hw2, ← hg4]
       have f12 : Fr NoB w1 w2 := by rw [hw2]; exact (Fr.refl _ _).alloc _
       have k4 : Blk w2 g4 51 zs.toArray := by rw [hw2, hg4]; exact Blk.new _ _ _
       have hgB : B < g4 := by omega
       clear hw2 hg4)
    | (refine wpList_alloc_zcK rfl 51 rfl zs.toArray Hz.out ?_
       obtain ⟨g6, hg6⟩ : ∃ g6, g6 = w2.heap.size := ⟨_, rfl⟩
       obtain ⟨w3, hw3⟩ : ∃ w3, w3 = w2.alloc (.cells zs.toArray 51) := ⟨_, rfl⟩
       rw [← hw3, ← hg6]
       have f23 : Fr NoB w2 w3 := by rw [hw3]; exact (Fr.refl _ _).alloc _
       have k6 : Blk w3 g6 51 zs.toArray := by rw [hw3, hg6]; exact Blk.new _ _ _
       have hg46 : g4 < g6 := by have := k4.lt; omega
       have k43 := k4.fr f23 id
       have kO3 := (kO.fr f12 id).fr f23 id
       have o1 := kO3.cell 1
       have o3 := kO3.cell 3
       have o5 := kO3.cell 5
       have y6 := (k6.cell 0).trans z0.out
       have n6 := k6.frozen 0
       have HC := Lib.hid (repoWrite_closed w3 q (.string pa) (.string tx) (((h.fr hf1 id).fr f12 id).fr f23 id))
       clear hg6 hw3 c1)
    | (go_at_call 22
       refine HC.out.mono ?_
       rintro e wq ⟨rfl, h12⟩
       rw [h12]
       clear h12
       obtain ⟨w4, hw4⟩ : ∃ w4, w4 = w3.setCell ⟨g6, 0, none⟩ (.int .i64 290) := ⟨_, rfl⟩
       have k64 : Blk w4 g6 51 ys.toArray := by
         rw [hw4, ← Sz.out]
         exact k6.set_ 0 _
       have f34 : Fr (· = g6) w3 w4 := by rw [hw4]; exact (Fr.refl _ _).at_ _ _
       have k44 := k43.fr f34 (by omega)
       have all6 : ∀ j u, ys[j]? = some u → w4.cell? ⟨g6, 0 + j, none⟩ = some u := fun j u hu => by rw [Nat.zero_add, k64.cell]; simpa using hu
       have Hw4 := Lib.hid hw4
       clear hw4)
    | rw [← Hw4.out]
    | (refine wpList_load_agg rfl 51 (.tmp 6) rfl g6 0 rfl ys _ all6 Tryz.underlying51 rfl (by rw [Ly.out]; exact ans_size) ?_)
    | (refine wpList_store_rowK rfl 51 (.tmp 4) (.tmp 72) rfl g4 ys.toArray rfl rfl 51 zs.toArray k44 (by rw [Sy.out]; exact ans_size) (by rw [Sy.out, Lz.out]) Oy.out ?_))
  have kk := (setRow_frK (ds := ys.toArray) k44).2
  have fk := (setRow_frK (ds := ys.toArray) k44).1
  refine bodyPost_ret (results_cell_tmpK (cs := ys) rfl rfl (fun j v hv => by rw [Nat.zero_add, kk.cell]; simpa using hv) Tryz.underlying51 rfl (by rw [Ly.out]; exact ans_size)) rfl ?_
  have hBw := HB.out
  exact ⟨rfl, ((((hf1.trans f12 fun _ _ h => h).trans f23 fun _ _ h => h).new f34 fun j hj => .inr (by omega)).new fk fun j hj => .inr (by omega))⟩
set_option maxRecDepth 100000 in
set_option maxHeartbeats 2000000 in
theorem do_nil (w : World) (cl ki : Int) (b pa ot tx : ByteArray) (nn : Int)  :
    Calls Tryz.prog 7 #[.pointer none, .agg (opC cl ki b pa ot tx nn)] w fun e w' => e = .returned (.agg (ansL 1).toArray) ∧ Fr NoB w w' := by
  unfold opC
  obtain ⟨B, hB⟩ : ∃ B, B = w.heap.size := ⟨_, rfl⟩
  obtain ⟨w1, hw1⟩ : ∃ w1, w1 = w.alloc (.cells #[.int .u32 cl, .int .i64 ki, .string b, .string pa, .string ot, .string tx, .int .u64 nn] 25) := ⟨_, rfl⟩
  have hf1 : Fr NoB w w1 := by rw [hw1]; exact (Fr.refl _ _).alloc _
  have kO : Blk w1 B 25 #[.int .u32 cl, .int .i64 ki, .string b, .string pa, .string ot, .string tx, .int .u64 nn] := by rw [hw1, hB]; exact Blk.new _ _ _
  have s1 : w1.heap.size = B + 1 := by rw [hw1, hB, World.size_alloc]
  obtain ⟨zs, hzs⟩ : ∃ zs, zs = ansL 0 := ⟨_, rfl⟩
  obtain ⟨ys, hys⟩ : ∃ ys, ys = ansL 1 := ⟨_, rfl⟩
  have Hz : Hid (((Tryz.prog.info? 51).bind (·.zero)).map (·.cells) = some zs.toArray) := by show _ = _; rw [hzs]; exact ans_zero
  have Hb : Hid (Tryz.prog.built 51 [(0, .int .i64 1)] = some ys.toArray) := by show _ = _; rw [hys]; exact ans_built _
  have Lz : Hid (zs.toArray.size = 37) := by show _ = _; rw [hzs]; rfl
  have Ly : Hid (ys.length = 37) := by show _ = _; rw [hys]; rfl
  have Sy : Hid (ys.toArray.size = 37) := by show _ = _; rw [hys]; rfl
  have Oy : Hid (ys.toArray.all (·.oneCell') = true) := by show _ = _; rw [hys]; exact ans_one _
  have HB := Lib.hid hB
  have Hw1 := Lib.hid hw1
  rw [← hys]
  clear hB hw1 hzs hys
  go_enter Tryz.func7, Tryz.ntmps7
  go_wp2_with (first
    | (refine wpList_alloc_zcK rfl 51 rfl zs.toArray Hz.out ?_
       rw [← Hw1.out, ← HB.out]
       obtain ⟨g4, hg4⟩ : ∃ g4, g4 = w1.heap.size := ⟨_, rfl⟩
       obtain ⟨w2, hw2⟩ : ∃ w2, w2 = w1.alloc (.cells zs.toArray 51) := ⟨_, rfl⟩
       rw [← hw2, ← hg4]
       have f12 : Fr NoB w1 w2 := by rw [hw2]; exact (Fr.refl _ _).alloc _
       have k4 : Blk w2 g4 51 zs.toArray := by rw [hw2, hg4]; exact Blk.new _ _ _
       have hgB : B < g4 := by omega

       clear hw2 hg4)
    | (refine wpList_buildK rfl 51 #[(0, .const (.int .i64 1))] rfl [(0, .int .i64 1)] rfl ys.toArray Hb.out ?_)
    | (refine wpList_store_rowK rfl 51 (.tmp 4) (.tmp 28) rfl g4 ys.toArray rfl rfl 51 zs.toArray k4 (by rw [Sy.out]; exact ans_size) (by rw [Sy.out, Lz.out]) Oy.out ?_))
  have kk := (setRow_frK (ds := ys.toArray) k4).2
  have fk := (setRow_frK (ds := ys.toArray) k4).1
  refine bodyPost_ret (results_cellK (cs := ys) rfl rfl (fun j v hv => by rw [Nat.zero_add, kk.cell]; simpa using hv) Tryz.underlying51 rfl (by rw [Ly.out]; exact ans_size)) rfl ?_
  have hBw := HB.out
  exact ⟨rfl, (hf1.trans f12 fun _ _ h => h).new fk fun j hj => .inr (by omega)⟩
set_option maxRecDepth 100000 in
set_option maxHeartbeats 2000000 in
theorem do_unmade (w : World) (q : Nat) (cl ki : Int) (b pa ot tx : ByteArray) (nn : Int) (h : w.cell? ⟨q, 14, none⟩ = some (.bool false)) :
    Calls Tryz.prog 7 #[.pointer (some ⟨q, 0, none⟩), .agg (opC cl ki b pa ot tx nn)] w fun e w' => e = .returned (.agg (ansL 1).toArray) ∧ Fr NoB w w' := by
  unfold opC
  obtain ⟨B, hB⟩ : ∃ B, B = w.heap.size := ⟨_, rfl⟩
  obtain ⟨w1, hw1⟩ : ∃ w1, w1 = w.alloc (.cells #[.int .u32 cl, .int .i64 ki, .string b, .string pa, .string ot, .string tx, .int .u64 nn] 25) := ⟨_, rfl⟩
  have hf1 : Fr NoB w w1 := by rw [hw1]; exact (Fr.refl _ _).alloc _
  have kO : Blk w1 B 25 #[.int .u32 cl, .int .i64 ki, .string b, .string pa, .string ot, .string tx, .int .u64 nn] := by rw [hw1, hB]; exact Blk.new _ _ _
  have s1 : w1.heap.size = B + 1 := by rw [hw1, hB, World.size_alloc]
  obtain ⟨zs, hzs⟩ : ∃ zs, zs = ansL 0 := ⟨_, rfl⟩
  obtain ⟨ys, hys⟩ : ∃ ys, ys = ansL 1 := ⟨_, rfl⟩
  have Hz : Hid (((Tryz.prog.info? 51).bind (·.zero)).map (·.cells) = some zs.toArray) := by show _ = _; rw [hzs]; exact ans_zero
  have Hb : Hid (Tryz.prog.built 51 [(0, .int .i64 1)] = some ys.toArray) := by show _ = _; rw [hys]; exact ans_built _
  have Lz : Hid (zs.toArray.size = 37) := by show _ = _; rw [hzs]; rfl
  have Ly : Hid (ys.length = 37) := by show _ = _; rw [hys]; rfl
  have Sy : Hid (ys.toArray.size = 37) := by show _ = _; rw [hys]; rfl
  have Oy : Hid (ys.toArray.all (·.oneCell') = true) := by show _ = _; rw [hys]; exact ans_one _
  have HB := Lib.hid hB
  have Hw1 := Lib.hid hw1
  rw [← hys]
  clear hB hw1 hzs hys
  go_enter Tryz.func7, Tryz.ntmps7
  go_wp2_with (first
    | (refine wpList_alloc_zcK rfl 51 rfl zs.toArray Hz.out ?_
       rw [← Hw1.out, ← HB.out]
       obtain ⟨g4, hg4⟩ : ∃ g4, g4 = w1.heap.size := ⟨_, rfl⟩
       obtain ⟨w2, hw2⟩ : ∃ w2, w2 = w1.alloc (.cells zs.toArray 51) := ⟨_, rfl⟩
       rw [← hw2, ← hg4]
       have f12 : Fr NoB w1 w2 := by rw [hw2]; exact (Fr.refl _ _).alloc _
       have k4 : Blk w2 g4 51 zs.toArray := by rw [hw2, hg4]; exact Blk.new _ _ _
       have hgB : B < g4 := by omega
       have c14 : w2.cell? ⟨q, 14, none⟩ = some (.bool false) := f12.cell' (hf1.cell' h id) id
       clear hw2 hg4)
    | (refine wpList_buildK rfl 51 #[(0, .const (.int .i64 1))] rfl [(0, .int .i64 1)] rfl ys.toArray Hb.out ?_)
    | (refine wpList_store_rowK rfl 51 (.tmp 4) (.tmp 28) rfl g4 ys.toArray rfl rfl 51 zs.toArray k4 (by rw [Sy.out]; exact ans_size) (by rw [Sy.out, Lz.out]) Oy.out ?_))
  have kk := (setRow_frK (ds := ys.toArray) k4).2
  have fk := (setRow_frK (ds := ys.toArray) k4).1
  refine bodyPost_ret (results_cellK (cs := ys) rfl rfl (fun j v hv => by rw [Nat.zero_add, kk.cell]; simpa using hv) Tryz.underlying51 rfl (by rw [Ly.out]; exact ans_size)) rfl ?_
  have hBw := HB.out
  exact ⟨rfl, (hf1.trans f12 fun _ _ h => h).new fk fun j hj => .inr (by omega)⟩
set_option maxRecDepth 100000 in
set_option maxHeartbeats 2000000 in
theorem do_client4 (w : World) (q : Nat) (ki : Int) (b pa ot tx : ByteArray) (nn : Int) (h : w.cell? ⟨q, 14, none⟩ = some (.bool true)) :
    Calls Tryz.prog 7 #[.pointer (some ⟨q, 0, none⟩), .agg (opC 4 ki b pa ot tx nn)] w fun e w' => e = .returned (.agg (ansL 1).toArray) ∧ Fr NoB w w' := by
  unfold opC
  obtain ⟨B, hB⟩ : ∃ B, B = w.heap.size := ⟨_, rfl⟩
  obtain ⟨w1, hw1⟩ : ∃ w1, w1 = w.alloc (.cells #[.int .u32 4, .int .i64 ki, .string b, .string pa, .string ot, .string tx, .int .u64 nn] 25) := ⟨_, rfl⟩
  have hf1 : Fr NoB w w1 := by rw [hw1]; exact (Fr.refl _ _).alloc _
  have kO : Blk w1 B 25 #[.int .u32 4, .int .i64 ki, .string b, .string pa, .string ot, .string tx, .int .u64 nn] := by rw [hw1, hB]; exact Blk.new _ _ _
  have s1 : w1.heap.size = B + 1 := by rw [hw1, hB, World.size_alloc]
  obtain ⟨zs, hzs⟩ : ∃ zs, zs = ansL 0 := ⟨_, rfl⟩
  obtain ⟨ys, hys⟩ : ∃ ys, ys = ansL 1 := ⟨_, rfl⟩
  have Hz : Hid (((Tryz.prog.info? 51).bind (·.zero)).map (·.cells) = some zs.toArray) := by show _ = _; rw [hzs]; exact ans_zero
  have Hb : Hid (Tryz.prog.built 51 [(0, .int .i64 1)] = some ys.toArray) := by show _ = _; rw [hys]; exact ans_built _
  have Lz : Hid (zs.toArray.size = 37) := by show _ = _; rw [hzs]; rfl
  have Ly : Hid (ys.length = 37) := by show _ = _; rw [hys]; rfl
  have Sy : Hid (ys.toArray.size = 37) := by show _ = _; rw [hys]; rfl
  have Oy : Hid (ys.toArray.all (·.oneCell') = true) := by show _ = _; rw [hys]; exact ans_one _
  have HB := Lib.hid hB
  have Hw1 := Lib.hid hw1
  rw [← hys]
  clear hB hw1 hzs hys
  go_enter Tryz.func7, Tryz.ntmps7
  go_wp2_with (first
    | (refine wpList_alloc_zcK rfl 51 rfl zs.toArray Hz.out ?_
       rw [← Hw1.out, ← HB.out]
       obtain ⟨g4, hg4⟩ : ∃ g4, g4 = w1.heap.size := ⟨_, rfl⟩
       obtain ⟨w2, hw2⟩ : ∃ w2, w2 = w1.alloc (.cells zs.toArray 51) := ⟨_, rfl⟩
       rw [← hw2, ← hg4]
       have f12 : Fr NoB w1 w2 := by rw [hw2]; exact (Fr.refl _ _).alloc _
       have k4 : Blk w2 g4 51 zs.toArray := by rw [hw2, hg4]; exact Blk.new _ _ _
       have hgB : B < g4 := by omega
       have c14 : w2.cell? ⟨q, 14, none⟩ = some (.bool true) := f12.cell' (hf1.cell' h id) id
       have o0 : w2.cell? ⟨B, 0, none⟩ = some (.int .u32 4) := ((kO.fr f12 id).cell 0).trans rfl
       clear hw2 hg4)
    | (refine wpList_buildK rfl 51 #[(0, .const (.int .i64 1))] rfl [(0, .int .i64 1)] rfl ys.toArray Hb.out ?_)
    | (refine wpList_store_rowK rfl 51 (.tmp 4) (.tmp 28) rfl g4 ys.toArray rfl rfl 51 zs.toArray k4 (by rw [Sy.out]; exact ans_size) (by rw [Sy.out, Lz.out]) Oy.out ?_))
  have kk := (setRow_frK (ds := ys.toArray) k4).2
  have fk := (setRow_frK (ds := ys.toArray) k4).1
  refine bodyPost_ret (results_cellK (cs := ys) rfl rfl (fun j v hv => by rw [Nat.zero_add, kk.cell]; simpa using hv) Tryz.underlying51 rfl (by rw [Ly.out]; exact ans_size)) rfl ?_
  have hBw := HB.out
  exact ⟨rfl, (hf1.trans f12 fun _ _ h => h).new fk fun j hj => .inr (by omega)⟩
set_option maxRecDepth 100000 in
set_option maxHeartbeats 8000000 in
theorem do_write (w : World) (q : Nat) (A : Option Addr) (m c : Nat) (rows : List Value) (R : Option Addr) (k : Nat) (cs : List Nat) (b pa ot tx : ByteArray) (nn : Int) (h : WorldAt w q 0 A m c rows R 3 k cs) :
    Calls Tryz.prog 7 #[.pointer (some ⟨q, 0, none⟩), .agg (opC 1 3 b pa ot tx nn)] w fun e w' => e = .returned (.agg (ansL 290).toArray) ∧ Fr NoB w w' := by
  obtain ⟨⟨x0, x1, x2, x3, x4, x5, x6, x7, x9, x10, x11, hW⟩, hO, hR, hC⟩ := h
  have hll : cs.length = 3 := by have := hR.len; simpa using this
  obtain ⟨a0, cs, rfl⟩ : ∃ a0 cs', cs = a0 :: cs' := by cases cs with
    | nil => simp at hll
    | cons a l => exact ⟨a, l, rfl⟩
  have hC0 := hC a0 (List.mem_cons_self ..)
  obtain ⟨r0, o0r, rfl, _, hr0⟩ := (hR.arr (F := fun _ => True) fun _ _ _ => trivial).2 (by omega)
  have q0 := hr0 0 (.pointer (some ⟨a0, 0, none⟩)) (by simp)
  clear hC hO hll hr0
  have HE : Hid (∀ W, Fr NoB w W → Calls Tryz.prog 14 #[.pointer (some ⟨a0, 0, none⟩), .agg (opC 1 3 b pa ot tx nn)] W fun e w' => e = .returned (.tuple #[.agg (ansL 290).toArray, .bool true]) ∧ Fr NoB W w') := fun W hW => edits_write W a0 1 b pa ot tx nn (hC0.fr hW id)
  obtain ⟨B, hB⟩ : ∃ B, B = w.heap.size := ⟨_, rfl⟩
  obtain ⟨oc, hoc⟩ : ∃ oc, oc = opC 1 3 b pa ot tx nn := ⟨_, rfl⟩
  have go0 : Hid (oc[0]? = some (.int .u32 1)) := by show _ = _; rw [hoc]; rfl
  have go1 : Hid (oc[1]? = some (.int .i64 3)) := by show _ = _; rw [hoc]; rfl
  have goL : Hid (oc.toList.length = 7) := by show _ = _; rw [hoc]; rfl
  have opS : Hid ((Tryz.prog.info? 25).map (·.size) = some 7) := by show _ = _; kernel_rfl
  rw [← hoc] at HE ⊢
  obtain ⟨w1, hw1⟩ : ∃ w1, w1 = w.alloc (.cells oc 25) := ⟨_, rfl⟩
  have hf1 : Fr NoB w w1 := by rw [hw1]; exact (Fr.refl _ _).alloc _
  have kO : Blk w1 B 25 oc := by rw [hw1, hB]; exact Blk.new _ _ _
  have s1 : w1.heap.size = B + 1 := by rw [hw1, hB, World.size_alloc]
  obtain ⟨zs, hzs⟩ : ∃ zs, zs = ansL 0 := ⟨_, rfl⟩
  obtain ⟨ys, hys⟩ : ∃ ys, ys = ansL 290 := ⟨_, rfl⟩
  have Hz : Hid (((Tryz.prog.info? 51).bind (·.zero)).map (·.cells) = some zs.toArray) := by show _ = _; rw [hzs]; exact ans_zero
  have Lz : Hid (zs.toArray.size = 37) := by show _ = _; rw [hzs]; rfl
  have Ly : Hid (ys.length = 37) := by show _ = _; rw [hys]; rfl
  have Sy : Hid (ys.toArray.size = 37) := by show _ = _; rw [hys]; rfl
  have Oy : Hid (ys.toArray.all (·.oneCell') = true) := by show _ = _; rw [hys]; exact ans_one _
  have HB := Lib.hid hB
  have Hw1 := Lib.hid hw1
  rw [← hys] at HE ⊢
  clear hB hw1 hzs hys hoc
  go_enter Tryz.func7, Tryz.ntmps7
  go_wp2_with (first
    | (refine wpList_alloc_zcK rfl 51 rfl zs.toArray Hz.out ?_
       rw [← Hw1.out, ← HB.out]
       obtain ⟨g4, hg4⟩ : ∃ g4, g4 = w1.heap.size := ⟨_, rfl⟩
       obtain ⟨w2, hw2⟩ : ∃ w2, w2 = w1.alloc (.cells zs.toArray 51) := ⟨_, rfl⟩
       rw [← hw2, ← hg4]
       have f12 : Fr NoB w1 w2 := by rw [hw2]; exact (Fr.refl _ _).alloc _
       have k4 : Blk w2 g4 51 zs.toArray := by rw [hw2, hg4]; exact Blk.new _ _ _
       have hgB : B < g4 := by omega
       have f02 := hf1.trans f12 fun _ _ h => h
       have hW2 := hW.fr f02 id
       have kO2 := kO.fr f12 id
       have c14 : w2.cell? ⟨q, 14, none⟩ = some (.bool true) := (hW2.cell 14).trans rfl
       have c13 : w2.cell? ⟨q, 13, none⟩ = some (.int .i64 0) := (hW2.cell 13).trans rfl
       have o0 : w2.cell? ⟨B, 0, none⟩ = some (.int .u32 1) := (kO2.cell 0).trans go0.out
       have o1 : w2.cell? ⟨B, 1, none⟩ = some (.int .i64 3) := (kO2.cell 1).trans go1.out
       clear hw2 hg4))
  have e12 : w2.drew.cell? ⟨q, 12, none⟩ = some (.slice (some ⟨r0, o0r, none⟩) 3 k) := (hW2.cell 12).trans rfl
  have e0 : w2.drew.cell? ⟨B, 0, none⟩ = some (.int .u32 1) := o0
  have er : w2.drew.cell? ⟨r0, o0r, none⟩ = some (.pointer (some ⟨a0, 0, none⟩)) := by
    have := f02.cell' q0 id
    simpa using this
  have hS : Fr NoB w2.drew w2.drew := Fr.refl _ _
  have wz : IntKind.u32.wrap 0 = 0 := rfl
  refine wp_region_held (S := fun W => Fr NoB w2.drew W) rfl ?_
  refine wpAnyH_take (i := 0) rfl (by decide +kernel) (by decide +kernel) (by decide +kernel) (fun _ _ _ h => h) (Or.inl ⟨by kernel_rfl, fun W hW => by have h12 := hW.cell' e12 id; have h0 := hW.cell' e0 id; have hr := hW.cell' er id; go_simp; with_reducible rfl⟩) hS ?_
  go_simp
  refine wpAnyH_take (i := 1) rfl (by decide +kernel) (by decide +kernel) (by decide +kernel) (fun _ _ _ h => h) (Or.inl ⟨by kernel_rfl, fun W hW => by have h12 := hW.cell' e12 id; have h0 := hW.cell' e0 id; have hr := hW.cell' er id; go_simp; with_reducible rfl⟩) hS ?_
  go_simp
  refine wpAnyH_take (i := 2) rfl (by decide +kernel) (by decide +kernel) (by decide +kernel) (fun _ _ _ h => h) (Or.inl ⟨by kernel_rfl, fun W hW => by have h12 := hW.cell' e12 id; have h0 := hW.cell' e0 id; have hr := hW.cell' er id; go_simp; with_reducible rfl⟩) hS ?_
  go_simp
  refine wpAnyH_take (i := 3) rfl (by decide +kernel) (by decide +kernel) (by decide +kernel) (fun _ _ _ h => h) (Or.inl ⟨by kernel_rfl, fun W hW => by have h12 := hW.cell' e12 id; have h0 := hW.cell' e0 id; have hr := hW.cell' er id; go_simp; with_reducible rfl⟩) hS ?_
  go_simp
  refine wpAnyH_take (i := 4) rfl (by decide +kernel) (by decide +kernel) (by decide +kernel) (fun _ _ _ h => h) (Or.inl ⟨by kernel_rfl, fun W hW => by have h12 := hW.cell' e12 id; have h0 := hW.cell' e0 id; have hr := hW.cell' er id; go_simp; with_reducible rfl⟩) hS ?_
  go_simp
  refine wpAnyH_take (i := 5) rfl (by decide +kernel) (by decide +kernel) (by decide +kernel) (fun _ _ _ h => h) (Or.inl ⟨by kernel_rfl, fun W hW => by have h12 := hW.cell' e12 id; have h0 := hW.cell' e0 id; have hr := hW.cell' er id; go_simp; with_reducible rfl⟩) hS ?_
  go_simp
  refine wpAnyH_take (i := 6) rfl (by decide +kernel) (by decide +kernel) (by decide +kernel) (fun _ _ _ h => h) (Or.inl ⟨by kernel_rfl, fun W hW => by have h12 := hW.cell' e12 id; have h0 := hW.cell' e0 id; have hr := hW.cell' er id; go_simp; with_reducible rfl⟩) hS ?_
  go_simp
  refine wpAnyH_take (i := 7) rfl (by decide +kernel) (by decide +kernel) (by decide +kernel) (fun _ _ _ h => h) (Or.inl ⟨by kernel_rfl, fun W hW => by have h12 := hW.cell' e12 id; have h0 := hW.cell' e0 id; have hr := hW.cell' er id; go_simp; with_reducible rfl⟩) hS ?_
  go_simp
  refine wpAnyH_take (i := 8) rfl (by decide +kernel) (by decide +kernel) (by decide +kernel) (fun _ _ _ h => h) (Or.inl ⟨by kernel_rfl, fun W hW => by have h12 := hW.cell' e12 id; have h0 := hW.cell' e0 id; have hr := hW.cell' er id; go_simp; with_reducible rfl⟩) hS ?_
  go_simp
  refine wpAnyH_take (i := 9) rfl (by decide +kernel) (by decide +kernel) (by decide +kernel) (fun _ _ _ h => h) (Or.inl ⟨by kernel_rfl, fun W hW => by have h12 := hW.cell' e12 id; have h0 := hW.cell' e0 id; have hr := hW.cell' er id; go_simp; with_reducible rfl⟩) hS ?_
  go_simp
  refine wpAnyH_done (by decide +kernel) ?_ _
  obtain ⟨w3, hw3⟩ : ∃ w3, w3 = w2.drew := ⟨_, rfl⟩
  have f23 : Fr NoB w2 w3 := by rw [hw3]; exact Fr.drew (Fr.refl _ _)
  rw [← hw3]
  clear hw3 hS e12 e0 er
  have k43 := k4.fr f23 id
  have kO3 := kO2.fr f23 id
  have all0 : ∀ j u, oc.toList[j]? = some u → w3.cell? ⟨B, 0 + j, none⟩ = some u := fun j u hu => by rw [Nat.zero_add, kO3.cell, ← Array.getElem?_toList]; exact hu
  have f03 := f02.trans f23 fun _ _ h => h
  have ocE : oc.toList.toArray = oc := by simp
  have HE3 := Lib.hid (HE.out w3 f03)
  go_wp2_with (first
    | (refine wpList_load_agg rfl 25 (.tmp 3) rfl B 0 rfl oc.toList _ all0 Tryz.underlying25 rfl (by rw [goL.out]; exact opS.out) ?_
       rw [ocE])
    | (go_at_call 14
       refine HE3.out.mono ?_
       rintro e w4 ⟨rfl, f34⟩
       have k44 := k43.fr f34 id
       obtain ⟨g6, hg6⟩ : ∃ g6, g6 = w4.heap.size := ⟨_, rfl⟩
       have Hg6 := Lib.hid hg6
       clear hg6)
    | (refine wpList_alloc_zcK rfl 51 rfl zs.toArray Hz.out ?_)
    | (refine wpList_store_newN rfl 51 (.tmp 6) (.tmp 66) rfl 37 ans_size _ zs.toArray Lz.out ys.toArray rfl rfl Sy.out Oy.out ?_
       rw [← Hg6.out]
       obtain ⟨w5, hw5⟩ : ∃ w5, w5 = w4.alloc (.cells ys.toArray 51) := ⟨_, rfl⟩
       rw [← hw5]
       have f45 : Fr NoB w4 w5 := by rw [hw5]; exact (Fr.refl _ _).alloc _
       have k6 : Blk w5 g6 51 ys.toArray := by rw [hw5, Hg6.out]; exact Blk.new _ _ _
       have all6 : ∀ j u, ys[j]? = some u → w5.cell? ⟨g6, 0 + j, none⟩ = some u := fun j u hu => by rw [Nat.zero_add, k6.cell]; simpa using hu
       have k45 := k44.fr f45 id
       clear hw5)
    | (refine wpList_load_agg rfl 51 (.tmp 6) rfl g6 0 rfl ys _ all6 Tryz.underlying51 rfl (by rw [Ly.out]; exact ans_size) ?_)
    | (refine wpList_store_rowK rfl 51 (.tmp 4) (.tmp 69) rfl g4 ys.toArray rfl rfl 51 zs.toArray k45 (by rw [Sy.out]; exact ans_size) (by rw [Sy.out, Lz.out]) Oy.out ?_))
  have kk := (setRow_frK (ds := ys.toArray) k45).2
  have fk := (setRow_frK (ds := ys.toArray) k45).1
  refine bodyPost_ret (results_cellK (cs := ys) rfl rfl (fun j v hv => by rw [Nat.zero_add, kk.cell]; simpa using hv) Tryz.underlying51 rfl (by rw [Ly.out]; exact ans_size)) rfl ?_
  have hBw := HB.out
  exact ⟨rfl, ((f03.trans f34 fun _ _ h => h).trans f45 fun _ _ h => h).new fk fun j hj => .inr (by omega)⟩
end Go.Proofs.YtnplamcajjblkaaGreat
