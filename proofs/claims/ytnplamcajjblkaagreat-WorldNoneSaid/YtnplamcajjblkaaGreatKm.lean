/-
  A log of a region without records is opened (slog.Open). Conditions: the contract states its own.
-/
import Derived.Test.YtnplamcajjblkaaGreatKl
import Derived.WalkMore
namespace Go.Proofs.YtnplamcajjblkaaGreat
open Go.RowKit

theorem region_built (p f n g : Nat) : Tryz.prog.built 223 [(0, .pointer (some ⟨p, 0, none⟩)), (1, .int .i64 (f : Int)), (2, .int .i64 (n : Int)), (3, .int .u32 (g : Int))] = some #[.pointer (some ⟨p, 0, none⟩), .int .i64 (f : Int), .int .i64 (n : Int), .int .u32 (g : Int)] := by kernel_rfl
theorem log_built (p f n g : Nat) : Tryz.prog.built 226 [(0, .agg #[.pointer (some ⟨p, 0, none⟩), .int .i64 (f : Int), .int .i64 (n : Int), .int .u32 (g : Int)]), (4, .bool true)] = some #[.pointer (some ⟨p, 0, none⟩), .int .i64 (f : Int), .int .i64 (n : Int), .int .u32 (g : Int), .int .i64 0, .slice none 0 0, .bool false, .bool true] := by kernel_rfl

set_option maxRecDepth 100000 in
set_option maxHeartbeats 4000000 in
theorem openFresh_any (w : World) (p r n k f m gen : Nat) (secs : List (List UInt8)) (h : DiskAt w p r n k secs) (sec : List UInt8) (hs : secs[f]? = some sec) (hd : dueF gen 0 m sec = (0, false)) (h1 : 2 ≤ m) (h2 : f + m ≤ n) (hn : n ≤ 1000000) (hg : gen < 4294967296) :
    Calls Tryz.prog 47 #[.pointer (some ⟨p, 0, none⟩), .int .i64 (f : Int), .int .i64 (m : Int), .int .u32 (gen : Int)] w fun e w' => ∃ q, e = .returned (.tuple #[.pointer (some ⟨q, 0, none⟩), .int .i64 0]) ∧ w.heap.size ≤ q ∧ LogAt w' q p f m gen 0 none 0 0 false ∧ Fr NoB w w' := by
  have hsl : sec.length = 64 := h.all sec (List.mem_of_getElem? hs)
  obtain ⟨B, hB⟩ : ∃ B, B = w.heap.size := ⟨_, rfl⟩
  obtain ⟨w2, hw2⟩ : ∃ w2, w2 = w.alloc (.cells #[.pointer (some ⟨p, 0, none⟩), .int .i64 (f : Int), .int .i64 (m : Int), .int .u32 (gen : Int), .int .i64 0, .slice none 0 0, .bool false, .bool true] 226) := ⟨_, rfl⟩
  have hf2 : Fr NoB w w2 := by rw [hw2]; exact (Fr.refl _ _).alloc _
  have kL : LogAt w2 B p f m gen 0 none 0 0 false := by rw [hw2, hB]; exact Blk.new _ _ _
  have hD2 := h.fr hf2 id id
  have HI := Lib.hid (regionIs_any w2 p r n k f m gen secs hD2 h1 h2 hn)
  have HR := fun (W : World) (hW : Fr NoB w W) => diskRead_any W p r n k f secs (h.fr hW id id) sec hs
  have HR := Lib.hid HR
  obtain ⟨ys, hys⟩ : ∃ ys, ys = sec.map bv := ⟨_, rfl⟩
  have hq : ∀ W, Fr NoB w2 W → Calls Tryz.prog 95 #[.pointer (some ⟨B, 0, none⟩), .agg ys.toArray] W fun e w' => e = .returned (.tuple #[.int .i64 0, .bool false]) ∧ Fr NoB W w' := fun W hW => by
    have := due_any W B p f m gen 0 none 0 0 false sec (Blk.fr kL hW id) hsl hg (by omega) (by omega) (by omega)
    rw [Nat.sub_zero, hd] at this
    rw [hys]
    exact this
  have Ly : Hid (ys.length = 64) := by show _ = _; rw [hys, List.length_map]; exact hsl
  have Oy : Hid (∀ v ∈ ys, v.oneCell' = true) := by show _; rw [hys]; exact bv_one _
  have HQ := Lib.hid hq
  rw [← hys] at HR
  obtain ⟨zs, hzs⟩ : ∃ zs, zs = (List.replicate 64 (0 : UInt8)).map bv := ⟨_, rfl⟩
  have Hz : Hid (((Tryz.prog.info? 200).bind (·.zero)).map (·.cells) = some zs.toArray) := by show _ = _; rw [hzs]; exact sec_zero
  have Hzl : Hid (zs.toArray.size = 64) := by show _ = _; rw [hzs]; simp
  have Sy : Hid (ys.toArray.size = 64) := by show _ = _; rw [List.size_toArray]; exact Ly.out
  have Ay : Hid (ys.toArray.all (·.oneCell') = true) := by show _ = _; rw [hys]; exact sec_cells _
  clear hzs
  have HB := Lib.hid hB
  have Hw2 := Lib.hid hw2
  have b1 : decide ((0 : Int) < (m : Int)) = true := by simp only [decide_eq_true_eq]; omega
  clear hB hw2 hq hd hys hs
  have l4 := kL.cell 4
  have Hreg : ∀ j u, (#[.pointer (some ⟨p, 0, none⟩), .int .i64 (f : Int), .int .i64 (m : Int), .int .u32 (gen : Int)] : Array Value).toList[j]? = some u → w2.cell? ⟨B, 0 + j, none⟩ = some u := fun j u hu => by
    rw [Nat.zero_add, kL.cell]
    match j, hu with
    | 0, hu => exact hu
    | 1, hu => exact hu
    | 2, hu => exact hu
    | 3, hu => exact hu
    | j + 4, hu => simp at hu
  go_enter Tryz.func47, Tryz.ntmps47
  go_wp2
  go_step3
  go_wp2_with (first
    | (refine wpList_buildK rfl 223 #[(0, .tmp 16), (1, .tmp 17), (2, .tmp 18), (3, .tmp 19)] rfl [(0, .pointer (some ⟨p, 0, none⟩)), (1, .int .i64 (f : Int)), (2, .int .i64 (m : Int)), (3, .int .u32 (gen : Int))] rfl _ (region_built p f m gen) ?_)
    | (refine wpList_buildK rfl 226 #[(0, .tmp 20), (4, .const (.bool true))] rfl [(0, .agg #[.pointer (some ⟨p, 0, none⟩), .int .i64 (f : Int), .int .i64 (m : Int), .int .u32 (gen : Int)]), (4, .bool true)] rfl _ (log_built p f m gen) ?_)
    | rw [← Hw2.out, ← HB.out]
    | (refine wpList_load_agg rfl 223 (.tmp 25) rfl B 0 rfl _ _ Hreg Tryz.underlying223 rfl (by kernel_rfl) ?_)
    | (go_at_call 94
       refine HI.out.mono ?_
       rintro e w3 ⟨rfl, hf3⟩))
  go_step3
  go_wp2
  go_loopw [] (fun wr => Fr NoB w3 wr) (fun _ => 1)
  case atStart => exact Fr.refl _ _
  case round =>
    obtain ⟨w4, rfl⟩ : ∃ w4 : World, w4 = wr := ⟨_, rfl⟩
    have f24 : Fr NoB w2 w4 := hf3.trans hrel fun _ _ h => h
    have l4' := f24.cell' l4 id
    go_wp2_with (first
      | (go_at_call 92
         refine (HR.out w4 (hf2.trans f24 fun _ _ h => h)).mono ?_
         rintro e w5 ⟨rfl, hf5⟩
         obtain ⟨g, hg2⟩ : ∃ g, g = w5.heap.size := ⟨_, rfl⟩
         have f25 : Fr NoB w2 w5 := f24.trans hf5 fun _ _ h => h)
      | (refine wpList_alloc_zcK rfl 200 rfl zs.toArray Hz.out ?_
         obtain ⟨w6, hw6⟩ : ∃ w6, w6 = w5.alloc (.cells zs.toArray 200) := ⟨_, rfl⟩
         rw [← hw6, ← hg2]
         have k6 : Blk w6 g 200 zs.toArray := by rw [hw6, hg2]; exact Blk.new _ _ _
         have f26 : Fr NoB w2 w6 := by rw [hw6]; exact f25.alloc _
         have s26 := f25.size
         have k7 := (setRow_frK (ds := ys.toArray) k6).2
         have f27 : Fr NoB w2 (w6.setRow g ys.toArray) := f26.new (setRow_frK k6).1 fun j hj => .inr (by omega)
         have all7 : ∀ j u, ys[j]? = some u → (w6.setRow g ys.toArray).cell? ⟨g, 0 + j, none⟩ = some u := fun j u hu => by rw [Nat.zero_add, k7.cell]; simpa using hu
         clear hw6 hg2)
      | (refine wpList_store_rowK rfl 200 (.tmp 11) (.tmp 44) rfl g ys.toArray rfl rfl 200 zs.toArray k6 (by rw [Sy.out]; exact sec_size) (by rw [Sy.out, Hzl.out]) Ay.out ?_
         obtain ⟨w7, hw7⟩ : ∃ w7, w7 = w6.setRow g ys.toArray := ⟨_, rfl⟩
         rw [← hw7] at f27 all7 ⊢
         clear hw7 k7)
      | (refine wpList_load_agg rfl 200 (.tmp 11) rfl g 0 rfl ys _ all7 Tryz.underlying200 rfl (by rw [Ly.out]; exact sec_size) ?_)
      | (go_at_call 95
         refine (HQ.out w7 f27).mono ?_
         rintro e w8 ⟨rfl, hf8⟩))
    rw [Exit.noGoto_ret]
    go_ret2
    exact ⟨B, rfl, by rw [HB.out]; exact Nat.le_refl _, Blk.fr kL (f27.trans hf8 fun _ _ h => h) id, (hf2.trans f27 fun _ _ h => h).trans hf8 fun _ _ h => h⟩
end Go.Proofs.YtnplamcajjblkaaGreat
