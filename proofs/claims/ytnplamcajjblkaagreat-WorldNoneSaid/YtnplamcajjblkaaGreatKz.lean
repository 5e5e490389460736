/-
  The example of chapter 30, and a world that nobody made (WorldNone's walk). Conditions: each contract states its own.
-/
import Derived.Test.YtnplamcajjblkaaGreatKy
import Derived.Test.YtnplamcajjblkaaGreatKd
import Derived.Test.YtnplamcajjblkaaGreatKc
namespace Go.Proofs.YtnplamcajjblkaaGreat
open Go.RowKit Go.Shelf
attribute [local go_sem] Oper.semAt_some

theorem scr_built (A O : Option Addr) : Tryz.prog.built 33 [(1, .slice A 32 32), (2, .int .i64 100), (4, .int .i64 1), (8, .slice O 2 2)] = some (scrW A 32 32 100 1 O 2 2) := by kernel_rfl
theorem scr_built0 : Tryz.prog.built 33 [] = some (scrW none 0 0 0 0 none 0 0) := by kernel_rfl
theorem op_built1 : Tryz.prog.built 25 [(0, .int .u32 1), (1, .int .i64 3)] = some (opC 1 3 ⟨#[]⟩ ⟨#[]⟩ ⟨#[]⟩ ⟨#[]⟩ 0) := by kernel_rfl
theorem op_built2 : Tryz.prog.built 25 [(0, .int .u32 4)] = some (opC 4 0 ⟨#[]⟩ ⟨#[]⟩ ⟨#[]⟩ ⟨#[]⟩ 0) := by kernel_rfl
theorem opC_arr (cl ki : Int) (b p o t : ByteArray) (n : Int) : (opC cl ki b p o t n).toList.toArray = opC cl ki b p o t n := by simp
theorem WorldAt.c14 {w : World} {q : Nat} {e : Int} {A : Option Addr} {m c : Nat} {rows : List Value} {R : Option Addr} {p k : Nat} {cs : List Nat} (h : WorldAt w q e A m c rows R p k cs) : w.cell? ⟨q, 14, none⟩ = some (.bool true) := by
  obtain ⟨⟨x0, x1, x2, x3, x4, x5, x6, x7, x9, x10, x11, hW⟩, _⟩ := h
  exact (hW.cell 14).trans rfl
/-- The example's ops, and their answers. -/
def opl30 (i : Nat) : List Value := if i = 0 then (opC 1 3 ⟨#[]⟩ ⟨#[]⟩ ⟨#[]⟩ ⟨#[]⟩ 0).toList else (opC 4 0 ⟨#[]⟩ ⟨#[]⟩ ⟨#[]⟩ ⟨#[]⟩ 0).toList
def ans30 (i : Nat) : Int := if i = 0 then 290 else 1
def rows30 : List Value := (opC 1 3 ⟨#[]⟩ ⟨#[]⟩ ⟨#[]⟩ ⟨#[]⟩ 0).toList ++ (opC 4 0 ⟨#[]⟩ ⟨#[]⟩ ⟨#[]⟩ ⟨#[]⟩ 0).toList
theorem play_ex (w : World) (F : Nat → Prop) (A O : Option Addr) (l : List UInt8) (hA : Byt w F A 32 l) (hO : Arr w F 7 O 2 rows30) :
    Calls Tryz.prog 10 #[.agg (scrW A 32 32 100 1 O 2 2)] w fun e w' => ∃ A' c', e = .returned (.slice A' 2 c') ∧ Own w' 51 37 A' 2 c' (ansL 290 ++ ansL 1) ∧ Fr NoB w w' := by
  have h1 : ∀ u ∈ rows30, u.oneCell' = true := by decide
  refine (play_any w F A 32 32 100 1 O 2 2 l rows30 hA hO h1 (by omega) (by omega) (by omega) (fun _ => by omega) (fun _ => rfl) opl30 ans30 ?_ ?_).mono ?_
  · intro i hi
    rcases (by omega : i = 0 ∨ i = 1) with rfl | rfl
    · refine ⟨rfl, fun u hu => h1 u (List.mem_append_left _ hu), fun j u hu => ?_⟩
      have hj : j < 7 := (List.getElem?_eq_some_iff.1 hu).1
      rw [Nat.zero_mul, Nat.zero_add]
      exact (List.getElem?_append_left (by exact hj)).trans hu
    · refine ⟨rfl, fun u hu => h1 u (List.mem_append_right _ hu), fun j u hu => ?_⟩
      refine (List.getElem?_append_right (by show 7 ≤ _; omega)).trans ?_
      rw [show 1 * 7 + j - (opC 1 3 ⟨#[]⟩ ⟨#[]⟩ ⟨#[]⟩ ⟨#[]⟩ 0).toList.length = j by show 1 * 7 + j - 7 = j; omega]
      exact hu
  · intro q er A2 k2 R p kR cs W i hi hW _ h0
    rcases (by omega : i = 0 ∨ i = 1) with rfl | rfl
    · obtain ⟨rfl, hcs⟩ := h0 (by omega)
      have hp : p = 3 := by
        have := hW.2.2.1.len
        rw [List.length_map, hcs] at this
        omega
      subst hp
      have := do_write W q A2 2 k2 rows30 R kR cs ⟨#[]⟩ ⟨#[]⟩ ⟨#[]⟩ ⟨#[]⟩ 0 hW
      rwa [← opC_arr] at this
    · have := do_client4 W q 0 ⟨#[]⟩ ⟨#[]⟩ ⟨#[]⟩ ⟨#[]⟩ 0 hW.c14
      rwa [← opC_arr] at this
  · rintro e w' ⟨A', c', rfl, h1, h2⟩
    exact ⟨A', c', rfl, h1, h2⟩
theorem play_none (w : World) :
    Calls Tryz.prog 10 #[.agg (scrW none 0 0 0 0 none 0 0)] w fun e w' => ∃ A' c', e = .returned (.slice A' 0 c') ∧ Fr NoB w w' := by
  refine (play_any w (fun _ => True) none 0 0 0 0 none 0 0 [] [] (Byt.nil _ _ _) (Arr.none_ w _ 7 none) (fun _ h => absurd h List.not_mem_nil) (by omega) (by omega) (by omega) (fun h => absurd rfl h) (fun h => absurd rfl h) opl30 ans30 (fun i hi => absurd hi (by omega)) (fun _ _ _ _ _ _ _ _ _ i hi => absurd hi (by omega))).mono ?_
  rintro e w' ⟨A', c', rfl, _, h2⟩
  exact ⟨A', c', rfl, h2⟩

set_option maxRecDepth 100000 in
set_option maxHeartbeats 2000000 in
theorem awake30 (w : World) : Calls Tryz.prog 4 #[] w fun e w' => e = .returned (.bool true) ∧ Fr NoB w w' := by
  obtain ⟨B, hB⟩ : ∃ B, B = w.heap.size := ⟨_, rfl⟩
  obtain ⟨z32, hz32⟩ : ∃ z32, z32 = madeCells (Value.int .u8 0).cells (32 * 1) := ⟨_, rfl⟩
  obtain ⟨o1, ho1⟩ : ∃ o1, o1 = opC 1 3 ⟨#[]⟩ ⟨#[]⟩ ⟨#[]⟩ ⟨#[]⟩ 0 := ⟨_, rfl⟩
  obtain ⟨o2, ho2⟩ : ∃ o2, o2 = opC 4 0 ⟨#[]⟩ ⟨#[]⟩ ⟨#[]⟩ ⟨#[]⟩ 0 := ⟨_, rfl⟩
  have b1 : Hid (Tryz.prog.built 25 [(0, .int .u32 1), (1, .int .i64 3)] = some o1) := by show _ = _; rw [ho1]; exact op_built1
  have b2 : Hid (Tryz.prog.built 25 [(0, .int .u32 4)] = some o2) := by show _ = _; rw [ho2]; exact op_built2
  have n1 : Hid (o1.size = 7) := by show _ = _; rw [ho1]; rfl
  have n2 : Hid (o2.size = 7) := by show _ = _; rw [ho2]; rfl
  obtain ⟨w1, hw1⟩ : ∃ w1, w1 = w.alloc (.cells z32 5) := ⟨_, rfl⟩
  have hf1 : Fr NoB w w1 := by rw [hw1]; exact (Fr.refl _ _).alloc _
  have hY1 : Byt w1 (· = B) (some ⟨B, 0, none⟩) 32 (List.replicate 32 (0 : UInt8)) := by
    have kZ : Blk w1 B 5 ((List.replicate 32 (0 : UInt8)).map bv).toArray := by
      rw [hw1, hB, hz32, show madeCells (Value.int .u8 0).cells (32 * 1) = ((List.replicate 32 (0 : UInt8)).map bv).toArray by kernel_rfl]
      exact Blk.new _ _ _
    have := Byt.seg (o := 0) (k := 32) kZ (by simp)
    rwa [List.drop_zero, List.take_of_length_le (by simp)] at this
  have s1 : w1.heap.size = B + 1 := by rw [hw1, hB, World.size_alloc]
  obtain ⟨w2, hw2⟩ : ∃ w2, w2 = w1.alloc (.cells (o1.toList ++ o2.toList).toArray 25) := ⟨_, rfl⟩
  have f12 : Fr NoB w1 w2 := by rw [hw2]; exact (Fr.refl _ _).alloc _
  have aO : Arr w2 (fun j => j = B + 1) 7 (some ⟨B + 1, 0, none⟩) 2 rows30 := by
    have := Arr.new w1 25 (o1.toList ++ o2.toList).toArray 2 7 (by rw [ho1, ho2]; rfl)
    rw [s1] at this
    rw [hw2]
    rw [ho1, ho2] at this ⊢
    exact this
  have HP := Lib.hid (play_ex w2 (fun j => j = B ∨ j = B + 1) (some ⟨B, 0, none⟩) (some ⟨B + 1, 0, none⟩) (List.replicate 32 0) ((hY1.more fun j _ hj => .inl hj).fr f12 fun _ _ => id) (aO.more (fun j _ hj => .inr hj) (by omega)))
  have HB := Lib.hid hB
  have Hw1 := Lib.hid hw1
  have Hw2 := Lib.hid hw2
  rw [hz32] at Hw1
  clear hB hw1 hw2 ho1 ho2 hY1 aO hz32
  go_enter Tryz.func4, Tryz.ntmps4
  go_wp2_with (first
    | (refine wpList_run (by kernel_rfl) (exec_makeK el_u8 (.const (.int .i64 32)) (.const (.int .i64 32)) rfl .i64 .i64 _ 32 rfl rfl rfl (by omega) (by unfold maxLen; omega)) ?_
       rw [← Hw1.out, ← HB.out])
    | (refine wpList_buildK rfl 25 #[(0, .const (.int .u32 1)), (1, .const (.int .i64 3))] rfl [(0, .int .u32 1), (1, .int .i64 3)] rfl o1 b1.out ?_)
    | (refine wpList_buildK rfl 25 #[(0, .const (.int .u32 4))] rfl [(0, .int .u32 4)] rfl o2 b2.out ?_)
    | (refine wpList_build2K rfl el_opW (by omega) (.tmp 3) (.tmp 4) rfl o1 o2 rfl rfl n1.out n2.out ?_
       rw [← Hw2.out, s1])
    | (refine wpList_buildK rfl 33 #[(1, .tmp 2), (2, .const (.int .i64 100)), (4, .const (.int .i64 1)), (8, .tmp 5)] rfl [(1, .slice (some ⟨B, 0, none⟩) 32 32), (2, .int .i64 100), (4, .int .i64 1), (8, .slice (some ⟨B + 1, 0, none⟩) 2 2)] rfl _ (scr_built _ _) ?_)
    | (go_at_call 10
       refine HP.out.mono ?_
       rintro e w3 ⟨A3, c3, rfl, hO3, f23⟩
       obtain ⟨g3, o3, rfl, _, hc3⟩ := (hO3.arr (F := fun _ => True) fun _ _ _ => trivial).2 (by omega)
       have q0 : w3.cell? ⟨g3, o3, none⟩ = some (.int .i64 290) := hc3 0 (.int .i64 290) rfl
       have q1 := hc3 37 (.int .i64 1) rfl
       clear hO3 hc3 HP)
    | (refine wpList_buildK rfl 33 #[] rfl [] rfl _ scr_built0 ?_)
    | (go_at_call 10
       refine (play_none _).mono ?_
       rintro e w4 ⟨A4, c4, rfl, f34⟩))
  go_ret
  exact ⟨rfl, ((hf1.trans f12 fun _ _ h => h).trans f23 fun _ _ h => h).trans f34 fun _ _ h => h⟩
end Go.Proofs.YtnplamcajjblkaaGreat
