/-
  A tree that knows one key (tree.New, Know). Conditions: each contract states its own.
-/
import Derived.Test.YtnplamcajjblkaaGreatKt
namespace Go.Proofs.YtnplamcajjblkaaGreat
open Go.RowKit
open Go.Maps (Keyed)
open Go.ChangeMaps Go.MapKept

/-- A tree in memory whose keys are the map m. -/
def TreeAt (w : World) (q m : Nat) : Prop := q ≠ m ∧ ∃ (s : Value) (o : Value), Blk w q 209 #[s, .map (some m), o] ∧ ∃ l, l.length < 2 ∧ RawMap Tryz.prog 254 (fun _ : Unit => True) (fun _ => spanLit) w m l
set_option maxRecDepth 100000 in
set_option maxHeartbeats 2000000 in
theorem treeOk_any (w : World) (q m : Nat) (h : TreeAt w q m) : Calls Tryz.prog 113 #[.pointer (some ⟨q, 0, none⟩)] w fun e w' => e = .returned (.bool true) ∧ w' = w := by
  obtain ⟨_, s, o, h1, _⟩ := h
  have hne : ∀ (w : World) (r : Option Nat), (binOp .neq 206 (.map r) (.map none)).run Tryz.prog w = .ok (.bool (!r.isNone)) w := fun w r => run_neq_map_nil w _ _ _ r Tryz.underlying206
  have c1 : w.cell? ⟨q, 1, none⟩ = some (.map (some m)) := (h1.cell 1).trans rfl
  go_enter Tryz.func113, Tryz.ntmps113
  go_wp2
  go_ret
  exact ⟨rfl, rfl⟩
theorem rk_size : (Tryz.prog.info? 104).map (·.size) = some 34 := by kernel_rfl
theorem span_built : Tryz.prog.built 254 [(0, .int .u32 1), (1, .int .u32 0)] = some #[.int .u32 1, .int .u32 0] := by kernel_rfl
set_option maxRecDepth 100000 in
set_option maxHeartbeats 2000000 in
theorem know_any (w : World) (q m : Nat) (ks : List Value) (hk : ks.length = 32) (h : TreeAt w q m) :
    Calls Tryz.prog 89 #[.pointer (some ⟨q, 0, none⟩), .agg (.int .u32 1 :: .int .u32 0 :: ks).toArray] w fun e w' => (∃ v, e = .returned v) ∧ Fr (· = m) w w' := by
  obtain ⟨hqm, s, o, h1, l, hl, hM⟩ := h
  have hml := hM.lt
  have hq := h1.lt
  obtain ⟨ys, hys⟩ : ∃ ys, ys = (.int .u32 1 :: .int .u32 0 :: ks : List Value) := ⟨_, rfl⟩
  obtain ⟨B, hB⟩ : ∃ B, B = w.heap.size := ⟨_, rfl⟩
  obtain ⟨w2, hw2⟩ : ∃ w2, w2 = w.alloc (.cells ys.toArray 104) := ⟨_, rfl⟩
  have hf2 : Fr NoB w w2 := by rw [hw2]; exact (Fr.refl _ _).alloc _
  have kY : Blk w2 B 104 ys.toArray := by rw [hw2, hB]; exact Blk.new _ _ _
  have h12 := h1.fr hf2 id
  have hM2 := hM.fr hf2 id
  have HO := Lib.hid (treeOk_any w2 q m ⟨hqm, s, o, h12, l, hl, hM2⟩)
  have HB := Lib.hid hB
  have Hw2 := Lib.hid hw2
  rw [← hys]
  have y0 : w2.drew.cell? ⟨B, 0, none⟩ = some (.int .u32 1) := (kY.cell 0).trans (by rw [hys]; rfl)
  have y1 : w2.drew.cell? ⟨B, 1, none⟩ = some (.int .u32 0) := (kY.cell 1).trans (by rw [hys]; rfl)
  have yk : ∀ j u, ks[j]? = some u → w2.drew.cell? ⟨B, 2 + j, none⟩ = some u := fun j u hu => (kY.cell (2 + j)).trans (by rw [hys, Nat.add_comm]; simpa using hu)
  have c1 : w2.drew.cell? ⟨q, 1, none⟩ = some (.map (some m)) := (h12.cell 1).trans rfl
  have Hk := Lib.hid hk
  obtain ⟨w3, hput, hM3, hf3, _⟩ := (hM2.fr (Fr.drew (Fr.refl NoB w2)) id).put span_as Tryz.underlying206 (by unfold maxLen; omega) () trivial (.agg ks.toArray)
  have hBm : ¬ B = m := by omega
  have hS : Fr (· = m) w2.drew w2.drew := Fr.refl _ _
  clear hB hw2 hys hk
  go_enter Tryz.func89, Tryz.ntmps89
  go_wp2_with (first
    | rw [← Hw2.out, ← HB.out]
    | (go_at_call 113; refine HO.out.mono ?_; rintro e w1 ⟨rfl, h1⟩; rw [h1]))
  refine wp_region_held (S := fun W => Fr (· = m) w2.drew W) rfl ?_
  refine wpAnyH_take (i := 0) rfl (by decide +kernel) (by decide +kernel) (by decide +kernel) (fun _ _ _ h => h) (Or.inl ⟨by kernel_rfl, fun W hW => by have e0 := hW.cell' c1 hqm; have e1 := hW.cell' y0 hBm; have e2 := hW.cell' y1 hBm; go_simp; with_reducible rfl⟩) hS ?_
  go_simp
  refine wpAnyH_take (i := 1) rfl (by decide +kernel) (by decide +kernel) (by decide +kernel) (fun _ _ _ h => h) (Or.inl ⟨by kernel_rfl, fun W hW => by have e0 := hW.cell' c1 hqm; have e1 := hW.cell' y0 hBm; have e2 := hW.cell' y1 hBm; go_simp; with_reducible rfl⟩) hS ?_
  go_simp
  refine wpAnyH_take (i := 2) rfl (by decide +kernel) (by decide +kernel) (by decide +kernel) (fun _ _ _ h => h) (Or.inl ⟨by kernel_rfl, fun W hW => by have e0 := hW.cell' c1 hqm; have e1 := hW.cell' y0 hBm; have e2 := hW.cell' y1 hBm; go_simp; with_reducible rfl⟩) hS ?_
  go_simp
  refine wpAnyH_take (i := 3) rfl (by decide +kernel) (by decide +kernel) (by decide +kernel) (fun _ _ _ h => h) (Or.inl ⟨by kernel_rfl, fun W hW => by have e0 := hW.cell' c1 hqm; have e1 := hW.cell' y0 hBm; have e2 := hW.cell' y1 hBm; go_simp; with_reducible rfl⟩) hS ?_
  go_simp
  refine wpAnyH_take (i := 4) rfl (by decide +kernel) (by decide +kernel) (by decide +kernel) (fun _ _ _ h => h) (Or.inl ⟨by kernel_rfl, fun W hW => by have e0 := hW.cell' c1 hqm; have e1 := hW.cell' y0 hBm; have e2 := hW.cell' y1 hBm; go_simp; with_reducible rfl⟩) hS ?_
  go_simp
  refine wpAnyH_take (i := 5) rfl (by decide +kernel) (by decide +kernel) (by decide +kernel) (fun _ _ _ h => h) (Or.inl ⟨by kernel_rfl, fun W hW => by have e0 := hW.cell' c1 hqm; have e1 := hW.cell' y0 hBm; have e2 := hW.cell' y1 hBm; go_simp; with_reducible rfl⟩) hS ?_
  go_simp
  refine wpAnyH_take (i := 6) rfl (by decide +kernel) (by decide +kernel) (by decide +kernel) (fun _ _ _ h => h) (Or.inl ⟨by kernel_rfl, fun W hW => by have e0 := hW.cell' c1 hqm; have e1 := hW.cell' y0 hBm; have e2 := hW.cell' y1 hBm; go_simp; with_reducible rfl⟩) hS ?_
  go_simp
  refine wpAnyH_take (i := 7) rfl (by decide +kernel) (by decide +kernel) (by decide +kernel) (fun _ _ _ h => h) (Or.inl ⟨by kernel_rfl, fun W hW => by have e0 := hW.cell' c1 hqm; have e1 := hW.cell' y0 hBm; have e2 := hW.cell' y1 hBm; go_simp; with_reducible rfl⟩) hS ?_
  go_simp
  refine wpAnyH_take (i := 8) rfl (by decide +kernel) (by decide +kernel) (by decide +kernel) (fun _ _ _ h => h) (Or.inl ⟨by kernel_rfl, fun W hW => by exact exec_buildK 254 #[(0, .tmp 11), (1, .tmp 13)] rfl [(0, .int .u32 1), (1, .int .u32 0)] rfl _ span_built⟩) hS ?_
  go_simp
  refine wpAnyH_take (i := 9) rfl (by decide +kernel) (by decide +kernel) (by decide +kernel) (fun _ _ _ h => h) (Or.inl ⟨by kernel_rfl, fun W hW => by have e0 := hW.cell' c1 hqm; have e1 := hW.cell' y0 hBm; have e2 := hW.cell' y1 hBm; go_simp; with_reducible rfl⟩) hS ?_
  go_simp
  refine wpAnyH_take (i := 10) rfl (by decide +kernel) (by decide +kernel) (by decide +kernel) (fun _ _ _ h => h) (Or.inl ⟨by kernel_rfl, fun W hW => by exact exec_load_agg 96 (.tmp 15) rfl B 2 rfl ks _ (fun j u hu => hW.cell' (yk j u hu) hBm) Tryz.underlying96 rfl (by rw [Hk.out]; exact key_sizeK)⟩) hS ?_
  go_simp
  refine wpAnyH_all (rs := [11]) (by decide +kernel) (by simp) ?_
  intro i hi
  simp only [List.mem_cons, List.not_mem_nil, or_false] at hi
  subst hi
  refine wpOp_skip (w' := w3) rfl (by kernel_rfl) (by unfold execOp; simp only [Act.eval]; simp [hput, Result.andThen]) ?_
  refine ⟨hf3, ?_⟩
  refine wpAnyH_done (by decide +kernel) ?_ _
  go_wp2
  go_end0
  exact ⟨⟨_, rfl⟩, (((hf2.mono (S' := fun k => k = m) fun _ _ h => h.elim).drew).trans hf3 fun _ _ h => h)⟩
theorem rk_zero : ((Tryz.prog.info? 104).bind (·.zero)).map (·.cells.size) = some 34 := by kernel_rfl
theorem tree_built (s : Nat) (a b : Nat) : Tryz.prog.built 209 [(0, .pointer (some ⟨s, 0, none⟩)), (1, .map (some a)), (2, .map (some b))] = some #[.pointer (some ⟨s, 0, none⟩), .map (some a), .map (some b)] := by kernel_rfl
set_option maxRecDepth 100000 in
set_option maxHeartbeats 2000000 in
theorem treeNew_any (w : World) (s b o c : Nat) (ks : List Value) (hk : ks.length = 32) (h1k : ∀ v ∈ ks, v.oneCell' = true) (hc : ∀ j u, (.int .u32 1 :: .int .u32 0 :: ks : List Value)[j]? = some u → w.cell? ⟨b, o + j, none⟩ = some u) :
    Calls Tryz.prog 41 #[.pointer (some ⟨s, 0, none⟩), .slice (some ⟨b, o, none⟩) 1 c] w fun e w' => ∃ q, e = .returned (.pointer (some ⟨q, 0, none⟩)) ∧ Fr NoB w w' := by
  have hmm := @run_makeMap Tryz.prog
  obtain ⟨B, hB⟩ : ∃ B, B = w.heap.size := ⟨_, rfl⟩
  obtain ⟨w2, hw2⟩ : ∃ w2, w2 = ((w.alloc (.map #[] 0)).alloc (.map #[] 0)).alloc (.cells #[.pointer (some ⟨s, 0, none⟩), .map (some w.heap.size), .map (some (w.heap.size + 1))] 209) := ⟨_, rfl⟩
  have hf2 : Fr NoB w w2 := by rw [hw2]; exact (((Fr.refl _ _).alloc _).alloc _).alloc _
  have hT : TreeAt w2 (B + 2) B := by
    refine ⟨by omega, .pointer (some ⟨s, 0, none⟩), .map (some (B + 1)), ?_, [], by simp, ?_⟩
    · rw [hw2, hB]
      have := Blk.new ((w.alloc (.map #[] 0)).alloc (.map #[] 0)) 209 #[.pointer (some ⟨s, 0, none⟩), .map (some w.heap.size), .map (some (w.heap.size + 1))]
      simp only [World.size_alloc] at this
      exact this
    · rw [hw2, hB]
      exact ((RawMap.new w).fr ((Fr.refl NoB _).alloc _) id).fr ((Fr.refl NoB _).alloc _) id
  have HB := Lib.hid hB
  have Hw2 := Lib.hid hw2
  clear hB hw2
  go_enter Tryz.func41, Tryz.ntmps41
  go_wp2_with (first
    | (refine wpList_buildK rfl 209 #[(0, .tmp 8), (1, .tmp 9), (2, .tmp 10)] rfl [(0, .pointer (some ⟨s, 0, none⟩)), (1, .map (some w.heap.size)), (2, .map (some (w.heap.size + 1)))] rfl _ (tree_built _ _ _) ?_)
    | rw [← Hw2.out, ← HB.out])
  obtain ⟨ys, hys⟩ : ∃ ys, ys = (.int .u32 1 :: .int .u32 0 :: ks : List Value) := ⟨_, rfl⟩
  have Ly : Hid (ys.length = 34) := by show _ = _; rw [hys]; simp [hk]
  have Sy : Hid (ys.toArray.size = 34) := by show _ = _; rw [List.size_toArray]; exact Ly.out
  have Oy : Hid (ys.toArray.all (·.oneCell') = true) := by
    show _ = _
    rw [Array.all_eq_true_iff_forall_mem, hys]
    intro u hu
    rcases List.mem_cons.1 (List.mem_toArray.1 hu) with rfl | hu
    · rfl
    · rcases List.mem_cons.1 hu with rfl | hu
      · rfl
      · exact h1k u hu
  have HK : Hid (∀ W, TreeAt W (B + 2) B → Calls Tryz.prog 89 #[.pointer (some ⟨B + 1 + 1, 0, none⟩), .agg ys.toArray] W fun e w' => (∃ v, e = .returned v) ∧ Fr (· = B) W w') := by
    intro W hW
    rw [hys]
    exact know_any W (B + 2) B ks hk hW
  rw [← hys] at hc
  have Hc := Lib.hid hc
  clear hys hk h1k hc
  go_loopw [15] (fun v wr => ∃ i : Nat, i ≤ 1 ∧ v = .int .i64 i ∧ Fr NoB w wr ∧ (i = 0 → TreeAt wr (B + 2) B)) (fun v _ => 1 - (intOf v).toNat)
  case atStart => exact ⟨0, by omega, rfl, hf2, fun _ => hT⟩
  case round =>
    obtain ⟨i, hi, rfl, hf4, hT4⟩ := hrel
    obtain ⟨w4, rfl⟩ : ∃ w4 : World, w4 = wr := ⟨_, rfl⟩
    rcases (by omega : i = 0 ∨ i = 1) with rfl | rfl
    · have hT4 := hT4 rfl
      have hc4 : ∀ j u, ys[j]? = some u → w4.cell? ⟨b, o + j, none⟩ = some u := fun j u hu => hf4.cell' (Hc.out j u hu) id
      have hB4 : B < w4.heap.size := by
        obtain ⟨_, _, _, _, _, _, hM⟩ := hT4
        exact hM.lt
      go_wp2_with (first
        | (refine wpList_load_agg rfl 104 (.tmp 17) rfl b o rfl ys _ hc4 Tryz.underlying104 rfl (by rw [Ly.out]; exact rk_size) ?_)
        | (refine wpList_alloc_any rfl 104 rfl 34 rk_zero ?_; intro z hz; have Hz := Lib.hid hz; clear hz)
        | (refine wpList_store_newN rfl 104 (.tmp 7) (.tmp 18) rfl 34 rk_size _ z Hz.out ys.toArray rfl rfl Sy.out Oy.out ?_
           clear Hz
           obtain ⟨g, hg⟩ : ∃ g, g = w4.heap.size := ⟨_, rfl⟩
           obtain ⟨w5, hw5⟩ : ∃ w5, w5 = w4.alloc (.cells ys.toArray 104) := ⟨_, rfl⟩
           rw [← hw5]
           rw [← hg]
           have f45 : Fr NoB w4 w5 := by rw [hw5]; exact (Fr.refl _ _).alloc _
           have kG : Blk w5 g 104 ys.toArray := by rw [hw5, hg]; exact Blk.new _ _ _
           have hG : ∀ j u, ys[j]? = some u → w5.cell? ⟨g, 0 + j, none⟩ = some u := fun j u hu => by rw [Nat.zero_add, kG.cell]; simpa using hu
           have hT5 : TreeAt w5 (B + 2) B := by
             obtain ⟨t1, t2, t3, t4, t5, t6, t7⟩ := hT4
             exact ⟨t1, t2, t3, t4.fr f45 id, t5, t6, t7.fr f45 id⟩
           have H := Lib.hid (HK.out w5 hT5)
           clear hw5 hg hc4)
        | (refine wpList_load_agg rfl 104 (.tmp 7) rfl g 0 rfl ys _ hG Tryz.underlying104 rfl (by rw [Ly.out]; exact rk_size) ?_)
        | (go_at_call 89
           refine H.out.mono ?_
           rintro e w6 ⟨⟨v, rfl⟩, f56⟩))
      go_roundw
      case rel => exact ⟨1, by omega, by go_num, (hf4.trans f45 fun _ _ h => h).new f56 fun j hj => .inr (by have := HB.out; omega), fun h => by omega⟩
      case measure => (simp [intOf] <;> omega)
    · go_wp2
      go_ret
      exact ⟨_, rfl, hf4⟩
end Go.Proofs.YtnplamcajjblkaaGreat
