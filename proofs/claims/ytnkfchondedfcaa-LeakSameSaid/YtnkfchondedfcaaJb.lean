/-
  Seals held against each other: slices.EqualFunc, leak.Same. Conditions: each contract states its own.
-/
import Derived.Test.YtnkfchondedfcaaJa
namespace Go.Proofs.Ytnkfchondedfcaa
open Go.RowKit

theorem seal_size : (Try.prog.info? 41).map (·.size) = some 6 := by kernel_rfl
theorem seal_zero : ((Try.prog.info? 41).bind (·.zero)).map (·.cells.size) = some 6 := by kernel_rfl
theorem SealR.one {w : World} {F : Nat → Prop} {y : List Value} {s : Seal} (h : SealR w F y s) : y.toArray.all (·.oneCell') = true := by
  obtain ⟨A, n, c, rfl, _⟩ := h
  simp [Value.oneCell']

set_option maxRecDepth 100000 in
set_option maxHeartbeats 2000000 in
theorem EqSeals_any (w : World) (F G : Nat → Prop) (A B : Option Addr) (n c m d : Nat) (xs ys : List Seal) (hx : Seals w F A n xs) (hy : Seals w G B m ys) (hn : n ≤ 9223372036854775807) :
    Calls Try.prog 77 #[.slice A n c, .slice B m d, .func (.func 78) #[] #[]] w fun e w' => e = .returned (.bool (decide (xs = ys))) ∧ Fr NoB w w' := by
  have hxl := hx.len
  have hyl := hy.len
  by_cases hnm : n = m
  · subst hnm
    have Hxl := Lib.hid hxl
    have Hyl := Lib.hid hyl
    clear hxl hyl
    go_enter Try.func77, Try.ntmps77
    go_wp2
    go_loopw [17] (fun i wr => ∃ k : Nat, k ≤ n ∧ i = .int .i64 k ∧ xs.take k = ys.take k ∧ Fr NoB w wr) (fun i _ => n - (intOf i).toNat)
    case atStart => exact ⟨0, by omega, rfl, rfl, Fr.refl _ _⟩
    case round =>
      obtain ⟨k, hk, rfl, hpre, hF⟩ := hrel
      obtain ⟨w1, rfl⟩ : ∃ w1 : World, w1 = wr := ⟨_, rfl⟩
      have Hpre := Lib.hid hpre
      clear hpre
      by_cases hkn : k < n
      · obtain ⟨b1, o1, x, y1, rfl, _, gx, ly1, hr1, hc1⟩ := (hx.fr hF fun _ _ => id).at_ hkn
        obtain ⟨b2, o2, y, y2, rfl, _, gy, ly2, hr2, hc2⟩ := (hy.fr hF fun _ _ => id).at_ hkn
        have Ly1 : Hid (y1.length = 6) := ly1
        have Ly2 : Hid (y2.length = 6) := ly2
        have Ls1 : Hid (y1.toArray.size = 6) := by show _ = _; simpa using ly1
        have Ls2 : Hid (y2.toArray.size = 6) := by show _ = _; simpa using ly2
        have H1 := Lib.hid hr1.one
        have H2 := Lib.hid hr2.one
        have Hex := Lib.hid (take_snoc_of gx)
        have Hey := Lib.hid (take_snoc_of gy)
        have Hne := Lib.hid (ne_of_at gx gy)
        have hc2' : ∀ (j : Nat) (u : Value), y2[j]? = some u → (w1.alloc (.cells y1.toArray 41)).cell? ⟨b2, o2 + k * 6 + j, none⟩ = some u := fun j u hu => ((Fr.refl NoB w1).alloc _).cell' (hc2 j u hu) id
        have hB1 : Blk ((w1.alloc (.cells y1.toArray 41)).alloc (.cells y2.toArray 41)) w1.heap.size 41 y1.toArray := (Blk.new _ _ _).alloc _
        have hB2 : Blk ((w1.alloc (.cells y1.toArray 41)).alloc (.cells y2.toArray 41)) (w1.heap.size + 1) 41 y2.toArray := by simpa using Blk.new (w1.alloc (.cells y1.toArray 41)) 41 y2.toArray
        have hd1 : ∀ (j : Nat) (u : Value), y1[j]? = some u → ((w1.alloc (.cells y1.toArray 41)).alloc (.cells y2.toArray 41)).cell? ⟨w1.heap.size, 0 + j, none⟩ = some u := fun j u hu => by rw [Nat.zero_add, hB1.cell]; simpa using hu
        have hd2 : ∀ (j : Nat) (u : Value), y2[j]? = some u → ((w1.alloc (.cells y1.toArray 41)).alloc (.cells y2.toArray 41)).cell? ⟨w1.heap.size + 1, 0 + j, none⟩ = some u := fun j u hu => by rw [Nat.zero_add, hB2.cell]; simpa using hu
        have hf2 : Fr NoB w1 ((w1.alloc (.cells y1.toArray 41)).alloc (.cells y2.toArray 41)) := ((Fr.refl _ _).alloc _).alloc _
        have hcall := sealEq_any ((w1.alloc (.cells y1.toArray 41)).alloc (.cells y2.toArray 41)) F G y1 y2 x y (hr1.fr hf2 fun _ _ => id) (hr2.fr hf2 fun _ _ => id)
        have Hcall := Lib.hid hcall
        clear gx gy hr1 hr2 ly1 ly2 hB1 hB2 hcall
        by_cases hxy : x = y
        · have hxy' : Hid (decide (x = y) = true) := decide_eq_true hxy
          have Hxy := Lib.hid hxy
          clear hxy
          go_wp2_with (first
            | (refine wpList_load_agg rfl 41 (.tmp 20) rfl b1 (o1 + k * 6) rfl y1 _ hc1 Try.underlying41 rfl (by rw [Ly1.out]; exact seal_size) ?_)
            | (refine wpList_alloc_any rfl 41 rfl 6 seal_zero ?_; intro z hz; have Hz := Lib.hid hz; clear hz)
            | (refine wpList_store_newN rfl 41 (.tmp 8) (.tmp 21) rfl 6 seal_size _ z Hz.out y1.toArray rfl rfl Ls1.out H1.out ?_; clear Hz)
            | (refine wpList_load_agg rfl 41 (.tmp 24) rfl b2 (o2 + k * 6) rfl y2 _ hc2' Try.underlying41 rfl (by rw [Ly2.out]; exact seal_size) ?_)
            | (refine wpList_store_newN rfl 41 (.tmp 9) (.tmp 25) rfl 6 seal_size _ z Hz.out y2.toArray rfl rfl Ls2.out H2.out ?_; clear Hz)
            | (refine wpList_load_agg rfl 41 (.tmp 8) rfl w1.heap.size 0 rfl y1 _ hd1 Try.underlying41 rfl (by rw [Ly1.out]; exact seal_size) ?_)
            | (refine wpList_load_agg rfl 41 (.tmp 9) rfl (w1.heap.size + 1) 0 rfl y2 _ hd2 Try.underlying41 rfl (by rw [Ly2.out]; exact seal_size) ?_)
            | (go_at_call 78; refine Hcall.out.mono ?_; rw [hxy'.out]; rintro e w3 ⟨rfl, hf3⟩))
          go_roundw
          case rel => exact ⟨k + 1, by omega, by go_num, by rw [Hex.out, Hey.out, Hpre.out, Hxy.out], (hF.trans hf2 fun _ _ => id).trans hf3 fun _ _ => id⟩
          case measure => simp [intOf]; omega
        · have hxy' : Hid (decide (x = y) = false) := decide_eq_false hxy
          have hne := Lib.hid (decide_eq_false (Hne.out hxy))
          clear hxy
          go_wp2_with (first
            | (refine wpList_load_agg rfl 41 (.tmp 20) rfl b1 (o1 + k * 6) rfl y1 _ hc1 Try.underlying41 rfl (by rw [Ly1.out]; exact seal_size) ?_)
            | (refine wpList_alloc_any rfl 41 rfl 6 seal_zero ?_; intro z hz; have Hz := Lib.hid hz; clear hz)
            | (refine wpList_store_newN rfl 41 (.tmp 8) (.tmp 21) rfl 6 seal_size _ z Hz.out y1.toArray rfl rfl Ls1.out H1.out ?_; clear Hz)
            | (refine wpList_load_agg rfl 41 (.tmp 24) rfl b2 (o2 + k * 6) rfl y2 _ hc2' Try.underlying41 rfl (by rw [Ly2.out]; exact seal_size) ?_)
            | (refine wpList_store_newN rfl 41 (.tmp 9) (.tmp 25) rfl 6 seal_size _ z Hz.out y2.toArray rfl rfl Ls2.out H2.out ?_; clear Hz)
            | (refine wpList_load_agg rfl 41 (.tmp 8) rfl w1.heap.size 0 rfl y1 _ hd1 Try.underlying41 rfl (by rw [Ly1.out]; exact seal_size) ?_)
            | (refine wpList_load_agg rfl 41 (.tmp 9) rfl (w1.heap.size + 1) 0 rfl y2 _ hd2 Try.underlying41 rfl (by rw [Ly2.out]; exact seal_size) ?_)
            | (go_at_call 78; refine Hcall.out.mono ?_; rw [hxy'.out]; rintro e w3 ⟨rfl, hf3⟩))
          go_ret
          exact ⟨ret_bool hne.out.symm, (hF.trans hf2 fun _ _ => id).trans hf3 fun _ _ => id⟩
      · have hke : k = n := by omega
        subst hke
        have he : Hid (decide (xs = ys) = true) := by
          show _ = _
          have := Hpre.out
          rw [List.take_of_length_le (by rw [Hxl.out]; exact Nat.le_refl _), List.take_of_length_le (by rw [Hyl.out]; exact Nat.le_refl _)] at this
          simpa using this
        go_wp2
        go_ret
        exact ⟨ret_bool he.out.symm, hF⟩
  · have hne : Hid (decide (xs = ys) = false) := by
      show _ = _
      rw [decide_eq_false_iff_not]
      rintro rfl
      exact hnm (hxl.symm.trans hyl)
    clear hxl hyl
    have hb : ((n : Int) != (m : Int)) = true := by simp; omega
    clear hnm
    go_enter Try.func77, Try.ntmps77
    go_wp2
    go_ret
    exact ⟨ret_bool hne.out.symm, Fr.refl _ _⟩

set_option maxHeartbeats 400000 in
theorem Same_any (w : World) (F G : Nat → Prop) (A B : Option Addr) (n c m d : Nat) (xs ys : List Seal) (hx : Seals w F A n xs) (hy : Seals w G B m ys) (hn : n ≤ 9223372036854775807) :
    Calls Try.prog 24 #[.slice A n c, .slice B m d] w fun e w' => e = .returned (.bool (decide (xs = ys))) ∧ Fr NoB w w' := by
  have H := Lib.hid (EqSeals_any w F G A B n c m d xs ys hx hy hn)
  go_enter Try.func24, Try.ntmps24
  go_wp2_with (go_at_call 77; refine H.out.mono ?_; rintro e w1 ⟨rfl, hf1⟩)
  go_ret
  exact ⟨rfl, hf1⟩
end Go.Proofs.Ytnkfchondedfcaa
