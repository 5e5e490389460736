/-
  A writer and a reader that nobody made: all their contracts. Conditions: none.
-/
import Derived.Test.YtnkfchondedfcaaEc
namespace Go.Proofs.Ytnkfchondedfcaa
open Go.RowKit

set_option maxRecDepth 100000 in
set_option maxHeartbeats 400000 in
theorem RN_nil (w : World) (most : Int) :
    Calls Try.prog 28 #[.pointer none, .int .u64 most] w fun e w' => e = .returned (.int .u64 0) ∧ w = w' := by
  go_enter Try.func28, Try.ntmps28
  go_wp2_with (first | (go_at_call 80; refine (ok_nil _).mono ?_; rintro e w' ⟨rfl, rfl⟩) | (go_at_call 81; refine (fail_nil _).mono ?_; rintro e w' ⟨rfl, rfl⟩))
  go_ret
  exact ⟨rfl, rfl⟩
set_option maxRecDepth 100000 in
set_option maxHeartbeats 400000 in
theorem RRaw_nil (w : World) (k : Int) :
    Calls Try.prog 36 #[.pointer none, .int .i64 k] w fun e w' => e = .returned (.slice none 0 0) ∧ w = w' := by
  go_enter Try.func36, Try.ntmps36
  go_wp2_with (first | (go_at_call 80; refine (ok_nil _).mono ?_; rintro e w' ⟨rfl, rfl⟩) | (go_at_call 81; refine (fail_nil _).mono ?_; rintro e w' ⟨rfl, rfl⟩))
  go_ret
  exact ⟨rfl, rfl⟩
set_option maxHeartbeats 400000 in
theorem RText_nil (w : World) (k : Int) (h0 : -9223372036854775808 ≤ k) (h1 : k ≤ 9223372036854775807) :
    Calls Try.prog 38 #[.pointer none, .int .i64 k] w fun e w' => e = .returned (.slice none 0 0) ∧ w = w' := by
  by_cases hk : k < 0
  · go_enter Try.func38, Try.ntmps38
    go_wp2_with (first | (go_at_call 81; refine (fail_nil _).mono ?_; rintro e w' ⟨rfl, rfl⟩))
    go_ret
    exact ⟨rfl, rfl⟩
  · go_enter Try.func38, Try.ntmps38
    go_wp2_with (first | (go_at_call 28; refine (RN_nil _ _).mono ?_; rintro e w' ⟨rfl, rfl⟩) | (go_at_call 36; refine (RRaw_nil _ _).mono ?_; rintro e w' ⟨rfl, rfl⟩))
    go_ret
    exact ⟨rfl, rfl⟩
set_option maxHeartbeats 400000 in
theorem RRest_nil (w : World) : Calls Try.prog 43 #[.pointer none] w fun e w' => e = .returned (.int .i64 0) ∧ w = w' := by
  go_enter Try.func43, Try.ntmps43
  go_wp2_with (first | (go_at_call 80; refine (ok_nil _).mono ?_; rintro e w' ⟨rfl, rfl⟩))
  go_ret
  exact ⟨rfl, rfl⟩
set_option maxHeartbeats 400000 in
theorem REnd_nil (w : World) : Calls Try.prog 29 #[.pointer none] w fun e w' => e = .returned (.int .i64 80) ∧ w = w' := by
  go_enter Try.func29, Try.ntmps29
  go_wp2_with (first | (go_at_call 80; refine (ok_nil _).mono ?_; rintro e w' ⟨rfl, rfl⟩))
  go_ret
  exact ⟨rfl, rfl⟩

set_option maxRecDepth 100000 in
set_option maxHeartbeats 1000000 in
theorem WText_nil (w : World) (G : Nat → Prop) (l : List UInt8) (B : Option Addr) (h1 : ArrOf (BytR w G) w G 1 B 1 [l]) :
    Calls Try.prog 46 #[.pointer none, .slice B 1 1] w fun e w' => e = .returned (.tuple #[]) ∧ Fr NoB w w' := by
  obtain ⟨w0, rfl⟩ : ∃ w0 : World, w0 = w := ⟨_, rfl⟩
  go_enter Try.func46, Try.ntmps46
  go_wp2
  go_loopw [8] (fun i wr => ∃ k : Nat, k ≤ 1 ∧ i = .int .i64 k ∧ Fr NoB w0 wr) (fun i _ => 1 - (intOf i).toNat)
  case atStart => exact ⟨0, by omega, rfl, Fr.refl _ _⟩
  case round =>
    obtain ⟨k, hk, rfl, hF0⟩ := hrel
    obtain ⟨w1, rfl⟩ : ∃ w1 : World, w1 = wr := ⟨_, rfl⟩
    by_cases hk1 : k < 1
    · obtain rfl : k = 0 := by omega
      have hrw := h1.fr hF0 (fun _ _ => id) (R' := BytR w1 G) fun y a _ hy => hy.fr hF0 fun _ _ => id
      obtain ⟨bb, o, t, y, rfl, hGb, ht, hy, ⟨At, nt, ct, rfl, hnc, hcm, hbt⟩, hcell⟩ := hrw.at_ hk1
      have hc := hcell 0 _ rfl
      simp at hc
      clear hcell hrw ht
      go_wp2_with (first | (go_at_call 30; refine (WN_nil _ _).mono ?_; rintro e w' ⟨rfl, rfl⟩) | (go_at_call 45; refine (WRaw_nil _ _).mono ?_; rintro e w' ⟨rfl, rfl⟩))
      go_roundw
      case rel => exact ⟨1, by omega, by go_num, hF0.alloc _⟩
      case measure => simp [intOf]
    · obtain rfl : k = 1 := by omega
      go_wp2
      go_end0
      exact ⟨rfl, hF0⟩

set_option maxRecDepth 100000 in
set_option maxHeartbeats 1000000 in
theorem each1_nil (m : Nat) (w : World) (bn br : Nat) (T : Nat → Prop) (hn : Blk w bn 23 #[.int .u64 0]) :
    SeqG m Try.prog 104 #[.pointer (some ⟨bn, 0, none⟩), .pointer (some ⟨br, 0, none⟩)] (fun x : Id32 => #[.agg (idCells x).toArray]) NoB T (fun _ _ => False)
      (fun xs _ => xs = []) (fun _ _ => False) w := by
  intro l J Jx W hF0 hl1 hl2 hJ hJx hY h0
  have cn := (hn.fr hF0 id).cell_0
  have hbn := hn.lt
  refine callsIn_of_wp Try.func104 rfl trivial ?_ rfl
  simp only [Try.ntmps104, List.size_toArray, List.length_cons, List.length_nil, Nat.reduceAdd, Nat.reduceSub, Array.replicate_succ, Array.replicate_zero, List.push_toArray, List.append_toArray, List.nil_append, List.cons_append]
  gi_wp2
  gi_loopw [4] (fun _ wr => W = wr) (fun _ _ => 0)
  case atStart => rfl
  case round =>
    subst hrel
    gi_wp2
    go_end0
    exact ⟨⟨_, rfl⟩, .inl ⟨[], rfl, h0⟩⟩

set_option maxRecDepth 100000 in
set_option maxHeartbeats 2000000 in
theorem RIds_nil (w : World) (k : Int) (h0 : -9223372036854775808 ≤ k) (h1 : k ≤ 9223372036854775807) :
    Calls Try.prog 41 #[.pointer none, .int .i64 k] w fun e w' => e = .returned (.slice none 0 0) ∧ Fr NoB w w' := by
  by_cases hk : k < 0
  · go_enter Try.func41, Try.ntmps41
    go_wp2_with (first | (go_at_call 81; refine (fail_nil _).mono ?_; rintro e w' ⟨rfl, rfl⟩))
    go_ret
    exact ⟨rfl, Fr.refl _ _⟩
  · refine (callsIn_wide (n := 7)).1 ?_
    refine callsIn_of_wp_marks Try.func41 rfl trivial ?_ rfl
    simp only [Try.ntmps41, List.size_toArray, List.length_cons, List.length_nil, Nat.reduceAdd, Nat.reduceSub, Array.replicate_succ, Array.replicate_zero, List.push_toArray, List.append_toArray, List.nil_append, List.cons_append]
    gi_wp2_with fail
    refine ⟨trivial, ?_⟩
    refine (callsIn_wide.2 (RN_nil _ _)).mono ?_
    rintro e w1 ⟨rfl, hw1⟩
    gi_wp2_with fail
    refine ⟨trivial, ?_⟩
    refine (callsIn_wide.2 (each_any _ _ _)).mono ?_
    rintro e w2 ⟨rfl, hw2⟩
    have hBn : Blk w2 (w1.heap.size + 1) 23 #[.int .u64 0] := by rw [hw2]; simpa using Blk.new (w1.alloc (.cells #[.pointer none] 43)) 23 #[.int .u64 0]
    have hf12 : Fr NoB w w2 := by rw [hw2, ← hw1]; exact (((Fr.refl NoB w).alloc _).alloc _).alloc _
    clear hw2 hw1
    obtain ⟨w3, rfl⟩ : ∃ w3 : World, w3 = w2 := ⟨_, rfl⟩
    gi_wp2
    refine wpIn_rangeFuncG (gf := 104) (lb := #[.pointer (some ⟨w1.heap.size + 1, 0, none⟩), .pointer (some ⟨w1.heap.size, 0, none⟩)]) rfl (enters_of Try.func104 (by kernel_rfl) rfl)
      (each1_nil 6 w3 (w1.heap.size + 1) w1.heap.size (fun j => w3.heap.size + 2 ≤ j) hBn) (fun _ => rfl)
      (fun pre W => Fr NoB w W)
      (fun _ _ _ => False) ?hI (fun _ _ _ _ h _ => h) ⟨id, id⟩ ⟨by omega, by omega⟩ hf12
      (fun _ _ _ => True) (fun _ _ _ _ h _ => h) ?assign (fun _ _ _ _ _ h _ _ => h.elim) ?done (fun _ _ _ h _ _ => h.elim) (fun _ _ _ h _ => h) (fun _ _ _ h _ => h)
    case hI =>
      intro pre A B h hf
      exact h.new hf fun j hj => .inr (by have := hf12.size; rcases hj with hj | hj | hj <;> first | exact hj.elim | omega)
    case assign =>
      intro l x W K hsz hK
      have Hx : Hid ((idCells x).toArray.size = 32) := by show _ = _; simp [idCells_len]
      have Hx1 : Hid ((idCells x).toArray.all (·.oneCell') = true) := by
        show _ = _
        rw [Array.all_eq_true_iff_forall_mem]
        intro u hu
        exact bv_one x.1 u (by simpa [idCells] using hu)
      simp only [params_one]
      gi_wp2_with (first
        | (refine wpListIn_alloc_any rfl 74 rfl 32 id_zero ?_; intro z hz; have Hz := Lib.hid hz; clear hz)
        | (refine wpListIn_store_newN rfl 74 (.tmp 6) (.tmp 17) rfl 32 id_size _ z Hz.out (idCells x).toArray rfl rfl Hx.out Hx1.out ?_))
      exact hK _ _ ((Fr.refl NoB W).alloc _) trivial
    case done =>
      rintro xs W rfl hI hK
      gi_wp2_with (refine ⟨trivial, ?_⟩; gi_at_call 80; refine (callsIn_wide.2 (ok_nil _)).mono ?_; rintro e w' ⟨rfl, rfl⟩)
      refine ⟨by simp, .inl ⟨_, _, rfl, run_takeDeferred hK, ?_⟩⟩
      exact ⟨_, results_tmp rfl _ _ _, rfl, hI.new ((Fr.refl (fun j => j = w3.heap.size) W).putObj (.inl rfl) _) fun j hj => .inr (by have := hf12.size; omega)⟩
end Go.Proofs.Ytnkfchondedfcaa
