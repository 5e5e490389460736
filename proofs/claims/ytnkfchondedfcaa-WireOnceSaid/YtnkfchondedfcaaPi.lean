/-
  The statement WireReplies: any reply as bytes, and the reply that any bytes are (the walk). Conditions: none but that the arguments can be read.
-/
import Derived.Test.YtnkfchondedfcaaPh
import Derived.Test.YtnkfchondedfcaaMi
import Derived.Test.YtnkfchondedfcaaNd
import Derived.Test.YtnkfchondedfcaaPd
namespace Go.Proofs.Ytnkfchondedfcaa
open Go.RowKit

theorem RSameTrue (w : World) (F G : Nat → Prop) (y z : List Value) (r : Rep) (hy : RepR w F y r) (hz : RepR w G z r) :
    Calls Try.prog 56 #[.agg y.toArray, .agg z.toArray] w fun e w' => e = .returned (.bool true) ∧ Fr NoB w w' := by
  have h := RSameReply_any w F G y z r r hy hz
  rw [show decide (r = r) = true from by simp] at h
  exact h

/-- A struct that lies in a block. -/
theorem RepR.box {w : World} {F : Nat → Prop} {y : List Value} {r : Rep} (_h : RepR w F y r) : Blk (w.alloc (.cells y.toArray 90)) w.heap.size 90 y.toArray := Blk.new _ _ _

set_option maxRecDepth 100000 in
set_option maxHeartbeats 4000000 in
theorem WireReplies_any (w : World) (y : List Value) (r : Rep) (hy : RepR w (fun k => k < w.heap.size) y r) (A : Option Addr) (n c : Nat) (l : List UInt8) (hb : Byt w (fun k => k < w.heap.size) A n l) (hnc : n ≤ c) (hcm : c ≤ maxLen) :
    Calls Try.prog 12 #[.agg y.toArray, .slice A n c] w fun e w' => e = .returned (.bool true) ∧ Below w.heap.size w w' := by
  have hfin : ∀ w', Fr NoB w w' → Below w.heap.size w w' := fun w' h => Fr.below h (Nat.le_refl _) fun _ _ => id
  have Hfin := Lib.hid hfin
  have Hlen := Lib.hid hy.len
  have hf0 : Fr NoB w (w.alloc (.cells y.toArray 90)) := (Fr.refl _ _).alloc _
  have hB0 := hy.box
  clear hfin
  cases hsm : repSmall r with
  | false =>
    have Hsm := Lib.hid hsm
    clear hsm
    go_enter Try.func12, Try.ntmps12
    go_wp2_with (first
      | (go_at_call 47; refine (awake16 _).mono ?_; rintro e w1 ⟨rfl, hf1⟩; have hB1 := hB0.fr hf1 id; have hF1 := hf0.trans hf1 fun _ _ => id)
      | (refine wpList_load_aggG rfl 90 (.tmp 2) rfl w.heap.size 0 rfl _ _ hB1.all Try.underlying90 rfl (by rw [Hlen.out]; exact rep_size) ?_)
      | (go_at_call 54; refine (repSmall_any _ _ _ r (hy.fr hF1 fun _ _ => id)).mono ?_; rw [Hsm.out]; rintro e w2 ⟨rfl, hf2⟩))
    go_ret
    exact ⟨rfl, Hfin.out _ (hF1.trans hf2 fun _ _ => id)⟩
  | true =>
    have Hsm := Lib.hid hsm
    clear hsm
    by_cases hn : n ≤ 2000
    · have b2 : decide (2000 < (n : Int)) = false := by simp only [decide_eq_false_iff_not]; omega
      go_enter Try.func12, Try.ntmps12
      go_wp2_with (first
        | (go_at_call 47; refine (awake16 _).mono ?_; rintro e w1 ⟨rfl, hf1⟩; have hB1 := hB0.fr hf1 id; have hF1 := hf0.trans hf1 fun _ _ => id)
        | (refine wpList_load_aggG rfl 90 (.tmp 2) rfl w.heap.size 0 rfl _ _ hB1.all Try.underlying90 rfl (by rw [Hlen.out]; exact rep_size) ?_)
        | (go_at_call 54; refine (repSmall_any _ _ _ r (hy.fr hF1 fun _ _ => id)).mono ?_; rw [Hsm.out]; rintro e w2 ⟨rfl, hf2⟩; have hB2 := hB1.fr hf2 id; have hF2 := hF1.trans hf2 fun _ _ => id; clear hB1)
        | (refine wpList_load_agg rfl 90 (.tmp 2) rfl w.heap.size 0 rfl _ _ hB2.all Try.underlying90 rfl (by rw [Hlen.out]; exact rep_size) ?_)
        | (go_at_call 57; refine (PutReply_any _ _ _ r (hy.fr hF2 fun _ _ => id) (fun k h => by have := hF2.size; omega)).mono ?_; rintro e w3 ⟨A3, c3, rfl, hf3, hO3, hin3⟩; have hB3 := hB2.fr hf3 id; have hF3 := hF2.trans hf3 fun _ _ => id; clear hB2)
        | (refine wpList_load_agg rfl 90 (.tmp 2) rfl w.heap.size 0 rfl _ _ hB3.all Try.underlying90 rfl (by rw [Hlen.out]; exact rep_size) ?_)
        | (go_at_call 58; refine (refPutReply_any _ _ _ r (hy.fr hF3 fun _ _ => id) (fun k h => by have := hF3.size; omega)).mono ?_; rintro e w4 ⟨A4, c4, rfl, hf4, hO4, hin4⟩; have hF4 := hF3.trans hf4 fun _ _ => id; clear hB3)
        | (go_at_call 59; refine (OfReply_any _ _ _ n c l (hb.fr hF4 fun _ _ => id) (by omega)).mono ?_; rintro e w5 ⟨y5, rfl, hf5, hy5⟩; have Hs5 := Lib.hid hy5.size; have H15 := Lib.hid hy5.ones; have Hl5 := Lib.hid hy5.len; have hF5 := hF4.trans hf5 fun _ _ => id)
        | (refine wpList_alloc_any rfl 90 rfl 38 rep_zero ?_; intro z hz; have Hz := Lib.hid hz; clear hz)
        | (refine wpList_store_newN rfl 90 (.tmp 9) (.tmp 36) rfl 38 rep_size _ z Hz.out y5.toArray rfl rfl Hs5.out H15.out ?_; clear Hz; have hB6 := Blk.new w5 90 y5.toArray; have hF6 := hF5.alloc (.cells y5.toArray 90))
        | (go_at_call 60; refine (ReplyOf_any _ _ (fun k h => by have := hF6.size; omega) _ n c l (hb.fr hF6 fun _ _ => id) hnc hcm (by omega)).mono ?_; rintro e w7 ⟨y7, rfl, hf7, hy7⟩; have Hs7 := Lib.hid hy7.size; have H17 := Lib.hid hy7.ones; have Hl7 := Lib.hid hy7.len; have hB7 := hB6.fr hf7 id; have hF7 := hF6.trans hf7 fun _ _ => id; clear hB6)
        | (refine wpList_store_newN rfl 90 (.tmp 11) (.tmp 41) rfl 38 rep_size _ z Hz.out y7.toArray rfl rfl Hs7.out H17.out ?_; have hB8 := Blk.new w7 90 y7.toArray; have hF8 := hF7.alloc (.cells y7.toArray 90); have hB78 := hB7.alloc (.cells y7.toArray 90); have hf38 : Fr NoB w3 (w7.alloc (.cells y7.toArray 90)) := (((hf4.trans hf5 fun _ _ => id).alloc _).trans hf7 fun _ _ => id).alloc _; have hf48 : Fr NoB w4 (w7.alloc (.cells y7.toArray 90)) := ((hf5.alloc _).trans hf7 fun _ _ => id).alloc _; have hcv1 := Byt.str (F := fun _ => True) ((hO3.fr hf38 fun _ _ => id).arr fun _ _ _ => trivial) (P := Try.prog) Try.underlying22 Try.underlying5 Try.underlying9 c3; have hcv2 := Byt.str (F := fun _ => True) ((hO4.fr hf48 fun _ _ => id).arr fun _ _ _ => trivial) (P := Try.prog) Try.underlying22 Try.underlying5 Try.underlying9 c4; clear hB7)
        | (refine wpList_load_aggG rfl 90 (.tmp 9) rfl w5.heap.size 0 rfl _ _ hB78.all Try.underlying90 rfl (by rw [Hl5.out]; exact rep_size) ?_)
        | (refine wpList_load_aggG rfl 90 (.tmp 11) rfl w7.heap.size 0 rfl _ _ hB8.all Try.underlying90 rfl (by rw [Hl7.out]; exact rep_size) ?_)
        | (go_at_call 56; refine (RSameTrue _ _ _ _ _ (repOf l) ((hy5.fr ((Fr.refl NoB w5).alloc _) fun _ _ => id).fr (hf7.alloc _) fun _ _ => id) (hy7.fr ((Fr.refl NoB w7).alloc _) fun _ _ => id)).mono ?_; rintro e w9 ⟨rfl, hf9⟩))
      go_ret
      exact ⟨rfl, Hfin.out _ (hF8.trans hf9 fun _ _ => id)⟩
    · have b2 : decide (2000 < (n : Int)) = true := by simp only [decide_eq_true_eq]; omega
      go_enter Try.func12, Try.ntmps12
      go_wp2_with (first
        | (go_at_call 47; refine (awake16 _).mono ?_; rintro e w1 ⟨rfl, hf1⟩; have hB1 := hB0.fr hf1 id; have hF1 := hf0.trans hf1 fun _ _ => id)
        | (refine wpList_load_aggG rfl 90 (.tmp 2) rfl w.heap.size 0 rfl _ _ hB1.all Try.underlying90 rfl (by rw [Hlen.out]; exact rep_size) ?_)
        | (go_at_call 54; refine (repSmall_any _ _ _ r (hy.fr hF1 fun _ _ => id)).mono ?_; rw [Hsm.out]; rintro e w2 ⟨rfl, hf2⟩))
      go_ret
      exact ⟨rfl, Hfin.out _ (hF1.trans hf2 fun _ _ => id)⟩
end Go.Proofs.Ytnkfchondedfcaa
