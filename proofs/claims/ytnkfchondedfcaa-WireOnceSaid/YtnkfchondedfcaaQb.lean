/-
  The statement WireOnce: bytes that are a request or a reply are put as they were (the walk). Conditions: none but that the argument can be read.
-/
import Derived.Test.YtnkfchondedfcaaQa
import Derived.Test.YtnkfchondedfcaaPi
namespace Go.Proofs.Ytnkfchondedfcaa
open Go.RowKit

theorem ReqR.tight {w : World} {F : Nat → Prop} {y : List Value} {r : Req} (h : ReqR w F y r) : ReqR w (fun k => F k ∧ k < w.heap.size) y r := by
  obtain ⟨A, n, c, h1, h2, h3, h4, h5⟩ := h
  exact ⟨A, n, c, h1, h2, h3, h4.more fun k hk hF => ⟨hF, hk⟩, h5⟩
theorem RepR.tight {w : World} {F : Nat → Prop} {y : List Value} {r : Rep} (h : RepR w F y r) : RepR w (fun k => F k ∧ k < w.heap.size) y r := by
  obtain ⟨A, n, c, B, m, d, h1, h2, h3, h4, h5, h6, h7, h8⟩ := h
  exact ⟨A, n, c, B, m, d, h1, h2, h3, h4.more fun k hk hF => ⟨hF, hk⟩, h5, h6, Arr.more h7 (fun k hk hF => ⟨hF, hk⟩) (by omega), h8⟩

set_option maxRecDepth 100000 in
set_option maxHeartbeats 4000000 in
theorem WireOnce_any (w : World) (A : Option Addr) (n c : Nat) (l : List UInt8) (hb : Byt w (fun k => k < w.heap.size) A n l) :
    Calls Try.prog 13 #[.slice A n c] w fun e w' => e = .returned (.bool true) ∧ Below w.heap.size w w' := by
  have hfin : ∀ w', Fr NoB w w' → Below w.heap.size w w' := fun w' h => Fr.below h (Nat.le_refl _) fun _ _ => id
  have Hfin := Lib.hid hfin
  clear hfin
  by_cases hn : n ≤ 2000
  · have b2 : decide (2000 < (n : Int)) = false := by simp only [decide_eq_false_iff_not]; omega
    have hq := fun W (h : Byt W (fun k => k < w.heap.size) A n l) => OfRequest_any W _ A n c l h (by omega)
    have hp := fun W (h : Byt W (fun k => k < w.heap.size) A n l) => OfReply_any W _ A n c l h (by omega)
    by_cases hi : reqIs l = true
    · have hq0 : reqBad l = 0 := by rw [reqBad, if_pos hi]
      have hp0 : repBad l = 180 := by rw [repBad, not_both hi]; rfl
      obtain ⟨ha, ho⟩ := req_once hi
      rw [hq0] at hq
      rw [hp0] at hp
      have hput : ∀ (W : World) (G : Nat → Prop) y, ReqR W G y (reqOf l) → Calls Try.prog 49 #[.agg y.toArray] W fun e w' => NewBytes2 .i64 W w' e l 0 := fun W G y h => by
        have h2 := PutRequest_any W (fun k => G k ∧ k < W.heap.size) y (reqOf l) h.tight (fun k hk => hk.2)
        rw [show reqOut (reqOf l) = l from by rw [reqOut, if_pos ha]; exact ho, show reqErr (reqOf l) = 0 from by rw [reqErr, if_pos ha]] at h2
        exact h2
      have Hq := Lib.hid hq
      have Hp := Lib.hid hp
      have Hput := Lib.hid hput
      clear hq hp hput hi hq0 hp0 ha ho
      go_enter Try.func13, Try.ntmps13
      go_wp2_with (first
        | (go_at_call 47; refine (awake16 _).mono ?_; rintro e w1 ⟨rfl, hf1⟩)
        | (go_at_call 51; refine (Hq.out _ (hb.fr hf1 fun _ _ => id)).mono ?_; rintro e w2 ⟨y2, rfl, hf2, hy2⟩; have Hs2 := Lib.hid hy2.size; have H12 := Lib.hid hy2.ones; have Hl2 := Lib.hid hy2.len; have hF2 := hf1.trans hf2 fun _ _ => id)
        | (refine wpList_alloc_any rfl 76 rfl 71 req_zero ?_; intro z hz; have Hz := Lib.hid hz; clear hz)
        | (refine wpList_store_newN rfl 76 (.tmp 3) (.tmp 19) rfl 71 req_size _ z Hz.out y2.toArray rfl rfl Hs2.out H12.out ?_; clear Hz; have hB3 := Blk.new w2 76 y2.toArray; have hF3 := hF2.alloc (.cells y2.toArray 76))
        | (go_at_call 59; refine (Hp.out _ (hb.fr hF3 fun _ _ => id)).mono ?_; rintro e w4 ⟨y4, rfl, hf4, hy4⟩; have Hs4 := Lib.hid hy4.size; have H14 := Lib.hid hy4.ones; have Hl4 := Lib.hid hy4.len; have hF4 := hF3.trans hf4 fun _ _ => id; have hB4 := hB3.fr hf4 id; clear hB3)
        | (refine wpList_alloc_any rfl 90 rfl 38 rep_zero ?_; intro z hz; have Hz := Lib.hid hz; clear hz)
        | (refine wpList_store_newN rfl 90 (.tmp 5) (.tmp 24) rfl 38 rep_size _ z Hz.out y4.toArray rfl rfl Hs4.out H14.out ?_; clear Hz; have hB5 := Blk.new w4 90 y4.toArray; have hF5 := hF4.alloc (.cells y4.toArray 90); have hB45 := hB4.alloc (.cells y4.toArray 90); clear hB4)
        | (refine wpList_load_aggG rfl 76 (.tmp 3) rfl w2.heap.size 0 rfl _ _ hB45.all Try.underlying76 rfl (by rw [Hl2.out]; exact req_size) ?_)
        | (go_at_call 49; refine (Hput.out _ _ _ (((hy2.fr ((Fr.refl NoB w2).alloc _) fun _ _ => id).fr hf4 fun _ _ => id).fr ((Fr.refl NoB w4).alloc _) fun _ _ => id)).mono ?_; rintro e w6 ⟨A6, c6, rfl, hf6, hO6, hin6⟩; have hF6 := hF5.trans hf6 fun _ _ => id; have hcv1 := Byt.str (F := fun _ => True) (hO6.arr fun _ _ _ => trivial) (P := Try.prog) Try.underlying22 Try.underlying5 Try.underlying9 c6; have hcv2 := Byt.str (hb.fr hF6 fun _ _ => id) (P := Try.prog) Try.underlying22 Try.underlying5 Try.underlying9 c))
      go_ret
      exact ⟨rfl, Hfin.out _ hF6⟩
    · have hq0 : reqBad l = 180 := by rw [reqBad, if_neg hi]
      rw [hq0] at hq
      by_cases hj : repIs l = true
      · have hp0 : repBad l = 0 := by rw [repBad, if_pos hj]
        rw [hp0] at hp
        obtain ⟨ha, ho⟩ := rep_once hj
        have hput : ∀ (W : World) (G : Nat → Prop) y, RepR W G y (repOf l) → Calls Try.prog 57 #[.agg y.toArray] W fun e w' => NewBytes2 .i64 W w' e l 0 := fun W G y h => by
          have h2 := PutReply_any W (fun k => G k ∧ k < W.heap.size) y (repOf l) h.tight (fun k hk => hk.2)
          rw [show repOut (repOf l) = l from by rw [repOut, if_pos ha]; exact ho, show repErr (repOf l) = 0 from by rw [repErr, if_pos ha]] at h2
          exact h2
        have Hq := Lib.hid hq
        have Hp := Lib.hid hp
        have Hput := Lib.hid hput
        clear hq hp hput hi hj hq0 hp0 ha ho
        go_enter Try.func13, Try.ntmps13
        go_wp2_with (first
          | (go_at_call 47; refine (awake16 _).mono ?_; rintro e w1 ⟨rfl, hf1⟩)
          | (go_at_call 51; refine (Hq.out _ (hb.fr hf1 fun _ _ => id)).mono ?_; rintro e w2 ⟨y2, rfl, hf2, hy2⟩; have Hs2 := Lib.hid hy2.size; have H12 := Lib.hid hy2.ones; have Hl2 := Lib.hid hy2.len; have hF2 := hf1.trans hf2 fun _ _ => id)
          | (refine wpList_alloc_any rfl 76 rfl 71 req_zero ?_; intro z hz; have Hz := Lib.hid hz; clear hz)
          | (refine wpList_store_newN rfl 76 (.tmp 3) (.tmp 19) rfl 71 req_size _ z Hz.out y2.toArray rfl rfl Hs2.out H12.out ?_; clear Hz; have hB3 := Blk.new w2 76 y2.toArray; have hF3 := hF2.alloc (.cells y2.toArray 76))
          | (go_at_call 59; refine (Hp.out _ (hb.fr hF3 fun _ _ => id)).mono ?_; rintro e w4 ⟨y4, rfl, hf4, hy4⟩; have Hs4 := Lib.hid hy4.size; have H14 := Lib.hid hy4.ones; have Hl4 := Lib.hid hy4.len; have hF4 := hF3.trans hf4 fun _ _ => id; have hB4 := hB3.fr hf4 id; clear hB3)
          | (refine wpList_alloc_any rfl 90 rfl 38 rep_zero ?_; intro z hz; have Hz := Lib.hid hz; clear hz)
          | (refine wpList_store_newN rfl 90 (.tmp 5) (.tmp 24) rfl 38 rep_size _ z Hz.out y4.toArray rfl rfl Hs4.out H14.out ?_; clear Hz; have hB5 := Blk.new w4 90 y4.toArray; have hF5 := hF4.alloc (.cells y4.toArray 90); have hB45 := hB4.alloc (.cells y4.toArray 90); clear hB4)
          | (refine wpList_load_aggG rfl 90 (.tmp 5) rfl w4.heap.size 0 rfl _ _ hB5.all Try.underlying90 rfl (by rw [Hl4.out]; exact rep_size) ?_)
          | (go_at_call 57; refine (Hput.out _ _ _ (hy4.fr ((Fr.refl NoB w4).alloc _) fun _ _ => id)).mono ?_; rintro e w6 ⟨A6, c6, rfl, hf6, hO6, hin6⟩; have hF6 := hF5.trans hf6 fun _ _ => id; have hcv1 := Byt.str (F := fun _ => True) (hO6.arr fun _ _ _ => trivial) (P := Try.prog) Try.underlying22 Try.underlying5 Try.underlying9 c6; have hcv2 := Byt.str (hb.fr hF6 fun _ _ => id) (P := Try.prog) Try.underlying22 Try.underlying5 Try.underlying9 c))
        go_ret
        exact ⟨rfl, Hfin.out _ hF6⟩
      · have hp0 : repBad l = 180 := by rw [repBad, if_neg hj]
        rw [hp0] at hp
        have hput : ∀ (W : World) (G : Nat → Prop) y, RepR W G y (repOf l) → Calls Try.prog 57 #[.agg y.toArray] W fun e w' => NewBytes2 .i64 W w' e (repOut (repOf l)) (repErr (repOf l)) := fun W G y h =>
          PutReply_any W (fun k => G k ∧ k < W.heap.size) y (repOf l) h.tight (fun k hk => hk.2)
        have Hq := Lib.hid hq
        have Hp := Lib.hid hp
        have Hput := Lib.hid hput
        clear hq hp hput hi hj hq0 hp0
        go_enter Try.func13, Try.ntmps13
        go_wp2_with (first
          | (go_at_call 47; refine (awake16 _).mono ?_; rintro e w1 ⟨rfl, hf1⟩)
          | (go_at_call 51; refine (Hq.out _ (hb.fr hf1 fun _ _ => id)).mono ?_; rintro e w2 ⟨y2, rfl, hf2, hy2⟩; have Hs2 := Lib.hid hy2.size; have H12 := Lib.hid hy2.ones; have Hl2 := Lib.hid hy2.len; have hF2 := hf1.trans hf2 fun _ _ => id)
          | (refine wpList_alloc_any rfl 76 rfl 71 req_zero ?_; intro z hz; have Hz := Lib.hid hz; clear hz)
          | (refine wpList_store_newN rfl 76 (.tmp 3) (.tmp 19) rfl 71 req_size _ z Hz.out y2.toArray rfl rfl Hs2.out H12.out ?_; clear Hz; have hB3 := Blk.new w2 76 y2.toArray; have hF3 := hF2.alloc (.cells y2.toArray 76))
          | (go_at_call 59; refine (Hp.out _ (hb.fr hF3 fun _ _ => id)).mono ?_; rintro e w4 ⟨y4, rfl, hf4, hy4⟩; have Hs4 := Lib.hid hy4.size; have H14 := Lib.hid hy4.ones; have Hl4 := Lib.hid hy4.len; have hF4 := hF3.trans hf4 fun _ _ => id; have hB4 := hB3.fr hf4 id; clear hB3)
          | (refine wpList_alloc_any rfl 90 rfl 38 rep_zero ?_; intro z hz; have Hz := Lib.hid hz; clear hz)
          | (refine wpList_store_newN rfl 90 (.tmp 5) (.tmp 24) rfl 38 rep_size _ z Hz.out y4.toArray rfl rfl Hs4.out H14.out ?_; clear Hz; have hB5 := Blk.new w4 90 y4.toArray; have hF5 := hF4.alloc (.cells y4.toArray 90); have hB45 := hB4.alloc (.cells y4.toArray 90); clear hB4)
          | (refine wpList_load_aggG rfl 90 (.tmp 5) rfl w4.heap.size 0 rfl _ _ hB5.all Try.underlying90 rfl (by rw [Hl4.out]; exact rep_size) ?_)
          | (go_at_call 57; refine (Hput.out _ _ _ (hy4.fr ((Fr.refl NoB w4).alloc _) fun _ _ => id)).mono ?_; rintro e w6 ⟨A6, c6, rfl, hf6, hO6, hin6⟩; have hF6 := hF5.trans hf6 fun _ _ => id; have hcv1 := Byt.str (F := fun _ => True) (hO6.arr fun _ _ _ => trivial) (P := Try.prog) Try.underlying22 Try.underlying5 Try.underlying9 c6; have hcv2 := Byt.str (hb.fr hF6 fun _ _ => id) (P := Try.prog) Try.underlying22 Try.underlying5 Try.underlying9 c))
        go_ret
        exact ⟨rfl, Hfin.out _ hF6⟩
  · have b2 : decide (2000 < (n : Int)) = true := by simp only [decide_eq_true_eq]; omega
    go_enter Try.func13, Try.ntmps13
    go_wp2_with (first
      | (go_at_call 47; refine (awake16 _).mono ?_; rintro e w1 ⟨rfl, hf1⟩))
    go_ret
    exact ⟨rfl, Hfin.out _ hf1⟩
end Go.Proofs.Ytnkfchondedfcaa
