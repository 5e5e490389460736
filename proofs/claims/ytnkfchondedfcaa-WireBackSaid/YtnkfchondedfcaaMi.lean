/-
  The statement WireRequests: any request as bytes, and the request that any bytes are (the walk); chapter 16's example. Conditions: none but that the arguments can be read.
-/
import Derived.Test.YtnkfchondedfcaaMh
namespace Go.Proofs.Ytnkfchondedfcaa
open Go.RowKit

theorem reqBytes_cons (r : Req) : ∃ t, reqBytes r = 1 :: t := by
  unfold reqBytes
  simp only [List.append_assoc, List.cons_append, List.nil_append]
  exact ⟨_, rfl⟩
theorem reqBytes_len (r : Req) : 64 < (reqBytes r).length := by
  unfold reqBytes
  simp only [List.length_append, List.length_cons, List.length_nil, r.id.2, r.old.2]
  omega
def kindReq : Req := ⟨0, 0, 3, 0, ⟨#[]⟩, zeroId, zeroId, 0, []⟩
theorem kindReq_built : Try.prog.built 76 [(2, .int .i64 3)] = some (reqCells kindReq none 0 0).toArray := by kernel_rfl
theorem reqCells_ones (r : Req) (A : Option Addr) (n c : Nat) : (reqCells r A n c).toArray.all (·.oneCell') = true := by
  rw [Array.all_eq_true_iff_forall_mem]
  intro u hu
  exact reqCells_one _ _ _ _ u (by simpa using hu)
theorem ReqR.ones {w : World} {F : Nat → Prop} {y : List Value} {r : Req} (h : ReqR w F y r) : y.toArray.all (·.oneCell') = true := by
  obtain ⟨A, n, c, rfl, _⟩ := h
  exact reqCells_ones r A n c
theorem ReqR.size {w : World} {F : Nat → Prop} {y : List Value} {r : Req} (h : ReqR w F y r) : y.toArray.size = 71 := by rw [List.size_toArray, h.len]
theorem Blk.all {w : World} {g t : Nat} {y : List Value} (h : Blk w g t y.toArray) : ∀ (j : Nat) (u : Value), y[j]? = some u → w.cell? ⟨g, 0 + j, none⟩ = some u := fun j u hu => by
  rw [Nat.zero_add, h.cell]; simpa using hu

set_option maxRecDepth 100000 in
set_option maxHeartbeats 4000000 in
theorem awake16 (w : World) : Calls Try.prog 47 #[] w fun e w' => e = .returned (.bool true) ∧ Fr NoB w w' := by
  have hk : ReqR w (fun _ => False) (reqCells kindReq none 0 0) kindReq := ⟨none, 0, 0, rfl, Nat.le_refl _, by simp [maxLen], Byt.nil _ _ _, by unfold reqWf; simp [kindReq, maxLen]; decide⟩
  have hput := PutRequest_any w (fun _ => False) _ kindReq hk (fun _ h => h.elim)
  have hask : reqAsks kindReq = true := by decide
  rw [show reqOut kindReq = reqBytes kindReq from by rw [reqOut, if_pos hask], show reqErr kindReq = 0 from by rw [reqErr, if_pos hask]] at hput
  have hlen := reqBytes_len kindReq
  obtain ⟨t, ht⟩ := reqBytes_cons kindReq
  obtain ⟨bl, hbl⟩ : ∃ bl, bl = reqBytes kindReq := ⟨_, rfl⟩
  rw [← hbl] at hput hlen ht
  have Hput := Lib.hid hput
  have Ht := Lib.hid ht
  obtain ⟨kc, hkc⟩ : ∃ kc, kc = reqCells kindReq none 0 0 := ⟨_, rfl⟩
  rw [← hkc] at Hput
  have Hkc := Lib.hid hkc
  have hb60 : decide (60 < (bl.length : Int)) = true := by simp only [decide_eq_true_eq]; omega
  have hof := fun W => OfRequest_any W (fun _ => False) none 0 0 [] (Byt.nil _ _ _) (by omega)
  rw [show reqOf [] = zeroReq from rfl, show reqBad [] = 180 from rfl] at hof
  have Hof := Lib.hid hof
  clear hput ht hkc hof hk hbl
  go_enter Try.func47, Try.ntmps47
  go_wp2_with (first
    | (refine wpList_build_eq rfl 76 #[(2, .const (.int .i64 3))] rfl [(2, .int .i64 3)] rfl kc.toArray (by rw [Hkc.out]; exact kindReq_built) ?_)
    | (go_at_call 49; refine Hput.out.mono ?_; rintro e w1 ⟨A1, c1, rfl, hf1, hO1, hin1⟩)
    | (go_at_call 51; refine (Hof.out _).mono ?_; rintro e w2 ⟨y, rfl, hf2, hy⟩; have Hys := Lib.hid hy.size; have Hy1 := Lib.hid hy.ones)
    | (refine wpList_alloc_any rfl 76 rfl 71 req_zero ?_; intro z hz; have Hz := Lib.hid hz; clear hz)
    | (refine wpList_store_newN rfl 76 (.tmp 3) (.tmp 12) rfl 71 req_size _ z Hz.out y.toArray rfl rfl Hys.out Hy1.out ?_; obtain ⟨sb, so, u, rfl, _, hu, hcell⟩ := (hO1.arr (F := fun _ => True) fun _ _ _ => trivial).at1 (k := 0) (by omega); rw [Ht.out] at hu; simp [bv] at hu; subst hu; rw [Nat.add_zero] at hcell; have hcell2 := ((hf2.alloc (.cells y.toArray 76)).cell' hcell id); have h0 : (0 : Int) < (bl.length : Int) := by omega))
  go_ret
  exact ⟨rfl, (hf1.trans hf2 fun _ _ => id).alloc _⟩

/-- A struct that lies in a block. -/
theorem ReqR.box {w : World} {F : Nat → Prop} {y : List Value} {r : Req} (_h : ReqR w F y r) : Blk (w.alloc (.cells y.toArray 76)) w.heap.size 76 y.toArray := Blk.new _ _ _

set_option maxRecDepth 100000 in
set_option maxHeartbeats 4000000 in
theorem WireRequests_any (w : World) (y : List Value) (r : Req) (hy : ReqR w (fun k => k < w.heap.size) y r) (A : Option Addr) (n c : Nat) (l : List UInt8) (hb : Byt w (fun k => k < w.heap.size) A n l) (hnc : n ≤ c) (hcm : c ≤ maxLen) :
    Calls Try.prog 10 #[.agg y.toArray, .slice A n c] w fun e w' => e = .returned (.bool true) ∧ Below w.heap.size w w' := by
  have hfin : ∀ w', Fr NoB w w' → Below w.heap.size w w' := fun w' h => Fr.below h (Nat.le_refl _) fun _ _ => id
  have Hfin := Lib.hid hfin
  have Hlen := Lib.hid hy.len
  have hf0 : Fr NoB w (w.alloc (.cells y.toArray 76)) := (Fr.refl _ _).alloc _
  have hB0 := hy.box
  clear hfin
  cases hsm : reqSmall r with
  | false =>
    have Hsm := Lib.hid hsm
    clear hsm
    go_enter Try.func10, Try.ntmps10
    go_wp2_with (first
      | (go_at_call 47; refine (awake16 _).mono ?_; rintro e w1 ⟨rfl, hf1⟩; have hB1 := hB0.fr hf1 id; have hF1 := hf0.trans hf1 fun _ _ => id)
      | (refine wpList_load_aggG rfl 76 (.tmp 2) rfl w.heap.size 0 rfl _ _ hB1.all Try.underlying76 rfl (by rw [Hlen.out]; exact req_size) ?_)
      | (go_at_call 48; refine (small_any _ _ _ r (hy.fr hF1 fun _ _ => id)).mono ?_; rw [Hsm.out]; rintro e w2 ⟨rfl, hf2⟩))
    go_ret
    exact ⟨rfl, Hfin.out _ (hF1.trans hf2 fun _ _ => id)⟩
  | true =>
    have Hsm := Lib.hid hsm
    clear hsm
    by_cases hn : n ≤ 2000
    · have b2 : decide (2000 < (n : Int)) = false := by simp only [decide_eq_false_iff_not]; omega
      go_enter Try.func10, Try.ntmps10
      go_wp2_with (first
        | (go_at_call 47; refine (awake16 _).mono ?_; rintro e w1 ⟨rfl, hf1⟩; have hB1 := hB0.fr hf1 id; have hF1 := hf0.trans hf1 fun _ _ => id)
        | (refine wpList_load_aggG rfl 76 (.tmp 2) rfl w.heap.size 0 rfl _ _ hB1.all Try.underlying76 rfl (by rw [Hlen.out]; exact req_size) ?_)
        | (go_at_call 48; refine (small_any _ _ _ r (hy.fr hF1 fun _ _ => id)).mono ?_; rw [Hsm.out]; rintro e w2 ⟨rfl, hf2⟩; have hB2 := hB1.fr hf2 id; have hF2 := hF1.trans hf2 fun _ _ => id; clear hB1)
        | (refine wpList_load_agg rfl 76 (.tmp 2) rfl w.heap.size 0 rfl _ _ hB2.all Try.underlying76 rfl (by rw [Hlen.out]; exact req_size) ?_)
        | (go_at_call 49; refine (PutRequest_any _ _ _ r (hy.fr hF2 fun _ _ => id) (fun k h => by have := hF2.size; omega)).mono ?_; rintro e w3 ⟨A3, c3, rfl, hf3, hO3, hin3⟩; have hB3 := hB2.fr hf3 id; have hF3 := hF2.trans hf3 fun _ _ => id; clear hB2)
        | (refine wpList_load_agg rfl 76 (.tmp 2) rfl w.heap.size 0 rfl _ _ hB3.all Try.underlying76 rfl (by rw [Hlen.out]; exact req_size) ?_)
        | (go_at_call 50; refine (refPutRequest_any _ _ _ r (hy.fr hF3 fun _ _ => id) (fun k h => by have := hF3.size; omega)).mono ?_; rintro e w4 ⟨A4, c4, rfl, hf4, hO4, hin4⟩; have hF4 := hF3.trans hf4 fun _ _ => id; clear hB3)
        | (go_at_call 51; refine (OfRequest_any _ _ _ n c l (hb.fr hF4 fun _ _ => id) (by omega)).mono ?_; rintro e w5 ⟨y5, rfl, hf5, hy5⟩; have Hs5 := Lib.hid hy5.size; have H15 := Lib.hid hy5.ones; have Hl5 := Lib.hid hy5.len; have hF5 := hF4.trans hf5 fun _ _ => id)
        | (refine wpList_alloc_any rfl 76 rfl 71 req_zero ?_; intro z hz; have Hz := Lib.hid hz; clear hz)
        | (refine wpList_store_newN rfl 76 (.tmp 9) (.tmp 36) rfl 71 req_size _ z Hz.out y5.toArray rfl rfl Hs5.out H15.out ?_; clear Hz; have hB6 := Blk.new w5 76 y5.toArray; have hF6 := hF5.alloc (.cells y5.toArray 76))
        | (go_at_call 52; refine (RequestOf_any _ _ (fun k h => by have := hF6.size; omega) _ n c l (hb.fr hF6 fun _ _ => id) hnc hcm (by omega)).mono ?_; rintro e w7 ⟨y7, rfl, hf7, hy7⟩; have Hs7 := Lib.hid hy7.size; have H17 := Lib.hid hy7.ones; have Hl7 := Lib.hid hy7.len; have hB7 := hB6.fr hf7 id; have hF7 := hF6.trans hf7 fun _ _ => id; clear hB6)
        | (refine wpList_store_newN rfl 76 (.tmp 11) (.tmp 41) rfl 71 req_size _ z Hz.out y7.toArray rfl rfl Hs7.out H17.out ?_; have hB8 := Blk.new w7 76 y7.toArray; have hF8 := hF7.alloc (.cells y7.toArray 76); have hB78 := hB7.alloc (.cells y7.toArray 76); have hf38 : Fr NoB w3 (w7.alloc (.cells y7.toArray 76)) := (((hf4.trans hf5 fun _ _ => id).alloc _).trans hf7 fun _ _ => id).alloc _; have hf48 : Fr NoB w4 (w7.alloc (.cells y7.toArray 76)) := ((hf5.alloc _).trans hf7 fun _ _ => id).alloc _; have hcv1 := Byt.str (F := fun _ => True) ((hO3.fr hf38 fun _ _ => id).arr fun _ _ _ => trivial) (P := Try.prog) Try.underlying22 Try.underlying5 Try.underlying9 c3; have hcv2 := Byt.str (F := fun _ => True) ((hO4.fr hf48 fun _ _ => id).arr fun _ _ _ => trivial) (P := Try.prog) Try.underlying22 Try.underlying5 Try.underlying9 c4; clear hB7)
        | (refine wpList_load_aggG rfl 76 (.tmp 9) rfl w5.heap.size 0 rfl _ _ hB78.all Try.underlying76 rfl (by rw [Hl5.out]; exact req_size) ?_)
        | (refine wpList_load_aggG rfl 76 (.tmp 11) rfl w7.heap.size 0 rfl _ _ hB8.all Try.underlying76 rfl (by rw [Hl7.out]; exact req_size) ?_)
        | (go_at_call 53; refine (SameReq_true _ _ _ _ _ (reqOf l) ((hy5.fr ((Fr.refl NoB w5).alloc _) fun _ _ => id).fr (hf7.alloc _) fun _ _ => id) (hy7.fr ((Fr.refl NoB w7).alloc _) fun _ _ => id)).mono ?_; rintro e w9 ⟨rfl, hf9⟩))
      go_ret
      exact ⟨rfl, Hfin.out _ (hF8.trans hf9 fun _ _ => id)⟩
    · have b2 : decide (2000 < (n : Int)) = true := by simp only [decide_eq_true_eq]; omega
      go_enter Try.func10, Try.ntmps10
      go_wp2_with (first
        | (go_at_call 47; refine (awake16 _).mono ?_; rintro e w1 ⟨rfl, hf1⟩; have hB1 := hB0.fr hf1 id; have hF1 := hf0.trans hf1 fun _ _ => id)
        | (refine wpList_load_aggG rfl 76 (.tmp 2) rfl w.heap.size 0 rfl _ _ hB1.all Try.underlying76 rfl (by rw [Hlen.out]; exact req_size) ?_)
        | (go_at_call 48; refine (small_any _ _ _ r (hy.fr hF1 fun _ _ => id)).mono ?_; rw [Hsm.out]; rintro e w2 ⟨rfl, hf2⟩))
      go_ret
      exact ⟨rfl, Hfin.out _ (hF1.trans hf2 fun _ _ => id)⟩
end Go.Proofs.Ytnkfchondedfcaa
