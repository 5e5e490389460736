/-
  The statement KeepNone: a host that nobody made is dead; heads and halves are where the document says (the walk). Conditions: none but that the arguments can be read.
-/
import Derived.Test.YtdfmoafjgocbnaaGreatKd
import Derived.Test.YtdfmoafjgocbnaaGreatKe
import Derived.Test.YtdfmoafjgocbnaaGreatWq
namespace Go.Proofs.YtdfmoafjgocbnaaGreat
open Go.RowKit

theorem el_req : ElemOk Tryz.prog 23 60 (.agg (reqCells ⟨0, 0, 0, 0, ⟨#[]⟩, zeroId, zeroId, 0, []⟩ none 0 0).toArray) 71 144 := .mk Tryz.underlying23 (by kernel_rfl) rfl (by omega) (by omega)

theorem repErr_run (w : World) (cs : Array Value) (v : Value) (h : cs[2]? = some v) : (Instr.field 64 (.agg cs) 2).run Tryz.prog w = .ok v w := by
  simp [Instr.field, run_underlying Tryz.underlying64, asAgg, part, isAgg, run_underlying Tryz.underlying61, h]
theorem exec_repErr {o : Oper} {a : Act} {w : World} (x : Operand) (ho : o.op = .field 64 x 2) (cs : Array Value) (v : Value) (hx : a.eval x = .agg cs) (h : cs[2]? = some v) : (execOp a.eval o).run Tryz.prog w = .ok (.value v) w := by
  unfold execOp
  simp only [ho, hx, Sem.run_bind, repErr_run w cs v h, Result.andThen_ok, Sem.run_pure]
theorem u8_sizeK : ∀ w, (sizeOf 5).run Tryz.prog w = .ok 1 w := by
  intro w
  obtain ⟨i, h, a, b, c⟩ := info_parts (P := Tryz.prog) (e := 5) (z := .int .u8 0) (size := 1) (bytes := 1) (by kernel_rfl)
  simp [sizeOf, typeInfo, h, b]
theorem sec_guard : Tryz.prog.eqGuardType Tryz.prog.depth 97 = false := by kernel_rfl

set_option maxRecDepth 100000 in
set_option maxHeartbeats 4000000 in
theorem KeepNone_any (w : World) (x j : Int) (g : Nat) (y : List Value) (r : Req) (hy : ReqR w (fun k => k < w.heap.size) y r) (hj1 : -9223372036854775808 ≤ j) (hj2 : j ≤ 9223372036854775807) (hg : g < 4294967296) :
    Calls Tryz.prog 7 #[.int .i64 x, .int .i64 j, .int .u32 (g : Int), .agg y.toArray] w fun e w' => e = .returned (.bool true) ∧ Below w.heap.size w w' := by
  have hy0 := hy
  have hyl := hy.len
  obtain ⟨A, n, c, hyc, hnc, hcm, hb, hwf⟩ := hy
  obtain ⟨w1, hw1⟩ : ∃ w1, w1 = w.alloc (.cells y.toArray 60) := ⟨_, rfl⟩
  obtain ⟨B, hB⟩ : ∃ B, B = w.heap.size := ⟨_, rfl⟩
  have hf1 : Fr NoB w w1 := by rw [hw1]; exact (Fr.refl _ _).alloc _
  have hR : Blk w1 B 60 y.toArray := by rw [hw1, hB]; exact Blk.new _ _ _
  have Ly := Lib.hid hyl
  have Sy : Hid (y.toArray.size = 71) := by show _ = _; simpa using hyl
  have Oy : Hid (∀ u ∈ y, u.oneCell' = true) := by
    intro u hu
    rw [hyc] at hu
    exact reqCells_one _ _ _ _ u hu
  have HB := Lib.hid hB
  have Hw1 := Lib.hid hw1
  have hfin : ∀ W : World, Fr NoB w W → Below w.heap.size w W := fun W hf => hf.below (Nat.le_refl _) fun _ _ => id
  have Hfin := Lib.hid hfin
  have HF : Hid (∀ W (hW : Fr NoB w W), Reqs (W.alloc (.cells y.toArray 60)) (fun k => k < w.heap.size ∨ k = W.heap.size) (some ⟨W.heap.size, 0, none⟩) 1 [r]) := by
    intro W hW
    have hA := Arr.new W 60 y.toArray 1 71 (by rw [Sy.out])
    refine ArrOf.of_arr (ys := [y]) (by simpa using Arr.more hA (fun k _ h => .inr h) (by omega)) (by simpa using hyl) rfl ?_
    intro i a ha
    rcases i with _ | i
    · injection ha with ha
      subst ha
      obtain ⟨A, n, c, h1, h2, h3, h4, h5⟩ := hy0
      exact ⟨y, rfl, A, n, c, h1, h2, h3, ((h4.fr hW fun _ _ => id).alloc _).more fun k _ h => .inl h, h5⟩
    · simp at ha
  have HD : Hid (∀ W (hW : Fr NoB w W), Calls Tryz.prog 39 #[.pointer none, .agg y.toArray] W fun e w' => e = .returned (.agg (failCells r.client r.seq 131).toArray) ∧ Fr NoB W w') := fun W hW => hostDo_nil W _ y r (hy0.fr hW fun _ _ => id)
  clear hB hw1 hyl hyc hb hwf hy0 hfin
  have all1 : ∀ (W : World), Fr NoB w1 W → ∀ j u, y[j]? = some u → W.cell? ⟨B, 0 + j, none⟩ = some u := fun W hW j u hu => by rw [Nat.zero_add, (hR.fr hW id).cell]; simpa using hu
  have All1 := Lib.hid all1
  clear all1
  by_cases hx : x ≤ 1000
  · have b1 : decide ((1000 : Int) < x) = false := by simp only [decide_eq_false_iff_not]; omega
    obtain ⟨m, hm⟩ : ∃ m, m = x.toNat := ⟨_, rfl⟩
    have hm6 : m ≤ 1000000 := by omega
    have Hm := Lib.hid hm
    clear hm
    cases hq : reqsFew [r] with
    | true =>
      have Hq := Lib.hid hq
      clear hq
      go_enter Tryz.func7, Tryz.ntmps7
      go_wp2_with (first
        | (go_at_call 29
           rw [← Hw1.out]
           try rw [← HB.out]
           refine (awake18 w1).mono ?_
           rintro e w2 ⟨rfl, hf2⟩
           have hf02 := hf1.trans hf2 fun _ _ => id
           have a2 := All1.out w2 hf2)
        | (refine wpList_load_aggG (by kernel_rfl) 60 (.tmp 7) rfl B 0 rfl y _ a2 Tryz.underlying60 rfl (by rw [Ly.out]; exact req_size) ?_)
        | (refine wpList_run (by kernel_rfl) (exec_build1 el_req (by omega) (.tmp 21) rfl y.toArray rfl Sy.out) ?_)
        | (go_at_call 9
           refine (few17_any _ _ _ 1 1 _ (HF.out w2 hf02) (by omega)).mono ?_
           rintro e w3 ⟨rfl, hf3⟩
           rw [Hq.out]
           have hf03 := (hf02.alloc (.cells y.toArray 60)).trans hf3 fun _ _ => id
           clear a2)
        | (go_at_call 30
           refine (diskNew_any w3 x m (by omega) Hm.out).mono ?_
           rintro e w4 ⟨p, r4, rfl, hD4, hf4, _, _⟩
           have hf04 := hf03.trans hf4 fun _ _ => id)
        | (go_at_call 31
           refine (refDiskNew_any w4 x m (by omega) Hm.out).mono ?_
           rintro e w5 ⟨p5, rfl, hR5, hf5⟩
           have hf05 := hf04.trans hf5 fun _ _ => id
           have hD5 := hD4.fr hf5 id id)
        | (go_at_call 32
           refine (half_any w5 p r4 m 0 j hD5 hm6 hj1 hj2).mono ?_
           rintro e wq ⟨rfl, h12⟩
           rw [h12]
           clear h12)
        | (go_at_call 33
           refine (refHalf_any w5 p5 m j hR5 hm6 hj1 hj2).mono ?_
           rintro e wq ⟨rfl, h12⟩
           rw [h12]
           clear h12)
        | (go_at_call 34
           refine (super_any w5 g hg).mono ?_
           rintro e w6 ⟨rfl, hf6⟩
           have hf06 := hf05.trans hf6 fun _ _ => id)
        | (go_at_call 35
           refine (refSuper_any w6 g hg).mono ?_
           rintro e w7 ⟨rfl, hf7⟩
           have hf07 := hf06.trans hf7 fun _ _ => id
           have a7 := All1.out w7 (((((hf2.alloc (.cells y.toArray 60)).trans hf3 fun _ _ => id).trans hf4 fun _ _ => id).trans hf5 fun _ _ => id).trans (hf6.trans hf7 fun _ _ => id) fun _ _ => id)
           obtain ⟨sl, hsl⟩ : ∃ sl, sl = superL g := ⟨_, rfl⟩
           have Lsl : Hid (sl.length = 64) := by show _ = _; rw [hsl]; rfl
           have hee : (sl == sl) = true := by simp
           rw [← hsl]
           clear hsl)
        | (refine wpList_run (by kernel_rfl) (exec_eql_arr 97 5 _ 64 (.tmp 52) (.tmp 54) rfl Tryz.underlying97 Tryz.underlying5 u8_sizeK sec_guard sl sl rfl rfl Lsl.out Lsl.out) ?_; rw [hee])
        | (go_at_call 36; refine (hostDead_nil _).mono ?_; rintro e wq ⟨rfl, h12⟩; rw [h12]; clear h12)
        | (go_at_call 37; refine (hostState_nil _).mono ?_; rintro e wq ⟨rfl, h12⟩; rw [h12]; clear h12)
        | (go_at_call 38; refine (hostGen_nil _).mono ?_; rintro e wq ⟨rfl, h12⟩; rw [h12]; clear h12)
        | (refine wpList_load_aggG (by kernel_rfl) 60 (.tmp 7) rfl B 0 rfl y _ a7 Tryz.underlying60 rfl (by rw [Ly.out]; exact req_size) ?_)
        | (go_at_call 39
           refine (HD.out w7 hf07).mono ?_
           rintro e w8 ⟨rfl, hf8⟩)
        | (refine wpList_run (by kernel_rfl) (exec_repErr (.tmp 74) rfl (failCells r.client r.seq 131).toArray (.int .i64 131) rfl rfl) ?_)
        | (go_at_call 40; refine (hostCompact_nil _).mono ?_; rintro e wq ⟨rfl, h12⟩; rw [h12]; clear h12))
      go_ret
      exact ⟨rfl, Hfin.out _ (hf07.trans hf8 fun _ _ => id)⟩
    | false =>
      have Hq := Lib.hid hq
      clear hq
      go_enter Tryz.func7, Tryz.ntmps7
      go_wp2_with (first
        | (go_at_call 29
           rw [← Hw1.out]
           try rw [← HB.out]
           refine (awake18 w1).mono ?_
           rintro e w2 ⟨rfl, hf2⟩
           have hf02 := hf1.trans hf2 fun _ _ => id
           have a2 := All1.out w2 hf2)
        | (refine wpList_load_aggG (by kernel_rfl) 60 (.tmp 7) rfl B 0 rfl y _ a2 Tryz.underlying60 rfl (by rw [Ly.out]; exact req_size) ?_)
        | (refine wpList_run (by kernel_rfl) (exec_build1 el_req (by omega) (.tmp 21) rfl y.toArray rfl Sy.out) ?_)
        | (go_at_call 9
           refine (few17_any _ _ _ 1 1 _ (HF.out w2 hf02) (by omega)).mono ?_
           rintro e w3 ⟨rfl, hf3⟩
           rw [Hq.out]
           have hf03 := (hf02.alloc (.cells y.toArray 60)).trans hf3 fun _ _ => id))
      go_ret
      exact ⟨rfl, Hfin.out _ hf03⟩
  · have b1 : decide ((1000 : Int) < x) = true := by simp only [decide_eq_true_eq]; omega
    go_enter Tryz.func7, Tryz.ntmps7
    go_wp2_with (first
      | (go_at_call 29
         rw [← Hw1.out]
         try rw [← HB.out]
         refine (awake18 w1).mono ?_
         rintro e w2 ⟨rfl, hf2⟩
         have hf02 := hf1.trans hf2 fun _ _ => id))
    go_ret
    exact ⟨rfl, Hfin.out _ hf02⟩

theorem KeepNone_row (w : World) (x j g : Int) (y : List Value) (r : Req) (hy : ReqR w (fun k => k < w.heap.size) y r) (hj : (Lit.int .i64 j).wf = true) (hg : (Lit.int .u32 g).wf = true) :
    Calls Tryz.prog 7 #[.int .i64 x, .int .i64 j, .int .u32 g, .agg y.toArray] w fun e w' => e = .returned (.bool true) ∧ Below w.heap.size w w' := by
  obtain ⟨h1, h2⟩ := wf_i64_b hj
  obtain ⟨g0, g1⟩ := wf_u32_b hg
  obtain ⟨n, rfl⟩ := Int.eq_ofNat_of_zero_le g0
  exact KeepNone_any w x j n y r hy h1 h2 (by omega)
end Go.Proofs.YtdfmoafjgocbnaaGreat
