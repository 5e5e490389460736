/-
  A disk made ready (keep.Create); the example of chapter 18; a host that nobody made; the walk of KeepNone. Conditions: each contract states its own.
-/
import Derived.Test.YtnplamcajjblkaaGreatKc
import Derived.Test.YtnplamcajjblkaaGreatMx
import Derived.Great.BuildSlice
namespace Go.Proofs.YtnplamcajjblkaaGreat
open Go.RowKit

section
variable {P : Program} {ops : Array Oper} {rest : List Oper} {o : Oper} {a : Act} {w : World} {Q : Exit → Act → World → Prop}
theorem run_build2K (w : World) {t e : TypeId} {z : Value} {size bytes : Nat} (E : ElemOk P t e z size bytes) (hsm : 2 * size ≤ 16777216) (c1 c2 : Array Value) (h1 : c1.size = size) (h2 : c2.size = size) :
    (Instr.buildSlice t 2 #[(0, .agg c1), (1, .agg c2)]).run P w = .ok (.slice (some ⟨w.heap.size, 0, none⟩) 2 2) (w.alloc (.cells (c1.toList ++ c2.toList).toArray e)) := by
  obtain ⟨ht, ⟨i, hi, hz, hsize, _⟩, hzs, hsz, _⟩ := E
  have hf := Great.fill_whole hsz [.agg c1, .agg c2] ((Array.range (2 * size)).map (z.cells[· % z.cells.size]!)) (by simp [Value.cells, h1, h2]) (by simp)
  simp only [List.zipIdx_cons, List.zipIdx_nil, List.map_cons, List.map_nil, List.flatMap_cons, List.flatMap_nil, List.append_nil, show (Value.agg c1).cells = c1 from rfl, show (Value.agg c2).cells = c2 from rfl, Nat.zero_add] at hf
  subst hsize
  simp [Instr.buildSlice, run_underlying ht, sizeOf, typeInfo, zeroValue, hi, hz, hf, newRow, show ¬ 2 * i.size > 16777216 by omega, show ¬ 2 * i.size = 0 by omega]
theorem wpList_build2K (hgd : o.guard = none) {t e : TypeId} {z : Value} {size bytes : Nat} (E : ElemOk P t e z size bytes) (hsm : 2 * size ≤ 16777216) (x y : Operand) (ho : o.op = .buildSlice t 2 #[(0, x), (1, y)]) (c1 c2 : Array Value) (hx : a.eval x = .agg c1) (hy : a.eval y = .agg c2) (h1 : c1.size = size) (h2 : c2.size = size)
    (h : wpList P ops Q rest (a.put o.dst (.slice (some ⟨w.heap.size, 0, none⟩) 2 2)) (w.alloc (.cells (c1.toList ++ c2.toList).toArray e))) : wpList P ops Q (o :: rest) a w := by
  have hr := run_build2K (P := P) w E hsm c1 c2 h1 h2
  refine wpList_run (v := .slice (some ⟨w.heap.size, 0, none⟩) 2 2) (w' := w.alloc (.cells (c1.toList ++ c2.toList).toArray e)) (by simp [Region.wanted, hgd]) ?_ h
  unfold execOp
  simp only [ho, List.map_toArray, List.map_cons, List.map_nil, hx, hy, Sem.run_bind, hr, Result.andThen_ok, Sem.run_pure]
end
def zsec : List Value := (List.replicate 64 (0 : UInt8)).map bv
theorem zsec_len : zsec.length = 64 := by simp [zsec]
theorem zsec_one : ∀ v ∈ zsec, v.oneCell' = true := bv_one _
def zsecL : List UInt8 := List.replicate 64 0
theorem zsecL_len : zsecL.length = 64 := by simp [zsecL]
theorem zsec_eq : zsec = zsecL.map bv := rfl
theorem head_built0 (x : Int) : Tryz.prog.built 202 [(0, .int .i64 x)] = some (.int .i64 x :: zsec).toArray := by kernel_rfl
theorem head_built1 : Tryz.prog.built 202 [(0, .int .i64 1), (1, .agg ((superL 1).map bv).toArray)] = some (.int .i64 1 :: (superL 1).map bv).toArray := by kernel_rfl
theorem el_head : ElemOk Tryz.prog 305 202 (.agg (.int .i64 0 :: zsec).toArray) 65 72 := .mk Tryz.underlying305 (by kernel_rfl) rfl (by omega) (by omega)

set_option maxRecDepth 100000 in
set_option maxHeartbeats 2000000 in
theorem suiteNew_any (w : World) (q : Option Addr) :
    Calls Tryz.prog 35 #[.int .i64 0, .pointer q] w fun e w' => ∃ p, e = .returned (.pointer (some ⟨p, 0, none⟩)) ∧ Fr NoB w w' := by
  have hmm := @run_makeMap Tryz.prog
  have hb : ∀ a b c d : Option Nat, Tryz.prog.built 72 [(0, .int .i64 0), (1, .pointer q), (2, .map a), (3, .map b), (4, .map c), (5, .map d), (8, .bool true)] = some #[.int .i64 0, .pointer q, .map a, .map b, .map c, .map d, .slice none 0 0, .slice none 0 0, .bool false, .bool true] := by intro a b c d; kernel_rfl
  have Hb := Lib.hid hb
  clear hb
  go_enter Tryz.func35, Tryz.ntmps35
  go_wp2_with (first
    | (refine wpList_buildK rfl 72 #[(0, .tmp 11), (1, .tmp 12), (2, .tmp 13), (3, .tmp 14), (4, .tmp 15), (5, .tmp 16), (8, .const (.bool true))] rfl [(0, .int .i64 0), (1, .pointer q), (2, .map _), (3, .map _), (4, .map _), (5, .map _), (8, .bool true)] rfl _ (Hb.out _ _ _ _) ?_))
  go_ret
  exact ⟨_, rfl, (((((Fr.refl NoB w).alloc _).alloc _).alloc _).alloc _).alloc _⟩
theorem slot1 (w : World) : Calls Tryz.prog 46 #[.int .u32 1] w fun e w' => e = .returned (.int .i64 1) ∧ w' = w := slot_any w 1 (by omega)
theorem half1 (w : World) (p r n k q : Nat) (secs : List (List UInt8)) (h : DiskAt w p r n k secs) (h6 : 6 ≤ n) (hn : n ≤ 1000000) (hq : q = (n - 2) / 2) :
    Calls Tryz.prog 44 #[.pointer (some ⟨p, 0, none⟩), .int .i64 1] w fun e w' => e = .returned (.tuple #[.int .i64 ((2 + q : Nat) : Int), .int .i64 (q : Int)]) ∧ w' = w := by
  have := half_any w p r n k secs 1 h hn (by omega) (by omega)
  have hE : halfF n 1 = (((2 + q : Nat) : Int), (q : Int)) := by unfold halfF; rw [if_neg (by omega), ← hq]; simp
  rw [hE] at this
  exact this
theorem half0 (w : World) (p r n k : Nat) (secs : List (List UInt8)) (h : DiskAt w p r n k secs) (h6 : n < 6) :
    Calls Tryz.prog 44 #[.pointer (some ⟨p, 0, none⟩), .int .i64 1] w fun e w' => e = .returned (.tuple #[.int .i64 0, .int .i64 0]) ∧ w' = w := by
  have := half_any w p r n k secs 1 h (by omega) (by omega) (by omega)
  have hE : halfF n 1 = (0, 0) := by unfold halfF; rw [if_pos (by omega)]
  rw [hE] at this
  exact this
theorem createSmall_any (w : World) (p r n : Nat) (secs : List (List UInt8)) (h : DiskAt w p r n 0 secs) (h6 : n < 6) (s : Option Addr) :
    Calls Tryz.prog 40 #[.pointer s, .pointer (some ⟨p, 0, none⟩)] w fun e w' => e = .returned (.int .i64 1) ∧ w' = w := by
  have H := Lib.hid (half0 w p r n 0 secs h h6)
  go_enter Tryz.func40, Tryz.ntmps40
  go_wp2_with (first
    | (go_at_call 46; refine (slot1 _).mono ?_; rintro e w1 ⟨rfl, h12⟩; rw [h12])
    | (go_at_call 44; refine H.out.mono ?_; rintro e w1 ⟨rfl, h12⟩; rw [h12]))
  go_ret
  exact ⟨rfl, rfl⟩
theorem heads2 (W : World) (z0 z1 : List UInt8) (x0 x1 : Nat) (hz0 : z0.length = 64) (hz1 : z1.length = 64) :
    ArrOf HeadR (W.alloc (.cells ((Value.int .i64 (x0 : Int) :: z0.map bv).toArray.toList ++ (Value.int .i64 (x1 : Int) :: z1.map bv).toArray.toList).toArray 202)) (fun j => j = W.heap.size) 65 (some ⟨W.heap.size, 0, none⟩) 2 [(x0, z0), (x1, z1)] := by
  have hA := Arr.new W 202 ((Value.int .i64 (x0 : Int) :: z0.map bv).toArray.toList ++ (Value.int .i64 (x1 : Int) :: z1.map bv).toArray.toList).toArray 2 65 (by simp [hz0, hz1])
  refine ArrOf.of_arr (ys := [.int .i64 (x0 : Int) :: z0.map bv, .int .i64 (x1 : Int) :: z1.map bv]) (by simpa using hA) ?_ rfl ?_
  · intro y hy
    simp only [List.mem_cons, List.not_mem_nil, or_false] at hy
    rcases hy with rfl | rfl
    · simp [hz0]
    · simp [hz1]
  · intro i a ha
    rcases i with _ | _ | i
    · injection ha with ha; subst ha; exact ⟨_, rfl, rfl, hz0⟩
    · injection ha with ha; subst ha; exact ⟨_, rfl, rfl, hz1⟩
    · simp at ha
theorem heads1 (W : World) (z0 : List UInt8) (x0 : Nat) (hz0 : z0.length = 64) :
    ArrOf HeadR (W.alloc (.cells (Value.int .i64 (x0 : Int) :: z0.map bv).toArray 202)) (fun j => j = W.heap.size) 65 (some ⟨W.heap.size, 0, none⟩) 1 [(x0, z0)] := by
  have hA := Arr.new W 202 (Value.int .i64 (x0 : Int) :: z0.map bv).toArray 1 65 (by simp [hz0])
  refine ArrOf.of_arr (ys := [.int .i64 (x0 : Int) :: z0.map bv]) (by simpa using hA) ?_ rfl ?_
  · intro y hy
    simp only [List.mem_cons, List.not_mem_nil, or_false] at hy
    subst hy
    simp [hz0]
  · intro i a ha
    rcases i with _ | i
    · injection ha with ha; subst ha; exact ⟨_, rfl, rfl, hz0⟩
    · simp at ha
/-- What stands in the sectors of a disk that was made ready. -/
def createdL (n : Nat) (secs : List (List UInt8)) : List (List UInt8) := (((secs.set 0 zsecL).set 1 zsecL).set (2 + (n - 2) / 2) zsecL).set 1 (superL 1)

set_option maxRecDepth 100000 in
set_option maxHeartbeats 2000000 in
theorem createBig_any (w : World) (p r n : Nat) (secs : List (List UInt8)) (h : DiskAt w p r n 0 secs) (h6 : 6 ≤ n) (hn : n ≤ 65536) (s : Option Addr) :
    Calls Tryz.prog 40 #[.pointer s, .pointer (some ⟨p, 0, none⟩)] w fun e w' => e = .returned (.int .i64 0) ∧ DiskAt w' p r n 4 (createdL n secs) ∧ Fr (fun j => j = p ∨ j = r) w w' := by
  obtain ⟨q, hq⟩ : ∃ q, q = (n - 2) / 2 := ⟨_, rfl⟩
  have hq2 : 2 ≤ q := by omega
  have hqn : 2 + q + q ≤ n := by omega
  have hplt := h.blk.lt
  have hrlt : r < w.heap.size := by obtain ⟨cs, hc, _⟩ := h.row; exact hc.lt
  have hne : ¬ ((q : Int) = 0) := by omega
  have H := Lib.hid (half1 w p r n 0 q secs h h6 (by omega) hq)
  obtain ⟨y0, hy0⟩ : ∃ y0, y0 = Value.int .i64 0 :: zsec := ⟨_, rfl⟩
  obtain ⟨y1, hy1⟩ : ∃ y1, y1 = Value.int .i64 1 :: zsec := ⟨_, rfl⟩
  obtain ⟨sv, hsv⟩ : ∃ sv, sv = (superL 1).map bv := ⟨_, rfl⟩
  obtain ⟨y2, hy2⟩ : ∃ y2, y2 = Value.int .i64 1 :: sv := ⟨_, rfl⟩
  have B0 : Hid (Tryz.prog.built 202 [(0, .int .i64 0)] = some y0.toArray) := by show _ = _; rw [hy0]; exact head_built0 0
  have B1 : Hid (Tryz.prog.built 202 [(0, .int .i64 1)] = some y1.toArray) := by show _ = _; rw [hy1]; exact head_built0 1
  have B2 : Hid (Tryz.prog.built 202 [(0, .int .i64 1), (1, .agg sv.toArray)] = some y2.toArray) := by show _ = _; rw [hy2, hsv]; exact head_built1
  have L0 : Hid (y0.toArray.size = 65) := by show _ = _; rw [hy0]; simp [zsec_len]
  have L1 : Hid (y1.toArray.size = 65) := by show _ = _; rw [hy1]; simp [zsec_len]
  have L2 : Hid (y2.toArray.size = 65) := by show _ = _; rw [hy2, hsv]; rfl
  have W1 : Hid (∀ W : World, p < W.heap.size → r < W.heap.size → DiskAt W p r n 0 secs → Calls Tryz.prog 86 #[.pointer (some ⟨p, 0, none⟩), .slice (some ⟨W.heap.size, 0, none⟩) 2 2] (W.alloc (.cells (y0.toArray.toList ++ y1.toArray.toList).toArray 202)) fun e w' => e = .returned (.int .i64 0) ∧ DiskAt w' p r n 2 ((secs.set 0 zsecL).set 1 zsecL) ∧ Fr (fun j => j = p ∨ j = r) (W.alloc (.cells (y0.toArray.toList ++ y1.toArray.toList).toArray 202)) w') := by
    intro W hp hr hD
    have hh := heads2 W zsecL zsecL 0 1 zsecL_len zsecL_len
    rw [hy0, hy1, zsec_eq]
    exact written_any _ _ p r n 0 secs _ 2 2 _ (hD.fr ((Fr.refl NoB W).alloc _) id id) hh (fun j hj => by omega) (fun x hx => by
      simp only [List.mem_cons, List.not_mem_nil, or_false] at hx
      rcases hx with rfl | rfl
      · show 0 < n; omega
      · show 1 < n; omega) (by omega)
  have W2 : Hid (∀ W : World, p < W.heap.size → r < W.heap.size → DiskAt W p r n 3 (((secs.set 0 zsecL).set 1 zsecL).set (2 + q) zsecL) → Calls Tryz.prog 86 #[.pointer (some ⟨p, 0, none⟩), .slice (some ⟨W.heap.size, 0, none⟩) 1 1] (W.alloc (.cells y2.toArray 202)) fun e w' => e = .returned (.int .i64 0) ∧ DiskAt w' p r n 4 (createdL n secs) ∧ Fr (fun j => j = p ∨ j = r) (W.alloc (.cells y2.toArray 202)) w') := by
    intro W hp hr hD
    have hh := heads1 W (superL 1) 1 rfl
    rw [hy2, hsv]
    unfold createdL
    rw [← hq]
    exact written_any _ _ p r n 3 _ _ 1 1 _ (hD.fr ((Fr.refl NoB W).alloc _) id id) hh (fun j hj => by omega) (fun x hx => by
      simp only [List.mem_cons, List.not_mem_nil, or_false] at hx
      subst hx
      show 1 < n; omega) (by omega)
  have Hsup : Hid (∀ W : World, Calls Tryz.prog 88 #[.int .u32 1] W fun e w' => e = .returned (.agg sv.toArray) ∧ Fr NoB W w') := by intro W; rw [hsv]; exact super_any W 1 (by omega)
  clear hy0 hy1 hy2 hsv hq
  go_enter Tryz.func40, Tryz.ntmps40
  go_wp2_with (first
    | (go_at_call 46; refine (slot1 _).mono ?_; rintro e wq ⟨rfl, h12⟩; rw [h12]; clear h12)
    | (go_at_call 44; refine H.out.mono ?_; rintro e wq ⟨rfl, h12⟩; rw [h12]; clear h12)
    | (refine wpList_buildK rfl 202 #[(0, .const (.int .i64 0))] rfl [(0, .int .i64 0)] rfl y0.toArray B0.out ?_)
    | (refine wpList_buildK rfl 202 #[(0, .const (.int .i64 1))] rfl [(0, .int .i64 1)] rfl y1.toArray B1.out ?_)
    | (refine wpList_build2K rfl el_head (by omega) (.tmp 18) (.tmp 19) rfl y0.toArray y1.toArray rfl rfl L0.out L1.out ?_)
    | (go_at_call 86
       refine (W2.out w4 (by omega) (by omega) hD4).mono ?_
       rintro e w5 ⟨rfl, hD5, hf5⟩)
    | (go_at_call 86
       refine (W1.out w hplt hrlt h).mono ?_
       rintro e w2 ⟨rfl, hD2, hf2⟩
       have hf02 : Fr (fun j => j = p ∨ j = r) w w2 := ((Fr.refl _ w).alloc _).trans hf2 fun _ _ h => h)
    | (go_at_call 87
       refine (format_any w2 p r n 2 (2 + q) q 1 _ hD2 hq2 hqn (by omega) (by omega)).mono ?_
       rintro e w3 ⟨rfl, hD3, hf3⟩
       have hf03 := hf02.trans hf3 fun _ _ h => h)
    | (go_at_call 88
       refine (Hsup.out w3).mono ?_
       rintro e w4 ⟨rfl, hf4⟩
       have hD4 := hD3.fr hf4 id id
       have hf04 := hf03.trans hf4 fun _ _ h => h.elim
       have s4 := hf04.size)
    | (refine wpList_buildK rfl 202 #[(0, .tmp 33), (1, .tmp 34)] rfl [(0, .int .i64 1), (1, .agg sv.toArray)] rfl y2.toArray B2.out ?_)
    | (refine wpList_build1 rfl el_head (by omega) (.tmp 35) rfl y2.toArray rfl L2.out ?_))
  go_ret
  exact ⟨rfl, hD5, (hf04.alloc _).trans hf5 fun _ _ h => h⟩
theorem hostOk_nil (w : World) : Calls Tryz.prog 52 #[.pointer none] w fun e w' => e = .returned (.bool false) ∧ w' = w := by
  go_enter Tryz.func52, Tryz.ntmps52
  go_wp2
  go_ret
  exact ⟨rfl, rfl⟩
theorem hostDead_nil (w : World) : Calls Tryz.prog 82 #[.pointer none] w fun e w' => e = .returned (.bool true) ∧ w' = w := by
  go_enter Tryz.func82, Tryz.ntmps82
  go_wp2_with (go_at_call 52; refine (hostOk_nil _).mono ?_; rintro e w1 ⟨rfl, h12⟩; rw [h12])
  go_ret
  exact ⟨rfl, rfl⟩
theorem hostGen_nil (w : World) : Calls Tryz.prog 21 #[.pointer none] w fun e w' => e = .returned (.int .u32 0) ∧ w' = w := by
  go_enter Tryz.func21, Tryz.ntmps21
  go_wp2_with (go_at_call 52; refine (hostOk_nil _).mono ?_; rintro e w1 ⟨rfl, h12⟩; rw [h12])
  go_ret
  exact ⟨rfl, rfl⟩
theorem hostCompact_nil (w : World) : Calls Tryz.prog 34 #[.pointer none] w fun e w' => e = .returned (.int .i64 131) ∧ w' = w := by
  go_enter Tryz.func34, Tryz.ntmps34
  go_wp2_with (go_at_call 82; refine (hostDead_nil _).mono ?_; rintro e w1 ⟨rfl, h12⟩; rw [h12])
  go_ret
  exact ⟨rfl, rfl⟩

/-- A reply that tells an error alone. -/
def failCells (client seq : Nat) (bad : Int) : List Value := [.int .u32 (client : Int), .int .u64 (seq : Int), .int .i64 bad] ++ (idCells zeroId ++ [.int .u64 0, .slice none 0 0, .slice none 0 0])
theorem failCells_len (client seq : Nat) (bad : Int) : (failCells client seq bad).length = 38 := rfl
theorem fail_built (client seq : Nat) : Tryz.prog.built 131 [(0, .int .u32 (client : Int)), (1, .int .u64 (seq : Int)), (2, .int .i64 131)] = some (failCells client seq 131).toArray := by kernel_rfl
theorem rep_size : (Tryz.prog.info? 131).map (·.size) = some 38 := by kernel_rfl
theorem rep_zero : ((Tryz.prog.info? 131).bind (·.zero)).map (·.cells.size) = some 38 := by kernel_rfl
theorem failCells_one (client seq : Nat) (bad : Int) : (failCells client seq bad).toArray.all (·.oneCell') = true := by
  rw [Array.all_eq_true_iff_forall_mem]
  intro u hu
  simp only [failCells, List.mem_toArray, List.mem_append, List.mem_cons, List.not_mem_nil, or_false] at hu
  rcases hu with (rfl | rfl | rfl) | h | rfl | rfl | rfl
  all_goals first | rfl | exact bv_one _ _ h

set_option maxRecDepth 100000 in
set_option maxHeartbeats 2000000 in
theorem hostDo_nil (w : World) (F : Nat → Prop) (y : List Value) (r : Req) (hy : ReqR w F y r) :
    Calls Tryz.prog 289 #[.pointer none, .agg y.toArray] w fun e w' => e = .returned (.agg (failCells r.client r.seq 131).toArray) ∧ Fr NoB w w' := by
  obtain ⟨A, n, c, rfl, _, _, _, _⟩ := hy
  obtain ⟨yc, hyc⟩ : ∃ yc, yc = reqCells r A n c := ⟨_, rfl⟩
  obtain ⟨fc, hfc⟩ : ∃ fc, fc = failCells r.client r.seq 131 := ⟨_, rfl⟩
  obtain ⟨w1, hw1⟩ : ∃ w1, w1 = w.alloc (.cells yc.toArray 127) := ⟨_, rfl⟩
  have hf1 : Fr NoB w w1 := by rw [hw1]; exact (Fr.refl _ _).alloc _
  have hR : ReqBlk w1 w.heap.size r A n c := by rw [hw1, hyc]; exact ⟨Blk.new _ _ _⟩
  obtain ⟨B, hB⟩ : ∃ B, B = w.heap.size := ⟨_, rfl⟩
  have Bf : Hid (Tryz.prog.built 131 [(0, .int .u32 (r.client : Int)), (1, .int .u64 (r.seq : Int)), (2, .int .i64 131)] = some fc.toArray) := by show _ = _; rw [hfc]; exact fail_built _ _
  have Lf : Hid (fc.length = 38) := by show _ = _; rw [hfc]; rfl
  have Sf : Hid (fc.toArray.size = 38) := by show _ = _; rw [hfc]; rfl
  have Of : Hid (fc.toArray.all (·.oneCell') = true) := by show _ = _; rw [hfc]; exact failCells_one _ _ _
  have Hw1 := Lib.hid hw1
  have HB := Lib.hid hB
  rw [← hB] at hR
  have hBl := hR.blk.lt
  rw [← hyc, ← hfc]
  clear hw1 hB hyc hfc
  go_enter Tryz.func289, Tryz.ntmps289
  go_wp2_with (first
    | (refine wpList_alloc_any rfl 131 rfl 38 rep_zero ?_
       intro z hz
       rw [← Hw1.out]
       rw [← HB.out]
       have Hz := Lib.hid hz
       obtain ⟨g4, hg4⟩ : ∃ g4, g4 = w1.heap.size := ⟨_, rfl⟩
       obtain ⟨w2, hw2⟩ : ∃ w2, w2 = w1.alloc (.cells z 131) := ⟨_, rfl⟩
       rw [← hw2]
       rw [← hg4]
       have hf2 : Fr NoB w1 w2 := by rw [hw2]; exact (Fr.refl _ _).alloc _
       have hZ : Blk w2 g4 131 z := by rw [hw2, hg4]; exact Blk.new _ _ _
       have hR2 := hR.fr hf2 id
       have q0 := hR2.c0
       have q1 := hR2.c1
       have hg4B : B < g4 := by omega
       have Hg4 := Lib.hid hg4
       clear hz hg4 hw2)
    | (refine wpList_buildK rfl 131 #[(0, .tmp 8), (1, .tmp 10), (2, .const (.int .i64 131))] rfl [(0, .int .u32 (r.client : Int)), (1, .int .u64 (r.seq : Int)), (2, .int .i64 131)] rfl fc.toArray Bf.out ?_)
    | (refine wpList_alloc_any rfl 131 rfl 38 rep_zero ?_
       intro z5 hz5
       have Hz5 := Lib.hid hz5
       clear hz5)
    | (refine wpList_store_newN rfl 131 (.tmp 5) (.tmp 11) rfl 38 rep_size _ z5 Hz5.out fc.toArray rfl rfl Sf.out Of.out ?_
       clear Hz5
       obtain ⟨g5, hg5⟩ : ∃ g5, g5 = w2.heap.size := ⟨_, rfl⟩
       obtain ⟨w3, hw3⟩ : ∃ w3, w3 = w2.alloc (.cells fc.toArray 131) := ⟨_, rfl⟩
       rw [← hw3]
       rw [← hg5]
       have hf3 : Fr NoB w2 w3 := by rw [hw3]; exact (Fr.refl _ _).alloc _
       have hG5 : Blk w3 g5 131 fc.toArray := by rw [hw3, hg5]; exact Blk.new _ _ _
       have hZ3 := hZ.fr hf3 id
       have all5 : ∀ j u, fc[j]? = some u → w3.cell? ⟨g5, 0 + j, none⟩ = some u := fun j u hu => by rw [Nat.zero_add, hG5.cell]; simpa using hu
       clear hg5 hw3 q0 q1)
    | (go_at_call 82; refine (hostDead_nil _).mono ?_; rintro e wq ⟨rfl, h12⟩; rw [h12]; clear h12)
    | (refine wpList_load_agg rfl 131 (.tmp 5) rfl g5 0 rfl fc _ all5 Tryz.underlying131 rfl (by rw [Lf.out]; exact rep_size) ?_)
    | (refine wpList_store_rowK rfl 131 (.tmp 4) (.tmp 15) rfl g4 fc.toArray rfl rfl 131 z hZ3 (by rw [Sf.out]; exact rep_size) (by rw [Sf.out]; exact Hz.out) Of.out ?_))
  have kk3 := (setRow_frK (ds := fc.toArray) hZ3).2
  have fr3 := (setRow_frK (ds := fc.toArray) hZ3).1
  refine bodyPost_ret (results_cellK (cs := fc) rfl rfl (fun j v hv => by rw [Nat.zero_add, kk3.cell]; simpa using hv) Tryz.underlying131 rfl (by rw [Lf.out]; exact rep_size)) rfl ?_
  exact ⟨rfl, ((hf1.trans hf2 fun _ _ => id).trans hf3 fun _ _ => id).new fr3 fun j hj => .inr (by have := HB.out; omega)⟩
end Go.Proofs.YtnplamcajjblkaaGreat
