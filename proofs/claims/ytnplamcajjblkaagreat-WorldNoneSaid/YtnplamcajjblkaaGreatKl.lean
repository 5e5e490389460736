/-
  Spans of records, and the record that stands next in a log (slog.Span, (*slog.Log).due). Conditions: each contract states its own.
-/
import Derived.Test.YtnplamcajjblkaaGreatKk
namespace Go.Proofs.YtnplamcajjblkaaGreat
open Go.RowKit

section
variable {P : Program} {o : Oper} {a : Act} {w : World}
theorem exec_alloc_zcK (ty : TypeId) (ho : o.op = .alloc ty) (zs : Array Value) (hz : ((P.info? ty).bind (·.zero)).map (·.cells) = some zs) :
    (execOp a.eval o).run P w = .ok (.value (.pointer (some ⟨w.heap.size, 0, none⟩))) (w.alloc (.cells zs ty)) := by
  cases hq : (P.info? ty).bind (·.zero) with
  | none => rw [hq] at hz; cases hz
  | some z =>
    have hs : z.cells = zs := by rw [hq] at hz; injection hz
    subst hs
    unfold execOp
    simp only [ho, Sem.run_bind, run_alloc_any w ty z hq, Result.andThen_ok, Sem.run_pure]
theorem exec_store_allK (ty : TypeId) (x y : Operand) (ho : o.op = .store ty x y)
    (g : Nat) (cs : List Value) (hx : a.eval x = .pointer (some ⟨g, 0, none⟩)) (hy : a.eval y = .agg cs.toArray)
    (t : TypeId) (old : Array Value) (hg : Blk w g t old) (hi : (P.info? ty).map (·.size) = some cs.length) (hfit : old.size = cs.length) (h1 : ∀ v ∈ cs, v.oneCell' = true) :
    (execOp a.eval o).run P w = .ok .skip (w.setRow g cs.toArray) := by
  have := exec_store_segK (P := P) ty x y ho g 0 cs hx hy t old hg hi (by omega) h1
  rw [this]
  have e : old.toList.take 0 ++ cs ++ old.toList.drop (0 + cs.length) = cs := by
    rw [List.take_zero, List.nil_append, List.drop_eq_nil_of_le (by rw [Array.length_toList]; omega), List.append_nil]
  rw [e]
end
theorem Byt.seg {w : World} {g : Nat} {t : TypeId} {l : List UInt8} (h : Blk w g t (l.map bv).toArray) {o k : Nat} (hk : o + k ≤ l.length) : Byt w (· = g) (some ⟨g, o, none⟩) k ((l.drop o).take k) := by
  refine ⟨by simp; omega, fun _ => ⟨g, o, rfl, rfl, fun j u hu => ?_⟩⟩
  rw [List.map_take, List.map_drop] at hu
  have hj : j < k := by
    have := (List.getElem?_eq_some_iff.1 hu).1
    rw [List.length_take] at this
    omega
  rw [List.getElem?_take_of_lt hj, List.getElem?_drop] at hu
  rw [h.cell]
  simpa using hu
theorem wordsL_one {l : List UInt8} (h : l.length = 4) : wordsL l = [le32 l] := by
  unfold wordsL
  rw [h]
  show [le32 (pieceAt l 4 0)] = _
  unfold pieceAt
  rw [Nat.zero_mul, List.drop_zero, List.take_of_length_le (by omega)]
def spanF (n : Nat) : Nat := if n ≤ 51 then 1 else 1 + (n + 12) / 64
theorem span_any (w : World) (n : Nat) (hn : n ≤ 262144) : Calls Tryz.prog 160 #[.int .i64 (n : Int)] w fun e w' => e = .returned (.int .i64 (spanF n : Nat)) ∧ w' = w := by
  have b0 : decide ((n : Int) < 0) = false := by simp only [decide_eq_false_iff_not]; omega
  have b1 : decide ((262144 : Int) < (n : Int)) = false := by simp only [decide_eq_false_iff_not]; omega
  have b1' : decide (262144 < n) = false := by simp only [decide_eq_false_iff_not]; omega
  by_cases h : n ≤ 51
  · have b2 : decide ((n : Int) ≤ 51) = true := by simp only [decide_eq_true_eq]; omega
    have b2' : decide (n ≤ 51) = true := by simp only [decide_eq_true_eq]; omega
    have e : spanF n = 1 := by unfold spanF; rw [if_pos h]
    rw [e]
    go_enter Tryz.func160, Tryz.ntmps160
    go_wp2
    go_ret
    exact ⟨rfl, rfl⟩
  · have b2 : decide ((n : Int) ≤ 51) = false := by simp only [decide_eq_false_iff_not]; omega
    have b2' : decide (n ≤ 51) = false := by simp only [decide_eq_false_iff_not]; omega
    obtain ⟨q, hq⟩ : ∃ q, q = (n + 12) / 64 := ⟨_, rfl⟩
    have e : spanF n = 1 + q := by unfold spanF; rw [if_neg h, hq]
    have hd : ((n : Int) - 51 + 64 - 1).tdiv 64 = (q : Int) := by rw [Int.tdiv_eq_ediv_of_nonneg (by omega)]; omega
    have hqm : q ≤ 5000 := by omega
    rw [e]
    clear hq e
    go_enter Tryz.func160, Tryz.ntmps160
    go_wp2
    go_ret
    refine ⟨?_, rfl⟩
    refine ret_int ?_
    omega
/-- A log in memory. -/
def LogAt (w : World) (q p f n gen a : Nat) (A : Option Addr) (m c : Nat) (br : Bool) : Prop := Blk w q 226 #[.pointer (some ⟨p, 0, none⟩), .int .i64 (f : Int), .int .i64 (n : Int), .int .u32 (gen : Int), .int .i64 (a : Int), .slice A m c, .bool br, .bool true]
/-- The length of the record that stands next; false: there is none. -/
def dueF (gen m rest : Nat) (s : List UInt8) : Nat × Bool := if s.drop 55 = le4 gen ++ (le4 m ++ [165]) ∧ le32 (s.take 4) ≤ 262144 then (le32 (s.take 4), decide (spanF (le32 (s.take 4)) ≤ rest)) else (0, false)

set_option maxRecDepth 100000 in
set_option maxHeartbeats 4000000 in
theorem due_any (w : World) (q p f n gen a : Nat) (A : Option Addr) (m c : Nat) (br : Bool) (s : List UInt8) (h : LogAt w q p f n gen a A m c br) (hs : s.length = 64) (hg : gen < 4294967296) (hm : m < 4294967296) (hn : n ≤ 1000000) (ha : a ≤ n) :
    Calls Tryz.prog 95 #[.pointer (some ⟨q, 0, none⟩), .agg (s.map bv).toArray] w fun e w' => e = .returned (.tuple #[.int .i64 ((dueF gen m (n - a) s).1 : Nat), .bool (dueF gen m (n - a) s).2]) ∧ Fr NoB w w' := by
  obtain ⟨zs, hzs⟩ : ∃ zs, zs = (List.replicate 64 (0 : UInt8)).map bv := ⟨_, rfl⟩
  have Hz : Hid (((Tryz.prog.info? 200).bind (·.zero)).map (·.cells) = some zs.toArray) := by show _ = _; rw [hzs]; exact sec_zero
  have Hzl : Hid (zs.toArray.size = 64) := by show _ = _; rw [hzs]; simp
  obtain ⟨ss, hss⟩ : ∃ ss, ss = (s.map bv).toArray := ⟨_, rfl⟩
  obtain ⟨w2, hw2⟩ : ∃ w2, w2 = w.alloc (.cells ss 200) := ⟨_, rfl⟩
  obtain ⟨B, hB⟩ : ∃ B, B = w.heap.size := ⟨_, rfl⟩
  have hf2 : Fr NoB w w2 := by rw [hw2]; exact (Fr.refl _ _).alloc _
  have kS : Blk w2 B 200 ss := by rw [hw2, hB]; exact Blk.new _ _ _
  have s2 : w2.heap.size = B + 1 := by rw [hw2, hB, World.size_alloc]
  have hql : q < B := by rw [hB]; exact Blk.lt h
  have kL : LogAt w2 q p f n gen a A m c br := Blk.fr h hf2 id
  have HB := Lib.hid hB
  have Hw2 := Lib.hid hw2
  have Hss := Lib.hid hss
  rw [← hss]
  clear hzs hss hB hw2
  go_enter Tryz.func95, Tryz.ntmps95
  go_wp2_with fail
  rw [← Hw2.out]
  try rw [← HB.out]
  have l0 : w2.drew.cell? ⟨q, 3, none⟩ = some (.int .u32 (gen : Int)) := (kL.cell 3).trans rfl
  have l1 : w2.drew.cell? ⟨q, 5, none⟩ = some (.slice A m c) := (kL.cell 5).trans rfl
  refine wp_region_held (S := fun W => Fr NoB w2.drew W) rfl ?_
  refine wpAnyH_take (i := 0) rfl (by decide +kernel) (by decide +kernel) (by decide +kernel) (fun _ _ _ h => h) (Or.inl ⟨by kernel_rfl, fun W hW => by have q0 := hW.cell' l0 id; have q1 := hW.cell' l1 id; go_simp; with_reducible rfl⟩) (Fr.refl _ _) ?_
  go_simp
  refine wpAnyH_take (i := 1) rfl (by decide +kernel) (by decide +kernel) (by decide +kernel) (fun _ _ _ h => h) (Or.inl ⟨by kernel_rfl, fun W hW => by have q0 := hW.cell' l0 id; have q1 := hW.cell' l1 id; go_simp; with_reducible rfl⟩) (Fr.refl _ _) ?_
  go_simp
  refine wpAnyH_take (i := 2) rfl (by decide +kernel) (by decide +kernel) (by decide +kernel) (fun _ _ _ h => h) (Or.inl ⟨by kernel_rfl, fun W hW => by have q0 := hW.cell' l0 id; have q1 := hW.cell' l1 id; go_simp; with_reducible rfl⟩) (Fr.refl _ _) ?_
  go_simp
  refine wpAnyH_take (i := 3) rfl (by decide +kernel) (by decide +kernel) (by decide +kernel) (fun _ _ _ h => h) (Or.inl ⟨by kernel_rfl, fun W hW => by have q0 := hW.cell' l0 id; have q1 := hW.cell' l1 id; go_simp; with_reducible rfl⟩) (Fr.refl _ _) ?_
  go_simp
  refine wpAnyH_take (i := 4) rfl (by decide +kernel) (by decide +kernel) (by decide +kernel) (fun _ _ _ h => h) (Or.inl ⟨by kernel_rfl, fun W hW => by have q0 := hW.cell' l0 id; have q1 := hW.cell' l1 id; go_simp; with_reducible rfl⟩) (Fr.refl _ _) ?_
  go_simp
  refine wpAnyH_take (i := 5) rfl (by decide +kernel) (by decide +kernel) (by decide +kernel) (fun _ _ _ h => h) (Or.inl ⟨by kernel_rfl, fun W hW => by have q0 := hW.cell' l0 id; have q1 := hW.cell' l1 id; go_simp; with_reducible rfl⟩) (Fr.refl _ _) ?_
  go_simp
  refine wpAnyH_take (i := 6) rfl (by decide +kernel) (by decide +kernel) (by decide +kernel) (fun _ _ _ h => h) (Or.inl ⟨by kernel_rfl, fun W hW => by have q0 := hW.cell' l0 id; have q1 := hW.cell' l1 id; go_simp; with_reducible rfl⟩) (Fr.refl _ _) ?_
  go_simp
  refine wpAnyH_take (i := 7) rfl (by decide +kernel) (by decide +kernel) (by decide +kernel) (fun _ _ _ h => h) (Or.inl ⟨by kernel_rfl, fun W hW => by have q0 := hW.cell' l0 id; have q1 := hW.cell' l1 id; go_simp; with_reducible rfl⟩) (Fr.refl _ _) ?_
  go_simp
  refine wpAnyH_take (i := 8) rfl (by decide +kernel) (by decide +kernel) (by decide +kernel) (fun _ _ _ h => h) (Or.inl ⟨by kernel_rfl, fun W hW => by have q0 := hW.cell' l0 id; have q1 := hW.cell' l1 id; go_simp; with_reducible rfl⟩) (Fr.refl _ _) ?_
  go_simp
  refine wpAnyH_take (i := 9) rfl (by decide +kernel) (by decide +kernel) (by decide +kernel) (fun _ _ _ h => h) (Or.inl ⟨by kernel_rfl, fun W hW => by have q0 := hW.cell' l0 id; have q1 := hW.cell' l1 id; go_simp; with_reducible rfl⟩) (Fr.refl _ _) ?_
  go_simp
  obtain ⟨ys, hys⟩ : ∃ ys, ys = (firstL [] gen m).map bv := ⟨_, rfl⟩
  have Ly : Hid (ys.length = 64) := by show _ = _; rw [hys, List.length_map]; exact firstL_len ..
  have Oy : Hid (∀ v ∈ ys, v.oneCell' = true) := by show _; rw [hys]; exact bv_one _
  have Hys := Lib.hid hys
  have H1 : ∀ W, Calls Tryz.prog 158 #[.slice none 0 0, .int .u32 (gen : Int), .int .i64 (m : Int)] W fun e w' => e = .returned (.agg ys.toArray) ∧ Fr NoB W w' := fun W => by rw [hys]; exact first_any W (fun _ => False) none 0 0 gen m [] (Byt.nil _ _ _) (fun _ h => h.elim) (by omega) hg hm
  clear hys
  refine wpAnyH_all (rs := [10, 11]) (by decide +kernel) (by simp) ?_
  intro i hi
  simp only [List.mem_cons, List.not_mem_nil, or_false] at hi
  rcases hi with rfl | rfl
  case' inl =>
    refine wpOp_call rfl rfl 158 (enters_of Tryz.func158 (by kernel_rfl) rfl) #[.const (.slice none 0 0), .tmp 12, .tmp 17] _ rfl _ rfl (H1 _) ?_
    rintro e v ⟨rfl, hfv⟩
    refine ⟨_, rfl, hfv, ?_⟩
    go_simp
    refine wpAnyH_all (rs := [11]) (by decide +kernel) (by simp) ?_
    intro i hi
    simp only [List.mem_cons, List.not_mem_nil, or_false] at hi
    subst hi
    refine wpOp_run (v := .pointer (some ⟨v.heap.size, 0, none⟩)) (w' := v.alloc (.cells zs.toArray 200)) rfl (by kernel_rfl) (exec_alloc_zcK 200 rfl zs.toArray Hz.out) ⟨hfv.alloc _, ?_⟩
    go_simp
    obtain ⟨g, hg2⟩ : ∃ g, g = v.heap.size := ⟨_, rfl⟩
    obtain ⟨v2, hv2⟩ : ∃ v2, v2 = v.alloc (.cells zs.toArray 200) := ⟨_, rfl⟩
    have kg : Blk v2 g 200 zs.toArray := by rw [hv2, hg2]; exact Blk.new _ _ _
    have fv2 : Fr NoB w2.drew v2 := by rw [hv2]; exact hfv.alloc _
    have hgB : B < g := by have := hfv.size; rw [World.size_drew] at this; omega
    rw [← hg2, ← hv2]
    clear hg2 hv2 hfv
    refine wpAnyH_all (rs := [12]) (by decide +kernel) (by simp) ?_
    intro i hi
    simp only [List.mem_cons, List.not_mem_nil, or_false] at hi
    subst hi
    refine wpOp_skip (w' := v2.setRow g ys.toArray) rfl (by kernel_rfl) (exec_store_allK 200 (.tmp 6) (.tmp 18) rfl g ys rfl rfl 200 zs.toArray kg (by rw [Ly.out]; exact sec_size) (by rw [Hzl.out, Ly.out]) Oy.out) ?_
    have fv3 : Fr NoB w2.drew (v2.setRow g ys.toArray) := fv2.new (setRow_frK kg).1 fun j hj => .inr (by rw [World.size_drew]; omega)
    refine ⟨fv3, ?_⟩
    refine wpAnyH_done (by decide +kernel) ?_ _
    obtain ⟨x, hx⟩ : ∃ x, x = v2.setRow g ys.toArray := ⟨_, rfl⟩
    have kG : Blk x g 200 ys.toArray := by rw [hx]; exact (setRow_frK kg).2
    have fx : Fr NoB w2 x := by rw [hx]; exact (Fr.drew (Fr.refl NoB w2)).trans fv3 fun _ _ h => h
    rw [← hx]
    clear hx fv3 fv2 kg l0 l1
  case' inr =>
    refine wpOp_run (v := .pointer (some ⟨w2.drew.heap.size, 0, none⟩)) (w' := w2.drew.alloc (.cells zs.toArray 200)) rfl (by kernel_rfl) (exec_alloc_zcK 200 rfl zs.toArray Hz.out) ⟨(Fr.refl _ _).alloc _, ?_⟩
    go_simp
    obtain ⟨g, hg2⟩ : ∃ g, g = B + 1 := ⟨_, rfl⟩
    obtain ⟨v1, hv1⟩ : ∃ v1, v1 = (w2.alloc (.cells zs.toArray 200)).drew := ⟨_, rfl⟩
    have kg1 : Blk v1 g 200 zs.toArray := by rw [hv1, hg2, ← s2]; exact (Blk.new w2 _ _).fr (Fr.drew (Fr.refl NoB _)) id
    have fv1 : Fr NoB w2.drew v1 := by rw [hv1]; exact (Fr.refl NoB w2.drew).alloc (.cells zs.toArray 200)
    have hgB : B < g := by omega
    rw [← hg2, ← hv1]
    clear hg2 hv1
    refine wpAnyH_all (rs := [10]) (by decide +kernel) (by simp) ?_
    intro i hi
    simp only [List.mem_cons, List.not_mem_nil, or_false] at hi
    subst hi
    refine wpOp_call rfl rfl 158 (enters_of Tryz.func158 (by kernel_rfl) rfl) #[.const (.slice none 0 0), .tmp 12, .tmp 17] _ rfl _ rfl (H1 _) ?_
    rintro e v2 ⟨rfl, hfv⟩
    have fv2 : Fr NoB w2.drew v2 := fv1.trans hfv fun _ _ h => h
    have kg := kg1.fr hfv id
    refine ⟨_, rfl, fv2, ?_⟩
    clear hfv fv1 kg1
    go_simp
    refine wpAnyH_all (rs := [12]) (by decide +kernel) (by simp) ?_
    intro i hi
    simp only [List.mem_cons, List.not_mem_nil, or_false] at hi
    subst hi
    refine wpOp_skip (w' := v2.setRow g ys.toArray) rfl (by kernel_rfl) (exec_store_allK 200 (.tmp 6) (.tmp 18) rfl g ys rfl rfl 200 zs.toArray kg (by rw [Ly.out]; exact sec_size) (by rw [Hzl.out, Ly.out]) Oy.out) ?_
    have fv3 : Fr NoB w2.drew (v2.setRow g ys.toArray) := fv2.new (setRow_frK kg).1 fun j hj => .inr (by rw [World.size_drew]; omega)
    refine ⟨fv3, ?_⟩
    refine wpAnyH_done (by decide +kernel) ?_ _
    obtain ⟨x, hx⟩ : ∃ x, x = v2.setRow g ys.toArray := ⟨_, rfl⟩
    have kG : Blk x g 200 ys.toArray := by rw [hx]; exact (setRow_frK kg).2
    have fx : Fr NoB w2 x := by rw [hx]; exact (Fr.drew (Fr.refl NoB w2)).trans fv3 fun _ _ h => h
    rw [← hx]
    clear hx fv3 fv2 kg l0 l1
  all_goals
    have kSx := kS.fr fx id
    have kLx : LogAt x q p f n gen a A m c br := Blk.fr kL fx id
    have hs4 : (s.take 4).length = 4 := by rw [List.length_take]; omega
    have bS : Byt x (· = B) (some ⟨B, 0, none⟩) 4 (s.take 4) := by
      rw [Hss.out] at kSx
      have := Byt.seg (o := 0) (k := 4) kSx (by omega)
      simpa using this
    have HW := Lib.hid (vecWords_any x (· = B) (some ⟨B, 0, none⟩) 4 64 (s.take 4) bS (fun k hk => by have := fx.size; omega) (by omega) (by omega))
    have W1 := Lib.hid (wordsL_one hs4)
    obtain ⟨v, hv⟩ : ∃ v, v = le32 (s.take 4) := ⟨_, rfl⟩
    have hv32 : v < 4294967296 := by
      have := le32_lt (s.take 4)
      rw [hs4] at this
      rw [hv]
      exact this
    have Hv := Lib.hid hv
    clear hv bS hs4
    go_wp2_with (first
      | (go_at_call 93
         refine HW.out.mono ?_
         rintro e x2 ⟨A4, c4, rfl, hf4, hO4, hA4⟩
         rw [W1.out, ← Hv.out] at hO4
         obtain ⟨b4, o4, rfl, _, hc4⟩ := (hO4.arr (F := fun _ => True) fun _ _ _ => trivial).2 (by omega)
         have q4 := hc4 0 _ rfl
         rw [Nat.add_zero] at q4
         unfold u32v at q4
         clear hO4 hc4 hA4))
    have kS2 := kSx.fr hf4 id
    have kG2 := kG.fr hf4 id
    have kL2 : LogAt x2 q p f n gen a A m c br := Blk.fr kLx hf4 id
    have fx2 : Fr NoB w2 x2 := fx.trans hf4 fun _ _ h => h
    have bS : Byt x2 (· = B) (some ⟨B, 55, none⟩) 9 (s.drop 55) := by
      rw [Hss.out] at kS2
      have := Byt.seg (o := 55) (k := 9) kS2 (by omega)
      rwa [List.take_of_length_le (by rw [List.length_drop]; omega)] at this
    have bG : Byt x2 (· = g) (some ⟨g, 55, none⟩) 9 (le4 gen ++ (le4 m ++ [165])) := by
      rw [Hys.out] at kG2
      have := Byt.seg (o := 55) (k := 9) kG2 (by rw [firstL_len]; omega)
      rw [firstL_mark] at this
      rwa [List.take_of_length_le (by simp [le4_len])] at this
    have HE := Lib.hid (vecEqual_any x2.drew (· = B) (· = g) (some ⟨B, 55, none⟩) (some ⟨g, 55, none⟩) 9 9 9 9 _ _ (bS.fr (Fr.drew (Fr.refl NoB x2)) fun _ _ => id) (bG.fr (Fr.drew (Fr.refl NoB x2)) fun _ _ => id) (by omega) (by omega))
    clear bS bG q4 hf4 HW fx kS2 kG2 kSx kLx kG
    refine wp_region_held (S := fun W => W = x2.drew) rfl ?_
    refine wpAnyH_take (i := 0) rfl (by decide +kernel) (by decide +kernel) (by decide +kernel) (fun _ _ _ h => h) (Or.inl ⟨by kernel_rfl, fun W hW => by rw [hW]; go_simp; with_reducible rfl⟩) rfl ?_
    go_simp
    refine wpAnyH_take (i := 1) rfl (by decide +kernel) (by decide +kernel) (by decide +kernel) (fun _ _ _ h => h) (Or.inl ⟨by kernel_rfl, fun W hW => by rw [hW]; go_simp; with_reducible rfl⟩) rfl ?_
    go_simp
    refine wpAnyH_all (rs := [2]) (by decide +kernel) (by simp) ?_
    intro i hi
    simp only [List.mem_cons, List.not_mem_nil, or_false] at hi
    subst hi
    refine wpOp_call rfl (by kernel_rfl) 159 (enters_of Tryz.func159 (by kernel_rfl) rfl) #[.tmp 23, .tmp 24] _ rfl _ rfl HE.out ?_
    rintro e x3 ⟨rfl, h3⟩
    rw [h3]
    refine ⟨_, rfl, rfl, ?_⟩
    clear h3
    by_cases hE : s.drop 55 = le4 gen ++ (le4 m ++ [165])
    case neg =>
      rw [decide_eq_false hE]
      go_simp
      refine wpAnyH_take (i := 3) rfl (by decide +kernel) (by decide +kernel) (by decide +kernel) (fun _ _ _ h => h) (Or.inl ⟨by kernel_rfl, fun W hW => by rw [hW]; go_simp; with_reducible rfl⟩) rfl ?_
      go_simp
      refine wpAnyH_take (i := 4) rfl (by decide +kernel) (by decide +kernel) (by decide +kernel) (fun _ _ _ h => h) (Or.inl ⟨by kernel_rfl, fun W hW => by rw [hW]; go_simp; with_reducible rfl⟩) rfl ?_
      go_simp
      refine wpAnyH_take (i := 5) rfl (by decide +kernel) (by decide +kernel) (by decide +kernel) (fun _ _ _ h => h) (Or.inr ⟨by kernel_rfl, rfl⟩) rfl ?_
      refine wpAnyH_take (i := 6) rfl (by decide +kernel) (by decide +kernel) (by decide +kernel) (fun _ _ _ h => h) (Or.inr ⟨by kernel_rfl, rfl⟩) rfl ?_
      refine wpAnyH_take (i := 7) rfl (by decide +kernel) (by decide +kernel) (by decide +kernel) (fun _ _ _ h => h) (Or.inl ⟨by kernel_rfl, fun W hW => by rw [hW]; go_simp; with_reducible rfl⟩) rfl ?_
      go_simp
      refine wpAnyH_done (by decide +kernel) ?_ _
      have hD : dueF gen m (n - a) s = (0, false) := by unfold dueF; rw [if_neg fun h => hE h.1]
      go_wp2
      go_ret2
      exact ⟨by rw [hD]; rfl, (hf2.trans fx2 fun _ _ h => h).drew⟩
    case pos =>
      rw [decide_eq_true hE]
      go_simp
      by_cases hV : 262144 < v
      case pos =>
        have hD : dueF gen m (n - a) s = (0, false) := by unfold dueF; rw [if_neg fun h => by have := h.2; rw [← Hv.out] at this; omega]
        have HD := Lib.hid hD
        clear hD
        have b1 : decide ((262144 : Int) < (v : Int)) = true := by simp only [decide_eq_true_eq]; omega
        have b2 : decide (262144 < v) = true := by simp only [decide_eq_true_eq]; omega
        clear hV
        refine wpAnyH_take (i := 3) rfl (by decide +kernel) (by decide +kernel) (by decide +kernel) (fun _ _ _ h => h) (Or.inl ⟨by kernel_rfl, fun W hW => by rw [hW]; go_simp; with_reducible rfl⟩) rfl ?_
        go_simp
        refine wpAnyH_take (i := 4) rfl (by decide +kernel) (by decide +kernel) (by decide +kernel) (fun _ _ _ h => h) (Or.inl ⟨by kernel_rfl, fun W hW => by rw [hW]; go_simp; with_reducible rfl⟩) rfl ?_
        go_simp
        refine wpAnyH_take (i := 5) rfl (by decide +kernel) (by decide +kernel) (by decide +kernel) (fun _ _ _ h => h) (Or.inl ⟨by kernel_rfl, fun W hW => by rw [hW]; go_simp; with_reducible rfl⟩) rfl ?_
        go_simp
        refine wpAnyH_take (i := 6) rfl (by decide +kernel) (by decide +kernel) (by decide +kernel) (fun _ _ _ h => h) (Or.inl ⟨by kernel_rfl, fun W hW => by rw [hW]; go_simp; with_reducible rfl⟩) rfl ?_
        go_simp
        refine wpAnyH_take (i := 7) rfl (by decide +kernel) (by decide +kernel) (by decide +kernel) (fun _ _ _ h => h) (Or.inl ⟨by kernel_rfl, fun W hW => by rw [hW]; go_simp; with_reducible rfl⟩) rfl ?_
        go_simp
        refine wpAnyH_done (by decide +kernel) ?_ _
        go_wp2
        go_ret2
        exact ⟨by rw [HD.out]; rfl, (hf2.trans fx2 fun _ _ h => h).drew⟩
      case neg =>
        have hD : dueF gen m (n - a) s = (v, decide (spanF v ≤ n - a)) := by unfold dueF; rw [if_pos ⟨hE, by rw [← Hv.out]; omega⟩, ← Hv.out]
        have HD := Lib.hid hD
        clear hD
        have b1 : decide ((262144 : Int) < (v : Int)) = false := by simp only [decide_eq_false_iff_not]; omega
        have b2 : decide (262144 < v) = false := by simp only [decide_eq_false_iff_not]; omega
        have hvm : v ≤ 262144 := by omega
        clear hV
        refine wpAnyH_take (i := 3) rfl (by decide +kernel) (by decide +kernel) (by decide +kernel) (fun _ _ _ h => h) (Or.inl ⟨by kernel_rfl, fun W hW => by rw [hW]; go_simp; with_reducible rfl⟩) rfl ?_
        go_simp
        refine wpAnyH_take (i := 4) rfl (by decide +kernel) (by decide +kernel) (by decide +kernel) (fun _ _ _ h => h) (Or.inl ⟨by kernel_rfl, fun W hW => by rw [hW]; go_simp; with_reducible rfl⟩) rfl ?_
        go_simp
        refine wpAnyH_take (i := 5) rfl (by decide +kernel) (by decide +kernel) (by decide +kernel) (fun _ _ _ h => h) (Or.inl ⟨by kernel_rfl, fun W hW => by rw [hW]; go_simp; with_reducible rfl⟩) rfl ?_
        go_simp
        refine wpAnyH_take (i := 6) rfl (by decide +kernel) (by decide +kernel) (by decide +kernel) (fun _ _ _ h => h) (Or.inl ⟨by kernel_rfl, fun W hW => by rw [hW]; go_simp; with_reducible rfl⟩) rfl ?_
        go_simp
        refine wpAnyH_take (i := 7) rfl (by decide +kernel) (by decide +kernel) (by decide +kernel) (fun _ _ _ h => h) (Or.inl ⟨by kernel_rfl, fun W hW => by rw [hW]; go_simp; with_reducible rfl⟩) rfl ?_
        go_simp
        refine wpAnyH_done (by decide +kernel) ?_ _
        go_wp2
        have l2 : x2.drew.drew.cell? ⟨q, 2, none⟩ = some (.int .i64 (n : Int)) := (kL2.cell 2).trans rfl
        have l4 : x2.drew.drew.cell? ⟨q, 4, none⟩ = some (.int .i64 (a : Int)) := (kL2.cell 4).trans rfl
        have wv : IntKind.wrap .i64 (v : Int) = (v : Int) := by rw [IntKind.wrap_i64]; omega
        have HS := Lib.hid (span_any x2.drew.drew v hvm)
        have hspm : spanF v ≤ 5000 := by unfold spanF; split <;> omega
        have wd : IntKind.wrap .i64 ((n : Int) - (a : Int)) = ((n - a : Nat) : Int) := by rw [IntKind.wrap_i64]; omega
        refine wp_region_held (S := fun W => W = x2.drew.drew) rfl ?_
        refine wpAnyH_take (i := 0) rfl (by decide +kernel) (by decide +kernel) (by decide +kernel) (fun _ _ _ h => h) (Or.inl ⟨by kernel_rfl, fun W hW => by rw [hW]; go_simp; with_reducible rfl⟩) rfl ?_
        go_simp
        refine wpAnyH_take (i := 1) rfl (by decide +kernel) (by decide +kernel) (by decide +kernel) (fun _ _ _ h => h) (Or.inl ⟨by kernel_rfl, fun W hW => by rw [hW]; go_simp; with_reducible rfl⟩) rfl ?_
        go_simp
        refine wpAnyH_take (i := 2) rfl (by decide +kernel) (by decide +kernel) (by decide +kernel) (fun _ _ _ h => h) (Or.inl ⟨by kernel_rfl, fun W hW => by rw [hW]; go_simp; with_reducible rfl⟩) rfl ?_
        go_simp
        refine wpAnyH_take (i := 3) rfl (by decide +kernel) (by decide +kernel) (by decide +kernel) (fun _ _ _ h => h) (Or.inl ⟨by kernel_rfl, fun W hW => by rw [hW]; go_simp; with_reducible rfl⟩) rfl ?_
        go_simp
        refine wpAnyH_take (i := 5) rfl (by decide +kernel) (by decide +kernel) (by decide +kernel) (fun _ _ _ h => h) (Or.inl ⟨by kernel_rfl, fun W hW => by rw [hW]; go_simp; with_reducible rfl⟩) rfl ?_
        go_simp
        refine wpAnyH_take (i := 6) rfl (by decide +kernel) (by decide +kernel) (by decide +kernel) (fun _ _ _ h => h) (Or.inl ⟨by kernel_rfl, fun W hW => by rw [hW]; go_simp; with_reducible rfl⟩) rfl ?_
        go_simp
        refine wpAnyH_take (i := 7) rfl (by decide +kernel) (by decide +kernel) (by decide +kernel) (fun _ _ _ h => h) (Or.inl ⟨by kernel_rfl, fun W hW => by rw [hW]; go_simp; with_reducible rfl⟩) rfl ?_
        go_simp
        refine wpAnyH_take (i := 8) rfl (by decide +kernel) (by decide +kernel) (by decide +kernel) (fun _ _ _ h => h) (Or.inl ⟨by kernel_rfl, fun W hW => by rw [hW]; go_simp; with_reducible rfl⟩) rfl ?_
        go_simp
        refine wpAnyH_take (i := 9) rfl (by decide +kernel) (by decide +kernel) (by decide +kernel) (fun _ _ _ h => h) (Or.inl ⟨by kernel_rfl, fun W hW => by rw [hW]; go_simp; with_reducible rfl⟩) rfl ?_
        go_simp
        refine wpAnyH_take (i := 10) rfl (by decide +kernel) (by decide +kernel) (by decide +kernel) (fun _ _ _ h => h) (Or.inl ⟨by kernel_rfl, fun W hW => by rw [hW]; go_simp; with_reducible rfl⟩) rfl ?_
        go_simp
        refine wpAnyH_take (i := 11) rfl (by decide +kernel) (by decide +kernel) (by decide +kernel) (fun _ _ _ h => h) (Or.inl ⟨by kernel_rfl, fun W hW => by rw [hW]; go_simp; with_reducible rfl⟩) rfl ?_
        go_simp
        refine wpAnyH_take (i := 12) rfl (by decide +kernel) (by decide +kernel) (by decide +kernel) (fun _ _ _ h => h) (Or.inl ⟨by kernel_rfl, fun W hW => by rw [hW]; go_simp; with_reducible rfl⟩) rfl ?_
        go_simp
        refine wpAnyH_take (i := 13) rfl (by decide +kernel) (by decide +kernel) (by decide +kernel) (fun _ _ _ h => h) (Or.inl ⟨by kernel_rfl, fun W hW => by rw [hW]; go_simp; with_reducible rfl⟩) rfl ?_
        go_simp
        refine wpAnyH_take (i := 14) rfl (by decide +kernel) (by decide +kernel) (by decide +kernel) (fun _ _ _ h => h) (Or.inl ⟨by kernel_rfl, fun W hW => by rw [hW]; go_simp; with_reducible rfl⟩) rfl ?_
        go_simp
        refine wpAnyH_all (rs := [4]) (by decide +kernel) (by simp) ?_
        intro i hi
        simp only [List.mem_cons, List.not_mem_nil, or_false] at hi
        subst hi
        refine wpOp_call rfl (by kernel_rfl) 160 (enters_of Tryz.func160 (by kernel_rfl) rfl) #[.tmp 34] _ rfl _ rfl HS.out ?_
        rintro e x3 ⟨rfl, h3⟩
        rw [h3]
        refine ⟨_, rfl, rfl, ?_⟩
        clear h3
        go_simp
        refine wpAnyH_take (i := 15) rfl (by decide +kernel) (by decide +kernel) (by decide +kernel) (fun _ _ _ h => h) (Or.inl ⟨by kernel_rfl, fun W hW => by rw [hW]; go_simp; with_reducible rfl⟩) rfl ?_
        go_simp
        refine wpAnyH_take (i := 16) rfl (by decide +kernel) (by decide +kernel) (by decide +kernel) (fun _ _ _ h => h) (Or.inl ⟨by kernel_rfl, fun W hW => by rw [hW]; go_simp; with_reducible rfl⟩) rfl ?_
        go_simp
        refine wpAnyH_take (i := 17) rfl (by decide +kernel) (by decide +kernel) (by decide +kernel) (fun _ _ _ h => h) (Or.inl ⟨by kernel_rfl, fun W hW => by rw [hW]; go_simp; with_reducible rfl⟩) rfl ?_
        go_simp
        refine wpAnyH_done (by decide +kernel) ?_ _
        go_wp2
        go_ret2
        exact ⟨by rw [HD.out]; rfl, (hf2.trans fx2 fun _ _ h => h).drew.drew⟩
end Go.Proofs.YtnplamcajjblkaaGreat
