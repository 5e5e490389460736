/-
  A record's first sector (slog.first). Conditions: the contract states its own.
-/
import Derived.Test.YtnplamcajjblkaaGreatKj
import Derived.Laws.CopyRow
import Derived.Laws.IdiomCopy
namespace Go.Proofs.YtnplamcajjblkaaGreat
open Go.RowKit

/-- copy of bytes into a row. -/
theorem run_copyAt {w : World} {g o dLen dCap : Nat} {cur : Array Value} {t : TypeId} (hB : Blk w g t cur) {F : Nat → Prop} {A : Option Addr} {n c : Nat} {l : List UInt8} (h : Byt w F A n l) (hfit : o + min n dLen ≤ cur.size) :
    ∃ w', (∀ ty, (Builtin.copy_ #[28, 28] ty #[.slice (some ⟨g, o, none⟩) dLen dCap, .slice A n c]).run Tryz.prog w = .ok (goInt (min n dLen : Nat)) w') ∧ Blk w' g t (cur.toList.take o ++ (l.take dLen).map bv ++ cur.toList.drop (o + min n dLen)).toArray ∧ Fr (· = g) w w' := by
  have hl := h.len
  by_cases h0 : min n dLen = 0
  · have hlt : l.take dLen = [] := List.eq_nil_of_length_eq_zero (by rw [List.length_take, hl]; omega)
    have e : (cur.toList.take o ++ (l.take dLen).map bv ++ cur.toList.drop (o + min n dLen)).toArray = cur := by
      rw [hlt, h0, Nat.add_zero, List.map_nil, List.append_nil, List.take_append_drop]
    rw [e]
    refine ⟨w, fun ty => ?_, hB, Fr.refl _ _⟩
    have := run_copy_none (P := Tryz.prog) w 28 28 ty 5 (some ⟨g, o, none⟩) A dLen dCap n c Tryz.underlying28 (by kernel_rfl) h0
    rw [this, h0]
    rfl
  · obtain ⟨b, o2, rfl, hb, hc⟩ := h.2 (by omega)
    have hlen : ((l.take dLen).map bv).length = Nat.min n dLen := by rw [List.length_map, List.length_take, hl]; exact Nat.min_comm _ _
    refine ⟨w.setRow g (cur.toList.take o ++ (l.take dLen).map bv ++ cur.toList.drop (o + min n dLen)).toArray, fun ty => ?_, (setRow_frK hB).2, (setRow_frK hB).1⟩
    have := run_copy_row (P := Tryz.prog) w 28 28 ty 5 g o dLen dCap ⟨b, o2, none⟩ n c cur t ((l.take dLen).map bv) Tryz.underlying28 (by kernel_rfl) hB hlen (fun j v hv => by
      have e : (⟨b, o2, none⟩ : Addr).add j = ⟨b, o2 + j, none⟩ := by unfold Addr.add; split <;> simp_all
      rw [e]
      refine hc j v ?_
      rw [List.map_take] at hv
      have hj : j < dLen := by
        have := (List.getElem?_eq_some_iff.1 hv).1
        rw [List.length_take] at this
        omega
      rwa [List.getElem?_take_of_lt hj] at hv) (by rw [hlen]; exact hfit) (bv_one _)
    rw [hlen] at this
    exact this
/-- A record's first sector. -/
def firstL (l : List UInt8) (gen num : Nat) : List UInt8 := le4 l.length ++ (l.take 51 ++ (List.replicate (51 - l.length) 0 ++ (le4 gen ++ (le4 num ++ [165]))))
theorem firstL_len (l : List UInt8) (gen num : Nat) : (firstL l gen num).length = 64 := by
  simp only [firstL, List.length_append, List.length_take, List.length_replicate, le4_len, List.length_singleton]
  omega
theorem firstL_mark (l : List UInt8) (gen num : Nat) : (firstL l gen num).drop 55 = le4 gen ++ (le4 num ++ [165]) := by
  have e : firstL l gen num = (le4 l.length ++ (l.take 51 ++ List.replicate (51 - l.length) 0)) ++ (le4 gen ++ (le4 num ++ [165])) := by simp [firstL]
  rw [e, List.drop_left']
  simp only [List.length_append, List.length_take, List.length_replicate, le4_len]
  omega
theorem first_b (l : List UInt8) : (le4 l.length ++ List.replicate 60 0).take 4 ++ l.take 51 ++ (le4 l.length ++ List.replicate 60 (0 : UInt8)).drop (4 + min l.length 51) = le4 l.length ++ (l.take 51 ++ List.replicate (60 - min l.length 51) 0) := by
  rw [List.take_left' (le4_len _), List.drop_append, le4_len, List.drop_eq_nil_of_le (by rw [le4_len]; omega), List.nil_append, Nat.add_sub_cancel_left, List.drop_replicate, List.append_assoc]
theorem first_c (l : List UInt8) (gen num : Nat) : (le4 l.length ++ (l.take 51 ++ List.replicate (60 - min l.length 51) (0 : UInt8))).take 55 ++ (le4 gen ++ le4 num) ++ (le4 l.length ++ (l.take 51 ++ List.replicate (60 - min l.length 51) (0 : UInt8))).drop 63 = le4 l.length ++ (l.take 51 ++ (List.replicate (51 - l.length) 0 ++ (le4 gen ++ (le4 num ++ [0])))) := by
  have e : List.replicate (60 - min l.length 51) (0 : UInt8) = List.replicate (51 - l.length) 0 ++ List.replicate 9 0 := by
    rw [List.replicate_append_replicate]
    congr 1
    omega
  have e2 : le4 l.length ++ (l.take 51 ++ (List.replicate (51 - l.length) (0 : UInt8) ++ List.replicate 9 0)) = (le4 l.length ++ (l.take 51 ++ List.replicate (51 - l.length) 0)) ++ List.replicate 9 0 := by simp
  have hl : (le4 l.length ++ (l.take 51 ++ List.replicate (51 - l.length) (0 : UInt8))).length = 55 := by
    simp only [List.length_append, List.length_take, List.length_replicate, le4_len]
    omega
  rw [e, e2, List.take_left' hl, List.drop_append, List.drop_eq_nil_of_le (by rw [hl]; omega), hl]
  simp

set_option maxRecDepth 100000 in
set_option maxHeartbeats 2000000 in
theorem first_any (w : World) (F : Nat → Prop) (A : Option Addr) (n c gen : Nat) (num : Nat) (l : List UInt8) (hA : Byt w F A n l) (hF : ∀ k, F k → k < w.heap.size) (hn : n ≤ 1000000) (hg : gen < 4294967296) (hm : num < 4294967296) :
    Calls Tryz.prog 158 #[.slice A n c, .int .u32 (gen : Int), .int .i64 (num : Int)] w fun e w' => e = .returned (.agg ((firstL l gen num).map bv).toArray) ∧ Fr NoB w w' := by
  have hln := hA.len
  obtain ⟨zs, hzs⟩ : ∃ zs, zs = (List.replicate 64 (0 : UInt8)).map bv := ⟨_, rfl⟩
  have Hz : Hid (((Tryz.prog.info? 200).bind (·.zero)).map (·.cells) = some zs.toArray) := by show _ = _; rw [hzs]; exact sec_zero
  obtain ⟨w2, hw2⟩ : ∃ w2, w2 = (w.alloc (.cells zs.toArray 200)).alloc (.cells zs.toArray 200) := ⟨_, rfl⟩
  obtain ⟨B, hB⟩ : ∃ B, B = w.heap.size := ⟨_, rfl⟩
  have hf2 : Fr NoB w w2 := by rw [hw2]; exact ((Fr.refl _ _).alloc _).alloc _
  have k0 : Blk w2 B 200 zs.toArray := by rw [hw2, hB]; exact (Blk.new _ _ _).alloc _
  have k1 : Blk w2 (B + 1) 200 zs.toArray := by
    rw [hw2, hB]
    have := Blk.new (w.alloc (.cells zs.toArray 200)) 200 zs.toArray
    simpa using this
  have hFB : ∀ k, F k → ¬ k = B + 1 := fun k hk h => by have := hF k hk; omega
  have hA2 := hA.fr hf2 fun _ _ => id
  have HB := Lib.hid hB
  have Hw2 := Lib.hid hw2
  have Hzs := Lib.hid hzs
  have Hln := Lib.hid hln
  have hw32 : IntKind.wrap .u32 (n : Int) = (n : Int) := by rw [IntKind.wrap_u32]; omega
  have hm32 : IntKind.wrap .u32 (num : Int) = (num : Int) := by rw [IntKind.wrap_u32]; omega
  clear hB hw2 hzs hln
  go_enter Tryz.func158, Tryz.ntmps158
  go_wp2_with (first
    | (refine wpList_alloc_zcK rfl 200 rfl zs.toArray Hz.out ?_))
  rw [← Hw2.out]
  simp only [World.size_alloc]
  rw [← HB.out]
  have Hsz0 : Hid (zs.toArray.size = 64) := by show _ = _; rw [Hzs.out]; simp
  refine wp_region_held (S := fun _ => True) rfl ?_
  have d0 := k1.fr (Fr.drew (Fr.refl NoB w2)) id
  refine wpAnyH_take (i := 0) rfl (by decide +kernel) (by decide +kernel) (by decide +kernel) (fun _ _ _ h => h) (Or.inl ⟨by kernel_rfl, fun W _ => by go_simp; with_reducible rfl⟩) trivial ?_
  refine wpAnyH_take (i := 1) rfl (by decide +kernel) (by decide +kernel) (by decide +kernel) (fun _ _ _ h => h) (Or.inl ⟨by kernel_rfl, fun W _ => by go_simp; with_reducible rfl⟩) trivial ?_
  refine wpAnyH_take (i := 2) rfl (by decide +kernel) (by decide +kernel) (by decide +kernel) (fun _ _ _ h => h) (Or.inl ⟨by kernel_rfl, fun W _ => by go_simp; with_reducible rfl⟩) trivial ?_
  refine wpAnyH_take (i := 3) rfl (by decide +kernel) (by decide +kernel) (by decide +kernel) (fun _ _ _ h => h) (Or.inl ⟨by kernel_rfl, fun W _ => by go_simp; with_reducible rfl⟩) trivial ?_
  go_simp
  refine wpAnyH_all (rs := [4]) (by decide +kernel) (by simp) ?_
  intro i hi
  simp only [List.mem_cons, List.not_mem_nil, or_false] at hi
  subst hi
  refine wpOp_run (v := .slice (some ⟨w2.heap.size, 0, none⟩) 1 1) (w' := w2.drew.alloc (.cells #[.int .u32 (n : Int)] 22)) rfl (by kernel_rfl) (by go_simp) ⟨trivial, ?_⟩
  go_simp
  refine wpAnyH_all (rs := [5]) (by decide +kernel) (by simp) ?_
  intro i hi
  simp only [List.mem_cons, List.not_mem_nil, or_false] at hi
  subst hi
  refine wpOp_call rfl rfl 155 (enters_of Tryz.func155 (by kernel_rfl) rfl) #[.tmp 12] _ rfl _ rfl (vecBytes_any _ _ _ 1 1 [n] (Arr.new w2.drew 22 #[.int .u32 (n : Int)] 1 1 rfl) (by simp; omega) (by omega)) ?_
  rintro e v0 ⟨A0, c0, rfl, hf00, hO0, hA0⟩
  refine ⟨_, rfl, trivial, ?_⟩
  have m0 := (d0.alloc (.cells #[.int .u32 (n : Int)] 22)).fr hf00 id
  simp only [List.flatMap_cons, List.flatMap_nil, List.append_nil] at hO0
  go_simp
  refine wpAnyH_all (rs := [6]) (by decide +kernel) (by simp) ?_
  intro i hi
  simp only [List.mem_cons, List.not_mem_nil, or_false] at hi
  subst hi
  have e0 : (zs.toArray.toList.take 0 ++ (le4 n).map bv ++ zs.toArray.toList.drop (0 + 4)).toArray = ((le4 n ++ List.replicate 60 0).map bv).toArray := by rw [Hzs.out]; rfl
  have hcp : ∀ ty, (Builtin.copy_ #[28, 28] ty #[.slice (some ⟨B + 1, 0, none⟩) 64 64, .slice A0 4 c0]).run Tryz.prog v0 = .ok (goInt 4) (v0.setRow (B + 1) ((le4 n ++ List.replicate 60 0).map bv).toArray) := fun ty => by rw [← e0]; exact run_copyK m0 hO0 (by omega) (by omega) (by rw [Hzs.out]; simp) ty
  clear e0
  refine wpOp_run (v := goInt 4) (w' := v0.setRow (B + 1) ((le4 n ++ List.replicate 60 0).map bv).toArray) rfl rfl (by simp [execOp, resolve, invoke, builtin, Act.eval, hcp, Result.andThen]) ⟨trivial, ?_⟩
  refine wpAnyH_done (by decide +kernel) ?_ _
  obtain ⟨x0, hx0⟩ : ∃ x, x = v0.setRow (B + 1) ((le4 n ++ List.replicate 60 0).map bv).toArray := ⟨_, rfl⟩
  have kk0 : Blk x0 (B + 1) 200 ((le4 n ++ List.replicate 60 0).map bv).toArray := by rw [hx0]; exact (setRow_frK m0).2
  have ff0 : Fr (· = B + 1) v0 x0 := by rw [hx0]; exact (setRow_frK m0).1
  have fg0 : Fr (· = B + 1) w2 x0 := ((((Fr.drew (Fr.refl (· = B + 1) w2)).alloc _).trans hf00 fun _ _ h => h.elim)).trans ff0 fun _ _ h => h
  rw [← hx0]
  clear hcp m0 d0 hx0 ff0 hO0 hA0 hf00
  obtain ⟨x1, hcq, kq, fq⟩ := run_copyAt (o := 4) (dLen := 51) (dCap := 60) (c := c) kk0 (hA2.fr fg0 hFB) (by simp [le4_len]; omega)
  have hcur : (((le4 n ++ List.replicate 60 0).map bv).toArray.toList.take 4 ++ (l.take 51).map bv ++ ((le4 n ++ List.replicate 60 0).map bv).toArray.toList.drop (4 + min n 51)).toArray = ((le4 n ++ (l.take 51 ++ List.replicate (60 - min n 51) 0)).map bv).toArray := by
    have := first_b l
    rw [Hln.out] at this
    rw [List.toList_toArray, ← List.map_take, ← List.map_drop, ← List.map_append, ← List.map_append, this]
  rw [hcur] at kq
  obtain ⟨ps, hps⟩ : ∃ ps, ps = le4 n ++ (l.take 51 ++ List.replicate (60 - min n 51) 0) := ⟨_, rfl⟩
  have hpl : ps.length = 64 := by rw [hps]; simp only [List.length_append, List.length_take, List.length_replicate, le4_len, Hln.out]; omega
  have hpc : ps.take 55 ++ (le4 gen ++ le4 num) ++ ps.drop 63 = le4 n ++ (l.take 51 ++ (List.replicate (51 - n) 0 ++ (le4 gen ++ (le4 num ++ [0])))) := by
    have := first_c l gen num
    rw [Hln.out] at this
    rw [hps, this]
  rw [← hps] at kq
  have Hpc := Lib.hid hpc
  have Hpl := Lib.hid hpl
  clear hcur hps hpc hpl
  have f21 : Fr (· = B + 1) w2 x1 := fg0.trans fq fun _ _ h => h
  go_wp2_with (first
    | (at_builtin; go_loud (refine wpList_run (v := goInt (min n 51 : Nat)) (w' := x1) rfl (by simp [execOp, resolve, invoke, builtin, Act.eval, hcq, Result.andThen]) ?_)))
  refine wp_region_held (S := fun _ => True) rfl ?_
  have d2 := kq.fr (Fr.drew (Fr.refl NoB x1)) id
  refine wpAnyH_take (i := 0) rfl (by decide +kernel) (by decide +kernel) (by decide +kernel) (fun _ _ _ h => h) (Or.inl ⟨by kernel_rfl, fun W _ => by go_simp; with_reducible rfl⟩) trivial ?_
  refine wpAnyH_take (i := 1) rfl (by decide +kernel) (by decide +kernel) (by decide +kernel) (fun _ _ _ h => h) (Or.inl ⟨by kernel_rfl, fun W _ => by go_simp; with_reducible rfl⟩) trivial ?_
  refine wpAnyH_take (i := 2) rfl (by decide +kernel) (by decide +kernel) (by decide +kernel) (fun _ _ _ h => h) (Or.inl ⟨by kernel_rfl, fun W _ => by go_simp; with_reducible rfl⟩) trivial ?_
  refine wpAnyH_take (i := 3) rfl (by decide +kernel) (by decide +kernel) (by decide +kernel) (fun _ _ _ h => h) (Or.inl ⟨by kernel_rfl, fun W _ => by go_simp; with_reducible rfl⟩) trivial ?_
  go_simp
  refine wpAnyH_all (rs := [4]) (by decide +kernel) (by simp) ?_
  intro i hi
  simp only [List.mem_cons, List.not_mem_nil, or_false] at hi
  subst hi
  refine wpOp_run (v := .slice (some ⟨x1.heap.size, 0, none⟩) 2 2) (w' := x1.drew.alloc (.cells #[.int .u32 (gen : Int), .int .u32 (num : Int)] 22)) rfl (by kernel_rfl) (by go_simp) ⟨trivial, ?_⟩
  go_simp
  refine wpAnyH_all (rs := [5]) (by decide +kernel) (by simp) ?_
  intro i hi
  simp only [List.mem_cons, List.not_mem_nil, or_false] at hi
  subst hi
  refine wpOp_call rfl rfl 155 (enters_of Tryz.func155 (by kernel_rfl) rfl) #[.tmp 22] _ rfl _ rfl (vecBytes_any _ _ _ 2 2 [gen, num] (Arr.new x1.drew 22 #[.int .u32 (gen : Int), .int .u32 (num : Int)] 2 1 rfl) (by simp; omega) (by omega)) ?_
  rintro e v2 ⟨A2, c2, rfl, hf20, hO2, hA2⟩
  refine ⟨_, rfl, trivial, ?_⟩
  have m2 := (d2.alloc (.cells #[.int .u32 (gen : Int), .int .u32 (num : Int)] 22)).fr hf20 id
  simp only [List.flatMap_cons, List.flatMap_nil, List.append_nil] at hO2
  go_simp
  refine wpAnyH_all (rs := [6]) (by decide +kernel) (by simp) ?_
  intro i hi
  simp only [List.mem_cons, List.not_mem_nil, or_false] at hi
  subst hi
  have e2 : ((ps.map bv).toArray.toList.take 55 ++ (le4 gen ++ le4 num).map bv ++ (ps.map bv).toArray.toList.drop (55 + 8)).toArray = ((le4 n ++ (l.take 51 ++ (List.replicate (51 - n) 0 ++ (le4 gen ++ (le4 num ++ [0]))))).map bv).toArray := by rw [List.toList_toArray, ← List.map_take, ← List.map_drop, ← List.map_append, ← List.map_append, Hpc.out]
  have hcp : ∀ ty, (Builtin.copy_ #[28, 28] ty #[.slice (some ⟨B + 1, 55, none⟩) 9 9, .slice A2 8 c2]).run Tryz.prog v2 = .ok (goInt 8) (v2.setRow (B + 1) ((le4 n ++ (l.take 51 ++ (List.replicate (51 - n) 0 ++ (le4 gen ++ (le4 num ++ [0]))))).map bv).toArray) := fun ty => by rw [← e2]; exact run_copyK m2 hO2 (by omega) (by omega) (by simp [Hpl.out]) ty
  clear e2
  refine wpOp_run (v := goInt 8) (w' := v2.setRow (B + 1) ((le4 n ++ (l.take 51 ++ (List.replicate (51 - n) 0 ++ (le4 gen ++ (le4 num ++ [0]))))).map bv).toArray) rfl rfl (by simp [execOp, resolve, invoke, builtin, Act.eval, hcp, Result.andThen]) ⟨trivial, ?_⟩
  refine wpAnyH_done (by decide +kernel) ?_ _
  obtain ⟨x2, hx2⟩ : ∃ x, x = v2.setRow (B + 1) ((le4 n ++ (l.take 51 ++ (List.replicate (51 - n) 0 ++ (le4 gen ++ (le4 num ++ [0]))))).map bv).toArray := ⟨_, rfl⟩
  have kk2 : Blk x2 (B + 1) 200 ((le4 n ++ (l.take 51 ++ (List.replicate (51 - n) 0 ++ (le4 gen ++ (le4 num ++ [0]))))).map bv).toArray := by rw [hx2]; exact (setRow_frK m2).2
  have ff2 : Fr (· = B + 1) v2 x2 := by rw [hx2]; exact (setRow_frK m2).1
  have fg2 : Fr (· = B + 1) x1 x2 := ((((Fr.drew (Fr.refl (· = B + 1) x1)).alloc _).trans hf20 fun _ _ h => h.elim)).trans ff2 fun _ _ h => h
  rw [← hx2]
  clear hcp m2 d2 hx2 ff2 hO2 hA2 hf20
  have f22 : Fr (· = B + 1) w2 x2 := f21.trans fg2 fun _ _ h => h
  obtain ⟨cs, hcs⟩ : ∃ cs, cs = ((le4 n ++ (l.take 51 ++ (List.replicate (51 - n) 0 ++ (le4 gen ++ (le4 num ++ [0]))))).map bv).toArray := ⟨_, rfl⟩
  have hce : cs = (((le4 n ++ (l.take 51 ++ (List.replicate (51 - n) 0 ++ (le4 gen ++ le4 num)))) ++ [0]).map bv).toArray := by rw [hcs]; simp
  have hpl : (le4 n ++ (l.take 51 ++ (List.replicate (51 - n) 0 ++ (le4 gen ++ le4 num)))).length = 63 := by
    simp only [List.length_append, List.length_take, List.length_replicate, le4_len, Hln.out]
    omega
  have hset : cs.setIfInBounds 63 (.int .u8 165) = ((firstL l gen num).map bv).toArray := by
    rw [hce, List.setIfInBounds_toArray, List.map_append, List.set_append_right _ _ (by rw [List.length_map, hpl]; omega), List.length_map, hpl]
    simp [firstL, Hln.out, bv]
  have hc63 : cs[63]? = some (.int .u8 0) := by
    rw [hce, List.getElem?_toArray, List.map_append, List.getElem?_append_right (by rw [List.length_map, hpl]; omega), List.length_map, hpl]
    rfl
  have kk2' : Blk x2 (B + 1) 200 cs := by rw [hcs]; exact kk2
  have c63 : x2.cell? ⟨B + 1, 63, none⟩ = some (.int .u8 0) := by rw [kk2'.cell]; exact hc63
  have z63 := kk2.frozen 63
  obtain ⟨x3, hx3⟩ : ∃ x, x = x2.setCell ⟨B + 1, 63, none⟩ (.int .u8 165) := ⟨_, rfl⟩
  obtain ⟨ys, hys⟩ : ∃ ys, ys = (firstL l gen num).map bv := ⟨_, rfl⟩
  have kk3 : Blk x3 (B + 1) 200 ys.toArray := by
    rw [hx3, hys, ← hset]
    exact kk2'.set_ 63 (.int .u8 165)
  have fr3 : Fr (· = B + 1) x2 x3 := by rw [hx3]; exact (Fr.refl _ _).at_ _ _
  have k03 := (k0.fr f22 (by omega)).fr fr3 (by omega)
  have all3 : ∀ j u, ys[j]? = some u → x3.cell? ⟨B + 1, 0 + j, none⟩ = some u := fun j u hu => by rw [Nat.zero_add, kk3.cell]; simpa using hu
  have Ly : Hid (ys.length = 64) := by show _ = _; rw [hys, List.length_map]; exact firstL_len ..
  have Sy : Hid (ys.toArray.size = 64) := by show _ = _; rw [List.size_toArray]; exact Ly.out
  have Zy : Hid (zs.toArray.size = ys.toArray.size) := by show _ = _; rw [Sy.out, Hsz0.out]
  have Oy : Hid (ys.toArray.all (·.oneCell') = true) := by show _ = _; rw [hys]; exact sec_cells _
  have Hx3 := Lib.hid hx3
  have Hys := Lib.hid hys
  clear hx3 hys hcs hce hset hc63 hpl
  go_wp2_with (first
    | (refine wpList_load_agg rfl 200 (.tmp 7) rfl (B + 1) 0 rfl ys _ all3 Tryz.underlying200 rfl (by rw [Ly.out]; exact sec_size) ?_)
    | (refine wpList_store_rowK rfl 200 (.tmp 6) (.tmp 26) rfl B ys.toArray rfl rfl 200 zs.toArray k03 (by rw [Sy.out]; exact sec_size) Zy.out Oy.out ?_)
    | rw [← Hx3.out])
  have kk4 : Blk (x3.setRow B ys.toArray) B 200 ys.toArray := (setRow_frK k03).2
  have fr4 : Fr (· = B) x3 (x3.setRow B ys.toArray) := (setRow_frK k03).1
  refine bodyPost_ret (results_cellK (cs := ys) rfl rfl (fun j v hv => by rw [Nat.zero_add, kk4.cell]; simpa using hv) Tryz.underlying200 rfl (by rw [Ly.out]; exact sec_size)) rfl ?_
  have hlow : ∀ j, j = B + 1 → NoB j ∨ w.heap.size ≤ j := fun j hj => .inr (by have := HB.out; omega)
  exact ⟨by rw [Hys.out], ((hf2.new f22 hlow).new fr3 hlow).new fr4 fun j hj => .inr (by have := HB.out; omega)⟩
end Go.Proofs.YtnplamcajjblkaaGreat
