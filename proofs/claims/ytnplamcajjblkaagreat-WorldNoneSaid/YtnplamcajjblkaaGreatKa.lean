/-
  Numbers as bytes, the lowest ahead (vec.Bytes, tabulariumref01.Put); a head of a disk (keep.Super, tabulariumref18.Super). Conditions: each contract states its own.
-/
import Derived.Test.YtnplamcajjblkaaGreatRh
import Derived.Test.YtnplamcajjblkaaGreatCx
import Derived.Test.YtnplamcajjblkaaGreatWk
namespace Go.Proofs.YtnplamcajjblkaaGreat
open Go.RowKit

def u32v (n : Nat) : Value := .int .u32 (n : Int)
/-- Four bytes of a number, the lowest ahead. -/
def le4 (n : Nat) : List UInt8 := [UInt8.ofNat n, UInt8.ofNat (n / 256), UInt8.ofNat (n / 65536), UInt8.ofNat (n / 16777216)]
def leN (n size : Nat) : List UInt8 := (List.range size).map fun i => UInt8.ofNat (n / 256 ^ i)
theorem leN_succ (n k : Nat) : leN n (k + 1) = leN n k ++ [UInt8.ofNat (n / 256 ^ k)] := by unfold leN; rw [List.range_succ, List.map_append]; rfl
theorem leN_four (n : Nat) : leN n 4 = le4 n := by simp [leN, le4, List.range_succ]
theorem leN_len (n k : Nat) : (leN n k).length = k := by simp [leN]
theorem le4_len (n : Nat) : (le4 n).length = 4 := rfl
theorem bv_ofNat (m : Nat) : bv (UInt8.ofNat m) = .int .u8 ((m % 256 : Nat) : Int) := by rw [bv_eq, UInt8.toNat_ofNat']
theorem take_snocK {α : Type} {l : List α} {k : Nat} {x : α} (h : l[k]? = some x) : l.take (k + 1) = l.take k ++ [x] := by
  obtain ⟨hk, rfl⟩ := List.getElem?_eq_some_iff.1 h
  exact List.take_succ_eq_append_getElem hk
theorem le4_bv (n : Nat) : (le4 n).map bv = [.int .u8 ((n : Int) % 256), .int .u8 (((n : Int) / 256) % 256), .int .u8 (((n : Int) / 65536) % 256), .int .u8 (((n : Int) / 16777216) % 256)] := by
  simp only [le4, List.map_cons, List.map_nil, bv_ofNat, Int.natCast_emod, Int.natCast_ediv]
  rfl
theorem el_u8 : ElemOk Tryz.prog 28 5 (.int .u8 0) 1 1 := .mk Tryz.underlying28 (by kernel_rfl) rfl (by omega) (by omega)

set_option maxRecDepth 100000 in
set_option maxHeartbeats 2000000 in
theorem vecBytes_any (w : World) (F : Nat → Prop) (A : Option Addr) (n c : Nat) (l : List Nat) (h : Arr w F 1 A n (l.map u32v)) (hl : ∀ x ∈ l, x < 4294967296) (hn : n ≤ 1000000) :
    Calls Tryz.prog 155 #[.slice A n c] w fun e w' => ∃ A' c', e = .returned (.slice A' (4 * n) c') ∧ Fr NoB w w' ∧ Own w' 5 1 A' (4 * n) c' ((l.flatMap le4).map bv) ∧ ∀ j, inB A' j → w.heap.size ≤ j := by
  obtain ⟨i, hi, hz0, hz1, hz2⟩ := info_parts (P := Tryz.prog) (e := 5) (z := .int .u8 0) (size := 1) (bytes := 1) (by kernel_rfl)
  have hll : l.length = n := by have := h.1; simpa using this
  have Hll := Lib.hid hll
  have Hl := Lib.hid hl
  have Hi := Lib.hid hi
  have Hz0 := Lib.hid hz0
  have Hz1 := Lib.hid hz1
  have Hz2 := Lib.hid hz2
  clear hll hl hi hz0 hz1 hz2
  go_enter Tryz.func155, Tryz.ntmps155
  go_wp2_with (first
    | (at_make; refine wpList_make_own _ rfl _ _ 28 rfl 0 5 i (.int .u8 0) 1 Tryz.underlying28 Hi.out Hz0.out Hz1.out _ _ _ (4 * n) rfl rfl (by omega) (by rw [Hz2.out]; omega) (by unfold maxLen; omega) (Nat.zero_le _) ?_; intro w1 hown1 hgrow1))
  have hO1 : Own w1 5 1 (some ⟨w.heap.size, 0, none⟩) 0 (4 * n) [] := hown1
  have hf1 : Fr NoB w w1 := ⟨hgrow1.os, hgrow1.tape, hgrow1.output, hgrow1.size, fun i hi _ => hgrow1.block i hi fun e => by cases e⟩
  clear hown1 hgrow1
  go_loopw [12, 3] (fun v v3 wr => ∃ (k c3 : Nat) (A3 : Option Addr), k ≤ n ∧ v = .int .i64 k ∧ v3 = .slice A3 (4 * k : Nat) c3 ∧ Own wr 5 1 A3 (4 * k) c3 (((l.take k).flatMap le4).map bv) ∧ (∀ j, inB A3 j → w.heap.size ≤ j) ∧ Fr NoB w wr) (fun v _ _ => n - (intOf v).toNat)
  case atStart => exact ⟨0, 4 * n, some ⟨w.heap.size, 0, none⟩, by omega, rfl, rfl, by simpa using hO1, fun j hj => by rw [inB_some] at hj; have hj : w.heap.size = j := hj; omega, hf1⟩
  case round =>
    obtain ⟨k, c3, A3, hk, rfl, rfl, hO, hA3, hF⟩ := hrel
    obtain ⟨w2, rfl⟩ : ∃ w2 : World, w2 = wr := ⟨_, rfl⟩
    by_cases hkn : k < n
    · obtain ⟨b, o, u, rfl, _, hu, hc⟩ := (h.fr hF fun _ _ => id).at1 hkn
      obtain ⟨x, hx⟩ : ∃ x, l[k]? = some x := ⟨_, List.getElem?_eq_getElem (by have := Hll.out; omega)⟩
      have hux : u = .int .u32 (x : Int) := by rw [List.getElem?_map, hx] at hu; injection hu with hu; exact hu.symm
      subst hux
      have hx32 := Hl.out x (List.mem_of_getElem? hx)
      have Htk := Lib.hid (take_snocK hx)
      clear hu hx
      have h4 : (4 * k + 4) * 1 ≤ 140737488355328 := by omega
      go_wp2_with (first
        | (at_builtin; refine wpList_app _ el_u8 rfl (.tmp 16) (.tmp 28) rfl A3 (4 * k) c3 _ rfl (hO.alloc _) _ _ 4 4 _ rfl (Arr.new _ _ _ 4 1 rfl) (by simp [Value.oneCell']) (by omega) ?_; intro A4 c4 w3 hO3 hf3 hin3 _))
      simp only [World.size_alloc] at hin3
      have hsz := hF.size
      have hA4 : ∀ j, inB A4 j → w.heap.size ≤ j := fun j hj => (hin3 j hj).elim (hA3 j) fun h => by omega
      have hF3 : Fr NoB w w3 := (hF.alloc _).new hf3 fun j hj => .inr (hA3 j hj)
      have e4 : 4 * k + 4 = 4 * (k + 1) := by omega
      have hO4 : Own w3 5 1 A4 (4 * (k + 1)) c4 (((l.take (k + 1)).flatMap le4).map bv) := by
        rw [Htk.out, List.flatMap_append, List.map_append]
        have e1 : ([x].flatMap le4).map bv = (le4 x).map bv := by simp
        have e5 : (x : Int) / 16777216 % 256 = (x : Int) / 16777216 := by omega
        rw [e1, le4_bv, e5, ← e4]
        exact hO3
      go_roundw
      case rel => exact ⟨k + 1, c4, A4, by omega, by go_num, by rw [e4], hO4, hA4, hF3⟩
      case measure => (simp [intOf] <;> omega)
    · have hkn2 : k = n := by omega
      subst hkn2
      rw [List.take_of_length_le (by rw [Hll.out]; exact Nat.le_refl _)] at hO
      go_wp2
      go_ret
      exact ⟨A3, c3, rfl, hF, hO, hA3⟩

/-- A head of a disk. -/
def superL (g : Nat) : List UInt8 := le4 g ++ (List.replicate 55 0 ++ (le4 g ++ [165]))
theorem superL_len (g : Nat) : (superL g).length = 64 := rfl
theorem sec_zero : ((Tryz.prog.info? 200).bind (·.zero)).map (·.cells) = some ((List.replicate 64 (0 : UInt8)).map bv).toArray := by kernel_rfl
theorem sec_size : (Tryz.prog.info? 200).map (·.size) = some 64 := by kernel_rfl
theorem sec_cells (l : List UInt8) : ((l.map bv).toArray).all (·.oneCell') = true := by
  rw [Array.all_eq_true_iff_forall_mem]
  intro u hu
  exact bv_one l u (by simpa using hu)
/-- copy of owned bytes into a row. -/
theorem run_copyK {w : World} {g o dLen dCap : Nat} {cur : Array Value} {t : TypeId} (hB : Blk w g t cur) {A : Option Addr} {n c : Nat} {l : List UInt8} (h : Own w 5 1 A n c (l.map bv)) (h0 : 0 < n) (hn : n ≤ dLen) (hfit : o + n ≤ cur.size) (ty : TypeId) :
    (Builtin.copy_ #[28, 28] ty #[.slice (some ⟨g, o, none⟩) dLen dCap, .slice A n c]).run Tryz.prog w = .ok (goInt n) (w.setRow g (cur.toList.take o ++ l.map bv ++ cur.toList.drop (o + n)).toArray) := by
  have hl : l.length = n := by have := h.len; simpa using this
  rcases h.form with ⟨_, h1, _⟩ | ⟨g2, cur2, rfl, hB2, _, _, _, h5⟩
  · omega
  · have := run_copy_row (P := Tryz.prog) w 28 28 ty 5 g o dLen dCap ⟨g2, 0, none⟩ n c cur t (l.map bv) Tryz.underlying28 (by kernel_rfl) hB (by rw [List.length_map, hl]; exact (Nat.min_eq_left hn).symm) (fun j v hv => by
      have hj : j < n := by have := (List.getElem?_eq_some_iff.1 hv).1; rw [List.length_map, hl] at this; exact this
      have e : (⟨g2, 0, none⟩ : Addr).add j = ⟨g2, j, none⟩ := by unfold Addr.add; split <;> simp_all
      rw [e, hB2.cell, ← Array.getElem?_toList]
      rw [← h5, List.getElem?_take_of_lt (by omega)] at hv
      exact hv) (by rw [List.length_map, hl]; exact hfit) (bv_one l)
    rw [List.length_map, hl] at this
    exact this
set_option maxRecDepth 100000 in
set_option maxHeartbeats 2000000 in
theorem super_any (w : World) (n : Nat) (hn : n < 4294967296) :
    Calls Tryz.prog 88 #[.int .u32 (n : Int)] w fun e w' => e = .returned (.agg ((superL n).map bv).toArray) ∧ Fr NoB w w' := by
  obtain ⟨zs, hzs⟩ : ∃ zs, zs = (List.replicate 64 (0 : UInt8)).map bv := ⟨_, rfl⟩
  have Hz : Hid (((Tryz.prog.info? 200).bind (·.zero)).map (·.cells) = some zs.toArray) := by show _ = _; rw [hzs]; exact sec_zero
  obtain ⟨w2, hw2⟩ : ∃ w2, w2 = (w.alloc (.cells zs.toArray 200)).alloc (.cells zs.toArray 200) := ⟨_, rfl⟩
  obtain ⟨B, hB⟩ : ∃ B, B = w.heap.size := ⟨_, rfl⟩
  have hf2 : Fr NoB w w2 := by rw [hw2]; exact ((Fr.refl _ _).alloc _).alloc _
  have k0 : Blk w2 B 200 zs.toArray := by rw [hw2, hB]; exact (Blk.new _ _ _).alloc _
  have k1 : Blk w2 (B + 1) 200 zs.toArray := by
    rw [hw2, hB]
    have := Blk.new (w.alloc (.cells zs.toArray 200)) 200 zs.toArray
    simpa using this
  have HB := Lib.hid hB
  have Hw2 := Lib.hid hw2
  have Hzs := Lib.hid hzs
  clear hB hw2 hzs
  go_enter Tryz.func88, Tryz.ntmps88
  go_wp2_with (first
    | (refine wpList_alloc_zcK rfl 200 rfl zs.toArray Hz.out ?_))
  rw [← Hw2.out]
  simp only [World.size_alloc]
  rw [← HB.out]
  have Hsz0 : Hid (zs.toArray.size = 64) := by show _ = _; rw [Hzs.out]; simp
  refine wp_region_held (S := fun _ => True) rfl ?_
  have d0 := k1.fr (Fr.drew (Fr.refl NoB w2)) id
  refine wpAnyH_take (i := 0) rfl (by decide +kernel) (by decide +kernel) (by decide +kernel) (fun _ _ _ h => h) (Or.inl ⟨by kernel_rfl, fun W _ => by go_simp; with_reducible rfl⟩) trivial ?_
  refine wpAnyH_take (i := 1) rfl (by decide +kernel) (by decide +kernel) (by decide +kernel) (fun _ _ _ h => h) (Or.inl ⟨by kernel_rfl, fun W _ => by go_simp; with_reducible rfl⟩) trivial ?_
  go_simp
  refine wpAnyH_all (rs := [2]) (by decide +kernel) (by simp) ?_
  intro i hi
  simp only [List.mem_cons, List.not_mem_nil, or_false] at hi
  subst hi
  refine wpOp_run (v := .slice (some ⟨w2.heap.size, 0, none⟩) 1 1) (w' := w2.drew.alloc (.cells #[.int .u32 (n : Int)] 22)) rfl (by kernel_rfl) (by go_simp) ⟨trivial, ?_⟩
  go_simp
  refine wpAnyH_all (rs := [3]) (by decide +kernel) (by simp) ?_
  intro i hi
  simp only [List.mem_cons, List.not_mem_nil, or_false] at hi
  subst hi
  refine wpOp_call rfl rfl 155 (enters_of Tryz.func155 (by kernel_rfl) rfl) #[.tmp 6] _ rfl _ rfl (vecBytes_any _ _ _ 1 1 [n] (Arr.one w2 (.int .u32 (n : Int)) 22).drew (by simpa using hn) (by omega)) ?_
  rintro e v0 ⟨A0, c0, rfl, hf00, hO0, hA0⟩
  refine ⟨_, rfl, trivial, ?_⟩
  have m0 := (d0.alloc (.cells #[.int .u32 (n : Int)] 22)).fr hf00 id
  rw [List.flatMap_cons, List.flatMap_nil, List.append_nil] at hO0
  go_simp
  refine wpAnyH_all (rs := [4]) (by decide +kernel) (by simp) ?_
  intro i hi
  simp only [List.mem_cons, List.not_mem_nil, or_false] at hi
  subst hi
  have e0 : (zs.toArray.toList.take 0 ++ (le4 n).map bv ++ zs.toArray.toList.drop (0 + 4)).toArray = ((le4 n ++ List.replicate 60 0).map bv).toArray := by rw [Hzs.out]; rfl
  have hcp : ∀ ty, (Builtin.copy_ #[28, 28] ty #[.slice (some ⟨B + 1, 0, none⟩) 64 64, .slice A0 4 c0]).run Tryz.prog v0 = .ok (goInt 4) (v0.setRow (B + 1) ((le4 n ++ List.replicate 60 0).map bv).toArray) := fun ty => by rw [← e0]; exact run_copyK m0 hO0 (by omega) (by omega) (by rw [Hzs.out]; simp) ty
  clear e0
  refine wpOp_run (v := goInt 4) (w' := v0.setRow (B + 1) ((le4 n ++ List.replicate 60 0).map bv).toArray) rfl rfl (by simp [execOp, resolve, invoke, builtin, Act.eval, hcp, Result.andThen]) ⟨trivial, ?_⟩
  refine wpAnyH_done (by decide +kernel) ?_ _
  obtain ⟨x0, hx0⟩ : ∃ x, x = v0.setRow (B + 1) ((le4 n ++ List.replicate 60 0).map bv).toArray := ⟨_, rfl⟩
  have kk0 : Blk x0 (B + 1) 200 ((le4 n ++ List.replicate 60 0).map bv).toArray := by rw [hx0]; exact (setRow_frK m0).2
  have ff0 : Fr (· = B + 1) v0 x0 := by rw [hx0]; exact (setRow_frK m0).1
  have fg0 : Fr (· = B + 1) w2 x0 := ((((Fr.drew (Fr.refl (· = B + 1) w2)).alloc _).trans hf00 fun _ _ h => h.elim)).trans ff0 fun _ _ h => h
  rw [← hx0]
  clear hcp m0 d0 hx0 ff0 hO0 hA0 hf00
  go_wp2
  refine wp_region_held (S := fun _ => True) rfl ?_
  have d1 := kk0.fr (Fr.drew (Fr.refl NoB x0)) id
  refine wpAnyH_take (i := 0) rfl (by decide +kernel) (by decide +kernel) (by decide +kernel) (fun _ _ _ h => h) (Or.inl ⟨by kernel_rfl, fun W _ => by go_simp; with_reducible rfl⟩) trivial ?_
  refine wpAnyH_take (i := 1) rfl (by decide +kernel) (by decide +kernel) (by decide +kernel) (fun _ _ _ h => h) (Or.inl ⟨by kernel_rfl, fun W _ => by go_simp; with_reducible rfl⟩) trivial ?_
  go_simp
  refine wpAnyH_all (rs := [2]) (by decide +kernel) (by simp) ?_
  intro i hi
  simp only [List.mem_cons, List.not_mem_nil, or_false] at hi
  subst hi
  refine wpOp_run (v := .slice (some ⟨x0.heap.size, 0, none⟩) 1 1) (w' := x0.drew.alloc (.cells #[.int .u32 (n : Int)] 22)) rfl (by kernel_rfl) (by go_simp) ⟨trivial, ?_⟩
  go_simp
  refine wpAnyH_all (rs := [3]) (by decide +kernel) (by simp) ?_
  intro i hi
  simp only [List.mem_cons, List.not_mem_nil, or_false] at hi
  subst hi
  refine wpOp_call rfl rfl 155 (enters_of Tryz.func155 (by kernel_rfl) rfl) #[.tmp 11] _ rfl _ rfl (vecBytes_any _ _ _ 1 1 [n] (Arr.one x0 (.int .u32 (n : Int)) 22).drew (by simpa using hn) (by omega)) ?_
  rintro e v1 ⟨A1, c1, rfl, hf10, hO1, hA1⟩
  refine ⟨_, rfl, trivial, ?_⟩
  have m1 := (d1.alloc (.cells #[.int .u32 (n : Int)] 22)).fr hf10 id
  rw [List.flatMap_cons, List.flatMap_nil, List.append_nil] at hO1
  go_simp
  refine wpAnyH_all (rs := [4]) (by decide +kernel) (by simp) ?_
  intro i hi
  simp only [List.mem_cons, List.not_mem_nil, or_false] at hi
  subst hi
  have e1 : (((le4 n ++ List.replicate 60 0).map bv).toArray.toList.take 59 ++ (le4 n).map bv ++ ((le4 n ++ List.replicate 60 0).map bv).toArray.toList.drop (59 + 4)).toArray = ((le4 n ++ (List.replicate 55 0 ++ (le4 n ++ [0]))).map bv).toArray := by rfl
  have hcp : ∀ ty, (Builtin.copy_ #[28, 28] ty #[.slice (some ⟨B + 1, 59, none⟩) 5 5, .slice A1 4 c1]).run Tryz.prog v1 = .ok (goInt 4) (v1.setRow (B + 1) ((le4 n ++ (List.replicate 55 0 ++ (le4 n ++ [0]))).map bv).toArray) := fun ty => by rw [← e1]; exact run_copyK m1 hO1 (by omega) (by omega) (by simp [le4]) ty
  clear e1
  refine wpOp_run (v := goInt 4) (w' := v1.setRow (B + 1) ((le4 n ++ (List.replicate 55 0 ++ (le4 n ++ [0]))).map bv).toArray) rfl rfl (by simp [execOp, resolve, invoke, builtin, Act.eval, hcp, Result.andThen]) ⟨trivial, ?_⟩
  refine wpAnyH_done (by decide +kernel) ?_ _
  obtain ⟨x1, hx1⟩ : ∃ x, x = v1.setRow (B + 1) ((le4 n ++ (List.replicate 55 0 ++ (le4 n ++ [0]))).map bv).toArray := ⟨_, rfl⟩
  have kk1 : Blk x1 (B + 1) 200 ((le4 n ++ (List.replicate 55 0 ++ (le4 n ++ [0]))).map bv).toArray := by rw [hx1]; exact (setRow_frK m1).2
  have ff1 : Fr (· = B + 1) v1 x1 := by rw [hx1]; exact (setRow_frK m1).1
  have fg1 : Fr (· = B + 1) x0 x1 := ((((Fr.drew (Fr.refl (· = B + 1) x0)).alloc _).trans hf10 fun _ _ h => h.elim)).trans ff1 fun _ _ h => h
  rw [← hx1]
  clear hcp m1 d1 hx1 ff1 hO1 hA1 hf10
  skip
  have c63 : x1.cell? ⟨B + 1, 63, none⟩ = some (.int .u8 0) := by rw [kk1.cell]; rfl
  have z63 := kk1.frozen 63
  obtain ⟨x2, hx2⟩ : ∃ x, x = x1.setCell ⟨B + 1, 63, none⟩ (.int .u8 165) := ⟨_, rfl⟩
  obtain ⟨ys, hys⟩ : ∃ ys, ys = (superL n).map bv := ⟨_, rfl⟩
  have kk2 : Blk x2 (B + 1) 200 ys.toArray := by
    rw [hx2, hys]
    have := kk1.set_ 63 (.int .u8 165)
    exact this
  have fr2 : Fr (· = B + 1) x1 x2 := by rw [hx2]; exact (Fr.refl _ _).at_ _ _
  have k02 := ((k0.fr fg0 (by omega)).fr fg1 (by omega)).fr fr2 (by omega)
  have all2 : ∀ j u, ys[j]? = some u → x2.cell? ⟨B + 1, 0 + j, none⟩ = some u := fun j u hu => by rw [Nat.zero_add, kk2.cell]; simpa using hu
  have Ly : Hid (ys.length = 64) := by show _ = _; rw [hys]; rfl
  have Sy : Hid (ys.toArray.size = 64) := by show _ = _; rw [hys]; rfl
  have Zy : Hid (zs.toArray.size = ys.toArray.size) := by show _ = _; rw [Sy.out, Hsz0.out]
  have Oy : Hid (ys.toArray.all (·.oneCell') = true) := by show _ = _; rw [hys]; exact sec_cells _
  have Hx2 := Lib.hid hx2
  have Hys := Lib.hid hys
  clear hx2 hys
  go_wp2_with (first
    | (refine wpList_load_agg rfl 200 (.tmp 3) rfl (B + 1) 0 rfl ys _ all2 Tryz.underlying200 rfl (by rw [Ly.out]; exact sec_size) ?_)
    | (refine wpList_store_rowK rfl 200 (.tmp 2) (.tmp 15) rfl B ys.toArray rfl rfl 200 zs.toArray k02 (by rw [Sy.out]; exact sec_size) Zy.out Oy.out ?_)
    | rw [← Hx2.out])
  have kk3 : Blk (x2.setRow B ys.toArray) B 200 ys.toArray := (setRow_frK k02).2
  have fr3 : Fr (· = B) x2 (x2.setRow B ys.toArray) := (setRow_frK k02).1
  refine bodyPost_ret (results_cellK (cs := ys) rfl rfl (fun j v hv => by rw [Nat.zero_add, kk3.cell]; simpa using hv) Tryz.underlying200 rfl (by rw [Ly.out]; exact sec_size)) rfl ?_
  have hlow : ∀ j, j = B + 1 → NoB j ∨ w.heap.size ≤ j := fun j hj => .inr (by have := HB.out; omega)
  exact ⟨by rw [Hys.out], (((hf2.new fg0 hlow).new fg1 hlow).new fr2 hlow).new fr3 fun j hj => .inr (by have := HB.out; omega)⟩
end Go.Proofs.YtnplamcajjblkaaGreat
