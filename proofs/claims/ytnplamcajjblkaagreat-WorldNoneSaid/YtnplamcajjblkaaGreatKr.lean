/-
  A suite that is made, and what it draws (suite.New, ok, Draw); links and clients that are made (lossy.New, sess.New). Conditions: each contract states its own.
-/
import Derived.Test.YtnplamcajjblkaaGreatKq
namespace Go.Proofs.YtnplamcajjblkaaGreat
open Go.RowKit

/-- A suite in memory, as far as it draws. -/
def SuiteHas (w : World) (p t : Nat) : Prop := ∃ cs : Array Value, Blk w p 72 cs ∧ cs[1]? = some (.pointer (some ⟨t, 0, none⟩)) ∧ cs[9]? = some (.bool true)
theorem SuiteHas.fr {w w' : World} {p t : Nat} {S : Nat → Prop} (h : SuiteHas w p t) (hf : Fr S w w') (hp : ¬ S p) : SuiteHas w' p t := h.elim fun cs hc => ⟨cs, hc.1.fr hf hp, hc.2⟩
theorem suiteNew2_any (w : World) (q : Nat) :
    Calls Tryz.prog 35 #[.int .i64 0, .pointer (some ⟨q, 0, none⟩)] w fun e w' => ∃ p, e = .returned (.pointer (some ⟨p, 0, none⟩)) ∧ w.heap.size ≤ p ∧ SuiteHas w' p q ∧ Fr NoB w w' := by
  have hmm := @run_makeMap Tryz.prog
  have hb : ∀ a b c d : Option Nat, Tryz.prog.built 72 [(0, .int .i64 0), (1, .pointer (some ⟨q, 0, none⟩)), (2, .map a), (3, .map b), (4, .map c), (5, .map d), (8, .bool true)] = some #[.int .i64 0, .pointer (some ⟨q, 0, none⟩), .map a, .map b, .map c, .map d, .slice none 0 0, .slice none 0 0, .bool false, .bool true] := by intro a b c d; kernel_rfl
  have Hb := Lib.hid hb
  clear hb
  go_enter Tryz.func35, Tryz.ntmps35
  go_wp2_with (first
    | (refine wpList_buildK rfl 72 #[(0, .tmp 11), (1, .tmp 12), (2, .tmp 13), (3, .tmp 14), (4, .tmp 15), (5, .tmp 16), (8, .const (.bool true))] rfl [(0, .int .i64 0), (1, .pointer (some ⟨q, 0, none⟩)), (2, .map _), (3, .map _), (4, .map _), (5, .map _), (8, .bool true)] rfl _ (Hb.out _ _ _ _) ?_))
  go_ret
  have hbk := Blk.new ((((w.alloc (.map #[] 0)).alloc (.map #[] 0)).alloc (.map #[] 0)).alloc (.map #[] 0)) 72 #[.int .i64 0, .pointer (some ⟨q, 0, none⟩), .map (some w.heap.size), .map (some (w.heap.size + 1)), .map (some (w.heap.size + 1 + 1)), .map (some (w.heap.size + 1 + 1 + 1)), .slice none 0 0, .slice none 0 0, .bool false, .bool true]
  simp only [World.size_alloc] at hbk
  refine ⟨_, rfl, ?_, ⟨_, hbk, ?_, ?_⟩, (((((Fr.refl NoB w).alloc _).alloc _).alloc _).alloc _).alloc _⟩
  · omega
  · rfl
  · rfl
theorem suiteOk_any (w : World) (p t : Nat) (h : SuiteHas w p t) : Calls Tryz.prog 17 #[.pointer (some ⟨p, 0, none⟩)] w fun e w' => e = .returned (.bool true) ∧ w' = w := by
  obtain ⟨cs, h1, h2, h3⟩ := h
  have c9 : w.cell? ⟨p, 9, none⟩ = some (.bool true) := (h1.cell 9).trans h3
  go_enter Tryz.func17, Tryz.ntmps17
  go_wp2
  go_ret
  exact ⟨rfl, rfl⟩

set_option maxRecDepth 100000 in
set_option maxHeartbeats 2000000 in
theorem suiteDraw_any (w : World) (p t : Nat) (F : Nat → Prop) (A : Option Addr) (n c : Nat) (l : List UInt8) (hS : SuiteHas w p t) (h : TapeAt w t F A n c l) (hF : ∀ k, F k → k < w.heap.size ∧ k ≠ t) (hm : 32 ≤ n) (hn : n ≤ 1000000) :
    Calls Tryz.prog 38 #[.pointer (some ⟨p, 0, none⟩)] w fun e w' => e = .returned (.tuple #[.agg ((l.take 32).map bv).toArray, .int .i64 0]) ∧ TapeAt w' t F (slA A 32 c 1) (n - 32) (c - 32) (l.drop 32) ∧ Fr (· = t) w w' := by
  obtain ⟨zs, hzs⟩ : ∃ zs, zs = (List.replicate 32 (0 : UInt8)).map bv := ⟨_, rfl⟩
  have Hz : Hid (((Tryz.prog.info? 96).bind (·.zero)).map (·.cells) = some zs.toArray) := by show _ = _; rw [hzs]; exact key_zeroK
  have Hzl : Hid (zs.toArray.size = 32) := by show _ = _; rw [hzs]; simp
  obtain ⟨B, hB⟩ : ∃ B, B = w.heap.size := ⟨_, rfl⟩
  obtain ⟨w2, hw2⟩ : ∃ w2, w2 = w.alloc (.cells zs.toArray 96) := ⟨_, rfl⟩
  have hf2 : Fr NoB w w2 := by rw [hw2]; exact (Fr.refl _ _).alloc _
  have hY : Blk w2 B 96 zs.toArray := by rw [hw2, hB]; exact Blk.new _ _ _
  have s2 : w2.heap.size = B + 1 := by rw [hw2, hB, World.size_alloc]
  have tl := h.blk.lt
  have H := Lib.hid (tapeKey_any w2 t F A n c l (h.fr hf2 id fun _ _ => id) (fun k hk => ⟨by have := (hF k hk).1; omega, (hF k hk).2⟩) hm hn)
  have HO := Lib.hid (suiteOk_any w2 p t (hS.fr hf2 id))
  obtain ⟨cs, h1, h2, h3⟩ := hS
  have c1 : w2.cell? ⟨p, 1, none⟩ = some (.pointer (some ⟨t, 0, none⟩)) := ((h1.fr hf2 id).cell 1).trans h2
  have hll := h.byt.len
  obtain ⟨ys, hys⟩ : ∃ ys, ys = (l.take 32).map bv := ⟨_, rfl⟩
  have Ly : Hid (ys.length = 32) := by show _ = _; rw [hys, List.length_map, List.length_take]; omega
  have Sy : Hid (ys.toArray.size = 32) := by show _ = _; rw [List.size_toArray]; exact Ly.out
  have Ay : Hid (ys.toArray.all (·.oneCell') = true) := by show _ = _; rw [hys]; exact sec_cells _
  rw [← hys] at H
  have HB := Lib.hid hB
  have Hw2 := Lib.hid hw2
  have Hys := Lib.hid hys
  clear hzs hB hw2 hys hll h1 h2 h3
  rw [show w.heap.size = B from HB.out.symm] at tl
  go_enter Tryz.func38, Tryz.ntmps38
  go_wp2_with (first
    | (refine wpList_alloc_zcK rfl 96 rfl zs.toArray Hz.out ?_)
    | rw [← Hw2.out, ← HB.out]
    | (go_at_call 17; refine HO.out.mono ?_; rintro e w1 ⟨rfl, h1⟩; rw [h1])
    | (go_at_call 84
       refine H.out.mono ?_
       rintro e w3 ⟨rfl, hT, hf3⟩
       have hY3 := hY.fr hf3 (by omega)
       clear hY)
    | (refine wpList_store_rowK rfl 96 (.tmp 2) (.tmp 13) rfl B ys.toArray rfl rfl 96 zs.toArray hY3 (by rw [Sy.out]; exact key_sizeK) (by rw [Hzl.out, Sy.out]) Ay.out ?_))
  have q1 := (setRow_frK (ds := ys.toArray) hY3).1
  have q2 := (setRow_frK (ds := ys.toArray) hY3).2
  have hTB : ¬ (t = B) := by omega
  refine bodyPost_ret (results_cell_tmpK (cs := ys) rfl rfl (fun j v hv => by rw [Nat.zero_add, q2.cell]; simpa using hv) Tryz.underlying96 rfl (by rw [Ly.out]; exact key_sizeK)) rfl ?_
  refine ⟨by rw [Hys.out]; rfl, hT.fr q1 hTB fun k hk e => by have := (hF k hk).1; rw [← HB.out] at this; omega, ?_⟩
  exact ((hf2.mono fun _ _ h => h.elim).trans hf3 fun _ _ h => h).new q1 fun j hj => .inr (by have := HB.out; omega)
/-- A client is made, or not. -/
theorem sessNew_any (w : World) (i m : Nat) (hi : 0 < i) (hi2 : i < 4294967296) (hm : m ≤ 50) : Calls Tryz.prog 37 #[.int .u32 (i : Int), .int .i64 (m : Int)] w fun e w' => ∃ q : Option Addr, e = .returned (.pointer q) ∧ (q = none ↔ m = 0) ∧ Fr NoB w w' := by
  have b1 : ((i : Int) == 0) = false := by simp; omega
  have b1' : decide ((i : Int) = 0) = false := by simp; omega
  have b1'' : decide (i = 0) = false := by simp; omega
  have b2 : decide ((50 : Int) < (m : Int)) = false := by simp only [decide_eq_false_iff_not]; omega
  have b2' : decide (50 < m) = false := by simp only [decide_eq_false_iff_not]; omega
  have hb := fun x y => show Tryz.prog.built 195 [(0, .int .u32 x), (1, .int .i64 y)] = some #[.int .u32 x, .int .i64 y, .int .u64 0, .int .i64 0] by kernel_rfl
  have HB := Lib.hid hb
  clear hb
  by_cases h0 : m = 0
  · subst h0
    go_enter Tryz.func37, Tryz.ntmps37
    go_wp2
    go_ret
    exact ⟨_, rfl, by simp, Fr.refl _ _⟩
  · have b3 : decide ((m : Int) < 1) = false := by simp only [decide_eq_false_iff_not]; omega
    have b3' : decide (m < 1) = false := by simp only [decide_eq_false_iff_not]; omega
    go_enter Tryz.func37, Tryz.ntmps37
    go_wp2_with (refine wpList_buildK rfl 195 #[(0, .tmp 15), (1, .tmp 16)] rfl [(0, .int .u32 (i : Int)), (1, .int .i64 (m : Int))] rfl _ (HB.out _ _) ?_)
    go_ret
    exact ⟨_, rfl, by simp [h0], (Fr.refl _ _).alloc _⟩
end Go.Proofs.YtnplamcajjblkaaGreat
