/-
  The reply that bytes are (wire.OfReply). Conditions: each contract states its own.
-/
import Derived.Test.YtnkfchondedfcaaPe
import Derived.Test.YtnkfchondedfcaaRh
namespace Go.Proofs.Ytnkfchondedfcaa
open Go.RowKit

set_option maxRecDepth 100000 in
set_option maxHeartbeats 16000000 in
theorem OfReply_good (w : World) (F0 : Nat → Prop) (A : Option Addr) (n c : Nat) (x : UInt8) (t : List UInt8) (h : Byt w F0 A n (x :: t)) (hn : n ≤ 70368744177664) (hx : x.toNat = 2) :
    Calls Try.prog 59 #[.slice A n c] w fun e w' => GotRep (fun k => w.heap.size ≤ k) w w' e (repOf (x :: t)) (repBad (x :: t)) := by
  have hlen := h.len
  have hn0 : (⟨t, true⟩ : Rd).l.length ≤ 70368744177664 := by simp at hlen ⊢; omega
  have hcall := fun z => begun_lit (c := c) (h.alloc (.cells z 90)) hn 2 2 (by simp)
  rw [show begunB (x :: t) 2 = true from by simp [begunB, hx], show begunR (x :: t) = ⟨t, true⟩ from rfl] at hcall
  obtain ⟨r0, hr0⟩ : ∃ r0 : Rd, r0 = ⟨t, true⟩ := ⟨_, rfl⟩
  rw [← hr0] at hcall hn0
  have Hr0 := Lib.hid hr0
  have Hx := Lib.hid hx
  clear hr0 hx hlen
  go_enter Try.func59, Try.ntmps59
  go_wp2_with (first
    | (refine wpList_alloc_any rfl 90 rfl 38 rep_zero ?_; intro z hz; have Hz := Lib.hid hz; clear hz))
  go_step3
  go_wp2_with fail
  refine (hcall z).mono ?_
  rintro e w0 ⟨b, rfl, hf0, hR⟩
  clear hcall
  have hb0 := hR.1
  have hbl0 := hR.lt
  simp only [World.size_alloc] at hb0
  have hF : Fr NoB w w0 := ((Fr.refl NoB w).alloc _).trans hf0 fun _ _ => id
  have hBz : Blk w0 w.heap.size 90 z := (Blk.new w _ _).fr hf0 id
  have hzb : ¬ w.heap.size = b := by omega
  have s0 := hf0.size
  simp only [World.size_alloc] at s0
  obtain ⟨K, hK⟩ : ∃ K, K = w0.heap.size := ⟨_, rfl⟩
  replace hR := hR.more (G := fun j => w.heap.size < j ∧ j < K) fun j hj hh => ⟨by simp only [World.size_alloc] at hh; omega, by omega⟩
  rw [← hK] at s0 hbl0
  have hKw : K ≤ w0.heap.size := by omega
  clear hf0 hK
  obtain ⟨v1, r1, e1⟩ : ∃ v r', Rd.N r0 4294967295 = (v, r') := ⟨_, _, rfl⟩
  have hv1 : v1 ≤ 4294967295 := by have := Rd.N_le r0 4294967295; rw [e1] at this; exact this
  have hn1 : r1.l.length ≤ 70368744177664 := by have := Rd.N_len r0 4294967295; rw [e1] at this; exact Nat.le_trans this hn0
  have hcall := WN_lit hR 4294967295 4294967295 (by simp)
  rw [e1] at hcall
  have E1 := Lib.hid e1
  have Hcall := Lib.hid hcall
  clear e1 hR hcall
  go_wp2_with fail
  refine Hcall.out.mono ?_
  rintro e w1 ⟨rfl, hf1, hR⟩
  clear Hcall
  replace hF := hF.new hf1 fun j hj => .inr (by omega)
  replace hBz := hBz.fr hf1 hzb
  have s1 := hf1.size
  clear hf1
  have H38 : Hid ((repCells { zeroRep with client := v1 } none 0 0 none 0 0).toArray.size = 38) := by show _ = _; rw [List.size_toArray, repCells_len]
  have H1c : Hid ((repCells { zeroRep with client := v1 } none 0 0 none 0 0).toArray.all (·.oneCell') = true) := repCells_ones _ _ _ _ _ _ _
  have hB : RepBlk (w1.alloc (.cells (repCells { zeroRep with client := v1 } none 0 0 none 0 0).toArray 90)) w1.heap.size { zeroRep with client := v1 } none 0 0 none 0 0 := ⟨Blk.new _ _ _⟩
  have hbl := hR.lt
  have hzl := hBz.lt
  replace hF : Fr NoB w (w1.alloc (.cells (repCells { zeroRep with client := v1 } none 0 0 none 0 0).toArray 90)) := hF.alloc _
  replace hBz := hBz.alloc (.cells (repCells { zeroRep with client := v1 } none 0 0 none 0 0).toArray 90)
  have hgl : w1.heap.size < (w1.alloc (.cells (repCells { zeroRep with client := v1 } none 0 0 none 0 0).toArray 90)).heap.size := by simp
  replace hR := hR.fr ((Fr.refl NoB _).alloc (.cells (repCells { zeroRep with client := v1 } none 0 0 none 0 0).toArray 90)) fun _ _ => id
  go_wp2_with (first
    | (refine wpList_build_eq rfl 90 #[(0, .tmp 18)] rfl [(0, .int .u32 v1)] rfl (repCells { zeroRep with client := v1 } none 0 0 none 0 0).toArray (clientRep_built' v1) ?_; generalize hrc : repCells { zeroRep with client := v1 } none 0 0 none 0 0 = rc1 at H38 H1c ⊢; have Hrc := Lib.hid hrc; clear hrc)
    | (refine wpList_alloc_any rfl 90 rfl 38 rep_zero ?_; intro z6 hz6; have Hz6 := Lib.hid hz6; clear hz6)
    | (refine wpList_store_newN rfl 90 (.tmp 6) (.tmp 19) rfl 38 rep_size _ z6 Hz6.out rc1.toArray rfl rfl H38.out H1c.out ?_; clear Hz6))
  rw [← Hrc.out]
  clear H38 H1c Hrc
  obtain ⟨g, hg⟩ : ∃ g, g = w1.heap.size := ⟨_, rfl⟩
  rw [← hg] at hB hgl ⊢
  have hgb : ¬ g = b := by omega
  have hzg : ¬ w.heap.size = g := by omega
  have hwg : w.heap.size ≤ g := by omega
  have hKg : K ≤ g := by omega
  clear hbl hzl hg s1
  obtain ⟨v2, r2, e2⟩ : ∃ v r', Rd.N r1 18446744073709551615 = (v, r') := ⟨_, _, rfl⟩
  have hv2 : v2 ≤ 18446744073709551615 := by have := Rd.N_le r1 18446744073709551615; rw [e2] at this; exact this
  have hn2 : r2.l.length ≤ 70368744177664 := by have := Rd.N_len r1 18446744073709551615; rw [e2] at this; exact Nat.le_trans this hn1
  have hcall := WN_lit hR 18446744073709551615 18446744073709551615 (by simp)
  rw [e2] at hcall
  have E2 := Lib.hid e2
  have Hcall := Lib.hid hcall
  clear e2 hR hcall
  go_wp2_with fail
  refine Hcall.out.mono ?_
  rintro e w2 ⟨rfl, hf2, hR⟩
  clear Hcall
  replace hB := hB.fr hf2 hgb
  replace hF := hF.new hf2 fun j hj => .inr (by omega)
  replace hgl := Nat.lt_of_lt_of_le hgl hf2.size
  replace hBz := hBz.fr hf2 hzb
  clear hf2
  have qc2 := hB.c1
  have qf2 := hB.blk.frozen 1
  have hfs : Fr (· = g) w2 (w2.setCell ⟨g, 1, none⟩ (.int .u64 v2)) := (Fr.refl _ _).at_ _ _
  replace hB := hB.s1 v2
  replace hF := hF.new hfs fun j hj => .inr (by omega)
  replace hgl : g < (w2.setCell ⟨g, 1, none⟩ (.int .u64 v2)).heap.size := Nat.lt_of_lt_of_le hgl hfs.size
  replace hBz := hBz.fr hfs hzg
  replace hR := hR.fr hfs fun j hj e => by omega
  clear hfs
  obtain ⟨v3, r3, e3⟩ : ∃ v r', Rd.N r2 1000 = (v, r') := ⟨_, _, rfl⟩
  have hv3 : v3 ≤ 1000 := by have := Rd.N_le r2 1000; rw [e3] at this; exact this
  have hn3 : r3.l.length ≤ 70368744177664 := by have := Rd.N_len r2 1000; rw [e3] at this; exact Nat.le_trans this hn2
  have hcall := WN_lit hR 1000 1000 (by simp)
  rw [e3] at hcall
  have E3 := Lib.hid e3
  have Hcall := Lib.hid hcall
  clear e3 hR hcall
  go_wp2_with fail
  refine Hcall.out.mono ?_
  rintro e w3 ⟨rfl, hf3, hR⟩
  clear Hcall
  replace hB := hB.fr hf3 hgb
  replace hF := hF.new hf3 fun j hj => .inr (by omega)
  replace hgl := Nat.lt_of_lt_of_le hgl hf3.size
  replace hBz := hBz.fr hf3 hzb
  clear hf3
  have qc3 := hB.c2
  have qf3 := hB.blk.frozen 2
  have hfs : Fr (· = g) w3 (w3.setCell ⟨g, 2, none⟩ (.int .i64 (v3 : Nat))) := (Fr.refl _ _).at_ _ _
  replace hB := hB.s2 (v3 : Nat)
  replace hF := hF.new hfs fun j hj => .inr (by omega)
  replace hgl : g < (w3.setCell ⟨g, 2, none⟩ (.int .i64 (v3 : Nat))).heap.size := Nat.lt_of_lt_of_le hgl hfs.size
  replace hBz := hBz.fr hfs hzg
  replace hR := hR.fr hfs fun j hj e => by omega
  clear hfs
  obtain ⟨i4, r4, e4⟩ : ∃ v r', Rd.Raw r3 32 = (v, r') := ⟨_, _, rfl⟩
  have hn4 : r4.l.length ≤ 70368744177664 := by have := Rd.Raw_l r3 32; rw [e4] at this; exact Nat.le_trans this hn3
  have hcall := WId_any _ _ _ _ hR hn3
  rw [e4] at hcall
  have E4 := Lib.hid e4
  have Hcall := Lib.hid hcall
  clear e4 hR hcall
  obtain ⟨x4, hx4⟩ : ∃ x, x = idOf i4 := ⟨_, rfl⟩
  have Hx4 := Lib.hid hx4
  go_wp2_with fail
  refine Hcall.out.mono ?_
  rw [← hx4]
  clear hx4
  rintro e w4 ⟨rfl, hf4, hR⟩
  clear Hcall
  replace hB := hB.fr hf4 hgb
  replace hF := hF.new hf4 fun j hj => .inr (by omega)
  replace hgl := Nat.lt_of_lt_of_le hgl hf4.size
  replace hBz := hBz.fr hf4 hzb
  clear hf4
  replace hB : RepBlk w4 g ⟨v1, v2, (v3 : Nat), zeroId, 0, [], []⟩ none 0 0 none 0 0 := hB
  have Hln : Hid ((idCells x4).length = 32) := idCells_len _
  have Hon : Hid (∀ v ∈ idCells x4, v.oneCell' = true) := bv_one x4.1
  have Hfit := Lib.hid (show 3 + (idCells x4).length ≤ (repCells ⟨v1, v2, (v3 : Nat), zeroId, 0, [], []⟩ none 0 0 none 0 0).toArray.size by rw [List.size_toArray, repCells_len, idCells_len]; omega)
  have hfs := (setRow_fr (ds := ((repCells ⟨v1, v2, (v3 : Nat), zeroId, 0, [], []⟩ none 0 0 none 0 0).toArray.toList.take 3 ++ idCells x4 ++ (repCells ⟨v1, v2, (v3 : Nat), zeroId, 0, [], []⟩ none 0 0 none 0 0).toArray.toList.drop (3 + (idCells x4).length)).toArray) hB.blk).1
  have hBs := hB.sid x4
  have hFs := hF.new hfs fun j hj => .inr (by omega)
  have hRs := hR.fr hfs fun j hj e => by omega
  have hzs := hBz.fr hfs hzg
  have hgs := Nat.lt_of_lt_of_le hgl hfs.size
  go_wp2_with (first | (refine wpList_store_seg rfl 74 (.tmp 29) (.tmp 28) rfl g 3 (idCells x4) rfl rfl 90 _ hB.blk (by rw [Hln.out]; exact id_size) Hfit.out Hon.out ?_; clear hB hF hBz hgl hR; have hB := hBs; have hF := hFs; have hBz := hzs; have hgl := hgs; have hR := hRs; clear hBs hFs hRs hzs hgs hfs Hfit Hon Hln; generalize hws : w4.setRow g _ = w4s at hB hF hBz hgl hR ⊢; clear hws))
  obtain ⟨v5, r5, e5⟩ : ∃ v r', Rd.N r4 18446744073709551615 = (v, r') := ⟨_, _, rfl⟩
  have hv5 : v5 ≤ 18446744073709551615 := by have := Rd.N_le r4 18446744073709551615; rw [e5] at this; exact this
  have hn5 : r5.l.length ≤ 70368744177664 := by have := Rd.N_len r4 18446744073709551615; rw [e5] at this; exact Nat.le_trans this hn4
  have hcall := WN_lit hR 18446744073709551615 18446744073709551615 (by simp)
  rw [e5] at hcall
  have E5 := Lib.hid e5
  have Hcall := Lib.hid hcall
  clear e5 hR hcall
  go_wp2_with fail
  refine Hcall.out.mono ?_
  rintro e w5 ⟨rfl, hf5, hR⟩
  clear Hcall
  replace hB := hB.fr hf5 hgb
  replace hF := hF.new hf5 fun j hj => .inr (by omega)
  replace hgl := Nat.lt_of_lt_of_le hgl hf5.size
  replace hBz := hBz.fr hf5 hzb
  clear hf5
  have qc5 := hB.c35
  have qf5 := hB.blk.frozen 35
  have hfs : Fr (· = g) w5 (w5.setCell ⟨g, 35, none⟩ (.int .u64 v5)) := (Fr.refl _ _).at_ _ _
  replace hB := hB.s35 v5
  replace hF := hF.new hfs fun j hj => .inr (by omega)
  replace hgl : g < (w5.setCell ⟨g, 35, none⟩ (.int .u64 v5)).heap.size := Nat.lt_of_lt_of_le hgl hfs.size
  replace hBz := hBz.fr hfs hzg
  replace hR := hR.fr hfs fun j hj e => by omega
  clear hfs
  obtain ⟨l6, r6, e6⟩ : ∃ v r', Rd.Text r5 110000 = (v, r') := ⟨_, _, rfl⟩
  have hn6 : r6.l.length ≤ 70368744177664 := by have := Rd.Text_l r5 110000; rw [e6] at this; exact Nat.le_trans this hn5
  have hl6 : l6.length ≤ 110000 := by have := Rd.Text_le r5 110000 110000 (by omega); rw [e6] at this; exact this
  have hcall := RText_any _ _ _ _ 110000 hR (by omega) (by omega) hn5
  rw [e6] at hcall
  unfold ReadBytes at hcall
  dsimp only at hcall
  have E6 := Lib.hid e6
  have Hcall := Lib.hid hcall
  clear e6 hR hcall
  go_wp2_with fail
  refine Hcall.out.mono ?_
  rintro e w6 ⟨A6, c6, rfl, hf6, hR, hO6, hin6⟩
  clear Hcall
  have hbody : Byt w6 (fun j => g < j ∧ j < w6.heap.size) A6 l6.length l6 := hO6.arr fun j hj1 hj => ⟨Nat.lt_of_lt_of_le hgl (hin6 j hj), hj1⟩
  have hlc6 := hO6.le
  have hcm6 := hO6.cap
  replace hB := hB.fr hf6 hgb
  replace hF := hF.new hf6 fun j hj => .inr (by omega)
  replace hgl := Nat.lt_of_lt_of_le hgl hf6.size
  replace hBz := hBz.fr hf6 hzb
  clear hf6
  have qc6 := hB.c36
  have qf6 := hB.blk.frozen 36
  have hfs : Fr (· = g) w6 (w6.setCell ⟨g, 36, none⟩ (.slice A6 l6.length c6)) := (Fr.refl _ _).at_ _ _
  replace hB := hB.s36 l6 A6 l6.length c6
  replace hF := hF.new hfs fun j hj => .inr (by omega)
  replace hgl : g < (w6.setCell ⟨g, 36, none⟩ (.slice A6 l6.length c6)).heap.size := Nat.lt_of_lt_of_le hgl hfs.size
  replace hBz := hBz.fr hfs hzg
  replace hR := hR.fr hfs fun j hj e => by omega
  clear hfs
  replace hbody := hbody.fr (S := (· = g)) (w' := w6.setCell ⟨g, 36, none⟩ (.slice A6 l6.length c6)) ((Fr.refl _ _).at_ _ _) fun j hj e => by omega
  obtain ⟨v7, r7, e7⟩ : ∃ v r', Rd.N r6 1000 = (v, r') := ⟨_, _, rfl⟩
  have hv7 : v7 ≤ 1000 := by have := Rd.N_le r6 1000; rw [e7] at this; exact this
  have hn7 : r7.l.length ≤ 70368744177664 := by have := Rd.N_len r6 1000; rw [e7] at this; exact Nat.le_trans this hn6
  have hcall := WN_lit hR 1000 1000 (by simp)
  rw [e7] at hcall
  have E7 := Lib.hid e7
  have Hcall := Lib.hid hcall
  clear e7 hR hcall
  go_wp2_with fail
  go_step3
  go_wp2_with fail
  refine Hcall.out.mono ?_
  rintro e w7 ⟨rfl, hf7, hR⟩
  clear Hcall
  replace hB : RepBlk w7 g ⟨v1, v2, (v3 : Nat), x4, v5, l6, []⟩ A6 l6.length c6 none 0 0 := hB.fr hf7 hgb
  replace hF := hF.new hf7 fun j hj => .inr (by omega)
  have s7 := hf7.size
  simp only [World.setCell, Array.size_modify] at s7
  have hgl7 := Nat.lt_of_lt_of_le hgl hf7.size
  replace hBz := hBz.fr hf7 hzb
  replace hbody := hbody.fr hf7 fun j hj e => by have := hR.1; omega
  have hst : Hid (repParse ⟨t, true⟩ = (⟨v1, v2, (v3 : Nat), x4, v5, l6, (namesGo v7 r7).1⟩, (namesGo v7 r7).2)) := repParse_eq (Hr0.out ▸ E1.out) E2.out E3.out E4.out Hx4.out E5.out E6.out E7.out
  have hbb : b < g := by have := hR.1; omega
  clear hf7 hgl qc2 qc3 qc5 qc6 qf2 qf3 qf5 qf6
  obtain ⟨Kb, hKb⟩ : ∃ Kb, Kb = w7.heap.size := ⟨_, rfl⟩
  have hKb1 : Kb ≤ w7.heap.size := by omega
  rw [← hKb] at hgl7
  replace hbody : Byt w7 (fun j => g < j ∧ j < Kb) A6 l6.length l6 := hbody.more fun j _ hj => ⟨hj.1, by omega⟩
  clear hKb
  have hcv1 : (v1 : Nat) < 4294967296 := by omega
  obtain ⟨w8, rfl⟩ : ∃ w8 : World, w8 = w7 := ⟨_, rfl⟩
  have H38z : Hid ((repCells zeroRep none 0 0 none 0 0).toArray.size = 38) := by show _ = _; rw [List.size_toArray, repCells_len]
  have Honez : Hid ((repCells zeroRep none 0 0 none 0 0).toArray.all (·.oneCell') = true) := repCells_ones _ _ _ _ _ _ _
  obtain ⟨zc, hzc⟩ : ∃ zc, zc = repCells zeroRep none 0 0 none 0 0 := ⟨_, rfl⟩
  rw [← hzc] at H38z Honez
  have Hzc := Lib.hid hzc
  have hIs : repIs (x :: t) = decide (Rd.End (namesGo v7 r7).2 = 0) := by simp [repIs, Hx.out, hst.out]
  have hOf : repIs (x :: t) = true → repOf (x :: t) = ⟨v1, v2, (v3 : Nat), x4, v5, l6, (namesGo v7 r7).1⟩ := fun h => by rw [repOf, if_pos h, List.tail_cons, hst.out]
  have hOf0 : repIs (x :: t) = false → repOf (x :: t) = zeroRep := fun h => by rw [repOf, h]; rfl
  have hBad : repBad (x :: t) = if repIs (x :: t) = true then 0 else 180 := rfl
  have HIs := Lib.hid hIs
  have HOf := Lib.hid hOf
  have HOf0 := Lib.hid hOf0
  have HBad := Lib.hid hBad
  clear hzc hIs hOf hOf0 hBad hst
  go_wp2
  go_loopw [7] (fun s wr => ∃ (pre : List ByteArray) (r' : Rd) (k p c : Nat) (A : Option Addr), s = .int .u64 (k : Nat) ∧ k + p = v7 ∧ p = pre.length ∧ (namesGo v7 r7).1 = pre ++ (namesGo k r').1 ∧ (namesGo v7 r7).2 = (namesGo k r').2 ∧ r'.l.length ≤ 70368744177664 ∧ RdAt wr (fun j => w.heap.size < j ∧ j < K) b r' ∧ RepBlk wr g ⟨v1, v2, (v3 : Nat), x4, v5, l6, pre⟩ A6 l6.length c6 A p c ∧ Own wr 9 1 A p c (pre.map Value.string) ∧ (∀ j, inB A j → Kb ≤ j) ∧ Byt wr (fun j => g < j ∧ j < Kb) A6 l6.length l6 ∧ Blk wr w.heap.size 90 z ∧ Fr NoB w wr ∧ Kb ≤ wr.heap.size) (fun s _ => (intOf s).toNat)
  case atStart => exact ⟨[], r7, v7, 0, 0, none, rfl, by omega, rfl, by simp, rfl, hn7, hR, hB, Own.nil _ _ _, fun j hj => absurd hj (inB_none j), hbody, hBz, hF, hKb1⟩
  case round =>
    obtain ⟨pre, r', k, p, c, A, rfl, hkp, hp, hz1, hz2, hrl, hR, hB, hO, hA, hbody, hBz, hF, hKw8⟩ := hrel
    obtain ⟨w9, rfl⟩ : ∃ w9 : World, w9 = wr := ⟨_, rfl⟩
    have Hp := Lib.hid hp
    have Hz1 := Lib.hid hz1
    have Hz2 := Lib.hid hz2
    clear hp hz1 hz2
    have hblt := hR.lt
    by_cases hk0 : k = 0
    · subst hk0
      have hall : (namesGo v7 r7).1 = pre := by rw [Hz1.out]; simp [namesGo]
      have hlast : (namesGo v7 r7).2 = r' := by rw [Hz2.out]; rfl
      have hend := Lib.hid (REnd_any _ _ _ _ hR)
      by_cases hev : Rd.End r' = 0
      · have his : repIs (x :: t) = true := by rw [HIs.out, hlast]; simpa using hev
        have He1 := Lib.hid (HOf.out his)
        have He2 := Lib.hid (show repBad (x :: t) = 0 by rw [HBad.out, his]; rfl)
        have hsz : ∀ s ∈ pre, s.size ≤ maxLen := fun s hs => Nat.le_trans (namesGo_size v7 r7 s (by rw [hall]; exact hs)) (by simp [maxLen])
        have Hall := Lib.hid hall
        have be : (Rd.End r' != 0) = false := by simpa using hev
        have hQ : RepR w9 (fun j => g < j) (repCells ⟨v1, v2, (v3 : Nat), x4, v5, l6, pre⟩ A6 l6.length c6 A p c) ⟨v1, v2, (v3 : Nat), x4, v5, l6, pre⟩ := ⟨A6, l6.length, c6, A, p, c, rfl, hlc6, hcm6, hbody.more (fun j _ hj => hj.1), hO.le, hO.cap, hO.arr (fun j _ hj => by have := hA j hj; show g < j; omega), ⟨by dsimp only; omega, by dsimp only; omega, by dsimp only; omega, by dsimp only; omega, by dsimp only; omega, hsz⟩⟩
        generalize hqq : (⟨v1, v2, (v3 : Nat), x4, v5, l6, pre⟩ : Rep) = q at hB hQ
        have Hqq := Lib.hid hqq
        have H38 : Hid ((repCells q A6 l6.length c6 A p c).length = 38) := repCells_len _ _ _ _ _ _ _
        have H38q : Hid ((repCells q A6 l6.length c6 A p c).toArray.size = 38) := by show _ = _; rw [List.size_toArray, repCells_len]
        have Honeq : Hid ((repCells q A6 l6.length c6 A p c).toArray.all (·.oneCell') = true) := repCells_ones _ _ _ _ _ _ _
        clear his hlast hall hev hsz hqq hbody hO
        go_wp2_with (first
          | (go_at_call 29; refine hend.out.mono ?_; rintro e w' ⟨rfl, rfl⟩)
          | (refine wpList_load_agg rfl 90 (.tmp 6) rfl g 0 rfl _ _ hB.all Try.underlying90 rfl (by rw [H38.out]; exact rep_size) ?_)
          | (refine wpList_store_row rfl 90 (.tmp 2) (.tmp 59) rfl w.heap.size (repCells q A6 l6.length c6 A p c).toArray rfl rfl 90 z hBz (by rw [H38q.out]; exact rep_size) (by rw [Hz.out, H38q.out]) Honeq.out ?_))
        obtain ⟨hft, hBt⟩ := setRow_fr (ds := (repCells q A6 l6.length c6 A p c).toArray) hBz
        rw [Exit.noGoto_ret]
        refine bodyPost_ret (results_cell2 (cs := repCells q A6 l6.length c6 A p c) rfl rfl (fun j v hv => by rw [Nat.zero_add, hBt.cell]; simpa using hv) Try.underlying90 rfl (by rw [H38.out]; exact rep_size)) rfl ?_
        rw [He1.out, He2.out, Hall.out, Hqq.out]
        have hQ2 := hQ.fr hft fun j hj e => by omega
        obtain ⟨a1, a2, a3, a4, a5, a6, k1, k2, k3, k4, k5, k6, k7, k8⟩ := hQ2
        exact ⟨_, rfl, hF.new hft fun j hj => .inr (by omega), a1, a2, a3, a4, a5, a6, k1, k2, k3, k4.more fun j _ hj => by omega, k5, k6, Arr.more k7 (fun j _ hj => by omega) (by omega), k8⟩
      · have his : repIs (x :: t) = false := by rw [HIs.out]; simpa using (by rw [hlast]; exact hev)
        have He1 := Lib.hid (HOf0.out his)
        have He2 := Lib.hid (show repBad (x :: t) = 180 by rw [HBad.out, his]; rfl)
        clear his
        have be : (Rd.End r' != 0) = true := by simpa using hev
        clear hev hlast hall
        go_wp2_with (first
          | (go_at_call 29; refine hend.out.mono ?_; rintro e w' ⟨rfl, rfl⟩)
          | (refine wpList_build_eq rfl 90 #[] rfl [] rfl zc.toArray (by rw [Hzc.out]; exact zeroRep_built) ?_)
          | (refine wpList_store_row rfl 90 (.tmp 2) (.tmp 58) rfl w.heap.size zc.toArray rfl rfl 90 z hBz (by rw [H38z.out]; exact rep_size) (by rw [Hz.out, H38z.out]) Honez.out ?_))
        obtain ⟨hft, hBt⟩ := setRow_fr (ds := zc.toArray) hBz
        rw [Exit.noGoto_ret]
        refine bodyPost_ret (results_cell2 (cs := zc) rfl rfl (fun j v hv => by rw [Nat.zero_add, hBt.cell]; simpa using hv) Try.underlying90 rfl (by have h := H38z.out; simp at h; rw [h]; exact rep_size)) rfl ?_
        rw [He1.out, He2.out]
        have hgz := GotRep.zero (G := (fun k => w.heap.size ≤ k)) (hF.new hft fun j hj => .inr (by omega))
        rw [← Hzc.out] at hgz
        exact hgz
    · by_cases hrs : r'.Rest = 0
      · have hbad := namesGo_rest hrs (show 0 < k by omega)
        have hraw : r'.Raw 1 = ([], Rd.bad) := by
          unfold Rd.Raw
          rw [if_neg]
          rintro ⟨h1, h2, h3⟩
          rw [Rd.Rest, if_pos h1] at hrs
          omega
        have hcall := RRaw_any _ _ _ _ 1 hR (by omega) (by omega) hrl
        rw [hraw] at hcall
        unfold ReadBytes at hcall
        dsimp only at hcall
        have Hcall := Lib.hid hcall
        have hrest := Lib.hid (RRest_any _ _ _ _ hR)
        have hk1 : (0 : Int) < (k : Int) := by omega
        have br : (((r'.Rest : Nat) : Int) == 0) = true := by simp [hrs]
        have his : repIs (x :: t) = false := by rw [HIs.out]; simpa using (by rw [Hz2.out]; exact End_bad hbad)
        have He1 := Lib.hid (HOf0.out his)
        have He2 := Lib.hid (show repBad (x :: t) = 180 by rw [HBad.out, his]; rfl)
        clear his
        clear hcall hbad hraw hrs
        go_wp2_with (first
          | (go_at_call 43; refine hrest.out.mono ?_; rintro e w' ⟨rfl, rfl⟩)
          | (go_at_call 36; refine Hcall.out.mono ?_; rintro e w10 ⟨A10, c10, rfl, hf10, hR10, _, _⟩; have hBz' := hBz.fr hf10 hzb; have hend := Lib.hid (REnd_any _ _ _ _ hR10); have hF10 := hF.new hf10 fun j hj => .inr (by omega))
          | (go_at_call 29; refine hend.out.mono ?_; rintro e w' ⟨rfl, rfl⟩)
          | (refine wpList_build_eq rfl 90 #[] rfl [] rfl zc.toArray (by rw [Hzc.out]; exact zeroRep_built) ?_)
          | (refine wpList_store_row rfl 90 (.tmp 2) (.tmp 58) rfl w.heap.size zc.toArray rfl rfl 90 z hBz' (by rw [H38z.out]; exact rep_size) (by rw [Hz.out, H38z.out]) Honez.out ?_))
        obtain ⟨hft, hBt⟩ := setRow_fr (ds := zc.toArray) hBz'
        rw [Exit.noGoto_ret]
        refine bodyPost_ret (results_cell2 (cs := zc) rfl rfl (fun j v hv => by rw [Nat.zero_add, hBt.cell]; simpa using hv) Try.underlying90 rfl (by have h := H38z.out; simp at h; rw [h]; exact rep_size)) rfl ?_
        rw [He1.out, He2.out]
        have hgz := GotRep.zero (G := (fun k => w.heap.size ≤ k)) (hF10.new hft fun j hj => .inr (by omega))
        rw [← Hzc.out] at hgz
        exact hgz
      · have hk1 : (0 : Int) < (k : Int) := by omega
        have br : (((r'.Rest : Nat) : Int) == 0) = false := by simp; omega
        clear hrs hk0
        obtain ⟨k, rfl⟩ : ∃ k0, k = k0 + 1 := ⟨k - 1, by omega⟩
        have hlt := Rd.Text_l r' 64
        have hle := Rd.Text_le r' 64 64 (by omega)
        have hz1 := Hz1.out
        have hz2 := Hz2.out
        rw [namesGo] at hz1 hz2
        generalize hq : Rd.Text r' 64 = q at hz1 hz2 hlt hle
        obtain ⟨lt, rt⟩ := q
        dsimp only at hz1 hz2 hlt hle
        have Hq := Lib.hid hq
        have Hy1 := Lib.hid hz1
        have Hy2 := Lib.hid hz2
        clear hq hz1 hz2
        have hR9 := hR.fr (Fr.drew (Fr.refl NoB w9)) fun _ _ => id
        have hcall := RText_any _ _ _ _ 64 hR9 (by omega) (by omega) hrl
        rw [Hq.out] at hcall
        unfold ReadBytes at hcall
        dsimp only at hcall
        have Hcall := Lib.hid hcall
        clear hcall
        have hrest := Lib.hid (RRest_any _ _ _ _ hR)
        go_wp2_with (go_at_call 43; refine hrest.out.mono ?_; rintro e w' ⟨rfl, rfl⟩)
        refine wp_region_held (S := fun _ => True) rfl ?_
        refine wpAnyH_take (i := 0) rfl (by decide +kernel) (by decide +kernel) (by decide +kernel) (fun _ _ _ h => h) (Or.inl ⟨by kernel_rfl, fun W _ => by go_simp; with_reducible rfl⟩) trivial ?_
        refine wpAnyH_take (i := 2) rfl (by decide +kernel) (by decide +kernel) (by decide +kernel) (fun _ _ _ h => h) (Or.inl ⟨by kernel_rfl, fun W _ => by go_simp; with_reducible rfl⟩) trivial ?_
        go_simp
        have hB9 := hB.fr (Fr.drew (Fr.refl NoB w9)) id
        have hO9 := hO.fr (Fr.drew (Fr.refl NoB w9)) fun _ _ => id
        clear hB hO
        refine wpAnyH_all (rs := [1, 3]) (by decide +kernel) (by simp) ?_
        intro i hi
        simp only [List.mem_cons, List.not_mem_nil, or_false] at hi
        rcases hi with rfl | rfl
        · have qx := hB9.c37
          refine wpOp_run (v := .slice A p c) (w' := w9.drew) rfl (by kernel_rfl) (by go_simp) ⟨trivial, ?_⟩
          clear qx
          go_simp
          refine wpAnyH_all (rs := [3]) (by decide +kernel) (by simp) ?_
          intro i hi
          simp only [List.mem_cons, List.not_mem_nil, or_false] at hi
          subst hi
          refine wpOp_call rfl rfl 38 (enters_of Try.func38 (by kernel_rfl) rfl) #[.tmp 49, .const (.int .i64 64)] _ rfl _ rfl Hcall.out ?_
          rintro e wt ⟨At, ct, rfl, hft, hRt, hOt, hint⟩
          refine ⟨_, rfl, trivial, ?_⟩
          replace hB9 := hB9.fr hft hgb
          replace hO9 := hO9.fr hft (fun j hj e => by have := hA j hj; omega)
          have hcvt := Byt.str (F := fun _ => True) (hOt.arr fun _ _ _ => trivial) (P := Try.prog) Try.underlying22 Try.underlying5 Try.underlying9 ct
          go_simp
          refine wpAnyH_all (rs := [4]) (by decide +kernel) (by simp) ?_
          intro i hi
          simp only [List.mem_cons, List.not_mem_nil, or_false] at hi
          subst hi
          refine wpOp_run (v := .string ⟨lt.toArray⟩) (w' := wt) rfl (by kernel_rfl) (by go_simp) ⟨trivial, ?_⟩
          go_simp
          refine wpAnyH_all (rs := [5]) (by decide +kernel) (by simp) ?_
          intro i hi
          simp only [List.mem_cons, List.not_mem_nil, or_false] at hi
          subst hi
          refine wpOp_run (v := .slice (some ⟨wt.heap.size, 0, none⟩) 1 1) (w' := wt.alloc (.cells #[.string ⟨lt.toArray⟩] 9)) rfl (by kernel_rfl) (by go_simp) ⟨trivial, ?_⟩
          replace hB9 := hB9.fr ((Fr.refl NoB wt).alloc (.cells #[.string ⟨lt.toArray⟩] 9)) id
          replace hO9 := hO9.alloc (.cells #[.string ⟨lt.toArray⟩] 9)
          go_simp
          refine wpAnyH_all (rs := [6]) (by decide +kernel) (by simp) ?_
          intro i hi
          simp only [List.mem_cons, List.not_mem_nil, or_false] at hi
          subst hi
          refine wpOp_app el_str rfl (by kernel_rfl) (.tmp 48) (.tmp 52) rfl A p c _ rfl hO9 _ _ 1 1 _ rfl (Arr.one _ _ _) (by simp [Value.oneCell']) (by omega) ?_
          intro A2 c2 wa hOa hfa hina
          have hga : ¬ inB A g := fun h => by have := hA g h; omega
          have hBa := hB9.fr hfa hga
          refine ⟨trivial, ?_⟩
          go_simp
          refine wpAnyH_all (rs := [7]) (by decide +kernel) (by simp) ?_
          intro i hi
          simp only [List.mem_cons, List.not_mem_nil, or_false] at hi
          subst hi
          refine wpOp_run (v := .pointer (some ⟨g, 37, none⟩)) (w' := wa) rfl (by kernel_rfl) (by go_simp) ⟨trivial, ?_⟩
          go_simp
          refine wpAnyH_all (rs := [8]) (by decide +kernel) (by simp) ?_
          intro i hi
          simp only [List.mem_cons, List.not_mem_nil, or_false] at hi
          subst hi
          have qx := hBa.c37
          have qy := hBa.blk.frozen 37
          refine wpOp_skip (w' := wa.setCell ⟨g, 37, none⟩ (.slice A2 (p + 1) c2)) rfl (by kernel_rfl) (by go_simp) ⟨trivial, ?_⟩
          clear qx qy
          go_simp
          refine wpAnyH_done (by decide +kernel) ?_ _
          have hsz1 := hft.size
          have hsz2 := hfa.size
          simp only [World.size_alloc] at hsz2
          have hsz0 : w9.drew.heap.size = w9.heap.size := rfl
          have hfg : Fr (· = g) wa (wa.setCell ⟨g, 37, none⟩ (.slice A2 (p + 1) c2)) := (Fr.refl _ _).at_ _ _
          have hfT : Fr (fun j => j = b ∨ j = g ∨ inB A j) w9 (wa.setCell ⟨g, 37, none⟩ (.slice A2 (p + 1) c2)) := ((((Fr.drew (Fr.refl (fun j => j = b ∨ j = g ∨ inB A j) w9)).trans hft fun _ _ h => .inl h).alloc (.cells #[.string ⟨lt.toArray⟩] 9)).trans hfa fun _ _ h => .inr (.inr h)).trans hfg fun _ _ h => .inr (.inl h)
          have hina2 : ∀ j, inB A2 j → Kb ≤ j := fun j hj => (hina j hj).elim (hA j) fun h => by simp only [World.size_alloc] at h; omega
          have hgA2 : ¬ inB A2 g := fun h => by have := hina2 g h; omega
          have hR2 := (((hRt.fr ((Fr.refl NoB wt).alloc (.cells #[.string ⟨lt.toArray⟩] 9)) fun _ _ => id).fr hfa fun j hj h => by have := hA j h; omega).fr hfg fun j hj h => by omega)
          have hb2 := hbody.fr hfT (fun j hj h => by rcases h with h | h | h; omega; omega; (have := hA j h; omega))
          have hz2 := hBz.fr hfT (by rintro (h | h | h); exact hzb h; exact hzg h; (have := hA _ h; omega))
          have hF2 := hF.new hfT fun j hj => .inr (by rcases hj with h | h | h; omega; omega; (have := hA j h; omega))
          have hB2 := hBa.s37 (pre ++ [⟨lt.toArray⟩]) A2 (p + 1) c2
          have hO2 : Own (wa.setCell ⟨g, 37, none⟩ (.slice A2 (p + 1) c2)) 9 1 A2 (p + 1) c2 ((pre ++ [(⟨lt.toArray⟩ : ByteArray)]).map Value.string) := by
            rw [List.map_append]
            exact hOa.set_ hgA2 _ _
          clear hBa hOa hfg hB9
          go_wp2
          go_roundw
          case rel => exact ⟨pre ++ [⟨lt.toArray⟩], rt, k, p + 1, c2, A2, by go_num, by omega, by rw [List.length_append, ← Hp.out]; rfl, by rw [Hy1.out]; simp, Hy2.out, by omega, hR2, hB2, hO2, hina2, hb2, hz2, hF2, by have := hfT.size; omega⟩
          case measure => (simp [intOf] <;> omega)
        · refine wpOp_call rfl rfl 38 (enters_of Try.func38 (by kernel_rfl) rfl) #[.tmp 49, .const (.int .i64 64)] _ rfl _ rfl Hcall.out ?_
          rintro e wt ⟨At, ct, rfl, hft, hRt, hOt, hint⟩
          refine ⟨_, rfl, trivial, ?_⟩
          replace hB9 := hB9.fr hft hgb
          replace hO9 := hO9.fr hft (fun j hj e => by have := hA j hj; omega)
          have hcvt := Byt.str (F := fun _ => True) (hOt.arr fun _ _ _ => trivial) (P := Try.prog) Try.underlying22 Try.underlying5 Try.underlying9 ct
          go_simp
          refine wpAnyH_all (rs := [1, 4]) (by decide +kernel) (by simp) ?_
          intro i hi
          simp only [List.mem_cons, List.not_mem_nil, or_false] at hi
          rcases hi with rfl | rfl
          · have qx := hB9.c37
            refine wpOp_run (v := .slice A p c) (w' := wt) rfl (by kernel_rfl) (by go_simp) ⟨trivial, ?_⟩
            clear qx
            go_simp
            refine wpAnyH_all (rs := [4]) (by decide +kernel) (by simp) ?_
            intro i hi
            simp only [List.mem_cons, List.not_mem_nil, or_false] at hi
            subst hi
            refine wpOp_run (v := .string ⟨lt.toArray⟩) (w' := wt) rfl (by kernel_rfl) (by go_simp) ⟨trivial, ?_⟩
            go_simp
            refine wpAnyH_all (rs := [5]) (by decide +kernel) (by simp) ?_
            intro i hi
            simp only [List.mem_cons, List.not_mem_nil, or_false] at hi
            subst hi
            refine wpOp_run (v := .slice (some ⟨wt.heap.size, 0, none⟩) 1 1) (w' := wt.alloc (.cells #[.string ⟨lt.toArray⟩] 9)) rfl (by kernel_rfl) (by go_simp) ⟨trivial, ?_⟩
            replace hB9 := hB9.fr ((Fr.refl NoB wt).alloc (.cells #[.string ⟨lt.toArray⟩] 9)) id
            replace hO9 := hO9.alloc (.cells #[.string ⟨lt.toArray⟩] 9)
            go_simp
            refine wpAnyH_all (rs := [6]) (by decide +kernel) (by simp) ?_
            intro i hi
            simp only [List.mem_cons, List.not_mem_nil, or_false] at hi
            subst hi
            refine wpOp_app el_str rfl (by kernel_rfl) (.tmp 48) (.tmp 52) rfl A p c _ rfl hO9 _ _ 1 1 _ rfl (Arr.one _ _ _) (by simp [Value.oneCell']) (by omega) ?_
            intro A2 c2 wa hOa hfa hina
            have hga : ¬ inB A g := fun h => by have := hA g h; omega
            have hBa := hB9.fr hfa hga
            refine ⟨trivial, ?_⟩
            go_simp
            refine wpAnyH_all (rs := [7]) (by decide +kernel) (by simp) ?_
            intro i hi
            simp only [List.mem_cons, List.not_mem_nil, or_false] at hi
            subst hi
            refine wpOp_run (v := .pointer (some ⟨g, 37, none⟩)) (w' := wa) rfl (by kernel_rfl) (by go_simp) ⟨trivial, ?_⟩
            go_simp
            refine wpAnyH_all (rs := [8]) (by decide +kernel) (by simp) ?_
            intro i hi
            simp only [List.mem_cons, List.not_mem_nil, or_false] at hi
            subst hi
            have qx := hBa.c37
            have qy := hBa.blk.frozen 37
            refine wpOp_skip (w' := wa.setCell ⟨g, 37, none⟩ (.slice A2 (p + 1) c2)) rfl (by kernel_rfl) (by go_simp) ⟨trivial, ?_⟩
            clear qx qy
            go_simp
            refine wpAnyH_done (by decide +kernel) ?_ _
            have hsz1 := hft.size
            have hsz2 := hfa.size
            simp only [World.size_alloc] at hsz2
            have hsz0 : w9.drew.heap.size = w9.heap.size := rfl
            have hfg : Fr (· = g) wa (wa.setCell ⟨g, 37, none⟩ (.slice A2 (p + 1) c2)) := (Fr.refl _ _).at_ _ _
            have hfT : Fr (fun j => j = b ∨ j = g ∨ inB A j) w9 (wa.setCell ⟨g, 37, none⟩ (.slice A2 (p + 1) c2)) := ((((Fr.drew (Fr.refl (fun j => j = b ∨ j = g ∨ inB A j) w9)).trans hft fun _ _ h => .inl h).alloc (.cells #[.string ⟨lt.toArray⟩] 9)).trans hfa fun _ _ h => .inr (.inr h)).trans hfg fun _ _ h => .inr (.inl h)
            have hina2 : ∀ j, inB A2 j → Kb ≤ j := fun j hj => (hina j hj).elim (hA j) fun h => by simp only [World.size_alloc] at h; omega
            have hgA2 : ¬ inB A2 g := fun h => by have := hina2 g h; omega
            have hR2 := (((hRt.fr ((Fr.refl NoB wt).alloc (.cells #[.string ⟨lt.toArray⟩] 9)) fun _ _ => id).fr hfa fun j hj h => by have := hA j h; omega).fr hfg fun j hj h => by omega)
            have hb2 := hbody.fr hfT (fun j hj h => by rcases h with h | h | h; omega; omega; (have := hA j h; omega))
            have hz2 := hBz.fr hfT (by rintro (h | h | h); exact hzb h; exact hzg h; (have := hA _ h; omega))
            have hF2 := hF.new hfT fun j hj => .inr (by rcases hj with h | h | h; omega; omega; (have := hA j h; omega))
            have hB2 := hBa.s37 (pre ++ [⟨lt.toArray⟩]) A2 (p + 1) c2
            have hO2 : Own (wa.setCell ⟨g, 37, none⟩ (.slice A2 (p + 1) c2)) 9 1 A2 (p + 1) c2 ((pre ++ [(⟨lt.toArray⟩ : ByteArray)]).map Value.string) := by
              rw [List.map_append]
              exact hOa.set_ hgA2 _ _
            clear hBa hOa hfg hB9
            go_wp2
            go_roundw
            case rel => exact ⟨pre ++ [⟨lt.toArray⟩], rt, k, p + 1, c2, A2, by go_num, by omega, by rw [List.length_append, ← Hp.out]; rfl, by rw [Hy1.out]; simp, Hy2.out, by omega, hR2, hB2, hO2, hina2, hb2, hz2, hF2, by have := hfT.size; omega⟩
            case measure => (simp [intOf] <;> omega)
          · refine wpOp_run (v := .string ⟨lt.toArray⟩) (w' := wt) rfl (by kernel_rfl) (by go_simp) ⟨trivial, ?_⟩
            go_simp
            refine wpAnyH_all (rs := [1, 5]) (by decide +kernel) (by simp) ?_
            intro i hi
            simp only [List.mem_cons, List.not_mem_nil, or_false] at hi
            rcases hi with rfl | rfl
            · have qx := hB9.c37
              refine wpOp_run (v := .slice A p c) (w' := wt) rfl (by kernel_rfl) (by go_simp) ⟨trivial, ?_⟩
              clear qx
              go_simp
              refine wpAnyH_all (rs := [5]) (by decide +kernel) (by simp) ?_
              intro i hi
              simp only [List.mem_cons, List.not_mem_nil, or_false] at hi
              subst hi
              refine wpOp_run (v := .slice (some ⟨wt.heap.size, 0, none⟩) 1 1) (w' := wt.alloc (.cells #[.string ⟨lt.toArray⟩] 9)) rfl (by kernel_rfl) (by go_simp) ⟨trivial, ?_⟩
              replace hB9 := hB9.fr ((Fr.refl NoB wt).alloc (.cells #[.string ⟨lt.toArray⟩] 9)) id
              replace hO9 := hO9.alloc (.cells #[.string ⟨lt.toArray⟩] 9)
              go_simp
              refine wpAnyH_all (rs := [6]) (by decide +kernel) (by simp) ?_
              intro i hi
              simp only [List.mem_cons, List.not_mem_nil, or_false] at hi
              subst hi
              refine wpOp_app el_str rfl (by kernel_rfl) (.tmp 48) (.tmp 52) rfl A p c _ rfl hO9 _ _ 1 1 _ rfl (Arr.one _ _ _) (by simp [Value.oneCell']) (by omega) ?_
              intro A2 c2 wa hOa hfa hina
              have hga : ¬ inB A g := fun h => by have := hA g h; omega
              have hBa := hB9.fr hfa hga
              refine ⟨trivial, ?_⟩
              go_simp
              refine wpAnyH_all (rs := [7]) (by decide +kernel) (by simp) ?_
              intro i hi
              simp only [List.mem_cons, List.not_mem_nil, or_false] at hi
              subst hi
              refine wpOp_run (v := .pointer (some ⟨g, 37, none⟩)) (w' := wa) rfl (by kernel_rfl) (by go_simp) ⟨trivial, ?_⟩
              go_simp
              refine wpAnyH_all (rs := [8]) (by decide +kernel) (by simp) ?_
              intro i hi
              simp only [List.mem_cons, List.not_mem_nil, or_false] at hi
              subst hi
              have qx := hBa.c37
              have qy := hBa.blk.frozen 37
              refine wpOp_skip (w' := wa.setCell ⟨g, 37, none⟩ (.slice A2 (p + 1) c2)) rfl (by kernel_rfl) (by go_simp) ⟨trivial, ?_⟩
              clear qx qy
              go_simp
              refine wpAnyH_done (by decide +kernel) ?_ _
              have hsz1 := hft.size
              have hsz2 := hfa.size
              simp only [World.size_alloc] at hsz2
              have hsz0 : w9.drew.heap.size = w9.heap.size := rfl
              have hfg : Fr (· = g) wa (wa.setCell ⟨g, 37, none⟩ (.slice A2 (p + 1) c2)) := (Fr.refl _ _).at_ _ _
              have hfT : Fr (fun j => j = b ∨ j = g ∨ inB A j) w9 (wa.setCell ⟨g, 37, none⟩ (.slice A2 (p + 1) c2)) := ((((Fr.drew (Fr.refl (fun j => j = b ∨ j = g ∨ inB A j) w9)).trans hft fun _ _ h => .inl h).alloc (.cells #[.string ⟨lt.toArray⟩] 9)).trans hfa fun _ _ h => .inr (.inr h)).trans hfg fun _ _ h => .inr (.inl h)
              have hina2 : ∀ j, inB A2 j → Kb ≤ j := fun j hj => (hina j hj).elim (hA j) fun h => by simp only [World.size_alloc] at h; omega
              have hgA2 : ¬ inB A2 g := fun h => by have := hina2 g h; omega
              have hR2 := (((hRt.fr ((Fr.refl NoB wt).alloc (.cells #[.string ⟨lt.toArray⟩] 9)) fun _ _ => id).fr hfa fun j hj h => by have := hA j h; omega).fr hfg fun j hj h => by omega)
              have hb2 := hbody.fr hfT (fun j hj h => by rcases h with h | h | h; omega; omega; (have := hA j h; omega))
              have hz2 := hBz.fr hfT (by rintro (h | h | h); exact hzb h; exact hzg h; (have := hA _ h; omega))
              have hF2 := hF.new hfT fun j hj => .inr (by rcases hj with h | h | h; omega; omega; (have := hA j h; omega))
              have hB2 := hBa.s37 (pre ++ [⟨lt.toArray⟩]) A2 (p + 1) c2
              have hO2 : Own (wa.setCell ⟨g, 37, none⟩ (.slice A2 (p + 1) c2)) 9 1 A2 (p + 1) c2 ((pre ++ [(⟨lt.toArray⟩ : ByteArray)]).map Value.string) := by
                rw [List.map_append]
                exact hOa.set_ hgA2 _ _
              clear hBa hOa hfg hB9
              go_wp2
              go_roundw
              case rel => exact ⟨pre ++ [⟨lt.toArray⟩], rt, k, p + 1, c2, A2, by go_num, by omega, by rw [List.length_append, ← Hp.out]; rfl, by rw [Hy1.out]; simp, Hy2.out, by omega, hR2, hB2, hO2, hina2, hb2, hz2, hF2, by have := hfT.size; omega⟩
              case measure => (simp [intOf] <;> omega)
            · refine wpOp_run (v := .slice (some ⟨wt.heap.size, 0, none⟩) 1 1) (w' := wt.alloc (.cells #[.string ⟨lt.toArray⟩] 9)) rfl (by kernel_rfl) (by go_simp) ⟨trivial, ?_⟩
              replace hB9 := hB9.fr ((Fr.refl NoB wt).alloc (.cells #[.string ⟨lt.toArray⟩] 9)) id
              replace hO9 := hO9.alloc (.cells #[.string ⟨lt.toArray⟩] 9)
              go_simp
              refine wpAnyH_all (rs := [1]) (by decide +kernel) (by simp) ?_
              intro i hi
              simp only [List.mem_cons, List.not_mem_nil, or_false] at hi
              subst hi
              have qx := hB9.c37
              refine wpOp_run (v := .slice A p c) (w' := (wt.alloc (.cells #[.string ⟨lt.toArray⟩] 9))) rfl (by kernel_rfl) (by go_simp) ⟨trivial, ?_⟩
              clear qx
              go_simp
              refine wpAnyH_all (rs := [6]) (by decide +kernel) (by simp) ?_
              intro i hi
              simp only [List.mem_cons, List.not_mem_nil, or_false] at hi
              subst hi
              refine wpOp_app el_str rfl (by kernel_rfl) (.tmp 48) (.tmp 52) rfl A p c _ rfl hO9 _ _ 1 1 _ rfl (Arr.one _ _ _) (by simp [Value.oneCell']) (by omega) ?_
              intro A2 c2 wa hOa hfa hina
              have hga : ¬ inB A g := fun h => by have := hA g h; omega
              have hBa := hB9.fr hfa hga
              refine ⟨trivial, ?_⟩
              go_simp
              refine wpAnyH_all (rs := [7]) (by decide +kernel) (by simp) ?_
              intro i hi
              simp only [List.mem_cons, List.not_mem_nil, or_false] at hi
              subst hi
              refine wpOp_run (v := .pointer (some ⟨g, 37, none⟩)) (w' := wa) rfl (by kernel_rfl) (by go_simp) ⟨trivial, ?_⟩
              go_simp
              refine wpAnyH_all (rs := [8]) (by decide +kernel) (by simp) ?_
              intro i hi
              simp only [List.mem_cons, List.not_mem_nil, or_false] at hi
              subst hi
              have qx := hBa.c37
              have qy := hBa.blk.frozen 37
              refine wpOp_skip (w' := wa.setCell ⟨g, 37, none⟩ (.slice A2 (p + 1) c2)) rfl (by kernel_rfl) (by go_simp) ⟨trivial, ?_⟩
              clear qx qy
              go_simp
              refine wpAnyH_done (by decide +kernel) ?_ _
              have hsz1 := hft.size
              have hsz2 := hfa.size
              simp only [World.size_alloc] at hsz2
              have hsz0 : w9.drew.heap.size = w9.heap.size := rfl
              have hfg : Fr (· = g) wa (wa.setCell ⟨g, 37, none⟩ (.slice A2 (p + 1) c2)) := (Fr.refl _ _).at_ _ _
              have hfT : Fr (fun j => j = b ∨ j = g ∨ inB A j) w9 (wa.setCell ⟨g, 37, none⟩ (.slice A2 (p + 1) c2)) := ((((Fr.drew (Fr.refl (fun j => j = b ∨ j = g ∨ inB A j) w9)).trans hft fun _ _ h => .inl h).alloc (.cells #[.string ⟨lt.toArray⟩] 9)).trans hfa fun _ _ h => .inr (.inr h)).trans hfg fun _ _ h => .inr (.inl h)
              have hina2 : ∀ j, inB A2 j → Kb ≤ j := fun j hj => (hina j hj).elim (hA j) fun h => by simp only [World.size_alloc] at h; omega
              have hgA2 : ¬ inB A2 g := fun h => by have := hina2 g h; omega
              have hR2 := (((hRt.fr ((Fr.refl NoB wt).alloc (.cells #[.string ⟨lt.toArray⟩] 9)) fun _ _ => id).fr hfa fun j hj h => by have := hA j h; omega).fr hfg fun j hj h => by omega)
              have hb2 := hbody.fr hfT (fun j hj h => by rcases h with h | h | h; omega; omega; (have := hA j h; omega))
              have hz2 := hBz.fr hfT (by rintro (h | h | h); exact hzb h; exact hzg h; (have := hA _ h; omega))
              have hF2 := hF.new hfT fun j hj => .inr (by rcases hj with h | h | h; omega; omega; (have := hA j h; omega))
              have hB2 := hBa.s37 (pre ++ [⟨lt.toArray⟩]) A2 (p + 1) c2
              have hO2 : Own (wa.setCell ⟨g, 37, none⟩ (.slice A2 (p + 1) c2)) 9 1 A2 (p + 1) c2 ((pre ++ [(⟨lt.toArray⟩ : ByteArray)]).map Value.string) := by
                rw [List.map_append]
                exact hOa.set_ hgA2 _ _
              clear hBa hOa hfg hB9
              go_wp2
              go_roundw
              case rel => exact ⟨pre ++ [⟨lt.toArray⟩], rt, k, p + 1, c2, A2, by go_num, by omega, by rw [List.length_append, ← Hp.out]; rfl, by rw [Hy1.out]; simp, Hy2.out, by omega, hR2, hB2, hO2, hina2, hb2, hz2, hF2, by have := hfT.size; omega⟩
              case measure => (simp [intOf] <;> omega)
end Go.Proofs.Ytnkfchondedfcaa
