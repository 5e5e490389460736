/-
  The request that bytes are, as the document has it (tabulariumref15.RequestOf). Conditions: each contract states its own.
-/
import Derived.Test.YtnkfchondedfcaaMf
import Derived.Test.YtnkfchondedfcaaMc
namespace Go.Proofs.Ytnkfchondedfcaa
open Go.RowKit

theorem RN_lit {w : World} {G : Nat → Prop} {b : Nat} {r : Rd} (h : RfAt w G b r) (most : Nat) (m : Int) (hm : m = (most : Int)) :
    Calls Try.prog 35 #[.pointer (some ⟨b, 0, none⟩), .int .u64 m] w fun e w' => e = .returned (.int .u64 (r.N most).1) ∧ Fr (· = b) w w' ∧ RfAt w' G b (r.N most).2 := by
  subst hm; exact FN_any w G b r most h
/-- A request and an error's number are handed back; its body lies in blocks of G. -/
def GotReqIn (G : Nat → Prop) (w w' : World) (e : Ending) (r : Req) (bad : Int) : Prop :=
  ∃ y, e = .returned (.tuple #[.agg y.toArray, .int .i64 bad]) ∧ Fr NoB w w' ∧ ReqR w' G y r
theorem GotReqIn.zero {G : Nat → Prop} {w w' : World} (h : Fr NoB w w') : GotReqIn G w w' (.returned (.tuple #[.agg (reqCells zeroReq none 0 0).toArray, .int .i64 180])) zeroReq 180 :=
  ⟨_, rfl, h, none, 0, 0, rfl, Nat.le_refl _, by simp [maxLen], Byt.nil _ _ _, by unfold reqWf; simp [zeroReq, maxLen]; decide⟩

set_option maxRecDepth 100000 in
set_option maxHeartbeats 8000000 in
theorem RequestOf_good (w : World) (F0 : Nat → Prop) (hG0 : ∀ k, F0 k → k < w.heap.size) (A : Option Addr) (n c : Nat) (x : UInt8) (t : List UInt8) (h : Byt w F0 A n (x :: t)) (hnc : n ≤ c) (hcm : c ≤ maxLen) (hn : n ≤ 70368744177664) (hx : x.toNat = 1) :
    Calls Try.prog 52 #[.slice A n c] w fun e w' => GotReqIn F0 w w' e (reqOf (x :: t)) (reqBad (x :: t)) := by
  have hlen := h.len
  have hn0 : (⟨t, true⟩ : Rd).l.length ≤ 70368744177664 := by simp at hlen ⊢; omega
  have hn1' : 1 ≤ n := by simp at hlen; omega
  obtain ⟨r0, hr0⟩ : ∃ r0 : Rd, r0 = ⟨t, true⟩ := ⟨_, rfl⟩
  obtain ⟨sb, so, rfl, hsb, hsc⟩ := h.at_ (k := 0) (by omega)
  rw [List.getElem_cons_zero, hx, Nat.add_zero] at hsc
  have hcell : ∀ z, (w.alloc (.cells z 76)).cell? ⟨sb, so, none⟩ = some (.int .u8 1) := fun z => ((Fr.refl NoB w).alloc _).cell' hsc id
  clear hsc
  have hR0 : ∀ z, RfAt ((w.alloc (.cells z 76)).alloc (.cells #[.slice (slA (some ⟨sb, so, none⟩) 1 c 1) (n - 1) (c - 1), .bool false] 59)) F0 (w.heap.size + 1) r0 := fun z =>
    ⟨fun hh => by have := hG0 _ hh; omega, by rw [hr0]; simp, slA (some ⟨sb, so, none⟩) 1 c 1, n - 1, c - 1, by rw [hr0]; simpa using Blk.new (w.alloc (.cells z 76)) 59 #[.slice (slA (some ⟨sb, so, none⟩) 1 c 1) (n - 1) (c - 1), .bool false], by omega, by omega, by
      rw [hr0]
      have := ((h.alloc (.cells z 76)).alloc (.cells #[.slice (slA (some ⟨sb, so, none⟩) 1 c 1) (n - 1) (c - 1), .bool false] 59)).cut (k := 1) (cap := c) hn1' hnc
      simpa using this⟩
  rw [← hr0] at hn0
  have Hr0 := Lib.hid hr0
  have Hx := Lib.hid hx
  have HR0 := Lib.hid hR0
  have Hcell := Lib.hid hcell
  have hb1 : ((n : Int) == 0) = false := by simp; omega
  clear hr0 hlen hR0 hcell hx
  go_enter Try.func52, Try.ntmps52
  go_wp2_with (first
    | (refine wpList_alloc_any rfl 76 rfl 71 req_zero ?_; intro z hz; have Hz := Lib.hid hz; clear hz; have hsc := Hcell.out z))
  have hR := HR0.out z
  obtain ⟨b, hb⟩ : ∃ b, b = w.heap.size + 1 := ⟨_, rfl⟩
  obtain ⟨w0, hw0⟩ : ∃ w0, w0 = (w.alloc (.cells z 76)).alloc (.cells #[.slice (slA (some ⟨sb, so, none⟩) 1 c 1) (n - 1) (c - 1), .bool false] 59) := ⟨_, rfl⟩
  have hF : Fr NoB w w0 := by rw [hw0]; exact ((Fr.refl NoB w).alloc _).alloc _
  have hBz : Blk w0 w.heap.size 76 z := by rw [hw0]; exact (Blk.new w _ _).alloc _
  rw [← hb, ← hw0] at hR
  rw [← hb, ← hw0]
  have hzb : ¬ w.heap.size = b := by omega
  have hb0 : w.heap.size + 1 ≤ b := by omega
  clear hw0 hb HR0
  obtain ⟨v1, r1, e1⟩ : ∃ v r', Rd.N r0 4294967295 = (v, r') := ⟨_, _, rfl⟩
  have hv1 : v1 ≤ 4294967295 := by have := Rd.N_le r0 4294967295; rw [e1] at this; exact this
  have hn1 : r1.l.length ≤ 70368744177664 := by have := Rd.N_len r0 4294967295; rw [e1] at this; exact Nat.le_trans this hn0
  have hcall := RN_lit hR 4294967295 4294967295 (by simp)
  rw [e1] at hcall
  have E1 := Lib.hid e1
  have Hcall := Lib.hid hcall
  clear e1 hR hcall
  go_wp2_with fail
  refine Hcall.out.mono ?_
  rintro e w1 ⟨rfl, hf1, hR⟩
  clear Hcall
  replace hF := hF.new hf1 fun j hj => .inr (by omega)
  replace hBz := hBz.fr hf1 hzb
  have s1 := hf1.size
  clear hf1
  have H71 : Hid ((reqCells { zeroReq with client := v1 } none 0 0).toArray.size = 71) := by show _ = _; rw [List.size_toArray, reqCells_len]
  have H1c : Hid ((reqCells { zeroReq with client := v1 } none 0 0).toArray.all (·.oneCell') = true) := by
    show _ = _
    rw [Array.all_eq_true_iff_forall_mem]
    intro u hu
    exact reqCells_one _ _ _ _ u (by simpa using hu)
  have hB : ReqBlk (w1.alloc (.cells (reqCells { zeroReq with client := v1 } none 0 0).toArray 76)) w1.heap.size { zeroReq with client := v1 } none 0 0 := ⟨Blk.new _ _ _⟩
  have hbl := hR.lt
  have hzl := hBz.lt
  replace hF : Fr NoB w (w1.alloc (.cells (reqCells { zeroReq with client := v1 } none 0 0).toArray 76)) := hF.alloc _
  replace hBz := hBz.alloc (.cells (reqCells { zeroReq with client := v1 } none 0 0).toArray 76)
  have hgl : w1.heap.size < (w1.alloc (.cells (reqCells { zeroReq with client := v1 } none 0 0).toArray 76)).heap.size := by simp
  replace hR := hR.fr ((Fr.refl NoB _).alloc (.cells (reqCells { zeroReq with client := v1 } none 0 0).toArray 76)) id fun _ _ => id
  go_wp2_with (first
    | (refine wpList_build_eq rfl 76 #[(0, .tmp 24)] rfl [(0, .int .u32 v1)] rfl (reqCells { zeroReq with client := v1 } none 0 0).toArray (clientReq_built' v1) ?_; generalize hrc : reqCells { zeroReq with client := v1 } none 0 0 = rc1 at H71 H1c ⊢; have Hrc := Lib.hid hrc; clear hrc)
    | (refine wpList_alloc_any rfl 76 rfl 71 req_zero ?_; intro z6 hz6; have Hz6 := Lib.hid hz6; clear hz6)
    | (refine wpList_store_newN rfl 76 (.tmp 5) (.tmp 25) rfl 71 req_size _ z6 Hz6.out rc1.toArray rfl rfl H71.out H1c.out ?_; clear Hz6))
  rw [← Hrc.out]
  clear H71 H1c Hrc
  obtain ⟨g, hg⟩ : ∃ g, g = w1.heap.size := ⟨_, rfl⟩
  rw [← hg] at hB hgl ⊢
  have hgb : ¬ g = b := by omega
  have hzg : ¬ w.heap.size = g := by omega
  have hwg : w.heap.size ≤ g := by omega
  have hKg : True := trivial
  clear hbl hzl hg s1
  obtain ⟨v2, r2, e2⟩ : ∃ v r', Rd.N r1 18446744073709551615 = (v, r') := ⟨_, _, rfl⟩
  have hv2 : v2 ≤ 18446744073709551615 := by have := Rd.N_le r1 18446744073709551615; rw [e2] at this; exact this
  have hn2 : r2.l.length ≤ 70368744177664 := by have := Rd.N_len r1 18446744073709551615; rw [e2] at this; exact Nat.le_trans this hn1
  have hcall := RN_lit hR 18446744073709551615 18446744073709551615 (by simp)
  rw [e2] at hcall
  have E2 := Lib.hid e2
  have Hcall := Lib.hid hcall
  clear e2 hR hcall
  go_wp2_with fail
  refine Hcall.out.mono ?_
  rintro e w2 ⟨rfl, hf2, hR⟩
  clear Hcall
  replace hB := hB.fr hf2 hgb
  replace hF := hF.new hf2 fun j hj => .inr (by omega)
  replace hgl := Nat.lt_of_lt_of_le hgl hf2.size
  replace hBz := hBz.fr hf2 hzb
  clear hf2
  have qc2 := hB.c1
  have qf2 := hB.blk.frozen 1
  have hfs : Fr (· = g) w2 (w2.setCell ⟨g, 1, none⟩ (.int .u64 v2)) := (Fr.refl _ _).at_ _ _
  replace hB := hB.s1 v2
  replace hF := hF.new hfs fun j hj => .inr (by omega)
  replace hgl : g < (w2.setCell ⟨g, 1, none⟩ (.int .u64 v2)).heap.size := Nat.lt_of_lt_of_le hgl hfs.size
  replace hBz := hBz.fr hfs hzg
  replace hR := hR.fr hfs (Ne.symm hgb) fun j hj e => by have := hG0 j hj; omega
  clear hfs
  obtain ⟨v3, r3, e3⟩ : ∃ v r', Rd.N r2 10 = (v, r') := ⟨_, _, rfl⟩
  have hv3 : v3 ≤ 10 := by have := Rd.N_le r2 10; rw [e3] at this; exact this
  have hn3 : r3.l.length ≤ 70368744177664 := by have := Rd.N_len r2 10; rw [e3] at this; exact Nat.le_trans this hn2
  have hcall := RN_lit hR 10 10 (by simp)
  rw [e3] at hcall
  have E3 := Lib.hid e3
  have Hcall := Lib.hid hcall
  clear e3 hR hcall
  go_wp2_with fail
  refine Hcall.out.mono ?_
  rintro e w3 ⟨rfl, hf3, hR⟩
  clear Hcall
  replace hB := hB.fr hf3 hgb
  replace hF := hF.new hf3 fun j hj => .inr (by omega)
  replace hgl := Nat.lt_of_lt_of_le hgl hf3.size
  replace hBz := hBz.fr hf3 hzb
  clear hf3
  have qc3 := hB.c2
  have qf3 := hB.blk.frozen 2
  have hfs : Fr (· = g) w3 (w3.setCell ⟨g, 2, none⟩ (.int .i64 (v3 : Nat))) := (Fr.refl _ _).at_ _ _
  replace hB := hB.s2 (v3 : Nat)
  replace hF := hF.new hfs fun j hj => .inr (by omega)
  replace hgl : g < (w3.setCell ⟨g, 2, none⟩ (.int .i64 (v3 : Nat))).heap.size := Nat.lt_of_lt_of_le hgl hfs.size
  replace hBz := hBz.fr hfs hzg
  replace hR := hR.fr hfs (Ne.symm hgb) fun j hj e => by have := hG0 j hj; omega
  clear hfs
  obtain ⟨v4, r4, e4⟩ : ∃ v r', Rd.N r3 4294967295 = (v, r') := ⟨_, _, rfl⟩
  have hv4 : v4 ≤ 4294967295 := by have := Rd.N_le r3 4294967295; rw [e4] at this; exact this
  have hn4 : r4.l.length ≤ 70368744177664 := by have := Rd.N_len r3 4294967295; rw [e4] at this; exact Nat.le_trans this hn3
  have hcall := RN_lit hR 4294967295 4294967295 (by simp)
  rw [e4] at hcall
  have E4 := Lib.hid e4
  have Hcall := Lib.hid hcall
  clear e4 hR hcall
  go_wp2_with fail
  refine Hcall.out.mono ?_
  rintro e w4 ⟨rfl, hf4, hR⟩
  clear Hcall
  replace hB := hB.fr hf4 hgb
  replace hF := hF.new hf4 fun j hj => .inr (by omega)
  replace hgl := Nat.lt_of_lt_of_le hgl hf4.size
  replace hBz := hBz.fr hf4 hzb
  clear hf4
  have qc4 := hB.c3
  have qf4 := hB.blk.frozen 3
  have hfs : Fr (· = g) w4 (w4.setCell ⟨g, 3, none⟩ (.int .u32 v4)) := (Fr.refl _ _).at_ _ _
  replace hB := hB.s3 v4
  replace hF := hF.new hfs fun j hj => .inr (by omega)
  replace hgl : g < (w4.setCell ⟨g, 3, none⟩ (.int .u32 v4)).heap.size := Nat.lt_of_lt_of_le hgl hfs.size
  replace hBz := hBz.fr hfs hzg
  replace hR := hR.fr hfs (Ne.symm hgb) fun j hj e => by have := hG0 j hj; omega
  clear hfs
  obtain ⟨l5, r5, e5⟩ : ∃ v r', Rd.Text r4 64 = (v, r') := ⟨_, _, rfl⟩
  have hn5 : r5.l.length ≤ 70368744177664 := by have := Rd.Text_l r4 64; rw [e5] at this; exact Nat.le_trans this hn4
  have hl5 : l5.length ≤ 64 := by have := Rd.Text_le r4 64 64 (by omega); rw [e5] at this; exact this
  have hcall := FText_any _ _ _ _ 64 hR (by omega)
  rw [e5] at hcall
  unfold FReadBytes at hcall
  dsimp only at hcall
  have E5 := Lib.hid e5
  have Hcall := Lib.hid hcall
  clear e5 hR hcall
  go_wp2_with fail
  refine Hcall.out.mono ?_
  rintro e w5 ⟨A5, c5, rfl, hf5, hR, hlc5, hcm5, hb5⟩
  clear Hcall
  replace hB := hB.fr hf5 hgb
  replace hF := hF.new hf5 fun j hj => .inr (by omega)
  replace hgl := Nat.lt_of_lt_of_le hgl hf5.size
  replace hBz := hBz.fr hf5 hzb
  clear hf5
  have hcv := Byt.str (F := _) hb5 (P := Try.prog) Try.underlying22 Try.underlying5 Try.underlying9 c5
  have qc5 := hB.c4
  have qf5 := hB.blk.frozen 4
  have hfs : Fr (· = g) w5 (w5.setCell ⟨g, 4, none⟩ (.string ⟨l5.toArray⟩)) := (Fr.refl _ _).at_ _ _
  replace hB := hB.s4 ⟨l5.toArray⟩
  replace hF := hF.new hfs fun j hj => .inr (by omega)
  replace hgl : g < (w5.setCell ⟨g, 4, none⟩ (.string ⟨l5.toArray⟩)).heap.size := Nat.lt_of_lt_of_le hgl hfs.size
  replace hBz := hBz.fr hfs hzg
  replace hR := hR.fr hfs (Ne.symm hgb) fun j hj e => by have := hG0 j hj; omega
  clear hfs
  obtain ⟨i6, r6, e6⟩ : ∃ v r', Rd.Raw r5 32 = (v, r') := ⟨_, _, rfl⟩
  have hn6 : r6.l.length ≤ 70368744177664 := by have := Rd.Raw_l r5 32; rw [e6] at this; exact Nat.le_trans this hn5
  have hcall := FIdz_any _ _ _ _ hR (fun j hj => by have := hG0 j hj; omega)
  rw [e6] at hcall
  have E6 := Lib.hid e6
  have Hcall := Lib.hid hcall
  clear e6 hR hcall
  obtain ⟨x6, hx6⟩ : ∃ x, x = idOf i6 := ⟨_, rfl⟩
  have Hx6 := Lib.hid hx6
  go_wp2_with fail
  refine Hcall.out.mono ?_
  rw [← hx6]
  clear hx6
  rintro e w6 ⟨rfl, hf6, hR⟩
  clear Hcall
  replace hB := hB.fr hf6 hgb
  replace hF := hF.new hf6 fun j hj => .inr (by omega)
  replace hgl := Nat.lt_of_lt_of_le hgl hf6.size
  replace hBz := hBz.fr hf6 hzb
  clear hf6
  replace hB : ReqBlk w6 g ⟨v1, v2, (v3 : Nat), v4, ⟨l5.toArray⟩, zeroId, zeroId, 0, []⟩ none 0 0 := hB
  have Hln : Hid ((idCells x6).length = 32) := idCells_len _
  have Hon : Hid (∀ v ∈ idCells x6, v.oneCell' = true) := bv_one x6.1
  have Hfit := Lib.hid (show 5 + (idCells x6).length ≤ (reqCells ⟨v1, v2, (v3 : Nat), v4, ⟨l5.toArray⟩, zeroId, zeroId, 0, []⟩ none 0 0).toArray.size by rw [List.size_toArray, reqCells_len, idCells_len]; omega)
  have hfs := (setRow_fr (ds := ((reqCells ⟨v1, v2, (v3 : Nat), v4, ⟨l5.toArray⟩, zeroId, zeroId, 0, []⟩ none 0 0).toArray.toList.take 5 ++ idCells x6 ++ (reqCells ⟨v1, v2, (v3 : Nat), v4, ⟨l5.toArray⟩, zeroId, zeroId, 0, []⟩ none 0 0).toArray.toList.drop (5 + (idCells x6).length)).toArray) hB.blk).1
  have hBs := hB.sid x6
  have hFs := hF.new hfs fun j hj => .inr (by omega)
  have hRs := hR.fr hfs (Ne.symm hgb) fun j hj e => by have := hG0 j hj; omega
  have hzs := hBz.fr hfs hzg
  have hgs := Nat.lt_of_lt_of_le hgl hfs.size
  go_wp2_with (first | (refine wpList_store_seg rfl 74 (.tmp 43) (.tmp 42) rfl g 5 (idCells x6) rfl rfl 76 _ hB.blk (by rw [Hln.out]; exact id_size) Hfit.out Hon.out ?_; clear hB hF hBz hgl hR; have hB := hBs; have hF := hFs; have hBz := hzs; have hgl := hgs; have hR := hRs; clear hBs hFs hRs hzs hgs hfs Hfit Hon Hln; generalize hws : w6.setRow g _ = w6s at hB hF hBz hgl hR ⊢; clear hws))
  obtain ⟨i7, r7, e7⟩ : ∃ v r', Rd.Raw r6 32 = (v, r') := ⟨_, _, rfl⟩
  have hn7 : r7.l.length ≤ 70368744177664 := by have := Rd.Raw_l r6 32; rw [e7] at this; exact Nat.le_trans this hn6
  have hcall := FIdz_any _ _ _ _ hR (fun j hj => by have := hG0 j hj; omega)
  rw [e7] at hcall
  have E7 := Lib.hid e7
  have Hcall := Lib.hid hcall
  clear e7 hR hcall
  obtain ⟨x7, hx7⟩ : ∃ x, x = idOf i7 := ⟨_, rfl⟩
  have Hx7 := Lib.hid hx7
  go_wp2_with fail
  refine Hcall.out.mono ?_
  rw [← hx7]
  clear hx7
  rintro e w7 ⟨rfl, hf7, hR⟩
  clear Hcall
  replace hB := hB.fr hf7 hgb
  replace hF := hF.new hf7 fun j hj => .inr (by omega)
  replace hgl := Nat.lt_of_lt_of_le hgl hf7.size
  replace hBz := hBz.fr hf7 hzb
  clear hf7
  replace hB : ReqBlk w7 g ⟨v1, v2, (v3 : Nat), v4, ⟨l5.toArray⟩, x6, zeroId, 0, []⟩ none 0 0 := hB
  have Hln : Hid ((idCells x7).length = 32) := idCells_len _
  have Hon : Hid (∀ v ∈ idCells x7, v.oneCell' = true) := bv_one x7.1
  have Hfit := Lib.hid (show 37 + (idCells x7).length ≤ (reqCells ⟨v1, v2, (v3 : Nat), v4, ⟨l5.toArray⟩, x6, zeroId, 0, []⟩ none 0 0).toArray.size by rw [List.size_toArray, reqCells_len, idCells_len]; omega)
  have hfs := (setRow_fr (ds := ((reqCells ⟨v1, v2, (v3 : Nat), v4, ⟨l5.toArray⟩, x6, zeroId, 0, []⟩ none 0 0).toArray.toList.take 37 ++ idCells x7 ++ (reqCells ⟨v1, v2, (v3 : Nat), v4, ⟨l5.toArray⟩, x6, zeroId, 0, []⟩ none 0 0).toArray.toList.drop (37 + (idCells x7).length)).toArray) hB.blk).1
  have hBs := hB.sold x7
  have hFs := hF.new hfs fun j hj => .inr (by omega)
  have hRs := hR.fr hfs (Ne.symm hgb) fun j hj e => by have := hG0 j hj; omega
  have hzs := hBz.fr hfs hzg
  have hgs := Nat.lt_of_lt_of_le hgl hfs.size
  go_wp2_with (first | (refine wpList_store_seg rfl 74 (.tmp 46) (.tmp 45) rfl g 37 (idCells x7) rfl rfl 76 _ hB.blk (by rw [Hln.out]; exact id_size) Hfit.out Hon.out ?_; clear hB hF hBz hgl hR; have hB := hBs; have hF := hFs; have hBz := hzs; have hgl := hgs; have hR := hRs; clear hBs hFs hRs hzs hgs hfs Hfit Hon Hln; generalize hws : w7.setRow g _ = w7s at hB hF hBz hgl hR ⊢; clear hws))
  obtain ⟨v8, r8, e8⟩ : ∃ v r', Rd.N r7 18446744073709551615 = (v, r') := ⟨_, _, rfl⟩
  have hv8 : v8 ≤ 18446744073709551615 := by have := Rd.N_le r7 18446744073709551615; rw [e8] at this; exact this
  have hn8 : r8.l.length ≤ 70368744177664 := by have := Rd.N_len r7 18446744073709551615; rw [e8] at this; exact Nat.le_trans this hn7
  have hcall := RN_lit hR 18446744073709551615 18446744073709551615 (by simp)
  rw [e8] at hcall
  have E8 := Lib.hid e8
  have Hcall := Lib.hid hcall
  clear e8 hR hcall
  go_wp2_with fail
  refine Hcall.out.mono ?_
  rintro e w8 ⟨rfl, hf8, hR⟩
  clear Hcall
  replace hB := hB.fr hf8 hgb
  replace hF := hF.new hf8 fun j hj => .inr (by omega)
  replace hgl := Nat.lt_of_lt_of_le hgl hf8.size
  replace hBz := hBz.fr hf8 hzb
  clear hf8
  have qc8 := hB.c69
  have qf8 := hB.blk.frozen 69
  have hfs : Fr (· = g) w8 (w8.setCell ⟨g, 69, none⟩ (.int .u64 v8)) := (Fr.refl _ _).at_ _ _
  replace hB := hB.s69 v8
  replace hF := hF.new hfs fun j hj => .inr (by omega)
  replace hgl : g < (w8.setCell ⟨g, 69, none⟩ (.int .u64 v8)).heap.size := Nat.lt_of_lt_of_le hgl hfs.size
  replace hBz := hBz.fr hfs hzg
  replace hR := hR.fr hfs (Ne.symm hgb) fun j hj e => by have := hG0 j hj; omega
  clear hfs
  obtain ⟨l9, r9, e9⟩ : ∃ v r', Rd.Text r8 110000 = (v, r') := ⟨_, _, rfl⟩
  have hn9 : r9.l.length ≤ 70368744177664 := by have := Rd.Text_l r8 110000; rw [e9] at this; exact Nat.le_trans this hn8
  have hl9 : l9.length ≤ 110000 := by have := Rd.Text_le r8 110000 110000 (by omega); rw [e9] at this; exact this
  have hcall := FText_any _ _ _ _ 110000 hR (by omega)
  rw [e9] at hcall
  unfold FReadBytes at hcall
  dsimp only at hcall
  have E9 := Lib.hid e9
  have Hcall := Lib.hid hcall
  clear e9 hR hcall
  go_wp2_with fail
  refine Hcall.out.mono ?_
  rintro e w9 ⟨A9, c9, rfl, hf9, hR, hlc9, hcm9, hb9⟩
  clear Hcall
  replace hB := hB.fr hf9 hgb
  replace hF := hF.new hf9 fun j hj => .inr (by omega)
  replace hgl := Nat.lt_of_lt_of_le hgl hf9.size
  replace hBz := hBz.fr hf9 hzb
  clear hf9
  have qc9 := hB.c70
  have qf9 := hB.blk.frozen 70
  have hfs : Fr (· = g) w9 (w9.setCell ⟨g, 70, none⟩ (.slice A9 l9.length c9)) := (Fr.refl _ _).at_ _ _
  replace hB := hB.s70 l9 A9 l9.length c9
  replace hF := hF.new hfs fun j hj => .inr (by omega)
  replace hgl : g < (w9.setCell ⟨g, 70, none⟩ (.slice A9 l9.length c9)).heap.size := Nat.lt_of_lt_of_le hgl hfs.size
  replace hBz := hBz.fr hfs hzg
  replace hR := hR.fr hfs (Ne.symm hgb) fun j hj e => by have := hG0 j hj; omega
  clear hfs
  have hbody : Byt (w9.setCell ⟨g, 70, none⟩ (.slice A9 l9.length c9)) F0 A9 l9.length l9 := hb9.fr (S := (· = g)) ((Fr.refl _ _).at_ _ _) fun j hj e => by have := hG0 j hj; omega
  have hst : Hid (reqParse ⟨t, true⟩ = (⟨v1, v2, (v3 : Nat), v4, ⟨l5.toArray⟩, x6, x7, v8, l9⟩, r9)) := ReqSteps.eq ⟨r1, r2, r3, r4, r5, r6, r7, r8, Hr0.out ▸ E1.out, E2.out, v3, rfl, E3.out, E4.out, E5.out, i6, E6.out, Hx6.out, i7, E7.out, Hx7.out, E8.out, E9.out⟩
  have hwf : reqWf ⟨v1, v2, (v3 : Nat), v4, ⟨l5.toArray⟩, x6, x7, v8, l9⟩ := by
    refine ⟨by dsimp only; omega, by dsimp only; omega, by dsimp only; omega, by dsimp only; omega, by dsimp only; omega, ?_, by dsimp only; omega⟩
    show l5.toArray.size ≤ _
    simp [maxLen]; omega
  replace hB : ReqBlk (w9.setCell ⟨g, 70, none⟩ (.slice A9 l9.length c9)) g ⟨v1, v2, (v3 : Nat), v4, ⟨l5.toArray⟩, x6, x7, v8, l9⟩ A9 l9.length c9 := hB
  have hQ : ReqR (w9.setCell ⟨g, 70, none⟩ (.slice A9 l9.length c9)) F0 (reqCells ⟨v1, v2, (v3 : Nat), v4, ⟨l5.toArray⟩, x6, x7, v8, l9⟩ A9 l9.length c9) ⟨v1, v2, (v3 : Nat), v4, ⟨l5.toArray⟩, x6, x7, v8, l9⟩ := ⟨A9, l9.length, c9, rfl, hlc9, hcm9, hbody, hwf⟩
  generalize hq : (⟨v1, v2, (v3 : Nat), v4, ⟨l5.toArray⟩, x6, x7, v8, l9⟩ : Req) = q at hst hB hQ
  have hput := refPutRequest_any _ F0 _ q hQ (fun k hk => by have := hG0 k hk; omega)
  have Hput := Lib.hid hput
  have hIs : reqIs (x :: t) = (decide (Rd.End r9 = 0) && reqAsks q) := by simp [reqIs, Hx.out, hst.out]
  have hOf : reqIs (x :: t) = true → reqOf (x :: t) = q := fun h => by rw [reqOf, if_pos h, List.tail_cons, hst.out]
  have hOf0 : reqIs (x :: t) = false → reqOf (x :: t) = zeroReq := fun h => by rw [reqOf, h]; rfl
  have hBad : reqBad (x :: t) = if reqIs (x :: t) = true then 0 else 180 := rfl
  have H71q : Hid ((reqCells q A9 l9.length c9).toArray.size = 71) := by show _ = _; rw [List.size_toArray, reqCells_len]
  have H71 : Hid ((reqCells q A9 l9.length c9).length = 71) := reqCells_len _ _ _ _
  have Honeq : Hid ((reqCells q A9 l9.length c9).toArray.all (·.oneCell') = true) := by
    show _ = _
    rw [Array.all_eq_true_iff_forall_mem]
    intro u hu
    exact reqCells_one _ _ _ _ u (by simpa using hu)
  have H71z : Hid ((reqCells zeroReq none 0 0).toArray.size = 71) := by show _ = _; rw [List.size_toArray, reqCells_len]
  have Honez : Hid ((reqCells zeroReq none 0 0).toArray.all (·.oneCell') = true) := by
    show _ = _
    rw [Array.all_eq_true_iff_forall_mem]
    intro u hu
    exact reqCells_one _ _ _ _ u (by simpa using hu)
  obtain ⟨zc, hzc⟩ : ∃ zc, zc = reqCells zeroReq none 0 0 := ⟨_, rfl⟩
  rw [← hzc] at H71z Honez
  have Hzc := Lib.hid hzc
  clear hput hwf hbody hq hzc qc2 qc3 qc4 qc5 qc8 qf2 qf3 qf4 qf5 qf8
  by_cases hev : Rd.End r9 = 0
  · cases hask : reqAsks q with
    | false => 
      have his : reqIs (x :: t) = false := by rw [hIs]; simp [hask]
      have e1 := hOf0 his
      have e2 : reqBad (x :: t) = 180 := by rw [hBad, his]; rfl
      have b1 : (Rd.End r9 != 0) = false := by simpa using hev
      have hre : reqErr q = 180 := by simp [reqErr, hask]
      clear hask
      have He1 := Lib.hid e1
      have He2 := Lib.hid e2
      clear e1 e2 his hIs hOf hOf0 hBad hev hst
      go_wp2_with (first
        | (refine wpList_load_agg rfl 76 (.tmp 5) rfl g 0 rfl _ _ hB.all Try.underlying76 rfl (by rw [H71.out]; exact req_size) ?_)
            | (go_at_call 50; refine Hput.out.mono ?_; rintro e w10 ⟨AP, cP, rfl, hf10, _, _⟩; have hBz' := hBz.fr hf10 id; have hB' := hB.fr hf10 id; have hend := Lib.hid (FEnd_any _ _ _ _ (hR.fr hf10 id fun _ _ => id)); rw [hre])
            | (go_at_call 44; refine hend.out.mono ?_; rintro e w' ⟨rfl, rfl⟩)
            | (refine wpList_build_eq rfl 76 #[] rfl [] rfl zc.toArray (by rw [Hzc.out]; exact zeroReq_built) ?_)
            | (refine wpList_store_row rfl 76 (.tmp 2) (.tmp 65) rfl w.heap.size zc.toArray rfl rfl 76 z hBz' (by rw [H71z.out]; exact req_size) (by rw [Hz.out, H71z.out]) Honez.out ?_))
      obtain ⟨hft, hBt⟩ := setRow_fr (ds := zc.toArray) hBz'
      refine bodyPost_ret (results_cell2 (cs := zc) rfl rfl (fun j v hv => by rw [Nat.zero_add, hBt.cell]; simpa using hv) Try.underlying76 rfl (by have h := H71z.out; simp at h; rw [h]; exact req_size)) rfl ?_
      rw [He1.out, He2.out]
      have hgz := GotReqIn.zero (G := F0) ((hF.trans hf10 fun _ _ => id).new hft fun j hj => .inr (by omega))
      rw [← Hzc.out] at hgz
      exact hgz
    | true => 
      have his : reqIs (x :: t) = true := by rw [hIs]; simp [hask, hev]
      have e1 := hOf his
      have e2 : reqBad (x :: t) = 0 := by rw [hBad, his]; rfl
      have b1 : (Rd.End r9 != 0) = false := by simpa using hev
      have hre : reqErr q = 0 := by simp [reqErr, hask]
      clear hask
      have He1 := Lib.hid e1
      have He2 := Lib.hid e2
      clear e1 e2 his hIs hOf hOf0 hBad hev hst
      go_wp2_with (first
        | (refine wpList_load_agg rfl 76 (.tmp 5) rfl g 0 rfl _ _ (by first | exact hB'.all | exact hB.all) Try.underlying76 rfl (by rw [H71.out]; exact req_size) ?_)
            | (go_at_call 50; refine Hput.out.mono ?_; rintro e w10 ⟨AP, cP, rfl, hf10, _, _⟩; have hBz' := hBz.fr hf10 id; have hB' := hB.fr hf10 id; have hend := Lib.hid (FEnd_any _ _ _ _ (hR.fr hf10 id fun _ _ => id)); rw [hre])
            | (go_at_call 44; refine hend.out.mono ?_; rintro e w' ⟨rfl, rfl⟩)
            | (refine wpList_store_row rfl 76 (.tmp 2) (.tmp 66) rfl w.heap.size (reqCells q A9 l9.length c9).toArray rfl rfl 76 z hBz' (by rw [H71q.out]; exact req_size) (by rw [Hz.out, H71q.out]) Honeq.out ?_))
      obtain ⟨hft, hBt⟩ := setRow_fr (ds := (reqCells q A9 l9.length c9).toArray) hBz'
      refine bodyPost_ret (results_cell2 (cs := reqCells q A9 l9.length c9) rfl rfl (fun j v hv => by rw [Nat.zero_add, hBt.cell]; simpa using hv) Try.underlying76 rfl (by rw [H71.out]; exact req_size)) rfl ?_
      rw [He1.out, He2.out]
      exact ⟨_, rfl, (hF.trans hf10 fun _ _ => id).new hft fun j hj => .inr (by omega), (hQ.fr hf10 fun _ _ => id).fr hft fun j hj e => by have := hG0 j hj; omega⟩
  · have his : reqIs (x :: t) = false := by rw [hIs]; simp [hev]
    have e1 := hOf0 his
    have e2 : reqBad (x :: t) = 180 := by rw [hBad, his]; rfl
    have b1 : (Rd.End r9 != 0) = true := by simpa using hev
    obtain ⟨re, hre⟩ : ∃ re, reqErr q = re := ⟨_, rfl⟩
    have He1 := Lib.hid e1
    have He2 := Lib.hid e2
    clear e1 e2 his hIs hOf hOf0 hBad hev hst
    go_wp2_with (first
      | (refine wpList_load_agg rfl 76 (.tmp 5) rfl g 0 rfl _ _ hB.all Try.underlying76 rfl (by rw [H71.out]; exact req_size) ?_)
          | (go_at_call 50; refine Hput.out.mono ?_; rintro e w10 ⟨AP, cP, rfl, hf10, _, _⟩; have hBz' := hBz.fr hf10 id; have hB' := hB.fr hf10 id; have hend := Lib.hid (FEnd_any _ _ _ _ (hR.fr hf10 id fun _ _ => id)); rw [hre])
          | (go_at_call 44; refine hend.out.mono ?_; rintro e w' ⟨rfl, rfl⟩)
          | (refine wpList_build_eq rfl 76 #[] rfl [] rfl zc.toArray (by rw [Hzc.out]; exact zeroReq_built) ?_)
          | (refine wpList_store_row rfl 76 (.tmp 2) (.tmp 65) rfl w.heap.size zc.toArray rfl rfl 76 z hBz' (by rw [H71z.out]; exact req_size) (by rw [Hz.out, H71z.out]) Honez.out ?_))
    obtain ⟨hft, hBt⟩ := setRow_fr (ds := zc.toArray) hBz'
    refine bodyPost_ret (results_cell2 (cs := zc) rfl rfl (fun j v hv => by rw [Nat.zero_add, hBt.cell]; simpa using hv) Try.underlying76 rfl (by have h := H71z.out; simp at h; rw [h]; exact req_size)) rfl ?_
    rw [He1.out, He2.out]
    have hgz := GotReqIn.zero (G := F0) ((hF.trans hf10 fun _ _ => id).new hft fun j hj => .inr (by omega))
    rw [← Hzc.out] at hgz
    exact hgz
end Go.Proofs.Ytnkfchondedfcaa
