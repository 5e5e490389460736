/-
  The statement CodecBack: what was written is read again, part by part (the walk). Conditions: none but that the parts can be read.
-/
import Derived.Test.YtnkfchondedfcaaFq
import Derived.Test.YtnkfchondedfcaaEd
import Derived.Test.YtnkfchondedfcaaDc
namespace Go.Proofs.Ytnkfchondedfcaa
open Go.RowKit

set_option maxRecDepth 100000 in
set_option maxHeartbeats 4000000 in
theorem CodecBack_any (w : World) (A : Option Addr) (n c : Nat) (l : List Part) (h : Parts w (fun k => k < w.heap.size) A n l) (hn : n ≤ 9223372036854775807) :
    Calls Try.prog 8 #[.slice A n c] w fun e w' => e = .returned (.bool true) ∧ Below w.heap.size w w' := by
  cases hfew : fewB l with
  | false =>
    have Hfew := Lib.hid hfew
    clear hfew
    go_enter Try.func8, Try.ntmps8
    go_wp2_with (go_at_call 26; refine (awake08 _).mono ?_; rintro e w1 ⟨rfl, hf1⟩)
    refine (few_any w1 _ _ c _ (h.to hf1) hn).mono ?_
    rintro e w2 ⟨rfl, hf2⟩
    rw [Hfew.out]
    go_wp2
    go_ret
    exact ⟨rfl, Fr.below (hf1.new hf2 fun _ h => h.elim) (Nat.le_refl _) fun _ _ => id⟩
  | true =>
    have Hfew := Lib.hid hfew
    have hn20 := few_len hfew
    rw [h.len] at hn20
    have hpl : (partsBytes l).length ≤ 8000 := partsBytes_len hfew fun p hp => h.small hp
    have Hlen := Lib.hid h.len
    clear hfew
    go_enter Try.func8, Try.ntmps8
    go_wp2_with (go_at_call 26; refine (awake08 _).mono ?_; rintro e w1 ⟨rfl, hf1⟩)
    refine (few_any w1 _ _ c _ (h.to hf1) hn).mono ?_
    rintro e w2 ⟨rfl, hf2⟩
    rw [Hfew.out]
    go_wp2_with fail
    refine (wrote_any _ _ _ c l ((h.to hf1).to hf2) Hfew.out).mono ?_
    rintro e w3 ⟨A3, c3, rfl, hf3, hO3, hA3⟩
    have hf13 := (hf1.new hf2 fun _ h => h.elim).new hf3 fun _ h => h.elim
    go_wp2_with fail
    refine (Read_any _ (fun _ => True) _ _ _ (partsBytes l) (hO3.arr fun _ _ _ => trivial) (by omega)).mono ?_
    rintro e w4 ⟨b, rfl, hf4, hR4⟩
    have hP4 := (((h.to hf1).to hf2).to hf3).to hf4
    have hF4 := hf13.new hf4 fun _ h => h.elim
    have hb4 := hR4.1
    have s3 := hf13.size
    have hR5 := hR4.more (G := fun j => w.heap.size ≤ j ∧ j < w4.heap.size) fun j hj h => ⟨by omega, hj⟩
    clear hR4 hf1 hf2 hf3 hf4 hO3 hA3 hf13
    obtain ⟨w0, rfl⟩ : ∃ w0 : World, w0 = w4 := ⟨_, rfl⟩
    go_wp2
    go_loopw [16] (fun i wr => ∃ k : Nat, k ≤ n ∧ i = .int .i64 k ∧ RdAt wr (fun j => w.heap.size ≤ j ∧ j < w0.heap.size) b ⟨partsBytes (l.drop k), true⟩ ∧ Fr (fun j => j = b) w0 wr) (fun i _ => n - (intOf i).toNat)
    case atStart => exact ⟨0, by omega, rfl, hR5, Fr.refl _ _⟩
    case round =>
      obtain ⟨k, hk, rfl, hR, hF⟩ := hrel
      obtain ⟨w1, rfl⟩ : ∃ w1 : World, w1 = wr := ⟨_, rfl⟩
      have s1 := hF.size
      have hbs := hR.1
      by_cases hkn : k < n
      · have hPr := ArrOf.fr (h.below' hF4) hF (fun j hj e => by omega) (R' := PartR w1 (fun j => j < w.heap.size)) fun y p _ hy => hy.fr hF fun j hj e => by omega
        obtain ⟨bb, o, p, y, rfl, hGb, hp, hy, hyr, hcell⟩ := hPr.at_ hkn
        obtain ⟨AB, nB, cB, AI, nI, cI, rfl, h2, h3, h4, h5, h6, h7, hpn, _⟩ := hyr
        have hkl : k < l.length := by rw [Hlen.out]; exact hkn
        have hpe : l[k] = p := by rw [List.getElem?_eq_getElem hkl] at hp; injection hp
        have hdrop : partsBytes (l.drop k) = partBytes p ++ partsBytes (l.drop (k + 1)) := by
          rw [List.drop_eq_getElem_cons hkl, hpe]; simp [partsBytes]
        have hdl : (partsBytes (l.drop k)).length ≤ 8000 := Nat.le_trans (partsBytes_drop l k) hpl
        have hsm := few_mem Hfew.out (hpe ▸ List.getElem_mem hkl)
        simp only [partSmall, Bool.and_eq_true, decide_eq_true_eq] at hsm
        rw [h4.len, h7.len] at hsm
        obtain ⟨hsm1, hsm2⟩ := hsm
        have Hone : Hid (#[Value.int .i64 p.kind, .int .u64 p.n, .slice AB nB cB, .slice AI nI cI, .int .i64 p.most].all (·.oneCell') = true) := by show _ = _; simp [Value.oneCell']
        rw [hdrop] at hR hdl
        have Hb := Lib.hid h4.len
        have Hi := Lib.hid h7.len
        clear hp hpe hy h2 h5 hdrop hPr
        have cellS : ∀ j u, #[Value.int .i64 p.kind, .int .u64 p.n, .slice AB nB cB, .slice AI nI cI, .int .i64 p.most][j]? = some u → ∀ W, Fr (fun q => q = b) (w1.alloc (.cells #[.int .i64 p.kind, .int .u64 p.n, .slice AB nB cB, .slice AI nI cI, .int .i64 p.most] 62)) W → W.cell? ⟨w1.heap.size, j, none⟩ = some u := fun j u hu W hW => by
          have := ((Blk.new w1 62 #[.int .i64 p.kind, .int .u64 p.n, .slice AB nB cB, .slice AI nI cI, .int .i64 p.most]).fr hW (by omega)).cell j
          rw [this]; exact hu
        have CellS := Lib.hid cellS
        clear cellS
        by_cases hk0 : p.kind = 0
        · have hpb : partBytes p = encN p.n := by simp [partBytes, hk0]
          have hk0' : (p.kind == 0) = true := by simp [hk0]
          rw [hpb] at hR hdl
          have HRt := Lib.hid (fun W (hW : Fr NoB w1 W) => hR.fr hW fun _ _ => id)
          clear hk0 hpb hR hdl
          go_wp2_with (first
          | (refine wpList_load_agg rfl 62 (.tmp 18) rfl bb (o + k * 5) rfl _ _ hcell Try.underlying62 rfl partT_size ?_)
          | (refine wpList_alloc_any rfl 62 rfl 5 partT_zero ?_; intro z hz; have Hz := Lib.hid hz; clear hz)
          | (refine wpList_store_newN rfl 62 (.tmp 5) (.tmp 19) rfl 5 partT_size _ z Hz.out #[.int .i64 p.kind, .int .u64 p.n, .slice AB nB cB, .slice AI nI cI, .int .i64 p.most] rfl rfl rfl Hone.out ?_))
          have hW0 := ((Fr.refl NoB w1).alloc (.cells #[.int .i64 p.kind, .int .u64 p.n, .slice AB nB cB, .slice AI nI cI, .int .i64 p.most] 62)).drew
          have hW1 := ((Fr.refl (fun q => q = b) (w1.alloc (.cells #[.int .i64 p.kind, .int .u64 p.n, .slice AB nB cB, .slice AI nI cI, .int .i64 p.most] 62)))).drew
          have hc1 := CellS.out 1 _ rfl _ hW1
          have HN := Lib.hid (BN _ _ _ _ _ (HRt.out _ hW0) hpn)
          go_region_with (go_at_call 28; refine HN.out.mono ?_; rintro e w2 ⟨rfl, hf2, hR2⟩; have hc2 := CellS.out 1 _ rfl _ (hW1.trans hf2 fun _ _ => id))
          all_goals go_wp2
          all_goals exact ⟨⟨k + 1, by omega, by go_num, hR2, (hF.alloc _).drew.trans hf2 fun _ _ => id⟩, by simp [intOf]; omega⟩
        by_cases hk1 : p.kind = 1
        · have hpb : partBytes p = p.b := by simp [partBytes, hk1]
          have hk0' : (p.kind == 0) = false := by simp [hk1]
          have hk1' : (p.kind == 1) = true := by simp [hk1]
          rw [hpb] at hR hdl
          have HRt := Lib.hid (fun W (hW : Fr NoB w1 W) => hR.fr hW fun _ _ => id)
          have Hdl := Lib.hid hdl
          clear hk0 hk1 hpb hR hdl
          go_wp2_with (first
          | (refine wpList_load_agg rfl 62 (.tmp 18) rfl bb (o + k * 5) rfl _ _ hcell Try.underlying62 rfl partT_size ?_)
          | (refine wpList_alloc_any rfl 62 rfl 5 partT_zero ?_; intro z hz; have Hz := Lib.hid hz; clear hz)
          | (refine wpList_store_newN rfl 62 (.tmp 5) (.tmp 19) rfl 5 partT_size _ z Hz.out #[.int .i64 p.kind, .int .u64 p.n, .slice AB nB cB, .slice AI nI cI, .int .i64 p.most] rfl rfl rfl Hone.out ?_))
          have hW0 := ((Fr.refl NoB w1).alloc (.cells #[.int .i64 p.kind, .int .u64 p.n, .slice AB nB cB, .slice AI nI cI, .int .i64 p.most] 62)).drew
          have hW1 := ((Fr.refl (fun q => q = b) (w1.alloc (.cells #[.int .i64 p.kind, .int .u64 p.n, .slice AB nB cB, .slice AI nI cI, .int .i64 p.most] 62)))).drew
          have hs1 := Byt.str (P := Try.prog) (h4.fr hW0 fun _ _ => id) Try.underlying22 Try.underlying5 Try.underlying9 cB
          have hc1 := CellS.out 2 _ rfl _ hW1
          have HN := Lib.hid (BRaw _ _ _ _ _ _ (HRt.out _ hW0) Hb.out Hdl.out)
          go_region_with (go_at_call 36; refine HN.out.mono ?_; rintro e w2 ⟨A2, c2, rfl, hf2, hR2, hB2⟩; have hc2 := CellS.out 2 _ rfl _ (hW1.trans hf2 fun _ _ => id); have hs2 := Byt.str (P := Try.prog) ((h4.fr hW0 fun _ _ => id).fr hf2 fun q hq e => by have hq' : q < w.heap.size := hq; omega) Try.underlying22 Try.underlying5 Try.underlying9 cB; have hs3 := Byt.str (P := Try.prog) hB2 Try.underlying22 Try.underlying5 Try.underlying9 c2)
          all_goals go_wp2
          all_goals exact ⟨⟨k + 1, by omega, by go_num, hR2, (hF.alloc _).drew.trans hf2 fun _ _ => id⟩, by simp [intOf]; omega⟩
        by_cases hk2 : p.kind = 2
        · have hpb : partBytes p = textBytes p.b := by simp [partBytes, hk2]
          have hk0' : (p.kind == 0) = false := by simp [hk2]
          have hk1' : (p.kind == 1) = false := by simp [hk2]
          have hk2' : (p.kind == 2) = true := by simp [hk2]
          rw [hpb] at hR hdl
          have HRt := Lib.hid (fun W (hW : Fr NoB w1 W) => hR.fr hW fun _ _ => id)
          have Hdl := Lib.hid hdl
          clear hk0 hk1 hk2 hpb hR hdl
          go_wp2_with (first
          | (refine wpList_load_agg rfl 62 (.tmp 18) rfl bb (o + k * 5) rfl _ _ hcell Try.underlying62 rfl partT_size ?_)
          | (refine wpList_alloc_any rfl 62 rfl 5 partT_zero ?_; intro z hz; have Hz := Lib.hid hz; clear hz)
          | (refine wpList_store_newN rfl 62 (.tmp 5) (.tmp 19) rfl 5 partT_size _ z Hz.out #[.int .i64 p.kind, .int .u64 p.n, .slice AB nB cB, .slice AI nI cI, .int .i64 p.most] rfl rfl rfl Hone.out ?_))
          have hW0 := ((Fr.refl NoB w1).alloc (.cells #[.int .i64 p.kind, .int .u64 p.n, .slice AB nB cB, .slice AI nI cI, .int .i64 p.most] 62)).drew
          have hW1 := ((Fr.refl (fun q => q = b) (w1.alloc (.cells #[.int .i64 p.kind, .int .u64 p.n, .slice AB nB cB, .slice AI nI cI, .int .i64 p.most] 62)))).drew
          have hs1 := Byt.str (P := Try.prog) (h4.fr hW0 fun _ _ => id) Try.underlying22 Try.underlying5 Try.underlying9 cB
          have hc1 := CellS.out 2 _ rfl _ hW1
          have HN := Lib.hid (BText _ _ _ _ _ _ (HRt.out _ hW0) Hb.out (by omega) Hdl.out)
          go_region_with (go_at_call 38; refine HN.out.mono ?_; rintro e w2 ⟨A2, c2, rfl, hf2, hR2, hB2⟩; have hc2 := CellS.out 2 _ rfl _ (hW1.trans hf2 fun _ _ => id); have hs2 := Byt.str (P := Try.prog) ((h4.fr hW0 fun _ _ => id).fr hf2 fun q hq e => by have hq' : q < w.heap.size := hq; omega) Try.underlying22 Try.underlying5 Try.underlying9 cB; have hs3 := Byt.str (P := Try.prog) hB2 Try.underlying22 Try.underlying5 Try.underlying9 c2)
          all_goals go_wp2
          all_goals exact ⟨⟨k + 1, by omega, by go_num, hR2, (hF.alloc _).drew.trans hf2 fun _ _ => id⟩, by simp [intOf]; omega⟩
        · have hpb : partBytes p = idsBytes p.ids := by simp [partBytes, hk0, hk1, hk2]
          have hk0' : (p.kind == 0) = false := by simp [hk0]
          have hk1' : (p.kind == 1) = false := by simp [hk1]
          have hk2' : (p.kind == 2) = false := by simp [hk2]
          rw [hpb] at hR hdl
          have HRt := Lib.hid (fun W (hW : Fr NoB w1 W) => hR.fr hW fun _ _ => id)
          have Hdl := Lib.hid hdl
          clear hk0 hk1 hk2 hpb hR hdl
          go_wp2_with (first
          | (refine wpList_load_agg rfl 62 (.tmp 18) rfl bb (o + k * 5) rfl _ _ hcell Try.underlying62 rfl partT_size ?_)
          | (refine wpList_alloc_any rfl 62 rfl 5 partT_zero ?_; intro z hz; have Hz := Lib.hid hz; clear hz)
          | (refine wpList_store_newN rfl 62 (.tmp 5) (.tmp 19) rfl 5 partT_size _ z Hz.out #[.int .i64 p.kind, .int .u64 p.n, .slice AB nB cB, .slice AI nI cI, .int .i64 p.most] rfl rfl rfl Hone.out ?_))
          have hW0 := ((Fr.refl NoB w1).alloc (.cells #[.int .i64 p.kind, .int .u64 p.n, .slice AB nB cB, .slice AI nI cI, .int .i64 p.most] 62)).drew
          have hW1 := ((Fr.refl (fun q => q = b) (w1.alloc (.cells #[.int .i64 p.kind, .int .u64 p.n, .slice AB nB cB, .slice AI nI cI, .int .i64 p.most] 62)))).drew
          have hc1 := CellS.out 3 _ rfl _ hW1
          have hi1 := h7.fr (R' := IdR) hW0 (fun _ _ => id) fun _ _ _ => id
          have HN := Lib.hid (BIds _ _ _ _ _ _ (HRt.out _ hW0) Hi.out (by omega) Hdl.out)
          go_region_with (first
          | (go_at_call 41; refine HN.out.mono ?_; rintro e w2 ⟨A2, c2, rfl, hf2, hR2, hB2⟩; have hc2 := CellS.out 3 _ rfl _ (hW1.trans hf2 fun _ _ => id); have HS := Lib.hid (SameIds_any w2 _ _ _ _ _ c2 _ cI _ _ hB2 (hi1.fr (R' := IdR) hf2 (fun q hq e => by have hq' : q < w.heap.size := hq; omega) fun _ _ _ => id) (by omega)))
          | (go_at_call 40; refine HS.out.mono ?_; rintro e w3 ⟨rfl, q3, rfl⟩))
          all_goals go_wp2
          all_goals exact ⟨⟨k + 1, by omega, by go_num, hR2.fr ((Fr.refl NoB w2).drewN q3) (fun _ _ => id), ((hF.alloc _).drew.trans hf2 fun _ _ => id).drewN q3⟩, by simp [intOf]; omega⟩
      · have hke : k = n := by omega
        subst hke
        have hd : partsBytes (l.drop k) = [] := by rw [List.drop_of_length_le (by rw [Hlen.out]; exact Nat.le_refl _)]; rfl
        rw [hd] at hR
        have HE := Lib.hid (REnd_any _ _ _ _ hR)
        clear hd hR
        go_wp2_with (go_at_call 29; refine HE.out.mono ?_; rintro e w2 ⟨rfl, rfl⟩; rw [show Rd.End ⟨[], true⟩ = 0 from rfl])
        go_ret
        exact ⟨rfl, Fr.below (hF4.new hF fun j e => .inr (by have := hb4; omega)) (Nat.le_refl _) fun _ _ => id⟩

end Go.Proofs.Ytnkfchondedfcaa
