/-
  The greater generation of a disk's heads (keep.latest). Conditions: the contract states its own.
-/
import Derived.Test.YtnplamcajjblkaaGreatKm
import Derived.Test.YtnplamcajjblkaaGreatWi
namespace Go.Proofs.YtnplamcajjblkaaGreat
open Go.RowKit

theorem u8_sizeL : ∀ w, (sizeOf 5).run Tryz.prog w = .ok 1 w := by
  intro w
  obtain ⟨i, h, a, b, c⟩ := info_parts (P := Tryz.prog) (e := 5) (z := .int .u8 0) (size := 1) (bytes := 1) (by kernel_rfl)
  simp [sizeOf, typeInfo, h, b]
theorem sec_guardL : Tryz.prog.eqGuardType Tryz.prog.depth 200 = false := by kernel_rfl
/-- The generation of a head that stands in a sector. -/
def headGen (i : Nat) (s : List UInt8) : Nat := if s = superL (le32 (s.take 4)) ∧ le32 (s.take 4) % 2 = i then le32 (s.take 4) else 0
def genAcc (secs : List (List UInt8)) (i : Nat) : Nat := match i with | 0 => 0 | 1 => headGen 0 (secs.getD 0 []) | _ => max (headGen 0 (secs.getD 0 [])) (headGen 1 (secs.getD 1 []))
theorem genAcc_step (secs : List (List UInt8)) {i : Nat} (h : i < 2) : max (genAcc secs i) (headGen i (secs.getD i [])) = genAcc secs (i + 1) := by
  rcases (by omega : i = 0 ∨ i = 1) with rfl | rfl
  · exact Nat.zero_max _
  · rfl
theorem le4_le32 (l : List UInt8) (h : l.length = 4) : le32 l < 4294967296 := by have := le32_lt l; rw [h] at this; exact this

set_option maxRecDepth 100000 in
set_option maxHeartbeats 4000000 in
theorem latest_any (w : World) (p r n k : Nat) (secs : List (List UInt8)) (h : DiskAt w p r n k secs) (hn2 : 2 ≤ n) :
    Calls Tryz.prog 45 #[.pointer (some ⟨p, 0, none⟩)] w fun e w' => e = .returned (.tuple #[.int .u32 (genAcc secs 2 : Nat), .int .i64 (if genAcc secs 2 = 0 then 140 else 0)]) ∧ Fr NoB w w' := by
  obtain ⟨zs, hzs⟩ : ∃ zs, zs = (List.replicate 64 (0 : UInt8)).map bv := ⟨_, rfl⟩
  have Hz : Hid (((Tryz.prog.info? 200).bind (·.zero)).map (·.cells) = some zs.toArray) := by show _ = _; rw [hzs]; exact sec_zero
  have Hzl : Hid (zs.toArray.size = 64) := by show _ = _; rw [hzs]; simp
  have HR := Lib.hid fun (W : World) (hW : Fr NoB w W) (i : Nat) (sec : List UInt8) hs => diskRead_any W p r n k i secs (h.fr hW id id) sec hs
  have Hall := Lib.hid h.all
  have Hlen := Lib.hid h.len
  have Hst := Lib.hid fun (i : Nat) (hi : i < 2) => genAcc_step secs hi
  have Hlt : Hid (∀ i, genAcc secs i < 4294967296) := by
    show ∀ i, _
    have h0 : ∀ i s, (headGen i s) < 4294967296 := fun i s => by
      unfold headGen
      split
      · have := le32_lt (s.take 4)
        have h4 : (s.take 4).length ≤ 4 := by rw [List.length_take]; omega
        have : 256 ^ (s.take 4).length ≤ 256 ^ 4 := Nat.pow_le_pow_right (by omega) h4
        omega
      · omega
    intro i
    unfold genAcc
    split
    · omega
    · exact h0 _ _
    · have h1 := h0 0 (secs.getD 0 [])
      have h2 := h0 1 (secs.getD 1 [])
      omega
  clear hzs
  go_enter Tryz.func45, Tryz.ntmps45
  go_wp2
  go_loopw [9, 4] (fun v v4 wr => ∃ i : Nat, i ≤ 2 ∧ v = .int .i64 i ∧ v4 = .int .u32 (genAcc secs i : Nat) ∧ Fr NoB w wr) (fun v _ _ => 2 - (intOf v).toNat)
  case atStart => exact ⟨0, by omega, rfl, rfl, Fr.refl _ _⟩
  case round =>
    obtain ⟨i, hi, rfl, rfl, hf1⟩ := hrel
    obtain ⟨w4, rfl⟩ : ∃ w4 : World, w4 = wr := ⟨_, rfl⟩
    obtain ⟨a, ha⟩ : ∃ a, a = genAcc secs i := ⟨_, rfl⟩
    have hal : a < 4294967296 := by rw [ha]; exact Hlt.out i
    by_cases hi2 : i < 2
    · have b1 : decide ((i : Int) < 2) = true := by simp only [decide_eq_true_eq]; omega
      have b1' : decide (i < 2) = true := by simp only [decide_eq_true_eq]; omega
      obtain ⟨sec, hsec⟩ : ∃ sec, secs[i]? = some sec := ⟨_, List.getElem?_eq_getElem (by have := Hlen.out; omega)⟩
      have hsl : sec.length = 64 := Hall.out sec (List.mem_of_getElem? hsec)
      have hst := Hst.out i hi2
      have hgd : secs.getD i [] = sec := by rw [List.getD_eq_getElem?_getD, hsec]; rfl
      rw [hgd, ← ha] at hst
      have hs4 : (sec.take 4).length = 4 := by rw [List.length_take]; omega
      have H1 := Lib.hid (HR.out w4 hf1 i sec hsec)
      have Ay : Hid ((sec.map bv).toArray.all (·.oneCell') = true) := by show _ = _; exact sec_cells _
      have Ly : Hid ((sec.map bv).length = 64) := by show _ = _; rw [List.length_map]; exact hsl
      have Sy : Hid ((sec.map bv).toArray.size = 64) := by show _ = _; rw [List.size_toArray]; exact Ly.out
      have W1 := Lib.hid (wordsL_one hs4)
      obtain ⟨v, hv⟩ : ∃ v, v = le32 (sec.take 4) := ⟨_, rfl⟩
      have hv32 : v < 4294967296 := by rw [hv]; exact le4_le32 _ hs4
      have Hsl := Lib.hid hsl
      have Hst2 := Lib.hid hst
      have Hv := Lib.hid hv
      have Ha := Lib.hid ha
      rw [← ha]
      clear hst hgd hsec hsl hs4 hv ha
      have hwl : pieceAt (sec.take 64) 4 0 = sec.take 4 := by unfold pieceAt; rw [Nat.zero_mul, List.drop_zero, List.take_take]; rfl
      go_wp2_with (first
        | (go_at_call 92
           refine H1.out.mono ?_
           rintro e w5 ⟨rfl, hf5⟩
           obtain ⟨g, hg2⟩ : ∃ g, g = w5.heap.size := ⟨_, rfl⟩)
        | (refine wpList_alloc_zcK rfl 200 rfl zs.toArray Hz.out ?_
           obtain ⟨w6, hw6⟩ : ∃ w6, w6 = w5.alloc (.cells zs.toArray 200) := ⟨_, rfl⟩
           rw [← hw6, ← hg2]
           have k6 : Blk w6 g 200 zs.toArray := by rw [hw6, hg2]; exact Blk.new _ _ _
           have f46 : Fr NoB w4 w6 := by rw [hw6]; exact hf5.alloc _
           have s45 := hf5.size
           have k7 := (setRow_frK (ds := (sec.map bv).toArray) k6).2
           have f47 : Fr NoB w4 (w6.setRow g (sec.map bv).toArray) := f46.new (setRow_frK k6).1 fun j hj => .inr (by omega)
           clear hw6 hg2)
        | (refine wpList_store_rowK rfl 200 (.tmp 6) (.tmp 16) rfl g (sec.map bv).toArray rfl rfl 200 zs.toArray k6 (by rw [Sy.out]; exact sec_size) (by rw [Sy.out, Hzl.out]) Ay.out ?_
           obtain ⟨w7, hw7⟩ : ∃ w7, w7 = w6.setRow g (sec.map bv).toArray := ⟨_, rfl⟩
           rw [← hw7] at f47 k7 ⊢
           have hgw : g < w7.heap.size := k7.lt
           have b7 : Byt w7 (· = g) (some ⟨g, 0, none⟩) 64 sec := by
             have := Byt.seg (o := 0) (k := 64) k7 (by rw [Hsl.out]; omega)
             rwa [List.drop_zero, List.take_of_length_le (by rw [Hsl.out]; omega)] at this
           have HW := Lib.hid (vecWords_any w7 (· = g) (some ⟨g, 0, none⟩) 64 64 sec b7 (fun j hj => by omega) (by omega) (by omega))
           clear hw7 k6 f46 b7)
        | (go_at_call 93
           refine HW.out.mono ?_
           rintro e w8 ⟨A4, c4, rfl, hf8, hO8, hA8⟩
           obtain ⟨b4, o4, rfl, _, hc4⟩ := (hO8.arr (F := fun _ => True) fun _ _ _ => trivial).2 (by omega)
           have q4 := hc4 0 (.int .u32 (v : Int)) (by
             rw [List.getElem?_map, wordsL_at (l := sec) (k := 0) (by rw [Hsl.out]; omega)]
             have : pieceAt sec 4 0 = sec.take 4 := by unfold pieceAt; rw [Nat.zero_mul, List.drop_zero]
             rw [this, ← Hv.out]
             rfl)
           rw [Nat.add_zero] at q4
           clear hO8 hc4 hA8))
      have k8 := k7.fr hf8 id
      have f48 : Fr NoB w4 w8 := f47.trans hf8 fun _ _ h => h
      clear q4 hf8 HW k7 f47
      have all8 : ∀ W, Fr NoB w8.drew W → ∀ j u, (sec.map bv)[j]? = some u → W.cell? ⟨g, 0 + j, none⟩ = some u := fun W hW j u hu => by rw [Nat.zero_add, (k8.fr ((Fr.drew (Fr.refl NoB w8)).trans hW fun _ _ h => h) id).cell]; simpa using hu
      have hS : Fr NoB w8.drew w8.drew := Fr.refl _ _
      have HSup := Lib.hid (super_any w8.drew v hv32)
      obtain ⟨m, hm⟩ : ∃ m, m = v % 2 := ⟨_, rfl⟩
      have HSlot := Lib.hid fun W => slot_any W v hv32
      rw [← hm] at HSlot
      have Hm := Lib.hid hm
      have hm2 : m < 2 := by omega
      clear hm
      refine wp_region_held (S := fun W => Fr NoB w8.drew W) rfl ?_
      refine wpAnyH_take (i := 0) rfl (by decide +kernel) (by decide +kernel) (by decide +kernel) (fun _ _ _ h => h) (Or.inl ⟨by kernel_rfl, fun W hW => by exact exec_load_agg 200 (.tmp 6) rfl g 0 rfl (sec.map bv) _ (all8 W hW) Tryz.underlying200 rfl (by rw [Ly.out]; exact sec_size)⟩) hS ?_
      go_simp
      refine wpAnyH_take (i := 1) rfl (by decide +kernel) (by decide +kernel) (by decide +kernel) (fun _ _ _ h => h) (Or.inl ⟨by kernel_rfl, fun W hW => by go_simp; with_reducible rfl⟩) hS ?_
      go_simp
      refine wpAnyH_all (rs := [2]) (by decide +kernel) (by simp) ?_
      intro i2 hi2
      simp only [List.mem_cons, List.not_mem_nil, or_false] at hi2
      subst hi2
      refine wpOp_call rfl (by kernel_rfl) 88 (enters_of Tryz.func88 (by kernel_rfl) rfl) #[.tmp 26] _ rfl _ rfl HSup.out ?_
      rintro e v2 ⟨rfl, hS2⟩
      refine ⟨_, rfl, hS2, ?_⟩
      have HF : Hid (Fr NoB w v2) := by show Fr _ _ _; exact ((hf1.trans f48 fun _ _ h => h).drew).trans hS2 fun _ _ h => h
      go_simp
      refine wpAnyH_take (i := 3) rfl (by decide +kernel) (by decide +kernel) (by decide +kernel) (fun _ _ _ h => h) (Or.inl ⟨by kernel_rfl, fun W hW => by exact exec_eql_arr 200 5 _ 64 (.tmp 25) (.tmp 27) rfl Tryz.underlying200 Tryz.underlying5 u8_sizeL sec_guardL sec (superL v) rfl rfl Hsl.out (superL_len v)⟩) hS2 ?_
      have hG : headGen i sec = if sec = superL v ∧ m = i then v else 0 := by unfold headGen; rw [← Hv.out, ← Hm.out]
      have HG := Lib.hid hG
      clear hG
      by_cases hE : sec = superL v
      case neg =>
        rw [show (sec == superL v) = false by simp [hE]]
        have Hmax : Hid (genAcc secs (i + 1) = a) := by
          show _ = _
          rw [← Hst2.out, HG.out, if_neg fun h => hE h.1]
          exact Nat.max_zero a
        go_simp
        refine wpAnyH_take (i := 4) rfl (by decide +kernel) (by decide +kernel) (by decide +kernel) (fun _ _ _ h => h) (Or.inl ⟨by kernel_rfl, fun W hW => by go_simp; with_reducible rfl⟩) hS2 ?_
        go_simp
        refine wpAnyH_take (i := 5) rfl (by decide +kernel) (by decide +kernel) (by decide +kernel) (fun _ _ _ h => h) (Or.inr ⟨by kernel_rfl, rfl⟩) hS2 ?_
        refine wpAnyH_take (i := 6) rfl (by decide +kernel) (by decide +kernel) (by decide +kernel) (fun _ _ _ h => h) (Or.inr ⟨by kernel_rfl, rfl⟩) hS2 ?_
        refine wpAnyH_take (i := 7) rfl (by decide +kernel) (by decide +kernel) (by decide +kernel) (fun _ _ _ h => h) (Or.inr ⟨by kernel_rfl, rfl⟩) hS2 ?_
        refine wpAnyH_take (i := 8) rfl (by decide +kernel) (by decide +kernel) (by decide +kernel) (fun _ _ _ h => h) (Or.inr ⟨by kernel_rfl, rfl⟩) hS2 ?_
        refine wpAnyH_take (i := 9) rfl (by decide +kernel) (by decide +kernel) (by decide +kernel) (fun _ _ _ h => h) (Or.inl ⟨by kernel_rfl, fun W hW => by go_simp; with_reducible rfl⟩) hS2 ?_
        go_simp
        refine wpAnyH_done (by decide +kernel) ?_ _
        clear all8 hS2 hS hE
        go_wp2
        exact ⟨⟨i + 1, by omega, by go_num, by rw [Hmax.out], HF.out⟩, by simp [intOf]; omega⟩
      case pos =>
        rw [show (sec == superL v) = true by simp [hE]]
        go_simp
        refine wpAnyH_take (i := 4) rfl (by decide +kernel) (by decide +kernel) (by decide +kernel) (fun _ _ _ h => h) (Or.inl ⟨by kernel_rfl, fun W hW => by go_simp; with_reducible rfl⟩) hS2 ?_
        go_simp
        refine wpAnyH_take (i := 5) rfl (by decide +kernel) (by decide +kernel) (by decide +kernel) (fun _ _ _ h => h) (Or.inl ⟨by kernel_rfl, fun W hW => by go_simp; with_reducible rfl⟩) hS2 ?_
        go_simp
        refine wpAnyH_take (i := 7) rfl (by decide +kernel) (by decide +kernel) (by decide +kernel) (fun _ _ _ h => h) (Or.inl ⟨by kernel_rfl, fun W hW => by go_simp; with_reducible rfl⟩) hS2 ?_
        go_simp
        refine wpAnyH_all (rs := [6]) (by decide +kernel) (by simp) ?_
        intro i2 hi2
        simp only [List.mem_cons, List.not_mem_nil, or_false] at hi2
        subst hi2
        refine wpOp_call rfl (by kernel_rfl) 46 (enters_of Tryz.func46 (by kernel_rfl) rfl) #[.tmp 30] _ rfl _ rfl (HSlot.out v2) ?_
        rintro e v3 ⟨rfl, h3⟩
        rw [h3]
        refine ⟨_, rfl, hS2, ?_⟩
        clear h3
        by_cases hmi : m = i
        case pos =>
          have Hmax : Hid (max a v = genAcc secs (i + 1)) := by
            show _ = _
            rw [← Hst2.out, HG.out, if_pos ⟨hE, hmi⟩]
          clear hE
          have e1 : ((m : Int) == (i : Int)) = true := by rw [hmi]; simp
          have e2 : decide ((m : Int) = (i : Int)) = true := by rw [hmi]; simp
          have e3 : (m == i) = true := by rw [hmi]; simp
          have e4 : decide (m = i) = true := by rw [hmi]; simp
          clear hmi
          go_simp
          refine wpAnyH_take (i := 8) rfl (by decide +kernel) (by decide +kernel) (by decide +kernel) (fun _ _ _ h => h) (Or.inl ⟨by kernel_rfl, fun W hW => by go_simp; with_reducible rfl⟩) hS2 ?_
          go_simp
          refine wpAnyH_take (i := 9) rfl (by decide +kernel) (by decide +kernel) (by decide +kernel) (fun _ _ _ h => h) (Or.inl ⟨by kernel_rfl, fun W hW => by go_simp; with_reducible rfl⟩) hS2 ?_
          go_simp
          refine wpAnyH_done (by decide +kernel) ?_ _
          clear all8 hS2 hS
          go_wp2
          exact ⟨⟨i + 1, by omega, by go_num, by rw [← Hmax.out]; exact congrArg (Value.int .u32) (by split <;> omega), HF.out⟩, by simp [intOf]; omega⟩
        case neg =>
          have Hmax : Hid (genAcc secs (i + 1) = a) := by
            show _ = _
            rw [← Hst2.out, HG.out, if_neg fun h => hmi h.2]
            exact Nat.max_zero a
          clear hE
          have e1 : ((m : Int) == (i : Int)) = false := by simp; omega
          have e2 : decide ((m : Int) = (i : Int)) = false := by simp; omega
          have e3 : (m == i) = false := by simp [hmi]
          have e4 : decide (m = i) = false := by simp [hmi]
          clear hmi
          go_simp
          refine wpAnyH_take (i := 8) rfl (by decide +kernel) (by decide +kernel) (by decide +kernel) (fun _ _ _ h => h) (Or.inl ⟨by kernel_rfl, fun W hW => by go_simp; with_reducible rfl⟩) hS2 ?_
          go_simp
          refine wpAnyH_take (i := 9) rfl (by decide +kernel) (by decide +kernel) (by decide +kernel) (fun _ _ _ h => h) (Or.inl ⟨by kernel_rfl, fun W hW => by go_simp; with_reducible rfl⟩) hS2 ?_
          go_simp
          refine wpAnyH_done (by decide +kernel) ?_ _
          clear all8 hS2 hS
          go_wp2
          exact ⟨⟨i + 1, by omega, by go_num, by rw [Hmax.out], HF.out⟩, by simp [intOf]; omega⟩
    · obtain rfl : i = 2 := by omega
      by_cases h0 : a = 0
      · have e1 : decide ((a : Int) = 0) = true := by simp [h0]
        have e2 : ((a : Int) == 0) = true := by simp [h0]
        have e3 : genAcc secs 2 = 0 := by rw [← ha, h0]
        rw [← ha]
        have E3 := Lib.hid e3
        have H0 := Lib.hid h0
        clear e3 h0 ha
        go_wp2
        all_goals
          go_ret2
          refine ⟨?_, hf1⟩
          rfl
      · have e1 : decide ((a : Int) = 0) = false := by simp [h0]
        have e2 : ((a : Int) == 0) = false := by simp [h0]
        have E3 : Hid (genAcc secs 2 = a) := by show _ = _; exact ha.symm
        rw [← ha]
        have H0 := Lib.hid h0
        clear h0 ha
        go_wp2
        all_goals
          go_ret2
          refine ⟨?_, hf1⟩
          first
            | (rw [E3.out]; rfl)
            | (exfalso; exact H0.out (E3.out.symm.trans (by assumption)))
end Go.Proofs.YtnplamcajjblkaaGreat
