/-
  Seals held against each other, as the document has them: tabulariumref29.SameSeals. Conditions: each contract states its own.
-/
import Derived.Test.YtnkfchondedfcaaJb
import Derived.Test.YtnkfchondedfcaaRh
import Derived.Deep.Cut
import Derived.Deep.CutBlock
import Derived.Deep.CutRange
namespace Go.Proofs.Ytnkfchondedfcaa
open Go.RowKit

set_option maxRecDepth 100000 in
set_option maxHeartbeats 2000000 in
theorem SameSeals_any (w : World) (F G : Nat → Prop) (A B : Option Addr) (n c m d : Nat) (xs ys : List Seal) (hx : Seals w F A n xs) (hy : Seals w G B m ys) (hn : n ≤ 9223372036854775807) :
    Calls Try.prog 25 #[.slice A n c, .slice B m d] w fun e w' => e = .returned (.bool (decide (xs = ys))) ∧ Fr NoB w w' := by
  have hxl := hx.len
  have hyl := hy.len
  by_cases hnm : n = m
  · subst hnm
    have Hxl := Lib.hid hxl
    have Hyl := Lib.hid hyl
    clear hxl hyl
    go_enter Try.func25, Try.ntmps25
    go_wp2
    go_loopw [16] (fun i wr => ∃ k : Nat, k ≤ n ∧ i = .int .i64 k ∧ xs.take k = ys.take k ∧ Fr NoB w wr) (fun i _ => n - (intOf i).toNat)
    case atStart => exact ⟨0, by omega, rfl, rfl, Fr.refl _ _⟩
    case round =>
      obtain ⟨k, hk, rfl, hpre, hF⟩ := hrel
      obtain ⟨w1, rfl⟩ : ∃ w1 : World, w1 = wr := ⟨_, rfl⟩
      have Hpre := Lib.hid hpre
      clear hpre
      by_cases hkn : k < n
      · obtain ⟨b1, o1, x, y1, rfl, _, gx, ly1, hr1, hc1⟩ := (hx.fr hF fun _ _ => id).at_ hkn
        obtain ⟨b2, o2, y, y2, rfl, _, gy, ly2, hr2, hc2⟩ := (hy.fr hF fun _ _ => id).at_ hkn
        have Ly1 : Hid (y1.length = 6) := ly1
        have Ly2 : Hid (y2.length = 6) := ly2
        have Ls1 : Hid (y1.toArray.size = 6) := by show _ = _; simpa using ly1
        have Ls2 : Hid (y2.toArray.size = 6) := by show _ = _; simpa using ly2
        have H1 := Lib.hid hr1.one
        have H2 := Lib.hid hr2.one
        have Hex := Lib.hid (take_snoc_of gx)
        have Hey := Lib.hid (take_snoc_of gy)
        have Hne := Lib.hid (ne_of_at gx gy)
        clear gx gy ly1 ly2
        go_wp2
        go_cut [6, 7] from 17 to 87 (fun p6 p7 W => ∃ g1 g2, p6 = .pointer (some ⟨g1, 0, none⟩) ∧ p7 = .pointer (some ⟨g2, 0, none⟩) ∧ Blk W g1 41 y1.toArray ∧ Blk W g2 41 y2.toArray ∧ Fr NoB w1 W)
        case first =>
          refine wp_region_held (S := fun W => Fr NoB w1 W) rfl ?_
          have hS : Fr NoB w1 { w1 with drawn := w1.drawn + 1 } := Fr.drew (Fr.refl _ _)
          refine wpAnyH_take (i := 0) rfl (by kernel_rfl) (by kernel_rfl) (by kernel_rfl) (fun _ _ _ h => h) (Or.inl ⟨rfl, fun W hW => by go_simp; with_reducible rfl⟩) hS ?_
          refine wpAnyH_take (i := 1) rfl (by kernel_rfl) (by kernel_rfl) (by kernel_rfl) (fun _ _ _ h => h) (Or.inl ⟨rfl, fun W hW => by go_simp; with_reducible rfl⟩) hS ?_
          refine wpAnyH_take (i := 2) rfl (by kernel_rfl) (by kernel_rfl) (by kernel_rfl) (fun _ _ _ h => h) (Or.inl ⟨rfl, fun W hW => by go_simp; with_reducible rfl⟩) hS ?_
          refine wpAnyH_take (i := 3) rfl (by kernel_rfl) (by kernel_rfl) (by kernel_rfl) (fun _ _ _ h => h) (Or.inl ⟨rfl, fun W hW => exec_load_agg 41 (.tmp 21) rfl b1 (o1 + k * 6) rfl y1 _ (fun j u hu => Fr.cell' hW (hc1 j u hu) id) Try.underlying41 rfl (by rw [Ly1.out]; exact seal_size)⟩) hS ?_
          refine wpAnyH_take (i := 4) rfl (by kernel_rfl) (by kernel_rfl) (by kernel_rfl) (fun _ _ _ h => h) (Or.inl ⟨rfl, fun W hW => by go_simp; with_reducible rfl⟩) hS ?_
          refine wpAnyH_take (i := 5) rfl (by kernel_rfl) (by kernel_rfl) (by kernel_rfl) (fun _ _ _ h => h) (Or.inl ⟨rfl, fun W hW => by go_simp; with_reducible rfl⟩) hS ?_
          refine wpAnyH_take (i := 6) rfl (by kernel_rfl) (by kernel_rfl) (by kernel_rfl) (fun _ _ _ h => h) (Or.inl ⟨rfl, fun W hW => by go_simp; with_reducible rfl⟩) hS ?_
          refine wpAnyH_take (i := 7) rfl (by kernel_rfl) (by kernel_rfl) (by kernel_rfl) (fun _ _ _ h => h) (Or.inl ⟨rfl, fun W hW => exec_load_agg 41 (.tmp 25) rfl b2 (o2 + k * 6) rfl y2 _ (fun j u hu => Fr.cell' hW (hc2 j u hu) id) Try.underlying41 rfl (by rw [Ly2.out]; exact seal_size)⟩) hS ?_
          go_simp
          refine wpAnyH_all (rs := [8, 9]) (by decide +kernel) (by simp) ?_
          intro i hi
          simp only [List.mem_cons, List.not_mem_nil, or_false] at hi
          rcases hi with rfl | rfl
          · refine wpOp_alloc rfl rfl 41 rfl 6 seal_zero ?_
            intro g1 z1 W' ge1 hz1 hA hf
            have hl1 : w1.heap.size ≤ g1 := Nat.le_trans hS.size ge1
            replace hS := hS.trans hf fun _ _ => id
            refine ⟨hS, ?_⟩
            clear hf
            go_simp
            refine wpAnyH_all (rs := [9]) (by decide +kernel) (by simp) ?_
            intro i hi
            simp only [List.mem_cons, List.not_mem_nil, or_false] at hi
            subst hi
            refine wpOp_alloc rfl rfl 41 rfl 6 seal_zero ?_
            intro g2 z2 W' ge2 hz2 hB hf
            have hl2 : w1.heap.size ≤ g2 := Nat.le_trans hS.size ge2
            have hne : g1 ≠ g2 := by have := hA.lt; omega
            replace hA := hA.fr hf id
            replace hS := hS.trans hf fun _ _ => id
            refine ⟨hS, ?_⟩
            clear hf
            go_simp
            refine wpAnyH_all (rs := [10]) (by decide +kernel) (by simp) ?_
            intro i hi
            simp only [List.mem_cons, List.not_mem_nil, or_false] at hi
            subst hi
            refine wpOp_store_row rfl rfl 41 (.tmp 6) (.tmp 22) rfl g1 y1.toArray rfl rfl 41 z1 hA (by rw [Ls1.out]; exact seal_size) (by rw [Ls1.out, hz1]) H1.out ?_
            intro W' hf hA'
            clear hA
            have hA := hA'
            clear hA'
            replace hB := hB.fr hf (by omega)
            replace hS := hS.new hf fun j (hj : j = g1) => .inr (by omega)
            refine ⟨hS, ?_⟩
            clear hf
            go_simp
            refine wpAnyH_all (rs := [11]) (by decide +kernel) (by simp) ?_
            intro i hi
            simp only [List.mem_cons, List.not_mem_nil, or_false] at hi
            subst hi
            refine wpOp_store_row rfl rfl 41 (.tmp 7) (.tmp 26) rfl g2 y2.toArray rfl rfl 41 z2 hB (by rw [Ls2.out]; exact seal_size) (by rw [Ls2.out, hz2]) H2.out ?_
            intro W' hf hB'
            clear hB
            have hB := hB'
            clear hB'
            replace hA := hA.fr hf (by omega)
            replace hS := hS.new hf fun j (hj : j = g2) => .inr (by omega)
            refine ⟨hS, ?_⟩
            clear hf
            go_simp
            refine wpAnyH_done (by decide +kernel) ?_ _
            go_wp2
            go_meet
            case rel => exact ⟨g1, g2, rfl, rfl, hA, hB, hS⟩
          · refine wpOp_alloc rfl rfl 41 rfl 6 seal_zero ?_
            intro g2 z2 W' ge2 hz2 hB hf
            have hl2 : w1.heap.size ≤ g2 := Nat.le_trans hS.size ge2
            replace hS := hS.trans hf fun _ _ => id
            refine ⟨hS, ?_⟩
            clear hf
            go_simp
            refine wpAnyH_all (rs := [8]) (by decide +kernel) (by simp) ?_
            intro i hi
            simp only [List.mem_cons, List.not_mem_nil, or_false] at hi
            subst hi
            refine wpOp_alloc rfl rfl 41 rfl 6 seal_zero ?_
            intro g1 z1 W' ge1 hz1 hA hf
            have hl1 : w1.heap.size ≤ g1 := Nat.le_trans hS.size ge1
            have hne : g1 ≠ g2 := by have := hB.lt; omega
            replace hB := hB.fr hf id
            replace hS := hS.trans hf fun _ _ => id
            refine ⟨hS, ?_⟩
            clear hf
            go_simp
            refine wpAnyH_all (rs := [10]) (by decide +kernel) (by simp) ?_
            intro i hi
            simp only [List.mem_cons, List.not_mem_nil, or_false] at hi
            subst hi
            refine wpOp_store_row rfl rfl 41 (.tmp 6) (.tmp 22) rfl g1 y1.toArray rfl rfl 41 z1 hA (by rw [Ls1.out]; exact seal_size) (by rw [Ls1.out, hz1]) H1.out ?_
            intro W' hf hA'
            clear hA
            have hA := hA'
            clear hA'
            replace hB := hB.fr hf (by omega)
            replace hS := hS.new hf fun j (hj : j = g1) => .inr (by omega)
            refine ⟨hS, ?_⟩
            clear hf
            go_simp
            refine wpAnyH_all (rs := [11]) (by decide +kernel) (by simp) ?_
            intro i hi
            simp only [List.mem_cons, List.not_mem_nil, or_false] at hi
            subst hi
            refine wpOp_store_row rfl rfl 41 (.tmp 7) (.tmp 26) rfl g2 y2.toArray rfl rfl 41 z2 hB (by rw [Ls2.out]; exact seal_size) (by rw [Ls2.out, hz2]) H2.out ?_
            intro W' hf hB'
            clear hB
            have hB := hB'
            clear hB'
            replace hA := hA.fr hf (by omega)
            replace hS := hS.new hf fun j (hj : j = g2) => .inr (by omega)
            refine ⟨hS, ?_⟩
            clear hf
            go_simp
            refine wpAnyH_done (by decide +kernel) ?_ _
            go_wp2
            go_meet
            case rel => exact ⟨g1, g2, rfl, rfl, hA, hB, hS⟩
        case rest =>
          obtain ⟨g1, g2, rfl, rfl, hA, hB, hS⟩ := hcut
          obtain ⟨W, rfl⟩ : ∃ W : World, W = wc := ⟨_, rfl⟩
          have hFF := hF.trans hS fun _ _ => id
          obtain ⟨P1, n1, c1, rfl, hnc1, hcm1, hl1⟩ := hr1
          obtain ⟨P2, n2, c2, rfl, hnc2, hcm2, hl2⟩ := hr2
          obtain ⟨x1, x2, x3, x4, x5, x6⟩ := x
          obtain ⟨y1, y2, y3, y4, y5, y6⟩ := y
          dsimp only at hl1 hl2 hA hB
          replace hl1 := Arr.fr hl1 hS fun _ _ => id
          replace hl2 := Arr.fr hl2 hS fun _ _ => id
          have hn1 : n1 ≤ 9223372036854775807 := by unfold maxLen at hcm1; omega
          have a0 := hA.cell 0
          have a1 := hA.cell 1
          have a2 := hA.cell 2
          have a3 := hA.cell 3
          have a4 := hA.cell 4
          have a5 := hA.cell 5
          have b0 := hB.cell 0
          have b1 := hB.cell 1
          have b2 := hB.cell 2
          have b3 := hB.cell 3
          have b4 := hB.cell 4
          have b5 := hB.cell 5
          simp at a0 a1 a2 a3 a4 a5 b0 b1 b2 b3 b4 b5
          clear hnc1 hcm1 hnc2 hcm2 hc1 hc2 Ly1 Ly2 Ls1 Ls2 H1 H2
          by_cases h1 : x1 = y1
          · subst h1
            by_cases h2 : x2 = y2
            · subst h2
              by_cases h3 : x3 = y3
              · subst h3
                by_cases h4 : x4 = y4
                · subst h4
                  by_cases h5 : x5 = y5
                  · subst h5
                    have hll1 := Ints.len hl1
                    have hll2 := Ints.len hl2
                    by_cases h6 : n1 = n2
                    · subst h6
                      have Hll1 := Lib.hid hll1
                      have Hll2 := Lib.hid hll2
                      clear hll1 hll2
                      go_wp2
                      go_loopw [72] (fun i wi => ∃ j q : Nat, j ≤ n1 ∧ i = .int .i64 j ∧ x6.take j = y6.take j ∧ wi = W.drewN q) (fun i _ => n1 - (intOf i).toNat)
                      case atStart => exact ⟨0, 0, by omega, rfl, rfl, rfl⟩
                      case round =>
                        obtain ⟨j, q, hj, rfl, hpre, hwr⟩ := hrel
                        have hr1 : Ints wr F P1 n1 x6 := by rw [hwr]; exact hl1
                        have hr2 : Ints wr G P2 n1 y6 := by rw [hwr]; exact hl2
                        have a5' : wr.cell? ⟨g1, 5, none⟩ = some (.slice P1 n1 c1) := by rw [hwr]; exact a5
                        have b5' : wr.cell? ⟨g2, 5, none⟩ = some (.slice P2 n1 c2) := by rw [hwr]; exact b5
                        have Hwr := Lib.hid hwr
                        have hFw : Fr NoB w wr := by rw [hwr]; exact hFF.drewN q
                        clear hwr
                        have Hpr := Lib.hid hpre
                        clear hpre
                        by_cases hjn : j < n1
                        · obtain ⟨d1, p1, u, rfl, _, gu, hd1⟩ := hr1.at_ hjn
                          obtain ⟨d2, p2, v, rfl, _, gv, hd2⟩ := hr2.at_ hjn
                          have Hu := Lib.hid (take_snoc_of gu)
                          have Hv := Lib.hid (take_snoc_of gv)
                          have Hun := Lib.hid (ne_of_at gu gv)
                          clear gu gv
                          by_cases huv : u = v
                          · subst huv
                            go_wp2
                            go_quiet (fail)
                            go_wp2
                            go_roundw
                            case rel => exact ⟨j + 1, _, by omega, by go_num, by rw [Hu.out, Hv.out, Hpr.out], by rw [Hwr.out, World.drewN_drewN]⟩
                            case measure => simp [intOf]; omega
                          · have he := Lib.hid (decide_eq_false (Hne.out (by rintro ⟨⟩; exact Hun.out huv rfl)))
                            have hb : (u != v) = true := by simpa using huv
                            clear huv
                            go_wp2
                            go_quiet (fail)
                            go_wp2
                            go_ret
                            exact ⟨ret_bool he.out.symm, hFw.drewN _⟩
                        · have hje : j = n1 := by omega
                          subst hje
                          have hxy : x6 = y6 := by
                            have := Hpr.out
                            rwa [List.take_of_length_le (by rw [Hll1.out]; exact Nat.le_refl _), List.take_of_length_le (by rw [Hll2.out]; exact Nat.le_refl _)] at this
                          have Hxy := Lib.hid hxy
                          clear hxy
                          go_wp2
                          go_roundw
                          case rel => exact ⟨k + 1, by omega, by go_num, by rw [Hex.out, Hey.out, Hpre.out, Hxy.out], hFw⟩
                          case measure => simp [intOf]; omega
                    · have hb : ((n1 : Int) != (n2 : Int)) = true := by simp; omega
                      have he := Lib.hid (decide_eq_false (Hne.out (by rintro ⟨⟩; omega)))
                      clear h6 hll1 hll2
                      go_wp2
                      go_ret
                      exact ⟨ret_bool he.out.symm, hFF⟩
                  · have hb : (x5 == y5) = false := by simpa using h5
                    have hb' : (x5 != y5) = true := by simpa using h5
                    have he := Lib.hid (decide_eq_false (Hne.out (by simp [h5])))
                    clear h5 hb
                    go_wp2
                    go_ret
                    exact ⟨ret_bool he.out.symm, hFF⟩
                · have hb : (x4 == y4) = false := by simpa using h4
                  have hb' : (x4 != y4) = true := by simpa using h4
                  have he := Lib.hid (decide_eq_false (Hne.out (by simp [h4])))
                  clear h4 hb
                  go_wp2
                  go_ret
                  exact ⟨ret_bool he.out.symm, hFF⟩
              · have hb : (x3 == y3) = false := by simpa using h3
                have hb' : (x3 != y3) = true := by simpa using h3
                have he := Lib.hid (decide_eq_false (Hne.out (by simp [h3])))
                clear h3 hb
                go_wp2
                go_ret
                exact ⟨ret_bool he.out.symm, hFF⟩
            · have hb : (x2 == y2) = false := by simpa using h2
              have hb' : (x2 != y2) = true := by simpa using h2
              have he := Lib.hid (decide_eq_false (Hne.out (by simp [h2])))
              clear h2 hb
              go_wp2
              go_ret
              exact ⟨ret_bool he.out.symm, hFF⟩
          · have hb : (x1 == y1) = false := by simpa using h1
            have hb' : (x1 != y1) = true := by simpa using h1
            have he := Lib.hid (decide_eq_false (Hne.out (by simp [h1])))
            clear h1 hb
            go_wp2
            go_ret
            exact ⟨ret_bool he.out.symm, hFF⟩
      · have hke : k = n := by omega
        subst hke
        have he : Hid (decide (xs = ys) = true) := by
          show _ = _
          have := Hpre.out
          rw [List.take_of_length_le (by rw [Hxl.out]; exact Nat.le_refl _), List.take_of_length_le (by rw [Hyl.out]; exact Nat.le_refl _)] at this
          simpa using this
        go_wp2
        go_ret
        exact ⟨ret_bool he.out.symm, hF⟩
  · have hne : Hid (decide (xs = ys) = false) := by
      show _ = _
      rw [decide_eq_false_iff_not]
      rintro rfl
      exact hnm (hxl.symm.trans hyl)
    clear hxl hyl
    have hb : ((n : Int) != (m : Int)) = true := by simp; omega
    clear hnm
    go_enter Try.func25, Try.ntmps25
    go_wp2
    go_ret
    exact ⟨ret_bool hne.out.symm, Fr.refl _ _⟩
end Go.Proofs.Ytnkfchondedfcaa
