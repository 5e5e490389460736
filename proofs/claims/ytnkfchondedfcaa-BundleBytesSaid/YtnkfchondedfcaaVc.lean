/-
  Whether refs may stand so (bundle.named). Conditions: each contract states its own.
-/
import Derived.Test.YtnkfchondedfcaaVa
namespace Go.Proofs.Ytnkfchondedfcaa
open Go.RowKit

set_option maxRecDepth 100000 in
set_option maxHeartbeats 4000000 in
theorem named_any (w : World) (F : Nat → Prop) (A : Option Addr) (n c : Nat) (l : List Ref) (h : Refs w F A n l) (hn : n ≤ 9223372036854775807) :
    Calls Try.prog 108 #[.slice A n c] w fun e w' => e = .returned (.bool (namedP l)) ∧ Fr NoB w w' := by
  have hll := h.len
  have Hll := Lib.hid hll
  clear hll
  by_cases h1 : n ≤ 100
  · have b1 : decide (100 < (n : Int)) = false := by simp only [decide_eq_false_iff_not]; omega
    have hdef : namedP l = (l.all (fun r => goodS r.name) && risingF refName l) := by rw [namedP, Hll.out, decide_eq_true h1, Bool.true_and]
    have Hdef := Lib.hid hdef
    clear hdef
    go_enter Try.func108, Try.ntmps108
    go_wp2
    go_loopw [10] (fun v wr => ∃ k : Nat, k ≤ n ∧ v = .int .i64 k ∧ (l.take k).all (fun r => goodS r.name) = true ∧ risingF refName (l.take k) = true ∧ Fr NoB w wr) (fun v _ => n - (intOf v).toNat)
    case atStart => exact ⟨0, by omega, rfl, rfl, rfl, Fr.refl _ _⟩
    case round =>
      obtain ⟨k, hk, rfl, hall, hris, hFr⟩ := hrel
      obtain ⟨w4, rfl⟩ : ∃ w4 : World, w4 = wr := ⟨_, rfl⟩
      have Hall := Lib.hid hall
      have Hris := Lib.hid hris
      clear hall hris
      by_cases hkn : k < n
      · have hR4 := h.fr hFr fun _ _ => id
        obtain ⟨bb, oo, x, y, rfl, _, gx, _, hyr, hcell⟩ := ArrOf.at_ hR4 hkn
        obtain ⟨hy, hxs⟩ := hyr
        have hx33 : Hid (y.length = 33) := by show _ = _; rw [hy]; exact refCells_len x
        have hx33a : Hid (y.toArray.size = 33) := by show _ = _; rw [hy]; simp [refCells_len]
        have hx1 : Hid (y.toArray.all (·.oneCell') = true) := by show _ = _; rw [hy]; exact refCells_ones x
        have Hy := Lib.hid hy
        have hil : k < l.length := by rw [Hll.out]; exact hkn
        have htk : l.take (k + 1) = l.take k ++ [x] := by
          rw [List.getElem?_eq_getElem hil] at gx
          injection gx with gx
          rw [List.take_succ_eq_append_getElem hil, gx]
        have hmem : x ∈ l := List.mem_of_getElem? gx
        have Htk := Lib.hid htk
        have Hmem := Lib.hid hmem
        have Gx := Lib.hid gx
        have Hno : goodS x.name = false → Hid (namedP l = false) := fun hg => by
          show _ = _
          have : l.all (fun r => goodS r.name) = false := by rw [List.all_eq_false]; exact ⟨x, Hmem.out, by rw [hg]; simp⟩
          rw [Hdef.out, this, Bool.false_and]
        clear hy hil htk hmem
        have hR4' := Lib.hid hR4
        clear hR4
        go_wp2_with (first
          | (refine wpList_load_agg rfl 162 (.tmp 13) rfl bb (oo + k * 33) rfl y _ hcell Try.underlying162 rfl (by rw [hx33.out]; exact ref_size) ?_)
          | (refine wpList_alloc_any rfl 162 rfl 33 ref_zero ?_; intro z hz; have Hz := Lib.hid hz; clear hz)
          | (refine wpList_store_newN rfl 162 (.tmp 4) (.tmp 14) rfl 33 ref_size _ z Hz.out y.toArray rfl rfl hx33a.out hx1.out ?_
             obtain ⟨g, hg⟩ : ∃ g, g = w4.heap.size := ⟨_, rfl⟩
             obtain ⟨w6, hw6⟩ : ∃ w6, w6 = w4.alloc (.cells y.toArray 162) := ⟨_, rfl⟩
             have hf6 : Fr NoB w4 w6 := by rw [hw6]; exact (Fr.refl _ _).alloc _
             have hB6 : RefBlk w6 g x := by rw [hw6, hg, Hy.out]; exact ⟨Blk.new _ _ _⟩
             have hF6 := hFr.trans hf6 fun _ _ => id
             have hR6 := Lib.hid (hR4'.out.fr hf6 fun _ _ => id)
             rw [← hw6]
             rw [← hg]
             clear hw6 hg hf6))
        have c0 := hB6.c0
        refine wp_region_held (S := fun W => Fr NoB w6 W) rfl ?_
        have hS : Fr NoB w6 w6.drew := Fr.drew (Fr.refl _ _)
        refine wpAnyH_take (i := 0) rfl (by decide +kernel) (by decide +kernel) (by decide +kernel) (fun _ _ _ h => h) (Or.inl ⟨by kernel_rfl, fun W hW => by go_simp; with_reducible rfl⟩) hS ?_
        refine wpAnyH_take (i := 1) rfl (by decide +kernel) (by decide +kernel) (by decide +kernel) (fun _ _ _ h => h) (Or.inl ⟨by kernel_rfl, fun W hW => by have qq := hW.cell' c0 id; go_simp; with_reducible rfl⟩) hS ?_
        go_simp
        refine wpAnyH_all (rs := [2]) (by decide +kernel) (by simp) ?_
        intro i hi
        simp only [List.mem_cons, List.not_mem_nil, or_false] at hi
        subst hi
        refine wpOp_call rfl rfl 116 (enters_of Try.func116 (by kernel_rfl) rfl) #[.tmp 16] _ rfl _ rfl (Good_any _ _ hxs) ?_
        rintro e w7 ⟨rfl, hf⟩
        replace hS := hS.trans hf fun _ _ => id
        clear hf
        refine ⟨_, rfl, hS, ?_⟩
        cases hg : goodS x.name with
        | false =>
          have Hn := Hno hg
          clear hg Hno
          go_simp
          refine wpAnyH_take (i := 3) rfl (by decide +kernel) (by decide +kernel) (by decide +kernel) (fun _ _ _ h => h) (Or.inl ⟨by kernel_rfl, fun W hW => by go_simp; with_reducible rfl⟩) hS ?_
          refine wpAnyH_take (i := 4) rfl (by decide +kernel) (by decide +kernel) (by decide +kernel) (fun _ _ _ h => h) (Or.inl ⟨by kernel_rfl, fun W hW => by go_simp; with_reducible rfl⟩) hS ?_
          go_simp
          refine wpAnyH_take (i := 5) rfl (by decide +kernel) (by decide +kernel) (by decide +kernel) (fun _ _ _ h => h) (Or.inr ⟨by kernel_rfl, rfl⟩) hS ?_
          refine wpAnyH_take (i := 6) rfl (by decide +kernel) (by decide +kernel) (by decide +kernel) (fun _ _ _ h => h) (Or.inr ⟨by kernel_rfl, rfl⟩) hS ?_
          refine wpAnyH_take (i := 7) rfl (by decide +kernel) (by decide +kernel) (by decide +kernel) (fun _ _ _ h => h) (Or.inr ⟨by kernel_rfl, rfl⟩) hS ?_
          refine wpAnyH_take (i := 8) rfl (by decide +kernel) (by decide +kernel) (by decide +kernel) (fun _ _ _ h => h) (Or.inr ⟨by kernel_rfl, rfl⟩) hS ?_
          refine wpAnyH_take (i := 9) rfl (by decide +kernel) (by decide +kernel) (by decide +kernel) (fun _ _ _ h => h) (Or.inr ⟨by kernel_rfl, rfl⟩) hS ?_
          refine wpAnyH_take (i := 10) rfl (by decide +kernel) (by decide +kernel) (by decide +kernel) (fun _ _ _ h => h) (Or.inr ⟨by kernel_rfl, rfl⟩) hS ?_
          refine wpAnyH_take (i := 11) rfl (by decide +kernel) (by decide +kernel) (by decide +kernel) (fun _ _ _ h => h) (Or.inr ⟨by kernel_rfl, rfl⟩) hS ?_
          refine wpAnyH_take (i := 12) rfl (by decide +kernel) (by decide +kernel) (by decide +kernel) (fun _ _ _ h => h) (Or.inr ⟨by kernel_rfl, rfl⟩) hS ?_
          refine wpAnyH_take (i := 13) rfl (by decide +kernel) (by decide +kernel) (by decide +kernel) (fun _ _ _ h => h) (Or.inr ⟨by kernel_rfl, rfl⟩) hS ?_
          refine wpAnyH_take (i := 14) rfl (by decide +kernel) (by decide +kernel) (by decide +kernel) (fun _ _ _ h => h) (Or.inr ⟨by kernel_rfl, rfl⟩) hS ?_
          refine wpAnyH_take (i := 15) rfl (by decide +kernel) (by decide +kernel) (by decide +kernel) (fun _ _ _ h => h) (Or.inr ⟨by kernel_rfl, rfl⟩) hS ?_
          refine wpAnyH_take (i := 16) rfl (by decide +kernel) (by decide +kernel) (by decide +kernel) (fun _ _ _ h => h) (Or.inr ⟨by kernel_rfl, rfl⟩) hS ?_
          refine wpAnyH_take (i := 17) rfl (by decide +kernel) (by decide +kernel) (by decide +kernel) (fun _ _ _ h => h) (Or.inr ⟨by kernel_rfl, rfl⟩) hS ?_
          refine wpAnyH_take (i := 18) rfl (by decide +kernel) (by decide +kernel) (by decide +kernel) (fun _ _ _ h => h) (Or.inl ⟨by kernel_rfl, fun W hW => by go_simp; with_reducible rfl⟩) hS ?_
          go_simp
          refine wpAnyH_done (by decide +kernel) ?_ _
          go_wp2
          go_ret
          exact ⟨ret_bool Hn.out.symm, hF6.trans hS fun _ _ => id⟩
        | true =>
          have Hg := Lib.hid hg
          have Hall2 : Hid ((l.take (k + 1)).all (fun r => goodS r.name) = true) := by show _ = _; rw [Htk.out, List.all_append, Hall.out]; simp [hg]
          clear hg Hno
          go_simp
          refine wpAnyH_take (i := 3) rfl (by decide +kernel) (by decide +kernel) (by decide +kernel) (fun _ _ _ h => h) (Or.inl ⟨by kernel_rfl, fun W hW => by go_simp; with_reducible rfl⟩) hS ?_
          refine wpAnyH_take (i := 4) rfl (by decide +kernel) (by decide +kernel) (by decide +kernel) (fun _ _ _ h => h) (Or.inl ⟨by kernel_rfl, fun W hW => by go_simp; with_reducible rfl⟩) hS ?_
          go_simp
          refine wpAnyH_take (i := 5) rfl (by decide +kernel) (by decide +kernel) (by decide +kernel) (fun _ _ _ h => h) (Or.inl ⟨by kernel_rfl, fun W hW => by go_simp; with_reducible rfl⟩) hS ?_
          cases k with
          | zero =>
            go_simp
            refine wpAnyH_take (i := 6) rfl (by decide +kernel) (by decide +kernel) (by decide +kernel) (fun _ _ _ h => h) (Or.inl ⟨by kernel_rfl, fun W hW => by go_simp; with_reducible rfl⟩) hS ?_
            go_simp
            refine wpAnyH_take (i := 7) rfl (by decide +kernel) (by decide +kernel) (by decide +kernel) (fun _ _ _ h => h) (Or.inl ⟨by kernel_rfl, fun W hW => by go_simp; with_reducible rfl⟩) hS ?_
            go_simp
            refine wpAnyH_take (i := 8) rfl (by decide +kernel) (by decide +kernel) (by decide +kernel) (fun _ _ _ h => h) (Or.inr ⟨by kernel_rfl, rfl⟩) hS ?_
            refine wpAnyH_take (i := 9) rfl (by decide +kernel) (by decide +kernel) (by decide +kernel) (fun _ _ _ h => h) (Or.inr ⟨by kernel_rfl, rfl⟩) hS ?_
            refine wpAnyH_take (i := 10) rfl (by decide +kernel) (by decide +kernel) (by decide +kernel) (fun _ _ _ h => h) (Or.inr ⟨by kernel_rfl, rfl⟩) hS ?_
            refine wpAnyH_take (i := 11) rfl (by decide +kernel) (by decide +kernel) (by decide +kernel) (fun _ _ _ h => h) (Or.inr ⟨by kernel_rfl, rfl⟩) hS ?_
            refine wpAnyH_take (i := 12) rfl (by decide +kernel) (by decide +kernel) (by decide +kernel) (fun _ _ _ h => h) (Or.inr ⟨by kernel_rfl, rfl⟩) hS ?_
            refine wpAnyH_take (i := 13) rfl (by decide +kernel) (by decide +kernel) (by decide +kernel) (fun _ _ _ h => h) (Or.inr ⟨by kernel_rfl, rfl⟩) hS ?_
            refine wpAnyH_take (i := 14) rfl (by decide +kernel) (by decide +kernel) (by decide +kernel) (fun _ _ _ h => h) (Or.inr ⟨by kernel_rfl, rfl⟩) hS ?_
            refine wpAnyH_take (i := 15) rfl (by decide +kernel) (by decide +kernel) (by decide +kernel) (fun _ _ _ h => h) (Or.inr ⟨by kernel_rfl, rfl⟩) hS ?_
            refine wpAnyH_take (i := 16) rfl (by decide +kernel) (by decide +kernel) (by decide +kernel) (fun _ _ _ h => h) (Or.inr ⟨by kernel_rfl, rfl⟩) hS ?_
            refine wpAnyH_take (i := 17) rfl (by decide +kernel) (by decide +kernel) (by decide +kernel) (fun _ _ _ h => h) (Or.inl ⟨by kernel_rfl, fun W hW => by go_simp; with_reducible rfl⟩) hS ?_
            go_simp
            refine wpAnyH_take (i := 18) rfl (by decide +kernel) (by decide +kernel) (by decide +kernel) (fun _ _ _ h => h) (Or.inl ⟨by kernel_rfl, fun W hW => by go_simp; with_reducible rfl⟩) hS ?_
            go_simp
            refine wpAnyH_done (by decide +kernel) ?_ _
            go_wp2
            go_roundw
            case rel => exact ⟨1, by omega, by go_num, Hall2.out, risingF_one l, hF6.trans hS fun _ _ => id⟩
            case measure => (simp [intOf] <;> omega)
          | succ j =>
            obtain ⟨bb2, oo2, x2, y2, hAe2, _, gx2, _, hyr2, hcell2⟩ := ArrOf.at_ hR6.out (k := j) (by omega)
            injection hAe2 with hAe2
            injection hAe2 with hb2 ho2
            subst hb2 ho2
            obtain ⟨hy2, hxs2⟩ := hyr2
            have d0 : w6.cell? ⟨bb, oo + j * 33, none⟩ = some (.string x2.name) := by
              have := hcell2 0 (.string x2.name) (by rw [hy2]; rfl)
              simpa using this
            have hrt := risingF_take (f := refName) gx2 Gx.out
            rw [Hris.out, Bool.true_and] at hrt
            have hless : Op.bytesLess x2.name.toList x.name.toList = Op.bytesLess (refName x2) (refName x) := rfl
            have hwk : IntKind.i64.wrap (j : Int) = j := by rw [IntKind.wrap_i64]; omega
            have g0 : decide ((0 : Int) < (j : Int) + 1) = true := by simp only [decide_eq_true_eq]; omega
            have g1 : (0 : Int) ≤ (j : Int) := by omega
            have g2 : (j : Int) < (n : Int) := by omega
            have Hrt := Lib.hid hrt
            clear gx2 hy2 hcell2 hrt
            generalize Op.bytesLess (refName x2) (refName x) = bl at *
            go_simp
            refine wpAnyH_take (i := 6) rfl (by decide +kernel) (by decide +kernel) (by decide +kernel) (fun _ _ _ h => h) (Or.inl ⟨by kernel_rfl, fun W hW => by go_simp; with_reducible rfl⟩) hS ?_
            go_simp
            refine wpAnyH_take (i := 7) rfl (by decide +kernel) (by decide +kernel) (by decide +kernel) (fun _ _ _ h => h) (Or.inl ⟨by kernel_rfl, fun W hW => by go_simp; with_reducible rfl⟩) hS ?_
            go_simp
            refine wpAnyH_take (i := 8) rfl (by decide +kernel) (by decide +kernel) (by decide +kernel) (fun _ _ _ h => h) (Or.inl ⟨by kernel_rfl, fun W hW => by go_simp; with_reducible rfl⟩) hS ?_
            refine wpAnyH_take (i := 9) rfl (by decide +kernel) (by decide +kernel) (by decide +kernel) (fun _ _ _ h => h) (Or.inl ⟨by kernel_rfl, fun W hW => by go_simp; with_reducible rfl⟩) hS ?_
            go_simp
            refine wpAnyH_take (i := 10) rfl (by decide +kernel) (by decide +kernel) (by decide +kernel) (fun _ _ _ h => h) (Or.inl ⟨by kernel_rfl, fun W hW => by go_simp; with_reducible rfl⟩) hS ?_
            go_simp
            refine wpAnyH_take (i := 11) rfl (by decide +kernel) (by decide +kernel) (by decide +kernel) (fun _ _ _ h => h) (Or.inl ⟨by kernel_rfl, fun W hW => by go_simp; with_reducible rfl⟩) hS ?_
            go_simp
            refine wpAnyH_take (i := 12) rfl (by decide +kernel) (by decide +kernel) (by decide +kernel) (fun _ _ _ h => h) (Or.inl ⟨by kernel_rfl, fun W hW => by go_simp; with_reducible rfl⟩) hS ?_
            go_simp
            refine wpAnyH_take (i := 13) rfl (by decide +kernel) (by decide +kernel) (by decide +kernel) (fun _ _ _ h => h) (Or.inl ⟨by kernel_rfl, fun W hW => by have qq := hW.cell' d0 id; go_simp; with_reducible rfl⟩) hS ?_
            refine wpAnyH_take (i := 14) rfl (by decide +kernel) (by decide +kernel) (by decide +kernel) (fun _ _ _ h => h) (Or.inl ⟨by kernel_rfl, fun W hW => by go_simp; with_reducible rfl⟩) hS ?_
            go_simp
            refine wpAnyH_take (i := 15) rfl (by decide +kernel) (by decide +kernel) (by decide +kernel) (fun _ _ _ h => h) (Or.inl ⟨by kernel_rfl, fun W hW => by have qq := hW.cell' c0 id; go_simp; with_reducible rfl⟩) hS ?_
            go_simp
            refine wpAnyH_take (i := 16) rfl (by decide +kernel) (by decide +kernel) (by decide +kernel) (fun _ _ _ h => h) (Or.inl ⟨by kernel_rfl, fun W hW => by go_simp; with_reducible rfl⟩) hS ?_
            go_simp
            refine wpAnyH_take (i := 17) rfl (by decide +kernel) (by decide +kernel) (by decide +kernel) (fun _ _ _ h => h) (Or.inl ⟨by kernel_rfl, fun W hW => by go_simp; with_reducible rfl⟩) hS ?_
            go_simp
            refine wpAnyH_take (i := 18) rfl (by decide +kernel) (by decide +kernel) (by decide +kernel) (fun _ _ _ h => h) (Or.inl ⟨by kernel_rfl, fun W hW => by go_simp; with_reducible rfl⟩) hS ?_
            go_simp
            refine wpAnyH_done (by decide +kernel) ?_ _
            cases bl with
            | true =>
              go_wp2
              go_roundw
              case rel => exact ⟨j + 1 + 1, by omega, by go_num, Hall2.out, Hrt.out, hF6.trans hS fun _ _ => id⟩
              case measure => (simp [intOf] <;> omega)
            | false =>
              have hno : namedP l = false := by
                rw [Hdef.out]
                cases hr : risingF refName l with
                | false => rw [Bool.and_false]
                | true =>
                  have := risingF_mono (f := refName) l (j + 2) hr
                  rw [Hrt.out] at this
                  cases this
              have Hn := Lib.hid hno
              clear hno
              go_wp2
              go_ret
              exact ⟨ret_bool Hn.out.symm, hF6.trans hS fun _ _ => id⟩
      · have ha := Hall.out
        have hr := Hris.out
        rw [List.take_of_length_le (by rw [Hll.out]; omega)] at ha hr
        have He : Hid (namedP l = true) := by show _ = _; rw [Hdef.out, ha, hr]; rfl
        clear ha hr
        go_wp2
        go_ret
        exact ⟨ret_bool He.out.symm, hFr⟩
  · have b1 : decide (100 < (n : Int)) = true := by simp only [decide_eq_true_eq]; omega
    have He : Hid (namedP l = false) := by show _ = _; rw [namedP, Hll.out, decide_eq_false h1, Bool.false_and]
    clear h1
    go_enter Try.func108, Try.ntmps108
    go_wp2
    go_ret
    exact ⟨ret_bool He.out.symm, Fr.refl _ _⟩
end Go.Proofs.Ytnkfchondedfcaa
