/-
  Small bundles (tabulariumlaw34.few); bundles held against each other, as the document has it (tabulariumref32.SameBundle). Conditions: each contract states its own.
-/
import Derived.Test.YtnkfchondedfcaaVg
namespace Go.Proofs.Ytnkfchondedfcaa
open Go.RowKit

theorem take_snocE {α : Type} {l : List α} {k : Nat} {x : α} (h : l[k]? = some x) : l.take (k + 1) = l.take k ++ [x] := by
  obtain ⟨hk, rfl⟩ := List.getElem?_eq_some_iff.1 h
  exact List.take_succ_eq_append_getElem hk
theorem ne_atE {α : Type} {l m : List α} {k : Nat} {x y : α} (h : l[k]? = some x) (h2 : m[k]? = some y) (hne : x ≠ y) : l ≠ m := by
  rintro rfl
  rw [h] at h2
  injection h2 with h2
  exact hne h2
def fewBun (b : Bun) : Bool := b.objs.all (fun x => decide (x.length ≤ 1000)) && (b.refs.all (fun r => decide (r.name.size ≤ 200)) && (decide (b.refs.length ≤ 20) && decide (b.objs.length ≤ 30)))

set_option maxRecDepth 100000 in
set_option maxHeartbeats 2000000 in
theorem few34_any (w : World) (F : Nat → Prop) (y : List Value) (b : Bun) (hy : BunR w F y b) :
    Calls Try.prog 65 #[.agg y.toArray] w fun e w' => e = .returned (.bool (fewBun b)) ∧ Fr NoB w w' := by
  obtain ⟨A, n, c, B, m, d, rfl, hnc, hcm, hr, hmd, hdm, ho⟩ := hy
  have hn63 : n ≤ 9223372036854775807 := by unfold maxLen at hcm; omega
  have hm63 : m ≤ 9223372036854775807 := by unfold maxLen at hdm; omega
  have Hrl := Lib.hid hr.len
  have Hol := Lib.hid ho.len
  have hB0 : BunBlk (w.alloc (.cells (bunCells A n c B m d).toArray 112)) w.heap.size A n c B m d := ⟨Blk.new _ _ _⟩
  have hF1 : Fr NoB w (w.alloc (.cells (bunCells A n c B m d).toArray 112)) := (Fr.refl _ _).alloc _
  obtain ⟨yc, hyc⟩ : ∃ yc, yc = bunCells A n c B m d := ⟨_, rfl⟩
  rw [← hyc] at hB0 hF1 ⊢
  clear hyc
  obtain ⟨w1, hw1⟩ : ∃ w1, w1 = w.alloc (.cells yc.toArray 112) := ⟨_, rfl⟩
  have z1 := hB0.c1
  rw [← hw1] at hB0 hF1
  have Hw1 := Lib.hid hw1
  have hr1 := hr.fr hF1 fun _ _ => id
  have ho1 := ho.fr hF1 fun _ _ => id
  have q0 := hB0.c0
  have q1 := hB0.c1
  obtain ⟨g, hg⟩ : ∃ g, g = w.heap.size := ⟨_, rfl⟩
  rw [← hg] at hB0 q0 q1
  have Hg := Lib.hid hg
  clear hw1 hr ho hg
  go_enter Try.func65, Try.ntmps65
  go_wp2
  rw [← Hw1.out, ← Hg.out]
  clear z1
  go_loopw [10] (fun v wr => ∃ k : Nat, k ≤ m ∧ v = .int .i64 k ∧ (b.objs.take k).all (fun x => decide (x.length ≤ 1000)) = true ∧ Fr NoB w1 wr) (fun v _ => m - (intOf v).toNat)
  case atStart => exact ⟨0, by omega, rfl, rfl, Fr.refl _ _⟩
  case round =>
    obtain ⟨k, hk, rfl, hall, hF0⟩ := hrel
    obtain ⟨w2, rfl⟩ : ∃ w2 : World, w2 = wr := ⟨_, rfl⟩
    replace q0 := hF0.cell' q0 id
    replace q1 := hF0.cell' q1 id
    replace ho1 := ho1.fr hF0 fun _ _ => id
    replace hr1 := hr1.fr hF0 fun _ _ => id
    have hF2 := hF1.trans hF0 fun _ _ => id
    have Hall := Lib.hid hall
    clear hall
    by_cases hkm : k < m
    · obtain ⟨bb, oo, x, y, rfl, _, gx, _, ⟨X, p, e, hy, _, _, hb⟩, hcell⟩ := ArrOf.at_ ho1 hkm
      have c0 : w2.cell? ⟨bb, oo + k, none⟩ = some (.slice X p e) := by
        have := hcell 0 (.slice X p e) (by rw [hy]; rfl)
        simpa using this
      have Htk := Lib.hid (take_snocE gx)
      have Hmem := Lib.hid (List.mem_of_getElem? gx)
      have Hbl := Lib.hid hb.len
      clear gx hy hcell
      by_cases hx : p ≤ 1000
      · have b1 : decide (1000 < (p : Int)) = false := by simp only [decide_eq_false_iff_not]; omega
        have Hx := Lib.hid hx
        clear hx
        go_wp2
        go_roundw
        case rel => exact ⟨k + 1, by omega, by go_num, by rw [Htk.out, List.all_append, Hall.out]; simp [Hbl.out, Hx.out], hF0⟩
        case measure => (simp [intOf] <;> omega)
      · have b1 : decide (1000 < (p : Int)) = true := by simp only [decide_eq_true_eq]; omega
        have He : Hid (fewBun b = false) := by
          show _ = _
          have : b.objs.all (fun x => decide (x.length ≤ 1000)) = false := by rw [List.all_eq_false]; exact ⟨x, Hmem.out, by rw [Hbl.out]; simpa using hx⟩
          rw [fewBun, this, Bool.false_and]
        clear hx
        go_wp2
        go_ret
        exact ⟨ret_bool He.out.symm, hF2⟩
    · have ha := Hall.out
      rw [List.take_of_length_le (by rw [Hol.out]; omega)] at ha
      have Ha := Lib.hid ha
      clear ha
      go_wp2
      go_loopw [21] (fun v wr => ∃ k : Nat, k ≤ n ∧ v = .int .i64 k ∧ (b.refs.take k).all (fun r => decide (r.name.size ≤ 200)) = true ∧ Fr NoB w2 wr) (fun v _ => n - (intOf v).toNat)
      case atStart => exact ⟨0, by omega, rfl, rfl, Fr.refl _ _⟩
      case round =>
        obtain ⟨j, hj, rfl, hall, hFr⟩ := hrel
        obtain ⟨w4, rfl⟩ : ∃ w4 : World, w4 = wr := ⟨_, rfl⟩
        have Hal2 := Lib.hid hall
        clear hall
        by_cases hjn : j < n
        · obtain ⟨bb, oo, x, y, rfl, _, gx, _, ⟨hy, _⟩, hcell⟩ := ArrOf.at_ (hr1.fr hFr fun _ _ => id) hjn
          have hx33 : Hid (y.length = 33) := by show _ = _; rw [hy]; exact refCells_len x
          have hx33a : Hid (y.toArray.size = 33) := by show _ = _; rw [hy]; simp [refCells_len]
          have hx1 : Hid (y.toArray.all (·.oneCell') = true) := by show _ = _; rw [hy]; exact refCells_ones x
          have hB6 : RefBlk (w4.alloc (.cells y.toArray 162)) w4.heap.size x := by rw [hy]; exact ⟨Blk.new _ _ _⟩
          have c0 := hB6.c0
          have Htk := Lib.hid (take_snocE gx)
          have Hmem := Lib.hid (List.mem_of_getElem? gx)
          clear gx hy hB6
          by_cases hx : x.name.size ≤ 200
          · have b1 : decide (200 < (x.name.size : Int)) = false := by simp only [decide_eq_false_iff_not]; omega
            have Hx := Lib.hid hx
            clear hx
            go_wp2_with (first
              | (refine wpList_load_agg rfl 162 (.tmp 23) rfl bb (oo + j * 33) rfl y _ hcell Try.underlying162 rfl (by rw [hx33.out]; exact ref_size) ?_)
              | (refine wpList_alloc_any rfl 162 rfl 33 ref_zero ?_; intro z hz; have Hz := Lib.hid hz; clear hz)
              | (refine wpList_store_newN rfl 162 (.tmp 6) (.tmp 24) rfl 33 ref_size _ z Hz.out y.toArray rfl rfl hx33a.out hx1.out ?_))
            go_roundw
            case rel => exact ⟨j + 1, by omega, by go_num, by rw [Htk.out, List.all_append, Hal2.out]; simp [Hx.out], hFr.alloc _⟩
            case measure => (simp [intOf] <;> omega)
          · have b1 : decide (200 < (x.name.size : Int)) = true := by simp only [decide_eq_true_eq]; omega
            have He : Hid (fewBun b = false) := by
              show _ = _
              have : b.refs.all (fun r => decide (r.name.size ≤ 200)) = false := by rw [List.all_eq_false]; exact ⟨x, Hmem.out, by simpa using hx⟩
              rw [fewBun, this, Bool.false_and, Bool.and_false]
            clear hx
            go_wp2_with (first
              | (refine wpList_load_agg rfl 162 (.tmp 23) rfl bb (oo + j * 33) rfl y _ hcell Try.underlying162 rfl (by rw [hx33.out]; exact ref_size) ?_)
              | (refine wpList_alloc_any rfl 162 rfl 33 ref_zero ?_; intro z hz; have Hz := Lib.hid hz; clear hz)
              | (refine wpList_store_newN rfl 162 (.tmp 6) (.tmp 24) rfl 33 ref_size _ z Hz.out y.toArray rfl rfl hx33a.out hx1.out ?_))
            go_ret
            exact ⟨ret_bool He.out.symm, (hF2.trans hFr fun _ _ => id).alloc _⟩
        · have ha := Hal2.out
          rw [List.take_of_length_le (by rw [Hrl.out]; omega)] at ha
          have hdef : fewBun b = (decide (n ≤ 20) && decide (m ≤ 30)) := by rw [fewBun, Ha.out, ha, Hrl.out, Hol.out]; simp
          have Hdef := Lib.hid hdef
          have q0 := hFr.cell' q0 id
          have q1 := hFr.cell' q1 id
          clear ha hdef
          by_cases h1 : n ≤ 20
          · have c1 : decide ((n : Int) ≤ 20) = true := by simp only [decide_eq_true_eq]; omega
            by_cases h2 : m ≤ 30
            · have c2 : decide ((m : Int) ≤ 30) = true := by simp only [decide_eq_true_eq]; omega
              have He : Hid (fewBun b = true) := by show _ = _; rw [Hdef.out, decide_eq_true h1, decide_eq_true h2]; rfl
              clear h1 h2
              go_wp2
              go_ret
              exact ⟨ret_bool He.out.symm, hF2.trans hFr fun _ _ => id⟩
            · have c2 : decide ((m : Int) ≤ 30) = false := by simp only [decide_eq_false_iff_not]; omega
              have He : Hid (fewBun b = false) := by show _ = _; rw [Hdef.out, decide_eq_true h1, decide_eq_false h2]; rfl
              clear h1 h2
              go_wp2
              go_ret
              exact ⟨ret_bool He.out.symm, hF2.trans hFr fun _ _ => id⟩
          · have c1 : decide ((n : Int) ≤ 20) = false := by simp only [decide_eq_false_iff_not]; omega
            have He : Hid (fewBun b = false) := by show _ = _; rw [Hdef.out, decide_eq_false h1]; rfl
            clear h1
            go_wp2
            go_ret
            exact ⟨ret_bool He.out.symm, hF2.trans hFr fun _ _ => id⟩
end Go.Proofs.Ytnkfchondedfcaa
