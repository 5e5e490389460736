/-
  The statement LeakTurns (the walk): letters turned and turned back, a script that is renamed. Conditions: none but that the script can be read.
-/
import Derived.Test.YtnkfchondedfcaaTi
import Derived.Test.YtnkfchondedfcaaTe
namespace Go.Proofs.Ytnkfchondedfcaa
open Go.RowKit

theorem ScrIn.more {w : World} {B M : Nat} {p : ScrAt} {s : Scr} (h : ScrIn w (fun j => M ≤ j) p s) (hb : B ≤ M) : ScrIn w (fun j => B ≤ j) p s := by
  obtain ⟨⟨a1, b1, d1⟩, ⟨a5, b5, d5⟩, ⟨a6, b6, d6⟩, ⟨a7, b7, d7⟩, a8, b8, d8⟩ := h
  have hm : ∀ k, k < w.heap.size → M ≤ k → B ≤ k := fun k _ h => Nat.le_trans hb h
  exact ⟨⟨a1, b1, d1.more hm⟩, ⟨a5, b5, ArrOf.more d5 (by omega) hm fun _ _ _ h => h⟩, ⟨a6, b6, ArrOf.more d6 (by omega) hm fun _ _ _ h => h⟩, ⟨a7, b7, ArrOf.more d7 (by omega) hm fun _ _ _ h => h⟩, a8, b8, ArrOf.more d8 (by omega) hm fun _ _ _ h => h⟩
set_option maxRecDepth 100000 in
set_option maxHeartbeats 4000000 in
theorem LeakTurns_any (w : World) (t : ByteArray) (by_ : Int) (y : List Value) (s : Scr) (hy : ScrR w (fun k => k < w.heap.size) y s) :
    Calls Try.prog 3 #[.string t, .int .i64 by_, .agg y.toArray] w fun e w' => e = .returned (.bool true) ∧ Below w.heap.size w w' := by
  have hfin : ∀ w', Fr NoB w w' → Below w.heap.size w w' := fun w' h => Fr.below h (Nat.le_refl _) fun _ _ => id
  have Hfin := Lib.hid hfin
  obtain ⟨p, rfl, hin⟩ := hy
  obtain ⟨l1, l5, l6, l7, l8⟩ := Scr.lens hin
  have hB1 : ScrBlk (w.alloc (.cells (scrCells s p).toArray 28)) w.heap.size s p := ⟨Blk.new w _ _⟩
  have hF1 : Fr NoB w (w.alloc (.cells (scrCells s p).toArray 28)) := (Fr.refl _ _).alloc _
  have hI1 := hin.fr hF1 fun _ _ => id
  obtain ⟨B, hB⟩ : ∃ B, B = w.heap.size := ⟨_, rfl⟩
  obtain ⟨w1, hw1⟩ : ∃ w1, w1 = w.alloc (.cells (scrCells s p).toArray 28) := ⟨_, rfl⟩
  rw [← hw1] at hB1 hF1 hI1
  rw [← hB] at hB1
  have hsz1 : B + 1 ≤ w1.heap.size := by rw [hw1, hB]; simp
  obtain ⟨yc, hyc⟩ : ∃ yc, yc = scrCells s p := ⟨_, rfl⟩
  have hall := fun W (h : ScrBlk W B s p) => h.all
  rw [← hyc] at hw1 hall ⊢
  have H9l : Hid (yc.length = 9) := by show _ = _; rw [hyc]; rfl
  have Hyc := Lib.hid hyc
  have HB := Lib.hid hB
  have Hw1 := Lib.hid hw1
  have Hall := Lib.hid hall
  have hlow : ∀ j, j < w.heap.size → ¬ j = B := fun j hj e => by omega
  rw [← hB] at hI1
  clear hin hfin hall hyc hB hw1 hlow
  have hA : ∀ v, (Hid (v = w1)) → True := fun _ _ => trivial
  clear hA
  by_cases ht : t.size ≤ 300
  · have b0 : decide (300 < (t.size : Int)) = false := by simp only [decide_eq_false_iff_not]; omega
    cases hsm : scrSmall s with
    | false =>
      go_enter Try.func3, Try.ntmps3
      go_wp2_with (first
        | (go_at_call 18
           rw [← Hw1.out, ← HB.out]
           refine (awake31 _).mono ?_
           rintro e w2 ⟨rfl, hf2⟩
           have hB2 := hB1.fr hf2 id
           have hI2 := hI1.fr hf2 fun _ _ => id)
        | (refine wpList_load_aggG rfl 28 (.tmp 5) rfl B 0 rfl yc _ (Hall.out _ hB2) Try.underlying28 rfl (by rw [H9l.out]; exact scr_size) ?_)
        | (go_at_call 19
           refine (ScrSmall_any _ _ _ s ⟨p, Hyc.out, hI2⟩).mono ?_
           rintro e w3 ⟨rfl, hf3⟩
           rw [hsm]))
      go_ret
      exact ⟨rfl, Hfin.out _ ((hF1.trans hf2 fun _ _ => id).trans hf3 fun _ _ => id)⟩
    | true =>
      obtain ⟨s1, s2, s5, s6, s7, s8⟩ : s.draws.length ≤ 16000 ∧ s.sectors ≤ 1500 ∧ s.crashes.length ≤ 4 ∧ s.up.length ≤ 60 ∧ s.down.length ≤ 60 ∧ fewOps s.ops = true := by simpa [scrSmall] using hsm
      have s9 : s.ops.length ≤ 24 := by
        unfold fewOps at s8
        rw [Bool.and_eq_true, decide_eq_true_eq] at s8
        exact s8.2
      have Hsm : Hid (∀ a ∈ s.ops, opSmall a = true) := by
        show ∀ a ∈ s.ops, opSmall a = true
        unfold fewOps at s8
        rw [Bool.and_eq_true, List.all_eq_true] at s8
        exact s8.1
      clear s2 s8
      go_enter Try.func3, Try.ntmps3
      go_wp2_with (first
        | (go_at_call 18
           rw [← Hw1.out, ← HB.out]
           refine (awake31 _).mono ?_
           rintro e w2 ⟨rfl, hf2⟩
           have hB2 := hB1.fr hf2 id
           have hI2 := hI1.fr hf2 fun _ _ => id
           have hF2 := hF1.trans hf2 fun _ _ => id
           have hs2 := Nat.le_trans hsz1 hf2.size
           clear hf2 hB1 hI1 hF1 hsz1)
        | (refine wpList_load_aggG rfl 28 (.tmp 5) rfl B 0 rfl yc _ (Hall.out _ hB2) Try.underlying28 rfl (by rw [H9l.out]; exact scr_size) ?_)
        | (go_at_call 19
           refine (ScrSmall_any _ _ _ s ⟨p, Hyc.out, hI2⟩).mono ?_
           rintro e w3 ⟨rfl, hf3⟩
           rw [hsm]
           have hB3 := hB2.fr hf3 id
           have hI3 := hI2.fr hf3 fun _ _ => id
           have hF3 := hF2.trans hf3 fun _ _ => id
           have hs3 := Nat.le_trans hs2 hf3.size
           clear hf3 hB2 hI2 hF2 hs2)
        | (refine wpList_load_aggG rfl 28 (.tmp 5) rfl B 0 rfl yc _ (Hall.out _ hB3) Try.underlying28 rfl (by rw [H9l.out]; exact scr_size) ?_)
        | (go_at_call 20
           rw [Hyc.out]
           refine (Rename_any _ _ (fun j hj => by have := HB.out; omega) s p by_ hI3 (by omega) (by omega) (by omega) (by omega) (by omega)).mono ?_
           rintro e w4 ⟨p4, rfl, hf4, hJ4⟩
           have hB4 := hB3.fr hf4 id
           have hI4 := hI3.fr hf4 fun _ _ => id
           have hF4 := hF3.trans hf4 fun _ _ => id
           have hs4 := Nat.le_trans hs3 hf4.size
           replace hJ4 := hJ4.more hs3
           clear hf4 hB3 hI3 hF3 hs3)
        | (refine wpList_alloc_any rfl 28 rfl 9 scr_zero ?_; intro z hz; have Hz := Lib.hid hz; clear hz)
        | (refine wpList_store_newN rfl 28 (.tmp 7) (.tmp 24) rfl 9 scr_size _ z Hz.out (scrCells s p4).toArray rfl rfl rfl (scrCells_ones s p4) ?_
           obtain ⟨g7, hg7⟩ : ∃ g7, g7 = w4.heap.size := ⟨_, rfl⟩
           obtain ⟨w5, hw5⟩ : ∃ w5, w5 = w4.alloc (.cells (scrCells s p4).toArray 28) := ⟨_, rfl⟩
           have hfa : Fr NoB w4 w5 := by rw [hw5]; exact (Fr.refl _ _).alloc _
           have hB5 := hB4.fr hfa id
           have hI5 := hI4.fr hfa fun _ _ => id
           have hJ5 := hJ4.fr hfa fun _ _ => id
           have hF5 := hF4.trans hfa fun _ _ => id
           have hC5 : ScrBlk w5 g7 s p4 := by rw [hw5, hg7]; exact ⟨Blk.new _ _ _⟩
           have q8 := hB5.c8
           rw [← hw5]
           rw [← hg7]
           clear hfa hw5 hg7 hB4 hI4 hJ4 hF4 hs4))
      have hi8 := hI5.2.2.2.2.2.2
      go_loopw [8, 28] (fun v8 v28 wr => ∃ (m c : Nat) (A : Option Addr), m ≤ p.n8 ∧ v28 = .int .i64 m ∧ v8 = .slice A m c ∧ Own wr 34 7 A m c (((s.ops.take m).map (opTurn by_)).flatMap opCells) ∧ (∀ j, inB A j → w5.heap.size ≤ j) ∧ Fr NoB w5 wr) (fun _ v _ => p.n8 - (intOf v).toNat)
      case atStart => exact ⟨0, 0, none, by omega, rfl, rfl, by simpa using Own.nil _ _ _, fun j hj => absurd hj (inB_none j), Fr.refl _ _⟩
      case round =>
        obtain ⟨m, c, A, hmn, rfl, rfl, hO, hA, hFr⟩ := hrel
        obtain ⟨w6, rfl⟩ : ∃ w6 : World, w6 = wr := ⟨_, rfl⟩
        by_cases hml : m < p.n8
        · obtain ⟨bb, oo, a, y, hAe, _, ha, _, hyr, hcell⟩ := (hi8.fr hFr fun _ _ => id).at_ hml
          rw [hAe] at q8
          obtain ⟨rfl, _⟩ := hyr
          have hil : m < s.ops.length := by omega
          have hae : s.ops[m] = a := by rw [List.getElem?_eq_getElem hil] at ha; injection ha
          obtain ⟨o2, o3, o4, _⟩ : a.path.size ≤ 100 ∧ a.other.size ≤ 100 ∧ a.text.size ≤ 200 ∧ a.branch.size ≤ 100 := by simpa [opSmall] using Hsm.out a (hae ▸ List.getElem_mem _)
          have htk := opsTurned_take (k := by_) hil
          rw [hae] at htk
          have Htk := Lib.hid htk
          obtain ⟨oc, hoc⟩ : ∃ oc, oc = opCells a := ⟨_, rfl⟩
          rw [← hoc] at hcell
          have Hoc := Lib.hid hoc
          have H7 : Hid (oc.length = 7) := by show _ = _; rw [hoc]; rfl
          have H7a : Hid (oc.toArray.size = 7) := by show _ = _; rw [hoc]; rfl
          have H1a : Hid (oc.toArray.all (·.oneCell') = true) := by show _ = _; rw [hoc]; simp [opCells, Value.oneCell']
          clear ha htk hae hoc
          go_wp2_with (first
            | (refine wpList_load_agg rfl 34 (.tmp 30) rfl bb (oo + m * 7) rfl oc _ hcell Try.underlying34 rfl (by rw [H7.out]; exact op_size) ?_)
            | (refine wpList_alloc_any rfl 34 rfl 7 op_zero ?_; intro z7 hz7; have Hz7 := Lib.hid hz7; clear hz7)
            | (refine wpList_store_newN rfl 34 (.tmp 10) (.tmp 31) rfl 7 op_size _ z7 Hz7.out oc.toArray rfl rfl H7a.out H1a.out ?_
               obtain ⟨g, hg⟩ : ∃ g, g = w6.heap.size := ⟨_, rfl⟩
               obtain ⟨w7, hw7⟩ : ∃ w7, w7 = w6.alloc (.cells oc.toArray 34) := ⟨_, rfl⟩
               have hfa : Fr NoB w6 w7 := by rw [hw7]; exact (Fr.refl _ _).alloc _
               have hO7 := hO.fr hfa fun _ _ => id
               have hF7 := hFr.trans hfa fun _ _ => id
               have hP7 : OpBlk w7 g a := by rw [hw7, hg, Hoc.out]; exact ⟨Blk.new _ _ _⟩
               have hg5 : w5.heap.size ≤ g := by rw [hg]; exact hFr.size
               have hgA : ¬ inB A g := fun h => by have := hO.lt h; omega
               rw [← hw7]
               rw [← hg]
               clear hfa hw7 hg hO hFr))
          go_simp
          go_cut [] from 29 to 51 (fun W => OpBlk W g (opTurn by_ a) ∧ Fr (· = g) w7 W)
          case rest =>
            obtain ⟨hP8, hf8⟩ := hcut
            obtain ⟨w8, rfl⟩ : ∃ w8 : World, w8 = wc := ⟨_, rfl⟩
            have hO8 := hO7.fr hf8 fun j hj e => hgA (e ▸ hj)
            have hF8 := hF7.new hf8 fun j hj => .inr (by omega)
            have hs8 := hF8.size
            obtain ⟨od, hod⟩ : ∃ od, od = opCells (opTurn by_ a) := ⟨_, rfl⟩
            have K7 : Hid (od.length = 7) := by show _ = _; rw [hod]; rfl
            have K7a : Hid (od.toArray.size = 7) := by show _ = _; rw [hod]; rfl
            have K7b : Hid (od.toArray.size = 1 * 7) := by show _ = _; rw [hod]; rfl
            have K1 : Hid (∀ u ∈ od.toArray.toList, u.oneCell' = true) := by show ∀ _, _; rw [hod]; exact opCells_ones _
            have hcl : ∀ j u, od[j]? = some u → w8.cell? ⟨g, 0 + j, none⟩ = some u := fun j u hu => by rw [Nat.zero_add, hP8.blk.cell, ← hod]; simpa using hu
            have Hod := Lib.hid hod
            clear hod hO7 hF7 hcell hP7
            go_wp2_with (first
              | (refine wpList_load_agg rfl 34 (.tmp 10) rfl g 0 rfl od _ hcl Try.underlying34 rfl (by rw [K7.out]; exact op_size) ?_)
              | (refine wpList_build1 rfl el_op (by omega) (.tmp 48) rfl od.toArray rfl K7a.out ?_)
              | (at_builtin; refine wpList_app _ el_op rfl (.tmp 47) (.tmp 49) rfl A m c _ rfl (hO8.alloc _) _ _ 1 1 _ rfl (Arr.new _ _ od.toArray 1 7 K7b.out) K1.out (by omega) ?_; intro A2 c2 w9 hO9 hf9 hin9 hnil9))
            go_roundw
            case rel =>
              have s9' := hf9.size
              simp only [World.size_alloc] at s9' hin9
              refine ⟨_, _, _, ⟨m + 1, by omega, rfl, c2, A2, rfl, ?_, fun j hj => (hin9 j hj).elim (hA j) fun h => by omega, (hF8.alloc _).new hf9 fun j hj => .inr (hA j hj)⟩, rfl, rfl, by go_num⟩
              rw [← List.map_take, Htk.out, List.flatMap_append, List.flatMap_cons, List.flatMap_nil, List.append_nil, ← Hod.out]
              simpa using hO9
            case measure => simp [intOf]; omega
          case first =>
            refine wp_region_held (S := fun _ => True) rfl ?_
            have hT : Fr NoB w7 w7.drew := Fr.drew (Fr.refl _ _)
            refine wpAnyH_take (i := 0) rfl (by decide +kernel) (by decide +kernel) (by decide +kernel) (fun _ _ _ h => h) (Or.inl ⟨by kernel_rfl, fun W _ => by go_simp; with_reducible rfl⟩) trivial ?_
            refine wpAnyH_take (i := 2) rfl (by decide +kernel) (by decide +kernel) (by decide +kernel) (fun _ _ _ h => h) (Or.inl ⟨by kernel_rfl, fun W _ => by go_simp; with_reducible rfl⟩) trivial ?_
            refine wpAnyH_take (i := 4) rfl (by decide +kernel) (by decide +kernel) (by decide +kernel) (fun _ _ _ h => h) (Or.inl ⟨by kernel_rfl, fun W _ => by go_simp; with_reducible rfl⟩) trivial ?_
            go_simp
            refine wpAnyH_take (i := 6) rfl (by decide +kernel) (by decide +kernel) (by decide +kernel) (fun _ _ _ h => h) (Or.inl ⟨by kernel_rfl, fun W _ => by go_simp; with_reducible rfl⟩) trivial ?_
            refine wpAnyH_take (i := 8) rfl (by decide +kernel) (by decide +kernel) (by decide +kernel) (fun _ _ _ h => h) (Or.inl ⟨by kernel_rfl, fun W _ => by go_simp; with_reducible rfl⟩) trivial ?_
            refine wpAnyH_take (i := 10) rfl (by decide +kernel) (by decide +kernel) (by decide +kernel) (fun _ _ _ h => h) (Or.inl ⟨by kernel_rfl, fun W _ => by go_simp; with_reducible rfl⟩) trivial ?_
            go_simp
            refine wpAnyH_all (rs := [1, 5, 9]) (by decide +kernel) (by simp) ?_
            intro i hi
            simp only [List.mem_cons, List.not_mem_nil, or_false] at hi
            rcases hi with rfl | rfl | rfl
            · have qx := (hP7.fr hT id).c3
              refine wpOp_run (v := .string a.path) (w' := w7.drew) rfl (by kernel_rfl) (by go_simp) ⟨trivial, ?_⟩
              clear qx
              go_simp
              refine wpAnyH_all (rs := [3, 5, 9]) (by decide +kernel) (by simp) ?_
              intro i hi
              simp only [List.mem_cons, List.not_mem_nil, or_false] at hi
              rcases hi with rfl | rfl | rfl
              · refine wpOp_call rfl rfl 21 (enters_of Try.func21 (by kernel_rfl) rfl) #[.tmp 33, .tmp 34] _ rfl _ rfl (refTurnS_any w7.drew a.path by_ (by omega)) ?_
                rintro e x1 ⟨rfl, hf⟩
                refine ⟨_, rfl, trivial, ?_⟩
                replace hT := hT.trans hf fun _ _ => id
                clear hf
                go_simp
                refine wpAnyH_all (rs := [5, 9]) (by decide +kernel) (by simp) ?_
                intro i hi
                simp only [List.mem_cons, List.not_mem_nil, or_false] at hi
                rcases hi with rfl | rfl
                · have qx := (hP7.fr hT id).c4
                  refine wpOp_run (v := .string a.other) (w' := x1) rfl (by kernel_rfl) (by go_simp) ⟨trivial, ?_⟩
                  clear qx
                  go_simp
                  refine wpAnyH_all (rs := [7, 9]) (by decide +kernel) (by simp) ?_
                  intro i hi
                  simp only [List.mem_cons, List.not_mem_nil, or_false] at hi
                  rcases hi with rfl | rfl
                  · refine wpOp_call rfl rfl 21 (enters_of Try.func21 (by kernel_rfl) rfl) #[.tmp 37, .tmp 38] _ rfl _ rfl (refTurnS_any x1 a.other by_ (by omega)) ?_
                    rintro e x2 ⟨rfl, hf⟩
                    refine ⟨_, rfl, trivial, ?_⟩
                    replace hT := hT.trans hf fun _ _ => id
                    clear hf
                    go_simp
                    refine wpAnyH_all (rs := [9]) (by decide +kernel) (by simp) ?_
                    intro i hi
                    simp only [List.mem_cons, List.not_mem_nil, or_false] at hi
                    subst hi
                    have qx := (hP7.fr hT id).c5
                    refine wpOp_run (v := .string a.text) (w' := x2) rfl (by kernel_rfl) (by go_simp) ⟨trivial, ?_⟩
                    clear qx
                    go_simp
                    refine wpAnyH_take (i := 12) rfl (by decide +kernel) (by decide +kernel) (by decide +kernel) (fun _ _ _ h => h) (Or.inl ⟨by kernel_rfl, fun W _ => by go_simp; with_reducible rfl⟩) trivial ?_
                    go_simp
                    refine wpAnyH_all (rs := [11]) (by decide +kernel) (by simp) ?_
                    intro i hi
                    simp only [List.mem_cons, List.not_mem_nil, or_false] at hi
                    subst hi
                    refine wpOp_call rfl rfl 21 (enters_of Try.func21 (by kernel_rfl) rfl) #[.tmp 41, .tmp 42] _ rfl _ rfl (refTurnS_any x2 a.text by_ (by omega)) ?_
                    rintro e x3 ⟨rfl, hf⟩
                    refine ⟨_, rfl, trivial, ?_⟩
                    replace hT := hT.trans hf fun _ _ => id
                    clear hf
                    go_simp
                    have hf3 : Fr (· = g) w7 x3 := hT.mono fun _ _ h => h.elim
                    have hR3 := hP7.fr hT id
                    clear hT
                    refine wpAnyH_all (rs := [13]) (by decide +kernel) (by simp) ?_
                    intro i hi
                    simp only [List.mem_cons, List.not_mem_nil, or_false] at hi
                    subst hi
                    have qx := hR3.c3
                    have qf := hR3.blk.frozen 3
                    refine wpOp_skip (w' := x3.setCell ⟨g, 3, none⟩ (.string (turnS by_ a.path))) rfl (by kernel_rfl) (by go_simp) ⟨trivial, ?_⟩
                    clear qx qf
                    replace hR3 := hR3.s3 (turnS by_ a.path)
                    replace hf3 := hf3.at_ 3 (.string (turnS by_ a.path))
                    go_simp
                    refine wpAnyH_take (i := 14) rfl (by decide +kernel) (by decide +kernel) (by decide +kernel) (fun _ _ _ h => h) (Or.inl ⟨by kernel_rfl, fun W _ => by go_simp; with_reducible rfl⟩) trivial ?_
                    go_simp
                    refine wpAnyH_all (rs := [15]) (by decide +kernel) (by simp) ?_
                    intro i hi
                    simp only [List.mem_cons, List.not_mem_nil, or_false] at hi
                    subst hi
                    have qx := hR3.c4
                    have qf := hR3.blk.frozen 4
                    refine wpOp_skip (w' := (x3.setCell ⟨g, 3, none⟩ (.string (turnS by_ a.path))).setCell ⟨g, 4, none⟩ (.string (turnS by_ a.other))) rfl (by kernel_rfl) (by go_simp) ⟨trivial, ?_⟩
                    clear qx qf
                    replace hR3 := hR3.s4 (turnS by_ a.other)
                    replace hf3 := hf3.at_ 4 (.string (turnS by_ a.other))
                    go_simp
                    refine wpAnyH_take (i := 16) rfl (by decide +kernel) (by decide +kernel) (by decide +kernel) (fun _ _ _ h => h) (Or.inl ⟨by kernel_rfl, fun W _ => by go_simp; with_reducible rfl⟩) trivial ?_
                    go_simp
                    refine wpAnyH_all (rs := [17]) (by decide +kernel) (by simp) ?_
                    intro i hi
                    simp only [List.mem_cons, List.not_mem_nil, or_false] at hi
                    subst hi
                    have qx := hR3.c5
                    have qf := hR3.blk.frozen 5
                    refine wpOp_skip (w' := ((x3.setCell ⟨g, 3, none⟩ (.string (turnS by_ a.path))).setCell ⟨g, 4, none⟩ (.string (turnS by_ a.other))).setCell ⟨g, 5, none⟩ (.string (turnS by_ a.text))) rfl (by kernel_rfl) (by go_simp) ⟨trivial, ?_⟩
                    clear qx qf
                    replace hR3 := hR3.s5 (turnS by_ a.text)
                    replace hf3 := hf3.at_ 5 (.string (turnS by_ a.text))
                    go_simp
                    refine wpAnyH_done (by decide +kernel) ?_ _
                    go_wp2
                    go_meet
                    case rel => exact ⟨hR3, hf3⟩
                  · have qx := (hP7.fr hT id).c5
                    refine wpOp_run (v := .string a.text) (w' := x1) rfl (by kernel_rfl) (by go_simp) ⟨trivial, ?_⟩
                    clear qx
                    go_simp
                    refine wpAnyH_take (i := 12) rfl (by decide +kernel) (by decide +kernel) (by decide +kernel) (fun _ _ _ h => h) (Or.inl ⟨by kernel_rfl, fun W _ => by go_simp; with_reducible rfl⟩) trivial ?_
                    go_simp
                    refine wpAnyH_all (rs := [7]) (by decide +kernel) (by simp) ?_
                    intro i hi
                    simp only [List.mem_cons, List.not_mem_nil, or_false] at hi
                    subst hi
                    refine wpOp_call rfl rfl 21 (enters_of Try.func21 (by kernel_rfl) rfl) #[.tmp 37, .tmp 38] _ rfl _ rfl (refTurnS_any x1 a.other by_ (by omega)) ?_
                    rintro e x2 ⟨rfl, hf⟩
                    refine ⟨_, rfl, trivial, ?_⟩
                    replace hT := hT.trans hf fun _ _ => id
                    clear hf
                    go_simp
                    refine wpAnyH_all (rs := [11]) (by decide +kernel) (by simp) ?_
                    intro i hi
                    simp only [List.mem_cons, List.not_mem_nil, or_false] at hi
                    subst hi
                    refine wpOp_call rfl rfl 21 (enters_of Try.func21 (by kernel_rfl) rfl) #[.tmp 41, .tmp 42] _ rfl _ rfl (refTurnS_any x2 a.text by_ (by omega)) ?_
                    rintro e x3 ⟨rfl, hf⟩
                    refine ⟨_, rfl, trivial, ?_⟩
                    replace hT := hT.trans hf fun _ _ => id
                    clear hf
                    go_simp
                    have hf3 : Fr (· = g) w7 x3 := hT.mono fun _ _ h => h.elim
                    have hR3 := hP7.fr hT id
                    clear hT
                    refine wpAnyH_all (rs := [13]) (by decide +kernel) (by simp) ?_
                    intro i hi
                    simp only [List.mem_cons, List.not_mem_nil, or_false] at hi
                    subst hi
                    have qx := hR3.c3
                    have qf := hR3.blk.frozen 3
                    refine wpOp_skip (w' := x3.setCell ⟨g, 3, none⟩ (.string (turnS by_ a.path))) rfl (by kernel_rfl) (by go_simp) ⟨trivial, ?_⟩
                    clear qx qf
                    replace hR3 := hR3.s3 (turnS by_ a.path)
                    replace hf3 := hf3.at_ 3 (.string (turnS by_ a.path))
                    go_simp
                    refine wpAnyH_take (i := 14) rfl (by decide +kernel) (by decide +kernel) (by decide +kernel) (fun _ _ _ h => h) (Or.inl ⟨by kernel_rfl, fun W _ => by go_simp; with_reducible rfl⟩) trivial ?_
                    go_simp
                    refine wpAnyH_all (rs := [15]) (by decide +kernel) (by simp) ?_
                    intro i hi
                    simp only [List.mem_cons, List.not_mem_nil, or_false] at hi
                    subst hi
                    have qx := hR3.c4
                    have qf := hR3.blk.frozen 4
                    refine wpOp_skip (w' := (x3.setCell ⟨g, 3, none⟩ (.string (turnS by_ a.path))).setCell ⟨g, 4, none⟩ (.string (turnS by_ a.other))) rfl (by kernel_rfl) (by go_simp) ⟨trivial, ?_⟩
                    clear qx qf
                    replace hR3 := hR3.s4 (turnS by_ a.other)
                    replace hf3 := hf3.at_ 4 (.string (turnS by_ a.other))
                    go_simp
                    refine wpAnyH_take (i := 16) rfl (by decide +kernel) (by decide +kernel) (by decide +kernel) (fun _ _ _ h => h) (Or.inl ⟨by kernel_rfl, fun W _ => by go_simp; with_reducible rfl⟩) trivial ?_
                    go_simp
                    refine wpAnyH_all (rs := [17]) (by decide +kernel) (by simp) ?_
                    intro i hi
                    simp only [List.mem_cons, List.not_mem_nil, or_false] at hi
                    subst hi
                    have qx := hR3.c5
                    have qf := hR3.blk.frozen 5
                    refine wpOp_skip (w' := ((x3.setCell ⟨g, 3, none⟩ (.string (turnS by_ a.path))).setCell ⟨g, 4, none⟩ (.string (turnS by_ a.other))).setCell ⟨g, 5, none⟩ (.string (turnS by_ a.text))) rfl (by kernel_rfl) (by go_simp) ⟨trivial, ?_⟩
                    clear qx qf
                    replace hR3 := hR3.s5 (turnS by_ a.text)
                    replace hf3 := hf3.at_ 5 (.string (turnS by_ a.text))
                    go_simp
                    refine wpAnyH_done (by decide +kernel) ?_ _
                    go_wp2
                    go_meet
                    case rel => exact ⟨hR3, hf3⟩
                · have qx := (hP7.fr hT id).c5
                  refine wpOp_run (v := .string a.text) (w' := x1) rfl (by kernel_rfl) (by go_simp) ⟨trivial, ?_⟩
                  clear qx
                  go_simp
                  refine wpAnyH_all (rs := [5]) (by decide +kernel) (by simp) ?_
                  intro i hi
                  simp only [List.mem_cons, List.not_mem_nil, or_false] at hi
                  subst hi
                  have qx := (hP7.fr hT id).c4
                  refine wpOp_run (v := .string a.other) (w' := x1) rfl (by kernel_rfl) (by go_simp) ⟨trivial, ?_⟩
                  clear qx
                  go_simp
                  refine wpAnyH_take (i := 12) rfl (by decide +kernel) (by decide +kernel) (by decide +kernel) (fun _ _ _ h => h) (Or.inl ⟨by kernel_rfl, fun W _ => by go_simp; with_reducible rfl⟩) trivial ?_
                  go_simp
                  refine wpAnyH_all (rs := [7]) (by decide +kernel) (by simp) ?_
                  intro i hi
                  simp only [List.mem_cons, List.not_mem_nil, or_false] at hi
                  subst hi
                  refine wpOp_call rfl rfl 21 (enters_of Try.func21 (by kernel_rfl) rfl) #[.tmp 37, .tmp 38] _ rfl _ rfl (refTurnS_any x1 a.other by_ (by omega)) ?_
                  rintro e x2 ⟨rfl, hf⟩
                  refine ⟨_, rfl, trivial, ?_⟩
                  replace hT := hT.trans hf fun _ _ => id
                  clear hf
                  go_simp
                  refine wpAnyH_all (rs := [11]) (by decide +kernel) (by simp) ?_
                  intro i hi
                  simp only [List.mem_cons, List.not_mem_nil, or_false] at hi
                  subst hi
                  refine wpOp_call rfl rfl 21 (enters_of Try.func21 (by kernel_rfl) rfl) #[.tmp 41, .tmp 42] _ rfl _ rfl (refTurnS_any x2 a.text by_ (by omega)) ?_
                  rintro e x3 ⟨rfl, hf⟩
                  refine ⟨_, rfl, trivial, ?_⟩
                  replace hT := hT.trans hf fun _ _ => id
                  clear hf
                  go_simp
                  have hf3 : Fr (· = g) w7 x3 := hT.mono fun _ _ h => h.elim
                  have hR3 := hP7.fr hT id
                  clear hT
                  refine wpAnyH_all (rs := [13]) (by decide +kernel) (by simp) ?_
                  intro i hi
                  simp only [List.mem_cons, List.not_mem_nil, or_false] at hi
                  subst hi
                  have qx := hR3.c3
                  have qf := hR3.blk.frozen 3
                  refine wpOp_skip (w' := x3.setCell ⟨g, 3, none⟩ (.string (turnS by_ a.path))) rfl (by kernel_rfl) (by go_simp) ⟨trivial, ?_⟩
                  clear qx qf
                  replace hR3 := hR3.s3 (turnS by_ a.path)
                  replace hf3 := hf3.at_ 3 (.string (turnS by_ a.path))
                  go_simp
                  refine wpAnyH_take (i := 14) rfl (by decide +kernel) (by decide +kernel) (by decide +kernel) (fun _ _ _ h => h) (Or.inl ⟨by kernel_rfl, fun W _ => by go_simp; with_reducible rfl⟩) trivial ?_
                  go_simp
                  refine wpAnyH_all (rs := [15]) (by decide +kernel) (by simp) ?_
                  intro i hi
                  simp only [List.mem_cons, List.not_mem_nil, or_false] at hi
                  subst hi
                  have qx := hR3.c4
                  have qf := hR3.blk.frozen 4
                  refine wpOp_skip (w' := (x3.setCell ⟨g, 3, none⟩ (.string (turnS by_ a.path))).setCell ⟨g, 4, none⟩ (.string (turnS by_ a.other))) rfl (by kernel_rfl) (by go_simp) ⟨trivial, ?_⟩
                  clear qx qf
                  replace hR3 := hR3.s4 (turnS by_ a.other)
                  replace hf3 := hf3.at_ 4 (.string (turnS by_ a.other))
                  go_simp
                  refine wpAnyH_take (i := 16) rfl (by decide +kernel) (by decide +kernel) (by decide +kernel) (fun _ _ _ h => h) (Or.inl ⟨by kernel_rfl, fun W _ => by go_simp; with_reducible rfl⟩) trivial ?_
                  go_simp
                  refine wpAnyH_all (rs := [17]) (by decide +kernel) (by simp) ?_
                  intro i hi
                  simp only [List.mem_cons, List.not_mem_nil, or_false] at hi
                  subst hi
                  have qx := hR3.c5
                  have qf := hR3.blk.frozen 5
                  refine wpOp_skip (w' := ((x3.setCell ⟨g, 3, none⟩ (.string (turnS by_ a.path))).setCell ⟨g, 4, none⟩ (.string (turnS by_ a.other))).setCell ⟨g, 5, none⟩ (.string (turnS by_ a.text))) rfl (by kernel_rfl) (by go_simp) ⟨trivial, ?_⟩
                  clear qx qf
                  replace hR3 := hR3.s5 (turnS by_ a.text)
                  replace hf3 := hf3.at_ 5 (.string (turnS by_ a.text))
                  go_simp
                  refine wpAnyH_done (by decide +kernel) ?_ _
                  go_wp2
                  go_meet
                  case rel => exact ⟨hR3, hf3⟩
              · have qx := (hP7.fr hT id).c4
                refine wpOp_run (v := .string a.other) (w' := w7.drew) rfl (by kernel_rfl) (by go_simp) ⟨trivial, ?_⟩
                clear qx
                go_simp
                refine wpAnyH_all (rs := [3, 9]) (by decide +kernel) (by simp) ?_
                intro i hi
                simp only [List.mem_cons, List.not_mem_nil, or_false] at hi
                rcases hi with rfl | rfl
                · refine wpOp_call rfl rfl 21 (enters_of Try.func21 (by kernel_rfl) rfl) #[.tmp 33, .tmp 34] _ rfl _ rfl (refTurnS_any w7.drew a.path by_ (by omega)) ?_
                  rintro e x1 ⟨rfl, hf⟩
                  refine ⟨_, rfl, trivial, ?_⟩
                  replace hT := hT.trans hf fun _ _ => id
                  clear hf
                  go_simp
                  refine wpAnyH_all (rs := [7, 9]) (by decide +kernel) (by simp) ?_
                  intro i hi
                  simp only [List.mem_cons, List.not_mem_nil, or_false] at hi
                  rcases hi with rfl | rfl
                  · refine wpOp_call rfl rfl 21 (enters_of Try.func21 (by kernel_rfl) rfl) #[.tmp 37, .tmp 38] _ rfl _ rfl (refTurnS_any x1 a.other by_ (by omega)) ?_
                    rintro e x2 ⟨rfl, hf⟩
                    refine ⟨_, rfl, trivial, ?_⟩
                    replace hT := hT.trans hf fun _ _ => id
                    clear hf
                    go_simp
                    refine wpAnyH_all (rs := [9]) (by decide +kernel) (by simp) ?_
                    intro i hi
                    simp only [List.mem_cons, List.not_mem_nil, or_false] at hi
                    subst hi
                    have qx := (hP7.fr hT id).c5
                    refine wpOp_run (v := .string a.text) (w' := x2) rfl (by kernel_rfl) (by go_simp) ⟨trivial, ?_⟩
                    clear qx
                    go_simp
                    refine wpAnyH_take (i := 12) rfl (by decide +kernel) (by decide +kernel) (by decide +kernel) (fun _ _ _ h => h) (Or.inl ⟨by kernel_rfl, fun W _ => by go_simp; with_reducible rfl⟩) trivial ?_
                    go_simp
                    refine wpAnyH_all (rs := [11]) (by decide +kernel) (by simp) ?_
                    intro i hi
                    simp only [List.mem_cons, List.not_mem_nil, or_false] at hi
                    subst hi
                    refine wpOp_call rfl rfl 21 (enters_of Try.func21 (by kernel_rfl) rfl) #[.tmp 41, .tmp 42] _ rfl _ rfl (refTurnS_any x2 a.text by_ (by omega)) ?_
                    rintro e x3 ⟨rfl, hf⟩
                    refine ⟨_, rfl, trivial, ?_⟩
                    replace hT := hT.trans hf fun _ _ => id
                    clear hf
                    go_simp
                    have hf3 : Fr (· = g) w7 x3 := hT.mono fun _ _ h => h.elim
                    have hR3 := hP7.fr hT id
                    clear hT
                    refine wpAnyH_all (rs := [13]) (by decide +kernel) (by simp) ?_
                    intro i hi
                    simp only [List.mem_cons, List.not_mem_nil, or_false] at hi
                    subst hi
                    have qx := hR3.c3
                    have qf := hR3.blk.frozen 3
                    refine wpOp_skip (w' := x3.setCell ⟨g, 3, none⟩ (.string (turnS by_ a.path))) rfl (by kernel_rfl) (by go_simp) ⟨trivial, ?_⟩
                    clear qx qf
                    replace hR3 := hR3.s3 (turnS by_ a.path)
                    replace hf3 := hf3.at_ 3 (.string (turnS by_ a.path))
                    go_simp
                    refine wpAnyH_take (i := 14) rfl (by decide +kernel) (by decide +kernel) (by decide +kernel) (fun _ _ _ h => h) (Or.inl ⟨by kernel_rfl, fun W _ => by go_simp; with_reducible rfl⟩) trivial ?_
                    go_simp
                    refine wpAnyH_all (rs := [15]) (by decide +kernel) (by simp) ?_
                    intro i hi
                    simp only [List.mem_cons, List.not_mem_nil, or_false] at hi
                    subst hi
                    have qx := hR3.c4
                    have qf := hR3.blk.frozen 4
                    refine wpOp_skip (w' := (x3.setCell ⟨g, 3, none⟩ (.string (turnS by_ a.path))).setCell ⟨g, 4, none⟩ (.string (turnS by_ a.other))) rfl (by kernel_rfl) (by go_simp) ⟨trivial, ?_⟩
                    clear qx qf
                    replace hR3 := hR3.s4 (turnS by_ a.other)
                    replace hf3 := hf3.at_ 4 (.string (turnS by_ a.other))
                    go_simp
                    refine wpAnyH_take (i := 16) rfl (by decide +kernel) (by decide +kernel) (by decide +kernel) (fun _ _ _ h => h) (Or.inl ⟨by kernel_rfl, fun W _ => by go_simp; with_reducible rfl⟩) trivial ?_
                    go_simp
                    refine wpAnyH_all (rs := [17]) (by decide +kernel) (by simp) ?_
                    intro i hi
                    simp only [List.mem_cons, List.not_mem_nil, or_false] at hi
                    subst hi
                    have qx := hR3.c5
                    have qf := hR3.blk.frozen 5
                    refine wpOp_skip (w' := ((x3.setCell ⟨g, 3, none⟩ (.string (turnS by_ a.path))).setCell ⟨g, 4, none⟩ (.string (turnS by_ a.other))).setCell ⟨g, 5, none⟩ (.string (turnS by_ a.text))) rfl (by kernel_rfl) (by go_simp) ⟨trivial, ?_⟩
                    clear qx qf
                    replace hR3 := hR3.s5 (turnS by_ a.text)
                    replace hf3 := hf3.at_ 5 (.string (turnS by_ a.text))
                    go_simp
                    refine wpAnyH_done (by decide +kernel) ?_ _
                    go_wp2
                    go_meet
                    case rel => exact ⟨hR3, hf3⟩
                  · have qx := (hP7.fr hT id).c5
                    refine wpOp_run (v := .string a.text) (w' := x1) rfl (by kernel_rfl) (by go_simp) ⟨trivial, ?_⟩
                    clear qx
                    go_simp
                    refine wpAnyH_take (i := 12) rfl (by decide +kernel) (by decide +kernel) (by decide +kernel) (fun _ _ _ h => h) (Or.inl ⟨by kernel_rfl, fun W _ => by go_simp; with_reducible rfl⟩) trivial ?_
                    go_simp
                    refine wpAnyH_all (rs := [7]) (by decide +kernel) (by simp) ?_
                    intro i hi
                    simp only [List.mem_cons, List.not_mem_nil, or_false] at hi
                    subst hi
                    refine wpOp_call rfl rfl 21 (enters_of Try.func21 (by kernel_rfl) rfl) #[.tmp 37, .tmp 38] _ rfl _ rfl (refTurnS_any x1 a.other by_ (by omega)) ?_
                    rintro e x2 ⟨rfl, hf⟩
                    refine ⟨_, rfl, trivial, ?_⟩
                    replace hT := hT.trans hf fun _ _ => id
                    clear hf
                    go_simp
                    refine wpAnyH_all (rs := [11]) (by decide +kernel) (by simp) ?_
                    intro i hi
                    simp only [List.mem_cons, List.not_mem_nil, or_false] at hi
                    subst hi
                    refine wpOp_call rfl rfl 21 (enters_of Try.func21 (by kernel_rfl) rfl) #[.tmp 41, .tmp 42] _ rfl _ rfl (refTurnS_any x2 a.text by_ (by omega)) ?_
                    rintro e x3 ⟨rfl, hf⟩
                    refine ⟨_, rfl, trivial, ?_⟩
                    replace hT := hT.trans hf fun _ _ => id
                    clear hf
                    go_simp
                    have hf3 : Fr (· = g) w7 x3 := hT.mono fun _ _ h => h.elim
                    have hR3 := hP7.fr hT id
                    clear hT
                    refine wpAnyH_all (rs := [13]) (by decide +kernel) (by simp) ?_
                    intro i hi
                    simp only [List.mem_cons, List.not_mem_nil, or_false] at hi
                    subst hi
                    have qx := hR3.c3
                    have qf := hR3.blk.frozen 3
                    refine wpOp_skip (w' := x3.setCell ⟨g, 3, none⟩ (.string (turnS by_ a.path))) rfl (by kernel_rfl) (by go_simp) ⟨trivial, ?_⟩
                    clear qx qf
                    replace hR3 := hR3.s3 (turnS by_ a.path)
                    replace hf3 := hf3.at_ 3 (.string (turnS by_ a.path))
                    go_simp
                    refine wpAnyH_take (i := 14) rfl (by decide +kernel) (by decide +kernel) (by decide +kernel) (fun _ _ _ h => h) (Or.inl ⟨by kernel_rfl, fun W _ => by go_simp; with_reducible rfl⟩) trivial ?_
                    go_simp
                    refine wpAnyH_all (rs := [15]) (by decide +kernel) (by simp) ?_
                    intro i hi
                    simp only [List.mem_cons, List.not_mem_nil, or_false] at hi
                    subst hi
                    have qx := hR3.c4
                    have qf := hR3.blk.frozen 4
                    refine wpOp_skip (w' := (x3.setCell ⟨g, 3, none⟩ (.string (turnS by_ a.path))).setCell ⟨g, 4, none⟩ (.string (turnS by_ a.other))) rfl (by kernel_rfl) (by go_simp) ⟨trivial, ?_⟩
                    clear qx qf
                    replace hR3 := hR3.s4 (turnS by_ a.other)
                    replace hf3 := hf3.at_ 4 (.string (turnS by_ a.other))
                    go_simp
                    refine wpAnyH_take (i := 16) rfl (by decide +kernel) (by decide +kernel) (by decide +kernel) (fun _ _ _ h => h) (Or.inl ⟨by kernel_rfl, fun W _ => by go_simp; with_reducible rfl⟩) trivial ?_
                    go_simp
                    refine wpAnyH_all (rs := [17]) (by decide +kernel) (by simp) ?_
                    intro i hi
                    simp only [List.mem_cons, List.not_mem_nil, or_false] at hi
                    subst hi
                    have qx := hR3.c5
                    have qf := hR3.blk.frozen 5
                    refine wpOp_skip (w' := ((x3.setCell ⟨g, 3, none⟩ (.string (turnS by_ a.path))).setCell ⟨g, 4, none⟩ (.string (turnS by_ a.other))).setCell ⟨g, 5, none⟩ (.string (turnS by_ a.text))) rfl (by kernel_rfl) (by go_simp) ⟨trivial, ?_⟩
                    clear qx qf
                    replace hR3 := hR3.s5 (turnS by_ a.text)
                    replace hf3 := hf3.at_ 5 (.string (turnS by_ a.text))
                    go_simp
                    refine wpAnyH_done (by decide +kernel) ?_ _
                    go_wp2
                    go_meet
                    case rel => exact ⟨hR3, hf3⟩
                · have qx := (hP7.fr hT id).c5
                  refine wpOp_run (v := .string a.text) (w' := w7.drew) rfl (by kernel_rfl) (by go_simp) ⟨trivial, ?_⟩
                  clear qx
                  go_simp
                  refine wpAnyH_all (rs := [3]) (by decide +kernel) (by simp) ?_
                  intro i hi
                  simp only [List.mem_cons, List.not_mem_nil, or_false] at hi
                  subst hi
                  refine wpOp_call rfl rfl 21 (enters_of Try.func21 (by kernel_rfl) rfl) #[.tmp 33, .tmp 34] _ rfl _ rfl (refTurnS_any w7.drew a.path by_ (by omega)) ?_
                  rintro e x1 ⟨rfl, hf⟩
                  refine ⟨_, rfl, trivial, ?_⟩
                  replace hT := hT.trans hf fun _ _ => id
                  clear hf
                  go_simp
                  refine wpAnyH_take (i := 12) rfl (by decide +kernel) (by decide +kernel) (by decide +kernel) (fun _ _ _ h => h) (Or.inl ⟨by kernel_rfl, fun W _ => by go_simp; with_reducible rfl⟩) trivial ?_
                  go_simp
                  refine wpAnyH_all (rs := [7]) (by decide +kernel) (by simp) ?_
                  intro i hi
                  simp only [List.mem_cons, List.not_mem_nil, or_false] at hi
                  subst hi
                  refine wpOp_call rfl rfl 21 (enters_of Try.func21 (by kernel_rfl) rfl) #[.tmp 37, .tmp 38] _ rfl _ rfl (refTurnS_any x1 a.other by_ (by omega)) ?_
                  rintro e x2 ⟨rfl, hf⟩
                  refine ⟨_, rfl, trivial, ?_⟩
                  replace hT := hT.trans hf fun _ _ => id
                  clear hf
                  go_simp
                  refine wpAnyH_all (rs := [11]) (by decide +kernel) (by simp) ?_
                  intro i hi
                  simp only [List.mem_cons, List.not_mem_nil, or_false] at hi
                  subst hi
                  refine wpOp_call rfl rfl 21 (enters_of Try.func21 (by kernel_rfl) rfl) #[.tmp 41, .tmp 42] _ rfl _ rfl (refTurnS_any x2 a.text by_ (by omega)) ?_
                  rintro e x3 ⟨rfl, hf⟩
                  refine ⟨_, rfl, trivial, ?_⟩
                  replace hT := hT.trans hf fun _ _ => id
                  clear hf
                  go_simp
                  have hf3 : Fr (· = g) w7 x3 := hT.mono fun _ _ h => h.elim
                  have hR3 := hP7.fr hT id
                  clear hT
                  refine wpAnyH_all (rs := [13]) (by decide +kernel) (by simp) ?_
                  intro i hi
                  simp only [List.mem_cons, List.not_mem_nil, or_false] at hi
                  subst hi
                  have qx := hR3.c3
                  have qf := hR3.blk.frozen 3
                  refine wpOp_skip (w' := x3.setCell ⟨g, 3, none⟩ (.string (turnS by_ a.path))) rfl (by kernel_rfl) (by go_simp) ⟨trivial, ?_⟩
                  clear qx qf
                  replace hR3 := hR3.s3 (turnS by_ a.path)
                  replace hf3 := hf3.at_ 3 (.string (turnS by_ a.path))
                  go_simp
                  refine wpAnyH_take (i := 14) rfl (by decide +kernel) (by decide +kernel) (by decide +kernel) (fun _ _ _ h => h) (Or.inl ⟨by kernel_rfl, fun W _ => by go_simp; with_reducible rfl⟩) trivial ?_
                  go_simp
                  refine wpAnyH_all (rs := [15]) (by decide +kernel) (by simp) ?_
                  intro i hi
                  simp only [List.mem_cons, List.not_mem_nil, or_false] at hi
                  subst hi
                  have qx := hR3.c4
                  have qf := hR3.blk.frozen 4
                  refine wpOp_skip (w' := (x3.setCell ⟨g, 3, none⟩ (.string (turnS by_ a.path))).setCell ⟨g, 4, none⟩ (.string (turnS by_ a.other))) rfl (by kernel_rfl) (by go_simp) ⟨trivial, ?_⟩
                  clear qx qf
                  replace hR3 := hR3.s4 (turnS by_ a.other)
                  replace hf3 := hf3.at_ 4 (.string (turnS by_ a.other))
                  go_simp
                  refine wpAnyH_take (i := 16) rfl (by decide +kernel) (by decide +kernel) (by decide +kernel) (fun _ _ _ h => h) (Or.inl ⟨by kernel_rfl, fun W _ => by go_simp; with_reducible rfl⟩) trivial ?_
                  go_simp
                  refine wpAnyH_all (rs := [17]) (by decide +kernel) (by simp) ?_
                  intro i hi
                  simp only [List.mem_cons, List.not_mem_nil, or_false] at hi
                  subst hi
                  have qx := hR3.c5
                  have qf := hR3.blk.frozen 5
                  refine wpOp_skip (w' := ((x3.setCell ⟨g, 3, none⟩ (.string (turnS by_ a.path))).setCell ⟨g, 4, none⟩ (.string (turnS by_ a.other))).setCell ⟨g, 5, none⟩ (.string (turnS by_ a.text))) rfl (by kernel_rfl) (by go_simp) ⟨trivial, ?_⟩
                  clear qx qf
                  replace hR3 := hR3.s5 (turnS by_ a.text)
                  replace hf3 := hf3.at_ 5 (.string (turnS by_ a.text))
                  go_simp
                  refine wpAnyH_done (by decide +kernel) ?_ _
                  go_wp2
                  go_meet
                  case rel => exact ⟨hR3, hf3⟩
              · have qx := (hP7.fr hT id).c5
                refine wpOp_run (v := .string a.text) (w' := w7.drew) rfl (by kernel_rfl) (by go_simp) ⟨trivial, ?_⟩
                clear qx
                go_simp
                refine wpAnyH_all (rs := [3, 5]) (by decide +kernel) (by simp) ?_
                intro i hi
                simp only [List.mem_cons, List.not_mem_nil, or_false] at hi
                rcases hi with rfl | rfl
                · refine wpOp_call rfl rfl 21 (enters_of Try.func21 (by kernel_rfl) rfl) #[.tmp 33, .tmp 34] _ rfl _ rfl (refTurnS_any w7.drew a.path by_ (by omega)) ?_
                  rintro e x1 ⟨rfl, hf⟩
                  refine ⟨_, rfl, trivial, ?_⟩
                  replace hT := hT.trans hf fun _ _ => id
                  clear hf
                  go_simp
                  refine wpAnyH_all (rs := [5]) (by decide +kernel) (by simp) ?_
                  intro i hi
                  simp only [List.mem_cons, List.not_mem_nil, or_false] at hi
                  subst hi
                  have qx := (hP7.fr hT id).c4
                  refine wpOp_run (v := .string a.other) (w' := x1) rfl (by kernel_rfl) (by go_simp) ⟨trivial, ?_⟩
                  clear qx
                  go_simp
                  refine wpAnyH_take (i := 12) rfl (by decide +kernel) (by decide +kernel) (by decide +kernel) (fun _ _ _ h => h) (Or.inl ⟨by kernel_rfl, fun W _ => by go_simp; with_reducible rfl⟩) trivial ?_
                  go_simp
                  refine wpAnyH_all (rs := [7]) (by decide +kernel) (by simp) ?_
                  intro i hi
                  simp only [List.mem_cons, List.not_mem_nil, or_false] at hi
                  subst hi
                  refine wpOp_call rfl rfl 21 (enters_of Try.func21 (by kernel_rfl) rfl) #[.tmp 37, .tmp 38] _ rfl _ rfl (refTurnS_any x1 a.other by_ (by omega)) ?_
                  rintro e x2 ⟨rfl, hf⟩
                  refine ⟨_, rfl, trivial, ?_⟩
                  replace hT := hT.trans hf fun _ _ => id
                  clear hf
                  go_simp
                  refine wpAnyH_all (rs := [11]) (by decide +kernel) (by simp) ?_
                  intro i hi
                  simp only [List.mem_cons, List.not_mem_nil, or_false] at hi
                  subst hi
                  refine wpOp_call rfl rfl 21 (enters_of Try.func21 (by kernel_rfl) rfl) #[.tmp 41, .tmp 42] _ rfl _ rfl (refTurnS_any x2 a.text by_ (by omega)) ?_
                  rintro e x3 ⟨rfl, hf⟩
                  refine ⟨_, rfl, trivial, ?_⟩
                  replace hT := hT.trans hf fun _ _ => id
                  clear hf
                  go_simp
                  have hf3 : Fr (· = g) w7 x3 := hT.mono fun _ _ h => h.elim
                  have hR3 := hP7.fr hT id
                  clear hT
                  refine wpAnyH_all (rs := [13]) (by decide +kernel) (by simp) ?_
                  intro i hi
                  simp only [List.mem_cons, List.not_mem_nil, or_false] at hi
                  subst hi
                  have qx := hR3.c3
                  have qf := hR3.blk.frozen 3
                  refine wpOp_skip (w' := x3.setCell ⟨g, 3, none⟩ (.string (turnS by_ a.path))) rfl (by kernel_rfl) (by go_simp) ⟨trivial, ?_⟩
                  clear qx qf
                  replace hR3 := hR3.s3 (turnS by_ a.path)
                  replace hf3 := hf3.at_ 3 (.string (turnS by_ a.path))
                  go_simp
                  refine wpAnyH_take (i := 14) rfl (by decide +kernel) (by decide +kernel) (by decide +kernel) (fun _ _ _ h => h) (Or.inl ⟨by kernel_rfl, fun W _ => by go_simp; with_reducible rfl⟩) trivial ?_
                  go_simp
                  refine wpAnyH_all (rs := [15]) (by decide +kernel) (by simp) ?_
                  intro i hi
                  simp only [List.mem_cons, List.not_mem_nil, or_false] at hi
                  subst hi
                  have qx := hR3.c4
                  have qf := hR3.blk.frozen 4
                  refine wpOp_skip (w' := (x3.setCell ⟨g, 3, none⟩ (.string (turnS by_ a.path))).setCell ⟨g, 4, none⟩ (.string (turnS by_ a.other))) rfl (by kernel_rfl) (by go_simp) ⟨trivial, ?_⟩
                  clear qx qf
                  replace hR3 := hR3.s4 (turnS by_ a.other)
                  replace hf3 := hf3.at_ 4 (.string (turnS by_ a.other))
                  go_simp
                  refine wpAnyH_take (i := 16) rfl (by decide +kernel) (by decide +kernel) (by decide +kernel) (fun _ _ _ h => h) (Or.inl ⟨by kernel_rfl, fun W _ => by go_simp; with_reducible rfl⟩) trivial ?_
                  go_simp
                  refine wpAnyH_all (rs := [17]) (by decide +kernel) (by simp) ?_
                  intro i hi
                  simp only [List.mem_cons, List.not_mem_nil, or_false] at hi
                  subst hi
                  have qx := hR3.c5
                  have qf := hR3.blk.frozen 5
                  refine wpOp_skip (w' := ((x3.setCell ⟨g, 3, none⟩ (.string (turnS by_ a.path))).setCell ⟨g, 4, none⟩ (.string (turnS by_ a.other))).setCell ⟨g, 5, none⟩ (.string (turnS by_ a.text))) rfl (by kernel_rfl) (by go_simp) ⟨trivial, ?_⟩
                  clear qx qf
                  replace hR3 := hR3.s5 (turnS by_ a.text)
                  replace hf3 := hf3.at_ 5 (.string (turnS by_ a.text))
                  go_simp
                  refine wpAnyH_done (by decide +kernel) ?_ _
                  go_wp2
                  go_meet
                  case rel => exact ⟨hR3, hf3⟩
                · have qx := (hP7.fr hT id).c4
                  refine wpOp_run (v := .string a.other) (w' := w7.drew) rfl (by kernel_rfl) (by go_simp) ⟨trivial, ?_⟩
                  clear qx
                  go_simp
                  refine wpAnyH_all (rs := [3]) (by decide +kernel) (by simp) ?_
                  intro i hi
                  simp only [List.mem_cons, List.not_mem_nil, or_false] at hi
                  subst hi
                  refine wpOp_call rfl rfl 21 (enters_of Try.func21 (by kernel_rfl) rfl) #[.tmp 33, .tmp 34] _ rfl _ rfl (refTurnS_any w7.drew a.path by_ (by omega)) ?_
                  rintro e x1 ⟨rfl, hf⟩
                  refine ⟨_, rfl, trivial, ?_⟩
                  replace hT := hT.trans hf fun _ _ => id
                  clear hf
                  go_simp
                  refine wpAnyH_take (i := 12) rfl (by decide +kernel) (by decide +kernel) (by decide +kernel) (fun _ _ _ h => h) (Or.inl ⟨by kernel_rfl, fun W _ => by go_simp; with_reducible rfl⟩) trivial ?_
                  go_simp
                  refine wpAnyH_all (rs := [7]) (by decide +kernel) (by simp) ?_
                  intro i hi
                  simp only [List.mem_cons, List.not_mem_nil, or_false] at hi
                  subst hi
                  refine wpOp_call rfl rfl 21 (enters_of Try.func21 (by kernel_rfl) rfl) #[.tmp 37, .tmp 38] _ rfl _ rfl (refTurnS_any x1 a.other by_ (by omega)) ?_
                  rintro e x2 ⟨rfl, hf⟩
                  refine ⟨_, rfl, trivial, ?_⟩
                  replace hT := hT.trans hf fun _ _ => id
                  clear hf
                  go_simp
                  refine wpAnyH_all (rs := [11]) (by decide +kernel) (by simp) ?_
                  intro i hi
                  simp only [List.mem_cons, List.not_mem_nil, or_false] at hi
                  subst hi
                  refine wpOp_call rfl rfl 21 (enters_of Try.func21 (by kernel_rfl) rfl) #[.tmp 41, .tmp 42] _ rfl _ rfl (refTurnS_any x2 a.text by_ (by omega)) ?_
                  rintro e x3 ⟨rfl, hf⟩
                  refine ⟨_, rfl, trivial, ?_⟩
                  replace hT := hT.trans hf fun _ _ => id
                  clear hf
                  go_simp
                  have hf3 : Fr (· = g) w7 x3 := hT.mono fun _ _ h => h.elim
                  have hR3 := hP7.fr hT id
                  clear hT
                  refine wpAnyH_all (rs := [13]) (by decide +kernel) (by simp) ?_
                  intro i hi
                  simp only [List.mem_cons, List.not_mem_nil, or_false] at hi
                  subst hi
                  have qx := hR3.c3
                  have qf := hR3.blk.frozen 3
                  refine wpOp_skip (w' := x3.setCell ⟨g, 3, none⟩ (.string (turnS by_ a.path))) rfl (by kernel_rfl) (by go_simp) ⟨trivial, ?_⟩
                  clear qx qf
                  replace hR3 := hR3.s3 (turnS by_ a.path)
                  replace hf3 := hf3.at_ 3 (.string (turnS by_ a.path))
                  go_simp
                  refine wpAnyH_take (i := 14) rfl (by decide +kernel) (by decide +kernel) (by decide +kernel) (fun _ _ _ h => h) (Or.inl ⟨by kernel_rfl, fun W _ => by go_simp; with_reducible rfl⟩) trivial ?_
                  go_simp
                  refine wpAnyH_all (rs := [15]) (by decide +kernel) (by simp) ?_
                  intro i hi
                  simp only [List.mem_cons, List.not_mem_nil, or_false] at hi
                  subst hi
                  have qx := hR3.c4
                  have qf := hR3.blk.frozen 4
                  refine wpOp_skip (w' := (x3.setCell ⟨g, 3, none⟩ (.string (turnS by_ a.path))).setCell ⟨g, 4, none⟩ (.string (turnS by_ a.other))) rfl (by kernel_rfl) (by go_simp) ⟨trivial, ?_⟩
                  clear qx qf
                  replace hR3 := hR3.s4 (turnS by_ a.other)
                  replace hf3 := hf3.at_ 4 (.string (turnS by_ a.other))
                  go_simp
                  refine wpAnyH_take (i := 16) rfl (by decide +kernel) (by decide +kernel) (by decide +kernel) (fun _ _ _ h => h) (Or.inl ⟨by kernel_rfl, fun W _ => by go_simp; with_reducible rfl⟩) trivial ?_
                  go_simp
                  refine wpAnyH_all (rs := [17]) (by decide +kernel) (by simp) ?_
                  intro i hi
                  simp only [List.mem_cons, List.not_mem_nil, or_false] at hi
                  subst hi
                  have qx := hR3.c5
                  have qf := hR3.blk.frozen 5
                  refine wpOp_skip (w' := ((x3.setCell ⟨g, 3, none⟩ (.string (turnS by_ a.path))).setCell ⟨g, 4, none⟩ (.string (turnS by_ a.other))).setCell ⟨g, 5, none⟩ (.string (turnS by_ a.text))) rfl (by kernel_rfl) (by go_simp) ⟨trivial, ?_⟩
                  clear qx qf
                  replace hR3 := hR3.s5 (turnS by_ a.text)
                  replace hf3 := hf3.at_ 5 (.string (turnS by_ a.text))
                  go_simp
                  refine wpAnyH_done (by decide +kernel) ?_ _
                  go_wp2
                  go_meet
                  case rel => exact ⟨hR3, hf3⟩
            · have qx := (hP7.fr hT id).c4
              refine wpOp_run (v := .string a.other) (w' := w7.drew) rfl (by kernel_rfl) (by go_simp) ⟨trivial, ?_⟩
              clear qx
              go_simp
              refine wpAnyH_all (rs := [1, 9]) (by decide +kernel) (by simp) ?_
              intro i hi
              simp only [List.mem_cons, List.not_mem_nil, or_false] at hi
              rcases hi with rfl | rfl
              · have qx := (hP7.fr hT id).c3
                refine wpOp_run (v := .string a.path) (w' := w7.drew) rfl (by kernel_rfl) (by go_simp) ⟨trivial, ?_⟩
                clear qx
                go_simp
                refine wpAnyH_all (rs := [3, 9]) (by decide +kernel) (by simp) ?_
                intro i hi
                simp only [List.mem_cons, List.not_mem_nil, or_false] at hi
                rcases hi with rfl | rfl
                · refine wpOp_call rfl rfl 21 (enters_of Try.func21 (by kernel_rfl) rfl) #[.tmp 33, .tmp 34] _ rfl _ rfl (refTurnS_any w7.drew a.path by_ (by omega)) ?_
                  rintro e x1 ⟨rfl, hf⟩
                  refine ⟨_, rfl, trivial, ?_⟩
                  replace hT := hT.trans hf fun _ _ => id
                  clear hf
                  go_simp
                  refine wpAnyH_all (rs := [7, 9]) (by decide +kernel) (by simp) ?_
                  intro i hi
                  simp only [List.mem_cons, List.not_mem_nil, or_false] at hi
                  rcases hi with rfl | rfl
                  · refine wpOp_call rfl rfl 21 (enters_of Try.func21 (by kernel_rfl) rfl) #[.tmp 37, .tmp 38] _ rfl _ rfl (refTurnS_any x1 a.other by_ (by omega)) ?_
                    rintro e x2 ⟨rfl, hf⟩
                    refine ⟨_, rfl, trivial, ?_⟩
                    replace hT := hT.trans hf fun _ _ => id
                    clear hf
                    go_simp
                    refine wpAnyH_all (rs := [9]) (by decide +kernel) (by simp) ?_
                    intro i hi
                    simp only [List.mem_cons, List.not_mem_nil, or_false] at hi
                    subst hi
                    have qx := (hP7.fr hT id).c5
                    refine wpOp_run (v := .string a.text) (w' := x2) rfl (by kernel_rfl) (by go_simp) ⟨trivial, ?_⟩
                    clear qx
                    go_simp
                    refine wpAnyH_take (i := 12) rfl (by decide +kernel) (by decide +kernel) (by decide +kernel) (fun _ _ _ h => h) (Or.inl ⟨by kernel_rfl, fun W _ => by go_simp; with_reducible rfl⟩) trivial ?_
                    go_simp
                    refine wpAnyH_all (rs := [11]) (by decide +kernel) (by simp) ?_
                    intro i hi
                    simp only [List.mem_cons, List.not_mem_nil, or_false] at hi
                    subst hi
                    refine wpOp_call rfl rfl 21 (enters_of Try.func21 (by kernel_rfl) rfl) #[.tmp 41, .tmp 42] _ rfl _ rfl (refTurnS_any x2 a.text by_ (by omega)) ?_
                    rintro e x3 ⟨rfl, hf⟩
                    refine ⟨_, rfl, trivial, ?_⟩
                    replace hT := hT.trans hf fun _ _ => id
                    clear hf
                    go_simp
                    have hf3 : Fr (· = g) w7 x3 := hT.mono fun _ _ h => h.elim
                    have hR3 := hP7.fr hT id
                    clear hT
                    refine wpAnyH_all (rs := [13]) (by decide +kernel) (by simp) ?_
                    intro i hi
                    simp only [List.mem_cons, List.not_mem_nil, or_false] at hi
                    subst hi
                    have qx := hR3.c3
                    have qf := hR3.blk.frozen 3
                    refine wpOp_skip (w' := x3.setCell ⟨g, 3, none⟩ (.string (turnS by_ a.path))) rfl (by kernel_rfl) (by go_simp) ⟨trivial, ?_⟩
                    clear qx qf
                    replace hR3 := hR3.s3 (turnS by_ a.path)
                    replace hf3 := hf3.at_ 3 (.string (turnS by_ a.path))
                    go_simp
                    refine wpAnyH_take (i := 14) rfl (by decide +kernel) (by decide +kernel) (by decide +kernel) (fun _ _ _ h => h) (Or.inl ⟨by kernel_rfl, fun W _ => by go_simp; with_reducible rfl⟩) trivial ?_
                    go_simp
                    refine wpAnyH_all (rs := [15]) (by decide +kernel) (by simp) ?_
                    intro i hi
                    simp only [List.mem_cons, List.not_mem_nil, or_false] at hi
                    subst hi
                    have qx := hR3.c4
                    have qf := hR3.blk.frozen 4
                    refine wpOp_skip (w' := (x3.setCell ⟨g, 3, none⟩ (.string (turnS by_ a.path))).setCell ⟨g, 4, none⟩ (.string (turnS by_ a.other))) rfl (by kernel_rfl) (by go_simp) ⟨trivial, ?_⟩
                    clear qx qf
                    replace hR3 := hR3.s4 (turnS by_ a.other)
                    replace hf3 := hf3.at_ 4 (.string (turnS by_ a.other))
                    go_simp
                    refine wpAnyH_take (i := 16) rfl (by decide +kernel) (by decide +kernel) (by decide +kernel) (fun _ _ _ h => h) (Or.inl ⟨by kernel_rfl, fun W _ => by go_simp; with_reducible rfl⟩) trivial ?_
                    go_simp
                    refine wpAnyH_all (rs := [17]) (by decide +kernel) (by simp) ?_
                    intro i hi
                    simp only [List.mem_cons, List.not_mem_nil, or_false] at hi
                    subst hi
                    have qx := hR3.c5
                    have qf := hR3.blk.frozen 5
                    refine wpOp_skip (w' := ((x3.setCell ⟨g, 3, none⟩ (.string (turnS by_ a.path))).setCell ⟨g, 4, none⟩ (.string (turnS by_ a.other))).setCell ⟨g, 5, none⟩ (.string (turnS by_ a.text))) rfl (by kernel_rfl) (by go_simp) ⟨trivial, ?_⟩
                    clear qx qf
                    replace hR3 := hR3.s5 (turnS by_ a.text)
                    replace hf3 := hf3.at_ 5 (.string (turnS by_ a.text))
                    go_simp
                    refine wpAnyH_done (by decide +kernel) ?_ _
                    go_wp2
                    go_meet
                    case rel => exact ⟨hR3, hf3⟩
                  · have qx := (hP7.fr hT id).c5
                    refine wpOp_run (v := .string a.text) (w' := x1) rfl (by kernel_rfl) (by go_simp) ⟨trivial, ?_⟩
                    clear qx
                    go_simp
                    refine wpAnyH_take (i := 12) rfl (by decide +kernel) (by decide +kernel) (by decide +kernel) (fun _ _ _ h => h) (Or.inl ⟨by kernel_rfl, fun W _ => by go_simp; with_reducible rfl⟩) trivial ?_
                    go_simp
                    refine wpAnyH_all (rs := [7]) (by decide +kernel) (by simp) ?_
                    intro i hi
                    simp only [List.mem_cons, List.not_mem_nil, or_false] at hi
                    subst hi
                    refine wpOp_call rfl rfl 21 (enters_of Try.func21 (by kernel_rfl) rfl) #[.tmp 37, .tmp 38] _ rfl _ rfl (refTurnS_any x1 a.other by_ (by omega)) ?_
                    rintro e x2 ⟨rfl, hf⟩
                    refine ⟨_, rfl, trivial, ?_⟩
                    replace hT := hT.trans hf fun _ _ => id
                    clear hf
                    go_simp
                    refine wpAnyH_all (rs := [11]) (by decide +kernel) (by simp) ?_
                    intro i hi
                    simp only [List.mem_cons, List.not_mem_nil, or_false] at hi
                    subst hi
                    refine wpOp_call rfl rfl 21 (enters_of Try.func21 (by kernel_rfl) rfl) #[.tmp 41, .tmp 42] _ rfl _ rfl (refTurnS_any x2 a.text by_ (by omega)) ?_
                    rintro e x3 ⟨rfl, hf⟩
                    refine ⟨_, rfl, trivial, ?_⟩
                    replace hT := hT.trans hf fun _ _ => id
                    clear hf
                    go_simp
                    have hf3 : Fr (· = g) w7 x3 := hT.mono fun _ _ h => h.elim
                    have hR3 := hP7.fr hT id
                    clear hT
                    refine wpAnyH_all (rs := [13]) (by decide +kernel) (by simp) ?_
                    intro i hi
                    simp only [List.mem_cons, List.not_mem_nil, or_false] at hi
                    subst hi
                    have qx := hR3.c3
                    have qf := hR3.blk.frozen 3
                    refine wpOp_skip (w' := x3.setCell ⟨g, 3, none⟩ (.string (turnS by_ a.path))) rfl (by kernel_rfl) (by go_simp) ⟨trivial, ?_⟩
                    clear qx qf
                    replace hR3 := hR3.s3 (turnS by_ a.path)
                    replace hf3 := hf3.at_ 3 (.string (turnS by_ a.path))
                    go_simp
                    refine wpAnyH_take (i := 14) rfl (by decide +kernel) (by decide +kernel) (by decide +kernel) (fun _ _ _ h => h) (Or.inl ⟨by kernel_rfl, fun W _ => by go_simp; with_reducible rfl⟩) trivial ?_
                    go_simp
                    refine wpAnyH_all (rs := [15]) (by decide +kernel) (by simp) ?_
                    intro i hi
                    simp only [List.mem_cons, List.not_mem_nil, or_false] at hi
                    subst hi
                    have qx := hR3.c4
                    have qf := hR3.blk.frozen 4
                    refine wpOp_skip (w' := (x3.setCell ⟨g, 3, none⟩ (.string (turnS by_ a.path))).setCell ⟨g, 4, none⟩ (.string (turnS by_ a.other))) rfl (by kernel_rfl) (by go_simp) ⟨trivial, ?_⟩
                    clear qx qf
                    replace hR3 := hR3.s4 (turnS by_ a.other)
                    replace hf3 := hf3.at_ 4 (.string (turnS by_ a.other))
                    go_simp
                    refine wpAnyH_take (i := 16) rfl (by decide +kernel) (by decide +kernel) (by decide +kernel) (fun _ _ _ h => h) (Or.inl ⟨by kernel_rfl, fun W _ => by go_simp; with_reducible rfl⟩) trivial ?_
                    go_simp
                    refine wpAnyH_all (rs := [17]) (by decide +kernel) (by simp) ?_
                    intro i hi
                    simp only [List.mem_cons, List.not_mem_nil, or_false] at hi
                    subst hi
                    have qx := hR3.c5
                    have qf := hR3.blk.frozen 5
                    refine wpOp_skip (w' := ((x3.setCell ⟨g, 3, none⟩ (.string (turnS by_ a.path))).setCell ⟨g, 4, none⟩ (.string (turnS by_ a.other))).setCell ⟨g, 5, none⟩ (.string (turnS by_ a.text))) rfl (by kernel_rfl) (by go_simp) ⟨trivial, ?_⟩
                    clear qx qf
                    replace hR3 := hR3.s5 (turnS by_ a.text)
                    replace hf3 := hf3.at_ 5 (.string (turnS by_ a.text))
                    go_simp
                    refine wpAnyH_done (by decide +kernel) ?_ _
                    go_wp2
                    go_meet
                    case rel => exact ⟨hR3, hf3⟩
                · have qx := (hP7.fr hT id).c5
                  refine wpOp_run (v := .string a.text) (w' := w7.drew) rfl (by kernel_rfl) (by go_simp) ⟨trivial, ?_⟩
                  clear qx
                  go_simp
                  refine wpAnyH_all (rs := [3]) (by decide +kernel) (by simp) ?_
                  intro i hi
                  simp only [List.mem_cons, List.not_mem_nil, or_false] at hi
                  subst hi
                  refine wpOp_call rfl rfl 21 (enters_of Try.func21 (by kernel_rfl) rfl) #[.tmp 33, .tmp 34] _ rfl _ rfl (refTurnS_any w7.drew a.path by_ (by omega)) ?_
                  rintro e x1 ⟨rfl, hf⟩
                  refine ⟨_, rfl, trivial, ?_⟩
                  replace hT := hT.trans hf fun _ _ => id
                  clear hf
                  go_simp
                  refine wpAnyH_take (i := 12) rfl (by decide +kernel) (by decide +kernel) (by decide +kernel) (fun _ _ _ h => h) (Or.inl ⟨by kernel_rfl, fun W _ => by go_simp; with_reducible rfl⟩) trivial ?_
                  go_simp
                  refine wpAnyH_all (rs := [7]) (by decide +kernel) (by simp) ?_
                  intro i hi
                  simp only [List.mem_cons, List.not_mem_nil, or_false] at hi
                  subst hi
                  refine wpOp_call rfl rfl 21 (enters_of Try.func21 (by kernel_rfl) rfl) #[.tmp 37, .tmp 38] _ rfl _ rfl (refTurnS_any x1 a.other by_ (by omega)) ?_
                  rintro e x2 ⟨rfl, hf⟩
                  refine ⟨_, rfl, trivial, ?_⟩
                  replace hT := hT.trans hf fun _ _ => id
                  clear hf
                  go_simp
                  refine wpAnyH_all (rs := [11]) (by decide +kernel) (by simp) ?_
                  intro i hi
                  simp only [List.mem_cons, List.not_mem_nil, or_false] at hi
                  subst hi
                  refine wpOp_call rfl rfl 21 (enters_of Try.func21 (by kernel_rfl) rfl) #[.tmp 41, .tmp 42] _ rfl _ rfl (refTurnS_any x2 a.text by_ (by omega)) ?_
                  rintro e x3 ⟨rfl, hf⟩
                  refine ⟨_, rfl, trivial, ?_⟩
                  replace hT := hT.trans hf fun _ _ => id
                  clear hf
                  go_simp
                  have hf3 : Fr (· = g) w7 x3 := hT.mono fun _ _ h => h.elim
                  have hR3 := hP7.fr hT id
                  clear hT
                  refine wpAnyH_all (rs := [13]) (by decide +kernel) (by simp) ?_
                  intro i hi
                  simp only [List.mem_cons, List.not_mem_nil, or_false] at hi
                  subst hi
                  have qx := hR3.c3
                  have qf := hR3.blk.frozen 3
                  refine wpOp_skip (w' := x3.setCell ⟨g, 3, none⟩ (.string (turnS by_ a.path))) rfl (by kernel_rfl) (by go_simp) ⟨trivial, ?_⟩
                  clear qx qf
                  replace hR3 := hR3.s3 (turnS by_ a.path)
                  replace hf3 := hf3.at_ 3 (.string (turnS by_ a.path))
                  go_simp
                  refine wpAnyH_take (i := 14) rfl (by decide +kernel) (by decide +kernel) (by decide +kernel) (fun _ _ _ h => h) (Or.inl ⟨by kernel_rfl, fun W _ => by go_simp; with_reducible rfl⟩) trivial ?_
                  go_simp
                  refine wpAnyH_all (rs := [15]) (by decide +kernel) (by simp) ?_
                  intro i hi
                  simp only [List.mem_cons, List.not_mem_nil, or_false] at hi
                  subst hi
                  have qx := hR3.c4
                  have qf := hR3.blk.frozen 4
                  refine wpOp_skip (w' := (x3.setCell ⟨g, 3, none⟩ (.string (turnS by_ a.path))).setCell ⟨g, 4, none⟩ (.string (turnS by_ a.other))) rfl (by kernel_rfl) (by go_simp) ⟨trivial, ?_⟩
                  clear qx qf
                  replace hR3 := hR3.s4 (turnS by_ a.other)
                  replace hf3 := hf3.at_ 4 (.string (turnS by_ a.other))
                  go_simp
                  refine wpAnyH_take (i := 16) rfl (by decide +kernel) (by decide +kernel) (by decide +kernel) (fun _ _ _ h => h) (Or.inl ⟨by kernel_rfl, fun W _ => by go_simp; with_reducible rfl⟩) trivial ?_
                  go_simp
                  refine wpAnyH_all (rs := [17]) (by decide +kernel) (by simp) ?_
                  intro i hi
                  simp only [List.mem_cons, List.not_mem_nil, or_false] at hi
                  subst hi
                  have qx := hR3.c5
                  have qf := hR3.blk.frozen 5
                  refine wpOp_skip (w' := ((x3.setCell ⟨g, 3, none⟩ (.string (turnS by_ a.path))).setCell ⟨g, 4, none⟩ (.string (turnS by_ a.other))).setCell ⟨g, 5, none⟩ (.string (turnS by_ a.text))) rfl (by kernel_rfl) (by go_simp) ⟨trivial, ?_⟩
                  clear qx qf
                  replace hR3 := hR3.s5 (turnS by_ a.text)
                  replace hf3 := hf3.at_ 5 (.string (turnS by_ a.text))
                  go_simp
                  refine wpAnyH_done (by decide +kernel) ?_ _
                  go_wp2
                  go_meet
                  case rel => exact ⟨hR3, hf3⟩
              · have qx := (hP7.fr hT id).c5
                refine wpOp_run (v := .string a.text) (w' := w7.drew) rfl (by kernel_rfl) (by go_simp) ⟨trivial, ?_⟩
                clear qx
                go_simp
                refine wpAnyH_all (rs := [1]) (by decide +kernel) (by simp) ?_
                intro i hi
                simp only [List.mem_cons, List.not_mem_nil, or_false] at hi
                subst hi
                have qx := (hP7.fr hT id).c3
                refine wpOp_run (v := .string a.path) (w' := w7.drew) rfl (by kernel_rfl) (by go_simp) ⟨trivial, ?_⟩
                clear qx
                go_simp
                refine wpAnyH_all (rs := [3]) (by decide +kernel) (by simp) ?_
                intro i hi
                simp only [List.mem_cons, List.not_mem_nil, or_false] at hi
                subst hi
                refine wpOp_call rfl rfl 21 (enters_of Try.func21 (by kernel_rfl) rfl) #[.tmp 33, .tmp 34] _ rfl _ rfl (refTurnS_any w7.drew a.path by_ (by omega)) ?_
                rintro e x1 ⟨rfl, hf⟩
                refine ⟨_, rfl, trivial, ?_⟩
                replace hT := hT.trans hf fun _ _ => id
                clear hf
                go_simp
                refine wpAnyH_take (i := 12) rfl (by decide +kernel) (by decide +kernel) (by decide +kernel) (fun _ _ _ h => h) (Or.inl ⟨by kernel_rfl, fun W _ => by go_simp; with_reducible rfl⟩) trivial ?_
                go_simp
                refine wpAnyH_all (rs := [7]) (by decide +kernel) (by simp) ?_
                intro i hi
                simp only [List.mem_cons, List.not_mem_nil, or_false] at hi
                subst hi
                refine wpOp_call rfl rfl 21 (enters_of Try.func21 (by kernel_rfl) rfl) #[.tmp 37, .tmp 38] _ rfl _ rfl (refTurnS_any x1 a.other by_ (by omega)) ?_
                rintro e x2 ⟨rfl, hf⟩
                refine ⟨_, rfl, trivial, ?_⟩
                replace hT := hT.trans hf fun _ _ => id
                clear hf
                go_simp
                refine wpAnyH_all (rs := [11]) (by decide +kernel) (by simp) ?_
                intro i hi
                simp only [List.mem_cons, List.not_mem_nil, or_false] at hi
                subst hi
                refine wpOp_call rfl rfl 21 (enters_of Try.func21 (by kernel_rfl) rfl) #[.tmp 41, .tmp 42] _ rfl _ rfl (refTurnS_any x2 a.text by_ (by omega)) ?_
                rintro e x3 ⟨rfl, hf⟩
                refine ⟨_, rfl, trivial, ?_⟩
                replace hT := hT.trans hf fun _ _ => id
                clear hf
                go_simp
                have hf3 : Fr (· = g) w7 x3 := hT.mono fun _ _ h => h.elim
                have hR3 := hP7.fr hT id
                clear hT
                refine wpAnyH_all (rs := [13]) (by decide +kernel) (by simp) ?_
                intro i hi
                simp only [List.mem_cons, List.not_mem_nil, or_false] at hi
                subst hi
                have qx := hR3.c3
                have qf := hR3.blk.frozen 3
                refine wpOp_skip (w' := x3.setCell ⟨g, 3, none⟩ (.string (turnS by_ a.path))) rfl (by kernel_rfl) (by go_simp) ⟨trivial, ?_⟩
                clear qx qf
                replace hR3 := hR3.s3 (turnS by_ a.path)
                replace hf3 := hf3.at_ 3 (.string (turnS by_ a.path))
                go_simp
                refine wpAnyH_take (i := 14) rfl (by decide +kernel) (by decide +kernel) (by decide +kernel) (fun _ _ _ h => h) (Or.inl ⟨by kernel_rfl, fun W _ => by go_simp; with_reducible rfl⟩) trivial ?_
                go_simp
                refine wpAnyH_all (rs := [15]) (by decide +kernel) (by simp) ?_
                intro i hi
                simp only [List.mem_cons, List.not_mem_nil, or_false] at hi
                subst hi
                have qx := hR3.c4
                have qf := hR3.blk.frozen 4
                refine wpOp_skip (w' := (x3.setCell ⟨g, 3, none⟩ (.string (turnS by_ a.path))).setCell ⟨g, 4, none⟩ (.string (turnS by_ a.other))) rfl (by kernel_rfl) (by go_simp) ⟨trivial, ?_⟩
                clear qx qf
                replace hR3 := hR3.s4 (turnS by_ a.other)
                replace hf3 := hf3.at_ 4 (.string (turnS by_ a.other))
                go_simp
                refine wpAnyH_take (i := 16) rfl (by decide +kernel) (by decide +kernel) (by decide +kernel) (fun _ _ _ h => h) (Or.inl ⟨by kernel_rfl, fun W _ => by go_simp; with_reducible rfl⟩) trivial ?_
                go_simp
                refine wpAnyH_all (rs := [17]) (by decide +kernel) (by simp) ?_
                intro i hi
                simp only [List.mem_cons, List.not_mem_nil, or_false] at hi
                subst hi
                have qx := hR3.c5
                have qf := hR3.blk.frozen 5
                refine wpOp_skip (w' := ((x3.setCell ⟨g, 3, none⟩ (.string (turnS by_ a.path))).setCell ⟨g, 4, none⟩ (.string (turnS by_ a.other))).setCell ⟨g, 5, none⟩ (.string (turnS by_ a.text))) rfl (by kernel_rfl) (by go_simp) ⟨trivial, ?_⟩
                clear qx qf
                replace hR3 := hR3.s5 (turnS by_ a.text)
                replace hf3 := hf3.at_ 5 (.string (turnS by_ a.text))
                go_simp
                refine wpAnyH_done (by decide +kernel) ?_ _
                go_wp2
                go_meet
                case rel => exact ⟨hR3, hf3⟩
            · have qx := (hP7.fr hT id).c5
              refine wpOp_run (v := .string a.text) (w' := w7.drew) rfl (by kernel_rfl) (by go_simp) ⟨trivial, ?_⟩
              clear qx
              go_simp
              refine wpAnyH_all (rs := [1, 5]) (by decide +kernel) (by simp) ?_
              intro i hi
              simp only [List.mem_cons, List.not_mem_nil, or_false] at hi
              rcases hi with rfl | rfl
              · have qx := (hP7.fr hT id).c3
                refine wpOp_run (v := .string a.path) (w' := w7.drew) rfl (by kernel_rfl) (by go_simp) ⟨trivial, ?_⟩
                clear qx
                go_simp
                refine wpAnyH_all (rs := [3, 5]) (by decide +kernel) (by simp) ?_
                intro i hi
                simp only [List.mem_cons, List.not_mem_nil, or_false] at hi
                rcases hi with rfl | rfl
                · refine wpOp_call rfl rfl 21 (enters_of Try.func21 (by kernel_rfl) rfl) #[.tmp 33, .tmp 34] _ rfl _ rfl (refTurnS_any w7.drew a.path by_ (by omega)) ?_
                  rintro e x1 ⟨rfl, hf⟩
                  refine ⟨_, rfl, trivial, ?_⟩
                  replace hT := hT.trans hf fun _ _ => id
                  clear hf
                  go_simp
                  refine wpAnyH_all (rs := [5]) (by decide +kernel) (by simp) ?_
                  intro i hi
                  simp only [List.mem_cons, List.not_mem_nil, or_false] at hi
                  subst hi
                  have qx := (hP7.fr hT id).c4
                  refine wpOp_run (v := .string a.other) (w' := x1) rfl (by kernel_rfl) (by go_simp) ⟨trivial, ?_⟩
                  clear qx
                  go_simp
                  refine wpAnyH_take (i := 12) rfl (by decide +kernel) (by decide +kernel) (by decide +kernel) (fun _ _ _ h => h) (Or.inl ⟨by kernel_rfl, fun W _ => by go_simp; with_reducible rfl⟩) trivial ?_
                  go_simp
                  refine wpAnyH_all (rs := [7]) (by decide +kernel) (by simp) ?_
                  intro i hi
                  simp only [List.mem_cons, List.not_mem_nil, or_false] at hi
                  subst hi
                  refine wpOp_call rfl rfl 21 (enters_of Try.func21 (by kernel_rfl) rfl) #[.tmp 37, .tmp 38] _ rfl _ rfl (refTurnS_any x1 a.other by_ (by omega)) ?_
                  rintro e x2 ⟨rfl, hf⟩
                  refine ⟨_, rfl, trivial, ?_⟩
                  replace hT := hT.trans hf fun _ _ => id
                  clear hf
                  go_simp
                  refine wpAnyH_all (rs := [11]) (by decide +kernel) (by simp) ?_
                  intro i hi
                  simp only [List.mem_cons, List.not_mem_nil, or_false] at hi
                  subst hi
                  refine wpOp_call rfl rfl 21 (enters_of Try.func21 (by kernel_rfl) rfl) #[.tmp 41, .tmp 42] _ rfl _ rfl (refTurnS_any x2 a.text by_ (by omega)) ?_
                  rintro e x3 ⟨rfl, hf⟩
                  refine ⟨_, rfl, trivial, ?_⟩
                  replace hT := hT.trans hf fun _ _ => id
                  clear hf
                  go_simp
                  have hf3 : Fr (· = g) w7 x3 := hT.mono fun _ _ h => h.elim
                  have hR3 := hP7.fr hT id
                  clear hT
                  refine wpAnyH_all (rs := [13]) (by decide +kernel) (by simp) ?_
                  intro i hi
                  simp only [List.mem_cons, List.not_mem_nil, or_false] at hi
                  subst hi
                  have qx := hR3.c3
                  have qf := hR3.blk.frozen 3
                  refine wpOp_skip (w' := x3.setCell ⟨g, 3, none⟩ (.string (turnS by_ a.path))) rfl (by kernel_rfl) (by go_simp) ⟨trivial, ?_⟩
                  clear qx qf
                  replace hR3 := hR3.s3 (turnS by_ a.path)
                  replace hf3 := hf3.at_ 3 (.string (turnS by_ a.path))
                  go_simp
                  refine wpAnyH_take (i := 14) rfl (by decide +kernel) (by decide +kernel) (by decide +kernel) (fun _ _ _ h => h) (Or.inl ⟨by kernel_rfl, fun W _ => by go_simp; with_reducible rfl⟩) trivial ?_
                  go_simp
                  refine wpAnyH_all (rs := [15]) (by decide +kernel) (by simp) ?_
                  intro i hi
                  simp only [List.mem_cons, List.not_mem_nil, or_false] at hi
                  subst hi
                  have qx := hR3.c4
                  have qf := hR3.blk.frozen 4
                  refine wpOp_skip (w' := (x3.setCell ⟨g, 3, none⟩ (.string (turnS by_ a.path))).setCell ⟨g, 4, none⟩ (.string (turnS by_ a.other))) rfl (by kernel_rfl) (by go_simp) ⟨trivial, ?_⟩
                  clear qx qf
                  replace hR3 := hR3.s4 (turnS by_ a.other)
                  replace hf3 := hf3.at_ 4 (.string (turnS by_ a.other))
                  go_simp
                  refine wpAnyH_take (i := 16) rfl (by decide +kernel) (by decide +kernel) (by decide +kernel) (fun _ _ _ h => h) (Or.inl ⟨by kernel_rfl, fun W _ => by go_simp; with_reducible rfl⟩) trivial ?_
                  go_simp
                  refine wpAnyH_all (rs := [17]) (by decide +kernel) (by simp) ?_
                  intro i hi
                  simp only [List.mem_cons, List.not_mem_nil, or_false] at hi
                  subst hi
                  have qx := hR3.c5
                  have qf := hR3.blk.frozen 5
                  refine wpOp_skip (w' := ((x3.setCell ⟨g, 3, none⟩ (.string (turnS by_ a.path))).setCell ⟨g, 4, none⟩ (.string (turnS by_ a.other))).setCell ⟨g, 5, none⟩ (.string (turnS by_ a.text))) rfl (by kernel_rfl) (by go_simp) ⟨trivial, ?_⟩
                  clear qx qf
                  replace hR3 := hR3.s5 (turnS by_ a.text)
                  replace hf3 := hf3.at_ 5 (.string (turnS by_ a.text))
                  go_simp
                  refine wpAnyH_done (by decide +kernel) ?_ _
                  go_wp2
                  go_meet
                  case rel => exact ⟨hR3, hf3⟩
                · have qx := (hP7.fr hT id).c4
                  refine wpOp_run (v := .string a.other) (w' := w7.drew) rfl (by kernel_rfl) (by go_simp) ⟨trivial, ?_⟩
                  clear qx
                  go_simp
                  refine wpAnyH_all (rs := [3]) (by decide +kernel) (by simp) ?_
                  intro i hi
                  simp only [List.mem_cons, List.not_mem_nil, or_false] at hi
                  subst hi
                  refine wpOp_call rfl rfl 21 (enters_of Try.func21 (by kernel_rfl) rfl) #[.tmp 33, .tmp 34] _ rfl _ rfl (refTurnS_any w7.drew a.path by_ (by omega)) ?_
                  rintro e x1 ⟨rfl, hf⟩
                  refine ⟨_, rfl, trivial, ?_⟩
                  replace hT := hT.trans hf fun _ _ => id
                  clear hf
                  go_simp
                  refine wpAnyH_take (i := 12) rfl (by decide +kernel) (by decide +kernel) (by decide +kernel) (fun _ _ _ h => h) (Or.inl ⟨by kernel_rfl, fun W _ => by go_simp; with_reducible rfl⟩) trivial ?_
                  go_simp
                  refine wpAnyH_all (rs := [7]) (by decide +kernel) (by simp) ?_
                  intro i hi
                  simp only [List.mem_cons, List.not_mem_nil, or_false] at hi
                  subst hi
                  refine wpOp_call rfl rfl 21 (enters_of Try.func21 (by kernel_rfl) rfl) #[.tmp 37, .tmp 38] _ rfl _ rfl (refTurnS_any x1 a.other by_ (by omega)) ?_
                  rintro e x2 ⟨rfl, hf⟩
                  refine ⟨_, rfl, trivial, ?_⟩
                  replace hT := hT.trans hf fun _ _ => id
                  clear hf
                  go_simp
                  refine wpAnyH_all (rs := [11]) (by decide +kernel) (by simp) ?_
                  intro i hi
                  simp only [List.mem_cons, List.not_mem_nil, or_false] at hi
                  subst hi
                  refine wpOp_call rfl rfl 21 (enters_of Try.func21 (by kernel_rfl) rfl) #[.tmp 41, .tmp 42] _ rfl _ rfl (refTurnS_any x2 a.text by_ (by omega)) ?_
                  rintro e x3 ⟨rfl, hf⟩
                  refine ⟨_, rfl, trivial, ?_⟩
                  replace hT := hT.trans hf fun _ _ => id
                  clear hf
                  go_simp
                  have hf3 : Fr (· = g) w7 x3 := hT.mono fun _ _ h => h.elim
                  have hR3 := hP7.fr hT id
                  clear hT
                  refine wpAnyH_all (rs := [13]) (by decide +kernel) (by simp) ?_
                  intro i hi
                  simp only [List.mem_cons, List.not_mem_nil, or_false] at hi
                  subst hi
                  have qx := hR3.c3
                  have qf := hR3.blk.frozen 3
                  refine wpOp_skip (w' := x3.setCell ⟨g, 3, none⟩ (.string (turnS by_ a.path))) rfl (by kernel_rfl) (by go_simp) ⟨trivial, ?_⟩
                  clear qx qf
                  replace hR3 := hR3.s3 (turnS by_ a.path)
                  replace hf3 := hf3.at_ 3 (.string (turnS by_ a.path))
                  go_simp
                  refine wpAnyH_take (i := 14) rfl (by decide +kernel) (by decide +kernel) (by decide +kernel) (fun _ _ _ h => h) (Or.inl ⟨by kernel_rfl, fun W _ => by go_simp; with_reducible rfl⟩) trivial ?_
                  go_simp
                  refine wpAnyH_all (rs := [15]) (by decide +kernel) (by simp) ?_
                  intro i hi
                  simp only [List.mem_cons, List.not_mem_nil, or_false] at hi
                  subst hi
                  have qx := hR3.c4
                  have qf := hR3.blk.frozen 4
                  refine wpOp_skip (w' := (x3.setCell ⟨g, 3, none⟩ (.string (turnS by_ a.path))).setCell ⟨g, 4, none⟩ (.string (turnS by_ a.other))) rfl (by kernel_rfl) (by go_simp) ⟨trivial, ?_⟩
                  clear qx qf
                  replace hR3 := hR3.s4 (turnS by_ a.other)
                  replace hf3 := hf3.at_ 4 (.string (turnS by_ a.other))
                  go_simp
                  refine wpAnyH_take (i := 16) rfl (by decide +kernel) (by decide +kernel) (by decide +kernel) (fun _ _ _ h => h) (Or.inl ⟨by kernel_rfl, fun W _ => by go_simp; with_reducible rfl⟩) trivial ?_
                  go_simp
                  refine wpAnyH_all (rs := [17]) (by decide +kernel) (by simp) ?_
                  intro i hi
                  simp only [List.mem_cons, List.not_mem_nil, or_false] at hi
                  subst hi
                  have qx := hR3.c5
                  have qf := hR3.blk.frozen 5
                  refine wpOp_skip (w' := ((x3.setCell ⟨g, 3, none⟩ (.string (turnS by_ a.path))).setCell ⟨g, 4, none⟩ (.string (turnS by_ a.other))).setCell ⟨g, 5, none⟩ (.string (turnS by_ a.text))) rfl (by kernel_rfl) (by go_simp) ⟨trivial, ?_⟩
                  clear qx qf
                  replace hR3 := hR3.s5 (turnS by_ a.text)
                  replace hf3 := hf3.at_ 5 (.string (turnS by_ a.text))
                  go_simp
                  refine wpAnyH_done (by decide +kernel) ?_ _
                  go_wp2
                  go_meet
                  case rel => exact ⟨hR3, hf3⟩
              · have qx := (hP7.fr hT id).c4
                refine wpOp_run (v := .string a.other) (w' := w7.drew) rfl (by kernel_rfl) (by go_simp) ⟨trivial, ?_⟩
                clear qx
                go_simp
                refine wpAnyH_all (rs := [1]) (by decide +kernel) (by simp) ?_
                intro i hi
                simp only [List.mem_cons, List.not_mem_nil, or_false] at hi
                subst hi
                have qx := (hP7.fr hT id).c3
                refine wpOp_run (v := .string a.path) (w' := w7.drew) rfl (by kernel_rfl) (by go_simp) ⟨trivial, ?_⟩
                clear qx
                go_simp
                refine wpAnyH_all (rs := [3]) (by decide +kernel) (by simp) ?_
                intro i hi
                simp only [List.mem_cons, List.not_mem_nil, or_false] at hi
                subst hi
                refine wpOp_call rfl rfl 21 (enters_of Try.func21 (by kernel_rfl) rfl) #[.tmp 33, .tmp 34] _ rfl _ rfl (refTurnS_any w7.drew a.path by_ (by omega)) ?_
                rintro e x1 ⟨rfl, hf⟩
                refine ⟨_, rfl, trivial, ?_⟩
                replace hT := hT.trans hf fun _ _ => id
                clear hf
                go_simp
                refine wpAnyH_take (i := 12) rfl (by decide +kernel) (by decide +kernel) (by decide +kernel) (fun _ _ _ h => h) (Or.inl ⟨by kernel_rfl, fun W _ => by go_simp; with_reducible rfl⟩) trivial ?_
                go_simp
                refine wpAnyH_all (rs := [7]) (by decide +kernel) (by simp) ?_
                intro i hi
                simp only [List.mem_cons, List.not_mem_nil, or_false] at hi
                subst hi
                refine wpOp_call rfl rfl 21 (enters_of Try.func21 (by kernel_rfl) rfl) #[.tmp 37, .tmp 38] _ rfl _ rfl (refTurnS_any x1 a.other by_ (by omega)) ?_
                rintro e x2 ⟨rfl, hf⟩
                refine ⟨_, rfl, trivial, ?_⟩
                replace hT := hT.trans hf fun _ _ => id
                clear hf
                go_simp
                refine wpAnyH_all (rs := [11]) (by decide +kernel) (by simp) ?_
                intro i hi
                simp only [List.mem_cons, List.not_mem_nil, or_false] at hi
                subst hi
                refine wpOp_call rfl rfl 21 (enters_of Try.func21 (by kernel_rfl) rfl) #[.tmp 41, .tmp 42] _ rfl _ rfl (refTurnS_any x2 a.text by_ (by omega)) ?_
                rintro e x3 ⟨rfl, hf⟩
                refine ⟨_, rfl, trivial, ?_⟩
                replace hT := hT.trans hf fun _ _ => id
                clear hf
                go_simp
                have hf3 : Fr (· = g) w7 x3 := hT.mono fun _ _ h => h.elim
                have hR3 := hP7.fr hT id
                clear hT
                refine wpAnyH_all (rs := [13]) (by decide +kernel) (by simp) ?_
                intro i hi
                simp only [List.mem_cons, List.not_mem_nil, or_false] at hi
                subst hi
                have qx := hR3.c3
                have qf := hR3.blk.frozen 3
                refine wpOp_skip (w' := x3.setCell ⟨g, 3, none⟩ (.string (turnS by_ a.path))) rfl (by kernel_rfl) (by go_simp) ⟨trivial, ?_⟩
                clear qx qf
                replace hR3 := hR3.s3 (turnS by_ a.path)
                replace hf3 := hf3.at_ 3 (.string (turnS by_ a.path))
                go_simp
                refine wpAnyH_take (i := 14) rfl (by decide +kernel) (by decide +kernel) (by decide +kernel) (fun _ _ _ h => h) (Or.inl ⟨by kernel_rfl, fun W _ => by go_simp; with_reducible rfl⟩) trivial ?_
                go_simp
                refine wpAnyH_all (rs := [15]) (by decide +kernel) (by simp) ?_
                intro i hi
                simp only [List.mem_cons, List.not_mem_nil, or_false] at hi
                subst hi
                have qx := hR3.c4
                have qf := hR3.blk.frozen 4
                refine wpOp_skip (w' := (x3.setCell ⟨g, 3, none⟩ (.string (turnS by_ a.path))).setCell ⟨g, 4, none⟩ (.string (turnS by_ a.other))) rfl (by kernel_rfl) (by go_simp) ⟨trivial, ?_⟩
                clear qx qf
                replace hR3 := hR3.s4 (turnS by_ a.other)
                replace hf3 := hf3.at_ 4 (.string (turnS by_ a.other))
                go_simp
                refine wpAnyH_take (i := 16) rfl (by decide +kernel) (by decide +kernel) (by decide +kernel) (fun _ _ _ h => h) (Or.inl ⟨by kernel_rfl, fun W _ => by go_simp; with_reducible rfl⟩) trivial ?_
                go_simp
                refine wpAnyH_all (rs := [17]) (by decide +kernel) (by simp) ?_
                intro i hi
                simp only [List.mem_cons, List.not_mem_nil, or_false] at hi
                subst hi
                have qx := hR3.c5
                have qf := hR3.blk.frozen 5
                refine wpOp_skip (w' := ((x3.setCell ⟨g, 3, none⟩ (.string (turnS by_ a.path))).setCell ⟨g, 4, none⟩ (.string (turnS by_ a.other))).setCell ⟨g, 5, none⟩ (.string (turnS by_ a.text))) rfl (by kernel_rfl) (by go_simp) ⟨trivial, ?_⟩
                clear qx qf
                replace hR3 := hR3.s5 (turnS by_ a.text)
                replace hf3 := hf3.at_ 5 (.string (turnS by_ a.text))
                go_simp
                refine wpAnyH_done (by decide +kernel) ?_ _
                go_wp2
                go_meet
                case rel => exact ⟨hR3, hf3⟩
        · obtain rfl : m = p.n8 := by omega
          rw [List.take_of_length_le (by omega)] at hO
          have hW6 : Opns w6 (fun j => w5.heap.size ≤ j) A p.n8 (s.ops.map (opTurn by_)) := Opns.of_arr (hO.arr fun j _ hj => hA j hj) (by rw [List.length_map, l8]) (fun o ho => by obtain ⟨a, ha, rfl⟩ := List.mem_map.1 ho; exact opTurn_wf (hi8.wf a ha))
          have hJ6 := hJ5.fr hFr fun _ _ => id
          have hI6 := hI5.fr hFr fun _ _ => id
          have hB6 := hB5.fr hFr id
          have hC6 := hC5.fr hFr id
          have hF6 := hF5.trans hFr fun _ _ => id
          obtain ⟨k1, k5, k6, k7, k8⟩ := Scr.lens hJ6
          dsimp only at k1 k5 k8
          rw [List.length_map] at k8
          have e1 : p4.n1 = p.n1 := by omega
          have e5 : p4.n5 = p.n5 := by omega
          have e8 : p4.n8 = p.n8 := by omega
          clear k1 k5 k6 k7 k8 hJ5 hI5 hB5 hC5 hF5 hFr hO q8
          obtain ⟨P1, N1, D1, P5, N5, D5, P6, N6, D6, P7, N7, D7, P8, N8, D8⟩ := p4
          dsimp only at e1 e5 e8
          subst e1 e5 e8
          have hJo := hJ6.2.2.2.2.2.2
          have hJd := hJ6.1.2.2
          have hId := hI6.1.2.2
          dsimp only at hJo hJd
          obtain ⟨hm1, hm2⟩ := tmod26 by_
          have hts : t.size ≤ maxLen := by unfold maxLen; omega
          have hT : Fr NoB w6 w6 := Fr.refl _ _
          go_wp2_with (first
            | (go_at_call 22
               refine (TurnS_any _ _ _ (by (try simp only [turnS_size]); exact hts)).mono ?_
               rintro e x ⟨rfl, hf⟩
               replace hT := hT.trans hf fun _ _ => id
               have q8 := (hC6.fr hT id).c8
               clear hf
               try rw [turnS_back])
            | (go_at_call 21
               refine (refTurnS_any _ _ _ (by omega)).mono ?_
               rintro e x ⟨rfl, hf⟩
               replace hT := hT.trans hf fun _ _ => id
               clear hf)
            | (go_at_call 23
               refine (SameOps_true _ _ _ _ _ _ _ _ _ (hJo.fr hT fun _ _ => id) (hW6.fr hT fun _ _ => id) (by omega)).mono ?_
               rintro e x ⟨rfl, q, hx⟩
               have hD : Fr NoB w6 x := by rw [hx]; exact hT.drewN _
               have r1 := (hC6.fr hD id).c1
               have r2 : x.cell? ⟨g7, 2, none⟩ = some (.int .i64 s.sectors) := ((hC6.fr hD id).blk.cell 2).trans rfl
               have r5 := (hC6.fr hD id).c5
               have u1 := (hB6.fr hD id).c1
               have u2 : x.cell? ⟨B, 2, none⟩ = some (.int .i64 s.sectors) := ((hB6.fr hD id).blk.cell 2).trans rfl
               have u5 := (hB6.fr hD id).c5
               have v1 := (hJd.fr hD fun _ _ => id).str (P := Try.prog) Try.underlying22 Try.underlying5 Try.underlying9 D1
               have v2 := (hId.fr hD fun _ _ => id).str (P := Try.prog) Try.underlying22 Try.underlying5 Try.underlying9 p.c1
               clear hx q8 hT))
          go_ret
          exact ⟨rfl, Hfin.out _ (hF6.trans hD fun _ _ => id)⟩
  · have b0 : decide (300 < (t.size : Int)) = true := by simp only [decide_eq_true_eq]; omega
    go_enter Try.func3, Try.ntmps3
    go_wp2_with (first
      | (go_at_call 18
         rw [← Hw1.out, ← HB.out]
         refine (awake31 _).mono ?_
         rintro e w2 ⟨rfl, hf2⟩))
    go_ret
    exact ⟨rfl, Hfin.out _ (hF1.trans hf2 fun _ _ => id)⟩
end Go.Proofs.Ytnkfchondedfcaa
