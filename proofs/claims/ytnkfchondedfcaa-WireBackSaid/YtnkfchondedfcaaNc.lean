/-
  Which replies are alike, as the document has it (tabulariumref15.SameReply). Conditions: each contract states its own.
-/
import Derived.Test.YtnkfchondedfcaaNb
namespace Go.Proofs.Ytnkfchondedfcaa
open Go.RowKit

set_option maxRecDepth 100000 in
set_option maxHeartbeats 8000000 in
theorem RSameReply_any (w : World) (F G : Nat → Prop) (y z : List Value) (r s : Rep) (hy : RepR w F y r) (hz : RepR w G z s) :
    Calls Try.prog 56 #[.agg y.toArray, .agg z.toArray] w fun e w' => e = .returned (.bool (decide (r = s))) ∧ Fr NoB w w' := by
  obtain ⟨A, n, c, B, m, d, rfl, _, _, hb1, hmd, hdm, hn1, _⟩ := hy
  obtain ⟨A2, n2, c2, B2, m2, d2, rfl, _, _, hb2, _, _, hn2, _⟩ := hz
  have hB1 : RepBlk ((w.alloc (.cells (repCells r A n c B m d).toArray 90)).alloc (.cells (repCells s A2 n2 c2 B2 m2 d2).toArray 90)) w.heap.size r A n c B m d := ⟨(Blk.new _ _ _).alloc _⟩
  have hB2 : RepBlk ((w.alloc (.cells (repCells r A n c B m d).toArray 90)).alloc (.cells (repCells s A2 n2 c2 B2 m2 d2).toArray 90)) (w.heap.size + 1) s A2 n2 c2 B2 m2 d2 := ⟨by simpa using Blk.new (w.alloc (.cells (repCells r A n c B m d).toArray 90)) 90 (repCells s A2 n2 c2 B2 m2 d2).toArray⟩
  have hF : Fr NoB w ((w.alloc (.cells (repCells r A n c B m d).toArray 90)).alloc (.cells (repCells s A2 n2 c2 B2 m2 d2).toArray 90)) := ((Fr.refl _ _).alloc _).alloc _
  generalize repCells r A n c B m d = yc at *
  generalize repCells s A2 n2 c2 B2 m2 d2 = zc at *
  have hcv1 := (hb1.fr hF fun _ _ => id).str (P := Try.prog) Try.underlying22 Try.underlying5 Try.underlying9 c
  have hcv2 := (hb2.fr hF fun _ _ => id).str (P := Try.prog) Try.underlying22 Try.underlying5 Try.underlying9 c2
  have p0 := hB1.c0
  have p1 := hB1.c1
  have p2 := hB1.c2
  have hi1 := Lib.hid hB1.idc
  have p35 := hB1.c35
  have p36 := hB1.c36
  have p37 := hB1.c37
  have q0 := hB2.c0
  have q1 := hB2.c1
  have q2 := hB2.c2
  have hi2 := Lib.hid hB2.idc
  have q35 := hB2.c35
  have q36 := hB2.c36
  have q37 := hB2.c37
  have hm63 : m ≤ 9223372036854775807 := by unfold maxLen at hdm; omega
  clear hb1 hb2 hB1 hB2 hmd hdm
  obtain ⟨x1, x2, x3, x4, x5, x6, x7⟩ := r
  obtain ⟨y1, y2, y3, y4, y5, y6, y7⟩ := s
  dsimp only at *
  have Hi1 := Lib.hid (idCells_len x4)
  have Hi2 := Lib.hid (idCells_len y4)
  by_cases h1 : x1 = y1
  · subst h1
    by_cases h2 : x2 = y2
    · subst h2
      by_cases h3 : x3 = y3
      · subst h3
        by_cases h4 : x4 = y4
        · have h4b : Hid ((x4.1 == y4.1) = true) := by show _ = _; simp [h4]
          have H4 := Lib.hid h4
          clear h4
          by_cases h5 : x5 = y5
          · subst h5
            by_cases h6 : x6 = y6
            · subst h6
              have he : decide (Rep.mk x1 x2 x3 x4 x5 x6 x7 = Rep.mk x1 x2 x3 y4 x5 x6 y7) = decide (x7 = y7) := by have h := H4.out; simp [h]
              have He := Lib.hid he
              clear he
              go_enter Try.func56, Try.ntmps56
              go_wp2_with (first
                | (refine wpList_isD 26 (by rfl) ?_; refine wpList_load_aggD _ rfl 74 (.tmp 25) rfl w.heap.size 3 rfl rfl (idCells x4) _ hi1.out Try.underlying74 rfl (by rw [Hi1.out]; exact id_size) ?_)
                  | (refine wpList_isD 28 (by rfl) ?_; refine wpList_load_aggD _ rfl 74 (.tmp 27) rfl (w.heap.size + 1) 3 rfl rfl (idCells y4) _ hi2.out Try.underlying74 rfl (by rw [Hi2.out]; exact id_size) ?_)
                  | (refine wpList_isD 29 (by rfl) ?_; refine wpList_eql_arrD _ rfl 74 5 74 32 (.tmp 26) (.tmp 28) rfl rfl Try.underlying74 Try.underlying5 u8_size id_guard x4.1 y4.1 rfl rfl x4.2 y4.2 _ h4b.out ?_)
                  | (go_at_call 93; refine (SameNames_any _ _ _ B B2 m d m2 d2 x7 y7 (Arr.fr hn1 hF fun _ _ => id) (Arr.fr hn2 hF fun _ _ => id) hm63).mono ?_; rintro e w' ⟨rfl, q, rfl⟩))
              go_ret
              exact ⟨ret_bool He.out.symm, hF.drewN _⟩
            · have b6 : ¬ x6 = y6 := h6
              have he : decide (Rep.mk x1 x2 x3 x4 x5 x6 x7 = Rep.mk x1 x2 x3 y4 x5 y6 y7) = false := by rw [decide_eq_false_iff_not]; intro h; injection h; contradiction
              clear h6
              have He := Lib.hid he
              clear he
              go_enter Try.func56, Try.ntmps56
              go_wp2_with (first
                | (refine wpList_isD 26 (by rfl) ?_; refine wpList_load_aggD _ rfl 74 (.tmp 25) rfl w.heap.size 3 rfl rfl (idCells x4) _ hi1.out Try.underlying74 rfl (by rw [Hi1.out]; exact id_size) ?_)
                  | (refine wpList_isD 28 (by rfl) ?_; refine wpList_load_aggD _ rfl 74 (.tmp 27) rfl (w.heap.size + 1) 3 rfl rfl (idCells y4) _ hi2.out Try.underlying74 rfl (by rw [Hi2.out]; exact id_size) ?_)
                  | (refine wpList_isD 29 (by rfl) ?_; refine wpList_eql_arrD _ rfl 74 5 74 32 (.tmp 26) (.tmp 28) rfl rfl Try.underlying74 Try.underlying5 u8_size id_guard x4.1 y4.1 rfl rfl x4.2 y4.2 _ h4b.out ?_; clear hi1 hi2 h4b; go_wp2_with fail))
              go_ret
              exact ⟨ret_bool He.out.symm, hF⟩
          · have b5 : ((x5 : Int) == (y5 : Int)) = false := by simp; omega
            have he : decide (Rep.mk x1 x2 x3 x4 x5 x6 x7 = Rep.mk x1 x2 x3 y4 y5 y6 y7) = false := by rw [decide_eq_false_iff_not]; intro h; injection h; contradiction
            clear h5
            have He := Lib.hid he
            clear he
            go_enter Try.func56, Try.ntmps56
            go_wp2_with (first
              | (refine wpList_isD 26 (by rfl) ?_; refine wpList_load_aggD _ rfl 74 (.tmp 25) rfl w.heap.size 3 rfl rfl (idCells x4) _ hi1.out Try.underlying74 rfl (by rw [Hi1.out]; exact id_size) ?_)
                | (refine wpList_isD 28 (by rfl) ?_; refine wpList_load_aggD _ rfl 74 (.tmp 27) rfl (w.heap.size + 1) 3 rfl rfl (idCells y4) _ hi2.out Try.underlying74 rfl (by rw [Hi2.out]; exact id_size) ?_)
                | (refine wpList_isD 29 (by rfl) ?_; refine wpList_eql_arrD _ rfl 74 5 74 32 (.tmp 26) (.tmp 28) rfl rfl Try.underlying74 Try.underlying5 u8_size id_guard x4.1 y4.1 rfl rfl x4.2 y4.2 _ h4b.out ?_; clear hi1 hi2 h4b; go_wp2_with fail))
            go_ret
            exact ⟨ret_bool He.out.symm, hF⟩
        · have h4b : Hid ((x4.1 == y4.1) = false) := by show _ = _; simpa [Subtype.ext_iff] using h4
          have he : decide (Rep.mk x1 x2 x3 x4 x5 x6 x7 = Rep.mk x1 x2 x3 y4 y5 y6 y7) = false := by rw [decide_eq_false_iff_not]; intro h; injection h; contradiction
          clear h4
          have He := Lib.hid he
          clear he
          go_enter Try.func56, Try.ntmps56
          go_wp2_with (first
            | (refine wpList_isD 26 (by rfl) ?_; refine wpList_load_aggD _ rfl 74 (.tmp 25) rfl w.heap.size 3 rfl rfl (idCells x4) _ hi1.out Try.underlying74 rfl (by rw [Hi1.out]; exact id_size) ?_)
              | (refine wpList_isD 28 (by rfl) ?_; refine wpList_load_aggD _ rfl 74 (.tmp 27) rfl (w.heap.size + 1) 3 rfl rfl (idCells y4) _ hi2.out Try.underlying74 rfl (by rw [Hi2.out]; exact id_size) ?_)
              | (refine wpList_isD 29 (by rfl) ?_; refine wpList_eql_arrD _ rfl 74 5 74 32 (.tmp 26) (.tmp 28) rfl rfl Try.underlying74 Try.underlying5 u8_size id_guard x4.1 y4.1 rfl rfl x4.2 y4.2 _ h4b.out ?_; clear hi1 hi2 h4b; go_wp2_with fail))
          go_ret
          exact ⟨ret_bool He.out.symm, hF⟩
      · have b3 : (x3 == y3) = false := by simpa using h3
        have he : decide (Rep.mk x1 x2 x3 x4 x5 x6 x7 = Rep.mk x1 x2 y3 y4 y5 y6 y7) = false := by rw [decide_eq_false_iff_not]; intro h; injection h; contradiction
        clear h3
        have He := Lib.hid he
        clear he
        go_enter Try.func56, Try.ntmps56
        go_wp2
        go_ret
        exact ⟨ret_bool He.out.symm, hF⟩
    · have b2 : ((x2 : Int) == (y2 : Int)) = false := by simp; omega
      have he : decide (Rep.mk x1 x2 x3 x4 x5 x6 x7 = Rep.mk x1 y2 y3 y4 y5 y6 y7) = false := by rw [decide_eq_false_iff_not]; intro h; injection h; contradiction
      clear h2
      have He := Lib.hid he
      clear he
      go_enter Try.func56, Try.ntmps56
      go_wp2
      go_ret
      exact ⟨ret_bool He.out.symm, hF⟩
  · have b1 : ((x1 : Int) == (y1 : Int)) = false := by simp; omega
    have he : decide (Rep.mk x1 x2 x3 x4 x5 x6 x7 = Rep.mk y1 y2 y3 y4 y5 y6 y7) = false := by rw [decide_eq_false_iff_not]; intro h; injection h; contradiction
    clear h1
    have He := Lib.hid he
    clear he
    go_enter Try.func56, Try.ntmps56
    go_wp2
    go_ret
    exact ⟨ret_bool He.out.symm, hF⟩
end Go.Proofs.Ytnkfchondedfcaa
