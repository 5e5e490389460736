/-
  A reply (chapter 16): its words; which replies are alike (wire.SameReply, tabulariumref15.SameReply). Conditions: each contract states its own.
-/
import Derived.Test.YtnkfchondedfcaaNa
import Derived.Test.YtnkfchondedfcaaEd
import Derived.Test.YtnkfchondedfcaaSt
import Derived.Test.YtnkfchondedfcaaHc
import Derived.Test.YtnkfchondedfcaaRd
namespace Go.Proofs.Ytnkfchondedfcaa
open Go.RowKit

structure Rep where
  client : Nat
  seq : Nat
  err : Int
  id : Id32
  n : Nat
  body : List UInt8
  names : List ByteArray
deriving DecidableEq

def repCells (r : Rep) (A : Option Addr) (n c : Nat) (B : Option Addr) (m d : Nat) : List Value :=
  [.int .u32 r.client, .int .u64 r.seq, .int .i64 r.err] ++ (idCells r.id ++ [.int .u64 r.n, .slice A n c, .slice B m d])
theorem repCells_len (r : Rep) (A : Option Addr) (n c : Nat) (B : Option Addr) (m d : Nat) : (repCells r A n c B m d).length = 38 := by simp [repCells, idCells_len]
def repWf (r : Rep) : Prop := r.client < 4294967296 ∧ r.seq < 18446744073709551616 ∧ -9223372036854775808 ≤ r.err ∧ r.err ≤ 9223372036854775807 ∧ r.n < 18446744073709551616 ∧ ∀ s ∈ r.names, s.size ≤ maxLen

/-- Cells that read as a reply; its body and its names lie in blocks of F. -/
def RepR (w : World) (F : Nat → Prop) (y : List Value) (r : Rep) : Prop :=
  ∃ A n c B m d, y = repCells r A n c B m d ∧ n ≤ c ∧ c ≤ maxLen ∧ Byt w F A n r.body ∧ m ≤ d ∧ d ≤ maxLen ∧ Strs w F B m r.names ∧ repWf r
theorem RepR.fr {w w' : World} {F S : Nat → Prop} {y : List Value} {r : Rep} (h : RepR w F y r) (hf : Fr S w w') (hd : ∀ k, F k → ¬ S k) : RepR w' F y r := by
  obtain ⟨A, n, c, B, m, d, h1, h2, h3, h4, h5, h6, h7, h8⟩ := h
  exact ⟨A, n, c, B, m, d, h1, h2, h3, h4.fr hf hd, h5, h6, Arr.fr h7 hf hd, h8⟩
theorem RepR.len {w : World} {F : Nat → Prop} {y : List Value} {r : Rep} (h : RepR w F y r) : y.length = 38 := by
  obtain ⟨A, n, c, B, m, d, rfl, _⟩ := h
  exact repCells_len r A n c B m d
theorem repCells_one (r : Rep) (A : Option Addr) (n c : Nat) (B : Option Addr) (m d : Nat) : ∀ u ∈ repCells r A n c B m d, u.oneCell' = true := by
  intro u hu
  simp only [repCells, List.mem_append, List.mem_cons, List.not_mem_nil, or_false] at hu
  rcases hu with (rfl | rfl | rfl) | h | rfl | rfl | rfl
  all_goals first | rfl | exact bv_one _ _ h
theorem repCells_ones (r : Rep) (A : Option Addr) (n c : Nat) (B : Option Addr) (m d : Nat) : (repCells r A n c B m d).toArray.all (·.oneCell') = true := by
  rw [Array.all_eq_true_iff_forall_mem]
  intro u hu
  exact repCells_one _ _ _ _ _ _ _ u (by simpa using hu)
theorem RepR.ones {w : World} {F : Nat → Prop} {y : List Value} {r : Rep} (h : RepR w F y r) : y.toArray.all (·.oneCell') = true := by
  obtain ⟨A, n, c, B, m, d, rfl, _⟩ := h
  exact repCells_ones r A n c B m d
theorem RepR.size {w : World} {F : Nat → Prop} {y : List Value} {r : Rep} (h : RepR w F y r) : y.toArray.size = 38 := by rw [List.size_toArray, h.len]

/-- A block that holds a reply. -/
structure RepBlk (w : World) (g : Nat) (r : Rep) (A : Option Addr) (n c : Nat) (B : Option Addr) (m d : Nat) : Prop where
  blk : Blk w g 90 (repCells r A n c B m d).toArray
theorem RepBlk.fr {w w' : World} {S : Nat → Prop} {g : Nat} {r : Rep} {A : Option Addr} {n c : Nat} {B : Option Addr} {m d : Nat} (h : RepBlk w g r A n c B m d) (hf : Fr S w w') (hd : ¬ S g) : RepBlk w' g r A n c B m d := ⟨h.blk.fr hf hd⟩
section
variable {w : World} {g : Nat} {r : Rep} {A : Option Addr} {n c : Nat} {B : Option Addr} {m d : Nat}
theorem RepBlk.c0 (h : RepBlk w g r A n c B m d) : w.cell? ⟨g, 0, none⟩ = some (.int .u32 r.client) := (h.blk.cell 0).trans (by simp [repCells])
theorem RepBlk.c1 (h : RepBlk w g r A n c B m d) : w.cell? ⟨g, 1, none⟩ = some (.int .u64 r.seq) := (h.blk.cell 1).trans (by simp [repCells])
theorem RepBlk.c2 (h : RepBlk w g r A n c B m d) : w.cell? ⟨g, 2, none⟩ = some (.int .i64 r.err) := (h.blk.cell 2).trans (by simp [repCells])
theorem RepBlk.c35 (h : RepBlk w g r A n c B m d) : w.cell? ⟨g, 35, none⟩ = some (.int .u64 r.n) := (h.blk.cell 35).trans (by simp [repCells, idCells_len])
theorem RepBlk.c36 (h : RepBlk w g r A n c B m d) : w.cell? ⟨g, 36, none⟩ = some (.slice A n c) := (h.blk.cell 36).trans (by simp [repCells, idCells_len])
theorem RepBlk.c37 (h : RepBlk w g r A n c B m d) : w.cell? ⟨g, 37, none⟩ = some (.slice B m d) := (h.blk.cell 37).trans (by simp [repCells, idCells_len])
theorem RepBlk.id_ (h : RepBlk w g r A n c B m d) (F : Nat → Prop) (hF : F g) : Byt w F (some ⟨g, 3, none⟩) 32 r.id.1 := by
  refine ⟨by simp [r.id.2], fun _ => ⟨g, 3, rfl, hF, fun j u hu => ?_⟩⟩
  refine (h.blk.cell _).trans ?_
  have hj : j < 32 := by have := (List.getElem?_eq_some_iff.1 hu).1; simpa [r.id.2] using this
  rw [List.getElem?_toArray, repCells, List.getElem?_append_right (by simp), List.getElem?_append_left (by simp [idCells_len]; omega)]
  rw [show 3 + j - [Value.int .u32 r.client, .int .u64 r.seq, .int .i64 r.err].length = j by simp]
  exact hu
theorem RepBlk.idc (h : RepBlk w g r A n c B m d) : ∀ (j : Nat) (u : Value), (idCells r.id)[j]? = some u → w.cell? ⟨g, 3 + j, none⟩ = some u := fun j u hu => by
  obtain ⟨b, o, e, _, hc⟩ := (h.id_ (fun k => k = g) rfl).2 (by omega)
  injection e with e
  injection e with e1 e2
  subst e1 e2
  exact hc j u hu
theorem RepBlk.all (h : RepBlk w g r A n c B m d) : ∀ (j : Nat) (u : Value), (repCells r A n c B m d)[j]? = some u → w.cell? ⟨g, 0 + j, none⟩ = some u := fun j u hu => by
  rw [Nat.zero_add]
  exact (h.blk.cell j).trans (by rw [List.getElem?_toArray]; exact hu)
end

theorem rep_size : (Try.prog.info? 90).map (·.size) = some 38 := by kernel_rfl
theorem rep_zero : ((Try.prog.info? 90).bind (·.zero)).map (·.cells.size) = some 38 := by kernel_rfl

set_option maxRecDepth 100000 in
set_option maxHeartbeats 8000000 in
theorem WSameReply_any (w : World) (F G : Nat → Prop) (y z : List Value) (r s : Rep) (hy : RepR w F y r) (hz : RepR w G z s) :
    Calls Try.prog 55 #[.agg y.toArray, .agg z.toArray] w fun e w' => e = .returned (.bool (decide (r = s))) ∧ Fr NoB w w' := by
  obtain ⟨A, n, c, B, m, d, rfl, _, _, hb1, hmd, hdm, hn1, _⟩ := hy
  obtain ⟨A2, n2, c2, B2, m2, d2, rfl, _, _, hb2, _, _, hn2, _⟩ := hz
  have hB1 : RepBlk ((w.alloc (.cells (repCells r A n c B m d).toArray 90)).alloc (.cells (repCells s A2 n2 c2 B2 m2 d2).toArray 90)) w.heap.size r A n c B m d := ⟨(Blk.new _ _ _).alloc _⟩
  have hB2 : RepBlk ((w.alloc (.cells (repCells r A n c B m d).toArray 90)).alloc (.cells (repCells s A2 n2 c2 B2 m2 d2).toArray 90)) (w.heap.size + 1) s A2 n2 c2 B2 m2 d2 := ⟨by simpa using Blk.new (w.alloc (.cells (repCells r A n c B m d).toArray 90)) 90 (repCells s A2 n2 c2 B2 m2 d2).toArray⟩
  have hF : Fr NoB w ((w.alloc (.cells (repCells r A n c B m d).toArray 90)).alloc (.cells (repCells s A2 n2 c2 B2 m2 d2).toArray 90)) := ((Fr.refl _ _).alloc _).alloc _
  generalize repCells r A n c B m d = yc at *
  generalize repCells s A2 n2 c2 B2 m2 d2 = zc at *
  have hcv1 := (hb1.fr hF fun _ _ => id).str (P := Try.prog) Try.underlying22 Try.underlying5 Try.underlying9 c
  have hcv2 := (hb2.fr hF fun _ _ => id).str (P := Try.prog) Try.underlying22 Try.underlying5 Try.underlying9 c2
  have p0 := hB1.c0
  have p1 := hB1.c1
  have p2 := hB1.c2
  have hi1 := Lib.hid hB1.idc
  have p35 := hB1.c35
  have p36 := hB1.c36
  have p37 := hB1.c37
  have q0 := hB2.c0
  have q1 := hB2.c1
  have q2 := hB2.c2
  have hi2 := Lib.hid hB2.idc
  have q35 := hB2.c35
  have q36 := hB2.c36
  have q37 := hB2.c37
  have hm63 : m ≤ 9223372036854775807 := by unfold maxLen at hdm; omega
  clear hb1 hb2 hB1 hB2 hmd hdm
  obtain ⟨x1, x2, x3, x4, x5, x6, x7⟩ := r
  obtain ⟨y1, y2, y3, y4, y5, y6, y7⟩ := s
  dsimp only at *
  have Hi1 := Lib.hid (idCells_len x4)
  have Hi2 := Lib.hid (idCells_len y4)
  by_cases h1 : x1 = y1
  · subst h1
    by_cases h2 : x2 = y2
    · subst h2
      by_cases h3 : x3 = y3
      · subst h3
        by_cases h4 : x4 = y4
        · have h4b : Hid ((x4.1 == y4.1) = true) := by show _ = _; simp [h4]
          have H4 := Lib.hid h4
          clear h4
          by_cases h5 : x5 = y5
          · subst h5
            by_cases h6 : x6 = y6
            · subst h6
              have he : decide (Rep.mk x1 x2 x3 x4 x5 x6 x7 = Rep.mk x1 x2 x3 y4 x5 x6 y7) = decide (x7 = y7) := by have h := H4.out; simp [h]
              have He := Lib.hid he
              clear he
              go_enter Try.func55, Try.ntmps55
              go_wp2_with (first
                | (refine wpList_isD 27 (by rfl) ?_; refine wpList_load_aggD _ rfl 74 (.tmp 26) rfl w.heap.size 3 rfl rfl (idCells x4) _ hi1.out Try.underlying74 rfl (by rw [Hi1.out]; exact id_size) ?_)
                  | (refine wpList_isD 29 (by rfl) ?_; refine wpList_load_aggD _ rfl 74 (.tmp 28) rfl (w.heap.size + 1) 3 rfl rfl (idCells y4) _ hi2.out Try.underlying74 rfl (by rw [Hi2.out]; exact id_size) ?_)
                  | (refine wpList_isD 30 (by rfl) ?_; refine wpList_eql_arrD _ rfl 74 5 74 32 (.tmp 27) (.tmp 29) rfl rfl Try.underlying74 Try.underlying5 u8_size id_guard x4.1 y4.1 rfl rfl x4.2 y4.2 _ h4b.out ?_)
                  | (go_at_call 92; refine (EqStrs_any _ _ _ B B2 m d m2 d2 x7 y7 (Arr.fr hn1 hF fun _ _ => id) (Arr.fr hn2 hF fun _ _ => id) hm63).mono ?_; rintro e w' ⟨rfl, q, rfl⟩))
              go_ret
              exact ⟨ret_bool He.out.symm, hF.drewN _⟩
            · have b6 : ¬ x6 = y6 := h6
              have he : decide (Rep.mk x1 x2 x3 x4 x5 x6 x7 = Rep.mk x1 x2 x3 y4 x5 y6 y7) = false := by rw [decide_eq_false_iff_not]; intro h; injection h; contradiction
              clear h6
              have He := Lib.hid he
              clear he
              go_enter Try.func55, Try.ntmps55
              go_wp2_with (first
                | (refine wpList_isD 27 (by rfl) ?_; refine wpList_load_aggD _ rfl 74 (.tmp 26) rfl w.heap.size 3 rfl rfl (idCells x4) _ hi1.out Try.underlying74 rfl (by rw [Hi1.out]; exact id_size) ?_)
                  | (refine wpList_isD 29 (by rfl) ?_; refine wpList_load_aggD _ rfl 74 (.tmp 28) rfl (w.heap.size + 1) 3 rfl rfl (idCells y4) _ hi2.out Try.underlying74 rfl (by rw [Hi2.out]; exact id_size) ?_)
                  | (refine wpList_isD 30 (by rfl) ?_; refine wpList_eql_arrD _ rfl 74 5 74 32 (.tmp 27) (.tmp 29) rfl rfl Try.underlying74 Try.underlying5 u8_size id_guard x4.1 y4.1 rfl rfl x4.2 y4.2 _ h4b.out ?_; clear hi1 hi2 h4b; go_wp2_with fail))
              go_ret
              exact ⟨ret_bool He.out.symm, hF⟩
          · have b5 : ((x5 : Int) == (y5 : Int)) = false := by simp; omega
            have he : decide (Rep.mk x1 x2 x3 x4 x5 x6 x7 = Rep.mk x1 x2 x3 y4 y5 y6 y7) = false := by rw [decide_eq_false_iff_not]; intro h; injection h; contradiction
            clear h5
            have He := Lib.hid he
            clear he
            go_enter Try.func55, Try.ntmps55
            go_wp2_with (first
              | (refine wpList_isD 27 (by rfl) ?_; refine wpList_load_aggD _ rfl 74 (.tmp 26) rfl w.heap.size 3 rfl rfl (idCells x4) _ hi1.out Try.underlying74 rfl (by rw [Hi1.out]; exact id_size) ?_)
                | (refine wpList_isD 29 (by rfl) ?_; refine wpList_load_aggD _ rfl 74 (.tmp 28) rfl (w.heap.size + 1) 3 rfl rfl (idCells y4) _ hi2.out Try.underlying74 rfl (by rw [Hi2.out]; exact id_size) ?_)
                | (refine wpList_isD 30 (by rfl) ?_; refine wpList_eql_arrD _ rfl 74 5 74 32 (.tmp 27) (.tmp 29) rfl rfl Try.underlying74 Try.underlying5 u8_size id_guard x4.1 y4.1 rfl rfl x4.2 y4.2 _ h4b.out ?_; clear hi1 hi2 h4b; go_wp2_with fail))
            go_ret
            exact ⟨ret_bool He.out.symm, hF⟩
        · have h4b : Hid ((x4.1 == y4.1) = false) := by show _ = _; simpa [Subtype.ext_iff] using h4
          have he : decide (Rep.mk x1 x2 x3 x4 x5 x6 x7 = Rep.mk x1 x2 x3 y4 y5 y6 y7) = false := by rw [decide_eq_false_iff_not]; intro h; injection h; contradiction
          clear h4
          have He := Lib.hid he
          clear he
          go_enter Try.func55, Try.ntmps55
          go_wp2_with (first
            | (refine wpList_isD 27 (by rfl) ?_; refine wpList_load_aggD _ rfl 74 (.tmp 26) rfl w.heap.size 3 rfl rfl (idCells x4) _ hi1.out Try.underlying74 rfl (by rw [Hi1.out]; exact id_size) ?_)
              | (refine wpList_isD 29 (by rfl) ?_; refine wpList_load_aggD _ rfl 74 (.tmp 28) rfl (w.heap.size + 1) 3 rfl rfl (idCells y4) _ hi2.out Try.underlying74 rfl (by rw [Hi2.out]; exact id_size) ?_)
              | (refine wpList_isD 30 (by rfl) ?_; refine wpList_eql_arrD _ rfl 74 5 74 32 (.tmp 27) (.tmp 29) rfl rfl Try.underlying74 Try.underlying5 u8_size id_guard x4.1 y4.1 rfl rfl x4.2 y4.2 _ h4b.out ?_; clear hi1 hi2 h4b; go_wp2_with fail))
          go_ret
          exact ⟨ret_bool He.out.symm, hF⟩
      · have b3 : (x3 == y3) = false := by simpa using h3
        have he : decide (Rep.mk x1 x2 x3 x4 x5 x6 x7 = Rep.mk x1 x2 y3 y4 y5 y6 y7) = false := by rw [decide_eq_false_iff_not]; intro h; injection h; contradiction
        clear h3
        have He := Lib.hid he
        clear he
        go_enter Try.func55, Try.ntmps55
        go_wp2
        go_ret
        exact ⟨ret_bool He.out.symm, hF⟩
    · have b2 : ((x2 : Int) == (y2 : Int)) = false := by simp; omega
      have he : decide (Rep.mk x1 x2 x3 x4 x5 x6 x7 = Rep.mk x1 y2 y3 y4 y5 y6 y7) = false := by rw [decide_eq_false_iff_not]; intro h; injection h; contradiction
      clear h2
      have He := Lib.hid he
      clear he
      go_enter Try.func55, Try.ntmps55
      go_wp2
      go_ret
      exact ⟨ret_bool He.out.symm, hF⟩
  · have b1 : ((x1 : Int) == (y1 : Int)) = false := by simp; omega
    have he : decide (Rep.mk x1 x2 x3 x4 x5 x6 x7 = Rep.mk y1 y2 y3 y4 y5 y6 y7) = false := by rw [decide_eq_false_iff_not]; intro h; injection h; contradiction
    clear h1
    have He := Lib.hid he
    clear he
    go_enter Try.func55, Try.ntmps55
    go_wp2
    go_ret
    exact ⟨ret_bool He.out.symm, hF⟩
end Go.Proofs.Ytnkfchondedfcaa
