/-
  Whether a reply may be put (wire.answers). Conditions: each contract states its own.
-/
import Derived.Test.YtnkfchondedfcaaPa
namespace Go.Proofs.Ytnkfchondedfcaa
open Go.RowKit Go.Shelf
attribute [local go_sem] Oper.semAt_some

def repAns (r : Rep) : Bool := decide (0 ≤ r.err) && (decide (r.err ≤ 1000) && (decide (r.body.length ≤ 110000) && (decide (r.names.length ≤ 1000) && r.names.all (fun s => decide (s.size ≤ 64)))))

set_option maxRecDepth 100000 in
set_option maxHeartbeats 4000000 in
theorem answers_on (w : World) (F : Nat → Prop) (A : Option Addr) (n c : Nat) (B : Option Addr) (m d : Nat) (r : Rep) (hn : Strs w F B m r.names) (h1 : 0 ≤ r.err) (h2 : r.err ≤ 1000) (h3 : n ≤ 110000) (h4 : m ≤ 1000) (hbl : r.body.length = n) (hml : r.names.length = m) :
    Calls Try.prog 94 #[.agg (repCells r A n c B m d).toArray] w fun e w' => e = .returned (.bool (repAns r)) ∧ Fr NoB w w' := by
  have hans : repAns r = r.names.all (fun s => decide (s.size ≤ 64)) := by simp [repAns, h1, h2, h3, h4, hbl, hml]
  have Hans := Lib.hid hans
  have b1 : decide (r.err < 0) = false := by simp only [decide_eq_false_iff_not]; omega
  have b2 : decide (1000 < r.err) = false := by simp only [decide_eq_false_iff_not]; omega
  have b3 : decide (110000 < (n : Int)) = false := by simp only [decide_eq_false_iff_not]; omega
  have b4 : decide (1000 < (m : Int)) = false := by simp only [decide_eq_false_iff_not]; omega
  have hB : RepBlk ((w.alloc (.cells (repCells r A n c B m d).toArray 90)).alloc (.cells #[.bool false] 4)) w.heap.size r A n c B m d := ⟨(Blk.new _ _ _).alloc _⟩
  have hf : Fr NoB w ((w.alloc (.cells (repCells r A n c B m d).toArray 90)).alloc (.cells #[.bool false] 4)) := ((Fr.refl _ _).alloc _).alloc _
  have hBr : Blk ((w.alloc (.cells (repCells r A n c B m d).toArray 90)).alloc (.cells #[.bool false] 4)) (w.heap.size + 1) 4 #[.bool false] := by simpa using Blk.new (w.alloc (.cells (repCells r A n c B m d).toArray 90)) 4 #[.bool false]
  have p2 := hB.c2
  have p36 := hB.c36
  have p37 := hB.c37
  have hm63 : m ≤ 9223372036854775807 := by omega
  clear hans hbl hml hB
  generalize repCells r A n c B m d = yc at *
  refine (callsIn_wide (n := 7)).1 ?_
  refine callsIn_of_wp_marks Try.func94 rfl trivial ?_ rfl
  simp only [Try.ntmps94, List.size_toArray, List.length_cons, List.length_nil, Nat.reduceAdd, Nat.reduceSub, Array.replicate_succ, Array.replicate_zero, List.push_toArray, List.append_toArray, List.nil_append, List.cons_append]
  gi_wp2_with fail
  refine ⟨trivial, ?_⟩
  refine (callsIn_wide.2 (longer_any _ _ _ _)).mono ?_
  rintro e w2 ⟨rfl, hw2⟩
  obtain ⟨w1, hw1⟩ : ∃ w1, w1 = (w.alloc (.cells yc.toArray 90)).alloc (.cells #[.bool false] 4) := ⟨_, rfl⟩
  have hs1 : w1.heap.size = w.heap.size + 2 := by rw [hw1]; simp
  rw [← hw1] at hf hBr hw2
  have hbs : Blk w2 w1.heap.size 88 #[.slice B m d] := by rw [hw2]; exact Blk.new _ _ _
  have hf12 : Fr NoB w1 w2 := by rw [hw2]; exact (Fr.refl _ _).alloc _
  have hs2 : w2.heap.size = w.heap.size + 3 := by rw [hw2, World.size_alloc, hs1]
  rw [hs1] at hbs
  have hBr2 := hBr.fr hf12 id
  have hf2 := hf.trans hf12 fun _ _ => id
  have hn2 : Strs w2 (fun k => F k ∧ k < w.heap.size) B m r.names := Arr.fr (Arr.more hn (fun k hk h => ⟨h, hk⟩) (by omega)) hf2 fun _ _ => id
  have hs2a : w.heap.size + 3 ≤ w2.heap.size := by omega
  rw [← hw1, hs1]
  clear hw2 hw1 hs1 hs2 hf12 hBr hf p2 p36 p37 hn
  obtain ⟨w3, rfl⟩ : ∃ w3 : World, w3 = w2 := ⟨_, rfl⟩
  gi_wp2
  refine wpIn_rangeFuncG (gf := 111) (lb := #[.pointer (some ⟨w.heap.size + 2, 0, none⟩)]) rfl (enters_of Try.func111 (by kernel_rfl) rfl)
    (longer1_seq 6 (by omega) w3 (w.heap.size + 2) _ (fun j => j = w.heap.size + 1) B m d r.names hbs hn2 hm63 ⟨fun k hk => by omega, by omega⟩) (fun _ => rfl)
    (fun pre W => pre = [] ∧ Blk W (w.heap.size + 1) 4 #[.bool false] ∧ Fr (fun j => w.heap.size ≤ j) w W)
    (fun c _ W => c = .ret ∧ (∃ s ∈ r.names, 64 < s.size) ∧ Blk W (w.heap.size + 1) 4 #[.bool false] ∧ Fr (fun j => w.heap.size ≤ j) w W) ?hI ?hIx ⟨id, id⟩ ⟨by omega, by omega⟩ ?h0
    (fun _ a' _ => ∃ s0 s1 s3 s4 s5 s6 s7 s8 s9 s10 s11 s12 s13 s14 s15 s16 s17 s18 s19 s20 s21 s22 s23 s24 s25 s26, a' = { tmps := #[s0, s1, .pointer (some ⟨w.heap.size + 1, 0, none⟩), s3, s4, s5, s6, s7, s8, s9, s10, s11, s12, s13, s14, s15, s16, s17, s18, s19, s20, s21, s22, s23, s24, s25, s26], defers := [] }) (fun _ _ _ _ h _ => h) ?assign ?body ?done ?stop (fun _ _ _ h _ => h) (fun _ _ _ h _ => h)
  case hI =>
    rintro pre P Q ⟨rfl, q1, q2⟩ hf
    exact ⟨rfl, q1.fr hf (by rintro (h | h | h); exact h; omega; omega), q2.trans hf fun j hj h => by rcases h with h | h | h; exact h.elim; (show w.heap.size ≤ j; omega); (show w.heap.size ≤ j; omega)⟩
  case hIx =>
    rintro c pre P Q ⟨rfl, q0, q1, q2⟩ hf
    exact ⟨rfl, q0, q1.fr hf (by rintro (h | h | h); exact h; omega; omega), q2.trans hf fun j hj h => by rcases h with h | h | h; exact h.elim; (show w.heap.size ≤ j; omega); (show w.heap.size ≤ j; omega)⟩
  case h0 => exact ⟨rfl, hBr2, hf2.mono fun _ _ h => h.elim⟩
  case assign =>
    intro l x W K hsz hK
    simp only [params_one]
    gi_wp2
    exact hK _ _ (Fr.refl _ _) ⟨_, _, _, _, _, _, _, _, _, _, _, _, _, _, _, _, _, _, _, _, _, _, _, _, _, _, rfl⟩
  case body =>
    rintro pre x W a' ⟨rfl, q1, q2⟩ ⟨hx1, hx2⟩ ⟨s0, s1, s3, s4, s5, s6, s7, s8, s9, s10, s11, s12, s13, s14, s15, s16, s17, s18, s19, s20, s21, s22, s23, s24, s25, s26, rfl⟩ hsz
    have c1 := q1.cell_0
    have z1 := q1.frozen 0
    have hex : ∃ s ∈ r.names, 64 < s.size := ⟨x, hx1, hx2⟩
    have Hex := Lib.hid hex
    clear hx1 hx2 hex
    gi_wp2
    exact ⟨(Fr.refl _ _).at_ _ _, rfl, Hex.out, by simpa using q1.set_ 0 (.bool false), q2.set_ (.inl (by show w.heap.size ≤ w.heap.size + 1; omega)) _ _⟩
  case done =>
    rintro xs W hS ⟨rfl, q1, q2⟩ hK
    have c1 := q1.cell_0
    have z1 := q1.frozen 0
    have he : repAns r = true := by
      rw [Hans.out, List.all_eq_true]
      intro s hs
      simpa using hS rfl s hs
    have He := Lib.hid he
    have HK := Lib.hid hK
    clear hS he hK
    gi_wp2
    have hB4 : ∀ {o : Obj}, Blk ((W.setCell ⟨w.heap.size + 1, 0, none⟩ (.bool true)).putObj w3.heap.size o) (w.heap.size + 1) 4 #[.bool true] := fun {o} => by
      have h := (q1.set_ 0 (.bool true)).fr ((Fr.refl (fun j => j = w3.heap.size) _).putObj (r := w3.heap.size) (.inl rfl) o) (by omega)
      simpa using h
    have hF4 : ∀ {o : Obj}, Fr NoB w ((W.setCell ⟨w.heap.size + 1, 0, none⟩ (.bool true)).putObj w3.heap.size o) := fun {o} =>
      ((q2.set_ (.inl (by show w.heap.size ≤ w.heap.size + 1; omega)) 0 (.bool true)).putObj (r := w3.heap.size) (.inr (by omega)) o).mono fun k hk h => absurd h (by show ¬ w.heap.size ≤ k; omega)
    refine ⟨by simp, .inl ⟨_, _, rfl, run_takeDeferred ((Below.heap_setCell W _ _ _ (by simp; omega)).trans HK.out), ?_⟩⟩
    have c4 := fun o => (hB4 (o := o)).cell_0
    exact ⟨.bool true, by simp [results, Try.results94, go_sem, c4], ret_bool He.out.symm, hF4⟩
  case stop =>
    rintro c pre W _ ⟨rfl, ⟨s, hs1, hs2⟩, q1, q2⟩ hK
    have c1 := q1.cell_0
    have he : repAns r = false := by
      rw [Hans.out, List.all_eq_false]
      exact ⟨s, hs1, by simpa using hs2⟩
    have He := Lib.hid he
    have HK := Lib.hid hK
    clear he hK hs1 hs2
    gi_wp2
    have hB4 : ∀ {o : Obj}, Blk (W.putObj w3.heap.size o) (w.heap.size + 1) 4 #[.bool false] := fun {o} => by
      have h := q1.fr ((Fr.refl (fun j => j = w3.heap.size) _).putObj (r := w3.heap.size) (.inl rfl) o) (by omega)
      simpa using h
    have hF4 : ∀ {o : Obj}, Fr NoB w (W.putObj w3.heap.size o) := fun {o} =>
      (q2.putObj (r := w3.heap.size) (.inr (by omega)) o).mono fun k hk h => absurd h (by show ¬ w.heap.size ≤ k; omega)
    refine ⟨by simp, .inl ⟨_, _, rfl, run_takeDeferred HK.out, ?_⟩⟩
    have c4 := fun o => (hB4 (o := o)).cell_0
    exact ⟨.bool false, by simp [results, Try.results94, go_sem, c4], ret_bool He.out.symm, hF4⟩

set_option maxRecDepth 100000 in
set_option maxHeartbeats 4000000 in
theorem answers_any (w : World) (F : Nat → Prop) (y : List Value) (r : Rep) (hy : RepR w F y r) :
    Calls Try.prog 94 #[.agg y.toArray] w fun e w' => e = .returned (.bool (repAns r)) ∧ Fr NoB w w' := by
  obtain ⟨A, n, c, B, m, d, rfl, _, _, hb, hmd, hdm, hn, _⟩ := hy
  have hB : RepBlk ((w.alloc (.cells (repCells r A n c B m d).toArray 90)).alloc (.cells #[.bool false] 4)) w.heap.size r A n c B m d := ⟨(Blk.new _ _ _).alloc _⟩
  have Hbl := Lib.hid hb.len
  have Hml := Lib.hid (Strs.len hn)
  have p2 := hB.c2
  have p36 := hB.c36
  have p37 := hB.c37
  clear hB hb
  by_cases h1 : 0 ≤ r.err
  · have b1 : decide (r.err < 0) = false := by simp only [decide_eq_false_iff_not]; omega
    by_cases h2 : r.err ≤ 1000
    · have b2 : decide (1000 < r.err) = false := by simp only [decide_eq_false_iff_not]; omega
      by_cases h3 : n ≤ 110000
      · have b3 : decide (110000 < (n : Int)) = false := by simp only [decide_eq_false_iff_not]; omega
        by_cases h4 : m ≤ 1000
        · have b4 : decide (1000 < (m : Int)) = false := by simp only [decide_eq_false_iff_not]; omega
          exact answers_on w F A n c B m d r hn h1 h2 h3 h4 Hbl.out Hml.out
        · have b4 : decide (1000 < (m : Int)) = true := by simp only [decide_eq_true_eq]; omega
          have He : Hid (repAns r = false) := by show _ = _; simp [repAns, Hbl.out, Hml.out, h4]
          clear h4
          generalize repCells r A n c B m d = yc at *
          go_enter Try.func94, Try.ntmps94
          go_wp2
          refine bodyPost_ret (v := .bool false) (by simp [results, Try.results94, go_sem]) rfl ?_
          exact ⟨ret_bool He.out.symm, (((Fr.refl NoB w).alloc _).alloc _)⟩
      · have b3 : decide (110000 < (n : Int)) = true := by simp only [decide_eq_true_eq]; omega
        have He : Hid (repAns r = false) := by show _ = _; simp [repAns, Hbl.out, Hml.out, h3]
        clear h3
        generalize repCells r A n c B m d = yc at *
        go_enter Try.func94, Try.ntmps94
        go_wp2
        refine bodyPost_ret (v := .bool false) (by simp [results, Try.results94, go_sem]) rfl ?_
        exact ⟨ret_bool He.out.symm, (((Fr.refl NoB w).alloc _).alloc _)⟩
    · have b2 : decide (1000 < r.err) = true := by simp only [decide_eq_true_eq]; omega
      have He : Hid (repAns r = false) := by show _ = _; simp [repAns, Hbl.out, Hml.out, h2]
      clear h2
      generalize repCells r A n c B m d = yc at *
      go_enter Try.func94, Try.ntmps94
      go_wp2
      refine bodyPost_ret (v := .bool false) (by simp [results, Try.results94, go_sem]) rfl ?_
      exact ⟨ret_bool He.out.symm, (((Fr.refl NoB w).alloc _).alloc _)⟩
  · have b1 : decide (r.err < 0) = true := by simp only [decide_eq_true_eq]; omega
    have He : Hid (repAns r = false) := by show _ = _; simp [repAns, Hbl.out, Hml.out, h1]
    clear h1
    generalize repCells r A n c B m d = yc at *
    go_enter Try.func94, Try.ntmps94
    go_wp2
    refine bodyPost_ret (v := .bool false) (by simp [results, Try.results94, go_sem]) rfl ?_
    exact ⟨ret_bool He.out.symm, (((Fr.refl NoB w).alloc _).alloc _)⟩
end Go.Proofs.Ytnkfchondedfcaa
