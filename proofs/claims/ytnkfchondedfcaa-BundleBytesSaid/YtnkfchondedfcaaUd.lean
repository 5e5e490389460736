/-
  Whether an envelope may be put (envel.may). Conditions: each contract states its own.
-/
import Derived.Test.YtnkfchondedfcaaUc
namespace Go.Proofs.Ytnkfchondedfcaa
open Go.RowKit Go.Shelf
attribute [local go_sem] Oper.semAt_some

/-- An envelope, as cells and what its slices hold. -/
def EnvR (w : World) (F : Nat → Prop) (y : List Value) (e : Env) : Prop :=
  ∃ A n c B m d, y = envCells e A n c B m d ∧ ArrOf IdR w F 32 A n e.links ∧ m ≤ d ∧ d ≤ maxLen ∧ Byt w F B m e.body
theorem EnvR.fr {w w' : World} {F S : Nat → Prop} {y : List Value} {e : Env} (h : EnvR w F y e) (hf : Fr S w w') (hd : ∀ k, F k → ¬ S k) : EnvR w' F y e := by
  obtain ⟨A, n, c, B, m, d, h1, h4, h5, h6, h7⟩ := h
  exact ⟨A, n, c, B, m, d, h1, h4.fr hf hd fun _ _ _ h => h, h5, h6, h7.fr hf hd⟩
/-- An envelope in a block of its own. -/
structure EnvBlk (w : World) (g : Nat) (e : Env) (A : Option Addr) (n c : Nat) (B : Option Addr) (m d : Nat) : Prop where
  blk : Blk w g 153 (envCells e A n c B m d).toArray
section
variable {w w' : World} {g : Nat} {e : Env} {A B : Option Addr} {n c m d : Nat} {S : Nat → Prop}
theorem EnvBlk.fr (h : EnvBlk w g e A n c B m d) (hf : Fr S w w') (hd : ¬ S g) : EnvBlk w' g e A n c B m d := ⟨h.blk.fr hf hd⟩
theorem EnvBlk.c0 (h : EnvBlk w g e A n c B m d) : w.cell? ⟨g, 0, none⟩ = some (.int .i64 e.kind) := (h.blk.cell 0).trans rfl
theorem EnvBlk.c1 (h : EnvBlk w g e A n c B m d) : w.cell? ⟨g, 1, none⟩ = some (.int .u32 e.realm) := (h.blk.cell 1).trans rfl
theorem EnvBlk.c2 (h : EnvBlk w g e A n c B m d) : w.cell? ⟨g, 2, none⟩ = some (.int .u32 e.epoch) := (h.blk.cell 2).trans rfl
theorem EnvBlk.c3 (h : EnvBlk w g e A n c B m d) : w.cell? ⟨g, 3, none⟩ = some (.slice A n c) := (h.blk.cell 3).trans rfl
theorem EnvBlk.c4 (h : EnvBlk w g e A n c B m d) : w.cell? ⟨g, 4, none⟩ = some (.slice B m d) := (h.blk.cell 4).trans rfl
theorem EnvBlk.s1 (h : EnvBlk w g e A n c B m d) (v : Nat) : EnvBlk (w.setCell ⟨g, 1, none⟩ (.int .u32 v)) g { e with realm := v } A n c B m d := ⟨h.blk.set_ _ _⟩
theorem EnvBlk.s2 (h : EnvBlk w g e A n c B m d) (v : Nat) : EnvBlk (w.setCell ⟨g, 2, none⟩ (.int .u32 v)) g { e with epoch := v } A n c B m d := ⟨h.blk.set_ _ _⟩
theorem EnvBlk.s3 (h : EnvBlk w g e A n c B m d) (l : List Id32) (A' : Option Addr) (n' c' : Nat) : EnvBlk (w.setCell ⟨g, 3, none⟩ (.slice A' n' c')) g { e with links := l } A' n' c' B m d := ⟨h.blk.set_ _ _⟩
theorem EnvBlk.s4 (h : EnvBlk w g e A n c B m d) (l : List UInt8) (B' : Option Addr) (m' d' : Nat) : EnvBlk (w.setCell ⟨g, 4, none⟩ (.slice B' m' d')) g { e with body := l } A n c B' m' d' := ⟨h.blk.set_ _ _⟩
theorem EnvBlk.all (h : EnvBlk w g e A n c B m d) : ∀ j u, (envCells e A n c B m d)[j]? = some u → w.cell? ⟨g, 0 + j, none⟩ = some u := fun j u hu => by rw [Nat.zero_add, h.blk.cell]; simpa using hu
theorem envCells_ones (e : Env) (A : Option Addr) (n c : Nat) (B : Option Addr) (m d : Nat) : (envCells e A n c B m d).toArray.all (·.oneCell') = true := by simp [envCells, Value.oneCell']
end
theorem env_size : (Try.prog.info? 153).map (·.size) = some 5 := by kernel_rfl
theorem env_zero : ((Try.prog.info? 153).bind (·.zero)).map (·.cells.size) = some 5 := by kernel_rfl
theorem bool_size : (Try.prog.info? 4).map (·.size) = some 1 := by kernel_rfl

set_option maxRecDepth 100000 in
set_option maxHeartbeats 4000000 in
theorem may_on (w : World) (F : Nat → Prop) (A : Option Addr) (n c : Nat) (B : Option Addr) (m d : Nat) (e : Env) (hi : ArrOf IdR w F 32 A n e.links) (h1 : 1 ≤ e.kind) (h2 : e.kind ≤ 3) (h3 : n ≤ 1000) (h4 : m ≤ 70000) :
    Calls Try.prog 106 #[.agg (envCells e A n c B m d).toArray] w fun x w' => x = .returned (.bool (rising e.links)) ∧ Fr NoB w w' := by
  have Hll := Lib.hid hi.len
  have b1 : decide (e.kind < 1) = false := by simp only [decide_eq_false_iff_not]; omega
  have b2 : decide (3 < e.kind) = false := by simp only [decide_eq_false_iff_not]; omega
  have b3 : decide (1000 < (n : Int)) = false := by simp only [decide_eq_false_iff_not]; omega
  have b4 : decide (70000 < (m : Int)) = false := by simp only [decide_eq_false_iff_not]; omega
  have hB : EnvBlk ((w.alloc (.cells (envCells e A n c B m d).toArray 153)).alloc (.cells #[.bool false] 4)) w.heap.size e A n c B m d := ⟨(Blk.new _ _ _).alloc _⟩
  have hf : Fr NoB w ((w.alloc (.cells (envCells e A n c B m d).toArray 153)).alloc (.cells #[.bool false] 4)) := ((Fr.refl _ _).alloc _).alloc _
  have hBr : Blk ((w.alloc (.cells (envCells e A n c B m d).toArray 153)).alloc (.cells #[.bool false] 4)) (w.heap.size + 1) 4 #[.bool false] := by simpa using Blk.new (w.alloc (.cells (envCells e A n c B m d).toArray 153)) 4 #[.bool false]
  have p0 := hB.c0
  have p3 := hB.c3
  have p4 := hB.c4
  obtain ⟨l, hl⟩ : ∃ l, l = e.links := ⟨_, rfl⟩
  rw [← hl] at hi ⊢
  rw [← hl] at Hll
  have Hl := Lib.hid hl
  clear hB hl
  generalize envCells e A n c B m d = yc at *
  refine (callsIn_wide (n := 7)).1 ?_
  refine callsIn_of_wp_marks Try.func106 rfl trivial ?_ rfl
  simp only [Try.ntmps106, List.size_toArray, List.length_cons, List.length_nil, Nat.reduceAdd, Nat.reduceSub, Array.replicate_succ, Array.replicate_zero, List.push_toArray, List.append_toArray, List.nil_append, List.cons_append]
  gi_wp2_with fail
  refine ⟨trivial, ?_⟩
  refine (callsIn_wide.2 (neighbours_any _ _ _ _)).mono ?_
  rintro x w2 ⟨rfl, hw2⟩
  obtain ⟨w1, hw1⟩ : ∃ w1, w1 = (w.alloc (.cells yc.toArray 153)).alloc (.cells #[.bool false] 4) := ⟨_, rfl⟩
  have hs1 : w1.heap.size = w.heap.size + 2 := by rw [hw1]; simp
  rw [← hw1] at hf hBr hw2
  have hbs : Blk w2 w1.heap.size 60 #[.slice A n c] := by rw [hw2]; exact Blk.new _ _ _
  have hf12 : Fr NoB w1 w2 := by rw [hw2]; exact (Fr.refl _ _).alloc _
  have hs2 : w2.heap.size = w.heap.size + 3 := by rw [hw2, World.size_alloc, hs1]
  rw [hs1] at hbs
  have hBr2 := hBr.fr hf12 id
  have hf2 := hf.trans hf12 fun _ _ => id
  have hn2 : ArrOf IdR w2 (fun k => F k ∧ k < w.heap.size) 32 A n l := (ArrOf.more hi (by omega) (fun k hk h => ⟨h, hk⟩) fun _ _ _ h => h).fr hf2 (fun _ _ => id) fun _ _ _ h => h
  have hs2a : w.heap.size + 3 ≤ w2.heap.size := by omega
  rw [← hw1, hs1]
  clear hw2 hw1 hs1 hs2 hf12 hBr hf p0 p3 p4 hi
  obtain ⟨w3, rfl⟩ : ∃ w3 : World, w3 = w2 := ⟨_, rfl⟩
  gi_wp2
  refine wpIn_rangeFuncG (gf := 118) (lb := #[.pointer (some ⟨w.heap.size + 2, 0, none⟩)]) rfl (enters_of Try.func118 (by kernel_rfl) rfl)
    (neighbours1_seq 6 (by omega) w3 (w.heap.size + 2) _ (fun j => j = w.heap.size + 1) A n c l hbs hn2 (by omega) ⟨fun k hk => by omega, by omega⟩) (fun _ => rfl)
    (fun pre W => rising (l.take (pre.length + 1)) = true ∧ Blk W (w.heap.size + 1) 4 #[.bool false] ∧ Fr (fun j => w.heap.size ≤ j) w W)
    (fun c _ W => c = .ret ∧ rising l = false ∧ Blk W (w.heap.size + 1) 4 #[.bool false] ∧ Fr (fun j => w.heap.size ≤ j) w W) ?hI ?hIx ⟨id, id⟩ ⟨by omega, by omega⟩ ?h0
    (fun p a' W' => ∃ ga gb s0 s1 s5 s6 s7 s8 s9 s10 s11 s12 s13 s14 s15 s16 s17 s18 s19 s20 s21 s22 s23 s24 s25 s26 s27 s28 s29 s30 s31 s32 s33, Blk W' ga 74 (idCells p.1).toArray ∧ Blk W' gb 74 (idCells p.2).toArray ∧ w3.heap.size + 2 ≤ ga ∧ w3.heap.size + 2 ≤ gb ∧ a' = { tmps := #[s0, s1, .pointer (some ⟨w.heap.size + 1, 0, none⟩), .pointer (some ⟨ga, 0, none⟩), .pointer (some ⟨gb, 0, none⟩), s5, s6, s7, s8, s9, s10, s11, s12, s13, s14, s15, s16, s17, s18, s19, s20, s21, s22, s23, s24, s25, s26, s27, s28, s29, s30, s31, s32, s33], defers := [] }) ?hAx ?assign ?body ?done ?stop (fun _ _ _ h _ => h) (fun _ _ _ h _ => h)
  case hI =>
    rintro pre P Q ⟨q0, q1, q2⟩ hf
    exact ⟨q0, q1.fr hf (by rintro (h | h | h); exact h; omega; omega), q2.trans hf fun j hj h => by rcases h with h | h | h; exact h.elim; (show w.heap.size ≤ j; omega); (show w.heap.size ≤ j; omega)⟩
  case hIx =>
    rintro c pre P Q ⟨rfl, q0, q1, q2⟩ hf
    exact ⟨rfl, q0, q1.fr hf (by rintro (h | h | h); exact h; omega; omega), q2.trans hf fun j hj h => by rcases h with h | h | h; exact h.elim; (show w.heap.size ≤ j; omega); (show w.heap.size ≤ j; omega)⟩
  case h0 =>
    refine ⟨?_, hBr2, hf2.mono fun _ _ h => h.elim⟩
    cases l with
    | nil => rfl
    | cons a l => rfl
  case hAx =>
    rintro p a' P Q ⟨ga, gb, s0, s1, s5, s6, s7, s8, s9, s10, s11, s12, s13, s14, s15, s16, s17, s18, s19, s20, s21, s22, s23, s24, s25, s26, s27, s28, s29, s30, s31, s32, s33, q1, q2, q3, q4, q5⟩ hf
    exact ⟨ga, gb, s0, s1, s5, s6, s7, s8, s9, s10, s11, s12, s13, s14, s15, s16, s17, s18, s19, s20, s21, s22, s23, s24, s25, s26, s27, s28, s29, s30, s31, s32, s33, q1.fr hf (by omega), q2.fr hf (by omega), q3, q4, q5⟩
  case assign =>
    intro lp x W K hsz hK
    obtain ⟨x1, x2⟩ := x
    have Hx : Hid ((idCells x1).toArray.size = 32) := by show _ = _; simp [idCells_len]
    have Hx1 : Hid ((idCells x1).toArray.all (·.oneCell') = true) := by
      show _ = _
      rw [Array.all_eq_true_iff_forall_mem]
      intro u hu
      exact bv_one x1.1 u (by simpa [idCells] using hu)
    have Hy : Hid ((idCells x2).toArray.size = 32) := by show _ = _; simp [idCells_len]
    have Hy1 : Hid ((idCells x2).toArray.all (·.oneCell') = true) := by
      show _ = _
      rw [Array.all_eq_true_iff_forall_mem]
      intro u hu
      exact bv_one x2.1 u (by simpa [idCells] using hu)
    simp only [params_two]
    generalize idCells x1 = xc at *
    generalize idCells x2 = yc2 at *
    gi_wp2_with (first
      | (refine wpListIn_alloc_any rfl 74 rfl 32 id_zero ?_; intro z hz; have Hz := Lib.hid hz; clear hz)
      | (refine wpListIn_store_newN rfl 74 (.tmp 3) (.tmp 28) rfl 32 id_size _ z Hz.out xc.toArray rfl rfl Hx.out Hx1.out ?_; clear Hz)
      | (refine wpListIn_store_newN rfl 74 (.tmp 4) (.tmp 29) rfl 32 id_size _ z Hz.out yc2.toArray (by rw [World.size_alloc]; rfl) rfl Hy.out Hy1.out ?_; clear Hz))
    refine hK _ _ (((Fr.refl NoB W).alloc _).alloc _) ?_
    exact ⟨W.heap.size, W.heap.size + 1, _, _, _, _, _, _, _, _, _, _, _, _, _, _, _, _, _, _, _, _, _, _, _, _, _, _, _, _, _, _, _, (Blk.new _ _ _).alloc _, by simpa using Blk.new (W.alloc (.cells xc.toArray 74)) 74 yc2.toArray, hsz, Nat.le_succ_of_le hsz, rfl⟩
  case body =>
    rintro pre ⟨x1, x2⟩ W a' ⟨q0, q1, q2⟩ ⟨g1, g2⟩ ⟨ga, gb, s0, s1, s5, s6, s7, s8, s9, s10, s11, s12, s13, s14, s15, s16, s17, s18, s19, s20, s21, s22, s23, s24, s25, s26, s27, s28, s29, s30, s31, s32, s33, r1, r2, r3, r4, rfl⟩ hsz
    dsimp only at g1 g2 r1 r2
    have c1 := q1.cell_0
    have z1 := q1.frozen 0
    have hrt := rising_take g1 g2
    rw [q0, Bool.true_and] at hrt
    have d1 : ∀ j u, (idCells x1)[j]? = some u → W.cell? ⟨ga, 0 + j, none⟩ = some u := fun j u hu => by rw [Nat.zero_add, r1.cell]; simpa using hu
    have d2 : ∀ j u, (idCells x2)[j]? = some u → W.cell? ⟨gb, 0 + j, none⟩ = some u := fun j u hu => by rw [Nat.zero_add, r2.cell]; simpa using hu
    have Hx : Hid ((idCells x1).length = 32) := idCells_len _
    have Hy : Hid ((idCells x2).length = 32) := idCells_len _
    have hord := fun W => Order_any W x1 x2
    have hgeq := cmp_geq x1.1 x2.1
    clear g1 g2 r1 r2 q0
    generalize idCells x1 = xc at *
    generalize idCells x2 = yc2 at *
    generalize Lib.compareBytes x1.1 x2.1 = kk at *
    generalize Op.bytesLess x1.1 x2.1 = bb at *
    have Hord := Lib.hid hord
    have Hrt := Lib.hid hrt
    clear hord hrt
    cases bb with
    | true =>
      have hge : decide (0 ≤ kk) = false := hgeq
      clear hgeq
      gi_wp2_with (first
        | (refine wpListIn_load_agg rfl 74 (.tmp 3) rfl ga 0 rfl xc _ d1 Try.underlying74 rfl (by rw [Hx.out]; exact id_size) ?_)
        | (refine wpListIn_load_agg rfl 74 (.tmp 4) rfl gb 0 rfl yc2 _ d2 Try.underlying74 rfl (by rw [Hy.out]; exact id_size) ?_)
        | (refine ⟨trivial, ?_⟩; gi_at_call 113; refine (callsIn_wide.2 (Hord.out _)).mono ?_; rintro e4 W4 ⟨rfl, hf4⟩))
      exact ⟨hf4.mono fun _ _ h => h.elim, by rw [List.length_append]; exact Hrt.out, q1.fr hf4 id, q2.trans hf4 fun _ _ h => h.elim⟩
    | false =>
      have hge : decide (0 ≤ kk) = true := hgeq
      have hno : rising l = false := by
        cases hr : rising l with
        | false => rfl
        | true =>
          have := rising_mono l (pre.length + 2) hr
          rw [Hrt.out] at this
          cases this
      have Hno := Lib.hid hno
      clear hgeq hno
      have cc := c1
      gi_wp2_with (first
        | (refine wpListIn_load_agg rfl 74 (.tmp 3) rfl ga 0 rfl xc _ d1 Try.underlying74 rfl (by rw [Hx.out]; exact id_size) ?_)
        | (refine wpListIn_load_agg rfl 74 (.tmp 4) rfl gb 0 rfl yc2 _ d2 Try.underlying74 rfl (by rw [Hy.out]; exact id_size) ?_)
        | (refine ⟨trivial, ?_⟩; gi_at_call 113; refine (callsIn_wide.2 (Hord.out _)).mono ?_; rintro e4 W4 ⟨rfl, hf4⟩; have c4 := (q1.fr hf4 id).cell_0; have z4 := (q1.fr hf4 id).frozen 0; clear c1 z1))
      exact ⟨(hf4.mono fun _ _ h => h.elim).trans ((Fr.refl (fun j => j = w.heap.size + 1) W4).at_ 0 (.bool false)) fun _ _ h => h, rfl, Hno.out, by simpa using (q1.fr hf4 id).set_ 0 (.bool false), (q2.trans hf4 fun _ _ h => h.elim).set_ (.inl (by show w.heap.size ≤ w.heap.size + 1; omega)) _ _⟩
  case done =>
    rintro xs W hS ⟨q0, q1, q2⟩ hK
    have c1 := q1.cell_0
    have z1 := q1.frozen 0
    rw [List.take_of_length_le (by rw [hS, Hll.out]; omega)] at q0
    have He := Lib.hid q0
    have HK := Lib.hid hK
    clear hS q0 hK
    gi_wp2
    have hB4 : ∀ {o : Obj}, Blk ((W.setCell ⟨w.heap.size + 1, 0, none⟩ (.bool true)).putObj w3.heap.size o) (w.heap.size + 1) 4 #[.bool true] := fun {o} => by
      have h := (q1.set_ 0 (.bool true)).fr ((Fr.refl (fun j => j = w3.heap.size) _).putObj (r := w3.heap.size) (.inl rfl) o) (by omega)
      simpa using h
    have hF4 : ∀ {o : Obj}, Fr NoB w ((W.setCell ⟨w.heap.size + 1, 0, none⟩ (.bool true)).putObj w3.heap.size o) := fun {o} =>
      ((q2.set_ (.inl (by show w.heap.size ≤ w.heap.size + 1; omega)) 0 (.bool true)).putObj (r := w3.heap.size) (.inr (by omega)) o).mono fun k hk h => absurd h (by show ¬ w.heap.size ≤ k; omega)
    refine ⟨by simp, .inl ⟨_, _, rfl, run_takeDeferred ((Below.heap_setCell W _ _ _ (by simp; omega)).trans HK.out), ?_⟩⟩
    have c4 := fun o => (hB4 (o := o)).cell_0
    exact ⟨.bool true, by simp [results, Try.results106, go_sem, c4], ret_bool He.out.symm, hF4⟩
  case stop =>
    rintro c pre W _ ⟨rfl, q0, q1, q2⟩ hK
    have c1 := q1.cell_0
    have He := Lib.hid q0
    have HK := Lib.hid hK
    clear q0 hK
    gi_wp2
    have hB4 : ∀ {o : Obj}, Blk (W.putObj w3.heap.size o) (w.heap.size + 1) 4 #[.bool false] := fun {o} => by
      have h := q1.fr ((Fr.refl (fun j => j = w3.heap.size) _).putObj (r := w3.heap.size) (.inl rfl) o) (by omega)
      simpa using h
    have hF4 : ∀ {o : Obj}, Fr NoB w (W.putObj w3.heap.size o) := fun {o} =>
      (q2.putObj (r := w3.heap.size) (.inr (by omega)) o).mono fun k hk h => absurd h (by show ¬ w.heap.size ≤ k; omega)
    refine ⟨by simp, .inl ⟨_, _, rfl, run_takeDeferred HK.out, ?_⟩⟩
    have c4 := fun o => (hB4 (o := o)).cell_0
    exact ⟨.bool false, by simp [results, Try.results106, go_sem, c4], ret_bool He.out.symm, hF4⟩

set_option maxRecDepth 100000 in
set_option maxHeartbeats 4000000 in
theorem may_any (w : World) (F : Nat → Prop) (y : List Value) (e : Env) (hy : EnvR w F y e) :
    Calls Try.prog 106 #[.agg y.toArray] w fun x w' => x = .returned (.bool (envMay e)) ∧ Fr NoB w w' := by
  obtain ⟨A, n, c, B, m, d, rfl, hi, _, _, hb⟩ := hy
  have hB : EnvBlk ((w.alloc (.cells (envCells e A n c B m d).toArray 153)).alloc (.cells #[.bool false] 4)) w.heap.size e A n c B m d := ⟨(Blk.new _ _ _).alloc _⟩
  have Hml := Lib.hid hb.len
  have Hll := Lib.hid hi.len
  have p0 := hB.c0
  have p3 := hB.c3
  have p4 := hB.c4
  clear hB hb
  by_cases h1 : 1 ≤ e.kind
  · have b1 : decide (e.kind < 1) = false := by simp only [decide_eq_false_iff_not]; omega
    by_cases h2 : e.kind ≤ 3
    · have b2 : decide (3 < e.kind) = false := by simp only [decide_eq_false_iff_not]; omega
      by_cases h3 : n ≤ 1000
      · have b3 : decide (1000 < (n : Int)) = false := by simp only [decide_eq_false_iff_not]; omega
        by_cases h4 : m ≤ 70000
        · have he : envMay e = rising e.links := by simp [envMay, h1, h2, Hml.out, Hll.out, h3, h4]
          rw [he]
          exact may_on w F A n c B m d e hi h1 h2 h3 h4
        · have b4 : decide (70000 < (m : Int)) = true := by simp only [decide_eq_true_eq]; omega
          have He : Hid (envMay e = false) := by show _ = _; simp [envMay, Hml.out, Hll.out, h4]
          clear h4
          generalize envCells e A n c B m d = yc at *
          go_enter Try.func106, Try.ntmps106
          go_wp2
          refine bodyPost_ret (v := .bool false) (by simp [results, Try.results106, go_sem]) rfl ?_
          exact ⟨ret_bool He.out.symm, (((Fr.refl NoB w).alloc _).alloc _)⟩
      · have b3 : decide (1000 < (n : Int)) = true := by simp only [decide_eq_true_eq]; omega
        have He : Hid (envMay e = false) := by show _ = _; simp [envMay, Hml.out, Hll.out, h3]
        clear h3
        generalize envCells e A n c B m d = yc at *
        go_enter Try.func106, Try.ntmps106
        go_wp2
        refine bodyPost_ret (v := .bool false) (by simp [results, Try.results106, go_sem]) rfl ?_
        exact ⟨ret_bool He.out.symm, (((Fr.refl NoB w).alloc _).alloc _)⟩
    · have b2 : decide (3 < e.kind) = true := by simp only [decide_eq_true_eq]; omega
      have He : Hid (envMay e = false) := by show _ = _; simp [envMay, Hml.out, Hll.out, h2]
      clear h2
      generalize envCells e A n c B m d = yc at *
      go_enter Try.func106, Try.ntmps106
      go_wp2
      refine bodyPost_ret (v := .bool false) (by simp [results, Try.results106, go_sem]) rfl ?_
      exact ⟨ret_bool He.out.symm, (((Fr.refl NoB w).alloc _).alloc _)⟩
  · have b1 : decide (e.kind < 1) = true := by simp only [decide_eq_true_eq]; omega
    have He : Hid (envMay e = false) := by show _ = _; simp [envMay, Hml.out, Hll.out, h1]
    clear h1
    generalize envCells e A n c B m d = yc at *
    go_enter Try.func106, Try.ntmps106
    go_wp2
    refine bodyPost_ret (v := .bool false) (by simp [results, Try.results106, go_sem]) rfl ?_
    exact ⟨ret_bool He.out.symm, (((Fr.refl NoB w).alloc _).alloc _)⟩
end Go.Proofs.Ytnkfchondedfcaa
