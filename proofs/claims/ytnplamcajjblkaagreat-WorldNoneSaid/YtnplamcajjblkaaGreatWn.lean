/-
  A world that nobody made does nothing (the walk of WorldNone). Conditions: each contract states its own.
-/
import Derived.Test.YtnplamcajjblkaaGreatKz
import Derived.Test.YtnplamcajjblkaaGreatLop
namespace Go.Proofs.YtnplamcajjblkaaGreat
open Go.RowKit Go.Shelf
attribute [local go_sem] Oper.semAt_some

theorem clash_nil (w : World) : Calls Tryz.prog 6 #[.pointer none] w fun e w' => e = .returned (.tuple #[.slice none 0 0, .slice none 0 0, .bool false]) ∧ w' = w := by
  go_enter Tryz.func6, Tryz.ntmps6
  go_wp2
  refine bodyPost_ret (results_tmp3 rfl _ _ _) rfl ?_
  exact ⟨rfl, rfl⟩
theorem disk_nil (w : World) : Calls Tryz.prog 8 #[.pointer none] w fun e w' => e = .returned (.pointer none) ∧ w' = w := by
  go_enter Tryz.func8, Tryz.ntmps8
  go_wp2
  go_ret
  exact ⟨rfl, rfl⟩
theorem keep_nil (w : World) : Calls Tryz.prog 9 #[.pointer none] w fun e w' => e = .returned (.pointer none) ∧ w' = w := by
  go_enter Tryz.func9, Tryz.ntmps9
  go_wp2
  go_ret
  exact ⟨rfl, rfl⟩
theorem run1_nil (m : Nat) (hm : 4 ≤ m) (w : World) (bl : Nat) (hb : Blk w bl 27 #[.pointer none]) :
    SeqW m Tryz.prog 11 #[.pointer (some ⟨bl, 0, none⟩)] (fun x : Empty => x.elim) (fun _ => False) (fun _ => False) (fun _ _ _ _ => False) (fun _ _ => True) (fun _ _ => False) w := by
  intro lp J Jx W hF0 hl1 hl2 hJ hJx hY h0
  have b0 := (hb.fr hF0 id).cell_0
  have hm1 : 1 ≤ m := by omega
  refine callsIn_of_wp Tryz.func11 rfl trivial ?_ rfl
  simp only [Tryz.ntmps11, List.size_toArray, List.length_cons, List.length_nil, Nat.reduceAdd, Nat.reduceSub, Array.replicate_succ, Array.replicate_zero, List.push_toArray, List.append_toArray, List.nil_append, List.cons_append]
  gi_wp2
  refine wpIn_scope_calm ?hQ ?_
  case hQ => exact fun _ _ _ h => h
  gi_wp2_with (refine wpIn_label ?_)
  refine bodyPost_ret (results_none rfl _ _ _) rfl ?_
  exact ⟨⟨_, rfl⟩, .inl ⟨[], trivial, h0⟩⟩
theorem toList_toArrW (a : Array Value) : a.toList.toArray = a := by simp
theorem world_zero : Tryz.prog.built 40 [] = some #[.int .i64 0, .slice none 0 0, .int .i64 0, .int .u64 0, .int .i64 0, .slice none 0 0, .slice none 0 0, .slice none 0 0, .slice none 0 0, .pointer none, .pointer none, .pointer none, .slice none 0 0, .int .i64 0, .bool false] := by kernel_rfl
theorem ans_err {o : Oper} {a : Act} {w : World} (x : Operand) (ho : o.op = .field 51 x 0) (cs : Array Value) (v : Value) (hx : a.eval x = .agg cs) (h : cs[0]? = some v) : (execOp a.eval o).run Tryz.prog w = .ok (.value v) w := by
  have hr : (Instr.field 51 (.agg cs) 0).run Tryz.prog w = .ok v w := by
    simp [Instr.field, run_underlying Tryz.underlying51, asAgg, part, isAgg, run_underlying Tryz.underlying38, h]
  unfold execOp
  simp only [ho, hx, Sem.run_bind, hr, Result.andThen_ok, Sem.run_pure]

set_option maxRecDepth 100000 in
set_option maxHeartbeats 2000000 in
theorem WorldNone_any (w : World) (cl ki : Int) (b pa ot tx : ByteArray) (nn : Int) :
    Calls Tryz.prog 3 #[.agg (opC cl ki b pa ot tx nn)] w fun e w' => e = .returned (.bool true) ∧ Below w.heap.size w w' := by
  obtain ⟨B, hB⟩ : ∃ B, B = w.heap.size := ⟨_, rfl⟩
  obtain ⟨oc, hoc⟩ : ∃ oc, oc = opC cl ki b pa ot tx nn := ⟨_, rfl⟩
  have goL : Hid (oc.toList.length = 7) := by show _ = _; rw [hoc]; rfl
  have HD0 : Hid (∀ W, Calls Tryz.prog 7 #[.pointer none, .agg oc] W fun e w' => e = .returned (.agg (ansL 1).toArray) ∧ Fr NoB W w') := by
    show ∀ W, _
    intro W
    rw [hoc]
    exact do_nil W cl ki b pa ot tx nn
  have HD1 : Hid (∀ W q, W.cell? ⟨q, 14, none⟩ = some (.bool false) → Calls Tryz.prog 7 #[.pointer (some ⟨q, 0, none⟩), .agg oc] W fun e w' => e = .returned (.agg (ansL 1).toArray) ∧ Fr NoB W w') := by
    show ∀ W q, _ → _
    intro W q h
    rw [hoc]
    exact do_unmade W q cl ki b pa ot tx nn h
  rw [← hoc]
  obtain ⟨av, hav⟩ : ∃ av, av = (ansL 1).toArray := ⟨_, rfl⟩
  have a0 : Hid (av[0]? = some (.int .i64 1)) := by show _ = _; rw [hav]; rfl
  rw [← hav] at HD0 HD1
  obtain ⟨w1, hw1⟩ : ∃ w1, w1 = (w.alloc (.cells oc 25)).alloc (.cells #[.bool false] 4) := ⟨_, rfl⟩
  have hf1 : Fr NoB w w1 := by rw [hw1]; exact ((Fr.refl _ _).alloc _).alloc _
  have kO : Blk w1 B 25 oc := by rw [hw1, hB]; exact (Blk.new _ _ _).alloc _
  have kR : Blk w1 (B + 1) 4 #[.bool false] := by
    have := Blk.new (w.alloc (.cells oc 25)) 4 #[.bool false]
    rw [World.size_alloc] at this
    rw [hw1, hB]
    exact this
  have s1 : w1.heap.size = B + 2 := by rw [hw1, hB, World.size_alloc, World.size_alloc]
  have Hfin : Hid (∀ W, Fr NoB w W → Below w.heap.size w W) := by
    show ∀ W, _ → _
    intro W h
    exact h.below (Nat.le_refl _) fun _ _ => id
  have HB := Lib.hid hB
  have Hw1 := Lib.hid hw1
  clear hB hw1 hoc hav
  refine (callsIn_wide (n := 7)).1 ?_
  refine callsIn_of_wp_marks Tryz.func3 rfl trivial ?_ rfl
  simp only [Tryz.ntmps3, List.size_toArray, List.length_cons, List.length_nil, Nat.reduceAdd, Nat.reduceSub, Array.replicate_succ, Array.replicate_zero, List.push_toArray, List.append_toArray, List.nil_append, List.cons_append]
  gi_wp2_with (first
    | (refine ⟨trivial, ?_⟩
       gi_at_call 4
       rw [← Hw1.out, ← HB.out]
       refine (callsIn_wide.2 (awake30 w1)).mono ?_
       rintro e w2 ⟨rfl, f12⟩
       have kO2 := kO.fr f12 id
       have kR2 := kR.fr f12 id)
    | (refine wpListIn_buildY rfl 40 #[] rfl [] rfl _ world_zero ?_)
    | (refine ⟨trivial, ?_⟩
       gi_at_call 5
       obtain ⟨g, hg⟩ : ∃ g, g = w2.heap.size := ⟨_, rfl⟩
       obtain ⟨w3, hw3⟩ : ∃ w3, w3 = w2.alloc (.cells #[.int .i64 0, .slice none 0 0, .int .i64 0, .int .u64 0, .int .i64 0, .slice none 0 0, .slice none 0 0, .slice none 0 0, .slice none 0 0, .pointer none, .pointer none, .pointer none, .slice none 0 0, .int .i64 0, .bool false] 40) := ⟨_, rfl⟩
       rw [← hw3, ← hg]
       have f23 : Fr NoB w2 w3 := by rw [hw3]; exact (Fr.refl _ _).alloc _
       have kZ3 : Blk w3 g 40 #[.int .i64 0, .slice none 0 0, .int .i64 0, .int .u64 0, .int .i64 0, .slice none 0 0, .slice none 0 0, .slice none 0 0, .slice none 0 0, .pointer none, .pointer none, .pointer none, .slice none 0 0, .int .i64 0, .bool false] := by rw [hw3, hg]; exact Blk.new _ _ _
       refine (callsIn_wide.2 (run_any w3 _)).mono ?_
       rintro e w4 ⟨rfl, hw4⟩
       obtain ⟨bw, hbw⟩ : ∃ bw, bw = w3.heap.size := ⟨_, rfl⟩
       rw [← hbw]
       have f34 : Fr NoB w3 w4 := by rw [hw4]; exact (Fr.refl _ _).alloc _
       have kw4 : Blk w4 bw 27 #[.pointer none] := by rw [hw4, hbw]; exact Blk.new _ _ _
       have f24 := f23.trans f34 fun _ _ h => h
       have kZ4 := kZ3.fr f34 id
       have kO4 := kO2.fr f24 id
       have kR4 := kR2.fr f24 id
       have f04 := (hf1.trans f12 fun _ _ h => h).trans f24 fun _ _ h => h
       clear hw4 hw3 hbw hg kO2 kR2))
  refine wpIn_rangeFuncW (gf := 11) (lb := #[.pointer (some ⟨bw, 0, none⟩)]) rfl (enters_of Tryz.func11 (by kernel_rfl) rfl)
    (run1_nil 6 (by omega) w4 bw kw4) (fun x => x.elim)
    (fun _ W => Fr NoB w4 W) (fun _ _ _ => False) ?hI (fun _ _ _ _ h _ => h) ⟨id, id⟩ ⟨id, id⟩ (fun _ _ _ _ h _ => h) (Fr.refl _ _)
    (fun _ _ _ => True) (fun _ _ _ _ h _ => h) (fun _ x => x.elim) (fun _ x => x.elim) ?done (fun _ _ _ h _ => h.elim) (fun _ _ _ h _ => h) (fun _ _ _ h _ => h)
  case hI =>
    intro pre P Q hP hf
    exact hP.new hf fun j hj => .inr (by rcases hj with h | h | h; exact h.elim; omega; omega)
  case done =>
    intro xs W _ hW hK
    have kO5 := kO4.fr hW id
    have kR5 := kR4.fr hW id
    have kZ5 := kZ4.fr hW id
    have allO : ∀ j u, oc.toList[j]? = some u → W.cell? ⟨B, 0 + j, none⟩ = some u := fun j u hu => by rw [Nat.zero_add, kO5.cell, ← Array.getElem?_toList]; exact hu
    have HK := Lib.hid hK
    clear hK
    gi_wp2_with (first
      | (refine ⟨trivial, ?_⟩
         gi_at_call 6
         refine (callsIn_wide.2 (clash_nil W)).mono ?_
         rintro e wc ⟨rfl, hc⟩
         rw [hc]
         clear hc wc)
      | ((refine wpListIn_load_agg (by simp [Region.wanted]) 25 (.tmp 1) rfl B 0 rfl oc.toList _ allO Tryz.underlying25 rfl (by rw [goL.out]; exact op_sizeW) ?_)
         rw [toList_toArrW])
      | (refine ⟨trivial, ?_⟩
         gi_at_call 7
         refine (callsIn_wide.2 (HD0.out W)).mono ?_
         rintro e w6 ⟨rfl, f56⟩
         have allO6 : ∀ j u, oc.toList[j]? = some u → w6.cell? ⟨B, 0 + j, none⟩ = some u := fun j u hu => f56.cell' (allO j u hu) id
         have z14 : w6.cell? ⟨g, 14, none⟩ = some (.bool false) := ((kZ5.fr f56 id).cell 14).trans rfl
         have kR6 := kR5.fr f56 id
         clear HD0)
      | (refine wpListIn_run (by kernel_rfl) (fun f hf => by simp [Oper.about] at hf) (fun c hc => by cases hc) (ans_err (.tmp 24) rfl av _ rfl a0.out) ?_)
      | (refine wpListIn_load_agg (by kernel_rfl) 25 (.tmp 1) rfl B 0 rfl oc.toList _ allO6 Tryz.underlying25 rfl (by rw [goL.out]; exact op_sizeW) ?_
         rw [toList_toArrW])
      | (refine ⟨trivial, ?_⟩
         gi_at_call 7
         refine (callsIn_wide.2 (HD1.out w6 g z14)).mono ?_
         rintro e w7 ⟨rfl, f67⟩
         have kR7 := kR6.fr f67 id
         have c7 := kR7.cell_0
         have z7 := kR7.frozen 0
         clear HD1)
      | (refine wpListIn_run (by kernel_rfl) (fun f hf => by simp [Oper.about] at hf) (fun c hc => by cases hc) (ans_err (.tmp 30) rfl av _ rfl a0.out) ?_)
      | (refine ⟨trivial, ?_⟩
         gi_at_call 8
         refine (callsIn_wide.2 (disk_nil w7)).mono ?_
         rintro e wc ⟨rfl, hc⟩
         rw [hc]
         clear hc wc)
      | (refine ⟨trivial, ?_⟩
         gi_at_call 9
         refine (callsIn_wide.2 (keep_nil w7)).mono ?_
         rintro e wc ⟨rfl, hc⟩
         rw [hc]
         clear hc wc))
    have hs7 := f67.size
    have hs6 := f56.size
    have hs5 := hW.size
    have hk1 : Fr (fun j => j = B + 1) w7 (w7.setCell ⟨B + 1, 0, none⟩ (.bool true)) := (Fr.refl _ _).at_ _ _
    have hk2 : ∀ {o : Obj}, Fr (fun j => j = B + 1 ∨ j = w4.heap.size) w7 ((w7.setCell ⟨B + 1, 0, none⟩ (.bool true)).putObj w4.heap.size o) := fun {o} => (hk1.mono (S' := fun j => j = B + 1 ∨ j = w4.heap.size) fun j _ h => .inl h).putObj (r := w4.heap.size) (.inl (.inr rfl)) o
    have hn4 : ¬ B + 1 = w4.heap.size := by have := kR4.lt; omega
    have hB4 : ∀ {o : Obj}, Blk ((w7.setCell ⟨B + 1, 0, none⟩ (.bool true)).putObj w4.heap.size o) (B + 1) 4 #[.bool true] := fun {o} => by
      have q := (kR7.set_ 0 (.bool true)).fr ((Fr.refl (fun j => j = w4.heap.size) _).putObj (r := w4.heap.size) (.inl rfl) o) hn4
      simpa using q
    have HK7 : w7.heap[w4.heap.size]? = some (.deferred (some [])) := by
      have hl := (Array.getElem?_eq_some_iff.1 HK.out).1
      exact (f67.block _ (by omega) id).trans ((f56.block _ hl id).trans HK.out)
    refine ⟨by simp, .inl ⟨_, _, rfl, run_takeDeferred ((Below.heap_setCell _ _ _ _ (by simp <;> omega)).trans HK7), ?_⟩⟩
    have c4 := fun o => (hB4 (o := o)).cell_0
    exact ⟨.bool true, by simp [results, Tryz.results3, go_sem, c4], rfl, Hfin.out _ ((((f04.trans hW fun _ _ h => h).trans f56 fun _ _ h => h).trans f67 fun _ _ h => h).new hk2 fun j hj => .inr (by have := HB.out; have := f04.size; omega))⟩
theorem WorldNone_row (w : World) (y : List Value) (o : OpW) (h : y = opWL o) :
    Calls Tryz.prog 3 #[.agg y.toArray] w fun e w' => e = .returned (.bool true) ∧ Below w.heap.size w w' := by
  subst h
  have := WorldNone_any w o.client o.kind o.branch o.path o.other o.text o.n
  rwa [← opC_arr] at this
end Go.Proofs.YtnplamcajjblkaaGreat
