/-
  Each two ids that stand side by side: envel.neighbours and its iterator. Conditions: each contract states its own.
-/
import Derived.Test.YtnkfchondedfcaaUa
import Derived.Test.YtnkfchondedfcaaEc
namespace Go.Proofs.Ytnkfchondedfcaa
open Go.RowKit Go.Shelf
attribute [local go_sem] Oper.semAt_some

section
variable {F : Fence} {n : Nat} {P : Program} {ops : Array Oper} {Q : Exit → Act → World → Prop} {K : Act → World → Prop} {o : Oper} {a : Act} {w w' : World} {v : Value} {i : Nat}
theorem wpOpIn_run (hi : ops[i]? = some o) (hw : Region.wanted o (yielded ops a.tmps) = true) (hab : ∀ f, o.about P w a.eval = some f → F.fn f) (hnd : ∀ c, o.op ≠ .defer c) (hr : (execOp a.eval o).run P w = .ok (.value v) w')
    (h : K (a.put o.dst v) w') : wpOpIn F n P ops Q i K a w := by
  unfold wpOpIn
  simp only [hi]
  rw [if_pos hw]
  refine ⟨hab, ?_⟩
  rw [Oper.semAt_plain F _ _ hnd, hr]
  exact h
end

set_option maxHeartbeats 400000 in
theorem neighbours_any (w : World) (B : Option Addr) (n d : Nat) :
    Calls Try.prog 112 #[.slice B n d] w fun e w' => e = .returned (.func (.func 118) #[] #[.pointer (some ⟨w.heap.size, 0, none⟩)]) ∧ w' = w.alloc (.cells #[.slice B n d] 60) := by
  go_enter Try.func112, Try.ntmps112
  go_wp2
  go_ret
  exact ⟨rfl, rfl⟩

set_option maxRecDepth 100000 in
set_option maxHeartbeats 4000000 in
theorem neighbours1_seq (m : Nat) (hm : 2 ≤ m) (w : World) (bs : Nat) (F T : Nat → Prop) (B : Option Addr) (n d : Nat) (l : List Id32) (hbs : Blk w bs 60 #[.slice B n d]) (hS : ArrOf IdR w F 32 B n l) (hn : n ≤ 1000000)
    (hT : (∀ k, F k → ¬ T k) ∧ ¬ T bs) :
    SeqG m Try.prog 118 #[.pointer (some ⟨bs, 0, none⟩)] (fun p : Id32 × Id32 => #[.agg (idCells p.1).toArray, .agg (idCells p.2).toArray]) NoB T (fun pre p => l[pre.length]? = some p.1 ∧ l[pre.length + 1]? = some p.2)
      (fun xs _ => xs.length = n - 1) (fun _ _ => True) w := by
  intro lp J Jx W hF0 hl1 hl2 hJ hJx hY h0
  have hbn := hbs.lt
  have hSt : ArrOf IdR w (fun k => F k ∧ k < w.heap.size) 32 B n l := ArrOf.more hS (by omega) (fun k hk h => ⟨h, hk⟩) fun _ _ _ h => h
  have hml := hS.len
  have Hml := Lib.hid hml
  have hm1 : 1 ≤ m := by omega
  have hm2 : 1 ≤ m - 1 := by omega
  clear hml
  refine callsIn_of_wp Try.func118 rfl trivial ?_ rfl
  simp only [Try.ntmps118, List.size_toArray, List.length_cons, List.length_nil, Nat.reduceAdd, Nat.reduceSub, Array.replicate_succ, Array.replicate_zero, List.push_toArray, List.append_toArray, List.nil_append, List.cons_append]
  have hbW := hbs.fr hF0 id
  have hSW := hSt.fr hF0 (fun _ _ => id) fun _ _ _ h => h
  gi_wp2
  gi_loopw [3] (fun i wr => ∃ (pre : List (Id32 × Id32)) (k : Nat), (k = 0 ∨ k + 1 ≤ n) ∧ i = .int .i64 (k + 1 : Nat) ∧ pre.length = k ∧ J pre wr ∧ Blk wr bs 60 #[.slice B n d] ∧ ArrOf IdR wr (fun k => F k ∧ k < w.heap.size) 32 B n l ∧ W.heap.size ≤ wr.heap.size) (fun i _ => n - (intOf i).toNat)
  case atStart =>
    exact ⟨[], 0, .inl rfl, rfl, rfl, h0, hbW, hSW, Nat.le_refl _⟩
  case round =>
    obtain ⟨pre, k, hk, rfl, hpl, hJw, hbw, hSw, hsz⟩ := hrel
    obtain ⟨w1, rfl⟩ : ∃ w1 : World, w1 = wr := ⟨_, rfl⟩
    have cbs := hbw.cell_0
    by_cases hkn : k + 1 < n
    · obtain ⟨b1, o1, x, y1, hB1, _, gx, ly1, hr1, hc1⟩ := hSw.at_ (k := k) (by omega)
      obtain ⟨b2, o2, y, y2, hB2, _, gy, ly2, hr2, hc2⟩ := hSw.at_ (k := k + 1) (by omega)
      rw [hB1] at hB2
      injection hB2 with hB2
      injection hB2 with hb2 ho2
      subst hb2 ho2 hB1
      have hr1 : y1 = idCells x := hr1
      have hr2 : y2 = idCells y := hr2
      subst hr1 hr2
      have Hx : Hid ((idCells x).length = 32) := ly1
      have Hy : Hid ((idCells y).length = 32) := ly2
      have hJd := hJ _ _ _ hJw (Fr.drew (Fr.refl NoB w1))
      obtain ⟨fn, tmps, assign, body, hy, hRn⟩ := hY pre (x, y) w1.drew hJd ⟨by rw [hpl]; exact gx, by rw [hpl]; exact gy⟩ hsz
      clear gx gy ly1 ly2
      have hbd := hbw.fr (Fr.drew (Fr.refl NoB w1)) id
      have hSd := hSw.fr (Fr.drew (Fr.refl NoB w1)) (fun _ _ => id) fun _ _ _ h => h
      have d1 : ∀ j u, (idCells x)[j]? = some u → w1.drew.cell? ⟨b1, o1 + k * 32 + j, none⟩ = some u := hc1
      have d2 : ∀ j u, (idCells y)[j]? = some u → w1.drew.cell? ⟨b1, o1 + (k + 1) * 32 + j, none⟩ = some u := hc2
      generalize hxc : idCells x = xc at *
      generalize hyc : idCells y = yc at *
      clear hxc hyc hc1 hc2
      have dbs : w1.drew.cell? ⟨bs, 0, none⟩ = some (.slice (some ⟨b1, o1, none⟩) n d) := cbs
      have hwk : IntKind.i64.wrap (k : Int) = k := by rw [IntKind.wrap_i64]; omega
      have p1 : (0 : Int) ≤ (k : Int) := by omega
      have p2 : (k : Int) < (n : Int) := by omega
      have p3 : (0 : Int) ≤ (k : Int) + 1 := by omega
      have p4 : (k : Int) + 1 < (n : Int) := by omega
      gi_wp2
      refine wpIn_region_any rfl ?_
      refine wpAnyIn_take (i := 0) rfl rfl (by decide +kernel) (by decide +kernel) (by decide +kernel) (fun _ _ _ h => h) ⟨Or.inl ⟨by kernel_rfl, fun W => by go_simp; with_reducible rfl⟩, fun _ => rfl⟩ ?_
      refine wpAnyIn_take (i := 2) rfl rfl (by decide +kernel) (by decide +kernel) (by decide +kernel) (fun _ _ _ h => h) ⟨Or.inl ⟨by kernel_rfl, fun W => by go_simp; with_reducible rfl⟩, fun _ => rfl⟩ ?_
      refine wpAnyIn_take (i := 3) rfl rfl (by decide +kernel) (by decide +kernel) (by decide +kernel) (fun _ _ _ h => h) ⟨Or.inl ⟨by kernel_rfl, fun W => by go_simp; with_reducible rfl⟩, fun _ => rfl⟩ ?_
      refine wpAnyIn_take (i := 7) rfl rfl (by decide +kernel) (by decide +kernel) (by decide +kernel) (fun _ _ _ h => h) ⟨Or.inl ⟨by kernel_rfl, fun W => by go_simp; with_reducible rfl⟩, fun _ => rfl⟩ ?_
      go_simp
      refine wpAnyIn_all (rs := [1, 6]) (by decide +kernel) (by simp) ?_
      intro i hi
      simp only [List.mem_cons, List.not_mem_nil, or_false] at hi
      rcases hi with rfl | rfl
      · refine wpOpIn_run (v := .slice (some ⟨b1, o1, none⟩) n d) (w' := w1.drew) rfl (by kernel_rfl) (fun f hf => by simp [Oper.about] at hf) (fun c hc => by cases hc) (by go_simp) ?_
        go_simp
        refine wpAnyIn_take (i := 4) rfl rfl (by decide +kernel) (by decide +kernel) (by decide +kernel) (fun _ _ _ h => h) ⟨Or.inl ⟨by kernel_rfl, fun W => by go_simp; with_reducible rfl⟩, fun _ => rfl⟩ ?_
        go_simp
        refine wpAnyIn_all (rs := [5, 6]) (by decide +kernel) (by simp) ?_
        intro i hi
        simp only [List.mem_cons, List.not_mem_nil, or_false] at hi
        rcases hi with rfl | rfl
        · refine wpOpIn_run (v := .agg xc.toArray) (w' := w1.drew) rfl (by kernel_rfl) (fun f hf => by simp [Oper.about] at hf) (fun c hc => by cases hc) (exec_load_agg 74 (.tmp 14) rfl b1 (o1 + k * 32) rfl xc _ d1 Try.underlying74 rfl (by rw [Hx.out]; exact id_size)) ?_
          go_simp
          refine wpAnyIn_all (rs := [6]) (by decide +kernel) (by simp) ?_
          intro i hi
          simp only [List.mem_cons, List.not_mem_nil, or_false] at hi
          subst hi
          refine wpOpIn_run (v := .slice (some ⟨b1, o1, none⟩) n d) (w' := w1.drew) rfl (by kernel_rfl) (fun f hf => by simp [Oper.about] at hf) (fun c hc => by cases hc) (by go_simp) ?_
          go_simp
          refine wpAnyIn_take (i := 8) rfl rfl (by decide +kernel) (by decide +kernel) (by decide +kernel) (fun _ _ _ h => h) ⟨Or.inl ⟨by kernel_rfl, fun W => by go_simp; with_reducible rfl⟩, fun _ => rfl⟩ ?_
          go_simp
          refine wpAnyIn_all (rs := [9]) (by decide +kernel) (by simp) ?_
          intro i hi
          simp only [List.mem_cons, List.not_mem_nil, or_false] at hi
          subst hi
          refine wpOpIn_run (v := .agg yc.toArray) (w' := w1.drew) rfl (by kernel_rfl) (fun f hf => by simp [Oper.about] at hf) (fun c hc => by cases hc) (exec_load_agg 74 (.tmp 18) rfl b1 (o1 + (k + 1) * 32) rfl yc _ d2 Try.underlying74 rfl (by rw [Hy.out]; exact id_size)) ?_
          go_simp
          refine wpAnyIn_all (rs := [10]) (by decide +kernel) (by simp) ?_
          intro i hi
          simp only [List.mem_cons, List.not_mem_nil, or_false] at hi
          subst hi
          refine wpOpIn_step rfl ?_
          intro K' hK'
          gi_wp2
          refine hRn.mono ?_
          rintro e w3 (⟨rfl, hJ3, hf3⟩ | ⟨rfl, hJ3, hf3⟩)
          · refine hK' _ _ ?_
            go_simp
            refine wpAnyIn_take (i := 11) rfl rfl (by decide +kernel) (by decide +kernel) (by decide +kernel) (fun _ _ _ h => h) ⟨Or.inl ⟨by kernel_rfl, fun W => by go_simp; with_reducible rfl⟩, fun _ => rfl⟩ ?_
            go_simp
            refine wpAnyIn_done (by decide +kernel) ?_ _
            have s3 := hf3.size
            have hb3 := hbd.fr hf3 (fun h => h.elim hT.2 fun h => by omega)
            have hS3 := hSd.fr hf3 (fun j hj h => h.elim (hT.1 j hj.1) fun h => by omega) fun _ _ _ h => h
            gi_wp2
            go_roundw
            case rel => exact ⟨pre ++ [(x, y)], k + 1, .inr (by omega), by go_num, by rw [List.length_append, hpl]; rfl, hJ3, hb3, hS3, Nat.le_trans hsz s3⟩
            case measure => (simp [intOf] <;> omega)
          · refine hK' _ _ ?_
            go_simp
            refine wpAnyIn_take (i := 11) rfl rfl (by decide +kernel) (by decide +kernel) (by decide +kernel) (fun _ _ _ h => h) ⟨Or.inl ⟨by kernel_rfl, fun W => by go_simp; with_reducible rfl⟩, fun _ => rfl⟩ ?_
            go_simp
            refine wpAnyIn_done (by decide +kernel) ?_ _
            gi_wp2
            refine bodyPost_ret (results_none rfl _ _ _) rfl ?_
            exact ⟨⟨_, rfl⟩, .inr ⟨pre ++ [(x, y)], trivial, hJ3⟩⟩
        · refine wpOpIn_run (v := .slice (some ⟨b1, o1, none⟩) n d) (w' := w1.drew) rfl (by kernel_rfl) (fun f hf => by simp [Oper.about] at hf) (fun c hc => by cases hc) (by go_simp) ?_
          go_simp
          refine wpAnyIn_take (i := 8) rfl rfl (by decide +kernel) (by decide +kernel) (by decide +kernel) (fun _ _ _ h => h) ⟨Or.inl ⟨by kernel_rfl, fun W => by go_simp; with_reducible rfl⟩, fun _ => rfl⟩ ?_
          go_simp
          refine wpAnyIn_all (rs := [5, 9]) (by decide +kernel) (by simp) ?_
          intro i hi
          simp only [List.mem_cons, List.not_mem_nil, or_false] at hi
          rcases hi with rfl | rfl
          · refine wpOpIn_run (v := .agg xc.toArray) (w' := w1.drew) rfl (by kernel_rfl) (fun f hf => by simp [Oper.about] at hf) (fun c hc => by cases hc) (exec_load_agg 74 (.tmp 14) rfl b1 (o1 + k * 32) rfl xc _ d1 Try.underlying74 rfl (by rw [Hx.out]; exact id_size)) ?_
            go_simp
            refine wpAnyIn_all (rs := [9]) (by decide +kernel) (by simp) ?_
            intro i hi
            simp only [List.mem_cons, List.not_mem_nil, or_false] at hi
            subst hi
            refine wpOpIn_run (v := .agg yc.toArray) (w' := w1.drew) rfl (by kernel_rfl) (fun f hf => by simp [Oper.about] at hf) (fun c hc => by cases hc) (exec_load_agg 74 (.tmp 18) rfl b1 (o1 + (k + 1) * 32) rfl yc _ d2 Try.underlying74 rfl (by rw [Hy.out]; exact id_size)) ?_
            go_simp
            refine wpAnyIn_all (rs := [10]) (by decide +kernel) (by simp) ?_
            intro i hi
            simp only [List.mem_cons, List.not_mem_nil, or_false] at hi
            subst hi
            refine wpOpIn_step rfl ?_
            intro K' hK'
            gi_wp2
            refine hRn.mono ?_
            rintro e w3 (⟨rfl, hJ3, hf3⟩ | ⟨rfl, hJ3, hf3⟩)
            · refine hK' _ _ ?_
              go_simp
              refine wpAnyIn_take (i := 11) rfl rfl (by decide +kernel) (by decide +kernel) (by decide +kernel) (fun _ _ _ h => h) ⟨Or.inl ⟨by kernel_rfl, fun W => by go_simp; with_reducible rfl⟩, fun _ => rfl⟩ ?_
              go_simp
              refine wpAnyIn_done (by decide +kernel) ?_ _
              have s3 := hf3.size
              have hb3 := hbd.fr hf3 (fun h => h.elim hT.2 fun h => by omega)
              have hS3 := hSd.fr hf3 (fun j hj h => h.elim (hT.1 j hj.1) fun h => by omega) fun _ _ _ h => h
              gi_wp2
              go_roundw
              case rel => exact ⟨pre ++ [(x, y)], k + 1, .inr (by omega), by go_num, by rw [List.length_append, hpl]; rfl, hJ3, hb3, hS3, Nat.le_trans hsz s3⟩
              case measure => (simp [intOf] <;> omega)
            · refine hK' _ _ ?_
              go_simp
              refine wpAnyIn_take (i := 11) rfl rfl (by decide +kernel) (by decide +kernel) (by decide +kernel) (fun _ _ _ h => h) ⟨Or.inl ⟨by kernel_rfl, fun W => by go_simp; with_reducible rfl⟩, fun _ => rfl⟩ ?_
              go_simp
              refine wpAnyIn_done (by decide +kernel) ?_ _
              gi_wp2
              refine bodyPost_ret (results_none rfl _ _ _) rfl ?_
              exact ⟨⟨_, rfl⟩, .inr ⟨pre ++ [(x, y)], trivial, hJ3⟩⟩
          · refine wpOpIn_run (v := .agg yc.toArray) (w' := w1.drew) rfl (by kernel_rfl) (fun f hf => by simp [Oper.about] at hf) (fun c hc => by cases hc) (exec_load_agg 74 (.tmp 18) rfl b1 (o1 + (k + 1) * 32) rfl yc _ d2 Try.underlying74 rfl (by rw [Hy.out]; exact id_size)) ?_
            go_simp
            refine wpAnyIn_all (rs := [5]) (by decide +kernel) (by simp) ?_
            intro i hi
            simp only [List.mem_cons, List.not_mem_nil, or_false] at hi
            subst hi
            refine wpOpIn_run (v := .agg xc.toArray) (w' := w1.drew) rfl (by kernel_rfl) (fun f hf => by simp [Oper.about] at hf) (fun c hc => by cases hc) (exec_load_agg 74 (.tmp 14) rfl b1 (o1 + k * 32) rfl xc _ d1 Try.underlying74 rfl (by rw [Hx.out]; exact id_size)) ?_
            go_simp
            refine wpAnyIn_all (rs := [10]) (by decide +kernel) (by simp) ?_
            intro i hi
            simp only [List.mem_cons, List.not_mem_nil, or_false] at hi
            subst hi
            refine wpOpIn_step rfl ?_
            intro K' hK'
            gi_wp2
            refine hRn.mono ?_
            rintro e w3 (⟨rfl, hJ3, hf3⟩ | ⟨rfl, hJ3, hf3⟩)
            · refine hK' _ _ ?_
              go_simp
              refine wpAnyIn_take (i := 11) rfl rfl (by decide +kernel) (by decide +kernel) (by decide +kernel) (fun _ _ _ h => h) ⟨Or.inl ⟨by kernel_rfl, fun W => by go_simp; with_reducible rfl⟩, fun _ => rfl⟩ ?_
              go_simp
              refine wpAnyIn_done (by decide +kernel) ?_ _
              have s3 := hf3.size
              have hb3 := hbd.fr hf3 (fun h => h.elim hT.2 fun h => by omega)
              have hS3 := hSd.fr hf3 (fun j hj h => h.elim (hT.1 j hj.1) fun h => by omega) fun _ _ _ h => h
              gi_wp2
              go_roundw
              case rel => exact ⟨pre ++ [(x, y)], k + 1, .inr (by omega), by go_num, by rw [List.length_append, hpl]; rfl, hJ3, hb3, hS3, Nat.le_trans hsz s3⟩
              case measure => (simp [intOf] <;> omega)
            · refine hK' _ _ ?_
              go_simp
              refine wpAnyIn_take (i := 11) rfl rfl (by decide +kernel) (by decide +kernel) (by decide +kernel) (fun _ _ _ h => h) ⟨Or.inl ⟨by kernel_rfl, fun W => by go_simp; with_reducible rfl⟩, fun _ => rfl⟩ ?_
              go_simp
              refine wpAnyIn_done (by decide +kernel) ?_ _
              gi_wp2
              refine bodyPost_ret (results_none rfl _ _ _) rfl ?_
              exact ⟨⟨_, rfl⟩, .inr ⟨pre ++ [(x, y)], trivial, hJ3⟩⟩
      · refine wpOpIn_run (v := .slice (some ⟨b1, o1, none⟩) n d) (w' := w1.drew) rfl (by kernel_rfl) (fun f hf => by simp [Oper.about] at hf) (fun c hc => by cases hc) (by go_simp) ?_
        go_simp
        refine wpAnyIn_take (i := 8) rfl rfl (by decide +kernel) (by decide +kernel) (by decide +kernel) (fun _ _ _ h => h) ⟨Or.inl ⟨by kernel_rfl, fun W => by go_simp; with_reducible rfl⟩, fun _ => rfl⟩ ?_
        go_simp
        refine wpAnyIn_all (rs := [1, 9]) (by decide +kernel) (by simp) ?_
        intro i hi
        simp only [List.mem_cons, List.not_mem_nil, or_false] at hi
        rcases hi with rfl | rfl
        · refine wpOpIn_run (v := .slice (some ⟨b1, o1, none⟩) n d) (w' := w1.drew) rfl (by kernel_rfl) (fun f hf => by simp [Oper.about] at hf) (fun c hc => by cases hc) (by go_simp) ?_
          go_simp
          refine wpAnyIn_take (i := 4) rfl rfl (by decide +kernel) (by decide +kernel) (by decide +kernel) (fun _ _ _ h => h) ⟨Or.inl ⟨by kernel_rfl, fun W => by go_simp; with_reducible rfl⟩, fun _ => rfl⟩ ?_
          go_simp
          refine wpAnyIn_all (rs := [5, 9]) (by decide +kernel) (by simp) ?_
          intro i hi
          simp only [List.mem_cons, List.not_mem_nil, or_false] at hi
          rcases hi with rfl | rfl
          · refine wpOpIn_run (v := .agg xc.toArray) (w' := w1.drew) rfl (by kernel_rfl) (fun f hf => by simp [Oper.about] at hf) (fun c hc => by cases hc) (exec_load_agg 74 (.tmp 14) rfl b1 (o1 + k * 32) rfl xc _ d1 Try.underlying74 rfl (by rw [Hx.out]; exact id_size)) ?_
            go_simp
            refine wpAnyIn_all (rs := [9]) (by decide +kernel) (by simp) ?_
            intro i hi
            simp only [List.mem_cons, List.not_mem_nil, or_false] at hi
            subst hi
            refine wpOpIn_run (v := .agg yc.toArray) (w' := w1.drew) rfl (by kernel_rfl) (fun f hf => by simp [Oper.about] at hf) (fun c hc => by cases hc) (exec_load_agg 74 (.tmp 18) rfl b1 (o1 + (k + 1) * 32) rfl yc _ d2 Try.underlying74 rfl (by rw [Hy.out]; exact id_size)) ?_
            go_simp
            refine wpAnyIn_all (rs := [10]) (by decide +kernel) (by simp) ?_
            intro i hi
            simp only [List.mem_cons, List.not_mem_nil, or_false] at hi
            subst hi
            refine wpOpIn_step rfl ?_
            intro K' hK'
            gi_wp2
            refine hRn.mono ?_
            rintro e w3 (⟨rfl, hJ3, hf3⟩ | ⟨rfl, hJ3, hf3⟩)
            · refine hK' _ _ ?_
              go_simp
              refine wpAnyIn_take (i := 11) rfl rfl (by decide +kernel) (by decide +kernel) (by decide +kernel) (fun _ _ _ h => h) ⟨Or.inl ⟨by kernel_rfl, fun W => by go_simp; with_reducible rfl⟩, fun _ => rfl⟩ ?_
              go_simp
              refine wpAnyIn_done (by decide +kernel) ?_ _
              have s3 := hf3.size
              have hb3 := hbd.fr hf3 (fun h => h.elim hT.2 fun h => by omega)
              have hS3 := hSd.fr hf3 (fun j hj h => h.elim (hT.1 j hj.1) fun h => by omega) fun _ _ _ h => h
              gi_wp2
              go_roundw
              case rel => exact ⟨pre ++ [(x, y)], k + 1, .inr (by omega), by go_num, by rw [List.length_append, hpl]; rfl, hJ3, hb3, hS3, Nat.le_trans hsz s3⟩
              case measure => (simp [intOf] <;> omega)
            · refine hK' _ _ ?_
              go_simp
              refine wpAnyIn_take (i := 11) rfl rfl (by decide +kernel) (by decide +kernel) (by decide +kernel) (fun _ _ _ h => h) ⟨Or.inl ⟨by kernel_rfl, fun W => by go_simp; with_reducible rfl⟩, fun _ => rfl⟩ ?_
              go_simp
              refine wpAnyIn_done (by decide +kernel) ?_ _
              gi_wp2
              refine bodyPost_ret (results_none rfl _ _ _) rfl ?_
              exact ⟨⟨_, rfl⟩, .inr ⟨pre ++ [(x, y)], trivial, hJ3⟩⟩
          · refine wpOpIn_run (v := .agg yc.toArray) (w' := w1.drew) rfl (by kernel_rfl) (fun f hf => by simp [Oper.about] at hf) (fun c hc => by cases hc) (exec_load_agg 74 (.tmp 18) rfl b1 (o1 + (k + 1) * 32) rfl yc _ d2 Try.underlying74 rfl (by rw [Hy.out]; exact id_size)) ?_
            go_simp
            refine wpAnyIn_all (rs := [5]) (by decide +kernel) (by simp) ?_
            intro i hi
            simp only [List.mem_cons, List.not_mem_nil, or_false] at hi
            subst hi
            refine wpOpIn_run (v := .agg xc.toArray) (w' := w1.drew) rfl (by kernel_rfl) (fun f hf => by simp [Oper.about] at hf) (fun c hc => by cases hc) (exec_load_agg 74 (.tmp 14) rfl b1 (o1 + k * 32) rfl xc _ d1 Try.underlying74 rfl (by rw [Hx.out]; exact id_size)) ?_
            go_simp
            refine wpAnyIn_all (rs := [10]) (by decide +kernel) (by simp) ?_
            intro i hi
            simp only [List.mem_cons, List.not_mem_nil, or_false] at hi
            subst hi
            refine wpOpIn_step rfl ?_
            intro K' hK'
            gi_wp2
            refine hRn.mono ?_
            rintro e w3 (⟨rfl, hJ3, hf3⟩ | ⟨rfl, hJ3, hf3⟩)
            · refine hK' _ _ ?_
              go_simp
              refine wpAnyIn_take (i := 11) rfl rfl (by decide +kernel) (by decide +kernel) (by decide +kernel) (fun _ _ _ h => h) ⟨Or.inl ⟨by kernel_rfl, fun W => by go_simp; with_reducible rfl⟩, fun _ => rfl⟩ ?_
              go_simp
              refine wpAnyIn_done (by decide +kernel) ?_ _
              have s3 := hf3.size
              have hb3 := hbd.fr hf3 (fun h => h.elim hT.2 fun h => by omega)
              have hS3 := hSd.fr hf3 (fun j hj h => h.elim (hT.1 j hj.1) fun h => by omega) fun _ _ _ h => h
              gi_wp2
              go_roundw
              case rel => exact ⟨pre ++ [(x, y)], k + 1, .inr (by omega), by go_num, by rw [List.length_append, hpl]; rfl, hJ3, hb3, hS3, Nat.le_trans hsz s3⟩
              case measure => (simp [intOf] <;> omega)
            · refine hK' _ _ ?_
              go_simp
              refine wpAnyIn_take (i := 11) rfl rfl (by decide +kernel) (by decide +kernel) (by decide +kernel) (fun _ _ _ h => h) ⟨Or.inl ⟨by kernel_rfl, fun W => by go_simp; with_reducible rfl⟩, fun _ => rfl⟩ ?_
              go_simp
              refine wpAnyIn_done (by decide +kernel) ?_ _
              gi_wp2
              refine bodyPost_ret (results_none rfl _ _ _) rfl ?_
              exact ⟨⟨_, rfl⟩, .inr ⟨pre ++ [(x, y)], trivial, hJ3⟩⟩
        · refine wpOpIn_run (v := .agg yc.toArray) (w' := w1.drew) rfl (by kernel_rfl) (fun f hf => by simp [Oper.about] at hf) (fun c hc => by cases hc) (exec_load_agg 74 (.tmp 18) rfl b1 (o1 + (k + 1) * 32) rfl yc _ d2 Try.underlying74 rfl (by rw [Hy.out]; exact id_size)) ?_
          go_simp
          refine wpAnyIn_all (rs := [1]) (by decide +kernel) (by simp) ?_
          intro i hi
          simp only [List.mem_cons, List.not_mem_nil, or_false] at hi
          subst hi
          refine wpOpIn_run (v := .slice (some ⟨b1, o1, none⟩) n d) (w' := w1.drew) rfl (by kernel_rfl) (fun f hf => by simp [Oper.about] at hf) (fun c hc => by cases hc) (by go_simp) ?_
          go_simp
          refine wpAnyIn_take (i := 4) rfl rfl (by decide +kernel) (by decide +kernel) (by decide +kernel) (fun _ _ _ h => h) ⟨Or.inl ⟨by kernel_rfl, fun W => by go_simp; with_reducible rfl⟩, fun _ => rfl⟩ ?_
          go_simp
          refine wpAnyIn_all (rs := [5]) (by decide +kernel) (by simp) ?_
          intro i hi
          simp only [List.mem_cons, List.not_mem_nil, or_false] at hi
          subst hi
          refine wpOpIn_run (v := .agg xc.toArray) (w' := w1.drew) rfl (by kernel_rfl) (fun f hf => by simp [Oper.about] at hf) (fun c hc => by cases hc) (exec_load_agg 74 (.tmp 14) rfl b1 (o1 + k * 32) rfl xc _ d1 Try.underlying74 rfl (by rw [Hx.out]; exact id_size)) ?_
          go_simp
          refine wpAnyIn_all (rs := [10]) (by decide +kernel) (by simp) ?_
          intro i hi
          simp only [List.mem_cons, List.not_mem_nil, or_false] at hi
          subst hi
          refine wpOpIn_step rfl ?_
          intro K' hK'
          gi_wp2
          refine hRn.mono ?_
          rintro e w3 (⟨rfl, hJ3, hf3⟩ | ⟨rfl, hJ3, hf3⟩)
          · refine hK' _ _ ?_
            go_simp
            refine wpAnyIn_take (i := 11) rfl rfl (by decide +kernel) (by decide +kernel) (by decide +kernel) (fun _ _ _ h => h) ⟨Or.inl ⟨by kernel_rfl, fun W => by go_simp; with_reducible rfl⟩, fun _ => rfl⟩ ?_
            go_simp
            refine wpAnyIn_done (by decide +kernel) ?_ _
            have s3 := hf3.size
            have hb3 := hbd.fr hf3 (fun h => h.elim hT.2 fun h => by omega)
            have hS3 := hSd.fr hf3 (fun j hj h => h.elim (hT.1 j hj.1) fun h => by omega) fun _ _ _ h => h
            gi_wp2
            go_roundw
            case rel => exact ⟨pre ++ [(x, y)], k + 1, .inr (by omega), by go_num, by rw [List.length_append, hpl]; rfl, hJ3, hb3, hS3, Nat.le_trans hsz s3⟩
            case measure => (simp [intOf] <;> omega)
          · refine hK' _ _ ?_
            go_simp
            refine wpAnyIn_take (i := 11) rfl rfl (by decide +kernel) (by decide +kernel) (by decide +kernel) (fun _ _ _ h => h) ⟨Or.inl ⟨by kernel_rfl, fun W => by go_simp; with_reducible rfl⟩, fun _ => rfl⟩ ?_
            go_simp
            refine wpAnyIn_done (by decide +kernel) ?_ _
            gi_wp2
            refine bodyPost_ret (results_none rfl _ _ _) rfl ?_
            exact ⟨⟨_, rfl⟩, .inr ⟨pre ++ [(x, y)], trivial, hJ3⟩⟩
    · have hS' : pre.length = n - 1 := by omega
      have HS := Lib.hid hS'
      clear hS'
      gi_wp2
      go_end0
      exact ⟨⟨_, rfl⟩, .inl ⟨pre, HS.out, hJw⟩⟩
end Go.Proofs.Ytnkfchondedfcaa
