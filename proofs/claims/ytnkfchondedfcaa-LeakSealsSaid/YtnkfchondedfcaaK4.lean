/-
  The envelope that bytes are, as the document has it (tabulariumref08.EnvelopeOf). Conditions: each contract states its own.
-/
import Derived.Test.YtnkfchondedfcaaK3
import Derived.Test.YtnkfchondedfcaaK2
import Derived.Test.YtnkfchondedfcaaK1
namespace Go.Proofs.Ytnkfchondedfcaa
section
open Go.RowKit Go.Shelf
attribute [local go_sem] Oper.semAt_some

section
variable {F : Fence} {n : Nat} {P : Program} {ops : Array Oper} {Q : Exit → Act → World → Prop} {K : Act → World → Prop} {o : Oper} {a : Act} {w w' : World} {v : Value} {i : Nat}
theorem wpOpIn_run (hi : ops[i]? = some o) (hw : Region.wanted o (yielded ops a.tmps) = true) (hab : ∀ f, o.about P w a.eval = some f → F.fn f) (hnd : ∀ c, o.op ≠ .defer c) (hr : (execOp a.eval o).run P w = .ok (.value v) w')
    (h : K (a.put o.dst v) w') : wpOpIn F n P ops Q i K a w := by
  unfold wpOpIn
  simp only [hi]
  rw [if_pos hw]
  refine ⟨hab, ?_⟩
  rw [Oper.semAt_plain F _ _ hnd, hr]
  exact h
end

set_option maxHeartbeats 400000 in
theorem neighbours_any (w : World) (B : Option Addr) (n d : Nat) :
    Calls Try.prog 112 #[.slice B n d] w fun e w' => e = .returned (.func (.func 118) #[] #[.pointer (some ⟨w.heap.size, 0, none⟩)]) ∧ w' = w.alloc (.cells #[.slice B n d] 60) := by
  go_enter Try.func112, Try.ntmps112
  go_wp2
  go_ret
  exact ⟨rfl, rfl⟩

set_option maxRecDepth 100000 in
set_option maxHeartbeats 4000000 in
theorem neighbours1_seq (m : Nat) (hm : 2 ≤ m) (w : World) (bs : Nat) (F T : Nat → Prop) (B : Option Addr) (n d : Nat) (l : List Id32) (hbs : Blk w bs 60 #[.slice B n d]) (hS : ArrOf IdR w F 32 B n l) (hn : n ≤ 1000000)
    (hT : (∀ k, F k → ¬ T k) ∧ ¬ T bs) :
    SeqG m Try.prog 118 #[.pointer (some ⟨bs, 0, none⟩)] (fun p : Id32 × Id32 => #[.agg (idCells p.1).toArray, .agg (idCells p.2).toArray]) NoB T (fun pre p => l[pre.length]? = some p.1 ∧ l[pre.length + 1]? = some p.2)
      (fun xs _ => xs.length = n - 1) (fun _ _ => True) w := by
  intro lp J Jx W hF0 hl1 hl2 hJ hJx hY h0
  have hbn := hbs.lt
  have hSt : ArrOf IdR w (fun k => F k ∧ k < w.heap.size) 32 B n l := ArrOf.more hS (by omega) (fun k hk h => ⟨h, hk⟩) fun _ _ _ h => h
  have hml := hS.len
  have Hml := Lib.hid hml
  have hm1 : 1 ≤ m := by omega
  have hm2 : 1 ≤ m - 1 := by omega
  clear hml
  refine callsIn_of_wp Try.func118 rfl trivial ?_ rfl
  simp only [Try.ntmps118, List.size_toArray, List.length_cons, List.length_nil, Nat.reduceAdd, Nat.reduceSub, Array.replicate_succ, Array.replicate_zero, List.push_toArray, List.append_toArray, List.nil_append, List.cons_append]
  have hbW := hbs.fr hF0 id
  have hSW := hSt.fr hF0 (fun _ _ => id) fun _ _ _ h => h
  gi_wp2
  gi_loopw [3] (fun i wr => ∃ (pre : List (Id32 × Id32)) (k : Nat), (k = 0 ∨ k + 1 ≤ n) ∧ i = .int .i64 (k + 1 : Nat) ∧ pre.length = k ∧ J pre wr ∧ Blk wr bs 60 #[.slice B n d] ∧ ArrOf IdR wr (fun k => F k ∧ k < w.heap.size) 32 B n l ∧ W.heap.size ≤ wr.heap.size) (fun i _ => n - (intOf i).toNat)
  case atStart =>
    exact ⟨[], 0, .inl rfl, rfl, rfl, h0, hbW, hSW, Nat.le_refl _⟩
  case round =>
    obtain ⟨pre, k, hk, rfl, hpl, hJw, hbw, hSw, hsz⟩ := hrel
    obtain ⟨w1, rfl⟩ : ∃ w1 : World, w1 = wr := ⟨_, rfl⟩
    have cbs := hbw.cell_0
    by_cases hkn : k + 1 < n
    · obtain ⟨b1, o1, x, y1, hB1, _, gx, ly1, hr1, hc1⟩ := hSw.at_ (k := k) (by omega)
      obtain ⟨b2, o2, y, y2, hB2, _, gy, ly2, hr2, hc2⟩ := hSw.at_ (k := k + 1) (by omega)
      rw [hB1] at hB2
      injection hB2 with hB2
      injection hB2 with hb2 ho2
      subst hb2 ho2 hB1
      have hr1 : y1 = idCells x := hr1
      have hr2 : y2 = idCells y := hr2
      subst hr1 hr2
      have Hx : Hid ((idCells x).length = 32) := ly1
      have Hy : Hid ((idCells y).length = 32) := ly2
      have hJd := hJ _ _ _ hJw (Fr.drew (Fr.refl NoB w1))
      obtain ⟨fn, tmps, assign, body, hy, hRn⟩ := hY pre (x, y) w1.drew hJd ⟨by rw [hpl]; exact gx, by rw [hpl]; exact gy⟩ hsz
      clear gx gy ly1 ly2
      have hbd := hbw.fr (Fr.drew (Fr.refl NoB w1)) id
      have hSd := hSw.fr (Fr.drew (Fr.refl NoB w1)) (fun _ _ => id) fun _ _ _ h => h
      have d1 : ∀ j u, (idCells x)[j]? = some u → w1.drew.cell? ⟨b1, o1 + k * 32 + j, none⟩ = some u := hc1
      have d2 : ∀ j u, (idCells y)[j]? = some u → w1.drew.cell? ⟨b1, o1 + (k + 1) * 32 + j, none⟩ = some u := hc2
      generalize hxc : idCells x = xc at *
      generalize hyc : idCells y = yc at *
      clear hxc hyc hc1 hc2
      have dbs : w1.drew.cell? ⟨bs, 0, none⟩ = some (.slice (some ⟨b1, o1, none⟩) n d) := cbs
      have hwk : IntKind.i64.wrap (k : Int) = k := by rw [IntKind.wrap_i64]; omega
      have p1 : (0 : Int) ≤ (k : Int) := by omega
      have p2 : (k : Int) < (n : Int) := by omega
      have p3 : (0 : Int) ≤ (k : Int) + 1 := by omega
      have p4 : (k : Int) + 1 < (n : Int) := by omega
      gi_wp2
      refine wpIn_region_any rfl ?_
      refine wpAnyIn_take (i := 0) rfl rfl (by decide +kernel) (by decide +kernel) (by decide +kernel) (fun _ _ _ h => h) ⟨Or.inl ⟨by kernel_rfl, fun W => by go_simp; with_reducible rfl⟩, fun _ => rfl⟩ ?_
      refine wpAnyIn_take (i := 2) rfl rfl (by decide +kernel) (by decide +kernel) (by decide +kernel) (fun _ _ _ h => h) ⟨Or.inl ⟨by kernel_rfl, fun W => by go_simp; with_reducible rfl⟩, fun _ => rfl⟩ ?_
      refine wpAnyIn_take (i := 3) rfl rfl (by decide +kernel) (by decide +kernel) (by decide +kernel) (fun _ _ _ h => h) ⟨Or.inl ⟨by kernel_rfl, fun W => by go_simp; with_reducible rfl⟩, fun _ => rfl⟩ ?_
      refine wpAnyIn_take (i := 7) rfl rfl (by decide +kernel) (by decide +kernel) (by decide +kernel) (fun _ _ _ h => h) ⟨Or.inl ⟨by kernel_rfl, fun W => by go_simp; with_reducible rfl⟩, fun _ => rfl⟩ ?_
      go_simp
      refine wpAnyIn_all (rs := [1, 6]) (by decide +kernel) (by simp) ?_
      intro i hi
      simp only [List.mem_cons, List.not_mem_nil, or_false] at hi
      rcases hi with rfl | rfl
      · refine wpOpIn_run (v := .slice (some ⟨b1, o1, none⟩) n d) (w' := w1.drew) rfl (by kernel_rfl) (fun f hf => by simp [Oper.about] at hf) (fun c hc => by cases hc) (by go_simp) ?_
        go_simp
        refine wpAnyIn_take (i := 4) rfl rfl (by decide +kernel) (by decide +kernel) (by decide +kernel) (fun _ _ _ h => h) ⟨Or.inl ⟨by kernel_rfl, fun W => by go_simp; with_reducible rfl⟩, fun _ => rfl⟩ ?_
        go_simp
        refine wpAnyIn_all (rs := [5, 6]) (by decide +kernel) (by simp) ?_
        intro i hi
        simp only [List.mem_cons, List.not_mem_nil, or_false] at hi
        rcases hi with rfl | rfl
        · refine wpOpIn_run (v := .agg xc.toArray) (w' := w1.drew) rfl (by kernel_rfl) (fun f hf => by simp [Oper.about] at hf) (fun c hc => by cases hc) (exec_load_agg 74 (.tmp 14) rfl b1 (o1 + k * 32) rfl xc _ d1 Try.underlying74 rfl (by rw [Hx.out]; exact id_size)) ?_
          go_simp
          refine wpAnyIn_all (rs := [6]) (by decide +kernel) (by simp) ?_
          intro i hi
          simp only [List.mem_cons, List.not_mem_nil, or_false] at hi
          subst hi
          refine wpOpIn_run (v := .slice (some ⟨b1, o1, none⟩) n d) (w' := w1.drew) rfl (by kernel_rfl) (fun f hf => by simp [Oper.about] at hf) (fun c hc => by cases hc) (by go_simp) ?_
          go_simp
          refine wpAnyIn_take (i := 8) rfl rfl (by decide +kernel) (by decide +kernel) (by decide +kernel) (fun _ _ _ h => h) ⟨Or.inl ⟨by kernel_rfl, fun W => by go_simp; with_reducible rfl⟩, fun _ => rfl⟩ ?_
          go_simp
          refine wpAnyIn_all (rs := [9]) (by decide +kernel) (by simp) ?_
          intro i hi
          simp only [List.mem_cons, List.not_mem_nil, or_false] at hi
          subst hi
          refine wpOpIn_run (v := .agg yc.toArray) (w' := w1.drew) rfl (by kernel_rfl) (fun f hf => by simp [Oper.about] at hf) (fun c hc => by cases hc) (exec_load_agg 74 (.tmp 18) rfl b1 (o1 + (k + 1) * 32) rfl yc _ d2 Try.underlying74 rfl (by rw [Hy.out]; exact id_size)) ?_
          go_simp
          refine wpAnyIn_all (rs := [10]) (by decide +kernel) (by simp) ?_
          intro i hi
          simp only [List.mem_cons, List.not_mem_nil, or_false] at hi
          subst hi
          refine wpOpIn_step rfl ?_
          intro K' hK'
          gi_wp2
          refine hRn.mono ?_
          rintro e w3 (⟨rfl, hJ3, hf3⟩ | ⟨rfl, hJ3, hf3⟩)
          · refine hK' _ _ ?_
            go_simp
            refine wpAnyIn_take (i := 11) rfl rfl (by decide +kernel) (by decide +kernel) (by decide +kernel) (fun _ _ _ h => h) ⟨Or.inl ⟨by kernel_rfl, fun W => by go_simp; with_reducible rfl⟩, fun _ => rfl⟩ ?_
            go_simp
            refine wpAnyIn_done (by decide +kernel) ?_ _
            have s3 := hf3.size
            have hb3 := hbd.fr hf3 (fun h => h.elim hT.2 fun h => by omega)
            have hS3 := hSd.fr hf3 (fun j hj h => h.elim (hT.1 j hj.1) fun h => by omega) fun _ _ _ h => h
            gi_wp2
            go_roundw
            case rel => exact ⟨pre ++ [(x, y)], k + 1, .inr (by omega), by go_num, by rw [List.length_append, hpl]; rfl, hJ3, hb3, hS3, Nat.le_trans hsz s3⟩
            case measure => (simp [intOf] <;> omega)
          · refine hK' _ _ ?_
            go_simp
            refine wpAnyIn_take (i := 11) rfl rfl (by decide +kernel) (by decide +kernel) (by decide +kernel) (fun _ _ _ h => h) ⟨Or.inl ⟨by kernel_rfl, fun W => by go_simp; with_reducible rfl⟩, fun _ => rfl⟩ ?_
            go_simp
            refine wpAnyIn_done (by decide +kernel) ?_ _
            gi_wp2
            refine bodyPost_ret (results_none rfl _ _ _) rfl ?_
            exact ⟨⟨_, rfl⟩, .inr ⟨pre ++ [(x, y)], trivial, hJ3⟩⟩
        · refine wpOpIn_run (v := .slice (some ⟨b1, o1, none⟩) n d) (w' := w1.drew) rfl (by kernel_rfl) (fun f hf => by simp [Oper.about] at hf) (fun c hc => by cases hc) (by go_simp) ?_
          go_simp
          refine wpAnyIn_take (i := 8) rfl rfl (by decide +kernel) (by decide +kernel) (by decide +kernel) (fun _ _ _ h => h) ⟨Or.inl ⟨by kernel_rfl, fun W => by go_simp; with_reducible rfl⟩, fun _ => rfl⟩ ?_
          go_simp
          refine wpAnyIn_all (rs := [5, 9]) (by decide +kernel) (by simp) ?_
          intro i hi
          simp only [List.mem_cons, List.not_mem_nil, or_false] at hi
          rcases hi with rfl | rfl
          · refine wpOpIn_run (v := .agg xc.toArray) (w' := w1.drew) rfl (by kernel_rfl) (fun f hf => by simp [Oper.about] at hf) (fun c hc => by cases hc) (exec_load_agg 74 (.tmp 14) rfl b1 (o1 + k * 32) rfl xc _ d1 Try.underlying74 rfl (by rw [Hx.out]; exact id_size)) ?_
            go_simp
            refine wpAnyIn_all (rs := [9]) (by decide +kernel) (by simp) ?_
            intro i hi
            simp only [List.mem_cons, List.not_mem_nil, or_false] at hi
            subst hi
            refine wpOpIn_run (v := .agg yc.toArray) (w' := w1.drew) rfl (by kernel_rfl) (fun f hf => by simp [Oper.about] at hf) (fun c hc => by cases hc) (exec_load_agg 74 (.tmp 18) rfl b1 (o1 + (k + 1) * 32) rfl yc _ d2 Try.underlying74 rfl (by rw [Hy.out]; exact id_size)) ?_
            go_simp
            refine wpAnyIn_all (rs := [10]) (by decide +kernel) (by simp) ?_
            intro i hi
            simp only [List.mem_cons, List.not_mem_nil, or_false] at hi
            subst hi
            refine wpOpIn_step rfl ?_
            intro K' hK'
            gi_wp2
            refine hRn.mono ?_
            rintro e w3 (⟨rfl, hJ3, hf3⟩ | ⟨rfl, hJ3, hf3⟩)
            · refine hK' _ _ ?_
              go_simp
              refine wpAnyIn_take (i := 11) rfl rfl (by decide +kernel) (by decide +kernel) (by decide +kernel) (fun _ _ _ h => h) ⟨Or.inl ⟨by kernel_rfl, fun W => by go_simp; with_reducible rfl⟩, fun _ => rfl⟩ ?_
              go_simp
              refine wpAnyIn_done (by decide +kernel) ?_ _
              have s3 := hf3.size
              have hb3 := hbd.fr hf3 (fun h => h.elim hT.2 fun h => by omega)
              have hS3 := hSd.fr hf3 (fun j hj h => h.elim (hT.1 j hj.1) fun h => by omega) fun _ _ _ h => h
              gi_wp2
              go_roundw
              case rel => exact ⟨pre ++ [(x, y)], k + 1, .inr (by omega), by go_num, by rw [List.length_append, hpl]; rfl, hJ3, hb3, hS3, Nat.le_trans hsz s3⟩
              case measure => (simp [intOf] <;> omega)
            · refine hK' _ _ ?_
              go_simp
              refine wpAnyIn_take (i := 11) rfl rfl (by decide +kernel) (by decide +kernel) (by decide +kernel) (fun _ _ _ h => h) ⟨Or.inl ⟨by kernel_rfl, fun W => by go_simp; with_reducible rfl⟩, fun _ => rfl⟩ ?_
              go_simp
              refine wpAnyIn_done (by decide +kernel) ?_ _
              gi_wp2
              refine bodyPost_ret (results_none rfl _ _ _) rfl ?_
              exact ⟨⟨_, rfl⟩, .inr ⟨pre ++ [(x, y)], trivial, hJ3⟩⟩
          · refine wpOpIn_run (v := .agg yc.toArray) (w' := w1.drew) rfl (by kernel_rfl) (fun f hf => by simp [Oper.about] at hf) (fun c hc => by cases hc) (exec_load_agg 74 (.tmp 18) rfl b1 (o1 + (k + 1) * 32) rfl yc _ d2 Try.underlying74 rfl (by rw [Hy.out]; exact id_size)) ?_
            go_simp
            refine wpAnyIn_all (rs := [5]) (by decide +kernel) (by simp) ?_
            intro i hi
            simp only [List.mem_cons, List.not_mem_nil, or_false] at hi
            subst hi
            refine wpOpIn_run (v := .agg xc.toArray) (w' := w1.drew) rfl (by kernel_rfl) (fun f hf => by simp [Oper.about] at hf) (fun c hc => by cases hc) (exec_load_agg 74 (.tmp 14) rfl b1 (o1 + k * 32) rfl xc _ d1 Try.underlying74 rfl (by rw [Hx.out]; exact id_size)) ?_
            go_simp
            refine wpAnyIn_all (rs := [10]) (by decide +kernel) (by simp) ?_
            intro i hi
            simp only [List.mem_cons, List.not_mem_nil, or_false] at hi
            subst hi
            refine wpOpIn_step rfl ?_
            intro K' hK'
            gi_wp2
            refine hRn.mono ?_
            rintro e w3 (⟨rfl, hJ3, hf3⟩ | ⟨rfl, hJ3, hf3⟩)
            · refine hK' _ _ ?_
              go_simp
              refine wpAnyIn_take (i := 11) rfl rfl (by decide +kernel) (by decide +kernel) (by decide +kernel) (fun _ _ _ h => h) ⟨Or.inl ⟨by kernel_rfl, fun W => by go_simp; with_reducible rfl⟩, fun _ => rfl⟩ ?_
              go_simp
              refine wpAnyIn_done (by decide +kernel) ?_ _
              have s3 := hf3.size
              have hb3 := hbd.fr hf3 (fun h => h.elim hT.2 fun h => by omega)
              have hS3 := hSd.fr hf3 (fun j hj h => h.elim (hT.1 j hj.1) fun h => by omega) fun _ _ _ h => h
              gi_wp2
              go_roundw
              case rel => exact ⟨pre ++ [(x, y)], k + 1, .inr (by omega), by go_num, by rw [List.length_append, hpl]; rfl, hJ3, hb3, hS3, Nat.le_trans hsz s3⟩
              case measure => (simp [intOf] <;> omega)
            · refine hK' _ _ ?_
              go_simp
              refine wpAnyIn_take (i := 11) rfl rfl (by decide +kernel) (by decide +kernel) (by decide +kernel) (fun _ _ _ h => h) ⟨Or.inl ⟨by kernel_rfl, fun W => by go_simp; with_reducible rfl⟩, fun _ => rfl⟩ ?_
              go_simp
              refine wpAnyIn_done (by decide +kernel) ?_ _
              gi_wp2
              refine bodyPost_ret (results_none rfl _ _ _) rfl ?_
              exact ⟨⟨_, rfl⟩, .inr ⟨pre ++ [(x, y)], trivial, hJ3⟩⟩
      · refine wpOpIn_run (v := .slice (some ⟨b1, o1, none⟩) n d) (w' := w1.drew) rfl (by kernel_rfl) (fun f hf => by simp [Oper.about] at hf) (fun c hc => by cases hc) (by go_simp) ?_
        go_simp
        refine wpAnyIn_take (i := 8) rfl rfl (by decide +kernel) (by decide +kernel) (by decide +kernel) (fun _ _ _ h => h) ⟨Or.inl ⟨by kernel_rfl, fun W => by go_simp; with_reducible rfl⟩, fun _ => rfl⟩ ?_
        go_simp
        refine wpAnyIn_all (rs := [1, 9]) (by decide +kernel) (by simp) ?_
        intro i hi
        simp only [List.mem_cons, List.not_mem_nil, or_false] at hi
        rcases hi with rfl | rfl
        · refine wpOpIn_run (v := .slice (some ⟨b1, o1, none⟩) n d) (w' := w1.drew) rfl (by kernel_rfl) (fun f hf => by simp [Oper.about] at hf) (fun c hc => by cases hc) (by go_simp) ?_
          go_simp
          refine wpAnyIn_take (i := 4) rfl rfl (by decide +kernel) (by decide +kernel) (by decide +kernel) (fun _ _ _ h => h) ⟨Or.inl ⟨by kernel_rfl, fun W => by go_simp; with_reducible rfl⟩, fun _ => rfl⟩ ?_
          go_simp
          refine wpAnyIn_all (rs := [5, 9]) (by decide +kernel) (by simp) ?_
          intro i hi
          simp only [List.mem_cons, List.not_mem_nil, or_false] at hi
          rcases hi with rfl | rfl
          · refine wpOpIn_run (v := .agg xc.toArray) (w' := w1.drew) rfl (by kernel_rfl) (fun f hf => by simp [Oper.about] at hf) (fun c hc => by cases hc) (exec_load_agg 74 (.tmp 14) rfl b1 (o1 + k * 32) rfl xc _ d1 Try.underlying74 rfl (by rw [Hx.out]; exact id_size)) ?_
            go_simp
            refine wpAnyIn_all (rs := [9]) (by decide +kernel) (by simp) ?_
            intro i hi
            simp only [List.mem_cons, List.not_mem_nil, or_false] at hi
            subst hi
            refine wpOpIn_run (v := .agg yc.toArray) (w' := w1.drew) rfl (by kernel_rfl) (fun f hf => by simp [Oper.about] at hf) (fun c hc => by cases hc) (exec_load_agg 74 (.tmp 18) rfl b1 (o1 + (k + 1) * 32) rfl yc _ d2 Try.underlying74 rfl (by rw [Hy.out]; exact id_size)) ?_
            go_simp
            refine wpAnyIn_all (rs := [10]) (by decide +kernel) (by simp) ?_
            intro i hi
            simp only [List.mem_cons, List.not_mem_nil, or_false] at hi
            subst hi
            refine wpOpIn_step rfl ?_
            intro K' hK'
            gi_wp2
            refine hRn.mono ?_
            rintro e w3 (⟨rfl, hJ3, hf3⟩ | ⟨rfl, hJ3, hf3⟩)
            · refine hK' _ _ ?_
              go_simp
              refine wpAnyIn_take (i := 11) rfl rfl (by decide +kernel) (by decide +kernel) (by decide +kernel) (fun _ _ _ h => h) ⟨Or.inl ⟨by kernel_rfl, fun W => by go_simp; with_reducible rfl⟩, fun _ => rfl⟩ ?_
              go_simp
              refine wpAnyIn_done (by decide +kernel) ?_ _
              have s3 := hf3.size
              have hb3 := hbd.fr hf3 (fun h => h.elim hT.2 fun h => by omega)
              have hS3 := hSd.fr hf3 (fun j hj h => h.elim (hT.1 j hj.1) fun h => by omega) fun _ _ _ h => h
              gi_wp2
              go_roundw
              case rel => exact ⟨pre ++ [(x, y)], k + 1, .inr (by omega), by go_num, by rw [List.length_append, hpl]; rfl, hJ3, hb3, hS3, Nat.le_trans hsz s3⟩
              case measure => (simp [intOf] <;> omega)
            · refine hK' _ _ ?_
              go_simp
              refine wpAnyIn_take (i := 11) rfl rfl (by decide +kernel) (by decide +kernel) (by decide +kernel) (fun _ _ _ h => h) ⟨Or.inl ⟨by kernel_rfl, fun W => by go_simp; with_reducible rfl⟩, fun _ => rfl⟩ ?_
              go_simp
              refine wpAnyIn_done (by decide +kernel) ?_ _
              gi_wp2
              refine bodyPost_ret (results_none rfl _ _ _) rfl ?_
              exact ⟨⟨_, rfl⟩, .inr ⟨pre ++ [(x, y)], trivial, hJ3⟩⟩
          · refine wpOpIn_run (v := .agg yc.toArray) (w' := w1.drew) rfl (by kernel_rfl) (fun f hf => by simp [Oper.about] at hf) (fun c hc => by cases hc) (exec_load_agg 74 (.tmp 18) rfl b1 (o1 + (k + 1) * 32) rfl yc _ d2 Try.underlying74 rfl (by rw [Hy.out]; exact id_size)) ?_
            go_simp
            refine wpAnyIn_all (rs := [5]) (by decide +kernel) (by simp) ?_
            intro i hi
            simp only [List.mem_cons, List.not_mem_nil, or_false] at hi
            subst hi
            refine wpOpIn_run (v := .agg xc.toArray) (w' := w1.drew) rfl (by kernel_rfl) (fun f hf => by simp [Oper.about] at hf) (fun c hc => by cases hc) (exec_load_agg 74 (.tmp 14) rfl b1 (o1 + k * 32) rfl xc _ d1 Try.underlying74 rfl (by rw [Hx.out]; exact id_size)) ?_
            go_simp
            refine wpAnyIn_all (rs := [10]) (by decide +kernel) (by simp) ?_
            intro i hi
            simp only [List.mem_cons, List.not_mem_nil, or_false] at hi
            subst hi
            refine wpOpIn_step rfl ?_
            intro K' hK'
            gi_wp2
            refine hRn.mono ?_
            rintro e w3 (⟨rfl, hJ3, hf3⟩ | ⟨rfl, hJ3, hf3⟩)
            · refine hK' _ _ ?_
              go_simp
              refine wpAnyIn_take (i := 11) rfl rfl (by decide +kernel) (by decide +kernel) (by decide +kernel) (fun _ _ _ h => h) ⟨Or.inl ⟨by kernel_rfl, fun W => by go_simp; with_reducible rfl⟩, fun _ => rfl⟩ ?_
              go_simp
              refine wpAnyIn_done (by decide +kernel) ?_ _
              have s3 := hf3.size
              have hb3 := hbd.fr hf3 (fun h => h.elim hT.2 fun h => by omega)
              have hS3 := hSd.fr hf3 (fun j hj h => h.elim (hT.1 j hj.1) fun h => by omega) fun _ _ _ h => h
              gi_wp2
              go_roundw
              case rel => exact ⟨pre ++ [(x, y)], k + 1, .inr (by omega), by go_num, by rw [List.length_append, hpl]; rfl, hJ3, hb3, hS3, Nat.le_trans hsz s3⟩
              case measure => (simp [intOf] <;> omega)
            · refine hK' _ _ ?_
              go_simp
              refine wpAnyIn_take (i := 11) rfl rfl (by decide +kernel) (by decide +kernel) (by decide +kernel) (fun _ _ _ h => h) ⟨Or.inl ⟨by kernel_rfl, fun W => by go_simp; with_reducible rfl⟩, fun _ => rfl⟩ ?_
              go_simp
              refine wpAnyIn_done (by decide +kernel) ?_ _
              gi_wp2
              refine bodyPost_ret (results_none rfl _ _ _) rfl ?_
              exact ⟨⟨_, rfl⟩, .inr ⟨pre ++ [(x, y)], trivial, hJ3⟩⟩
        · refine wpOpIn_run (v := .agg yc.toArray) (w' := w1.drew) rfl (by kernel_rfl) (fun f hf => by simp [Oper.about] at hf) (fun c hc => by cases hc) (exec_load_agg 74 (.tmp 18) rfl b1 (o1 + (k + 1) * 32) rfl yc _ d2 Try.underlying74 rfl (by rw [Hy.out]; exact id_size)) ?_
          go_simp
          refine wpAnyIn_all (rs := [1]) (by decide +kernel) (by simp) ?_
          intro i hi
          simp only [List.mem_cons, List.not_mem_nil, or_false] at hi
          subst hi
          refine wpOpIn_run (v := .slice (some ⟨b1, o1, none⟩) n d) (w' := w1.drew) rfl (by kernel_rfl) (fun f hf => by simp [Oper.about] at hf) (fun c hc => by cases hc) (by go_simp) ?_
          go_simp
          refine wpAnyIn_take (i := 4) rfl rfl (by decide +kernel) (by decide +kernel) (by decide +kernel) (fun _ _ _ h => h) ⟨Or.inl ⟨by kernel_rfl, fun W => by go_simp; with_reducible rfl⟩, fun _ => rfl⟩ ?_
          go_simp
          refine wpAnyIn_all (rs := [5]) (by decide +kernel) (by simp) ?_
          intro i hi
          simp only [List.mem_cons, List.not_mem_nil, or_false] at hi
          subst hi
          refine wpOpIn_run (v := .agg xc.toArray) (w' := w1.drew) rfl (by kernel_rfl) (fun f hf => by simp [Oper.about] at hf) (fun c hc => by cases hc) (exec_load_agg 74 (.tmp 14) rfl b1 (o1 + k * 32) rfl xc _ d1 Try.underlying74 rfl (by rw [Hx.out]; exact id_size)) ?_
          go_simp
          refine wpAnyIn_all (rs := [10]) (by decide +kernel) (by simp) ?_
          intro i hi
          simp only [List.mem_cons, List.not_mem_nil, or_false] at hi
          subst hi
          refine wpOpIn_step rfl ?_
          intro K' hK'
          gi_wp2
          refine hRn.mono ?_
          rintro e w3 (⟨rfl, hJ3, hf3⟩ | ⟨rfl, hJ3, hf3⟩)
          · refine hK' _ _ ?_
            go_simp
            refine wpAnyIn_take (i := 11) rfl rfl (by decide +kernel) (by decide +kernel) (by decide +kernel) (fun _ _ _ h => h) ⟨Or.inl ⟨by kernel_rfl, fun W => by go_simp; with_reducible rfl⟩, fun _ => rfl⟩ ?_
            go_simp
            refine wpAnyIn_done (by decide +kernel) ?_ _
            have s3 := hf3.size
            have hb3 := hbd.fr hf3 (fun h => h.elim hT.2 fun h => by omega)
            have hS3 := hSd.fr hf3 (fun j hj h => h.elim (hT.1 j hj.1) fun h => by omega) fun _ _ _ h => h
            gi_wp2
            go_roundw
            case rel => exact ⟨pre ++ [(x, y)], k + 1, .inr (by omega), by go_num, by rw [List.length_append, hpl]; rfl, hJ3, hb3, hS3, Nat.le_trans hsz s3⟩
            case measure => (simp [intOf] <;> omega)
          · refine hK' _ _ ?_
            go_simp
            refine wpAnyIn_take (i := 11) rfl rfl (by decide +kernel) (by decide +kernel) (by decide +kernel) (fun _ _ _ h => h) ⟨Or.inl ⟨by kernel_rfl, fun W => by go_simp; with_reducible rfl⟩, fun _ => rfl⟩ ?_
            go_simp
            refine wpAnyIn_done (by decide +kernel) ?_ _
            gi_wp2
            refine bodyPost_ret (results_none rfl _ _ _) rfl ?_
            exact ⟨⟨_, rfl⟩, .inr ⟨pre ++ [(x, y)], trivial, hJ3⟩⟩
    · have hS' : pre.length = n - 1 := by omega
      have HS := Lib.hid hS'
      clear hS'
      gi_wp2
      go_end0
      exact ⟨⟨_, rfl⟩, .inl ⟨pre, HS.out, hJw⟩⟩
end

section
open Go.RowKit Go.Shelf
attribute [local go_sem] Oper.semAt_some

/-- An envelope, als cells and what its slices hold. -/
def EnvR (w : World) (F : Nat → Prop) (y : List Value) (e : Env) : Prop :=
  ∃ A n c B m d, y = envCells e A n c B m d ∧ ArrOf IdR w F 32 A n e.links ∧ m ≤ d ∧ d ≤ maxLen ∧ Byt w F B m e.body
theorem EnvR.fr {w w' : World} {F S : Nat → Prop} {y : List Value} {e : Env} (h : EnvR w F y e) (hf : Fr S w w') (hd : ∀ k, F k → ¬ S k) : EnvR w' F y e := by
  obtain ⟨A, n, c, B, m, d, h1, h4, h5, h6, h7⟩ := h
  exact ⟨A, n, c, B, m, d, h1, h4.fr hf hd fun _ _ _ h => h, h5, h6, h7.fr hf hd⟩
/-- An envelope in a block of its own. -/
structure EnvBlk (w : World) (g : Nat) (e : Env) (A : Option Addr) (n c : Nat) (B : Option Addr) (m d : Nat) : Prop where
  blk : Blk w g 153 (envCells e A n c B m d).toArray
section
variable {w w' : World} {g : Nat} {e : Env} {A B : Option Addr} {n c m d : Nat} {S : Nat → Prop}
theorem EnvBlk.fr (h : EnvBlk w g e A n c B m d) (hf : Fr S w w') (hd : ¬ S g) : EnvBlk w' g e A n c B m d := ⟨h.blk.fr hf hd⟩
theorem EnvBlk.c0 (h : EnvBlk w g e A n c B m d) : w.cell? ⟨g, 0, none⟩ = some (.int .i64 e.kind) := (h.blk.cell 0).trans rfl
theorem EnvBlk.c1 (h : EnvBlk w g e A n c B m d) : w.cell? ⟨g, 1, none⟩ = some (.int .u32 e.realm) := (h.blk.cell 1).trans rfl
theorem EnvBlk.c2 (h : EnvBlk w g e A n c B m d) : w.cell? ⟨g, 2, none⟩ = some (.int .u32 e.epoch) := (h.blk.cell 2).trans rfl
theorem EnvBlk.c3 (h : EnvBlk w g e A n c B m d) : w.cell? ⟨g, 3, none⟩ = some (.slice A n c) := (h.blk.cell 3).trans rfl
theorem EnvBlk.c4 (h : EnvBlk w g e A n c B m d) : w.cell? ⟨g, 4, none⟩ = some (.slice B m d) := (h.blk.cell 4).trans rfl
theorem EnvBlk.s1 (h : EnvBlk w g e A n c B m d) (v : Nat) : EnvBlk (w.setCell ⟨g, 1, none⟩ (.int .u32 v)) g { e with realm := v } A n c B m d := ⟨h.blk.set_ _ _⟩
theorem EnvBlk.s2 (h : EnvBlk w g e A n c B m d) (v : Nat) : EnvBlk (w.setCell ⟨g, 2, none⟩ (.int .u32 v)) g { e with epoch := v } A n c B m d := ⟨h.blk.set_ _ _⟩
theorem EnvBlk.s3 (h : EnvBlk w g e A n c B m d) (l : List Id32) (A' : Option Addr) (n' c' : Nat) : EnvBlk (w.setCell ⟨g, 3, none⟩ (.slice A' n' c')) g { e with links := l } A' n' c' B m d := ⟨h.blk.set_ _ _⟩
theorem EnvBlk.s4 (h : EnvBlk w g e A n c B m d) (l : List UInt8) (B' : Option Addr) (m' d' : Nat) : EnvBlk (w.setCell ⟨g, 4, none⟩ (.slice B' m' d')) g { e with body := l } A n c B' m' d' := ⟨h.blk.set_ _ _⟩
theorem EnvBlk.all (h : EnvBlk w g e A n c B m d) : ∀ j u, (envCells e A n c B m d)[j]? = some u → w.cell? ⟨g, 0 + j, none⟩ = some u := fun j u hu => by rw [Nat.zero_add, h.blk.cell]; simpa using hu
theorem envCells_ones (e : Env) (A : Option Addr) (n c : Nat) (B : Option Addr) (m d : Nat) : (envCells e A n c B m d).toArray.all (·.oneCell') = true := by simp [envCells, Value.oneCell']
end
theorem env_size : (Try.prog.info? 153).map (·.size) = some 5 := by kernel_rfl
theorem env_zero : ((Try.prog.info? 153).bind (·.zero)).map (·.cells.size) = some 5 := by kernel_rfl
theorem bool_size : (Try.prog.info? 4).map (·.size) = some 1 := by kernel_rfl

set_option maxRecDepth 100000 in
set_option maxHeartbeats 4000000 in
theorem may_on (w : World) (F : Nat → Prop) (A : Option Addr) (n c : Nat) (B : Option Addr) (m d : Nat) (e : Env) (hi : ArrOf IdR w F 32 A n e.links) (h1 : 1 ≤ e.kind) (h2 : e.kind ≤ 3) (h3 : n ≤ 1000) (h4 : m ≤ 70000) :
    Calls Try.prog 106 #[.agg (envCells e A n c B m d).toArray] w fun x w' => x = .returned (.bool (rising e.links)) ∧ Fr NoB w w' := by
  have Hll := Lib.hid hi.len
  have b1 : decide (e.kind < 1) = false := by simp only [decide_eq_false_iff_not]; omega
  have b2 : decide (3 < e.kind) = false := by simp only [decide_eq_false_iff_not]; omega
  have b3 : decide (1000 < (n : Int)) = false := by simp only [decide_eq_false_iff_not]; omega
  have b4 : decide (70000 < (m : Int)) = false := by simp only [decide_eq_false_iff_not]; omega
  have hB : EnvBlk ((w.alloc (.cells (envCells e A n c B m d).toArray 153)).alloc (.cells #[.bool false] 4)) w.heap.size e A n c B m d := ⟨(Blk.new _ _ _).alloc _⟩
  have hf : Fr NoB w ((w.alloc (.cells (envCells e A n c B m d).toArray 153)).alloc (.cells #[.bool false] 4)) := ((Fr.refl _ _).alloc _).alloc _
  have hBr : Blk ((w.alloc (.cells (envCells e A n c B m d).toArray 153)).alloc (.cells #[.bool false] 4)) (w.heap.size + 1) 4 #[.bool false] := by simpa using Blk.new (w.alloc (.cells (envCells e A n c B m d).toArray 153)) 4 #[.bool false]
  have p0 := hB.c0
  have p3 := hB.c3
  have p4 := hB.c4
  obtain ⟨l, hl⟩ : ∃ l, l = e.links := ⟨_, rfl⟩
  rw [← hl] at hi ⊢
  rw [← hl] at Hll
  have Hl := Lib.hid hl
  clear hB hl
  generalize envCells e A n c B m d = yc at *
  refine (callsIn_wide (n := 7)).1 ?_
  refine callsIn_of_wp_marks Try.func106 rfl trivial ?_ rfl
  simp only [Try.ntmps106, List.size_toArray, List.length_cons, List.length_nil, Nat.reduceAdd, Nat.reduceSub, Array.replicate_succ, Array.replicate_zero, List.push_toArray, List.append_toArray, List.nil_append, List.cons_append]
  gi_wp2_with fail
  refine ⟨trivial, ?_⟩
  refine (callsIn_wide.2 (neighbours_any _ _ _ _)).mono ?_
  rintro x w2 ⟨rfl, hw2⟩
  obtain ⟨w1, hw1⟩ : ∃ w1, w1 = (w.alloc (.cells yc.toArray 153)).alloc (.cells #[.bool false] 4) := ⟨_, rfl⟩
  have hs1 : w1.heap.size = w.heap.size + 2 := by rw [hw1]; simp
  rw [← hw1] at hf hBr hw2
  have hbs : Blk w2 w1.heap.size 60 #[.slice A n c] := by rw [hw2]; exact Blk.new _ _ _
  have hf12 : Fr NoB w1 w2 := by rw [hw2]; exact (Fr.refl _ _).alloc _
  have hs2 : w2.heap.size = w.heap.size + 3 := by rw [hw2, World.size_alloc, hs1]
  rw [hs1] at hbs
  have hBr2 := hBr.fr hf12 id
  have hf2 := hf.trans hf12 fun _ _ => id
  have hn2 : ArrOf IdR w2 (fun k => F k ∧ k < w.heap.size) 32 A n l := (ArrOf.more hi (by omega) (fun k hk h => ⟨h, hk⟩) fun _ _ _ h => h).fr hf2 (fun _ _ => id) fun _ _ _ h => h
  have hs2a : w.heap.size + 3 ≤ w2.heap.size := by omega
  rw [← hw1, hs1]
  clear hw2 hw1 hs1 hs2 hf12 hBr hf p0 p3 p4 hi
  obtain ⟨w3, rfl⟩ : ∃ w3 : World, w3 = w2 := ⟨_, rfl⟩
  gi_wp2
  refine wpIn_rangeFuncG (gf := 118) (lb := #[.pointer (some ⟨w.heap.size + 2, 0, none⟩)]) rfl (enters_of Try.func118 (by kernel_rfl) rfl)
    (neighbours1_seq 6 (by omega) w3 (w.heap.size + 2) _ (fun j => j = w.heap.size + 1) A n c l hbs hn2 (by omega) ⟨fun k hk => by omega, by omega⟩) (fun _ => rfl)
    (fun pre W => rising (l.take (pre.length + 1)) = true ∧ Blk W (w.heap.size + 1) 4 #[.bool false] ∧ Fr (fun j => w.heap.size ≤ j) w W)
    (fun c _ W => c = .ret ∧ rising l = false ∧ Blk W (w.heap.size + 1) 4 #[.bool false] ∧ Fr (fun j => w.heap.size ≤ j) w W) ?hI ?hIx ⟨id, id⟩ ⟨by omega, by omega⟩ ?h0
    (fun p a' W' => ∃ ga gb s0 s1 s5 s6 s7 s8 s9 s10 s11 s12 s13 s14 s15 s16 s17 s18 s19 s20 s21 s22 s23 s24 s25 s26 s27 s28 s29 s30 s31 s32 s33, Blk W' ga 74 (idCells p.1).toArray ∧ Blk W' gb 74 (idCells p.2).toArray ∧ w3.heap.size + 2 ≤ ga ∧ w3.heap.size + 2 ≤ gb ∧ a' = { tmps := #[s0, s1, .pointer (some ⟨w.heap.size + 1, 0, none⟩), .pointer (some ⟨ga, 0, none⟩), .pointer (some ⟨gb, 0, none⟩), s5, s6, s7, s8, s9, s10, s11, s12, s13, s14, s15, s16, s17, s18, s19, s20, s21, s22, s23, s24, s25, s26, s27, s28, s29, s30, s31, s32, s33], defers := [] }) ?hAx ?assign ?body ?done ?stop (fun _ _ _ h _ => h) (fun _ _ _ h _ => h)
  case hI =>
    rintro pre P Q ⟨q0, q1, q2⟩ hf
    exact ⟨q0, q1.fr hf (by rintro (h | h | h); exact h; omega; omega), q2.trans hf fun j hj h => by rcases h with h | h | h; exact h.elim; (show w.heap.size ≤ j; omega); (show w.heap.size ≤ j; omega)⟩
  case hIx =>
    rintro c pre P Q ⟨rfl, q0, q1, q2⟩ hf
    exact ⟨rfl, q0, q1.fr hf (by rintro (h | h | h); exact h; omega; omega), q2.trans hf fun j hj h => by rcases h with h | h | h; exact h.elim; (show w.heap.size ≤ j; omega); (show w.heap.size ≤ j; omega)⟩
  case h0 =>
    refine ⟨?_, hBr2, hf2.mono fun _ _ h => h.elim⟩
    cases l with
    | nil => rfl
    | cons a l => rfl
  case hAx =>
    rintro p a' P Q ⟨ga, gb, s0, s1, s5, s6, s7, s8, s9, s10, s11, s12, s13, s14, s15, s16, s17, s18, s19, s20, s21, s22, s23, s24, s25, s26, s27, s28, s29, s30, s31, s32, s33, q1, q2, q3, q4, q5⟩ hf
    exact ⟨ga, gb, s0, s1, s5, s6, s7, s8, s9, s10, s11, s12, s13, s14, s15, s16, s17, s18, s19, s20, s21, s22, s23, s24, s25, s26, s27, s28, s29, s30, s31, s32, s33, q1.fr hf (by omega), q2.fr hf (by omega), q3, q4, q5⟩
  case assign =>
    intro lp x W K hsz hK
    obtain ⟨x1, x2⟩ := x
    have Hx : Hid ((idCells x1).toArray.size = 32) := by show _ = _; simp [idCells_len]
    have Hx1 : Hid ((idCells x1).toArray.all (·.oneCell') = true) := by
      show _ = _
      rw [Array.all_eq_true_iff_forall_mem]
      intro u hu
      exact bv_one x1.1 u (by simpa [idCells] using hu)
    have Hy : Hid ((idCells x2).toArray.size = 32) := by show _ = _; simp [idCells_len]
    have Hy1 : Hid ((idCells x2).toArray.all (·.oneCell') = true) := by
      show _ = _
      rw [Array.all_eq_true_iff_forall_mem]
      intro u hu
      exact bv_one x2.1 u (by simpa [idCells] using hu)
    simp only [params_two]
    generalize idCells x1 = xc at *
    generalize idCells x2 = yc2 at *
    gi_wp2_with (first
      | (refine wpListIn_alloc_any rfl 74 rfl 32 id_zero ?_; intro z hz; have Hz := Lib.hid hz; clear hz)
      | (refine wpListIn_store_newN rfl 74 (.tmp 3) (.tmp 28) rfl 32 id_size _ z Hz.out xc.toArray rfl rfl Hx.out Hx1.out ?_; clear Hz)
      | (refine wpListIn_store_newN rfl 74 (.tmp 4) (.tmp 29) rfl 32 id_size _ z Hz.out yc2.toArray (by rw [World.size_alloc]; rfl) rfl Hy.out Hy1.out ?_; clear Hz))
    refine hK _ _ (((Fr.refl NoB W).alloc _).alloc _) ?_
    exact ⟨W.heap.size, W.heap.size + 1, _, _, _, _, _, _, _, _, _, _, _, _, _, _, _, _, _, _, _, _, _, _, _, _, _, _, _, _, _, _, _, (Blk.new _ _ _).alloc _, by simpa using Blk.new (W.alloc (.cells xc.toArray 74)) 74 yc2.toArray, hsz, Nat.le_succ_of_le hsz, rfl⟩
  case body =>
    rintro pre ⟨x1, x2⟩ W a' ⟨q0, q1, q2⟩ ⟨g1, g2⟩ ⟨ga, gb, s0, s1, s5, s6, s7, s8, s9, s10, s11, s12, s13, s14, s15, s16, s17, s18, s19, s20, s21, s22, s23, s24, s25, s26, s27, s28, s29, s30, s31, s32, s33, r1, r2, r3, r4, rfl⟩ hsz
    dsimp only at g1 g2 r1 r2
    have c1 := q1.cell_0
    have z1 := q1.frozen 0
    have hrt := rising_take g1 g2
    rw [q0, Bool.true_and] at hrt
    have d1 : ∀ j u, (idCells x1)[j]? = some u → W.cell? ⟨ga, 0 + j, none⟩ = some u := fun j u hu => by rw [Nat.zero_add, r1.cell]; simpa using hu
    have d2 : ∀ j u, (idCells x2)[j]? = some u → W.cell? ⟨gb, 0 + j, none⟩ = some u := fun j u hu => by rw [Nat.zero_add, r2.cell]; simpa using hu
    have Hx : Hid ((idCells x1).length = 32) := idCells_len _
    have Hy : Hid ((idCells x2).length = 32) := idCells_len _
    have hord := fun W => Order_any W x1 x2
    have hgeq := cmp_geq x1.1 x2.1
    clear g1 g2 r1 r2 q0
    generalize idCells x1 = xc at *
    generalize idCells x2 = yc2 at *
    generalize Lib.compareBytes x1.1 x2.1 = kk at *
    generalize Op.bytesLess x1.1 x2.1 = bb at *
    have Hord := Lib.hid hord
    have Hrt := Lib.hid hrt
    clear hord hrt
    cases bb with
    | true =>
      have hge : decide (0 ≤ kk) = false := hgeq
      clear hgeq
      gi_wp2_with (first
        | (refine wpListIn_load_agg rfl 74 (.tmp 3) rfl ga 0 rfl xc _ d1 Try.underlying74 rfl (by rw [Hx.out]; exact id_size) ?_)
        | (refine wpListIn_load_agg rfl 74 (.tmp 4) rfl gb 0 rfl yc2 _ d2 Try.underlying74 rfl (by rw [Hy.out]; exact id_size) ?_)
        | (refine ⟨trivial, ?_⟩; gi_at_call 113; refine (callsIn_wide.2 (Hord.out _)).mono ?_; rintro e4 W4 ⟨rfl, hf4⟩))
      exact ⟨hf4.mono fun _ _ h => h.elim, by rw [List.length_append]; exact Hrt.out, q1.fr hf4 id, q2.trans hf4 fun _ _ h => h.elim⟩
    | false =>
      have hge : decide (0 ≤ kk) = true := hgeq
      have hno : rising l = false := by
        cases hr : rising l with
        | false => rfl
        | true =>
          have := rising_mono l (pre.length + 2) hr
          rw [Hrt.out] at this
          cases this
      have Hno := Lib.hid hno
      clear hgeq hno
      have cc := c1
      gi_wp2_with (first
        | (refine wpListIn_load_agg rfl 74 (.tmp 3) rfl ga 0 rfl xc _ d1 Try.underlying74 rfl (by rw [Hx.out]; exact id_size) ?_)
        | (refine wpListIn_load_agg rfl 74 (.tmp 4) rfl gb 0 rfl yc2 _ d2 Try.underlying74 rfl (by rw [Hy.out]; exact id_size) ?_)
        | (refine ⟨trivial, ?_⟩; gi_at_call 113; refine (callsIn_wide.2 (Hord.out _)).mono ?_; rintro e4 W4 ⟨rfl, hf4⟩; have c4 := (q1.fr hf4 id).cell_0; have z4 := (q1.fr hf4 id).frozen 0; clear c1 z1))
      exact ⟨(hf4.mono fun _ _ h => h.elim).trans ((Fr.refl (fun j => j = w.heap.size + 1) W4).at_ 0 (.bool false)) fun _ _ h => h, rfl, Hno.out, by simpa using (q1.fr hf4 id).set_ 0 (.bool false), (q2.trans hf4 fun _ _ h => h.elim).set_ (.inl (by show w.heap.size ≤ w.heap.size + 1; omega)) _ _⟩
  case done =>
    rintro xs W hS ⟨q0, q1, q2⟩ hK
    have c1 := q1.cell_0
    have z1 := q1.frozen 0
    rw [List.take_of_length_le (by rw [hS, Hll.out]; omega)] at q0
    have He := Lib.hid q0
    have HK := Lib.hid hK
    clear hS q0 hK
    gi_wp2
    have hB4 : ∀ {o : Obj}, Blk ((W.setCell ⟨w.heap.size + 1, 0, none⟩ (.bool true)).putObj w3.heap.size o) (w.heap.size + 1) 4 #[.bool true] := fun {o} => by
      have h := (q1.set_ 0 (.bool true)).fr ((Fr.refl (fun j => j = w3.heap.size) _).putObj (r := w3.heap.size) (.inl rfl) o) (by omega)
      simpa using h
    have hF4 : ∀ {o : Obj}, Fr NoB w ((W.setCell ⟨w.heap.size + 1, 0, none⟩ (.bool true)).putObj w3.heap.size o) := fun {o} =>
      ((q2.set_ (.inl (by show w.heap.size ≤ w.heap.size + 1; omega)) 0 (.bool true)).putObj (r := w3.heap.size) (.inr (by omega)) o).mono fun k hk h => absurd h (by show ¬ w.heap.size ≤ k; omega)
    refine ⟨by simp, .inl ⟨_, _, rfl, run_takeDeferred ((Below.heap_setCell W _ _ _ (by simp; omega)).trans HK.out), ?_⟩⟩
    have c4 := fun o => (hB4 (o := o)).cell_0
    exact ⟨.bool true, by simp [results, Try.results106, go_sem, c4], ret_bool He.out.symm, hF4⟩
  case stop =>
    rintro c pre W _ ⟨rfl, q0, q1, q2⟩ hK
    have c1 := q1.cell_0
    have He := Lib.hid q0
    have HK := Lib.hid hK
    clear q0 hK
    gi_wp2
    have hB4 : ∀ {o : Obj}, Blk (W.putObj w3.heap.size o) (w.heap.size + 1) 4 #[.bool false] := fun {o} => by
      have h := q1.fr ((Fr.refl (fun j => j = w3.heap.size) _).putObj (r := w3.heap.size) (.inl rfl) o) (by omega)
      simpa using h
    have hF4 : ∀ {o : Obj}, Fr NoB w (W.putObj w3.heap.size o) := fun {o} =>
      (q2.putObj (r := w3.heap.size) (.inr (by omega)) o).mono fun k hk h => absurd h (by show ¬ w.heap.size ≤ k; omega)
    refine ⟨by simp, .inl ⟨_, _, rfl, run_takeDeferred HK.out, ?_⟩⟩
    have c4 := fun o => (hB4 (o := o)).cell_0
    exact ⟨.bool false, by simp [results, Try.results106, go_sem, c4], ret_bool He.out.symm, hF4⟩

set_option maxRecDepth 100000 in
set_option maxHeartbeats 4000000 in
theorem may_any (w : World) (F : Nat → Prop) (y : List Value) (e : Env) (hy : EnvR w F y e) :
    Calls Try.prog 106 #[.agg y.toArray] w fun x w' => x = .returned (.bool (envMay e)) ∧ Fr NoB w w' := by
  obtain ⟨A, n, c, B, m, d, rfl, hi, _, _, hb⟩ := hy
  have hB : EnvBlk ((w.alloc (.cells (envCells e A n c B m d).toArray 153)).alloc (.cells #[.bool false] 4)) w.heap.size e A n c B m d := ⟨(Blk.new _ _ _).alloc _⟩
  have Hml := Lib.hid hb.len
  have Hll := Lib.hid hi.len
  have p0 := hB.c0
  have p3 := hB.c3
  have p4 := hB.c4
  clear hB hb
  by_cases h1 : 1 ≤ e.kind
  · have b1 : decide (e.kind < 1) = false := by simp only [decide_eq_false_iff_not]; omega
    by_cases h2 : e.kind ≤ 3
    · have b2 : decide (3 < e.kind) = false := by simp only [decide_eq_false_iff_not]; omega
      by_cases h3 : n ≤ 1000
      · have b3 : decide (1000 < (n : Int)) = false := by simp only [decide_eq_false_iff_not]; omega
        by_cases h4 : m ≤ 70000
        · have he : envMay e = rising e.links := by simp [envMay, h1, h2, Hml.out, Hll.out, h3, h4]
          rw [he]
          exact may_on w F A n c B m d e hi h1 h2 h3 h4
        · have b4 : decide (70000 < (m : Int)) = true := by simp only [decide_eq_true_eq]; omega
          have He : Hid (envMay e = false) := by show _ = _; simp [envMay, Hml.out, Hll.out, h4]
          clear h4
          generalize envCells e A n c B m d = yc at *
          go_enter Try.func106, Try.ntmps106
          go_wp2
          refine bodyPost_ret (v := .bool false) (by simp [results, Try.results106, go_sem]) rfl ?_
          exact ⟨ret_bool He.out.symm, (((Fr.refl NoB w).alloc _).alloc _)⟩
      · have b3 : decide (1000 < (n : Int)) = true := by simp only [decide_eq_true_eq]; omega
        have He : Hid (envMay e = false) := by show _ = _; simp [envMay, Hml.out, Hll.out, h3]
        clear h3
        generalize envCells e A n c B m d = yc at *
        go_enter Try.func106, Try.ntmps106
        go_wp2
        refine bodyPost_ret (v := .bool false) (by simp [results, Try.results106, go_sem]) rfl ?_
        exact ⟨ret_bool He.out.symm, (((Fr.refl NoB w).alloc _).alloc _)⟩
    · have b2 : decide (3 < e.kind) = true := by simp only [decide_eq_true_eq]; omega
      have He : Hid (envMay e = false) := by show _ = _; simp [envMay, Hml.out, Hll.out, h2]
      clear h2
      generalize envCells e A n c B m d = yc at *
      go_enter Try.func106, Try.ntmps106
      go_wp2
      refine bodyPost_ret (v := .bool false) (by simp [results, Try.results106, go_sem]) rfl ?_
      exact ⟨ret_bool He.out.symm, (((Fr.refl NoB w).alloc _).alloc _)⟩
  · have b1 : decide (e.kind < 1) = true := by simp only [decide_eq_true_eq]; omega
    have He : Hid (envMay e = false) := by show _ = _; simp [envMay, Hml.out, Hll.out, h1]
    clear h1
    generalize envCells e A n c B m d = yc at *
    go_enter Try.func106, Try.ntmps106
    go_wp2
    refine bodyPost_ret (v := .bool false) (by simp [results, Try.results106, go_sem]) rfl ?_
    exact ⟨ret_bool He.out.symm, (((Fr.refl NoB w).alloc _).alloc _)⟩
end

section
open Go.RowKit

section
variable {P : Program} {ops : Array Oper} {rest : List Oper} {o : Oper} {a : Act} {w : World} {Q : Exit → Act → World → Prop}
theorem wpList_build_eqE (hg : o.guard = none) (t : TypeId) (parts : Array (Nat × Operand)) (ho : o.op = .build t parts) (ps : List (Nat × Value)) (hp : (parts.toList.map fun (i, x) => (i, a.eval x)) = ps) (cells : Array Value) (hb : P.built t ps = some cells)
    (h : wpList P ops Q rest (a.put o.dst (.agg cells)) w) : wpList P ops Q (o :: rest) a w := by
  have e : (parts.map fun (i, x) => (i, a.eval x)).toList = ps := by rw [← hp]; simp
  exact wpList_build hg t parts ho (by rw [e, hb]; rfl) (by rw [e, hb]; exact h)
theorem results_cell2E {fn : Func} {t t2 : Tmp} {ty : TypeId} {tmps : Array Value} {w : World} {g : Nat} {cs : List Value} {d : TypeDesc} (h : fn.results = #[.cell t ty, .tmp t2]) (ht : tmps.getD t undef = .pointer (some ⟨g, 0, none⟩))
    (hc : ∀ j v, cs[j]? = some v → w.cell? ⟨g, 0 + j, none⟩ = some v) (hu : P.underlying ty = some d) (hd : d.isRow = true) (hi : (P.info? ty).map (·.size) = some cs.length) :
    (results fn tmps).run P w = .ok (.tuple #[.agg cs.toArray, tmps.getD t2 undef]) w := by
  have hl := run_loadVar_mid (P := P) w g 0 ty cs d hc hu hd hi
  have ht' : tmps[t]?.getD undef = .pointer (some ⟨g, 0, none⟩) := by simpa using ht
  simp [results, h, ht', hl, asAddr]
theorem wpList_store_rowE (hgd : o.guard = none) (ty : TypeId) (x y : Operand) (ho : o.op = .store ty x y) (g : Nat) (cells : Array Value) (hx : a.eval x = .pointer (some ⟨g, 0, none⟩)) (hy : a.eval y = .agg cells)
    (t : TypeId) (old : Array Value) (hg : Blk w g t old) (hi : (P.info? ty).map (·.size) = some cells.size) (hold : old.size = cells.size) (h1 : cells.all (·.oneCell') = true)
    (h : wpList P ops Q rest (a.put o.dst undef) (w.setRow g cells)) : wpList P ops Q (o :: rest) a w := by
  refine wpList_plain hgd fun _ hK => ?_
  refine wp_store_row ty x y ho g cells hx hy t old hg hi hold h1 ?_
  exact hK _ _ h
end
theorem RdAt.ltE {w : World} {F : Nat → Prop} {b : Nat} {r : Rd} (h : RdAt w F b r) : b < w.heap.size := by
  obtain ⟨_, _, _, _, h, _⟩ := h; exact h.lt
theorem WN_litE {w : World} {F : Nat → Prop} {b : Nat} {r : Rd} (h : RdAt w F b r) (most : Nat) (m : Int) (hm : m = (most : Int)) :
    Calls Try.prog 28 #[.pointer (some ⟨b, 0, none⟩), .int .u64 m] w fun e w' => e = .returned (.int .u64 (r.N most).1) ∧ Fr (· = b) w w' ∧ RdAt w' F b (r.N most).2 := by
  subst hm; exact RN_any w F b r most h
theorem zeroEnv_built : Try.prog.built 153 [] = some (envCells zeroEnv none 0 0 none 0 0).toArray := by kernel_rfl
theorem kindEnv_built (v : Int) : Try.prog.built 153 [(0, .int .i64 v)] = some (envCells ⟨v, 0, 0, [], []⟩ none 0 0 none 0 0).toArray := by kernel_rfl
/-- An envelope and an error's number are handed back; its slices lie in blocks of G. -/
def GotEnv (G : Nat → Prop) (w w' : World) (x : Ending) (e : Env) (bad : Int) : Prop :=
  ∃ y, x = .returned (.tuple #[.agg y.toArray, .int .i64 bad]) ∧ Fr NoB w w' ∧ EnvR w' G y e
theorem GotEnv.zero {G : Nat → Prop} {w w' : World} (h : Fr NoB w w') : GotEnv G w w' (.returned (.tuple #[.agg (envCells zeroEnv none 0 0 none 0 0).toArray, .int .i64 90])) zeroEnv 90 :=
  ⟨_, rfl, h, none, 0, 0, none, 0, 0, rfl, ArrOf.none_ _ _ _ _ _, Nat.le_refl _, by simp [maxLen], Byt.nil _ _ _⟩
theorem env_vals {l : List UInt8} {e : Env} {r : Rd} (h : envParse l = (e, r)) : envOf l = (if (decide (Rd.End r = 0) && envMay e) = true then e else zeroEnv) ∧ envBad l = (if (decide (Rd.End r = 0) && envMay e) = true then 0 else 90) := by
  unfold envOf envBad envIs
  rw [h]
  exact ⟨rfl, rfl⟩

set_option maxRecDepth 100000 in
set_option maxHeartbeats 4000000 in
theorem EnvOf_any (w : World) (F : Nat → Prop) (A : Option Addr) (n c : Nat) (l : List UInt8) (h : Byt w F A n l) (hn : n ≤ 70368744177664) :
    Calls Try.prog 95 #[.slice A n c] w fun e w' => GotEnv (fun k => w.heap.size ≤ k) w w' e (envOf l) (envBad l) := by
  have hlen := h.len
  have hn0 : (⟨l, true⟩ : Rd).l.length ≤ 70368744177664 := by simp; omega
  have hcall := fun z => Read_any _ F A n c l (h.alloc (.cells z 153)) (by omega)
  have HcR := Lib.hid hcall
  obtain ⟨B, hB0⟩ : ∃ B, B = w.heap.size := ⟨_, rfl⟩
  have HB := Lib.hid hB0
  clear hcall hlen hB0
  go_enter Try.func95, Try.ntmps95
  go_wp2_with (first
    | (refine wpList_alloc_any rfl 153 rfl 5 env_zero ?_; intro z hz; have Hz := Lib.hid hz; clear hz))
  go_wp2_with fail
  refine (HcR.out z).mono ?_
  rintro e w0 ⟨b, rfl, hf0, hR⟩
  clear HcR
  rw [← HB.out]
  have hb0 := hR.1
  have hbl0 := hR.ltE
  simp only [World.size_alloc, ← HB.out] at hb0 hR
  have hF : Fr NoB w w0 := ((Fr.refl NoB w).alloc _).trans hf0 fun _ _ => id
  have hBz : Blk w0 B 153 z := by rw [HB.out]; exact (Blk.new w _ _).fr hf0 id
  have hzb : ¬ B = b := by omega
  obtain ⟨K, hK⟩ : ∃ K, K = w0.heap.size := ⟨_, rfl⟩
  replace hR := hR.more (G := fun j => B < j ∧ j < K) fun j hj hh => ⟨by omega, by omega⟩
  have hKw : K ≤ w0.heap.size := by omega
  rw [← hK] at hbl0
  clear hf0 hK
  obtain ⟨r0, hr0⟩ : ∃ r0 : Rd, r0 = ⟨l, true⟩ := ⟨_, rfl⟩
  rw [← hr0] at hR
  replace hn0 : r0.l.length ≤ 70368744177664 := by rw [hr0]; exact hn0
  have Hr0 := Lib.hid hr0
  clear hr0
  obtain ⟨v1, r1, e1⟩ : ∃ v r', Rd.N r0 3 = (v, r') := ⟨_, _, rfl⟩
  have hv1 : v1 ≤ 3 := by have := Rd.N_le r0 3; rw [e1] at this; exact this
  have hn1 : r1.l.length ≤ 70368744177664 := by have := Rd.N_len r0 3; rw [e1] at this; exact Nat.le_trans this hn0
  have hcall := WN_litE hR 3 3 (by simp)
  rw [e1] at hcall
  have E1 := Lib.hid e1
  have Hcall := Lib.hid hcall
  clear e1 hR hcall
  go_wp2_with fail
  refine Hcall.out.mono ?_
  rintro e w1 ⟨rfl, hf1, hR⟩
  clear Hcall
  replace hF := hF.new hf1 fun j hj => .inr (by have := HB.out; omega)
  replace hBz := hBz.fr hf1 hzb
  have s1 := hf1.size
  clear hf1
  have H5 : Hid ((envCells ⟨(v1 : Int), 0, 0, [], []⟩ none 0 0 none 0 0).toArray.size = 5) := rfl
  have H5c : Hid ((envCells ⟨(v1 : Int), 0, 0, [], []⟩ none 0 0 none 0 0).toArray.all (·.oneCell') = true) := envCells_ones _ _ _ _ _ _ _
  obtain ⟨yc, hyc⟩ : ∃ yc, yc = envCells ⟨(v1 : Int), 0, 0, [], []⟩ none 0 0 none 0 0 := ⟨_, rfl⟩
  rw [← hyc] at H5 H5c
  have Hyc := Lib.hid hyc
  have hbuilt : Hid (Try.prog.built 153 [(0, .int .i64 (v1 : Int))] = some yc.toArray) := by show _ = _; rw [hyc]; exact kindEnv_built _
  clear hyc
  go_wp2_with (first
    | (refine wpList_build_eqE rfl 153 #[(0, .tmp 10)] rfl [(0, .int .i64 (v1 : Int))] rfl yc.toArray hbuilt.out ?_)
    | (refine wpList_alloc_any rfl 153 rfl 5 env_zero ?_; intro z6 hz6; have Hz6 := Lib.hid hz6; clear hz6)
    | (refine wpList_store_newN rfl 153 (.tmp 5) (.tmp 11) rfl 5 env_size _ z6 Hz6.out yc.toArray rfl rfl H5.out H5c.out ?_
       clear Hz6
       have hB : EnvBlk (w1.alloc (.cells yc.toArray 153)) w1.heap.size ⟨(v1 : Int), 0, 0, [], []⟩ none 0 0 none 0 0 := by rw [Hyc.out]; exact ⟨Blk.new _ _ _⟩
       replace hF : Fr NoB w (w1.alloc (.cells yc.toArray 153)) := hF.alloc _
       replace hBz := hBz.alloc (.cells yc.toArray 153)
       have hgl : w1.heap.size < (w1.alloc (.cells yc.toArray 153)).heap.size := by simp
       replace hR := hR.fr ((Fr.refl NoB _).alloc (.cells yc.toArray 153)) fun _ _ => id
       obtain ⟨g, hg⟩ : ∃ g, g = w1.heap.size := ⟨_, rfl⟩
       rw [← hg] at hB hgl ⊢
       have hKg : K ≤ g := by omega
       have hgb : ¬ g = b := by omega
       have hzg : ¬ B = g := by omega
       clear hg s1 hbuilt H5 H5c Hyc))
  obtain ⟨v2, r2, e2⟩ : ∃ v r', Rd.N r1 4294967295 = (v, r') := ⟨_, _, rfl⟩
  have hv2 : v2 ≤ 4294967295 := by have := Rd.N_le r1 4294967295; rw [e2] at this; exact this
  have hn2 : r2.l.length ≤ 70368744177664 := by have := Rd.N_len r1 4294967295; rw [e2] at this; exact Nat.le_trans this hn1
  have hcall := WN_litE hR 4294967295 4294967295 (by simp)
  rw [e2] at hcall
  have E2 := Lib.hid e2
  have Hcall := Lib.hid hcall
  clear e2 hR hcall
  go_wp2_with fail
  refine Hcall.out.mono ?_
  rintro e w2 ⟨rfl, hf2, hR⟩
  clear Hcall
  replace hB := hB.fr hf2 hgb
  replace hF := hF.new hf2 fun j hj => .inr (by have := HB.out; omega)
  replace hgl := Nat.lt_of_lt_of_le hgl hf2.size
  replace hBz := hBz.fr hf2 hzb
  have qc := hB.c1
  have qf := hB.blk.frozen 1
  have hfs : Fr (· = g) w2 (w2.setCell ⟨g, 1, none⟩ (.int .u32 (v2 : Nat))) := (Fr.refl _ _).at_ _ _
  replace hB := hB.s1 v2
  replace hF := hF.new hfs fun j hj => .inr (by have := HB.out; omega)
  replace hgl := Nat.lt_of_lt_of_le hgl hfs.size
  replace hBz := hBz.fr hfs hzg
  replace hR := hR.fr hfs fun j hj e => by omega
  clear hfs hf2
  obtain ⟨v3, r3, e3⟩ : ∃ v r', Rd.N r2 4294967295 = (v, r') := ⟨_, _, rfl⟩
  have hv3 : v3 ≤ 4294967295 := by have := Rd.N_le r2 4294967295; rw [e3] at this; exact this
  have hn3 : r3.l.length ≤ 70368744177664 := by have := Rd.N_len r2 4294967295; rw [e3] at this; exact Nat.le_trans this hn2
  have hcall := WN_litE hR 4294967295 4294967295 (by simp)
  rw [e3] at hcall
  have E3 := Lib.hid e3
  have Hcall := Lib.hid hcall
  clear e3 hR hcall
  go_wp2_with fail
  refine Hcall.out.mono ?_
  rintro e w3 ⟨rfl, hf3, hR⟩
  clear Hcall
  replace hB := hB.fr hf3 hgb
  replace hF := hF.new hf3 fun j hj => .inr (by have := HB.out; omega)
  replace hgl := Nat.lt_of_lt_of_le hgl hf3.size
  replace hBz := hBz.fr hf3 hzb
  clear qc qf
  have qc := hB.c2
  have qf := hB.blk.frozen 2
  have hfs : Fr (· = g) w3 (w3.setCell ⟨g, 2, none⟩ (.int .u32 (v3 : Nat))) := (Fr.refl _ _).at_ _ _
  replace hB := hB.s2 v3
  replace hF := hF.new hfs fun j hj => .inr (by have := HB.out; omega)
  replace hgl := Nat.lt_of_lt_of_le hgl hfs.size
  replace hBz := hBz.fr hfs hzg
  replace hR := hR.fr hfs fun j hj e => by omega
  clear hfs hf3
  obtain ⟨l4, r4, e4⟩ : ∃ v r', Rd.Ids r3 1000 = (v, r') := ⟨_, _, rfl⟩
  have hv4 : l4.length ≤ 1000 := by have := Rd.Ids_leE r3 1000 1000 (by omega); rw [e4] at this; exact this
  have hn4 : r4.l.length ≤ 70368744177664 := by have := Rd.Ids_lE r3 1000; rw [e4] at this; exact Nat.le_trans this hn3
  have hcall := RIds_any _ _ _ _ 1000 hR (by omega) hn3
  rw [e4] at hcall
  unfold ReadIds at hcall
  dsimp only at hcall
  have E4 := Lib.hid e4
  have Hcall := Lib.hid hcall
  clear e4 hR hcall
  go_wp2_with fail
  refine Hcall.out.mono ?_
  rintro e w4 ⟨A4, c4, rfl, hf4, hR, hO4, hin4⟩
  clear Hcall
  replace hin4 : ∀ j, inB A4 j → g < j := fun j hj => Nat.lt_of_lt_of_le hgl (hin4 j hj)
  replace hB := hB.fr hf4 hgb
  replace hF := hF.new hf4 fun j hj => .inr (by have := HB.out; omega)
  replace hgl := Nat.lt_of_lt_of_le hgl hf4.size
  replace hBz := hBz.fr hf4 hzb
  clear qc qf
  have qc := hB.c3
  have qf := hB.blk.frozen 3
  have hfs : Fr (· = g) w4 (w4.setCell ⟨g, 3, none⟩ (.slice A4 l4.length c4)) := (Fr.refl _ _).at_ _ _
  replace hB := hB.s3 l4 A4 l4.length c4
  replace hF := hF.new hfs fun j hj => .inr (by have := HB.out; omega)
  replace hgl := Nat.lt_of_lt_of_le hgl hfs.size
  replace hBz := hBz.fr hfs hzg
  replace hR := hR.fr hfs fun j hj e => by omega
  replace hO4 := hO4.fr hfs fun j hj e => by have := hin4 j hj; omega
  clear hfs hf4
  obtain ⟨l5, r5, e5⟩ : ∃ v r', Rd.Text r4 70000 = (v, r') := ⟨_, _, rfl⟩
  have hcall := RText_any _ _ _ _ 70000 hR (by omega) (by omega) hn4
  rw [e5] at hcall
  unfold ReadBytes at hcall
  dsimp only at hcall
  have E5 := Lib.hid e5
  have Hcall := Lib.hid hcall
  clear e5 hR hcall
  go_wp2_with fail
  refine Hcall.out.mono ?_
  rintro e w5 ⟨A5, c5, rfl, hf5, hR, hO5, hin5⟩
  clear Hcall
  replace hin5 : ∀ j, inB A5 j → g < j := fun j hj => Nat.lt_of_lt_of_le hgl (hin5 j hj)
  replace hO4 := hO4.fr hf5 fun j hj e => by have := hin4 j hj; omega
  replace hB := hB.fr hf5 hgb
  replace hF := hF.new hf5 fun j hj => .inr (by have := HB.out; omega)
  replace hgl := Nat.lt_of_lt_of_le hgl hf5.size
  replace hBz := hBz.fr hf5 hzb
  clear qc qf
  have qc := hB.c4
  have qf := hB.blk.frozen 4
  have hfs : Fr (· = g) w5 (w5.setCell ⟨g, 4, none⟩ (.slice A5 l5.length c5)) := (Fr.refl _ _).at_ _ _
  replace hB := hB.s4 l5 A5 l5.length c5
  replace hF := hF.new hfs fun j hj => .inr (by have := HB.out; omega)
  replace hgl := Nat.lt_of_lt_of_le hgl hfs.size
  replace hBz := hBz.fr hfs hzg
  replace hR := hR.fr hfs fun j hj e => by omega
  replace hO4 := hO4.fr hfs fun j hj e => by have := hin4 j hj; omega
  replace hO5 := hO5.fr hfs fun j hj e => by have := hin5 j hj; omega
  clear hfs hf5
  have hvals := env_vals (envParse_eq (Hr0.out ▸ E1.out) E2.out E3.out E4.out E5.out)
  obtain ⟨hof, hbad⟩ := hvals
  clear E1 E2 E3 E4 E5 Hr0
  obtain ⟨q, hq⟩ : ∃ q : Env, q = ⟨(v1 : Nat), v2, v3, l4, l5⟩ := ⟨_, rfl⟩
  have hBq : EnvBlk (w5.setCell ⟨g, 4, none⟩ (.slice A5 l5.length c5)) g q A4 l4.length c4 A5 l5.length c5 := by rw [hq]; exact hB
  have hQ : EnvR (w5.setCell ⟨g, 4, none⟩ (.slice A5 l5.length c5)) (fun j => g < j) (envCells q A4 l4.length c4 A5 l5.length c5) q := ⟨_, _, _, _, _, _, rfl, by rw [hq]; exact ids_of_own hO4 rfl fun j _ hj => hin4 j hj, hO5.le, hO5.cap, by rw [hq]; exact hO5.arr fun j _ hj => hin5 j hj⟩
  rw [← hq] at hof hbad
  clear hq hB hO4 hO5
  obtain ⟨yq, hyq⟩ : ∃ yq, yq = envCells q A4 l4.length c4 A5 l5.length c5 := ⟨_, rfl⟩
  have hall := hBq.all
  rw [← hyq] at hQ hall
  have H5l : Hid (yq.length = 5) := by show _ = _; rw [hyq]; rfl
  have H5a : Hid (yq.toArray.size = 5) := by show _ = _; rw [hyq]; rfl
  have H1a : Hid (yq.toArray.all (·.oneCell') = true) := by show _ = _; rw [hyq]; exact envCells_ones _ _ _ _ _ _ _
  have hend := Lib.hid (REnd_any _ _ _ _ hR)
  have hmay := Lib.hid (may_any _ _ _ _ hQ)
  obtain ⟨zc, hzc⟩ : ∃ zc, zc = envCells zeroEnv none 0 0 none 0 0 := ⟨_, rfl⟩
  have Hzb : Hid (Try.prog.built 153 [] = some zc.toArray) := by show _ = _; rw [hzc]; exact zeroEnv_built
  have Z5l : Hid (zc.length = 5) := by show _ = _; rw [hzc]; rfl
  have Z5a : Hid (zc.toArray.size = 5) := by show _ = _; rw [hzc]; rfl
  have Z1a : Hid (zc.toArray.all (·.oneCell') = true) := by show _ = _; rw [hzc]; exact envCells_ones _ _ _ _ _ _ _
  have Hzc := Lib.hid hzc
  clear hyq hzc hBq hR
  by_cases hev : Rd.End r5 = 0
  · have be : (Rd.End r5 != 0) = false := by simpa using hev
    have hd := decide_eq_true hev
    rw [hd, Bool.true_and] at hof hbad
    clear hd hev
    cases hm : envMay q with
    | true =>
      rw [hm] at hmay
      rw [hm, if_pos rfl] at hof hbad
      have He1 := Lib.hid hof
      have He2 := Lib.hid hbad
      clear hof hbad
      go_wp2_with (first
        | (go_at_call 29; refine hend.out.mono ?_; rintro e w' ⟨rfl, rfl⟩)
        | (refine wpList_load_aggG rfl 153 (.tmp 5) rfl g 0 rfl yq _ hall Try.underlying153 rfl (by rw [H5l.out]; exact env_size) ?_)
        | (go_at_call 106
           refine hmay.out.mono ?_
           rintro e w7 ⟨rfl, hf7⟩
           have hall7 : ∀ j u, yq[j]? = some u → w7.cell? ⟨g, 0 + j, none⟩ = some u := fun j u hu => hf7.cell' (hall j u hu) id
           have hBz7 := hBz.fr hf7 id
           have hQ7 := hQ.fr hf7 fun _ _ => id
           have hF7 := hF.trans hf7 fun _ _ => id)
        | (refine wpList_load_agg rfl 153 (.tmp 5) rfl g 0 rfl yq _ hall7 Try.underlying153 rfl (by rw [H5l.out]; exact env_size) ?_)
        | (refine wpList_store_rowE rfl 153 (.tmp 2) (.tmp 35) rfl B yq.toArray rfl rfl 153 z hBz7 (by rw [H5a.out]; exact env_size) (by rw [Hz.out, H5a.out]) H1a.out ?_))
      obtain ⟨hft, hBt⟩ := setRow_fr (ds := yq.toArray) hBz7
      refine bodyPost_ret (results_cell2E (cs := yq) rfl rfl (fun j v hv => by rw [Nat.zero_add, hBt.cell]; simpa using hv) Try.underlying153 rfl (by rw [H5l.out]; exact env_size)) rfl ?_
      rw [He1.out, He2.out]
      refine ⟨yq, rfl, hF7.new hft fun j hj => .inr (by have := HB.out; omega), ?_⟩
      obtain ⟨A, n, c, B', m, d, k1, k4, k5, k6, k7⟩ := hQ7.fr hft fun j hj e => by omega
      have hlow : ∀ j, g < j → w.heap.size ≤ j := fun j hj => by have := HB.out; omega
      exact ⟨A, n, c, B', m, d, k1, ArrOf.more k4 (by omega) (fun j _ hj => hlow j hj) fun _ _ _ h => h, k5, k6, k7.more fun j _ hj => hlow j hj⟩
    | false =>
      rw [hm] at hmay
      rw [hm, if_neg (by simp)] at hof hbad
      have He1 := Lib.hid hof
      have He2 := Lib.hid hbad
      clear hof hbad
      go_wp2_with (first
        | (go_at_call 29; refine hend.out.mono ?_; rintro e w' ⟨rfl, rfl⟩)
        | (refine wpList_load_aggG rfl 153 (.tmp 5) rfl g 0 rfl yq _ hall Try.underlying153 rfl (by rw [H5l.out]; exact env_size) ?_)
        | (go_at_call 106
           refine hmay.out.mono ?_
           rintro e w7 ⟨rfl, hf7⟩
           have hBz7 := hBz.fr hf7 id
           have hF7 := hF.trans hf7 fun _ _ => id)
        | (refine wpList_build_eqE rfl 153 #[] rfl [] rfl zc.toArray Hzb.out ?_)
        | (refine wpList_store_rowE rfl 153 (.tmp 2) (.tmp 34) rfl B zc.toArray rfl rfl 153 z hBz7 (by rw [Z5a.out]; exact env_size) (by rw [Hz.out, Z5a.out]) Z1a.out ?_))
      obtain ⟨hft, hBt⟩ := setRow_fr (ds := zc.toArray) hBz7
      refine bodyPost_ret (results_cell2E (cs := zc) rfl rfl (fun j v hv => by rw [Nat.zero_add, hBt.cell]; simpa using hv) Try.underlying153 rfl (by rw [Z5l.out]; exact env_size)) rfl ?_
      rw [He1.out, He2.out]
      have hgz := GotEnv.zero (G := (fun k => w.heap.size ≤ k)) (hF7.new hft fun j hj => .inr (by have := HB.out; omega))
      rw [← Hzc.out] at hgz
      exact hgz
  · have be : (Rd.End r5 != 0) = true := by simpa using hev
    have hd := decide_eq_false hev
    rw [hd, Bool.false_and, if_neg (by simp)] at hof hbad
    have He1 := Lib.hid hof
    have He2 := Lib.hid hbad
    clear hd hev hof hbad
    go_wp2_with (first
      | (go_at_call 29; refine hend.out.mono ?_; rintro e w' ⟨rfl, rfl⟩)
      | (refine wpList_build_eqE rfl 153 #[] rfl [] rfl zc.toArray Hzb.out ?_)
      | (refine wpList_store_rowE rfl 153 (.tmp 2) (.tmp 34) rfl B zc.toArray rfl rfl 153 z hBz (by rw [Z5a.out]; exact env_size) (by rw [Hz.out, Z5a.out]) Z1a.out ?_))
    obtain ⟨hft, hBt⟩ := setRow_fr (ds := zc.toArray) hBz
    refine bodyPost_ret (results_cell2E (cs := zc) rfl rfl (fun j v hv => by rw [Nat.zero_add, hBt.cell]; simpa using hv) Try.underlying153 rfl (by rw [Z5l.out]; exact env_size)) rfl ?_
    rw [He1.out, He2.out]
    have hgz := GotEnv.zero (G := (fun k => w.heap.size ≤ k)) (hF.new hft fun j hj => .inr (by have := HB.out; omega))
    rw [← Hzc.out] at hgz
    exact hgz
end

section
open Go.RowKit

set_option maxRecDepth 100000 in
set_option maxHeartbeats 2000000 in
theorem Ad_any (w : World) (F : Nat → Prop) (A : Option Addr) (n c : Nat) (B : Option Addr) (m d : Nat) (e : Env) (hi : ArrOf IdR w F 32 A n e.links) (kn : Nat) (hk : e.kind = kn) (hk3 : kn ≤ 3) (hr : e.realm ≤ 4294967295) (he : e.epoch ≤ 4294967295) (hn : n ≤ 1000) :
    Calls Try.prog 115 #[.agg (envCells e A n c B m d).toArray] w fun x w' => NewBytes w w' x (envHead e) := by
  have hhead : envHead e = ((([] ++ encN kn) ++ encN e.realm) ++ encN e.epoch) ++ idsBytes e.links := by simp [envHead, hk]
  rw [hhead]
  clear hhead
  obtain ⟨w2, hw2⟩ : ∃ w2, w2 = w.alloc (.cells (envCells e A n c B m d).toArray 153) := ⟨_, rfl⟩
  have hB : EnvBlk w2 w.heap.size e A n c B m d := by rw [hw2]; exact ⟨Blk.new _ _ _⟩
  have hF2 : Fr NoB w w2 := by rw [hw2]; exact (Fr.refl _ _).alloc _
  have p0 := hB.c0
  have p1 := hB.c1
  have p2 := hB.c2
  have p3 := hB.c3
  rw [hk] at p0
  have hi2 := hi.fr hF2 (fun _ _ => id) fun _ _ _ h => h
  have hwk : IntKind.u64.wrap (kn : Int) = kn := by rw [IntKind.wrap_u64]; omega
  have hwr : IntKind.u64.wrap (e.realm : Int) = e.realm := by rw [IntKind.wrap_u64]; omega
  have hwe : IntKind.u64.wrap (e.epoch : Int) = e.epoch := by rw [IntKind.wrap_u64]; omega
  have Hw2 := Lib.hid hw2
  clear hB hi hw2 hk
  obtain ⟨ids, hids⟩ : ∃ ids, ids = e.links := ⟨_, rfl⟩
  obtain ⟨re, hre⟩ : ∃ re, re = e.realm := ⟨_, rfl⟩
  obtain ⟨ep, hep⟩ : ∃ ep, ep = e.epoch := ⟨_, rfl⟩
  rw [← hids] at hi2 ⊢
  rw [← hre] at hwr hr p1 ⊢
  rw [← hep] at hwe he p2 ⊢
  clear hids hre hep
  obtain ⟨yc, hyc⟩ : ∃ yc, yc = envCells e A n c B m d := ⟨_, rfl⟩
  rw [← hyc] at Hw2 ⊢
  clear hyc
  obtain ⟨L1, hL1⟩ : ∃ L1, L1 = [] ++ encN kn := ⟨_, rfl⟩
  obtain ⟨L2, hL2⟩ : ∃ L2, L2 = L1 ++ encN re := ⟨_, rfl⟩
  obtain ⟨L3, hL3⟩ : ∃ L3, L3 = L2 ++ encN ep := ⟨_, rfl⟩
  have n1 : L1.length ≤ 10 := by have := encN_len64 (n := kn) (by omega); rw [hL1, List.nil_append]; exact this
  have n2 : L2.length ≤ 20 := by have := encN_len64 (n := re) (by omega); rw [hL2, List.length_append]; omega
  have n3 : L3.length ≤ 30 := by have := encN_len64 (n := ep) (by omega); rw [hL3, List.length_append]; omega
  have k1 : ∀ W : World, Calls Try.prog 83 #[.slice none 0 0, .int .u64 kn] W fun x w' => NewBytes W w' x L1 := fun W => by rw [hL1]; exact refN_any W (fun _ => True) none 0 0 kn [] (Byt.nil _ _ _) (by omega) (by omega)
  have k2 : ∀ (W : World) (A : Option Addr) (c : Nat), Own W 5 1 A L1.length c (L1.map bv) → Calls Try.prog 83 #[.slice A L1.length c, .int .u64 re] W fun x w' => NewBytes W w' x L2 := fun W A c h => by rw [hL2]; exact refN_any W (fun _ => True) A _ c re L1 (h.arr fun _ _ _ => trivial) (by omega) (by omega)
  have k3 : ∀ (W : World) (A : Option Addr) (c : Nat), Own W 5 1 A L2.length c (L2.map bv) → Calls Try.prog 83 #[.slice A L2.length c, .int .u64 ep] W fun x w' => NewBytes W w' x L3 := fun W A c h => by rw [hL3]; exact refN_any W (fun _ => True) A _ c ep L2 (h.arr fun _ _ _ => trivial) (by omega) (by omega)
  rw [← hL1, ← hL2, ← hL3]
  have K1 := Lib.hid k1
  have K2 := Lib.hid k2
  have K3 := Lib.hid k3
  clear hL1 hL2 hL3 k1 k2 k3
  obtain ⟨L4, hL4⟩ : ∃ L4, L4 = L3 ++ idsBytes ids := ⟨_, rfl⟩
  have k4 : ∀ (W : World) (A4 : Option Addr) (c4 : Nat) (G2 : Nat → Prop), Own W 5 1 A4 L3.length c4 (L3.map bv) → ArrOf IdR W G2 32 A n ids → Calls Try.prog 85 #[.slice A4 L3.length c4, .slice A n c] W fun x w' => NewBytes W w' x L4 := fun W A4 c4 G2 h h2 => by rw [hL4]; exact refIds_any W (fun _ => True) G2 A4 A _ c4 n c L3 ids (h.arr fun _ _ _ => trivial) h2 (by omega)
  rw [← hL4]
  have K4 := Lib.hid k4
  clear hL4 k4
  go_enter Try.func115, Try.ntmps115
  go_wp2
  rw [← Hw2.out]
  clear Hw2
  refine wp_region_held (S := fun W => Fr NoB w2 W) rfl ?_
  have hS : Fr NoB w2 w2.drew := Fr.drew (Fr.refl _ _)
  refine wpAnyH_take (i := 0) rfl (by decide +kernel) (by decide +kernel) (by decide +kernel) (fun _ _ _ h => h) (Or.inl ⟨by kernel_rfl, fun W hW => by go_simp; with_reducible rfl⟩) hS ?_
  go_simp
  refine wpAnyH_take (i := 1) rfl (by decide +kernel) (by decide +kernel) (by decide +kernel) (fun _ _ _ h => h) (Or.inl ⟨by kernel_rfl, fun W hW => by have qq := hW.cell' p0 id; go_simp; with_reducible rfl⟩) hS ?_
  go_simp
  refine wpAnyH_take (i := 2) rfl (by decide +kernel) (by decide +kernel) (by decide +kernel) (fun _ _ _ h => h) (Or.inl ⟨by kernel_rfl, fun W hW => by go_simp; with_reducible rfl⟩) hS ?_
  go_simp
  refine wpAnyH_take (i := 4) rfl (by decide +kernel) (by decide +kernel) (by decide +kernel) (fun _ _ _ h => h) (Or.inl ⟨by kernel_rfl, fun W hW => by go_simp; with_reducible rfl⟩) hS ?_
  go_simp
  refine wpAnyH_take (i := 5) rfl (by decide +kernel) (by decide +kernel) (by decide +kernel) (fun _ _ _ h => h) (Or.inl ⟨by kernel_rfl, fun W hW => by have qq := hW.cell' p1 id; go_simp; with_reducible rfl⟩) hS ?_
  go_simp
  refine wpAnyH_take (i := 6) rfl (by decide +kernel) (by decide +kernel) (by decide +kernel) (fun _ _ _ h => h) (Or.inl ⟨by kernel_rfl, fun W hW => by go_simp; with_reducible rfl⟩) hS ?_
  go_simp
  refine wpAnyH_take (i := 8) rfl (by decide +kernel) (by decide +kernel) (by decide +kernel) (fun _ _ _ h => h) (Or.inl ⟨by kernel_rfl, fun W hW => by go_simp; with_reducible rfl⟩) hS ?_
  go_simp
  refine wpAnyH_take (i := 9) rfl (by decide +kernel) (by decide +kernel) (by decide +kernel) (fun _ _ _ h => h) (Or.inl ⟨by kernel_rfl, fun W hW => by have qq := hW.cell' p2 id; go_simp; with_reducible rfl⟩) hS ?_
  go_simp
  refine wpAnyH_take (i := 10) rfl (by decide +kernel) (by decide +kernel) (by decide +kernel) (fun _ _ _ h => h) (Or.inl ⟨by kernel_rfl, fun W hW => by go_simp; with_reducible rfl⟩) hS ?_
  go_simp
  refine wpAnyH_take (i := 12) rfl (by decide +kernel) (by decide +kernel) (by decide +kernel) (fun _ _ _ h => h) (Or.inl ⟨by kernel_rfl, fun W hW => by go_simp; with_reducible rfl⟩) hS ?_
  go_simp
  refine wpAnyH_take (i := 13) rfl (by decide +kernel) (by decide +kernel) (by decide +kernel) (fun _ _ _ h => h) (Or.inl ⟨by kernel_rfl, fun W hW => by have qq := hW.cell' p3 id; go_simp; with_reducible rfl⟩) hS ?_
  go_simp
  refine wpAnyH_all (rs := [3]) (by decide +kernel) (by simp) ?_
  intro i hi
  simp only [List.mem_cons, List.not_mem_nil, or_false] at hi
  subst hi
  refine wpOp_call rfl rfl 83 (enters_of Try.func83 (by kernel_rfl) rfl) #[.const (.slice none 0 0), .tmp 5] _ rfl _ rfl (K1.out _) ?_
  rintro x x1 ⟨A1, c1, rfl, hf, hO1, hA1⟩
  replace hS := hS.trans hf fun _ _ => id
  clear hf
  refine ⟨_, rfl, hS, ?_⟩
  go_simp
  refine wpAnyH_all (rs := [7]) (by decide +kernel) (by simp) ?_
  intro i hi
  simp only [List.mem_cons, List.not_mem_nil, or_false] at hi
  subst hi
  refine wpOp_call rfl rfl 83 (enters_of Try.func83 (by kernel_rfl) rfl) #[.tmp 6, .tmp 9] _ rfl _ rfl (K2.out _ _ _ hO1) ?_
  rintro x x2 ⟨A2, c2, rfl, hf, hO2, hA2⟩
  replace hS := hS.trans hf fun _ _ => id
  clear hf
  refine ⟨_, rfl, hS, ?_⟩
  go_simp
  refine wpAnyH_all (rs := [11]) (by decide +kernel) (by simp) ?_
  intro i hi
  simp only [List.mem_cons, List.not_mem_nil, or_false] at hi
  subst hi
  refine wpOp_call rfl rfl 83 (enters_of Try.func83 (by kernel_rfl) rfl) #[.tmp 10, .tmp 13] _ rfl _ rfl (K3.out _ _ _ hO2) ?_
  rintro x x3 ⟨A3, c3, rfl, hf, hO3, hA3⟩
  replace hS := hS.trans hf fun _ _ => id
  clear hf
  refine ⟨_, rfl, hS, ?_⟩
  go_simp
  refine wpAnyH_all (rs := [14]) (by decide +kernel) (by simp) ?_
  intro i hi
  simp only [List.mem_cons, List.not_mem_nil, or_false] at hi
  subst hi
  refine wpOp_call rfl rfl 85 (enters_of Try.func85 (by kernel_rfl) rfl) #[.tmp 14, .tmp 16] _ rfl _ rfl (K4.out _ _ _ _ hO3 (hi2.fr hS (fun _ _ => id) fun _ _ _ h => h)) ?_
  rintro x x4 ⟨A4, c4, rfl, hf, hO4, hA4⟩
  have hs4 := Nat.le_trans hF2.size hS.size
  replace hS := hS.trans hf fun _ _ => id
  clear hf
  refine ⟨_, rfl, hS, ?_⟩
  go_simp
  refine wpAnyH_take (i := 15) rfl (by decide +kernel) (by decide +kernel) (by decide +kernel) (fun _ _ _ h => h) (Or.inl ⟨by kernel_rfl, fun W hW => by go_simp; with_reducible rfl⟩) hS ?_
  go_simp
  refine wpAnyH_done (by decide +kernel) ?_ _
  go_wp2
  go_ret
  exact ⟨A4, c4, rfl, hF2.trans hS fun _ _ => id, hO4, fun k hk => Nat.le_trans hs4 (hA4 k hk)⟩
theorem idsFlat_lenE : ∀ (l : List Id32), (idsFlat l).length = 32 * l.length
  | [] => rfl
  | x :: l => by
    have := idsFlat_lenE l
    unfold idsFlat at this ⊢
    rw [List.flatMap_cons, List.length_append, this, x.2, List.length_cons]; omega
theorem envHead_len {e : Env} (h1 : e.kind.toNat ≤ 3) (hr : e.realm ≤ 4294967295) (he : e.epoch ≤ 4294967295) (hl : e.links.length ≤ 1000) : (envHead e).length ≤ 40000 := by
  have e1 := encN_len64 (n := e.kind.toNat) (by omega)
  have e2 := encN_len64 (n := e.realm) (by omega)
  have e3 := encN_len64 (n := e.epoch) (by omega)
  have e4 := encN_len64 (n := e.links.length) (by omega)
  have e5 := idsFlat_lenE e.links
  unfold envHead idsBytes
  simp only [List.length_append]
  omega
/-- Bytes and an error's number are handed back. -/
def PutEnv (w w' : World) (x : Ending) (e : Env) : Prop :=
  ∃ A n c, x = .returned (.tuple #[.slice A n c, .int .i64 (if envMay e = true then 0 else 90)]) ∧ Fr NoB w w' ∧ Byt w' (fun _ => True) A n (if envMay e = true then envBytes e else [])
theorem PutEnv.no {w w' : World} {e : Env} (h : envMay e = false) (hf : Fr NoB w w') : PutEnv w w' (.returned (.tuple #[.slice none 0 0, .int .i64 90])) e :=
  ⟨none, 0, 0, by rw [h]; rfl, hf, by rw [h]; exact Byt.nil _ _ _⟩

set_option maxRecDepth 100000 in
set_option maxHeartbeats 4000000 in
theorem PutEnvelope_any (w : World) (F : Nat → Prop) (y : List Value) (e : Env) (hy : EnvR w F y e) (hre : e.realm ≤ 4294967295) (hep : e.epoch ≤ 4294967295) :
    Calls Try.prog 107 #[.agg y.toArray] w fun x w' => PutEnv w w' x e := by
  obtain ⟨A, n, c, B, m, d, rfl, hi, _, _, hb⟩ := hy
  obtain ⟨w2, hw2⟩ : ∃ w2, w2 = w.alloc (.cells (envCells e A n c B m d).toArray 153) := ⟨_, rfl⟩
  have hB : EnvBlk w2 w.heap.size e A n c B m d := by rw [hw2]; exact ⟨Blk.new _ _ _⟩
  have hF2 : Fr NoB w w2 := by rw [hw2]; exact (Fr.refl _ _).alloc _
  have Hml := Lib.hid hb.len
  have Hll := Lib.hid hi.len
  have hi2 := hi.fr hF2 (fun _ _ => id) fun _ _ _ h => h
  have hb2 := hb.fr hF2 fun _ _ => id
  have p0 := hB.c0
  have p3 := hB.c3
  have p4 := hB.c4
  have hall := hB.all
  have Hw2 := Lib.hid hw2
  obtain ⟨yc, hyc⟩ : ∃ yc, yc = envCells e A n c B m d := ⟨_, rfl⟩
  have H5l : Hid (yc.length = 5) := by show _ = _; rw [hyc]; rfl
  rw [← hyc] at Hw2 hall ⊢
  have Hyc := Lib.hid hyc
  clear hB hb hi hw2 hyc
  have z0 := p0
  have z3 := p3
  have z4 := p4
  rw [Hw2.out] at z0 z3 z4
  by_cases h1 : 1 ≤ e.kind
  · have b1 : decide (e.kind < 1) = false := by simp only [decide_eq_false_iff_not]; omega
    by_cases h2 : e.kind ≤ 3
    · have b2 : decide (3 < e.kind) = false := by simp only [decide_eq_false_iff_not]; omega
      by_cases h3 : n ≤ 1000
      · have b3 : decide (1000 < (n : Int)) = false := by simp only [decide_eq_false_iff_not]; omega
        by_cases h4 : m ≤ 70000
        · have b4 : decide (70000 < (m : Int)) = false := by simp only [decide_eq_false_iff_not]; omega
          have hmay : envMay e = rising e.links := by simp [envMay, h1, h2, Hml.out, Hll.out, h3, h4]
          have Hmay := Lib.hid hmay
          obtain ⟨l, hl⟩ : ∃ l, l = e.links := ⟨_, rfl⟩
          rw [← hl] at hi2
          have Hl := Lib.hid hl
          clear hmay hl
          go_enter Try.func107, Try.ntmps107
          go_wp2
          rw [← Hw2.out]
          go_loopw [4] (fun v wr => ∃ k : Nat, (k = 0 ∨ k + 1 ≤ n) ∧ v = .int .i64 (k + 1 : Nat) ∧ rising (l.take (k + 1)) = true ∧ Fr NoB w2 wr) (fun v _ => n - (intOf v).toNat)
          case atStart =>
            refine ⟨0, .inl rfl, rfl, ?_, Fr.refl _ _⟩
            cases l with
            | nil => rfl
            | cons a l => rfl
          case round =>
            obtain ⟨k, hk, rfl, hris, hFr⟩ := hrel
            obtain ⟨w4, rfl⟩ : ∃ w4 : World, w4 = wr := ⟨_, rfl⟩
            have q3 := hFr.cell' p3 id
            have Hris := Lib.hid hris
            clear hris
            by_cases hkn : k + 1 < n
            · obtain ⟨b1', o1, x, y1, hB1, _, gx, ly1, hr1, hc1⟩ := (hi2.fr hFr (fun _ _ => id) fun _ _ _ h => h).at_ (k := k) (by omega)
              obtain ⟨b2', o2, y, y2, hB2, _, gy, ly2, hr2, hc2⟩ := (hi2.fr hFr (fun _ _ => id) fun _ _ _ h => h).at_ (k := k + 1) (by omega)
              rw [hB1] at hB2
              injection hB2 with hB2
              injection hB2 with hb2' ho2
              subst hb2' ho2 hB1
              have hr1 : y1 = idCells x := hr1
              have hr2 : y2 = idCells y := hr2
              subst hr1 hr2
              have Hx : Hid ((idCells x).length = 32) := ly1
              have Hy : Hid ((idCells y).length = 32) := ly2
              have hrt := rising_take gx gy
              rw [Hris.out, Bool.true_and] at hrt
              have Hrt := Lib.hid hrt
              have hless := fun W => less_any W x y
              clear gx gy ly1 ly2 hrt
              generalize hxc : idCells x = xc at *
              generalize hyc : idCells y = yc2 at *
              clear hxc hyc
              generalize Op.bytesLess x.1 y.1 = bb at *
              have Hless := Lib.hid hless
              clear hless
              have hwk : IntKind.i64.wrap (k : Int) = k := by rw [IntKind.wrap_i64]; omega
              have g1 : (0 : Int) ≤ (k : Int) := by omega
              have g2 : (k : Int) < (n : Int) := by omega
              have g3 : (0 : Int) ≤ (k : Int) + 1 := by omega
              have g4 : (k : Int) + 1 < (n : Int) := by omega
              go_wp2
              refine wp_region_held (S := fun W => Fr NoB w4 W) rfl ?_
              have hS : Fr NoB w4 w4.drew := Fr.drew (Fr.refl _ _)
              refine wpAnyH_take (i := 0) rfl (by decide +kernel) (by decide +kernel) (by decide +kernel) (fun _ _ _ h => h) (Or.inl ⟨by kernel_rfl, fun W hW => by go_simp; with_reducible rfl⟩) hS ?_
              go_simp
              refine wpAnyH_take (i := 1) rfl (by decide +kernel) (by decide +kernel) (by decide +kernel) (fun _ _ _ h => h) (Or.inl ⟨by kernel_rfl, fun W hW => by have qq := hW.cell' q3 id; go_simp; with_reducible rfl⟩) hS ?_
              refine wpAnyH_take (i := 2) rfl (by decide +kernel) (by decide +kernel) (by decide +kernel) (fun _ _ _ h => h) (Or.inl ⟨by kernel_rfl, fun W hW => by go_simp; with_reducible rfl⟩) hS ?_
              go_simp
              refine wpAnyH_take (i := 3) rfl (by decide +kernel) (by decide +kernel) (by decide +kernel) (fun _ _ _ h => h) (Or.inl ⟨by kernel_rfl, fun W hW => by go_simp; with_reducible rfl⟩) hS ?_
              go_simp
              refine wpAnyH_take (i := 4) rfl (by decide +kernel) (by decide +kernel) (by decide +kernel) (fun _ _ _ h => h) (Or.inl ⟨by kernel_rfl, fun W hW => by go_simp; with_reducible rfl⟩) hS ?_
              go_simp
              refine wpAnyH_take (i := 5) rfl (by decide +kernel) (by decide +kernel) (by decide +kernel) (fun _ _ _ h => h) (Or.inl ⟨by kernel_rfl, fun W hW => exec_load_agg 74 (.tmp 36) rfl b1' (o1 + k * 32) rfl xc _ (fun j u hu => Fr.cell' hW (hc1 j u hu) id) Try.underlying74 rfl (by rw [Hx.out]; exact id_size)⟩) hS ?_
              go_simp
              refine wpAnyH_take (i := 6) rfl (by decide +kernel) (by decide +kernel) (by decide +kernel) (fun _ _ _ h => h) (Or.inl ⟨by kernel_rfl, fun W hW => by go_simp; with_reducible rfl⟩) hS ?_
              go_simp
              refine wpAnyH_take (i := 7) rfl (by decide +kernel) (by decide +kernel) (by decide +kernel) (fun _ _ _ h => h) (Or.inl ⟨by kernel_rfl, fun W hW => by have qq := hW.cell' q3 id; go_simp; with_reducible rfl⟩) hS ?_
              refine wpAnyH_take (i := 8) rfl (by decide +kernel) (by decide +kernel) (by decide +kernel) (fun _ _ _ h => h) (Or.inl ⟨by kernel_rfl, fun W hW => by go_simp; with_reducible rfl⟩) hS ?_
              go_simp
              refine wpAnyH_take (i := 9) rfl (by decide +kernel) (by decide +kernel) (by decide +kernel) (fun _ _ _ h => h) (Or.inl ⟨by kernel_rfl, fun W hW => by go_simp; with_reducible rfl⟩) hS ?_
              go_simp
              refine wpAnyH_take (i := 10) rfl (by decide +kernel) (by decide +kernel) (by decide +kernel) (fun _ _ _ h => h) (Or.inl ⟨by kernel_rfl, fun W hW => exec_load_agg 74 (.tmp 41) rfl b1' (o1 + (k + 1) * 32) rfl yc2 _ (fun j u hu => Fr.cell' hW (hc2 j u hu) id) Try.underlying74 rfl (by rw [Hy.out]; exact id_size)⟩) hS ?_
              go_simp
              refine wpAnyH_all (rs := [11]) (by decide +kernel) (by simp) ?_
              intro i hi
              simp only [List.mem_cons, List.not_mem_nil, or_false] at hi
              subst hi
              refine wpOp_call rfl rfl 114 (enters_of Try.func114 (by kernel_rfl) rfl) #[.tmp 37, .tmp 42] _ rfl _ rfl (Hless.out _) ?_
              rintro x5 w5 ⟨rfl, hf⟩
              replace hS := hS.trans hf fun _ _ => id
              clear hf
              refine ⟨_, rfl, hS, ?_⟩
              go_simp
              refine wpAnyH_take (i := 12) rfl (by decide +kernel) (by decide +kernel) (by decide +kernel) (fun _ _ _ h => h) (Or.inl ⟨by kernel_rfl, fun W hW => by go_simp; with_reducible rfl⟩) hS ?_
              go_simp
              refine wpAnyH_done (by decide +kernel) ?_ _
              cases bb with
              | true =>
                go_wp2
                go_roundw
                case rel =>
                  exact ⟨k + 1, .inr (by omega), by go_num, Hrt.out, hFr.trans hS fun _ _ => id⟩
                case measure => (simp [intOf] <;> omega)
              | false =>
                have hno : envMay e = false := by
                  rw [Hmay.out, ← Hl.out]
                  cases hr : rising l with
                  | false => rfl
                  | true =>
                    have := rising_mono l (k + 2) hr
                    rw [Hrt.out] at this
                    cases this
                have Hno := Lib.hid hno
                clear hno
                go_wp2
                go_ret2
                exact PutEnv.no Hno.out ((hF2.trans hFr fun _ _ => id).trans hS fun _ _ => id)
            · have hr0 := Hris.out
              rw [List.take_of_length_le (by rw [Hl.out, Hll.out]; omega)] at hr0
              have hyes : envMay e = true := by rw [Hmay.out, ← Hl.out]; exact hr0
              have Hyes := Lib.hid hyes
              have q4 := hFr.cell' p4 id
              have hall4 : ∀ j u, yc[j]? = some u → w4.cell? ⟨w.heap.size, 0 + j, none⟩ = some u := fun j u hu => hFr.cell' (hall j u hu) id
              have hAd := fun W (hW : Fr NoB w4 W) => Ad_any W F A n c B m d e (((Hl.out ▸ hi2).fr hFr (fun _ _ => id) fun _ _ _ h => h).fr hW (fun _ _ => id) fun _ _ _ h => h) e.kind.toNat (by omega) (by omega) hre hep h3
              rw [← Hyc.out] at hAd
              have HAd := Lib.hid hAd
              have Hhl := Lib.hid (envHead_len (e := e) (by omega) hre hep (by rw [Hll.out]; exact h3))
              have hbb := Lib.hid (hb2.fr hFr fun _ _ => id)
              clear hr0 hyes hAd hb2
              go_wp2
              refine wp_region_held (S := fun W => Fr NoB w4 W) rfl ?_
              have hS : Fr NoB w4 w4.drew := Fr.drew (Fr.refl _ _)
              refine wpAnyH_take (i := 0) rfl (by decide +kernel) (by decide +kernel) (by decide +kernel) (fun _ _ _ h => h) (Or.inl ⟨by kernel_rfl, fun W hW => exec_load_agg 153 (.tmp 1) rfl w.heap.size 0 rfl yc _ (fun j u hu => Fr.cell' hW (hall4 j u hu) id) Try.underlying153 rfl (by rw [H5l.out]; exact env_size)⟩) hS ?_
              go_simp
              refine wpAnyH_take (i := 2) rfl (by decide +kernel) (by decide +kernel) (by decide +kernel) (fun _ _ _ h => h) (Or.inl ⟨by kernel_rfl, fun W hW => by go_simp; with_reducible rfl⟩) hS ?_
              go_simp
              refine wpAnyH_take (i := 3) rfl (by decide +kernel) (by decide +kernel) (by decide +kernel) (fun _ _ _ h => h) (Or.inl ⟨by kernel_rfl, fun W hW => by have qq := hW.cell' q4 id; go_simp; with_reducible rfl⟩) hS ?_
              go_simp
              refine wpAnyH_all (rs := [1]) (by decide +kernel) (by simp) ?_
              intro i hi
              simp only [List.mem_cons, List.not_mem_nil, or_false] at hi
              subst hi
              refine wpOp_call rfl rfl 115 (enters_of Try.func115 (by kernel_rfl) rfl) #[.tmp 45] _ rfl _ rfl (HAd.out _ hS) ?_
              rintro x5 w5 ⟨A5, c5, rfl, hf, hO5, hA5⟩
              replace hS := hS.trans hf fun _ _ => id
              clear hf
              refine ⟨_, rfl, hS, ?_⟩
              obtain ⟨L5, hL5⟩ : ∃ L5, L5 = envHead e := ⟨_, rfl⟩
              rw [← hL5] at hO5 ⊢
              have hL5n : L5.length ≤ 40000 := by rw [hL5]; exact Hhl.out
              have HL5 := Lib.hid hL5
              clear hL5
              obtain ⟨n5, hn5⟩ : ∃ n5, n5 = L5.length := ⟨_, rfl⟩
              rw [← hn5] at hO5 hL5n ⊢
              clear hn5
              go_simp
              refine wpAnyH_all (rs := [4]) (by decide +kernel) (by simp) ?_
              intro i hi
              simp only [List.mem_cons, List.not_mem_nil, or_false] at hi
              subst hi
              refine wpOp_call rfl rfl 84 (enters_of Try.func84 (by kernel_rfl) rfl) #[.tmp 46, .tmp 48] _ rfl _ rfl (refText_any w5 (fun _ => True) F A5 B n5 c5 m d L5 e.body (hO5.arr fun _ _ _ => trivial) (hbb.out.fr hS fun _ _ => id) (by omega)) ?_
              rintro x6 w6 ⟨A6, c6, rfl, hf, hO6, hA6⟩
              replace hS := hS.trans hf fun _ _ => id
              clear hf
              refine ⟨_, rfl, hS, ?_⟩
              have hend : L5 ++ textBytes e.body = envBytes e := by rw [HL5.out]; rfl
              rw [hend] at hO6 ⊢
              clear hend
              obtain ⟨n6, hn6⟩ : ∃ n6, n6 = (envBytes e).length := ⟨_, rfl⟩
              rw [← hn6] at hO6 ⊢
              clear hn6
              go_simp
              refine wpAnyH_take (i := 5) rfl (by decide +kernel) (by decide +kernel) (by decide +kernel) (fun _ _ _ h => h) (Or.inl ⟨by kernel_rfl, fun W hW => by go_simp; with_reducible rfl⟩) hS ?_
              go_simp
              refine wpAnyH_take (i := 6) rfl (by decide +kernel) (by decide +kernel) (by decide +kernel) (fun _ _ _ h => h) (Or.inl ⟨by kernel_rfl, fun W hW => by go_simp; with_reducible rfl⟩) hS ?_
              go_simp
              refine wpAnyH_done (by decide +kernel) ?_ _
              go_wp2
              go_ret2
              exact ⟨A6, n6, c6, by rw [Hyes.out]; rfl, (hF2.trans hFr fun _ _ => id).trans hS fun _ _ => id, by rw [Hyes.out]; exact hO6.arr fun _ _ _ => trivial⟩
        · have b4 : decide (70000 < (m : Int)) = true := by simp only [decide_eq_true_eq]; omega
          have He : Hid (envMay e = false) := by show _ = _; simp [envMay, Hml.out, Hll.out, h4]
          clear h4
          go_enter Try.func107, Try.ntmps107
          go_wp2
          rw [← Hw2.out]
          go_ret2
          exact PutEnv.no He.out hF2
      · have b3 : decide (1000 < (n : Int)) = true := by simp only [decide_eq_true_eq]; omega
        have He : Hid (envMay e = false) := by show _ = _; simp [envMay, Hml.out, Hll.out, h3]
        clear h3
        go_enter Try.func107, Try.ntmps107
        go_wp2
        rw [← Hw2.out]
        go_ret2
        exact PutEnv.no He.out hF2
    · have b2 : decide (3 < e.kind) = true := by simp only [decide_eq_true_eq]; omega
      have He : Hid (envMay e = false) := by show _ = _; simp [envMay, Hml.out, Hll.out, h2]
      clear h2
      go_enter Try.func107, Try.ntmps107
      go_wp2
      rw [← Hw2.out]
      go_ret2
      exact PutEnv.no He.out hF2
  · have b1 : decide (e.kind < 1) = true := by simp only [decide_eq_true_eq]; omega
    have He : Hid (envMay e = false) := by show _ = _; simp [envMay, Hml.out, Hll.out, h1]
    clear h1
    go_enter Try.func107, Try.ntmps107
    go_wp2
    rw [← Hw2.out]
    go_ret2
    exact PutEnv.no He.out hF2
end

section
open Go.RowKit

theorem FN_litE {w : World} {G : Nat → Prop} {b : Nat} {r : Rd} (h : RfAt w G b r) (most : Nat) (m : Int) (hm : m = (most : Int)) :
    Calls Try.prog 35 #[.pointer (some ⟨b, 0, none⟩), .int .u64 m] w fun e w' => e = .returned (.int .u64 (r.N most).1) ∧ Fr (· = b) w w' ∧ RfAt w' G b (r.N most).2 := by
  subst hm; exact FN_any w G b r most h

set_option maxRecDepth 100000 in
set_option maxHeartbeats 4000000 in
theorem EnvelopeOf_any (w : World) (F0 : Nat → Prop) (hG0 : ∀ k, F0 k → k < w.heap.size) (A : Option Addr) (n c : Nat) (l : List UInt8) (h : Byt w F0 A n l) (hnc : n ≤ c) (hcm : c ≤ maxLen) (hn : n ≤ 70368744177664) :
    Calls Try.prog 97 #[.slice A n c] w fun e w' => GotEnv (fun k => F0 k ∨ w.heap.size ≤ k) w w' e (envOf l) (envBad l) := by
  have hlen := h.len
  have hn0 : (⟨l, true⟩ : Rd).l.length ≤ 70368744177664 := by simp; omega
  obtain ⟨B, hB0⟩ : ∃ B, B = w.heap.size := ⟨_, rfl⟩
  have HB := Lib.hid hB0
  have hR0 : ∀ z, RfAt ((w.alloc (.cells z 153)).alloc (.cells #[.slice A n c, .bool false] 59)) F0 (B + 1) ⟨l, true⟩ := fun z => by
    rw [hB0]
    exact ⟨fun hh => by have := hG0 _ hh; omega, (fun h => by cases h), A, n, c, by simpa using Blk.new (w.alloc (.cells z 153)) 59 #[.slice A n c, .bool false], hnc, hcm, (h.alloc _).alloc _⟩
  have hz0 : ∀ z, Blk ((w.alloc (.cells z 153)).alloc (.cells #[.slice A n c, .bool false] 59)) B 153 z := fun z => by
    rw [hB0]; exact (Blk.new w _ _).alloc _
  have hb0 : ∀ z, Byt ((w.alloc (.cells z 153)).alloc (.cells #[.slice A n c, .bool false] 59)) F0 A n l := fun z => (h.alloc _).alloc _
  replace hG0 : ∀ k, F0 k → k < B := by rw [hB0]; exact hG0
  have HR0 := Lib.hid hR0
  have Hz0 := Lib.hid hz0
  have Hb0 := Lib.hid hb0
  clear hlen hB0 hR0 hz0 hb0
  go_enter Try.func97, Try.ntmps97
  go_wp2_with (first
    | (refine wpList_alloc_any rfl 153 rfl 5 env_zero ?_; intro z hz; have Hz := Lib.hid hz; clear hz))
  rw [← HB.out]
  have hR := HR0.out z
  have hBz := Hz0.out z
  have hIn := Hb0.out z
  obtain ⟨w0, hw0⟩ : ∃ w0, w0 = (w.alloc (.cells z 153)).alloc (.cells #[.slice A n c, .bool false] 59) := ⟨_, rfl⟩
  have hF : Fr NoB w w0 := by rw [hw0]; exact ((Fr.refl NoB w).alloc _).alloc _
  have hK0 : B + 2 ≤ w0.heap.size := by rw [hw0, HB.out]; simp
  rw [← hw0] at hR hBz hIn ⊢
  clear hw0 HR0 Hz0 Hb0
  obtain ⟨b, hb⟩ : ∃ b, b = B + 1 := ⟨_, rfl⟩
  rw [← hb] at hR ⊢
  have hzb : ¬ B = b := by omega
  have hbB1 : B + 1 ≤ b := by omega
  have hbB2 : b + 1 ≤ w0.heap.size := by omega
  clear hb
  obtain ⟨r0, hr0⟩ : ∃ r0 : Rd, r0 = ⟨l, true⟩ := ⟨_, rfl⟩
  rw [← hr0] at hR
  replace hn0 : r0.l.length ≤ 70368744177664 := by rw [hr0]; exact hn0
  have Hr0 := Lib.hid hr0
  clear hr0
  obtain ⟨v1, r1, e1⟩ : ∃ v r', Rd.N r0 3 = (v, r') := ⟨_, _, rfl⟩
  have hv1 : v1 ≤ 3 := by have := Rd.N_le r0 3; rw [e1] at this; exact this
  have hn1 : r1.l.length ≤ 70368744177664 := by have := Rd.N_len r0 3; rw [e1] at this; exact Nat.le_trans this hn0
  have hcall := FN_litE hR 3 3 (by simp)
  rw [e1] at hcall
  have E1 := Lib.hid e1
  have Hcall := Lib.hid hcall
  clear e1 hR hcall
  go_wp2_with fail
  refine Hcall.out.mono ?_
  rintro e w1 ⟨rfl, hf1, hR⟩
  clear Hcall
  replace hF := hF.new hf1 fun j hj => .inr (by have := HB.out; omega)
  replace hBz := hBz.fr hf1 hzb
  replace hIn := hIn.fr hf1 fun j hj e => by have := hG0 j hj; omega
  have s1 := hf1.size
  clear hf1
  have H5 : Hid ((envCells ⟨(v1 : Int), 0, 0, [], []⟩ none 0 0 none 0 0).toArray.size = 5) := rfl
  have H5c : Hid ((envCells ⟨(v1 : Int), 0, 0, [], []⟩ none 0 0 none 0 0).toArray.all (·.oneCell') = true) := envCells_ones _ _ _ _ _ _ _
  obtain ⟨yc, hyc⟩ : ∃ yc, yc = envCells ⟨(v1 : Int), 0, 0, [], []⟩ none 0 0 none 0 0 := ⟨_, rfl⟩
  rw [← hyc] at H5 H5c
  have Hyc := Lib.hid hyc
  have hbuilt : Hid (Try.prog.built 153 [(0, .int .i64 (v1 : Int))] = some yc.toArray) := by show _ = _; rw [hyc]; exact kindEnv_built _
  clear hyc
  go_wp2_with (first
    | (refine wpList_build_eqE rfl 153 #[(0, .tmp 13)] rfl [(0, .int .i64 (v1 : Int))] rfl yc.toArray hbuilt.out ?_)
    | (refine wpList_alloc_any rfl 153 rfl 5 env_zero ?_; intro z6 hz6; have Hz6 := Lib.hid hz6; clear hz6)
    | (refine wpList_store_newN rfl 153 (.tmp 5) (.tmp 14) rfl 5 env_size _ z6 Hz6.out yc.toArray rfl rfl H5.out H5c.out ?_
       clear Hz6
       have hB : EnvBlk (w1.alloc (.cells yc.toArray 153)) w1.heap.size ⟨(v1 : Int), 0, 0, [], []⟩ none 0 0 none 0 0 := by rw [Hyc.out]; exact ⟨Blk.new _ _ _⟩
       replace hF : Fr NoB w (w1.alloc (.cells yc.toArray 153)) := hF.alloc _
       replace hBz := hBz.alloc (.cells yc.toArray 153)
       have hgl : w1.heap.size < (w1.alloc (.cells yc.toArray 153)).heap.size := by simp
       replace hR := hR.fr ((Fr.refl NoB _).alloc (.cells yc.toArray 153)) id fun _ _ => id
       replace hIn := hIn.alloc (.cells yc.toArray 153)
       obtain ⟨g, hg⟩ : ∃ g, g = w1.heap.size := ⟨_, rfl⟩
       rw [← hg] at hB hgl ⊢
       have hKg : b < g := by omega
       have hgb : ¬ g = b := by omega
       have hzg : ¬ B = g := by omega
       clear hg s1 hbuilt H5 H5c Hyc))
  obtain ⟨v2, r2, e2⟩ : ∃ v r', Rd.N r1 4294967295 = (v, r') := ⟨_, _, rfl⟩
  have hv2 : v2 ≤ 4294967295 := by have := Rd.N_le r1 4294967295; rw [e2] at this; exact this
  have hn2 : r2.l.length ≤ 70368744177664 := by have := Rd.N_len r1 4294967295; rw [e2] at this; exact Nat.le_trans this hn1
  have hcall := FN_litE hR 4294967295 4294967295 (by simp)
  rw [e2] at hcall
  have E2 := Lib.hid e2
  have Hcall := Lib.hid hcall
  clear e2 hR hcall
  go_wp2_with fail
  refine Hcall.out.mono ?_
  rintro e w2 ⟨rfl, hf2, hR⟩
  clear Hcall
  replace hB := hB.fr hf2 hgb
  replace hF := hF.new hf2 fun j hj => .inr (by have := HB.out; omega)
  replace hgl := Nat.lt_of_lt_of_le hgl hf2.size
  replace hBz := hBz.fr hf2 hzb
  replace hIn := hIn.fr hf2 fun j hj e => by have := hG0 j hj; omega
  have qc := hB.c1
  have qf := hB.blk.frozen 1
  have hfs : Fr (· = g) w2 (w2.setCell ⟨g, 1, none⟩ (.int .u32 (v2 : Nat))) := (Fr.refl _ _).at_ _ _
  replace hB := hB.s1 v2
  replace hF := hF.new hfs fun j hj => .inr (by have := HB.out; omega)
  replace hgl := Nat.lt_of_lt_of_le hgl hfs.size
  replace hBz := hBz.fr hfs hzg
  replace hR := hR.fr hfs (by omega) fun j hj e => by have := hG0 j hj; omega
  replace hIn := hIn.fr hfs fun j hj e => by have := hG0 j hj; omega
  clear hfs hf2
  obtain ⟨v3, r3, e3⟩ : ∃ v r', Rd.N r2 4294967295 = (v, r') := ⟨_, _, rfl⟩
  have hv3 : v3 ≤ 4294967295 := by have := Rd.N_le r2 4294967295; rw [e3] at this; exact this
  have hn3 : r3.l.length ≤ 70368744177664 := by have := Rd.N_len r2 4294967295; rw [e3] at this; exact Nat.le_trans this hn2
  have hcall := FN_litE hR 4294967295 4294967295 (by simp)
  rw [e3] at hcall
  have E3 := Lib.hid e3
  have Hcall := Lib.hid hcall
  clear e3 hR hcall
  go_wp2_with fail
  refine Hcall.out.mono ?_
  rintro e w3 ⟨rfl, hf3, hR⟩
  clear Hcall
  replace hB := hB.fr hf3 hgb
  replace hF := hF.new hf3 fun j hj => .inr (by have := HB.out; omega)
  replace hgl := Nat.lt_of_lt_of_le hgl hf3.size
  replace hBz := hBz.fr hf3 hzb
  replace hIn := hIn.fr hf3 fun j hj e => by have := hG0 j hj; omega
  clear qc qf
  have qc := hB.c2
  have qf := hB.blk.frozen 2
  have hfs : Fr (· = g) w3 (w3.setCell ⟨g, 2, none⟩ (.int .u32 (v3 : Nat))) := (Fr.refl _ _).at_ _ _
  replace hB := hB.s2 v3
  replace hF := hF.new hfs fun j hj => .inr (by have := HB.out; omega)
  replace hgl := Nat.lt_of_lt_of_le hgl hfs.size
  replace hBz := hBz.fr hfs hzg
  replace hR := hR.fr hfs (by omega) fun j hj e => by have := hG0 j hj; omega
  replace hIn := hIn.fr hfs fun j hj e => by have := hG0 j hj; omega
  clear hfs hf3
  obtain ⟨l4, r4, e4⟩ : ∃ v r', Rd.Ids r3 1000 = (v, r') := ⟨_, _, rfl⟩
  have hv4 : l4.length ≤ 1000 := by have := Rd.Ids_leE r3 1000 1000 (by omega); rw [e4] at this; exact this
  have hn4 : r4.l.length ≤ 70368744177664 := by have := Rd.Ids_lE r3 1000; rw [e4] at this; exact Nat.le_trans this hn3
  have hcall := FIds_any _ _ _ _ 1000 hR (fun j hj => by have := hG0 j hj; omega) (by omega) hn3
  rw [e4] at hcall
  unfold FReadIds at hcall
  dsimp only at hcall
  have E4 := Lib.hid e4
  have Hcall := Lib.hid hcall
  clear e4 hR hcall
  go_wp2_with fail
  refine Hcall.out.mono ?_
  rintro e w4 ⟨A4, c4, rfl, hf4, hR, hI4⟩
  clear Hcall
  replace hI4 : ArrOf IdR w4 (fun j => g < j) 32 A4 l4.length l4 := ArrOf.more hI4 (by omega) (fun j _ hj => by omega) fun _ _ _ h => h
  replace hB := hB.fr hf4 hgb
  replace hF := hF.new hf4 fun j hj => .inr (by have := HB.out; omega)
  replace hgl := Nat.lt_of_lt_of_le hgl hf4.size
  replace hBz := hBz.fr hf4 hzb
  replace hIn := hIn.fr hf4 fun j hj e => by have := hG0 j hj; omega
  clear qc qf
  have qc := hB.c3
  have qf := hB.blk.frozen 3
  have hfs : Fr (· = g) w4 (w4.setCell ⟨g, 3, none⟩ (.slice A4 l4.length c4)) := (Fr.refl _ _).at_ _ _
  replace hB := hB.s3 l4 A4 l4.length c4
  replace hF := hF.new hfs fun j hj => .inr (by have := HB.out; omega)
  replace hgl := Nat.lt_of_lt_of_le hgl hfs.size
  replace hBz := hBz.fr hfs hzg
  replace hR := hR.fr hfs (by omega) fun j hj e => by have := hG0 j hj; omega
  replace hIn := hIn.fr hfs fun j hj e => by have := hG0 j hj; omega
  replace hI4 := hI4.fr hfs (fun j hj e => by omega) fun _ _ _ h => h
  clear hfs hf4
  obtain ⟨l5, r5, e5⟩ : ∃ v r', Rd.Text r4 70000 = (v, r') := ⟨_, _, rfl⟩
  have hv5 : l5.length ≤ 70000 := by have := Rd.Text_leE r4 70000 70000 (by omega); rw [e5] at this; exact this
  have hcall := FText_any _ _ _ _ 70000 hR (by omega)
  rw [e5] at hcall
  unfold FReadBytes at hcall
  dsimp only at hcall
  have E5 := Lib.hid e5
  have Hcall := Lib.hid hcall
  clear e5 hR hcall
  go_wp2_with fail
  refine Hcall.out.mono ?_
  rintro e w5 ⟨A5, c5, rfl, hf5, hR, hlc5, hcm5, hI5⟩
  clear Hcall
  replace hI4 := hI4.fr hf5 (fun j hj e => by omega) fun _ _ _ h => h
  replace hB := hB.fr hf5 hgb
  replace hF := hF.new hf5 fun j hj => .inr (by have := HB.out; omega)
  replace hgl := Nat.lt_of_lt_of_le hgl hf5.size
  replace hBz := hBz.fr hf5 hzb
  replace hIn := hIn.fr hf5 fun j hj e => by have := hG0 j hj; omega
  clear qc qf
  have qc := hB.c4
  have qf := hB.blk.frozen 4
  have hfs : Fr (· = g) w5 (w5.setCell ⟨g, 4, none⟩ (.slice A5 l5.length c5)) := (Fr.refl _ _).at_ _ _
  replace hB := hB.s4 l5 A5 l5.length c5
  replace hF := hF.new hfs fun j hj => .inr (by have := HB.out; omega)
  replace hgl := Nat.lt_of_lt_of_le hgl hfs.size
  replace hBz := hBz.fr hfs hzg
  replace hR := hR.fr hfs (by omega) fun j hj e => by have := hG0 j hj; omega
  replace hIn := hIn.fr hfs fun j hj e => by have := hG0 j hj; omega
  replace hI4 := hI4.fr hfs (fun j hj e => by omega) fun _ _ _ h => h
  replace hI5 := hI5.fr hfs fun j hj e => by have := hG0 j hj; omega
  clear hfs hf5
  have hpar := envParse_eq (Hr0.out ▸ E1.out) E2.out E3.out E4.out E5.out
  obtain ⟨hof, hbad⟩ := env_vals hpar
  have honce := env_once (l := l)
  rw [hpar] at honce
  dsimp only at honce
  clear E1 E2 E3 E4 E5 Hr0 hpar
  obtain ⟨q, hq⟩ : ∃ q : Env, q = ⟨(v1 : Nat), v2, v3, l4, l5⟩ := ⟨_, rfl⟩
  have hBq : EnvBlk (w5.setCell ⟨g, 4, none⟩ (.slice A5 l5.length c5)) g q A4 l4.length c4 A5 l5.length c5 := by rw [hq]; exact hB
  have hQ : EnvR (w5.setCell ⟨g, 4, none⟩ (.slice A5 l5.length c5)) (fun j => F0 j ∨ g < j) (envCells q A4 l4.length c4 A5 l5.length c5) q := ⟨_, _, _, _, _, _, rfl, by rw [hq]; exact ArrOf.more hI4 (by omega) (fun j _ hj => .inr hj) fun _ _ _ h => h, hlc5, hcm5, by rw [hq]; exact hI5.more fun j _ hj => .inl hj⟩
  have hqr : q.realm ≤ 4294967295 := by rw [hq]; exact hv2
  have hqe : q.epoch ≤ 4294967295 := by rw [hq]; exact hv3
  rw [← hq] at hof hbad honce
  clear hq hB hI4 hI5
  obtain ⟨yq, hyq⟩ : ∃ yq, yq = envCells q A4 l4.length c4 A5 l5.length c5 := ⟨_, rfl⟩
  have hall := hBq.all
  rw [← hyq] at hQ hall
  have H5l : Hid (yq.length = 5) := by show _ = _; rw [hyq]; rfl
  have H5a : Hid (yq.toArray.size = 5) := by show _ = _; rw [hyq]; rfl
  have H1a : Hid (yq.toArray.all (·.oneCell') = true) := by show _ = _; rw [hyq]; exact envCells_ones _ _ _ _ _ _ _
  have hput := Lib.hid (PutEnvelope_any _ _ _ _ hQ hqr hqe)
  obtain ⟨zc, hzc⟩ : ∃ zc, zc = envCells zeroEnv none 0 0 none 0 0 := ⟨_, rfl⟩
  have Hzb : Hid (Try.prog.built 153 [] = some zc.toArray) := by show _ = _; rw [hzc]; exact zeroEnv_built
  have Z5l : Hid (zc.length = 5) := by show _ = _; rw [hzc]; rfl
  have Z5a : Hid (zc.toArray.size = 5) := by show _ = _; rw [hzc]; rfl
  have Z1a : Hid (zc.toArray.all (·.oneCell') = true) := by show _ = _; rw [hzc]; exact envCells_ones _ _ _ _ _ _ _
  have Hzc := Lib.hid hzc
  have hRI := Lib.hid hR
  have hInH := Lib.hid hIn
  clear hyq hzc hBq
  by_cases hev : Rd.End r5 = 0
  · have be : (Rd.End r5 != 0) = false := by simpa using hev
    have hd := decide_eq_true hev
    rw [hd, Bool.true_and] at hof hbad
    have Hone := Lib.hid (honce hev)
    clear hd hev honce
    cases hm : envMay q with
    | true =>
      rw [hm, if_pos rfl] at hof hbad
      have He1 := Lib.hid hof
      have He2 := Lib.hid hbad
      clear hof hbad
      go_wp2_with (first
        | (refine wpList_load_agg rfl 153 (.tmp 5) rfl g 0 rfl yq _ hall Try.underlying153 rfl (by rw [H5l.out]; exact env_size) ?_)
        | (go_at_call 107
           refine hput.out.mono ?_
           rintro e w7 ⟨A7, n7, c7, rfl, hf7, hI7⟩
           rw [hm] at hI7 ⊢
           have hall7 : ∀ j u, yq[j]? = some u → w7.cell? ⟨g, 0 + j, none⟩ = some u := fun j u hu => hf7.cell' (hall j u hu) id
           have hBz7 := hBz.fr hf7 id
           have hQ7 := hQ.fr hf7 fun _ _ => id
           have hF7 := hF.trans hf7 fun _ _ => id
           have hend := FEnd_any _ _ _ _ (hRI.out.fr hf7 id fun _ _ => id)
           have hIn7 := hInH.out.fr hf7 fun _ _ => id
           rw [if_pos rfl, Hone.out] at hI7
           have v1 := hI7.str (P := Try.prog) Try.underlying22 Try.underlying5 Try.underlying9 c7
           have v2 := hIn7.str (P := Try.prog) Try.underlying22 Try.underlying5 Try.underlying9 c
           simp only [if_true])
        | (go_at_call 44; refine hend.mono ?_; rintro e w' ⟨rfl, rfl⟩)
        | (refine wpList_load_agg rfl 153 (.tmp 5) rfl g 0 rfl yq _ hall7 Try.underlying153 rfl (by rw [H5l.out]; exact env_size) ?_)
        | (refine wpList_store_rowE rfl 153 (.tmp 2) (.tmp 49) rfl B yq.toArray rfl rfl 153 z hBz7 (by rw [H5a.out]; exact env_size) (by rw [Hz.out, H5a.out]) H1a.out ?_))
      obtain ⟨hft, hBt⟩ := setRow_fr (ds := yq.toArray) hBz7
      refine bodyPost_ret (results_cell2E (cs := yq) rfl rfl (fun j v hv => by rw [Nat.zero_add, hBt.cell]; simpa using hv) Try.underlying153 rfl (by rw [H5l.out]; exact env_size)) rfl ?_
      rw [He1.out, He2.out]
      refine ⟨yq, rfl, hF7.new hft fun j hj => .inr (by have := HB.out; omega), ?_⟩
      obtain ⟨A, n, c, B', m, d, k1, k4, k5, k6, k7⟩ := hQ7.fr hft fun j hj e => by rcases hj with hj | hj; (have := hG0 j hj; omega); omega
      have hlow : ∀ j, F0 j ∨ g < j → F0 j ∨ w.heap.size ≤ j := fun j hj => hj.imp id fun hj => by have := HB.out; omega
      exact ⟨A, n, c, B', m, d, k1, ArrOf.more k4 (by omega) (fun j _ hj => hlow j hj) fun _ _ _ h => h, k5, k6, k7.more fun j _ hj => hlow j hj⟩
    | false =>
      rw [hm, if_neg (by simp)] at hof hbad
      have He1 := Lib.hid hof
      have He2 := Lib.hid hbad
      clear hof hbad
      go_wp2_with (first
        | (refine wpList_load_agg rfl 153 (.tmp 5) rfl g 0 rfl yq _ hall Try.underlying153 rfl (by rw [H5l.out]; exact env_size) ?_)
        | (go_at_call 107
           refine hput.out.mono ?_
           rintro e w7 ⟨A7, n7, c7, rfl, hf7, hI7⟩
           rw [hm] at hI7 ⊢
           have hall7 : ∀ j u, yq[j]? = some u → w7.cell? ⟨g, 0 + j, none⟩ = some u := fun j u hu => hf7.cell' (hall j u hu) id
           have hBz7 := hBz.fr hf7 id
           have hQ7 := hQ.fr hf7 fun _ _ => id
           have hF7 := hF.trans hf7 fun _ _ => id
           have hend := FEnd_any _ _ _ _ (hRI.out.fr hf7 id fun _ _ => id)
           have hIn7 := hInH.out.fr hf7 fun _ _ => id
           simp only [if_false, Bool.false_eq_true])
        | (go_at_call 44; refine hend.mono ?_; rintro e w' ⟨rfl, rfl⟩)
        | (refine wpList_build_eqE rfl 153 #[] rfl [] rfl zc.toArray Hzb.out ?_)
        | (refine wpList_store_rowE rfl 153 (.tmp 2) (.tmp 48) rfl B zc.toArray rfl rfl 153 z hBz7 (by rw [Z5a.out]; exact env_size) (by rw [Hz.out, Z5a.out]) Z1a.out ?_))
      obtain ⟨hft, hBt⟩ := setRow_fr (ds := zc.toArray) hBz7
      refine bodyPost_ret (results_cell2E (cs := zc) rfl rfl (fun j v hv => by rw [Nat.zero_add, hBt.cell]; simpa using hv) Try.underlying153 rfl (by rw [Z5l.out]; exact env_size)) rfl ?_
      rw [He1.out, He2.out]
      have hgz := GotEnv.zero (G := (fun k => F0 k ∨ w.heap.size ≤ k)) (hF7.new hft fun j hj => .inr (by have := HB.out; omega))
      rw [← Hzc.out] at hgz
      exact hgz
  · have be : (Rd.End r5 != 0) = true := by simpa using hev
    have hd := decide_eq_false hev
    rw [hd, Bool.false_and, if_neg (by simp)] at hof hbad
    have He1 := Lib.hid hof
    have He2 := Lib.hid hbad
    clear hof hbad
    clear hd hev honce
    cases hm : envMay q with
    | true =>
      go_wp2_with (first
        | (refine wpList_load_agg rfl 153 (.tmp 5) rfl g 0 rfl yq _ hall Try.underlying153 rfl (by rw [H5l.out]; exact env_size) ?_)
        | (go_at_call 107
           refine hput.out.mono ?_
           rintro e w7 ⟨A7, n7, c7, rfl, hf7, hI7⟩
           rw [hm] at hI7 ⊢
           have hall7 : ∀ j u, yq[j]? = some u → w7.cell? ⟨g, 0 + j, none⟩ = some u := fun j u hu => hf7.cell' (hall j u hu) id
           have hBz7 := hBz.fr hf7 id
           have hQ7 := hQ.fr hf7 fun _ _ => id
           have hF7 := hF.trans hf7 fun _ _ => id
           have hend := FEnd_any _ _ _ _ (hRI.out.fr hf7 id fun _ _ => id)
           have hIn7 := hInH.out.fr hf7 fun _ _ => id
           simp only [if_true])
        | (go_at_call 44; refine hend.mono ?_; rintro e w' ⟨rfl, rfl⟩)
        | (refine wpList_build_eqE rfl 153 #[] rfl [] rfl zc.toArray Hzb.out ?_)
        | (refine wpList_store_rowE rfl 153 (.tmp 2) (.tmp 48) rfl B zc.toArray rfl rfl 153 z hBz7 (by rw [Z5a.out]; exact env_size) (by rw [Hz.out, Z5a.out]) Z1a.out ?_))
      obtain ⟨hft, hBt⟩ := setRow_fr (ds := zc.toArray) hBz7
      refine bodyPost_ret (results_cell2E (cs := zc) rfl rfl (fun j v hv => by rw [Nat.zero_add, hBt.cell]; simpa using hv) Try.underlying153 rfl (by rw [Z5l.out]; exact env_size)) rfl ?_
      rw [He1.out, He2.out]
      have hgz := GotEnv.zero (G := (fun k => F0 k ∨ w.heap.size ≤ k)) (hF7.new hft fun j hj => .inr (by have := HB.out; omega))
      rw [← Hzc.out] at hgz
      exact hgz
    | false =>
      go_wp2_with (first
        | (refine wpList_load_agg rfl 153 (.tmp 5) rfl g 0 rfl yq _ hall Try.underlying153 rfl (by rw [H5l.out]; exact env_size) ?_)
        | (go_at_call 107
           refine hput.out.mono ?_
           rintro e w7 ⟨A7, n7, c7, rfl, hf7, hI7⟩
           rw [hm] at hI7 ⊢
           have hall7 : ∀ j u, yq[j]? = some u → w7.cell? ⟨g, 0 + j, none⟩ = some u := fun j u hu => hf7.cell' (hall j u hu) id
           have hBz7 := hBz.fr hf7 id
           have hQ7 := hQ.fr hf7 fun _ _ => id
           have hF7 := hF.trans hf7 fun _ _ => id
           have hend := FEnd_any _ _ _ _ (hRI.out.fr hf7 id fun _ _ => id)
           have hIn7 := hInH.out.fr hf7 fun _ _ => id
           simp only [if_false, Bool.false_eq_true])
        | (go_at_call 44; refine hend.mono ?_; rintro e w' ⟨rfl, rfl⟩)
        | (refine wpList_build_eqE rfl 153 #[] rfl [] rfl zc.toArray Hzb.out ?_)
        | (refine wpList_store_rowE rfl 153 (.tmp 2) (.tmp 48) rfl B zc.toArray rfl rfl 153 z hBz7 (by rw [Z5a.out]; exact env_size) (by rw [Hz.out, Z5a.out]) Z1a.out ?_))
      obtain ⟨hft, hBt⟩ := setRow_fr (ds := zc.toArray) hBz7
      refine bodyPost_ret (results_cell2E (cs := zc) rfl rfl (fun j v hv => by rw [Nat.zero_add, hBt.cell]; simpa using hv) Try.underlying153 rfl (by rw [Z5l.out]; exact env_size)) rfl ?_
      rw [He1.out, He2.out]
      have hgz := GotEnv.zero (G := (fun k => F0 k ∨ w.heap.size ≤ k)) (hF7.new hft fun j hj => .inr (by have := HB.out; omega))
      rw [← Hzc.out] at hgz
      exact hgz
end
end Go.Proofs.Ytnkfchondedfcaa
