/-
  What a reader of bytes does with ids (codec.Reader): each, Ids. Conditions: each contract states its own.
-/
import Derived.Test.YtnkfchondedfcaaEa
import Derived.Test.YtnkfchondedfcaaRg
import Derived.Test.YtnkfchondedfcaaCy
import Derived.Laws.Cover3
namespace Go.Proofs.Ytnkfchondedfcaa
open Go.RowKit Go.Shelf
attribute [local go_sem] Oper.semAt_some

set_option maxHeartbeats 400000 in
theorem each_any (w : World) (p : Option Addr) (n : Int) :
    Calls Try.prog 87 #[.pointer p, .int .u64 n] w fun e w' => e = .returned (.func (.func 104) #[] #[.pointer (some ⟨w.heap.size + 1, 0, none⟩), .pointer (some ⟨w.heap.size, 0, none⟩)]) ∧ w' = (w.alloc (.cells #[.pointer p] 43)).alloc (.cells #[.int .u64 n] 23) := by
  go_enter Try.func87, Try.ntmps87
  go_wp2
  go_ret
  exact ⟨rfl, rfl⟩

theorem RdAt.fr {w w' : World} {F S : Nat → Prop} {b : Nat} {r : Rd} (h : RdAt w F b r) (hf : Fr S w w') (hd : ∀ k, F k → ¬ S k) : RdAt w' F b r := by
  obtain ⟨q0, q1, q2, q3, q4, q5, q6, q7⟩ := h
  exact ⟨q0, q1, q2, q3, q4.fr hf (hd _ q0), q5, q6, q7.fr hf fun k hk => hd k hk.1⟩
theorem RdAt.more {w : World} {F G : Nat → Prop} {b : Nat} {r : Rd} (h : RdAt w F b r) (hs : ∀ k, k < w.heap.size → F k → G k) : RdAt w G b r := by
  obtain ⟨q0, q1, q2, q3, q4, q5, q6, q7⟩ := h
  exact ⟨hs _ q4.lt q0, q1, q2, q3, q4, q5, q6, q7.more fun k hk h => ⟨hs k hk h.1, h.2⟩⟩

theorem Rd.idsGo_zero (r : Rd) : Rd.idsGo 0 r = ([], r) := rfl
theorem Rd.idsGo_stop {k : Nat} {r : Rd} (h : (r.Raw 32).1.length ≠ 32) : Rd.idsGo (k + 1) r = ([], (r.Raw 32).2) := by rw [Rd.idsGo, dif_neg h]
theorem Rd.idsGo_on {k : Nat} {r : Rd} (h : (r.Raw 32).1.length = 32) : Rd.idsGo (k + 1) r = (⟨(r.Raw 32).1, h⟩ :: (Rd.idsGo k (r.Raw 32).2).1, (Rd.idsGo k (r.Raw 32).2).2) := by rw [Rd.idsGo, dif_pos h]

set_option maxRecDepth 100000 in
set_option maxHeartbeats 2000000 in
theorem each1_seq (m : Nat) (hm : 2 ≤ m) (w : World) (b bn br : Nat) (r : Rd) (n0 : Nat) (FR T : Nat → Prop) (hR : RdAt w FR b r) (hn : Blk w bn 23 #[.int .u64 n0]) (hr : Blk w br 43 #[.pointer (some ⟨b, 0, none⟩)]) (hn0 : n0 < 18446744073709551616)
    (hT : (∀ k, FR k → ¬ T k) ∧ ¬ T bn ∧ ¬ T br) (hFn : ¬ FR bn ∧ ¬ FR br) (hroom : r.l.length ≤ 70368744177664) :
    SeqG m Try.prog 104 #[.pointer (some ⟨bn, 0, none⟩), .pointer (some ⟨br, 0, none⟩)] (fun x : Id32 => #[.agg (idCells x).toArray]) (fun k => k = b ∨ k = bn) T (fun pre _ => 32 * (pre.length + 1) ≤ r.l.length)
      (fun xs W => xs = (Rd.idsGo n0 r).1 ∧ RdAt W FR b (Rd.idsGo n0 r).2) (fun _ _ => True) w := by
  intro l J Jx W hF0 hl1 hl2 hJ hJx hY h0
  have hbn := hn.lt
  have hbr := hr.lt
  have hRt := hR.more (G := fun k => FR k ∧ k < w.heap.size) fun k hk h => ⟨h, hk⟩
  have hm1 : 1 ≤ m := by omega
  have hm2 : 1 ≤ m - 1 := by omega
  refine callsIn_of_wp Try.func104 rfl trivial ?_ rfl
  simp only [Try.ntmps104, List.size_toArray, List.length_cons, List.length_nil, Nat.reduceAdd, Nat.reduceSub, Array.replicate_succ, Array.replicate_zero, List.push_toArray, List.append_toArray, List.nil_append, List.cons_append]
  gi_wp2
  gi_loopw [4] (fun _ wr => ∃ (pre : List Id32) (r' : Rd) (k : Nat), k ≤ n0 ∧ J pre wr ∧ Blk wr bn 23 #[.int .u64 k] ∧ Blk wr br 43 #[.pointer (some ⟨b, 0, none⟩)] ∧ RdAt wr (fun k => FR k ∧ k < w.heap.size) b r' ∧
      (Rd.idsGo n0 r).1 = pre ++ (Rd.idsGo k r').1 ∧ (Rd.idsGo n0 r).2 = (Rd.idsGo k r').2 ∧ 32 * pre.length + r'.l.length ≤ r.l.length ∧ W.heap.size ≤ wr.heap.size) (fun _ wr => (intOf ((wr.cell? ⟨bn, 0, none⟩).getD undef)).toNat)
  case atStart =>
    exact ⟨[], r, n0, Nat.le_refl _, h0, hn.fr hF0 id, hr.fr hF0 id, hRt.fr hF0 fun _ _ => id, rfl, rfl, by simp, Nat.le_refl _⟩
  case round =>
    obtain ⟨pre, r', k, hk, hJw, hnw, hrw, hRw, he1, he2, hlen, hsz⟩ := hrel
    obtain ⟨w1, rfl⟩ : ∃ w1 : World, w1 = wr := ⟨_, rfl⟩
    have cn := hnw.cell_0
    have cr := hrw.cell_0
    have fzn := hnw.frozen 0
    have He1 := Lib.hid he1
    have He2 := Lib.hid he2
    clear he1 he2
    cases k with
    | zero =>
      gi_wp2
      go_end0
      have e1 := He1.out
      have e2 := He2.out
      rw [Rd.idsGo_zero] at e1 e2
      exact ⟨⟨_, rfl⟩, .inl ⟨pre, ⟨by rw [e1]; simp, by rw [e2]; exact hRw.more fun _ _ h => h.1⟩, hJw⟩⟩
    | succ k =>
      have hcall := RRaw_any w1 _ b r' 32 hRw (by omega) (by omega) (by omega)
      have hrl := Rd.Raw_len r' 32
      rcases Rd.Raw_32 r' with h32 | h32
      · have e1 := He1.out
        have e2 := He2.out
        rw [Rd.idsGo_on h32] at e1 e2
        have hid : (⟨(r'.Raw 32).1, h32⟩ : Id32).1 = (r'.Raw 32).1 := rfl
        unfold ReadBytes at hcall
        rw [h32] at hcall
        generalize (⟨(r'.Raw 32).1, h32⟩ : Id32) = x at e1 e2 hid
        rw [← hid] at hcall
        generalize (r'.Raw 32).2 = r2 at *
        rw [← hid, x.2] at hrl
        have He1' := Lib.hid e1
        have He2' := Lib.hid e2
        have Hcall := Lib.hid hcall
        clear e1 e2 hid hcall He1 He2 h32
        have hG : 32 * (pre.length + 1) ≤ r.l.length := by omega
        have Hx : Hid ((idCells x).length = 32) := idCells_len x
        gi_wp2_with fail
        refine ⟨trivial, ?_⟩
        refine (callsIn_wide.2 Hcall.out).mono ?_
        rintro e w2 ⟨A2, c2, rfl, hf2, hR2, hO2, hA2⟩
        have s2 := hf2.size
        have hJ2 : J pre w2 := hJ _ _ _ hJw (hf2.mono fun _ _ h => .inl h)
        obtain ⟨fn, tmps, assign, body, hy, hRn⟩ := hY pre x w2 hJ2 hG (by omega)
        obtain ⟨g, cur, rfl, hBg, hc32, _, hcs, htk⟩ : ∃ g cur, A2 = some ⟨g, 0, none⟩ ∧ Blk w2 g 5 cur ∧ 32 ≤ c2 ∧ c2 ≤ maxLen ∧ cur.size = c2 * 1 ∧ cur.toList.take (32 * 1) = x.1.map bv := by
          have := Own.form hO2
          rcases this with ⟨_, h, _⟩ | h
          · omega
          · exact h
        have hcg : ∀ (j : Nat) (u : Value), (idCells x)[j]? = some u → w2.cell? ⟨g, 0 + j, none⟩ = some u := fun j u hu => by
          rw [Nat.zero_add, hBg.cell]
          rw [← Array.getElem?_toList]
          have h3 : (cur.toList.take (32 * 1))[j]? = some u := by rw [htk]; exact hu
          rw [List.getElem?_take] at h3
          split at h3
          · exact h3
          · cases h3
        clear htk hcs
        have harr := run_arrayAt (P := Try.prog) (w := w2) 74 5 32 (some ⟨g, 0, none⟩) 32 c2 Try.underlying74 (by omega)
        gi_wp2_with (first
          | (refine wpListIn_load_agg rfl 74 (.tmp 17) rfl g 0 rfl (idCells x) _ hcg Try.underlying74 rfl (by rw [Hx.out]; exact id_size) ?_))
        refine hRn.mono ?_
        have hne : ∀ k, k < w.heap.size → ¬ T k → ¬ (T k ∨ k = l) := fun k hk ht h => h.elim ht fun h => by omega
        have hbb := hRw.1.2
        have hbne : bn ≠ b := fun h => hFn.1 (h ▸ hRw.1.1)
        rintro e w3 (⟨rfl, hJ3, hf3⟩ | ⟨rfl, hJ3, hf3⟩)
        · have s3 := hf3.size
          have hn3 := (hnw.fr hf2 hbne).fr hf3 (hne _ hbn hT.2.1)
          have cn3 := hn3.cell_0
          have fzn3 := hn3.frozen 0
          have hr3 := (hrw.fr hf2 (fun h => hFn.2 (h ▸ hRw.1.1))).fr hf3 (hne _ hbr hT.2.2)
          have hR3 := hR2.fr hf3 fun j hj => hne j hj.2 (hT.1 j hj.1)
          have hFs := (Fr.refl (fun j => j = b ∨ j = bn) w3).set_ (b := bn) (.inl (.inr rfl)) 0 (.int .u64 (k : Int))
          have hJ4 := hJ _ _ _ hJ3 hFs
          gi_wp2
          go_roundw
          case rel =>
            refine ⟨pre ++ [x], r2, k, by omega, hJ4, by simpa using hn3.set_ 0 _, hr3.far (p := ⟨bn, 0, none⟩) (fun h => ?_) _, hR3.fr ((Fr.refl (· = bn) w3).at_ 0 _) (fun j hj h => hFn.1 (h ▸ hj.1)), by rw [He1'.out]; simp, He2'.out, by simp only [List.length_append, List.length_singleton]; omega, by simp [World.setCell]; omega⟩
            exact hr3.ne_ hn3 (by decide) h
          case measure =>
            rw [(hn3.set_ 0 _).cell 0, cn]
            simp [intOf]
        · gi_wp2
          refine bodyPost_ret (results_none rfl _ _ _) rfl ?_
          exact ⟨⟨_, rfl⟩, .inr ⟨pre ++ [x], trivial, hJ3⟩⟩
      · have e1 := He1.out
        have e2 := He2.out
        rw [Rd.idsGo_stop (by omega)] at e1 e2
        unfold ReadBytes at hcall
        rw [h32] at hcall
        generalize (r'.Raw 32).2 = r2 at *
        have He1' := Lib.hid e1
        have He2' := Lib.hid e2
        have Hcall := Lib.hid hcall
        clear e1 e2 hcall He1 He2 h32
        gi_wp2_with fail
        refine ⟨trivial, ?_⟩
        refine (callsIn_wide.2 Hcall.out).mono ?_
        rintro e w2 ⟨A2, c2, rfl, hf2, hR2, hO2, hA2⟩
        have hJ2 : J pre w2 := hJ _ _ _ hJw (hf2.mono fun _ _ h => .inl h)
        gi_wp2
        refine ⟨fun _ h => (by cases h), ?_⟩
        gi_wp2
        refine bodyPost_ret (results_none rfl _ _ _) rfl ?_
        exact ⟨⟨_, rfl⟩, .inl ⟨pre, ⟨by rw [He1'.out]; simp, by rw [He2'.out]; exact hR2.more fun _ _ h => h.1⟩, hJ2⟩⟩

end Go.Proofs.Ytnkfchondedfcaa
