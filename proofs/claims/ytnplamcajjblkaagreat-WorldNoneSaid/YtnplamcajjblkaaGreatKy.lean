/-
  The answers of a world, one behind the other ((*world.World).Run), and a play (world.Play). Conditions: each contract states its own.
-/
import Derived.Test.YtnplamcajjblkaaGreatKx
import Derived.Test.YtnplamcajjblkaaGreatKg
namespace Go.Proofs.YtnplamcajjblkaaGreat
open Go.RowKit Go.Shelf
attribute [local go_sem] Oper.semAt_some

theorem run_any (w : World) (p : Option Addr) :
    Calls Tryz.prog 5 #[.pointer p] w fun e w' => e = .returned (.func (.func 11) #[] #[.pointer (some ⟨w.heap.size, 0, none⟩)]) ∧ w' = w.alloc (.cells #[.pointer p] 27) := by
  go_enter Tryz.func5, Tryz.ntmps5
  go_wp2
  go_ret
  exact ⟨rfl, rfl⟩
theorem op_sizeW : (Tryz.prog.info? 25).map (·.size) = some 7 := by kernel_rfl
theorem op_zeroW : ((Tryz.prog.info? 25).bind (·.zero)).map (·.cells.size) = some 7 := by kernel_rfl
/-- What is handed to a round: an op's place, and its answer's error. -/
structure An where
  i : Nat
  e : Int
noncomputable def An.enc (x : An) : Array Value := #[.int .i64 (x.i : Int), .agg (ansL x.e).toArray]

set_option maxRecDepth 100000 in
set_option maxHeartbeats 4000000 in
theorem run1_seq (m0 : Nat) (hm : 4 ≤ m0) (w : World) (bw q : Nat) (F T : Nat → Prop) (A : Option Addr) (m c : Nat) (rows : List Value) (opl : Nat → List Value) (ans : Nat → Int)
    (hbw : Blk w bw 27 #[.pointer (some ⟨q, 0, none⟩)]) (h8 : w.cell? ⟨q, 8, none⟩ = some (.slice A m c)) (h14 : w.cell? ⟨q, 14, none⟩ = some (.bool true))
    (hA : Arr w F 7 A m rows) (hm1 : m ≤ 1000)
    (hopl : ∀ i, i < m → (opl i).length = 7 ∧ (∀ u ∈ opl i, u.oneCell' = true) ∧ ∀ j u, (opl i)[j]? = some u → rows[i * 7 + j]? = some u)
    (hDo : ∀ i W, i < m → Fr T w W → Calls Tryz.prog 7 #[.pointer (some ⟨q, 0, none⟩), .agg (opl i).toArray] W fun e w' => e = .returned (.agg (ansL (ans i)).toArray) ∧ Fr NoB W w')
    (hT : (∀ k, F k → ¬ T k) ∧ ¬ T bw ∧ ¬ T q) :
    SeqW m0 Tryz.prog 11 #[.pointer (some ⟨bw, 0, none⟩)] An.enc (fun _ => False) T (fun _ pre x _ => x.i = pre.length ∧ x.e = ans pre.length ∧ pre.length < m)
      (fun xs _ => xs.length = m) (fun _ _ => True) w := by
  intro lp J Jx W hF0 hl1 hl2 hJ hJx hY h0
  subst hl1
  have hbwl := hbw.lt
  have hm1' : 1 ≤ m0 := by omega
  have hm2 : 1 ≤ m0 - 1 := by omega
  refine callsIn_of_wp Tryz.func11 rfl trivial ?_ rfl
  simp only [Tryz.ntmps11, List.size_toArray, List.length_cons, List.length_nil, Nat.reduceAdd, Nat.reduceSub, Array.replicate_succ, Array.replicate_zero, List.push_toArray, List.append_toArray, List.nil_append, List.cons_append]
  have hWs : w.heap.size + 2 ≤ W.heap.size := by omega
  have cbw := (hbw.fr hF0 id).cell_0
  have c8 := hF0.cell' h8 id
  have c14 := hF0.cell' h14 id
  gi_wp2
  refine wpIn_scope_calm ?hQ ?_
  case hQ => exact fun _ _ _ h => h
  gi_wp2_with (refine wpIn_label ?_)
  gi_loopw [20] (fun v wr => ∃ pre : List An, pre.length ≤ m ∧ v = .int .i64 (pre.length : Int) ∧ J pre wr ∧ Fr T w wr ∧ W.heap.size ≤ wr.heap.size) (fun v _ => m - (intOf v).toNat)
  case atStart => exact ⟨[], by simp, by simp, h0, hF0.mono fun _ _ h => h.elim, Nat.le_refl _⟩
  case round =>
    obtain ⟨pre, hk, rfl, hJw, hfT, hszw⟩ := hrel
    obtain ⟨w1, rfl⟩ : ∃ w1 : World, w1 = wr := ⟨_, rfl⟩
    have hb1 := hbw.fr hfT hT.2.1
    obtain ⟨i, hi⟩ : ∃ i, i = pre.length := ⟨_, rfl⟩
    rw [← hi] at hk ⊢
    by_cases hkn : i < m
    · have b1 : decide ((i : Int) < (m : Int)) = true := by simp only [decide_eq_true_eq]; omega
      obtain ⟨b, o, rfl, hFb, hcs⟩ := (hA.fr hfT hT.1).2 (by omega)
      obtain ⟨hl7, hl1, hlr⟩ := hopl i hkn
      have hallO : ∀ j u, (opl i)[j]? = some u → w1.cell? ⟨b, o + i * 7 + j, none⟩ = some u := fun j u hu => by
        have := hcs (i * 7 + j) u (hlr j u hu)
        rwa [← Nat.add_assoc] at this
      obtain ⟨ys, hys⟩ : ∃ ys, ys = opl i := ⟨_, rfl⟩
      have Ly : Hid (ys.length = 7) := by show _ = _; rw [hys]; exact hl7
      have Sy : Hid (ys.toArray.size = 7) := by show _ = _; rw [List.size_toArray]; exact Ly.out
      have Oy : Hid (ys.toArray.all (·.oneCell') = true) := by show _ = _; rw [Array.all_eq_true_iff_forall_mem, hys]; intro u hu; exact hl1 u (List.mem_toArray.1 hu)
      have HD := Lib.hid fun W hW => hDo i W hkn hW
      obtain ⟨av, hav⟩ : ∃ av, av = (ansL (ans i)).toArray := ⟨_, rfl⟩
      rw [← hav, ← hys] at HD
      rw [← hys] at hallO
      have HY := Lib.hid (hY pre ⟨i, ans i⟩)
      unfold An.enc at HY
      dsimp only at HY
      rw [← hav] at HY
      have Hi := Lib.hid hi
      clear hys hl7 hl1 hlr hav hi hcs c8 c14 cbw
      gi_wp2_with (first
        | (refine wpListIn_load_agg (by simp [Region.wanted]) 25 (.tmp 23) rfl b (o + i * 7) rfl ys _ hallO Tryz.underlying25 rfl (by rw [Ly.out]; exact op_sizeW) ?_)
        | (refine wpListIn_alloc_any rfl 25 rfl 7 op_zeroW ?_; intro z hz; have Hz := Lib.hid hz; clear hz)
        | (refine wpListIn_store_newN rfl 25 (.tmp 4) (.tmp 24) rfl 7 op_sizeW _ z Hz.out ys.toArray rfl rfl Sy.out Oy.out ?_
           clear Hz
           obtain ⟨g, hg⟩ : ∃ g, g = w1.heap.size := ⟨_, rfl⟩
           obtain ⟨w2, hw2⟩ : ∃ w2, w2 = w1.alloc (.cells ys.toArray 25) := ⟨_, rfl⟩
           rw [← hw2, ← hg]
           have f12 : Fr NoB w1 w2 := by rw [hw2]; exact (Fr.refl _ _).alloc _
           have kG : Blk w2 g 25 ys.toArray := by rw [hw2, hg]; exact Blk.new _ _ _
           have all2 : ∀ j u, ys[j]? = some u → w2.cell? ⟨g, 0 + j, none⟩ = some u := fun j u hu => by rw [Nat.zero_add, kG.cell]; simpa using hu
           have cb2 := (hb1.fr f12 id).cell_0
           clear hg hw2)
        | (refine wpListIn_load_agg (by simp [Region.wanted]) 25 (.tmp 4) rfl g 0 rfl ys _ all2 Tryz.underlying25 rfl (by rw [Ly.out]; exact op_sizeW) ?_)
        | (refine ⟨trivial, ?_⟩
           gi_at_call 7
           refine (callsIn_wide.2 (HD.out w2 (hfT.trans f12 fun _ _ h => h.elim))).mono ?_
           rintro e w3 ⟨rfl, f23⟩
           have f13 := f12.trans f23 fun _ _ h => h
           have s13 := f13.size
           obtain ⟨fn, tmps, assign, body, hy, hRn⟩ := HY.out w3 (hJ _ _ _ hJw (f13.mono fun _ _ h => h.elim)) ⟨Hi.out, by rw [Hi.out], by rw [← Hi.out]; exact hkn⟩ (by omega)
           clear cb2 all2))
      refine hRn.mono ?_
      rintro e4 w4 (⟨rfl, hJ4, hf4⟩ | ⟨rfl, hJ4, hf4⟩)
      · have s4 := hf4.size
        gi_wp2
        go_roundw
        case rel =>
          refine ⟨pre ++ [⟨i, ans i⟩], ?_, ?_, hJ4, (hfT.trans f13 fun _ _ h => h.elim).new hf4 fun j hj => hj.elim .inl fun h => .inr (by omega), by omega⟩
          · rw [List.length_append, List.length_singleton, ← Hi.out]; omega
          · rw [List.length_append, List.length_singleton, ← Hi.out]; go_num
        case measure => simp [intOf]; omega
      · gi_wp2
        go_end0
        exact ⟨⟨_, rfl⟩, .inr ⟨_, trivial, hJ4⟩⟩
    · have hkn2 : i = m := by omega
      subst hkn2
      have b1 : decide ((i : Int) < (i : Int)) = false := by simp
      gi_wp2
      go_end0
      exact ⟨⟨_, rfl⟩, .inl ⟨pre, hi.symm, hJw⟩⟩
theorem WorldAt.keep {w w' : World} {q : Nat} {e : Int} {A : Option Addr} {m c : Nat} {rows : List Value} {R : Option Addr} {p k : Nat} {cs : List Nat} (h : WorldAt w q e A m c rows R p k cs) {b : Nat} {us : Array Value} (hb : Blk w b 56 us) {S : Nat → Prop} (hS : ∀ j, S j → j = b ∨ w.heap.size ≤ j) (hf : Fr S w w') : WorldAt w' q e A m c rows R p k cs := by
  obtain ⟨⟨x0, x1, x2, x3, x4, x5, x6, x7, x9, x10, x11, hW⟩, hO, hR, hC⟩ := h
  have nW : ¬ S q := fun h => by
    rcases hS q h with rfl | h
    · exact absurd (hW.ne_ hb (by decide)) (by simp)
    · have := hW.lt; omega
  have nO : ∀ j, inB A j → ¬ S j := fun j hj h => by
    rcases hS j h with rfl | h
    · exact hO.ne_blk hb (by decide) hj
    · have := hO.lt hj; omega
  have nR : ∀ j, inB R j → ¬ S j := fun j hj h => by
    rcases hS j h with rfl | h
    · exact hR.ne_blk hb (by decide) hj
    · have := hR.lt hj; omega
  have nC : ∀ j, RepoClosed w j → ¬ S j := fun j hj h => by
    obtain ⟨_, hk, _⟩ := hj
    rcases hS j h with rfl | h
    · exact absurd (hk.ne_ hb (by decide)) (by simp)
    · have := hk.lt; omega
  exact ⟨⟨x0, x1, x2, x3, x4, x5, x6, x7, x9, x10, x11, hW.fr hf nW⟩, hO.fr hf nO, hR.fr hf nR, fun j hj => (hC j hj).fr hf (nC j (hC j hj))⟩
theorem el_ans : ElemOk Tryz.prog 56 51 (.agg (ansL 0).toArray) 37 112 := .mk Tryz.underlying56 (by kernel_rfl) rfl (by omega) (by omega)
theorem ans_zeroS : ((Tryz.prog.info? 51).bind (·.zero)).map (·.cells.size) = some 37 := by kernel_rfl
theorem script_boxed (A : Option Addr) (n c S T : Nat) (O : Option Addr) (m k : Nat) : (scrW A n c S T O m k).toList.length = 9 := rfl
/-- The answers' cells. -/
def ansAll (ans : Nat → Int) (n : Nat) : List Value := (List.range n).flatMap fun i => ansL (ans i)
theorem ansAll_step (ans : Nat → Int) (n : Nat) : ansAll ans (n + 1) = ansAll ans n ++ ansL (ans n) := by unfold ansAll; rw [List.range_succ, List.flatMap_append]; simp
/-- What holds while a play goes on. -/
def PlI (w : World) (B D : Nat) (m : Nat) (ans : Nat → Int) (pre : List An) (W : World) : Prop :=
  pre.length ≤ m ∧ ∃ A3 c3, Blk W (B + 1) 56 #[.slice A3 pre.length c3] ∧ Own W 51 37 A3 pre.length c3 (ansAll ans pre.length) ∧ (∀ j, inB A3 j → D + 2 ≤ j) ∧ Fr NoB w W

set_option maxRecDepth 100000 in
set_option maxHeartbeats 4000000 in
theorem play_any (w : World) (F : Nat → Prop) (A : Option Addr) (n c S T : Nat) (O : Option Addr) (m k : Nat) (l : List UInt8) (rows : List Value) (hA : Byt w F A n l) (hO : Arr w F 7 O m rows) (h1 : ∀ u ∈ rows, u.oneCell' = true) (hm : m ≤ 1000) (hn : n ≤ 1000000) (hT50 : T ≤ 50) (hn32 : T ≠ 0 → 32 ≤ n) (hS100 : T ≠ 0 → S = 100)
    (opl : Nat → List Value) (ans : Nat → Int) (hopl : ∀ i, i < m → (opl i).length = 7 ∧ (∀ u ∈ opl i, u.oneCell' = true) ∧ ∀ j u, (opl i)[j]? = some u → rows[i * 7 + j]? = some u)
    (hDo : ∀ (q : Nat) (er : Int) (A2 : Option Addr) (k2 : Nat) (R : Option Addr) (p kR : Nat) (cs : List Nat) (W : World) (i : Nat), i < m → WorldAt W q er A2 m k2 rows R p kR cs → (T = 0 → er = 1) → (T ≠ 0 → er = 0 ∧ cs.length = 3) →
      Calls Tryz.prog 7 #[.pointer (some ⟨q, 0, none⟩), .agg (opl i).toArray] W fun e w' => e = .returned (.agg (ansL (ans i)).toArray) ∧ Fr NoB W w') :
    Calls Tryz.prog 10 #[.agg (scrW A n c S T O m k)] w fun e w' => ∃ A' c', e = .returned (.slice A' m c') ∧ Own w' 51 37 A' m c' (ansAll ans m) ∧ Fr NoB w w' := by
  obtain ⟨B, hB⟩ : ∃ B, B = w.heap.size := ⟨_, rfl⟩
  obtain ⟨sc, hsc⟩ : ∃ sc, sc = scrW A n c S T O m k := ⟨_, rfl⟩
  have Ls : Hid (sc.toList.length = 9) := by show _ = _; rw [hsc]; rfl
  have HN : Hid (∀ W, Fr NoB w W → Calls Tryz.prog 16 #[.agg sc] W fun e w' => NewIs W w' e T m rows) := by
    show ∀ W, _
    intro W hW
    rw [hsc]
    exact worldNew_small W F A n c S T O m k l rows (hA.fr hW fun _ _ => id) (hO.fr hW fun _ _ => id) h1 hm hn hT50 hn32 hS100
  rw [← hsc]
  obtain ⟨w1, hw1⟩ : ∃ w1, w1 = w.alloc (.cells sc 33) := ⟨_, rfl⟩
  have hf1 : Fr NoB w w1 := by rw [hw1]; exact (Fr.refl _ _).alloc _
  have kS : Blk w1 B 33 sc := by rw [hw1, hB]; exact Blk.new _ _ _
  have s1 : w1.heap.size = B + 1 := by rw [hw1, hB, World.size_alloc]
  have HB := Lib.hid hB
  have Hw1 := Lib.hid hw1
  have scE : sc.toList.toArray = sc := by simp
  clear hB hw1 hsc hA hO hS100 hT50 hn32 hn
  refine (callsIn_wide (n := 7)).1 ?_
  refine callsIn_of_wp_marks Tryz.func10 rfl trivial ?_ rfl
  simp only [Tryz.ntmps10, List.size_toArray, List.length_cons, List.length_nil, Nat.reduceAdd, Nat.reduceSub, Array.replicate_succ, Array.replicate_zero, List.push_toArray, List.append_toArray, List.nil_append, List.cons_append]
  gi_wp2_with (first
    | (refine wpListIn_load_agg (by simp [Region.wanted]) 33 (.tmp 1) rfl B 0 rfl sc.toList _ allS Tryz.underlying33 rfl (by rw [Ls.out]; exact scr_size) ?_
       rw [scE])
    | (rw [← Hw1.out, ← HB.out]
       obtain ⟨w2, hw2⟩ : ∃ w2, w2 = w1.alloc (.cells #[.slice none 0 0] 56) := ⟨_, rfl⟩
       rw [← hw2]
       have f12 : Fr NoB w1 w2 := by rw [hw2]; exact (Fr.refl _ _).alloc _
       have kB : Blk w2 (B + 1) 56 #[.slice none 0 0] := by rw [hw2, ← s1]; exact Blk.new _ _ _
       have s2 : w2.heap.size = B + 2 := by rw [hw2, World.size_alloc, s1]
       have allS : ∀ j u, sc.toList[j]? = some u → w2.cell? ⟨B, 0 + j, none⟩ = some u := fun j u hu => by rw [Nat.zero_add, (kS.fr f12 id).cell, ← Array.getElem?_toList]; exact hu
       have HN2 := Lib.hid (HN.out w2 (hf1.trans f12 fun _ _ h => h))
       clear hw2)
    | (refine ⟨trivial, ?_⟩
       gi_at_call 16
       refine (callsIn_wide.2 HN2.out).mono ?_
       rintro e w3 ⟨q, er, A2, k2, R, p, kR, cs, rfl, hWA, f23, hT0, hT1⟩)
    | (refine ⟨trivial, ?_⟩
       gi_at_call 5
       refine (callsIn_wide.2 (run_any w3 _)).mono ?_
       rintro e w4 ⟨rfl, hw4⟩
       obtain ⟨bw, hbw⟩ : ∃ bw, bw = w3.heap.size := ⟨_, rfl⟩
       rw [← hbw]
       have f34 : Fr NoB w3 w4 := by rw [hw4]; exact (Fr.refl _ _).alloc _
       have kw4 : Blk w4 bw 27 #[.pointer (some ⟨q, 0, none⟩)] := by rw [hw4, hbw]; exact Blk.new _ _ _
       have kB4 := (kB.fr f23 id).fr f34 id
       have hWA4 : WorldAt w4 q er A2 m k2 rows R p kR cs := hWA.keep (kB.fr f23 id) (S := NoB) (fun _ h => h.elim) f34
       have s23 := f23.size
       have s34 := f34.size
       have hbwl := kw4.lt
       have hbwB : B + 2 ≤ bw := by omega
       clear hw4 hWA allS hbw))
  obtain ⟨D, hD⟩ : ∃ D, D = w4.heap.size := ⟨_, rfl⟩
  have f04 : Fr NoB w w4 := (((hf1.trans f12 fun _ _ h => h).trans f23 fun _ _ h => h).trans f34 fun _ _ h => h)
  have hI4 : PlI w B D m ans [] w4 := ⟨Nat.zero_le _, none, 0, kB4, Own.nil _ _ _, fun j h => absurd h (inB_none j), f04⟩
  obtain ⟨⟨x0, x1, x2, x3, x4, x5, x6, x7, x9, x10, x11, hW⟩, hO4, hR4, hC4⟩ := id hWA4
  have nqB : ¬ q = B + 1 := by
    rintro rfl
    exact absurd (hW.ne_ kB4 (by decide)) (by simp)
  have hseq := run1_seq 6 (by omega) w4 bw q (fun j => inB A2 j ∧ j < w4.heap.size) (fun j => j = B + 1 ∨ D + 2 ≤ j) A2 m k2 rows opl ans kw4 ((hW.cell 8).trans rfl) ((hW.cell 14).trans rfl)
    (hO4.arr fun j hj hi => ⟨hi, hj⟩) hm hopl (fun i W hi hf => hDo q er A2 k2 R p kR cs W i hi (hWA4.keep kB4 (fun j hj => hj.elim .inl fun h => .inr (by omega)) hf) hT0 hT1)
    ⟨fun j hj h => by
      rcases h with rfl | h
      · exact hO4.ne_blk kB4 (by decide) hj.1
      · omega, fun h => by rcases h with h | h <;> omega, fun h => by
      have := hW.lt
      rcases h with h | h
      · exact nqB h
      · omega⟩
  have hDB : B + 2 ≤ D := by omega
  have Hb2 := Lib.hid s2
  have HD := Lib.hid hD
  clear hW hO4 hR4 hC4 hWA4 hDo hT0 hT1 f23 f34 kB kB4 HN HN2 kS s2 hD
  refine wpIn_rangeFuncW (gf := 11) (lb := #[.pointer (some ⟨bw, 0, none⟩)]) rfl (enters_of Tryz.func11 (by kernel_rfl) rfl)
    hseq (fun _ => rfl)
    (fun (pre : List An) W => PlI w B D m ans pre W)
    (fun _ _ _ => False) ?hI (fun _ _ _ _ h _ => h) ⟨id, id⟩ ⟨by have := HD.out; omega, by have := HD.out; omega⟩ ?hGs hI4
    (fun (x : An) a' W => ∃ g s0 s1 s2 s4 s6 s7 s8 s9 s10 s11 s12 s13 s14 s15, Blk W g 51 (ansL x.e).toArray ∧ D + 2 ≤ g ∧ a' = { tmps := #[s0, s1, s2, .pointer (some ⟨B + 1, 0, none⟩), s4, .pointer (some ⟨g, 0, none⟩), s6, s7, s8, s9, s10, s11, s12, s13, s14, s15], defers := [] }) ?hAx ?assign ?body ?done (fun _ _ _ _ h _ => h.elim) (fun _ _ _ h _ => h) (fun _ _ _ h _ => h)
  case hI =>
    rintro pre P Q ⟨q1, A3, c3, q2, q3, q4, q5⟩ hf0
    have hDo := HD.out
    have hf := hf0.mono (S' := fun k => k = D ∨ k = D + 1) fun j _ h => by rw [← HD.out] at h; exact h.elim (fun h => h.elim) id
    exact ⟨q1, A3, c3, q2.fr hf (by omega), q3.fr hf (fun j hj h => by have := q4 j hj; omega), q4, q5.new hf fun j hj => .inr (by have := HB.out; omega)⟩
  case hGs =>
    rintro pre x P Q h _
    exact h
  case hAx =>
    rintro x a' P Q ⟨g, s0, s1, s2, s4, s6, s7, s8, s9, s10, s11, s12, s13, s14, s15, k1, k2, k3⟩ hf
    exact ⟨g, s0, s1, s2, s4, s6, s7, s8, s9, s10, s11, s12, s13, s14, s15, k1.fr hf (by have := HD.out; omega), k2, k3⟩
  case assign =>
    intro lp x W K hsz hK
    unfold An.enc
    obtain ⟨xi, xe⟩ := x
    dsimp only
    obtain ⟨av, hav⟩ : ∃ av, av = (ansL xe).toArray := ⟨_, rfl⟩
    have Sa : Hid (av.size = 37) := by show _ = _; rw [hav]; rfl
    have Oa : Hid (av.all (·.oneCell') = true) := by show _ = _; rw [hav]; exact ans_one _
    rw [← hav]
    simp only [params_two]
    gi_wp2_with (first
      | (refine wpListIn_alloc_any rfl 51 rfl 37 ans_zeroS ?_; intro z hz; have Hz := Lib.hid hz; clear hz)
      | (refine wpListIn_store_newN rfl 51 (.tmp 5) (.tmp 10) rfl 37 ans_size _ z Hz.out av rfl rfl Sa.out Oa.out ?_; clear Hz))
    refine hK _ _ ((Fr.refl NoB W).alloc _) ?_
    exact ⟨W.heap.size, _, _, _, _, _, _, _, _, _, _, _, _, _, _, by rw [← hav]; exact Blk.new _ _ _, by rw [HD.out]; exact hsz, rfl⟩
  case body =>
    rintro pre ⟨xi, xe⟩ W a' ⟨hpm, A3, c3, i1, i2, i3, i4⟩ ⟨g1, g2, g3⟩ ⟨g, s0, s1, s2, s4, s6, s7, s8, s9, s10, s11, s12, s13, s14, s15, kG, hgD, rfl⟩ hsz
    dsimp only at g1 g2 kG
    obtain ⟨av, hav⟩ : ∃ av, av = ansL xe := ⟨_, rfl⟩
    have La : Hid (av.length = 37) := by show _ = _; rw [hav]; rfl
    have Sa : Hid (av.toArray.size = 37) := by show _ = _; rw [hav]; rfl
    have Oa : Hid (∀ u ∈ av, u.oneCell' = true) := by
      show ∀ u ∈ av, _
      rw [hav]
      have := ans_one xe
      rw [Array.all_eq_true_iff_forall_mem] at this
      exact fun u hu => this u (List.mem_toArray.2 hu)
    rw [← hav] at kG
    have ht := ansAll_step ans pre.length
    rw [← g2, ← hav] at ht
    have Ht := Lib.hid ht
    have c1 := i1.cell_0
    have z1 := i1.frozen 0
    have allG : ∀ j u, av[j]? = some u → W.cell? ⟨g, 0 + j, none⟩ = some u := fun j u hu => by rw [Nat.zero_add, kG.cell]; simpa using hu
    have hD2 := HD.out
    have hob : ¬ inB A3 (B + 1) := fun h => by have := i3 _ h; have := Hb2.out; omega
    have hn2 : (pre.length + 1) * 112 ≤ 140737488355328 := by omega
    clear ht hav g1 g2
    gi_wp2_with (first
      | (refine wpListIn_load_agg (by simp [Region.wanted]) 51 (.tmp 5) rfl g 0 rfl av _ allG Tryz.underlying51 rfl (by rw [La.out]; exact ans_size) ?_)
      | (refine wpListIn_build1 rfl el_ans (by omega) (.tmp 12) rfl av.toArray rfl Sa.out ?_)
      | (gi_at_builtin
         go_loud (refine wpListIn_app el_ans rfl (.tmp 11) (.tmp 13) rfl A3 pre.length c3 _ rfl (i2.alloc _) _ _ 1 1 av rfl (Arr.new _ _ av.toArray 1 37 Sa.out) Oa.out hn2 ?_)
         intro A4 c4 w5 hown4 hf5 hin4 _
         have c54 := hf5.cell' (i1.alloc _).cell_0 hob
         have z54 := ((i1.alloc (.cells av.toArray 51)).fr hf5 hob).frozen 0
         clear c1 z1))
    have hsz5 := hf5.size
    simp only [World.size_alloc] at hsz5 hin4
    have hstep : Fr (fun j => j = B + 1 ∨ D + 2 ≤ j) W (w5.setCell ⟨B + 1, 0, none⟩ (.slice A4 (pre.length + 1) c4)) := (((Fr.refl (fun j => j = B + 1 ∨ D + 2 ≤ j) W).alloc (.cells av.toArray 51)).trans hf5 fun j _ h => .inr (i3 j h)).set_ (.inl (.inl rfl)) _ _
    have hstep0 : Fr NoB w (w5.setCell ⟨B + 1, 0, none⟩ (.slice A4 (pre.length + 1) c4)) := i4.new hstep fun j hj => .inr (by have := HB.out; omega)
    refine ⟨hstep, by rw [List.length_append, List.length_singleton]; omega, A4, c4, ?_, ?_, fun j hj => (hin4 j hj).elim (i3 j) fun h => by omega, hstep0⟩
    · rw [List.length_append, List.length_singleton]
      simpa using ((i1.alloc _).fr hf5 hob).set_ 0 (.slice A4 (pre.length + 1) c4)
    · rw [List.length_append, List.length_singleton, Ht.out]
      exact hown4.set_ (fun hj => (hin4 _ hj).elim hob (fun h => by omega)) _ _
  case done =>
    rintro xs W hS ⟨hpq, A3, c3, i1, i2, i3, i4⟩ hK
    rw [hS] at i1 i2
    have c1 := i1.cell_0
    have HK := Lib.hid hK
    clear hK hS
    gi_wp2
    refine ⟨by simp, .inl ⟨_, _, rfl, run_takeDeferred HK.out, ?_⟩⟩
    have hDw := HD.out
    have hfp : ∀ {o : Obj}, Fr (fun j => j = D) W (W.putObj w4.heap.size o) := fun {o} => (Fr.refl (fun j => j = D) W).putObj (.inl HD.out.symm) o
    exact ⟨_, results_tmp rfl _ _ _, A3, c3, rfl, i2.fr hfp fun j hj h => by have := i3 j hj; omega, i4.new hfp fun j hj => .inr (by have := HB.out; have := Hb2.out; omega)⟩
end Go.Proofs.YtnplamcajjblkaaGreat
