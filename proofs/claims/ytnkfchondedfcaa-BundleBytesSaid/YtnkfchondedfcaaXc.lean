/-
  The bundle that bytes are, as the document has it (tabulariumref32.BundleOf). Conditions: each contract states its own.
-/
import Derived.Test.YtnkfchondedfcaaXb
import Derived.Test.YtnkfchondedfcaaMe
import Derived.Test.YtnkfchondedfcaaVk
namespace Go.Proofs.Ytnkfchondedfcaa
open Go.RowKit

set_option maxRecDepth 100000 in
theorem ref_built32 (s : ByteArray) (c0 c1 c2 c3 c4 c5 c6 c7 c8 c9 c10 c11 c12 c13 c14 c15 c16 c17 c18 c19 c20 c21 c22 c23 c24 c25 c26 c27 c28 c29 c30 c31 : Value) : Try.prog.built 162 [(0, .string s), (1, .agg #[c0, c1, c2, c3, c4, c5, c6, c7, c8, c9, c10, c11, c12, c13, c14, c15, c16, c17, c18, c19, c20, c21, c22, c23, c24, c25, c26, c27, c28, c29, c30, c31])] = some #[.string s, c0, c1, c2, c3, c4, c5, c6, c7, c8, c9, c10, c11, c12, c13, c14, c15, c16, c17, c18, c19, c20, c21, c22, c23, c24, c25, c26, c27, c28, c29, c30, c31] := by kernel_rfl
theorem ref_built (s : ByteArray) (x : Id32) : Try.prog.built 162 [(0, .string s), (1, .agg (idCells x).toArray)] = some (refCells ⟨s, x⟩).toArray := by
  have hl := idCells_len x
  unfold refCells
  dsimp only
  generalize idCells x = l at hl ⊢
  match l, hl with
  | [c0, c1, c2, c3, c4, c5, c6, c7, c8, c9, c10, c11, c12, c13, c14, c15, c16, c17, c18, c19, c20, c21, c22, c23, c24, c25, c26, c27, c28, c29, c30, c31], _ => exact ref_built32 s c0 c1 c2 c3 c4 c5 c6 c7 c8 c9 c10 c11 c12 c13 c14 c15 c16 c17 c18 c19 c20 c21 c22 c23 c24 c25 c26 c27 c28 c29 c30 c31
section
variable {P : Program} {o : Oper} {a : Act} {w : World}
theorem exec_build_eq (t : TypeId) (parts : Array (Nat × Operand)) (ho : o.op = .build t parts) (ps : List (Nat × Value)) (hp : (parts.toList.map fun (i, x) => (i, a.eval x)) = ps) (cells : Array Value) (hb : P.built t ps = some cells) :
    (execOp a.eval o).run P w = .ok (.value (.agg cells)) w := by
  have e : (parts.map fun (i, x) => (i, a.eval x)).toList = ps := by rw [← hp]; simp
  unfold execOp
  simp only [ho, Sem.run_bind, run_build w t _ cells (by rw [e]; exact hb), Result.andThen_ok, Sem.run_pure]
end
theorem RfAt.cell1' {w : World} {G : Nat → Prop} {b : Nat} {r : Rd} (h : RfAt w G b r) (g : Bool) (hg : r.good = g) : w.cell? ⟨b, 1, none⟩ = some (.bool (!g)) := by rw [h.cell1, hg]
theorem refsGo_bad : ∀ (k : Nat) {r : Rd}, r.good = false → (refsGo k r).2.good = false
  | 0, _, h => h
  | k + 1, r, h => by
    rw [refsGo, Rd.Text_badE h]
    dsimp only
    rw [Rd.Raw_badE rfl]
    exact refsGo_bad k rfl
theorem bun_exit {l : List UInt8} {pre : List Ref} {v2 : Nat} {r3 : Rd} {pre2 : List (List UInt8)} {k : Nat} {r' : Rd}
    (HP : (bunParse l = (⟨pre, (objsGo v2 r3).1⟩, (objsGo v2 r3).2)) ∨ (r3.good = false ∧ Rd.End (bunParse l).2 ≠ 0)) (h1 : (objsGo v2 r3).1 = pre2 ++ (objsGo k r').1) (h2 : (objsGo v2 r3).2 = (objsGo k r').2) (h0 : k = 0 ∨ r'.good = false) :
    bunOf l = (if (decide (Rd.End r' = 0) && bunMay ⟨pre, pre2⟩) = true then ⟨pre, pre2⟩ else zeroBun) ∧ bunBad l = (if (decide (Rd.End r' = 0) && bunMay ⟨pre, pre2⟩) = true then 0 else 340) := by
  by_cases he : Rd.End r' = 0
  · have hg : r'.good = true := by
      cases hg : r'.good with
      | true => rfl
      | false => exact absurd he (End_badE hg)
    have hk : k = 0 := by
      rcases h0 with h0 | h0
      · exact h0
      · rw [hg] at h0; cases h0
    subst hk
    simp only [objsGo, List.append_nil] at h1 h2
    rcases HP with HP | HP
    · rw [h1, h2] at HP
      exact bun_vals HP
    · have := objsGo_bad v2 HP.1
      rw [h2, hg] at this
      cases this
  · have hE : Rd.End (bunParse l).2 ≠ 0 := by
      rcases HP with HP | HP
      · rw [HP]
        dsimp only
        rw [h2]
        rcases h0 with h0 | h0
        · subst h0; exact he
        · exact End_badE (objsGo_bad k h0)
      · exact HP.2
    rw [decide_eq_false he, Bool.false_and, if_neg (by simp), if_neg (by simp)]
    unfold bunOf bunBad bunIs
    rw [decide_eq_false hE, Bool.false_and]
    exact ⟨rfl, rfl⟩
set_option maxRecDepth 100000 in
set_option maxHeartbeats 8000000 in
theorem BundleOf_any (w : World) (F0 : Nat → Prop) (hG0 : ∀ k, F0 k → k < w.heap.size) (A : Option Addr) (n c : Nat) (l : List UInt8) (h : Byt w F0 A n l) (hnc : n ≤ c) (hcm : c ≤ maxLen) (hn : n ≤ 70368744177664) :
    Calls Try.prog 70 #[.slice A n c] w fun e w' => GotBun (fun k => F0 k ∨ w.heap.size ≤ k) w w' e (bunOf l) (bunBad l) := by
  have hlen := h.len
  obtain ⟨B, hB0⟩ : ∃ B, B = w.heap.size := ⟨_, rfl⟩
  have HB := Lib.hid hB0
  obtain ⟨r0, hr0⟩ : ∃ r0 : Rd, r0 = ⟨l, true⟩ := ⟨_, rfl⟩
  have hn0 : r0.l.length ≤ 70368744177664 := by rw [hr0]; show l.length ≤ _; omega
  have Hr0 := Lib.hid hr0
  obtain ⟨zc, hzc⟩ : ∃ zc, zc = bunCells none 0 0 none 0 0 := ⟨_, rfl⟩
  have Hzc := Lib.hid hzc
  have Hzz := bun_zeroc
  rw [← hzc] at Hzz
  have Hzz := Lib.hid Hzz
  have Hzb : Hid (Try.prog.built 112 [] = some zc.toArray) := by show _ = _; rw [hzc]; exact zeroBun_built
  have Z2l : Hid (zc.length = 2) := by show _ = _; rw [hzc]; rfl
  have Z2a : Hid (zc.toArray.size = 2) := by show _ = _; rw [hzc]; rfl
  have Z1a : Hid (zc.toArray.all (·.oneCell') = true) := by show _ = _; rw [hzc]; exact bunCells_ones _ _ _ _ _ _
  obtain ⟨w1, hw1⟩ : ∃ w1, w1 = ((w.alloc (.cells zc.toArray 112)).alloc (.cells #[.slice A n c, .bool false] 59)).alloc (.cells zc.toArray 112) := ⟨_, rfl⟩
  have hF1 : Fr NoB w w1 := by rw [hw1]; exact (((Fr.refl NoB w).alloc _).alloc _).alloc _
  have hBz1 : Blk w1 B 112 zc.toArray := by rw [hw1, hB0]; exact ((Blk.new w _ _).alloc _).alloc _
  have hR1 : RfAt w1 F0 (B + 1) r0 := by
    rw [hw1, hB0, hr0]
    exact ⟨fun hh => by have := hG0 _ hh; omega, (fun h => by cases h), A, n, c, by simpa using (Blk.new (w.alloc (.cells zc.toArray 112)) 59 #[.slice A n c, .bool false]).alloc (.cells zc.toArray 112), hnc, hcm, ((h.alloc _).alloc _).alloc _⟩
  have hg1 : BunBlk w1 (B + 1 + 1) none 0 0 none 0 0 := by
    rw [hw1, hB0, hzc]
    have := Blk.new ((w.alloc (.cells (bunCells none 0 0 none 0 0).toArray 112)).alloc (.cells #[.slice A n c, .bool false] 59)) 112 (bunCells none 0 0 none 0 0).toArray
    simp only [World.size_alloc] at this
    exact ⟨this⟩
  have hs1 : B + 3 ≤ w1.heap.size := by rw [hw1, hB0]; simp
  have Hw1 := Lib.hid hw1
  replace hG0 : ∀ k, F0 k → k < B := by rw [hB0]; exact hG0
  obtain ⟨b, hb⟩ : ∃ b, b = B + 1 := ⟨_, rfl⟩
  obtain ⟨g, hg⟩ : ∃ g, g = B + 1 + 1 := ⟨_, rfl⟩
  rw [← hb] at hR1
  rw [← hg] at hg1
  have Hb := Lib.hid hb
  have Hg := Lib.hid hg
  have hbB : B + 1 ≤ b ∧ b ≤ B + 1 := by omega
  have hgB : B + 2 ≤ g ∧ g ≤ B + 2 := by omega
  obtain ⟨v1, r1, e1⟩ : ∃ v r', Rd.N r0 100 = (v, r') := ⟨_, _, rfl⟩
  have hv1 : v1 ≤ 100 := by have := Rd.N_le r0 100; rw [e1] at this; exact this
  have hn1 : r1.l.length ≤ 70368744177664 := by have := Rd.N_len r0 100; rw [e1] at this; exact Nat.le_trans this hn0
  have hcall := FN_litE hR1 100 100 (by simp)
  rw [e1] at hcall
  have E1 := Lib.hid e1
  have Hcall := Lib.hid hcall
  clear e1 hR1 hcall hlen hB0 hr0 hzc hw1 hb hg
  go_enter Try.func70, Try.ntmps70
  go_wp2_with (first
    | (refine wpList_alloc_zc rfl 112 rfl zc.toArray Hzz.out ?_))
  rw [← Hw1.out, ← HB.out, ← Hg.out, ← Hb.out]
  refine Hcall.out.mono ?_
  rintro e w2 ⟨rfl, hf2, hR⟩
  have hgb : ¬ g = b := by omega
  have hBb : ¬ B = b := by omega
  replace hF1 := hF1.new hf2 fun j hj => .inr (by have := HB.out; omega)
  replace hBz1 := hBz1.fr hf2 hBb
  replace hg1 := hg1.fr hf2 hgb
  have s2 := hf2.size
  obtain ⟨l1, r2, e2⟩ : ∃ v r', refsGo v1 r1 = (v, r') := ⟨_, _, rfl⟩
  have E2 := Lib.hid e2
  obtain ⟨Kb, hKb⟩ : ∃ Kb, Kb = w2.heap.size := ⟨_, rfl⟩
  have hKb1 : Kb ≤ w2.heap.size := by omega
  have hKb2 : B + 3 ≤ Kb := by omega
  clear hf2 hKb Hcall s2 Hzz
  go_wp2
  go_loopw [7] (fun v wr => ∃ (pre : List Ref) (r' : Rd) (k p cc : Nat) (A1 : Option Addr), v = .int .u64 (p : Nat) ∧ k + p = v1 ∧ p = pre.length ∧ l1 = pre ++ (refsGo k r').1 ∧ r2 = (refsGo k r').2 ∧ r'.l.length ≤ 70368744177664 ∧ RfAt wr F0 b r' ∧ BunBlk wr g A1 p cc none 0 0 ∧ Own wr 162 33 A1 p cc (pre.flatMap refCells) ∧ (∀ j, inB A1 j → Kb ≤ j) ∧ (∀ s ∈ pre, s.name.size ≤ 64) ∧ Blk wr B 112 zc.toArray ∧ Fr NoB w wr ∧ Kb ≤ wr.heap.size) (fun v _ => v1 - (intOf v).toNat)
  case atStart => exact ⟨[], r1, v1, 0, 0, none, rfl, by omega, rfl, by rw [e2]; rfl, by rw [e2], hn1, hR, hg1, Own.nil _ _ _, fun j hj => absurd hj (inB_none j), fun s hs => by simp at hs, hBz1, hF1, hKb1⟩
  case round =>
    obtain ⟨pre, r', k, p, cc, A1, rfl, hkp, hp, hz1, hz2, hrl, hR, hB, hO, hA, hpre, hBz, hF, hKw⟩ := hrel
    obtain ⟨w3, rfl⟩ : ∃ w3 : World, w3 = wr := ⟨_, rfl⟩
    have Hp := Lib.hid hp
    have Hz1 := Lib.hid hz1
    have Hz2 := Lib.hid hz2
    have Hpre := Lib.hid hpre
    have hR' := hR
    have cb := hR.cell1
    clear hp hz1 hz2 e2 hpre
    by_cases hpv : (p : Int) < (v1 : Int)
    · cases hgd : r'.good with
      | true =>
        rw [hgd] at cb
        obtain ⟨k, rfl⟩ : ∃ k0, k = k0 + 1 := ⟨k - 1, by omega⟩
        have hz1 := Hz1.out
        have hz2 := Hz2.out
        rw [refsGo] at hz1 hz2
        have hlt := Rd.Text_lE r' 64
        have hl64 := Rd.Text_leE r' 64 64 (by omega)
        have hcall := FText_any w3 _ b r' 64 hR (by omega)
        generalize hq : Rd.Text r' 64 = q at hz1 hz2 hlt hcall hl64
        obtain ⟨lt, rt⟩ := q
        unfold FReadBytes at hcall
        dsimp only at hz1 hz2 hlt hcall hl64
        have hlr := Rd.Raw_lE rt 32
        have hraw := fun W (hW : RfAt W F0 b rt) (hb : B + 1 < W.heap.size) => FIdz_any W F0 b rt hW (fun j hj => by have := hG0 j hj; omega)
        generalize hq2 : Rd.Raw rt 32 = q2 at hz1 hz2 hlr hraw
        obtain ⟨li, ri⟩ := q2
        dsimp only at hz1 hz2 hlr hraw
        have Hcall := Lib.hid hcall
        have Hraw := Lib.hid hraw
        have Hy1 := Lib.hid hz1
        have Hy2 := Lib.hid hz2
        obtain ⟨s, hs⟩ : ∃ s : ByteArray, s = ⟨lt.toArray⟩ := ⟨_, rfl⟩
        have hs64 : s.size ≤ 64 := by rw [hs]; show lt.toArray.size ≤ 64; simpa using hl64
        have Hs := Lib.hid hs
        obtain ⟨x, hx⟩ : ∃ x, x = idOf li := ⟨_, rfl⟩
        have Hx := Lib.hid hx
        obtain ⟨rd, hrd⟩ : ∃ rd, rd = refCells ⟨s, x⟩ := ⟨_, rfl⟩
        have D33 : Hid (rd.toArray.size = 33) := by show _ = _; rw [hrd]; simp [refCells_len]
        have D33m : Hid (rd.toArray.size = 1 * 33) := by show _ = _; rw [hrd]; simp [refCells_len]
        have D1 : Hid (∀ u ∈ rd.toArray.toList, u.oneCell' = true) := by
          show ∀ u ∈ rd.toArray.toList, u.oneCell' = true
          rw [hrd]
          have := refCells_ones ⟨s, x⟩
          rw [Array.all_eq_true_iff_forall_mem] at this
          intro u hu
          exact this u (by simpa using hu)
        have Rb : Hid (Try.prog.built 162 [(0, .string ⟨lt.toArray⟩), (1, .agg (idCells (idOf li)).toArray)] = some rd.toArray) := by show _ = _; rw [hrd, ← hs, ← hx]; exact ref_built s x
        have Hrd := Lib.hid hrd
        clear hz1 hz2 hcall hraw hq hq2 hR hR' hgd hs hx hrd
        go_wp2_with (go_at_call 39
                     refine Hcall.out.mono ?_
                     rintro e w4 ⟨A4, c4, rfl, hf4, hR4, hlc4, hcm4, hb4⟩
                     have hcv := Byt.str hb4 (P := Try.prog) Try.underlying22 Try.underlying5 Try.underlying9 c4)
        have hB4 := hB.fr hf4 hgb
        have hO4 := hO.fr hf4 fun j hj e => by have := hA j hj; omega
        have s4 := hf4.size
        clear hcv hb4 hlc4 hcm4 Hcall
        refine wp_region_held (S := fun _ => True) rfl ?_
        refine wpAnyH_take (i := 0) rfl (by decide +kernel) (by decide +kernel) (by decide +kernel) (fun _ _ _ h => h) (Or.inl ⟨by kernel_rfl, fun W _ => by go_simp; with_reducible rfl⟩) trivial ?_
        refine wpAnyH_take (i := 2) rfl (by decide +kernel) (by decide +kernel) (by decide +kernel) (fun _ _ _ h => h) (Or.inl ⟨by kernel_rfl, fun W _ => by go_simp; with_reducible rfl⟩) trivial ?_
        refine wpAnyH_take (i := 3) rfl (by decide +kernel) (by decide +kernel) (by decide +kernel) (fun _ _ _ h => h) (Or.inl ⟨by kernel_rfl, fun W _ => by go_simp; with_reducible rfl⟩) trivial ?_
        go_simp
        have hB9 := hB4.fr (Fr.drew (Fr.refl NoB w4)) id
        have hO9 := hO4.fr (Fr.drew (Fr.refl NoB w4)) fun _ _ => id
        have hcall8 := Hraw.out w4.drew (hR4.fr (Fr.drew (Fr.refl NoB w4)) id fun _ _ => id) (by show B + 1 < w4.heap.size; omega)
        refine wpAnyH_all (rs := [1, 4]) (by decide +kernel) (by simp) ?_
        intro i hi
        simp only [List.mem_cons, List.not_mem_nil, or_false] at hi
        rcases hi with rfl | rfl
        · have qx := hB9.c0
          refine wpOp_run (v := .slice A1 p cc) (w' := w4.drew) rfl (by kernel_rfl) (by go_simp) ⟨trivial, ?_⟩
          clear qx
          go_simp
          refine wpAnyH_all (rs := [4]) (by decide +kernel) (by simp) ?_
          intro i hi
          simp only [List.mem_cons, List.not_mem_nil, or_false] at hi
          subst hi
          refine wpOp_call rfl rfl 88 (enters_of Try.func88 (by kernel_rfl) rfl) #[.tmp 35] _ rfl _ rfl hcall8 ?_
          rintro e wt ⟨rfl, hft, hRt⟩
          refine ⟨_, rfl, trivial, ?_⟩
          replace hB9 := hB9.fr hft hgb
          replace hO9 := hO9.fr hft (fun j hj e => by have := hA j hj; omega)
          go_simp
          refine wpAnyH_all (rs := [5]) (by decide +kernel) (by simp) ?_
          intro i hi
          simp only [List.mem_cons, List.not_mem_nil, or_false] at hi
          subst hi
          refine wpOp_run (v := .agg rd.toArray) (w' := wt) rfl (by kernel_rfl) (exec_build_eq 162 #[(0, .tmp 34), (1, .tmp 36)] rfl [(0, .string ⟨lt.toArray⟩), (1, .agg (idCells (idOf li)).toArray)] rfl rd.toArray Rb.out) ⟨trivial, ?_⟩
          go_simp
          refine wpAnyH_all (rs := [6]) (by decide +kernel) (by simp) ?_
          intro i hi
          simp only [List.mem_cons, List.not_mem_nil, or_false] at hi
          subst hi
          refine wpOp_run (v := .slice (some ⟨wt.heap.size, 0, none⟩) 1 1) (w' := wt.alloc (.cells rd.toArray 162)) rfl (by kernel_rfl) (exec_build1 el_ref (by omega) (.tmp 37) rfl rd.toArray rfl D33.out) ⟨trivial, ?_⟩
          replace hB9 := hB9.fr ((Fr.refl NoB wt).alloc (.cells rd.toArray 162)) id
          replace hO9 := hO9.alloc (.cells rd.toArray 162)
          go_simp
          refine wpAnyH_all (rs := [7]) (by decide +kernel) (by simp) ?_
          intro i hi
          simp only [List.mem_cons, List.not_mem_nil, or_false] at hi
          subst hi
          refine wpOp_app el_ref rfl (by kernel_rfl) (.tmp 33) (.tmp 38) rfl A1 p cc _ rfl hO9 _ _ 1 1 _ rfl (Arr.new _ _ rd.toArray 1 33 D33m.out) D1.out (by omega) ?_
          intro A7 c7 wa hOa hfa hina
          have hga : ¬ inB A1 g := fun h => by have := hA g h; omega
          have hBa := hB9.fr hfa hga
          refine ⟨trivial, ?_⟩
          go_simp
          refine wpAnyH_take (i := 8) rfl (by decide +kernel) (by decide +kernel) (by decide +kernel) (fun _ _ _ h => h) (Or.inl ⟨by kernel_rfl, fun W _ => by go_simp; with_reducible rfl⟩) trivial ?_
          go_simp
          refine wpAnyH_all (rs := [9]) (by decide +kernel) (by simp) ?_
          intro i hi
          simp only [List.mem_cons, List.not_mem_nil, or_false] at hi
          subst hi
          have qx := hBa.c0
          have qy := hBa.blk.frozen 0
          refine wpOp_skip (w' := wa.setCell ⟨g, 0, none⟩ (.slice A7 (p + 1) c7)) rfl (by kernel_rfl) (by go_simp) ⟨trivial, ?_⟩
          clear qx qy
          go_simp
          refine wpAnyH_done (by decide +kernel) ?_ _
          have hsz1 := hft.size
          have hsz2 := hfa.size
          simp only [World.size_alloc] at hsz2 hina
          have hsz0 : w4.drew.heap.size = w4.heap.size := rfl
          have hfg : Fr (· = g) wa (wa.setCell ⟨g, 0, none⟩ (.slice A7 (p + 1) c7)) := (Fr.refl _ _).at_ _ _
          have hfT : Fr (fun j => j = b ∨ j = g ∨ inB A1 j) w3 (wa.setCell ⟨g, 0, none⟩ (.slice A7 (p + 1) c7)) := ((((hf4.mono (S' := fun j => j = b ∨ j = g ∨ inB A1 j) fun _ _ h => .inl h).drew.trans hft fun _ _ h => .inl h).alloc (.cells rd.toArray 162)).trans hfa fun _ _ h => .inr (.inr h)).trans hfg fun _ _ h => .inr (.inl h)
          have hina2 : ∀ j, inB A7 j → Kb ≤ j := fun j hj => (hina j hj).elim (hA j) fun h => by omega
          have hlow : ∀ j, (j = b ∨ j = g ∨ inB A1 j) → w.heap.size ≤ j ∧ ¬ j = B := fun j h => by
            have := HB.out
            rcases h with h | h | h
            · omega
            · omega
            · have := hA j h; omega
          have hR2 := ((hRt.fr ((Fr.refl NoB wt).alloc (.cells rd.toArray 162)) id fun _ _ => id).fr hfa (fun h => by have := hA b h; omega) fun j hj h => by have := hG0 j hj; have := hA j h; omega).fr hfg (Ne.symm hgb) fun j hj h => by have := hG0 j hj; omega
          go_wp2
          go_roundw
          case rel =>
            refine ⟨pre ++ [⟨s, x⟩], ri, k, p + 1, c7, A7, by go_num, by omega, by rw [List.length_append, ← Hp.out]; rfl, by rw [Hy1.out, Hs.out, Hx.out]; simp, Hy2.out, by omega, hR2, hBa.s0 A7 (p + 1) c7, ?_, hina2, fun u hu => ?_, hBz.fr hfT (fun h => (hlow B h).2 rfl), hF.new hfT fun j hj => .inr (hlow j hj).1, by have := hfT.size; omega⟩
            · have e : (pre ++ [(⟨s, x⟩ : Ref)]).flatMap refCells = pre.flatMap refCells ++ rd.toArray.toList := by rw [List.flatMap_append, Hrd.out]; simp
              rw [e]
              exact hOa.fr hfg fun j hj h => by have := hina2 j hj; omega
            · rcases List.mem_append.1 hu with hu | hu
              · exact Hpre.out u hu
              · rw [List.mem_singleton] at hu; rw [hu]; exact hs64
          case measure => (simp [intOf] <;> omega)
        · refine wpOp_call rfl rfl 88 (enters_of Try.func88 (by kernel_rfl) rfl) #[.tmp 35] _ rfl _ rfl hcall8 ?_
          rintro e wt ⟨rfl, hft, hRt⟩
          refine ⟨_, rfl, trivial, ?_⟩
          replace hB9 := hB9.fr hft hgb
          replace hO9 := hO9.fr hft (fun j hj e => by have := hA j hj; omega)
          go_simp
          refine wpAnyH_all (rs := [1, 5]) (by decide +kernel) (by simp) ?_
          intro i hi
          simp only [List.mem_cons, List.not_mem_nil, or_false] at hi
          rcases hi with rfl | rfl
          · have qx := hB9.c0
            refine wpOp_run (v := .slice A1 p cc) (w' := wt) rfl (by kernel_rfl) (by go_simp) ⟨trivial, ?_⟩
            clear qx
            go_simp
            refine wpAnyH_all (rs := [5]) (by decide +kernel) (by simp) ?_
            intro i hi
            simp only [List.mem_cons, List.not_mem_nil, or_false] at hi
            subst hi
            refine wpOp_run (v := .agg rd.toArray) (w' := wt) rfl (by kernel_rfl) (exec_build_eq 162 #[(0, .tmp 34), (1, .tmp 36)] rfl [(0, .string ⟨lt.toArray⟩), (1, .agg (idCells (idOf li)).toArray)] rfl rd.toArray Rb.out) ⟨trivial, ?_⟩
            go_simp
            refine wpAnyH_all (rs := [6]) (by decide +kernel) (by simp) ?_
            intro i hi
            simp only [List.mem_cons, List.not_mem_nil, or_false] at hi
            subst hi
            refine wpOp_run (v := .slice (some ⟨wt.heap.size, 0, none⟩) 1 1) (w' := wt.alloc (.cells rd.toArray 162)) rfl (by kernel_rfl) (exec_build1 el_ref (by omega) (.tmp 37) rfl rd.toArray rfl D33.out) ⟨trivial, ?_⟩
            replace hB9 := hB9.fr ((Fr.refl NoB wt).alloc (.cells rd.toArray 162)) id
            replace hO9 := hO9.alloc (.cells rd.toArray 162)
            go_simp
            refine wpAnyH_all (rs := [7]) (by decide +kernel) (by simp) ?_
            intro i hi
            simp only [List.mem_cons, List.not_mem_nil, or_false] at hi
            subst hi
            refine wpOp_app el_ref rfl (by kernel_rfl) (.tmp 33) (.tmp 38) rfl A1 p cc _ rfl hO9 _ _ 1 1 _ rfl (Arr.new _ _ rd.toArray 1 33 D33m.out) D1.out (by omega) ?_
            intro A7 c7 wa hOa hfa hina
            have hga : ¬ inB A1 g := fun h => by have := hA g h; omega
            have hBa := hB9.fr hfa hga
            refine ⟨trivial, ?_⟩
            go_simp
            refine wpAnyH_take (i := 8) rfl (by decide +kernel) (by decide +kernel) (by decide +kernel) (fun _ _ _ h => h) (Or.inl ⟨by kernel_rfl, fun W _ => by go_simp; with_reducible rfl⟩) trivial ?_
            go_simp
            refine wpAnyH_all (rs := [9]) (by decide +kernel) (by simp) ?_
            intro i hi
            simp only [List.mem_cons, List.not_mem_nil, or_false] at hi
            subst hi
            have qx := hBa.c0
            have qy := hBa.blk.frozen 0
            refine wpOp_skip (w' := wa.setCell ⟨g, 0, none⟩ (.slice A7 (p + 1) c7)) rfl (by kernel_rfl) (by go_simp) ⟨trivial, ?_⟩
            clear qx qy
            go_simp
            refine wpAnyH_done (by decide +kernel) ?_ _
            have hsz1 := hft.size
            have hsz2 := hfa.size
            simp only [World.size_alloc] at hsz2 hina
            have hsz0 : w4.drew.heap.size = w4.heap.size := rfl
            have hfg : Fr (· = g) wa (wa.setCell ⟨g, 0, none⟩ (.slice A7 (p + 1) c7)) := (Fr.refl _ _).at_ _ _
            have hfT : Fr (fun j => j = b ∨ j = g ∨ inB A1 j) w3 (wa.setCell ⟨g, 0, none⟩ (.slice A7 (p + 1) c7)) := ((((hf4.mono (S' := fun j => j = b ∨ j = g ∨ inB A1 j) fun _ _ h => .inl h).drew.trans hft fun _ _ h => .inl h).alloc (.cells rd.toArray 162)).trans hfa fun _ _ h => .inr (.inr h)).trans hfg fun _ _ h => .inr (.inl h)
            have hina2 : ∀ j, inB A7 j → Kb ≤ j := fun j hj => (hina j hj).elim (hA j) fun h => by omega
            have hlow : ∀ j, (j = b ∨ j = g ∨ inB A1 j) → w.heap.size ≤ j ∧ ¬ j = B := fun j h => by
              have := HB.out
              rcases h with h | h | h
              · omega
              · omega
              · have := hA j h; omega
            have hR2 := ((hRt.fr ((Fr.refl NoB wt).alloc (.cells rd.toArray 162)) id fun _ _ => id).fr hfa (fun h => by have := hA b h; omega) fun j hj h => by have := hG0 j hj; have := hA j h; omega).fr hfg (Ne.symm hgb) fun j hj h => by have := hG0 j hj; omega
            go_wp2
            go_roundw
            case rel =>
              refine ⟨pre ++ [⟨s, x⟩], ri, k, p + 1, c7, A7, by go_num, by omega, by rw [List.length_append, ← Hp.out]; rfl, by rw [Hy1.out, Hs.out, Hx.out]; simp, Hy2.out, by omega, hR2, hBa.s0 A7 (p + 1) c7, ?_, hina2, fun u hu => ?_, hBz.fr hfT (fun h => (hlow B h).2 rfl), hF.new hfT fun j hj => .inr (hlow j hj).1, by have := hfT.size; omega⟩
              · have e : (pre ++ [(⟨s, x⟩ : Ref)]).flatMap refCells = pre.flatMap refCells ++ rd.toArray.toList := by rw [List.flatMap_append, Hrd.out]; simp
                rw [e]
                exact hOa.fr hfg fun j hj h => by have := hina2 j hj; omega
              · rcases List.mem_append.1 hu with hu | hu
                · exact Hpre.out u hu
                · rw [List.mem_singleton] at hu; rw [hu]; exact hs64
            case measure => (simp [intOf] <;> omega)
          · refine wpOp_run (v := .agg rd.toArray) (w' := wt) rfl (by kernel_rfl) (exec_build_eq 162 #[(0, .tmp 34), (1, .tmp 36)] rfl [(0, .string ⟨lt.toArray⟩), (1, .agg (idCells (idOf li)).toArray)] rfl rd.toArray Rb.out) ⟨trivial, ?_⟩
            go_simp
            refine wpAnyH_all (rs := [1, 6]) (by decide +kernel) (by simp) ?_
            intro i hi
            simp only [List.mem_cons, List.not_mem_nil, or_false] at hi
            rcases hi with rfl | rfl
            · have qx := hB9.c0
              refine wpOp_run (v := .slice A1 p cc) (w' := wt) rfl (by kernel_rfl) (by go_simp) ⟨trivial, ?_⟩
              clear qx
              go_simp
              refine wpAnyH_all (rs := [6]) (by decide +kernel) (by simp) ?_
              intro i hi
              simp only [List.mem_cons, List.not_mem_nil, or_false] at hi
              subst hi
              refine wpOp_run (v := .slice (some ⟨wt.heap.size, 0, none⟩) 1 1) (w' := wt.alloc (.cells rd.toArray 162)) rfl (by kernel_rfl) (exec_build1 el_ref (by omega) (.tmp 37) rfl rd.toArray rfl D33.out) ⟨trivial, ?_⟩
              replace hB9 := hB9.fr ((Fr.refl NoB wt).alloc (.cells rd.toArray 162)) id
              replace hO9 := hO9.alloc (.cells rd.toArray 162)
              go_simp
              refine wpAnyH_all (rs := [7]) (by decide +kernel) (by simp) ?_
              intro i hi
              simp only [List.mem_cons, List.not_mem_nil, or_false] at hi
              subst hi
              refine wpOp_app el_ref rfl (by kernel_rfl) (.tmp 33) (.tmp 38) rfl A1 p cc _ rfl hO9 _ _ 1 1 _ rfl (Arr.new _ _ rd.toArray 1 33 D33m.out) D1.out (by omega) ?_
              intro A7 c7 wa hOa hfa hina
              have hga : ¬ inB A1 g := fun h => by have := hA g h; omega
              have hBa := hB9.fr hfa hga
              refine ⟨trivial, ?_⟩
              go_simp
              refine wpAnyH_take (i := 8) rfl (by decide +kernel) (by decide +kernel) (by decide +kernel) (fun _ _ _ h => h) (Or.inl ⟨by kernel_rfl, fun W _ => by go_simp; with_reducible rfl⟩) trivial ?_
              go_simp
              refine wpAnyH_all (rs := [9]) (by decide +kernel) (by simp) ?_
              intro i hi
              simp only [List.mem_cons, List.not_mem_nil, or_false] at hi
              subst hi
              have qx := hBa.c0
              have qy := hBa.blk.frozen 0
              refine wpOp_skip (w' := wa.setCell ⟨g, 0, none⟩ (.slice A7 (p + 1) c7)) rfl (by kernel_rfl) (by go_simp) ⟨trivial, ?_⟩
              clear qx qy
              go_simp
              refine wpAnyH_done (by decide +kernel) ?_ _
              have hsz1 := hft.size
              have hsz2 := hfa.size
              simp only [World.size_alloc] at hsz2 hina
              have hsz0 : w4.drew.heap.size = w4.heap.size := rfl
              have hfg : Fr (· = g) wa (wa.setCell ⟨g, 0, none⟩ (.slice A7 (p + 1) c7)) := (Fr.refl _ _).at_ _ _
              have hfT : Fr (fun j => j = b ∨ j = g ∨ inB A1 j) w3 (wa.setCell ⟨g, 0, none⟩ (.slice A7 (p + 1) c7)) := ((((hf4.mono (S' := fun j => j = b ∨ j = g ∨ inB A1 j) fun _ _ h => .inl h).drew.trans hft fun _ _ h => .inl h).alloc (.cells rd.toArray 162)).trans hfa fun _ _ h => .inr (.inr h)).trans hfg fun _ _ h => .inr (.inl h)
              have hina2 : ∀ j, inB A7 j → Kb ≤ j := fun j hj => (hina j hj).elim (hA j) fun h => by omega
              have hlow : ∀ j, (j = b ∨ j = g ∨ inB A1 j) → w.heap.size ≤ j ∧ ¬ j = B := fun j h => by
                have := HB.out
                rcases h with h | h | h
                · omega
                · omega
                · have := hA j h; omega
              have hR2 := ((hRt.fr ((Fr.refl NoB wt).alloc (.cells rd.toArray 162)) id fun _ _ => id).fr hfa (fun h => by have := hA b h; omega) fun j hj h => by have := hG0 j hj; have := hA j h; omega).fr hfg (Ne.symm hgb) fun j hj h => by have := hG0 j hj; omega
              go_wp2
              go_roundw
              case rel =>
                refine ⟨pre ++ [⟨s, x⟩], ri, k, p + 1, c7, A7, by go_num, by omega, by rw [List.length_append, ← Hp.out]; rfl, by rw [Hy1.out, Hs.out, Hx.out]; simp, Hy2.out, by omega, hR2, hBa.s0 A7 (p + 1) c7, ?_, hina2, fun u hu => ?_, hBz.fr hfT (fun h => (hlow B h).2 rfl), hF.new hfT fun j hj => .inr (hlow j hj).1, by have := hfT.size; omega⟩
                · have e : (pre ++ [(⟨s, x⟩ : Ref)]).flatMap refCells = pre.flatMap refCells ++ rd.toArray.toList := by rw [List.flatMap_append, Hrd.out]; simp
                  rw [e]
                  exact hOa.fr hfg fun j hj h => by have := hina2 j hj; omega
                · rcases List.mem_append.1 hu with hu | hu
                  · exact Hpre.out u hu
                  · rw [List.mem_singleton] at hu; rw [hu]; exact hs64
              case measure => (simp [intOf] <;> omega)
            · refine wpOp_run (v := .slice (some ⟨wt.heap.size, 0, none⟩) 1 1) (w' := wt.alloc (.cells rd.toArray 162)) rfl (by kernel_rfl) (exec_build1 el_ref (by omega) (.tmp 37) rfl rd.toArray rfl D33.out) ⟨trivial, ?_⟩
              replace hB9 := hB9.fr ((Fr.refl NoB wt).alloc (.cells rd.toArray 162)) id
              replace hO9 := hO9.alloc (.cells rd.toArray 162)
              go_simp
              refine wpAnyH_all (rs := [1]) (by decide +kernel) (by simp) ?_
              intro i hi
              simp only [List.mem_cons, List.not_mem_nil, or_false] at hi
              subst hi
              have qx := hB9.c0
              refine wpOp_run (v := .slice A1 p cc) (w' := (wt.alloc (.cells rd.toArray 162))) rfl (by kernel_rfl) (by go_simp) ⟨trivial, ?_⟩
              clear qx
              go_simp
              refine wpAnyH_all (rs := [7]) (by decide +kernel) (by simp) ?_
              intro i hi
              simp only [List.mem_cons, List.not_mem_nil, or_false] at hi
              subst hi
              refine wpOp_app el_ref rfl (by kernel_rfl) (.tmp 33) (.tmp 38) rfl A1 p cc _ rfl hO9 _ _ 1 1 _ rfl (Arr.new _ _ rd.toArray 1 33 D33m.out) D1.out (by omega) ?_
              intro A7 c7 wa hOa hfa hina
              have hga : ¬ inB A1 g := fun h => by have := hA g h; omega
              have hBa := hB9.fr hfa hga
              refine ⟨trivial, ?_⟩
              go_simp
              refine wpAnyH_take (i := 8) rfl (by decide +kernel) (by decide +kernel) (by decide +kernel) (fun _ _ _ h => h) (Or.inl ⟨by kernel_rfl, fun W _ => by go_simp; with_reducible rfl⟩) trivial ?_
              go_simp
              refine wpAnyH_all (rs := [9]) (by decide +kernel) (by simp) ?_
              intro i hi
              simp only [List.mem_cons, List.not_mem_nil, or_false] at hi
              subst hi
              have qx := hBa.c0
              have qy := hBa.blk.frozen 0
              refine wpOp_skip (w' := wa.setCell ⟨g, 0, none⟩ (.slice A7 (p + 1) c7)) rfl (by kernel_rfl) (by go_simp) ⟨trivial, ?_⟩
              clear qx qy
              go_simp
              refine wpAnyH_done (by decide +kernel) ?_ _
              have hsz1 := hft.size
              have hsz2 := hfa.size
              simp only [World.size_alloc] at hsz2 hina
              have hsz0 : w4.drew.heap.size = w4.heap.size := rfl
              have hfg : Fr (· = g) wa (wa.setCell ⟨g, 0, none⟩ (.slice A7 (p + 1) c7)) := (Fr.refl _ _).at_ _ _
              have hfT : Fr (fun j => j = b ∨ j = g ∨ inB A1 j) w3 (wa.setCell ⟨g, 0, none⟩ (.slice A7 (p + 1) c7)) := ((((hf4.mono (S' := fun j => j = b ∨ j = g ∨ inB A1 j) fun _ _ h => .inl h).drew.trans hft fun _ _ h => .inl h).alloc (.cells rd.toArray 162)).trans hfa fun _ _ h => .inr (.inr h)).trans hfg fun _ _ h => .inr (.inl h)
              have hina2 : ∀ j, inB A7 j → Kb ≤ j := fun j hj => (hina j hj).elim (hA j) fun h => by omega
              have hlow : ∀ j, (j = b ∨ j = g ∨ inB A1 j) → w.heap.size ≤ j ∧ ¬ j = B := fun j h => by
                have := HB.out
                rcases h with h | h | h
                · omega
                · omega
                · have := hA j h; omega
              have hR2 := ((hRt.fr ((Fr.refl NoB wt).alloc (.cells rd.toArray 162)) id fun _ _ => id).fr hfa (fun h => by have := hA b h; omega) fun j hj h => by have := hG0 j hj; have := hA j h; omega).fr hfg (Ne.symm hgb) fun j hj h => by have := hG0 j hj; omega
              go_wp2
              go_roundw
              case rel =>
                refine ⟨pre ++ [⟨s, x⟩], ri, k, p + 1, c7, A7, by go_num, by omega, by rw [List.length_append, ← Hp.out]; rfl, by rw [Hy1.out, Hs.out, Hx.out]; simp, Hy2.out, by omega, hR2, hBa.s0 A7 (p + 1) c7, ?_, hina2, fun u hu => ?_, hBz.fr hfT (fun h => (hlow B h).2 rfl), hF.new hfT fun j hj => .inr (hlow j hj).1, by have := hfT.size; omega⟩
                · have e : (pre ++ [(⟨s, x⟩ : Ref)]).flatMap refCells = pre.flatMap refCells ++ rd.toArray.toList := by rw [List.flatMap_append, Hrd.out]; simp
                  rw [e]
                  exact hOa.fr hfg fun j hj h => by have := hina2 j hj; omega
                · rcases List.mem_append.1 hu with hu | hu
                  · exact Hpre.out u hu
                  · rw [List.mem_singleton] at hu; rw [hu]; exact hs64
              case measure => (simp [intOf] <;> omega)
      | false =>
        have cb' := cb
        rw [hgd] at cb
        have hbad2 : r2.good = false := by rw [Hz2.out]; exact refsGo_bad k hgd
        have hparA : (bunParse l).2.good = false := by
          obtain ⟨v3, r4, e4⟩ : ∃ v r4, Rd.N r2 2000 = (v, r4) := ⟨_, _, rfl⟩
          rw [bunParse_eq (Hr0.out ▸ E1.out) E2.out e4]
          rw [Rd.N_badE hbad2] at e4
          injection e4 with e4 e5
          subst e4
          rw [← e5]
          rfl
        obtain ⟨v2, r3, e3⟩ : ∃ v r4, Rd.N r' 2000 = (v, r4) := ⟨_, _, rfl⟩
        have HP : Hid ((bunParse l = (⟨pre, (objsGo v2 r3).1⟩, (objsGo v2 r3).2)) ∨ (r3.good = false ∧ Rd.End (bunParse l).2 ≠ 0)) := Lib.hid (.inr ⟨by rw [Rd.N_badE hgd] at e3; injection e3 with e3 e5; rw [← e5], End_badE hparA⟩)
        have hv2 : v2 ≤ 2000 := by have := Rd.N_le r' 2000; rw [e3] at this; exact this
        have hcall := FN_litE hR' 2000 2000 (by simp)
        rw [e3] at hcall
        have Hcall := Lib.hid hcall
        clear e3 hcall hparA hR hR' hbad2 hgd cb'
        go_wp2_with (go_at_call 35; refine Hcall.out.mono ?_; rintro e w4 ⟨rfl, hf4, hR⟩)
        have hbKb : b < Kb := by omega
        have hAb : ∀ j, inB A1 j → ¬ j = b := fun j hj => by have := hA j hj; omega
        replace hB := hB.fr hf4 hgb
        replace hO := hO.fr hf4 hAb
        replace hBz := hBz.fr hf4 hBb
        replace hF := hF.new hf4 fun j hj => .inr (by have := HB.out; omega)
        have s4 := hf4.size
        have hKb4 : Kb ≤ w4.heap.size := by omega
        obtain ⟨Km, hKm⟩ : ∃ Km, Km = w4.heap.size := ⟨_, rfl⟩
        have hA4 : ∀ j, inB A1 j → j < Km := fun j hj => by rw [hKm]; exact hO.lt hj
        have hKm1 : Km ≤ w4.heap.size := by omega
        have hKm2 : Kb ≤ Km := by omega
        clear hf4 hKm Hcall s4 cb
        go_loopw [9] (fun v wr => ∃ (pre2 : List (List UInt8)) (r' : Rd) (k q d : Nat) (A2 : Option Addr) (us : List Value), v = .int .u64 (q : Nat) ∧ k + q = v2 ∧ q = pre2.length ∧ (objsGo v2 r3).1 = pre2 ++ (objsGo k r').1 ∧ (objsGo v2 r3).2 = (objsGo k r').2 ∧ RfAt wr F0 b r' ∧ BunBlk wr g A1 p cc A2 q d ∧ Own wr 162 33 A1 p cc (pre.flatMap refCells) ∧ Own wr 22 1 A2 q d us ∧ (∀ (i : Nat) (a : List UInt8), pre2[i]? = some a → ∃ u : Value, us[i]? = some u ∧ BytR wr F0 [u] a) ∧ (∀ j, inB A2 j → Km ≤ j) ∧ (∀ x ∈ pre2, x.length ≤ 110000) ∧ Blk wr B 112 zc.toArray ∧ Fr NoB w wr ∧ Km ≤ wr.heap.size) (fun v _ => v2 - (intOf v).toNat)
        case atStart => exact ⟨[], r3, v2, 0, 0, none, [], rfl, by omega, rfl, by simp, rfl, hR, hB, hO, Own.nil _ _ _, fun i a ha => by simp at ha, fun j hj => absurd hj (inB_none j), fun x hx => by simp at hx, hBz, hF, hKm1⟩
        case round =>
          clear hR hB hO hBz hF
          obtain ⟨pre2, r', k, q, d, A2, us, rfl, hkq, hq, hz1, hz2, hR, hB, hO, hP, hus, hA2, hpre2, hBz, hF, hKw'⟩ := hrel
          obtain ⟨w5, rfl⟩ : ∃ w5 : World, w5 = wr := ⟨_, rfl⟩
          have Hq := Lib.hid hq
          have Hy1 := Lib.hid hz1
          have Hy2 := Lib.hid hz2
          have Hus := Lib.hid hus
          have Hpre2 := Lib.hid hpre2
          have cb := hR.cell1
          clear hq hz1 hz2 hus hpre2
          by_cases hqv : (q : Int) < (v2 : Int)
          · cases hgd : r'.good with
            | true =>
              rw [hgd] at cb
              obtain ⟨k, rfl⟩ : ∃ k0, k = k0 + 1 := ⟨k - 1, by omega⟩
              have hz1 := Hy1.out
              have hz2 := Hy2.out
              rw [objsGo] at hz1 hz2
              have htl := Rd.Text_leE r' 110000 110000 (by omega)
              have hcall := FText_any _ _ _ _ 110000 (hR.fr (Fr.drew (Fr.refl NoB w5)) id fun _ _ => id) (by omega)
              generalize hqq : Rd.Text r' 110000 = qq at hz1 hz2 hcall htl
              obtain ⟨lt, rt⟩ := qq
              unfold FReadBytes at hcall
              dsimp only at hz1 hz2 hcall htl
              have Hcall := Lib.hid hcall
              clear Hy1 Hy2
              have Hy1 := Lib.hid hz1
              have Hy2 := Lib.hid hz2
              clear hz1 hz2 hcall hqq hgd
              go_wp2
              refine wp_region_held (S := fun _ => True) rfl ?_
              refine wpAnyH_take (i := 0) rfl (by decide +kernel) (by decide +kernel) (by decide +kernel) (fun _ _ _ h => h) (Or.inl ⟨by kernel_rfl, fun W _ => by go_simp; with_reducible rfl⟩) trivial ?_
              refine wpAnyH_take (i := 2) rfl (by decide +kernel) (by decide +kernel) (by decide +kernel) (fun _ _ _ h => h) (Or.inl ⟨by kernel_rfl, fun W _ => by go_simp; with_reducible rfl⟩) trivial ?_
              go_simp
              have hB9 := hB.fr (Fr.drew (Fr.refl NoB w5)) id
              have hP9 := hP.fr (Fr.drew (Fr.refl NoB w5)) fun _ _ => id
              refine wpAnyH_all (rs := [1, 3]) (by decide +kernel) (by simp) ?_
              intro i hi
              simp only [List.mem_cons, List.not_mem_nil, or_false] at hi
              rcases hi with rfl | rfl
              · have qx := hB9.c1
                refine wpOp_run (v := .slice A2 q d) (w' := w5.drew) rfl (by kernel_rfl) (by go_simp) ⟨trivial, ?_⟩
                clear qx
                go_simp
                refine wpAnyH_all (rs := [3]) (by decide +kernel) (by simp) ?_
                intro i hi
                simp only [List.mem_cons, List.not_mem_nil, or_false] at hi
                subst hi
                refine wpOp_call rfl rfl 39 (enters_of Try.func39 (by kernel_rfl) rfl) #[.tmp 57, .const (.int .i64 110000)] _ rfl _ rfl Hcall.out ?_
                rintro e wt ⟨At, ct, rfl, hft, hRt, hlt1, hlt2, hBt0⟩
                refine ⟨_, rfl, trivial, ?_⟩
                replace hB9 := hB9.fr hft hgb
                replace hP9 := hP9.fr hft (fun j hj e => by have := hA2 j hj; omega)
                go_simp
                refine wpAnyH_all (rs := [4]) (by decide +kernel) (by simp) ?_
                intro i hi
                simp only [List.mem_cons, List.not_mem_nil, or_false] at hi
                subst hi
                refine wpOp_run (v := .slice (some ⟨wt.heap.size, 0, none⟩) 1 1) (w' := wt.alloc (.cells #[.slice At lt.length ct] 22)) rfl (by kernel_rfl) (by go_simp) ⟨trivial, ?_⟩
                replace hB9 := hB9.fr ((Fr.refl NoB wt).alloc (.cells #[.slice At lt.length ct] 22)) id
                replace hP9 := hP9.alloc (.cells #[.slice At lt.length ct] 22)
                go_simp
                refine wpAnyH_all (rs := [5]) (by decide +kernel) (by simp) ?_
                intro i hi
                simp only [List.mem_cons, List.not_mem_nil, or_false] at hi
                subst hi
                refine wpOp_app el_byt rfl (by kernel_rfl) (.tmp 56) (.tmp 59) rfl A2 q d _ rfl hP9 _ _ 1 1 _ rfl (Arr.one _ _ _) (by simp [Value.oneCell']) (by omega) ?_
                intro A3 d3 wa hPa hfa hina
                have hga : ¬ inB A2 g := fun h => by have := hA2 g h; omega
                have hBa := hB9.fr hfa hga
                refine ⟨trivial, ?_⟩
                go_simp
                refine wpAnyH_take (i := 6) rfl (by decide +kernel) (by decide +kernel) (by decide +kernel) (fun _ _ _ h => h) (Or.inl ⟨by kernel_rfl, fun W _ => by go_simp; with_reducible rfl⟩) trivial ?_
                go_simp
                refine wpAnyH_all (rs := [7]) (by decide +kernel) (by simp) ?_
                intro i hi
                simp only [List.mem_cons, List.not_mem_nil, or_false] at hi
                subst hi
                have qx := hBa.c1
                have qy := hBa.blk.frozen 1
                refine wpOp_skip (w' := wa.setCell ⟨g, 1, none⟩ (.slice A3 (q + 1) d3)) rfl (by kernel_rfl) (by go_simp) ⟨trivial, ?_⟩
                clear qx qy
                go_simp
                refine wpAnyH_done (by decide +kernel) ?_ _
                have hsz1 := hft.size
                have hsz2 := hfa.size
                simp only [World.size_alloc] at hsz2 hina
                have hsz0 : w5.drew.heap.size = w5.heap.size := rfl
                have hfg : Fr (· = g) wa (wa.setCell ⟨g, 1, none⟩ (.slice A3 (q + 1) d3)) := (Fr.refl _ _).at_ _ _
                have hfT : Fr (fun j => j = b ∨ j = g ∨ inB A2 j) w5 (wa.setCell ⟨g, 1, none⟩ (.slice A3 (q + 1) d3)) := ((((Fr.drew (Fr.refl (fun j => j = b ∨ j = g ∨ inB A2 j) w5)).trans hft fun _ _ h => .inl h).alloc (.cells #[.slice At lt.length ct] 22)).trans hfa fun _ _ h => .inr (.inr h)).trans hfg fun _ _ h => .inr (.inl h)
                have hina2 : ∀ j, inB A3 j → Km ≤ j := fun j hj => (hina j hj).elim (hA2 j) fun h => by omega
                have hlow : ∀ j, (j = b ∨ j = g ∨ inB A2 j) → w.heap.size ≤ j ∧ B ≤ j ∧ ¬ j = B := fun j h => by
                  have := HB.out
                  rcases h with h | h | h
                  · omega
                  · omega
                  · have := hA2 j h; omega
                have hR2 := ((hRt.fr ((Fr.refl NoB wt).alloc (.cells #[.slice At lt.length ct] 22)) id fun _ _ => id).fr hfa (fun h => by have := hA2 b h; omega) fun j hj h => by have := hG0 j hj; have := hA2 j h; omega).fr hfg (Ne.symm hgb) fun j hj h => by have := hG0 j hj; omega
                have hBt : Byt (wa.setCell ⟨g, 1, none⟩ (.slice A3 (q + 1) d3)) F0 At lt.length lt :=
                  ((Byt.fr hBt0 ((Fr.refl NoB wt).alloc (.cells #[.slice At lt.length ct] 22)) fun _ _ => id).fr hfa fun j hj h => by have := hG0 j hj; have := hA2 j h; omega).fr hfg fun j hj h => by have := hG0 j hj; omega
                have hus2 : ∀ (i : Nat) (a : List UInt8), (pre2 ++ [lt])[i]? = some a → ∃ u : Value, (us ++ [.slice At lt.length ct])[i]? = some u ∧ BytR (wa.setCell ⟨g, 1, none⟩ (.slice A3 (q + 1) d3)) F0 [u] a := fun i a ha => by
                  have hul : us.length = pre2.length := by have := hP.len; have := Hq.out; omega
                  rcases Nat.lt_or_ge i pre2.length with hi | hi
                  · rw [List.getElem?_append_left hi] at ha
                    obtain ⟨u, hu, hbu⟩ := Hus.out i a ha
                    exact ⟨u, by rw [List.getElem?_append_left (by omega)]; exact hu, hbu.fr hfT fun j hj h => by have := hG0 j hj; have := hlow j h; omega⟩
                  · have hie : i = pre2.length := by
                      have := (List.getElem?_eq_some_iff.1 ha).1
                      simp at this; omega
                    subst hie
                    rw [List.getElem?_append_right (Nat.le_refl _), Nat.sub_self] at ha
                    injection ha with ha
                    subst ha
                    exact ⟨_, by rw [← hul, List.getElem?_append_right (Nat.le_refl _), Nat.sub_self]; rfl, At, lt.length, ct, rfl, hlt1, hlt2, hBt⟩
                have hpre2 : ∀ x ∈ pre2 ++ [lt], x.length ≤ 110000 := fun x hx => by
                  rcases List.mem_append.1 hx with hx | hx
                  · exact Hpre2.out x hx
                  · rw [List.mem_singleton] at hx; rw [hx]; exact htl
                go_wp2
                go_roundw
                case rel => exact ⟨pre2 ++ [lt], rt, k, q + 1, d3, A3, us ++ [.slice At lt.length ct], by go_num, by omega, by rw [List.length_append, ← Hq.out]; rfl, by rw [Hy1.out]; simp, Hy2.out, hR2, hBa.s1 A3 (q + 1) d3, hO.fr hfT (fun j hj h => by rcases h with h | h | h; (have := hA j hj; omega); (have := hA j hj; omega); (have := hA2 j h; have := hA4 j hj; omega)), hPa.fr hfg (fun j hj h => by have := hina2 j hj; omega), hus2, hina2, hpre2, hBz.fr hfT (fun h => (hlow B h).2.2 rfl), hF.new hfT fun j hj => .inr (hlow j hj).1, by have := hfT.size; omega⟩
                case measure => (simp [intOf] <;> omega)
              · refine wpOp_call rfl rfl 39 (enters_of Try.func39 (by kernel_rfl) rfl) #[.tmp 57, .const (.int .i64 110000)] _ rfl _ rfl Hcall.out ?_
                rintro e wt ⟨At, ct, rfl, hft, hRt, hlt1, hlt2, hBt0⟩
                refine ⟨_, rfl, trivial, ?_⟩
                replace hB9 := hB9.fr hft hgb
                replace hP9 := hP9.fr hft (fun j hj e => by have := hA2 j hj; omega)
                go_simp
                refine wpAnyH_all (rs := [1, 4]) (by decide +kernel) (by simp) ?_
                intro i hi
                simp only [List.mem_cons, List.not_mem_nil, or_false] at hi
                rcases hi with rfl | rfl
                · have qx := hB9.c1
                  refine wpOp_run (v := .slice A2 q d) (w' := wt) rfl (by kernel_rfl) (by go_simp) ⟨trivial, ?_⟩
                  clear qx
                  go_simp
                  refine wpAnyH_all (rs := [4]) (by decide +kernel) (by simp) ?_
                  intro i hi
                  simp only [List.mem_cons, List.not_mem_nil, or_false] at hi
                  subst hi
                  refine wpOp_run (v := .slice (some ⟨wt.heap.size, 0, none⟩) 1 1) (w' := wt.alloc (.cells #[.slice At lt.length ct] 22)) rfl (by kernel_rfl) (by go_simp) ⟨trivial, ?_⟩
                  replace hB9 := hB9.fr ((Fr.refl NoB wt).alloc (.cells #[.slice At lt.length ct] 22)) id
                  replace hP9 := hP9.alloc (.cells #[.slice At lt.length ct] 22)
                  go_simp
                  refine wpAnyH_all (rs := [5]) (by decide +kernel) (by simp) ?_
                  intro i hi
                  simp only [List.mem_cons, List.not_mem_nil, or_false] at hi
                  subst hi
                  refine wpOp_app el_byt rfl (by kernel_rfl) (.tmp 56) (.tmp 59) rfl A2 q d _ rfl hP9 _ _ 1 1 _ rfl (Arr.one _ _ _) (by simp [Value.oneCell']) (by omega) ?_
                  intro A3 d3 wa hPa hfa hina
                  have hga : ¬ inB A2 g := fun h => by have := hA2 g h; omega
                  have hBa := hB9.fr hfa hga
                  refine ⟨trivial, ?_⟩
                  go_simp
                  refine wpAnyH_take (i := 6) rfl (by decide +kernel) (by decide +kernel) (by decide +kernel) (fun _ _ _ h => h) (Or.inl ⟨by kernel_rfl, fun W _ => by go_simp; with_reducible rfl⟩) trivial ?_
                  go_simp
                  refine wpAnyH_all (rs := [7]) (by decide +kernel) (by simp) ?_
                  intro i hi
                  simp only [List.mem_cons, List.not_mem_nil, or_false] at hi
                  subst hi
                  have qx := hBa.c1
                  have qy := hBa.blk.frozen 1
                  refine wpOp_skip (w' := wa.setCell ⟨g, 1, none⟩ (.slice A3 (q + 1) d3)) rfl (by kernel_rfl) (by go_simp) ⟨trivial, ?_⟩
                  clear qx qy
                  go_simp
                  refine wpAnyH_done (by decide +kernel) ?_ _
                  have hsz1 := hft.size
                  have hsz2 := hfa.size
                  simp only [World.size_alloc] at hsz2 hina
                  have hsz0 : w5.drew.heap.size = w5.heap.size := rfl
                  have hfg : Fr (· = g) wa (wa.setCell ⟨g, 1, none⟩ (.slice A3 (q + 1) d3)) := (Fr.refl _ _).at_ _ _
                  have hfT : Fr (fun j => j = b ∨ j = g ∨ inB A2 j) w5 (wa.setCell ⟨g, 1, none⟩ (.slice A3 (q + 1) d3)) := ((((Fr.drew (Fr.refl (fun j => j = b ∨ j = g ∨ inB A2 j) w5)).trans hft fun _ _ h => .inl h).alloc (.cells #[.slice At lt.length ct] 22)).trans hfa fun _ _ h => .inr (.inr h)).trans hfg fun _ _ h => .inr (.inl h)
                  have hina2 : ∀ j, inB A3 j → Km ≤ j := fun j hj => (hina j hj).elim (hA2 j) fun h => by omega
                  have hlow : ∀ j, (j = b ∨ j = g ∨ inB A2 j) → w.heap.size ≤ j ∧ B ≤ j ∧ ¬ j = B := fun j h => by
                    have := HB.out
                    rcases h with h | h | h
                    · omega
                    · omega
                    · have := hA2 j h; omega
                  have hR2 := ((hRt.fr ((Fr.refl NoB wt).alloc (.cells #[.slice At lt.length ct] 22)) id fun _ _ => id).fr hfa (fun h => by have := hA2 b h; omega) fun j hj h => by have := hG0 j hj; have := hA2 j h; omega).fr hfg (Ne.symm hgb) fun j hj h => by have := hG0 j hj; omega
                  have hBt : Byt (wa.setCell ⟨g, 1, none⟩ (.slice A3 (q + 1) d3)) F0 At lt.length lt :=
                    ((Byt.fr hBt0 ((Fr.refl NoB wt).alloc (.cells #[.slice At lt.length ct] 22)) fun _ _ => id).fr hfa fun j hj h => by have := hG0 j hj; have := hA2 j h; omega).fr hfg fun j hj h => by have := hG0 j hj; omega
                  have hus2 : ∀ (i : Nat) (a : List UInt8), (pre2 ++ [lt])[i]? = some a → ∃ u : Value, (us ++ [.slice At lt.length ct])[i]? = some u ∧ BytR (wa.setCell ⟨g, 1, none⟩ (.slice A3 (q + 1) d3)) F0 [u] a := fun i a ha => by
                    have hul : us.length = pre2.length := by have := hP.len; have := Hq.out; omega
                    rcases Nat.lt_or_ge i pre2.length with hi | hi
                    · rw [List.getElem?_append_left hi] at ha
                      obtain ⟨u, hu, hbu⟩ := Hus.out i a ha
                      exact ⟨u, by rw [List.getElem?_append_left (by omega)]; exact hu, hbu.fr hfT fun j hj h => by have := hG0 j hj; have := hlow j h; omega⟩
                    · have hie : i = pre2.length := by
                        have := (List.getElem?_eq_some_iff.1 ha).1
                        simp at this; omega
                      subst hie
                      rw [List.getElem?_append_right (Nat.le_refl _), Nat.sub_self] at ha
                      injection ha with ha
                      subst ha
                      exact ⟨_, by rw [← hul, List.getElem?_append_right (Nat.le_refl _), Nat.sub_self]; rfl, At, lt.length, ct, rfl, hlt1, hlt2, hBt⟩
                  have hpre2 : ∀ x ∈ pre2 ++ [lt], x.length ≤ 110000 := fun x hx => by
                    rcases List.mem_append.1 hx with hx | hx
                    · exact Hpre2.out x hx
                    · rw [List.mem_singleton] at hx; rw [hx]; exact htl
                  go_wp2
                  go_roundw
                  case rel => exact ⟨pre2 ++ [lt], rt, k, q + 1, d3, A3, us ++ [.slice At lt.length ct], by go_num, by omega, by rw [List.length_append, ← Hq.out]; rfl, by rw [Hy1.out]; simp, Hy2.out, hR2, hBa.s1 A3 (q + 1) d3, hO.fr hfT (fun j hj h => by rcases h with h | h | h; (have := hA j hj; omega); (have := hA j hj; omega); (have := hA2 j h; have := hA4 j hj; omega)), hPa.fr hfg (fun j hj h => by have := hina2 j hj; omega), hus2, hina2, hpre2, hBz.fr hfT (fun h => (hlow B h).2.2 rfl), hF.new hfT fun j hj => .inr (hlow j hj).1, by have := hfT.size; omega⟩
                  case measure => (simp [intOf] <;> omega)
                · refine wpOp_run (v := .slice (some ⟨wt.heap.size, 0, none⟩) 1 1) (w' := wt.alloc (.cells #[.slice At lt.length ct] 22)) rfl (by kernel_rfl) (by go_simp) ⟨trivial, ?_⟩
                  replace hB9 := hB9.fr ((Fr.refl NoB wt).alloc (.cells #[.slice At lt.length ct] 22)) id
                  replace hP9 := hP9.alloc (.cells #[.slice At lt.length ct] 22)
                  go_simp
                  refine wpAnyH_all (rs := [1]) (by decide +kernel) (by simp) ?_
                  intro i hi
                  simp only [List.mem_cons, List.not_mem_nil, or_false] at hi
                  subst hi
                  have qx := hB9.c1
                  refine wpOp_run (v := .slice A2 q d) (w' := (wt.alloc (.cells #[.slice At lt.length ct] 22))) rfl (by kernel_rfl) (by go_simp) ⟨trivial, ?_⟩
                  clear qx
                  go_simp
                  refine wpAnyH_all (rs := [5]) (by decide +kernel) (by simp) ?_
                  intro i hi
                  simp only [List.mem_cons, List.not_mem_nil, or_false] at hi
                  subst hi
                  refine wpOp_app el_byt rfl (by kernel_rfl) (.tmp 56) (.tmp 59) rfl A2 q d _ rfl hP9 _ _ 1 1 _ rfl (Arr.one _ _ _) (by simp [Value.oneCell']) (by omega) ?_
                  intro A3 d3 wa hPa hfa hina
                  have hga : ¬ inB A2 g := fun h => by have := hA2 g h; omega
                  have hBa := hB9.fr hfa hga
                  refine ⟨trivial, ?_⟩
                  go_simp
                  refine wpAnyH_take (i := 6) rfl (by decide +kernel) (by decide +kernel) (by decide +kernel) (fun _ _ _ h => h) (Or.inl ⟨by kernel_rfl, fun W _ => by go_simp; with_reducible rfl⟩) trivial ?_
                  go_simp
                  refine wpAnyH_all (rs := [7]) (by decide +kernel) (by simp) ?_
                  intro i hi
                  simp only [List.mem_cons, List.not_mem_nil, or_false] at hi
                  subst hi
                  have qx := hBa.c1
                  have qy := hBa.blk.frozen 1
                  refine wpOp_skip (w' := wa.setCell ⟨g, 1, none⟩ (.slice A3 (q + 1) d3)) rfl (by kernel_rfl) (by go_simp) ⟨trivial, ?_⟩
                  clear qx qy
                  go_simp
                  refine wpAnyH_done (by decide +kernel) ?_ _
                  have hsz1 := hft.size
                  have hsz2 := hfa.size
                  simp only [World.size_alloc] at hsz2 hina
                  have hsz0 : w5.drew.heap.size = w5.heap.size := rfl
                  have hfg : Fr (· = g) wa (wa.setCell ⟨g, 1, none⟩ (.slice A3 (q + 1) d3)) := (Fr.refl _ _).at_ _ _
                  have hfT : Fr (fun j => j = b ∨ j = g ∨ inB A2 j) w5 (wa.setCell ⟨g, 1, none⟩ (.slice A3 (q + 1) d3)) := ((((Fr.drew (Fr.refl (fun j => j = b ∨ j = g ∨ inB A2 j) w5)).trans hft fun _ _ h => .inl h).alloc (.cells #[.slice At lt.length ct] 22)).trans hfa fun _ _ h => .inr (.inr h)).trans hfg fun _ _ h => .inr (.inl h)
                  have hina2 : ∀ j, inB A3 j → Km ≤ j := fun j hj => (hina j hj).elim (hA2 j) fun h => by omega
                  have hlow : ∀ j, (j = b ∨ j = g ∨ inB A2 j) → w.heap.size ≤ j ∧ B ≤ j ∧ ¬ j = B := fun j h => by
                    have := HB.out
                    rcases h with h | h | h
                    · omega
                    · omega
                    · have := hA2 j h; omega
                  have hR2 := ((hRt.fr ((Fr.refl NoB wt).alloc (.cells #[.slice At lt.length ct] 22)) id fun _ _ => id).fr hfa (fun h => by have := hA2 b h; omega) fun j hj h => by have := hG0 j hj; have := hA2 j h; omega).fr hfg (Ne.symm hgb) fun j hj h => by have := hG0 j hj; omega
                  have hBt : Byt (wa.setCell ⟨g, 1, none⟩ (.slice A3 (q + 1) d3)) F0 At lt.length lt :=
                    ((Byt.fr hBt0 ((Fr.refl NoB wt).alloc (.cells #[.slice At lt.length ct] 22)) fun _ _ => id).fr hfa fun j hj h => by have := hG0 j hj; have := hA2 j h; omega).fr hfg fun j hj h => by have := hG0 j hj; omega
                  have hus2 : ∀ (i : Nat) (a : List UInt8), (pre2 ++ [lt])[i]? = some a → ∃ u : Value, (us ++ [.slice At lt.length ct])[i]? = some u ∧ BytR (wa.setCell ⟨g, 1, none⟩ (.slice A3 (q + 1) d3)) F0 [u] a := fun i a ha => by
                    have hul : us.length = pre2.length := by have := hP.len; have := Hq.out; omega
                    rcases Nat.lt_or_ge i pre2.length with hi | hi
                    · rw [List.getElem?_append_left hi] at ha
                      obtain ⟨u, hu, hbu⟩ := Hus.out i a ha
                      exact ⟨u, by rw [List.getElem?_append_left (by omega)]; exact hu, hbu.fr hfT fun j hj h => by have := hG0 j hj; have := hlow j h; omega⟩
                    · have hie : i = pre2.length := by
                        have := (List.getElem?_eq_some_iff.1 ha).1
                        simp at this; omega
                      subst hie
                      rw [List.getElem?_append_right (Nat.le_refl _), Nat.sub_self] at ha
                      injection ha with ha
                      subst ha
                      exact ⟨_, by rw [← hul, List.getElem?_append_right (Nat.le_refl _), Nat.sub_self]; rfl, At, lt.length, ct, rfl, hlt1, hlt2, hBt⟩
                  have hpre2 : ∀ x ∈ pre2 ++ [lt], x.length ≤ 110000 := fun x hx => by
                    rcases List.mem_append.1 hx with hx | hx
                    · exact Hpre2.out x hx
                    · rw [List.mem_singleton] at hx; rw [hx]; exact htl
                  go_wp2
                  go_roundw
                  case rel => exact ⟨pre2 ++ [lt], rt, k, q + 1, d3, A3, us ++ [.slice At lt.length ct], by go_num, by omega, by rw [List.length_append, ← Hq.out]; rfl, by rw [Hy1.out]; simp, Hy2.out, hR2, hBa.s1 A3 (q + 1) d3, hO.fr hfT (fun j hj h => by rcases h with h | h | h; (have := hA j hj; omega); (have := hA j hj; omega); (have := hA2 j h; have := hA4 j hj; omega)), hPa.fr hfg (fun j hj h => by have := hina2 j hj; omega), hus2, hina2, hpre2, hBz.fr hfT (fun h => (hlow B h).2.2 rfl), hF.new hfT fun j hj => .inr (hlow j hj).1, by have := hfT.size; omega⟩
                  case measure => (simp [intOf] <;> omega)
            | false =>
              obtain ⟨hof, hbad⟩ := bun_exit HP.out Hy1.out Hy2.out (.inr hgd)
              rw [hgd] at cb
              clear hgd
              obtain ⟨q0, hq0⟩ : ∃ q0 : Bun, q0 = ⟨pre, pre2⟩ := ⟨_, rfl⟩
              have hend := FEnd_any _ _ _ _ hR
              have hQ : BunR w5 (fun j => F0 j ∨ (Kb ≤ j ∧ ¬ j = B)) (bunCells A1 p cc A2 q d) q0 := by
                rw [hq0]
                refine ⟨A1, p, cc, A2, q, d, rfl, hO.le, hO.cap, ?_, hP.le, hP.cap, ?_⟩
                · refine ArrOf.of_flatE refCells (hO.arr fun j _ hj => .inr ⟨hA j hj, by have := hA j hj; omega⟩) Hp.out.symm refCells_len fun a ha => ⟨rfl, ?_⟩
                  have := Hpre.out a ha
                  unfold maxLen; omega
                · have hflat : Arr w5 (fun j => F0 j ∨ (Kb ≤ j ∧ ¬ j = B)) 1 A2 q us := hP.arr fun j _ hj => .inr ⟨by have := hA2 j hj; omega, by have := hA2 j hj; omega⟩
                  have hul : us.length = q := by have := hP.len; omega
                  refine ArrOf.of_arr (ys := us.map fun u => [u]) ?_ (by intro y hy; obtain ⟨u, _, rfl⟩ := List.mem_map.1 hy; rfl) Hq.out.symm fun i a ha => ?_
                  · have e : (us.map fun u => [u]).flatten = us := by
                      clear hflat hul Hus hP
                      induction us with
                      | nil => rfl
                      | cons u us ih => simp [ih]
                    rw [e]; exact hflat
                  · obtain ⟨u, hu, hbu⟩ := Hus.out i a ha
                    exact ⟨[u], by rw [List.getElem?_map, hu]; rfl, hbu.more fun j _ hj => .inl hj⟩
              have hosz : ∀ x ∈ q0.objs, x.length ≤ 110000 := by rw [hq0]; exact Hpre2.out
              rw [← hq0] at hof hbad
              obtain ⟨yq, hyq⟩ : ∃ yq, yq = bunCells A1 p cc A2 q d := ⟨_, rfl⟩
              have hall := hB.all
              rw [← hyq] at hQ hall
              have Q2l : Hid (yq.length = 2) := by show _ = _; rw [hyq]; rfl
              have Q2a : Hid (yq.toArray.size = 2) := by show _ = _; rw [hyq]; rfl
              have Q1a : Hid (yq.toArray.all (·.oneCell') = true) := by show _ = _; rw [hyq]; exact bunCells_ones _ _ _ _ _ _
              have hput := PutBundle_any w5 _ yq q0 hQ.tight (fun j hj => hj.2) hosz
              have Hput := Lib.hid hput
              have HRI := Lib.hid hR
              clear hq0 hyq hosz hB hO hP hput hend hR
              by_cases hev : Rd.End r' = 0
              · have be : (Rd.End r' != 0) = false := by simpa using hev
                have hd := decide_eq_true hev
                rw [hd, Bool.true_and] at hof hbad
                clear hd hev
                cases hm : bunMay q0 with
                | true =>
                  have he0 : bunErr q0 = 0 := by rw [bunErr, hm]; rfl
                  rw [hm, if_pos rfl] at hof hbad
                  have He1 := Lib.hid hof
                  have He2 := Lib.hid hbad
                  clear hof hbad
                  clear hm
                  go_wp2_with (first
                    | (refine wpList_load_agg rfl 112 (.tmp 5) rfl g 0 rfl yq _ hall Try.underlying112 rfl (by rw [Q2l.out]; exact bun_size) ?_)
                    | (go_at_call 69
                       refine Hput.out.mono ?_
                       rintro e w7 ⟨A7, n7, c7, rfl, hf7, hI7⟩
                       rw [he0]
                       have hall7 : ∀ j u, yq[j]? = some u → w7.cell? ⟨g, 0 + j, none⟩ = some u := fun j u hu => hf7.cell' (hall j u hu) id
                       have hBz7 := hBz.fr hf7 id
                       have hQ7 := hQ.fr hf7 fun _ _ => id
                       have hF7 := hF.trans hf7 fun _ _ => id
                       have hend := FEnd_any _ _ _ _ (HRI.out.fr hf7 id fun _ _ => id)
                       clear hI7)
                    | (go_at_call 44; refine hend.mono ?_; rintro e w' ⟨rfl, rfl⟩)
                    | (refine wpList_load_agg rfl 112 (.tmp 5) rfl g 0 rfl yq _ hall7 Try.underlying112 rfl (by rw [Q2l.out]; exact bun_size) ?_)
                    | (refine wpList_store_rowE rfl 112 (.tmp 2) (.tmp 75) rfl B yq.toArray rfl rfl 112 zc.toArray hBz7 (by rw [Q2a.out]; exact bun_size) (by rw [Z2a.out, Q2a.out]) Q1a.out ?_))
                  obtain ⟨hft, hBt⟩ := setRow_fr' (ds := yq.toArray) hBz7
              
                  refine bodyPost_ret (results_cell2E (cs := yq) rfl rfl (fun j v hv => by rw [Nat.zero_add, hBt.cell]; simpa using hv) Try.underlying112 rfl (by rw [Q2l.out]; exact bun_size)) rfl ?_
                  rw [He1.out, He2.out]
                  refine ⟨yq, rfl, hF7.new hft fun j hj => .inr (by have := HB.out; omega), ?_⟩
                  obtain ⟨A, n, c, B', m, d, k1, k2, k3, k4, k5, k6, k7⟩ := hQ7.fr hft fun j hj e => hj.elim (fun hj => by have := hG0 j hj; omega) fun hj => hj.2 e
                  have hlow : ∀ j, (F0 j ∨ (Kb ≤ j ∧ ¬ j = B)) → F0 j ∨ w.heap.size ≤ j := fun j hj => hj.imp id fun hj => by have := HB.out; omega
                  exact ⟨A, n, c, B', m, d, k1, k2, k3, ArrOf.more k4 (by omega) (fun j _ hj => hlow j hj) fun _ _ _ h => h, k5, k6, k7.more fun j _ hj => hlow j hj⟩
                | false =>
                  have he0 : bunErr q0 = 340 := by rw [bunErr, hm]; rfl
                  rw [hm, if_neg (by simp)] at hof hbad
                  have He1 := Lib.hid hof
                  have He2 := Lib.hid hbad
                  clear hof hbad
                  clear hm
                  go_wp2_with (first
                    | (refine wpList_load_agg rfl 112 (.tmp 5) rfl g 0 rfl yq _ hall Try.underlying112 rfl (by rw [Q2l.out]; exact bun_size) ?_)
                    | (go_at_call 69
                       refine Hput.out.mono ?_
                       rintro e w7 ⟨A7, n7, c7, rfl, hf7, hI7⟩
                       rw [he0]
                       have hall7 : ∀ j u, yq[j]? = some u → w7.cell? ⟨g, 0 + j, none⟩ = some u := fun j u hu => hf7.cell' (hall j u hu) id
                       have hBz7 := hBz.fr hf7 id
                       have hQ7 := hQ.fr hf7 fun _ _ => id
                       have hF7 := hF.trans hf7 fun _ _ => id
                       have hend := FEnd_any _ _ _ _ (HRI.out.fr hf7 id fun _ _ => id)
                       clear hI7)
                    | (go_at_call 44; refine hend.mono ?_; rintro e w' ⟨rfl, rfl⟩)
                    | (refine wpList_build_eqE rfl 112 #[] rfl [] rfl zc.toArray Hzb.out ?_)
                    | (refine wpList_store_rowE rfl 112 (.tmp 2) (.tmp 74) rfl B zc.toArray rfl rfl 112 zc.toArray hBz7 (by rw [Z2a.out]; exact bun_size) rfl Z1a.out ?_))
                  obtain ⟨hft, hBt⟩ := setRow_fr' (ds := zc.toArray) hBz7
              
                  refine bodyPost_ret (results_cell2E (cs := zc) rfl rfl (fun j v hv => by rw [Nat.zero_add, hBt.cell]; simpa using hv) Try.underlying112 rfl (by rw [Z2l.out]; exact bun_size)) rfl ?_
                  rw [He1.out, He2.out]
                  have hgz := GotBun.zero (G := (fun k => F0 k ∨ w.heap.size ≤ k)) (hF7.new hft fun j hj => .inr (by have := HB.out; omega))
                  rw [← Hzc.out] at hgz
                  exact hgz
              · have be : (Rd.End r' != 0) = true := by simpa using hev
                have hd := decide_eq_false hev
                rw [hd, Bool.false_and, if_neg (by simp)] at hof hbad
                have He1 := Lib.hid hof
                have He2 := Lib.hid hbad
                clear hof hbad
                clear hd hev
                obtain ⟨be0, he0⟩ : ∃ v : Int, bunErr q0 = v := ⟨_, rfl⟩
                go_wp2_with (first
                  | (refine wpList_load_agg rfl 112 (.tmp 5) rfl g 0 rfl yq _ hall Try.underlying112 rfl (by rw [Q2l.out]; exact bun_size) ?_)
                  | (go_at_call 69
                     refine Hput.out.mono ?_
                     rintro e w7 ⟨A7, n7, c7, rfl, hf7, hI7⟩
                     rw [he0]
                     have hall7 : ∀ j u, yq[j]? = some u → w7.cell? ⟨g, 0 + j, none⟩ = some u := fun j u hu => hf7.cell' (hall j u hu) id
                     have hBz7 := hBz.fr hf7 id
                     have hQ7 := hQ.fr hf7 fun _ _ => id
                     have hF7 := hF.trans hf7 fun _ _ => id
                     have hend := FEnd_any _ _ _ _ (HRI.out.fr hf7 id fun _ _ => id)
                     clear hI7)
                  | (go_at_call 44; refine hend.mono ?_; rintro e w' ⟨rfl, rfl⟩)
                  | (refine wpList_build_eqE rfl 112 #[] rfl [] rfl zc.toArray Hzb.out ?_)
                  | (refine wpList_store_rowE rfl 112 (.tmp 2) (.tmp 74) rfl B zc.toArray rfl rfl 112 zc.toArray hBz7 (by rw [Z2a.out]; exact bun_size) rfl Z1a.out ?_))
                obtain ⟨hft, hBt⟩ := setRow_fr' (ds := zc.toArray) hBz7
              
                refine bodyPost_ret (results_cell2E (cs := zc) rfl rfl (fun j v hv => by rw [Nat.zero_add, hBt.cell]; simpa using hv) Try.underlying112 rfl (by rw [Z2l.out]; exact bun_size)) rfl ?_
                rw [He1.out, He2.out]
                have hgz := GotBun.zero (G := (fun k => F0 k ∨ w.heap.size ≤ k)) (hF7.new hft fun j hj => .inr (by have := HB.out; omega))
                rw [← Hzc.out] at hgz
                exact hgz
          · obtain ⟨hof, hbad⟩ := bun_exit HP.out Hy1.out Hy2.out (.inl (by omega))
            clear cb
            obtain ⟨q0, hq0⟩ : ∃ q0 : Bun, q0 = ⟨pre, pre2⟩ := ⟨_, rfl⟩
            have hend := FEnd_any _ _ _ _ hR
            have hQ : BunR w5 (fun j => F0 j ∨ (Kb ≤ j ∧ ¬ j = B)) (bunCells A1 p cc A2 q d) q0 := by
              rw [hq0]
              refine ⟨A1, p, cc, A2, q, d, rfl, hO.le, hO.cap, ?_, hP.le, hP.cap, ?_⟩
              · refine ArrOf.of_flatE refCells (hO.arr fun j _ hj => .inr ⟨hA j hj, by have := hA j hj; omega⟩) Hp.out.symm refCells_len fun a ha => ⟨rfl, ?_⟩
                have := Hpre.out a ha
                unfold maxLen; omega
              · have hflat : Arr w5 (fun j => F0 j ∨ (Kb ≤ j ∧ ¬ j = B)) 1 A2 q us := hP.arr fun j _ hj => .inr ⟨by have := hA2 j hj; omega, by have := hA2 j hj; omega⟩
                have hul : us.length = q := by have := hP.len; omega
                refine ArrOf.of_arr (ys := us.map fun u => [u]) ?_ (by intro y hy; obtain ⟨u, _, rfl⟩ := List.mem_map.1 hy; rfl) Hq.out.symm fun i a ha => ?_
                · have e : (us.map fun u => [u]).flatten = us := by
                    clear hflat hul Hus hP
                    induction us with
                    | nil => rfl
                    | cons u us ih => simp [ih]
                  rw [e]; exact hflat
                · obtain ⟨u, hu, hbu⟩ := Hus.out i a ha
                  exact ⟨[u], by rw [List.getElem?_map, hu]; rfl, hbu.more fun j _ hj => .inl hj⟩
            have hosz : ∀ x ∈ q0.objs, x.length ≤ 110000 := by rw [hq0]; exact Hpre2.out
            rw [← hq0] at hof hbad
            obtain ⟨yq, hyq⟩ : ∃ yq, yq = bunCells A1 p cc A2 q d := ⟨_, rfl⟩
            have hall := hB.all
            rw [← hyq] at hQ hall
            have Q2l : Hid (yq.length = 2) := by show _ = _; rw [hyq]; rfl
            have Q2a : Hid (yq.toArray.size = 2) := by show _ = _; rw [hyq]; rfl
            have Q1a : Hid (yq.toArray.all (·.oneCell') = true) := by show _ = _; rw [hyq]; exact bunCells_ones _ _ _ _ _ _
            have hput := PutBundle_any w5 _ yq q0 hQ.tight (fun j hj => hj.2) hosz
            have Hput := Lib.hid hput
            have HRI := Lib.hid hR
            clear hq0 hyq hosz hB hO hP hput hend hR
            by_cases hev : Rd.End r' = 0
            · have be : (Rd.End r' != 0) = false := by simpa using hev
              have hd := decide_eq_true hev
              rw [hd, Bool.true_and] at hof hbad
              clear hd hev
              cases hm : bunMay q0 with
              | true =>
                have he0 : bunErr q0 = 0 := by rw [bunErr, hm]; rfl
                rw [hm, if_pos rfl] at hof hbad
                have He1 := Lib.hid hof
                have He2 := Lib.hid hbad
                clear hof hbad
                clear hm
                go_wp2_with (first
                  | (refine wpList_load_agg rfl 112 (.tmp 5) rfl g 0 rfl yq _ hall Try.underlying112 rfl (by rw [Q2l.out]; exact bun_size) ?_)
                  | (go_at_call 69
                     refine Hput.out.mono ?_
                     rintro e w7 ⟨A7, n7, c7, rfl, hf7, hI7⟩
                     rw [he0]
                     have hall7 : ∀ j u, yq[j]? = some u → w7.cell? ⟨g, 0 + j, none⟩ = some u := fun j u hu => hf7.cell' (hall j u hu) id
                     have hBz7 := hBz.fr hf7 id
                     have hQ7 := hQ.fr hf7 fun _ _ => id
                     have hF7 := hF.trans hf7 fun _ _ => id
                     have hend := FEnd_any _ _ _ _ (HRI.out.fr hf7 id fun _ _ => id)
                     clear hI7)
                  | (go_at_call 44; refine hend.mono ?_; rintro e w' ⟨rfl, rfl⟩)
                  | (refine wpList_load_agg rfl 112 (.tmp 5) rfl g 0 rfl yq _ hall7 Try.underlying112 rfl (by rw [Q2l.out]; exact bun_size) ?_)
                  | (refine wpList_store_rowE rfl 112 (.tmp 2) (.tmp 75) rfl B yq.toArray rfl rfl 112 zc.toArray hBz7 (by rw [Q2a.out]; exact bun_size) (by rw [Z2a.out, Q2a.out]) Q1a.out ?_))
                obtain ⟨hft, hBt⟩ := setRow_fr' (ds := yq.toArray) hBz7
            
                refine bodyPost_ret (results_cell2E (cs := yq) rfl rfl (fun j v hv => by rw [Nat.zero_add, hBt.cell]; simpa using hv) Try.underlying112 rfl (by rw [Q2l.out]; exact bun_size)) rfl ?_
                rw [He1.out, He2.out]
                refine ⟨yq, rfl, hF7.new hft fun j hj => .inr (by have := HB.out; omega), ?_⟩
                obtain ⟨A, n, c, B', m, d, k1, k2, k3, k4, k5, k6, k7⟩ := hQ7.fr hft fun j hj e => hj.elim (fun hj => by have := hG0 j hj; omega) fun hj => hj.2 e
                have hlow : ∀ j, (F0 j ∨ (Kb ≤ j ∧ ¬ j = B)) → F0 j ∨ w.heap.size ≤ j := fun j hj => hj.imp id fun hj => by have := HB.out; omega
                exact ⟨A, n, c, B', m, d, k1, k2, k3, ArrOf.more k4 (by omega) (fun j _ hj => hlow j hj) fun _ _ _ h => h, k5, k6, k7.more fun j _ hj => hlow j hj⟩
              | false =>
                have he0 : bunErr q0 = 340 := by rw [bunErr, hm]; rfl
                rw [hm, if_neg (by simp)] at hof hbad
                have He1 := Lib.hid hof
                have He2 := Lib.hid hbad
                clear hof hbad
                clear hm
                go_wp2_with (first
                  | (refine wpList_load_agg rfl 112 (.tmp 5) rfl g 0 rfl yq _ hall Try.underlying112 rfl (by rw [Q2l.out]; exact bun_size) ?_)
                  | (go_at_call 69
                     refine Hput.out.mono ?_
                     rintro e w7 ⟨A7, n7, c7, rfl, hf7, hI7⟩
                     rw [he0]
                     have hall7 : ∀ j u, yq[j]? = some u → w7.cell? ⟨g, 0 + j, none⟩ = some u := fun j u hu => hf7.cell' (hall j u hu) id
                     have hBz7 := hBz.fr hf7 id
                     have hQ7 := hQ.fr hf7 fun _ _ => id
                     have hF7 := hF.trans hf7 fun _ _ => id
                     have hend := FEnd_any _ _ _ _ (HRI.out.fr hf7 id fun _ _ => id)
                     clear hI7)
                  | (go_at_call 44; refine hend.mono ?_; rintro e w' ⟨rfl, rfl⟩)
                  | (refine wpList_build_eqE rfl 112 #[] rfl [] rfl zc.toArray Hzb.out ?_)
                  | (refine wpList_store_rowE rfl 112 (.tmp 2) (.tmp 74) rfl B zc.toArray rfl rfl 112 zc.toArray hBz7 (by rw [Z2a.out]; exact bun_size) rfl Z1a.out ?_))
                obtain ⟨hft, hBt⟩ := setRow_fr' (ds := zc.toArray) hBz7
            
                refine bodyPost_ret (results_cell2E (cs := zc) rfl rfl (fun j v hv => by rw [Nat.zero_add, hBt.cell]; simpa using hv) Try.underlying112 rfl (by rw [Z2l.out]; exact bun_size)) rfl ?_
                rw [He1.out, He2.out]
                have hgz := GotBun.zero (G := (fun k => F0 k ∨ w.heap.size ≤ k)) (hF7.new hft fun j hj => .inr (by have := HB.out; omega))
                rw [← Hzc.out] at hgz
                exact hgz
            · have be : (Rd.End r' != 0) = true := by simpa using hev
              have hd := decide_eq_false hev
              rw [hd, Bool.false_and, if_neg (by simp)] at hof hbad
              have He1 := Lib.hid hof
              have He2 := Lib.hid hbad
              clear hof hbad
              clear hd hev
              obtain ⟨be0, he0⟩ : ∃ v : Int, bunErr q0 = v := ⟨_, rfl⟩
              go_wp2_with (first
                | (refine wpList_load_agg rfl 112 (.tmp 5) rfl g 0 rfl yq _ hall Try.underlying112 rfl (by rw [Q2l.out]; exact bun_size) ?_)
                | (go_at_call 69
                   refine Hput.out.mono ?_
                   rintro e w7 ⟨A7, n7, c7, rfl, hf7, hI7⟩
                   rw [he0]
                   have hall7 : ∀ j u, yq[j]? = some u → w7.cell? ⟨g, 0 + j, none⟩ = some u := fun j u hu => hf7.cell' (hall j u hu) id
                   have hBz7 := hBz.fr hf7 id
                   have hQ7 := hQ.fr hf7 fun _ _ => id
                   have hF7 := hF.trans hf7 fun _ _ => id
                   have hend := FEnd_any _ _ _ _ (HRI.out.fr hf7 id fun _ _ => id)
                   clear hI7)
                | (go_at_call 44; refine hend.mono ?_; rintro e w' ⟨rfl, rfl⟩)
                | (refine wpList_build_eqE rfl 112 #[] rfl [] rfl zc.toArray Hzb.out ?_)
                | (refine wpList_store_rowE rfl 112 (.tmp 2) (.tmp 74) rfl B zc.toArray rfl rfl 112 zc.toArray hBz7 (by rw [Z2a.out]; exact bun_size) rfl Z1a.out ?_))
              obtain ⟨hft, hBt⟩ := setRow_fr' (ds := zc.toArray) hBz7
            
              refine bodyPost_ret (results_cell2E (cs := zc) rfl rfl (fun j v hv => by rw [Nat.zero_add, hBt.cell]; simpa using hv) Try.underlying112 rfl (by rw [Z2l.out]; exact bun_size)) rfl ?_
              rw [He1.out, He2.out]
              have hgz := GotBun.zero (G := (fun k => F0 k ∨ w.heap.size ≤ k)) (hF7.new hft fun j hj => .inr (by have := HB.out; omega))
              rw [← Hzc.out] at hgz
              exact hgz
    · have hk0 : k = 0 := by omega
      subst hk0
      have hparA : ∀ v2 r3, Rd.N r' 2000 = (v2, r3) → bunParse l = (⟨pre, (objsGo v2 r3).1⟩, (objsGo v2 r3).2) := fun v2 r3 e3 => by
        have q1 := Hz1.out
        have q2 := Hz2.out
        simp only [refsGo, List.append_nil] at q1 q2
        rw [← q1]
        rw [← q2] at e3
        exact bunParse_eq (Hr0.out ▸ E1.out) E2.out e3
      obtain ⟨v2, r3, e3⟩ : ∃ v r4, Rd.N r' 2000 = (v, r4) := ⟨_, _, rfl⟩
      have HP : Hid ((bunParse l = (⟨pre, (objsGo v2 r3).1⟩, (objsGo v2 r3).2)) ∨ (r3.good = false ∧ Rd.End (bunParse l).2 ≠ 0)) := Lib.hid (.inl (hparA v2 r3 e3))
      have hv2 : v2 ≤ 2000 := by have := Rd.N_le r' 2000; rw [e3] at this; exact this
      have hcall := FN_litE hR' 2000 2000 (by simp)
      rw [e3] at hcall
      have Hcall := Lib.hid hcall
      clear e3 hcall hparA hR hR'
      go_wp2_with (go_at_call 35; refine Hcall.out.mono ?_; rintro e w4 ⟨rfl, hf4, hR⟩)
      have hbKb : b < Kb := by omega
      have hAb : ∀ j, inB A1 j → ¬ j = b := fun j hj => by have := hA j hj; omega
      replace hB := hB.fr hf4 hgb
      replace hO := hO.fr hf4 hAb
      replace hBz := hBz.fr hf4 hBb
      replace hF := hF.new hf4 fun j hj => .inr (by have := HB.out; omega)
      have s4 := hf4.size
      have hKb4 : Kb ≤ w4.heap.size := by omega
      obtain ⟨Km, hKm⟩ : ∃ Km, Km = w4.heap.size := ⟨_, rfl⟩
      have hA4 : ∀ j, inB A1 j → j < Km := fun j hj => by rw [hKm]; exact hO.lt hj
      have hKm1 : Km ≤ w4.heap.size := by omega
      have hKm2 : Kb ≤ Km := by omega
      clear hf4 hKm Hcall s4 cb
      go_loopw [9] (fun v wr => ∃ (pre2 : List (List UInt8)) (r' : Rd) (k q d : Nat) (A2 : Option Addr) (us : List Value), v = .int .u64 (q : Nat) ∧ k + q = v2 ∧ q = pre2.length ∧ (objsGo v2 r3).1 = pre2 ++ (objsGo k r').1 ∧ (objsGo v2 r3).2 = (objsGo k r').2 ∧ RfAt wr F0 b r' ∧ BunBlk wr g A1 p cc A2 q d ∧ Own wr 162 33 A1 p cc (pre.flatMap refCells) ∧ Own wr 22 1 A2 q d us ∧ (∀ (i : Nat) (a : List UInt8), pre2[i]? = some a → ∃ u : Value, us[i]? = some u ∧ BytR wr F0 [u] a) ∧ (∀ j, inB A2 j → Km ≤ j) ∧ (∀ x ∈ pre2, x.length ≤ 110000) ∧ Blk wr B 112 zc.toArray ∧ Fr NoB w wr ∧ Km ≤ wr.heap.size) (fun v _ => v2 - (intOf v).toNat)
      case atStart => exact ⟨[], r3, v2, 0, 0, none, [], rfl, by omega, rfl, by simp, rfl, hR, hB, hO, Own.nil _ _ _, fun i a ha => by simp at ha, fun j hj => absurd hj (inB_none j), fun x hx => by simp at hx, hBz, hF, hKm1⟩
      case round =>
        clear hR hB hO hBz hF
        obtain ⟨pre2, r', k, q, d, A2, us, rfl, hkq, hq, hz1, hz2, hR, hB, hO, hP, hus, hA2, hpre2, hBz, hF, hKw'⟩ := hrel
        obtain ⟨w5, rfl⟩ : ∃ w5 : World, w5 = wr := ⟨_, rfl⟩
        have Hq := Lib.hid hq
        have Hy1 := Lib.hid hz1
        have Hy2 := Lib.hid hz2
        have Hus := Lib.hid hus
        have Hpre2 := Lib.hid hpre2
        have cb := hR.cell1
        clear hq hz1 hz2 hus hpre2
        by_cases hqv : (q : Int) < (v2 : Int)
        · cases hgd : r'.good with
          | true =>
            rw [hgd] at cb
            obtain ⟨k, rfl⟩ : ∃ k0, k = k0 + 1 := ⟨k - 1, by omega⟩
            have hz1 := Hy1.out
            have hz2 := Hy2.out
            rw [objsGo] at hz1 hz2
            have htl := Rd.Text_leE r' 110000 110000 (by omega)
            have hcall := FText_any _ _ _ _ 110000 (hR.fr (Fr.drew (Fr.refl NoB w5)) id fun _ _ => id) (by omega)
            generalize hqq : Rd.Text r' 110000 = qq at hz1 hz2 hcall htl
            obtain ⟨lt, rt⟩ := qq
            unfold FReadBytes at hcall
            dsimp only at hz1 hz2 hcall htl
            have Hcall := Lib.hid hcall
            clear Hy1 Hy2
            have Hy1 := Lib.hid hz1
            have Hy2 := Lib.hid hz2
            clear hz1 hz2 hcall hqq hgd
            go_wp2
            refine wp_region_held (S := fun _ => True) rfl ?_
            refine wpAnyH_take (i := 0) rfl (by decide +kernel) (by decide +kernel) (by decide +kernel) (fun _ _ _ h => h) (Or.inl ⟨by kernel_rfl, fun W _ => by go_simp; with_reducible rfl⟩) trivial ?_
            refine wpAnyH_take (i := 2) rfl (by decide +kernel) (by decide +kernel) (by decide +kernel) (fun _ _ _ h => h) (Or.inl ⟨by kernel_rfl, fun W _ => by go_simp; with_reducible rfl⟩) trivial ?_
            go_simp
            have hB9 := hB.fr (Fr.drew (Fr.refl NoB w5)) id
            have hP9 := hP.fr (Fr.drew (Fr.refl NoB w5)) fun _ _ => id
            refine wpAnyH_all (rs := [1, 3]) (by decide +kernel) (by simp) ?_
            intro i hi
            simp only [List.mem_cons, List.not_mem_nil, or_false] at hi
            rcases hi with rfl | rfl
            · have qx := hB9.c1
              refine wpOp_run (v := .slice A2 q d) (w' := w5.drew) rfl (by kernel_rfl) (by go_simp) ⟨trivial, ?_⟩
              clear qx
              go_simp
              refine wpAnyH_all (rs := [3]) (by decide +kernel) (by simp) ?_
              intro i hi
              simp only [List.mem_cons, List.not_mem_nil, or_false] at hi
              subst hi
              refine wpOp_call rfl rfl 39 (enters_of Try.func39 (by kernel_rfl) rfl) #[.tmp 57, .const (.int .i64 110000)] _ rfl _ rfl Hcall.out ?_
              rintro e wt ⟨At, ct, rfl, hft, hRt, hlt1, hlt2, hBt0⟩
              refine ⟨_, rfl, trivial, ?_⟩
              replace hB9 := hB9.fr hft hgb
              replace hP9 := hP9.fr hft (fun j hj e => by have := hA2 j hj; omega)
              go_simp
              refine wpAnyH_all (rs := [4]) (by decide +kernel) (by simp) ?_
              intro i hi
              simp only [List.mem_cons, List.not_mem_nil, or_false] at hi
              subst hi
              refine wpOp_run (v := .slice (some ⟨wt.heap.size, 0, none⟩) 1 1) (w' := wt.alloc (.cells #[.slice At lt.length ct] 22)) rfl (by kernel_rfl) (by go_simp) ⟨trivial, ?_⟩
              replace hB9 := hB9.fr ((Fr.refl NoB wt).alloc (.cells #[.slice At lt.length ct] 22)) id
              replace hP9 := hP9.alloc (.cells #[.slice At lt.length ct] 22)
              go_simp
              refine wpAnyH_all (rs := [5]) (by decide +kernel) (by simp) ?_
              intro i hi
              simp only [List.mem_cons, List.not_mem_nil, or_false] at hi
              subst hi
              refine wpOp_app el_byt rfl (by kernel_rfl) (.tmp 56) (.tmp 59) rfl A2 q d _ rfl hP9 _ _ 1 1 _ rfl (Arr.one _ _ _) (by simp [Value.oneCell']) (by omega) ?_
              intro A3 d3 wa hPa hfa hina
              have hga : ¬ inB A2 g := fun h => by have := hA2 g h; omega
              have hBa := hB9.fr hfa hga
              refine ⟨trivial, ?_⟩
              go_simp
              refine wpAnyH_take (i := 6) rfl (by decide +kernel) (by decide +kernel) (by decide +kernel) (fun _ _ _ h => h) (Or.inl ⟨by kernel_rfl, fun W _ => by go_simp; with_reducible rfl⟩) trivial ?_
              go_simp
              refine wpAnyH_all (rs := [7]) (by decide +kernel) (by simp) ?_
              intro i hi
              simp only [List.mem_cons, List.not_mem_nil, or_false] at hi
              subst hi
              have qx := hBa.c1
              have qy := hBa.blk.frozen 1
              refine wpOp_skip (w' := wa.setCell ⟨g, 1, none⟩ (.slice A3 (q + 1) d3)) rfl (by kernel_rfl) (by go_simp) ⟨trivial, ?_⟩
              clear qx qy
              go_simp
              refine wpAnyH_done (by decide +kernel) ?_ _
              have hsz1 := hft.size
              have hsz2 := hfa.size
              simp only [World.size_alloc] at hsz2 hina
              have hsz0 : w5.drew.heap.size = w5.heap.size := rfl
              have hfg : Fr (· = g) wa (wa.setCell ⟨g, 1, none⟩ (.slice A3 (q + 1) d3)) := (Fr.refl _ _).at_ _ _
              have hfT : Fr (fun j => j = b ∨ j = g ∨ inB A2 j) w5 (wa.setCell ⟨g, 1, none⟩ (.slice A3 (q + 1) d3)) := ((((Fr.drew (Fr.refl (fun j => j = b ∨ j = g ∨ inB A2 j) w5)).trans hft fun _ _ h => .inl h).alloc (.cells #[.slice At lt.length ct] 22)).trans hfa fun _ _ h => .inr (.inr h)).trans hfg fun _ _ h => .inr (.inl h)
              have hina2 : ∀ j, inB A3 j → Km ≤ j := fun j hj => (hina j hj).elim (hA2 j) fun h => by omega
              have hlow : ∀ j, (j = b ∨ j = g ∨ inB A2 j) → w.heap.size ≤ j ∧ B ≤ j ∧ ¬ j = B := fun j h => by
                have := HB.out
                rcases h with h | h | h
                · omega
                · omega
                · have := hA2 j h; omega
              have hR2 := ((hRt.fr ((Fr.refl NoB wt).alloc (.cells #[.slice At lt.length ct] 22)) id fun _ _ => id).fr hfa (fun h => by have := hA2 b h; omega) fun j hj h => by have := hG0 j hj; have := hA2 j h; omega).fr hfg (Ne.symm hgb) fun j hj h => by have := hG0 j hj; omega
              have hBt : Byt (wa.setCell ⟨g, 1, none⟩ (.slice A3 (q + 1) d3)) F0 At lt.length lt :=
                ((Byt.fr hBt0 ((Fr.refl NoB wt).alloc (.cells #[.slice At lt.length ct] 22)) fun _ _ => id).fr hfa fun j hj h => by have := hG0 j hj; have := hA2 j h; omega).fr hfg fun j hj h => by have := hG0 j hj; omega
              have hus2 : ∀ (i : Nat) (a : List UInt8), (pre2 ++ [lt])[i]? = some a → ∃ u : Value, (us ++ [.slice At lt.length ct])[i]? = some u ∧ BytR (wa.setCell ⟨g, 1, none⟩ (.slice A3 (q + 1) d3)) F0 [u] a := fun i a ha => by
                have hul : us.length = pre2.length := by have := hP.len; have := Hq.out; omega
                rcases Nat.lt_or_ge i pre2.length with hi | hi
                · rw [List.getElem?_append_left hi] at ha
                  obtain ⟨u, hu, hbu⟩ := Hus.out i a ha
                  exact ⟨u, by rw [List.getElem?_append_left (by omega)]; exact hu, hbu.fr hfT fun j hj h => by have := hG0 j hj; have := hlow j h; omega⟩
                · have hie : i = pre2.length := by
                    have := (List.getElem?_eq_some_iff.1 ha).1
                    simp at this; omega
                  subst hie
                  rw [List.getElem?_append_right (Nat.le_refl _), Nat.sub_self] at ha
                  injection ha with ha
                  subst ha
                  exact ⟨_, by rw [← hul, List.getElem?_append_right (Nat.le_refl _), Nat.sub_self]; rfl, At, lt.length, ct, rfl, hlt1, hlt2, hBt⟩
              have hpre2 : ∀ x ∈ pre2 ++ [lt], x.length ≤ 110000 := fun x hx => by
                rcases List.mem_append.1 hx with hx | hx
                · exact Hpre2.out x hx
                · rw [List.mem_singleton] at hx; rw [hx]; exact htl
              go_wp2
              go_roundw
              case rel => exact ⟨pre2 ++ [lt], rt, k, q + 1, d3, A3, us ++ [.slice At lt.length ct], by go_num, by omega, by rw [List.length_append, ← Hq.out]; rfl, by rw [Hy1.out]; simp, Hy2.out, hR2, hBa.s1 A3 (q + 1) d3, hO.fr hfT (fun j hj h => by rcases h with h | h | h; (have := hA j hj; omega); (have := hA j hj; omega); (have := hA2 j h; have := hA4 j hj; omega)), hPa.fr hfg (fun j hj h => by have := hina2 j hj; omega), hus2, hina2, hpre2, hBz.fr hfT (fun h => (hlow B h).2.2 rfl), hF.new hfT fun j hj => .inr (hlow j hj).1, by have := hfT.size; omega⟩
              case measure => (simp [intOf] <;> omega)
            · refine wpOp_call rfl rfl 39 (enters_of Try.func39 (by kernel_rfl) rfl) #[.tmp 57, .const (.int .i64 110000)] _ rfl _ rfl Hcall.out ?_
              rintro e wt ⟨At, ct, rfl, hft, hRt, hlt1, hlt2, hBt0⟩
              refine ⟨_, rfl, trivial, ?_⟩
              replace hB9 := hB9.fr hft hgb
              replace hP9 := hP9.fr hft (fun j hj e => by have := hA2 j hj; omega)
              go_simp
              refine wpAnyH_all (rs := [1, 4]) (by decide +kernel) (by simp) ?_
              intro i hi
              simp only [List.mem_cons, List.not_mem_nil, or_false] at hi
              rcases hi with rfl | rfl
              · have qx := hB9.c1
                refine wpOp_run (v := .slice A2 q d) (w' := wt) rfl (by kernel_rfl) (by go_simp) ⟨trivial, ?_⟩
                clear qx
                go_simp
                refine wpAnyH_all (rs := [4]) (by decide +kernel) (by simp) ?_
                intro i hi
                simp only [List.mem_cons, List.not_mem_nil, or_false] at hi
                subst hi
                refine wpOp_run (v := .slice (some ⟨wt.heap.size, 0, none⟩) 1 1) (w' := wt.alloc (.cells #[.slice At lt.length ct] 22)) rfl (by kernel_rfl) (by go_simp) ⟨trivial, ?_⟩
                replace hB9 := hB9.fr ((Fr.refl NoB wt).alloc (.cells #[.slice At lt.length ct] 22)) id
                replace hP9 := hP9.alloc (.cells #[.slice At lt.length ct] 22)
                go_simp
                refine wpAnyH_all (rs := [5]) (by decide +kernel) (by simp) ?_
                intro i hi
                simp only [List.mem_cons, List.not_mem_nil, or_false] at hi
                subst hi
                refine wpOp_app el_byt rfl (by kernel_rfl) (.tmp 56) (.tmp 59) rfl A2 q d _ rfl hP9 _ _ 1 1 _ rfl (Arr.one _ _ _) (by simp [Value.oneCell']) (by omega) ?_
                intro A3 d3 wa hPa hfa hina
                have hga : ¬ inB A2 g := fun h => by have := hA2 g h; omega
                have hBa := hB9.fr hfa hga
                refine ⟨trivial, ?_⟩
                go_simp
                refine wpAnyH_take (i := 6) rfl (by decide +kernel) (by decide +kernel) (by decide +kernel) (fun _ _ _ h => h) (Or.inl ⟨by kernel_rfl, fun W _ => by go_simp; with_reducible rfl⟩) trivial ?_
                go_simp
                refine wpAnyH_all (rs := [7]) (by decide +kernel) (by simp) ?_
                intro i hi
                simp only [List.mem_cons, List.not_mem_nil, or_false] at hi
                subst hi
                have qx := hBa.c1
                have qy := hBa.blk.frozen 1
                refine wpOp_skip (w' := wa.setCell ⟨g, 1, none⟩ (.slice A3 (q + 1) d3)) rfl (by kernel_rfl) (by go_simp) ⟨trivial, ?_⟩
                clear qx qy
                go_simp
                refine wpAnyH_done (by decide +kernel) ?_ _
                have hsz1 := hft.size
                have hsz2 := hfa.size
                simp only [World.size_alloc] at hsz2 hina
                have hsz0 : w5.drew.heap.size = w5.heap.size := rfl
                have hfg : Fr (· = g) wa (wa.setCell ⟨g, 1, none⟩ (.slice A3 (q + 1) d3)) := (Fr.refl _ _).at_ _ _
                have hfT : Fr (fun j => j = b ∨ j = g ∨ inB A2 j) w5 (wa.setCell ⟨g, 1, none⟩ (.slice A3 (q + 1) d3)) := ((((Fr.drew (Fr.refl (fun j => j = b ∨ j = g ∨ inB A2 j) w5)).trans hft fun _ _ h => .inl h).alloc (.cells #[.slice At lt.length ct] 22)).trans hfa fun _ _ h => .inr (.inr h)).trans hfg fun _ _ h => .inr (.inl h)
                have hina2 : ∀ j, inB A3 j → Km ≤ j := fun j hj => (hina j hj).elim (hA2 j) fun h => by omega
                have hlow : ∀ j, (j = b ∨ j = g ∨ inB A2 j) → w.heap.size ≤ j ∧ B ≤ j ∧ ¬ j = B := fun j h => by
                  have := HB.out
                  rcases h with h | h | h
                  · omega
                  · omega
                  · have := hA2 j h; omega
                have hR2 := ((hRt.fr ((Fr.refl NoB wt).alloc (.cells #[.slice At lt.length ct] 22)) id fun _ _ => id).fr hfa (fun h => by have := hA2 b h; omega) fun j hj h => by have := hG0 j hj; have := hA2 j h; omega).fr hfg (Ne.symm hgb) fun j hj h => by have := hG0 j hj; omega
                have hBt : Byt (wa.setCell ⟨g, 1, none⟩ (.slice A3 (q + 1) d3)) F0 At lt.length lt :=
                  ((Byt.fr hBt0 ((Fr.refl NoB wt).alloc (.cells #[.slice At lt.length ct] 22)) fun _ _ => id).fr hfa fun j hj h => by have := hG0 j hj; have := hA2 j h; omega).fr hfg fun j hj h => by have := hG0 j hj; omega
                have hus2 : ∀ (i : Nat) (a : List UInt8), (pre2 ++ [lt])[i]? = some a → ∃ u : Value, (us ++ [.slice At lt.length ct])[i]? = some u ∧ BytR (wa.setCell ⟨g, 1, none⟩ (.slice A3 (q + 1) d3)) F0 [u] a := fun i a ha => by
                  have hul : us.length = pre2.length := by have := hP.len; have := Hq.out; omega
                  rcases Nat.lt_or_ge i pre2.length with hi | hi
                  · rw [List.getElem?_append_left hi] at ha
                    obtain ⟨u, hu, hbu⟩ := Hus.out i a ha
                    exact ⟨u, by rw [List.getElem?_append_left (by omega)]; exact hu, hbu.fr hfT fun j hj h => by have := hG0 j hj; have := hlow j h; omega⟩
                  · have hie : i = pre2.length := by
                      have := (List.getElem?_eq_some_iff.1 ha).1
                      simp at this; omega
                    subst hie
                    rw [List.getElem?_append_right (Nat.le_refl _), Nat.sub_self] at ha
                    injection ha with ha
                    subst ha
                    exact ⟨_, by rw [← hul, List.getElem?_append_right (Nat.le_refl _), Nat.sub_self]; rfl, At, lt.length, ct, rfl, hlt1, hlt2, hBt⟩
                have hpre2 : ∀ x ∈ pre2 ++ [lt], x.length ≤ 110000 := fun x hx => by
                  rcases List.mem_append.1 hx with hx | hx
                  · exact Hpre2.out x hx
                  · rw [List.mem_singleton] at hx; rw [hx]; exact htl
                go_wp2
                go_roundw
                case rel => exact ⟨pre2 ++ [lt], rt, k, q + 1, d3, A3, us ++ [.slice At lt.length ct], by go_num, by omega, by rw [List.length_append, ← Hq.out]; rfl, by rw [Hy1.out]; simp, Hy2.out, hR2, hBa.s1 A3 (q + 1) d3, hO.fr hfT (fun j hj h => by rcases h with h | h | h; (have := hA j hj; omega); (have := hA j hj; omega); (have := hA2 j h; have := hA4 j hj; omega)), hPa.fr hfg (fun j hj h => by have := hina2 j hj; omega), hus2, hina2, hpre2, hBz.fr hfT (fun h => (hlow B h).2.2 rfl), hF.new hfT fun j hj => .inr (hlow j hj).1, by have := hfT.size; omega⟩
                case measure => (simp [intOf] <;> omega)
              · refine wpOp_run (v := .slice (some ⟨wt.heap.size, 0, none⟩) 1 1) (w' := wt.alloc (.cells #[.slice At lt.length ct] 22)) rfl (by kernel_rfl) (by go_simp) ⟨trivial, ?_⟩
                replace hB9 := hB9.fr ((Fr.refl NoB wt).alloc (.cells #[.slice At lt.length ct] 22)) id
                replace hP9 := hP9.alloc (.cells #[.slice At lt.length ct] 22)
                go_simp
                refine wpAnyH_all (rs := [1]) (by decide +kernel) (by simp) ?_
                intro i hi
                simp only [List.mem_cons, List.not_mem_nil, or_false] at hi
                subst hi
                have qx := hB9.c1
                refine wpOp_run (v := .slice A2 q d) (w' := (wt.alloc (.cells #[.slice At lt.length ct] 22))) rfl (by kernel_rfl) (by go_simp) ⟨trivial, ?_⟩
                clear qx
                go_simp
                refine wpAnyH_all (rs := [5]) (by decide +kernel) (by simp) ?_
                intro i hi
                simp only [List.mem_cons, List.not_mem_nil, or_false] at hi
                subst hi
                refine wpOp_app el_byt rfl (by kernel_rfl) (.tmp 56) (.tmp 59) rfl A2 q d _ rfl hP9 _ _ 1 1 _ rfl (Arr.one _ _ _) (by simp [Value.oneCell']) (by omega) ?_
                intro A3 d3 wa hPa hfa hina
                have hga : ¬ inB A2 g := fun h => by have := hA2 g h; omega
                have hBa := hB9.fr hfa hga
                refine ⟨trivial, ?_⟩
                go_simp
                refine wpAnyH_take (i := 6) rfl (by decide +kernel) (by decide +kernel) (by decide +kernel) (fun _ _ _ h => h) (Or.inl ⟨by kernel_rfl, fun W _ => by go_simp; with_reducible rfl⟩) trivial ?_
                go_simp
                refine wpAnyH_all (rs := [7]) (by decide +kernel) (by simp) ?_
                intro i hi
                simp only [List.mem_cons, List.not_mem_nil, or_false] at hi
                subst hi
                have qx := hBa.c1
                have qy := hBa.blk.frozen 1
                refine wpOp_skip (w' := wa.setCell ⟨g, 1, none⟩ (.slice A3 (q + 1) d3)) rfl (by kernel_rfl) (by go_simp) ⟨trivial, ?_⟩
                clear qx qy
                go_simp
                refine wpAnyH_done (by decide +kernel) ?_ _
                have hsz1 := hft.size
                have hsz2 := hfa.size
                simp only [World.size_alloc] at hsz2 hina
                have hsz0 : w5.drew.heap.size = w5.heap.size := rfl
                have hfg : Fr (· = g) wa (wa.setCell ⟨g, 1, none⟩ (.slice A3 (q + 1) d3)) := (Fr.refl _ _).at_ _ _
                have hfT : Fr (fun j => j = b ∨ j = g ∨ inB A2 j) w5 (wa.setCell ⟨g, 1, none⟩ (.slice A3 (q + 1) d3)) := ((((Fr.drew (Fr.refl (fun j => j = b ∨ j = g ∨ inB A2 j) w5)).trans hft fun _ _ h => .inl h).alloc (.cells #[.slice At lt.length ct] 22)).trans hfa fun _ _ h => .inr (.inr h)).trans hfg fun _ _ h => .inr (.inl h)
                have hina2 : ∀ j, inB A3 j → Km ≤ j := fun j hj => (hina j hj).elim (hA2 j) fun h => by omega
                have hlow : ∀ j, (j = b ∨ j = g ∨ inB A2 j) → w.heap.size ≤ j ∧ B ≤ j ∧ ¬ j = B := fun j h => by
                  have := HB.out
                  rcases h with h | h | h
                  · omega
                  · omega
                  · have := hA2 j h; omega
                have hR2 := ((hRt.fr ((Fr.refl NoB wt).alloc (.cells #[.slice At lt.length ct] 22)) id fun _ _ => id).fr hfa (fun h => by have := hA2 b h; omega) fun j hj h => by have := hG0 j hj; have := hA2 j h; omega).fr hfg (Ne.symm hgb) fun j hj h => by have := hG0 j hj; omega
                have hBt : Byt (wa.setCell ⟨g, 1, none⟩ (.slice A3 (q + 1) d3)) F0 At lt.length lt :=
                  ((Byt.fr hBt0 ((Fr.refl NoB wt).alloc (.cells #[.slice At lt.length ct] 22)) fun _ _ => id).fr hfa fun j hj h => by have := hG0 j hj; have := hA2 j h; omega).fr hfg fun j hj h => by have := hG0 j hj; omega
                have hus2 : ∀ (i : Nat) (a : List UInt8), (pre2 ++ [lt])[i]? = some a → ∃ u : Value, (us ++ [.slice At lt.length ct])[i]? = some u ∧ BytR (wa.setCell ⟨g, 1, none⟩ (.slice A3 (q + 1) d3)) F0 [u] a := fun i a ha => by
                  have hul : us.length = pre2.length := by have := hP.len; have := Hq.out; omega
                  rcases Nat.lt_or_ge i pre2.length with hi | hi
                  · rw [List.getElem?_append_left hi] at ha
                    obtain ⟨u, hu, hbu⟩ := Hus.out i a ha
                    exact ⟨u, by rw [List.getElem?_append_left (by omega)]; exact hu, hbu.fr hfT fun j hj h => by have := hG0 j hj; have := hlow j h; omega⟩
                  · have hie : i = pre2.length := by
                      have := (List.getElem?_eq_some_iff.1 ha).1
                      simp at this; omega
                    subst hie
                    rw [List.getElem?_append_right (Nat.le_refl _), Nat.sub_self] at ha
                    injection ha with ha
                    subst ha
                    exact ⟨_, by rw [← hul, List.getElem?_append_right (Nat.le_refl _), Nat.sub_self]; rfl, At, lt.length, ct, rfl, hlt1, hlt2, hBt⟩
                have hpre2 : ∀ x ∈ pre2 ++ [lt], x.length ≤ 110000 := fun x hx => by
                  rcases List.mem_append.1 hx with hx | hx
                  · exact Hpre2.out x hx
                  · rw [List.mem_singleton] at hx; rw [hx]; exact htl
                go_wp2
                go_roundw
                case rel => exact ⟨pre2 ++ [lt], rt, k, q + 1, d3, A3, us ++ [.slice At lt.length ct], by go_num, by omega, by rw [List.length_append, ← Hq.out]; rfl, by rw [Hy1.out]; simp, Hy2.out, hR2, hBa.s1 A3 (q + 1) d3, hO.fr hfT (fun j hj h => by rcases h with h | h | h; (have := hA j hj; omega); (have := hA j hj; omega); (have := hA2 j h; have := hA4 j hj; omega)), hPa.fr hfg (fun j hj h => by have := hina2 j hj; omega), hus2, hina2, hpre2, hBz.fr hfT (fun h => (hlow B h).2.2 rfl), hF.new hfT fun j hj => .inr (hlow j hj).1, by have := hfT.size; omega⟩
                case measure => (simp [intOf] <;> omega)
          | false =>
            obtain ⟨hof, hbad⟩ := bun_exit HP.out Hy1.out Hy2.out (.inr hgd)
            rw [hgd] at cb
            clear hgd
            obtain ⟨q0, hq0⟩ : ∃ q0 : Bun, q0 = ⟨pre, pre2⟩ := ⟨_, rfl⟩
            have hend := FEnd_any _ _ _ _ hR
            have hQ : BunR w5 (fun j => F0 j ∨ (Kb ≤ j ∧ ¬ j = B)) (bunCells A1 p cc A2 q d) q0 := by
              rw [hq0]
              refine ⟨A1, p, cc, A2, q, d, rfl, hO.le, hO.cap, ?_, hP.le, hP.cap, ?_⟩
              · refine ArrOf.of_flatE refCells (hO.arr fun j _ hj => .inr ⟨hA j hj, by have := hA j hj; omega⟩) Hp.out.symm refCells_len fun a ha => ⟨rfl, ?_⟩
                have := Hpre.out a ha
                unfold maxLen; omega
              · have hflat : Arr w5 (fun j => F0 j ∨ (Kb ≤ j ∧ ¬ j = B)) 1 A2 q us := hP.arr fun j _ hj => .inr ⟨by have := hA2 j hj; omega, by have := hA2 j hj; omega⟩
                have hul : us.length = q := by have := hP.len; omega
                refine ArrOf.of_arr (ys := us.map fun u => [u]) ?_ (by intro y hy; obtain ⟨u, _, rfl⟩ := List.mem_map.1 hy; rfl) Hq.out.symm fun i a ha => ?_
                · have e : (us.map fun u => [u]).flatten = us := by
                    clear hflat hul Hus hP
                    induction us with
                    | nil => rfl
                    | cons u us ih => simp [ih]
                  rw [e]; exact hflat
                · obtain ⟨u, hu, hbu⟩ := Hus.out i a ha
                  exact ⟨[u], by rw [List.getElem?_map, hu]; rfl, hbu.more fun j _ hj => .inl hj⟩
            have hosz : ∀ x ∈ q0.objs, x.length ≤ 110000 := by rw [hq0]; exact Hpre2.out
            rw [← hq0] at hof hbad
            obtain ⟨yq, hyq⟩ : ∃ yq, yq = bunCells A1 p cc A2 q d := ⟨_, rfl⟩
            have hall := hB.all
            rw [← hyq] at hQ hall
            have Q2l : Hid (yq.length = 2) := by show _ = _; rw [hyq]; rfl
            have Q2a : Hid (yq.toArray.size = 2) := by show _ = _; rw [hyq]; rfl
            have Q1a : Hid (yq.toArray.all (·.oneCell') = true) := by show _ = _; rw [hyq]; exact bunCells_ones _ _ _ _ _ _
            have hput := PutBundle_any w5 _ yq q0 hQ.tight (fun j hj => hj.2) hosz
            have Hput := Lib.hid hput
            have HRI := Lib.hid hR
            clear hq0 hyq hosz hB hO hP hput hend hR
            by_cases hev : Rd.End r' = 0
            · have be : (Rd.End r' != 0) = false := by simpa using hev
              have hd := decide_eq_true hev
              rw [hd, Bool.true_and] at hof hbad
              clear hd hev
              cases hm : bunMay q0 with
              | true =>
                have he0 : bunErr q0 = 0 := by rw [bunErr, hm]; rfl
                rw [hm, if_pos rfl] at hof hbad
                have He1 := Lib.hid hof
                have He2 := Lib.hid hbad
                clear hof hbad
                clear hm
                go_wp2_with (first
                  | (refine wpList_load_agg rfl 112 (.tmp 5) rfl g 0 rfl yq _ hall Try.underlying112 rfl (by rw [Q2l.out]; exact bun_size) ?_)
                  | (go_at_call 69
                     refine Hput.out.mono ?_
                     rintro e w7 ⟨A7, n7, c7, rfl, hf7, hI7⟩
                     rw [he0]
                     have hall7 : ∀ j u, yq[j]? = some u → w7.cell? ⟨g, 0 + j, none⟩ = some u := fun j u hu => hf7.cell' (hall j u hu) id
                     have hBz7 := hBz.fr hf7 id
                     have hQ7 := hQ.fr hf7 fun _ _ => id
                     have hF7 := hF.trans hf7 fun _ _ => id
                     have hend := FEnd_any _ _ _ _ (HRI.out.fr hf7 id fun _ _ => id)
                     clear hI7)
                  | (go_at_call 44; refine hend.mono ?_; rintro e w' ⟨rfl, rfl⟩)
                  | (refine wpList_load_agg rfl 112 (.tmp 5) rfl g 0 rfl yq _ hall7 Try.underlying112 rfl (by rw [Q2l.out]; exact bun_size) ?_)
                  | (refine wpList_store_rowE rfl 112 (.tmp 2) (.tmp 75) rfl B yq.toArray rfl rfl 112 zc.toArray hBz7 (by rw [Q2a.out]; exact bun_size) (by rw [Z2a.out, Q2a.out]) Q1a.out ?_))
                obtain ⟨hft, hBt⟩ := setRow_fr' (ds := yq.toArray) hBz7
            
                refine bodyPost_ret (results_cell2E (cs := yq) rfl rfl (fun j v hv => by rw [Nat.zero_add, hBt.cell]; simpa using hv) Try.underlying112 rfl (by rw [Q2l.out]; exact bun_size)) rfl ?_
                rw [He1.out, He2.out]
                refine ⟨yq, rfl, hF7.new hft fun j hj => .inr (by have := HB.out; omega), ?_⟩
                obtain ⟨A, n, c, B', m, d, k1, k2, k3, k4, k5, k6, k7⟩ := hQ7.fr hft fun j hj e => hj.elim (fun hj => by have := hG0 j hj; omega) fun hj => hj.2 e
                have hlow : ∀ j, (F0 j ∨ (Kb ≤ j ∧ ¬ j = B)) → F0 j ∨ w.heap.size ≤ j := fun j hj => hj.imp id fun hj => by have := HB.out; omega
                exact ⟨A, n, c, B', m, d, k1, k2, k3, ArrOf.more k4 (by omega) (fun j _ hj => hlow j hj) fun _ _ _ h => h, k5, k6, k7.more fun j _ hj => hlow j hj⟩
              | false =>
                have he0 : bunErr q0 = 340 := by rw [bunErr, hm]; rfl
                rw [hm, if_neg (by simp)] at hof hbad
                have He1 := Lib.hid hof
                have He2 := Lib.hid hbad
                clear hof hbad
                clear hm
                go_wp2_with (first
                  | (refine wpList_load_agg rfl 112 (.tmp 5) rfl g 0 rfl yq _ hall Try.underlying112 rfl (by rw [Q2l.out]; exact bun_size) ?_)
                  | (go_at_call 69
                     refine Hput.out.mono ?_
                     rintro e w7 ⟨A7, n7, c7, rfl, hf7, hI7⟩
                     rw [he0]
                     have hall7 : ∀ j u, yq[j]? = some u → w7.cell? ⟨g, 0 + j, none⟩ = some u := fun j u hu => hf7.cell' (hall j u hu) id
                     have hBz7 := hBz.fr hf7 id
                     have hQ7 := hQ.fr hf7 fun _ _ => id
                     have hF7 := hF.trans hf7 fun _ _ => id
                     have hend := FEnd_any _ _ _ _ (HRI.out.fr hf7 id fun _ _ => id)
                     clear hI7)
                  | (go_at_call 44; refine hend.mono ?_; rintro e w' ⟨rfl, rfl⟩)
                  | (refine wpList_build_eqE rfl 112 #[] rfl [] rfl zc.toArray Hzb.out ?_)
                  | (refine wpList_store_rowE rfl 112 (.tmp 2) (.tmp 74) rfl B zc.toArray rfl rfl 112 zc.toArray hBz7 (by rw [Z2a.out]; exact bun_size) rfl Z1a.out ?_))
                obtain ⟨hft, hBt⟩ := setRow_fr' (ds := zc.toArray) hBz7
            
                refine bodyPost_ret (results_cell2E (cs := zc) rfl rfl (fun j v hv => by rw [Nat.zero_add, hBt.cell]; simpa using hv) Try.underlying112 rfl (by rw [Z2l.out]; exact bun_size)) rfl ?_
                rw [He1.out, He2.out]
                have hgz := GotBun.zero (G := (fun k => F0 k ∨ w.heap.size ≤ k)) (hF7.new hft fun j hj => .inr (by have := HB.out; omega))
                rw [← Hzc.out] at hgz
                exact hgz
            · have be : (Rd.End r' != 0) = true := by simpa using hev
              have hd := decide_eq_false hev
              rw [hd, Bool.false_and, if_neg (by simp)] at hof hbad
              have He1 := Lib.hid hof
              have He2 := Lib.hid hbad
              clear hof hbad
              clear hd hev
              obtain ⟨be0, he0⟩ : ∃ v : Int, bunErr q0 = v := ⟨_, rfl⟩
              go_wp2_with (first
                | (refine wpList_load_agg rfl 112 (.tmp 5) rfl g 0 rfl yq _ hall Try.underlying112 rfl (by rw [Q2l.out]; exact bun_size) ?_)
                | (go_at_call 69
                   refine Hput.out.mono ?_
                   rintro e w7 ⟨A7, n7, c7, rfl, hf7, hI7⟩
                   rw [he0]
                   have hall7 : ∀ j u, yq[j]? = some u → w7.cell? ⟨g, 0 + j, none⟩ = some u := fun j u hu => hf7.cell' (hall j u hu) id
                   have hBz7 := hBz.fr hf7 id
                   have hQ7 := hQ.fr hf7 fun _ _ => id
                   have hF7 := hF.trans hf7 fun _ _ => id
                   have hend := FEnd_any _ _ _ _ (HRI.out.fr hf7 id fun _ _ => id)
                   clear hI7)
                | (go_at_call 44; refine hend.mono ?_; rintro e w' ⟨rfl, rfl⟩)
                | (refine wpList_build_eqE rfl 112 #[] rfl [] rfl zc.toArray Hzb.out ?_)
                | (refine wpList_store_rowE rfl 112 (.tmp 2) (.tmp 74) rfl B zc.toArray rfl rfl 112 zc.toArray hBz7 (by rw [Z2a.out]; exact bun_size) rfl Z1a.out ?_))
              obtain ⟨hft, hBt⟩ := setRow_fr' (ds := zc.toArray) hBz7
            
              refine bodyPost_ret (results_cell2E (cs := zc) rfl rfl (fun j v hv => by rw [Nat.zero_add, hBt.cell]; simpa using hv) Try.underlying112 rfl (by rw [Z2l.out]; exact bun_size)) rfl ?_
              rw [He1.out, He2.out]
              have hgz := GotBun.zero (G := (fun k => F0 k ∨ w.heap.size ≤ k)) (hF7.new hft fun j hj => .inr (by have := HB.out; omega))
              rw [← Hzc.out] at hgz
              exact hgz
        · obtain ⟨hof, hbad⟩ := bun_exit HP.out Hy1.out Hy2.out (.inl (by omega))
          clear cb
          obtain ⟨q0, hq0⟩ : ∃ q0 : Bun, q0 = ⟨pre, pre2⟩ := ⟨_, rfl⟩
          have hend := FEnd_any _ _ _ _ hR
          have hQ : BunR w5 (fun j => F0 j ∨ (Kb ≤ j ∧ ¬ j = B)) (bunCells A1 p cc A2 q d) q0 := by
            rw [hq0]
            refine ⟨A1, p, cc, A2, q, d, rfl, hO.le, hO.cap, ?_, hP.le, hP.cap, ?_⟩
            · refine ArrOf.of_flatE refCells (hO.arr fun j _ hj => .inr ⟨hA j hj, by have := hA j hj; omega⟩) Hp.out.symm refCells_len fun a ha => ⟨rfl, ?_⟩
              have := Hpre.out a ha
              unfold maxLen; omega
            · have hflat : Arr w5 (fun j => F0 j ∨ (Kb ≤ j ∧ ¬ j = B)) 1 A2 q us := hP.arr fun j _ hj => .inr ⟨by have := hA2 j hj; omega, by have := hA2 j hj; omega⟩
              have hul : us.length = q := by have := hP.len; omega
              refine ArrOf.of_arr (ys := us.map fun u => [u]) ?_ (by intro y hy; obtain ⟨u, _, rfl⟩ := List.mem_map.1 hy; rfl) Hq.out.symm fun i a ha => ?_
              · have e : (us.map fun u => [u]).flatten = us := by
                  clear hflat hul Hus hP
                  induction us with
                  | nil => rfl
                  | cons u us ih => simp [ih]
                rw [e]; exact hflat
              · obtain ⟨u, hu, hbu⟩ := Hus.out i a ha
                exact ⟨[u], by rw [List.getElem?_map, hu]; rfl, hbu.more fun j _ hj => .inl hj⟩
          have hosz : ∀ x ∈ q0.objs, x.length ≤ 110000 := by rw [hq0]; exact Hpre2.out
          rw [← hq0] at hof hbad
          obtain ⟨yq, hyq⟩ : ∃ yq, yq = bunCells A1 p cc A2 q d := ⟨_, rfl⟩
          have hall := hB.all
          rw [← hyq] at hQ hall
          have Q2l : Hid (yq.length = 2) := by show _ = _; rw [hyq]; rfl
          have Q2a : Hid (yq.toArray.size = 2) := by show _ = _; rw [hyq]; rfl
          have Q1a : Hid (yq.toArray.all (·.oneCell') = true) := by show _ = _; rw [hyq]; exact bunCells_ones _ _ _ _ _ _
          have hput := PutBundle_any w5 _ yq q0 hQ.tight (fun j hj => hj.2) hosz
          have Hput := Lib.hid hput
          have HRI := Lib.hid hR
          clear hq0 hyq hosz hB hO hP hput hend hR
          by_cases hev : Rd.End r' = 0
          · have be : (Rd.End r' != 0) = false := by simpa using hev
            have hd := decide_eq_true hev
            rw [hd, Bool.true_and] at hof hbad
            clear hd hev
            cases hm : bunMay q0 with
            | true =>
              have he0 : bunErr q0 = 0 := by rw [bunErr, hm]; rfl
              rw [hm, if_pos rfl] at hof hbad
              have He1 := Lib.hid hof
              have He2 := Lib.hid hbad
              clear hof hbad
              clear hm
              go_wp2_with (first
                | (refine wpList_load_agg rfl 112 (.tmp 5) rfl g 0 rfl yq _ hall Try.underlying112 rfl (by rw [Q2l.out]; exact bun_size) ?_)
                | (go_at_call 69
                   refine Hput.out.mono ?_
                   rintro e w7 ⟨A7, n7, c7, rfl, hf7, hI7⟩
                   rw [he0]
                   have hall7 : ∀ j u, yq[j]? = some u → w7.cell? ⟨g, 0 + j, none⟩ = some u := fun j u hu => hf7.cell' (hall j u hu) id
                   have hBz7 := hBz.fr hf7 id
                   have hQ7 := hQ.fr hf7 fun _ _ => id
                   have hF7 := hF.trans hf7 fun _ _ => id
                   have hend := FEnd_any _ _ _ _ (HRI.out.fr hf7 id fun _ _ => id)
                   clear hI7)
                | (go_at_call 44; refine hend.mono ?_; rintro e w' ⟨rfl, rfl⟩)
                | (refine wpList_load_agg rfl 112 (.tmp 5) rfl g 0 rfl yq _ hall7 Try.underlying112 rfl (by rw [Q2l.out]; exact bun_size) ?_)
                | (refine wpList_store_rowE rfl 112 (.tmp 2) (.tmp 75) rfl B yq.toArray rfl rfl 112 zc.toArray hBz7 (by rw [Q2a.out]; exact bun_size) (by rw [Z2a.out, Q2a.out]) Q1a.out ?_))
              obtain ⟨hft, hBt⟩ := setRow_fr' (ds := yq.toArray) hBz7
          
              refine bodyPost_ret (results_cell2E (cs := yq) rfl rfl (fun j v hv => by rw [Nat.zero_add, hBt.cell]; simpa using hv) Try.underlying112 rfl (by rw [Q2l.out]; exact bun_size)) rfl ?_
              rw [He1.out, He2.out]
              refine ⟨yq, rfl, hF7.new hft fun j hj => .inr (by have := HB.out; omega), ?_⟩
              obtain ⟨A, n, c, B', m, d, k1, k2, k3, k4, k5, k6, k7⟩ := hQ7.fr hft fun j hj e => hj.elim (fun hj => by have := hG0 j hj; omega) fun hj => hj.2 e
              have hlow : ∀ j, (F0 j ∨ (Kb ≤ j ∧ ¬ j = B)) → F0 j ∨ w.heap.size ≤ j := fun j hj => hj.imp id fun hj => by have := HB.out; omega
              exact ⟨A, n, c, B', m, d, k1, k2, k3, ArrOf.more k4 (by omega) (fun j _ hj => hlow j hj) fun _ _ _ h => h, k5, k6, k7.more fun j _ hj => hlow j hj⟩
            | false =>
              have he0 : bunErr q0 = 340 := by rw [bunErr, hm]; rfl
              rw [hm, if_neg (by simp)] at hof hbad
              have He1 := Lib.hid hof
              have He2 := Lib.hid hbad
              clear hof hbad
              clear hm
              go_wp2_with (first
                | (refine wpList_load_agg rfl 112 (.tmp 5) rfl g 0 rfl yq _ hall Try.underlying112 rfl (by rw [Q2l.out]; exact bun_size) ?_)
                | (go_at_call 69
                   refine Hput.out.mono ?_
                   rintro e w7 ⟨A7, n7, c7, rfl, hf7, hI7⟩
                   rw [he0]
                   have hall7 : ∀ j u, yq[j]? = some u → w7.cell? ⟨g, 0 + j, none⟩ = some u := fun j u hu => hf7.cell' (hall j u hu) id
                   have hBz7 := hBz.fr hf7 id
                   have hQ7 := hQ.fr hf7 fun _ _ => id
                   have hF7 := hF.trans hf7 fun _ _ => id
                   have hend := FEnd_any _ _ _ _ (HRI.out.fr hf7 id fun _ _ => id)
                   clear hI7)
                | (go_at_call 44; refine hend.mono ?_; rintro e w' ⟨rfl, rfl⟩)
                | (refine wpList_build_eqE rfl 112 #[] rfl [] rfl zc.toArray Hzb.out ?_)
                | (refine wpList_store_rowE rfl 112 (.tmp 2) (.tmp 74) rfl B zc.toArray rfl rfl 112 zc.toArray hBz7 (by rw [Z2a.out]; exact bun_size) rfl Z1a.out ?_))
              obtain ⟨hft, hBt⟩ := setRow_fr' (ds := zc.toArray) hBz7
          
              refine bodyPost_ret (results_cell2E (cs := zc) rfl rfl (fun j v hv => by rw [Nat.zero_add, hBt.cell]; simpa using hv) Try.underlying112 rfl (by rw [Z2l.out]; exact bun_size)) rfl ?_
              rw [He1.out, He2.out]
              have hgz := GotBun.zero (G := (fun k => F0 k ∨ w.heap.size ≤ k)) (hF7.new hft fun j hj => .inr (by have := HB.out; omega))
              rw [← Hzc.out] at hgz
              exact hgz
          · have be : (Rd.End r' != 0) = true := by simpa using hev
            have hd := decide_eq_false hev
            rw [hd, Bool.false_and, if_neg (by simp)] at hof hbad
            have He1 := Lib.hid hof
            have He2 := Lib.hid hbad
            clear hof hbad
            clear hd hev
            obtain ⟨be0, he0⟩ : ∃ v : Int, bunErr q0 = v := ⟨_, rfl⟩
            go_wp2_with (first
              | (refine wpList_load_agg rfl 112 (.tmp 5) rfl g 0 rfl yq _ hall Try.underlying112 rfl (by rw [Q2l.out]; exact bun_size) ?_)
              | (go_at_call 69
                 refine Hput.out.mono ?_
                 rintro e w7 ⟨A7, n7, c7, rfl, hf7, hI7⟩
                 rw [he0]
                 have hall7 : ∀ j u, yq[j]? = some u → w7.cell? ⟨g, 0 + j, none⟩ = some u := fun j u hu => hf7.cell' (hall j u hu) id
                 have hBz7 := hBz.fr hf7 id
                 have hQ7 := hQ.fr hf7 fun _ _ => id
                 have hF7 := hF.trans hf7 fun _ _ => id
                 have hend := FEnd_any _ _ _ _ (HRI.out.fr hf7 id fun _ _ => id)
                 clear hI7)
              | (go_at_call 44; refine hend.mono ?_; rintro e w' ⟨rfl, rfl⟩)
              | (refine wpList_build_eqE rfl 112 #[] rfl [] rfl zc.toArray Hzb.out ?_)
              | (refine wpList_store_rowE rfl 112 (.tmp 2) (.tmp 74) rfl B zc.toArray rfl rfl 112 zc.toArray hBz7 (by rw [Z2a.out]; exact bun_size) rfl Z1a.out ?_))
            obtain ⟨hft, hBt⟩ := setRow_fr' (ds := zc.toArray) hBz7
          
            refine bodyPost_ret (results_cell2E (cs := zc) rfl rfl (fun j v hv => by rw [Nat.zero_add, hBt.cell]; simpa using hv) Try.underlying112 rfl (by rw [Z2l.out]; exact bun_size)) rfl ?_
            rw [He1.out, He2.out]
            have hgz := GotBun.zero (G := (fun k => F0 k ∨ w.heap.size ≤ k)) (hF7.new hft fun j hj => .inr (by have := HB.out; omega))
            rw [← Hzc.out] at hgz
            exact hgz
end Go.Proofs.Ytnkfchondedfcaa
