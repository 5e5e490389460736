/-
  Bundles held against each other, as the document has it (tabulariumref32.SameBundle). Conditions: each contract states its own.
-/
import Derived.Test.YtnkfchondedfcaaVh
namespace Go.Proofs.Ytnkfchondedfcaa
open Go.RowKit

theorem bun_eq {x y : Bun} : x = y ↔ x.refs = y.refs ∧ x.objs = y.objs := by
  obtain ⟨a, b⟩ := x
  obtain ⟨c, d⟩ := y
  simp

set_option maxRecDepth 100000 in
set_option maxHeartbeats 4000000 in
theorem SameBundle_any (w : World) (F G : Nat → Prop) (y z : List Value) (x1 x2 : Bun) (hy : BunR w F y x1) (hz : BunR w G z x2) :
    Calls Try.prog 68 #[.agg y.toArray, .agg z.toArray] w fun e w' => e = .returned (.bool (decide (x1 = x2))) ∧ Fr NoB w w' := by
  obtain ⟨A, n, c, B, m, d, rfl, hnc, hcm, hr, hmd, hdm, ho⟩ := hy
  obtain ⟨A', n', c', B', m', d', rfl, hnc', hcm', hr', hmd', hdm', ho'⟩ := hz
  have hn63 : n ≤ 9223372036854775807 := by unfold maxLen at hcm; omega
  have hm63 : m ≤ 9223372036854775807 := by unfold maxLen at hdm; omega
  have Hrl := Lib.hid hr.len
  have Hol := Lib.hid ho.len
  have Hrl' := Lib.hid hr'.len
  have Hol' := Lib.hid ho'.len
  obtain ⟨yc, hyc⟩ : ∃ yc, yc = bunCells A n c B m d := ⟨_, rfl⟩
  obtain ⟨zc, hzc⟩ : ∃ zc, zc = bunCells A' n' c' B' m' d' := ⟨_, rfl⟩
  have hB1 : BunBlk ((w.alloc (.cells yc.toArray 112)).alloc (.cells zc.toArray 112)) w.heap.size A n c B m d := by rw [hyc]; exact ⟨(Blk.new _ _ _).alloc _⟩
  have hB2 : BunBlk ((w.alloc (.cells yc.toArray 112)).alloc (.cells zc.toArray 112)) (w.heap.size + 1) A' n' c' B' m' d' := by
    rw [hzc]
    have := Blk.new (w.alloc (.cells yc.toArray 112)) 112 (bunCells A' n' c' B' m' d').toArray
    rw [World.size_alloc] at this
    exact ⟨this⟩
  rw [← hyc, ← hzc]
  clear hyc hzc
  have hF1 : Fr NoB w ((w.alloc (.cells yc.toArray 112)).alloc (.cells zc.toArray 112)) := ((Fr.refl _ _).alloc _).alloc _
  have z1 := hB1.c0
  have z2 := hB1.c1
  have z3 := hB2.c0
  have z4 := hB2.c1
  obtain ⟨w1, hw1⟩ : ∃ w1, w1 = (w.alloc (.cells yc.toArray 112)).alloc (.cells zc.toArray 112) := ⟨_, rfl⟩
  rw [← hw1] at hB1 hB2 hF1
  have Hw1 := Lib.hid hw1
  have hr1 := hr.fr hF1 fun _ _ => id
  have ho1 := ho.fr hF1 fun _ _ => id
  have hr2 := hr'.fr hF1 fun _ _ => id
  have ho2 := ho'.fr hF1 fun _ _ => id
  clear hr ho hr' ho' hw1
  by_cases hnn : n = n'
  · subst hnn
    by_cases hmm : m = m'
    · subst hmm
      go_enter Try.func68, Try.ntmps68
      go_wp2
      rw [← Hw1.out]
      clear z1 z2 z3 z4
      go_loopw [26] (fun v wr => ∃ k : Nat, k ≤ n ∧ v = .int .i64 k ∧ x1.refs.take k = x2.refs.take k ∧ Fr NoB w1 wr) (fun v _ => n - (intOf v).toNat)
      case atStart => exact ⟨0, by omega, rfl, rfl, Fr.refl _ _⟩
      case round =>
        obtain ⟨k, hk, rfl, htk, hF0⟩ := hrel
        obtain ⟨w2, rfl⟩ : ∃ w2 : World, w2 = wr := ⟨_, rfl⟩
        have Htk := Lib.hid htk
        have hF2 := hF1.trans hF0 fun _ _ => id
        replace hB1 := hB1.fr hF0 id
        replace hB2 := hB2.fr hF0 id
        replace ho1 := ho1.fr hF0 fun _ _ => id
        replace hr1 := hr1.fr hF0 fun _ _ => id
        replace ho2 := ho2.fr hF0 fun _ _ => id
        replace hr2 := hr2.fr hF0 fun _ _ => id
        have p0 := hB1.c0
        have p1 := hB2.c0
        have o0 := hB1.c1
        have o1 := hB2.c1
        clear htk
        by_cases hkn : k < n
        · obtain ⟨b1, o1', x, y1, rfl, _, gx, _, ⟨hy1, _⟩, hc1⟩ := ArrOf.at_ hr1 hkn
          obtain ⟨b2, o2', y, y2, rfl, _, gy, _, ⟨hy2, _⟩, hc2⟩ := ArrOf.at_ hr2 hkn
          subst hy1 hy2
          have Hx := Lib.hid (refCells_len x)
          have Hy := Lib.hid (refCells_len y)
          have Hsx := Lib.hid (take_snocE gx)
          have Hsy := Lib.hid (take_snocE gy)
          have Hne := Lib.hid (ne_atE gx gy)
          have hneq := fun (o : Oper) (a : Act) (t' : TypeId) (u v : Operand) (ho : o.op = .binOp .neq 162 u v t') (hx : a.eval u = .agg (refCells x).toArray) (hy : a.eval v = .agg (refCells y).toArray) => exec_neq_ref (w := w2.drew) t' u v ho x y hx hy
          have d0 : w2.drew.cell? ⟨w.heap.size, 0, none⟩ = some (.slice (some ⟨b1, o1', none⟩) n c) := p0
          have d1 : w2.drew.cell? ⟨w.heap.size + 1, 0, none⟩ = some (.slice (some ⟨b2, o2', none⟩) n c') := p1
          have e1 : ∀ j u, (refCells x)[j]? = some u → w2.drew.cell? ⟨b1, o1' + k * 33 + j, none⟩ = some u := hc1
          have e2 : ∀ j u, (refCells y)[j]? = some u → w2.drew.cell? ⟨b2, o2' + k * 33 + j, none⟩ = some u := hc2
          clear gx gy hc1 hc2
          generalize hbq : decide (x = y) = bq at hneq
          have Hbq := Lib.hid hbq
          clear hbq
          generalize refCells x = xc at *
          generalize refCells y = yc2 at *
          have g1 : (0 : Int) ≤ (k : Int) := by omega
          have g2 : (k : Int) < (n : Int) := by omega
          go_wp2
          refine wp_region_held (S := fun W => W = w2.drew) rfl ?_
          refine wpAnyH_take (i := 0) rfl (by decide +kernel) (by decide +kernel) (by decide +kernel) (fun _ _ _ h => h) (Or.inl ⟨by kernel_rfl, fun W hW => by rw [hW]; go_simp; with_reducible rfl⟩) rfl ?_
          refine wpAnyH_take (i := 1) rfl (by decide +kernel) (by decide +kernel) (by decide +kernel) (fun _ _ _ h => h) (Or.inl ⟨by kernel_rfl, fun W hW => by rw [hW]; go_simp; with_reducible rfl⟩) rfl ?_
          refine wpAnyH_take (i := 2) rfl (by decide +kernel) (by decide +kernel) (by decide +kernel) (fun _ _ _ h => h) (Or.inl ⟨by kernel_rfl, fun W hW => by rw [hW]; go_simp; with_reducible rfl⟩) rfl ?_
          go_simp
          refine wpAnyH_take (i := 3) rfl (by decide +kernel) (by decide +kernel) (by decide +kernel) (fun _ _ _ h => h) (Or.inl ⟨by kernel_rfl, fun W hW => by rw [hW]; go_simp; with_reducible rfl⟩) rfl ?_
          go_simp
          refine wpAnyH_take (i := 4) rfl (by decide +kernel) (by decide +kernel) (by decide +kernel) (fun _ _ _ h => h) (Or.inl ⟨by kernel_rfl, fun W hW => by rw [hW]; exact exec_load_agg 162 (.tmp 32) rfl b1 (o1' + k * 33) rfl xc _ e1 Try.underlying162 rfl (by rw [Hx.out]; exact ref_size)⟩) rfl ?_
          refine wpAnyH_take (i := 5) rfl (by decide +kernel) (by decide +kernel) (by decide +kernel) (fun _ _ _ h => h) (Or.inl ⟨by kernel_rfl, fun W hW => by rw [hW]; go_simp; with_reducible rfl⟩) rfl ?_
          go_simp
          refine wpAnyH_take (i := 6) rfl (by decide +kernel) (by decide +kernel) (by decide +kernel) (fun _ _ _ h => h) (Or.inl ⟨by kernel_rfl, fun W hW => by rw [hW]; go_simp; with_reducible rfl⟩) rfl ?_
          refine wpAnyH_take (i := 7) rfl (by decide +kernel) (by decide +kernel) (by decide +kernel) (fun _ _ _ h => h) (Or.inl ⟨by kernel_rfl, fun W hW => by rw [hW]; go_simp; with_reducible rfl⟩) rfl ?_
          go_simp
          refine wpAnyH_take (i := 8) rfl (by decide +kernel) (by decide +kernel) (by decide +kernel) (fun _ _ _ h => h) (Or.inl ⟨by kernel_rfl, fun W hW => by rw [hW]; go_simp; with_reducible rfl⟩) rfl ?_
          go_simp
          refine wpAnyH_take (i := 9) rfl (by decide +kernel) (by decide +kernel) (by decide +kernel) (fun _ _ _ h => h) (Or.inl ⟨by kernel_rfl, fun W hW => by rw [hW]; exact exec_load_agg 162 (.tmp 37) rfl b2 (o2' + k * 33) rfl yc2 _ e2 Try.underlying162 rfl (by rw [Hy.out]; exact ref_size)⟩) rfl ?_
          refine wpAnyH_take (i := 10) rfl (by decide +kernel) (by decide +kernel) (by decide +kernel) (fun _ _ _ h => h) (Or.inl ⟨by kernel_rfl, fun W hW => by rw [hW]; exact hneq _ _ _ (.tmp 33) (.tmp 38) rfl rfl rfl⟩) rfl ?_
          go_simp
          refine wpAnyH_done (by decide +kernel) ?_ _
          cases bq with
          | true =>
            have Hxy := Lib.hid (of_decide_eq_true Hbq.out)
            go_wp2
            go_roundw
            case rel => exact ⟨k + 1, by omega, by go_num, by rw [Hsx.out, Hsy.out, Htk.out, Hxy.out], hF0.drew⟩
            case measure => (simp [intOf] <;> omega)
          | false =>
            have He : Hid (decide (x1 = x2) = false) := decide_eq_false fun h => Hne.out (of_decide_eq_false Hbq.out) (by rw [h])
            go_wp2
            go_ret
            exact ⟨ret_bool He.out.symm, hF2.drew⟩
        · have hrr := Htk.out
          rw [List.take_of_length_le (by rw [Hrl.out]; omega), List.take_of_length_le (by rw [Hrl'.out]; omega)] at hrr
          have Hrr := Lib.hid hrr
          clear hrr
          go_wp2
          go_loopw [44] (fun v wr => ∃ j : Nat, j ≤ m ∧ v = .int .i64 j ∧ x1.objs.take j = x2.objs.take j ∧ Fr NoB w2 wr) (fun v _ => m - (intOf v).toNat)
          case atStart => exact ⟨0, by omega, rfl, rfl, Fr.refl _ _⟩
          case round =>
            obtain ⟨j, hj, rfl, htj, hF3⟩ := hrel
            obtain ⟨w3, rfl⟩ : ∃ w3 : World, w3 = wr := ⟨_, rfl⟩
            have Htj := Lib.hid htj
            have hF4 := hF2.trans hF3 fun _ _ => id
            replace o0 := hF3.cell' o0 id
            replace o1 := hF3.cell' o1 id
            clear htj
            by_cases hjm : j < m
            · obtain ⟨b1, o1', x, y1, rfl, _, gx, _, ⟨X, p, e, hy1, _, _, hbx⟩, hc1⟩ := ArrOf.at_ (ho1.fr hF3 fun _ _ => id) hjm
              obtain ⟨b2, o2', y, y2, rfl, _, gy, _, ⟨Y, p', e', hy2, _, _, hby⟩, hc2⟩ := ArrOf.at_ (ho2.fr hF3 fun _ _ => id) hjm
              have Hsx := Lib.hid (take_snocE gx)
              have Hsy := Lib.hid (take_snocE gy)
              have Hne := Lib.hid (ne_atE gx gy)
              have d0 : w3.drew.cell? ⟨w.heap.size, 1, none⟩ = some (.slice (some ⟨b1, o1', none⟩) m d) := o0
              have d1 : w3.drew.cell? ⟨w.heap.size + 1, 1, none⟩ = some (.slice (some ⟨b2, o2', none⟩) m d') := o1
              have e1 : w3.drew.cell? ⟨b1, o1' + j, none⟩ = some (.slice X p e) := by
                have := hc1 0 (.slice X p e) (by rw [hy1]; rfl)
                simpa using this
              have e2 : w3.drew.cell? ⟨b2, o2' + j, none⟩ = some (.slice Y p' e') := by
                have := hc2 0 (.slice Y p' e') (by rw [hy2]; rfl)
                simpa using this
              have v1 := (hbx.drewN 1).str (P := Try.prog) Try.underlying22 Try.underlying5 Try.underlying9 e
              have v2 := (hby.drewN 1).str (P := Try.prog) Try.underlying22 Try.underlying5 Try.underlying9 e'
              rw [show w3.drewN 1 = w3.drew from rfl] at v1 v2
              clear gx gy hc1 hc2 hy1 hy2 hbx hby
              have g1 : (0 : Int) ≤ (j : Int) := by omega
              have g2 : (j : Int) < (m : Int) := by omega
              go_wp2
              refine wp_region_held (S := fun W => W = w3.drew) rfl ?_
              refine wpAnyH_take (i := 0) rfl (by decide +kernel) (by decide +kernel) (by decide +kernel) (fun _ _ _ h => h) (Or.inl ⟨by kernel_rfl, fun W hW => by rw [hW]; go_simp; with_reducible rfl⟩) rfl ?_
              refine wpAnyH_take (i := 1) rfl (by decide +kernel) (by decide +kernel) (by decide +kernel) (fun _ _ _ h => h) (Or.inl ⟨by kernel_rfl, fun W hW => by rw [hW]; go_simp; with_reducible rfl⟩) rfl ?_
              refine wpAnyH_take (i := 2) rfl (by decide +kernel) (by decide +kernel) (by decide +kernel) (fun _ _ _ h => h) (Or.inl ⟨by kernel_rfl, fun W hW => by rw [hW]; go_simp; with_reducible rfl⟩) rfl ?_
              go_simp
              refine wpAnyH_take (i := 3) rfl (by decide +kernel) (by decide +kernel) (by decide +kernel) (fun _ _ _ h => h) (Or.inl ⟨by kernel_rfl, fun W hW => by rw [hW]; go_simp; with_reducible rfl⟩) rfl ?_
              go_simp
              refine wpAnyH_take (i := 4) rfl (by decide +kernel) (by decide +kernel) (by decide +kernel) (fun _ _ _ h => h) (Or.inl ⟨by kernel_rfl, fun W hW => by rw [hW]; go_simp; with_reducible rfl⟩) rfl ?_
              go_simp
              refine wpAnyH_take (i := 5) rfl (by decide +kernel) (by decide +kernel) (by decide +kernel) (fun _ _ _ h => h) (Or.inl ⟨by kernel_rfl, fun W hW => by rw [hW]; go_simp; with_reducible rfl⟩) rfl ?_
              refine wpAnyH_take (i := 6) rfl (by decide +kernel) (by decide +kernel) (by decide +kernel) (fun _ _ _ h => h) (Or.inl ⟨by kernel_rfl, fun W hW => by rw [hW]; go_simp; with_reducible rfl⟩) rfl ?_
              go_simp
              refine wpAnyH_take (i := 7) rfl (by decide +kernel) (by decide +kernel) (by decide +kernel) (fun _ _ _ h => h) (Or.inl ⟨by kernel_rfl, fun W hW => by rw [hW]; go_simp; with_reducible rfl⟩) rfl ?_
              refine wpAnyH_take (i := 8) rfl (by decide +kernel) (by decide +kernel) (by decide +kernel) (fun _ _ _ h => h) (Or.inl ⟨by kernel_rfl, fun W hW => by rw [hW]; go_simp; with_reducible rfl⟩) rfl ?_
              go_simp
              refine wpAnyH_take (i := 9) rfl (by decide +kernel) (by decide +kernel) (by decide +kernel) (fun _ _ _ h => h) (Or.inl ⟨by kernel_rfl, fun W hW => by rw [hW]; go_simp; with_reducible rfl⟩) rfl ?_
              go_simp
              refine wpAnyH_take (i := 10) rfl (by decide +kernel) (by decide +kernel) (by decide +kernel) (fun _ _ _ h => h) (Or.inl ⟨by kernel_rfl, fun W hW => by rw [hW]; go_simp; with_reducible rfl⟩) rfl ?_
              go_simp
              refine wpAnyH_take (i := 11) rfl (by decide +kernel) (by decide +kernel) (by decide +kernel) (fun _ _ _ h => h) (Or.inl ⟨by kernel_rfl, fun W hW => by rw [hW]; go_simp; with_reducible rfl⟩) rfl ?_
              go_simp
              refine wpAnyH_take (i := 12) rfl (by decide +kernel) (by decide +kernel) (by decide +kernel) (fun _ _ _ h => h) (Or.inl ⟨by kernel_rfl, fun W hW => by rw [hW]; go_simp; with_reducible rfl⟩) rfl ?_
              go_simp
              refine wpAnyH_done (by decide +kernel) ?_ _
              generalize hbq : (x == y) = bq
              have Hbq := Lib.hid hbq
              clear hbq
              cases bq with
              | true =>
                have Hxy : Hid (x = y) := by have := Hbq.out; show _ = _; simpa using this
                go_wp2
                go_roundw
                case rel => exact ⟨j + 1, by omega, by go_num, by rw [Hsx.out, Hsy.out, Htj.out, Hxy.out], hF3.drew⟩
                case measure => (simp [intOf] <;> omega)
              | false =>
                have hxy : x ≠ y := by have := Hbq.out; simpa using this
                have He : Hid (decide (x1 = x2) = false) := decide_eq_false fun h => Hne.out hxy (by rw [h])
                clear hxy
                go_wp2
                go_ret
                exact ⟨ret_bool He.out.symm, hF4.drew⟩
            · have hoo := Htj.out
              rw [List.take_of_length_le (by rw [Hol.out]; omega), List.take_of_length_le (by rw [Hol'.out]; omega)] at hoo
              have He : Hid (decide (x1 = x2) = true) := decide_eq_true (bun_eq.2 ⟨Hrr.out, hoo⟩)
              clear hoo
              go_wp2
              go_ret
              exact ⟨ret_bool He.out.symm, hF4⟩
    · have b2 : ((m : Int) != (m' : Int)) = true := by simp; omega
      have b1 : ((n : Int) != (n : Int)) = false := by simp
      have He : Hid (decide (x1 = x2) = false) := decide_eq_false fun h => hmm (by rw [← Hol.out, ← Hol'.out, h])
      clear hmm
      go_enter Try.func68, Try.ntmps68
      go_wp2
      rw [← Hw1.out]
      go_ret
      exact ⟨ret_bool He.out.symm, hF1⟩
  · have b1 : ((n : Int) != (n' : Int)) = true := by simp; omega
    have He : Hid (decide (x1 = x2) = false) := decide_eq_false fun h => hnn (by rw [← Hrl.out, ← Hrl'.out, h])
    clear hnn
    go_enter Try.func68, Try.ntmps68
    go_wp2
    rw [← Hw1.out]
    go_ret
    exact ⟨ret_bool He.out.symm, hF1⟩
end Go.Proofs.Ytnkfchondedfcaa
