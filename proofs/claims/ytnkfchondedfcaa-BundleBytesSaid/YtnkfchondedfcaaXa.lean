/-
  Bundles held against each other (bundle.Same). Conditions: each contract states its own.
-/
import Derived.Test.YtnkfchondedfcaaVi
namespace Go.Proofs.Ytnkfchondedfcaa
open Go.RowKit

set_option maxRecDepth 100000 in
set_option maxHeartbeats 1000000 in
theorem bytesEqual_any (w : World) (F G : Nat → Prop) (A B : Option Addr) (n m c d : Nat) (x y : List UInt8) (hx : Byt w F A n x) (hy : Byt w G B m y) :
    Calls Try.prog 103 #[.slice A n c, .slice B m d] w fun e w' => e = .returned (.bool (x == y)) ∧ w = w' := by
  have v1 := hx.str (P := Try.prog) Try.underlying22 Try.underlying5 Try.underlying9 c
  have v2 := hy.str (P := Try.prog) Try.underlying22 Try.underlying5 Try.underlying9 d
  go_enter Try.func103, Try.ntmps103
  go_wp2
  go_ret
  exact ⟨rfl, rfl⟩

set_option maxRecDepth 100000 in
set_option maxHeartbeats 2000000 in
theorem EqualBytss_any (w : World) (F G : Nat → Prop) (A B : Option Addr) (n m c d : Nat) (xs ys : List (List UInt8)) (hx : Bytss w F A n xs) (hy : Bytss w G B m ys) (hn : n ≤ 9223372036854775807) :
    Calls Try.prog 102 #[.slice A n c, .slice B m d, .func (.func 103) #[] #[]] w fun e w' => e = .returned (.bool (decide (xs = ys))) ∧ Fr NoB w w' := by
  have Hxl := Lib.hid hx.len
  have Hyl := Lib.hid hy.len
  by_cases hnm : n = m
  · subst hnm
    go_enter Try.func102, Try.ntmps102
    go_wp2
    go_loopw [17] (fun v wr => ∃ k : Nat, k ≤ n ∧ v = .int .i64 k ∧ xs.take k = ys.take k ∧ wr = w) (fun v _ => n - (intOf v).toNat)
    case atStart => exact ⟨0, by omega, rfl, rfl, rfl⟩
    case round =>
      obtain ⟨k, hk, rfl, htk, hwr⟩ := hrel
      obtain rfl : w = wr := hwr.symm
      have Htk := Lib.hid htk
      clear htk
      by_cases hkn : k < n
      · obtain ⟨b1, o1, x, y1, rfl, _, gx, _, ⟨X, p, e, hy1, _, _, hbx⟩, hc1⟩ := ArrOf.at_ hx hkn
        obtain ⟨b2, o2, y, y2, rfl, _, gy, _, ⟨Y, p', e', hy2, _, _, hby⟩, hc2⟩ := ArrOf.at_ hy hkn
        have Hsx := Lib.hid (take_snocE gx)
        have Hsy := Lib.hid (take_snocE gy)
        have Hne := Lib.hid (ne_atE gx gy)
        have e1 : w.cell? ⟨b1, o1 + k, none⟩ = some (.slice X p e) := by
          have := hc1 0 (.slice X p e) (by rw [hy1]; rfl)
          simpa using this
        have e2 : w.cell? ⟨b2, o2 + k, none⟩ = some (.slice Y p' e') := by
          have := hc2 0 (.slice Y p' e') (by rw [hy2]; rfl)
          simpa using this
        have hcall := bytesEqual_any w F G X Y p p' e e' x y hbx hby
        generalize hbq : (x == y) = bq at hcall
        have Hbq := Lib.hid hbq
        have Hcall := Lib.hid hcall
        clear gx gy hc1 hc2 hy1 hy2 hcall hbq
        cases bq with
        | true =>
          have Hxy : Hid (x = y) := by have := Hbq.out; show _ = _; simpa using this
          go_wp2_with (go_at_call 103; refine Hcall.out.mono ?_; rintro e w' ⟨rfl, rfl⟩)
          go_roundw
          case rel => exact ⟨k + 1, by omega, by go_num, by rw [Hsx.out, Hsy.out, Htk.out, Hxy.out], trivial⟩
          case measure => (simp [intOf] <;> omega)
        | false =>
          have hxy : x ≠ y := by have := Hbq.out; simpa using this
          have He : Hid (decide (xs = ys) = false) := decide_eq_false (Hne.out hxy)
          clear hxy
          go_wp2_with (go_at_call 103; refine Hcall.out.mono ?_; rintro e w' ⟨rfl, rfl⟩)
          go_ret
          exact ⟨ret_bool He.out.symm, Fr.refl _ _⟩
      · have hoo := Htk.out
        rw [List.take_of_length_le (by rw [Hxl.out]; omega), List.take_of_length_le (by rw [Hyl.out]; omega)] at hoo
        have He : Hid (decide (xs = ys) = true) := decide_eq_true hoo
        clear hoo
        go_wp2
        go_ret
        exact ⟨ret_bool He.out.symm, Fr.refl _ _⟩
  · have b1 : ((n : Int) != (m : Int)) = true := by simp; omega
    have He : Hid (decide (xs = ys) = false) := decide_eq_false fun h => hnm (by rw [← Hxl.out, ← Hyl.out, h])
    clear hnm
    go_enter Try.func102, Try.ntmps102
    go_wp2
    go_ret
    exact ⟨ret_bool He.out.symm, Fr.refl _ _⟩

set_option maxRecDepth 100000 in
set_option maxHeartbeats 2000000 in
theorem EqualRefs_any (w : World) (F G : Nat → Prop) (A B : Option Addr) (n m c d : Nat) (xs ys : List Ref) (hx : Refs w F A n xs) (hy : Refs w G B m ys) (hn : n ≤ 9223372036854775807) :
    Calls Try.prog 101 #[.slice A n c, .slice B m d] w fun e w' => e = .returned (.bool (decide (xs = ys))) ∧ Fr NoB w w' := by
  have Hxl := Lib.hid hx.len
  have Hyl := Lib.hid hy.len
  by_cases hnm : n = m
  · subst hnm
    go_enter Try.func101, Try.ntmps101
    go_wp2
    go_loopw [13] (fun v wr => ∃ k : Nat, k ≤ n ∧ v = .int .i64 k ∧ xs.take k = ys.take k ∧ Fr NoB w wr) (fun v _ => n - (intOf v).toNat)
    case atStart => exact ⟨0, by omega, rfl, rfl, Fr.refl _ _⟩
    case round =>
      obtain ⟨k, hk, rfl, htk, hF0⟩ := hrel
      obtain ⟨w2, rfl⟩ : ∃ w2 : World, w2 = wr := ⟨_, rfl⟩
      have Htk := Lib.hid htk
      clear htk
      by_cases hkn : k < n
      · obtain ⟨b1, o1', x, y1, rfl, _, gx, _, ⟨hy1, _⟩, hc1⟩ := ArrOf.at_ (hx.fr hF0 fun _ _ => id) hkn
        obtain ⟨b2, o2', y, y2, rfl, _, gy, _, ⟨hy2, _⟩, hc2⟩ := ArrOf.at_ (hy.fr hF0 fun _ _ => id) hkn
        subst hy1 hy2
        have Hx := Lib.hid (refCells_len x)
        have Hy := Lib.hid (refCells_len y)
        have Hsx := Lib.hid (take_snocE gx)
        have Hsy := Lib.hid (take_snocE gy)
        have Hne := Lib.hid (ne_atE gx gy)
        have hneq := fun (o : Oper) (a : Act) (t' : TypeId) (u v : Operand) (ho : o.op = .binOp .neq 162 u v t') (hx : a.eval u = .agg (refCells x).toArray) (hy : a.eval v = .agg (refCells y).toArray) => exec_neq_ref (w := w2.drew) t' u v ho x y hx hy
        have e1 : ∀ j u, (refCells x)[j]? = some u → w2.drew.cell? ⟨b1, o1' + k * 33 + j, none⟩ = some u := hc1
        have e2 : ∀ j u, (refCells y)[j]? = some u → w2.drew.cell? ⟨b2, o2' + k * 33 + j, none⟩ = some u := hc2
        clear gx gy hc1 hc2
        generalize hbq : decide (x = y) = bq at hneq
        have Hbq := Lib.hid hbq
        clear hbq
        generalize refCells x = xc at *
        generalize refCells y = yc2 at *
        have g1 : (0 : Int) ≤ (k : Int) := by omega
        have g2 : (k : Int) < (n : Int) := by omega
        go_wp2
        refine wp_region_held (S := fun W => W = w2.drew) rfl ?_
        refine wpAnyH_take (i := 0) rfl (by decide +kernel) (by decide +kernel) (by decide +kernel) (fun _ _ _ h => h) (Or.inl ⟨by kernel_rfl, fun W hW => by rw [hW]; go_simp; with_reducible rfl⟩) rfl ?_
        refine wpAnyH_take (i := 1) rfl (by decide +kernel) (by decide +kernel) (by decide +kernel) (fun _ _ _ h => h) (Or.inl ⟨by kernel_rfl, fun W hW => by rw [hW]; go_simp; with_reducible rfl⟩) rfl ?_
        go_simp
        refine wpAnyH_take (i := 2) rfl (by decide +kernel) (by decide +kernel) (by decide +kernel) (fun _ _ _ h => h) (Or.inl ⟨by kernel_rfl, fun W hW => by rw [hW]; go_simp; with_reducible rfl⟩) rfl ?_
        go_simp
        refine wpAnyH_take (i := 3) rfl (by decide +kernel) (by decide +kernel) (by decide +kernel) (fun _ _ _ h => h) (Or.inl ⟨by kernel_rfl, fun W hW => by rw [hW]; exact exec_load_agg 162 (.tmp 18) rfl b1 (o1' + k * 33) rfl xc _ e1 Try.underlying162 rfl (by rw [Hx.out]; exact ref_size)⟩) rfl ?_
        refine wpAnyH_take (i := 4) rfl (by decide +kernel) (by decide +kernel) (by decide +kernel) (fun _ _ _ h => h) (Or.inl ⟨by kernel_rfl, fun W hW => by rw [hW]; go_simp; with_reducible rfl⟩) rfl ?_
        refine wpAnyH_take (i := 5) rfl (by decide +kernel) (by decide +kernel) (by decide +kernel) (fun _ _ _ h => h) (Or.inl ⟨by kernel_rfl, fun W hW => by rw [hW]; go_simp; with_reducible rfl⟩) rfl ?_
        go_simp
        refine wpAnyH_take (i := 6) rfl (by decide +kernel) (by decide +kernel) (by decide +kernel) (fun _ _ _ h => h) (Or.inl ⟨by kernel_rfl, fun W hW => by rw [hW]; go_simp; with_reducible rfl⟩) rfl ?_
        go_simp
        refine wpAnyH_take (i := 7) rfl (by decide +kernel) (by decide +kernel) (by decide +kernel) (fun _ _ _ h => h) (Or.inl ⟨by kernel_rfl, fun W hW => by rw [hW]; exact exec_load_agg 162 (.tmp 22) rfl b2 (o2' + k * 33) rfl yc2 _ e2 Try.underlying162 rfl (by rw [Hy.out]; exact ref_size)⟩) rfl ?_
        refine wpAnyH_take (i := 8) rfl (by decide +kernel) (by decide +kernel) (by decide +kernel) (fun _ _ _ h => h) (Or.inl ⟨by kernel_rfl, fun W hW => by rw [hW]; exact hneq _ _ _ (.tmp 19) (.tmp 23) rfl rfl rfl⟩) rfl ?_
        go_simp
        refine wpAnyH_done (by decide +kernel) ?_ _
        cases bq with
        | true =>
          have Hxy := Lib.hid (of_decide_eq_true Hbq.out)
          go_wp2
          go_roundw
          case rel => exact ⟨k + 1, by omega, by go_num, by rw [Hsx.out, Hsy.out, Htk.out, Hxy.out], hF0.drew⟩
          case measure => (simp [intOf] <;> omega)
        | false =>
          have He : Hid (decide (xs = ys) = false) := decide_eq_false (Hne.out (of_decide_eq_false Hbq.out))
          go_wp2
          go_ret
          exact ⟨ret_bool He.out.symm, hF0.drew⟩
      · have hoo := Htk.out
        rw [List.take_of_length_le (by rw [Hxl.out]; omega), List.take_of_length_le (by rw [Hyl.out]; omega)] at hoo
        have He : Hid (decide (xs = ys) = true) := decide_eq_true hoo
        clear hoo
        go_wp2
        go_ret
        exact ⟨ret_bool He.out.symm, hF0⟩
  · have b1 : ((n : Int) != (m : Int)) = true := by simp; omega
    have He : Hid (decide (xs = ys) = false) := decide_eq_false fun h => hnm (by rw [← Hxl.out, ← Hyl.out, h])
    clear hnm
    go_enter Try.func101, Try.ntmps101
    go_wp2
    go_ret
    exact ⟨ret_bool He.out.symm, Fr.refl _ _⟩

set_option maxRecDepth 100000 in
set_option maxHeartbeats 2000000 in
theorem bunSame_any (w : World) (F G : Nat → Prop) (y z : List Value) (x1 x2 : Bun) (hy : BunR w F y x1) (hz : BunR w G z x2) :
    Calls Try.prog 71 #[.agg y.toArray, .agg z.toArray] w fun e w' => e = .returned (.bool (decide (x1 = x2))) ∧ Fr NoB w w' := by
  obtain ⟨A, n, c, B, m, d, rfl, hnc, hcm, hr, hmd, hdm, ho⟩ := hy
  obtain ⟨A', n', c', B', m', d', rfl, hnc', hcm', hr', hmd', hdm', ho'⟩ := hz
  have hn63 : n ≤ 9223372036854775807 := by unfold maxLen at hcm; omega
  have hm63 : m ≤ 9223372036854775807 := by unfold maxLen at hdm; omega
  obtain ⟨yc, hyc⟩ : ∃ yc, yc = bunCells A n c B m d := ⟨_, rfl⟩
  obtain ⟨zc, hzc⟩ : ∃ zc, zc = bunCells A' n' c' B' m' d' := ⟨_, rfl⟩
  have hB1 : BunBlk ((w.alloc (.cells yc.toArray 112)).alloc (.cells zc.toArray 112)) w.heap.size A n c B m d := by rw [hyc]; exact ⟨(Blk.new _ _ _).alloc _⟩
  have hB2 : BunBlk ((w.alloc (.cells yc.toArray 112)).alloc (.cells zc.toArray 112)) (w.heap.size + 1) A' n' c' B' m' d' := by
    rw [hzc]
    have := Blk.new (w.alloc (.cells yc.toArray 112)) 112 (bunCells A' n' c' B' m' d').toArray
    rw [World.size_alloc] at this
    exact ⟨this⟩
  rw [← hyc, ← hzc]
  clear hyc hzc
  have hF1 : Fr NoB w ((w.alloc (.cells yc.toArray 112)).alloc (.cells zc.toArray 112)) := ((Fr.refl _ _).alloc _).alloc _
  have z1 := hB1.c0
  have z3 := hB2.c0
  obtain ⟨w1, hw1⟩ : ∃ w1, w1 = (w.alloc (.cells yc.toArray 112)).alloc (.cells zc.toArray 112) := ⟨_, rfl⟩
  rw [← hw1] at hB1 hB2 hF1
  have Hw1 := Lib.hid hw1
  have hcall := EqualRefs_any w1 _ _ A A' n n' c c' _ _ (hr.fr hF1 fun _ _ => id) (hr'.fr hF1 fun _ _ => id) hn63
  have ho1 := ho.fr hF1 fun _ _ => id
  have ho2 := ho'.fr hF1 fun _ _ => id
  have hdec : decide (x1 = x2) = (decide (x1.refs = x2.refs) && decide (x1.objs = x2.objs)) := by
    rw [Bool.eq_iff_iff]
    simp only [decide_eq_true_eq, Bool.and_eq_true]
    exact bun_eq
  have Hdec := Lib.hid hdec
  generalize hbq : decide (x1.refs = x2.refs) = bq at hcall
  have Hbq := Lib.hid hbq
  have Hcall := Lib.hid hcall
  clear hr ho hr' ho' hw1 hcall hdec hbq
  cases bq with
  | true =>
    have He : Hid (decide (x1 = x2) = decide (x1.objs = x2.objs)) := by show _ = _; rw [Hdec.out, Hbq.out, Bool.true_and]
    go_enter Try.func71, Try.ntmps71
    go_wp2_with (first
      | (go_at_call 101
         rw [← Hw1.out]
         refine Hcall.out.mono ?_
         rintro e w2 ⟨rfl, hf2⟩
         have q1 := (hB1.fr hf2 id).c1
         have q2 := (hB2.fr hf2 id).c1
         clear z1 z3)
      | (go_at_call 102
         refine (EqualBytss_any _ _ _ B B' m m' d d' _ _ (ho1.fr hf2 fun _ _ => id) (ho2.fr hf2 fun _ _ => id) hm63).mono ?_
         rintro e w3 ⟨rfl, hf3⟩))
    go_ret
    exact ⟨ret_bool He.out.symm, (hF1.trans hf2 fun _ _ => id).trans hf3 fun _ _ => id⟩
  | false =>
    have He : Hid (decide (x1 = x2) = false) := by show _ = _; rw [Hdec.out, Hbq.out, Bool.false_and]
    go_enter Try.func71, Try.ntmps71
    go_wp2_with (go_at_call 101
                 rw [← Hw1.out]
                 refine Hcall.out.mono ?_
                 rintro e w2 ⟨rfl, hf2⟩)
    go_ret
    exact ⟨ret_bool He.out.symm, hF1.trans hf2 fun _ _ => id⟩
end Go.Proofs.Ytnkfchondedfcaa
