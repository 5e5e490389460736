/-
  slices.Clone of bytes, ops, crashes and fates. Conditions: each contract states its own.
-/
import Derived.Test.YtnkfchondedfcaaTa
import Derived.Test.YtnkfchondedfcaaRg
import Derived.Test.YtnkfchondedfcaaCr
namespace Go.Proofs.Ytnkfchondedfcaa
open Go.RowKit

section
variable {P : Program} {o : Oper} {a : Act} {w : World} {ops : Array Oper} {rest : List Oper} {Q : Exit → Act → World → Prop}
theorem exec_build0 {t e : TypeId} {z : Value} {size bytes : Nat} (E : ElemOk P t e z size bytes) (ho : o.op = .buildSlice t 0 #[]) :
    (execOp a.eval o).run P w = .ok (.value (.slice (some ⟨w.heap.size, 0, none⟩) 0 0)) (w.alloc (.cells #[] e)) := by
  obtain ⟨ht, ⟨i, hi, hz, hsize, _⟩, hzs, hsz, _⟩ := E
  have h : (Instr.buildSlice t 0 #[]).run P w = .ok (.slice (some ⟨w.heap.size, 0, none⟩) 0 0) (w.alloc (.cells #[] e)) := by
    simp [Instr.buildSlice, run_underlying ht, sizeOf, typeInfo, hi, Instr.fill, newRow]
    rw [show Array.range 0 = #[] from by decide, List.map_toArray, List.map_nil]
  unfold execOp
  simp only [ho, List.map_toArray, List.map_nil, Sem.run_bind, h, Result.andThen_ok, Sem.run_pure]
theorem wpList_build0 (hgd : o.guard = none) {t e : TypeId} {z : Value} {size bytes : Nat} (E : ElemOk P t e z size bytes) (ho : o.op = .buildSlice t 0 #[])
    (h : wpList P ops Q rest (a.put o.dst (.slice (some ⟨w.heap.size, 0, none⟩) 0 0)) (w.alloc (.cells #[] e))) : wpList P ops Q (o :: rest) a w :=
  wpList_run (by simp [Region.wanted, hgd]) (exec_build0 E ho) h
theorem Own.fresh0 (w : World) (e : TypeId) (size : Nat) : Own (w.alloc (.cells #[] e)) e size (some ⟨w.heap.size, 0, none⟩) 0 0 [] :=
  ⟨by simp, .inr ⟨w.heap.size, 0, #[], rfl, Nat.zero_le _, Blk.new w e #[], Nat.le_refl _, by simp [maxLen], by simp, by simp⟩⟩
end
theorem el_op : ElemOk Try.prog 26 34 (.agg #[.int .u32 0, .int .i64 0, .string ⟨#[]⟩, .string ⟨#[]⟩, .string ⟨#[]⟩, .string ⟨#[]⟩, .int .u64 0]) 7 88 := .mk Try.underlying26 (by kernel_rfl) rfl (by omega) (by omega)
theorem el_crash : ElemOk Try.prog 24 129 (.agg #[.int .i64 0, .int .i64 0]) 2 16 := .mk Try.underlying24 (by kernel_rfl) rfl (by omega) (by omega)
theorem el_fate : ElemOk Try.prog 25 132 (.agg #[.int .i64 0, .int .i64 0]) 2 16 := .mk Try.underlying25 (by kernel_rfl) rfl (by omega) (by omega)
/-- A copy of a slice: its own, new. -/
def Cloned (w w' : World) (e : Ending) (t : TypeId) (size n : Nat) (xs : List Value) : Prop :=
  ∃ A' c', e = .returned (.slice A' n c') ∧ Own w' t size A' n c' xs ∧ Fr NoB w w' ∧ ∀ k, inB A' k → w.heap.size ≤ k

set_option maxRecDepth 100000 in
set_option maxHeartbeats 1000000 in
theorem CloneB_any (w : World) (F : Nat → Prop) (A : Option Addr) (n c : Nat) (xs : List Value) (h : Arr w F 1 A n xs) (h1 : ∀ u ∈ xs, u.oneCell' = true) (hb : n * 1 ≤ 140737488355328) :
    Calls Try.prog 74 #[.slice A n c] w fun e w' => Cloned w w' e 5 1 n xs := by
  have hcmp := Lib.run_eql_slice_nil (P := Try.prog) w 22 5 A n c 0 0 Try.underlying22
  cases A with
  | none =>
    have hn : n = 0 := by
      rcases Nat.eq_zero_or_pos n with h0 | h0
      · exact h0
      · obtain ⟨b, o, e, _⟩ := h.2 h0
        cases e
    subst hn
    have hx : xs = [] := List.eq_nil_of_length_eq_zero (by have := h.1; omega)
    subst hx
    rw [show (none : Option Addr).isNone = true from rfl] at hcmp
    go_enter Try.func74, Try.ntmps74
    go_wp2
    go_ret
    exact ⟨none, 0, rfl, Own.nil _ _ _, Fr.refl _ _, fun k hk => absurd hk (inB_none k)⟩
  | some ad =>
    rw [show (some ad).isNone = false from rfl] at hcmp
    have hO := Own.fresh0 w 5 1
    have hA := h.alloc (.cells #[] 5)
    have H1 := Lib.hid h1
    have Hb := Lib.hid hb
    clear h1 hb
    go_enter Try.func74, Try.ntmps74
    go_wp2_with (first
      | (refine wpList_build0 rfl el_u8 rfl ?_)
      | (refine wpList_app _ el_u8 rfl (.tmp 5) (.tmp 6) rfl _ 0 0 [] rfl hO F _ n c xs rfl hA H1.out (by have := Hb.out; omega) ?_; intro A' c' w' hO' hf' hin' _))
    go_ret
    rw [Nat.zero_add] at hO'
    refine ⟨A', c', rfl, by simpa using hO', ((Fr.refl NoB w).alloc _).new hf' fun j hj => .inr ?_, fun k hk => ?_⟩
    · have hj' := (inB_some _ _).1 hj; dsimp only at hj'; omega
    · rcases hin' k hk with hj | hj
      · have hj' := (inB_some _ _).1 hj; dsimp only at hj'; omega
      · simp only [World.size_alloc] at hj; omega

set_option maxRecDepth 100000 in
set_option maxHeartbeats 1000000 in
theorem CloneOps_any (w : World) (F : Nat → Prop) (A : Option Addr) (n c : Nat) (xs : List Value) (h : Arr w F 7 A n xs) (h1 : ∀ u ∈ xs, u.oneCell' = true) (hb : n * 88 ≤ 140737488355328) :
    Calls Try.prog 73 #[.slice A n c] w fun e w' => Cloned w w' e 34 7 n xs := by
  have hcmp := Lib.run_eql_slice_nil (P := Try.prog) w 26 34 A n c 0 0 Try.underlying26
  cases A with
  | none =>
    have hn : n = 0 := by
      rcases Nat.eq_zero_or_pos n with h0 | h0
      · exact h0
      · obtain ⟨b, o, e, _⟩ := h.2 h0
        cases e
    subst hn
    have hx : xs = [] := List.eq_nil_of_length_eq_zero (by have := h.1; omega)
    subst hx
    rw [show (none : Option Addr).isNone = true from rfl] at hcmp
    go_enter Try.func73, Try.ntmps73
    go_wp2
    go_ret
    exact ⟨none, 0, rfl, Own.nil _ _ _, Fr.refl _ _, fun k hk => absurd hk (inB_none k)⟩
  | some ad =>
    rw [show (some ad).isNone = false from rfl] at hcmp
    have hO := Own.fresh0 w 34 7
    have hA := h.alloc (.cells #[] 34)
    have H1 := Lib.hid h1
    have Hb := Lib.hid hb
    clear h1 hb
    go_enter Try.func73, Try.ntmps73
    go_wp2_with (first
      | (refine wpList_build0 rfl el_op rfl ?_)
      | (refine wpList_app _ el_op rfl (.tmp 5) (.tmp 6) rfl _ 0 0 [] rfl hO F _ n c xs rfl hA H1.out (by have := Hb.out; omega) ?_; intro A' c' w' hO' hf' hin' _))
    go_ret
    rw [Nat.zero_add] at hO'
    refine ⟨A', c', rfl, by simpa using hO', ((Fr.refl NoB w).alloc _).new hf' fun j hj => .inr ?_, fun k hk => ?_⟩
    · have hj' := (inB_some _ _).1 hj; dsimp only at hj'; omega
    · rcases hin' k hk with hj | hj
      · have hj' := (inB_some _ _).1 hj; dsimp only at hj'; omega
      · simp only [World.size_alloc] at hj; omega

set_option maxRecDepth 100000 in
set_option maxHeartbeats 1000000 in
theorem CloneCrashes_any (w : World) (F : Nat → Prop) (A : Option Addr) (n c : Nat) (xs : List Value) (h : Arr w F 2 A n xs) (h1 : ∀ u ∈ xs, u.oneCell' = true) (hb : n * 16 ≤ 140737488355328) :
    Calls Try.prog 75 #[.slice A n c] w fun e w' => Cloned w w' e 129 2 n xs := by
  have hcmp := Lib.run_eql_slice_nil (P := Try.prog) w 24 129 A n c 0 0 Try.underlying24
  cases A with
  | none =>
    have hn : n = 0 := by
      rcases Nat.eq_zero_or_pos n with h0 | h0
      · exact h0
      · obtain ⟨b, o, e, _⟩ := h.2 h0
        cases e
    subst hn
    have hx : xs = [] := List.eq_nil_of_length_eq_zero (by have := h.1; omega)
    subst hx
    rw [show (none : Option Addr).isNone = true from rfl] at hcmp
    go_enter Try.func75, Try.ntmps75
    go_wp2
    go_ret
    exact ⟨none, 0, rfl, Own.nil _ _ _, Fr.refl _ _, fun k hk => absurd hk (inB_none k)⟩
  | some ad =>
    rw [show (some ad).isNone = false from rfl] at hcmp
    have hO := Own.fresh0 w 129 2
    have hA := h.alloc (.cells #[] 129)
    have H1 := Lib.hid h1
    have Hb := Lib.hid hb
    clear h1 hb
    go_enter Try.func75, Try.ntmps75
    go_wp2_with (first
      | (refine wpList_build0 rfl el_crash rfl ?_)
      | (refine wpList_app _ el_crash rfl (.tmp 5) (.tmp 6) rfl _ 0 0 [] rfl hO F _ n c xs rfl hA H1.out (by have := Hb.out; omega) ?_; intro A' c' w' hO' hf' hin' _))
    go_ret
    rw [Nat.zero_add] at hO'
    refine ⟨A', c', rfl, by simpa using hO', ((Fr.refl NoB w).alloc _).new hf' fun j hj => .inr ?_, fun k hk => ?_⟩
    · have hj' := (inB_some _ _).1 hj; dsimp only at hj'; omega
    · rcases hin' k hk with hj | hj
      · have hj' := (inB_some _ _).1 hj; dsimp only at hj'; omega
      · simp only [World.size_alloc] at hj; omega

set_option maxRecDepth 100000 in
set_option maxHeartbeats 1000000 in
theorem CloneFates_any (w : World) (F : Nat → Prop) (A : Option Addr) (n c : Nat) (xs : List Value) (h : Arr w F 2 A n xs) (h1 : ∀ u ∈ xs, u.oneCell' = true) (hb : n * 16 ≤ 140737488355328) :
    Calls Try.prog 76 #[.slice A n c] w fun e w' => Cloned w w' e 132 2 n xs := by
  have hcmp := Lib.run_eql_slice_nil (P := Try.prog) w 25 132 A n c 0 0 Try.underlying25
  cases A with
  | none =>
    have hn : n = 0 := by
      rcases Nat.eq_zero_or_pos n with h0 | h0
      · exact h0
      · obtain ⟨b, o, e, _⟩ := h.2 h0
        cases e
    subst hn
    have hx : xs = [] := List.eq_nil_of_length_eq_zero (by have := h.1; omega)
    subst hx
    rw [show (none : Option Addr).isNone = true from rfl] at hcmp
    go_enter Try.func76, Try.ntmps76
    go_wp2
    go_ret
    exact ⟨none, 0, rfl, Own.nil _ _ _, Fr.refl _ _, fun k hk => absurd hk (inB_none k)⟩
  | some ad =>
    rw [show (some ad).isNone = false from rfl] at hcmp
    have hO := Own.fresh0 w 132 2
    have hA := h.alloc (.cells #[] 132)
    have H1 := Lib.hid h1
    have Hb := Lib.hid hb
    clear h1 hb
    go_enter Try.func76, Try.ntmps76
    go_wp2_with (first
      | (refine wpList_build0 rfl el_fate rfl ?_)
      | (refine wpList_app _ el_fate rfl (.tmp 5) (.tmp 6) rfl _ 0 0 [] rfl hO F _ n c xs rfl hA H1.out (by have := Hb.out; omega) ?_; intro A' c' w' hO' hf' hin' _))
    go_ret
    rw [Nat.zero_add] at hO'
    refine ⟨A', c', rfl, by simpa using hO', ((Fr.refl NoB w).alloc _).new hf' fun j hj => .inr ?_, fun k hk => ?_⟩
    · have hj' := (inB_some _ _).1 hj; dsimp only at hj'; omega
    · rcases hin' k hk with hj | hj
      · have hj' := (inB_some _ _).1 hj; dsimp only at hj'; omega
      · simp only [World.size_alloc] at hj; omega
end Go.Proofs.Ytnkfchondedfcaa
