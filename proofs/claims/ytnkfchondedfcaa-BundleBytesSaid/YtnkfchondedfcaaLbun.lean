/-
  Arguments opened: a bundle, a slice of slices of bytes. Conditions: that they can be read as data.
-/
import Derived.Test.YtnkfchondedfcaaVa
import Derived.Test.YtnkfchondedfcaaWo
namespace Go.Proofs.Ytnkfchondedfcaa
open Go.ChangeShapes Go.WideShapes Go.ChangeAt Go.RowKit Go.Deep

section
variable {H : Type} {enc : TypeId × Value → H} {W : World} {base : Nat}

set_option maxRecDepth 100000 in
theorem rd_ref {fuel : Nat} {cs : List Value} {x : DataW H × List MemPlace} (hl : cs.length = 33) (h : DataW.trod enc Try.prog W 0 (fun _ => true) true fuel 162 cs = some x) : ∃ r, RefR cs r := by
  obtain ⟨xs, m, _, _, _, hxs, hf⟩ := DataW.trod_struct Try.underlying162 h
  obtain ⟨_, h0⟩ := rd_field hf hxs 0 9 0 1 rfl (by kernel_rfl)
  obtain ⟨_, h1⟩ := rd_field hf hxs 1 74 1 32 rfl (by kernel_rfl)
  obtain ⟨s0, e0, _, w0⟩ := DataW.trod_string Try.underlying9 h0
  obtain ⟨l1, b1, e1⟩ := rd_arr32 Try.underlying74 Try.underlying5 (by kernel_rfl) (by kernel_rfl) h1
  refine ⟨⟨s0, ⟨l1, b1⟩⟩, ?_, w0⟩
  cases cs with
  | nil => simp at hl
  | cons c0 cs =>
    simp only [List.drop_zero, List.take_succ_cons, List.take_zero, List.cons.injEq, and_true] at e0
    simp only [List.drop_succ_cons, List.drop_zero] at e1
    rw [List.take_of_length_le (by simp at hl; omega)] at e1
    rw [e0, e1]
    rfl
theorem rd_refs {fuel : Nat} {cs : List Value} {x : DataW H × List MemPlace} (h : DataW.trod enc Try.prog W 0 (fun _ => true) true fuel 110 cs = some x) :
    ∃ A n c l, cs = [.slice A n c] ∧ n ≤ c ∧ c ≤ maxLen ∧ Refs W (fun k => k < W.heap.size) A n l :=
  rd_slice (R := RefR) Try.underlying110 33 (by kernel_rfl) (by omega) h fun n cs' y hl hy => rd_ref hl hy
theorem rd_bytss {fuel : Nat} {cs : List Value} {x : DataW H × List MemPlace} (h : DataW.trod enc Try.prog W 0 (fun _ => true) true fuel 100 cs = some x) :
    ∃ A n c l, cs = [.slice A n c] ∧ n ≤ c ∧ c ≤ maxLen ∧ Bytss W (fun k => k < W.heap.size) A n l :=
  rd_slice (R := BytR W (fun k => k < W.heap.size)) Try.underlying100 1 (by kernel_rfl) (by omega) h fun n cs' y hl hy => by
    obtain ⟨A, n, c, l, e, h1, h2, h3⟩ := rd_bytes Try.underlying22 Try.underlying5 (by kernel_rfl) hy
    exact ⟨l, A, n, c, e, h1, h2, h3⟩
set_option maxRecDepth 100000 in
theorem rd_bundle {fuel : Nat} {cs : List Value} {x : DataW H × List MemPlace} (hl : cs.length = 2) (h : DataW.trod enc Try.prog W 0 (fun _ => true) true fuel 112 cs = some x) :
    ∃ b, BunR W (fun k => k < W.heap.size) cs b := by
  obtain ⟨xs, m, _, _, _, hxs, hf⟩ := DataW.trod_struct Try.underlying112 h
  match cs, hl with
  | [c0, c1], _ =>
    obtain ⟨_, h0⟩ := rd_field hf hxs 0 110 0 1 rfl (by kernel_rfl)
    obtain ⟨_, h1⟩ := rd_field hf hxs 1 100 1 1 rfl (by kernel_rfl)
    obtain ⟨A, n, c, l, e0, a1, a2, a3⟩ := rd_refs h0
    obtain ⟨B, m, d, l', e1, b1, b2, b3⟩ := rd_bytss h1
    injection e0 with e0
    injection e1 with e1
    subst e0 e1
    exact ⟨⟨l, l'⟩, A, n, c, B, m, d, rfl, a1, a2, a3, b1, b2, b3⟩
set_option maxRecDepth 100000 in
theorem bundle_cells : Try.prog.cellsOf 112 = 2 := by kernel_rfl
set_option maxRecDepth 100000 in
theorem open_bundle {v : Value} {d : DataW H} {p : List MemPlace} (hv : Value.okWide Try.prog W .any base 112 v) (h : DataW.Trod enc Try.prog W 0 (fun _ => true) true 112 v d p) :
    ∃ y : List Value, v = .agg y.toArray ∧ ∃ s, BunR W (fun k => k < W.heap.size) y s := by
  obtain ⟨cs, rfl, hs⟩ := okWide_struct Try.underlying112 hv
  obtain ⟨fuel, hf⟩ := h
  have hl : cs.toList.length = 2 := by rw [Array.length_toList, hs]; exact bundle_cells
  obtain ⟨r, hr⟩ := rd_bundle hl hf
  exact ⟨cs.toList, by simp, r, hr⟩
end
end Go.Proofs.Ytnkfchondedfcaa
