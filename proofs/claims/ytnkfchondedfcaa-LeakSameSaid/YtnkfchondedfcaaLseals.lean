/-
  Arguments opened: a slice of seals. Conditions: that it can be read as data.
-/
import Derived.Test.YtnkfchondedfcaaJa
import Derived.Test.YtnkfchondedfcaaWo
namespace Go.Proofs.Ytnkfchondedfcaa
open Go.ChangeShapes Go.WideShapes Go.ChangeAt Go.RowKit Go.Deep

section
variable {H : Type} {enc : TypeId × Value → H} {W : World}

theorem Ints.of_arrOf {w : World} {F : Nat → Prop} {A : Option Addr} {n : Nat} {l : List Int} (h : ArrOf (fun y x => y = [Value.int .i64 x]) w F 1 A n l) : Ints w F A n l := by
  refine ⟨by simp [h.1], fun hn => ?_⟩
  obtain ⟨b, o, e, hb, hc⟩ := h.2 hn
  refine ⟨b, o, e, hb, fun j u hu => ?_⟩
  have hj : j < l.length := by have := (List.getElem?_eq_some_iff.1 hu).1; simpa using this
  obtain ⟨y, _, rfl, h3⟩ := hc j _ (List.getElem?_eq_getElem hj)
  have := h3 0 _ rfl
  rw [List.getElem?_map, List.getElem?_eq_getElem hj] at hu
  simp only [Option.map_some, Option.some.injEq] at hu
  rw [← hu]
  simpa using this

theorem rd_ints {fuel : Nat} {cs : List Value} {x : DataW H × List MemPlace} (h : DataW.trod enc Try.prog W 0 (fun _ => true) true fuel 39 cs = some x) :
    ∃ A n c l, cs = [.slice A n c] ∧ n ≤ c ∧ c ≤ maxLen ∧ Ints W (fun k => k < W.heap.size) A n l := by
  obtain ⟨A, n, c, l, h1, h2, h3, h4⟩ := rd_slice (R := fun y (x : Int) => y = [Value.int .i64 x]) Try.underlying39 1 (by kernel_rfl) (by omega) h fun n cs' y hl hy => by
    obtain ⟨n0, e0, _, w0⟩ := DataW.trod_int Try.underlying3 hy
    exact ⟨n0, e0⟩
  exact ⟨A, n, c, l, h1, h2, h3, Ints.of_arrOf h4⟩

set_option maxRecDepth 100000 in
theorem rd_seal {fuel : Nat} {cs : List Value} {x : DataW H × List MemPlace} (hl : cs.length = 6) (h : DataW.trod enc Try.prog W 0 (fun _ => true) true fuel 41 cs = some x) :
    ∃ p, SealR W (fun k => k < W.heap.size) cs p := by
  obtain ⟨xs, m, _, _, _, hxs, hf⟩ := DataW.trod_struct Try.underlying41 h
  match cs, hl with
  | [c0, c1, c2, c3, c4, c5], _ =>
    obtain ⟨_, h0⟩ := rd_field hf hxs 0 3 0 1 rfl (by kernel_rfl)
    obtain ⟨_, h1⟩ := rd_field hf hxs 1 3 1 1 rfl (by kernel_rfl)
    obtain ⟨_, h2⟩ := rd_field hf hxs 2 32 2 1 rfl (by kernel_rfl)
    obtain ⟨_, h3⟩ := rd_field hf hxs 3 32 3 1 rfl (by kernel_rfl)
    obtain ⟨_, h4⟩ := rd_field hf hxs 4 3 4 1 rfl (by kernel_rfl)
    obtain ⟨_, h5⟩ := rd_field hf hxs 5 39 5 1 rfl (by kernel_rfl)
    obtain ⟨n0, e0, _, w0⟩ := DataW.trod_int Try.underlying3 h0
    obtain ⟨n1, e1, _, w1⟩ := DataW.trod_int Try.underlying3 h1
    obtain ⟨n2, e2, _, w2⟩ := DataW.trod_int Try.underlying32 h2
    obtain ⟨n3, e3, _, w3⟩ := DataW.trod_int Try.underlying32 h3
    obtain ⟨n4, e4, _, w4⟩ := DataW.trod_int Try.underlying3 h4
    obtain ⟨A5, n5, m5, l5, e5, a5, b5, r5⟩ := rd_ints h5
    injection e0 with e0
    injection e1 with e1
    injection e2 with e2
    injection e3 with e3
    injection e4 with e4
    injection e5 with e5
    subst e0 e1 e2 e3 e4 e5
    exact ⟨⟨n0, n1, n2, n3, n4, l5⟩, A5, n5, m5, rfl, a5, b5, r5⟩

theorem open_seals {A : Option Addr} {n c : Nat} {d : DataW H} {p : List MemPlace} (h : DataW.Trod enc Try.prog W 0 (fun _ => true) true 38 (.slice A n c) d p) :
    ∃ l, Seals W (fun k => k < W.heap.size) A n l ∧ n ≤ c ∧ c ≤ maxLen := by
  obtain ⟨fuel, hf⟩ := h
  obtain ⟨A', n', c', l, e, h1, h2, h3⟩ := rd_slice (R := SealR W (fun k => k < W.heap.size)) Try.underlying38 6 (by kernel_rfl) (by omega) hf fun n cs' y hl hy => rd_seal hl hy
  simp [Value.cells] at e
  obtain ⟨rfl, rfl, rfl⟩ := e
  exact ⟨l, h3, h1, h2⟩
end
end Go.Proofs.Ytnkfchondedfcaa
