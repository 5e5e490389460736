/-
  Arguments opened: a slice of chapter 8's parts. Conditions: that it can be read as data.
-/
import Derived.Test.YtnkfchondedfcaaCz
import Derived.Test.YtnkfchondedfcaaWo
namespace Go.Proofs.Ytnkfchondedfcaa
open Go.ChangeShapes Go.WideShapes Go.ChangeAt Go.RowKit Go.Deep

section
variable {H : Type} {enc : TypeId × Value → H} {W : World}

theorem rd_ids {fuel : Nat} {cs : List Value} {x : DataW H × List MemPlace} (h : DataW.trod enc Try.prog W 0 (fun _ => true) true fuel 60 cs = some x) :
    ∃ A n c ids, cs = [.slice A n c] ∧ n ≤ c ∧ c ≤ maxLen ∧ ArrOf IdR W (fun k => k < W.heap.size) 32 A n ids :=
  rd_slice Try.underlying60 32 (by kernel_rfl) (by omega) h fun n cs' y hl hy => by
    obtain ⟨l, h1, h2⟩ := rd_arr32 Try.underlying74 Try.underlying5 (by kernel_rfl) (by kernel_rfl) hy
    exact ⟨⟨l, h1⟩, h2⟩

set_option maxRecDepth 100000 in
theorem rd_part {fuel : Nat} {cs : List Value} {x : DataW H × List MemPlace} (hl : cs.length = 5) (h : DataW.trod enc Try.prog W 0 (fun _ => true) true fuel 62 cs = some x) :
    ∃ p, PartR W (fun k => k < W.heap.size) cs p := by
  obtain ⟨xs, m, _, _, _, hxs, hf⟩ := DataW.trod_struct Try.underlying62 h
  match cs, hl with
  | [c0, c1, c2, c3, c4], _ =>
    obtain ⟨_, h0⟩ := rd_field hf hxs 0 3 0 1 rfl (by kernel_rfl)
    obtain ⟨_, h1⟩ := rd_field hf hxs 1 23 1 1 rfl (by kernel_rfl)
    obtain ⟨_, h2⟩ := rd_field hf hxs 2 22 2 1 rfl (by kernel_rfl)
    obtain ⟨_, h3⟩ := rd_field hf hxs 3 60 3 1 rfl (by kernel_rfl)
    obtain ⟨_, h4⟩ := rd_field hf hxs 4 3 4 1 rfl (by kernel_rfl)
    obtain ⟨n0, e0, _, w0⟩ := DataW.trod_int Try.underlying3 h0
    obtain ⟨n1, e1, _, w1⟩ := DataW.trod_int Try.underlying23 h1
    obtain ⟨A2, n2, m2, l2, e2, a2, b2, r2⟩ := rd_bytes Try.underlying22 Try.underlying5 (by kernel_rfl) h2
    obtain ⟨A3, n3, m3, l3, e3, a3, b3, r3⟩ := rd_ids h3
    obtain ⟨n4, e4, _, w4⟩ := DataW.trod_int Try.underlying3 h4
    injection e0 with e0
    injection e1 with e1
    injection e2 with e2
    injection e3 with e3
    injection e4 with e4
    subst e0 e1 e2 e3 e4
    have hb1 := bounds_u64 w1
    have hb4 := bounds_i64 w4
    refine ⟨⟨n0, n1.toNat, l2, l3, n4⟩, A2, n2, m2, A3, n3, m3, ?_, a2, b2, r2, a3, b3, r3, by dsimp only; omega, by dsimp only; omega, by dsimp only; omega⟩
    dsimp only
    rw [Int.toNat_of_nonneg hb1.1]

theorem open_parts {A : Option Addr} {n c : Nat} {d : DataW H} {p : List MemPlace} (h : DataW.Trod enc Try.prog W 0 (fun _ => true) true 54 (.slice A n c) d p) :
    ∃ l, Parts W (fun k => k < W.heap.size) A n l ∧ n ≤ c ∧ c ≤ maxLen := by
  obtain ⟨fuel, hf⟩ := h
  obtain ⟨A', n', c', l, e, h1, h2, h3⟩ := rd_slice (R := PartR W (fun k => k < W.heap.size)) Try.underlying54 5 (by kernel_rfl) (by omega) hf fun n cs' y hl hy => rd_part hl hy
  simp [Value.cells] at e
  obtain ⟨rfl, rfl, rfl⟩ := e
  exact ⟨l, h3, h1, h2⟩
end
end Go.Proofs.Ytnkfchondedfcaa
