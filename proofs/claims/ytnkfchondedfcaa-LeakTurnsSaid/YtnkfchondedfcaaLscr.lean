/-
  Arguments opened: a script. Conditions: that it can be read as data.
-/
import Derived.Test.YtnkfchondedfcaaTa
import Derived.Test.YtnkfchondedfcaaWo
namespace Go.Proofs.Ytnkfchondedfcaa
open Go.ChangeShapes Go.WideShapes Go.ChangeAt Go.RowKit Go.Deep

section
variable {H : Type} {enc : TypeId × Value → H} {W : World} {base : Nat}

set_option maxRecDepth 100000 in
theorem rd_op {fuel : Nat} {cs : List Value} {x : DataW H × List MemPlace} (hl : cs.length = 7) (h : DataW.trod enc Try.prog W 0 (fun _ => true) true fuel 34 cs = some x) : ∃ o, OpnR cs o := by
  obtain ⟨xs, m, _, _, _, hxs, hf⟩ := DataW.trod_struct Try.underlying34 h
  match cs, hl with
  | [c0, c1, c2, c3, c4, c5, c6], _ =>
    obtain ⟨_, h0⟩ := rd_field hf hxs 0 32 0 1 rfl (by kernel_rfl)
    obtain ⟨_, h1⟩ := rd_field hf hxs 1 3 1 1 rfl (by kernel_rfl)
    obtain ⟨_, h2⟩ := rd_field hf hxs 2 9 2 1 rfl (by kernel_rfl)
    obtain ⟨_, h3⟩ := rd_field hf hxs 3 9 3 1 rfl (by kernel_rfl)
    obtain ⟨_, h4⟩ := rd_field hf hxs 4 9 4 1 rfl (by kernel_rfl)
    obtain ⟨_, h5⟩ := rd_field hf hxs 5 9 5 1 rfl (by kernel_rfl)
    obtain ⟨_, h6⟩ := rd_field hf hxs 6 23 6 1 rfl (by kernel_rfl)
    obtain ⟨n0, e0, _, w0⟩ := DataW.trod_int Try.underlying32 h0
    obtain ⟨n1, e1, _, w1⟩ := DataW.trod_int Try.underlying3 h1
    obtain ⟨s2, e2, _, w2⟩ := DataW.trod_string Try.underlying9 h2
    obtain ⟨s3, e3, _, w3⟩ := DataW.trod_string Try.underlying9 h3
    obtain ⟨s4, e4, _, w4⟩ := DataW.trod_string Try.underlying9 h4
    obtain ⟨s5, e5, _, w5⟩ := DataW.trod_string Try.underlying9 h5
    obtain ⟨n6, e6, _, w6⟩ := DataW.trod_int Try.underlying23 h6
    injection e0 with e0
    injection e1 with e1
    injection e2 with e2
    injection e3 with e3
    injection e4 with e4
    injection e5 with e5
    injection e6 with e6
    subst e0 e1 e2 e3 e4 e5 e6
    exact ⟨⟨n0, n1, s2, s3, s4, s5, n6⟩, rfl, w2, w3, w4, w5⟩
theorem rd_ops {fuel : Nat} {cs : List Value} {x : DataW H × List MemPlace} (h : DataW.trod enc Try.prog W 0 (fun _ => true) true fuel 26 cs = some x) :
    ∃ A n c l, cs = [.slice A n c] ∧ n ≤ c ∧ c ≤ maxLen ∧ Opns W (fun k => k < W.heap.size) A n l :=
  rd_slice (R := OpnR) Try.underlying26 7 (by kernel_rfl) (by omega) h fun n cs' y hl hy => rd_op hl hy
set_option maxRecDepth 100000 in
theorem rd_crash {fuel : Nat} {cs : List Value} {x : DataW H × List MemPlace} (hl : cs.length = 2) (h : DataW.trod enc Try.prog W 0 (fun _ => true) true fuel 129 cs = some x) : ∃ o, TwoR cs o := by
  obtain ⟨xs, m, _, _, _, hxs, hf⟩ := DataW.trod_struct Try.underlying129 h
  match cs, hl with
  | [c0, c1], _ =>
    obtain ⟨_, h0⟩ := rd_field hf hxs 0 3 0 1 rfl (by kernel_rfl)
    obtain ⟨_, h1⟩ := rd_field hf hxs 1 3 1 1 rfl (by kernel_rfl)
    obtain ⟨n0, e0, _, w0⟩ := DataW.trod_int Try.underlying3 h0
    obtain ⟨n1, e1, _, w1⟩ := DataW.trod_int Try.underlying3 h1
    injection e0 with e0
    injection e1 with e1
    subst e0 e1
    exact ⟨(n0, n1), rfl⟩
set_option maxRecDepth 100000 in
theorem rd_fate {fuel : Nat} {cs : List Value} {x : DataW H × List MemPlace} (hl : cs.length = 2) (h : DataW.trod enc Try.prog W 0 (fun _ => true) true fuel 132 cs = some x) : ∃ o, TwoR cs o := by
  obtain ⟨xs, m, _, _, _, hxs, hf⟩ := DataW.trod_struct Try.underlying132 h
  match cs, hl with
  | [c0, c1], _ =>
    obtain ⟨_, h0⟩ := rd_field hf hxs 0 3 0 1 rfl (by kernel_rfl)
    obtain ⟨_, h1⟩ := rd_field hf hxs 1 3 1 1 rfl (by kernel_rfl)
    obtain ⟨n0, e0, _, w0⟩ := DataW.trod_int Try.underlying3 h0
    obtain ⟨n1, e1, _, w1⟩ := DataW.trod_int Try.underlying3 h1
    injection e0 with e0
    injection e1 with e1
    subst e0 e1
    exact ⟨(n0, n1), rfl⟩
theorem rd_crashes {fuel : Nat} {cs : List Value} {x : DataW H × List MemPlace} (h : DataW.trod enc Try.prog W 0 (fun _ => true) true fuel 24 cs = some x) :
    ∃ A n c l, cs = [.slice A n c] ∧ n ≤ c ∧ c ≤ maxLen ∧ Twos W (fun k => k < W.heap.size) A n l :=
  rd_slice (R := TwoR) Try.underlying24 2 (by kernel_rfl) (by omega) h fun n cs' y hl hy => rd_crash hl hy
theorem rd_fates {fuel : Nat} {cs : List Value} {x : DataW H × List MemPlace} (h : DataW.trod enc Try.prog W 0 (fun _ => true) true fuel 25 cs = some x) :
    ∃ A n c l, cs = [.slice A n c] ∧ n ≤ c ∧ c ≤ maxLen ∧ Twos W (fun k => k < W.heap.size) A n l :=
  rd_slice (R := TwoR) Try.underlying25 2 (by kernel_rfl) (by omega) h fun n cs' y hl hy => rd_fate hl hy

set_option maxRecDepth 100000 in
theorem rd_script {fuel : Nat} {cs : List Value} {x : DataW H × List MemPlace} (hl : cs.length = 9) (h : DataW.trod enc Try.prog W 0 (fun _ => true) true fuel 28 cs = some x) :
    ∃ s, ScrR W (fun k => k < W.heap.size) cs s := by
  obtain ⟨xs, m, _, _, _, hxs, hf⟩ := DataW.trod_struct Try.underlying28 h
  match cs, hl with
  | [c0, c1, c2, c3, c4, c5, c6, c7, c8], _ =>
    obtain ⟨_, h0⟩ := rd_field hf hxs 0 3 0 1 rfl (by kernel_rfl)
    obtain ⟨_, h1⟩ := rd_field hf hxs 1 22 1 1 rfl (by kernel_rfl)
    obtain ⟨_, h2⟩ := rd_field hf hxs 2 3 2 1 rfl (by kernel_rfl)
    obtain ⟨_, h3⟩ := rd_field hf hxs 3 23 3 1 rfl (by kernel_rfl)
    obtain ⟨_, h4⟩ := rd_field hf hxs 4 3 4 1 rfl (by kernel_rfl)
    obtain ⟨_, h5⟩ := rd_field hf hxs 5 24 5 1 rfl (by kernel_rfl)
    obtain ⟨_, h6⟩ := rd_field hf hxs 6 25 6 1 rfl (by kernel_rfl)
    obtain ⟨_, h7⟩ := rd_field hf hxs 7 25 7 1 rfl (by kernel_rfl)
    obtain ⟨_, h8⟩ := rd_field hf hxs 8 26 8 1 rfl (by kernel_rfl)
    obtain ⟨n0, e0, _, w0⟩ := DataW.trod_int Try.underlying3 h0
    obtain ⟨A1, n1, m1, l1, e1, a1, b1, r1⟩ := rd_bytes Try.underlying22 Try.underlying5 (by kernel_rfl) h1
    obtain ⟨n2, e2, _, w2⟩ := DataW.trod_int Try.underlying3 h2
    obtain ⟨n3, e3, _, w3⟩ := DataW.trod_int Try.underlying23 h3
    obtain ⟨n4, e4, _, w4⟩ := DataW.trod_int Try.underlying3 h4
    obtain ⟨A5, n5, m5, l5, e5, a5, b5, r5⟩ := rd_crashes h5
    obtain ⟨A6, n6, m6, l6, e6, a6, b6, r6⟩ := rd_fates h6
    obtain ⟨A7, n7, m7, l7, e7, a7, b7, r7⟩ := rd_fates h7
    obtain ⟨A8, n8, m8, l8, e8, a8, b8, r8⟩ := rd_ops h8
    injection e0 with e0
    injection e1 with e1
    injection e2 with e2
    injection e3 with e3
    injection e4 with e4
    injection e5 with e5
    injection e6 with e6
    injection e7 with e7
    injection e8 with e8
    subst e0 e1 e2 e3 e4 e5 e6 e7 e8
    exact ⟨⟨n0, l1, n2, n3, n4, l5, l6, l7, l8⟩, ⟨A1, n1, m1, A5, n5, m5, A6, n6, m6, A7, n7, m7, A8, n8, m8⟩, rfl, ⟨a1, b1, r1⟩, ⟨a5, b5, r5⟩, ⟨a6, b6, r6⟩, ⟨a7, b7, r7⟩, a8, b8, r8⟩
set_option maxRecDepth 100000 in
theorem script_cells : Try.prog.cellsOf 28 = 9 := by kernel_rfl
set_option maxRecDepth 100000 in
theorem open_script {v : Value} {d : DataW H} {p : List MemPlace} (hv : Value.okWide Try.prog W .any base 28 v) (h : DataW.Trod enc Try.prog W 0 (fun _ => true) true 28 v d p) :
    ∃ y : List Value, v = .agg y.toArray ∧ ∃ s, ScrR W (fun k => k < W.heap.size) y s := by
  obtain ⟨cs, rfl, hs⟩ := okWide_struct Try.underlying28 hv
  obtain ⟨fuel, hf⟩ := h
  have hl : cs.toList.length = 9 := by rw [Array.length_toList, hs]; exact script_cells
  obtain ⟨r, hr⟩ := rd_script hl hf
  exact ⟨cs.toList, by simp, r, hr⟩
end
end Go.Proofs.Ytnkfchondedfcaa
