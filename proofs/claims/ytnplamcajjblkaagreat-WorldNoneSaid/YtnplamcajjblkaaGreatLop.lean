/-
  Arguments opened: an op. Conditions: that it can be read as data.
-/
import Derived.Test.YtnplamcajjblkaaGreatKx
import Derived.Test.YtnplamcajjblkaaGreatWo
namespace Go.Proofs.YtnplamcajjblkaaGreat
open Go.ChangeShapes Go.WideShapes Go.ChangeAt Go.RowKit Go.Deep

/-- An op. -/
structure OpW where
  client : Int
  kind : Int
  branch : ByteArray
  path : ByteArray
  other : ByteArray
  text : ByteArray
  n : Int
def opWL (o : OpW) : List Value := (opC o.client o.kind o.branch o.path o.other o.text o.n).toList
section
variable {H : Type} {enc : TypeId × Value → H} {W : World} {base : Nat}

set_option maxRecDepth 100000 in
theorem rd_opW {fuel : Nat} {cs : List Value} {x : DataW H × List MemPlace} (hl : cs.length = 7) (h : DataW.trod enc Tryz.prog W 0 (fun _ => true) true fuel 25 cs = some x) : ∃ o : OpW, cs = opWL o := by
  obtain ⟨xs, m, _, _, _, hxs, hf⟩ := DataW.trod_struct Tryz.underlying25 h
  match cs, hl with
  | [c0, c1, c2, c3, c4, c5, c6], _ =>
    obtain ⟨_, h0⟩ := rd_field hf hxs 0 22 0 1 rfl (by kernel_rfl)
    obtain ⟨_, h1⟩ := rd_field hf hxs 1 3 1 1 rfl (by kernel_rfl)
    obtain ⟨_, h2⟩ := rd_field hf hxs 2 9 2 1 rfl (by kernel_rfl)
    obtain ⟨_, h3⟩ := rd_field hf hxs 3 9 3 1 rfl (by kernel_rfl)
    obtain ⟨_, h4⟩ := rd_field hf hxs 4 9 4 1 rfl (by kernel_rfl)
    obtain ⟨_, h5⟩ := rd_field hf hxs 5 9 5 1 rfl (by kernel_rfl)
    obtain ⟨_, h6⟩ := rd_field hf hxs 6 23 6 1 rfl (by kernel_rfl)
    obtain ⟨n0, e0, _, w0⟩ := DataW.trod_int Tryz.underlying22 h0
    obtain ⟨n1, e1, _, w1⟩ := DataW.trod_int Tryz.underlying3 h1
    obtain ⟨s2, e2, _, w2⟩ := DataW.trod_string Tryz.underlying9 h2
    obtain ⟨s3, e3, _, w3⟩ := DataW.trod_string Tryz.underlying9 h3
    obtain ⟨s4, e4, _, w4⟩ := DataW.trod_string Tryz.underlying9 h4
    obtain ⟨s5, e5, _, w5⟩ := DataW.trod_string Tryz.underlying9 h5
    obtain ⟨n6, e6, _, w6⟩ := DataW.trod_int Tryz.underlying23 h6
    injection e0 with e0
    injection e1 with e1
    injection e2 with e2
    injection e3 with e3
    injection e4 with e4
    injection e5 with e5
    injection e6 with e6
    subst e0 e1 e2 e3 e4 e5 e6
    exact ⟨⟨n0, n1, s2, s3, s4, s5, n6⟩, rfl⟩
set_option maxRecDepth 100000 in
theorem op_cellsW : Tryz.prog.cellsOf 25 = 7 := by kernel_rfl
set_option maxRecDepth 100000 in
theorem open_op {v : Value} {d : DataW H} {p : List MemPlace} (hv : Value.okWide Tryz.prog W .any base 25 v) (h : DataW.Trod enc Tryz.prog W 0 (fun _ => true) true 25 v d p) :
    ∃ y : List Value, v = .agg y.toArray ∧ ∃ s : OpW, y = opWL s := by
  obtain ⟨cs, rfl, hs⟩ := okWide_struct Tryz.underlying25 hv
  obtain ⟨fuel, hf⟩ := h
  have hl : cs.toList.length = 7 := by rw [Array.length_toList, hs]; exact op_cellsW
  obtain ⟨r, hr⟩ := rd_opW hl hf
  exact ⟨cs.toList, by simp, r, hr⟩
end
end Go.Proofs.YtnplamcajjblkaaGreat
