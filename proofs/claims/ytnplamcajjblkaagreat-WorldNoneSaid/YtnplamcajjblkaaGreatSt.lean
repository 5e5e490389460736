/-
  Strings made into bytes: the row that '[]byte(s)' lays. Conditions: each lemma states its own.
-/
import Derived.Test.YtnplamcajjblkaaGreatRg
import Derived.Laws.IdiomStrings
namespace Go.Proofs.YtnplamcajjblkaaGreat
open Go.RowKit

/-- Block g is a row that begins with the bytes l, as a conversion lays it. -/
def StrRow (w : World) (g : Nat) (t : TypeId) (l : List UInt8) : Prop :=
  ∃ cs : Array Value, w.heap[g]? = some (.cells cs t (cs.size, cs.size + 1)) ∧ l.length ≤ cs.size ∧ cs.toList.take l.length = l.map bv

section
variable {w w' : World} {g : Nat} {t : TypeId} {l : List UInt8} {S : Nat → Prop}
theorem StrRow.lt (h : StrRow w g t l) : g < w.heap.size := by
  obtain ⟨cs, h, _⟩ := h
  exact (Array.getElem?_eq_some_iff.1 h).1
theorem StrRow.fr (h : StrRow w g t l) (hf : Fr S w w') (hd : ¬ S g) : StrRow w' g t l := by
  have hlt := h.lt
  obtain ⟨cs, h, h2⟩ := h
  exact ⟨cs, (hf.block g hlt hd).trans h, h2⟩
theorem StrRow.get (h : StrRow w g t l) {j : Nat} (hj : j < l.length) : w.cell? ⟨g, j, none⟩ = some (bv l[j]) := by
  obtain ⟨cs, h, h1, h2⟩ := h
  rw [cell_of_row w g j cs t _ h]
  have := congrArg (·[j]?) h2
  simp only [List.getElem?_take, hj, if_true, List.getElem?_map, List.getElem?_eq_getElem hj, Option.map_some] at this
  simpa using this
theorem StrRow.frozen (h : StrRow w g t l) {j : Nat} (hj : j < l.length) : w.frozen? ⟨g, j, none⟩ = false := by
  obtain ⟨cs, h, h1, h2⟩ := h
  simp [World.frozen?, h]
  omega
theorem StrRow.set_ (h : StrRow w g t l) {j : Nat} (c : UInt8) : StrRow (w.setCell ⟨g, j, none⟩ (bv c)) g t (l.set j c) := by
  obtain ⟨cs, h, h1, h2⟩ := h
  refine ⟨cs.setIfInBounds j (bv c), ?_, by simpa using h1, ?_⟩
  · simp [World.setCell, Array.getElem?_modify, h]
  · rw [Array.toList_setIfInBounds, List.length_set, List.take_set, h2, List.map_set]
theorem StrRow.byt (h : StrRow w g t l) {F : Nat → Prop} (hF : F g) : Byt w F (some ⟨g, 0, none⟩) l.length l := by
  refine ⟨by simp, fun _ => ⟨g, 0, rfl, hF, fun j u hu => ?_⟩⟩
  have hj : j < l.length := by have := (List.getElem?_eq_some_iff.1 hu).1; simpa using this
  rw [Nat.zero_add, h.get hj]
  rw [List.getElem?_map, List.getElem?_eq_getElem hj] at hu
  exact hu
end

section
variable {P : Program} {ops : Array Oper} {rest : List Oper} {o : Oper} {a : Act} {w : World} {Q : Exit → Act → World → Prop}
theorem exec_str (src dst e : TypeId) (x : Operand) (ho : o.op = .convert src dst x) (hs : P.underlying src = some .string) (hd : P.underlying dst = some (.slice e)) (he : P.underlying e = some (.int .u8)) (s : ByteArray) (hx : a.eval x = .string s) (hl : s.size ≤ maxLen) :
    ∃ g c W, (execOp a.eval o).run P w = .ok (.value (.slice (some ⟨g, 0, none⟩) s.size c)) W ∧ w.heap.size ≤ g ∧ StrRow W g e s.data.toList ∧ Fr NoB w W ∧ s.size ≤ c ∧ c ≤ maxLen ∧ W.heap.size = w.heap.size + 1 := by
  have hr := run_bytes_of_string (P := P) w src dst e s hs hd he
  obtain ⟨C, hC⟩ : ∃ C, C = grownCap w s.size 0 e := ⟨_, rfl⟩
  have h1 := grownCap_ge w s.size 0 e
  have h2 := grownCap_le_maxLen w s.size 0 e hl
  rw [← hC] at hr h1 h2
  have hsz : s.data.size = s.size := rfl
  refine ⟨w.heap.size, C, (w.drew.alloc (.cells (bytesRow s C) e ((bytesRow s C).size, (bytesRow s C).size + 1))), ?_, Nat.le_refl _, ⟨bytesRow s C, heap_alloc_new _ _, ?_, ?_⟩, ((Fr.refl NoB w).drew).alloc _, h1, h2, World.size_alloc _ _⟩
  · unfold execOp
    simp only [ho, hx, Sem.run_bind, hr, Result.andThen_ok, Sem.run_pure]
  · simp [bytesRow]
  · simp [bytesRow]
    exact fun _ _ => rfl
theorem wpList_str (hgd : o.guard = none) (src dst e : TypeId) (x : Operand) (ho : o.op = .convert src dst x) (hs : P.underlying src = some .string) (hd : P.underlying dst = some (.slice e)) (he : P.underlying e = some (.int .u8)) (s : ByteArray) (hx : a.eval x = .string s) (hl : s.size ≤ maxLen)
    (h : ∀ g c W, w.heap.size ≤ g → StrRow W g e s.data.toList → Fr NoB w W → s.size ≤ c → c ≤ maxLen → wpList P ops Q rest (a.put o.dst (.slice (some ⟨g, 0, none⟩) s.size c)) W) : wpList P ops Q (o :: rest) a w := by
  obtain ⟨g, c, W, h1, h2, h3, h4, h5, h6, _⟩ := exec_str (P := P) (w := w) src dst e x ho hs hd he s hx hl
  exact wpList_run (by simp [Region.wanted, hgd]) h1 (h g c W h2 h3 h4 h5 h6)
end
end Go.Proofs.YtnplamcajjblkaaGreat
