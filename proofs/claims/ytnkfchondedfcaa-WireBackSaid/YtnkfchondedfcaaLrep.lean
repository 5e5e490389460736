/-
  Arguments opened: a reply. Conditions: that it can be read as data.
-/
import Derived.Test.YtnkfchondedfcaaNb
import Derived.Test.YtnkfchondedfcaaLreq
namespace Go.Proofs.Ytnkfchondedfcaa
open Go.ChangeShapes Go.WideShapes Go.ChangeAt Go.RowKit Go.Deep

section
variable {H : Type} {enc : TypeId × Value → H} {W : World} {base : Nat}

theorem Strs.of_arrOf {w : World} {F : Nat → Prop} {A : Option Addr} {n : Nat} {l : List ByteArray} (h : ArrOf (fun y x => y = [Value.string x] ∧ x.size ≤ maxLen) w F 1 A n l) : Strs w F A n l ∧ ∀ s ∈ l, s.size ≤ maxLen := by
  refine ⟨⟨by simp [h.1], fun hn => ?_⟩, fun s hs => ?_⟩
  · obtain ⟨b, o, e, hb, hc⟩ := h.2 hn
    refine ⟨b, o, e, hb, fun j u hu => ?_⟩
    have hj : j < l.length := by have := (List.getElem?_eq_some_iff.1 hu).1; simpa using this
    obtain ⟨y, _, ⟨rfl, _⟩, h3⟩ := hc j _ (List.getElem?_eq_getElem hj)
    have := h3 0 _ rfl
    rw [List.getElem?_map, List.getElem?_eq_getElem hj] at hu
    simp only [Option.map_some, Option.some.injEq] at hu
    rw [← hu]
    simpa using this
  · obtain ⟨j, hj, e⟩ := List.getElem_of_mem hs
    obtain ⟨b, o, _, _, hc⟩ := h.2 (by rw [← h.1]; omega)
    obtain ⟨y, _, ⟨_, h2⟩, _⟩ := hc j s (by rw [List.getElem?_eq_getElem hj, e])
    exact h2

theorem rd_strs {fuel : Nat} {cs : List Value} {x : DataW H × List MemPlace} (h : DataW.trod enc Try.prog W 0 (fun _ => true) true fuel 88 cs = some x) :
    ∃ A n c l, cs = [.slice A n c] ∧ n ≤ c ∧ c ≤ maxLen ∧ Strs W (fun k => k < W.heap.size) A n l ∧ ∀ s ∈ l, s.size ≤ maxLen := by
  obtain ⟨A, n, c, l, h1, h2, h3, h4⟩ := rd_slice (R := fun y (x : ByteArray) => y = [Value.string x] ∧ x.size ≤ maxLen) Try.underlying88 1 (by kernel_rfl) (by omega) h fun n cs' y hl hy => by
    obtain ⟨s, e0, _, w0⟩ := DataW.trod_string Try.underlying9 hy
    exact ⟨s, e0, w0⟩
  obtain ⟨h5, h6⟩ := Strs.of_arrOf h4
  exact ⟨A, n, c, l, h1, h2, h3, h5, h6⟩

theorem list38 {cs : List Value} (hl : cs.length = 38) {v0 v1 v2 v35 v36 v37 : Value} {a : List Value} (h0 : cs[0]? = some v0) (h1 : cs[1]? = some v1) (h2 : cs[2]? = some v2)
    (ha : (cs.drop 3).take 32 = a) (h35 : cs[35]? = some v35) (h36 : cs[36]? = some v36) (h37 : cs[37]? = some v37) : cs = [v0, v1, v2] ++ (a ++ [v35, v36, v37]) := by
  subst ha
  have hla : ((cs.drop 3).take 32).length = 32 := by simp; omega
  apply List.ext_getElem?
  intro i
  by_cases c3 : i < 3
  · rw [List.getElem?_append_left (by simpa using c3)]
    match i, c3 with
    | 0, _ => exact h0
    | 1, _ => exact h1
    | 2, _ => exact h2
  · rw [List.getElem?_append_right (by simp; omega)]
    by_cases c35 : i < 35
    · rw [List.getElem?_append_left (by rw [hla]; simp; omega), List.getElem?_take, if_pos (by simp; omega), List.getElem?_drop]
      congr 1; simp; omega
    · rw [List.getElem?_append_right (by rw [hla]; simp; omega), hla]
      by_cases e35 : i = 35
      · subst e35; rw [h35]; rfl
      · by_cases e36 : i = 36
        · subst e36; rw [h36]; rfl
        · by_cases e37 : i = 37
          · subst e37; rw [h37]; rfl
          · rw [List.getElem?_eq_none (by omega), List.getElem?_eq_none (by simp; omega)]

set_option maxRecDepth 100000 in
theorem rd_reply {fuel : Nat} {cs : List Value} {x : DataW H × List MemPlace} (hl : cs.length = 38) (h : DataW.trod enc Try.prog W 0 (fun _ => true) true fuel 90 cs = some x) :
    ∃ r, RepR W (fun k => k < W.heap.size) cs r := by
  obtain ⟨xs, m, _, _, _, hxs, hf⟩ := DataW.trod_struct Try.underlying90 h
  obtain ⟨_, h0⟩ := rd_field hf hxs 0 32 0 1 rfl (by kernel_rfl)
  obtain ⟨_, h1⟩ := rd_field hf hxs 1 23 1 1 rfl (by kernel_rfl)
  obtain ⟨_, h2⟩ := rd_field hf hxs 2 46 2 1 rfl (by kernel_rfl)
  obtain ⟨_, h5⟩ := rd_field hf hxs 3 74 3 32 rfl (by kernel_rfl)
  obtain ⟨_, h7⟩ := rd_field hf hxs 4 23 35 1 rfl (by kernel_rfl)
  obtain ⟨_, h8⟩ := rd_field hf hxs 5 22 36 1 rfl (by kernel_rfl)
  obtain ⟨_, h9⟩ := rd_field hf hxs 6 88 37 1 rfl (by kernel_rfl)
  obtain ⟨n0, e0, _, w0⟩ := DataW.trod_int Try.underlying32 h0
  obtain ⟨n1, e1, _, w1⟩ := DataW.trod_int Try.underlying23 h1
  obtain ⟨n2, e2, _, w2⟩ := DataW.trod_int Try.underlying46 h2
  obtain ⟨l5, k5, e5⟩ := rd_arr32 Try.underlying74 Try.underlying5 (by kernel_rfl) (by kernel_rfl) h5
  obtain ⟨n7, e7, _, w7⟩ := DataW.trod_int Try.underlying23 h7
  obtain ⟨A8, n8, m8, l8, e8, a8, b8, r8⟩ := rd_bytes Try.underlying22 Try.underlying5 (by kernel_rfl) h8
  obtain ⟨A9, n9, m9, l9, e9, a9, b9, r9, s9⟩ := rd_strs h9
  have hb0 := bounds_u32 w0
  have hb1 := bounds_u64 w1
  have hb2 := bounds_i64 w2
  have hb7 := bounds_u64 w7
  have e := list38 hl (seg_one e0) (seg_one e1) (seg_one e2) e5 (seg_one e7) (seg_one e8) (seg_one e9)
  refine ⟨⟨n0.toNat, n1.toNat, n2, ⟨l5, k5⟩, n7.toNat, l8, l9⟩, A8, n8, m8, A9, n9, m9, ?_, a8, b8, r8, a9, b9, r9, by dsimp only; omega, by dsimp only; omega, by dsimp only; omega, by dsimp only; omega, by dsimp only; omega, s9⟩
  rw [e, repCells]
  dsimp only
  rw [Int.toNat_of_nonneg hb0.1, Int.toNat_of_nonneg hb1.1, Int.toNat_of_nonneg hb7.1]
  rfl

theorem reply_cells : Try.prog.cellsOf 90 = 38 := by kernel_rfl
set_option maxRecDepth 100000 in
theorem open_reply {v : Value} {d : DataW H} {p : List MemPlace} (hv : Value.okWide Try.prog W .any base 90 v) (h : DataW.Trod enc Try.prog W 0 (fun _ => true) true 90 v d p) :
    ∃ y : List Value, v = .agg y.toArray ∧ ∃ r, RepR W (fun k => k < W.heap.size) y r := by
  obtain ⟨cs, rfl, hs⟩ := okWide_struct Try.underlying90 hv
  obtain ⟨fuel, hf⟩ := h
  have hl : cs.toList.length = 38 := by rw [Array.length_toList, hs]; exact reply_cells
  obtain ⟨r, hr⟩ := rd_reply hl hf
  exact ⟨cs.toList, by simp, r, hr⟩
end
end Go.Proofs.Ytnkfchondedfcaa
