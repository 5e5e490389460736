/-
  Arguments opened: a request. Conditions: that it can be read as data.
-/
import Derived.Test.YtdfmoafjgocbnaaGreatMx
import Derived.Test.YtdfmoafjgocbnaaGreatWo
namespace Go.Proofs.YtdfmoafjgocbnaaGreat
open Go.ChangeShapes Go.WideShapes Go.ChangeAt Go.RowKit Go.Deep

section
variable {H : Type} {enc : TypeId × Value → H} {W : World} {base : Nat}

theorem seg_one {cs : List Value} {k : Nat} {v : Value} (h : (cs.drop k).take 1 = [v]) : cs[k]? = some v := by
  have := congrArg (·[0]?) h
  simpa [List.getElem?_take, List.getElem?_drop] using this
theorem list71 {cs : List Value} (hl : cs.length = 71) {v0 v1 v2 v3 v4 v69 v70 : Value} {a b : List Value} (h0 : cs[0]? = some v0) (h1 : cs[1]? = some v1) (h2 : cs[2]? = some v2) (h3 : cs[3]? = some v3) (h4 : cs[4]? = some v4)
    (ha : (cs.drop 5).take 32 = a) (hb : (cs.drop 37).take 32 = b) (h69 : cs[69]? = some v69) (h70 : cs[70]? = some v70) : cs = [v0, v1, v2, v3, v4] ++ (a ++ (b ++ [v69, v70])) := by
  subst ha hb
  have hla : ((cs.drop 5).take 32).length = 32 := by simp; omega
  have hlb : ((cs.drop 37).take 32).length = 32 := by simp; omega
  apply List.ext_getElem?
  intro i
  by_cases c5 : i < 5
  · rw [List.getElem?_append_left (by simpa using c5)]
    match i, c5 with
    | 0, _ => exact h0
    | 1, _ => exact h1
    | 2, _ => exact h2
    | 3, _ => exact h3
    | 4, _ => exact h4
  · rw [List.getElem?_append_right (by simp; omega)]
    by_cases c37 : i < 37
    · rw [List.getElem?_append_left (by rw [hla]; simp; omega), List.getElem?_take, if_pos (by simp; omega), List.getElem?_drop]
      congr 1; simp; omega
    · rw [List.getElem?_append_right (by rw [hla]; simp; omega), hla]
      by_cases c69 : i < 69
      · rw [List.getElem?_append_left (by rw [hlb]; simp; omega), List.getElem?_take, if_pos (by simp; omega), List.getElem?_drop]
        congr 1; simp; omega
      · rw [List.getElem?_append_right (by rw [hlb]; simp; omega), hlb]
        by_cases e69 : i = 69
        · subst e69; rw [h69]; rfl
        · by_cases e70 : i = 70
          · subst e70; rw [h70]; rfl
          · rw [List.getElem?_eq_none (by omega), List.getElem?_eq_none (by simp; omega)]

set_option maxRecDepth 100000 in
theorem rd_request {fuel : Nat} {cs : List Value} {x : DataW H × List MemPlace} (hl : cs.length = 71) (h : DataW.trod enc Tryz.prog W 0 (fun _ => true) true fuel 60 cs = some x) :
    ∃ r, ReqR W (fun k => k < W.heap.size) cs r := by
  obtain ⟨xs, m, _, _, _, hxs, hf⟩ := DataW.trod_struct Tryz.underlying60 h
  obtain ⟨_, h0⟩ := rd_field hf hxs 0 24 0 1 rfl (by kernel_rfl)
  obtain ⟨_, h1⟩ := rd_field hf hxs 1 58 1 1 rfl (by kernel_rfl)
  obtain ⟨_, h2⟩ := rd_field hf hxs 2 3 2 1 rfl (by kernel_rfl)
  obtain ⟨_, h3⟩ := rd_field hf hxs 3 24 3 1 rfl (by kernel_rfl)
  obtain ⟨_, h4⟩ := rd_field hf hxs 4 9 4 1 rfl (by kernel_rfl)
  obtain ⟨_, h5⟩ := rd_field hf hxs 5 35 5 32 rfl (by kernel_rfl)
  obtain ⟨_, h6⟩ := rd_field hf hxs 6 35 37 32 rfl (by kernel_rfl)
  obtain ⟨_, h7⟩ := rd_field hf hxs 7 58 69 1 rfl (by kernel_rfl)
  obtain ⟨_, h8⟩ := rd_field hf hxs 8 22 70 1 rfl (by kernel_rfl)
  obtain ⟨n0, e0, _, w0⟩ := DataW.trod_int Tryz.underlying24 h0
  obtain ⟨n1, e1, _, w1⟩ := DataW.trod_int Tryz.underlying58 h1
  obtain ⟨n2, e2, _, w2⟩ := DataW.trod_int Tryz.underlying3 h2
  obtain ⟨n3, e3, _, w3⟩ := DataW.trod_int Tryz.underlying24 h3
  obtain ⟨s4, e4, _, w4⟩ := DataW.trod_string Tryz.underlying9 h4
  obtain ⟨l5, k5, e5⟩ := rd_arr32 Tryz.underlying35 Tryz.underlying5 (by kernel_rfl) (by kernel_rfl) h5
  obtain ⟨l6, k6, e6⟩ := rd_arr32 Tryz.underlying35 Tryz.underlying5 (by kernel_rfl) (by kernel_rfl) h6
  obtain ⟨n7, e7, _, w7⟩ := DataW.trod_int Tryz.underlying58 h7
  obtain ⟨A8, n8, m8, l8, e8, a8, b8, r8⟩ := rd_bytes Tryz.underlying22 Tryz.underlying5 (by kernel_rfl) h8
  have hb0 := bounds_u32 w0
  have hb1 := bounds_u64 w1
  have hb2 := bounds_i64 w2
  have hb3 := bounds_u32 w3
  have hb7 := bounds_u64 w7
  have e := list71 hl (seg_one e0) (seg_one e1) (seg_one e2) (seg_one e3) (seg_one e4) e5 e6 (seg_one e7) (seg_one e8)
  refine ⟨⟨n0.toNat, n1.toNat, n2, n3.toNat, s4, ⟨l5, k5⟩, ⟨l6, k6⟩, n7.toNat, l8⟩, A8, n8, m8, ?_, a8, b8, r8, by dsimp only; omega, by dsimp only; omega, by dsimp only; omega, by dsimp only; omega, by dsimp only; omega, w4, by dsimp only; omega⟩
  rw [e, reqCells]
  dsimp only
  rw [Int.toNat_of_nonneg hb0.1, Int.toNat_of_nonneg hb1.1, Int.toNat_of_nonneg hb3.1, Int.toNat_of_nonneg hb7.1]
  rfl

theorem request_cells : Tryz.prog.cellsOf 60 = 71 := by kernel_rfl
set_option maxRecDepth 100000 in
theorem open_request {v : Value} {d : DataW H} {p : List MemPlace} (hv : Value.okWide Tryz.prog W .any base 60 v) (h : DataW.Trod enc Tryz.prog W 0 (fun _ => true) true 60 v d p) :
    ∃ y : List Value, v = .agg y.toArray ∧ ∃ r, ReqR W (fun k => k < W.heap.size) y r := by
  obtain ⟨cs, rfl, hs⟩ := okWide_struct Tryz.underlying60 hv
  obtain ⟨fuel, hf⟩ := h
  have hl : cs.toList.length = 71 := by rw [Array.length_toList, hs]; exact request_cells
  obtain ⟨r, hr⟩ := rd_request hl hf
  exact ⟨cs.toList, by simp, r, hr⟩
end
end Go.Proofs.YtdfmoafjgocbnaaGreat
