/-
  Plain laws: what was written is read again, part by part.
-/
import Derived.Test.YtnkfchondedfcaaDa
import Derived.Test.YtnkfchondedfcaaEb
namespace Go.Proofs.Ytnkfchondedfcaa

theorem back_raw (b rest : List UInt8) : Rd.Raw ⟨b ++ rest, true⟩ b.length = (b, ⟨rest, true⟩) := by
  unfold Rd.Raw
  rw [if_pos ⟨rfl, by omega, by simp; omega⟩]
  simp
theorem back_text {b rest : List UInt8} (h : b.length ≤ 1000) : Rd.Text ⟨textBytes b ++ rest, true⟩ 1000 = (b, ⟨rest, true⟩) := by
  unfold Rd.Text textBytes
  rw [if_neg (by omega), List.append_assoc, RN_encN (b ++ rest) (by omega) (by simpa using h)]
  exact back_raw b rest
theorem back_idsGo : ∀ (ids : List Id32) (rest : List UInt8), Rd.idsGo ids.length ⟨idsFlat ids ++ rest, true⟩ = (ids, ⟨rest, true⟩)
  | [], rest => rfl
  | x :: ids, rest => by
    have e : idsFlat (x :: ids) ++ rest = x.1 ++ (idsFlat ids ++ rest) := by simp [idsFlat]
    have hr := back_raw x.1 (idsFlat ids ++ rest)
    rw [x.2] at hr
    rw [e, List.length_cons, Rd.idsGo_on (by rw [show ((32 : Int)) = ((32 : Nat) : Int) from rfl, hr]; exact x.2)]
    have hr' : Rd.Raw ⟨x.1 ++ (idsFlat ids ++ rest), true⟩ 32 = (x.1, ⟨idsFlat ids ++ rest, true⟩) := hr
    have ih := back_idsGo ids rest
    simp only [hr', ih]
theorem back_ids {ids : List Id32} {rest : List UInt8} (h : ids.length ≤ 100) : Rd.Ids ⟨idsBytes ids ++ rest, true⟩ 100 = (ids, ⟨rest, true⟩) := by
  unfold Rd.Ids idsBytes
  rw [if_neg (by omega), List.append_assoc, RN_encN (idsFlat ids ++ rest) (by omega) (by simpa using h)]
  dsimp only
  rw [back_idsGo]
  rfl
theorem partsBytes_drop (l : List Part) (k : Nat) : (partsBytes (l.drop k)).length ≤ (partsBytes l).length := by
  have e : partsBytes l = partsBytes (l.take k) ++ partsBytes (l.drop k) := by rw [partsBytes, partsBytes, partsBytes, ← List.flatMap_append, List.take_append_drop]
  rw [e, List.length_append]; omega
theorem partsBytes_bound : ∀ (l : List Part), (∀ p ∈ l, (partBytes p).length ≤ 400) → (partsBytes l).length ≤ 400 * l.length
  | [], _ => by simp [partsBytes]
  | p :: l, h => by
    have h1 := h p (by simp)
    have h2 := partsBytes_bound l fun q hq => h q (by simp [hq])
    simp only [partsBytes, List.flatMap_cons, List.length_append, List.length_cons] at h2 ⊢
    omega
theorem partsBytes_len {l : List Part} (h : fewB l = true) (hn : ∀ p ∈ l, p.n < 18446744073709551616) : (partsBytes l).length ≤ 8000 := by
  have h1 := partsBytes_bound l fun p hp => partBytes_len (few_mem h hp) (hn p hp)
  have h2 := few_len h
  omega
theorem Parts.small {w : World} {F : Nat → Prop} {A : Option Addr} {n : Nat} {l : List Part} (h : Parts w F A n l) {p : Part} (hp : p ∈ l) : p.n < 18446744073709551616 := by
  obtain ⟨k, hk, rfl⟩ := List.mem_iff_getElem.1 hp
  obtain ⟨_, _, a, _, _, _, ha, _, hr, _⟩ := ArrOf.at_ h (k := k) (by have := h.len; omega)
  rw [List.getElem?_eq_getElem hk] at ha
  injection ha with ha
  obtain ⟨_, _, _, _, _, _, _, _, _, _, _, _, _, hn, _⟩ := hr
  rw [ha]; exact hn
theorem Parts.below' {w w' : World} {A : Option Addr} {n : Nat} {l : List Part} (h : Parts w (fun k => k < w.heap.size) A n l) (hf : Fr NoB w w') : Parts w' (fun k => k < w.heap.size) A n l := h.fr hf fun _ _ => id
end Go.Proofs.Ytnkfchondedfcaa
