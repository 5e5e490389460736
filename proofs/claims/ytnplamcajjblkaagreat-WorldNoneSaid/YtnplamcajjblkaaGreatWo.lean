/-
  Arguments opened: what a slice of bytes that came in reads as. Conditions: that it can be read as data.
-/
import Derived.Test.YtnplamcajjblkaaGreatWd
import Derived.ProofKit
import Derived.OpenShut
import Derived.ShutString
import Derived.ChangeOld
import Derived.Below
import Derived.Deep.Slices
namespace Go.Proofs.YtnplamcajjblkaaGreat
open Go.ChangeShapes Go.WideShapes Go.ChangeAt Go.RowKit Go.Deep

section
variable {H : Type} {enc : TypeId × Value → H} {P : Program} {W : World} {base : Nat}

theorem okWide_slice' {r : Reach} {b0 : Nat} {t e : TypeId} {v : Value} (ht : P.underlying t = some (.slice e)) (hv : Value.okWide P W r b0 t v) : ∃ A n c, v = .slice A n c := okWide_slice ht hv

/-- An argument that is a slice of bytes. -/
theorem open_bytes {t e : TypeId} (ht : P.underlying t = some (.slice e)) (he : P.underlying e = some (.int .u8)) (hc1 : P.cellsOf e = 1) {A : Option Addr} {n c : Nat} {d : DataW H} {p : List MemPlace}
    (h : DataW.Trod enc P W 0 (fun _ => true) true t (.slice A n c) d p) :
    ∃ l : List UInt8, Byt W (fun k => k < W.heap.size) A n l ∧ n ≤ c ∧ c ≤ maxLen := by
  obtain ⟨fuel, hf⟩ := h
  rcases open_ints ht he hc1 hf with ⟨hcs, _⟩ | ⟨x, len, cap, zs, hcs, _, hl, hm, hz, _, hcell, hwz⟩
  · simp [Value.cells] at hcs
    obtain ⟨rfl, rfl, rfl⟩ := hcs
    exact ⟨[], Byt.nil _ _ _, Nat.le_refl _, by simp [maxLen]⟩
  · simp [Value.cells] at hcs
    obtain ⟨rfl, rfl, rfl⟩ := hcs
    have hz' : zs.length = c := by simpa using hz
    refine ⟨(zs.take n).map fun z => UInt8.ofNat z.toNat, ⟨by simp; omega, fun hn => ?_⟩, hl, hm⟩
    obtain ⟨b, off, spot⟩ := x
    have hc := hcell 0 (by omega)
    have hspot : spot = none := by simpa [Addr.add] using World.cell?_spot hc
    subst hspot
    refine ⟨b, off, rfl, World.block_lt_of_cell? W _ (by simpa [Addr.add] using hc), fun j u hj => ?_⟩
    have hjn : j < n := by
      have := (List.getElem?_eq_some_iff.1 hj).1
      simp at this; omega
    have hcj := hcell j (by omega)
    rw [Addr.add_lit] at hcj
    rw [hcj]
    have hjz : j < zs.length := by omega
    have hb := range_u8 hwz j
    simp only [List.getElem?_map, List.getElem?_take, hjn, if_true, List.getElem?_eq_getElem hjz, Option.map_some] at hj
    simp only [List.getElem?_eq_getElem hjz, Option.getD_some] at hb
    injection hj with hj
    rw [← hj, bv, List.getD_eq_getElem?_getD, List.getElem?_eq_getElem hjz]
    congr 2
    simp only [Option.getD_some]
    have h1 : zs[j].toNat < 256 := by omega
    rw [UInt8.toNat_ofNat', Nat.mod_eq_of_lt h1]
    omega
/-- A slice that came in, of whatever elements: its elements read by R if each one does. -/
theorem rd_slice {α : Type} {R : List Value → α → Prop} {t e : TypeId} {fuel : Nat} {cs : List Value} {x : DataW H × List MemPlace} (ht : P.underlying t = some (.slice e)) (size : Nat) (hsz : P.cellsOf e = size) (hs0 : 0 < size)
    (h : DataW.trod enc P W 0 (fun _ => true) true fuel t cs = some x)
    (hR : ∀ (n : Nat) (cs' : List Value) (y : DataW H × List MemPlace), cs'.length = size → DataW.trod enc P W 0 (fun _ => true) true n e cs' = some y → ∃ a, R cs' a) :
    ∃ A n c as, cs = [.slice A n c] ∧ n ≤ c ∧ c ≤ maxLen ∧ ArrOf R W (fun k => k < W.heap.size) size A n as := by
  rcases open_slice ht h with ⟨rfl, _⟩ | ⟨a, len, cap, m, n, D, Pl, rfl, _, hl, hm, hmm, _, hi⟩
  · exact ⟨none, 0, 0, [], rfl, Nat.le_refl _, by simp [maxLen], ArrOf.none_ _ _ _ _ _⟩
  · have hmc : m = cap := by simpa using hmm
    have hex : ∀ i, i < len → ∃ a' y, y.length = size ∧ R y a' ∧ ∀ j u, y[j]? = some u → W.cell? (a.add (i * size + j)) = some u := by
      intro i hil
      obtain ⟨cs', hcs, htr⟩ := hi i (by omega)
      rw [hsz] at hcs
      obtain ⟨_, hlen, hcell⟩ := World.cells?_some hcs
      obtain ⟨a', ha'⟩ := hR n cs' _ hlen htr
      refine ⟨a', cs', hlen, ha', fun j u hu => ?_⟩
      have hj : j < size := by have := (List.getElem?_eq_some_iff.1 hu).1; omega
      rw [← Go.Deep.add_add, hcell j hj, hu]
    rcases Nat.eq_zero_or_pos len with h0 | hpos
    · subst h0
      exact ⟨some a, 0, cap, [], rfl, hl, hm, ArrOf.none_ _ _ _ _ _⟩
    · obtain ⟨a0, y0, hy0, _, hc0⟩ := hex 0 hpos
      obtain ⟨b, off, spot⟩ := a
      have hc00 := hc0 0 _ (List.getElem?_eq_getElem (show 0 < y0.length by omega))
      have hspot : spot = none := by simpa [Addr.add] using World.cell?_spot hc00
      subst hspot
      haveI : Inhabited α := ⟨a0⟩
      obtain ⟨f, hf⟩ := choose_lt (α := α) (p := fun i a' => ∃ y, y.length = size ∧ R y a' ∧ ∀ j u, y[j]? = some u → W.cell? ((⟨b, off, none⟩ : Addr).add (i * size + j)) = some u) hex
      refine ⟨some ⟨b, off, none⟩, len, cap, (List.range len).map f, rfl, hl, hm, by simp, fun _ => ⟨b, off, rfl, World.block_lt_of_cell? W _ (by simpa [Addr.add_lit] using hc00), fun k a' ha => ?_⟩⟩
      have hk : k < len := by have := (List.getElem?_eq_some_iff.1 ha).1; simpa using this
      have ha' : f k = a' := by simpa [List.getElem?_map, List.getElem?_range hk] using ha
      obtain ⟨y, hy, hr, hc⟩ := hf k hk
      refine ⟨y, hy, ha' ▸ hr, fun j u hu => ?_⟩
      have := hc j u hu
      rw [Addr.add_lit, ← Nat.add_assoc] at this
      exact this

/-- Bytes, as a field or an element. -/
theorem rd_bytes {t e : TypeId} {fuel : Nat} {cs : List Value} {x : DataW H × List MemPlace} (ht : P.underlying t = some (.slice e)) (he : P.underlying e = some (.int .u8)) (hc1 : P.cellsOf e = 1)
    (h : DataW.trod enc P W 0 (fun _ => true) true fuel t cs = some x) : ∃ A n c l, cs = [.slice A n c] ∧ n ≤ c ∧ c ≤ maxLen ∧ Byt W (fun k => k < W.heap.size) A n l := by
  rcases open_slice ht h with ⟨rfl, _⟩ | ⟨a, len, cap, _, _, _, _, rfl, _⟩
  · exact ⟨none, 0, 0, [], rfl, Nat.le_refl _, by simp [maxLen], Byt.nil _ _ _⟩
  · obtain ⟨l, h1, h2, h3⟩ := open_bytes (A := some a) (n := len) (c := cap) ht he hc1 (d := x.1) (p := x.2) ⟨fuel, by simpa [Value.cells] using h⟩
    exact ⟨some a, len, cap, l, rfl, h2, h3, h1⟩

/-- An array of 32 bytes. -/
theorem rd_arr32 {t e : TypeId} {fuel : Nat} {cs : List Value} {x : DataW H × List MemPlace} (ht : P.underlying t = some (.array 32 e)) (he : P.underlying e = some (.int .u8)) (hc1 : P.cellsOf e = 1) (hct : P.cellsOf t = 32)
    (h : DataW.trod enc P W 0 (fun _ => true) true fuel t cs = some x) : ∃ l : List UInt8, l.length = 32 ∧ cs = l.map bv := by
  obtain ⟨xs, m, _, _, hlen, hxs, hi⟩ := DataW.trod_array ht h
  rw [hct] at hlen
  have hb : ∀ i (hi' : i < cs.length), ∃ u : UInt8, cs[i] = bv u := by
    intro i hi'
    have h1 := hi i (by omega)
    rw [hc1, Nat.mul_one, List.getElem?_eq_getElem (by omega)] at h1
    obtain ⟨n, hn, _, hwf⟩ := DataW.trod_int he h1
    rw [List.drop_eq_getElem_cons hi', List.take_succ_cons, List.take_zero] at hn
    injection hn with hn
    have hr := bounds_u8 hwf
    refine ⟨UInt8.ofNat n.toNat, ?_⟩
    rw [hn, bv]
    have : n.toNat < 256 := by omega
    rw [UInt8.toNat_ofNat', Nat.mod_eq_of_lt this]
    congr 1; omega
  obtain ⟨f, hf⟩ := choose_lt (α := UInt8) (n := cs.length) (p := fun i u => ∀ hi' : i < cs.length, cs[i] = bv u) (fun i hi' => by
    obtain ⟨u, hu⟩ := hb i hi'
    exact ⟨u, fun _ => hu⟩)
  refine ⟨(List.range cs.length).map f, by simpa using hlen, List.ext_getElem (by simp) fun i h1 h2 => ?_⟩
  simp only [List.getElem_map, List.getElem_range]
  exact hf i h1 h1
/-- A field of a struct that came in: type ty, from cell off on, so many cells. -/
theorem rd_field {fs : Array Field} {m : Nat} {cs : List Value} {xs : List (DataW H × List MemPlace)}
    (hf : ∀ (i : Nat) (f : Field), fs[i]? = some f → DataW.trod enc P W 0 (fun _ => true) true m f.type ((cs.drop f.offset).take (P.cellsOf f.type)) = xs[i]?) (hn : xs.length = fs.size)
    (i ty off sz : Nat) (hfi : (fs[i]?).map (fun f => (f.type, f.offset)) = some (ty, off)) (hs : P.cellsOf ty = sz) :
    ∃ y, DataW.trod enc P W 0 (fun _ => true) true m ty ((cs.drop off).take sz) = some y := by
  cases hq : fs[i]? with
  | none => rw [hq] at hfi; cases hfi
  | some f =>
    rw [hq] at hfi
    simp only [Option.map_some, Option.some.injEq, Prod.mk.injEq] at hfi
    have h := hf i f hq
    rw [hfi.1, hfi.2, hs] at h
    have hi : i < xs.length := by rw [hn]; exact (Array.getElem?_eq_some_iff.1 hq).1
    rw [List.getElem?_eq_getElem hi] at h
    exact ⟨_, h⟩
end
end Go.Proofs.YtnplamcajjblkaaGreat
