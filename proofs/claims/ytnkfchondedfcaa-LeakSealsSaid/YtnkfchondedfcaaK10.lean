/-
  For every input the law LeakSeals returns true, and each argument reads afterwards as it read before. No condition.
-/
import Derived.Test.YtnkfchondedfcaaK1
import Derived.ProofKit
import Derived.OpenShut
import Derived.ShutString
import Derived.ChangeOld
import Derived.Below
import Derived.Deep.Slices
import Derived.Test.YtnkfchondedfcaaK5
import Derived.Test.YtnkfchondedfcaaRows
import Derived.Test.YtnkfchondedfcaaK9
namespace Go.Proofs.Ytnkfchondedfcaa
section
open Go.ChangeShapes Go.WideShapes Go.ChangeAt Go.RowKit Go.Deep

section
variable {H : Type} {enc : TypeId × Value → H} {P : Program} {W : World} {base : Nat}

theorem okWide_slice' {r : Reach} {b0 : Nat} {t e : TypeId} {v : Value} (ht : P.underlying t = some (.slice e)) (hv : Value.okWide P W r b0 t v) : ∃ A n c, v = .slice A n c := okWide_slice ht hv

/-- An argument that is a slice of bytes. -/
theorem open_bytes {t e : TypeId} (ht : P.underlying t = some (.slice e)) (he : P.underlying e = some (.int .u8)) (hc1 : P.cellsOf e = 1) {A : Option Addr} {n c : Nat} {d : DataW H} {p : List MemPlace}
    (h : DataW.Trod enc P W 0 (fun _ => true) true t (.slice A n c) d p) :
    ∃ l : List UInt8, Byt W (fun k => k < W.heap.size) A n l ∧ n ≤ c ∧ c ≤ maxLen := by
  obtain ⟨fuel, hf⟩ := h
  rcases open_ints ht he hc1 hf with ⟨hcs, _⟩ | ⟨x, len, cap, zs, hcs, _, hl, hm, hz, _, hcell, hwz⟩
  · simp [Value.cells] at hcs
    obtain ⟨rfl, rfl, rfl⟩ := hcs
    exact ⟨[], Byt.nil _ _ _, Nat.le_refl _, by simp [maxLen]⟩
  · simp [Value.cells] at hcs
    obtain ⟨rfl, rfl, rfl⟩ := hcs
    have hz' : zs.length = c := by simpa using hz
    refine ⟨(zs.take n).map fun z => UInt8.ofNat z.toNat, ⟨by simp; omega, fun hn => ?_⟩, hl, hm⟩
    obtain ⟨b, off, spot⟩ := x
    have hc := hcell 0 (by omega)
    have hspot : spot = none := by simpa [Addr.add] using World.cell?_spot hc
    subst hspot
    refine ⟨b, off, rfl, World.block_lt_of_cell? W _ (by simpa [Addr.add] using hc), fun j u hj => ?_⟩
    have hjn : j < n := by
      have := (List.getElem?_eq_some_iff.1 hj).1
      simp at this; omega
    have hcj := hcell j (by omega)
    rw [Addr.add_lit] at hcj
    rw [hcj]
    have hjz : j < zs.length := by omega
    have hb := range_u8 hwz j
    simp only [List.getElem?_map, List.getElem?_take, hjn, if_true, List.getElem?_eq_getElem hjz, Option.map_some] at hj
    simp only [List.getElem?_eq_getElem hjz, Option.getD_some] at hb
    injection hj with hj
    rw [← hj, bv, List.getD_eq_getElem?_getD, List.getElem?_eq_getElem hjz]
    congr 2
    simp only [Option.getD_some]
    have h1 : zs[j].toNat < 256 := by omega
    rw [UInt8.toNat_ofNat', Nat.mod_eq_of_lt h1]
    omega
/-- A slice that came in, of whatever elements: its elements read by R if each one does. -/
theorem rd_slice {α : Type} {R : List Value → α → Prop} {t e : TypeId} {fuel : Nat} {cs : List Value} {x : DataW H × List MemPlace} (ht : P.underlying t = some (.slice e)) (size : Nat) (hsz : P.cellsOf e = size) (hs0 : 0 < size)
    (h : DataW.trod enc P W 0 (fun _ => true) true fuel t cs = some x)
    (hR : ∀ (n : Nat) (cs' : List Value) (y : DataW H × List MemPlace), cs'.length = size → DataW.trod enc P W 0 (fun _ => true) true n e cs' = some y → ∃ a, R cs' a) :
    ∃ A n c als, cs = [.slice A n c] ∧ n ≤ c ∧ c ≤ maxLen ∧ ArrOf R W (fun k => k < W.heap.size) size A n als := by
  rcases open_slice ht h with ⟨rfl, _⟩ | ⟨a, len, cap, m, n, D, Pl, rfl, _, hl, hm, hmm, _, hi⟩
  · exact ⟨none, 0, 0, [], rfl, Nat.le_refl _, by simp [maxLen], ArrOf.none_ _ _ _ _ _⟩
  · have hmc : m = cap := by simpa using hmm
    have hex : ∀ i, i < len → ∃ a' y, y.length = size ∧ R y a' ∧ ∀ j u, y[j]? = some u → W.cell? (a.add (i * size + j)) = some u := by
      intro i hil
      obtain ⟨cs', hcs, htr⟩ := hi i (by omega)
      rw [hsz] at hcs
      obtain ⟨_, hlen, hcell⟩ := World.cells?_some hcs
      obtain ⟨a', ha'⟩ := hR n cs' _ hlen htr
      refine ⟨a', cs', hlen, ha', fun j u hu => ?_⟩
      have hj : j < size := by have := (List.getElem?_eq_some_iff.1 hu).1; omega
      rw [← Go.Deep.add_add, hcell j hj, hu]
    rcases Nat.eq_zero_or_pos len with h0 | hpos
    · subst h0
      exact ⟨some a, 0, cap, [], rfl, hl, hm, ArrOf.none_ _ _ _ _ _⟩
    · obtain ⟨a0, y0, hy0, _, hc0⟩ := hex 0 hpos
      obtain ⟨b, off, spot⟩ := a
      have hc00 := hc0 0 _ (List.getElem?_eq_getElem (show 0 < y0.length by omega))
      have hspot : spot = none := by simpa [Addr.add] using World.cell?_spot hc00
      subst hspot
      haveI : Inhabited α := ⟨a0⟩
      obtain ⟨f, hf⟩ := choose_lt (α := α) (p := fun i a' => ∃ y, y.length = size ∧ R y a' ∧ ∀ j u, y[j]? = some u → W.cell? ((⟨b, off, none⟩ : Addr).add (i * size + j)) = some u) hex
      refine ⟨some ⟨b, off, none⟩, len, cap, (List.range len).map f, rfl, hl, hm, by simp, fun _ => ⟨b, off, rfl, World.block_lt_of_cell? W _ (by simpa [Addr.add_lit] using hc00), fun k a' ha => ?_⟩⟩
      have hk : k < len := by have := (List.getElem?_eq_some_iff.1 ha).1; simpa using this
      have ha' : f k = a' := by simpa [List.getElem?_map, List.getElem?_range hk] using ha
      obtain ⟨y, hy, hr, hc⟩ := hf k hk
      refine ⟨y, hy, ha' ▸ hr, fun j u hu => ?_⟩
      have := hc j u hu
      rw [Addr.add_lit, ← Nat.add_assoc] at this
      exact this

/-- Bytes, als a field or an element. -/
theorem rd_bytes {t e : TypeId} {fuel : Nat} {cs : List Value} {x : DataW H × List MemPlace} (ht : P.underlying t = some (.slice e)) (he : P.underlying e = some (.int .u8)) (hc1 : P.cellsOf e = 1)
    (h : DataW.trod enc P W 0 (fun _ => true) true fuel t cs = some x) : ∃ A n c l, cs = [.slice A n c] ∧ n ≤ c ∧ c ≤ maxLen ∧ Byt W (fun k => k < W.heap.size) A n l := by
  rcases open_slice ht h with ⟨rfl, _⟩ | ⟨a, len, cap, _, _, _, _, rfl, _⟩
  · exact ⟨none, 0, 0, [], rfl, Nat.le_refl _, by simp [maxLen], Byt.nil _ _ _⟩
  · obtain ⟨l, h1, h2, h3⟩ := open_bytes (A := some a) (n := len) (c := cap) ht he hc1 (d := x.1) (p := x.2) ⟨fuel, by simpa [Value.cells] using h⟩
    exact ⟨some a, len, cap, l, rfl, h2, h3, h1⟩

/-- An array of 32 bytes. -/
theorem rd_arr32 {t e : TypeId} {fuel : Nat} {cs : List Value} {x : DataW H × List MemPlace} (ht : P.underlying t = some (.array 32 e)) (he : P.underlying e = some (.int .u8)) (hc1 : P.cellsOf e = 1) (hct : P.cellsOf t = 32)
    (h : DataW.trod enc P W 0 (fun _ => true) true fuel t cs = some x) : ∃ l : List UInt8, l.length = 32 ∧ cs = l.map bv := by
  obtain ⟨xs, m, _, _, hlen, hxs, hi⟩ := DataW.trod_array ht h
  rw [hct] at hlen
  have hb : ∀ i (hi' : i < cs.length), ∃ u : UInt8, cs[i] = bv u := by
    intro i hi'
    have h1 := hi i (by omega)
    rw [hc1, Nat.mul_one, List.getElem?_eq_getElem (by omega)] at h1
    obtain ⟨n, hn, _, hwf⟩ := DataW.trod_int he h1
    rw [List.drop_eq_getElem_cons hi', List.take_succ_cons, List.take_zero] at hn
    injection hn with hn
    have hr := bounds_u8 hwf
    refine ⟨UInt8.ofNat n.toNat, ?_⟩
    rw [hn, bv]
    have : n.toNat < 256 := by omega
    rw [UInt8.toNat_ofNat', Nat.mod_eq_of_lt this]
    congr 1; omega
  obtain ⟨f, hf⟩ := choose_lt (α := UInt8) (n := cs.length) (p := fun i u => ∀ hi' : i < cs.length, cs[i] = bv u) (fun i hi' => by
    obtain ⟨u, hu⟩ := hb i hi'
    exact ⟨u, fun _ => hu⟩)
  refine ⟨(List.range cs.length).map f, by simpa using hlen, List.ext_getElem (by simp) fun i h1 h2 => ?_⟩
  simp only [List.getElem_map, List.getElem_range]
  exact hf i h1 h1
/-- A field of a struct that came in: type ty, from cell off on, so many cells. -/
theorem rd_field {fs : Array Field} {m : Nat} {cs : List Value} {xs : List (DataW H × List MemPlace)}
    (hf : ∀ (i : Nat) (f : Field), fs[i]? = some f → DataW.trod enc P W 0 (fun _ => true) true m f.type ((cs.drop f.offset).take (P.cellsOf f.type)) = xs[i]?) (hn : xs.length = fs.size)
    (i ty off sz : Nat) (hfi : (fs[i]?).map (fun f => (f.type, f.offset)) = some (ty, off)) (hs : P.cellsOf ty = sz) :
    ∃ y, DataW.trod enc P W 0 (fun _ => true) true m ty ((cs.drop off).take sz) = some y := by
  cases hq : fs[i]? with
  | none => rw [hq] at hfi; cases hfi
  | some f =>
    rw [hq] at hfi
    simp only [Option.map_some, Option.some.injEq, Prod.mk.injEq] at hfi
    have h := hf i f hq
    rw [hfi.1, hfi.2, hs] at h
    have hi : i < xs.length := by rw [hn]; exact (Array.getElem?_eq_some_iff.1 hq).1
    rw [List.getElem?_eq_getElem hi] at h
    exact ⟨_, h⟩
end
end

section
open Go.ChangeShapes Go.WideShapes Go.ChangeAt Go.RowKit Go.Deep

section
variable {H : Type} {enc : TypeId × Value → H} {W : World} {base : Nat}

set_option maxRecDepth 100000 in
theorem rd_ref {fuel : Nat} {cs : List Value} {x : DataW H × List MemPlace} (hl : cs.length = 33) (h : DataW.trod enc Try.prog W 0 (fun _ => true) true fuel 162 cs = some x) : ∃ r, RefR cs r := by
  obtain ⟨xs, m, _, _, _, hxs, hf⟩ := DataW.trod_struct Try.underlying162 h
  obtain ⟨_, h0⟩ := rd_field hf hxs 0 9 0 1 rfl (by kernel_rfl)
  obtain ⟨_, h1⟩ := rd_field hf hxs 1 74 1 32 rfl (by kernel_rfl)
  obtain ⟨s0, e0, _, w0⟩ := DataW.trod_string Try.underlying9 h0
  obtain ⟨l1, b1, e1⟩ := rd_arr32 Try.underlying74 Try.underlying5 (by kernel_rfl) (by kernel_rfl) h1
  refine ⟨⟨s0, ⟨l1, b1⟩⟩, ?_, w0⟩
  cases cs with
  | nil => simp at hl
  | cons c0 cs =>
    simp only [List.drop_zero, List.take_succ_cons, List.take_zero, List.cons.injEq, and_true] at e0
    simp only [List.drop_succ_cons, List.drop_zero] at e1
    rw [List.take_of_length_le (by simp at hl; omega)] at e1
    rw [e0, e1]
    rfl
theorem rd_refs {fuel : Nat} {cs : List Value} {x : DataW H × List MemPlace} (h : DataW.trod enc Try.prog W 0 (fun _ => true) true fuel 110 cs = some x) :
    ∃ A n c l, cs = [.slice A n c] ∧ n ≤ c ∧ c ≤ maxLen ∧ Refs W (fun k => k < W.heap.size) A n l :=
  rd_slice (R := RefR) Try.underlying110 33 (by kernel_rfl) (by omega) h fun n cs' y hl hy => rd_ref hl hy
theorem rd_bytss {fuel : Nat} {cs : List Value} {x : DataW H × List MemPlace} (h : DataW.trod enc Try.prog W 0 (fun _ => true) true fuel 100 cs = some x) :
    ∃ A n c l, cs = [.slice A n c] ∧ n ≤ c ∧ c ≤ maxLen ∧ Bytss W (fun k => k < W.heap.size) A n l :=
  rd_slice (R := BytR W (fun k => k < W.heap.size)) Try.underlying100 1 (by kernel_rfl) (by omega) h fun n cs' y hl hy => by
    obtain ⟨A, n, c, l, e, h1, h2, h3⟩ := rd_bytes Try.underlying22 Try.underlying5 (by kernel_rfl) hy
    exact ⟨l, A, n, c, e, h1, h2, h3⟩
set_option maxRecDepth 100000 in
theorem rd_bundle {fuel : Nat} {cs : List Value} {x : DataW H × List MemPlace} (hl : cs.length = 2) (h : DataW.trod enc Try.prog W 0 (fun _ => true) true fuel 112 cs = some x) :
    ∃ b, BunR W (fun k => k < W.heap.size) cs b := by
  obtain ⟨xs, m, _, _, _, hxs, hf⟩ := DataW.trod_struct Try.underlying112 h
  match cs, hl with
  | [c0, c1], _ =>
    obtain ⟨_, h0⟩ := rd_field hf hxs 0 110 0 1 rfl (by kernel_rfl)
    obtain ⟨_, h1⟩ := rd_field hf hxs 1 100 1 1 rfl (by kernel_rfl)
    obtain ⟨A, n, c, l, e0, a1, a2, a3⟩ := rd_refs h0
    obtain ⟨B, m, d, l', e1, b1, b2, b3⟩ := rd_bytss h1
    injection e0 with e0
    injection e1 with e1
    subst e0 e1
    exact ⟨⟨l, l'⟩, A, n, c, B, m, d, rfl, a1, a2, a3, b1, b2, b3⟩
set_option maxRecDepth 100000 in
theorem bundle_cells : Try.prog.cellsOf 112 = 2 := by kernel_rfl
set_option maxRecDepth 100000 in
theorem open_bundle {v : Value} {d : DataW H} {p : List MemPlace} (hv : Value.okWide Try.prog W .any base 112 v) (h : DataW.Trod enc Try.prog W 0 (fun _ => true) true 112 v d p) :
    ∃ y : List Value, v = .agg y.toArray ∧ ∃ s, BunR W (fun k => k < W.heap.size) y s := by
  obtain ⟨cs, rfl, hs⟩ := okWide_struct Try.underlying112 hv
  obtain ⟨fuel, hf⟩ := h
  have hl : cs.toList.length = 2 := by rw [Array.length_toList, hs]; exact bundle_cells
  obtain ⟨r, hr⟩ := rd_bundle hl hf
  exact ⟨cs.toList, by simp, r, hr⟩
end
end

section
open Go.ChangeShapes Go.WideShapes Go.ChangeAt Go.RowKit Go.Deep

theorem open_bytess {H : Type} {enc : TypeId × Value → H} {W : World} {A : Option Addr} {n c : Nat} {d : DataW H} {p : List MemPlace} (h : DataW.Trod enc Try.prog W 0 (fun _ => true) true 100 (.slice A n c) d p) :
    ∃ l, Bytss W (fun k => k < W.heap.size) A n l ∧ n ≤ c ∧ c ≤ maxLen := by
  obtain ⟨fuel, hf⟩ := h
  obtain ⟨A', n', c', l, e, h1, h2, h3⟩ := rd_bytss hf
  simp [Value.cells] at e
  obtain ⟨rfl, rfl, rfl⟩ := e
  exact ⟨l, h3, h1, h2⟩
end

section
theorem wf_u64_b {n : Int} (h : (Lit.int .u64 n).wf = true) : 0 ≤ n ∧ n < 18446744073709551616 := by
  simp only [Lit.wf, Bool.and_eq_true, decide_eq_true_eq] at h
  have e1 : IntKind.u64.min = 0 := by decide
  have e2 : IntKind.u64.max = 18446744073709551615 := by decide
  rw [e1, e2] at h
  omega
theorem wf_i64_b {n : Int} (h : (Lit.int .i64 n).wf = true) : -9223372036854775808 ≤ n ∧ n ≤ 9223372036854775807 := by
  simp only [Lit.wf, Bool.and_eq_true, decide_eq_true_eq] at h
  have e1 : IntKind.i64.min = -9223372036854775808 := by decide
  have e2 : IntKind.i64.max = 9223372036854775807 := by decide
  rw [e1, e2] at h
  exact h
theorem wf_u32_b {n : Int} (h : (Lit.int .u32 n).wf = true) : 0 ≤ n ∧ n < 4294967296 := by
  simp only [Lit.wf, Bool.and_eq_true, decide_eq_true_eq] at h
  have e1 : IntKind.u32.min = 0 := by decide
  have e2 : IntKind.u32.max = 4294967295 := by decide
  rw [e1, e2] at h
  omega
end

section
open Go.ChangeShapes Go.WideShapes Go.ChangeAt Go.RowKit
open Go.ChangeMaps (open_string shut_string)

namespace leakSeals
theorem own : ownKnob Try.prog.godebug = none := by kernel_rfl
theorem laidOut : laidOutB Try.prog = true := by kernel_rfl

set_option maxRecDepth 100000 in
theorem lifted (os : Os) (started : os.Started) (H : Type) (enc : TypeId × Value → H) :
    ReturnsInHanded {} Try.checked os 14 .any (Rows.leakSealsSpec.pre6 enc Try.prog Try.f14 Rows.leakSealsRow.domain false) (Rows.leakSealsSpec.post enc Try.prog Try.f14 false true false false) := by
  refine returnsInHanded_of_change (C := Try.checked) own started (by kernel_rfl) Try.func14
    (ChangeSpec.witness6 (enc := enc) (C := Try.checked) false ⟨#[], #[.slice none 0 0, .int .i64 0], []⟩ 8 (by kernel_rfl) (by kernel_rfl) (by kernel_rfl) (by kernel_rfl)) ?_
  intro W base args ds gs before hval0 hW hcnd _
  have hval : ∀ (j : Nat) t v, Try.f14.params[j]? = some t → args[j]? = some v → Value.okWide Try.prog W .any base t v := hval0
  have hW' := hW
  obtain ⟨p, q, hA0, hV, rfl, hfz, hnd⟩ := hW
  have hA : DataW.TrodAll enc Try.prog W 0 (fun _ => true) true Try.f14.params.toList args.toList ds p := hA0
  rw [Try.params14] at hA hval
  obtain ⟨v0, vs0, d0, ds0, p0, q0, hargs, rfl, rfl, h0, r0⟩ := trodAll_cons hA
  obtain ⟨v1, vs1, d1, ds1, p1, q1, rfl, rfl, rfl, h1, r1⟩ := trodAll_cons r0
  obtain ⟨rfl, rfl, rfl⟩ := trodAll_nil r1
  obtain rfl : args = #[v0, v1] := by cases args; simp_all
  obtain ⟨rfl, rfl⟩ := trodVars_none hV
  obtain ⟨a0, n0, c0, rfl⟩ := okWide_slice Try.underlying100 (hval 0 100 v0 rfl rfl)
  have k0 := h0
  have lt0 : ∀ x ∈ p0, x.block < W.heap.size := by obtain ⟨m, hm⟩ := k0; exact DataW.trod_lt m _ _ _ hm
  obtain ⟨l0, w0, le0, cm0⟩ := open_bytess h0
  obtain ⟨x1, rfl, rfl, rfl, wx1⟩ := open_int Try.underlying3 (hval 1 3 v1 rfl rfl) h1
  clear hA0 hval0
  refine (LeakSeals_any W a0 n0 c0 x1 l0 w0 le0 cm0 (wf_i64_b wx1).1 (wf_i64_b wx1).2).mono fun e W' ⟨he, bel⟩ => ?_
  subst he
  exact ⟨_, rfl, _, _, _, [], _, [], hW', trodAll_mk1 (shut_bool Try.underlying4 _), (trodAll_cons_mk (Below.trod laidOut (by kernel_rfl) (of_decide_eq_true (by kernel_rfl)) k0 bel lt0) (trodAll_cons_mk (shut_int Try.underlying3 wx1) trodAll_mk0)), rfl, bel.frame _, fun h => by cases h⟩
end leakSeals

theorem leakSeals_holds : Rows.LeakSealsSaid :=
  OpenClaim.holds_of_wide 14 Try.f14 rfl rfl rfl rfl rfl rfl rfl ⟨rfl, rfl, rfl, rfl, rfl⟩ rfl rfl rfl rfl rfl (by kernel_rfl) Try.func14 (by kernel_rfl)
    (of_decide_eq_true (by kernel_rfl)) (by unfold Func.isWrapper; first | (rw [if_pos (by decide +kernel)]; kernel_rfl) | (rw [if_neg (by decide +kernel)]; exact ⟨rfl, rfl⟩))
    (fun os started H enc _ => leakSeals.lifted os started H enc)
#print axioms leakSeals_holds
end
end Go.Proofs.Ytnkfchondedfcaa
