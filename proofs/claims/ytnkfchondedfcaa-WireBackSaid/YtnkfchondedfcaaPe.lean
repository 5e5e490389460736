/-
  A reply that is filled field by field; what is read of bytes as a reply (plain). Conditions: each lemma states its own.
-/
import Derived.Test.YtnkfchondedfcaaPc
import Derived.Test.YtnkfchondedfcaaMf
namespace Go.Proofs.Ytnkfchondedfcaa
open Go.RowKit

def zeroRep : Rep := ⟨0, 0, 0, zeroId, 0, [], []⟩
theorem zeroRep_built : Try.prog.built 90 [] = some (repCells zeroRep none 0 0 none 0 0).toArray := by kernel_rfl
theorem clientRep_built (v : Int) : Try.prog.built 90 [(0, .int .u32 v)] = some (([Value.int .u32 v, .int .u64 0, .int .i64 0] : List Value) ++ (idCells zeroId ++ ([.int .u64 0, .slice none 0 0, .slice none 0 0] : List Value))).toArray := by kernel_rfl
theorem clientRep_built' (v : Nat) : Try.prog.built 90 [(0, .int .u32 (v : Int))] = some (repCells { zeroRep with client := v } none 0 0 none 0 0).toArray := clientRep_built v

section
variable {w : World} {g : Nat} {r : Rep} {A : Option Addr} {n c : Nat} {B : Option Addr} {m d : Nat}
theorem RepBlk.s1 (h : RepBlk w g r A n c B m d) (v : Nat) : RepBlk (w.setCell ⟨g, 1, none⟩ (.int .u64 v)) g { r with seq := v } A n c B m d := ⟨by simpa [repCells] using h.blk.set_ 1 (.int .u64 v)⟩
theorem RepBlk.s2 (h : RepBlk w g r A n c B m d) (v : Int) : RepBlk (w.setCell ⟨g, 2, none⟩ (.int .i64 v)) g { r with err := v } A n c B m d := ⟨by simpa [repCells] using h.blk.set_ 2 (.int .i64 v)⟩
theorem repCells_set35 (v : Nat) : (repCells r A n c B m d).set 35 (.int .u64 v) = repCells { r with n := v } A n c B m d := by
  unfold repCells
  rw [set_far _ _ _ _ (by simp), set_far _ _ _ _ (by simp [idCells_len])]
  simp [idCells_len]
theorem repCells_set36 (l : List UInt8) (A' : Option Addr) (n' c' : Nat) : (repCells r A n c B m d).set 36 (.slice A' n' c') = repCells { r with body := l } A' n' c' B m d := by
  unfold repCells
  rw [set_far _ _ _ _ (by simp), set_far _ _ _ _ (by simp [idCells_len])]
  simp [idCells_len]
theorem repCells_set37 (l : List ByteArray) (A' : Option Addr) (n' c' : Nat) : (repCells r A n c B m d).set 37 (.slice A' n' c') = repCells { r with names := l } A n c A' n' c' := by
  unfold repCells
  rw [set_far _ _ _ _ (by simp), set_far _ _ _ _ (by simp [idCells_len])]
  simp [idCells_len]
theorem RepBlk.s35 (h : RepBlk w g r A n c B m d) (v : Nat) : RepBlk (w.setCell ⟨g, 35, none⟩ (.int .u64 v)) g { r with n := v } A n c B m d := ⟨by
  have := h.blk.set_ 35 (.int .u64 v)
  rw [List.setIfInBounds_toArray, repCells_set35] at this
  exact this⟩
theorem RepBlk.s36 (h : RepBlk w g r A n c B m d) (l : List UInt8) (A' : Option Addr) (n' c' : Nat) : RepBlk (w.setCell ⟨g, 36, none⟩ (.slice A' n' c')) g { r with body := l } A' n' c' B m d := ⟨by
  have := h.blk.set_ 36 (.slice A' n' c')
  rw [List.setIfInBounds_toArray, repCells_set36 l] at this
  exact this⟩
theorem RepBlk.s37 (h : RepBlk w g r A n c B m d) (l : List ByteArray) (A' : Option Addr) (n' c' : Nat) : RepBlk (w.setCell ⟨g, 37, none⟩ (.slice A' n' c')) g { r with names := l } A n c A' n' c' := ⟨by
  have := h.blk.set_ 37 (.slice A' n' c')
  rw [List.setIfInBounds_toArray, repCells_set37 l] at this
  exact this⟩
theorem repCells_id (x : Id32) : (repCells r A n c B m d).take 3 ++ idCells x ++ (repCells r A n c B m d).drop (3 + 32) = repCells { r with id := x } A n c B m d := by
  unfold repCells
  rw [List.take_left' (by rfl)]
  rw [show 3 + 32 = [Value.int .u32 r.client, .int .u64 r.seq, .int .i64 r.err].length + 32 from rfl, List.drop_append, List.drop_eq_nil_of_le (by simp), List.nil_append]
  rw [Nat.add_sub_cancel_left, List.drop_left' (idCells_len r.id)]
  simp
theorem RepBlk.sid (h : RepBlk w g r A n c B m d) (x : Id32) : RepBlk (w.setRow g ((repCells r A n c B m d).toArray.toList.take 3 ++ idCells x ++ (repCells r A n c B m d).toArray.toList.drop (3 + (idCells x).length)).toArray) g { r with id := x } A n c B m d := ⟨by
  have := (setRow_fr (ds := ((repCells r A n c B m d).toArray.toList.take 3 ++ idCells x ++ (repCells r A n c B m d).toArray.toList.drop (3 + (idCells x).length)).toArray) h.blk).2
  rw [idCells_len] at this ⊢
  simp only at this ⊢
  rw [repCells_id] at this ⊢
  exact this⟩
end

/-- So many names that are read. -/
def namesGo : Nat → Rd → List ByteArray × Rd
  | 0, r => ([], r)
  | k + 1, r => (⟨(r.Text 64).1.toArray⟩ :: (namesGo k (r.Text 64).2).1, (namesGo k (r.Text 64).2).2)
theorem Rd.N_bad {r : Rd} (h : r.good = false) (m : Nat) : r.N m = (0, Rd.bad) := by simp [Rd.N, h]
theorem Rd.Raw_bad {r : Rd} (h : r.good = false) (k : Int) : r.Raw k = ([], Rd.bad) := by unfold Rd.Raw; rw [if_neg (by simp [h])]
theorem Rd.Text_bad {r : Rd} (h : r.good = false) : r.Text 64 = ([], Rd.bad) := by
  rw [Rd.Text, if_neg (by omega), Rd.N_bad h, Rd.Raw_bad rfl]
theorem Rd.Text_rest {r : Rd} (h : r.Rest = 0) : r.Text 64 = ([], Rd.bad) := by
  cases hg : r.good with
  | false => exact Rd.Text_bad hg
  | true =>
    have hl : r.l = [] := by
      unfold Rd.Rest at h
      rw [if_pos hg] at h
      exact List.eq_nil_of_length_eq_zero h
    have hN : ∀ m, r.N m = (0, Rd.bad) := fun m => by simp [Rd.N, hg, hl, rdGo_nil]
    rw [Rd.Text, if_neg (by omega), hN, Rd.Raw_bad rfl]
theorem namesGo_bad : ∀ (k : Nat) {r : Rd}, r.good = false → (namesGo k r).2.good = false
  | 0, _, h => h
  | k + 1, r, h => by
    rw [namesGo, Rd.Text_bad h]
    exact namesGo_bad k rfl
theorem namesGo_rest {k : Nat} {r : Rd} (h : r.Rest = 0) (hk : 0 < k) : (namesGo k r).2.good = false := by
  match k, hk with
  | k + 1, _ =>
    rw [namesGo, Rd.Text_rest h]
    exact namesGo_bad k rfl
theorem End_bad {r : Rd} (h : r.good = false) : Rd.End r ≠ 0 := by
  unfold Rd.End
  rw [h]
  simp
theorem namesGo_len : ∀ (k : Nat) (r : Rd), (namesGo k r).1.length = k
  | 0, _ => rfl
  | k + 1, r => by rw [namesGo, List.length_cons, namesGo_len k]
theorem namesGo_size : ∀ (k : Nat) (r : Rd), ∀ s ∈ (namesGo k r).1, s.size ≤ 64
  | 0, _, s, hs => by simp [namesGo] at hs
  | k + 1, r, s, hs => by
    rw [namesGo, List.mem_cons] at hs
    rcases hs with rfl | hs
    · show (r.Text 64).1.toArray.size ≤ 64
      have := Rd.Text_le r 64 64 (by omega)
      simpa using this
    · exact namesGo_size k _ s hs

def repParse (r0 : Rd) : Rep × Rd :=
  let q1 := r0.N 4294967295
  let q2 := q1.2.N 18446744073709551615
  let q3 := q2.2.N 1000
  let q4 := q3.2.Raw 32
  let q5 := q4.2.N 18446744073709551615
  let q6 := q5.2.Text 110000
  let q7 := q6.2.N 1000
  let z := namesGo q7.1 q7.2
  (⟨q1.1, q2.1, q3.1, idOf q4.1, q5.1, q6.1, z.1⟩, z.2)
theorem repParse_eq {r0 r1 r2 r3 r4 r5 r6 r7 : Rd} {v1 v2 v3 v5 v7 : Nat} {i4 l6 : List UInt8} {x4 : Id32} (h1 : r0.N 4294967295 = (v1, r1)) (h2 : r1.N 18446744073709551615 = (v2, r2)) (h3 : r2.N 1000 = (v3, r3)) (h4 : r3.Raw 32 = (i4, r4)) (e4 : x4 = idOf i4)
    (h5 : r4.N 18446744073709551615 = (v5, r5)) (h6 : r5.Text 110000 = (l6, r6)) (h7 : r6.N 1000 = (v7, r7)) : repParse r0 = (⟨v1, v2, (v3 : Nat), x4, v5, l6, (namesGo v7 r7).1⟩, (namesGo v7 r7).2) := by
  unfold repParse
  simp only [h1, h2, h3, h4, h5, h6, h7, ← e4]
def repIs (l : List UInt8) : Bool := match l with | [] => false | c :: t => decide (c.toNat = 2) && decide (Rd.End (repParse ⟨t, true⟩).2 = 0)
def repOf (l : List UInt8) : Rep := if repIs l = true then (repParse ⟨l.tail, true⟩).1 else zeroRep
def repBad (l : List UInt8) : Int := if repIs l = true then 0 else 180

/-- A reply and an error's number are handed back; its body and names lie in blocks of G. -/
def GotRep (G : Nat → Prop) (w w' : World) (e : Ending) (r : Rep) (bad : Int) : Prop :=
  ∃ y, e = .returned (.tuple #[.agg y.toArray, .int .i64 bad]) ∧ Fr NoB w w' ∧ RepR w' G y r
theorem GotRep.zero {G : Nat → Prop} {w w' : World} (h : Fr NoB w w') : GotRep G w w' (.returned (.tuple #[.agg (repCells zeroRep none 0 0 none 0 0).toArray, .int .i64 180])) zeroRep 180 :=
  ⟨_, rfl, h, none, 0, 0, none, 0, 0, rfl, Nat.le_refl _, by simp [maxLen], Byt.nil _ _ _, Nat.le_refl _, by simp [maxLen], Arr.none_ _ _ _ _, by unfold repWf; simp [zeroRep]⟩
theorem el_str : ElemOk Try.prog 88 9 (.string ⟨#[]⟩) 1 16 := .mk Try.underlying88 (by kernel_rfl) rfl (by omega) (by omega)
end Go.Proofs.Ytnkfchondedfcaa
