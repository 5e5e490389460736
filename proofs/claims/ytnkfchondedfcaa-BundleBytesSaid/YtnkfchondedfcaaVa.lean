/-
  Bundles: plain words, and as cells. Conditions: each lemma states its own.
-/
import Derived.Test.YtnkfchondedfcaaVb
namespace Go.Proofs.Ytnkfchondedfcaa
open Go.RowKit

structure Ref where
  name : ByteArray
  id : Id32
deriving DecidableEq
def refCells (r : Ref) : List Value := .string r.name :: idCells r.id
theorem refCells_len (r : Ref) : (refCells r).length = 33 := by rw [refCells, List.length_cons, idCells_len]
def RefR (y : List Value) (r : Ref) : Prop := y = refCells r ∧ r.name.size ≤ maxLen
def Refs (w : World) (F : Nat → Prop) (A : Option Addr) (n : Nat) (l : List Ref) : Prop := ArrOf RefR w F 33 A n l
theorem Refs.fr {w w' : World} {F S : Nat → Prop} {A : Option Addr} {n : Nat} {l : List Ref} (h : Refs w F A n l) (hf : Fr S w w') (hd : ∀ k, F k → ¬ S k) : Refs w' F A n l := ArrOf.fr h hf hd fun _ _ _ hy => hy
/-- Slices of bytes, in blocks of F. -/
def Bytss (w : World) (F : Nat → Prop) (A : Option Addr) (n : Nat) (l : List (List UInt8)) : Prop := ArrOf (BytR w F) w F 1 A n l
theorem Bytss.fr {w w' : World} {F S : Nat → Prop} {A : Option Addr} {n : Nat} {l : List (List UInt8)} (h : Bytss w F A n l) (hf : Fr S w w') (hd : ∀ k, F k → ¬ S k) : Bytss w' F A n l := ArrOf.fr h hf hd fun _ _ _ hy => hy.fr hf hd
theorem BytR.more {w : World} {F G : Nat → Prop} {y : List Value} {l : List UInt8} (h : BytR w F y l) (hs : ∀ k, k < w.heap.size → F k → G k) : BytR w G y l := by
  obtain ⟨A, n, c, h1, h2, h3, h4⟩ := h
  exact ⟨A, n, c, h1, h2, h3, h4.more hs⟩
theorem Bytss.more {w : World} {F G : Nat → Prop} {A : Option Addr} {n : Nat} {l : List (List UInt8)} (h : Bytss w F A n l) (hs : ∀ k, k < w.heap.size → F k → G k) : Bytss w G A n l := ArrOf.more h (by omega) hs fun _ _ _ hy => hy.more hs

def risingF {α : Type} (f : α → List UInt8) : List α → Bool
  | a :: b :: t => Op.bytesLess (f a) (f b) && risingF f (b :: t)
  | _ => true
section
variable {α : Type} {f : α → List UInt8}
theorem risingF_snoc : ∀ (l : List α) (a b : α), risingF f (l ++ [a, b]) = (risingF f (l ++ [a]) && Op.bytesLess (f a) (f b))
  | [], a, b => by simp [risingF]
  | [x], a, b => by simp [risingF]
  | x :: y :: l, a, b => by
    have := risingF_snoc (y :: l) a b
    simp only [List.cons_append] at this ⊢
    rw [risingF, risingF, this, Bool.and_assoc]
theorem risingF_take {l : List α} {k : Nat} {a b : α} (ha : l[k]? = some a) (hb : l[k + 1]? = some b) : risingF f (l.take (k + 2)) = (risingF f (l.take (k + 1)) && Op.bytesLess (f a) (f b)) := by
  obtain ⟨h1, rfl⟩ := List.getElem?_eq_some_iff.1 ha
  obtain ⟨h2, rfl⟩ := List.getElem?_eq_some_iff.1 hb
  rw [List.take_succ_eq_append_getElem h2, List.take_succ_eq_append_getElem h1, List.append_assoc]
  exact risingF_snoc _ _ _
theorem risingF_mono : ∀ (l : List α) (k : Nat), risingF f l = true → risingF f (l.take k) = true
  | [], k, _ => by simp [risingF]
  | [x], 0, _ => rfl
  | [x], k + 1, _ => by simp [risingF]
  | x :: y :: l, 0, _ => rfl
  | x :: y :: l, 1, _ => rfl
  | x :: y :: l, k + 2, h => by
    rw [risingF, Bool.and_eq_true] at h
    have ih := risingF_mono (y :: l) (k + 1) h.2
    simp only [List.take_succ_cons] at ih ⊢
    rw [risingF, Bool.and_eq_true]
    exact ⟨h.1, ih⟩
theorem risingF_one (l : List α) : risingF f (l.take 1) = true := by
  cases l with
  | nil => rfl
  | cons a l => rfl
end
def refName (r : Ref) : List UInt8 := r.name.toList
def namedP (l : List Ref) : Bool := decide (l.length ≤ 100) && (l.all (fun r => goodS r.name) && risingF refName l)
structure Bun where
  refs : List Ref
  objs : List (List UInt8)
deriving DecidableEq
def bunCells (A : Option Addr) (n c : Nat) (B : Option Addr) (m d : Nat) : List Value := [.slice A n c, .slice B m d]
def BunR (w : World) (F : Nat → Prop) (y : List Value) (b : Bun) : Prop :=
  ∃ A n c B m d, y = bunCells A n c B m d ∧ n ≤ c ∧ c ≤ maxLen ∧ Refs w F A n b.refs ∧ m ≤ d ∧ d ≤ maxLen ∧ Bytss w F B m b.objs
theorem BunR.fr {w w' : World} {F S : Nat → Prop} {y : List Value} {b : Bun} (h : BunR w F y b) (hf : Fr S w w') (hd : ∀ k, F k → ¬ S k) : BunR w' F y b := by
  obtain ⟨A, n, c, B, m, d, h1, h2, h3, h4, h5, h6, h7⟩ := h
  exact ⟨A, n, c, B, m, d, h1, h2, h3, h4.fr hf hd, h5, h6, h7.fr hf hd⟩
def bunMay (b : Bun) : Bool := namedP b.refs && (decide (b.objs.length ≤ 2000) && b.objs.all envIs)
def refBytes (r : Ref) : List UInt8 := textBytes r.name.toList ++ r.id.1
def bunBytes (b : Bun) : List UInt8 := encN b.refs.length ++ (b.refs.flatMap refBytes ++ (encN b.objs.length ++ b.objs.flatMap textBytes))
theorem ref_size : (Try.prog.info? 162).map (·.size) = some 33 := by kernel_rfl
theorem ref_zero : ((Try.prog.info? 162).bind (·.zero)).map (·.cells.size) = some 33 := by kernel_rfl
theorem bun_size : (Try.prog.info? 112).map (·.size) = some 2 := by kernel_rfl
theorem bun_zero : ((Try.prog.info? 112).bind (·.zero)).map (·.cells.size) = some 2 := by kernel_rfl
theorem refCells_ones (r : Ref) : (refCells r).toArray.all (·.oneCell') = true := by
  rw [Array.all_eq_true_iff_forall_mem]
  intro u hu
  simp only [refCells, List.mem_toArray, List.mem_cons] at hu
  rcases hu with rfl | hu
  · rfl
  · exact bv_one r.id.1 u (by simpa [idCells] using hu)
/-- A ref in a block of its own. -/
structure RefBlk (w : World) (g : Nat) (r : Ref) : Prop where
  blk : Blk w g 162 (refCells r).toArray
section
variable {w w' : World} {g : Nat} {r : Ref} {S : Nat → Prop}
theorem RefBlk.fr (h : RefBlk w g r) (hf : Fr S w w') (hd : ¬ S g) : RefBlk w' g r := ⟨h.blk.fr hf hd⟩
theorem RefBlk.c0 (h : RefBlk w g r) : w.cell? ⟨g, 0, none⟩ = some (.string r.name) := (h.blk.cell 0).trans (by simp [refCells])
theorem RefBlk.byt (h : RefBlk w g r) : Byt w (fun k => k = g) (some ⟨g, 1, none⟩) 32 r.id.1 := by
  refine ⟨by simp [r.id.2], fun _ => ⟨g, 1, rfl, rfl, fun j u hu => ?_⟩⟩
  rw [h.blk.cell]
  simp only [refCells, List.getElem?_toArray, Nat.add_comm 1 j, List.getElem?_cons_succ]
  exact hu
theorem RefBlk.all (h : RefBlk w g r) : ∀ j u, (refCells r)[j]? = some u → w.cell? ⟨g, 0 + j, none⟩ = some u := fun j u hu => by rw [Nat.zero_add, h.blk.cell]; simpa using hu
end
end Go.Proofs.Ytnkfchondedfcaa
