/-
  A request, as cells and in plain words. Conditions: each lemma states its own.
-/
import Derived.Test.YtnplamcajjblkaaGreatRows
import Derived.Test.YtnplamcajjblkaaGreatCx
import Derived.Test.YtnplamcajjblkaaGreatWi
import Derived.Test.YtnplamcajjblkaaGreatSt
namespace Go.Proofs.YtnplamcajjblkaaGreat
open Go.RowKit

structure Req where
  client : Nat
  seq : Nat
  kind : Int
  tenant : Nat
  name : ByteArray
  id : Id32
  old : Id32
  n : Nat
  body : List UInt8

def reqCells (r : Req) (A : Option Addr) (n c : Nat) : List Value :=
  [.int .u32 r.client, .int .u64 r.seq, .int .i64 r.kind, .int .u32 r.tenant, .string r.name] ++ (idCells r.id ++ (idCells r.old ++ [.int .u64 r.n, .slice A n c]))
theorem reqCells_len (r : Req) (A : Option Addr) (n c : Nat) : (reqCells r A n c).length = 71 := by simp [reqCells, idCells_len]
def reqWf (r : Req) : Prop := r.client < 4294967296 ∧ r.seq < 18446744073709551616 ∧ -9223372036854775808 ≤ r.kind ∧ r.kind ≤ 9223372036854775807 ∧ r.tenant < 4294967296 ∧ r.name.size ≤ maxLen ∧ r.n < 18446744073709551616

/-- Cells that read as a request; its body lies in blocks of F. -/
def ReqR (w : World) (F : Nat → Prop) (y : List Value) (r : Req) : Prop :=
  ∃ A n c, y = reqCells r A n c ∧ n ≤ c ∧ c ≤ maxLen ∧ Byt w F A n r.body ∧ reqWf r
theorem ReqR.fr {w w' : World} {F S : Nat → Prop} {y : List Value} {r : Req} (h : ReqR w F y r) (hf : Fr S w w') (hd : ∀ k, F k → ¬ S k) : ReqR w' F y r := by
  obtain ⟨A, n, c, h1, h2, h3, h4, h5⟩ := h
  exact ⟨A, n, c, h1, h2, h3, h4.fr hf hd, h5⟩
theorem ReqR.len {w : World} {F : Nat → Prop} {y : List Value} {r : Req} (h : ReqR w F y r) : y.length = 71 := by
  obtain ⟨A, n, c, rfl, _⟩ := h
  exact reqCells_len r A n c
theorem reqCells_one (r : Req) (A : Option Addr) (n c : Nat) : ∀ u ∈ reqCells r A n c, u.oneCell' = true := by
  intro u hu
  simp only [reqCells, List.mem_append, List.mem_cons, List.not_mem_nil, or_false] at hu
  rcases hu with (rfl | rfl | rfl | rfl | rfl) | h | h | rfl | rfl
  all_goals first | rfl | exact bv_one _ _ h

/-- A block that holds a request. -/
structure ReqBlk (w : World) (g : Nat) (r : Req) (A : Option Addr) (n c : Nat) : Prop where
  blk : Blk w g 127 (reqCells r A n c).toArray
theorem ReqBlk.fr {w w' : World} {S : Nat → Prop} {g : Nat} {r : Req} {A : Option Addr} {n c : Nat} (h : ReqBlk w g r A n c) (hf : Fr S w w') (hd : ¬ S g) : ReqBlk w' g r A n c := ⟨h.blk.fr hf hd⟩
section
variable {w : World} {g : Nat} {r : Req} {A : Option Addr} {n c : Nat}
theorem ReqBlk.c0 (h : ReqBlk w g r A n c) : w.cell? ⟨g, 0, none⟩ = some (.int .u32 r.client) := (h.blk.cell 0).trans (by simp [reqCells])
theorem ReqBlk.c1 (h : ReqBlk w g r A n c) : w.cell? ⟨g, 1, none⟩ = some (.int .u64 r.seq) := (h.blk.cell 1).trans (by simp [reqCells])
theorem ReqBlk.c2 (h : ReqBlk w g r A n c) : w.cell? ⟨g, 2, none⟩ = some (.int .i64 r.kind) := (h.blk.cell 2).trans (by simp [reqCells])
theorem ReqBlk.c3 (h : ReqBlk w g r A n c) : w.cell? ⟨g, 3, none⟩ = some (.int .u32 r.tenant) := (h.blk.cell 3).trans (by simp [reqCells])
theorem ReqBlk.c4 (h : ReqBlk w g r A n c) : w.cell? ⟨g, 4, none⟩ = some (.string r.name) := (h.blk.cell 4).trans (by simp [reqCells])
theorem ReqBlk.c69 (h : ReqBlk w g r A n c) : w.cell? ⟨g, 69, none⟩ = some (.int .u64 r.n) := (h.blk.cell 69).trans (by simp [reqCells, idCells_len])
theorem ReqBlk.c70 (h : ReqBlk w g r A n c) : w.cell? ⟨g, 70, none⟩ = some (.slice A n c) := (h.blk.cell 70).trans (by simp [reqCells, idCells_len])
theorem ReqBlk.id_ (h : ReqBlk w g r A n c) (F : Nat → Prop) (hF : F g) : Byt w F (some ⟨g, 5, none⟩) 32 r.id.1 := by
  refine ⟨by simp [r.id.2], fun _ => ⟨g, 5, rfl, hF, fun j u hu => ?_⟩⟩
  refine (h.blk.cell _).trans ?_
  have hj : j < 32 := by have := (List.getElem?_eq_some_iff.1 hu).1; simpa [r.id.2] using this
  rw [List.getElem?_toArray, reqCells, List.getElem?_append_right (by simp), List.getElem?_append_left (by simp [idCells_len]; omega)]
  rw [show 5 + j - [Value.int .u32 r.client, .int .u64 r.seq, .int .i64 r.kind, .int .u32 r.tenant, .string r.name].length = j by simp]
  exact hu
theorem ReqBlk.old_ (h : ReqBlk w g r A n c) (F : Nat → Prop) (hF : F g) : Byt w F (some ⟨g, 37, none⟩) 32 r.old.1 := by
  refine ⟨by simp [r.old.2], fun _ => ⟨g, 37, rfl, hF, fun j u hu => ?_⟩⟩
  refine (h.blk.cell _).trans ?_
  have hj : j < 32 := by have := (List.getElem?_eq_some_iff.1 hu).1; simpa [r.old.2] using this
  rw [List.getElem?_toArray, reqCells, List.getElem?_append_right (by simp; omega), List.getElem?_append_right (by simp [idCells_len]; omega), List.getElem?_append_left (by simp [idCells_len]; omega)]
  rw [show 37 + j - [Value.int .u32 r.client, .int .u64 r.seq, .int .i64 r.kind, .int .u32 r.tenant, .string r.name].length - (idCells r.id).length = j by simp [idCells_len]; omega]
  exact hu
theorem ReqBlk.all (h : ReqBlk w g r A n c) : ∀ (j : Nat) (u : Value), (reqCells r A n c)[j]? = some u → w.cell? ⟨g, 0 + j, none⟩ = some u := fun j u hu => by
  rw [Nat.zero_add]
  exact (h.blk.cell j).trans (by rw [List.getElem?_toArray]; exact hu)
end

theorem req_size : (Tryz.prog.info? 127).map (·.size) = some 71 := by kernel_rfl
theorem req_zero : ((Tryz.prog.info? 127).bind (·.zero)).map (·.cells.size) = some 71 := by kernel_rfl

def reqAsks (r : Req) : Bool := decide (1 ≤ r.kind) && (decide (r.kind ≤ 10) && (decide (r.name.size ≤ 64) && decide (r.body.length ≤ 110000)))
def reqSmall (r : Req) : Bool := decide (r.name.size ≤ 200) && decide (r.body.length ≤ 1000)

end Go.Proofs.YtnplamcajjblkaaGreat
