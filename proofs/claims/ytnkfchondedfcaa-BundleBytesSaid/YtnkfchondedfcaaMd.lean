/-
  An id that is read (wire.id; the document's Reader.Id), and a first byte (wire.begun). Conditions: each contract states its own.
-/
import Derived.Test.YtnkfchondedfcaaHc
import Derived.Test.YtnkfchondedfcaaRh
import Derived.Laws.CopyRow
import Derived.Laws.IdiomCopy
namespace Go.Proofs.Ytnkfchondedfcaa
open Go.RowKit

def idOf (l : List UInt8) : Id32 := if h : l.length = 32 then ⟨l, h⟩ else zeroId
theorem idOf_eq {l : List UInt8} (h : l.length = 32) : (idOf l).1 = l := by rw [idOf, dif_pos h]
theorem idOf_zero {l : List UInt8} (h : l.length ≠ 32) : idOf l = zeroId := by rw [idOf, dif_neg h]
theorem id_zeroc : ((Try.prog.info? 74).bind (·.zero)).map (·.cells) = some (idCells zeroId).toArray := by kernel_rfl

section
variable {P : Program}
theorem wpList_alloc_zc {ops : Array Oper} {rest : List Oper} {o : Oper} {a : Act} {w : World} {Q : Exit → Act → World → Prop} (hgd : o.guard = none) (ty : TypeId) (ho : o.op = .alloc ty) (zs : Array Value)
    (hz : ((P.info? ty).bind (·.zero)).map (·.cells) = some zs)
    (h : wpList P ops Q rest (a.put o.dst (.pointer (some ⟨w.heap.size, 0, none⟩))) (w.alloc (.cells zs ty))) : wpList P ops Q (o :: rest) a w := by
  cases hq : (P.info? ty).bind (·.zero) with
  | none => rw [hq] at hz; cases hz
  | some z =>
    have hs : z.cells = zs := by rw [hq] at hz; injection hz
    subst hs
    refine wpList_run (v := .pointer (some ⟨w.heap.size, 0, none⟩)) (w' := w.alloc (.cells z.cells ty)) (by simp [Region.wanted, hgd]) ?_ h
    unfold execOp
    simp only [ho, Sem.run_bind, run_alloc_any w ty z hq, Result.andThen_ok, Sem.run_pure]
end

set_option maxRecDepth 100000 in
set_option maxHeartbeats 2000000 in
theorem WId_any (w : World) (F : Nat → Prop) (b : Nat) (r : Rd) (h : RdAt w F b r) (hroom : r.l.length ≤ 70368744177664) :
    Calls Try.prog 91 #[.pointer (some ⟨b, 0, none⟩)] w fun e w' => e = .returned (.agg (idCells (idOf (r.Raw 32).1)).toArray) ∧ Fr (· = b) w w' ∧ RdAt w' F b (r.Raw 32).2 := by
  have h32 := Rd.Raw_32 r
  have hblt : b < w.heap.size := by obtain ⟨_, _, _, _, h, _⟩ := h; exact h.lt
  obtain ⟨zs, hzs⟩ : ∃ zs, zs = (idCells zeroId).toArray := ⟨_, rfl⟩
  have hzc := id_zeroc
  rw [← hzs] at hzc
  have hz32 : zs.size = 32 := by rw [hzs]; simp [idCells_len]
  have Hz32 := Lib.hid hz32
  have Hzs := Lib.hid hzs
  have Hzc := Lib.hid hzc
  clear hz32 hzs hzc
  have hf2 : Fr NoB w ((w.alloc (.cells zs 74)).alloc (.cells zs 74)) := ((Fr.refl NoB w).alloc _).alloc _
  have hB2 : Blk ((w.alloc (.cells zs 74)).alloc (.cells zs 74)) w.heap.size 74 zs := (Blk.new _ _ _).alloc _
  have hB3 : Blk ((w.alloc (.cells zs 74)).alloc (.cells zs 74)) (w.heap.size + 1) 74 zs := by simpa using Blk.new (w.alloc (.cells zs 74)) 74 zs
  obtain ⟨w2, hw2⟩ : ∃ w2, w2 = (w.alloc (.cells zs 74)).alloc (.cells zs 74) := ⟨_, rfl⟩
  have ht := h.more (G := fun j => F j ∧ j < w.heap.size) fun k hk h => ⟨h, hk⟩
  have hcall := fun W (hf : Fr NoB w2 W) => RRaw_any W (fun j => F j ∧ j < w.heap.size) b r 32 ((ht.fr (hw2 ▸ hf2) fun _ _ => id).fr hf fun _ _ => id) (by omega) (by omega) hroom
  generalize hq : r.Raw 32 = q at h32 hcall ⊢
  have Hq := Lib.hid hq
  have Hcall := Lib.hid hcall
  have Hw2 := Lib.hid hw2
  obtain ⟨x, hxq⟩ : ∃ x, x = idOf q.1 := ⟨_, rfl⟩
  rw [← hxq]
  have Hxq := Lib.hid hxq
  clear hq hcall hw2 hxq ht
  go_enter Try.func91, Try.ntmps91
  go_wp2_with (first | (refine wpList_alloc_zc rfl 74 rfl zs Hzc.out ?_))
  rw [← Hw2.out] at hf2 hB2 hB3 ⊢
  simp only [World.size_alloc]
  refine wp_region_held (S := fun _ => True) rfl ?_
  refine wpAnyH_take (i := 0) rfl (by decide +kernel) (by decide +kernel) (by decide +kernel) (fun _ _ _ h => h) (Or.inl ⟨rfl, fun W _ => by go_simp; with_reducible rfl⟩) trivial ?_
  refine wpAnyH_take (i := 1) rfl (by decide +kernel) (by decide +kernel) (by decide +kernel) (fun _ _ _ h => h) (Or.inl ⟨rfl, fun W _ => by go_simp; with_reducible rfl⟩) trivial ?_
  go_simp
  refine wpAnyH_all (rs := [2]) (by decide +kernel) (by simp) ?_
  intro i hi
  simp only [List.mem_cons, List.not_mem_nil, or_false] at hi
  subst hi
  refine wpOp_call rfl rfl 36 (enters_of Try.func36 (by kernel_rfl) rfl) #[.tmp 5, .const (.int .i64 32)] _ rfl _ rfl (Hcall.out _ (Fr.drew (Fr.refl NoB w2))) ?_
  rintro e w3 ⟨A3, c3, rfl, hf3, hR3, hO3, hin3⟩
  refine ⟨_, rfl, trivial, ?_⟩
  have hB2' := (hB2.drew).fr hf3 (by omega)
  have hB3' := (hB3.drew).fr hf3 (by omega)
  have hF3 : Fr (· = b) w w3 := (hf2.mono fun _ _ h => h.elim).trans ((Fr.drew (Fr.refl _ w2)).trans hf3 fun _ _ => id) fun _ _ => id
  clear hB2 hB3
  rcases h32 with h32 | h32
  · rw [h32] at hO3 ⊢
    have hB := hO3.arr (F := fun j => w2.drew.heap.size ≤ j) fun k _ hk => hin3 k hk
    obtain ⟨sb, so, hA3, hsb, hsc⟩ := hB.2 (by omega)
    subst hA3
    have hx : idCells x = q.1.map bv := by rw [idCells, Hxq.out, idOf_eq h32]
    have Hx : Hid ((idCells x).length = 32) := idCells_len _
    have Hxs : Hid ((idCells x).toArray.size = 32) := by show _ = _; simp [idCells_len]
    have Hx1 := Lib.hid (Id32_one x)
    rw [← hx] at hsc
    have hcp := run_copy_row (P := Try.prog) w3 22 22 3 5 (w.heap.size + 1) 0 32 32 ⟨sb, so, none⟩ 32 c3 zs 74 (idCells x) Try.underlying22 (by kernel_rfl) hB3' (by rw [Hx.out]; rfl) (fun j v hj => by rw [Addr.add_lit]; exact hsc j v hj) (by rw [Hx.out, Hz32.out]; omega) (fun v hv => bv_one _ v (by rw [← hx]; exact hv))
    rw [Hx.out, show (zs.toList.take 0 ++ idCells x ++ zs.toList.drop (0 + 32)) = idCells x from by rw [List.take_zero, List.drop_of_length_le (by simp [Hz32.out])]; simp] at hcp
    obtain ⟨hfs, hBs⟩ := setRow_fr (ds := (idCells x).toArray) hB3'
    go_simp
    refine wpAnyH_all (rs := [3]) (by decide +kernel) (by simp) ?_
    intro i hi
    simp only [List.mem_cons, List.not_mem_nil, or_false] at hi
    subst hi
    refine wpOp_run (v := goInt 32) (w' := w3.setRow (w.heap.size + 1) (idCells x).toArray) rfl rfl (by simp [execOp, resolve, invoke, builtin, Act.eval, hcp, Result.andThen]) ⟨trivial, ?_⟩
    refine wpAnyH_done (by decide +kernel) ?_ _
    have hB2s := hB2'.fr hfs (by omega)
    have hall : ∀ (j : Nat) (u : Value), (idCells x)[j]? = some u → (w3.setRow (w.heap.size + 1) (idCells x).toArray).cell? ⟨w.heap.size + 1, 0 + j, none⟩ = some u := fun j u hu => by rw [Nat.zero_add, hBs.cell]; simpa using hu
    have Hzx : Hid (zs.size = (idCells x).toArray.size) := by show _ = _; rw [Hz32.out, Hxs.out]
    clear hcp hx hsc
    go_wp2_with (first
      | (refine wpList_load_agg rfl 74 (.tmp 3) rfl (w.heap.size + 1) 0 rfl (idCells x) _ hall Try.underlying74 rfl (by rw [Hx.out]; exact id_size) ?_)
      | (refine wpList_store_row rfl 74 (.tmp 2) (.tmp 8) rfl w.heap.size (idCells x).toArray rfl rfl 74 zs hB2s (by rw [Hxs.out]; exact id_size) Hzx.out Hx1.out ?_))
    obtain ⟨hft, hBt⟩ := setRow_fr (ds := (idCells x).toArray) hB2s
    refine bodyPost_ret (results_cell rfl rfl (fun j v hv => by rw [Nat.zero_add, hBt.cell]; simpa using hv) Try.underlying74 rfl (by rw [Hx.out]; exact id_size)) rfl ?_
    exact ⟨rfl, (hF3.new hfs fun j e => .inr (by omega)).new hft fun j e => .inr (by omega), ((hR3.fr hfs fun j e h => by omega).fr hft fun j e h => by omega).more fun _ _ h => h.1⟩
  · rw [h32] at hO3 ⊢
    have hcp := run_copy_none (P := Try.prog) w3 22 22 3 5 (some ⟨w.heap.size + 1, 0, none⟩) A3 32 32 0 c3 Try.underlying22 (by kernel_rfl) rfl
    have hx0 := idOf_zero (l := q.1) (by omega)
    have Hx : Hid ((idCells x).length = 32) := idCells_len _
    have Hxs : Hid ((idCells x).toArray.size = 32) := by show _ = _; simp [idCells_len]
    have Hx1 := Lib.hid (Id32_one x)
    rw [Hzs.out, ← hx0, ← Hxq.out] at hB2' hB3'
    clear hx0
    go_simp
    refine wpAnyH_all (rs := [3]) (by decide +kernel) (by simp) ?_
    intro i hi
    simp only [List.mem_cons, List.not_mem_nil, or_false] at hi
    subst hi
    refine wpOp_run (v := goInt 0) (w' := w3) rfl rfl (by simp [execOp, resolve, invoke, builtin, Act.eval, hcp, Result.andThen]) ⟨trivial, ?_⟩
    refine wpAnyH_done (by decide +kernel) ?_ _
    have hall : ∀ (j : Nat) (u : Value), (idCells x)[j]? = some u → w3.cell? ⟨w.heap.size + 1, 0 + j, none⟩ = some u := fun j u hu => by rw [Nat.zero_add, hB3'.cell]; simpa using hu
    clear hcp
    go_wp2_with (first
      | (refine wpList_load_agg rfl 74 (.tmp 3) rfl (w.heap.size + 1) 0 rfl (idCells x) _ hall Try.underlying74 rfl (by rw [Hx.out]; exact id_size) ?_)
      | (refine wpList_store_row rfl 74 (.tmp 2) (.tmp 8) rfl w.heap.size (idCells x).toArray rfl rfl 74 (idCells x).toArray hB2' (by rw [Hxs.out]; exact id_size) rfl Hx1.out ?_))
    obtain ⟨hft, hBt⟩ := setRow_fr (ds := (idCells x).toArray) hB2'
    refine bodyPost_ret (results_cell rfl rfl (fun j v hv => by rw [Nat.zero_add, hBt.cell]; simpa using hv) Try.underlying74 rfl (by rw [Hx.out]; exact id_size)) rfl ?_
    exact ⟨rfl, hF3.new hft fun j e => .inr (by omega), (hR3.fr hft fun j e h => by omega).more fun _ _ h => h.1⟩
end Go.Proofs.Ytnkfchondedfcaa
