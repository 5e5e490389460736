/-
  The document's reader (tabulariumref08.Reader): Id. Conditions: each contract states its own.
-/
import Derived.Test.YtnkfchondedfcaaHb
import Derived.Deep.MidRow
namespace Go.Proofs.Ytnkfchondedfcaa
open Go.RowKit

section
variable {P : Program}
theorem results_cell {fn : Func} {t : Tmp} {ty : TypeId} {tmps : Array Value} {w : World} {g : Nat} {cs : List Value} {d : TypeDesc} (h : fn.results = #[.cell t ty]) (ht : tmps.getD t undef = .pointer (some ⟨g, 0, none⟩))
    (hc : ∀ j v, cs[j]? = some v → w.cell? ⟨g, 0 + j, none⟩ = some v) (hu : P.underlying ty = some d) (hd : d.isRow = true) (hi : (P.info? ty).map (·.size) = some cs.length) :
    (results fn tmps).run P w = .ok (.agg cs.toArray) w := by
  have hl := run_loadVar_mid (P := P) w g 0 ty cs d hc hu hd hi
  have ht' : tmps[t]?.getD undef = .pointer (some ⟨g, 0, none⟩) := by simpa using ht
  simp [results, h, ht', hl, asAddr]
end

def zeroId : Id32 := ⟨List.replicate 32 0, rfl⟩
theorem zero_built : Try.prog.built 74 [] = some (idCells zeroId).toArray := by kernel_rfl

theorem setRow_fr {w : World} {g : Nat} {t : TypeId} {cs ds : Array Value} (h : Blk w g t cs) : Fr (· = g) w (w.setRow g ds) ∧ Blk (w.setRow g ds) g t ds :=
  ⟨⟨rfl, rfl, rfl, by simp, fun k _ hk => by simp [World.setRow, Array.getElem?_modify, Ne.symm hk]⟩, setRow_heap w g cs ds t (0, 0) h⟩

theorem Id32_one (x : Id32) : (idCells x).toArray.all (·.oneCell') = true := by
  rw [Array.all_eq_true_iff_forall_mem]
  intro u hu
  exact bv_one x.1 u (by simpa [idCells] using hu)

set_option maxRecDepth 100000 in
set_option maxHeartbeats 1000000 in
theorem FId_any (w : World) (G : Nat → Prop) (b : Nat) (r : Rd) (h : RfAt w G b r) (hG : ∀ k, G k → k < w.heap.size) :
    Calls Try.prog 88 #[.pointer (some ⟨b, 0, none⟩)] w fun e w' => ∃ x : Id32, e = .returned (.agg (idCells x).toArray) ∧ Fr (· = b) w w' ∧ RfAt w' G b (r.Raw 32).2 ∧ ((r.Raw 32).1.length = 32 → x.1 = (r.Raw 32).1) ∧ ((r.Raw 32).1.length ≠ 32 → (r.Raw 32).2.good = false) := by
  have hb := h.lt
  have h32 := Rd.Raw_32 r
  have hz32 : (r.Raw 32).1.length = 0 → (r.Raw 32).2.good = false := fun h => by
    unfold Rd.Raw at h ⊢
    split at h
    · rename_i hh
      have e : ((32 : Int).toNat) = 32 := rfl
      rw [List.length_take, e] at h
      omega
    · rename_i hh
      rw [if_neg hh]
  generalize hq : r.Raw 32 = q at h32 hz32 ⊢
  have Hq := Lib.hid hq
  clear hq
  rcases h32 with h32 | h32
  · obtain ⟨x, hx⟩ : ∃ x : Id32, x.1 = q.1 := ⟨⟨q.1, h32⟩, rfl⟩
    go_enter Try.func88, Try.ntmps88
    go_wp2_with (first
      | (refine wpList_alloc_any rfl 74 rfl 32 id_zero ?_; intro z hz; have Hz := Lib.hid hz; clear hz))
    have hR := h.fr (w' := w.alloc (.cells z 74)) ((Fr.refl NoB w).alloc _) (fun h => h) fun _ _ => id
    have hcall := FRaw_any _ G b r 32 hR (by omega) (by omega)
    rw [Hq.out] at hcall
    refine hcall.mono ?_
    rintro e w1 ⟨A, c, rfl, hf1, hR1, hc1, hm1, hB1⟩
    rw [h32] at hB1 hc1
    rw [h32]
    have hBz := (Blk.new w 74 z).fr hf1 (fun e => by omega)
    obtain ⟨g, o, hA, hGg, hcell⟩ := hB1.2 (by omega)
    subst hA
    have Hx : Hid ((idCells x).length = 32) := idCells_len x
    have Hxs : Hid ((idCells x).toArray.size = 32) := by show _ = _; simp [idCells_len]
    have Hx1 := Lib.hid (Id32_one x)
    have hcg : ∀ (j : Nat) (u : Value), (idCells x)[j]? = some u → w1.cell? ⟨g, o + j, none⟩ = some u := fun j u hu => hcell j u (by rw [← hx]; exact hu)
    have harr := run_arrayAt (P := Try.prog) (w := w1) 74 5 32 (some ⟨g, o, none⟩) 32 c Try.underlying74 (by omega)
    have Hzz : Hid (z.size = (idCells x).toArray.size) := by show _ = _; rw [Hxs.out, Hz.out]
    clear hB1 hcell
    go_wp2_with (first
      | (refine wpList_load_agg rfl 74 (.tmp 11) rfl g o rfl (idCells x) _ hcg Try.underlying74 rfl (by rw [Hx.out]; exact id_size) ?_)
      | (refine wpList_store_row rfl 74 (.tmp 2) (.tmp 12) rfl w.heap.size (idCells x).toArray rfl rfl 74 z hBz (by rw [Hxs.out]; exact id_size) Hzz.out Hx1.out ?_))
    obtain ⟨hfs, hBs⟩ := setRow_fr (ds := (idCells x).toArray) hBz
    refine bodyPost_ret (results_cell rfl rfl (fun j v hv => by rw [Nat.zero_add, hBs.cell]; simpa using hv) Try.underlying74 rfl (by rw [Hx.out]; exact id_size)) rfl ?_
    refine ⟨x, rfl, (((Fr.refl (· = b) w).alloc _).trans hf1 fun _ _ => id).new hfs fun j e => .inr (by omega), hR1.fr hfs (fun e => by omega) fun k hk e => by have := hG k hk; omega, fun _ => hx, fun h => absurd h32 h⟩
  · go_enter Try.func88, Try.ntmps88
    go_wp2_with (first
      | (refine wpList_alloc_any rfl 74 rfl 32 id_zero ?_; intro z hz; have Hz := Lib.hid hz; clear hz))
    have hR := h.fr (w' := w.alloc (.cells z 74)) ((Fr.refl NoB w).alloc _) (fun h => h) fun _ _ => id
    have hcall := FRaw_any _ G b r 32 hR (by omega) (by omega)
    rw [Hq.out] at hcall
    refine hcall.mono ?_
    rintro e w1 ⟨A, c, rfl, hf1, hR1, hc1, hm1, hB1⟩
    rw [h32] at hB1 hc1
    rw [h32]
    have hBz := (Blk.new w 74 z).fr hf1 (fun e => by omega)
    have Hx : Hid ((idCells zeroId).length = 32) := idCells_len zeroId
    have Hxs : Hid ((idCells zeroId).toArray.size = 32) := by show _ = _; simp [idCells_len]
    have Hx1 := Lib.hid (Id32_one zeroId)
    have Hzz : Hid (z.size = (idCells zeroId).toArray.size) := by show _ = _; rw [Hxs.out, Hz.out]
    clear hB1
    go_wp2_with (first
      | (refine wpList_build rfl 74 #[] rfl (by kernel_rfl) ?_; rw [show (Try.prog.built 74 ((#[] : Array (Nat × Operand)).map _).toList).getD #[] = (idCells zeroId).toArray from by kernel_rfl]; generalize hzi : zeroId = x at *)
      | (refine wpList_store_row rfl 74 (.tmp 2) (.tmp 9) rfl w.heap.size (idCells x).toArray rfl rfl 74 z hBz (by rw [Hxs.out]; exact id_size) Hzz.out Hx1.out ?_))
    obtain ⟨hfs, hBs⟩ := setRow_fr (ds := (idCells x).toArray) hBz
    refine bodyPost_ret (results_cell rfl rfl (fun j v hv => by rw [Nat.zero_add, hBs.cell]; simpa using hv) Try.underlying74 rfl (by rw [Hx.out]; exact id_size)) rfl ?_
    refine ⟨x, rfl, (((Fr.refl (· = b) w).alloc _).trans hf1 fun _ _ => id).new hfs fun j e => .inr (by omega), hR1.fr hfs (fun e => by omega) fun k hk e => by have := hG k hk; omega, fun h => absurd h (by omega), fun _ => hz32 h32⟩
end Go.Proofs.Ytnkfchondedfcaa
