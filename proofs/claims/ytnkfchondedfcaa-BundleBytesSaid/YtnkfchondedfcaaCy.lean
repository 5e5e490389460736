/-
  What a writer of bytes does with ids (codec.Writer.Ids). Conditions: each contract states its own.
-/
import Derived.Test.YtnkfchondedfcaaCx
import Derived.Test.YtnkfchondedfcaaWe
namespace Go.Proofs.Ytnkfchondedfcaa
open Go.RowKit

theorem id_und : ∃ d, Try.prog.underlying 74 = some d ∧ (match d with | .struct _ | .array _ _ => true | _ => false) = true := ⟨_, Try.underlying74, rfl⟩
theorem id_size : (Try.prog.info? 74).map (·.size) = some 32 := by kernel_rfl
theorem id_zero : ((Try.prog.info? 74).bind (·.zero)).map (·.cells.size) = some 32 := by kernel_rfl

set_option maxRecDepth 100000 in
set_option maxHeartbeats 1000000 in
theorem WIds_any (w : World) (F G : Nat → Prop) (b : Nat) (l : List UInt8) (A : Option Addr) (m c : Nat) (ids : List Id32) (h : WrAt w F b l) (hr : ArrOf IdR w G 32 A m ids) (hd : ∀ k, F k → ¬ G k) (hG : ∀ k, G k → k < w.heap.size)
    (hroom : l.length + 32 * m + 10 ≤ 70368744177664) :
    Calls Try.prog 82 #[.pointer (some ⟨b, 0, none⟩), .slice A m c] w fun e w' => e = .returned (.tuple #[]) ∧ Fr F w w' ∧ WrAt w' (fun k => F k ∨ w.heap.size ≤ k) b (l ++ idsBytes ids) := by
  go_enter Try.func82, Try.ntmps82
  go_wp2_with fail
  have hlm := hr.len
  have Hlm := Lib.hid hlm
  clear hlm
  refine (WN_any _ (fun j => F j ∧ j < w.heap.size) (fun k => k = w.heap.size) b l _ 1 1 [m] (h.tight.fr ((Fr.refl NoB _).alloc _) (fun _ _ _ h => h)) ?_ (fun k hk => by omega) (by simp; omega) (by omega)).mono ?_
  · have := Arr.one w (u64v m) 23
    simpa [u64v] using this
  rintro e w2 ⟨rfl, hf2, hW2⟩
  simp only [List.flatMap_cons, List.flatMap_nil, List.append_nil] at hW2
  have s2 := hf2.size
  simp only [World.size_alloc] at s2
  have hW3 : WrAt w2 (fun j => F j ∨ w.heap.size ≤ j) b (l ++ encN m) := hW2.more fun j hj => by simp only [World.size_alloc] at hj; grind
  have hf3 : Fr F w w2 := ((Fr.refl F w).alloc _).new hf2 fun j hj => .inl hj.1
  have hlen3 : (l ++ encN m).length ≤ l.length + 10 := by have := encN_len64 (n := m) (by omega); rw [List.length_append]; omega
  have hr2 := hr.fr hf3 (fun k hG hF => hd k hF hG) (R' := IdR) fun y a _ hy => hy
  go_wp2
  obtain ⟨w0, rfl⟩ : ∃ w0 : World, w0 = w2 := ⟨_, rfl⟩
  obtain ⟨l0, hl0⟩ : ∃ l0, l ++ encN m = l0 := ⟨_, rfl⟩
  rw [hl0] at hW2 hW3 hlen3
  have Hl0 := Lib.hid hl0
  clear hl0
  go_loopw [14] (fun i wr => ∃ k : Nat, k ≤ m ∧ i = .int .i64 k ∧ WrAt wr (fun j => F j ∨ w.heap.size ≤ j) b (l0 ++ idsFlat (ids.take k)) ∧ Fr (fun j => F j ∨ w.heap.size ≤ j) w0 wr) (fun i _ => m - (intOf i).toNat)
  case atStart => exact ⟨0, by omega, rfl, by simpa [idsFlat] using hW3, Fr.refl _ _⟩
  case round =>
    obtain ⟨k, hk, rfl, hW, hF0⟩ := hrel
    obtain ⟨w1, rfl⟩ : ∃ w1 : World, w1 = wr := ⟨_, rfl⟩
    by_cases hkm : k < m
    · have hrw := hr2.fr hF0 (fun k hG' hF => hF.elim (fun h => hd k h hG') fun h => by have := hG k hG'; omega) (R' := IdR) fun y a _ hy => hy
      obtain ⟨bb, o, t, y, rfl, hGb, ht, hy, hyr, hcell⟩ := hrw.at_ hkm
      have hkl : k < ids.length := by rw [Hlm.out]; exact hkm
      have hyt : y = t.1.map bv := hyr
      have Htake : Hid (l0 ++ idsFlat (ids.take (k + 1)) = l0 ++ idsFlat (ids.take k) ++ t.1) := by
        show _ = _
        rw [List.take_succ_eq_append_getElem hkl, idsFlat, List.flatMap_append]
        rw [List.getElem?_eq_getElem hkl] at ht
        injection ht with ht
        rw [ht]; simp [idsFlat]
      have hle : (l0 ++ idsFlat (ids.take k)).length + 32 ≤ 70368744177664 := by
        have e : ∀ x : List Id32, (idsFlat x).length = 32 * x.length := fun x => by
          induction x with
          | nil => rfl
          | cons a x ih => simp only [idsFlat, List.flatMap_cons, List.length_append, List.length_cons] at ih ⊢; rw [ih, a.2]; omega
        rw [List.length_append, e, List.length_take]
        omega
      generalize l0 ++ idsFlat (ids.take k) = l1 at *
      have hys : y.toArray.size = 32 := by simpa using hy
      have hy1 : y.toArray.all (·.oneCell') = true := by
        rw [Array.all_eq_true_iff_forall_mem]
        intro v hv
        exact bv_one t.1 v (by rw [← hyt]; simpa using hv)
      have Hyt := Lib.hid hyt
      have Hys := Lib.hid hys
      have Hy1 := Lib.hid hy1
      have Hy := Lib.hid hy
      clear hyt hys hy1 hyr ht hrw hy
      go_wp2_with (first
        | (refine wpList_load_agg rfl 74 (.tmp 16) rfl bb (o + k * 32) rfl y _ hcell Try.underlying74 rfl (by rw [Hy.out]; exact id_size) ?_)
        | (refine wpList_alloc_any rfl 74 rfl 32 id_zero ?_; intro z hz; have Hz := Lib.hid hz; clear hz)
        | (refine wpList_store_new rfl 74 (.tmp 5) (.tmp 17) rfl _ z y.toArray rfl rfl (by rw [Hys.out]; exact id_size) (by rw [Hys.out, Hz.out]) Hy1.out ?_))
      have hb : Byt (w1.alloc (.cells y.toArray 74)) (fun k => k = w1.heap.size) (some ⟨w1.heap.size, 0, none⟩) 32 t.1 := by
        have := Byt.new w1 74 t.1 y.toArray (by simpa using Hyt.out)
        rwa [t.2] at this
      refine (WRaw_any _ _ _ _ _ _ _ _ _ (hW.tight.fr ((Fr.refl NoB _).alloc _) fun _ _ _ h => h) hb hle).mono ?_
      rintro e w5 ⟨rfl, hf5, hW5⟩
      have s5 := hf5.size
      have s0 := hF0.size
      simp only [World.size_alloc] at s5
      go_wp2
      go_roundw
      case rel =>
        refine ⟨k + 1, by omega, by go_num, ?_, ?_⟩
        · rw [Htake.out]
          exact hW5.more fun j hj => by simp only [World.size_alloc] at hj; grind
        · exact (hF0.alloc _).new hf5 fun j hj => by grind
      case measure => simp [intOf]; omega
    · have hke : k = m := by omega
      subst hke
      have Hw : WrAt w1 (fun j => F j ∨ w.heap.size ≤ j) b (l0 ++ idsFlat ids) := by rwa [List.take_of_length_le (by rw [Hlm.out]; exact Nat.le_refl _)] at hW
      go_wp2
      go_end0
      refine ⟨rfl, hf3.trans hF0 fun j hj h => h.elim id fun h => by omega, ?_⟩
      rw [idsBytes, Hlm.out, ← List.append_assoc, Hl0.out]
      exact Hw

end Go.Proofs.Ytnkfchondedfcaa
