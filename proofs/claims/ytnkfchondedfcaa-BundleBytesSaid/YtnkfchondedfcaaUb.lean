/-
  Ids held against each other, byte by byte: bytes.Compare, envel.Order, tabulariumref08.less. Conditions: each contract states its own.
-/
import Derived.Test.YtnkfchondedfcaaCy
import Derived.Test.YtnkfchondedfcaaRh
import Derived.Lib.BytesEntry
namespace Go.Proofs.Ytnkfchondedfcaa
open Go.RowKit

theorem bytesOf_nats (l : List UInt8) : Lib.bytesOf (l.map fun c => (c.toNat : Int)) = l := by
  unfold Lib.bytesOf
  rw [List.map_map]
  conv => rhs; rw [← List.map_id l]
  apply List.map_congr_left
  intro c _
  simp
theorem run_bytesOf {P : Program} {w : World} {F : Nat → Prop} {A : Option Addr} {n c : Nat} {l : List UInt8} (h : Byt w F A n l) : (Extern.Bytes.bytesOf (.slice A n c)).run P w = .ok ⟨l.toArray⟩ w := by
  have hl := h.len
  cases A with
  | none =>
    have : l = [] := by
      rcases Nat.eq_zero_or_pos n with h0 | h0
      · exact List.eq_nil_of_length_eq_zero (by omega)
      · obtain ⟨b, o, e, _⟩ := h.2 h0
        cases e
    subst this
    rfl
  | some a =>
    have hr := Lib.run_loadBytesX (P := P) w (l.map fun c => (c.toNat : Int)) a .empty (fun j x hj => by
      rw [List.getElem?_map] at hj
      have hjl : j < l.length := by
        rcases Nat.lt_or_ge j l.length with h' | h'
        · exact h'
        · rw [List.getElem?_eq_none h'] at hj; cases hj
      obtain ⟨b, o, e, _, hc⟩ := h.at_ (k := j) (by omega)
      injection e with e
      subst e
      rw [Addr.add_lit, hc]
      rw [List.getElem?_eq_getElem hjl] at hj
      injection hj with hj
      rw [← hj])
    rw [bytesOf_nats, List.length_map, hl] at hr
    show (Extern.Bytes.loadBytes a n .empty).run P w = _
    rw [hr]
    congr 1
    apply ByteArray.ext
    show (#[] : Array UInt8) ++ l.toArray = l.toArray
    simp
theorem cmp_run {P : Program} {w : World} {F G : Nat → Prop} {A B : Option Addr} {n m c d : Nat} {x y : List UInt8} (hx : Byt w F A n x) (hy : Byt w G B m y) :
    (Extern.BytealgCompare.compare #[.slice A n c, .slice B m d]).run P w = .ok (.int .i64 (Lib.compareBytes x y)) w := by
  change Sem.run P (do pure (goInt (Extern.BytealgCompare.cmp (← Extern.Bytes.bytesOf (.slice A n c)) (← Extern.Bytes.bytesOf (.slice B m d))))) w = _
  simp only [Sem.run_bind, run_bytesOf hx, run_bytesOf hy, Sem.run_pure, Result.andThen]
  rw [Lib.cmp_eq]
  rfl
theorem cmp_less : ∀ (x y : List UInt8), Lib.compareBytes x y < 0 ↔ Op.bytesLess x y = true
  | [], [] => by simp [Lib.compareBytes, Op.bytesLess]
  | [], _ :: _ => by simp [Lib.compareBytes, Op.bytesLess]
  | _ :: _, [] => by simp [Lib.compareBytes, Op.bytesLess]
  | a :: x, b :: y => by
    have ih := cmp_less x y
    unfold Lib.compareBytes Op.bytesLess
    by_cases h1 : a < b
    · simp [h1]
    · by_cases h2 : b < a
      · have hne : a ≠ b := fun e => by subst e; exact h1 h2
        simp [h1, h2, hne]
      · have he : a = b := UInt8.le_antisymm (UInt8.not_lt.1 h2) (UInt8.not_lt.1 h1)
        subst he
        simp [h1, ih]
theorem cmp_geq (x y : List UInt8) : decide (0 ≤ Lib.compareBytes x y) = !Op.bytesLess x y := by
  have h := cmp_less x y
  cases hb : Op.bytesLess x y with
  | true => rw [hb] at h; have := h.2 rfl; simp; omega
  | false => rw [hb] at h; simp; exact Int.not_lt.1 fun hl => by have := h.1 hl; cases this

set_option maxRecDepth 100000 in
set_option maxHeartbeats 400000 in
theorem bytesCompare_any (w : World) (F G : Nat → Prop) (A B : Option Addr) (n m c d : Nat) (x y : List UInt8) (hx : Byt w F A n x) (hy : Byt w G B m y) :
    Calls Try.prog 119 #[.slice A n c, .slice B m d] w fun e w' => e = .returned (.int .i64 (Lib.compareBytes x y)) ∧ w' = w := by
  have hrun := fun c d => cmp_run (P := Try.prog) (c := c) (d := d) hx hy
  go_enter Try.func119, Try.ntmps119
  go_wp2
  rw [run_callFunc_extern Try.func120 (by kernel_rfl) (by kernel_rfl) (by kernel_rfl) (e := Extern.BytealgCompare.compare) (by kernel_rfl), hrun]
  simp only [Result.andThen]
  rw [Oper.upon_value]
  go_wp2
  go_ret
  exact ⟨rfl, rfl⟩

theorem Byt.id (w : World) (x : Id32) : Byt (w.alloc (.cells (idCells x).toArray 74)) (fun k => k = w.heap.size) (some ⟨w.heap.size, 0, none⟩) 32 x.1 := by
  have := Byt.new w 74 x.1 (idCells x).toArray (by simp [idCells])
  rwa [x.2] at this

set_option maxRecDepth 100000 in
set_option maxHeartbeats 1000000 in
theorem Order_any (w : World) (x y : Id32) :
    Calls Try.prog 113 #[.agg (idCells x).toArray, .agg (idCells y).toArray] w fun e w' => e = .returned (.int .i64 (Lib.compareBytes x.1 y.1)) ∧ Fr NoB w w' := by
  have h1 := (Byt.id w x).alloc (.cells (idCells y).toArray 74)
  have h2 := Byt.id (w.alloc (.cells (idCells x).toArray 74)) y
  have hF : Fr NoB w ((w.alloc (.cells (idCells x).toArray 74)).alloc (.cells (idCells y).toArray 74)) := ((Fr.refl _ _).alloc _).alloc _
  rw [World.size_alloc] at h2
  obtain ⟨w2, hw2⟩ : ∃ w2, w2 = (w.alloc (.cells (idCells x).toArray 74)).alloc (.cells (idCells y).toArray 74) := ⟨_, rfl⟩
  rw [← hw2] at h1 h2 hF
  have Hw2 := Lib.hid hw2
  have hcall := bytesCompare_any w2.drew _ _ _ _ _ _ 32 32 _ _ (h1.fr (Fr.drew (Fr.refl NoB _)) fun _ _ => id) (h2.fr (Fr.drew (Fr.refl NoB _)) fun _ _ => id)
  have Hcall := Lib.hid hcall
  clear h1 h2 hcall hw2
  go_enter Try.func113, Try.ntmps113
  go_wp2
  rw [← Hw2.out]
  clear Hw2
  refine wp_region_held (S := fun _ => True) rfl ?_
  refine wpAnyH_take (i := 0) rfl (by decide +kernel) (by decide +kernel) (by decide +kernel) (fun _ _ _ h => h) (Or.inl ⟨by kernel_rfl, fun W _ => by go_simp; with_reducible rfl⟩) trivial ?_
  refine wpAnyH_take (i := 1) rfl (by decide +kernel) (by decide +kernel) (by decide +kernel) (fun _ _ _ h => h) (Or.inl ⟨by kernel_rfl, fun W _ => by go_simp; with_reducible rfl⟩) trivial ?_
  go_simp
  refine wpAnyH_all (rs := [2]) (by decide +kernel) (by simp) ?_
  intro i hi
  simp only [List.mem_cons, List.not_mem_nil, or_false] at hi
  subst hi
  refine wpOp_call rfl rfl 119 (enters_of Try.func119 (by kernel_rfl) rfl) #[.tmp 5, .tmp 6] _ rfl _ rfl Hcall.out ?_
  rintro e w3 ⟨rfl, rfl⟩
  refine ⟨_, rfl, trivial, ?_⟩
  go_simp
  refine wpAnyH_take (i := 3) rfl (by decide +kernel) (by decide +kernel) (by decide +kernel) (fun _ _ _ h => h) (Or.inl ⟨by kernel_rfl, fun W _ => by go_simp; with_reducible rfl⟩) trivial ?_
  go_simp
  refine wpAnyH_done (by decide +kernel) ?_ _
  go_wp2
  go_ret
  exact ⟨rfl, hF.drew⟩

set_option maxRecDepth 100000 in
set_option maxHeartbeats 1000000 in
theorem less_any (w : World) (x y : Id32) :
    Calls Try.prog 114 #[.agg (idCells x).toArray, .agg (idCells y).toArray] w fun e w' => e = .returned (.bool (Op.bytesLess x.1 y.1)) ∧ Fr NoB w w' := by
  have h1 := (Byt.id w x).alloc (.cells (idCells y).toArray 74)
  have h2 := Byt.id (w.alloc (.cells (idCells x).toArray 74)) y
  have hF : Fr NoB w ((w.alloc (.cells (idCells x).toArray 74)).alloc (.cells (idCells y).toArray 74)) := ((Fr.refl _ _).alloc _).alloc _
  rw [World.size_alloc] at h2
  obtain ⟨w2, hw2⟩ : ∃ w2, w2 = (w.alloc (.cells (idCells x).toArray 74)).alloc (.cells (idCells y).toArray 74) := ⟨_, rfl⟩
  rw [← hw2] at h1 h2 hF
  have Hw2 := Lib.hid hw2
  have v1 := (h1.fr (Fr.drew (Fr.refl NoB w2)) fun _ _ => id).str (P := Try.prog) Try.underlying22 Try.underlying5 Try.underlying9 32
  have v2 := (h2.fr (Fr.drew (Fr.refl NoB w2)) fun _ _ => id).str (P := Try.prog) Try.underlying22 Try.underlying5 Try.underlying9 32
  clear h1 h2 hw2
  go_enter Try.func114, Try.ntmps114
  go_wp2
  rw [← Hw2.out]
  clear Hw2
  refine wp_region_held (S := fun W => W = w2.drew) rfl ?_
  refine wpAnyH_take (i := 0) rfl (by decide +kernel) (by decide +kernel) (by decide +kernel) (fun _ _ _ h => h) (Or.inl ⟨by kernel_rfl, fun W _ => by go_simp; with_reducible rfl⟩) rfl ?_
  refine wpAnyH_take (i := 2) rfl (by decide +kernel) (by decide +kernel) (by decide +kernel) (fun _ _ _ h => h) (Or.inl ⟨by kernel_rfl, fun W _ => by go_simp; with_reducible rfl⟩) rfl ?_
  go_simp
  refine wpAnyH_take (i := 1) rfl (by decide +kernel) (by decide +kernel) (by decide +kernel) (fun _ _ _ h => h) (Or.inl ⟨by kernel_rfl, fun W hW => by rw [hW]; go_simp; with_reducible rfl⟩) rfl ?_
  refine wpAnyH_take (i := 3) rfl (by decide +kernel) (by decide +kernel) (by decide +kernel) (fun _ _ _ h => h) (Or.inl ⟨by kernel_rfl, fun W hW => by rw [hW]; go_simp; with_reducible rfl⟩) rfl ?_
  go_simp
  refine wpAnyH_take (i := 4) rfl (by decide +kernel) (by decide +kernel) (by decide +kernel) (fun _ _ _ h => h) (Or.inl ⟨by kernel_rfl, fun W _ => by go_simp; with_reducible rfl⟩) rfl ?_
  go_simp
  refine wpAnyH_take (i := 5) rfl (by decide +kernel) (by decide +kernel) (by decide +kernel) (fun _ _ _ h => h) (Or.inl ⟨by kernel_rfl, fun W _ => by go_simp; with_reducible rfl⟩) rfl ?_
  go_simp
  refine wpAnyH_done (by decide +kernel) ?_ _
  go_wp2
  go_ret
  exact ⟨rfl, hF.drew⟩
end Go.Proofs.Ytnkfchondedfcaa
