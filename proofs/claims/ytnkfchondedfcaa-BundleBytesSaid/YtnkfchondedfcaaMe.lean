/-
  The document's id that is read, told whole; a first byte (wire.begun). Conditions: each contract states its own.
-/
import Derived.Test.YtnkfchondedfcaaMd
namespace Go.Proofs.Ytnkfchondedfcaa
open Go.RowKit

set_option maxRecDepth 100000 in
set_option maxHeartbeats 1000000 in
theorem FIdz_any (w : World) (G : Nat → Prop) (b : Nat) (r : Rd) (h : RfAt w G b r) (hG : ∀ k, G k → k < w.heap.size) :
    Calls Try.prog 88 #[.pointer (some ⟨b, 0, none⟩)] w fun e w' => e = .returned (.agg (idCells (idOf (r.Raw 32).1)).toArray) ∧ Fr (· = b) w w' ∧ RfAt w' G b (r.Raw 32).2 := by
  have hb := h.lt
  have h32 := Rd.Raw_32 r
  generalize hq : r.Raw 32 = q at h32 ⊢
  have Hq := Lib.hid hq
  clear hq
  rcases h32 with h32 | h32
  · obtain ⟨x, hx, hxe⟩ : ∃ x : Id32, x.1 = q.1 ∧ idOf q.1 = x := ⟨idOf q.1, idOf_eq h32, rfl⟩
    rw [hxe]
    clear hxe
    go_enter Try.func88, Try.ntmps88
    go_wp2_with (first
      | (refine wpList_alloc_any rfl 74 rfl 32 id_zero ?_; intro z hz; have Hz := Lib.hid hz; clear hz))
    have hR := h.fr (w' := w.alloc (.cells z 74)) ((Fr.refl NoB w).alloc _) (fun h => h) fun _ _ => id
    have hcall := FRaw_any _ G b r 32 hR (by omega) (by omega)
    rw [Hq.out] at hcall
    refine hcall.mono ?_
    rintro e w1 ⟨A, c, rfl, hf1, hR1, hc1, hm1, hB1⟩
    rw [h32] at hB1 hc1
    have hBz := (Blk.new w 74 z).fr hf1 (fun e => by omega)
    obtain ⟨g, o, hA, hGg, hcell⟩ := hB1.2 (by omega)
    subst hA
    have Hx : Hid ((idCells x).length = 32) := idCells_len x
    have Hxs : Hid ((idCells x).toArray.size = 32) := by show _ = _; simp [idCells_len]
    have Hx1 := Lib.hid (Id32_one x)
    have hcg : ∀ (j : Nat) (u : Value), (idCells x)[j]? = some u → w1.cell? ⟨g, o + j, none⟩ = some u := fun j u hu => hcell j u (by rw [← hx]; exact hu)
    have harr := run_arrayAt (P := Try.prog) (w := w1) 74 5 32 (some ⟨g, o, none⟩) 32 c Try.underlying74 (by omega)
    have Hzz : Hid (z.size = (idCells x).toArray.size) := by show _ = _; rw [Hxs.out, Hz.out]
    clear hB1 hcell
    go_wp2_with (first
      | (refine wpList_load_agg rfl 74 (.tmp 11) rfl g o rfl (idCells x) _ hcg Try.underlying74 rfl (by rw [Hx.out]; exact id_size) ?_)
      | (refine wpList_store_row rfl 74 (.tmp 2) (.tmp 12) rfl w.heap.size (idCells x).toArray rfl rfl 74 z hBz (by rw [Hxs.out]; exact id_size) Hzz.out Hx1.out ?_))
    obtain ⟨hfs, hBs⟩ := setRow_fr (ds := (idCells x).toArray) hBz
    refine bodyPost_ret (results_cell rfl rfl (fun j v hv => by rw [Nat.zero_add, hBs.cell]; simpa using hv) Try.underlying74 rfl (by rw [Hx.out]; exact id_size)) rfl ?_
    exact ⟨rfl, (((Fr.refl (· = b) w).alloc _).trans hf1 fun _ _ => id).new hfs fun j e => .inr (by omega), hR1.fr hfs (fun e => by omega) fun k hk e => by have := hG k hk; omega⟩
  · have hxe := idOf_zero (l := q.1) (by omega)
    obtain ⟨x, hxz⟩ : ∃ x, x = zeroId := ⟨_, rfl⟩
    rw [hxe, ← hxz]
    have Hxz := Lib.hid hxz
    clear hxe hxz
    go_enter Try.func88, Try.ntmps88
    go_wp2_with (first
      | (refine wpList_alloc_any rfl 74 rfl 32 id_zero ?_; intro z hz; have Hz := Lib.hid hz; clear hz))
    have hR := h.fr (w' := w.alloc (.cells z 74)) ((Fr.refl NoB w).alloc _) (fun h => h) fun _ _ => id
    have hcall := FRaw_any _ G b r 32 hR (by omega) (by omega)
    rw [Hq.out] at hcall
    refine hcall.mono ?_
    rintro e w1 ⟨A, c, rfl, hf1, hR1, hc1, hm1, hB1⟩
    rw [h32] at hB1 hc1
    have hBz := (Blk.new w 74 z).fr hf1 (fun e => by omega)
    have Hx : Hid ((idCells x).length = 32) := idCells_len x
    have Hxs : Hid ((idCells x).toArray.size = 32) := by show _ = _; simp [idCells_len]
    have Hx1 := Lib.hid (Id32_one x)
    have Hzz : Hid (z.size = (idCells x).toArray.size) := by show _ = _; rw [Hxs.out, Hz.out]
    clear hB1
    go_wp2_with (first
      | (refine wpList_build rfl 74 #[] rfl (by kernel_rfl) ?_; rw [show (Try.prog.built 74 ((#[] : Array (Nat × Operand)).map _).toList).getD #[] = (idCells zeroId).toArray from by kernel_rfl]; rw [← Hxz.out])
      | (refine wpList_store_row rfl 74 (.tmp 2) (.tmp 9) rfl w.heap.size (idCells x).toArray rfl rfl 74 z hBz (by rw [Hxs.out]; exact id_size) Hzz.out Hx1.out ?_))
    obtain ⟨hfs, hBs⟩ := setRow_fr (ds := (idCells x).toArray) hBz
    refine bodyPost_ret (results_cell rfl rfl (fun j v hv => by rw [Nat.zero_add, hBs.cell]; simpa using hv) Try.underlying74 rfl (by rw [Hx.out]; exact id_size)) rfl ?_
    exact ⟨rfl, (((Fr.refl (· = b) w).alloc _).trans hf1 fun _ _ => id).new hfs fun j e => .inr (by omega), hR1.fr hfs (fun e => by omega) fun k hk e => by have := hG k hk; omega⟩

/-- What a first byte is: whether it is there, and the reader behind it. -/
def begunB (l : List UInt8) (first : Nat) : Bool := match l with | [] => false | c :: _ => decide (c.toNat = first)
def begunR (l : List UInt8) : Rd := match l with | [] => Rd.bad | _ :: t => ⟨t, true⟩

set_option maxRecDepth 100000 in
set_option maxHeartbeats 1000000 in
theorem begun_any (w : World) (F : Nat → Prop) (A : Option Addr) (n c : Nat) (l : List UInt8) (first : Nat) (h : Byt w F A n l) (hn : n ≤ 70368744177664) :
    Calls Try.prog 90 #[.slice A n c, .int .u8 first] w fun e w' => ∃ b, e = .returned (.tuple #[.pointer (some ⟨b, 0, none⟩), .bool (begunB l first)]) ∧ Fr NoB w w' ∧ RdAt w' (fun k => w.heap.size ≤ k) b (begunR l) := by
  have hl := h.len
  have Hl := Lib.hid hl
  cases l with
  | nil =>
    go_enter Try.func90, Try.ntmps90
    go_wp2_with fail
    refine (Read_any _ _ _ _ c _ h (by omega)).mono ?_
    rintro e w1 ⟨b, rfl, hf1, hR1⟩
    go_wp2_with fail
    have hcall := RRaw_any w1 _ b ⟨[], true⟩ 1 hR1 (by omega) (by omega) (by simp)
    rw [show Rd.Raw ⟨[], true⟩ 1 = ([], Rd.bad) from by simp [Rd.Raw]] at hcall
    refine hcall.mono ?_
    rintro e w2 ⟨A2, c2, rfl, hf2, hR2, hO2, hin2⟩
    have hb0 : ((0 : Int) == 1) = false := by decide
    dsimp only [List.length_nil]
    go_wp2
    go_quiet (fail)
    go_wp2
    go_ret2
    exact ⟨b, rfl, (hf1.new hf2 fun j e => .inr (by have := hR2.1; omega)).drewN _, hR2⟩
  | cons x t =>
    have hxl := UInt8.toNat_lt x
    have hb1 : ((x.toNat : Int) == (first : Int)) = decide (x.toNat = first) := by
      rw [Bool.eq_iff_iff]; simp; omega
    rw [show begunB (x :: t) first = decide (x.toNat = first) from rfl, show begunR (x :: t) = ⟨t, true⟩ from rfl]
    go_enter Try.func90, Try.ntmps90
    go_wp2_with fail
    refine (Read_any _ _ _ _ c _ h (by omega)).mono ?_
    rintro e w1 ⟨b, rfl, hf1, hR1⟩
    go_wp2_with fail
    have hcall := RRaw_any w1 _ b ⟨x :: t, true⟩ 1 hR1 (by omega) (by omega) (by rw [hl]; omega)
    rw [show Rd.Raw ⟨x :: t, true⟩ 1 = ([x], ⟨t, true⟩) from by simp [Rd.Raw]; omega] at hcall
    refine hcall.mono ?_
    rintro e w2 ⟨A2, c2, rfl, hf2, hR2, hO2, hin2⟩
    obtain ⟨sb, so, u, rfl, _, hu, hcell⟩ := (hO2.arr (F := fun _ => True) fun _ _ _ => trivial).at1 (k := 0) (by simp)
    simp at hu
    subst hu
    rw [bv, Nat.add_zero] at hcell
    have q0 : (0 : Int) < 1 := by omega
    clear hl
    go_wp2
    go_quiet (fail)
    go_wp2
    go_ret2
    exact ⟨b, rfl, (hf1.new hf2 fun j e => .inr (by have := hR2.1; omega)).drewN _, hR2⟩
end Go.Proofs.Ytnkfchondedfcaa
