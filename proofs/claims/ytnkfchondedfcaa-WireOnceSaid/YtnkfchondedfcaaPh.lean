/-
  The reply that any bytes are: with those that are none (wire.OfReply, tabulariumref15.ReplyOf). Conditions: each contract states its own.
-/
import Derived.Test.YtnkfchondedfcaaPf
import Derived.Test.YtnkfchondedfcaaPg
import Derived.Test.YtnkfchondedfcaaMh
namespace Go.Proofs.Ytnkfchondedfcaa
open Go.RowKit

set_option maxRecDepth 100000 in
set_option maxHeartbeats 4000000 in
theorem OfReply_bad (w : World) (F0 : Nat → Prop) (A : Option Addr) (n c : Nat) (l : List UInt8) (h : Byt w F0 A n l) (hn : n ≤ 70368744177664) (hb : begunB l 2 = false) (hi : repIs l = false) :
    Calls Try.prog 59 #[.slice A n c] w fun e w' => GotRep (fun k => w.heap.size ≤ k) w w' e (repOf l) (repBad l) := by
  have e1 : repOf l = zeroRep := by rw [repOf, hi]; rfl
  have e2 : repBad l = 180 := by rw [repBad, hi]; rfl
  have He1 := Lib.hid e1
  have He2 := Lib.hid e2
  have hcall := fun z => begun_lit (c := c) (h.alloc (.cells z 90)) hn 2 2 (by simp)
  rw [hb] at hcall
  obtain ⟨rb, hrb⟩ : ∃ rb, rb = begunR l := ⟨_, rfl⟩
  rw [← hrb] at hcall
  have H38z : Hid ((repCells zeroRep none 0 0 none 0 0).toArray.size = 38) := by show _ = _; rw [List.size_toArray, repCells_len]
  have Honez : Hid ((repCells zeroRep none 0 0 none 0 0).toArray.all (·.oneCell') = true) := repCells_ones _ _ _ _ _ _ _
  obtain ⟨zc, hzc⟩ : ∃ zc, zc = repCells zeroRep none 0 0 none 0 0 := ⟨_, rfl⟩
  rw [← hzc] at H38z Honez
  have Hzc := Lib.hid hzc
  clear hzc hrb e1 e2 hi hb
  go_enter Try.func59, Try.ntmps59
  go_wp2_with (first
    | (refine wpList_alloc_any rfl 90 rfl 38 rep_zero ?_; intro z hz; have Hz := Lib.hid hz; clear hz))
  go_step3
  go_wp2_with fail
  refine (hcall z).mono ?_
  rintro e w0 ⟨b, rfl, hf0, hR⟩
  clear hcall
  have hF : Fr NoB w w0 := ((Fr.refl NoB w).alloc _).trans hf0 fun _ _ => id
  have hBz : Blk w0 w.heap.size 90 z := (Blk.new w _ _).fr hf0 id
  clear hf0 hR
  go_wp2_with (first
      | (refine wpList_build_eq rfl 90 #[] rfl [] rfl zc.toArray (by rw [Hzc.out]; exact zeroRep_built) ?_)
      | (refine wpList_store_row rfl 90 (.tmp 2) (.tmp 15) rfl w.heap.size zc.toArray rfl rfl 90 z hBz (by rw [H38z.out]; exact rep_size) (by rw [Hz.out, H38z.out]) Honez.out ?_))
  obtain ⟨hft, hBt⟩ := setRow_fr (ds := zc.toArray) hBz
  rw [Exit.noGoto_ret]
  refine bodyPost_ret (results_cell2 (cs := zc) rfl rfl (fun j v hv => by rw [Nat.zero_add, hBt.cell]; simpa using hv) Try.underlying90 rfl (by have h := H38z.out; simp at h; rw [h]; exact rep_size)) rfl ?_
  rw [He1.out, He2.out]
  have hgz := GotRep.zero (G := fun k => w.heap.size ≤ k) (hF.new hft fun j hj => .inr (by omega))
  rw [← Hzc.out] at hgz
  exact hgz
theorem OfReply_any (w : World) (F0 : Nat → Prop) (A : Option Addr) (n c : Nat) (l : List UInt8) (h : Byt w F0 A n l) (hn : n ≤ 70368744177664) :
    Calls Try.prog 59 #[.slice A n c] w fun e w' => GotRep (fun k => w.heap.size ≤ k) w w' e (repOf l) (repBad l) := by
  cases l with
  | nil => exact OfReply_bad w F0 A n c [] h hn rfl rfl
  | cons x t =>
    by_cases hx : x.toNat = 2
    · exact OfReply_good w F0 A n c x t h hn hx
    · exact OfReply_bad w F0 A n c (x :: t) h hn (by simp [begunB, hx]) (by simp [repIs, hx])
set_option maxRecDepth 100000 in
set_option maxHeartbeats 4000000 in
theorem ReplyOf_bad (w : World) (F0 : Nat → Prop) (A : Option Addr) (n c : Nat) (l : List UInt8) (h : Byt w F0 A n l) (hn : n ≤ 9223372036854775807) (hb : begunB l 2 = false) (hi : repIs l = false) :
    Calls Try.prog 60 #[.slice A n c] w fun e w' => GotRep (fun k => F0 k ∨ w.heap.size ≤ k) w w' e (repOf l) (repBad l) := by
  have e1 : repOf l = zeroRep := by rw [repOf, hi]; rfl
  have e2 : repBad l = 180 := by rw [repBad, hi]; rfl
  have He1 := Lib.hid e1
  have He2 := Lib.hid e2
  have H38z : Hid ((repCells zeroRep none 0 0 none 0 0).toArray.size = 38) := by show _ = _; rw [List.size_toArray, repCells_len]
  have Honez : Hid ((repCells zeroRep none 0 0 none 0 0).toArray.all (·.oneCell') = true) := repCells_ones _ _ _ _ _ _ _
  obtain ⟨zc, hzc⟩ : ∃ zc, zc = repCells zeroRep none 0 0 none 0 0 := ⟨_, rfl⟩
  rw [← hzc] at H38z Honez
  have Hzc := Lib.hid hzc
  have hlen := h.len
  clear hzc e1 e2 hi
  cases l with
  | nil =>
    have hn0 : n = 0 := by simp at hlen; omega
    have hb0 : ((n : Int) == 0) = true := by simp [hn0]
    clear hn0 hlen
    go_enter Try.func60, Try.ntmps60
    go_wp2_with (first
      | (refine wpList_alloc_any rfl 90 rfl 38 rep_zero ?_; intro z hz; have Hz := Lib.hid hz; clear hz; have hBz := Blk.new w 90 z)
      | (refine wpList_build_eq rfl 90 #[] rfl [] rfl zc.toArray (by rw [Hzc.out]; exact zeroRep_built) ?_)
      | (refine wpList_store_row rfl 90 (.tmp 2) (.tmp 17) rfl w.heap.size zc.toArray rfl rfl 90 z hBz (by rw [H38z.out]; exact rep_size) (by rw [Hz.out, H38z.out]) Honez.out ?_))
    obtain ⟨hft, hBt⟩ := setRow_fr (ds := zc.toArray) hBz
    refine bodyPost_ret (results_cell2 (cs := zc) rfl rfl (fun j v hv => by rw [Nat.zero_add, hBt.cell]; simpa using hv) Try.underlying90 rfl (by have h := H38z.out; simp at h; rw [h]; exact rep_size)) rfl ?_
    rw [He1.out, He2.out]
    have hgz := GotRep.zero (G := fun k => F0 k ∨ w.heap.size ≤ k) (((Fr.refl NoB w).alloc _).new hft fun j hj => .inr (by omega))
    rw [← Hzc.out] at hgz
    exact hgz
  | cons x t =>
    have hx : x.toNat ≠ 2 := by simpa [begunB] using hb
    have hn0 : ((n : Int) == 0) = false := by simp at hlen ⊢; omega
    obtain ⟨sb, so, rfl, hsb, hsc⟩ := h.at_ (k := 0) (by simp at hlen; omega)
    rw [List.getElem_cons_zero, Nat.add_zero] at hsc
    have hcell : ∀ z, (w.alloc (.cells z 90)).cell? ⟨sb, so, none⟩ = some (.int .u8 (x.toNat : Int)) := fun z => ((Fr.refl NoB w).alloc _).cell' hsc id
    have Hcell := Lib.hid hcell
    have hxb : ((x.toNat : Int) != 2) = true := by simp; omega
    have hn1 : 0 < n := by simp at hlen; omega
    clear hcell hsc hlen hx
    go_enter Try.func60, Try.ntmps60
    go_wp2_with (first
      | (refine wpList_alloc_any rfl 90 rfl 38 rep_zero ?_; intro z hz; have Hz := Lib.hid hz; clear hz; have hBz := Blk.new w 90 z; have hsc := Hcell.out z)
      | (refine wpList_build_eq rfl 90 #[] rfl [] rfl zc.toArray (by rw [Hzc.out]; exact zeroRep_built) ?_)
      | (refine wpList_store_row rfl 90 (.tmp 2) (.tmp 17) rfl w.heap.size zc.toArray rfl rfl 90 z hBz (by rw [H38z.out]; exact rep_size) (by rw [Hz.out, H38z.out]) Honez.out ?_))
    obtain ⟨hft, hBt⟩ := setRow_fr (ds := zc.toArray) hBz
    refine bodyPost_ret (results_cell2 (cs := zc) rfl rfl (fun j v hv => by rw [Nat.zero_add, hBt.cell]; simpa using hv) Try.underlying90 rfl (by have h := H38z.out; simp at h; rw [h]; exact rep_size)) rfl ?_
    rw [He1.out, He2.out]
    have hgz := GotRep.zero (G := fun k => F0 k ∨ w.heap.size ≤ k) (((Fr.refl NoB w).alloc _).new hft fun j hj => .inr (by omega))
    rw [← Hzc.out] at hgz
    exact hgz
theorem ReplyOf_any (w : World) (F0 : Nat → Prop) (hG0 : ∀ k, F0 k → k < w.heap.size) (A : Option Addr) (n c : Nat) (l : List UInt8) (h : Byt w F0 A n l) (hnc : n ≤ c) (hcm : c ≤ maxLen) (hn : n ≤ 70368744177664) :
    Calls Try.prog 60 #[.slice A n c] w fun e w' => GotRep (fun k => F0 k ∨ w.heap.size ≤ k) w w' e (repOf l) (repBad l) := by
  cases l with
  | nil => exact ReplyOf_bad w F0 A n c [] h (by omega) rfl rfl
  | cons x t =>
    by_cases hx : x.toNat = 2
    · exact ReplyOf_good w F0 hG0 A n c x t h hnc hcm hn hx
    · exact ReplyOf_bad w F0 A n c (x :: t) h (by omega) (by simp [begunB, hx]) (by simp [repIs, hx])
end Go.Proofs.Ytnkfchondedfcaa
