/-
  Letters that are turned (leak.Turn), and as the document has them (tabulariumref29.Turn); chapter 31's example. Conditions: each contract states its own.
-/
import Derived.Test.YtnkfchondedfcaaRows
import Derived.Test.YtnkfchondedfcaaSt
import Derived.Test.YtnkfchondedfcaaJp
import Derived.Test.YtnkfchondedfcaaCw
import Derived.Deep.Cut
import Derived.Deep.CutBlock
import Derived.Deep.CutRange
namespace Go.Proofs.Ytnkfchondedfcaa
open Go.RowKit

theorem ret_str {l m : List UInt8} (h : l = m) : Ending.returned (.string ⟨l.toArray⟩) = .returned (.string ⟨m.toArray⟩) := by rw [h]

set_option maxRecDepth 100000 in
set_option maxHeartbeats 1000000 in
theorem Turn_any (w : World) (s : ByteArray) (by_ : Int) (hs : s.size ≤ maxLen) :
    Calls Try.prog 22 #[.string s, .int .i64 by_] w fun e w' => e = .returned (.string ⟨(turnL (turnK by_) s.data.toList).toArray⟩) ∧ Fr NoB w w' := by
  have hm := tmod26 by_
  have hK := turnK_eq by_
  have hlt := turnK_lt by_
  obtain ⟨hm1, hm2⟩ := hm
  have hsm : s.size ≤ 9223372036854775807 := by unfold maxLen at hs; omega
  obtain ⟨l, hl⟩ : ∃ l, l = s.data.toList := ⟨_, rfl⟩
  have hll : l.length = s.size := by rw [hl]; rfl
  have Hll := Lib.hid hll
  clear hll
  generalize turnK by_ = K at *
  rw [← hl]
  go_enter Try.func22, Try.ntmps22
  go_wp2
  go_step3
  go_wp2_with (refine wpList_str rfl 9 22 5 (.tmp 9) rfl Try.underlying9 Try.underlying22 Try.underlying5 s rfl hs ?_; intro g c w1 hg hR hF hc1 hc2)
  go_step3
  go_wp2
  rw [← hl] at hR
  have Hl := Lib.hid hl
  clear hl
  rw [hK]
  clear hK
  obtain ⟨w0, rfl⟩ : ∃ w0 : World, w0 = w1 := ⟨_, rfl⟩
  go_loopw [17] (fun i wr => ∃ k : Nat, k ≤ s.size ∧ i = .int .i64 k ∧ StrRow wr g 5 (turned K l k) ∧ Fr NoB w wr) (fun i _ => s.size - (intOf i).toNat)
  case atStart => exact ⟨0, by omega, rfl, by rw [turned_zero]; exact hR, hF⟩
  case round =>
    obtain ⟨k, hk, rfl, hRk, hFk⟩ := hrel
    obtain ⟨w2, rfl⟩ : ∃ w2 : World, w2 = wr := ⟨_, rfl⟩
    by_cases hkn : k < s.size
    · have hkl : k < l.length := by rw [Hll.out]; exact hkn
      have hkt : k < (turned K l k).length := by rw [turned_len]; exact hkl
      have hcell := hRk.get hkt
      have hfz := hRk.frozen hkt
      rw [turned_at hkl, bv] at hcell
      have hy : l[k].toNat < 256 := UInt8.toNat_lt _
      by_cases hin : 97 ≤ l[k].toNat ∧ l[k].toNat ≤ 122
      · obtain ⟨h1, h2⟩ := hin
        have Hset := Lib.hid (hRk.set_ (j := k) (turnB K l[k]))
        have Hval := Lib.hid (turnB_val (k := K) h1 h2)
        have Hsucc := Lib.hid (turned_succ (k := K) hkl)
        generalize l[k] = x at *
        generalize hyx : x.toNat = y at *
        have Hyx := Lib.hid hyx
        clear hyx
        go_wp2
        go_roundw
        case rel => exact ⟨k + 1, by omega, by go_num, by rw [Hsucc.out]; have := Hset.out; rw [Hval.out] at this; exact this, hFk.set_ (.inr hg) _ _⟩
        case measure => simp [intOf]; omega
      · have Hsame := Lib.hid (turned_same (k := K) hkl (turnB_out hin))
        have hor : l[k].toNat < 97 ∨ (97 ≤ l[k].toNat ∧ 122 < l[k].toNat) := by omega
        clear hin
        generalize l[k] = x at *
        generalize hyx : x.toNat = y at *
        have Hyx := Lib.hid hyx
        clear hyx
        rcases hor with h1 | ⟨h1, h2⟩
        all_goals
          go_wp2
          go_roundw
          case rel => exact ⟨k + 1, by omega, by go_num, by rw [Hsame.out]; exact hRk, hFk⟩
          case measure => simp [intOf]; omega
    · have hke : k = s.size := by omega
      have hT : turned K l k = turnL K l := turned_all (by rw [Hll.out]; omega)
      rw [hT] at hRk
      have hb := hRk.byt (F := fun _ => True) trivial
      have hcv := hb.str (P := Try.prog) Try.underlying22 Try.underlying5 Try.underlying9 c
      rw [turnL_len, Hll.out] at hcv
      subst hke
      clear hT
      go_wp2
      rw [Exit.noGoto_ret]
      go_ret
      exact ⟨rfl, hFk⟩

theorem awake31_eq : turnL (turnK 1) [97, 122, 46, 90] = [98, 97, 46, 90] := by decide

set_option maxHeartbeats 400000 in
theorem awake31 (w : World) : Calls Try.prog 18 #[] w fun e w' => e = .returned (.bool true) ∧ Fr NoB w w' := by
  have H := Lib.hid (Turn_any w ⟨#[97, 122, 46, 90]⟩ 1 (by decide))
  rw [show turnL (turnK 1) (⟨#[97, 122, 46, 90]⟩ : ByteArray).data.toList = [98, 97, 46, 90] from awake31_eq] at H
  go_enter Try.func18, Try.ntmps18
  go_wp2_with (go_at_call 22; refine H.out.mono ?_; rintro e w1 ⟨rfl, hf1⟩)
  go_ret
  exact ⟨rfl, hf1⟩

set_option maxRecDepth 100000 in
set_option maxHeartbeats 1000000 in
theorem refTurn_any (w : World) (s : ByteArray) (by_ : Int) (hs : s.size ≤ 70368744177664) :
    Calls Try.prog 21 #[.string s, .int .i64 by_] w fun e w' => e = .returned (.string ⟨(turnL (turnK by_) s.data.toList).toArray⟩) ∧ Fr NoB w w' := by
  have hm := tmod26 by_
  have hK1 := turnK_neg by_
  have hK2 := turnK_pos by_
  have hlt := turnK_lt by_
  obtain ⟨hm1, hm2⟩ := hm
  have hsm : s.size ≤ maxLen := by unfold maxLen; omega
  obtain ⟨l, hl⟩ : ∃ l, l = s.data.toList := ⟨_, rfl⟩
  have hll : l.length = s.size := by rw [hl]; rfl
  have Hll := Lib.hid hll
  clear hll
  generalize turnK by_ = K at *
  rw [← hl]
  go_enter Try.func21, Try.ntmps21
  go_upto_if 12 with (fail)
  go_cut [5] from 9 to 42 (fun p W => p = .int .i64 K ∧ W = w)
  case first =>
    by_cases hneg : by_.tmod 26 < 0
    · have hK := hK1 hneg
      go_wp2
      go_meet
      case rel => exact ⟨rfl, rfl⟩
    · have hpos : 0 ≤ by_.tmod 26 := by omega
      have hK := hK2 hpos
      go_wp2
      go_meet
      case rel => exact ⟨rfl, rfl⟩
  case rest =>
    obtain ⟨rfl, rfl⟩ := hcut
    clear hK1 hK2 hm1 hm2
    go_wp2_with (refine wpList_str rfl 9 22 5 (.tmp 15) rfl Try.underlying9 Try.underlying22 Try.underlying5 s rfl hsm ?_; intro g c w1 hg hR hF hc1 hc2)
    rw [← hl] at hR
    have Hl := Lib.hid hl
    clear hl
    obtain ⟨w0, rfl⟩ : ∃ w0 : World, w0 = w1 := ⟨_, rfl⟩
    have hgl := hR.lt
    go_loopw [6, 18] (fun o i wr => ∃ (k co : Nat) (A : Option Addr), k ≤ s.size ∧ i = .int .i64 k ∧ o = .slice A k co ∧ Own wr 5 1 A k co ((turnL K (l.take k)).map bv) ∧ (∀ j, inB A j → w0.heap.size ≤ j) ∧ Fr NoB w0 wr) (fun _ i _ => s.size - (intOf i).toNat)
    case atStart => exact ⟨0, 0, none, by omega, rfl, rfl, Own.nil _ _ _, fun j hj => absurd hj (inB_none j), Fr.refl _ _⟩
    case round =>
      obtain ⟨k, co, A, hk, rfl, rfl, hO, hA, hFk⟩ := hrel
      obtain ⟨w2, rfl⟩ : ∃ w2 : World, w2 = wr := ⟨_, rfl⟩
      have hR2 := hR.fr hFk id
      have s2 := hFk.size
      by_cases hkn : k < s.size
      · have hkl : k < l.length := by rw [Hll.out]; exact hkn
        have hcell := hR2.get hkl
        rw [bv] at hcell
        have hy : l[k].toNat < 256 := UInt8.toNat_lt _
        have Htake : Hid (turnL K (l.take (k + 1)) = turnL K (l.take k) ++ [turnB K l[k]]) := by
          show _ = _
          rw [List.take_succ_eq_append_getElem hkl, turnL, List.map_append]; rfl
        have hrel : ∀ (v : Value), v = bv (turnB K l[k]) → ∀ (A' : Option Addr) (c' : Nat) (w' : World), Own w' 5 1 A' (k + 1) c' ((turnL K (l.take k)).map bv ++ [v]) → Own w' 5 1 A' (k + 1) c' ((turnL K (l.take (k + 1))).map bv) := by
          rintro v rfl A' c' w' h
          rw [Htake.out, List.map_append]; exact h
        have Hrel := Lib.hid hrel
        clear hrel
        by_cases hin : 97 ≤ l[k].toNat ∧ l[k].toNat ≤ 122
        · obtain ⟨h1, h2⟩ := hin
          have Hval := Lib.hid (turnB_val (k := K) h1 h2)
          generalize l[k] = x at *
          generalize hyx : x.toNat = y at *
          have Hyx := Lib.hid hyx
          clear hyx
          go_wp2_with (at_builtin; refine wpList_app _ el_u8w rfl (.tmp 36) (.tmp 38) rfl A k co _ rfl (hO.alloc _) _ _ 1 1 _ rfl (Arr.one _ _ _) (by simp [Value.oneCell']) (by omega) ?_; intro A3 c3 w3 hown3 hf3 hin3 hnil3)
          go_roundw
          case rel => exact ⟨k + 1, c3, A3, by omega, by go_num, rfl, Hrel.out _ Hval.out.symm _ _ _ hown3, fun j hj => (hin3 j hj).elim (hA j) (fun h => by simp at h; omega), (hFk.alloc _).new hf3 fun j hj => .inr (hA j hj)⟩
          case measure => simp [intOf]; omega
        · have Hout := Lib.hid (turnB_out (k := K) hin)
          have hor : l[k].toNat < 97 ∨ (97 ≤ l[k].toNat ∧ 122 < l[k].toNat) := by omega
          clear hin
          have Hbv := Lib.hid (bv_eq l[k])
          generalize l[k] = x at *
          generalize hyx : x.toNat = y at *
          have Hyx := Lib.hid hyx
          clear hyx
          rcases hor with h1 | ⟨h1, h2⟩
          all_goals
            go_wp2_with (at_builtin; refine wpList_app _ el_u8w rfl (.tmp 36) (.tmp 38) rfl A k co _ rfl (hO.alloc _) _ _ 1 1 _ rfl (Arr.one _ _ _) (by simp [Value.oneCell']) (by omega) ?_; intro A3 c3 w3 hown3 hf3 hin3 hnil3)
            go_roundw
            case rel => exact ⟨k + 1, c3, A3, by omega, by go_num, rfl, Hrel.out _ (by rw [Hout.out, Hbv.out]) _ _ _ hown3, fun j hj => (hin3 j hj).elim (hA j) (fun h => by simp at h; omega), (hFk.alloc _).new hf3 fun j hj => .inr (hA j hj)⟩
            case measure => simp [intOf]; omega
      · have hke : k = s.size := by omega
        rw [List.take_of_length_le (by rw [Hll.out]; omega)] at hO
        have hb : Byt w2 (fun _ => True) A k (turnL K l) := hO.arr fun _ _ _ => trivial
        have hcv := hb.str (P := Try.prog) Try.underlying22 Try.underlying5 Try.underlying9 co
        clear hke
        go_wp2
        go_ret
        exact ⟨rfl, hF.trans hFk fun _ _ => id⟩
end Go.Proofs.Ytnkfchondedfcaa
