/-
  Scripts that a law tries: tabulariumlaw29.Few, tabulariumlaw30.Small. Conditions: each contract states its own.
-/
import Derived.Test.YtnkfchondedfcaaTb
import Derived.Test.YtnkfchondedfcaaCz
namespace Go.Proofs.Ytnkfchondedfcaa
open Go.RowKit

def opSmall (o : Opn) : Bool := decide (o.path.size ≤ 100) && (decide (o.other.size ≤ 100) && (decide (o.text.size ≤ 200) && decide (o.branch.size ≤ 100)))
def fewOps (l : List Opn) : Bool := l.all opSmall && decide (l.length ≤ 24)

set_option maxRecDepth 100000 in
set_option maxHeartbeats 2000000 in
theorem FewOps_any (w : World) (F : Nat → Prop) (A : Option Addr) (n c : Nat) (l : List Opn) (h : Opns w F A n l) (hn : n ≤ 9223372036854775807) :
    Calls Try.prog 72 #[.slice A n c] w fun e w' => e = .returned (.bool (fewOps l)) ∧ Fr NoB w w' := by
  have hlen := h.len
  have Hlen := Lib.hid hlen
  clear hlen
  go_enter Try.func72, Try.ntmps72
  obtain ⟨w0, rfl⟩ : ∃ w0 : World, w0 = w := ⟨_, rfl⟩
  go_wp2
  go_loopw [7] (fun i wr => ∃ k : Nat, k ≤ n ∧ i = .int .i64 k ∧ (l.take k).all opSmall = true ∧ Fr NoB w0 wr) (fun i _ => n - (intOf i).toNat)
  case atStart => exact ⟨0, by omega, rfl, rfl, Fr.refl _ _⟩
  case round =>
    obtain ⟨k, hk, rfl, hall, hF⟩ := hrel
    obtain ⟨w1, rfl⟩ : ∃ w1 : World, w1 = wr := ⟨_, rfl⟩
    have Hall := Lib.hid hall
    clear hall
    by_cases hkn : k < n
    · obtain ⟨bb, o, p, y, rfl, hGb, hp, hy, hyr, hcell⟩ := (h.fr hF fun _ _ => id).at_ hkn
      obtain ⟨rfl, _⟩ := hyr
      have hkl : k < l.length := by rw [Hlen.out]; exact hkn
      have hpe : l[k] = p := by rw [List.getElem?_eq_getElem hkl] at hp; injection hp
      have Htake : Hid (l.take (k + 1) = l.take k ++ [p]) := by
        show _ = _
        rw [List.take_succ_eq_append_getElem hkl, hpe]
      have hmem : p ∈ l := hpe ▸ List.getElem_mem _
      clear hp hpe hy
      unfold opCells at hcell
      cases hs : opSmall p with
      | true =>
        obtain ⟨s1, s2, s3, s4⟩ : p.path.size ≤ 100 ∧ p.other.size ≤ 100 ∧ p.text.size ≤ 200 ∧ p.branch.size ≤ 100 := by simpa [opSmall] using hs
        have Hsm := Lib.hid hs
        have b1 : decide (100 < (p.path.size : Int)) = false := by simp only [decide_eq_false_iff_not]; omega
        have b2 : decide (100 < (p.other.size : Int)) = false := by simp only [decide_eq_false_iff_not]; omega
        have b3 : decide (200 < (p.text.size : Int)) = false := by simp only [decide_eq_false_iff_not]; omega
        have b4 : decide (100 < (p.branch.size : Int)) = false := by simp only [decide_eq_false_iff_not]; omega
        clear s1 s2 s3 s4 hs
        go_wp2_with (first
          | (refine wpList_load_agg rfl 34 (.tmp 9) rfl bb (o + k * 7) rfl _ _ hcell Try.underlying34 rfl op_size ?_)
          | (refine wpList_alloc_any rfl 34 rfl 7 op_zero ?_; intro z hz; have Hz := Lib.hid hz; clear hz)
          | (refine wpList_store_newN rfl 34 (.tmp 4) (.tmp 10) rfl 7 op_size _ z Hz.out #[.int .u32 p.client, .int .i64 p.kind, .string p.branch, .string p.path, .string p.other, .string p.text, .int .u64 p.n] rfl rfl rfl (by simp [Value.oneCell']) ?_))
        go_roundw
        case rel => exact ⟨k + 1, by omega, by go_num, by rw [Htake.out, List.all_append, Hall.out]; simp [Hsm.out], hF.alloc _⟩
        case measure => (simp [intOf] <;> omega)
      | false =>
        have Hno : Hid (fewOps l = false) := by
          show _ = _
          have : l.all opSmall = false := by rw [List.all_eq_false]; exact ⟨p, hmem, by rw [hs]; simp⟩
          simp [fewOps, this]
        by_cases s1 : p.path.size ≤ 100
        · have b1 : decide (100 < (p.path.size : Int)) = false := by simp only [decide_eq_false_iff_not]; omega
          by_cases s2 : p.other.size ≤ 100
          · have b2 : decide (100 < (p.other.size : Int)) = false := by simp only [decide_eq_false_iff_not]; omega
            by_cases s3 : p.text.size ≤ 200
            · have b3 : decide (200 < (p.text.size : Int)) = false := by simp only [decide_eq_false_iff_not]; omega
              have b4 : decide (100 < (p.branch.size : Int)) = true := by
                have : ¬ p.branch.size ≤ 100 := fun h4 => by simp [opSmall, s1, s2, s3, h4] at hs
                simp only [decide_eq_true_eq]; omega
              clear s1 s2 s3 hs
              go_wp2_with (first
                | (refine wpList_load_agg rfl 34 (.tmp 9) rfl bb (o + k * 7) rfl _ _ hcell Try.underlying34 rfl op_size ?_)
                | (refine wpList_alloc_any rfl 34 rfl 7 op_zero ?_; intro z hz; have Hz := Lib.hid hz; clear hz)
                | (refine wpList_store_newN rfl 34 (.tmp 4) (.tmp 10) rfl 7 op_size _ z Hz.out #[.int .u32 p.client, .int .i64 p.kind, .string p.branch, .string p.path, .string p.other, .string p.text, .int .u64 p.n] rfl rfl rfl (by simp [Value.oneCell']) ?_))
              go_ret
              exact ⟨ret_bool Hno.out.symm, hF.alloc _⟩
            · have b3 : decide (200 < (p.text.size : Int)) = true := by simp only [decide_eq_true_eq]; omega
              clear s1 s2 s3 hs
              go_wp2_with (first
                | (refine wpList_load_agg rfl 34 (.tmp 9) rfl bb (o + k * 7) rfl _ _ hcell Try.underlying34 rfl op_size ?_)
                | (refine wpList_alloc_any rfl 34 rfl 7 op_zero ?_; intro z hz; have Hz := Lib.hid hz; clear hz)
                | (refine wpList_store_newN rfl 34 (.tmp 4) (.tmp 10) rfl 7 op_size _ z Hz.out #[.int .u32 p.client, .int .i64 p.kind, .string p.branch, .string p.path, .string p.other, .string p.text, .int .u64 p.n] rfl rfl rfl (by simp [Value.oneCell']) ?_))
              go_ret
              exact ⟨ret_bool Hno.out.symm, hF.alloc _⟩
          · have b2 : decide (100 < (p.other.size : Int)) = true := by simp only [decide_eq_true_eq]; omega
            clear s1 s2 hs
            go_wp2_with (first
              | (refine wpList_load_agg rfl 34 (.tmp 9) rfl bb (o + k * 7) rfl _ _ hcell Try.underlying34 rfl op_size ?_)
              | (refine wpList_alloc_any rfl 34 rfl 7 op_zero ?_; intro z hz; have Hz := Lib.hid hz; clear hz)
              | (refine wpList_store_newN rfl 34 (.tmp 4) (.tmp 10) rfl 7 op_size _ z Hz.out #[.int .u32 p.client, .int .i64 p.kind, .string p.branch, .string p.path, .string p.other, .string p.text, .int .u64 p.n] rfl rfl rfl (by simp [Value.oneCell']) ?_))
            go_ret
            exact ⟨ret_bool Hno.out.symm, hF.alloc _⟩
        · have b1 : decide (100 < (p.path.size : Int)) = true := by simp only [decide_eq_true_eq]; omega
          clear s1 hs
          go_wp2_with (first
            | (refine wpList_load_agg rfl 34 (.tmp 9) rfl bb (o + k * 7) rfl _ _ hcell Try.underlying34 rfl op_size ?_)
            | (refine wpList_alloc_any rfl 34 rfl 7 op_zero ?_; intro z hz; have Hz := Lib.hid hz; clear hz)
            | (refine wpList_store_newN rfl 34 (.tmp 4) (.tmp 10) rfl 7 op_size _ z Hz.out #[.int .u32 p.client, .int .i64 p.kind, .string p.branch, .string p.path, .string p.other, .string p.text, .int .u64 p.n] rfl rfl rfl (by simp [Value.oneCell']) ?_))
          go_ret
          exact ⟨ret_bool Hno.out.symm, hF.alloc _⟩
    · have hke : k = n := by omega
      subst hke
      have Hf : Hid (fewOps l = decide (k ≤ 24)) := by
        show _ = _
        have := Hall.out
        rw [List.take_of_length_le (by rw [Hlen.out]; exact Nat.le_refl _)] at this
        simp [fewOps, this, Hlen.out]
      go_wp2
      go_ret
      refine ⟨?_, hF⟩
      rw [Hf.out]
      exact ret_bool (by simp; omega)

def scrSmall (s : Scr) : Bool := decide (s.draws.length ≤ 16000) && (decide (s.sectors ≤ 1500) && (decide (s.crashes.length ≤ 4) && (decide (s.up.length ≤ 60) && (decide (s.down.length ≤ 60) && fewOps s.ops))))

theorem Scr.lens {w : World} {F : Nat → Prop} {p : ScrAt} {s : Scr} (h : ScrIn w F p s) : s.draws.length = p.n1 ∧ s.crashes.length = p.n5 ∧ s.up.length = p.n6 ∧ s.down.length = p.n7 ∧ s.ops.length = p.n8 := by
  obtain ⟨⟨_, _, d1⟩, ⟨_, _, d5⟩, ⟨_, _, d6⟩, ⟨_, _, d7⟩, _, _, d8⟩ := h
  exact ⟨d1.len, d5.len, d6.len, d7.len, d8.len⟩
end Go.Proofs.Ytnkfchondedfcaa
