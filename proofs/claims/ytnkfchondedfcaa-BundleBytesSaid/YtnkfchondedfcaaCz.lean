/-
  The parts of chapter 8's statements: few, wrote, written. Conditions: each contract states its own.
-/
import Derived.Test.YtnkfchondedfcaaRw
namespace Go.Proofs.Ytnkfchondedfcaa
open Go.RowKit

/-- A part that is written or read. -/
structure Part where
  kind : Int
  n : Nat
  b : List UInt8
  ids : List Id32
  most : Int

def PartR (w : World) (F : Nat → Prop) (y : List Value) (p : Part) : Prop :=
  ∃ AB nB cB AI nI cI, y = [.int .i64 p.kind, .int .u64 p.n, .slice AB nB cB, .slice AI nI cI, .int .i64 p.most] ∧ nB ≤ cB ∧ cB ≤ maxLen ∧ Byt w F AB nB p.b ∧ nI ≤ cI ∧ cI ≤ maxLen ∧ ArrOf IdR w F 32 AI nI p.ids ∧
    p.n < 18446744073709551616 ∧ -9223372036854775808 ≤ p.most ∧ p.most ≤ 9223372036854775807

theorem PartR.fr {w w' : World} {F S : Nat → Prop} {y : List Value} {p : Part} (h : PartR w F y p) (hf : Fr S w w') (hd : ∀ k, F k → ¬ S k) : PartR w' F y p := by
  obtain ⟨AB, nB, cB, AI, nI, cI, h1, h2, h3, h4, h5, h6, h7, h8⟩ := h
  exact ⟨AB, nB, cB, AI, nI, cI, h1, h2, h3, h4.fr hf hd, h5, h6, h7.fr hf hd fun y a _ hy => hy, h8⟩

def Parts (w : World) (F : Nat → Prop) (A : Option Addr) (n : Nat) (l : List Part) : Prop := ArrOf (PartR w F) w F 5 A n l
theorem Parts.fr {w w' : World} {F S : Nat → Prop} {A : Option Addr} {n : Nat} {l : List Part} (h : Parts w F A n l) (hf : Fr S w w') (hd : ∀ k, F k → ¬ S k) : Parts w' F A n l :=
  ArrOf.fr h hf hd fun _ _ _ hy => hy.fr hf hd

def partSmall (p : Part) : Bool := decide (p.b.length ≤ 200) && decide (p.ids.length ≤ 10)
def fewB (l : List Part) : Bool := l.all partSmall && decide (l.length ≤ 20)

theorem partT_size : (Try.prog.info? 62).map (·.size) = some 5 := by kernel_rfl
theorem partT_zero : ((Try.prog.info? 62).bind (·.zero)).map (·.cells.size) = some 5 := by kernel_rfl

set_option maxRecDepth 100000 in
set_option maxHeartbeats 1000000 in
theorem few_any (w : World) (A : Option Addr) (n c : Nat) (l : List Part) (h : Parts w (fun k => k < w.heap.size) A n l) (hn : n ≤ 9223372036854775807) :
    Calls Try.prog 32 #[.slice A n c] w fun e w' => e = .returned (.bool (fewB l)) ∧ Fr NoB w w' := by
  have hlen := h.len
  have Hlen := Lib.hid hlen
  clear hlen
  go_enter Try.func32, Try.ntmps32
  obtain ⟨w0, rfl⟩ : ∃ w0 : World, w0 = w := ⟨_, rfl⟩
  go_wp2
  go_loopw [7] (fun i wr => ∃ k : Nat, k ≤ n ∧ i = .int .i64 k ∧ (l.take k).all partSmall = true ∧ Fr NoB w0 wr) (fun i _ => n - (intOf i).toNat)
  case atStart => exact ⟨0, by omega, rfl, rfl, Fr.refl _ _⟩
  case round =>
    obtain ⟨k, hk, rfl, hall, hF⟩ := hrel
    obtain ⟨w1, rfl⟩ : ∃ w1 : World, w1 = wr := ⟨_, rfl⟩
    have Hall := Lib.hid hall
    clear hall
    by_cases hkn : k < n
    · obtain ⟨bb, o, p, y, rfl, hGb, hp, hy, hyr, hcell⟩ := (h.fr hF fun _ _ => id).at_ hkn
      obtain ⟨AB, nB, cB, AI, nI, cI, rfl, h2, h3, h4, h5, h6, h7, _⟩ := hyr
      have hkl : k < l.length := by rw [Hlen.out]; exact hkn
      have hpe : l[k] = p := by rw [List.getElem?_eq_getElem hkl] at hp; injection hp
      have Htake : Hid (l.take (k + 1) = l.take k ++ [p]) := by
        show _ = _
        rw [List.take_succ_eq_append_getElem hkl, hpe]
      have hmem : p ∈ l := hpe ▸ List.getElem_mem _
      have hb := h4.len
      have hi := h7.len
      by_cases hs : nB ≤ 200 ∧ nI ≤ 10
      · obtain ⟨hs1, hs2⟩ := hs
        have Hsm : Hid (partSmall p = true) := by show _ = _; simp [partSmall, hb, hi, hs1, hs2]
        unfold maxLen at h3 h6
        clear hb hi hp hpe h4 h7 hy
        go_wp2_with (first
          | (refine wpList_load_agg rfl 62 (.tmp 9) rfl bb (o + k * 5) rfl _ _ hcell Try.underlying62 rfl partT_size ?_)
          | (refine wpList_alloc_any rfl 62 rfl 5 partT_zero ?_; intro z hz; have Hz := Lib.hid hz; clear hz)
          | (refine wpList_store_newN rfl 62 (.tmp 4) (.tmp 10) rfl 5 partT_size _ z Hz.out #[.int .i64 p.kind, .int .u64 p.n, .slice AB nB cB, .slice AI nI cI, .int .i64 p.most] rfl rfl rfl (by simp [Value.oneCell']) ?_))
        go_roundw
        case rel => exact ⟨k + 1, by omega, by go_num, by rw [Htake.out, List.all_append, Hall.out]; simp [Hsm.out], hF.alloc _⟩
        case measure => simp [intOf]; omega
      · have Hsm : Hid (partSmall p = false) := by
          show _ = _
          simp only [partSmall, hb, hi, Bool.and_eq_false_iff, decide_eq_false_iff_not]; omega
        have Hno : Hid (fewB l = false) := by
          show _ = _
          have : l.all partSmall = false := by rw [List.all_eq_false]; exact ⟨p, hmem, by rw [Hsm.out]; simp⟩
          simp [fewB, this]
        unfold maxLen at h3 h6
        clear hb hi hp hpe h4 h7 hy
        by_cases hs1 : nB ≤ 200
        · have hs2 : ¬ nI ≤ 10 := fun h => hs ⟨hs1, h⟩
          clear hs
          go_wp2_with (first
            | (refine wpList_load_agg rfl 62 (.tmp 9) rfl bb (o + k * 5) rfl _ _ hcell Try.underlying62 rfl partT_size ?_)
            | (refine wpList_alloc_any rfl 62 rfl 5 partT_zero ?_; intro z hz; have Hz := Lib.hid hz; clear hz)
            | (refine wpList_store_newN rfl 62 (.tmp 4) (.tmp 10) rfl 5 partT_size _ z Hz.out #[.int .i64 p.kind, .int .u64 p.n, .slice AB nB cB, .slice AI nI cI, .int .i64 p.most] rfl rfl rfl (by simp [Value.oneCell']) ?_))
          go_ret
          exact ⟨ret_bool Hno.out.symm, hF.alloc _⟩
        · clear hs
          go_wp2_with (first
            | (refine wpList_load_agg rfl 62 (.tmp 9) rfl bb (o + k * 5) rfl _ _ hcell Try.underlying62 rfl partT_size ?_)
            | (refine wpList_alloc_any rfl 62 rfl 5 partT_zero ?_; intro z hz; have Hz := Lib.hid hz; clear hz)
            | (refine wpList_store_newN rfl 62 (.tmp 4) (.tmp 10) rfl 5 partT_size _ z Hz.out #[.int .i64 p.kind, .int .u64 p.n, .slice AB nB cB, .slice AI nI cI, .int .i64 p.most] rfl rfl rfl (by simp [Value.oneCell']) ?_))
          go_ret
          exact ⟨ret_bool Hno.out.symm, hF.alloc _⟩
    · have hke : k = n := by omega
      subst hke
      have Hf : Hid (fewB l = decide (k ≤ 20)) := by
        show _ = _
        have := Hall.out
        rw [List.take_of_length_le (by rw [Hlen.out]; exact Nat.le_refl _)] at this
        simp [fewB, this, Hlen.out]
      go_wp2
      go_ret
      refine ⟨?_, hF⟩
      rw [Hf.out]
      exact ret_bool (by simp; omega)

end Go.Proofs.Ytnkfchondedfcaa
