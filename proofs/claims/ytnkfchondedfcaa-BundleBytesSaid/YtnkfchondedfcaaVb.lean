/-
  Whether a name is good: route.Good, tabulariumref08.Good. Conditions: each contract states its own.
-/
import Derived.Test.YtnkfchondedfcaaUg
import Derived.Test.YtnkfchondedfcaaSt
namespace Go.Proofs.Ytnkfchondedfcaa
open Go.RowKit

def goodC (c : UInt8) : Bool := !(c == 0) && !(c == 47)
def goodS (s : ByteArray) : Bool := !s.toList.isEmpty && (decide (s.size ≤ 64) && (!(s.toList == [46]) && (!(s.toList == [46, 46]) && s.toList.all goodC)))
theorem goodC_of {c : UInt8} (h0 : ¬ c.toNat = 0) (h1 : ¬ c.toNat = 47) : goodC c = true := by
  have a : ¬ c = 0 := fun h => by subst h; exact h0 rfl
  have b : ¬ c = 47 := fun h => by subst h; exact h1 rfl
  simp [goodC, a, b]
theorem goodC_zero {c : UInt8} (h : c.toNat = 0) : goodC c = false := by
  have : c = 0 := UInt8.toNat_inj.1 h
  simp [goodC, this]
theorem goodC_stroke {c : UInt8} (h : c.toNat = 47) : goodC c = false := by
  have : c = 47 := UInt8.toNat_inj.1 h
  simp [goodC, this]
theorem goodS_no {s : ByteArray} {c : UInt8} (hc : c ∈ s.toList) (h : goodC c = false) : goodS s = false := by
  have : s.toList.all goodC = false := by rw [List.all_eq_false]; exact ⟨c, hc, by rw [h]; simp⟩
  simp [goodS, this]
theorem toList_len (s : ByteArray) : s.toList.length = s.size := by rw [ByteArray.toList_eq]; rfl

set_option maxRecDepth 100000 in
set_option maxHeartbeats 2000000 in
theorem Good_any (w : World) (s : ByteArray) (hs : s.size ≤ maxLen) :
    Calls Try.prog 116 #[.string s] w fun e w' => e = .returned (.bool (goodS s)) ∧ Fr NoB w w' := by
  obtain ⟨l, hl⟩ : ∃ l, l = s.toList := ⟨_, rfl⟩
  have hll : l.length = s.size := by rw [hl]; exact toList_len s
  have Hll := Lib.hid hll
  have hdef : goodS s = (!l.isEmpty && (decide (s.size ≤ 64) && (!(l == [46]) && (!(l == [46, 46]) && l.all goodC)))) := by rw [hl]; rfl
  have Hdef := Lib.hid hdef
  have hno : ∀ c ∈ l, goodC c = false → goodS s = false := fun c hc => goodS_no (hl ▸ hc)
  have Hno := Lib.hid hno
  have Hl := Lib.hid hl
  clear hll hdef hno
  cases e0 : l.isEmpty with
  | true =>
    rw [hl] at e0
    have He : Hid (goodS s = false) := by show _ = _; rw [Hdef.out, Hl.out, e0]; rfl
    clear hl
    go_enter Try.func116, Try.ntmps116
    go_wp2
    go_ret
    exact ⟨ret_bool He.out.symm, Fr.refl _ _⟩
  | false =>
    rw [hl] at e0
    by_cases h1 : s.size ≤ 64
    · have b1 : decide (64 < (s.size : Int)) = false := by simp only [decide_eq_false_iff_not]; omega
      have d1 := decide_eq_true h1
      cases e2 : (l == [46]) with
      | true =>
        rw [hl] at e2
        have He : Hid (goodS s = false) := by show _ = _; rw [Hdef.out, Hl.out, e0, d1, e2]; rfl
        clear hl
        go_enter Try.func116, Try.ntmps116
        go_wp2
        go_ret
        exact ⟨ret_bool He.out.symm, Fr.refl _ _⟩
      | false =>
        rw [hl] at e2
        cases e3 : (l == [46, 46]) with
        | true =>
          rw [hl] at e3
          have He : Hid (goodS s = false) := by show _ = _; rw [Hdef.out, Hl.out, e0, d1, e2, e3]; rfl
          clear hl
          go_enter Try.func116, Try.ntmps116
          go_wp2
          go_ret
          exact ⟨ret_bool He.out.symm, Fr.refl _ _⟩
        | false =>
          rw [hl] at e3
          have he : goodS s = l.all goodC := by rw [Hdef.out, Hl.out, e0, d1, e2, e3]; simp
          have He := Lib.hid he
          clear he hl d1
          go_enter Try.func116, Try.ntmps116
          go_wp2_with (refine wpList_str rfl 9 22 5 (.tmp 20) rfl Try.underlying9 Try.underlying22 Try.underlying5 s rfl hs ?_; intro g c w1 hg hR hF hc1 hc2)
          rw [← ByteArray.toList_eq, ← Hl.out] at hR
          obtain ⟨w0, rfl⟩ : ∃ w0 : World, w0 = w1 := ⟨_, rfl⟩
          have hw1 : Fr NoB w w0 := hF
          go_loopw [23] (fun i wr => ∃ k : Nat, k ≤ s.size ∧ i = .int .i64 k ∧ (l.take k).all goodC = true ∧ wr = w0) (fun i _ => s.size - (intOf i).toNat)
          case atStart => exact ⟨0, by omega, rfl, rfl, rfl⟩
          case round =>
            obtain ⟨k, hk, rfl, hall, rfl⟩ := hrel
            have Hall := Lib.hid hall
            clear hall
            by_cases hkn : k < s.size
            · have hkl : k < l.length := by rw [Hll.out]; exact hkn
              have hcell := hR.get hkl
              have hmem : l[k] ∈ l := List.getElem_mem _
              have htk : (l.take (k + 1)) = l.take k ++ [l[k]] := List.take_succ_eq_append_getElem hkl
              generalize l[k] = x at *
              have Htk := Lib.hid htk
              have hx : x.toNat < 256 := UInt8.toNat_lt _
              rw [bv] at hcell
              clear htk
              by_cases x0 : x.toNat = 0
              · have Hn := Lib.hid (Hno.out x hmem (goodC_zero x0))
                rw [x0] at hcell
                clear hmem
                go_wp2
                go_ret
                exact ⟨ret_bool Hn.out.symm, hF⟩
              · have f0 : ((x.toNat : Int) == 0) = false := by simp; omega
                by_cases x1 : x.toNat = 47
                · have Hn := Lib.hid (Hno.out x hmem (goodC_stroke x1))
                  rw [x1] at hcell
                  clear hmem x0 f0
                  go_wp2
                  go_ret
                  exact ⟨ret_bool Hn.out.symm, hF⟩
                · have f1 : ((x.toNat : Int) == 47) = false := by simp; omega
                  have Hg := Lib.hid (goodC_of x0 x1)
                  clear hmem x0 x1
                  go_wp2
                  go_roundw
                  case rel => exact ⟨k + 1, by omega, by go_num, by rw [Htk.out, List.all_append, Hall.out]; simp [Hg.out], trivial⟩
                  case measure => (simp [intOf] <;> omega)
            · have ha := Hall.out
              rw [List.take_of_length_le (by rw [Hll.out]; omega), ← He.out] at ha
              have Ha := Lib.hid ha
              clear ha
              go_wp2
              go_ret
              exact ⟨ret_bool Ha.out.symm, hF⟩
    · have b1 : decide (64 < (s.size : Int)) = true := by simp only [decide_eq_true_eq]; omega
      have He : Hid (goodS s = false) := by show _ = _; rw [Hdef.out, Hl.out, e0, decide_eq_false h1]; rfl
      clear hl h1
      go_enter Try.func116, Try.ntmps116
      go_wp2
      go_ret
      exact ⟨ret_bool He.out.symm, Fr.refl _ _⟩

set_option maxRecDepth 100000 in
set_option maxHeartbeats 2000000 in
theorem refGood_any (w : World) (s : ByteArray) (hs : s.size ≤ maxLen) :
    Calls Try.prog 100 #[.string s] w fun e w' => e = .returned (.bool (goodS s)) ∧ w = w' := by
  obtain ⟨l, hl⟩ : ∃ l, l = s.toList := ⟨_, rfl⟩
  have hll : l.length = s.size := by rw [hl]; exact toList_len s
  have Hll := Lib.hid hll
  have hno : ∀ c ∈ l, goodC c = false → goodS s = false := fun c hc => goodS_no (hl ▸ hc)
  have Hno := Lib.hid hno
  have Hl := Lib.hid hl
  have hs63 : s.size ≤ 9223372036854775807 := by unfold maxLen at hs; omega
  clear hll hno
  go_enter Try.func100, Try.ntmps100
  go_wp2
  go_loopw [3] (fun i wr => ∃ k : Nat, k ≤ s.size ∧ i = .int .i64 k ∧ (l.take k).all goodC = true ∧ wr = w) (fun i _ => s.size - (intOf i).toNat)
  case atStart => exact ⟨0, by omega, rfl, rfl, rfl⟩
  case round =>
    obtain ⟨k, hk, rfl, hall, rfl⟩ := hrel
    have Hall := Lib.hid hall
    clear hall
    by_cases hkn : k < s.size
    · have hkl : k < l.length := by rw [Hll.out]; exact hkn
      have hmem : l[k] ∈ l := List.getElem_mem _
      have htk : (l.take (k + 1)) = l.take k ++ [l[k]] := List.take_succ_eq_append_getElem hkl
      have hge : s[k]'hkn = l[k] := by
        have : l[k]? = s.data.toList[k]? := by rw [hl, ByteArray.toList_eq]
        rw [List.getElem?_eq_getElem hkl, List.getElem?_eq_getElem (by simpa using hkn)] at this
        injection this with this
        exact this.symm
      rw [← hge] at hmem htk
      have Htk := Lib.hid htk
      have Hmem := Lib.hid hmem
      clear htk hmem hge hl
      by_cases x0 : (s[k]'hkn).toNat = 0
      · have Hn := Lib.hid (Hno.out _ Hmem.out (goodC_zero x0))
        have f0 : (((s[k]'hkn).toNat : Int) == 0) = true := by simp; omega
        clear x0
        go_wp2
        go_ret
        exact ⟨ret_bool Hn.out.symm, rfl⟩
      · have f0 : (((s[k]'hkn).toNat : Int) == 0) = false := by simp; omega
        by_cases x1 : (s[k]'hkn).toNat = 47
        · have Hn := Lib.hid (Hno.out _ Hmem.out (goodC_stroke x1))
          have f1 : (((s[k]'hkn).toNat : Int) == 47) = true := by simp; omega
          clear x0 x1
          go_wp2
          go_ret
          exact ⟨ret_bool Hn.out.symm, rfl⟩
        · have f1 : (((s[k]'hkn).toNat : Int) == 47) = false := by simp; omega
          have Hg := Lib.hid (goodC_of x0 x1)
          clear x0 x1
          go_wp2
          go_roundw
          case rel => exact ⟨k + 1, by omega, by go_num, by rw [Htk.out, List.all_append, Hall.out]; simp [Hg.out], trivial⟩
          case measure => (simp [intOf] <;> omega)
    · have ha := Hall.out
      rw [List.take_of_length_le (by rw [Hll.out]; omega)] at ha
      have hdef : goodS s = (!s.toList.isEmpty && (decide (s.size ≤ 64) && (!(s.toList == [46]) && !(s.toList == [46, 46])))) := by
        unfold goodS
        rw [← hl, ha]
        simp
      have hemp : s.toList.isEmpty = decide (s.size = 0) := by
        rw [← hl]
        cases l with
        | nil => have := Hll.out; rw [List.length_nil] at this; show true = _; rw [decide_eq_true this.symm]
        | cons a t => have := Hll.out; rw [List.length_cons] at this; show false = _; rw [decide_eq_false (by omega)]
      rw [hemp] at hdef
      have Hd := Lib.hid hdef
      clear ha hdef hemp hl
      by_cases h0 : s.size = 0
      · have c0 : decide (1 ≤ (s.size : Int)) = false := by simp only [decide_eq_false_iff_not]; omega
        have He : Hid (goodS s = false) := by show _ = _; rw [Hd.out, decide_eq_true h0]; rfl
        clear h0
        go_wp2
        go_ret
        exact ⟨ret_bool He.out.symm, rfl⟩
      · have c0 : decide (1 ≤ (s.size : Int)) = true := by simp only [decide_eq_true_eq]; omega
        by_cases h1 : s.size ≤ 64
        · have c1 : decide ((s.size : Int) ≤ 64) = true := by simp only [decide_eq_true_eq]; omega
          have he : goodS s = (!(s.toList == [46]) && !(s.toList == [46, 46])) := by rw [Hd.out, decide_eq_false h0, decide_eq_true h1]; simp
          cases e2 : (s.toList == [46]) with
          | true =>
            rw [e2] at he
            have He := Lib.hid he
            clear he h0 h1
            go_wp2
            go_ret
            exact ⟨ret_bool He.out.symm, rfl⟩
          | false =>
            rw [e2] at he
            cases e3 : (s.toList == [46, 46]) with
            | true =>
              rw [e3] at he
              have He := Lib.hid he
              clear he h0 h1
              go_wp2
              go_ret
              exact ⟨ret_bool He.out.symm, rfl⟩
            | false =>
              rw [e3] at he
              have He := Lib.hid he
              clear he h0 h1
              go_wp2
              go_ret
              exact ⟨ret_bool He.out.symm, rfl⟩
        · have c1 : decide ((s.size : Int) ≤ 64) = false := by simp only [decide_eq_false_iff_not]; omega
          have He : Hid (goodS s = false) := by show _ = _; rw [Hd.out, decide_eq_false h0, decide_eq_false h1]; rfl
          clear h0 h1
          go_wp2
          go_ret
          exact ⟨ret_bool He.out.symm, rfl⟩
end Go.Proofs.Ytnkfchondedfcaa
