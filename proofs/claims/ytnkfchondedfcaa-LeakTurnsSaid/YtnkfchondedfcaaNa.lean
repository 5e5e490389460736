/-
  Strings that lie in a row; held against each other (slices.Equal, tabulariumref08.SameNames). Conditions: each contract states its own.
-/
import Derived.Test.YtnkfchondedfcaaRows
import Derived.Test.YtnkfchondedfcaaWi
import Derived.Test.YtnkfchondedfcaaCy
import Derived.Test.YtnkfchondedfcaaJa
namespace Go.Proofs.Ytnkfchondedfcaa
open Go.RowKit

theorem bs_beq (x y : ByteArray) : (x.toList == y.toList) = decide (x = y) := by
  rw [ByteArray.toList_eq, ByteArray.toList_eq, Bool.eq_iff_iff]
  simp only [beq_iff_eq, decide_eq_true_eq]
  constructor
  · intro h
    exact ByteArray.ext (by
      have := congrArg List.toArray h
      simpa using this)
  · rintro rfl; rfl
theorem bs_ne {x y : ByteArray} (h : x ≠ y) : (x.toList == y.toList) = false := by rw [bs_beq]; simpa using h

/-- Strings that lie in a row. -/
def Strs (w : World) (F : Nat → Prop) (A : Option Addr) (n : Nat) (l : List ByteArray) : Prop := Arr w F 1 A n (l.map (Value.string))
theorem Strs.len {w : World} {F : Nat → Prop} {A : Option Addr} {n : Nat} {l : List ByteArray} (h : Strs w F A n l) : l.length = n := by have := h.1; simpa using this
theorem Strs.at_ {w : World} {F : Nat → Prop} {A : Option Addr} {n : Nat} {l : List ByteArray} (h : Strs w F A n l) {k : Nat} (hk : k < n) : ∃ b o x, A = some ⟨b, o, none⟩ ∧ F b ∧ l[k]? = some x ∧ w.cell? ⟨b, o + k, none⟩ = some (.string x) := by
  obtain ⟨b, o, u, e, hb, hx, hc⟩ := Arr.at1 h hk
  have hl := h.len
  rw [List.getElem?_map, List.getElem?_eq_getElem (by omega)] at hx
  simp only [Option.map_some, Option.some.injEq] at hx
  exact ⟨b, o, _, e, hb, List.getElem?_eq_getElem (by omega), by rw [hc, ← hx]⟩

set_option maxRecDepth 100000 in
set_option maxHeartbeats 1000000 in
theorem EqStrs_any (w : World) (G1 G2 : Nat → Prop) (A B : Option Addr) (n c m d : Nat) (xs ys : List ByteArray) (hx : Strs w G1 A n xs) (hy : Strs w G2 B m ys) (hn : n ≤ 9223372036854775807) :
    Calls Try.prog 92 #[.slice A n c, .slice B m d] w fun e w' => e = .returned (.bool (decide (xs = ys))) ∧ ∃ q, w' = w.drewN q := by
  have hxl := hx.len
  have hyl := hy.len
  by_cases hnm : n = m
  · subst hnm
    have Hxl := Lib.hid hxl
    have Hyl := Lib.hid hyl
    clear hxl hyl
    go_enter Try.func92, Try.ntmps92
    go_wp2
    go_loopw [13] (fun i wr => ∃ k q : Nat, k ≤ n ∧ i = .int .i64 k ∧ xs.take k = ys.take k ∧ wr = w.drewN q) (fun i _ => n - (intOf i).toNat)
    case atStart => exact ⟨0, 0, by omega, rfl, rfl, rfl⟩
    case round =>
      obtain ⟨k, q, hk, rfl, hpre, hwr⟩ := hrel
      have hxr : Strs wr G1 A n xs := by rw [hwr]; exact hx
      have hyr : Strs wr G2 B n ys := by rw [hwr]; exact hy
      have Hwr := Lib.hid hwr
      clear hwr
      have Hpre := Lib.hid hpre
      clear hpre
      by_cases hkn : k < n
      · obtain ⟨b1, o1, x, rfl, _, gx, hc1⟩ := hxr.at_ hkn
        obtain ⟨b2, o2, y, rfl, _, gy, hc2⟩ := hyr.at_ hkn
        have Hex := Lib.hid (take_snoc_of gx)
        have Hey := Lib.hid (take_snoc_of gy)
        have Hne := Lib.hid (ne_of_at gx gy)
        clear gx gy
        by_cases hxy : x = y
        · subst hxy
          go_wp2
          go_quiet (fail)
          go_wp2
          go_roundw
          case rel => exact ⟨k + 1, _, by omega, by go_num, by rw [Hex.out, Hey.out, Hpre.out], by rw [Hwr.out, World.drewN_drewN]⟩
          case measure => simp [intOf]; omega
        · have hne := Lib.hid (decide_eq_false (Hne.out hxy))
          have hb := bs_ne hxy
          clear hxy
          go_wp2
          go_quiet (fail)
          go_wp2
          go_ret
          exact ⟨ret_bool hne.out.symm, _, by rw [Hwr.out, World.drewN_drewN]⟩
      · have hke : k = n := by omega
        subst hke
        have he : Hid (decide (xs = ys) = true) := by
          show _ = _
          have := Hpre.out
          rw [List.take_of_length_le (by rw [Hxl.out]; exact Nat.le_refl _), List.take_of_length_le (by rw [Hyl.out]; exact Nat.le_refl _)] at this
          simpa using this
        go_wp2
        go_ret
        exact ⟨ret_bool he.out.symm, _, Hwr.out⟩
  · have hne : Hid (decide (xs = ys) = false) := by
      show _ = _
      rw [decide_eq_false_iff_not]
      rintro rfl
      exact hnm (hxl.symm.trans hyl)
    clear hxl hyl
    have hb : ((n : Int) != (m : Int)) = true := by simp; omega
    clear hnm
    go_enter Try.func92, Try.ntmps92
    go_wp2
    go_ret
    exact ⟨ret_bool hne.out.symm, 0, rfl⟩

set_option maxRecDepth 100000 in
set_option maxHeartbeats 1000000 in
theorem SameNames_any (w : World) (G1 G2 : Nat → Prop) (A B : Option Addr) (n c m d : Nat) (xs ys : List ByteArray) (hx : Strs w G1 A n xs) (hy : Strs w G2 B m ys) (hn : n ≤ 9223372036854775807) :
    Calls Try.prog 93 #[.slice A n c, .slice B m d] w fun e w' => e = .returned (.bool (decide (xs = ys))) ∧ ∃ q, w' = w.drewN q := by
  have hxl := hx.len
  have hyl := hy.len
  by_cases hnm : n = m
  · subst hnm
    have Hxl := Lib.hid hxl
    have Hyl := Lib.hid hyl
    clear hxl hyl
    go_enter Try.func93, Try.ntmps93
    go_wp2
    go_loopw [13] (fun i wr => ∃ k q : Nat, k ≤ n ∧ i = .int .i64 k ∧ xs.take k = ys.take k ∧ wr = w.drewN q) (fun i _ => n - (intOf i).toNat)
    case atStart => exact ⟨0, 0, by omega, rfl, rfl, rfl⟩
    case round =>
      obtain ⟨k, q, hk, rfl, hpre, hwr⟩ := hrel
      have hxr : Strs wr G1 A n xs := by rw [hwr]; exact hx
      have hyr : Strs wr G2 B n ys := by rw [hwr]; exact hy
      have Hwr := Lib.hid hwr
      clear hwr
      have Hpre := Lib.hid hpre
      clear hpre
      by_cases hkn : k < n
      · obtain ⟨b1, o1, x, rfl, _, gx, hc1⟩ := hxr.at_ hkn
        obtain ⟨b2, o2, y, rfl, _, gy, hc2⟩ := hyr.at_ hkn
        have Hex := Lib.hid (take_snoc_of gx)
        have Hey := Lib.hid (take_snoc_of gy)
        have Hne := Lib.hid (ne_of_at gx gy)
        clear gx gy
        by_cases hxy : x = y
        · subst hxy
          go_wp2
          go_quiet (fail)
          go_wp2
          go_roundw
          case rel => exact ⟨k + 1, _, by omega, by go_num, by rw [Hex.out, Hey.out, Hpre.out], by rw [Hwr.out, World.drewN_drewN]⟩
          case measure => simp [intOf]; omega
        · have hne := Lib.hid (decide_eq_false (Hne.out hxy))
          have hb := bs_ne hxy
          clear hxy
          go_wp2
          go_quiet (fail)
          go_wp2
          go_ret
          exact ⟨ret_bool hne.out.symm, _, by rw [Hwr.out, World.drewN_drewN]⟩
      · have hke : k = n := by omega
        subst hke
        have he : Hid (decide (xs = ys) = true) := by
          show _ = _
          have := Hpre.out
          rw [List.take_of_length_le (by rw [Hxl.out]; exact Nat.le_refl _), List.take_of_length_le (by rw [Hyl.out]; exact Nat.le_refl _)] at this
          simpa using this
        go_wp2
        go_ret
        exact ⟨ret_bool he.out.symm, _, Hwr.out⟩
  · have hne : Hid (decide (xs = ys) = false) := by
      show _ = _
      rw [decide_eq_false_iff_not]
      rintro rfl
      exact hnm (hxl.symm.trans hyl)
    clear hxl hyl
    have hb : ((n : Int) != (m : Int)) = true := by simp; omega
    clear hnm
    go_enter Try.func93, Try.ntmps93
    go_wp2
    go_ret
    exact ⟨ret_bool hne.out.symm, 0, rfl⟩

end Go.Proofs.Ytnkfchondedfcaa
