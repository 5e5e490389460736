/-
  Seals held against each other: slices.Equal at ints, the closure of leak.Same, slices.EqualFunc, leak.Same. Conditions: each contract states its own.
-/
import Derived.Test.YtnkfchondedfcaaRows
import Derived.Test.YtnkfchondedfcaaWi
import Derived.Test.YtnkfchondedfcaaCy
namespace Go.Proofs.Ytnkfchondedfcaa
open Go.RowKit

/-- Whole numbers that lie in a row. -/
def Ints (w : World) (F : Nat → Prop) (A : Option Addr) (n : Nat) (l : List Int) : Prop := Arr w F 1 A n (l.map (Value.int .i64))
theorem Ints.len {w : World} {F : Nat → Prop} {A : Option Addr} {n : Nat} {l : List Int} (h : Ints w F A n l) : l.length = n := by have := h.1; simpa using this
theorem Ints.at_ {w : World} {F : Nat → Prop} {A : Option Addr} {n : Nat} {l : List Int} (h : Ints w F A n l) {k : Nat} (hk : k < n) : ∃ b o x, A = some ⟨b, o, none⟩ ∧ F b ∧ l[k]? = some x ∧ w.cell? ⟨b, o + k, none⟩ = some (.int .i64 x) := by
  obtain ⟨b, o, u, e, hb, hx, hc⟩ := Arr.at1 h hk
  have hl := h.len
  rw [List.getElem?_map, List.getElem?_eq_getElem (by omega)] at hx
  simp only [Option.map_some, Option.some.injEq] at hx
  exact ⟨b, o, _, e, hb, List.getElem?_eq_getElem (by omega), by rw [hc, ← hx]⟩

theorem take_snoc_of {α : Type} {l : List α} {k : Nat} {x : α} (h : l[k]? = some x) : l.take (k + 1) = l.take k ++ [x] := by
  have hk : k < l.length := (List.getElem?_eq_some_iff.1 h).1
  rw [List.take_succ_eq_append_getElem hk]
  rw [List.getElem?_eq_getElem hk] at h
  injection h with h; rw [h]
theorem ne_of_at {α : Type} {xs ys : List α} {k : Nat} {x y : α} (hx : xs[k]? = some x) (hy : ys[k]? = some y) (h : x ≠ y) : xs ≠ ys := by
  rintro rfl
  rw [hx] at hy
  injection hy with hy
  exact h hy

set_option maxRecDepth 100000 in
set_option maxHeartbeats 1000000 in
theorem EqInts_any (w : World) (G1 G2 : Nat → Prop) (A B : Option Addr) (n c m d : Nat) (xs ys : List Int) (hx : Ints w G1 A n xs) (hy : Ints w G2 B m ys) (hn : n ≤ 9223372036854775807) :
    Calls Try.prog 79 #[.slice A n c, .slice B m d] w fun e w' => e = .returned (.bool (decide (xs = ys))) ∧ ∃ q, w' = w.drewN q := by
  have hxl := hx.len
  have hyl := hy.len
  by_cases hnm : n = m
  · subst hnm
    have Hxl := Lib.hid hxl
    have Hyl := Lib.hid hyl
    clear hxl hyl
    go_enter Try.func79, Try.ntmps79
    go_wp2
    go_loopw [13] (fun i wr => ∃ k q : Nat, k ≤ n ∧ i = .int .i64 k ∧ xs.take k = ys.take k ∧ wr = w.drewN q) (fun i _ => n - (intOf i).toNat)
    case atStart => exact ⟨0, 0, by omega, rfl, rfl, rfl⟩
    case round =>
      obtain ⟨k, q, hk, rfl, hpre, hwr⟩ := hrel
      have hxr : Ints wr G1 A n xs := by rw [hwr]; exact hx
      have hyr : Ints wr G2 B n ys := by rw [hwr]; exact hy
      have Hwr := Lib.hid hwr
      clear hwr
      have Hpre := Lib.hid hpre
      clear hpre
      by_cases hkn : k < n
      · obtain ⟨b1, o1, x, rfl, _, gx, hc1⟩ := hxr.at_ hkn
        obtain ⟨b2, o2, y, rfl, _, gy, hc2⟩ := hyr.at_ hkn
        have Hex := Lib.hid (take_snoc_of gx)
        have Hey := Lib.hid (take_snoc_of gy)
        have Hne := Lib.hid (ne_of_at gx gy)
        clear gx gy
        by_cases hxy : x = y
        · subst hxy
          go_wp2
          go_quiet (fail)
          go_wp2
          go_roundw
          case rel => exact ⟨k + 1, _, by omega, by go_num, by rw [Hex.out, Hey.out, Hpre.out], by rw [Hwr.out, World.drewN_drewN]⟩
          case measure => simp [intOf]; omega
        · have hne := Lib.hid (decide_eq_false (Hne.out hxy))
          have hb : (x != y) = true := by simpa using hxy
          clear hxy
          go_wp2
          go_quiet (fail)
          go_wp2
          go_ret
          exact ⟨ret_bool hne.out.symm, _, by rw [Hwr.out, World.drewN_drewN]⟩
      · have hke : k = n := by omega
        subst hke
        have he : Hid (decide (xs = ys) = true) := by
          show _ = _
          have := Hpre.out
          rw [List.take_of_length_le (by rw [Hxl.out]; exact Nat.le_refl _), List.take_of_length_le (by rw [Hyl.out]; exact Nat.le_refl _)] at this
          simpa using this
        go_wp2
        go_ret
        exact ⟨ret_bool he.out.symm, _, Hwr.out⟩
  · have hne : Hid (decide (xs = ys) = false) := by
      show _ = _
      rw [decide_eq_false_iff_not]
      rintro rfl
      exact hnm (hxl.symm.trans hyl)
    clear hxl hyl
    have hb : ((n : Int) != (m : Int)) = true := by simp; omega
    clear hnm
    go_enter Try.func79, Try.ntmps79
    go_wp2
    go_ret
    exact ⟨ret_bool hne.out.symm, 0, rfl⟩

/-- An object as somebody sees it who has not its key. -/
structure Seal where
  number : Int
  kind : Int
  realm : Int
  epoch : Int
  size : Int
  links : List Int
deriving DecidableEq

def SealR (w : World) (F : Nat → Prop) (y : List Value) (s : Seal) : Prop :=
  ∃ A n c, y = [.int .i64 s.number, .int .i64 s.kind, .int .u32 s.realm, .int .u32 s.epoch, .int .i64 s.size, .slice A n c] ∧ n ≤ c ∧ c ≤ maxLen ∧ Ints w F A n s.links
theorem SealR.fr {w w' : World} {F S : Nat → Prop} {y : List Value} {s : Seal} (h : SealR w F y s) (hf : Fr S w w') (hd : ∀ k, F k → ¬ S k) : SealR w' F y s := by
  obtain ⟨A, n, c, h1, h2, h3, h4⟩ := h
  exact ⟨A, n, c, h1, h2, h3, Arr.fr h4 hf hd⟩
def Seals (w : World) (F : Nat → Prop) (A : Option Addr) (n : Nat) (l : List Seal) : Prop := ArrOf (SealR w F) w F 6 A n l
theorem Seals.fr {w w' : World} {F S : Nat → Prop} {A : Option Addr} {n : Nat} {l : List Seal} (h : Seals w F A n l) (hf : Fr S w w') (hd : ∀ k, F k → ¬ S k) : Seals w' F A n l :=
  ArrOf.fr h hf hd fun _ _ _ hy => hy.fr hf hd

set_option maxRecDepth 100000 in
set_option maxHeartbeats 2000000 in
theorem sealEq_any (w : World) (F G : Nat → Prop) (xs ys : List Value) (x y : Seal) (hx : SealR w F xs x) (hy : SealR w G ys y) :
    Calls Try.prog 78 #[.agg xs.toArray, .agg ys.toArray] w fun e w' => e = .returned (.bool (decide (x = y))) ∧ Fr NoB w w' := by
  obtain ⟨A, n, c, rfl, hnc, hcm, hl⟩ := hx
  obtain ⟨B, m, d, rfl, hmd, hdm, hl2⟩ := hy
  obtain ⟨x1, x2, x3, x4, x5, x6⟩ := x
  obtain ⟨y1, y2, y3, y4, y5, y6⟩ := y
  dsimp only at hl hl2 ⊢
  have hn : n ≤ 9223372036854775807 := by unfold maxLen at hcm; omega
  clear hnc hcm hmd hdm
  by_cases h1 : x1 = y1
  · subst h1
    by_cases h2 : x2 = y2
    · subst h2
      by_cases h3 : x3 = y3
      · subst h3
        by_cases h4 : x4 = y4
        · subst h4
          by_cases h5 : x5 = y5
          · subst h5
            have he : Hid (decide (Seal.mk x1 x2 x3 x4 x5 x6 = Seal.mk x1 x2 x3 x4 x5 y6) = decide (x6 = y6)) := by show _ = _; simp
            go_enter Try.func78, Try.ntmps78
            go_wp2_with (go_at_call 79; refine (EqInts_any _ _ _ _ _ _ _ _ _ _ _ ((hl.alloc _).alloc _) ((hl2.alloc _).alloc _) hn).mono ?_; rintro e w' ⟨rfl, q, rfl⟩)
            go_ret
            exact ⟨ret_bool he.out.symm, ((((Fr.refl NoB w).alloc _).alloc _).drewN _)⟩
          · have hb : (x5 == y5) = false := by simpa using h5
            have he : Hid (decide (Seal.mk x1 x2 x3 x4 x5 x6 = Seal.mk x1 x2 x3 x4 y5 y6) = false) := by show _ = _; simp [h5]
            clear h5
            go_enter Try.func78, Try.ntmps78
            go_wp2
            go_ret
            exact ⟨ret_bool he.out.symm, (((Fr.refl NoB w).alloc _).alloc _)⟩
        · have hb : (x4 == y4) = false := by simpa using h4
          have he : Hid (decide (Seal.mk x1 x2 x3 x4 x5 x6 = Seal.mk x1 x2 x3 y4 y5 y6) = false) := by show _ = _; simp [h4]
          clear h4
          go_enter Try.func78, Try.ntmps78
          go_wp2
          go_ret
          exact ⟨ret_bool he.out.symm, (((Fr.refl NoB w).alloc _).alloc _)⟩
      · have hb : (x3 == y3) = false := by simpa using h3
        have he : Hid (decide (Seal.mk x1 x2 x3 x4 x5 x6 = Seal.mk x1 x2 y3 y4 y5 y6) = false) := by show _ = _; simp [h3]
        clear h3
        go_enter Try.func78, Try.ntmps78
        go_wp2
        go_ret
        exact ⟨ret_bool he.out.symm, (((Fr.refl NoB w).alloc _).alloc _)⟩
    · have hb : (x2 == y2) = false := by simpa using h2
      have he : Hid (decide (Seal.mk x1 x2 x3 x4 x5 x6 = Seal.mk x1 y2 y3 y4 y5 y6) = false) := by show _ = _; simp [h2]
      clear h2
      go_enter Try.func78, Try.ntmps78
      go_wp2
      go_ret
      exact ⟨ret_bool he.out.symm, (((Fr.refl NoB w).alloc _).alloc _)⟩
  · have hb : (x1 == y1) = false := by simpa using h1
    have he : Hid (decide (Seal.mk x1 x2 x3 x4 x5 x6 = Seal.mk y1 y2 y3 y4 y5 y6) = false) := by show _ = _; simp [h1]
    clear h1
    go_enter Try.func78, Try.ntmps78
    go_wp2
    go_ret
    exact ⟨ret_bool he.out.symm, (((Fr.refl NoB w).alloc _).alloc _)⟩
end Go.Proofs.Ytnkfchondedfcaa
