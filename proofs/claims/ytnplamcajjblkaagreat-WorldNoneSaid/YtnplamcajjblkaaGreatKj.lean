/-
  Equality of bytes (vec.Equal). Conditions: the contract states its own.
-/
import Derived.Test.YtnplamcajjblkaaGreatKi
namespace Go.Proofs.YtnplamcajjblkaaGreat
open Go.RowKit

theorem bits_or_u8 (x y : Nat) (hx : x < 256) (hy : y < 256) : bits .or .u8 (x : Int) (y : Int) = ((x ||| y : Nat) : Int) := by
  have h : x ||| y < 256 := Nat.or_lt_two_pow (n := 8) hx hy
  have e1 : (BitVec.ofInt IntKind.u8.bits (x : Int)) = BitVec.ofNat 8 x := by show BitVec.ofInt 8 (x : Int) = _; exact BitVec.ofInt_natCast 8 x
  have e2 : (BitVec.ofInt IntKind.u8.bits (y : Int)) = BitVec.ofNat 8 y := by show BitVec.ofInt 8 (y : Int) = _; exact BitVec.ofInt_natCast 8 y
  unfold bits
  simp only
  rw [e1, e2, IntKind.wrap_u8]
  show (((BitVec.ofNat 8 x ||| BitVec.ofNat 8 y).toNat : Nat) : Int) % 256 = _
  rw [BitVec.toNat_or, BitVec.toNat_ofNat, BitVec.toNat_ofNat, Nat.mod_eq_of_lt (by omega), Nat.mod_eq_of_lt (by omega)]
  omega
theorem bits_xor_u8 (x y : Nat) (hx : x < 256) (hy : y < 256) : bits .xor .u8 (x : Int) (y : Int) = ((x ^^^ y : Nat) : Int) := by
  have h : x ^^^ y < 256 := Nat.xor_lt_two_pow (n := 8) hx hy
  have e1 : (BitVec.ofInt IntKind.u8.bits (x : Int)) = BitVec.ofNat 8 x := by show BitVec.ofInt 8 (x : Int) = _; exact BitVec.ofInt_natCast 8 x
  have e2 : (BitVec.ofInt IntKind.u8.bits (y : Int)) = BitVec.ofNat 8 y := by show BitVec.ofInt 8 (y : Int) = _; exact BitVec.ofInt_natCast 8 y
  unfold bits
  simp only
  rw [e1, e2, IntKind.wrap_u8]
  show (((BitVec.ofNat 8 x ^^^ BitVec.ofNat 8 y).toNat : Nat) : Int) % 256 = _
  rw [BitVec.toNat_xor, BitVec.toNat_ofNat, BitVec.toNat_ofNat, Nat.mod_eq_of_lt (by omega), Nat.mod_eq_of_lt (by omega)]
  omega
theorem xor_zero_iff (x y : Nat) : x ^^^ y = 0 ↔ x = y := by
  constructor
  · intro h
    have e : (x ^^^ y) ^^^ y = x := by rw [Nat.xor_assoc, Nat.xor_self, Nat.xor_zero]
    rw [h, Nat.zero_xor] at e
    exact e.symm
  · rintro rfl
    exact Nat.xor_self _
theorem unlike_step {u : Nat} {a b : List UInt8} {k : Nat} {x y : UInt8} (hx : a[k]? = some x) (hy : b[k]? = some y) (h : u = 0 ↔ a.take k = b.take k) :
    (u ||| (x.toNat ^^^ y.toNat)) = 0 ↔ a.take (k + 1) = b.take (k + 1) := by
  rw [Nat.or_eq_zero_iff, xor_zero_iff, h, take_snocK hx, take_snocK hy]
  constructor
  · rintro ⟨h1, h2⟩
    rw [h1, UInt8.toNat_inj.1 h2]
  · intro h3
    have hl : (a.take k).length = (b.take k).length := by
      have h1 := (List.getElem?_eq_some_iff.1 hx).1
      have h2 := (List.getElem?_eq_some_iff.1 hy).1
      rw [List.length_take, List.length_take]
      omega
    have h4 := List.append_inj h3 hl
    refine ⟨h4.1, ?_⟩
    have h5 := h4.2
    injection h5 with h5
    rw [h5]

set_option maxRecDepth 100000 in
set_option maxHeartbeats 2000000 in
theorem vecEqual_any (w : World) (F G : Nat → Prop) (A B : Option Addr) (n c m d : Nat) (a b : List UInt8) (ha : Byt w F A n a) (hb : Byt w G B m b) (hn : n ≤ 1000000) (hm : m ≤ 1000000) :
    Calls Tryz.prog 159 #[.slice A n c, .slice B m d] w fun e w' => e = .returned (.bool (decide (a = b))) ∧ w' = w := by
  have hal := ha.len
  have hbl := hb.len
  by_cases hnm : n = m
  · subst hnm
    have Hal := Lib.hid hal
    have Hbl := Lib.hid hbl
    clear hal hbl
    have b1 : decide ((n : Int) = (n : Int)) = true := by simp
    go_enter Tryz.func159, Tryz.ntmps159
    go_wp2
    go_loopw [15, 5] (fun v v5 wr => ∃ k u : Nat, k ≤ n ∧ v = .int .i64 k ∧ v5 = .int .u8 u ∧ u < 256 ∧ (u = 0 ↔ a.take k = b.take k) ∧ wr = w) (fun v _ _ => n - (intOf v).toNat)
    case atStart => exact ⟨0, 0, by omega, rfl, rfl, by omega, by simp, rfl⟩
    case round =>
      obtain ⟨k, u, hk, rfl, rfl, hu, hU, rfl⟩ := hrel
      by_cases hkn : k < n
      · obtain ⟨g, o, y, x, rfl, _, hc, hyx, hy, hxj, _⟩ := ha.get hkn
        obtain ⟨g2, o2, y2, x2, rfl, _, hc2, hyx2, hy2, hxj2, _⟩ := hb.get hkn
        have hst := unlike_step hxj hxj2 hU
        rw [← hyx, ← hyx2] at hst
        have e1 := bits_xor_u8 y y2 hy hy2
        have hx8 : y ^^^ y2 < 256 := Nat.xor_lt_two_pow (n := 8) hy hy2
        obtain ⟨z, hz⟩ : ∃ z, z = y ^^^ y2 := ⟨_, rfl⟩
        rw [← hz] at hst e1 hx8
        have e2 := bits_or_u8 u z hu hx8
        have ho8 : u ||| z < 256 := Nat.or_lt_two_pow (n := 8) hu hx8
        obtain ⟨v, hv⟩ : ∃ v, v = u ||| z := ⟨_, rfl⟩
        rw [← hv] at hst e2 ho8
        have Hst := Lib.hid hst
        clear hst hv hz hyx hyx2 hxj hxj2 hU
        go_wp2
        go_roundw
        case rel => exact ⟨k + 1, v, by omega, by go_num, rfl, ho8, Hst.out, trivial⟩
        case measure => (simp [intOf] <;> omega)
      · obtain rfl : k = n := by omega
        rw [List.take_of_length_le (by rw [Hal.out]; exact Nat.le_refl _), List.take_of_length_le (by rw [Hbl.out]; exact Nat.le_refl _)] at hU
        have hd : ((u : Int) == 0) = decide (a = b) := by
          rw [show ((u : Int) == 0) = decide ((u : Int) = 0) from rfl, decide_eq_decide]
          rw [← hU]
          omega
        go_wp2
        go_ret
        exact ⟨rfl, rfl⟩
  · have hab : a ≠ b := fun h => hnm (by rw [← hal, ← hbl, h])
    have b1 : decide ((n : Int) = (m : Int)) = false := by simp only [decide_eq_false_iff_not]; omega
    have hd : decide (a = b) = false := by simp [hab]
    rw [hd]
    go_enter Tryz.func159, Tryz.ntmps159
    go_wp2
    go_ret
    exact ⟨rfl, rfl⟩
end Go.Proofs.YtnplamcajjblkaaGreat
