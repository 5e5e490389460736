/-
  The statement CodecNone: of a writer and a reader that nobody made nothing comes (the walk). Conditions: none but that the bytes can be read.
-/
import Derived.Test.YtnkfchondedfcaaGa
import Derived.Test.YtnkfchondedfcaaCo
namespace Go.Proofs.Ytnkfchondedfcaa
open Go.RowKit

set_option maxRecDepth 100000 in
set_option maxHeartbeats 4000000 in
theorem CodecNone_any (w : World) (n k : Int) (A : Option Addr) (m c : Nat) (l : List UInt8) (h : Byt w (fun j => j < w.heap.size) A m l) (hm : m ≤ c) (hc : c ≤ maxLen) (h0 : 0 ≤ n) (hn : n < 18446744073709551616) (hk0 : -9223372036854775808 ≤ k) (hk1 : k ≤ 9223372036854775807) :
    Calls Try.prog 9 #[.int .u64 n, .slice A m c, .int .i64 k] w fun e w' => e = .returned (.bool true) ∧ Below w.heap.size w w' := by
  obtain ⟨n, rfl⟩ := Int.eq_ofNat_of_zero_le h0
  have Hn := Lib.hid hn
  have Hk0 := Lib.hid hk0
  have Hk1 := Lib.hid hk1
  have Hm := Lib.hid hm
  have Hc := Lib.hid hc
  clear hm hc hn hk0 hk1 h0
  by_cases h300 : 300 < m
  · have hb : decide ((300 : Int) < (m : Int)) = true := by simp only [decide_eq_true_eq]; omega
    clear h300
    go_enter Try.func9, Try.ntmps9
    go_wp2_with (go_at_call 26; refine (awake08 _).mono ?_; rintro e w1 ⟨rfl, hf1⟩)
    go_ret
    exact ⟨rfl, hf1.below (Nat.le_refl _) fun _ _ => id⟩
  · have hb : decide ((300 : Int) < (m : Int)) = false := by simp only [decide_eq_false_iff_not]; omega
    clear h300
    go_enter Try.func9, Try.ntmps9
    go_wp2_with (go_at_call 26; refine (awake08 _).mono ?_; rintro e w1 ⟨rfl, hf1⟩)
    have h1 := h.fr hf1 fun _ _ => id
    have s1 := hf1.size
    have hT := (WText_nil ((w1.alloc (.cells #[.int .u64 n] 23)).alloc (.cells #[.slice A m c] 22)) (fun _ => True) l _ (ArrOf.one_bytes (h1.alloc (.cells #[.int .u64 n] 23)) Hm.out Hc.out 22 (fun _ _ _ => trivial) trivial))
    simp only [World.size_alloc] at hT
    have HT := Lib.hid hT
    clear hT
    have HF := Lib.hid (hf1.alloc (.cells #[.int .u64 n] 23) |>.alloc (.cells #[.slice A m c] 22))
    clear h1 h hf1
    go_wp2_with (first
      | (go_at_call 30; refine (WN_nil _ _).mono ?_; rintro e w' ⟨rfl, rfl⟩)
      | (go_at_call 45; refine (WRaw_nil _ _).mono ?_; rintro e w' ⟨rfl, rfl⟩))
    go_wp2_with fail
    refine HT.out.mono ?_
    rintro e w2 ⟨rfl, hf2⟩
    have HF2 := Lib.hid (HF.out.new hf2 fun _ h => h.elim)
    clear HF HT hf2 hb s1
    have hz : RdAt (w2.alloc (.cells #[.slice none 0 0, .bool false] 71)) (fun j => j = w2.heap.size) w2.heap.size ⟨[], false⟩ :=
      ⟨rfl, none, 0, 0, Blk.new _ _ _, Nat.le_refl _, by unfold maxLen; omega, Byt.nil _ _ _⟩
    have HF3 := Lib.hid (HF2.out.alloc (.cells #[.slice none 0 0, .bool false] 71))
    have s2 := HF2.out.size
    have Hz := Lib.hid hz
    clear HF2 hz
    go_wp2_with (first
      | (go_at_call 31; refine (WBytes_nil _).mono ?_; rintro e w' ⟨rfl, rfl⟩))
    generalize hw3 : w2.alloc (.cells #[.slice none 0 0, .bool false] 71) = w3 at *
    generalize hzb : w2.heap.size = zb at *
    have hkh1 := Hk0.out
    have hkh2 := Hk1.out
    go_wp2_with (go_at_call 28; refine (RN_nil _ _).mono ?_; rintro e w' ⟨rfl, rfl⟩)
    go_wp2_with (go_at_call 36; refine (RRaw_nil _ _).mono ?_; rintro e w' ⟨rfl, rfl⟩)
    go_wp2_with (go_at_call 38; refine (RText_nil _ _ hkh1 hkh2).mono ?_; rintro e w' ⟨rfl, rfl⟩)
    go_wp2_with fail
    refine (RIds_nil _ _ hkh1 hkh2).mono ?_
    rintro e w4 ⟨rfl, hf4⟩
    have HF4 := Lib.hid (HF3.out.new hf4 fun _ h => h.elim)
    have Hz4 := Lib.hid (Hz.out.fr hf4 fun _ _ => id)
    clear HF3 Hz hf4
    go_wp2_with (go_at_call 43; refine (RRest_nil _).mono ?_; rintro e w' ⟨rfl, rfl⟩)
    go_wp2_with (go_at_call 29; refine (REnd_nil _).mono ?_; rintro e w' ⟨rfl, rfl⟩)
    go_wp2_with fail
    refine (RN_bad _ _ _ _ _ Hz4.out rfl).mono ?_
    rintro e w5 ⟨rfl, hf5, hR5⟩
    go_wp2_with fail
    refine (REnd_any _ _ _ _ hR5).mono ?_
    rintro e w6 ⟨rfl, rfl⟩
    go_wp2
    go_ret
    exact ⟨rfl, Fr.below (HF4.out.new hf5 fun j e => .inr (by omega)) (Nat.le_refl _) fun _ _ => id⟩
end Go.Proofs.Ytnkfchondedfcaa
