/-
  The statement CodecOnce: a number that is read is written as it stood.
-/
import Derived.Test.YtnkfchondedfcaaCr
import Derived.Test.YtnkfchondedfcaaCw
import Derived.Test.YtnkfchondedfcaaCq
namespace Go.Proofs.Ytnkfchondedfcaa
open Go.RowKit

set_option maxRecDepth 100000 in
set_option maxHeartbeats 1000000 in
theorem awake08 (w : World) : Calls Try.prog 26 #[] w fun e w' => e = .returned (.bool true) ∧ Fr NoB w w' := by
  go_enter Try.func26, Try.ntmps26
  go_wp2_with fail
  refine (WN_any _ (fun k => k = w.heap.size) (fun k => k = w.heap.size + 1) _ [] _ 1 1 [300] ((WrAt.new w).fr ((Fr.refl NoB _).alloc _) (fun _ _ _ h => h)) ?_ (by omega) (by simp) (by simp)).mono ?_
  · have := Arr.one (w.alloc (.cells #[.slice none 0 0] 50)) (u64v 300) 23
    simpa [u64v] using this
  rintro e w1 ⟨rfl, hf1, hW1⟩
  rw [encN_300] at hW1
  go_wp2_with fail
  refine (WBytes_any _ _ _ _ hW1 (by simp)).mono ?_
  rintro e w2 ⟨A2, c2, rfl, hf2, hO2, hA2⟩
  go_wp2_with fail
  refine (Read_any _ _ _ _ _ [128, 0] (Byt.new w2 5 [128, 0] #[.int .u8 128, .int .u8 0] rfl) (by simp)).mono ?_
  rintro e w3 ⟨b3, rfl, hf3, hR3⟩
  have hb2 : Byt w2 (fun _ => True) A2 2 [172, 2] := hO2.arr fun _ _ _ => trivial
  have hb3 : Byt w3 (fun _ => True) A2 2 [172, 2] := (hb2.alloc _).fr hf3 fun _ _ h => h
  obtain ⟨g, o, rfl, _, hc0⟩ := hb3.at_ (k := 0) (by omega)
  obtain ⟨g', o', hg', _, hc1⟩ := hb3.at_ (k := 1) (by omega)
  simp at hg'
  obtain ⟨rfl, rfl⟩ := hg'
  simp at hc0 hc1
  go_wp2_with fail
  refine (RN_any _ _ _ _ 500 hR3).mono ?_
  rw [rd_awake]
  rintro e w4 ⟨rfl, hf4, hR4⟩
  go_wp2_with fail
  refine (REnd_any _ _ _ _ hR4).mono ?_
  rintro e w5 ⟨rfl, rfl⟩
  go_wp2
  go_ret
  refine ⟨rfl, ?_⟩
  have s1 := hf1.size
  have s2 := hf2.size
  have s3 := hR3.1
  simp at s1 s3
  exact ((((((Fr.refl NoB w).alloc _).alloc _).new hf1 fun j h => .inr (by omega)).new hf2 fun j h => h.elim).alloc _).new hf3 (fun j h => h.elim) |>.new hf4 fun j h => .inr (by omega)

set_option maxRecDepth 100000 in
set_option maxHeartbeats 1000000 in
theorem CodecOnce_any (w : World) (A : Option Addr) (n c : Nat) (l : List UInt8) (h : Byt w (fun k => k < w.heap.size) A n l) :
    Calls Try.prog 5 #[.slice A n c] w fun e w' => e = .returned (.bool true) ∧ Below w.heap.size w w' := by
  have hlen := h.len
  subst hlen
  by_cases h100 : 100 < l.length
  · go_enter Try.func5, Try.ntmps5
    go_wp2_with (go_at_call 26; refine (awake08 _).mono ?_; rintro e w1 ⟨rfl, hf1⟩)
    go_ret
    exact ⟨rfl, hf1.below (Nat.le_refl _) fun _ _ => id⟩
  · have Hplain := Lib.hid (once_plain l 18446744073709551615)
    go_enter Try.func5, Try.ntmps5
    go_wp2_with (go_at_call 26; refine (awake08 _).mono ?_; rintro e w1 ⟨rfl, hf1⟩)
    have h1 := h.fr hf1 fun _ _ h => h
    refine (Read_any _ _ _ _ _ l h1 (by omega)).mono ?_
    rintro e w2 ⟨b2, rfl, hf2, hR2⟩
    have h2 := h1.fr hf2 fun _ _ h => h
    go_wp2_with fail
    refine (RN_any _ _ _ _ 18446744073709551615 hR2).mono ?_
    rintro e w3 ⟨rfl, hf3, hR3⟩
    have s1 := hf1.size
    have s2 := hR2.1
    have h3 := h2.fr hf3 fun k hk e => by omega
    go_wp2_with fail
    refine (REnd_any _ _ _ _ hR3).mono ?_
    rintro e w4 ⟨rfl, rfl⟩
    by_cases hend : (Rd.N ⟨l, true⟩ 18446744073709551615).2.End = 0
    · obtain ⟨Hl, hlt⟩ := Hplain.out hend
      generalize (Rd.N ⟨l, true⟩ 18446744073709551615).1 = v at *
      generalize (Rd.N ⟨l, true⟩ 18446744073709551615).2.End = en at *
      go_wp2_with fail
      refine (WN_any _ (fun k => k = w3.heap.size) (fun k => k = w3.heap.size + 1) _ [] _ 1 1 [v] ((WrAt.new w3).fr ((Fr.refl NoB _).alloc _) (fun _ _ _ h => h)) ?_ (by omega) (by simpa using hlt) (by simp)).mono ?_
      · have := Arr.one (w3.alloc (.cells #[.slice none 0 0] 50)) (u64v v) 23
        simpa [u64v] using this
      rintro e w5 ⟨rfl, hf5, hW5⟩
      simp only [List.flatMap_cons, List.flatMap_nil, List.append_nil, List.nil_append] at hW5
      rw [Hl] at hW5
      have h5 := ((h3.alloc _).alloc _).fr hf5 fun k hk e => by have := hf2.size; have := hf3.size; omega
      have s3 := hf2.size
      have s4 := hf3.size
      have s5 := hf5.size
      simp at s5
      have hF : Fr NoB w w5 := (((hf1.new hf2 fun j h => h.elim).new hf3 (fun j h => .inr (by omega))).alloc _).alloc _ |>.new hf5 fun j h => .inr (by omega)
      have Hend := Lib.hid hend
      have Hl' := Lib.hid Hl
      clear hend Hl
      go_wp2_with fail
      have hW5' := hW5.fr ((Fr.refl NoB w5).drew) fun _ _ _ => id
      have h5' := h5.fr ((Fr.refl NoB w5).drew) fun _ _ => id
      have hbytes := Lib.hid (WBytes_any w5.drew _ _ l hW5' (by omega))
      have hc5 := h5'.str (P := Try.prog) Try.underlying22 Try.underlying5 Try.underlying9 c
      go_region_with (go_at_call 31; refine hbytes.out.mono ?_; rintro e w6 ⟨A6, c6, rfl, hf6, hO6, hA6⟩; have hc6 := (h5'.fr hf6 fun _ _ => id).str (P := Try.prog) Try.underlying22 Try.underlying5 Try.underlying9 c; have hd6 := Byt.str (F := fun _ => True) (hO6.arr fun _ _ _ => trivial) (P := Try.prog) Try.underlying22 Try.underlying5 Try.underlying9 c6)
      all_goals go_wp2
      all_goals go_ret
      all_goals
        refine ⟨by simp [Act.put], Fr.below ((hF.drew).new hf6 fun _ h => h.elim) (Nat.le_refl _) fun _ _ => id⟩
    · generalize (Rd.N ⟨l, true⟩ 18446744073709551615).2.End = en at *
      generalize (Rd.N ⟨l, true⟩ 18446744073709551615).1 = v at *
      go_wp2
      go_ret
      refine ⟨rfl, Fr.below ((hf1.new hf2 fun j h => h.elim).new hf3 (fun j h => .inr (by have := hf2.size; omega))) (Nat.le_refl _) fun _ _ => id⟩
end Go.Proofs.Ytnkfchondedfcaa
