/-
  The statement CodecWrites: whatever is written is written as the document says (the walk). Conditions: none but that the parts can be read.
-/
import Derived.Test.YtnkfchondedfcaaDb
import Derived.Test.YtnkfchondedfcaaCo
namespace Go.Proofs.Ytnkfchondedfcaa
open Go.RowKit

theorem Parts.more {w : World} {F F' : Nat → Prop} {A : Option Addr} {n : Nat} {l : List Part} (h : Parts w F A n l) (hF : ∀ k, k < w.heap.size → F k → F' k) : Parts w F' A n l :=
  ArrOf.more h (by omega) hF fun y a _ ⟨AB, nB, cB, AI, nI, cI, h1, h2, h3, h4, h5, h6, h7, h8⟩ => ⟨AB, nB, cB, AI, nI, cI, h1, h2, h3, h4.more hF, h5, h6, h7.more (by omega) hF fun y a _ hy => hy, h8⟩
theorem Parts.to {w w' : World} {A : Option Addr} {n : Nat} {l : List Part} (h : Parts w (fun k => k < w.heap.size) A n l) (hf : Fr NoB w w') : Parts w' (fun k => k < w'.heap.size) A n l :=
  (h.fr hf fun _ _ => id).more fun _ hk _ => hk

/-- New bytes as a string, in that world and in every later one. -/
theorem NewBytes.str {w' w'' : World} {A : Option Addr} {c : Nat} {l : List UInt8} (hO : Own w' 5 1 A l.length c (l.map bv)) (hf : Fr NoB w' w'') :
    (convert 22 9 (.slice A l.length c)).run Try.prog w'' = .ok (.string ⟨l.toArray⟩) w'' :=
  Byt.str (F := fun _ => True) ((hO.fr hf fun _ _ => id).arr fun _ _ _ => trivial) Try.underlying22 Try.underlying5 Try.underlying9 c

set_option maxRecDepth 100000 in
set_option maxHeartbeats 2000000 in
theorem CodecWrites_any (w : World) (A : Option Addr) (n c : Nat) (l : List Part) (h : Parts w (fun k => k < w.heap.size) A n l) (hn : n ≤ 9223372036854775807) :
    Calls Try.prog 6 #[.slice A n c] w fun e w' => e = .returned (.bool true) ∧ Below w.heap.size w w' := by
  cases hfew : fewB l with
  | false =>
    have Hfew := Lib.hid hfew
    clear hfew
    go_enter Try.func6, Try.ntmps6
    go_wp2_with (go_at_call 26; refine (awake08 _).mono ?_; rintro e w1 ⟨rfl, hf1⟩)
    have h1 := h.to (hf1.drew)
    have hc := Lib.hid (few_any w1.drew _ _ c _ h1 hn)
    first
      | go_region_with (go_at_call 32; refine hc.out.mono ?_; rintro e w2 ⟨rfl, hf2⟩; rw [Hfew.out])
      | skip
    all_goals go_wp2
    all_goals go_ret
    all_goals exact ⟨by simp [Act.put], Fr.below ((hf1.drew).new hf2 fun _ h => h.elim) (Nat.le_refl _) fun _ _ => id⟩
  | true =>
    have Hfew := Lib.hid hfew
    clear hfew
    go_enter Try.func6, Try.ntmps6
    go_wp2_with (go_at_call 26; refine (awake08 _).mono ?_; rintro e w1 ⟨rfl, hf1⟩)
    have h1 := h.to (hf1.drew)
    have hc := Lib.hid (few_any w1.drew _ _ c _ h1 hn)
    go_region_with (first
      | (go_at_call 32; refine hc.out.mono ?_; rintro e w2 ⟨rfl, hf2⟩; rw [Hfew.out])
      | (go_at_call 33; refine (wrote_any _ _ _ c l (by first | exact h1.to hf2 | exact (h1.to hf2).to hf3) Hfew.out).mono ?_; rintro e w4 ⟨A4, c4, rfl, hf4, hO4, hA4⟩; have hs4 := NewBytes.str hO4 (Fr.refl NoB w4); try have hs3' := NewBytes.str hO3 hf4)
      | (go_at_call 34; refine (written_any _ _ _ c l (by first | exact h1.to hf2 | exact (h1.to hf2).to hf4) Hfew.out).mono ?_; rintro e w3 ⟨A3, c3, rfl, hf3, hO3, hA3⟩; have hs3 := NewBytes.str hO3 (Fr.refl NoB w3); try have hs4' := NewBytes.str hO4 hf3))
    all_goals go_wp2
    all_goals go_ret
    all_goals
      refine ⟨by simp [Act.put], ?_⟩
      first
        | exact Fr.below ((((hf1.drew).new hf2 fun _ h => h.elim).new hf3 fun _ h => h.elim).new hf4 fun _ h => h.elim) (Nat.le_refl _) fun _ _ => id
        | exact Fr.below ((((hf1.drew).new hf2 fun _ h => h.elim).new hf4 fun _ h => h.elim).new hf3 fun _ h => h.elim) (Nat.le_refl _) fun _ _ => id
end Go.Proofs.Ytnkfchondedfcaa
