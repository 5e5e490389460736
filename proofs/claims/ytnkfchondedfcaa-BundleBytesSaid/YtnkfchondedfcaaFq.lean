/-
  What was written is read again: a reader's contracts there. Conditions: each states its own.
-/
import Derived.Test.YtnkfchondedfcaaFp
import Derived.Test.YtnkfchondedfcaaEc
namespace Go.Proofs.Ytnkfchondedfcaa
open Go.RowKit

theorem BN (w : World) (F : Nat → Prop) (b n : Nat) (rest : List UInt8) (h : RdAt w F b ⟨encN n ++ rest, true⟩) (hn : n < 18446744073709551616) :
    Calls Try.prog 28 #[.pointer (some ⟨b, 0, none⟩), .int .u64 18446744073709551615] w fun e w' => e = .returned (.int .u64 n) ∧ Fr (· = b) w w' ∧ RdAt w' F b ⟨rest, true⟩ := by
  have := RN_any w F b _ 18446744073709551615 h
  rw [RN_encN rest hn (by omega)] at this
  exact this
theorem BRaw (w : World) (F : Nat → Prop) (b n : Nat) (l rest : List UInt8) (h : RdAt w F b ⟨l ++ rest, true⟩) (hn : l.length = n) (hr : (l ++ rest).length ≤ 8000) :
    Calls Try.prog 36 #[.pointer (some ⟨b, 0, none⟩), .int .i64 n] w fun e w' => ∃ A c, e = .returned (.slice A n c) ∧ Fr (· = b) w w' ∧ RdAt w' F b ⟨rest, true⟩ ∧ Byt w' (fun _ => True) A n l := by
  subst hn
  rw [List.length_append] at hr
  have := RRaw_any w F b _ (l.length : Int) h (by omega) (by omega) (by rw [List.length_append]; omega)
  rw [back_raw] at this
  refine this.mono ?_
  rintro e w' ⟨A, c, rfl, h1, h2, h3, _⟩
  exact ⟨A, c, rfl, h1, h2, h3.arr fun _ _ _ => trivial⟩
theorem BText (w : World) (F : Nat → Prop) (b n : Nat) (l rest : List UInt8) (h : RdAt w F b ⟨textBytes l ++ rest, true⟩) (hn : l.length = n) (hl : n ≤ 1000) (hr : (textBytes l ++ rest).length ≤ 8000) :
    Calls Try.prog 38 #[.pointer (some ⟨b, 0, none⟩), .int .i64 1000] w fun e w' => ∃ A c, e = .returned (.slice A n c) ∧ Fr (· = b) w w' ∧ RdAt w' F b ⟨rest, true⟩ ∧ Byt w' (fun _ => True) A n l := by
  subst hn
  have := RText_any w F b _ 1000 h (by omega) (by omega) (Nat.le_trans hr (by omega))
  rw [back_text hl] at this
  refine this.mono ?_
  rintro e w' ⟨A, c, rfl, h1, h2, h3, _⟩
  exact ⟨A, c, rfl, h1, h2, h3.arr fun _ _ _ => trivial⟩
theorem flat_ids (l : List Id32) : l.flatMap idCells = (l.map idCells).flatten := by rw [List.flatMap_def]
theorem BIds (w : World) (F : Nat → Prop) (b n : Nat) (l : List Id32) (rest : List UInt8) (h : RdAt w F b ⟨idsBytes l ++ rest, true⟩) (hn : l.length = n) (hl : n ≤ 100) (hr : (idsBytes l ++ rest).length ≤ 8000) :
    Calls Try.prog 41 #[.pointer (some ⟨b, 0, none⟩), .int .i64 100] w fun e w' => ∃ A c, e = .returned (.slice A n c) ∧ Fr (· = b) w w' ∧ RdAt w' F b ⟨rest, true⟩ ∧ ArrOf IdR w' (fun _ => True) 32 A n l := by
  subst hn
  have := RIds_any w F b _ 100 h (by omega) (Nat.le_trans hr (by omega))
  rw [back_ids hl] at this
  refine this.mono ?_
  rintro e w' ⟨A, c, rfl, h1, h2, h3, _⟩
  refine ⟨A, c, rfl, h1, h2, ?_⟩
  have ha := h3.arr (F := fun _ => True) fun _ _ _ => trivial
  rw [show (l, (⟨rest, true⟩ : Rd)).1.flatMap idCells = (l.map idCells).flatten from flat_ids l] at ha
  exact ArrOf.of_arr ha (by simp only [List.mem_map]; rintro y ⟨x, _, rfl⟩; exact idCells_len x) rfl fun k x hx => ⟨idCells x, by rw [List.getElem?_map, hx]; rfl, rfl⟩
end Go.Proofs.Ytnkfchondedfcaa
