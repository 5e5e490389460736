/-
  A writer of a call's own: what it does with bytes, numbers and one text, said so that the steps follow each other. Conditions: each contract states its own.
-/
import Derived.Test.YtnkfchondedfcaaRw
import Derived.Test.YtnkfchondedfcaaSt
import Derived.Test.YtnkfchondedfcaaRg
namespace Go.Proofs.Ytnkfchondedfcaa
open Go.RowKit

theorem wr_raw {w : World} {B b : Nat} {G : Nat → Prop} {l x : List UInt8} {A : Option Addr} {m c : Nat} (hW : WrAt w (fun j => B ≤ j) b l) (hr : Byt w G A m x) (hB : B ≤ w.heap.size) (hroom : l.length + m ≤ 70368744177664) :
    Calls Try.prog 45 #[.pointer (some ⟨b, 0, none⟩), .slice A m c] w fun e w' => e = .returned (.tuple #[]) ∧ Fr (fun j => B ≤ j) w w' ∧ WrAt w' (fun j => B ≤ j) b (l ++ x) :=
  (WRaw_any w _ G b l x A m c hW hr hroom).mono fun _ _ ⟨h1, h2, h3⟩ => ⟨h1, h2, h3.more fun _ hj => hj.elim id fun h => Nat.le_trans hB h⟩

theorem wr_n {w : World} {B b K : Nat} {l : List UInt8} {A : Option Addr} {m c : Nat} {ns : List Nat} (hW : WrAt w (fun j => B ≤ j ∧ j < K) b l) (hr : Arr w (fun k => K ≤ k) 1 A m (ns.map u64v)) (hB : B ≤ w.heap.size) (hns : ∀ x ∈ ns, x < 18446744073709551616) (hroom : l.length + 10 * m ≤ 70368744177664) :
    Calls Try.prog 30 #[.pointer (some ⟨b, 0, none⟩), .slice A m c] w fun e w' => e = .returned (.tuple #[]) ∧ Fr (fun j => B ≤ j) w w' ∧ WrAt w' (fun j => B ≤ j) b (l ++ ns.flatMap encN) :=
  (WN_any w _ _ b l A m c ns hW hr (fun k h1 h2 => by omega) hns hroom).mono fun _ _ ⟨h1, h2, h3⟩ => ⟨h1, h2.mono fun _ _ h => h.1, h3.more fun _ hj => hj.elim (·.1) fun h => Nat.le_trans hB h⟩

theorem wr_text {w : World} {B b K t : Nat} {l x : List UInt8} {A : Option Addr} {n c : Nat} (hW : WrAt w (fun j => B ≤ j ∧ j < K) b l) (hb : Byt w (fun k => k < B ∨ K ≤ k) A n x) (h1 : n ≤ c) (h2 : c ≤ maxLen) (hB : B ≤ w.heap.size) (hK : K ≤ w.heap.size) (hroom : l.length + n + 30 ≤ 70368744177664) :
    Calls Try.prog 46 #[.pointer (some ⟨b, 0, none⟩), .slice (some ⟨w.heap.size, 0, none⟩) 1 1] (w.alloc (.cells #[.slice A n c] t)) fun e w' => e = .returned (.tuple #[]) ∧ Fr (fun j => B ≤ j) w w' ∧ WrAt w' (fun j => B ≤ j) b (l ++ textBytes x) := by
  have hx := hb.len
  have ht : (textBytes x).length ≤ n + 10 := by
    have := encN_len64 (n := x.length) (by omega)
    simp only [textBytes, List.length_append]
    omega
  have hA := ArrOf.one_bytes (G := fun k => (k < B ∨ K ≤ k) ∧ k < w.heap.size + 1) hb h1 h2 t (fun k hk h => ⟨h, by omega⟩) ⟨.inr hK, by omega⟩
  refine (WText_any _ (fun j => B ≤ j ∧ j < K) _ b l _ 1 1 [x] (hW.fr ((Fr.refl NoB w).alloc _) fun _ _ _ => id) hA (fun k h1 h2 => by omega) (fun k h => by simp only [World.size_alloc]; exact h.2) (by simp only [List.flatMap_cons, List.flatMap_nil, List.append_nil]; omega) (by omega)).mono ?_
  rintro e w' ⟨q1, q2, q3⟩
  simp only [List.flatMap_cons, List.flatMap_nil, List.append_nil, World.size_alloc] at q3
  exact ⟨q1, ((Fr.refl (fun j => B ≤ j) w).alloc _).trans q2 fun _ _ h => h.1, q3.more fun j hj => by omega⟩

theorem wr_bytes {w : World} {B b : Nat} {l : List UInt8} (hW : WrAt w (fun j => B ≤ j) b l) (hroom : l.length ≤ 70368744177664) :
    Calls Try.prog 31 #[.pointer (some ⟨b, 0, none⟩)] w fun e w' => NewBytes w w' e l :=
  (WBytes_any w _ b l hW hroom).mono fun _ _ ⟨A, c, h1, h2, h3, h4⟩ => ⟨A, c, h1, h2, h3, h4⟩

/-- Bytes and an error's number are handed back. -/
def NewBytes2 (k : IntKind) (w w' : World) (e : Ending) (l : List UInt8) (bad : Int) : Prop :=
  ∃ A c, e = .returned (.tuple #[.slice A l.length c, .int k bad]) ∧ Fr NoB w w' ∧ Own w' 5 1 A l.length c (l.map bv) ∧ ∀ j, inB A j → w.heap.size ≤ j
theorem NewBytes2.none_ {k : IntKind} {w w' : World} {bad : Int} (h : Fr NoB w w') : NewBytes2 k w w' (.returned (.tuple #[.slice none 0 0, .int k bad])) [] bad :=
  ⟨none, 0, rfl, h, Own.nil _ _ _, fun j hj => absurd hj (inB_none j)⟩
/-- Numbers just laid. -/
theorem Arr.nums (w : World) (t : TypeId) (ns : List Nat) (cs : Array Value) (K : Nat) (hK : K ≤ w.heap.size) (h : cs.toList = ns.map u64v) (m : Nat) (hm : ns.length = m) : Arr (w.alloc (.cells cs t)) (fun k => K ≤ k) 1 (some ⟨w.heap.size, 0, none⟩) m (ns.map u64v) := by
  rw [← h]
  have hs : cs.size = m * 1 := by
    have := congrArg List.length h
    simp at this; omega
  exact (Arr.new w t cs m 1 hs).more (fun k _ hk => by omega) (by omega)
end Go.Proofs.Ytnkfchondedfcaa
