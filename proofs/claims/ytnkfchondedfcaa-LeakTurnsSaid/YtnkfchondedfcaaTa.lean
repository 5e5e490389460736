/-
  A script and its ops, as cells of memory. Conditions: each lemma states its own.
-/
import Derived.Test.YtnkfchondedfcaaJa
import Derived.Test.YtnkfchondedfcaaNa
namespace Go.Proofs.Ytnkfchondedfcaa
open Go.RowKit

structure Opn where
  client : Int
  kind : Int
  branch : ByteArray
  path : ByteArray
  other : ByteArray
  text : ByteArray
  n : Int
deriving DecidableEq
def opCells (o : Opn) : List Value := [.int .u32 o.client, .int .i64 o.kind, .string o.branch, .string o.path, .string o.other, .string o.text, .int .u64 o.n]
theorem opCells_len (o : Opn) : (opCells o).length = 7 := rfl
def opWf (o : Opn) : Prop := o.branch.size ≤ maxLen ∧ o.path.size ≤ maxLen ∧ o.other.size ≤ maxLen ∧ o.text.size ≤ maxLen
def OpnR (y : List Value) (o : Opn) : Prop := y = opCells o ∧ opWf o
def Opns (w : World) (F : Nat → Prop) (A : Option Addr) (n : Nat) (l : List Opn) : Prop := ArrOf OpnR w F 7 A n l
theorem Opns.fr {w w' : World} {F S : Nat → Prop} {A : Option Addr} {n : Nat} {l : List Opn} (h : Opns w F A n l) (hf : Fr S w w') (hd : ∀ k, F k → ¬ S k) : Opns w' F A n l :=
  ArrOf.fr h hf hd fun _ _ _ hy => hy
/-- Two integers: a crash, a fate. -/
def TwoR (y : List Value) (p : Int × Int) : Prop := y = [.int .i64 p.1, .int .i64 p.2]
def Twos (w : World) (F : Nat → Prop) (A : Option Addr) (n : Nat) (l : List (Int × Int)) : Prop := ArrOf TwoR w F 2 A n l
theorem Twos.fr {w w' : World} {F S : Nat → Prop} {A : Option Addr} {n : Nat} {l : List (Int × Int)} (h : Twos w F A n l) (hf : Fr S w w') (hd : ∀ k, F k → ¬ S k) : Twos w' F A n l :=
  ArrOf.fr h hf hd fun _ _ _ hy => hy

/-- Where the slices of a script lie. -/
structure ScrAt where
  A1 : Option Addr
  n1 : Nat
  c1 : Nat
  A5 : Option Addr
  n5 : Nat
  c5 : Nat
  A6 : Option Addr
  n6 : Nat
  c6 : Nat
  A7 : Option Addr
  n7 : Nat
  c7 : Nat
  A8 : Option Addr
  n8 : Nat
  c8 : Nat
structure Scr where
  mode : Int
  draws : List UInt8
  sectors : Int
  quota : Int
  tries : Int
  crashes : List (Int × Int)
  up : List (Int × Int)
  down : List (Int × Int)
  ops : List Opn
def scrCells (s : Scr) (p : ScrAt) : List Value :=
  [.int .i64 s.mode, .slice p.A1 p.n1 p.c1, .int .i64 s.sectors, .int .u64 s.quota, .int .i64 s.tries, .slice p.A5 p.n5 p.c5, .slice p.A6 p.n6 p.c6, .slice p.A7 p.n7 p.c7, .slice p.A8 p.n8 p.c8]
theorem scrCells_len (s : Scr) (p : ScrAt) : (scrCells s p).length = 9 := rfl
/-- The slices of a script read as its parts; they lie in blocks of F. -/
def ScrIn (w : World) (F : Nat → Prop) (p : ScrAt) (s : Scr) : Prop :=
  (p.n1 ≤ p.c1 ∧ p.c1 ≤ maxLen ∧ Byt w F p.A1 p.n1 s.draws) ∧ (p.n5 ≤ p.c5 ∧ p.c5 ≤ maxLen ∧ Twos w F p.A5 p.n5 s.crashes) ∧ (p.n6 ≤ p.c6 ∧ p.c6 ≤ maxLen ∧ Twos w F p.A6 p.n6 s.up) ∧ (p.n7 ≤ p.c7 ∧ p.c7 ≤ maxLen ∧ Twos w F p.A7 p.n7 s.down) ∧ (p.n8 ≤ p.c8 ∧ p.c8 ≤ maxLen ∧ Opns w F p.A8 p.n8 s.ops)
theorem ScrIn.fr {w w' : World} {F S : Nat → Prop} {p : ScrAt} {s : Scr} (h : ScrIn w F p s) (hf : Fr S w w') (hd : ∀ k, F k → ¬ S k) : ScrIn w' F p s := by
  obtain ⟨⟨a1, b1, d1⟩, ⟨a5, b5, d5⟩, ⟨a6, b6, d6⟩, ⟨a7, b7, d7⟩, a8, b8, d8⟩ := h
  exact ⟨⟨a1, b1, d1.fr hf hd⟩, ⟨a5, b5, d5.fr hf hd⟩, ⟨a6, b6, d6.fr hf hd⟩, ⟨a7, b7, d7.fr hf hd⟩, a8, b8, d8.fr hf hd⟩
def ScrR (w : World) (F : Nat → Prop) (y : List Value) (s : Scr) : Prop := ∃ p, y = scrCells s p ∧ ScrIn w F p s
theorem ScrR.fr {w w' : World} {F S : Nat → Prop} {y : List Value} {s : Scr} (h : ScrR w F y s) (hf : Fr S w w') (hd : ∀ k, F k → ¬ S k) : ScrR w' F y s := by
  obtain ⟨p, h1, h2⟩ := h
  exact ⟨p, h1, h2.fr hf hd⟩
theorem ScrR.len {w : World} {F : Nat → Prop} {y : List Value} {s : Scr} (h : ScrR w F y s) : y.length = 9 := by
  obtain ⟨p, rfl, _⟩ := h
  rfl
theorem scr_size : (Try.prog.info? 28).map (·.size) = some 9 := by kernel_rfl
theorem scr_zero : ((Try.prog.info? 28).bind (·.zero)).map (·.cells.size) = some 9 := by kernel_rfl
theorem op_size : (Try.prog.info? 34).map (·.size) = some 7 := by kernel_rfl
theorem op_zero : ((Try.prog.info? 34).bind (·.zero)).map (·.cells.size) = some 7 := by kernel_rfl
end Go.Proofs.Ytnkfchondedfcaa
