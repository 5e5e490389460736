/-
  A body that names a label, behind a fence: the scope's law. Conditions: each lemma states its own.
-/
import Derived.WalkKit
import Derived.WalkSpells
import Derived.WalkLawsBesides
import Derived.Lib.Hide
import Derived.Maps.AppendAt
import Derived.Deep.AppendLies
import Derived.Deep.Draws
import Derived.RegionTactic
import Derived.OwnWalk
import Derived.Laws.IdiomStrings
import Derived.Test.YtnkfchondedfcaaRows
import Derived.Deep.QuietTactic
import Derived.BigQuiet
import Derived.Outline
import Derived.Deep.RegionWith
import Derived.Maps.OwnSet
import Derived.StringKeys
import Derived.DeepKeys4
import Derived.RangeFuncNested
import Derived.RangeFuncBound
import Derived.RangeFuncCalls
import Derived.RangeFuncLeaves
import Derived.Shelf.Abstract
import Derived.OwnWalkIn
import Derived.TacticsInMore
import Derived.LoopNIn
import Derived.LoopIn
namespace Go.Proofs.Ytnkfchondedfcaa
section
open Go.RowKit

/-- Only blocks of S have turned, and new ones have come. -/
structure Fr (S : Nat → Prop) (w w' : World) : Prop where
  os : w'.os = w.os
  tape : w'.tape = w.tape
  output : w'.output = w.output
  size : w.heap.size ≤ w'.heap.size
  block : ∀ k, k < w.heap.size → ¬ S k → w'.heap[k]? = w.heap[k]?

def NoB : Nat → Prop := fun _ => False

section
variable {S S' : Nat → Prop} {a b c w w' : World}
theorem Fr.refl (S : Nat → Prop) (w : World) : Fr S w w := ⟨rfl, rfl, rfl, Nat.le_refl _, fun _ _ _ => rfl⟩
theorem Fr.mono (h : Fr S w w') (hs : ∀ k, k < w.heap.size → S k → S' k) : Fr S' w w' :=
  ⟨h.os, h.tape, h.output, h.size, fun k hk hn => h.block k hk (fun hS => hn (hs k hk hS))⟩
theorem Fr.trans (h : Fr S a b) (k : Fr S' b c) (hs : ∀ k, k < a.heap.size → S' k → S k) : Fr S a c :=
  ⟨k.os.trans h.os, k.tape.trans h.tape, k.output.trans h.output, Nat.le_trans h.size k.size, fun i hi hn =>
    (k.block i (Nat.lt_of_lt_of_le hi h.size) (fun h' => hn (hs i hi h'))).trans (h.block i hi hn)⟩
/-- One step more, that turns only what is new. -/
theorem Fr.new (h : Fr S a b) (k : Fr S' b c) (hs : ∀ j, S' j → S j ∨ a.heap.size ≤ j) : Fr S a c :=
  h.trans k fun i hi h' => (hs i h').elim id fun h => by omega
theorem Fr.drew (h : Fr S a w) : Fr S a w.drew := ⟨h.os, h.tape, h.output, h.size, h.block⟩
theorem Fr.drewN (h : Fr S a w) (n : Nat) : Fr S a (w.drewN n) := ⟨h.os, h.tape, h.output, h.size, h.block⟩
theorem Fr.of_drewN (w : World) (n : Nat) : Fr S w (w.drewN n) := (Fr.refl S w).drewN n
theorem Fr.alloc (h : Fr S a w) (o : Obj) : Fr S a (w.alloc o) :=
  ⟨h.os, h.tape, h.output, Nat.le_trans h.size (by simp), fun i hi hn => (Below.heap_alloc w o i (Nat.lt_of_lt_of_le hi h.size)).trans (h.block i hi hn)⟩
theorem Fr.setCell (h : Fr S a w) {p : Addr} (hp : S p.block ∨ a.heap.size ≤ p.block) (u : Value) : Fr S a (w.setCell p u) :=
  ⟨h.os, h.tape, h.output, by simpa [World.setCell] using h.size, fun i hi hn => (Below.heap_setCell w p u i (by
    rintro rfl
    rcases hp with hp | hp
    · exact hn hp
    · omega)).trans (h.block i hi hn)⟩
theorem Fr.set_ (h : Fr S a w) {b : Nat} (hp : S b ∨ a.heap.size ≤ b) (i : Nat) (u : Value) : Fr S a (w.setCell ⟨b, i, none⟩ u) := h.setCell (p := ⟨b, i, none⟩) hp u
theorem Fr.at_ {b : Nat} (h : Fr (· = b) a w) (i : Nat) (u : Value) : Fr (· = b) a (w.setCell ⟨b, i, none⟩ u) := h.set_ (.inl rfl) i u
theorem Fr.grown {row : Option Nat} (h : Fr S a w) (hg : w.grownBy w' row) (hr : ∀ k, row = some k → S k ∨ a.heap.size ≤ k) : Fr S a w' :=
  ⟨hg.os.trans h.os, hg.tape.trans h.tape, hg.output.trans h.output, Nat.le_trans h.size hg.size, fun i hi hn =>
    (hg.block i (Nat.lt_of_lt_of_le hi h.size) (fun e => by
      rcases hr i e.symm with h' | h'
      · exact hn h'
      · omega)).trans (h.block i hi hn)⟩
theorem Fr.below {B : Nat} (h : Fr S w w') (hB : B ≤ w.heap.size) (hs : ∀ k, k < B → ¬ S k) : Below B w w' :=
  ⟨h.os, h.tape, h.output, h.size, fun k hk => h.block k (Nat.lt_of_lt_of_le hk hB) (hs k hk)⟩
theorem Fr.of_below {B : Nat} (h : Below B w w') : Fr (fun k => B ≤ k) w w' :=
  ⟨h.os, h.tape, h.output, h.size, fun k _ hn => h.block k (by omega)⟩
theorem Fr.cell (h : Fr S w w') {p : Addr} (hp : p.block < w.heap.size) (hn : ¬ S p.block) : w'.cell? p = w.cell? p := World.cell?_of_block (w := w) (h.block p.block hp hn)
theorem Fr.cell' (h : Fr S w w') {p : Addr} {v : Value} (hc : w.cell? p = some v) (hn : ¬ S p.block) : w'.cell? p = some v :=
  (h.cell (World.block_lt_of_cell? w p hc) hn).trans hc
end

/-- Block g is just the cells cs of element type t, none frozen. -/
def Blk (w : World) (g : Nat) (t : TypeId) (cs : Array Value) : Prop := w.heap[g]? = some (.cells cs t (0, 0))

section
variable {w w' : World} {g : Nat} {t : TypeId} {cs : Array Value} {S : Nat → Prop}
theorem Blk.lt (h : Blk w g t cs) : g < w.heap.size := by
  rcases Nat.lt_or_ge g w.heap.size with hlt | hge
  · exact hlt
  · unfold Blk at h; rw [Array.getElem?_eq_none hge] at h; cases h
theorem Blk.cell (h : Blk w g t cs) (i : Nat) : w.cell? ⟨g, i, none⟩ = cs[i]? := cell_of_row w g i cs t (0, 0) h
theorem Blk.cell_ (h : Blk w g t cs) {i : Nat} {v : Value} (hv : cs[i]? = some v) : w.cell? ⟨g, i, none⟩ = some v := (h.cell i).trans hv
theorem Blk.cell_0 {v : Value} {vs : List Value} (h : Blk w g t (v :: vs).toArray) : w.cell? ⟨g, 0, none⟩ = some v := (h.cell 0).trans (by simp)
theorem Blk.frozen (h : Blk w g t cs) (i : Nat) : w.frozen? ⟨g, i, none⟩ = false := by
  unfold Blk at h
  simp [World.frozen?, h]
theorem Blk.new (w : World) (t : TypeId) (cs : Array Value) : Blk (w.alloc (.cells cs t)) w.heap.size t cs := heap_alloc_new w _
theorem Blk.drew (h : Blk w g t cs) : Blk w.drew g t cs := h
theorem Blk.drewN (h : Blk w g t cs) (n : Nat) : Blk (w.drewN n) g t cs := h
theorem Blk.alloc (h : Blk w g t cs) (o : Obj) : Blk (w.alloc o) g t cs := (Below.heap_alloc w o g h.lt).trans h
theorem Blk.set_ (h : Blk w g t cs) (i : Nat) (u : Value) : Blk (w.setCell ⟨g, i, none⟩ u) g t (cs.setIfInBounds i u) := by
  unfold Blk at h ⊢
  simp [World.setCell, Array.getElem?_modify, h]
theorem Blk.far (h : Blk w g t cs) {p : Addr} (hp : g ≠ p.block) (u : Value) : Blk (w.setCell p u) g t cs := (Below.heap_setCell w p u g hp).trans h
theorem Blk.fr (h : Blk w g t cs) (hb : Fr S w w') (hg : ¬ S g) : Blk w' g t cs := (hb.block g h.lt hg).trans h
theorem Blk.below {B : Nat} (h : Blk w g t cs) (hb : Below B w w') (hg : g < B) : Blk w' g t cs := (hb.block g hg).trans h
theorem Blk.grown {row : Option Nat} (h : Blk w g t cs) (hb : w.grownBy w' row) (hg : some g ≠ row) : Blk w' g t cs := (hb.block g h.lt hg).trans h
theorem Blk.ne_ {g' : Nat} {t' : TypeId} {cs' : Array Value} (h : Blk w g t cs) (h' : Blk w g' t' cs') (hne : t ≠ t') : g ≠ g' := by
  rintro rfl
  unfold Blk at h h'
  rw [h] at h'
  injection h' with h'
  injection h' with _ ht
  exact hne ht
theorem own_blk_ne {base : Nat} {e : TypeId} {size n : Nat} {v : Value} {xs : List Value} (h : w.ownsRow base e size v n xs) (hg : Blk w g t cs) (hne : e ≠ t) : v.ownBlock ≠ some g := by
  rcases h.2 with ⟨rfl, _⟩ | ⟨g', cap, cur, rfl, _, hh, _⟩
  · simp [Value.ownBlock]
  · intro he
    have : g' = g := by simpa [Value.ownBlock] using he
    subst this
    exact Blk.ne_ (t := e) hh hg hne rfl
end

/-- Where 's[l:]' begins, s of capacity m, its elements of s cells: kept behind a name (the walk would part on 'm = l'). -/
def slA (a : Option Addr) (l m s : Nat) : Option Addr := if m = l then a else a.map (·.add (l * s))
@[simp, go_sem] theorem slA_zero (a : Option Addr) (m s : Nat) : slA a 0 m s = a := by
  unfold slA; cases a <;> simp [Addr.add]
section
variable {P : Program} {w : World} (t : TypeId) (a : Option Addr) (len cap : Nat) (ht : P.underlying t = some (.slice (P.elem t)))
include ht
@[go_sem 900] theorem run_slice_any' (lo hi mx : Option Value) :
    (Instr.slice t (.slice a len cap) lo hi mx).run P w =
      ((Instr.sliceBounds true len cap lo hi mx).run P w).andThen fun b w => ((sizeOf (P.elem t)).run P w).andThen fun s w => .ok (.slice (slA a b.1 b.2.2 s) (b.2.1 - b.1) (b.2.2 - b.1)) w := run_slice_any w t a len cap ht lo hi mx
@[go_sem high] theorem run_slice_lh' (kl kh : IntKind) (l h : Int) (h0 : 0 ≤ l) (h1 : l ≤ h) (h2 : h ≤ cap) :
    (Instr.slice t (.slice a len cap) (some (.int kl l)) (some (.int kh h)) none).run P w =
      ((sizeOf (P.elem t)).run P w).andThen fun s w => .ok (.slice (slA a l.toNat cap s) (h.toNat - l.toNat) (cap - l.toNat)) w := run_slice_lh w t a len cap ht kl kh l h h0 h1 h2
@[go_sem high] theorem run_slice_l' (kl : IntKind) (l : Int) (h0 : 0 ≤ l) (h1 : l ≤ len) :
    (Instr.slice t (.slice a len cap) (some (.int kl l)) none none).run P w =
      ((sizeOf (P.elem t)).run P w).andThen fun s w => .ok (.slice (slA a l.toNat cap s) (len - l.toNat) (cap - l.toNat)) w := run_slice_l w t a len cap ht kl l h0 h1
@[go_sem high] theorem run_slice_h' (kh : IntKind) (h : Int) (h0 : 0 ≤ h) (h2 : h ≤ cap) :
    (Instr.slice t (.slice a len cap) none (some (.int kh h)) none).run P w =
      ((sizeOf (P.elem t)).run P w).andThen fun _ w => .ok (.slice a h.toNat cap) w := by
  rw [run_slice_h w t a len cap ht kh h h0 h2]
  have e : ∀ s, sliced a 0 h.toNat cap s = .slice a h.toNat cap := fun s => by
    have := slA_zero a cap s
    unfold slA at this
    simp only [sliced, Nat.sub_zero]
    rw [this]
  simp only [e]
@[go_sem high] theorem run_slice_all' :
    (Instr.slice t (.slice a len cap) none none none).run P w =
      ((sizeOf (P.elem t)).run P w).andThen fun _ w => .ok (.slice a len cap) w := by
  rw [run_slice_all w t a len cap ht]
  have e : ∀ s, sliced a 0 len cap s = .slice a len cap := fun s => by
    have := slA_zero a cap s
    unfold slA at this
    simp only [sliced, Nat.sub_zero]
    rw [this]
  simp only [e]
end

/-- The slice '.slice A n _' holds the cells xs (size cells an element), in a block of F. -/
def Arr (w : World) (F : Nat → Prop) (size : Nat) (A : Option Addr) (n : Nat) (xs : List Value) : Prop :=
  xs.length = n * size ∧ (0 < n → ∃ b o, A = some ⟨b, o, none⟩ ∧ F b ∧ ∀ j u, xs[j]? = some u → w.cell? ⟨b, o + j, none⟩ = some u)

section
variable {w w' : World} {F F' S : Nat → Prop} {size n : Nat} {A : Option Addr} {xs : List Value}
theorem Arr.none_ (w : World) (F : Nat → Prop) (size : Nat) (A : Option Addr) : Arr w F size A 0 [] := ⟨by simp, fun h => absurd h (by omega)⟩
theorem Arr.keep (h : Arr w F size A n xs) (hk : ∀ p : Addr, F p.block → ∀ u, w.cell? p = some u → w'.cell? p = some u) : Arr w' F size A n xs :=
  ⟨h.1, fun hn => by
    obtain ⟨b, o, e, hb, hc⟩ := h.2 hn
    exact ⟨b, o, e, hb, fun j u hu => hk _ hb _ (hc j u hu)⟩⟩
theorem Arr.more (h : Arr w F size A n xs) (hB : ∀ k, k < w.heap.size → F k → F' k) (hs : 0 < size) : Arr w F' size A n xs :=
  ⟨h.1, fun hn => by
    obtain ⟨b, o, e, hb, hc⟩ := h.2 hn
    have hl : 0 < xs.length := by rw [h.1]; exact Nat.mul_pos hn hs
    have hx := hc 0 _ (List.getElem?_eq_getElem hl)
    exact ⟨b, o, e, hB b (World.block_lt_of_cell? w _ hx) hb, hc⟩⟩
theorem Arr.fr (h : Arr w F size A n xs) (hb : Fr S w w') (hd : ∀ k, F k → ¬ S k) : Arr w' F size A n xs := h.keep fun _ hp _ hu => hb.cell' hu (hd _ hp)
theorem Arr.below {B : Nat} (h : Arr w F size A n xs) (hb : Below B w w') (hd : ∀ k, F k → k < B) : Arr w' F size A n xs := h.keep fun _ hp _ hu => (hb.cell (hd _ hp)).trans hu
theorem Arr.drew (h : Arr w F size A n xs) : Arr w.drew F size A n xs := h
theorem Arr.drewN (h : Arr w F size A n xs) (k : Nat) : Arr (w.drewN k) F size A n xs := h
theorem Arr.alloc (h : Arr w F size A n xs) (o : Obj) : Arr (w.alloc o) F size A n xs := h.fr ((Fr.refl NoB w).alloc o) fun _ _ h => h
theorem Arr.setCell (h : Arr w F size A n xs) {p : Addr} (hp : ¬ F p.block) (u : Value) : Arr (w.setCell p u) F size A n xs :=
  h.fr ((Fr.refl (· = p.block) w).setCell (.inl rfl) u) fun _ hF e => hp (e ▸ hF)
theorem Arr.cut (h : Arr w F size A n xs) {k cap : Nat} (hk : k ≤ n) (hc : n ≤ cap) :
    Arr w F size (slA A k cap size) (n - k) (xs.drop (k * size)) := by
  refine ⟨by rw [List.length_drop, h.1, Nat.sub_mul], fun hn => ?_⟩
  obtain ⟨b, o, rfl, hb, hcell⟩ := h.2 (by omega)
  rw [slA, if_neg (by omega)]
  refine ⟨b, o + k * size, by simp [Addr.add_lit], hb, fun j u hu => ?_⟩
  rw [Nat.add_assoc]
  exact hcell _ u (by rw [← hu, List.getElem?_drop])
theorem Arr.take (h : Arr w F size A n xs) {k : Nat} (hk : k ≤ n) : Arr w F size A k (xs.take (k * size)) := by
  refine ⟨by rw [List.length_take, h.1]; exact Nat.min_eq_left (Nat.mul_le_mul_right _ hk), fun hn => ?_⟩
  obtain ⟨b, o, rfl, hb, hcell⟩ := h.2 (by omega)
  refine ⟨b, o, rfl, hb, fun j u hu => hcell j u ?_⟩
  rw [List.getElem?_take] at hu
  split at hu
  · exact hu
  · cases hu
theorem Arr.of_own {base : Nat} {e : TypeId} {c : Nat} (h : w.ownsRow base e size (.slice A n c) n xs) (hF : ∀ k, (Value.slice A n c).ownBlock = some k → F k) : Arr w F size A n xs := by
  refine ⟨h.1, fun hn => ?_⟩
  obtain ⟨g, cap, hv, _, hlt⟩ := h.form hn
  have hA : A = some ⟨g, 0, none⟩ := by injection hv
  subst hA
  exact ⟨g, 0, rfl, hF g rfl, fun j u hu => by have := h.cells (g := g) rfl j u hu; rwa [Addr.add_lit] at this⟩
theorem Arr.at1 (h : Arr w F 1 A n xs) {k : Nat} (hk : k < n) : ∃ b o u, A = some ⟨b, o, none⟩ ∧ F b ∧ xs[k]? = some u ∧ w.cell? ⟨b, o + k, none⟩ = some u := by
  obtain ⟨b, o, e, hb, hc⟩ := h.2 (by omega)
  have hl : k < xs.length := by have := h.1; omega
  exact ⟨b, o, xs[k], e, hb, List.getElem?_eq_getElem hl, hc k _ (List.getElem?_eq_getElem hl)⟩
end

/-- A byte als a value. -/
def bv (x : UInt8) : Value := .int .u8 (x.toNat : Int)
theorem bv_eq (x : UInt8) : bv x = .int .u8 (x.toNat : Int) := rfl
theorem bv_one (l : List UInt8) : ∀ u ∈ l.map bv, u.oneCell' = true := by
  intro u hu
  obtain ⟨x, _, rfl⟩ := List.mem_map.1 hu
  rfl

/-- A slice of bytes that reads als l. -/
def Byt (w : World) (F : Nat → Prop) (A : Option Addr) (n : Nat) (l : List UInt8) : Prop := Arr w F 1 A n (l.map bv)

section
variable {w w' : World} {F F' S : Nat → Prop} {n : Nat} {A : Option Addr} {l : List UInt8}
theorem Byt.len (h : Byt w F A n l) : l.length = n := by have := h.1; simpa using this
theorem Byt.nil (w : World) (F : Nat → Prop) (A : Option Addr) : Byt w F A 0 [] := Arr.none_ w F 1 A
theorem Byt.fr (h : Byt w F A n l) (hb : Fr S w w') (hd : ∀ k, F k → ¬ S k) : Byt w' F A n l := Arr.fr h hb hd
theorem Byt.below {B : Nat} (h : Byt w F A n l) (hb : Below B w w') (hd : ∀ k, F k → k < B) : Byt w' F A n l := Arr.below h hb hd
theorem Byt.drewN (h : Byt w F A n l) (k : Nat) : Byt (w.drewN k) F A n l := h
theorem Byt.more (h : Byt w F A n l) (hB : ∀ k, k < w.heap.size → F k → F' k) : Byt w F' A n l := Arr.more h hB (by omega)
theorem Byt.alloc (h : Byt w F A n l) (o : Obj) : Byt (w.alloc o) F A n l := Arr.alloc h o
theorem Byt.setCell (h : Byt w F A n l) {p : Addr} (hp : ¬ F p.block) (u : Value) : Byt (w.setCell p u) F A n l := Arr.setCell h hp u
theorem Byt.at_ (h : Byt w F A n l) {k : Nat} (hk : k < n) : ∃ b o, A = some ⟨b, o, none⟩ ∧ F b ∧ w.cell? ⟨b, o + k, none⟩ = some (.int .u8 ((l[k]'(by have := h.len; omega)).toNat : Int)) := by
  obtain ⟨b, o, u, e, hb, hx, hc⟩ := Arr.at1 h hk
  refine ⟨b, o, e, hb, hc.trans ?_⟩
  have hl := h.len
  rw [List.getElem?_map, List.getElem?_eq_getElem (by omega)] at hx
  simpa [bv] using hx.symm
theorem Byt.get (h : Byt w F A n l) {k : Nat} (hk : k < n) : ∃ (b o : Nat) (y : Nat) (x : UInt8), A = some ⟨b, o, none⟩ ∧ F b ∧ w.cell? ⟨b, o + k, none⟩ = some (.int .u8 (y : Int)) ∧ y = x.toNat ∧ y < 256 ∧ l[k]? = some x ∧ l.drop k = x :: l.drop (k + 1) := by
  obtain ⟨b, o, e, hb, hc⟩ := h.at_ hk
  have hl : k < l.length := by have := h.len; omega
  exact ⟨b, o, _, l[k], e, hb, hc, rfl, UInt8.toNat_lt _, List.getElem?_eq_getElem hl, List.drop_eq_getElem_cons hl⟩
theorem Byt.cut (h : Byt w F A n l) {k cap : Nat} (hk : k ≤ n) (hc : n ≤ cap) : Byt w F (slA A k cap 1) (n - k) (l.drop k) := by
  have := Arr.cut h hk hc
  simpa [Byt, List.map_drop] using this
theorem Byt.take (h : Byt w F A n l) {k : Nat} (hk : k ≤ n) : Byt w F A k (l.take k) := by
  have := Arr.take h hk
  simpa [Byt, List.map_take] using this
end

section
variable {P : Program} (w : World)

theorem run_append_of_nil (base : Nat) (t ty e : TypeId) (i : TypeInfo) (size : Nat) (ht : P.underlying t = some (.slice e)) (hi : P.info? e = some i)
    (v : Value) (n : Nat) (xs : List Value) (hown : w.ownsRow base e size v n xs) (c : Nat) : (Builtin.append_ #[t, t] ty #[v, .slice none 0 c]).run P w = .ok v w := by
  rcases hown.2 with ⟨rfl, rfl⟩ | ⟨g, cap, cur, rfl, _, _, hnc, _⟩
  · simp [Builtin.append_, run_underlying ht, sizeOf, typeInfo, hi, Builtin.lenOf, Builtin.firstCells]
  · simp [Builtin.append_, run_underlying ht, sizeOf, typeInfo, hi, Builtin.lenOf, Builtin.firstCells, hnc, storeCells]

theorem run_append_any (base : Nat) (t ty e : TypeId) (i : TypeInfo) (z : Value) (size bytes : Nat) (ht : P.underlying t = some (.slice e)) (hi : P.info? e = some i) (hz : i.zero = some z)
    (hsize : i.size = size) (hby : i.bytes = bytes) (hzs : z.cells.size = size) (hsz : 0 < size)
    (v : Value) (n : Nat) (xs : List Value) (hown : w.ownsRow base e size v n xs)
    (F : Nat → Prop) (A : Option Addr) (m c : Nat) (news : List Value) (hr : Arr w F size A m news) (h1 : ∀ u ∈ news, u.oneCell' = true)
    (h63 : n + m ≤ maxLen) (hbytes : (n + m) * bytes ≤ 140737488355328) (hbase : base ≤ w.heap.size) :
    ∃ v' w', (Builtin.append_ #[t, t] ty #[v, .slice A m c]).run P w = .ok v' w' ∧ w'.ownsRow base e size v' (n + m) (xs ++ news) ∧ w.grownBy w' v.ownBlock ∧
      (v' = .slice none 0 0 ↔ v = .slice none 0 0 ∧ m = 0) ∧ (v'.ownBlock = v.ownBlock ∨ v'.ownBlock = some w.heap.size) := by
  rcases A with _ | ad
  · have hm : m = 0 := by
      rcases Nat.eq_zero_or_pos m with h0 | h0
      · exact h0
      · obtain ⟨b, o, h, _⟩ := hr.2 h0
        cases h
    subst hm
    have hn : news = [] := List.eq_nil_of_length_eq_zero (by simpa using hr.1)
    subst hn
    exact ⟨v, w, run_append_of_nil w base t ty e i size ht hi v n xs hown c, by simpa using hown, World.grownBy.refl w _, by simp, .inl rfl⟩
  · have hcells : ∀ j u, news[j]? = some u → w.cell? (ad.add j) = some u := by
      intro j u hu
      rcases Nat.eq_zero_or_pos m with h0 | h0
      · subst h0
        have hn : news = [] := List.eq_nil_of_length_eq_zero (by simpa using hr.1)
        subst hn
        simp at hu
      · obtain ⟨b, o, h, _, hc⟩ := hr.2 h0
        injection h with h
        subst h
        rw [Addr.add_lit]
        exact hc j u hu
    exact run_append_own_at (P := P) w base t ty e i z size bytes ht hi hz hsize hby hzs hsz v n xs hown ad m c news hr.1 hcells h1 h63 hbytes hbase

theorem wp_append_any {o : Oper} {a : Act} {K : Act → World → Prop} {Q : Exit → Act → World → Prop} (s x : Operand) (t : TypeId)
    (ho : o.op = .call { callee := .builtin .append, args := #[s, x], argTypes := #[t, t] })
    (base : Nat) (e : TypeId) (i : TypeInfo) (z : Value) (size bytes : Nat) (ht : P.underlying t = some (.slice e)) (hi : P.info? e = some i) (hz : i.zero = some z)
    (hsize : i.size = size) (hby : i.bytes = bytes) (hzs : z.cells.size = size) (hsz : 0 < size)
    (v : Value) (n : Nat) (xs : List Value) (hs : a.eval s = v) (hown : w.ownsRow base e size v n xs)
    (F : Nat → Prop) (A : Option Addr) (m c : Nat) (news : List Value) (hx : a.eval x = .slice A m c) (hr : Arr w F size A m news) (h1 : ∀ u ∈ news, u.oneCell' = true)
    (h63 : n + m ≤ maxLen) (hbytes : (n + m) * bytes ≤ 140737488355328) (hbase : base ≤ w.heap.size)
    (h : ∀ v' w', w'.ownsRow base e size v' (n + m) (xs ++ news) → w.grownBy w' v.ownBlock → (v' = .slice none 0 0 ↔ v = .slice none 0 0 ∧ m = 0) → (v'.ownBlock = v.ownBlock ∨ v'.ownBlock = some w.heap.size) → K (a.put o.dst v') w') : o.wp P a w K Q := by
  obtain ⟨v', w', hrun, h2, h3, h4, h5⟩ := run_append_any (P := P) w base t o.type e i z size bytes ht hi hz hsize hby hzs hsz v n xs hown F A m c news hr h1 h63 hbytes hbase
  unfold Oper.wp execOp
  simp only [ho, resolve, invoke, builtin, Sem.run_bind, Sem.run_pure, Result.andThen_ok, List.map_toArray, List.map_cons, List.map_nil, hs, hx, hrun]
  exact h v' w' h2 h3 h4 h5

theorem wpList_append_any {ops : Array Oper} {rest : List Oper} {o : Oper} {a : Act} {Q : Exit → Act → World → Prop} (hgd : o.guard = none) (s x : Operand) (t : TypeId)
    (ho : o.op = .call { callee := .builtin .append, args := #[s, x], argTypes := #[t, t] })
    (base : Nat) (e : TypeId) (i : TypeInfo) (z : Value) (size bytes : Nat) (ht : P.underlying t = some (.slice e)) (hi : P.info? e = some i) (hz : i.zero = some z)
    (hsize : i.size = size) (hby : i.bytes = bytes) (hzs : z.cells.size = size) (hsz : 0 < size)
    (v : Value) (n : Nat) (xs : List Value) (hs : a.eval s = v) (hown : w.ownsRow base e size v n xs)
    (F : Nat → Prop) (A : Option Addr) (m c : Nat) (news : List Value) (hx : a.eval x = .slice A m c) (hr : Arr w F size A m news) (h1 : ∀ u ∈ news, u.oneCell' = true)
    (h63 : n + m ≤ maxLen) (hbytes : (n + m) * bytes ≤ 140737488355328) (hbase : base ≤ w.heap.size)
    (h : ∀ v' w', w'.ownsRow base e size v' (n + m) (xs ++ news) → w.grownBy w' v.ownBlock → (v' = .slice none 0 0 ↔ v = .slice none 0 0 ∧ m = 0) → (v'.ownBlock = v.ownBlock ∨ v'.ownBlock = some w.heap.size) → wpList P ops Q rest (a.put o.dst v') w') : wpList P ops Q (o :: rest) a w :=
  wpList_plain hgd fun _ hK => wp_append_any w s x t ho base e i z size bytes ht hi hz hsize hby hzs hsz v n xs hs hown F A m c news hx hr h1 h63 hbytes hbase fun v' w' h2 h3 h4 h5 => hK _ _ (h v' w' h2 h3 h4 h5)
end

/-- The slice type t has elements of type e: their zero value, how many cells and bytes one takes. -/
def ElemOk (P : Program) (t e : TypeId) (z : Value) (size bytes : Nat) : Prop :=
  P.underlying t = some (.slice e) ∧ (∃ i, P.info? e = some i ∧ i.zero = some z ∧ i.size = size ∧ i.bytes = bytes) ∧ z.cells.size = size ∧ 0 < size ∧ 0 < bytes

theorem ElemOk.mk {P : Program} {t e : TypeId} {z : Value} {size bytes : Nat} (ht : P.underlying t = some (.slice e)) (hi : (P.info? e).map (fun i => (i.zero, i.size, i.bytes)) = some (some z, size, bytes)) (hz : z.cells.size = size) (h0 : 0 < size) (h1 : 0 < bytes) : ElemOk P t e z size bytes := by
  obtain ⟨i, h, a, b, c⟩ := info_parts hi
  exact ⟨ht, ⟨i, h, a, b, c⟩, hz, h0, h1⟩

/-- k is the block of an address, if there is one. -/
def inB (A : Option Addr) (k : Nat) : Prop := ∃ a, A = some a ∧ a.block = k
theorem inB_none (k : Nat) : ¬ inB none k := fun ⟨_, h, _⟩ => by cases h
theorem inB_some (a : Addr) (k : Nat) : inB (some a) k ↔ a.block = k := ⟨fun ⟨_, h, e⟩ => by cases h; exact e, fun h => ⟨a, rfl, h⟩⟩

/-- The slice '.slice A n c' is nil, or the head of an unfrozen block of elements e, of c places, of which the first n hold the cells xs. -/
def Own (w : World) (e : TypeId) (size : Nat) (A : Option Addr) (n c : Nat) (xs : List Value) : Prop := w.ownsRow 0 e size (.slice A n c) n xs

section
variable {w w' : World} {e : TypeId} {size n c : Nat} {A : Option Addr} {xs : List Value} {S F : Nat → Prop}
theorem Own.nil (w : World) (e : TypeId) (size : Nat) : Own w e size none 0 0 [] := World.ownsRow_nil _ _ _ _
theorem Own.form (h : Own w e size A n c xs) : (A = none ∧ n = 0 ∧ c = 0 ∧ xs = []) ∨ ∃ g cur, A = some ⟨g, 0, none⟩ ∧ Blk w g e cur ∧ n ≤ c ∧ c ≤ maxLen ∧ cur.size = c * size ∧ cur.toList.take (n * size) = xs := by
  rcases h.2 with ⟨h1, h2⟩ | ⟨g, cap, cur, h1, _, h2, h3, h4, h5, h6⟩
  · injection h1 with a1 a2 a3
    refine .inl ⟨a1, h2, a3, List.eq_nil_of_length_eq_zero ?_⟩
    rw [h.1, h2, Nat.zero_mul]
  · injection h1 with a1 a2 a3
    subst a3
    exact .inr ⟨g, cur, a1, h2, h3, h4, h5, h6⟩
theorem Own.len (h : Own w e size A n c xs) : xs.length = n * size := h.1
theorem Own.le (h : Own w e size A n c xs) : n ≤ c := by
  rcases h.form with ⟨_, h1, h2, _⟩ | ⟨_, _, _, _, h1, _⟩ <;> omega
theorem Own.cap (h : Own w e size A n c xs) : c ≤ maxLen := by
  rcases h.form with ⟨_, _, h2, _⟩ | ⟨_, _, _, _, _, h1, _⟩
  · unfold maxLen; omega
  · exact h1
theorem Own.lt (h : Own w e size A n c xs) {k : Nat} (hk : inB A k) : k < w.heap.size := by
  rcases h.form with ⟨rfl, _⟩ | ⟨g, cur, rfl, hb, _⟩
  · exact absurd hk (inB_none k)
  · rw [inB_some] at hk
    exact hk ▸ hb.lt
theorem Own.fr (h : Own w e size A n c xs) (hf : Fr S w w') (hd : ∀ k, inB A k → ¬ S k) : Own w' e size A n c xs := by
  refine ⟨h.1, ?_⟩
  rcases h.2 with hn | ⟨g, cap, cur, hv, hb, hgg, rest⟩
  · exact .inl hn
  · have hA : A = some ⟨g, 0, none⟩ := by injection hv
    refine .inr ⟨g, cap, cur, hv, hb, ?_, rest⟩
    rw [hf.block g (Array.getElem?_eq_some_iff.1 hgg).1 (hd g ⟨_, hA, rfl⟩)]
    exact hgg
theorem Own.drewN (h : Own w e size A n c xs) (k : Nat) : Own (w.drewN k) e size A n c xs := h
theorem Own.alloc (h : Own w e size A n c xs) (o : Obj) : Own (w.alloc o) e size A n c xs := h.fr ((Fr.refl NoB w).alloc o) fun _ _ => id
theorem Own.setCell (h : Own w e size A n c xs) {p : Addr} (hp : ¬ inB A p.block) (u : Value) : Own (w.setCell p u) e size A n c xs :=
  h.fr ((Fr.refl (· = p.block) w).setCell (.inl rfl) u) fun _ hF e => hp (e ▸ hF)
theorem Own.set_ (h : Own w e size A n c xs) {b : Nat} (hp : ¬ inB A b) (i : Nat) (u : Value) : Own (w.setCell ⟨b, i, none⟩ u) e size A n c xs := h.setCell (p := ⟨b, i, none⟩) hp u
theorem Own.arr (h : Own w e size A n c xs) (hF : ∀ k, k < w.heap.size → inB A k → F k) : Arr w F size A n xs :=
  Arr.of_own h fun k hk => by
    cases A with
    | none => cases hk
    | some a =>
      have hb : inB (some a) k := ⟨a, rfl, by simpa [Value.ownBlock] using hk⟩
      exact hF k (h.lt hb) hb
theorem Own.ne_blk (h : Own w e size A n c xs) {g : Nat} {t : TypeId} {cs : Array Value} (hg : Blk w g t cs) (hne : e ≠ t) : ¬ inB A g := by
  rcases h.form with ⟨rfl, _⟩ | ⟨g', cur, rfl, hb, _⟩
  · exact inB_none g
  · rw [inB_some]
    exact Blk.ne_ hb hg hne
end

section
variable {P : Program} (w : World)
/-- append onto an owned row, at the operation. -/
theorem wpList_app {ops : Array Oper} {rest : List Oper} {o : Oper} {a : Act} {Q : Exit → Act → World → Prop} {t e : TypeId} {z : Value} {size bytes : Nat} (E : ElemOk P t e z size bytes) (hgd : o.guard = none) (s x : Operand)
    (ho : o.op = .call { callee := .builtin .append, args := #[s, x], argTypes := #[t, t] })
    (A : Option Addr) (n c : Nat) (xs : List Value) (hs : a.eval s = .slice A n c) (hown : Own w e size A n c xs)
    (F : Nat → Prop) (B : Option Addr) (m d : Nat) (news : List Value) (hx : a.eval x = .slice B m d) (hr : Arr w F size B m news) (h1 : ∀ u ∈ news, u.oneCell' = true)
    (hbytes : (n + m) * bytes ≤ 140737488355328)
    (h : ∀ A' c' w', Own w' e size A' (n + m) c' (xs ++ news) → Fr (inB A) w w' → (∀ k, inB A' k → inB A k ∨ k = w.heap.size) → (A' = none ↔ A = none ∧ m = 0) → wpList P ops Q rest (a.put o.dst (.slice A' (n + m) c')) w') : wpList P ops Q (o :: rest) a w := by
  obtain ⟨ht, ⟨i, hi, hz, hsize, hby⟩, hzs, hsz, hb0⟩ := E
  have h63 : n + m ≤ maxLen := by
    have := Nat.le_mul_of_pos_right (n + m) hb0
    simp only [maxLen]; omega
  refine wpList_append_any w hgd s x t ho 0 e i z size bytes ht hi hz hsize hby hzs hsz _ n xs hs hown F B m d news hx hr h1 h63 hbytes (Nat.zero_le _) ?_
  intro v' w' h2 h3 h4 h5
  have hv : ∃ A' c', v' = .slice A' (n + m) c' := by
    rcases h2.2 with ⟨rfl, e0⟩ | ⟨g, cap, _, rfl, _⟩
    · exact ⟨none, 0, by rw [e0]⟩
    · exact ⟨_, _, rfl⟩
  obtain ⟨A', c', rfl⟩ := hv
  have hblk : ∀ (X : Option Addr) (p q k : Nat), (Value.slice X p q).ownBlock = some k ↔ inB X k := by
    intro X p q k
    cases X with
    | none => exact ⟨fun h => (by cases h), fun h => absurd h (inB_none k)⟩
    | some a => rw [inB_some]; simp [Value.ownBlock]
  refine h A' c' w' h2 ((Fr.refl _ w).grown h3 fun k hk => .inl ((hblk _ _ _ _).1 hk)) (fun k hk => ?_) ?_
  · have hk' := (hblk A' (n + m) c' k).2 hk
    rcases h5 with h5 | h5 <;> rw [h5] at hk'
    · exact .inl ((hblk _ _ _ _).1 hk')
    · exact .inr (by injection hk' with hk'; exact hk'.symm)
  · have hA' : A' = none ↔ Value.slice A' (n + m) c' = .slice none 0 0 := by
      constructor
      · intro hA
        rcases Own.form h2 with ⟨_, e1, e2, _⟩ | ⟨g, _, e1, _⟩
        · rw [hA, e1, e2]
        · rw [hA] at e1; cases e1
      · intro hA; injection hA
    have hA : A = none ↔ Value.slice A n c = .slice none 0 0 := by
      constructor
      · intro hA
        rcases Own.form hown with ⟨_, e1, e2, _⟩ | ⟨g, _, e1, _⟩
        · rw [hA, e1, e2]
        · rw [hA] at e1; cases e1
      · intro hA; injection hA
    rw [hA', h4, hA]
end

/-- 'string(b)'. -/
theorem Byt.str {w : World} {F : Nat → Prop} {A : Option Addr} {n : Nat} {l : List UInt8} (h : Byt w F A n l) {P : Program} {src dst e : TypeId} (hs : P.underlying src = some (.slice e)) (he : P.underlying e = some (.int .u8)) (hd : P.underlying dst = some .string) (c : Nat) :
    (convert src dst (.slice A n c)).run P w = .ok (.string ⟨l.toArray⟩) w := by
  obtain rfl := h.len
  cases A with
  | none =>
    have hl : l = [] := by
      rcases Nat.eq_zero_or_pos l.length with h0 | h0
      · exact List.eq_nil_of_length_eq_zero h0
      · obtain ⟨b, o, h, _⟩ := h.2 h0; cases h
    subst hl
    exact run_convert_bytes_nil w src e hs he 0 c dst hd
  | some a =>
    refine run_convert_bytes_back w src dst e a c l hs he hd fun j hj => ?_
    obtain ⟨b, o, h, _, hc⟩ := h.at_ hj
    injection h with h
    subst h
    rw [Addr.add_lit]; exact hc

theorem Arr.one (w : World) (x : Value) (t : TypeId) : Arr (w.alloc (.cells #[x] t)) (fun k => k = w.heap.size) 1 (some ⟨w.heap.size, 0, none⟩) 1 [x] :=
  ⟨rfl, fun _ => ⟨_, _, rfl, rfl, fun j u hu => by have := cell_one_new w x t j u hu; rwa [Addr.add_lit] at this⟩⟩

/-- A new block of bytes, read. -/
theorem Byt.new (w : World) (t : TypeId) (l : List UInt8) (cs : Array Value) (h : cs.toList = l.map bv) : Byt (w.alloc (.cells cs t)) (fun k => k = w.heap.size) (some ⟨w.heap.size, 0, none⟩) l.length l := by
  refine ⟨by simp, fun _ => ⟨_, _, rfl, rfl, fun j u hu => ?_⟩⟩
  rw [Nat.zero_add]
  refine ((Blk.new w t cs).cell j).trans ?_
  rw [← h] at hu
  simpa using hu

/-- A slice whose elements, of size cells each, read als the list als, by R. -/
def ArrOf {α : Type} (R : List Value → α → Prop) (w : World) (F : Nat → Prop) (size : Nat) (A : Option Addr) (n : Nat) (als : List α) : Prop :=
  als.length = n ∧ (0 < n → ∃ b o, A = some ⟨b, o, none⟩ ∧ F b ∧ ∀ k a, als[k]? = some a → ∃ y, y.length = size ∧ R y a ∧ ∀ j u, y[j]? = some u → w.cell? ⟨b, o + k * size + j, none⟩ = some u)

section
variable {α : Type} {R R' : List Value → α → Prop} {w w' : World} {F F' S : Nat → Prop} {size n : Nat} {A : Option Addr} {als : List α}
theorem ArrOf.none_ (R : List Value → α → Prop) (w : World) (F : Nat → Prop) (size : Nat) (A : Option Addr) : ArrOf R w F size A 0 [] := ⟨rfl, fun h => absurd h (by omega)⟩
theorem ArrOf.len (h : ArrOf R w F size A n als) : als.length = n := h.1
theorem ArrOf.keep (h : ArrOf R w F size A n als) (hR : ∀ y a, a ∈ als → R y a → R' y a) (hk : ∀ p : Addr, F p.block → ∀ u, w.cell? p = some u → w'.cell? p = some u) : ArrOf R' w' F size A n als :=
  ⟨h.1, fun hn => by
    obtain ⟨b, o, e, hb, hc⟩ := h.2 hn
    refine ⟨b, o, e, hb, fun k a ha => ?_⟩
    obtain ⟨y, hy, hr, hcell⟩ := hc k a ha
    exact ⟨y, hy, hR y a (List.mem_of_getElem? ha) hr, fun j u hu => hk _ hb _ (hcell j u hu)⟩⟩
theorem ArrOf.fr (h : ArrOf R w F size A n als) (hb : Fr S w w') (hd : ∀ k, F k → ¬ S k) (hR : ∀ y a, a ∈ als → R y a → R' y a) : ArrOf R' w' F size A n als := h.keep hR fun _ hp _ hu => hb.cell' hu (hd _ hp)
theorem ArrOf.more (h : ArrOf R w F size A n als) (hs : 0 < size) (hF : ∀ k, k < w.heap.size → F k → F' k) (hR : ∀ y a, a ∈ als → R y a → R' y a) : ArrOf R' w F' size A n als :=
  ⟨h.1, fun hn => by
    obtain ⟨b, o, e, hb, hc⟩ := h.2 hn
    refine ⟨b, o, e, ?_, fun k a ha => ?_⟩
    · obtain ⟨y, hy, _, hcell⟩ := hc 0 _ (List.getElem?_eq_getElem (show 0 < als.length by rw [h.1]; exact hn))
      exact hF b (World.block_lt_of_cell? w _ (hcell 0 _ (List.getElem?_eq_getElem (show 0 < y.length by omega)))) hb
    · obtain ⟨y, hy, hr, hcell⟩ := hc k a ha
      exact ⟨y, hy, hR y a (List.mem_of_getElem? ha) hr, hcell⟩⟩
theorem ArrOf.at_ (h : ArrOf R w F size A n als) {k : Nat} (hk : k < n) : ∃ b o a y, A = some ⟨b, o, none⟩ ∧ F b ∧ als[k]? = some a ∧ y.length = size ∧ R y a ∧ ∀ j u, y[j]? = some u → w.cell? ⟨b, o + k * size + j, none⟩ = some u := by
  obtain ⟨b, o, e, hb, hc⟩ := h.2 (by omega)
  have hl : k < als.length := by have := h.1; omega
  obtain ⟨y, hy, hr, hcell⟩ := hc k _ (List.getElem?_eq_getElem hl)
  exact ⟨b, o, _, y, e, hb, List.getElem?_eq_getElem hl, hy, hr, hcell⟩
end

theorem flatten_at {size : Nat} : ∀ (ys : List (List Value)) (k j : Nat) (y : List Value), (∀ y ∈ ys, y.length = size) → ys[k]? = some y → j < size → ys.flatten[k * size + j]? = y[j]?
  | [], k, j, y, _, h, _ => by simp at h
  | z :: ys, 0, j, y, hl, h, hj => by
    simp at h
    subst h
    have := hl z (by simp)
    rw [List.flatten_cons, List.getElem?_append_left (by omega)]; simp
  | z :: ys, k + 1, j, y, hl, h, hj => by
    have hz := hl z (by simp)
    rw [List.flatten_cons, List.getElem?_append_right (by rw [hz, Nat.add_mul]; omega), hz, show (k + 1) * size + j - size = k * size + j by rw [Nat.add_mul]; omega]
    exact flatten_at ys k j y (fun y hy => hl y (by simp [hy])) (by simpa using h) hj

/-- Cells laid in a row read als elements. -/
theorem ArrOf.of_arr {α : Type} {R : List Value → α → Prop} {w : World} {F : Nat → Prop} {size n : Nat} {A : Option Addr} {als : List α} {ys : List (List Value)} (h : Arr w F size A n ys.flatten) (hl : ∀ y ∈ ys, y.length = size) (hn : als.length = n)
    (hR : ∀ (k : Nat) (a : α), als[k]? = some a → ∃ y, ys[k]? = some y ∧ R y a) : ArrOf R w F size A n als := by
  refine ⟨hn, fun h0 => ?_⟩
  obtain ⟨b, o, e, hb, hc⟩ := h.2 h0
  refine ⟨b, o, e, hb, fun k a ha => ?_⟩
  obtain ⟨y, hy, hr⟩ := hR k a ha
  have hyl := hl y (List.mem_of_getElem? hy)
  refine ⟨y, hyl, hr, fun j u hu => ?_⟩
  rw [Nat.add_assoc]
  refine hc _ u ?_
  rw [flatten_at ys k j y hl hy (by have := (List.getElem?_eq_some_iff.1 hu).1; omega)]
  exact hu

section
variable {P : Program}
/-- A struct or an array loaded out of memory. -/
theorem run_load_agg (w : World) (ty b o : Nat) (y : List Value) (d : TypeDesc) (hc : ∀ j u, y[j]? = some u → w.cell? ⟨b, o + j, none⟩ = some u)
    (hu : P.underlying ty = some d) (hd : (match d with | .struct _ | .array _ _ => true | _ => false) = true) (hi : (P.info? ty).map (·.size) = some y.length) :
    (loadVar ty ⟨b, o, none⟩).run P w = .ok (.agg y.toArray) w := by
  have hl : (loadCells ⟨b, o, none⟩ y.length).run P w = .ok y.toArray w :=
    run_loadCells_list (P := P) w ⟨b, o, none⟩ y (fun j v hv => by rw [Addr.add_lit]; exact hc j v hv)
  cases hq : P.info? ty with
  | none => simp [hq] at hi
  | some i =>
    have hs : i.size = y.length := by simpa [hq] using hi
    have hagg : (isAgg ty).run P w = .ok true w := by
      unfold isAgg
      rw [Sem.run_bind, run_underlying hu w]
      cases d <;> simp_all
    simp [loadVar, Sem.run_bind, hagg, sizeOf, typeInfo, hq, hs, hl]

theorem wpList_load_agg {ops : Array Oper} {rest : List Oper} {o : Oper} {a : Act} {w : World} {Q : Exit → Act → World → Prop} (hgd : o.guard = none) (ty : TypeId) (x : Operand) (ho : o.op = .load ty x)
    (b off : Nat) (hx : a.eval x = .pointer (some ⟨b, off, none⟩)) (y : List Value) (d : TypeDesc) (hc : ∀ j u, y[j]? = some u → w.cell? ⟨b, off + j, none⟩ = some u)
    (hu : P.underlying ty = some d) (hd : (match d with | .struct _ | .array _ _ => true | _ => false) = true) (hi : (P.info? ty).map (·.size) = some y.length)
    (h : wpList P ops Q rest (a.put o.dst (.agg y.toArray)) w) : wpList P ops Q (o :: rest) a w := by
  refine wpList_plain hgd fun _ hK => ?_
  unfold Oper.wp execOp
  simp only [ho, hx, Instr.loadAt, Instr.sureAddr, Sem.run_bind, Sem.run_pure, Result.andThen_ok, run_load_agg w ty b off y d hc hu hd hi]
  exact hK _ _ h

theorem setRow_alloc (w : World) (old cs : Array Value) (t : TypeId) : (w.alloc (.cells old t)).setRow w.heap.size cs = w.alloc (.cells cs t) := by
  show ({ w with heap := (w.heap.push (.cells old t)).modify w.heap.size _ } : World) = { w with heap := w.heap.push (.cells cs t) }
  congr 1
  apply Array.ext
  · simp
  · intro i h1 h2
    simp at h1 h2
    rw [Array.getElem_modify]
    by_cases hi : w.heap.size = i
    · subst hi; simp
    · simp [hi, Array.getElem_push, show i < w.heap.size by omega]

/-- A struct or an array stored into the block that was just made for it. -/
theorem wpList_store_new {ops : Array Oper} {rest : List Oper} {o : Oper} {a : Act} {w : World} {Q : Exit → Act → World → Prop} (hgd : o.guard = none) (ty : TypeId) (x y : Operand) (ho : o.op = .store ty x y)
    (t : TypeId) (old cells : Array Value) (hx : a.eval x = .pointer (some ⟨w.heap.size, 0, none⟩)) (hy : a.eval y = .agg cells) (hi : (P.info? ty).map (·.size) = some cells.size)
    (hold : old.size = cells.size) (h1 : cells.all (·.oneCell') = true)
    (h : wpList P ops Q rest (a.put o.dst undef) (w.alloc (.cells cells t))) : wpList P ops Q (o :: rest) a (w.alloc (.cells old t)) := by
  refine wpList_plain hgd fun _ hK => ?_
  refine wp_store_row ty x y ho w.heap.size cells hx hy t old (heap_alloc_new w _) hi hold h1 ?_
  rw [setRow_alloc]
  exact hK _ _ h
end

theorem ret_int {k : IntKind} {a b : Int} (h : a = b) : Ending.returned (.int k a) = .returned (.int k b) := by rw [h]
theorem ret_bool {a b : Bool} (h : a = b) : Ending.returned (.bool a) = .returned (.bool b) := by rw [h]
end

section
/-- A reader: the bytes that are left; whether nothing failed. -/
structure Rd where
  l : List UInt8
  good : Bool

abbrev Rd.bad : Rd := ⟨[], false⟩

/-- OK, or ErrCodec. -/
def Rd.End (r : Rd) : Int := match r.good, r.l with | true, [] => 0 | _, _ => 80

/-- The byte c at place i ends the reading of a number. -/
def rdBad (i : Nat) (c : UInt8) : Bool := decide (9 < i) || (decide (18446744073709551616 ≤ c.toNat % 128 * 2 ^ (7 * i)) || (decide (c.toNat = 0) && decide (0 < i)))

/-- A number: what was met of it is n, at place i. -/
def rdGo : Nat → Nat → List UInt8 → Option (Nat × Nat)
  | _, _, [] => none
  | i, n, c :: cs => if rdBad i c = true then none else if c.toNat < 128 then some (n + c.toNat % 128 * 2 ^ (7 * i), i + 1) else rdGo (i + 1) (n + c.toNat % 128 * 2 ^ (7 * i)) cs

def Rd.N (r : Rd) (most : Nat) : Nat × Rd :=
  if r.good = true then
    match rdGo 0 0 r.l with
    | some (v, u) => if v ≤ most then (v, ⟨r.l.drop u, true⟩) else (0, Rd.bad)
    | none => (0, Rd.bad)
  else (0, Rd.bad)

theorem Rd.N_none {l : List UInt8} {most : Nat} (h : rdGo 0 0 l = none) : Rd.N ⟨l, true⟩ most = (0, Rd.bad) := by simp [Rd.N, h]
theorem Rd.N_some {l : List UInt8} {most v u : Nat} (h : rdGo 0 0 l = some (v, u)) (hm : v ≤ most) : Rd.N ⟨l, true⟩ most = (v, ⟨l.drop u, true⟩) := by simp [Rd.N, h, hm]
theorem Rd.N_great {l : List UInt8} {most v u : Nat} (h : rdGo 0 0 l = some (v, u)) (hm : ¬ v ≤ most) : Rd.N ⟨l, true⟩ most = (0, Rd.bad) := by simp [Rd.N, h, hm]
theorem rdGo_nil (i n : Nat) : rdGo i n [] = none := rfl
theorem rdGo_bad {i n : Nat} {c : UInt8} {cs : List UInt8} (h : rdBad i c = true) : rdGo i n (c :: cs) = none := by simp [rdGo, h]
theorem rdGo_last {i n : Nat} {c : UInt8} {cs : List UInt8} (h : rdBad i c = false) (h1 : c.toNat < 128) : rdGo i n (c :: cs) = some (n + c.toNat % 128 * 2 ^ (7 * i), i + 1) := by simp [rdGo, h, h1]
theorem rdGo_on {i n : Nat} {c : UInt8} {cs : List UInt8} (h : rdBad i c = false) (h1 : ¬ c.toNat < 128) : rdGo i n (c :: cs) = rdGo (i + 1) (n + c.toNat % 128 * 2 ^ (7 * i)) cs := by simp [rdGo, h, h1]

/-- The arithmetic of a round: the shifted part fits, or its quotient is less. -/
theorem part_fits {y k : Nat} (h : y % 128 * 2 ^ (7 * k) < 18446744073709551616) : ((y : Int) % 128 * 2 ^ (7 * k)) % 18446744073709551616 = ((y % 128 * 2 ^ (7 * k) : Nat) : Int) := by
  have e : ((y : Int) % 128 * 2 ^ (7 * k)) = ((y % 128 * 2 ^ (7 * k) : Nat) : Int) := by simp
  rw [e]; omega
theorem part_back (y k : Nat) : ((y % 128 * 2 ^ (7 * k) : Nat) : Int) / 2 ^ (7 * k) = (y : Int) % 128 := by
  have e : ((2 : Int) ^ (7 * k)) = ((2 ^ (7 * k) : Nat) : Int) := by simp
  rw [e, ← Int.natCast_ediv, Nat.mul_div_cancel _ (Nat.two_pow_pos _)]; simp
theorem part_over {y k : Nat} (h : 18446744073709551616 ≤ y % 128 * 2 ^ (7 * k)) : ∃ q : Nat, (((y : Int) % 128 * 2 ^ (7 * k)) % 18446744073709551616) / 2 ^ (7 * k) = (q : Int) ∧ q < y % 128 := by
  have e : ((y : Int) % 128 * 2 ^ (7 * k)) = ((y % 128 * 2 ^ (7 * k) : Nat) : Int) := by simp
  have e2 : ((2 : Int) ^ (7 * k)) = ((2 ^ (7 * k) : Nat) : Int) := by simp
  refine ⟨(y % 128 * 2 ^ (7 * k)) % 18446744073709551616 / 2 ^ (7 * k), by rw [e, e2]; simp, ?_⟩
  rw [Nat.div_lt_iff_lt_mul (Nat.two_pow_pos _)]
  omega
theorem part_lt {y k v : Nat} (hv : v < 2 ^ (7 * k)) : v + y % 128 * 2 ^ (7 * k) < 2 ^ (7 * (k + 1)) := by
  have e : 2 ^ (7 * (k + 1)) = 128 * 2 ^ (7 * k) := by rw [Nat.mul_add, Nat.pow_add]; omega
  have h1 : (y % 128 + 1) * 2 ^ (7 * k) ≤ 128 * 2 ^ (7 * k) := Nat.mul_le_mul_right _ (by omega)
  rw [e]
  have h2 : (y % 128 + 1) * 2 ^ (7 * k) = y % 128 * 2 ^ (7 * k) + 2 ^ (7 * k) := by rw [Nat.add_mul]; omega
  omega
theorem part_or {y k v : Nat} (hv : v < 2 ^ (7 * k)) : v ||| y % 128 * 2 ^ (7 * k) = v + y % 128 * 2 ^ (7 * k) := by
  rw [Nat.or_comm, Nat.add_comm, Nat.mul_comm, ← Nat.two_pow_add_eq_or_of_lt hv]
theorem pow_le_63 {k : Nat} (hk : k ≤ 9) : 2 ^ (7 * k) ≤ 9223372036854775808 := Nat.le_trans (Nat.pow_le_pow_right (by omega) (show 7 * k ≤ 63 by omega)) (by decide)
theorem part_zero {y k : Nat} (h : y = 0) : y % 128 * 2 ^ (7 * k) = 0 := by subst h; simp
theorem rdBad_iff (i : Nat) (c : UInt8) : rdBad i c = true ↔ 9 < i ∨ 18446744073709551616 ≤ c.toNat % 128 * 2 ^ (7 * i) ∨ (c.toNat = 0 ∧ 0 < i) := by simp [rdBad]
theorem rdBad_not (i : Nat) (c : UInt8) : rdBad i c = false ↔ i ≤ 9 ∧ c.toNat % 128 * 2 ^ (7 * i) < 18446744073709551616 ∧ (c.toNat = 0 → i = 0) := by
  rw [← Bool.not_eq_true, rdBad_iff]; omega

/-- A number's bytes. -/
def encN (n : Nat) : List UInt8 := if n < 128 then [UInt8.ofNat n] else UInt8.ofNat (n % 128 + 128) :: encN (n / 128)
termination_by n
decreasing_by omega

theorem encN_small {n : Nat} (h : n < 128) : encN n = [UInt8.ofNat n] := by rw [encN, if_pos h]
theorem encN_great {n : Nat} (h : ¬ n < 128) : encN n = UInt8.ofNat (n % 128 + 128) :: encN (n / 128) := by rw [encN, if_neg h]
theorem encN_len_pos (n : Nat) : 0 < (encN n).length := by rw [encN]; split <;> simp
theorem encN_len (k : Nat) : ∀ n, n < 128 ^ (k + 1) → (encN n).length ≤ k + 1 := by
  induction k with
  | zero => intro n h; rw [encN_small (by simpa using h)]; simp
  | succ k ih =>
    intro n h
    by_cases hn : n < 128
    · rw [encN_small hn]; simp
    · rw [encN_great hn, List.length_cons]
      have := ih (n / 128) (by rw [Nat.div_lt_iff_lt_mul (by omega)]; rw [Nat.pow_succ] at h; exact h)
      omega
theorem encN_len64 {n : Nat} (h : n < 18446744073709551616) : (encN n).length ≤ 10 := encN_len 9 n (Nat.lt_of_lt_of_le h (by decide))
theorem byte_or (n : Nat) : n % 256 ||| 128 = n % 128 + 128 := by
  have h : n % 256 = 128 * (n % 256 / 128) + n % 256 % 128 := by omega
  have h2 : n % 256 / 128 = 0 ∨ n % 256 / 128 = 1 := by omega
  have e : n % 256 % 128 = n % 128 := by omega
  have hlt : n % 128 < 2 ^ 7 := by omega
  have hb : ∀ x, x < 2 ^ 7 → x ||| 128 = x + 128 := fun x hx => by
    rw [Nat.or_comm, Nat.add_comm]
    exact (Nat.two_pow_add_eq_or_of_lt hx 1).symm
  rcases h2 with h2 | h2
  · rw [h, h2, e, Nat.mul_zero, Nat.zero_add]; exact hb _ hlt
  · rw [h, h2, e, Nat.mul_one, Nat.add_comm 128, ← hb _ hlt, Nat.or_assoc, Nat.or_self]
theorem ofNat_toNat_lt {n : Nat} (h : n < 256) : (UInt8.ofNat n).toNat = n := by
  rw [UInt8.toNat_ofNat']; exact Nat.mod_eq_of_lt h

theorem encN_300 : [] ++ [300].flatMap encN = [172, 2] := by
  simp only [List.flatMap_cons, List.flatMap_nil, List.append_nil, List.nil_append]
  rw [encN_great (by omega), encN_small (by omega)]
  rfl
theorem rd_awake : Rd.N ⟨[128, 0], true⟩ 500 = (0, Rd.bad) := Rd.N_none (by
  rw [rdGo_on (by decide) (by decide), rdGo_bad (by decide)])
end

section
open Go.RowKit

theorem el_u8w : ElemOk Try.prog 22 5 (.int .u8 0) 1 1 := .mk Try.underlying22 (by kernel_rfl) rfl (by omega) (by omega)

/-- A writer in block b, with its bytes so far. -/
def WrAt (w : World) (F : Nat → Prop) (b : Nat) (l : List UInt8) : Prop :=
  F b ∧ ∃ A n c, Blk w b 50 #[.slice A n c] ∧ Own w 5 1 A n c (l.map bv) ∧ ∀ k, inB A k → F k

theorem WrAt.more {w : World} {F G : Nat → Prop} {b : Nat} {l : List UInt8} (h : WrAt w F b l) (hs : ∀ k, F k → G k) : WrAt w G b l := by
  obtain ⟨h1, A, n, c, h2, h3, h4⟩ := h
  exact ⟨hs _ h1, A, n, c, h2, h3, fun k hk => hs _ (h4 k hk)⟩

theorem WrAt.fr {w w' : World} {F S : Nat → Prop} {b : Nat} {l : List UInt8} (h : WrAt w F b l) (hf : Fr S w w') (hd : ∀ k, k < w.heap.size → F k → ¬ S k) : WrAt w' F b l := by
  obtain ⟨h1, A, n, c, h2, h3, h4⟩ := h
  exact ⟨h1, A, n, c, h2.fr hf (hd _ h2.lt h1), h3.fr hf fun k hk => hd _ (h3.lt hk) (h4 k hk), h4⟩

theorem WrAt.new (w : World) : WrAt (w.alloc (.cells #[.slice none 0 0] 50)) (fun k => k = w.heap.size) w.heap.size [] :=
  ⟨rfl, none, 0, 0, Blk.new _ _ _, Own.nil _ _ _, fun k hk => absurd hk (inB_none k)⟩

def u64v (n : Nat) : Value := .int .u64 (n : Int)

/-- Behind an append of some bytes that lie in w, and the store into the writer. -/
theorem wr_step {w w1 : World} {F : Nat → Prop} {b : Nat} {l news : List UInt8} {A A1 : Option Addr} {n c c1 m : Nat}
    (hF : F b) (hB : Blk w b 50 #[.slice A n c]) (hO : Own w 5 1 A n c (l.map bv)) (hA : ∀ k, inB A k → F k)
    (hown1 : Own w1 5 1 A1 m c1 (l.map bv ++ news.map bv)) (hf1 : Fr (inB A) w w1) (hin1 : ∀ k, inB A1 k → inB A k ∨ w.heap.size ≤ k) :
    Fr F w (w1.setCell ⟨b, 0, none⟩ (.slice A1 m c1)) ∧ WrAt (w1.setCell ⟨b, 0, none⟩ (.slice A1 m c1)) (fun k => F k ∨ w.heap.size ≤ k) b (l ++ news) := by
  have hb1 : ¬ inB A b := hO.ne_blk hB (by decide)
  have hn : ¬ inB A1 b := fun h => by
    rcases hin1 b h with h | h
    · exact hb1 h
    · have := hB.lt; omega
  refine ⟨(hf1.mono fun k _ hk => hA k hk).set_ (.inl hF) _ _, .inl hF, A1, m, c1, by simpa using (hB.fr hf1 hb1).set_ 0 _, ?_, fun k hk => ?_⟩
  · rw [List.map_append]; exact hown1.set_ hn _ _
  · rcases hin1 k hk with h | h
    · exact .inl (hA k h)
    · exact .inr h

set_option maxRecDepth 100000 in
set_option maxHeartbeats 1000000 in
theorem WN_any (w : World) (F G : Nat → Prop) (b : Nat) (l : List UInt8) (A : Option Addr) (m c : Nat) (ns : List Nat) (h : WrAt w F b l) (hr : Arr w G 1 A m (ns.map u64v)) (hd : ∀ k, F k → ¬ G k) (hns : ∀ x ∈ ns, x < 18446744073709551616)
    (hroom : l.length + 10 * m ≤ 70368744177664) :
    Calls Try.prog 30 #[.pointer (some ⟨b, 0, none⟩), .slice A m c] w fun e w' => e = .returned (.tuple #[]) ∧ Fr F w w' ∧ WrAt w' (fun k => F k ∨ w.heap.size ≤ k) b (l ++ ns.flatMap encN) := by
  have hm : ns.length = m := by have := hr.1; simpa using this
  have Hm := Lib.hid hm
  clear hm
  go_enter Try.func30, Try.ntmps30
  go_wp2
  obtain ⟨w0, rfl⟩ : ∃ w0 : World, w0 = w := ⟨_, rfl⟩
  have hmb : m ≤ 7036874417766 := by omega
  go_loopw [10] (fun i wr => ∃ k : Nat, k ≤ m ∧ i = .int .i64 k ∧ WrAt wr (fun j => F j ∨ w0.heap.size ≤ j) b (l ++ (ns.take k).flatMap encN) ∧ Fr F w0 wr ∧ (l ++ (ns.take k).flatMap encN).length ≤ l.length + 10 * k) (fun i _ => m - (intOf i).toNat)
  case atStart => exact ⟨0, by omega, rfl, by simpa using h.more fun _ => .inl, Fr.refl _ _, by simp⟩
  case round =>
    obtain ⟨k, hk, rfl, hW, hF0, hlen⟩ := hrel
    obtain ⟨w1, rfl⟩ : ∃ w1 : World, w1 = wr := ⟨_, rfl⟩
    by_cases hkm : k < m
    · have hrw : Arr w1 G 1 A m (ns.map u64v) := (hr.fr hF0 fun k hG hF => hd k hF hG)
      obtain ⟨bb, o, u, rfl, hGb, hu, hcell⟩ := hrw.at1 hkm
      have hkl : k < ns.length := by rw [Hm.out]; exact hkm
      have hu' : u = .int .u64 (ns[k] : Int) := by
        rw [List.getElem?_map, List.getElem?_eq_getElem hkl] at hu
        simpa [u64v] using hu.symm
      have hn0 : ns[k] < 18446744073709551616 := hns _ (List.getElem_mem _)
      have Htake : Hid (l ++ (ns.take (k + 1)).flatMap encN = l ++ (ns.take k).flatMap encN ++ encN ns[k]) := by
        show _ = _
        rw [List.take_succ_eq_append_getElem hkl, List.flatMap_append]; simp
      subst hu'
      generalize ns[k] = n0 at *
      generalize l ++ (ns.take k).flatMap encN = l1 at *
      clear hu hrw
      have hl10 := encN_len64 hn0
      go_wp2
      go_loopw [5] (fun v wi => ∃ (cur : Nat) (done : List UInt8), v = .int .u64 cur ∧ cur ≤ n0 ∧ done ++ encN cur = encN n0 ∧ WrAt wi (fun j => F j ∨ w0.heap.size ≤ j) b (l1 ++ done) ∧ Fr F w0 wi) (fun v _ => (intOf v).toNat)
      case atStart => exact ⟨n0, [], rfl, Nat.le_refl _, rfl, by simpa using hW, hF0⟩
      case round =>
        rename_i wi _ _ _ _ _ _
        obtain ⟨cur, done, rfl, hcur, hdone, hWi, hFi⟩ := hrel
        obtain ⟨w2, rfl⟩ : ∃ w2 : World, w2 = wr := ⟨_, rfl⟩
        have Hdone := Lib.hid hdone
        clear hdone
        obtain ⟨hFb, A2, n2, c2, hB2, hO2, hA2⟩ := hWi
        have hc2 := hB2.cell 0
        simp at hc2
        have hfc2 := hB2.frozen 0
        have hlen2 : n2 = (l1 ++ done).length := by have := hO2.len; simpa using this.symm
        have hdl : (l1 ++ done).length + (encN cur).length ≤ l.length + 10 * k + 10 := by
          have := congrArg List.length Hdone.out
          rw [List.length_append] at this
          rw [List.length_append]
          omega
        have hn2 : n2 + 1 ≤ 70368744177664 := by have := encN_len_pos cur; omega
        clear hlen2 hdl
        have hor : bits .or .u8 ((cur : Int) % 256) 128 = (cur : Int) % 128 + 128 := by
          have h1 := u8_or_nat (cur % 256) 128 (by omega) (by omega)
          rw [byte_or] at h1
          simpa using h1
        by_cases h128 : 128 ≤ cur
        · have Hnew : Hid ([Value.int .u8 ((cur : Int) % 128 + 128)] = [UInt8.ofNat (cur % 128 + 128)].map bv) := by
            show _ = _
            simp only [List.map_cons, List.map_nil, bv]
            rw [ofNat_toNat_lt (by omega)]
            simp
          have Henc := Lib.hid (encN_great (n := cur) (by omega))
          go_wp2_with (at_builtin; refine wpList_app _ el_u8w rfl (.tmp 22) (.tmp 26) rfl A2 n2 c2 _ rfl (hO2.alloc _) _ _ 1 1 _ rfl (Arr.one _ _ _) (by simp [Value.oneCell']) (by omega) ?_; intro A3 c3 w3 hown3 hf3 hin3 hnil3; rw [Hnew.out] at hown3; have hc3 := hf3.cell' (p := ⟨b, 0, none⟩) (hB2.alloc _).cell_0 (hO2.ne_blk hB2 (by decide)); have hfz3 := ((hB2.alloc _).fr hf3 (hO2.ne_blk hB2 (by decide))).frozen 0)
          go_roundw
          case rel =>
            obtain ⟨hs1, hs2⟩ := wr_step (F := fun j => F j ∨ w0.heap.size ≤ j) hFb (hB2.alloc _) (hO2.alloc _) hA2 hown3 hf3 (fun k hk => (hin3 k hk).imp id (fun h => by simp at h ⊢; omega))
            exact ⟨cur / 128, done ++ [UInt8.ofNat (cur % 128 + 128)], by go_num, by omega, by rw [← Hdone.out, Henc.out]; simp, by
              rw [← List.append_assoc]
              exact hs2.more fun j hj => hj.elim id fun h => .inr (by have := hFi.size; simp at h; omega), hFi.trans (((Fr.refl (fun j => F j ∨ w0.heap.size ≤ j) _).alloc _).trans hs1 fun _ _ h => h) fun j hj hjs => hjs.elim id fun h => by omega⟩
          case measure => simp [intOf]; omega
        · have Hnew : Hid ([Value.int .u8 (cur : Int)] = [UInt8.ofNat cur].map bv) := by
            show _ = _
            simp only [List.map_cons, List.map_nil, bv]
            rw [ofNat_toNat_lt (by omega)]
          have Henc := Lib.hid (encN_small (n := cur) (by omega))
          go_wp2_with (at_builtin; refine wpList_app _ el_u8w rfl (.tmp 34) (.tmp 37) rfl A2 n2 c2 _ rfl (hO2.alloc _) _ _ 1 1 _ rfl (Arr.one _ _ _) (by simp [Value.oneCell']) (by omega) ?_; intro A3 c3 w3 hown3 hf3 hin3 hnil3; have hc3 := hf3.cell' (p := ⟨b, 0, none⟩) (hB2.alloc _).cell_0 (hO2.ne_blk hB2 (by decide)); have hfz3 := ((hB2.alloc _).fr hf3 (hO2.ne_blk hB2 (by decide))).frozen 0)
          rw [Hnew.out] at hown3
          obtain ⟨hs1, hs2⟩ := wr_step (F := fun j => F j ∨ w0.heap.size ≤ j) hFb (hB2.alloc _) (hO2.alloc _) hA2 hown3 hf3 (fun k hk => (hin3 k hk).imp id (fun h => by simp at h ⊢; omega))
          go_roundw
          case rel =>
            exact ⟨k + 1, by omega, by go_num, by
              rw [Htake.out, ← Hdone.out, Henc.out, ← List.append_assoc]
              exact hs2.more fun j hj => hj.elim id fun h => .inr (by have := hFi.size; simp at h; omega), hFi.trans (((Fr.refl (fun j => F j ∨ w0.heap.size ≤ j) _).alloc _).trans hs1 fun _ _ h => h) fun j hj hjs => hjs.elim id fun h => by omega, by rw [Htake.out, List.length_append]; omega⟩
          case measure => simp [intOf]; omega
    · have hke : k = m := by omega
      subst hke
      have Hw : WrAt w1 (fun j => F j ∨ w0.heap.size ≤ j) b (l ++ ns.flatMap encN) := by rwa [List.take_of_length_le (by rw [Hm.out]; exact Nat.le_refl _)] at hW
      go_wp2
      go_end0
      exact ⟨rfl, hF0, Hw⟩

set_option maxHeartbeats 400000 in
theorem WN_nil (w : World) (v : Value) : Calls Try.prog 30 #[.pointer none, v] w fun e w' => e = .returned (.tuple #[]) ∧ w = w' := by
  go_enter Try.func30, Try.ntmps30
  go_wp2
  refine bodyPost_ret (results_none rfl _ _ _) rfl ?_
  exact ⟨rfl, rfl⟩

set_option maxHeartbeats 400000 in
theorem WBytes_any (w : World) (F : Nat → Prop) (b : Nat) (l : List UInt8) (h : WrAt w F b l) (hroom : l.length ≤ 70368744177664) :
    Calls Try.prog 31 #[.pointer (some ⟨b, 0, none⟩)] w fun e w' => ∃ A c, e = .returned (.slice A l.length c) ∧ Fr NoB w w' ∧ Own w' 5 1 A l.length c (l.map bv) ∧ ∀ k, inB A k → w.heap.size ≤ k := by
  obtain ⟨hF, A, n, c, hB, hO, hA⟩ := h
  have hc := hB.cell_0
  have hn : l.length = n := by have := hO.len; simpa using this
  subst hn
  go_enter Try.func31, Try.ntmps31
  go_wp2_with (at_builtin; refine wpList_app _ el_u8w rfl (.const (.slice none 0 0)) (.tmp 8) rfl none 0 0 [] rfl (Own.nil _ _ _) _ _ _ _ _ rfl (hO.arr fun k _ hk => hA k hk) (bv_one l) (by omega) ?_; intro A1 c1 w1 hown1 hf1 hin1 hnil1)
  go_ret
  refine ⟨A1, c1, rfl, hf1.mono fun k _ hk => inB_none k hk, by simpa using hown1, fun k hk => ?_⟩
  rcases hin1 k hk with h | h
  · exact absurd h (inB_none k)
  · omega

set_option maxHeartbeats 400000 in
theorem WBytes_nil (w : World) : Calls Try.prog 31 #[.pointer none] w fun e w' => e = .returned (.slice none 0 0) ∧ w = w' := by
  go_enter Try.func31, Try.ntmps31
  go_wp2
  go_ret
  exact ⟨rfl, rfl⟩
end

section
open Go.RowKit

/-- An id: 32 bytes. -/
abbrev Id32 := { l : List UInt8 // l.length = 32 }
def idCells (x : Id32) : List Value := x.1.map bv
theorem idCells_len (x : Id32) : (idCells x).length = 32 := by simp [idCells, x.2]
def IdR (y : List Value) (x : Id32) : Prop := y = idCells x
def idsFlat (l : List Id32) : List UInt8 := l.flatMap (·.1)

/-- A slice of bytes als an element. -/
def BytR (w : World) (F : Nat → Prop) (y : List Value) (l : List UInt8) : Prop := ∃ A n c, y = [.slice A n c] ∧ n ≤ c ∧ c ≤ maxLen ∧ Byt w F A n l
theorem BytR.fr {w w' : World} {F S : Nat → Prop} {y : List Value} {l : List UInt8} (h : BytR w F y l) (hf : Fr S w w') (hd : ∀ k, F k → ¬ S k) : BytR w' F y l := by
  obtain ⟨A, n, c, h1, h2, h3, h4⟩ := h
  exact ⟨A, n, c, h1, h2, h3, h4.fr hf hd⟩

/-- A slice of one slice of bytes, just made. -/
theorem ArrOf.one_bytes {w : World} {F G : Nat → Prop} {A : Option Addr} {n c : Nat} {l : List UInt8} (h : Byt w F A n l) (h1 : n ≤ c) (h2 : c ≤ maxLen) (t : TypeId) (hF : ∀ k, k < w.heap.size → F k → G k) (hG : G w.heap.size) :
    ArrOf (BytR (w.alloc (.cells #[.slice A n c] t)) G) (w.alloc (.cells #[.slice A n c] t)) G 1 (some ⟨w.heap.size, 0, none⟩) 1 [l] := by
  refine ⟨rfl, fun _ => ⟨_, _, rfl, hG, fun k a ha => ?_⟩⟩
  match k, ha with
  | 0, ha =>
    simp at ha
    subst ha
    refine ⟨[.slice A n c], rfl, ⟨A, n, c, rfl, h1, h2, (h.more hF).alloc _⟩, fun j u hu => ?_⟩
    have := cell_one_new w (.slice A n c) t j u hu
    rw [Addr.add_lit] at this
    simpa using this

/-- Lists of numbers, each with its bytes ahead. -/
def textBytes (l : List UInt8) : List UInt8 := encN l.length ++ l
def idsBytes (l : List Id32) : List UInt8 := encN l.length ++ idsFlat l

theorem WrAt.tight {w : World} {F : Nat → Prop} {b : Nat} {l : List UInt8} (h : WrAt w F b l) : WrAt w (fun j => F j ∧ j < w.heap.size) b l := by
  obtain ⟨h1, A, n, c, h2, h3, h4⟩ := h
  exact ⟨⟨h1, h2.lt⟩, A, n, c, h2, h3, fun k hk => ⟨h4 k hk, h3.lt hk⟩⟩

set_option maxHeartbeats 400000 in
theorem WRaw_any (w : World) (F G : Nat → Prop) (b : Nat) (l x : List UInt8) (A : Option Addr) (m c : Nat) (h : WrAt w F b l) (hr : Byt w G A m x) (hroom : l.length + m ≤ 70368744177664) :
    Calls Try.prog 45 #[.pointer (some ⟨b, 0, none⟩), .slice A m c] w fun e w' => e = .returned (.tuple #[]) ∧ Fr F w w' ∧ WrAt w' (fun k => F k ∨ w.heap.size ≤ k) b (l ++ x) := by
  obtain ⟨hF, A2, n2, c2, hB, hO, hA⟩ := h
  have hc2 := hB.cell_0
  have hn : l.length = n2 := by have := hO.len; simpa using this
  subst hn
  go_enter Try.func45, Try.ntmps45
  go_wp2_with (at_builtin; refine wpList_app _ el_u8w rfl (.tmp 10) (.tmp 11) rfl A2 _ c2 _ rfl hO _ _ m c _ rfl hr (bv_one x) (by omega) ?_; intro A3 c3 w3 hown3 hf3 hin3 hnil3; have hc3 := hf3.cell' (p := ⟨b, 0, none⟩) hB.cell_0 (hO.ne_blk hB (by decide)); have hfz3 := (hB.fr hf3 (hO.ne_blk hB (by decide))).frozen 0)
  go_end0
  obtain ⟨hs1, hs2⟩ := wr_step hF hB hO hA hown3 hf3 (fun k hk => (hin3 k hk).imp id (fun h => by omega))
  exact ⟨rfl, hs1, hs2⟩

set_option maxHeartbeats 400000 in
theorem WRaw_nil (w : World) (v : Value) : Calls Try.prog 45 #[.pointer none, v] w fun e w' => e = .returned (.tuple #[]) ∧ w = w' := by
  go_enter Try.func45, Try.ntmps45
  go_wp2
  go_end0
  exact ⟨rfl, rfl⟩

set_option maxRecDepth 100000 in
set_option maxHeartbeats 1000000 in
theorem WText_any (w : World) (F G : Nat → Prop) (b : Nat) (l : List UInt8) (A : Option Addr) (m c : Nat) (ts : List (List UInt8)) (h : WrAt w F b l) (hr : ArrOf (BytR w G) w G 1 A m ts) (hd : ∀ k, F k → ¬ G k) (hG : ∀ k, G k → k < w.heap.size)
    (hroom : l.length + (ts.flatMap textBytes).length + 10 ≤ 70368744177664) (hm : m ≤ 70368744177664) :
    Calls Try.prog 46 #[.pointer (some ⟨b, 0, none⟩), .slice A m c] w fun e w' => e = .returned (.tuple #[]) ∧ Fr F w w' ∧ WrAt w' (fun k => F k ∨ w.heap.size ≤ k) b (l ++ ts.flatMap textBytes) := by
  go_enter Try.func46, Try.ntmps46
  obtain ⟨w0, rfl⟩ : ∃ w0 : World, w0 = w := ⟨_, rfl⟩
  go_wp2
  go_loopw [8] (fun i wr => ∃ k : Nat, k ≤ m ∧ i = .int .i64 k ∧ WrAt wr (fun j => F j ∨ w0.heap.size ≤ j) b (l ++ (ts.take k).flatMap textBytes) ∧ Fr F w0 wr) (fun i _ => m - (intOf i).toNat)
  case atStart => exact ⟨0, by omega, rfl, by simpa using h.more fun _ => .inl, Fr.refl _ _⟩
  case round =>
    obtain ⟨k, hk, rfl, hW, hF0⟩ := hrel
    obtain ⟨w1, rfl⟩ : ∃ w1 : World, w1 = wr := ⟨_, rfl⟩
    have Hm := Lib.hid hr.len
    by_cases hkm : k < m
    · have hrw := hr.fr hF0 (fun k hG hF => hd k hF hG) (R' := BytR w1 G) fun y a _ hy => hy.fr hF0 fun k hG hF => hd k hF hG
      obtain ⟨bb, o, t, y, rfl, hGb, ht, hy, ⟨At, nt, ct, rfl, hnc, hcm, hbt⟩, hcell⟩ := hrw.at_ hkm
      have hc := hcell 0 _ rfl
      simp at hc
      have hkl : k < ts.length := by rw [Hm.out]; exact hkm
      have Htake : Hid (l ++ (ts.take (k + 1)).flatMap textBytes = l ++ (ts.take k).flatMap textBytes ++ textBytes t) := by
        show _ = _
        rw [List.take_succ_eq_append_getElem hkl, List.flatMap_append]
        rw [List.getElem?_eq_getElem hkl] at ht
        injection ht with ht
        rw [ht]; simp
      have hle : (l ++ (ts.take k).flatMap textBytes).length + (textBytes t).length ≤ l.length + (ts.flatMap textBytes).length := by
        have e : ts.flatMap textBytes = (ts.take (k + 1)).flatMap textBytes ++ (ts.drop (k + 1)).flatMap textBytes := by rw [← List.flatMap_append, List.take_append_drop]
        have := congrArg List.length Htake.out
        have e2 := congrArg List.length e
        simp only [List.length_append] at this e2 ⊢
        omega
      have htl := hbt.len
      have htb : (textBytes t).length = (encN nt).length + nt := by simp [textBytes, htl]
      have hnt : nt < 18446744073709551616 := by unfold maxLen at hcm; omega
      have Htl := Lib.hid htl
      have hp := encN_len_pos nt
      generalize l ++ (ts.take k).flatMap textBytes = l1 at *
      clear ht hrw hcell htl
      go_wp2_with fail
      refine (WN_any _ (fun j => (F j ∨ w0.heap.size ≤ j) ∧ j < w1.heap.size) (fun k => k = w1.heap.size) b l1 _ 1 1 [nt] (hW.tight.fr ((Fr.refl NoB _).alloc _) (fun _ _ _ h => h)) ?_ (fun k hk => by omega) (by simpa using hnt) (by omega)).mono ?_
      · have := Arr.one w1 (u64v nt) 23
        simpa [u64v] using this
      rintro e w2 ⟨rfl, hf2, hW2⟩
      have s0 := hF0.size
      have s2 := hf2.size
      simp only [World.size_alloc] at s2
      have hbt2 := (hbt.alloc (.cells #[.int .u64 (nt : Int)] 23)).fr hf2 (fun k hG' hF' => hF'.1.elim (fun h => hd k h hG') (fun h => by have := hG k hG'; omega))
      simp only [List.flatMap_cons, List.flatMap_nil, List.append_nil] at hW2
      have hlen2 : (l1 ++ encN nt).length + nt ≤ 70368744177664 := by rw [List.length_append]; omega
      go_wp2_with fail
      refine (WRaw_any _ _ _ _ _ _ _ _ _ hW2 hbt2 hlen2).mono ?_
      rintro e w3 ⟨rfl, hf3, hW3⟩
      go_wp2
      go_roundw
      case rel =>
        refine ⟨k + 1, by omega, by go_num, ?_, ?_⟩
        · rw [Htake.out, textBytes, Htl.out, ← List.append_assoc]
          exact hW3.more fun j hj => by simp only [World.size_alloc] at hj; grind
        · exact ((hF0.alloc _).new hf2 fun j hj => hj.1).new hf3 fun j hj => by simp only [World.size_alloc] at hj; grind
      case measure => simp [intOf]; omega
    · have hke : k = m := by omega
      subst hke
      have Hw : WrAt w1 (fun j => F j ∨ w0.heap.size ≤ j) b (l ++ ts.flatMap textBytes) := by rwa [List.take_of_length_le (by rw [Hm.out]; exact Nat.le_refl _)] at hW
      go_wp2
      go_end0
      exact ⟨rfl, hF0, Hw⟩
end

section
open Go.RowKit
open Go.Maps (Keyed)
open Go.ChangeMaps Go.WideMaps Go.WideAt

section
variable {α : Type} [DecidableEq α] {P : Program} {k e t : TypeId} {w w' : World} {b : Nat} {kl : α → Lit} {f : Nat → DataW Unit} {l : List α}

/-- Block b of w is a map whose keys are l, in the order met; the i-th stands at f i. -/
def MapAt (P : Program) (k e : TypeId) (kl : α → Lit) (f : Nat → DataW Unit) (w : World) (b : Nat) (l : List α) : Prop :=
  ∃ D : DataW Unit, w.ownsMap P k (plainElem P e) b l.length D ∧ Maps.size D = l.length ∧ (∀ x, Maps.has D (kl x) = decide (x ∈ l)) ∧ (∀ (i : Nat) x z, l[i]? = some x → D.atKey (kl x) z = f i) ∧ ∀ x z, x ∉ l → D.atKey (kl x) z = z

theorem MapAt.new (w : World) : MapAt P k e kl f (w.alloc (.map #[] 0)) w.heap.size ([] : List α) :=
  ⟨.map [], World.ownsMap_made w P k _, rfl, fun x => by simp [Maps.has], fun i x z h => by simp at h, fun x z _ => rfl⟩
theorem MapAt.fr {S : Nat → Prop} (h : MapAt P k e kl f w b l) (hf : Fr S w w') (hb : ¬ S b) : MapAt P k e kl f w' b l := by
  obtain ⟨D, h1, h2⟩ := h
  have hlt := h1.lt
  obtain ⟨es, clock, q1, q2⟩ := h1
  exact ⟨D, ⟨es, clock, (hf.block b hlt hb).trans q1, q2⟩, h2⟩
theorem MapAt.lt (h : MapAt P k e kl f w b l) : b < w.heap.size := by
  obtain ⟨D, h1, h2⟩ := h
  exact h1.lt
theorem Fr.of_grown {b : Nat} (h : w.grownBy w' (some b)) : Fr (· = b) w w' :=
  ⟨h.os, h.tape, h.output, h.size, fun i hi hn => h.block i hi fun e => hn (by injection e)⟩
theorem MapAt.put (h : MapAt P k e kl f w b l) (K : Keyed P k) (ht : P.underlying t = some (.map k e)) (hinj : ∀ x y, kl x = kl y → x = y) {x : α} (hx : x ∉ l) {key val : Value} (hkey : keyOf P k key = some (kl x))
    (hv : plainElem P e val = some (f l.length, [])) (hn : l.length < maxLen) :
    ∃ w', (Instr.mapUpdate t (.map (some b)) key val).run P w = .ok () w' ∧ MapAt P k e kl f w' b (l ++ [x]) ∧ Fr (· = b) w w' := by
  obtain ⟨D, h1, h2, h3, h4, h5⟩ := h
  have htidy := h1.tidy K
  obtain ⟨w', hr, q1, q2⟩ := h1.update K ht hn hkey hv
  have hne : ∀ y, y ≠ x → kl y ≠ kl x := fun y hy he => hy (hinj _ _ he)
  refine ⟨w', hr, ⟨D.put (kl x) (f l.length), by simpa using q1, ?_, fun y => ?_, fun i y z hi => ?_, fun y z hy => ?_⟩, Fr.of_grown q2⟩
  · rw [Maps.size_put htidy, h3, decide_eq_false hx, h2]; simp
  · by_cases hy : y = x
    · subst hy
      rw [Maps.has_put_same htidy.isMap (K.key hkey)]; simp
    · rw [Maps.has_put_other (hne y hy), h3]
      simp [hy]
  · rcases Nat.lt_or_ge i l.length with hi' | hi'
    · rw [List.getElem?_append_left hi'] at hi
      have hyl := List.mem_of_getElem? hi
      rw [Maps.atKey_put_other (hne y fun e => hx (e ▸ hyl))]
      exact h4 i y z hi
    · have hie : i = l.length := by
        have := (List.getElem?_eq_some_iff.1 hi).1
        simp at this; omega
      subst hie
      rw [List.getElem?_append_right (Nat.le_refl _), Nat.sub_self] at hi
      injection hi with hi
      subst hi
      exact Maps.atKey_put_same htidy.isMap (K.key hkey) _ _
  · rw [List.mem_append, List.mem_singleton, not_or] at hy
    rw [Maps.atKey_put_other (hne y hy.2)]
    exact h5 y z hy.1
theorem MapAt.len (h : MapAt P k e kl f w b l) (ht : P.underlying t = some (.map k e)) (ty : TypeId) : (Builtin.len_ #[t] ty #[.map (some b)]).run P w = .ok (.int .i64 (l.length : Nat)) w := by
  obtain ⟨D, h1, h2, _⟩ := h
  have := h1.len ht ty
  rwa [h2] at this
end

theorem plainElem_bool_inv {P : Program} {e : TypeId} (he : P.underlying e = some .bool) {v : Value} {x : Bool} {ps : List MemPlace} (h : plainElem (H := Unit) P e v = some (.lit (.bool x), ps)) : v = .bool x := by
  unfold plainElem at h
  rw [he] at h
  cases v <;> simp at h
  rw [h.1]

/-! ### Texts -/
theorem string_keyed9 : Keyed Try.prog 9 := Maps.string_keyed Try.underlying9
/-- A set of texts. -/
def Met (w : World) (b : Nat) (l : List (List UInt8)) : Prop := MapAt Try.prog 9 4 (fun s : List UInt8 => Lit.string s) (fun _ => .lit (.bool true)) w b l
theorem Met.look {w : World} {b : Nat} {l : List (List UInt8)} (h : Met w b l) (s : List UInt8) (hs : s.length ≤ maxLen) :
    (Instr.lookup 160 (.map (some b)) (.string ⟨s.toArray⟩) false).run Try.prog w = .ok (.bool (decide (s ∈ l))) w := by
  obtain ⟨D, h1, h2, h3, h4, h5⟩ := h
  obtain ⟨v, ps, hr, hv⟩ := h1.lookup string_keyed9 Try.underlying160 (z := .bool false) (by kernel_rfl) (plainElem_bool Try.underlying4 false) (keyOf_string_mk (s := ⟨s.toArray⟩) Try.underlying9 (by show s.toArray.size ≤ _; simpa using hs))
  rw [hr]
  by_cases hm : s ∈ l
  · obtain ⟨i, hi⟩ := List.getElem?_of_mem hm
    have e : D.atKey (Lit.string (⟨s.toArray⟩ : ByteArray).data.toList) (.lit (.bool false)) = .lit (.bool true) := h4 i s _ hi
    rw [e] at hv
    rw [plainElem_bool_inv Try.underlying4 hv, decide_eq_true hm]
  · have e : D.atKey (Lit.string (⟨s.toArray⟩ : ByteArray).data.toList) (.lit (.bool false)) = .lit (.bool false) := h5 s _ hm
    rw [e] at hv
    rw [plainElem_bool_inv Try.underlying4 hv, decide_eq_false hm]
theorem Met.put {w : World} {b : Nat} {l : List (List UInt8)} (h : Met w b l) (s : List UInt8) (hs : s.length ≤ maxLen) (hx : s ∉ l) (hn : l.length < maxLen) :
    ∃ w', (Instr.mapUpdate 160 (.map (some b)) (.string ⟨s.toArray⟩) (.bool true)).run Try.prog w = .ok () w' ∧ Met w' b (l ++ [s]) ∧ Fr (· = b) w w' :=
  MapAt.put h string_keyed9 Try.underlying160 (fun x y e => by injection e) hx (keyOf_string_mk (s := ⟨s.toArray⟩) Try.underlying9 (by show s.toArray.size ≤ _; simpa using hs)) (plainElem_bool Try.underlying4 true) hn
theorem Met.fr {w w' : World} {S : Nat → Prop} {b : Nat} {l : List (List UInt8)} (h : Met w b l) (hf : Fr S w w') (hb : ¬ S b) : Met w' b l := MapAt.fr h hf hb
theorem Met.lt {w : World} {b : Nat} {l : List (List UInt8)} (h : Met w b l) : b < w.heap.size := MapAt.lt h

/-! ### Ids -/
theorem idLaid : laidOutB Try.prog = true := by kernel_rfl
theorem idRow : 74 < Try.prog.types.size := of_decide_eq_true (by kernel_rfl)
theorem id_keyed : Keyed Try.prog 74 := Keyed.of_law (deep_law_laid idLaid (m := 2) (by omega) idRow (by kernel_rfl) (by rw [Try.underlying74]))
theorem wf_u8 (n : Nat) (h : n < 256) : (Lit.int .u8 (n : Int)).wf = true := by
  simp only [Lit.wf, Bool.and_eq_true, decide_eq_true_eq]
  exact ⟨by show (0 : Int) ≤ _; omega, by show _ ≤ (255 : Int); omega⟩
theorem wf_i64 (n : Nat) (h : n ≤ 9223372036854775807) : (Lit.int .i64 (n : Int)).wf = true := by
  simp only [Lit.wf, Bool.and_eq_true, decide_eq_true_eq]
  exact ⟨by show (-9223372036854775808 : Int) ≤ _; omega, by show _ ≤ (9223372036854775807 : Int); omega⟩
theorem keyLits_u8 (m n : Nat) (h : n < 256) : Try.prog.keyLits (m + 1) 5 [.int .u8 (n : Int)] = some [.int .u8 (n : Int)] := by
  rw [Program.keyLits.eq_def]
  dsimp only
  rw [Try.underlying5]
  dsimp only
  exact if_pos ⟨rfl, wf_u8 n h⟩
theorem mapM_all {α β : Type} (g : α → Option β) : ∀ (l : List α), (∀ x ∈ l, ∃ y, g x = some y) → ∃ ys, l.mapM g = some ys
  | [], _ => ⟨[], rfl⟩
  | x :: l, h => by
    obtain ⟨y, hy⟩ := h x (List.mem_cons_self ..)
    obtain ⟨ys, hys⟩ := mapM_all g l fun z hz => h z (List.mem_cons_of_mem _ hz)
    exact ⟨y :: ys, by rw [List.mapM_cons, hy, hys]; rfl⟩
theorem id_key (x : Id32) : ∃ l, keyOf Try.prog 74 (.agg (idCells x).toArray) = some l := by
  have hl := idCells_len x
  have hk : Try.prog.keyType 74 = true := by kernel_rfl
  have hc : Try.prog.cellsOf 74 = 32 := by kernel_rfl
  have hc8 : Try.prog.cellsOf 5 = 1 := by kernel_rfl
  obtain ⟨m, hm⟩ : ∃ m, Try.prog.types.size = m + 1 := ⟨Try.prog.types.size - 1, by have := idRow; omega⟩
  have hf : (Value.agg (idCells x).toArray).formed Try.prog 74 = true := by
    simp [Value.formed, Try.underlying74, hc, hl]
  have hL : ∃ ls, Try.prog.keyLits (Try.prog.types.size + 1) 74 (idCells x) = some ls := by
    rw [hm]
    rw [Program.keyLits.eq_def]
    dsimp only
    rw [Try.underlying74]
    dsimp only
    rw [if_pos (by rw [hc, hl])]
    obtain ⟨ys, hys⟩ := mapM_all (fun i => Try.prog.keyLits (m + 1) 5 (((idCells x).drop (i * Try.prog.cellsOf 5)).take (Try.prog.cellsOf 5))) (List.range 32) fun i hi => by
      have hi := List.mem_range.1 hi
      have hix : i < x.1.length := by rw [x.2]; exact hi
      rw [hc8, Nat.mul_one]
      have e : ((idCells x).drop i).take 1 = [bv (x.1[i])] := by
        rw [List.drop_eq_getElem_cons (by rw [hl]; exact hi)]
        simp [idCells]
      rw [e, bv_eq]
      exact ⟨_, keyLits_u8 m _ (x.1[i]).toNat_lt⟩
    rw [hys]
    exact ⟨_, rfl⟩
  obtain ⟨ls, hls⟩ := hL
  refine ⟨.string (keyBytes ls), ?_⟩
  unfold keyOf
  simp only [Try.underlying74]
  rw [hk, hf]
  simp only [Bool.and_self, if_true]
  show ((Try.prog.keyLits (Try.prog.types.size + 1) 74 (idCells x).toArray.toList).map fun ls => Lit.string (keyBytes ls)) = _
  rw [List.toList_toArray, hls]
  rfl
noncomputable def idLit (x : Id32) : Lit := Classical.choose (id_key x)
theorem idLit_eq (x : Id32) : keyOf Try.prog 74 (.agg (idCells x).toArray) = some (idLit x) := Classical.choose_spec (id_key x)
theorem idCells_inj {x y : Id32} (h : idCells x = idCells y) : x = y := by
  apply Subtype.ext
  refine (List.map_inj_right ?_).1 h
  intro a c hac
  rw [bv_eq, bv_eq] at hac
  injection hac with _ hac
  exact UInt8.toNat_inj.1 (by omega)
theorem idLit_inj (x y : Id32) (h : idLit x = idLit y) : x = y := by
  have h2 := idLit_eq y
  rw [← h] at h2
  have := id_keyed.inj (idLit_eq x) h2
  have h3 := congrArg Array.toList (Value.agg.inj this)
  rw [List.toList_toArray, List.toList_toArray] at h3
  exact idCells_inj h3
/-- Numbers of ids, als they were met. -/
def MetIds (w : World) (b : Nat) (l : List Id32) : Prop := MapAt Try.prog 74 3 idLit (fun i => .lit (.int .i64 (i : Int))) w b l
theorem MetIds.look {w : World} {b : Nat} {l : List Id32} (h : MetIds w b l) (x : Id32) :
    ∃ c : Int, (Instr.lookup 151 (.map (some b)) (.agg (idCells x).toArray) true).run Try.prog w = .ok (.tuple #[.int .i64 c, .bool (decide (x ∈ l))]) w ∧ ∀ i : Nat, l[i]? = some x → c = (i : Int) := by
  obtain ⟨D, h1, h2, h3, h4, h5⟩ := h
  obtain ⟨v, ps, hr, hv⟩ := h1.look_ok id_keyed Try.underlying151 (z := .int .i64 0) (by kernel_rfl) (plainElem_int Try.underlying3 (by decide)) (idLit_eq x)
  obtain ⟨c, rfl, hc, hwc⟩ := plainElem_int_inv Try.underlying3 hv
  have hh : Maps.has D (idLit x) = decide (x ∈ l) := (h3 x).trans (decide_eq_decide.2 Iff.rfl)
  refine ⟨c, by rw [hr, hh], fun i hi => ?_⟩
  rw [h4 i x _ hi] at hc
  simp only [Prod.mk.injEq, DataW.lit.injEq, Lit.int.injEq, true_and] at hc
  exact hc.1.symm
theorem MetIds.put {w : World} {b : Nat} {l : List Id32} (h : MetIds w b l) (x : Id32) (hx : x ∉ l) (hn : l.length < maxLen) :
    ∃ w', (Instr.mapUpdate 151 (.map (some b)) (.agg (idCells x).toArray) (.int .i64 (l.length : Nat))).run Try.prog w = .ok () w' ∧ MetIds w' b (l ++ [x]) ∧ Fr (· = b) w w' :=
  MapAt.put h id_keyed Try.underlying151 idLit_inj hx (idLit_eq x) (plainElem_int Try.underlying3 (wf_i64 _ (by have := hn; unfold maxLen at this; omega))) hn
theorem MetIds.fr {w w' : World} {S : Nat → Prop} {b : Nat} {l : List Id32} (h : MetIds w b l) (hf : Fr S w w') (hb : ¬ S b) : MetIds w' b l := MapAt.fr h hf hb
theorem MetIds.lt {w : World} {b : Nat} {l : List Id32} (h : MetIds w b l) : b < w.heap.size := MapAt.lt h
end

section
open Go.RowKit

section
variable {P : Program}
theorem run_alloc_any (w : World) (ty : TypeId) (z : Value) (hz : (P.info? ty).bind (·.zero) = some z) :
    (Instr.alloc ty true (.tuple #[])).run P w = .ok (.pointer (some ⟨w.heap.size, 0, none⟩)) (w.alloc (.cells z.cells ty)) := by
  cases hq : P.info? ty with
  | none => rw [hq] at hz; cases hz
  | some i =>
    have h : i.zero = some z := by rw [hq] at hz; exact hz
    simp [Instr.alloc, zeroValue, typeInfo, hq, h, newVar, newRow]

/-- 'var x T', T a struct or an array, in memory: a new block of so many cells. -/
theorem wpList_alloc_any {ops : Array Oper} {rest : List Oper} {o : Oper} {a : Act} {w : World} {Q : Exit → Act → World → Prop} (hgd : o.guard = none) (ty : TypeId) (ho : o.op = .alloc ty) (n : Nat)
    (hz : ((P.info? ty).bind (·.zero)).map (·.cells.size) = some n)
    (h : ∀ z : Array Value, z.size = n → wpList P ops Q rest (a.put o.dst (.pointer (some ⟨w.heap.size, 0, none⟩))) (w.alloc (.cells z ty))) : wpList P ops Q (o :: rest) a w := by
  refine wpList_plain hgd fun _ hK => ?_
  cases hq : (P.info? ty).bind (·.zero) with
  | none => rw [hq] at hz; cases hz
  | some z =>
    have hs : z.cells.size = n := by rw [hq] at hz; injection hz
    unfold Oper.wp execOp
    simp only [ho, Sem.run_bind, run_alloc_any w ty z hq, Result.andThen_ok, Sem.run_pure]
    exact hK _ _ (h _ hs)
/-- 'wpList_store_new' with the size named. -/
theorem wpList_store_newN {ops : Array Oper} {rest : List Oper} {o : Oper} {a : Act} {w : World} {Q : Exit → Act → World → Prop} (hgd : o.guard = none) (ty : TypeId) (x y : Operand) (ho : o.op = .store ty x y) (n : Nat) (hi : (P.info? ty).map (·.size) = some n)
    (t : TypeId) (old : Array Value) (hold : old.size = n) (cells : Array Value) (hx : a.eval x = .pointer (some ⟨w.heap.size, 0, none⟩)) (hy : a.eval y = .agg cells) (hcs : cells.size = n) (h1 : cells.all (·.oneCell') = true)
    (h : wpList P ops Q rest (a.put o.dst undef) (w.alloc (.cells cells t))) : wpList P ops Q (o :: rest) a (w.alloc (.cells old t)) :=
  wpList_store_new hgd ty x y ho t old cells hx hy (by rw [hcs]; exact hi) (by rw [hold, hcs]) h1 h
end
end

section
open Go.RowKit

/-- The iterator g, with what it has captured: it turns blocks of U (and new ones), it hands each round x behind pre where G pre x; a round turns blocks of T, the loop's own record, and new ones; when all have come S holds, when a round has said 'no more' Sp. -/
def SeqG {α : Type} (n : Nat) (P : Program) (g : Nat) (lb : Array Value) (encs : α → Array Value) (U T : Nat → Prop) (G : List α → α → Prop) (S Sp : List α → World → Prop) (w : World) : Prop :=
  ∀ (l : Nat) (J Jx : List α → World → Prop) (W : World), Fr NoB w W → w.heap.size ≤ l → l < W.heap.size →
    (∀ pre A B, J pre A → Fr U A B → J pre B) → (∀ pre A B, Jx pre A → Fr U A B → Jx pre B) →
    (∀ pre x W1, J pre W1 → G pre x → W.heap.size ≤ W1.heap.size → YieldAt Fence.wide (n - 1) P l (encs x) W1 fun e W' =>
      (e = .returned (.bool true) ∧ J (pre ++ [x]) W' ∧ Fr (fun k => T k ∨ k = l) W1 W') ∨ (e = .returned (.bool false) ∧ Jx (pre ++ [x]) W' ∧ Fr (fun k => T k ∨ k = l) W1 W')) →
    J [] W →
    CallsIn Fence.wide n P g (#[.func (.yield l) #[] #[]] ++ lb) W fun e W' => (∃ v, e = .returned v) ∧ ((∃ xs, S xs W' ∧ J xs W') ∨ (∃ pre, Sp pre W' ∧ Jx pre W'))

/-- How a round may be left. -/
def postG {α : Type} (T : Nat → Prop) (I : List α → World → Prop) (Ix : Code → List α → World → Prop) (xs : List α) (W : World) : Exit → Act → World → Prop
  | .normal, _, W' => Fr T W W' ∧ I xs W'
  | .ret, _, W' => Fr T W W' ∧ Ix .ret xs W'
  | .exit id, _, W' => Fr T W W' ∧ Ix (.exit id) xs W'
  | .goto t, _, W' => Fr T W W' ∧ Ix (.goto t) xs W'
  | .panic _, _, _ => False
  | .outgrown, _, _ => False

theorem Fr.putObj {S : Nat → Prop} {a w : World} (h : Fr S a w) {r : Nat} (hr : S r ∨ a.heap.size ≤ r) (o : Obj) : Fr S a (w.putObj r o) :=
  ⟨h.os, h.tape, h.output, by simpa using h.size, fun i hi hn => (World.putObj_heap_other (by
    rintro rfl
    rcases hr with hr | hr
    · exact hn hr
    · omega)).trans (h.block i hi hn)⟩

theorem params_one (t : Array Value) (p : Tmp) (v : Value) : (#[p].zip #[v]).foldl (fun t (p, v) => t.setIfInBounds p v) t = t.setIfInBounds p v := by simp
theorem params_two (t : Array Value) (p q : Tmp) (v u : Value) : (#[p, q].zip #[v, u]).foldl (fun t (p, v) => t.setIfInBounds p v) t = (t.setIfInBounds p v).setIfInBounds q u := by simp

variable {n : Nat} {P : Program}

theorem wpIn_rangeFuncG {α : Type} {g : Operand} {ps : Array Tmp} {assign body : Code} {Q : Exit → Act → World → Prop} {a : Act} {w : World}
    {gf : Nat} {lb : Array Value} (hg : a.eval g = .func (.func gf) #[] lb) (eg : ∀ args w, (callFunc gf args).run P w = .ok (.enter gf args) w)
    {encs : α → Array Value} {U T : Nat → Prop} {G : List α → α → Prop} {S Sp : List α → World → Prop} (hseq : SeqG (n - 1) P gf lb encs U T G S Sp w) (hps : ∀ x, (encs x).size = ps.size)
    (I : List α → World → Prop) (Ix : Code → List α → World → Prop)
    (hI : ∀ pre A B, I pre A → Fr (fun k => U k ∨ k = w.heap.size ∨ k = w.heap.size + 1) A B → I pre B)
    (hIx : ∀ c pre A B, Ix c pre A → Fr (fun k => U k ∨ k = w.heap.size ∨ k = w.heap.size + 1) A B → Ix c pre B)
    (hU : ¬ U w.heap.size ∧ ¬ U (w.heap.size + 1)) (hT : ¬ T w.heap.size ∧ ¬ T (w.heap.size + 1))
    (h0 : I [] w) (Ax : α → Act → World → Prop) (hAx : ∀ x a' A B, Ax x a' A → Fr (fun k => k = w.heap.size + 1) A B → Ax x a' B)
    (hassign : ∀ (l : Nat) (x : α) (W : World) (K : Act → World → Prop), w.heap.size + 2 ≤ W.heap.size → (∀ a' W', Fr NoB W W' → Ax x a' W' → K a' W') →
      assign.wpIn (Fence.wide.inRound l) (n - 1 - 1) P (Exit.then K (fun _ _ _ => False)) { tmps := (ps.zip (encs x)).foldl (fun t (p, v) => t.setIfInBounds p v) a.tmps, defers := [] } W)
    (hbody : ∀ (pre : List α) (x : α) (W : World) (a' : Act), I pre W → G pre x → Ax x a' W → w.heap.size + 2 ≤ W.heap.size → body.wpIn (Fence.wide.inRound (w.heap.size + 1)) (n - 1 - 1) P (postG T I Ix (pre ++ [x]) W) a' W)
    (hdone : ∀ (xs : List α) (W : World), S xs W → I xs W → W.heap[w.heap.size]? = some (.deferred (some [])) → Q .normal { a with defers := { target := .collected w.heap.size, args := #[] } :: a.defers } W)
    (hstop : ∀ (c : Code) (pre : List α) (W : World), Sp pre W → Ix c pre W → W.heap[w.heap.size]? = some (.deferred (some [])) → c.wpIn Fence.wide n P Q { a with defers := { target := .collected w.heap.size, args := #[] } :: a.defers } W)
    (hSb : ∀ xs A B, S xs A → Fr (fun k => k = w.heap.size + 1) A B → S xs B) (hSpb : ∀ xs A B, Sp xs A → Fr (fun k => k = w.heap.size + 1) A B → Sp xs B) :
    (Code.rangeFunc g ps assign body).wpIn Fence.wide n P Q a w := by
  refine wpIn_rangeFunc ?_
  intro fn hfn
  obtain ⟨D, hD⟩ : ∃ D, D = w.heap.size := ⟨_, rfl⟩
  obtain ⟨rec, hrec⟩ : ∃ rec : LoopState → Option Code → Loop, rec = fun st pe => { state := st, pending := pe, fn, tmps := a.tmps, params := ps, assign, body, defers := D } := ⟨_, rfl⟩
  obtain ⟨W1, hW1⟩ : ∃ W1, (w.alloc (.deferred (some []))).alloc (.loop (rec .ready none)) = W1 := ⟨_, rfl⟩
  have hL1 : W1.heap[D + 1]? = some (.loop (rec .ready none)) := by
    rw [← hW1, hD]; have := World.alloc_heap_new (w.alloc (.deferred (some []))) (.loop (rec .ready none)); rwa [World.size_alloc] at this
  have hK1 : W1.heap[D]? = some (.deferred (some [])) := by
    rw [← hW1, hD]; exact (Below.heap_alloc _ _ _ (by simp)).trans (World.alloc_heap_new w _)
  have hF1 : Fr NoB w W1 := by rw [← hW1]; exact ((Fr.refl NoB w).alloc _).alloc _
  have hs1 : W1.heap.size = D + 2 := by rw [← hW1, hD]; simp
  have hI1 : I [] W1 := hI _ _ _ h0 (hF1.mono fun _ _ h => h.elim)
  rw [← hD] at hI hIx hU hT hbody hdone hstop hSb hSpb hAx hassign
  refine ⟨D + 1, [{ target := .collected D, args := #[] }], W1, { target := .fn (.func gf) lb, args := #[.func (.yield (D + 1)) #[] #[]] }, W1, gf,
    #[.func (.yield (D + 1)) #[] #[]] ++ lb, W1, ?_, ?_, fun _ _ => trivial, ?_, fun h => by simp [Fence.wide] at h, ?_⟩
  · rw [← hW1, hrec, hD]; exact run_enterLoop_outer _ _ _ _ _
  · simp only [resolve, hg]
    simp [go_sem]
  · simp [invoke, go_sem, eg]
  · have keep : ∀ {A B : World} {V : Nat → Prop} {k : Nat} {o : Obj}, Fr V A B → ¬ V k → A.heap[k]? = some o → B.heap[k]? = some o := fun hf hn h =>
      (hf.block _ (Array.getElem?_eq_some_iff.1 h).1 hn).trans h
    refine (hseq (D + 1)
      (fun pre W => I pre W ∧ W.heap[D + 1]? = some (.loop (rec .ready none)) ∧ W.heap[D]? = some (.deferred (some [])))
      (fun pre W => ∃ c, Ix c pre W ∧ W.heap[D + 1]? = some (.loop (rec .done (some c))) ∧ W.heap[D]? = some (.deferred (some [])))
      W1 hF1 (by omega) (by omega)
      (fun pre A B hs hf => ⟨hI _ _ _ hs.1 (hf.mono fun _ _ h => .inl h), keep hf hU.2 hs.2.1, keep hf hU.1 hs.2.2⟩)
      (fun pre A B hs hf => by
        obtain ⟨c, hc, hl, hk⟩ := hs
        exact ⟨c, hIx _ _ _ _ hc (hf.mono fun _ _ h => .inl h), keep hf hU.2 hl, keep hf hU.1 hk⟩)
      ?_ ⟨hI1, hL1, hK1⟩).mono ?_
    · rintro pre x W ⟨hi, hl, hk⟩ hG hsz
      have hlt : D + 1 < W.heap.size := (Array.getElem?_eq_some_iff.1 hl).1
      have hy := run_yield (P := P) (args := encs x) hl (by rw [hrec]; exact hps x)
      rw [hrec] at hy
      refine ⟨fn, _, assign, body, hy, roundIn_of_wpIn hfn (hassign _ x W _ (by omega) fun a' W' hfa hax => ?_)⟩
      have hl' := keep hfa id hl
      have hk' := keep hfa id hk
      have hsa := hfa.size
      have hlt' : D + 1 < W'.heap.size := by omega
      refine ⟨_, run_beginRound hl' (by rw [hrec]), ?_⟩
      obtain ⟨W2, hW2⟩ : ∃ W2, W'.putObj (D + 1) (.loop { rec .ready none with state := .busy }) = W2 := ⟨_, rfl⟩
      rw [hW2]
      have hl2 : W2.heap[D + 1]? = some (.loop { rec .ready none with state := .busy }) := by rw [← hW2]; exact World.putObj_heap_same hlt'
      have hk2 : W2.heap[D]? = some (.deferred (some [])) := by rw [← hW2]; exact (World.putObj_heap_other (by omega)).trans hk'
      have hF2' : Fr (fun k => k = D + 1) W' W2 := by rw [← hW2]; exact (Fr.refl (fun k => k = D + 1) W').putObj (r := D + 1) (.inl rfl) _
      have hF2 : Fr (fun k => k = D + 1) W W2 := (hfa.mono fun _ _ h => h.elim).trans hF2' fun _ _ h => h
      have hs2 := hF2.size
      refine wpIn_mono (hbody pre x W2 a' (hI _ _ _ hi (hF2.mono fun _ _ h => .inr (.inr h))) hG (hAx _ _ _ _ hax hF2') (by omega)) ?_
      have fin : ∀ (jump : Option Code) (W3 : World), Fr T W2 W3 → ∃ W4, (Instr.endRound (D + 1) jump).run P W3 = .ok (.bool jump.isNone) W4 ∧
          W4.heap[D + 1]? = some (.loop (rec (if jump.isNone then .ready else .done) jump)) ∧ W4.heap[D]? = some (.deferred (some [])) ∧
          Fr (fun k => k = D + 1) W3 W4 ∧ Fr (fun k => T k ∨ k = D + 1) W W4 := fun jump W3 hf3 => by
        have hl3 := keep hf3 hT.2 hl2
        have hk3 := keep hf3 hT.1 hk2
        have h3 := run_endRound (P := P) jump hl3
        have hF4 := (Fr.refl (fun k => k = D + 1) W3).putObj (r := D + 1) (.inl rfl) (.loop { ({ rec .ready none with state := .busy } : Loop) with state := if jump.isNone then .ready else .done, pending := jump })
        refine ⟨_, h3, ?_, (World.putObj_heap_other (by omega)).trans hk3, hF4, ?_⟩
        · rw [World.putObj_heap_same (Array.getElem?_eq_some_iff.1 hl3).1]; rw [hrec]
        · exact ((hF2.mono (S' := fun k => T k ∨ k = D + 1) fun _ _ h => .inr h).trans hf3 fun _ _ h => .inl h).trans hF4 fun _ _ h => .inr h
      have out : ∀ (c : Code) (W3 : World), Fr T W2 W3 → Ix c (pre ++ [x]) W3 → ∃ v W4, (Instr.endRound (D + 1) (some c)).run P W3 = .ok v W4 ∧ ((v = .bool true ∧ (I (pre ++ [x]) W4 ∧ W4.heap[D + 1]? = some (.loop (rec .ready none)) ∧ W4.heap[D]? = some (.deferred (some []))) ∧ Fr (fun k => T k ∨ k = D + 1) W W4) ∨
          (v = .bool false ∧ (∃ c, Ix c (pre ++ [x]) W4 ∧ W4.heap[D + 1]? = some (.loop (rec .done (some c))) ∧ W4.heap[D]? = some (.deferred (some []))) ∧ Fr (fun k => T k ∨ k = D + 1) W W4)) := fun c W3 hf hi3 => by
        obtain ⟨W4, hr, hl4, hk4, hF4, hFF⟩ := fin (some c) W3 hf
        exact ⟨_, W4, hr, .inr ⟨rfl, ⟨c, hIx _ _ _ _ hi3 (hF4.mono fun _ _ h => .inr (.inr h)), hl4, hk4⟩, hFF⟩⟩
      rintro e a3 W3 hp
      cases e with
      | normal =>
        obtain ⟨hf, hi3⟩ := hp
        obtain ⟨W4, hr, hl4, hk4, hF4, hFF⟩ := fin none W3 hf
        exact ⟨_, _, hr, .inl ⟨rfl, ⟨hI _ _ _ hi3 (hF4.mono fun _ _ h => .inr (.inr h)), hl4, hk4⟩, hFF⟩⟩
      | ret =>
        obtain ⟨v, W4, hr, h⟩ := out .ret W3 hp.1 hp.2
        refine ⟨v, W4, hr, ?_⟩
        rcases h with ⟨rfl, h⟩ | ⟨rfl, h⟩
        · exact .inl ⟨rfl, h⟩
        · exact .inr ⟨rfl, h⟩
      | exit id =>
        obtain ⟨v, W4, hr, h⟩ := out (.exit id) W3 hp.1 hp.2
        refine ⟨v, W4, hr, ?_⟩
        rcases h with ⟨rfl, h⟩ | ⟨rfl, h⟩
        · exact .inl ⟨rfl, h⟩
        · exact .inr ⟨rfl, h⟩
      | goto t =>
        obtain ⟨v, W4, hr, h⟩ := out (.goto t) W3 hp.1 hp.2
        refine ⟨v, W4, hr, ?_⟩
        rcases h with ⟨rfl, h⟩ | ⟨rfl, h⟩
        · exact .inl ⟨rfl, h⟩
        · exact .inr ⟨rfl, h⟩
      | panic ch => exact hp.elim
      | outgrown => exact hp.elim
    · have fin2 : ∀ {W2 : World} {st : LoopState} {pe : Option Code}, W2.heap[D + 1]? = some (.loop (rec st pe)) → st ≠ .busy → W2.heap[D]? = some (.deferred (some [])) →
          ∃ W3, (Instr.endLoop (D + 1)).run P W2 = .ok pe W3 ∧ Fr (fun k => k = D + 1) W2 W3 ∧ W3.heap[D]? = some (.deferred (some [])) := fun {W2 st pe} hl hb hk => by
        have h := run_endLoop (P := P) hl (by rw [hrec]; exact hb)
        have hF := (Fr.refl (fun k => k = D + 1) W2).putObj (r := D + 1) (.inl rfl) (.loop { rec st pe with state := .exhausted })
        have e : (rec st pe).pending = pe := by rw [hrec]
        exact ⟨_, h.trans (congrArg (fun p => Result.ok p _) e), hF, (World.putObj_heap_other (by omega)).trans hk⟩
      rintro e W2 ⟨⟨v, rfl⟩, (⟨xs, hS, hi, hl, hk⟩ | ⟨pre, hSp, c, hi, hl, hk⟩)⟩
      · obtain ⟨W3, hr, hF, hk3⟩ := fin2 hl (by simp) hk
        exact ⟨none, W3, hr, hdone xs W3 (hSb _ _ _ hS hF) (hI _ _ _ hi (hF.mono fun _ _ h => .inr (.inr h))) hk3⟩
      · obtain ⟨W3, hr, hF, hk3⟩ := fin2 hl (by simp) hk
        exact ⟨some c, W3, hr, hstop c pre W3 (hSpb _ _ _ hSp hF) (hIx _ _ _ _ hi (hF.mono fun _ _ h => .inr (.inr h))) hk3⟩
end

section
open Go.RowKit

/-- The iterator g, with what it has captured: it turns blocks of U (and new ones), it hands each round x behind pre where G l pre x holds of the world (l: the record of the loop); a round turns blocks of T, the loop's own record, and new ones; when all have come S holds, when a round has said 'no more' Sp. -/
def SeqW {α : Type} (n : Nat) (P : Program) (g : Nat) (lb : Array Value) (encs : α → Array Value) (U T : Nat → Prop) (G : Nat → List α → α → World → Prop) (S Sp : List α → World → Prop) (w : World) : Prop :=
  ∀ (l : Nat) (J Jx : List α → World → Prop) (W : World), Fr NoB w W → l = w.heap.size + 1 → W.heap.size = w.heap.size + 2 →
    (∀ pre A B, J pre A → Fr U A B → J pre B) → (∀ pre A B, Jx pre A → Fr U A B → Jx pre B) →
    (∀ pre x W1, J pre W1 → G l pre x W1 → W.heap.size ≤ W1.heap.size → YieldAt Fence.wide (n - 1) P l (encs x) W1 fun e W' =>
      (e = .returned (.bool true) ∧ J (pre ++ [x]) W' ∧ Fr (fun k => T k ∨ k = l) W1 W') ∨ (e = .returned (.bool false) ∧ Jx (pre ++ [x]) W' ∧ Fr (fun k => T k ∨ k = l) W1 W')) →
    J [] W →
    CallsIn Fence.wide n P g (#[.func (.yield l) #[] #[]] ++ lb) W fun e W' => (∃ v, e = .returned v) ∧ ((∃ xs, S xs W' ∧ J xs W') ∨ (∃ pre, Sp pre W' ∧ Jx pre W'))

variable {n : Nat} {P : Program}

theorem wpIn_rangeFuncW {α : Type} {g : Operand} {ps : Array Tmp} {assign body : Code} {Q : Exit → Act → World → Prop} {a : Act} {w : World}
    {gf : Nat} {lb : Array Value} (hg : a.eval g = .func (.func gf) #[] lb) (eg : ∀ args w, (callFunc gf args).run P w = .ok (.enter gf args) w)
    {encs : α → Array Value} {U T : Nat → Prop} {G : Nat → List α → α → World → Prop} {S Sp : List α → World → Prop} (hseq : SeqW (n - 1) P gf lb encs U T G S Sp w) (hps : ∀ x, (encs x).size = ps.size)
    (I : List α → World → Prop) (Ix : Code → List α → World → Prop)
    (hI : ∀ pre A B, I pre A → Fr (fun k => U k ∨ k = w.heap.size ∨ k = w.heap.size + 1) A B → I pre B)
    (hIx : ∀ c pre A B, Ix c pre A → Fr (fun k => U k ∨ k = w.heap.size ∨ k = w.heap.size + 1) A B → Ix c pre B)
    (hU : ¬ U w.heap.size ∧ ¬ U (w.heap.size + 1)) (hT : ¬ T w.heap.size ∧ ¬ T (w.heap.size + 1))
    (hGs : ∀ pre x A B, G (w.heap.size + 1) pre x A → Fr (fun k => k = w.heap.size + 1) A B → G (w.heap.size + 1) pre x B)
    (h0 : I [] w) (Ax : α → Act → World → Prop) (hAx : ∀ x a' A B, Ax x a' A → Fr (fun k => k = w.heap.size + 1) A B → Ax x a' B)
    (hassign : ∀ (l : Nat) (x : α) (W : World) (K : Act → World → Prop), w.heap.size + 2 ≤ W.heap.size → (∀ a' W', Fr NoB W W' → Ax x a' W' → K a' W') →
      assign.wpIn (Fence.wide.inRound l) (n - 1 - 1) P (Exit.then K (fun _ _ _ => False)) { tmps := (ps.zip (encs x)).foldl (fun t (p, v) => t.setIfInBounds p v) a.tmps, defers := [] } W)
    (hbody : ∀ (pre : List α) (x : α) (W : World) (a' : Act), I pre W → G (w.heap.size + 1) pre x W → Ax x a' W → w.heap.size + 2 ≤ W.heap.size → body.wpIn (Fence.wide.inRound (w.heap.size + 1)) (n - 1 - 1) P (postG T I Ix (pre ++ [x]) W) a' W)
    (hdone : ∀ (xs : List α) (W : World), S xs W → I xs W → W.heap[w.heap.size]? = some (.deferred (some [])) → Q .normal { a with defers := { target := .collected w.heap.size, args := #[] } :: a.defers } W)
    (hstop : ∀ (c : Code) (pre : List α) (W : World), Sp pre W → Ix c pre W → W.heap[w.heap.size]? = some (.deferred (some [])) → c.wpIn Fence.wide n P Q { a with defers := { target := .collected w.heap.size, args := #[] } :: a.defers } W)
    (hSb : ∀ xs A B, S xs A → Fr (fun k => k = w.heap.size + 1) A B → S xs B) (hSpb : ∀ xs A B, Sp xs A → Fr (fun k => k = w.heap.size + 1) A B → Sp xs B) :
    (Code.rangeFunc g ps assign body).wpIn Fence.wide n P Q a w := by
  refine wpIn_rangeFunc ?_
  intro fn hfn
  obtain ⟨D, hD⟩ : ∃ D, D = w.heap.size := ⟨_, rfl⟩
  obtain ⟨rec, hrec⟩ : ∃ rec : LoopState → Option Code → Loop, rec = fun st pe => { state := st, pending := pe, fn, tmps := a.tmps, params := ps, assign, body, defers := D } := ⟨_, rfl⟩
  obtain ⟨W1, hW1⟩ : ∃ W1, (w.alloc (.deferred (some []))).alloc (.loop (rec .ready none)) = W1 := ⟨_, rfl⟩
  have hL1 : W1.heap[D + 1]? = some (.loop (rec .ready none)) := by
    rw [← hW1, hD]; have := World.alloc_heap_new (w.alloc (.deferred (some []))) (.loop (rec .ready none)); rwa [World.size_alloc] at this
  have hK1 : W1.heap[D]? = some (.deferred (some [])) := by
    rw [← hW1, hD]; exact (Below.heap_alloc _ _ _ (by simp)).trans (World.alloc_heap_new w _)
  have hF1 : Fr NoB w W1 := by rw [← hW1]; exact ((Fr.refl NoB w).alloc _).alloc _
  have hs1 : W1.heap.size = D + 2 := by rw [← hW1, hD]; simp
  have hI1 : I [] W1 := hI _ _ _ h0 (hF1.mono fun _ _ h => h.elim)
  rw [← hD] at hI hIx hU hT hbody hdone hstop hSb hSpb hAx hassign hGs
  refine ⟨D + 1, [{ target := .collected D, args := #[] }], W1, { target := .fn (.func gf) lb, args := #[.func (.yield (D + 1)) #[] #[]] }, W1, gf,
    #[.func (.yield (D + 1)) #[] #[]] ++ lb, W1, ?_, ?_, fun _ _ => trivial, ?_, fun h => by simp [Fence.wide] at h, ?_⟩
  · rw [← hW1, hrec, hD]; exact run_enterLoop_outer _ _ _ _ _
  · simp only [resolve, hg]
    simp [go_sem]
  · simp [invoke, go_sem, eg]
  · have keep : ∀ {A B : World} {V : Nat → Prop} {k : Nat} {o : Obj}, Fr V A B → ¬ V k → A.heap[k]? = some o → B.heap[k]? = some o := fun hf hn h =>
      (hf.block _ (Array.getElem?_eq_some_iff.1 h).1 hn).trans h
    refine (hseq (D + 1)
      (fun pre W => I pre W ∧ W.heap[D + 1]? = some (.loop (rec .ready none)) ∧ W.heap[D]? = some (.deferred (some [])))
      (fun pre W => ∃ c, Ix c pre W ∧ W.heap[D + 1]? = some (.loop (rec .done (some c))) ∧ W.heap[D]? = some (.deferred (some [])))
      W1 hF1 (by omega) (by omega)
      (fun pre A B hs hf => ⟨hI _ _ _ hs.1 (hf.mono fun _ _ h => .inl h), keep hf hU.2 hs.2.1, keep hf hU.1 hs.2.2⟩)
      (fun pre A B hs hf => by
        obtain ⟨c, hc, hl, hk⟩ := hs
        exact ⟨c, hIx _ _ _ _ hc (hf.mono fun _ _ h => .inl h), keep hf hU.2 hl, keep hf hU.1 hk⟩)
      ?_ ⟨hI1, hL1, hK1⟩).mono ?_
    · rintro pre x W ⟨hi, hl, hk⟩ hG hsz
      have hlt : D + 1 < W.heap.size := (Array.getElem?_eq_some_iff.1 hl).1
      have hy := run_yield (P := P) (args := encs x) hl (by rw [hrec]; exact hps x)
      rw [hrec] at hy
      refine ⟨fn, _, assign, body, hy, roundIn_of_wpIn hfn (hassign _ x W _ (by omega) fun a' W' hfa hax => ?_)⟩
      have hl' := keep hfa id hl
      have hk' := keep hfa id hk
      have hsa := hfa.size
      have hlt' : D + 1 < W'.heap.size := by omega
      refine ⟨_, run_beginRound hl' (by rw [hrec]), ?_⟩
      obtain ⟨W2, hW2⟩ : ∃ W2, W'.putObj (D + 1) (.loop { rec .ready none with state := .busy }) = W2 := ⟨_, rfl⟩
      rw [hW2]
      have hl2 : W2.heap[D + 1]? = some (.loop { rec .ready none with state := .busy }) := by rw [← hW2]; exact World.putObj_heap_same hlt'
      have hk2 : W2.heap[D]? = some (.deferred (some [])) := by rw [← hW2]; exact (World.putObj_heap_other (by omega)).trans hk'
      have hF2' : Fr (fun k => k = D + 1) W' W2 := by rw [← hW2]; exact (Fr.refl (fun k => k = D + 1) W').putObj (r := D + 1) (.inl rfl) _
      have hF2 : Fr (fun k => k = D + 1) W W2 := (hfa.mono fun _ _ h => h.elim).trans hF2' fun _ _ h => h
      have hs2 := hF2.size
      refine wpIn_mono (hbody pre x W2 a' (hI _ _ _ hi (hF2.mono fun _ _ h => .inr (.inr h))) (hGs _ _ _ _ hG hF2) (hAx _ _ _ _ hax hF2') (by omega)) ?_
      have fin : ∀ (jump : Option Code) (W3 : World), Fr T W2 W3 → ∃ W4, (Instr.endRound (D + 1) jump).run P W3 = .ok (.bool jump.isNone) W4 ∧
          W4.heap[D + 1]? = some (.loop (rec (if jump.isNone then .ready else .done) jump)) ∧ W4.heap[D]? = some (.deferred (some [])) ∧
          Fr (fun k => k = D + 1) W3 W4 ∧ Fr (fun k => T k ∨ k = D + 1) W W4 := fun jump W3 hf3 => by
        have hl3 := keep hf3 hT.2 hl2
        have hk3 := keep hf3 hT.1 hk2
        have h3 := run_endRound (P := P) jump hl3
        have hF4 := (Fr.refl (fun k => k = D + 1) W3).putObj (r := D + 1) (.inl rfl) (.loop { ({ rec .ready none with state := .busy } : Loop) with state := if jump.isNone then .ready else .done, pending := jump })
        refine ⟨_, h3, ?_, (World.putObj_heap_other (by omega)).trans hk3, hF4, ?_⟩
        · rw [World.putObj_heap_same (Array.getElem?_eq_some_iff.1 hl3).1]; rw [hrec]
        · exact ((hF2.mono (S' := fun k => T k ∨ k = D + 1) fun _ _ h => .inr h).trans hf3 fun _ _ h => .inl h).trans hF4 fun _ _ h => .inr h
      have out : ∀ (c : Code) (W3 : World), Fr T W2 W3 → Ix c (pre ++ [x]) W3 → ∃ v W4, (Instr.endRound (D + 1) (some c)).run P W3 = .ok v W4 ∧ ((v = .bool true ∧ (I (pre ++ [x]) W4 ∧ W4.heap[D + 1]? = some (.loop (rec .ready none)) ∧ W4.heap[D]? = some (.deferred (some []))) ∧ Fr (fun k => T k ∨ k = D + 1) W W4) ∨
          (v = .bool false ∧ (∃ c, Ix c (pre ++ [x]) W4 ∧ W4.heap[D + 1]? = some (.loop (rec .done (some c))) ∧ W4.heap[D]? = some (.deferred (some []))) ∧ Fr (fun k => T k ∨ k = D + 1) W W4)) := fun c W3 hf hi3 => by
        obtain ⟨W4, hr, hl4, hk4, hF4, hFF⟩ := fin (some c) W3 hf
        exact ⟨_, W4, hr, .inr ⟨rfl, ⟨c, hIx _ _ _ _ hi3 (hF4.mono fun _ _ h => .inr (.inr h)), hl4, hk4⟩, hFF⟩⟩
      rintro e a3 W3 hp
      cases e with
      | normal =>
        obtain ⟨hf, hi3⟩ := hp
        obtain ⟨W4, hr, hl4, hk4, hF4, hFF⟩ := fin none W3 hf
        exact ⟨_, _, hr, .inl ⟨rfl, ⟨hI _ _ _ hi3 (hF4.mono fun _ _ h => .inr (.inr h)), hl4, hk4⟩, hFF⟩⟩
      | ret =>
        obtain ⟨v, W4, hr, h⟩ := out .ret W3 hp.1 hp.2
        refine ⟨v, W4, hr, ?_⟩
        rcases h with ⟨rfl, h⟩ | ⟨rfl, h⟩
        · exact .inl ⟨rfl, h⟩
        · exact .inr ⟨rfl, h⟩
      | exit id =>
        obtain ⟨v, W4, hr, h⟩ := out (.exit id) W3 hp.1 hp.2
        refine ⟨v, W4, hr, ?_⟩
        rcases h with ⟨rfl, h⟩ | ⟨rfl, h⟩
        · exact .inl ⟨rfl, h⟩
        · exact .inr ⟨rfl, h⟩
      | goto t =>
        obtain ⟨v, W4, hr, h⟩ := out (.goto t) W3 hp.1 hp.2
        refine ⟨v, W4, hr, ?_⟩
        rcases h with ⟨rfl, h⟩ | ⟨rfl, h⟩
        · exact .inl ⟨rfl, h⟩
        · exact .inr ⟨rfl, h⟩
      | panic ch => exact hp.elim
      | outgrown => exact hp.elim
    · have fin2 : ∀ {W2 : World} {st : LoopState} {pe : Option Code}, W2.heap[D + 1]? = some (.loop (rec st pe)) → st ≠ .busy → W2.heap[D]? = some (.deferred (some [])) →
          ∃ W3, (Instr.endLoop (D + 1)).run P W2 = .ok pe W3 ∧ Fr (fun k => k = D + 1) W2 W3 ∧ W3.heap[D]? = some (.deferred (some [])) := fun {W2 st pe} hl hb hk => by
        have h := run_endLoop (P := P) hl (by rw [hrec]; exact hb)
        have hF := (Fr.refl (fun k => k = D + 1) W2).putObj (r := D + 1) (.inl rfl) (.loop { rec st pe with state := .exhausted })
        have e : (rec st pe).pending = pe := by rw [hrec]
        exact ⟨_, h.trans (congrArg (fun p => Result.ok p _) e), hF, (World.putObj_heap_other (by omega)).trans hk⟩
      rintro e W2 ⟨⟨v, rfl⟩, (⟨xs, hS, hi, hl, hk⟩ | ⟨pre, hSp, c, hi, hl, hk⟩)⟩
      · obtain ⟨W3, hr, hF, hk3⟩ := fin2 hl (by simp) hk
        exact ⟨none, W3, hr, hdone xs W3 (hSb _ _ _ hS hF) (hI _ _ _ hi (hF.mono fun _ _ h => .inr (.inr h))) hk3⟩
      · obtain ⟨W3, hr, hF, hk3⟩ := fin2 hl (by simp) hk
        exact ⟨some c, W3, hr, hstop c pre W3 (hSpb _ _ _ hSp hF) (hIx _ _ _ _ hi (hF.mono fun _ _ h => .inr (.inr h))) hk3⟩
end

section
open Go.RowKit
section
variable {F : Fence} {n : Nat} {P : Program} {b : Frame} {a : Act} {k : List Item} {cs : List Frame} {w : World} {Q : Exit → Act → World → Prop}
theorem stepR_scope {c : Code} : step P (lone (b.atR a (.code (.scope c) :: k)) cs w) = .next (lone (b.atR a (.code c :: .inScope c :: k)) cs w) :=
  step_lone_go (by simp [stepG, stepG.exec, Frame.atR])
theorem stepR_inScope {c : Code} : step P (lone (b.atR a (.inScope c :: k)) cs w) = .next (lone (b.atR a k) cs w) :=
  step_lone_go (by simp [stepG, stepG.exec, Frame.atR])
/-- Where nobody jumps the scope is als its code. -/
theorem wpIn_scope_calm {c : Code} (hQ : ∀ l a w, ¬ Q (.goto l) a w) (h : c.wpIn F n P Q a w) : (Code.scope c).wpIn F n P Q a w := by
  intro b k cs hro hb hr
  have h0 : (lone (b.atR a (.code (.scope c) :: k)) cs w).fenced P F := fenced_calm hb hr rfl
  obtain ⟨e, a₁, w₁, hq, harr⟩ := h b (.inScope c :: k) cs hro hb hr
  cases e with
  | normal => exact ⟨.normal, a₁, w₁, hq, .head h0 stepR_scope (StepsIn.trans harr (.one (fenced_calm hb hr rfl) stepR_inScope))⟩
  | exit id =>
    have hx : exitTo id (.inScope c :: k) = exitTo id k := by simp [exitTo]
    exact ⟨.exit id, a₁, w₁, hq, fun k' hk => .head h0 stepR_scope (harr.1 k' (by rw [hx]; exact hk)),
      fun hr' hk => let ⟨k₁, h1, h2⟩ := harr.2 hr' (by rw [hx]; exact hk); ⟨k₁, h1, .head h0 stepR_scope h2⟩⟩
  | goto l => exact (hQ _ _ _ hq).elim
  | ret => exact ⟨_, a₁, w₁, hq, .of_steps (.one h0 stepR_scope) harr⟩
  | panic ch => exact ⟨_, a₁, w₁, hq, .of_steps (.one h0 stepR_scope) harr⟩
  | outgrown => exact ⟨_, a₁, w₁, hq, .of_steps (.one h0 stepR_scope) harr⟩
end
end
end Go.Proofs.Ytnkfchondedfcaa
