/-
  Words for memory: what a call turns ('Fr'), a block known whole ('Blk'), a slice that reads as cells ('Arr') or bytes ('Byt'), and append onto an owned row.
  Conditions: none; each lemma states its own.
-/
import Derived.WalkKit
import Derived.WalkSpells
import Derived.WalkLawsBesides
import Derived.Lib.Hide
import Derived.Maps.AppendAt
import Derived.Deep.AppendLies
import Derived.Deep.Draws
import Derived.RegionTactic
import Derived.OwnWalk
import Derived.Laws.IdiomStrings
namespace Go.Proofs.YtnplamcajjblkaaGreat
open Go.RowKit

/-- Only blocks of S have turned, and new ones have come. -/
structure Fr (S : Nat → Prop) (w w' : World) : Prop where
  os : w'.os = w.os
  tape : w'.tape = w.tape
  output : w'.output = w.output
  size : w.heap.size ≤ w'.heap.size
  block : ∀ k, k < w.heap.size → ¬ S k → w'.heap[k]? = w.heap[k]?

def NoB : Nat → Prop := fun _ => False

section
variable {S S' : Nat → Prop} {a b c w w' : World}
theorem Fr.refl (S : Nat → Prop) (w : World) : Fr S w w := ⟨rfl, rfl, rfl, Nat.le_refl _, fun _ _ _ => rfl⟩
theorem Fr.mono (h : Fr S w w') (hs : ∀ k, k < w.heap.size → S k → S' k) : Fr S' w w' :=
  ⟨h.os, h.tape, h.output, h.size, fun k hk hn => h.block k hk (fun hS => hn (hs k hk hS))⟩
theorem Fr.trans (h : Fr S a b) (k : Fr S' b c) (hs : ∀ k, k < a.heap.size → S' k → S k) : Fr S a c :=
  ⟨k.os.trans h.os, k.tape.trans h.tape, k.output.trans h.output, Nat.le_trans h.size k.size, fun i hi hn =>
    (k.block i (Nat.lt_of_lt_of_le hi h.size) (fun h' => hn (hs i hi h'))).trans (h.block i hi hn)⟩
/-- One step more, that turns only what is new. -/
theorem Fr.new (h : Fr S a b) (k : Fr S' b c) (hs : ∀ j, S' j → S j ∨ a.heap.size ≤ j) : Fr S a c :=
  h.trans k fun i hi h' => (hs i h').elim id fun h => by omega
theorem Fr.drew (h : Fr S a w) : Fr S a w.drew := ⟨h.os, h.tape, h.output, h.size, h.block⟩
theorem Fr.drewN (h : Fr S a w) (n : Nat) : Fr S a (w.drewN n) := ⟨h.os, h.tape, h.output, h.size, h.block⟩
theorem Fr.of_drewN (w : World) (n : Nat) : Fr S w (w.drewN n) := (Fr.refl S w).drewN n
theorem Fr.alloc (h : Fr S a w) (o : Obj) : Fr S a (w.alloc o) :=
  ⟨h.os, h.tape, h.output, Nat.le_trans h.size (by simp), fun i hi hn => (Below.heap_alloc w o i (Nat.lt_of_lt_of_le hi h.size)).trans (h.block i hi hn)⟩
theorem Fr.setCell (h : Fr S a w) {p : Addr} (hp : S p.block ∨ a.heap.size ≤ p.block) (u : Value) : Fr S a (w.setCell p u) :=
  ⟨h.os, h.tape, h.output, by simpa [World.setCell] using h.size, fun i hi hn => (Below.heap_setCell w p u i (by
    rintro rfl
    rcases hp with hp | hp
    · exact hn hp
    · omega)).trans (h.block i hi hn)⟩
theorem Fr.set_ (h : Fr S a w) {b : Nat} (hp : S b ∨ a.heap.size ≤ b) (i : Nat) (u : Value) : Fr S a (w.setCell ⟨b, i, none⟩ u) := h.setCell (p := ⟨b, i, none⟩) hp u
theorem Fr.at_ {b : Nat} (h : Fr (· = b) a w) (i : Nat) (u : Value) : Fr (· = b) a (w.setCell ⟨b, i, none⟩ u) := h.set_ (.inl rfl) i u
theorem Fr.grown {row : Option Nat} (h : Fr S a w) (hg : w.grownBy w' row) (hr : ∀ k, row = some k → S k ∨ a.heap.size ≤ k) : Fr S a w' :=
  ⟨hg.os.trans h.os, hg.tape.trans h.tape, hg.output.trans h.output, Nat.le_trans h.size hg.size, fun i hi hn =>
    (hg.block i (Nat.lt_of_lt_of_le hi h.size) (fun e => by
      rcases hr i e.symm with h' | h'
      · exact hn h'
      · omega)).trans (h.block i hi hn)⟩
theorem Fr.below {B : Nat} (h : Fr S w w') (hB : B ≤ w.heap.size) (hs : ∀ k, k < B → ¬ S k) : Below B w w' :=
  ⟨h.os, h.tape, h.output, h.size, fun k hk => h.block k (Nat.lt_of_lt_of_le hk hB) (hs k hk)⟩
theorem Fr.of_below {B : Nat} (h : Below B w w') : Fr (fun k => B ≤ k) w w' :=
  ⟨h.os, h.tape, h.output, h.size, fun k _ hn => h.block k (by omega)⟩
theorem Fr.cell (h : Fr S w w') {p : Addr} (hp : p.block < w.heap.size) (hn : ¬ S p.block) : w'.cell? p = w.cell? p := World.cell?_of_block (w := w) (h.block p.block hp hn)
theorem Fr.cell' (h : Fr S w w') {p : Addr} {v : Value} (hc : w.cell? p = some v) (hn : ¬ S p.block) : w'.cell? p = some v :=
  (h.cell (World.block_lt_of_cell? w p hc) hn).trans hc
end

/-- Block g is just the cells cs of element type t, none frozen. -/
def Blk (w : World) (g : Nat) (t : TypeId) (cs : Array Value) : Prop := w.heap[g]? = some (.cells cs t (0, 0))

section
variable {w w' : World} {g : Nat} {t : TypeId} {cs : Array Value} {S : Nat → Prop}
theorem Blk.lt (h : Blk w g t cs) : g < w.heap.size := by
  rcases Nat.lt_or_ge g w.heap.size with hlt | hge
  · exact hlt
  · unfold Blk at h; rw [Array.getElem?_eq_none hge] at h; cases h
theorem Blk.cell (h : Blk w g t cs) (i : Nat) : w.cell? ⟨g, i, none⟩ = cs[i]? := cell_of_row w g i cs t (0, 0) h
theorem Blk.cell_ (h : Blk w g t cs) {i : Nat} {v : Value} (hv : cs[i]? = some v) : w.cell? ⟨g, i, none⟩ = some v := (h.cell i).trans hv
theorem Blk.cell_0 {v : Value} {vs : List Value} (h : Blk w g t (v :: vs).toArray) : w.cell? ⟨g, 0, none⟩ = some v := (h.cell 0).trans (by simp)
theorem Blk.frozen (h : Blk w g t cs) (i : Nat) : w.frozen? ⟨g, i, none⟩ = false := by
  unfold Blk at h
  simp [World.frozen?, h]
theorem Blk.new (w : World) (t : TypeId) (cs : Array Value) : Blk (w.alloc (.cells cs t)) w.heap.size t cs := heap_alloc_new w _
theorem Blk.drew (h : Blk w g t cs) : Blk w.drew g t cs := h
theorem Blk.drewN (h : Blk w g t cs) (n : Nat) : Blk (w.drewN n) g t cs := h
theorem Blk.alloc (h : Blk w g t cs) (o : Obj) : Blk (w.alloc o) g t cs := (Below.heap_alloc w o g h.lt).trans h
theorem Blk.set_ (h : Blk w g t cs) (i : Nat) (u : Value) : Blk (w.setCell ⟨g, i, none⟩ u) g t (cs.setIfInBounds i u) := by
  unfold Blk at h ⊢
  simp [World.setCell, Array.getElem?_modify, h]
theorem Blk.far (h : Blk w g t cs) {p : Addr} (hp : g ≠ p.block) (u : Value) : Blk (w.setCell p u) g t cs := (Below.heap_setCell w p u g hp).trans h
theorem Blk.fr (h : Blk w g t cs) (hb : Fr S w w') (hg : ¬ S g) : Blk w' g t cs := (hb.block g h.lt hg).trans h
theorem Blk.below {B : Nat} (h : Blk w g t cs) (hb : Below B w w') (hg : g < B) : Blk w' g t cs := (hb.block g hg).trans h
theorem Blk.grown {row : Option Nat} (h : Blk w g t cs) (hb : w.grownBy w' row) (hg : some g ≠ row) : Blk w' g t cs := (hb.block g h.lt hg).trans h
theorem Blk.ne_ {g' : Nat} {t' : TypeId} {cs' : Array Value} (h : Blk w g t cs) (h' : Blk w g' t' cs') (hne : t ≠ t') : g ≠ g' := by
  rintro rfl
  unfold Blk at h h'
  rw [h] at h'
  injection h' with h'
  injection h' with _ ht
  exact hne ht
theorem own_blk_ne {base : Nat} {e : TypeId} {size n : Nat} {v : Value} {xs : List Value} (h : w.ownsRow base e size v n xs) (hg : Blk w g t cs) (hne : e ≠ t) : v.ownBlock ≠ some g := by
  rcases h.2 with ⟨rfl, _⟩ | ⟨g', cap, cur, rfl, _, hh, _⟩
  · simp [Value.ownBlock]
  · intro he
    have : g' = g := by simpa [Value.ownBlock] using he
    subst this
    exact Blk.ne_ (t := e) hh hg hne rfl
end

/-- Where 's[l:]' begins, s of capacity m, its elements of s cells: kept behind a name (the walk would part on 'm = l'). -/
def slA (a : Option Addr) (l m s : Nat) : Option Addr := if m = l then a else a.map (·.add (l * s))
@[simp, go_sem] theorem slA_zero (a : Option Addr) (m s : Nat) : slA a 0 m s = a := by
  unfold slA; cases a <;> simp [Addr.add]
section
variable {P : Program} {w : World} (t : TypeId) (a : Option Addr) (len cap : Nat) (ht : P.underlying t = some (.slice (P.elem t)))
include ht
@[go_sem 900] theorem run_slice_any' (lo hi mx : Option Value) :
    (Instr.slice t (.slice a len cap) lo hi mx).run P w =
      ((Instr.sliceBounds true len cap lo hi mx).run P w).andThen fun b w => ((sizeOf (P.elem t)).run P w).andThen fun s w => .ok (.slice (slA a b.1 b.2.2 s) (b.2.1 - b.1) (b.2.2 - b.1)) w := run_slice_any w t a len cap ht lo hi mx
@[go_sem high] theorem run_slice_lh' (kl kh : IntKind) (l h : Int) (h0 : 0 ≤ l) (h1 : l ≤ h) (h2 : h ≤ cap) :
    (Instr.slice t (.slice a len cap) (some (.int kl l)) (some (.int kh h)) none).run P w =
      ((sizeOf (P.elem t)).run P w).andThen fun s w => .ok (.slice (slA a l.toNat cap s) (h.toNat - l.toNat) (cap - l.toNat)) w := run_slice_lh w t a len cap ht kl kh l h h0 h1 h2
@[go_sem high] theorem run_slice_l' (kl : IntKind) (l : Int) (h0 : 0 ≤ l) (h1 : l ≤ len) :
    (Instr.slice t (.slice a len cap) (some (.int kl l)) none none).run P w =
      ((sizeOf (P.elem t)).run P w).andThen fun s w => .ok (.slice (slA a l.toNat cap s) (len - l.toNat) (cap - l.toNat)) w := run_slice_l w t a len cap ht kl l h0 h1
@[go_sem high] theorem run_slice_h' (kh : IntKind) (h : Int) (h0 : 0 ≤ h) (h2 : h ≤ cap) :
    (Instr.slice t (.slice a len cap) none (some (.int kh h)) none).run P w =
      ((sizeOf (P.elem t)).run P w).andThen fun _ w => .ok (.slice a h.toNat cap) w := by
  rw [run_slice_h w t a len cap ht kh h h0 h2]
  have e : ∀ s, sliced a 0 h.toNat cap s = .slice a h.toNat cap := fun s => by
    have := slA_zero a cap s
    unfold slA at this
    simp only [sliced, Nat.sub_zero]
    rw [this]
  simp only [e]
@[go_sem high] theorem run_slice_all' :
    (Instr.slice t (.slice a len cap) none none none).run P w =
      ((sizeOf (P.elem t)).run P w).andThen fun _ w => .ok (.slice a len cap) w := by
  rw [run_slice_all w t a len cap ht]
  have e : ∀ s, sliced a 0 len cap s = .slice a len cap := fun s => by
    have := slA_zero a cap s
    unfold slA at this
    simp only [sliced, Nat.sub_zero]
    rw [this]
  simp only [e]
end

/-- The slice '.slice A n _' holds the cells xs (size cells an element), in a block of F. -/
def Arr (w : World) (F : Nat → Prop) (size : Nat) (A : Option Addr) (n : Nat) (xs : List Value) : Prop :=
  xs.length = n * size ∧ (0 < n → ∃ b o, A = some ⟨b, o, none⟩ ∧ F b ∧ ∀ j u, xs[j]? = some u → w.cell? ⟨b, o + j, none⟩ = some u)

section
variable {w w' : World} {F F' S : Nat → Prop} {size n : Nat} {A : Option Addr} {xs : List Value}
theorem Arr.none_ (w : World) (F : Nat → Prop) (size : Nat) (A : Option Addr) : Arr w F size A 0 [] := ⟨by simp, fun h => absurd h (by omega)⟩
theorem Arr.keep (h : Arr w F size A n xs) (hk : ∀ p : Addr, F p.block → ∀ u, w.cell? p = some u → w'.cell? p = some u) : Arr w' F size A n xs :=
  ⟨h.1, fun hn => by
    obtain ⟨b, o, e, hb, hc⟩ := h.2 hn
    exact ⟨b, o, e, hb, fun j u hu => hk _ hb _ (hc j u hu)⟩⟩
theorem Arr.more (h : Arr w F size A n xs) (hB : ∀ k, k < w.heap.size → F k → F' k) (hs : 0 < size) : Arr w F' size A n xs :=
  ⟨h.1, fun hn => by
    obtain ⟨b, o, e, hb, hc⟩ := h.2 hn
    have hl : 0 < xs.length := by rw [h.1]; exact Nat.mul_pos hn hs
    have hx := hc 0 _ (List.getElem?_eq_getElem hl)
    exact ⟨b, o, e, hB b (World.block_lt_of_cell? w _ hx) hb, hc⟩⟩
theorem Arr.fr (h : Arr w F size A n xs) (hb : Fr S w w') (hd : ∀ k, F k → ¬ S k) : Arr w' F size A n xs := h.keep fun _ hp _ hu => hb.cell' hu (hd _ hp)
theorem Arr.below {B : Nat} (h : Arr w F size A n xs) (hb : Below B w w') (hd : ∀ k, F k → k < B) : Arr w' F size A n xs := h.keep fun _ hp _ hu => (hb.cell (hd _ hp)).trans hu
theorem Arr.drew (h : Arr w F size A n xs) : Arr w.drew F size A n xs := h
theorem Arr.drewN (h : Arr w F size A n xs) (k : Nat) : Arr (w.drewN k) F size A n xs := h
theorem Arr.alloc (h : Arr w F size A n xs) (o : Obj) : Arr (w.alloc o) F size A n xs := h.fr ((Fr.refl NoB w).alloc o) fun _ _ h => h
theorem Arr.setCell (h : Arr w F size A n xs) {p : Addr} (hp : ¬ F p.block) (u : Value) : Arr (w.setCell p u) F size A n xs :=
  h.fr ((Fr.refl (· = p.block) w).setCell (.inl rfl) u) fun _ hF e => hp (e ▸ hF)
theorem Arr.cut (h : Arr w F size A n xs) {k cap : Nat} (hk : k ≤ n) (hc : n ≤ cap) :
    Arr w F size (slA A k cap size) (n - k) (xs.drop (k * size)) := by
  refine ⟨by rw [List.length_drop, h.1, Nat.sub_mul], fun hn => ?_⟩
  obtain ⟨b, o, rfl, hb, hcell⟩ := h.2 (by omega)
  rw [slA, if_neg (by omega)]
  refine ⟨b, o + k * size, by simp [Addr.add_lit], hb, fun j u hu => ?_⟩
  rw [Nat.add_assoc]
  exact hcell _ u (by rw [← hu, List.getElem?_drop])
theorem Arr.take (h : Arr w F size A n xs) {k : Nat} (hk : k ≤ n) : Arr w F size A k (xs.take (k * size)) := by
  refine ⟨by rw [List.length_take, h.1]; exact Nat.min_eq_left (Nat.mul_le_mul_right _ hk), fun hn => ?_⟩
  obtain ⟨b, o, rfl, hb, hcell⟩ := h.2 (by omega)
  refine ⟨b, o, rfl, hb, fun j u hu => hcell j u ?_⟩
  rw [List.getElem?_take] at hu
  split at hu
  · exact hu
  · cases hu
theorem Arr.of_own {base : Nat} {e : TypeId} {c : Nat} (h : w.ownsRow base e size (.slice A n c) n xs) (hF : ∀ k, (Value.slice A n c).ownBlock = some k → F k) : Arr w F size A n xs := by
  refine ⟨h.1, fun hn => ?_⟩
  obtain ⟨g, cap, hv, _, hlt⟩ := h.form hn
  have hA : A = some ⟨g, 0, none⟩ := by injection hv
  subst hA
  exact ⟨g, 0, rfl, hF g rfl, fun j u hu => by have := h.cells (g := g) rfl j u hu; rwa [Addr.add_lit] at this⟩
theorem Arr.at1 (h : Arr w F 1 A n xs) {k : Nat} (hk : k < n) : ∃ b o u, A = some ⟨b, o, none⟩ ∧ F b ∧ xs[k]? = some u ∧ w.cell? ⟨b, o + k, none⟩ = some u := by
  obtain ⟨b, o, e, hb, hc⟩ := h.2 (by omega)
  have hl : k < xs.length := by have := h.1; omega
  exact ⟨b, o, xs[k], e, hb, List.getElem?_eq_getElem hl, hc k _ (List.getElem?_eq_getElem hl)⟩
end

/-- A byte as a value. -/
def bv (x : UInt8) : Value := .int .u8 (x.toNat : Int)
theorem bv_eq (x : UInt8) : bv x = .int .u8 (x.toNat : Int) := rfl
theorem bv_one (l : List UInt8) : ∀ u ∈ l.map bv, u.oneCell' = true := by
  intro u hu
  obtain ⟨x, _, rfl⟩ := List.mem_map.1 hu
  rfl

/-- A slice of bytes that reads as l. -/
def Byt (w : World) (F : Nat → Prop) (A : Option Addr) (n : Nat) (l : List UInt8) : Prop := Arr w F 1 A n (l.map bv)

section
variable {w w' : World} {F F' S : Nat → Prop} {n : Nat} {A : Option Addr} {l : List UInt8}
theorem Byt.len (h : Byt w F A n l) : l.length = n := by have := h.1; simpa using this
theorem Byt.nil (w : World) (F : Nat → Prop) (A : Option Addr) : Byt w F A 0 [] := Arr.none_ w F 1 A
theorem Byt.fr (h : Byt w F A n l) (hb : Fr S w w') (hd : ∀ k, F k → ¬ S k) : Byt w' F A n l := Arr.fr h hb hd
theorem Byt.below {B : Nat} (h : Byt w F A n l) (hb : Below B w w') (hd : ∀ k, F k → k < B) : Byt w' F A n l := Arr.below h hb hd
theorem Byt.drewN (h : Byt w F A n l) (k : Nat) : Byt (w.drewN k) F A n l := h
theorem Byt.more (h : Byt w F A n l) (hB : ∀ k, k < w.heap.size → F k → F' k) : Byt w F' A n l := Arr.more h hB (by omega)
theorem Byt.alloc (h : Byt w F A n l) (o : Obj) : Byt (w.alloc o) F A n l := Arr.alloc h o
theorem Byt.setCell (h : Byt w F A n l) {p : Addr} (hp : ¬ F p.block) (u : Value) : Byt (w.setCell p u) F A n l := Arr.setCell h hp u
theorem Byt.at_ (h : Byt w F A n l) {k : Nat} (hk : k < n) : ∃ b o, A = some ⟨b, o, none⟩ ∧ F b ∧ w.cell? ⟨b, o + k, none⟩ = some (.int .u8 ((l[k]'(by have := h.len; omega)).toNat : Int)) := by
  obtain ⟨b, o, u, e, hb, hx, hc⟩ := Arr.at1 h hk
  refine ⟨b, o, e, hb, hc.trans ?_⟩
  have hl := h.len
  rw [List.getElem?_map, List.getElem?_eq_getElem (by omega)] at hx
  simpa [bv] using hx.symm
theorem Byt.get (h : Byt w F A n l) {k : Nat} (hk : k < n) : ∃ (b o : Nat) (y : Nat) (x : UInt8), A = some ⟨b, o, none⟩ ∧ F b ∧ w.cell? ⟨b, o + k, none⟩ = some (.int .u8 (y : Int)) ∧ y = x.toNat ∧ y < 256 ∧ l[k]? = some x ∧ l.drop k = x :: l.drop (k + 1) := by
  obtain ⟨b, o, e, hb, hc⟩ := h.at_ hk
  have hl : k < l.length := by have := h.len; omega
  exact ⟨b, o, _, l[k], e, hb, hc, rfl, UInt8.toNat_lt _, List.getElem?_eq_getElem hl, List.drop_eq_getElem_cons hl⟩
theorem Byt.cut (h : Byt w F A n l) {k cap : Nat} (hk : k ≤ n) (hc : n ≤ cap) : Byt w F (slA A k cap 1) (n - k) (l.drop k) := by
  have := Arr.cut h hk hc
  simpa [Byt, List.map_drop] using this
theorem Byt.take (h : Byt w F A n l) {k : Nat} (hk : k ≤ n) : Byt w F A k (l.take k) := by
  have := Arr.take h hk
  simpa [Byt, List.map_take] using this
end

section
variable {P : Program} (w : World)

theorem run_append_of_nil (base : Nat) (t ty e : TypeId) (i : TypeInfo) (size : Nat) (ht : P.underlying t = some (.slice e)) (hi : P.info? e = some i)
    (v : Value) (n : Nat) (xs : List Value) (hown : w.ownsRow base e size v n xs) (c : Nat) : (Builtin.append_ #[t, t] ty #[v, .slice none 0 c]).run P w = .ok v w := by
  rcases hown.2 with ⟨rfl, rfl⟩ | ⟨g, cap, cur, rfl, _, _, hnc, _⟩
  · simp [Builtin.append_, run_underlying ht, sizeOf, typeInfo, hi, Builtin.lenOf, Builtin.firstCells]
  · simp [Builtin.append_, run_underlying ht, sizeOf, typeInfo, hi, Builtin.lenOf, Builtin.firstCells, hnc, storeCells]

theorem run_append_any (base : Nat) (t ty e : TypeId) (i : TypeInfo) (z : Value) (size bytes : Nat) (ht : P.underlying t = some (.slice e)) (hi : P.info? e = some i) (hz : i.zero = some z)
    (hsize : i.size = size) (hby : i.bytes = bytes) (hzs : z.cells.size = size) (hsz : 0 < size)
    (v : Value) (n : Nat) (xs : List Value) (hown : w.ownsRow base e size v n xs)
    (F : Nat → Prop) (A : Option Addr) (m c : Nat) (news : List Value) (hr : Arr w F size A m news) (h1 : ∀ u ∈ news, u.oneCell' = true)
    (h63 : n + m ≤ maxLen) (hbytes : (n + m) * bytes ≤ 140737488355328) (hbase : base ≤ w.heap.size) :
    ∃ v' w', (Builtin.append_ #[t, t] ty #[v, .slice A m c]).run P w = .ok v' w' ∧ w'.ownsRow base e size v' (n + m) (xs ++ news) ∧ w.grownBy w' v.ownBlock ∧
      (v' = .slice none 0 0 ↔ v = .slice none 0 0 ∧ m = 0) ∧ (v'.ownBlock = v.ownBlock ∨ v'.ownBlock = some w.heap.size) := by
  rcases A with _ | ad
  · have hm : m = 0 := by
      rcases Nat.eq_zero_or_pos m with h0 | h0
      · exact h0
      · obtain ⟨b, o, h, _⟩ := hr.2 h0
        cases h
    subst hm
    have hn : news = [] := List.eq_nil_of_length_eq_zero (by simpa using hr.1)
    subst hn
    exact ⟨v, w, run_append_of_nil w base t ty e i size ht hi v n xs hown c, by simpa using hown, World.grownBy.refl w _, by simp, .inl rfl⟩
  · have hcells : ∀ j u, news[j]? = some u → w.cell? (ad.add j) = some u := by
      intro j u hu
      rcases Nat.eq_zero_or_pos m with h0 | h0
      · subst h0
        have hn : news = [] := List.eq_nil_of_length_eq_zero (by simpa using hr.1)
        subst hn
        simp at hu
      · obtain ⟨b, o, h, _, hc⟩ := hr.2 h0
        injection h with h
        subst h
        rw [Addr.add_lit]
        exact hc j u hu
    exact run_append_own_at (P := P) w base t ty e i z size bytes ht hi hz hsize hby hzs hsz v n xs hown ad m c news hr.1 hcells h1 h63 hbytes hbase

theorem wp_append_any {o : Oper} {a : Act} {K : Act → World → Prop} {Q : Exit → Act → World → Prop} (s x : Operand) (t : TypeId)
    (ho : o.op = .call { callee := .builtin .append, args := #[s, x], argTypes := #[t, t] })
    (base : Nat) (e : TypeId) (i : TypeInfo) (z : Value) (size bytes : Nat) (ht : P.underlying t = some (.slice e)) (hi : P.info? e = some i) (hz : i.zero = some z)
    (hsize : i.size = size) (hby : i.bytes = bytes) (hzs : z.cells.size = size) (hsz : 0 < size)
    (v : Value) (n : Nat) (xs : List Value) (hs : a.eval s = v) (hown : w.ownsRow base e size v n xs)
    (F : Nat → Prop) (A : Option Addr) (m c : Nat) (news : List Value) (hx : a.eval x = .slice A m c) (hr : Arr w F size A m news) (h1 : ∀ u ∈ news, u.oneCell' = true)
    (h63 : n + m ≤ maxLen) (hbytes : (n + m) * bytes ≤ 140737488355328) (hbase : base ≤ w.heap.size)
    (h : ∀ v' w', w'.ownsRow base e size v' (n + m) (xs ++ news) → w.grownBy w' v.ownBlock → (v' = .slice none 0 0 ↔ v = .slice none 0 0 ∧ m = 0) → (v'.ownBlock = v.ownBlock ∨ v'.ownBlock = some w.heap.size) → K (a.put o.dst v') w') : o.wp P a w K Q := by
  obtain ⟨v', w', hrun, h2, h3, h4, h5⟩ := run_append_any (P := P) w base t o.type e i z size bytes ht hi hz hsize hby hzs hsz v n xs hown F A m c news hr h1 h63 hbytes hbase
  unfold Oper.wp execOp
  simp only [ho, resolve, invoke, builtin, Sem.run_bind, Sem.run_pure, Result.andThen_ok, List.map_toArray, List.map_cons, List.map_nil, hs, hx, hrun]
  exact h v' w' h2 h3 h4 h5

theorem wpList_append_any {ops : Array Oper} {rest : List Oper} {o : Oper} {a : Act} {Q : Exit → Act → World → Prop} (hgd : o.guard = none) (s x : Operand) (t : TypeId)
    (ho : o.op = .call { callee := .builtin .append, args := #[s, x], argTypes := #[t, t] })
    (base : Nat) (e : TypeId) (i : TypeInfo) (z : Value) (size bytes : Nat) (ht : P.underlying t = some (.slice e)) (hi : P.info? e = some i) (hz : i.zero = some z)
    (hsize : i.size = size) (hby : i.bytes = bytes) (hzs : z.cells.size = size) (hsz : 0 < size)
    (v : Value) (n : Nat) (xs : List Value) (hs : a.eval s = v) (hown : w.ownsRow base e size v n xs)
    (F : Nat → Prop) (A : Option Addr) (m c : Nat) (news : List Value) (hx : a.eval x = .slice A m c) (hr : Arr w F size A m news) (h1 : ∀ u ∈ news, u.oneCell' = true)
    (h63 : n + m ≤ maxLen) (hbytes : (n + m) * bytes ≤ 140737488355328) (hbase : base ≤ w.heap.size)
    (h : ∀ v' w', w'.ownsRow base e size v' (n + m) (xs ++ news) → w.grownBy w' v.ownBlock → (v' = .slice none 0 0 ↔ v = .slice none 0 0 ∧ m = 0) → (v'.ownBlock = v.ownBlock ∨ v'.ownBlock = some w.heap.size) → wpList P ops Q rest (a.put o.dst v') w') : wpList P ops Q (o :: rest) a w :=
  wpList_plain hgd fun _ hK => wp_append_any w s x t ho base e i z size bytes ht hi hz hsize hby hzs hsz v n xs hs hown F A m c news hx hr h1 h63 hbytes hbase fun v' w' h2 h3 h4 h5 => hK _ _ (h v' w' h2 h3 h4 h5)
end

/-- The slice type t has elements of type e: their zero value, how many cells and bytes one takes. -/
def ElemOk (P : Program) (t e : TypeId) (z : Value) (size bytes : Nat) : Prop :=
  P.underlying t = some (.slice e) ∧ (∃ i, P.info? e = some i ∧ i.zero = some z ∧ i.size = size ∧ i.bytes = bytes) ∧ z.cells.size = size ∧ 0 < size ∧ 0 < bytes

theorem ElemOk.mk {P : Program} {t e : TypeId} {z : Value} {size bytes : Nat} (ht : P.underlying t = some (.slice e)) (hi : (P.info? e).map (fun i => (i.zero, i.size, i.bytes)) = some (some z, size, bytes)) (hz : z.cells.size = size) (h0 : 0 < size) (h1 : 0 < bytes) : ElemOk P t e z size bytes := by
  obtain ⟨i, h, a, b, c⟩ := info_parts hi
  exact ⟨ht, ⟨i, h, a, b, c⟩, hz, h0, h1⟩

/-- k is the block of an address, if there is one. -/
def inB (A : Option Addr) (k : Nat) : Prop := ∃ a, A = some a ∧ a.block = k
theorem inB_none (k : Nat) : ¬ inB none k := fun ⟨_, h, _⟩ => by cases h
theorem inB_some (a : Addr) (k : Nat) : inB (some a) k ↔ a.block = k := ⟨fun ⟨_, h, e⟩ => by cases h; exact e, fun h => ⟨a, rfl, h⟩⟩

/-- The slice '.slice A n c' is nil, or the head of an unfrozen block of elements e, of c places, of which the first n hold the cells xs. -/
def Own (w : World) (e : TypeId) (size : Nat) (A : Option Addr) (n c : Nat) (xs : List Value) : Prop := w.ownsRow 0 e size (.slice A n c) n xs

section
variable {w w' : World} {e : TypeId} {size n c : Nat} {A : Option Addr} {xs : List Value} {S F : Nat → Prop}
theorem Own.nil (w : World) (e : TypeId) (size : Nat) : Own w e size none 0 0 [] := World.ownsRow_nil _ _ _ _
theorem Own.form (h : Own w e size A n c xs) : (A = none ∧ n = 0 ∧ c = 0 ∧ xs = []) ∨ ∃ g cur, A = some ⟨g, 0, none⟩ ∧ Blk w g e cur ∧ n ≤ c ∧ c ≤ maxLen ∧ cur.size = c * size ∧ cur.toList.take (n * size) = xs := by
  rcases h.2 with ⟨h1, h2⟩ | ⟨g, cap, cur, h1, _, h2, h3, h4, h5, h6⟩
  · injection h1 with a1 a2 a3
    refine .inl ⟨a1, h2, a3, List.eq_nil_of_length_eq_zero ?_⟩
    rw [h.1, h2, Nat.zero_mul]
  · injection h1 with a1 a2 a3
    subst a3
    exact .inr ⟨g, cur, a1, h2, h3, h4, h5, h6⟩
theorem Own.len (h : Own w e size A n c xs) : xs.length = n * size := h.1
theorem Own.le (h : Own w e size A n c xs) : n ≤ c := by
  rcases h.form with ⟨_, h1, h2, _⟩ | ⟨_, _, _, _, h1, _⟩ <;> omega
theorem Own.cap (h : Own w e size A n c xs) : c ≤ maxLen := by
  rcases h.form with ⟨_, _, h2, _⟩ | ⟨_, _, _, _, _, h1, _⟩
  · unfold maxLen; omega
  · exact h1
theorem Own.lt (h : Own w e size A n c xs) {k : Nat} (hk : inB A k) : k < w.heap.size := by
  rcases h.form with ⟨rfl, _⟩ | ⟨g, cur, rfl, hb, _⟩
  · exact absurd hk (inB_none k)
  · rw [inB_some] at hk
    exact hk ▸ hb.lt
theorem Own.fr (h : Own w e size A n c xs) (hf : Fr S w w') (hd : ∀ k, inB A k → ¬ S k) : Own w' e size A n c xs := by
  refine ⟨h.1, ?_⟩
  rcases h.2 with hn | ⟨g, cap, cur, hv, hb, hgg, rest⟩
  · exact .inl hn
  · have hA : A = some ⟨g, 0, none⟩ := by injection hv
    refine .inr ⟨g, cap, cur, hv, hb, ?_, rest⟩
    rw [hf.block g (Array.getElem?_eq_some_iff.1 hgg).1 (hd g ⟨_, hA, rfl⟩)]
    exact hgg
theorem Own.drewN (h : Own w e size A n c xs) (k : Nat) : Own (w.drewN k) e size A n c xs := h
theorem Own.alloc (h : Own w e size A n c xs) (o : Obj) : Own (w.alloc o) e size A n c xs := h.fr ((Fr.refl NoB w).alloc o) fun _ _ => id
theorem Own.setCell (h : Own w e size A n c xs) {p : Addr} (hp : ¬ inB A p.block) (u : Value) : Own (w.setCell p u) e size A n c xs :=
  h.fr ((Fr.refl (· = p.block) w).setCell (.inl rfl) u) fun _ hF e => hp (e ▸ hF)
theorem Own.set_ (h : Own w e size A n c xs) {b : Nat} (hp : ¬ inB A b) (i : Nat) (u : Value) : Own (w.setCell ⟨b, i, none⟩ u) e size A n c xs := h.setCell (p := ⟨b, i, none⟩) hp u
theorem Own.arr (h : Own w e size A n c xs) (hF : ∀ k, k < w.heap.size → inB A k → F k) : Arr w F size A n xs :=
  Arr.of_own h fun k hk => by
    cases A with
    | none => cases hk
    | some a =>
      have hb : inB (some a) k := ⟨a, rfl, by simpa [Value.ownBlock] using hk⟩
      exact hF k (h.lt hb) hb
theorem Own.ne_blk (h : Own w e size A n c xs) {g : Nat} {t : TypeId} {cs : Array Value} (hg : Blk w g t cs) (hne : e ≠ t) : ¬ inB A g := by
  rcases h.form with ⟨rfl, _⟩ | ⟨g', cur, rfl, hb, _⟩
  · exact inB_none g
  · rw [inB_some]
    exact Blk.ne_ hb hg hne
end

section
variable {P : Program} (w : World)
/-- append onto an owned row, at the operation. -/
theorem wpList_app {ops : Array Oper} {rest : List Oper} {o : Oper} {a : Act} {Q : Exit → Act → World → Prop} {t e : TypeId} {z : Value} {size bytes : Nat} (E : ElemOk P t e z size bytes) (hgd : o.guard = none) (s x : Operand)
    (ho : o.op = .call { callee := .builtin .append, args := #[s, x], argTypes := #[t, t] })
    (A : Option Addr) (n c : Nat) (xs : List Value) (hs : a.eval s = .slice A n c) (hown : Own w e size A n c xs)
    (F : Nat → Prop) (B : Option Addr) (m d : Nat) (news : List Value) (hx : a.eval x = .slice B m d) (hr : Arr w F size B m news) (h1 : ∀ u ∈ news, u.oneCell' = true)
    (hbytes : (n + m) * bytes ≤ 140737488355328)
    (h : ∀ A' c' w', Own w' e size A' (n + m) c' (xs ++ news) → Fr (inB A) w w' → (∀ k, inB A' k → inB A k ∨ k = w.heap.size) → (A' = none ↔ A = none ∧ m = 0) → wpList P ops Q rest (a.put o.dst (.slice A' (n + m) c')) w') : wpList P ops Q (o :: rest) a w := by
  obtain ⟨ht, ⟨i, hi, hz, hsize, hby⟩, hzs, hsz, hb0⟩ := E
  have h63 : n + m ≤ maxLen := by
    have := Nat.le_mul_of_pos_right (n + m) hb0
    simp only [maxLen]; omega
  refine wpList_append_any w hgd s x t ho 0 e i z size bytes ht hi hz hsize hby hzs hsz _ n xs hs hown F B m d news hx hr h1 h63 hbytes (Nat.zero_le _) ?_
  intro v' w' h2 h3 h4 h5
  have hv : ∃ A' c', v' = .slice A' (n + m) c' := by
    rcases h2.2 with ⟨rfl, e0⟩ | ⟨g, cap, _, rfl, _⟩
    · exact ⟨none, 0, by rw [e0]⟩
    · exact ⟨_, _, rfl⟩
  obtain ⟨A', c', rfl⟩ := hv
  have hblk : ∀ (X : Option Addr) (p q k : Nat), (Value.slice X p q).ownBlock = some k ↔ inB X k := by
    intro X p q k
    cases X with
    | none => exact ⟨fun h => (by cases h), fun h => absurd h (inB_none k)⟩
    | some a => rw [inB_some]; simp [Value.ownBlock]
  refine h A' c' w' h2 ((Fr.refl _ w).grown h3 fun k hk => .inl ((hblk _ _ _ _).1 hk)) (fun k hk => ?_) ?_
  · have hk' := (hblk A' (n + m) c' k).2 hk
    rcases h5 with h5 | h5 <;> rw [h5] at hk'
    · exact .inl ((hblk _ _ _ _).1 hk')
    · exact .inr (by injection hk' with hk'; exact hk'.symm)
  · have hA' : A' = none ↔ Value.slice A' (n + m) c' = .slice none 0 0 := by
      constructor
      · intro hA
        rcases Own.form h2 with ⟨_, e1, e2, _⟩ | ⟨g, _, e1, _⟩
        · rw [hA, e1, e2]
        · rw [hA] at e1; cases e1
      · intro hA; injection hA
    have hA : A = none ↔ Value.slice A n c = .slice none 0 0 := by
      constructor
      · intro hA
        rcases Own.form hown with ⟨_, e1, e2, _⟩ | ⟨g, _, e1, _⟩
        · rw [hA, e1, e2]
        · rw [hA] at e1; cases e1
      · intro hA; injection hA
    rw [hA', h4, hA]
end

/-- 'string(b)'. -/
theorem Byt.str {w : World} {F : Nat → Prop} {A : Option Addr} {n : Nat} {l : List UInt8} (h : Byt w F A n l) {P : Program} {src dst e : TypeId} (hs : P.underlying src = some (.slice e)) (he : P.underlying e = some (.int .u8)) (hd : P.underlying dst = some .string) (c : Nat) :
    (convert src dst (.slice A n c)).run P w = .ok (.string ⟨l.toArray⟩) w := by
  obtain rfl := h.len
  cases A with
  | none =>
    have hl : l = [] := by
      rcases Nat.eq_zero_or_pos l.length with h0 | h0
      · exact List.eq_nil_of_length_eq_zero h0
      · obtain ⟨b, o, h, _⟩ := h.2 h0; cases h
    subst hl
    exact run_convert_bytes_nil w src e hs he 0 c dst hd
  | some a =>
    refine run_convert_bytes_back w src dst e a c l hs he hd fun j hj => ?_
    obtain ⟨b, o, h, _, hc⟩ := h.at_ hj
    injection h with h
    subst h
    rw [Addr.add_lit]; exact hc

theorem Arr.one (w : World) (x : Value) (t : TypeId) : Arr (w.alloc (.cells #[x] t)) (fun k => k = w.heap.size) 1 (some ⟨w.heap.size, 0, none⟩) 1 [x] :=
  ⟨rfl, fun _ => ⟨_, _, rfl, rfl, fun j u hu => by have := cell_one_new w x t j u hu; rwa [Addr.add_lit] at this⟩⟩

/-- A new block of bytes, read. -/
theorem Byt.new (w : World) (t : TypeId) (l : List UInt8) (cs : Array Value) (h : cs.toList = l.map bv) : Byt (w.alloc (.cells cs t)) (fun k => k = w.heap.size) (some ⟨w.heap.size, 0, none⟩) l.length l := by
  refine ⟨by simp, fun _ => ⟨_, _, rfl, rfl, fun j u hu => ?_⟩⟩
  rw [Nat.zero_add]
  refine ((Blk.new w t cs).cell j).trans ?_
  rw [← h] at hu
  simpa using hu

/-- A slice whose elements, of size cells each, read as the list as, by R. -/
def ArrOf {α : Type} (R : List Value → α → Prop) (w : World) (F : Nat → Prop) (size : Nat) (A : Option Addr) (n : Nat) (as : List α) : Prop :=
  as.length = n ∧ (0 < n → ∃ b o, A = some ⟨b, o, none⟩ ∧ F b ∧ ∀ k a, as[k]? = some a → ∃ y, y.length = size ∧ R y a ∧ ∀ j u, y[j]? = some u → w.cell? ⟨b, o + k * size + j, none⟩ = some u)

section
variable {α : Type} {R R' : List Value → α → Prop} {w w' : World} {F F' S : Nat → Prop} {size n : Nat} {A : Option Addr} {as : List α}
theorem ArrOf.none_ (R : List Value → α → Prop) (w : World) (F : Nat → Prop) (size : Nat) (A : Option Addr) : ArrOf R w F size A 0 [] := ⟨rfl, fun h => absurd h (by omega)⟩
theorem ArrOf.len (h : ArrOf R w F size A n as) : as.length = n := h.1
theorem ArrOf.keep (h : ArrOf R w F size A n as) (hR : ∀ y a, a ∈ as → R y a → R' y a) (hk : ∀ p : Addr, F p.block → ∀ u, w.cell? p = some u → w'.cell? p = some u) : ArrOf R' w' F size A n as :=
  ⟨h.1, fun hn => by
    obtain ⟨b, o, e, hb, hc⟩ := h.2 hn
    refine ⟨b, o, e, hb, fun k a ha => ?_⟩
    obtain ⟨y, hy, hr, hcell⟩ := hc k a ha
    exact ⟨y, hy, hR y a (List.mem_of_getElem? ha) hr, fun j u hu => hk _ hb _ (hcell j u hu)⟩⟩
theorem ArrOf.fr (h : ArrOf R w F size A n as) (hb : Fr S w w') (hd : ∀ k, F k → ¬ S k) (hR : ∀ y a, a ∈ as → R y a → R' y a) : ArrOf R' w' F size A n as := h.keep hR fun _ hp _ hu => hb.cell' hu (hd _ hp)
theorem ArrOf.more (h : ArrOf R w F size A n as) (hs : 0 < size) (hF : ∀ k, k < w.heap.size → F k → F' k) (hR : ∀ y a, a ∈ as → R y a → R' y a) : ArrOf R' w F' size A n as :=
  ⟨h.1, fun hn => by
    obtain ⟨b, o, e, hb, hc⟩ := h.2 hn
    refine ⟨b, o, e, ?_, fun k a ha => ?_⟩
    · obtain ⟨y, hy, _, hcell⟩ := hc 0 _ (List.getElem?_eq_getElem (show 0 < as.length by rw [h.1]; exact hn))
      exact hF b (World.block_lt_of_cell? w _ (hcell 0 _ (List.getElem?_eq_getElem (show 0 < y.length by omega)))) hb
    · obtain ⟨y, hy, hr, hcell⟩ := hc k a ha
      exact ⟨y, hy, hR y a (List.mem_of_getElem? ha) hr, hcell⟩⟩
theorem ArrOf.at_ (h : ArrOf R w F size A n as) {k : Nat} (hk : k < n) : ∃ b o a y, A = some ⟨b, o, none⟩ ∧ F b ∧ as[k]? = some a ∧ y.length = size ∧ R y a ∧ ∀ j u, y[j]? = some u → w.cell? ⟨b, o + k * size + j, none⟩ = some u := by
  obtain ⟨b, o, e, hb, hc⟩ := h.2 (by omega)
  have hl : k < as.length := by have := h.1; omega
  obtain ⟨y, hy, hr, hcell⟩ := hc k _ (List.getElem?_eq_getElem hl)
  exact ⟨b, o, _, y, e, hb, List.getElem?_eq_getElem hl, hy, hr, hcell⟩
end

theorem flatten_at {size : Nat} : ∀ (ys : List (List Value)) (k j : Nat) (y : List Value), (∀ y ∈ ys, y.length = size) → ys[k]? = some y → j < size → ys.flatten[k * size + j]? = y[j]?
  | [], k, j, y, _, h, _ => by simp at h
  | z :: ys, 0, j, y, hl, h, hj => by
    simp at h
    subst h
    have := hl z (by simp)
    rw [List.flatten_cons, List.getElem?_append_left (by omega)]; simp
  | z :: ys, k + 1, j, y, hl, h, hj => by
    have hz := hl z (by simp)
    rw [List.flatten_cons, List.getElem?_append_right (by rw [hz, Nat.add_mul]; omega), hz, show (k + 1) * size + j - size = k * size + j by rw [Nat.add_mul]; omega]
    exact flatten_at ys k j y (fun y hy => hl y (by simp [hy])) (by simpa using h) hj

/-- Cells laid in a row read as elements. -/
theorem ArrOf.of_arr {α : Type} {R : List Value → α → Prop} {w : World} {F : Nat → Prop} {size n : Nat} {A : Option Addr} {as : List α} {ys : List (List Value)} (h : Arr w F size A n ys.flatten) (hl : ∀ y ∈ ys, y.length = size) (hn : as.length = n)
    (hR : ∀ (k : Nat) (a : α), as[k]? = some a → ∃ y, ys[k]? = some y ∧ R y a) : ArrOf R w F size A n as := by
  refine ⟨hn, fun h0 => ?_⟩
  obtain ⟨b, o, e, hb, hc⟩ := h.2 h0
  refine ⟨b, o, e, hb, fun k a ha => ?_⟩
  obtain ⟨y, hy, hr⟩ := hR k a ha
  have hyl := hl y (List.mem_of_getElem? hy)
  refine ⟨y, hyl, hr, fun j u hu => ?_⟩
  rw [Nat.add_assoc]
  refine hc _ u ?_
  rw [flatten_at ys k j y hl hy (by have := (List.getElem?_eq_some_iff.1 hu).1; omega)]
  exact hu

section
variable {P : Program}
/-- A struct or an array loaded out of memory. -/
theorem run_load_agg (w : World) (ty b o : Nat) (y : List Value) (d : TypeDesc) (hc : ∀ j u, y[j]? = some u → w.cell? ⟨b, o + j, none⟩ = some u)
    (hu : P.underlying ty = some d) (hd : (match d with | .struct _ | .array _ _ => true | _ => false) = true) (hi : (P.info? ty).map (·.size) = some y.length) :
    (loadVar ty ⟨b, o, none⟩).run P w = .ok (.agg y.toArray) w := by
  have hl : (loadCells ⟨b, o, none⟩ y.length).run P w = .ok y.toArray w :=
    run_loadCells_list (P := P) w ⟨b, o, none⟩ y (fun j v hv => by rw [Addr.add_lit]; exact hc j v hv)
  cases hq : P.info? ty with
  | none => simp [hq] at hi
  | some i =>
    have hs : i.size = y.length := by simpa [hq] using hi
    have hagg : (isAgg ty).run P w = .ok true w := by
      unfold isAgg
      rw [Sem.run_bind, run_underlying hu w]
      cases d <;> simp_all
    simp [loadVar, Sem.run_bind, hagg, sizeOf, typeInfo, hq, hs, hl]

theorem wpList_load_agg {ops : Array Oper} {rest : List Oper} {o : Oper} {a : Act} {w : World} {Q : Exit → Act → World → Prop} (hgd : o.guard = none) (ty : TypeId) (x : Operand) (ho : o.op = .load ty x)
    (b off : Nat) (hx : a.eval x = .pointer (some ⟨b, off, none⟩)) (y : List Value) (d : TypeDesc) (hc : ∀ j u, y[j]? = some u → w.cell? ⟨b, off + j, none⟩ = some u)
    (hu : P.underlying ty = some d) (hd : (match d with | .struct _ | .array _ _ => true | _ => false) = true) (hi : (P.info? ty).map (·.size) = some y.length)
    (h : wpList P ops Q rest (a.put o.dst (.agg y.toArray)) w) : wpList P ops Q (o :: rest) a w := by
  refine wpList_plain hgd fun _ hK => ?_
  unfold Oper.wp execOp
  simp only [ho, hx, Instr.loadAt, Instr.sureAddr, Sem.run_bind, Sem.run_pure, Result.andThen_ok, run_load_agg w ty b off y d hc hu hd hi]
  exact hK _ _ h

theorem setRow_alloc (w : World) (old cs : Array Value) (t : TypeId) : (w.alloc (.cells old t)).setRow w.heap.size cs = w.alloc (.cells cs t) := by
  show ({ w with heap := (w.heap.push (.cells old t)).modify w.heap.size _ } : World) = { w with heap := w.heap.push (.cells cs t) }
  congr 1
  apply Array.ext
  · simp
  · intro i h1 h2
    simp at h1 h2
    rw [Array.getElem_modify]
    by_cases hi : w.heap.size = i
    · subst hi; simp
    · simp [hi, Array.getElem_push, show i < w.heap.size by omega]

/-- A struct or an array stored into the block that was just made for it. -/
theorem wpList_store_new {ops : Array Oper} {rest : List Oper} {o : Oper} {a : Act} {w : World} {Q : Exit → Act → World → Prop} (hgd : o.guard = none) (ty : TypeId) (x y : Operand) (ho : o.op = .store ty x y)
    (t : TypeId) (old cells : Array Value) (hx : a.eval x = .pointer (some ⟨w.heap.size, 0, none⟩)) (hy : a.eval y = .agg cells) (hi : (P.info? ty).map (·.size) = some cells.size)
    (hold : old.size = cells.size) (h1 : cells.all (·.oneCell') = true)
    (h : wpList P ops Q rest (a.put o.dst undef) (w.alloc (.cells cells t))) : wpList P ops Q (o :: rest) a (w.alloc (.cells old t)) := by
  refine wpList_plain hgd fun _ hK => ?_
  refine wp_store_row ty x y ho w.heap.size cells hx hy t old (heap_alloc_new w _) hi hold h1 ?_
  rw [setRow_alloc]
  exact hK _ _ h
end

theorem ret_int {k : IntKind} {a b : Int} (h : a = b) : Ending.returned (.int k a) = .returned (.int k b) := by rw [h]
theorem ret_bool {a b : Bool} (h : a = b) : Ending.returned (.bool a) = .returned (.bool b) := by rw [h]
end Go.Proofs.YtnplamcajjblkaaGreat
