/-
  Slices of ops as flat cells, and an op of an owned row written in place; a script in a block of its own. Conditions: each lemma states its own.
-/
import Derived.Test.YtnkfchondedfcaaTg
import Derived.Deep.MidRow
namespace Go.Proofs.Ytnkfchondedfcaa
open Go.RowKit

theorem ArrOf.flat {α : Type} {R : List Value → α → Prop} {w : World} {F : Nat → Prop} {size n : Nat} {A : Option Addr} {ls : List α} (h : ArrOf R w F size A n ls) (f : α → List Value) (h0 : 0 < size)
    (hl : ∀ a, (f a).length = size) (hR : ∀ y a, R y a → y = f a) : Arr w F size A n (ls.flatMap f) := by
  have hlen : (ls.flatMap f).length = n * size := by
    rw [← h.1]
    clear h hR
    induction ls with
    | nil => simp
    | cons a ls ih => rw [List.flatMap_cons, List.length_append, hl, ih, List.length_cons, Nat.add_mul]; omega
  refine ⟨hlen, fun hn => ?_⟩
  obtain ⟨b, o, e, hb, hc⟩ := h.2 hn
  refine ⟨b, o, e, hb, fun j u hu => ?_⟩
  have hj : j < n * size := by rw [← hlen]; exact (List.getElem?_eq_some_iff.1 hu).1
  have hq : j / size < ls.length := by rw [h.1]; exact Nat.div_lt_of_lt_mul (by rw [Nat.mul_comm]; exact hj)
  have hm : j % size < size := Nat.mod_lt _ h0
  have hjd : j / size * size + j % size = j := by rw [Nat.mul_comm]; exact Nat.div_add_mod j size
  obtain ⟨y, hy, hr, hcell⟩ := hc (j / size) _ (List.getElem?_eq_getElem hq)
  have hyf := hR _ _ hr
  have hat : (ls.flatMap f)[j]? = y[j % size]? := by
    rw [List.flatMap_def, ← hjd]
    rw [flatten_at (size := size) (ls.map f) (j / size) (j % size) y (by intro z hz; obtain ⟨a, _, rfl⟩ := List.mem_map.1 hz; exact hl a) (by rw [List.getElem?_map, List.getElem?_eq_getElem hq, Option.map_some, hyf]) hm]
    rw [hjd]
  have := hcell (j % size) u (by rw [← hat]; exact hu)
  rwa [Nat.add_assoc, hjd] at this
theorem Opns.arr {w : World} {F : Nat → Prop} {A : Option Addr} {n : Nat} {l : List Opn} (h : Opns w F A n l) : Arr w F 7 A n (l.flatMap opCells) := ArrOf.flat h opCells (by omega) opCells_len fun _ _ hr => hr.1
def twoCells (p : Int × Int) : List Value := [.int .i64 p.1, .int .i64 p.2]
theorem Twos.arr {w : World} {F : Nat → Prop} {A : Option Addr} {n : Nat} {l : List (Int × Int)} (h : Twos w F A n l) : Arr w F 2 A n (l.flatMap twoCells) := ArrOf.flat h twoCells (by omega) (fun _ => rfl) fun _ _ hr => hr
theorem ArrOf.of_flat {α : Type} {R : List Value → α → Prop} {w : World} {F : Nat → Prop} {size n : Nat} {A : Option Addr} {ls : List α} (f : α → List Value) (h : Arr w F size A n (ls.flatMap f)) (hn : ls.length = n)
    (hl : ∀ a, (f a).length = size) (hR : ∀ a, a ∈ ls → R (f a) a) : ArrOf R w F size A n ls := by
  rw [List.flatMap_def] at h
  refine ArrOf.of_arr h (by intro y hy; obtain ⟨a, _, rfl⟩ := List.mem_map.1 hy; exact hl a) hn fun k a ha => ?_
  exact ⟨f a, by rw [List.getElem?_map, ha]; rfl, hR a (List.mem_of_getElem? ha)⟩
theorem Opns.of_arr {w : World} {F : Nat → Prop} {A : Option Addr} {n : Nat} {l : List Opn} (h : Arr w F 7 A n (l.flatMap opCells)) (hn : l.length = n) (hw : ∀ o ∈ l, opWf o) : Opns w F A n l :=
  ArrOf.of_flat opCells h hn opCells_len fun a ha => ⟨rfl, hw a ha⟩
theorem Twos.of_arr {w : World} {F : Nat → Prop} {A : Option Addr} {n : Nat} {l : List (Int × Int)} (h : Arr w F 2 A n (l.flatMap twoCells)) (hn : l.length = n) : Twos w F A n l :=
  ArrOf.of_flat twoCells h hn (fun _ => rfl) fun _ _ => rfl
theorem Opns.wf {w : World} {F : Nat → Prop} {A : Option Addr} {n : Nat} {l : List Opn} (h : Opns w F A n l) : ∀ o ∈ l, opWf o := by
  intro o ho
  obtain ⟨k, hk, rfl⟩ := List.getElem_of_mem ho
  obtain ⟨_, _, a, y, _, _, ga, _, hr, _⟩ := ArrOf.at_ h (k := k) (by have := h.len; omega)
  rw [List.getElem?_eq_getElem hk] at ga
  injection ga with ga
  exact ga ▸ hr.2
theorem opCells_ones (o : Opn) : ∀ v ∈ opCells o, v.oneCell' = true := by
  intro v hv
  simp only [opCells, List.mem_cons, List.not_mem_nil, or_false] at hv
  rcases hv with rfl | rfl | rfl | rfl | rfl | rfl | rfl <;> rfl
theorem ops_ones (l : List Opn) : ∀ v ∈ l.flatMap opCells, v.oneCell' = true := by
  intro v hv
  obtain ⟨o, _, ho⟩ := List.mem_flatMap.1 hv
  exact opCells_ones o v ho
theorem twos_ones (l : List (Int × Int)) : ∀ v ∈ l.flatMap twoCells, v.oneCell' = true := by
  intro v hv
  obtain ⟨o, _, ho⟩ := List.mem_flatMap.1 hv
  simp only [twoCells, List.mem_cons, List.not_mem_nil, or_false] at ho
  rcases ho with rfl | rfl <;> rfl

theorem Own.put {w : World} {e : TypeId} {size n c g : Nat} {xs : List Value} (h : Own w e size (some ⟨g, 0, none⟩) n c xs) (i : Nat) (v : Value) : Own (w.setCell ⟨g, i, none⟩ v) e size (some ⟨g, 0, none⟩) n c (xs.set i v) := by
  refine ⟨by rw [List.length_set]; exact h.1, ?_⟩
  rcases h.form with ⟨h1, _⟩ | ⟨g', cur, hg, hb, h3, h4, h5, h6⟩
  · cases h1
  · injection hg with hg
    injection hg with hg
    subst hg
    refine .inr ⟨g, c, cur.setIfInBounds i v, rfl, Nat.zero_le _, hb.set_ i v, h3, h4, by simpa using h5, ?_⟩
    rw [Array.toList_setIfInBounds, List.take_set, h6]
theorem Own.frozen {w : World} {e : TypeId} {size n c g : Nat} {xs : List Value} (h : Own w e size (some ⟨g, 0, none⟩) n c xs) (i : Nat) : w.frozen? ⟨g, i, none⟩ = false := by
  rcases h.form with ⟨h1, _⟩ | ⟨g', cur, hg, hb, _⟩
  · cases h1
  · injection hg with hg
    injection hg with hg
    subst hg
    exact hb.frozen i
theorem Own.cell {w : World} {e : TypeId} {size n c g : Nat} {xs : List Value} (h : Own w e size (some ⟨g, 0, none⟩) n c xs) {i : Nat} {u : Value} (hu : xs[i]? = some u) : w.cell? ⟨g, i, none⟩ = some u := by
  rcases h.form with ⟨h1, _⟩ | ⟨g', cur, hg, hb, _, _, _, h6⟩
  · cases h1
  · injection hg with hg
    injection hg with hg
    subst hg
    rw [hb.cell]
    rw [← h6, List.getElem?_take] at hu
    split at hu
    · simpa using hu
    · cases hu
theorem ops_at : ∀ (l : List Opn) (k j : Nat) (o : Opn), l[k]? = some o → j < 7 → (l.flatMap opCells)[k * 7 + j]? = (opCells o)[j]?
  | [], k, j, o, h, _ => by simp at h
  | a :: l, 0, j, o, h, hj => by
    simp at h
    subst h
    rw [List.flatMap_cons, List.getElem?_append_left (by rw [opCells_len]; omega)]; simp
  | a :: l, k + 1, j, o, h, hj => by
    rw [List.flatMap_cons, List.getElem?_append_right (by rw [opCells_len]; omega), opCells_len, show (k + 1) * 7 + j - 7 = k * 7 + j by omega]
    exact ops_at l k j o (by simpa using h) hj
theorem ops_set : ∀ (l : List Opn) (k j : Nat) (o o' : Opn) (v : Value), l[k]? = some o → j < 7 → (opCells o).set j v = opCells o' → (l.flatMap opCells).set (k * 7 + j) v = (l.set k o').flatMap opCells
  | [], k, j, o, o', v, h, _, _ => by simp at h
  | a :: l, 0, j, o, o', v, h, hj, he => by
    simp at h
    subst h
    rw [List.set_cons_zero, List.flatMap_cons, List.flatMap_cons, List.set_append_left _ _ (by rw [opCells_len]; omega), ← he]; simp
  | a :: l, k + 1, j, o, o', v, h, hj, he => by
    rw [List.set_cons_succ, List.flatMap_cons, List.flatMap_cons, List.set_append_right _ _ (by rw [opCells_len]; omega), opCells_len, show (k + 1) * 7 + j - 7 = k * 7 + j by omega,
      ops_set l k j o o' v (by simpa using h) hj he]
/-- A row of ops. -/
def OpRow (w : World) (g n c : Nat) (l : List Opn) : Prop := Own w 34 7 (some ⟨g, 0, none⟩) n c (l.flatMap opCells)
section
variable {w w' : World} {g n c k : Nat} {l : List Opn} {o : Opn} {S : Nat → Prop}
theorem OpRow.fr (h : OpRow w g n c l) (hf : Fr S w w') (hd : ¬ S g) : OpRow w' g n c l := Own.fr h hf fun j hj => by rw [inB_some] at hj; exact hj ▸ hd
theorem OpRow.c3 (h : OpRow w g n c l) (hk : l[k]? = some o) : w.cell? ⟨g, k * 7 + 3, none⟩ = some (.string o.path) := Own.cell h ((ops_at l k 3 o hk (by omega)).trans rfl)
theorem OpRow.c4 (h : OpRow w g n c l) (hk : l[k]? = some o) : w.cell? ⟨g, k * 7 + 4, none⟩ = some (.string o.other) := Own.cell h ((ops_at l k 4 o hk (by omega)).trans rfl)
theorem OpRow.c5 (h : OpRow w g n c l) (hk : l[k]? = some o) : w.cell? ⟨g, k * 7 + 5, none⟩ = some (.string o.text) := Own.cell h ((ops_at l k 5 o hk (by omega)).trans rfl)
theorem OpRow.fz (h : OpRow w g n c l) (i : Nat) : w.frozen? ⟨g, i, none⟩ = false := Own.frozen h i
theorem OpRow.put (h : OpRow w g n c l) {o' : Opn} {j : Nat} {v : Value} (hk : l[k]? = some o) (hj : j < 7) (he : (opCells o).set j v = opCells o') : OpRow (w.setCell ⟨g, k * 7 + j, none⟩ v) g n c (l.set k o') := by
  have := Own.put h (k * 7 + j) v
  rw [ops_set l k j o o' v hk hj he] at this
  exact this
end
theorem set_at {α : Type} {l : List α} {k : Nat} {o o' : α} (h : l[k]? = some o) : (l.set k o')[k]? = some o' := by
  rw [List.getElem?_set_self (List.getElem?_eq_some_iff.1 h).1]

/-- A script in a block of its own. -/
structure ScrBlk (w : World) (b : Nat) (s : Scr) (p : ScrAt) : Prop where
  blk : Blk w b 28 (scrCells s p).toArray
section
variable {w w' : World} {b : Nat} {s : Scr} {p : ScrAt} {S : Nat → Prop}
theorem ScrBlk.fr (h : ScrBlk w b s p) (hf : Fr S w w') (hd : ¬ S b) : ScrBlk w' b s p := ⟨h.blk.fr hf hd⟩
theorem ScrBlk.c1 (h : ScrBlk w b s p) : w.cell? ⟨b, 1, none⟩ = some (.slice p.A1 p.n1 p.c1) := (h.blk.cell 1).trans rfl
theorem ScrBlk.c5 (h : ScrBlk w b s p) : w.cell? ⟨b, 5, none⟩ = some (.slice p.A5 p.n5 p.c5) := (h.blk.cell 5).trans rfl
theorem ScrBlk.c6 (h : ScrBlk w b s p) : w.cell? ⟨b, 6, none⟩ = some (.slice p.A6 p.n6 p.c6) := (h.blk.cell 6).trans rfl
theorem ScrBlk.c7 (h : ScrBlk w b s p) : w.cell? ⟨b, 7, none⟩ = some (.slice p.A7 p.n7 p.c7) := (h.blk.cell 7).trans rfl
theorem ScrBlk.c8 (h : ScrBlk w b s p) : w.cell? ⟨b, 8, none⟩ = some (.slice p.A8 p.n8 p.c8) := (h.blk.cell 8).trans rfl
theorem ScrBlk.s1 (h : ScrBlk w b s p) (A : Option Addr) (n c : Nat) : ScrBlk (w.setCell ⟨b, 1, none⟩ (.slice A n c)) b s { p with A1 := A, n1 := n, c1 := c } := ⟨h.blk.set_ _ _⟩
theorem ScrBlk.s5 (h : ScrBlk w b s p) (A : Option Addr) (n c : Nat) : ScrBlk (w.setCell ⟨b, 5, none⟩ (.slice A n c)) b s { p with A5 := A, n5 := n, c5 := c } := ⟨h.blk.set_ _ _⟩
theorem ScrBlk.s6 (h : ScrBlk w b s p) (A : Option Addr) (n c : Nat) : ScrBlk (w.setCell ⟨b, 6, none⟩ (.slice A n c)) b s { p with A6 := A, n6 := n, c6 := c } := ⟨h.blk.set_ _ _⟩
theorem ScrBlk.s7 (h : ScrBlk w b s p) (A : Option Addr) (n c : Nat) : ScrBlk (w.setCell ⟨b, 7, none⟩ (.slice A n c)) b s { p with A7 := A, n7 := n, c7 := c } := ⟨h.blk.set_ _ _⟩
theorem ScrBlk.s8 (h : ScrBlk w b s p) (A : Option Addr) (n c : Nat) : ScrBlk (w.setCell ⟨b, 8, none⟩ (.slice A n c)) b s { p with A8 := A, n8 := n, c8 := c } := ⟨h.blk.set_ _ _⟩
theorem ScrBlk.all (h : ScrBlk w b s p) : ∀ j u, (scrCells s p)[j]? = some u → w.cell? ⟨b, 0 + j, none⟩ = some u := fun j u hu => by rw [Nat.zero_add, h.blk.cell]; simpa using hu
theorem scrCells_ones (s : Scr) (p : ScrAt) : (scrCells s p).toArray.all (·.oneCell') = true := by simp [scrCells, Value.oneCell']
end
section
variable {P : Program}
theorem results_cell1 {fn : Func} {t : Tmp} {ty : TypeId} {tmps : Array Value} {w : World} {g : Nat} {cs : List Value} {d : TypeDesc} (h : fn.results = #[.cell t ty]) (ht : tmps.getD t undef = .pointer (some ⟨g, 0, none⟩))
    (hc : ∀ j v, cs[j]? = some v → w.cell? ⟨g, 0 + j, none⟩ = some v) (hu : P.underlying ty = some d) (hd : d.isRow = true) (hi : (P.info? ty).map (·.size) = some cs.length) :
    (results fn tmps).run P w = .ok (.agg cs.toArray) w := by
  have hl := run_loadVar_mid (P := P) w g 0 ty cs d hc hu hd hi
  have ht' : tmps[t]?.getD undef = .pointer (some ⟨g, 0, none⟩) := by simpa using ht
  simp [results, h, ht', hl, asAddr]
end
end Go.Proofs.Ytnkfchondedfcaa
