/-
  A map in memory as a list of keys with the values that stand at them; ranging over it. Conditions: each lemma states its own.
-/
import Derived.Maps.OwnSet
import Derived.Maps.Range
import Derived.Maps.RangeWalk
import Derived.StringKeys
import Derived.DeepKeys4
import Derived.Test.YtnplamcajjblkaaGreatWd
namespace Go.Proofs.YtnplamcajjblkaaGreat
open Go.RowKit
open Go.Maps (Keyed)
open Go.ChangeMaps Go.MapKept

/-- An element of a map, as it stands. -/
def rawR (v : Value) : Option (DataW Value × List MemPlace) := some (.held v, [])
theorem rawR_inv {v : Value} {d : DataW Value} {ps : List MemPlace} (h : rawR v = some (d, ps)) : d = .held v := by
  unfold rawR at h
  injection h with h
  injection h with h _
  exact h.symm

/-- Keys of a map's type, as values and as literals. -/
structure KeyAs (P : Program) (k : TypeId) {κ : Type} (ok : κ → Prop) (kv : κ → Value) (kl : κ → Lit) : Prop where
  K : Keyed P k
  key : ∀ x, ok x → keyOf P k (kv x) = some (kl x)
  inj : ∀ x y, kl x = kl y → x = y

section
variable {κ : Type} [DecidableEq κ]
/-- What stands at a key; z: nothing. -/
def valAt : List (κ × Value) → κ → Value → Value
  | [], _, z => z
  | p :: l, x, z => if p.1 = x then p.2 else valAt l x z
def keysOf (l : List (κ × Value)) : List κ := l.map (·.1)
/-- A value is laid at a key. -/
def putAt (l : List (κ × Value)) (x : κ) (v : Value) : List (κ × Value) := (x, v) :: l.filter (fun p => decide (p.1 ≠ x))
def delAt (l : List (κ × Value)) (x : κ) : List (κ × Value) := l.filter (fun p => decide (p.1 ≠ x))
theorem valAt_none : ∀ {l : List (κ × Value)} {x : κ} (z : Value), x ∉ keysOf l → valAt l x z = z
  | [], _, _, _ => rfl
  | p :: l, x, z, h => by
    unfold keysOf at h
    rw [List.map_cons, List.mem_cons, not_or] at h
    unfold valAt
    rw [if_neg fun e => h.1 e.symm]
    exact valAt_none z h.2
theorem valAt_mem : ∀ {l : List (κ × Value)} {p : κ × Value} (z : Value), (keysOf l).Nodup → p ∈ l → valAt l p.1 z = p.2
  | [], _, _, _, h => by cases h
  | q :: l, p, z, hn, h => by
    unfold keysOf at hn
    rw [List.map_cons, List.nodup_cons] at hn
    unfold valAt
    rcases List.mem_cons.1 h with rfl | h
    · rw [if_pos rfl]
    · have : q.1 ≠ p.1 := fun e => hn.1 (by rw [e]; exact List.mem_map.2 ⟨p, h, rfl⟩)
      rw [if_neg this]
      exact valAt_mem z hn.2 h
theorem valAt_in {l : List (κ × Value)} {x : κ} (z : Value) (h : x ∈ keysOf l) (hn : (keysOf l).Nodup) : (x, valAt l x z) ∈ l := by
  obtain ⟨p, hp, rfl⟩ := List.mem_map.1 h
  rw [valAt_mem z hn hp]
  exact hp
theorem keys_del (l : List (κ × Value)) (x : κ) : keysOf (delAt l x) = (keysOf l).filter (fun y => decide (y ≠ x)) := by
  unfold keysOf delAt
  rw [List.filter_map]
  rfl
theorem mem_keys_del {l : List (κ × Value)} {x y : κ} : y ∈ keysOf (delAt l x) ↔ y ∈ keysOf l ∧ y ≠ x := by
  rw [keys_del, List.mem_filter, decide_eq_true_eq]
theorem mem_keys_put {l : List (κ × Value)} {x y : κ} {v : Value} : y ∈ keysOf (putAt l x v) ↔ y = x ∨ y ∈ keysOf l := by
  unfold putAt
  show y ∈ keysOf ((x, v) :: delAt l x) ↔ _
  unfold keysOf
  rw [List.map_cons, List.mem_cons]
  show y = x ∨ y ∈ keysOf (delAt l x) ↔ _
  rw [mem_keys_del]
  constructor
  · rintro (h | h)
    · exact .inl h
    · exact .inr h.1
  · rintro (h | h)
    · exact .inl h
    · by_cases e : y = x
      · exact .inl e
      · exact .inr ⟨h, e⟩
theorem nodup_del {l : List (κ × Value)} (h : (keysOf l).Nodup) (x : κ) : (keysOf (delAt l x)).Nodup := by rw [keys_del]; exact h.filter _
theorem nodup_put {l : List (κ × Value)} (h : (keysOf l).Nodup) (x : κ) (v : Value) : (keysOf (putAt l x v)).Nodup := by
  show (keysOf ((x, v) :: delAt l x)).Nodup
  unfold keysOf
  rw [List.map_cons, List.nodup_cons]
  exact ⟨fun h => (mem_keys_del.1 h).2 rfl, nodup_del h x⟩
theorem del_len {l : List (κ × Value)} (h : (keysOf l).Nodup) (x : κ) : (delAt l x).length + (if x ∈ keysOf l then 1 else 0) = l.length := by
  induction l with
  | nil => rfl
  | cons p l ih =>
    unfold keysOf at h
    rw [List.map_cons, List.nodup_cons] at h
    have ih := ih h.2
    by_cases e : p.1 = x
    · have hx : x ∉ keysOf l := by rw [← e]; exact h.1
      rw [if_neg hx] at ih
      have e1 : delAt (p :: l) x = delAt l x := by unfold delAt; rw [List.filter_cons_of_neg (by simp [e])]
      have e2 : x ∈ keysOf (p :: l) := List.mem_map.2 ⟨p, List.mem_cons_self .., e⟩
      rw [e1, if_pos e2, List.length_cons]
      omega
    · have e1 : delAt (p :: l) x = p :: delAt l x := by unfold delAt; rw [List.filter_cons_of_pos (by simp [e])]
      have e2 : x ∈ keysOf (p :: l) ↔ x ∈ keysOf l := by
        unfold keysOf
        rw [List.map_cons, List.mem_cons]
        exact ⟨fun h => h.elim (fun h => absurd h.symm e) id, .inr⟩
      rw [e1, List.length_cons, List.length_cons]
      by_cases hx : x ∈ keysOf l
      · rw [if_pos hx] at ih; rw [if_pos (e2.2 hx)]; omega
      · rw [if_neg hx] at ih; rw [if_neg fun h => hx (e2.1 h)]; omega
theorem put_len {l : List (κ × Value)} (h : (keysOf l).Nodup) (x : κ) (v : Value) : (putAt l x v).length = if x ∈ keysOf l then l.length else l.length + 1 := by
  have := del_len h x
  show (delAt l x).length + 1 = _
  split
  · rename_i hx; rw [if_pos hx] at this; omega
  · rename_i hx; rw [if_neg hx] at this; omega
theorem valAt_put (l : List (κ × Value)) (x y : κ) (v z : Value) : valAt (putAt l x v) y z = if y = x then v else valAt l y z := by
  show (if x = y then v else valAt (delAt l x) y z) = _
  by_cases e : y = x
  · rw [if_pos e, if_pos e.symm]
  · rw [if_neg e, if_neg (Ne.symm e)]
    induction l with
    | nil => rfl
    | cons p l ih =>
      by_cases hp : p.1 = x
      · have e1 : delAt (p :: l) x = delAt l x := by unfold delAt; rw [List.filter_cons_of_neg (by simp [hp])]
        rw [e1, ih]
        show _ = if p.1 = y then p.2 else valAt l y z
        rw [if_neg fun h => e (h.symm.trans hp)]
      · have e1 : delAt (p :: l) x = p :: delAt l x := by unfold delAt; rw [List.filter_cons_of_pos (by simp [hp])]
        rw [e1]
        show (if p.1 = y then p.2 else valAt (delAt l x) y z) = if p.1 = y then p.2 else valAt l y z
        rw [ih]
theorem perm_val {l l' : List (κ × Value)} (hp : l.Perm l') (hn : (keysOf l).Nodup) (x : κ) (z : Value) : valAt l x z = valAt l' x z := by
  have hn' : (keysOf l').Nodup := (hp.map _).nodup_iff.1 hn
  by_cases hx : x ∈ keysOf l
  · have h1 := valAt_in z hx hn
    have h2 := valAt_mem z hn' (hp.mem_iff.1 h1)
    exact h2.symm
  · rw [valAt_none z hx, valAt_none z fun h => hx ((hp.map _).mem_iff.2 h)]
end

section
variable {P : Program} {k e t : TypeId} {κ : Type} [DecidableEq κ] {ok : κ → Prop} {kv : κ → Value} {kl : κ → Lit} {w w' : World} {b r : Nat} {l done : List (κ × Value)}

/-- What a map's datum says of a list. -/
structure Reads (ok : κ → Prop) (kl : κ → Lit) (D : DataW Value) (l : List (κ × Value)) : Prop where
  size : Maps.size D = l.length
  nodup : (keysOf l).Nodup
  oks : ∀ x ∈ keysOf l, ok x
  has : ∀ x, Maps.has D (kl x) = decide (x ∈ keysOf l)
  at_ : ∀ x z, D.atKey (kl x) (.held z) = .held (valAt l x z)
  sur : ∀ q, Maps.has D q = true → ∃ x ∈ keysOf l, kl x = q
/-- Block b of w is a map that holds l. -/
def RawMap (P : Program) (k : TypeId) {κ : Type} [DecidableEq κ] (ok : κ → Prop) (kl : κ → Lit) (w : World) (b : Nat) (l : List (κ × Value)) : Prop :=
  ∃ D : DataW Value, w.ownsMap P k rawR b l.length D ∧ Reads ok kl D l

theorem ownsMap_tight {H : Type} {R : Value → Option (DataW H × List MemPlace)} {n : Nat} {D : DataW H} (h : w.ownsMap P k R b n D) : w.ownsMap P k R b (Maps.size D) D := by
  obtain ⟨es, clock, hb, F, _, rfl⟩ := h
  refine ⟨es, clock, hb, F, ?_, rfl⟩
  show es.size ≤ List.length _
  rw [length_sorted]
  simp
theorem Fr.of_grownZ {b : Nat} (h : w.grownBy w' (some b)) : Fr (· = b) w w' :=
  ⟨h.os, h.tape, h.output, h.size, fun i hi hn => h.block i hi fun e => hn (by injection e)⟩
theorem Fr.of_grown0 (h : w.grownBy w' none) : Fr NoB w w' :=
  ⟨h.os, h.tape, h.output, h.size, fun i hi _ => h.block i hi fun e => by cases e⟩
theorem RawMap.new (w : World) : RawMap P k ok kl (w.alloc (.map #[] 0)) w.heap.size ([] : List (κ × Value)) :=
  ⟨.map [], World.ownsMap_made w P k _, ⟨rfl, List.nodup_nil, fun x h => by simp [keysOf] at h, fun x => by simp [Maps.has, keysOf], fun x z => rfl, fun q h => by simp [Maps.has] at h⟩⟩
theorem RawMap.lt (h : RawMap P k ok kl w b l) : b < w.heap.size := by
  obtain ⟨D, h, _⟩ := h
  exact h.lt
theorem RawMap.fr {S : Nat → Prop} (h : RawMap P k ok kl w b l) (hf : Fr S w w') (hb : ¬ S b) : RawMap P k ok kl w' b l := by
  obtain ⟨D, h1, h2⟩ := h
  have hlt := h1.lt
  obtain ⟨es, clock, q1, q2⟩ := h1
  exact ⟨D, ⟨es, clock, (hf.block b hlt hb).trans q1, q2⟩, h2⟩
theorem RawMap.nodup (h : RawMap P k ok kl w b l) : (keysOf l).Nodup := h.elim fun _ h => h.2.nodup
theorem RawMap.oks (h : RawMap P k ok kl w b l) : ∀ x ∈ keysOf l, ok x := h.elim fun _ h => h.2.oks
theorem RawMap.perm (h : RawMap P k ok kl w b l) {l' : List (κ × Value)} (hp : l.Perm l') : RawMap P k ok kl w b l' := by
  obtain ⟨D, h1, h2⟩ := h
  have hk : ∀ x, x ∈ keysOf l ↔ x ∈ keysOf l' := fun x => (hp.map _).mem_iff
  exact ⟨D, by rw [← hp.length_eq]; exact h1, ⟨h2.size.trans hp.length_eq, (hp.map _).nodup_iff.1 h2.nodup, fun x hx => h2.oks x ((hk x).2 hx), fun x => (h2.has x).trans (decide_eq_decide.2 (hk x)),
    fun x z => by rw [h2.at_, perm_val hp h2.nodup], fun q hq => by obtain ⟨x, hx, e⟩ := h2.sur q hq; exact ⟨x, (hk x).1 hx, e⟩⟩⟩
theorem RawMap.look (h : RawMap P k ok kl w b l) (A : KeyAs P k ok kv kl) (ht : P.underlying t = some (.map k e)) {z : Value} (hz : (zeroValue e).run P w = .ok z w) (x : κ) (hx : ok x) :
    (Instr.lookup t (.map (some b)) (kv x) false).run P w = .ok (valAt l x z) w := by
  obtain ⟨D, h1, h2⟩ := h
  obtain ⟨v, ps, hr, hv⟩ := h1.lookup A.K ht hz (zd := .held z) (zp := []) rfl (A.key x hx)
  have := rawR_inv hv
  rw [h2.at_] at this
  injection this with this
  rw [hr, ← this]
theorem RawMap.look_ok (h : RawMap P k ok kl w b l) (A : KeyAs P k ok kv kl) (ht : P.underlying t = some (.map k e)) {z : Value} (hz : (zeroValue e).run P w = .ok z w) (x : κ) (hx : ok x) :
    (Instr.lookup t (.map (some b)) (kv x) true).run P w = .ok (.tuple #[valAt l x z, .bool (decide (x ∈ keysOf l))]) w := by
  obtain ⟨D, h1, h2⟩ := h
  obtain ⟨v, ps, hr, hv⟩ := h1.look_ok A.K ht hz (zd := .held z) (zp := []) rfl (A.key x hx)
  have := rawR_inv hv
  rw [h2.at_] at this
  injection this with this
  rw [hr, ← this, h2.has]
theorem RawMap.len (h : RawMap P k ok kl w b l) (ht : P.underlying t = some (.map k e)) (ty : TypeId) : (Builtin.len_ #[t] ty #[.map (some b)]).run P w = .ok (.int .i64 (l.length : Nat)) w := by
  obtain ⟨D, h1, h2⟩ := h
  have := h1.len ht ty
  rwa [h2.size] at this
theorem RawMap.put (h : RawMap P k ok kl w b l) (A : KeyAs P k ok kv kl) (ht : P.underlying t = some (.map k e)) (hn : l.length < maxLen) (x : κ) (hx : ok x) (v : Value) :
    ∃ w', (Instr.mapUpdate t (.map (some b)) (kv x) v).run P w = .ok () w' ∧ RawMap P k ok kl w' b (putAt l x v) ∧ Fr (· = b) w w' ∧ w'.heap.size = w.heap.size := by
  obtain ⟨D, h1, h2⟩ := h
  have htidy : Maps.Tidy D := h1.tidy A.K
  obtain ⟨w', hr, q1, q2⟩ := h1.store A.K ht hn (A.key x hx) (show rawR v = some (.held v, []) from rfl)
  have hne : ∀ y, y ≠ x → kl y ≠ kl x := fun y hy he => hy (A.inj _ _ he)
  have hkey := A.K.key (A.key x hx)
  have hsz : Maps.size (D.put (kl x) (.held v)) = (putAt l x v).length := by
    rw [Maps.size_put htidy, h2.has, put_len h2.nodup, h2.size]
    by_cases hm : x ∈ keysOf l
    · rw [if_pos hm, decide_eq_true hm]; rfl
    · rw [if_neg hm, decide_eq_false hm]; rfl
  have q3 := ownsMap_tight q1
  rw [hsz] at q3
  refine ⟨w', hr, ⟨_, q3, ⟨hsz, nodup_put h2.nodup x v, fun y hy => ?_, fun y => ?_, fun y z => ?_, fun q hq => ?_⟩⟩, Fr.of_grownZ q2.grown, ?_⟩
  · rcases mem_keys_put.1 hy with rfl | hy
    · exact hx
    · exact h2.oks y hy
  · by_cases hy : y = x
    · subst hy
      rw [Maps.has_put_same htidy.isMap hkey]
      exact (decide_eq_true (mem_keys_put.2 (.inl rfl))).symm
    · rw [Maps.has_put_other (hne y hy), h2.has]
      exact decide_eq_decide.2 ⟨fun h => mem_keys_put.2 (.inr h), fun h => (mem_keys_put.1 h).resolve_left hy⟩
  · rw [valAt_put]
    by_cases hy : y = x
    · subst hy
      rw [if_pos rfl]
      exact Maps.atKey_put_same htidy.isMap hkey _ _
    · rw [if_neg hy, Maps.atKey_put_other (hne y hy)]
      exact h2.at_ y z
  · by_cases hq' : q = kl x
    · exact ⟨x, mem_keys_put.2 (.inl rfl), hq'.symm⟩
    · rw [Maps.has_put_other hq'] at hq
      obtain ⟨y, hy, e⟩ := h2.sur q hq
      exact ⟨y, mem_keys_put.2 (.inr hy), e⟩
  · obtain ⟨_, _, _, _, _, rfl⟩ := q2
    simp [setBlock]
theorem RawMap.del (h : RawMap P k ok kl w b l) (A : KeyAs P k ok kv kl) (ht : P.underlying t = some (.map k e)) (x : κ) (hx : ok x) (ty : TypeId) :
    ∃ w', (Builtin.delete_ #[t, k] ty #[.map (some b), kv x]).run P w = .ok (.tuple #[]) w' ∧ RawMap P k ok kl w' b (delAt l x) ∧ Fr (· = b) w w' ∧ w'.heap.size = w.heap.size := by
  obtain ⟨D, h1, h2⟩ := h
  have htidy : Maps.Tidy D := h1.tidy A.K
  obtain ⟨w', hr, q1, q2⟩ := h1.drop A.K ht (A.key x hx) ty
  have hne : ∀ y, y ≠ x → kl y ≠ kl x := fun y hy he => hy (A.inj _ _ he)
  have hsz : Maps.size (D.del (kl x)) = (delAt l x).length := by
    have e1 := Maps.size_del htidy (k := kl x)
    have e2 := del_len h2.nodup x
    rw [h2.has, h2.size] at e1
    by_cases hm : x ∈ keysOf l
    · rw [if_pos hm] at e2; rw [decide_eq_true hm, if_pos rfl] at e1; omega
    · rw [if_neg hm] at e2; rw [decide_eq_false hm, if_neg (by simp)] at e1; omega
  have q3 := ownsMap_tight q1
  rw [hsz] at q3
  refine ⟨w', hr, ⟨_, q3, ⟨hsz, nodup_del h2.nodup x, fun y hy => h2.oks y (mem_keys_del.1 hy).1, fun y => ?_, fun y z => ?_, fun q hq => ?_⟩⟩, Fr.of_grownZ q2.grown, ?_⟩
  · by_cases hy : y = x
    · subst hy
      rw [Maps.has_del_same]
      exact (decide_eq_false fun h => (mem_keys_del.1 h).2 rfl).symm
    · rw [Maps.has_del_other (hne y hy), h2.has]
      exact decide_eq_decide.2 ⟨fun h => mem_keys_del.2 ⟨h, hy⟩, fun h => (mem_keys_del.1 h).1⟩
  · by_cases hy : y = x
    · subst hy
      rw [Maps.atKey_del_same, valAt_none z fun h => (mem_keys_del.1 h).2 rfl]
    · rw [Maps.atKey_del_other (hne y hy), h2.at_]
      have := valAt_put l x y (.bool true) z
      rw [if_neg hy] at this
      rw [← this]
      show DataW.held (if x = y then _ else valAt (delAt l x) y z) = _
      rw [if_neg (Ne.symm hy)]
  · by_cases hq' : q = kl x
    · rw [hq', Maps.has_del_same] at hq; cases hq
    · rw [Maps.has_del_other hq'] at hq
      obtain ⟨y, hy, e⟩ := h2.sur q hq
      exact ⟨y, mem_keys_del.2 ⟨hy, fun h => hq' (by rw [← e, h])⟩, e⟩
  · obtain ⟨_, _, _, _, _, rfl⟩ := q2
    simp [setBlock]

/-- A range over the map under way: done has come. -/
def RawRange (P : Program) (k : TypeId) {κ : Type} [DecidableEq κ] (ok : κ → Prop) (kl : κ → Lit) (w : World) (b r : Nat) (l done : List (κ × Value)) : Prop :=
  ∃ (D : DataW Value) (left : Lit → Bool) (cnt : Nat), w.ranges P k rawR b r l.length D left cnt ∧ Reads ok kl D l ∧ (keysOf done).Nodup ∧ (∀ p ∈ done, p ∈ l) ∧ (∀ x, left (kl x) = decide (x ∈ keysOf l ∧ x ∉ keysOf done)) ∧ ∀ q, left q = true → Maps.has D q = true
theorem RawRange.map (h : RawRange P k ok kl w b r l done) : RawMap P k ok kl w b l := by
  obtain ⟨D, left, cnt, h1, h2, _⟩ := h
  exact ⟨D, h1.owns, h2⟩
theorem RawRange.ne (h : RawRange P k ok kl w b r l done) : r ≠ b := by
  obtain ⟨D, left, cnt, h1, _⟩ := h
  exact h1.ne
theorem RawRange.lt (h : RawRange P k ok kl w b r l done) : r < w.heap.size := by
  obtain ⟨D, left, cnt, h1, _⟩ := h
  exact h1.lt
theorem RawRange.fr {S : Nat → Prop} (h : RawRange P k ok kl w b r l done) (hf : Fr S w w') (hb : ¬ S b) (hr : ¬ S r) : RawRange P k ok kl w' b r l done ∧ w'.rangeLeft b r = w.rangeLeft b r := by
  obtain ⟨D, left, cnt, h1, h2⟩ := h
  have hlt := h1.lt
  have hlb := h1.owns.lt
  have e1 := h1.left_eq
  obtain ⟨es, clock, since, seen, c0, q1, q2, q3, q4, q5, q6⟩ := h1
  have h3 : w'.ranges P k rawR b r l.length D left cnt := ⟨es, clock, since, seen, c0, (hf.block b hlb hb).trans q1, q2, q3, q4, (hf.block r hlt hr).trans q5, q6⟩
  exact ⟨⟨D, left, cnt, h3, h2⟩, by rw [e1, h3.left_eq]⟩
theorem RawMap.range (h : RawMap P k ok kl w b l) (A : KeyAs P k ok kv kl) (ht : P.underlying t = some (.map k e)) :
    ∃ w', (Instr.range t (.map (some b))).run P w = .ok (.pointer (some ⟨w.heap.size, 0, none⟩)) w' ∧ RawRange P k ok kl w' b w.heap.size l [] ∧ Fr NoB w w' ∧ w'.heap.size = w.heap.size + 1 := by
  obtain ⟨D, h1, h2⟩ := h
  obtain ⟨w', hr, q1, q2, q3⟩ := h1.range A.K ht
  refine ⟨w', hr, ⟨D, _, _, q1, h2, by simp [keysOf], by simp, fun x => ?_, fun q h => h⟩, Fr.of_grown0 q2, q3⟩
  rw [h2.has]
  exact decide_eq_decide.2 ⟨fun h => ⟨h, by simp [keysOf]⟩, fun h => h.1⟩
theorem RawRange.next (h : RawRange P k ok kl w b r l done) (A : KeyAs P k ok kv kl) (ty : TypeId) :
    (done.Perm l ∧ (Instr.next (.pointer (some ⟨r, 0, none⟩)) false ty).run P w = .ok (.tuple #[.bool false]) w) ∨
    ∃ (p : κ × Value) (w' : World), p ∈ l ∧ p.1 ∉ keysOf done ∧ ok p.1 ∧ (Instr.next (.pointer (some ⟨r, 0, none⟩)) false ty).run P w = .ok (.tuple #[.bool true, kv p.1, p.2]) w' ∧ RawRange P k ok kl w' b r l (done ++ [p]) ∧
      w'.rangeLeft b r < w.rangeLeft b r ∧ Fr (· = r) w w' ∧ w'.heap.size = w.heap.size ∧ (Instr.entry (.pointer (some ⟨r, 0, none⟩))).run P w' = .ok (.tuple #[kv p.1, p.2]) w' := by
  obtain ⟨D, left, cnt, h1, h2, h3, h4, h5, h6⟩ := h
  have e1 := h1.left_eq
  rcases h1.next A.K ty with ⟨_, hl, hrun⟩ | ⟨key, v, kq, y, w', cnt', hkey, hlk, hv, hat, hrun, hrg, hlt, hgr, hsz, hen⟩
  · refine .inl ⟨?_, hrun⟩
    have hn1 : done.Nodup := List.Pairwise.of_map (·.1) (fun a b h e => h (by rw [e])) h3
    have hn2 : l.Nodup := List.Pairwise.of_map (·.1) (fun a b h e => h (by rw [e])) h2.nodup
    refine (List.perm_ext_iff_of_nodup hn1 hn2).2 fun p => ⟨h4 p, fun hp => ?_⟩
    have hx := h5 p.1
    rw [hl] at hx
    have hx := (decide_eq_false_iff_not.1 hx.symm)
    have hpk : p.1 ∈ keysOf l := List.mem_map.2 ⟨p, hp, rfl⟩
    have : p.1 ∈ keysOf done := Classical.byContradiction fun hh => hx ⟨hpk, hh⟩
    obtain ⟨q, hq, e⟩ := List.mem_map.1 this
    have e2 := valAt_mem (.bool true) h2.nodup (h4 q hq)
    have e3 := valAt_mem (.bool true) h2.nodup hp
    rw [e] at e2
    have : q = p := Prod.ext e (e2.symm.trans e3)
    rw [← this]; exact hq
  · obtain ⟨x, hx, rfl⟩ := h2.sur kq (h6 kq hlk)
    have hokx := h2.oks x hx
    have : key = kv x := A.K.inj hkey (A.key x hokx)
    subst this
    have hy : y.1 = .held v := by
      have : rawR v = some (y.1, y.2) := hv
      exact rawR_inv this
    have hvv : v = valAt l x (.bool true) := by
      have := hat (.held (.bool true))
      rw [h2.at_, hy] at this
      injection this with this
      exact this.symm
    have hp : (x, v) ∈ l := by rw [hvv]; exact valAt_in _ hx h2.nodup
    have hxd : x ∉ keysOf done := by
      rw [h5] at hlk
      exact (of_decide_eq_true hlk).2
    have hks : keysOf (done ++ [(x, v)]) = keysOf done ++ [x] := by unfold keysOf; rw [List.map_append]; rfl
    refine .inr ⟨(x, v), w', hp, hxd, hokx, hrun, ⟨D, _, cnt', hrg, h2, ?_, fun p hp' => ?_, fun y' => ?_, fun q hq => h6 q ?_⟩, ?_, Fr.of_grownZ hgr, hsz, hen⟩
    · rw [hks, List.nodup_append]
      exact ⟨h3, by simp, fun a ha b hb => by rw [List.mem_singleton] at hb; rw [hb]; intro e; exact hxd (e ▸ ha)⟩
    · rcases List.mem_append.1 hp' with hp' | hp'
      · exact h4 p hp'
      · rw [List.mem_singleton] at hp'; rw [hp']; exact hp
    · show (left (kl y') && !(kl y').sameKey (kl x)) = _
      rw [h5, hks]
      by_cases e : y' = x
      · subst e
        rw [WideAt.sameKey_self (A.K.key (A.key y' hokx))]
        simp
      · rw [Maps.sameKey_ne fun h => e (A.inj _ _ h)]
        simp [e]
    · simp only [Bool.and_eq_true] at hq
      exact hq.1
    · rw [e1, hrg.left_eq]; exact hlt
end
end Go.Proofs.YtnplamcajjblkaaGreat
