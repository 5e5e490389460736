/-
  Plain laws: envelopes as bytes, and the envelope that bytes are.
-/
import Derived.Test.YtnkfchondedfcaaHd
import Derived.Test.YtnkfchondedfcaaUb
namespace Go.Proofs.Ytnkfchondedfcaa
open Go.RowKit

theorem End_zeroE {r : Rd} (h : Rd.End r = 0) : r.good = true ∧ r.l = [] := by
  unfold Rd.End at h
  split at h
  · rename_i h1 h2; exact ⟨h1, h2⟩
  · cases h
theorem N_onceE {r r' : Rd} {m v : Nat} (h : r.N m = (v, r')) (hg : r'.good = true) : r.good = true ∧ r.l = encN v ++ r'.l ∧ v < 18446744073709551616 := by
  unfold Rd.N at h
  split at h
  · rename_i hgood
    refine ⟨hgood, ?_⟩
    split at h
    · rename_i v' u hgo
      split at h
      · obtain ⟨m', hv, _, hu, hl, ht, _, hlt⟩ := rdGo_some r.l 0 0 v' u hgo
        simp at hv hl ht hlt
        subst hv
        injection h with h1 h2
        subst h1 h2
        exact ⟨by rw [← ht]; exact (List.take_append_drop _ _).symm, hlt⟩
      · injection h with h1 h2
        subst h2
        cases hg
    · injection h with h1 h2
      subst h2
      cases hg
  · injection h with h1 h2
    subst h2
    cases hg
theorem Raw_onceE {r r' : Rd} {k : Int} {l : List UInt8} (h : r.Raw k = (l, r')) (hg : r'.good = true) : r.good = true ∧ r.l = l ++ r'.l ∧ l.length = k.toNat := by
  unfold Rd.Raw at h
  split at h
  · rename_i hc
    injection h with h1 h2
    subst h1 h2
    exact ⟨hc.1, (List.take_append_drop _ _).symm, by rw [List.length_take]; omega⟩
  · injection h with h1 h2
    subst h2
    cases hg
theorem Text_onceE {r r' : Rd} {k : Int} {l : List UInt8} (h : r.Text k = (l, r')) (hg : r'.good = true) : r.good = true ∧ r.l = textBytes l ++ r'.l := by
  unfold Rd.Text at h
  split at h
  · injection h with h1 h2
    subst h2
    cases hg
  · obtain ⟨h1, h2, h3⟩ := Raw_onceE h hg
    generalize hq : r.N k.toNat = q at h h1 h2 h3
    obtain ⟨v, q⟩ := q
    dsimp only at h1 h2 h3
    obtain ⟨g1, g2, _⟩ := N_onceE hq h1
    refine ⟨g1, ?_⟩
    rw [g2, h2, textBytes, List.append_assoc, h3, Int.toNat_natCast]
theorem Rd.Raw_lE (r : Rd) (k : Int) : (r.Raw k).2.l.length ≤ r.l.length := by have := Rd.Raw_len r k; omega
theorem Rd.Text_lE (r : Rd) (k : Int) : (r.Text k).2.l.length ≤ r.l.length := by
  unfold Rd.Text
  split
  · simp
  · exact Nat.le_trans (Rd.Raw_lE _ _) (Rd.N_len _ _)
theorem Rd.idsGo_lE : ∀ (v : Nat) (r : Rd), (Rd.idsGo v r).2.l.length ≤ r.l.length
  | 0, r => by simp [Rd.idsGo_zero]
  | v + 1, r => by
    by_cases h : (r.Raw 32).1.length = 32
    · rw [Rd.idsGo_on h]; exact Nat.le_trans (Rd.idsGo_lE v _) (Rd.Raw_lE _ _)
    · rw [Rd.idsGo_stop h]; exact Rd.Raw_lE _ _
theorem Rd.Ids_lE (r : Rd) (k : Int) : (r.Ids k).2.l.length ≤ r.l.length := by
  unfold Rd.Ids
  split
  · simp
  · split
    · exact Nat.le_trans (Rd.idsGo_lE _ _) (Rd.N_len _ _)
    · exact Nat.le_trans (Rd.idsGo_lE _ _) (Rd.N_len _ _)
theorem Rd.Ids_nE (r : Rd) (k : Int) : (r.Ids k).1.length ≤ r.l.length := by
  unfold Rd.Ids
  split
  · simp
  · split
    · have h1 := Rd.idsGo_len (r.N k.toNat).1 (r.N k.toNat).2
      have h2 := Rd.N_len r k.toNat
      omega
    · simp
theorem Rd.Text_leE (r : Rd) (k : Int) (m : Nat) (hk : k ≤ m) : (r.Text k).1.length ≤ m := by
  unfold Rd.Text
  split
  · simp
  · have h := Rd.N_le r k.toNat
    unfold Rd.Raw
    split
    · rw [List.length_take]; omega
    · simp

theorem idsGo_onceE : ∀ (k : Nat) (r : Rd), (Rd.idsGo k r).2.good = true → r.good = true ∧ r.l = idsFlat (Rd.idsGo k r).1 ++ (Rd.idsGo k r).2.l ∧ (Rd.idsGo k r).1.length = k
  | 0, r, h => ⟨h, rfl, rfl⟩
  | k + 1, r, h => by
    by_cases h32 : (r.Raw 32).1.length = 32
    · rw [Rd.idsGo_on h32] at h ⊢
      dsimp only at h ⊢
      obtain ⟨h1, h2, h3⟩ := idsGo_onceE k _ h
      obtain ⟨g1, g2, _⟩ := Raw_onceE (r := r) (k := 32) (l := (r.Raw 32).1) (r' := (r.Raw 32).2) rfl h1
      refine ⟨g1, ?_, by rw [List.length_cons, h3]⟩
      rw [g2, h2]
      simp [idsFlat]
    · exfalso
      rw [Rd.idsGo_stop h32] at h
      dsimp only at h
      obtain ⟨g1, g2, g3⟩ := Raw_onceE (r := r) (k := 32) (l := (r.Raw 32).1) (r' := (r.Raw 32).2) rfl h
      exact h32 (by simpa using g3)
theorem Ids_onceE {r r' : Rd} {k : Int} {l : List Id32} (h : r.Ids k = (l, r')) (hg : r'.good = true) : r.good = true ∧ r.l = idsBytes l ++ r'.l ∧ (l.length : Int) ≤ k := by
  unfold Rd.Ids at h
  split at h
  · injection h with h1 h2
    subst h2
    cases hg
  · rename_i hk
    split at h
    · rename_i hgo
      obtain ⟨h1, h2, h3⟩ := idsGo_onceE _ _ hgo
      have hle := Rd.N_le r k.toNat
      generalize hq : r.N k.toNat = q at h h1 h2 h3 hle
      obtain ⟨v, q⟩ := q
      dsimp only at h h1 h2 h3 hle
      rw [h] at h2 h3
      dsimp only at h2 h3
      obtain ⟨g1, g2, _⟩ := N_onceE hq h1
      refine ⟨g1, ?_, by omega⟩
      rw [g2, h2, idsBytes, List.append_assoc, h3]
    · rename_i hgo
      injection h with h1 h2
      subst h2
      exact absurd hg hgo
theorem Rd.Ids_leE (r : Rd) (k : Int) (m : Nat) (hk : k ≤ m) : (r.Ids k).1.length ≤ m := by
  unfold Rd.Ids
  split
  · simp
  · split
    · rename_i h1 hgo
      obtain ⟨_, _, h3⟩ := idsGo_onceE _ _ hgo
      have hle := Rd.N_le r k.toNat
      omega
    · simp

structure Env where
  kind : Int
  realm : Nat
  epoch : Nat
  links : List Id32
  body : List UInt8
def envCells (e : Env) (A : Option Addr) (n c : Nat) (B : Option Addr) (m d : Nat) : List Value := [.int .i64 e.kind, .int .u32 e.realm, .int .u32 e.epoch, .slice A n c, .slice B m d]
theorem envCells_len (e : Env) (A : Option Addr) (n c : Nat) (B : Option Addr) (m d : Nat) : (envCells e A n c B m d).length = 5 := rfl
def rising : List Id32 → Bool
  | a :: b :: t => Op.bytesLess a.1 b.1 && rising (b :: t)
  | _ => true
theorem rising_snoc : ∀ (l : List Id32) (a b : Id32), rising (l ++ [a, b]) = (rising (l ++ [a]) && Op.bytesLess a.1 b.1)
  | [], a, b => by simp [rising]
  | [x], a, b => by simp [rising]
  | x :: y :: l, a, b => by
    have := rising_snoc (y :: l) a b
    simp only [List.cons_append] at this ⊢
    rw [rising, rising, this, Bool.and_assoc]
theorem rising_take {l : List Id32} {k : Nat} {a b : Id32} (ha : l[k]? = some a) (hb : l[k + 1]? = some b) : rising (l.take (k + 2)) = (rising (l.take (k + 1)) && Op.bytesLess a.1 b.1) := by
  obtain ⟨h1, rfl⟩ := List.getElem?_eq_some_iff.1 ha
  obtain ⟨h2, rfl⟩ := List.getElem?_eq_some_iff.1 hb
  rw [List.take_succ_eq_append_getElem h2, List.take_succ_eq_append_getElem h1, List.append_assoc]
  exact rising_snoc _ _ _
theorem rising_mono : ∀ (l : List Id32) (k : Nat), rising l = true → rising (l.take k) = true
  | [], k, _ => by simp [rising]
  | [x], 0, _ => rfl
  | [x], k + 1, _ => by simp [rising]
  | x :: y :: l, 0, _ => rfl
  | x :: y :: l, 1, _ => rfl
  | x :: y :: l, k + 2, h => by
    rw [rising, Bool.and_eq_true] at h
    have ih := rising_mono (y :: l) (k + 1) h.2
    simp only [List.take_succ_cons] at ih ⊢
    rw [rising, Bool.and_eq_true]
    exact ⟨h.1, ih⟩
def envMay (e : Env) : Bool := decide (1 ≤ e.kind) && (decide (e.kind ≤ 3) && (decide (e.links.length ≤ 1000) && (decide (e.body.length ≤ 70000) && rising e.links)))
def envHead (e : Env) : List UInt8 := encN e.kind.toNat ++ (encN e.realm ++ (encN e.epoch ++ idsBytes e.links))
def envBytes (e : Env) : List UInt8 := envHead e ++ textBytes e.body
def envParse (l : List UInt8) : Env × Rd :=
  let p1 := Rd.N ⟨l, true⟩ 3
  let p2 := p1.2.N 4294967295
  let p3 := p2.2.N 4294967295
  let p4 := p3.2.Ids 1000
  let p5 := p4.2.Text 70000
  (⟨(p1.1 : Nat), p2.1, p3.1, p4.1, p5.1⟩, p5.2)
theorem envParse_eq {l : List UInt8} {v1 v2 v3 : Nat} {l4 : List Id32} {l5 : List UInt8} {r1 r2 r3 r4 r5 : Rd} (h1 : Rd.N ⟨l, true⟩ 3 = (v1, r1)) (h2 : r1.N 4294967295 = (v2, r2)) (h3 : r2.N 4294967295 = (v3, r3)) (h4 : r3.Ids 1000 = (l4, r4)) (h5 : r4.Text 70000 = (l5, r5)) :
    envParse l = (⟨(v1 : Nat), v2, v3, l4, l5⟩, r5) := by
  unfold envParse
  simp only [h1, h2, h3, h4, h5]
def zeroEnv : Env := ⟨0, 0, 0, [], []⟩
def envIs (l : List UInt8) : Bool := decide (Rd.End (envParse l).2 = 0) && envMay (envParse l).1
def envOf (l : List UInt8) : Env := if envIs l = true then (envParse l).1 else zeroEnv
def envBad (l : List UInt8) : Int := if envIs l = true then 0 else 90
/-- Bytes that are read to their end are the only ones of what they tell. -/
theorem env_once {l : List UInt8} (h : Rd.End (envParse l).2 = 0) : envBytes (envParse l).1 = l := by
  generalize e1 : Rd.N ⟨l, true⟩ 3 = q1
  obtain ⟨v1, r1⟩ := q1
  generalize e2 : r1.N 4294967295 = q2
  obtain ⟨v2, r2⟩ := q2
  generalize e3 : r2.N 4294967295 = q3
  obtain ⟨v3, r3⟩ := q3
  generalize e4 : r3.Ids 1000 = q4
  obtain ⟨l4, r4⟩ := q4
  generalize e5 : r4.Text 70000 = q5
  obtain ⟨l5, r5⟩ := q5
  rw [envParse_eq e1 e2 e3 e4 e5] at h ⊢
  dsimp only at h ⊢
  obtain ⟨g5, n5⟩ := End_zeroE h
  obtain ⟨g4, m5⟩ := Text_onceE e5 g5
  obtain ⟨g3, m4, _⟩ := Ids_onceE e4 g4
  obtain ⟨g2, m3, _⟩ := N_onceE e3 g3
  obtain ⟨g1, m2, _⟩ := N_onceE e2 g2
  obtain ⟨g0, m1, _⟩ := N_onceE e1 g1
  rw [n5, List.append_nil] at m5
  dsimp only at m1
  unfold envBytes envHead
  dsimp only
  rw [m1, m2, m3, m4, m5, Int.toNat_natCast]
  simp only [List.append_assoc]
theorem envParse_fits (l : List UInt8) : 0 ≤ (envParse l).1.kind ∧ (envParse l).1.kind ≤ 3 ∧ (envParse l).1.realm ≤ 4294967295 ∧ (envParse l).1.epoch ≤ 4294967295 ∧ (envParse l).1.links.length ≤ 1000 ∧ (envParse l).1.body.length ≤ 70000 := by
  unfold envParse
  dsimp only
  refine ⟨by omega, ?_, Rd.N_le _ _, Rd.N_le _ _, Rd.Ids_leE _ _ 1000 (by omega), Rd.Text_leE _ _ 70000 (by omega)⟩
  have := Rd.N_le ⟨l, true⟩ 3
  omega
end Go.Proofs.Ytnkfchondedfcaa
