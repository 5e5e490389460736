/-
  Plain laws: a bundle that was put is read back; bytes that are one are put as they were.
-/
import Derived.Test.YtnkfchondedfcaaVi
namespace Go.Proofs.Ytnkfchondedfcaa
open Go.RowKit

theorem refBytes_cons (r : Ref) (l : List Ref) : (r :: l).flatMap refBytes = textBytes r.name.toList ++ (r.id.1 ++ l.flatMap refBytes) := by simp [refBytes, List.append_assoc]
theorem refsGo_once : ∀ (k : Nat) (r : Rd), (refsGo k r).2.good = true → r.good = true ∧ r.l = (refsGo k r).1.flatMap refBytes ++ (refsGo k r).2.l ∧ (refsGo k r).1.length = k
  | 0, r, h => ⟨h, rfl, rfl⟩
  | k + 1, r, h => by
    rw [refsGo] at h ⊢
    dsimp only at h ⊢
    obtain ⟨h1, h2, h3⟩ := refsGo_once k _ h
    obtain ⟨g1, g2, g3⟩ := Raw_onceE (r := (r.Text 64).2) (k := 32) (l := ((r.Text 64).2.Raw 32).1) (r' := ((r.Text 64).2.Raw 32).2) rfl h1
    obtain ⟨f1, f2⟩ := Text_onceE (r := r) (k := 64) (l := (r.Text 64).1) (r' := (r.Text 64).2) rfl g1
    refine ⟨f1, ?_, by rw [List.length_cons, h3]⟩
    have hid : (idOf ((r.Text 64).2.Raw 32).1).1 = ((r.Text 64).2.Raw 32).1 := idOf_eq (by simpa using g3)
    rw [refBytes_cons, f2, g2, h2]
    dsimp only
    rw [hid, ByteArray.toList_mk]
    simp only [List.append_assoc]
theorem objsGo_once : ∀ (k : Nat) (r : Rd), (objsGo k r).2.good = true → r.good = true ∧ r.l = (objsGo k r).1.flatMap textBytes ++ (objsGo k r).2.l ∧ (objsGo k r).1.length = k
  | 0, r, h => ⟨h, rfl, rfl⟩
  | k + 1, r, h => by
    rw [objsGo] at h ⊢
    dsimp only at h ⊢
    obtain ⟨h1, h2, h3⟩ := objsGo_once k _ h
    obtain ⟨f1, f2⟩ := Text_onceE (r := r) (k := 110000) (l := (r.Text 110000).1) (r' := (r.Text 110000).2) rfl h1
    refine ⟨f1, ?_, by rw [List.length_cons, h3]⟩
    rw [List.flatMap_cons, f2, h2, List.append_assoc]
theorem bun_once {l : List UInt8} (h : Rd.End (bunParse l).2 = 0) : bunBytes (bunParse l).1 = l := by
  generalize e1 : Rd.N ⟨l, true⟩ 100 = q1
  obtain ⟨v1, r1⟩ := q1
  generalize e2 : refsGo v1 r1 = q2
  obtain ⟨l1, r2⟩ := q2
  generalize e3 : r2.N 2000 = q3
  obtain ⟨v2, r3⟩ := q3
  rw [bunParse_eq e1 e2 e3] at h ⊢
  dsimp only at h ⊢
  obtain ⟨g4, n4⟩ := End_zeroE h
  obtain ⟨g3, m4, c4⟩ := objsGo_once v2 r3 g4
  obtain ⟨g2, m3, _⟩ := N_onceE e3 g3
  have g2' : (refsGo v1 r1).2.good = true := by rw [e2]; exact g2
  obtain ⟨g1, m2, c2⟩ := refsGo_once v1 r1 g2'
  obtain ⟨g0, m1, _⟩ := N_onceE e1 g1
  rw [e2] at m2 c2
  dsimp only at m1 m2 c2
  rw [n4, List.append_nil] at m4
  unfold bunBytes
  dsimp only
  rw [c2, c4, m1, m2, m3, m4]

theorem back_textE {b rest : List UInt8} {k : Int} (h : (b.length : Int) ≤ k) (h2 : b.length < 18446744073709551616) : Rd.Text ⟨textBytes b ++ rest, true⟩ k = (b, ⟨rest, true⟩) := by
  unfold Rd.Text textBytes
  rw [if_neg (by omega), List.append_assoc, RN_encN (b ++ rest) h2 (by omega)]
  exact back_raw b rest
theorem back_idE (x : Id32) (rest : List UInt8) : Rd.Raw ⟨x.1 ++ rest, true⟩ 32 = (x.1, ⟨rest, true⟩) := by
  have := back_raw x.1 rest
  rw [x.2] at this
  exact this
theorem idOf_selfE (x : Id32) : idOf x.1 = x := Subtype.ext (idOf_eq x.2)
theorem back_refs : ∀ (l : List Ref) (rest : List UInt8), (∀ s ∈ l, s.name.size ≤ 64) → refsGo l.length ⟨l.flatMap refBytes ++ rest, true⟩ = (l, ⟨rest, true⟩)
  | [], rest, _ => rfl
  | x :: l, rest, h => by
    have hx := h x (List.mem_cons_self ..)
    have e : x.name.toList.length = x.name.size := toList_len _
    have ih := back_refs l rest fun s hs => h s (List.mem_cons_of_mem _ hs)
    rw [List.length_cons, refsGo, refBytes_cons, List.append_assoc, List.append_assoc]
    rw [back_textE (by omega) (by omega)]
    dsimp only
    rw [back_idE]
    dsimp only
    rw [ih, idOf_selfE]
    have hn : (⟨x.name.toList.toArray⟩ : ByteArray) = x.name := by rw [ByteArray.toList_eq]
    rw [hn]
theorem back_objs : ∀ (l : List (List UInt8)) (rest : List UInt8), (∀ s ∈ l, s.length ≤ 110000) → objsGo l.length ⟨l.flatMap textBytes ++ rest, true⟩ = (l, ⟨rest, true⟩)
  | [], rest, _ => rfl
  | x :: l, rest, h => by
    have hx := h x (List.mem_cons_self ..)
    have ih := back_objs l rest fun s hs => h s (List.mem_cons_of_mem _ hs)
    rw [List.length_cons, objsGo, List.flatMap_cons, List.append_assoc, back_textE (by omega) (by omega)]
    dsimp only
    rw [ih]
theorem envIs_len {l : List UInt8} (h : envIs l = true) : l.length ≤ 110000 := by
  unfold envIs at h
  simp only [Bool.and_eq_true, decide_eq_true_eq] at h
  obtain ⟨f1, f2, f3, f4, f5, f6⟩ := envParse_fits l
  rw [← env_once h.1]
  generalize (envParse l).1 = e at f1 f2 f3 f4 f5 f6 ⊢
  have e1 := encN_len64 (n := e.kind.toNat) (by omega)
  have e2 := encN_len64 (n := e.realm) (by omega)
  have e3 := encN_len64 (n := e.epoch) (by omega)
  have e4 := encN_len64 (n := e.links.length) (by omega)
  have e5 := idsFlat_lenE e.links
  have e6 := textBytes_lenE e.body (by omega)
  unfold envBytes envHead idsBytes
  simp only [List.length_append]
  omega
theorem bun_back {b : Bun} (h : bunMay b = true) : bunIs (bunBytes b) = true ∧ bunOf (bunBytes b) = b := by
  obtain ⟨h1, h2, h3⟩ := bunMay_of h
  have h4 : ∀ s ∈ b.objs, s.length ≤ 110000 := fun s hs => by
    unfold bunMay at h
    simp only [Bool.and_eq_true, decide_eq_true_eq, List.all_eq_true] at h
    exact envIs_len (h.2.2 s hs)
  have e1 : Rd.N ⟨bunBytes b, true⟩ 100 = (b.refs.length, ⟨b.refs.flatMap refBytes ++ (encN b.objs.length ++ b.objs.flatMap textBytes), true⟩) := RN_encN _ (by omega) h1
  have e2 := back_refs b.refs (encN b.objs.length ++ b.objs.flatMap textBytes) h2
  have e3 : Rd.N ⟨encN b.objs.length ++ b.objs.flatMap textBytes, true⟩ 2000 = (b.objs.length, ⟨b.objs.flatMap textBytes, true⟩) := RN_encN _ (by omega) h3
  have e4 := back_objs b.objs [] h4
  rw [List.append_nil] at e4
  have hp := bunParse_eq e1 e2 e3
  rw [e4] at hp
  have hb : (⟨b.refs, b.objs⟩ : Bun) = b := rfl
  dsimp only at hp
  rw [hb] at hp
  have hi : bunIs (bunBytes b) = true := by
    unfold bunIs
    rw [hp]
    dsimp only
    rw [h]
    rfl
  exact ⟨hi, by rw [bunOf, if_pos hi, hp]⟩
/-- What is read is put as it was. -/
theorem bun_again {l : List UInt8} (h : bunIs l = true) : bunMay (bunOf l) = true ∧ bunBytes (bunOf l) = l := by
  have h' := h
  unfold bunIs at h'
  simp only [Bool.and_eq_true, decide_eq_true_eq] at h'
  rw [bunOf, if_pos h]
  exact ⟨h'.2, bun_once h'.1⟩
end Go.Proofs.Ytnkfchondedfcaa
