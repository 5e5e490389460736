/-
  Plain laws: a request or a reply that was put is read back; bytes that are one are put as they were.
-/
import Derived.Test.YtnkfchondedfcaaPe
import Derived.Test.YtnkfchondedfcaaFp
namespace Go.Proofs.Ytnkfchondedfcaa
open Go.RowKit

theorem End_zero {r : Rd} (h : Rd.End r = 0) : r.good = true ∧ r.l = [] := by
  unfold Rd.End at h
  split at h
  · rename_i h1 h2; exact ⟨h1, h2⟩
  · cases h
theorem N_once {r r' : Rd} {m v : Nat} (h : r.N m = (v, r')) (hg : r'.good = true) : r.good = true ∧ r.l = encN v ++ r'.l ∧ v < 18446744073709551616 := by
  unfold Rd.N at h
  split at h
  · rename_i hgood
    refine ⟨hgood, ?_⟩
    split at h
    · rename_i v' u hgo
      split at h
      · obtain ⟨m', hv, _, hu, hl, ht, _, hlt⟩ := rdGo_some r.l 0 0 v' u hgo
        simp at hv hl ht hlt
        subst hv
        injection h with h1 h2
        subst h1 h2
        exact ⟨by rw [← ht]; exact (List.take_append_drop _ _).symm, hlt⟩
      · injection h with h1 h2
        subst h2
        cases hg
    · injection h with h1 h2
      subst h2
      cases hg
  · injection h with h1 h2
    subst h2
    cases hg
theorem Raw_once {r r' : Rd} {k : Int} {l : List UInt8} (h : r.Raw k = (l, r')) (hg : r'.good = true) : r.good = true ∧ r.l = l ++ r'.l ∧ l.length = k.toNat := by
  unfold Rd.Raw at h
  split at h
  · rename_i hc
    injection h with h1 h2
    subst h1 h2
    exact ⟨hc.1, (List.take_append_drop _ _).symm, by rw [List.length_take]; omega⟩
  · injection h with h1 h2
    subst h2
    cases hg
theorem Text_once {r r' : Rd} {k : Int} {l : List UInt8} (h : r.Text k = (l, r')) (hg : r'.good = true) : r.good = true ∧ r.l = textBytes l ++ r'.l := by
  unfold Rd.Text at h
  split at h
  · injection h with h1 h2
    subst h2
    cases hg
  · obtain ⟨h1, h2, h3⟩ := Raw_once h hg
    generalize hq : r.N k.toNat = q at h h1 h2 h3
    obtain ⟨v, q⟩ := q
    dsimp only at h1 h2 h3
    obtain ⟨g1, g2, _⟩ := N_once hq h1
    refine ⟨g1, ?_⟩
    rw [g2, h2, textBytes, List.append_assoc, h3, Int.toNat_natCast]
theorem nameBytes_cons (s : ByteArray) (l : List ByteArray) : nameBytes (s :: l) = textBytes s.data.toList ++ nameBytes l := by simp [nameBytes]
theorem namesGo_once : ∀ (k : Nat) (r : Rd), (namesGo k r).2.good = true → r.good = true ∧ r.l = nameBytes (namesGo k r).1 ++ (namesGo k r).2.l
  | 0, r, h => ⟨h, rfl⟩
  | k + 1, r, h => by
    rw [namesGo] at h ⊢
    obtain ⟨h1, h2⟩ := namesGo_once k _ h
    obtain ⟨g1, g2⟩ := Text_once (r := r) (k := 64) (l := (r.Text 64).1) (r' := (r.Text 64).2) rfl h1
    refine ⟨g1, ?_⟩
    rw [g2, h2, nameBytes_cons, List.append_assoc]
theorem idOf_list {l : List UInt8} (h : l.length = (32 : Int).toNat) : (idOf l).1 = l := idOf_eq h

/-- Bytes that are a request. -/
theorem req_once {l : List UInt8} (h : reqIs l = true) : reqAsks (reqOf l) = true ∧ reqBytes (reqOf l) = l := by
  cases l with
  | nil => cases h
  | cons x t =>
    have ho : reqOf (x :: t) = (reqParse ⟨t, true⟩).1 := by rw [reqOf, if_pos h, List.tail_cons]
    simp only [reqIs, Bool.and_eq_true, decide_eq_true_eq] at h
    obtain ⟨hx, he, ha⟩ := h
    rw [ho]
    refine ⟨ha, ?_⟩
    obtain ⟨hg, hl⟩ := End_zero he
    clear he ho
    generalize hr0 : (⟨t, true⟩ : Rd) = r0 at ha hg hl ⊢
    unfold reqParse at ha hg hl ⊢
    dsimp only at ha hg hl ⊢
    generalize h1 : r0.N 4294967295 = q1 at ha hg hl ⊢
    obtain ⟨v1, r1⟩ := q1
    dsimp only at ha hg hl ⊢
    generalize h2 : r1.N 18446744073709551615 = q2 at ha hg hl ⊢
    obtain ⟨v2, r2⟩ := q2
    dsimp only at ha hg hl ⊢
    generalize h3 : r2.N 10 = q3 at ha hg hl ⊢
    obtain ⟨v3, r3⟩ := q3
    dsimp only at ha hg hl ⊢
    generalize h4 : r3.N 4294967295 = q4 at ha hg hl ⊢
    obtain ⟨v4, r4⟩ := q4
    dsimp only at ha hg hl ⊢
    generalize h5 : r4.Text 64 = q5 at ha hg hl ⊢
    obtain ⟨l5, r5⟩ := q5
    dsimp only at ha hg hl ⊢
    generalize h6 : r5.Raw 32 = q6 at ha hg hl ⊢
    obtain ⟨l6, r6⟩ := q6
    dsimp only at ha hg hl ⊢
    generalize h7 : r6.Raw 32 = q7 at ha hg hl ⊢
    obtain ⟨l7, r7⟩ := q7
    dsimp only at ha hg hl ⊢
    generalize h8 : r7.N 18446744073709551615 = q8 at ha hg hl ⊢
    obtain ⟨v8, r8⟩ := q8
    dsimp only at ha hg hl ⊢
    generalize h9 : r8.Text 110000 = q9 at ha hg hl ⊢
    obtain ⟨l9, r9⟩ := q9
    dsimp only at ha hg hl ⊢
    obtain ⟨g8, e9⟩ := Text_once h9 hg
    obtain ⟨g7, e8, _⟩ := N_once h8 g8
    obtain ⟨g6, e7, n7⟩ := Raw_once h7 g7
    obtain ⟨g5, e6, n6⟩ := Raw_once h6 g6
    obtain ⟨g4, e5⟩ := Text_once h5 g5
    obtain ⟨g3, e4, _⟩ := N_once h4 g4
    obtain ⟨g2, e3, _⟩ := N_once h3 g3
    obtain ⟨g1, e2, _⟩ := N_once h2 g2
    obtain ⟨_, e1, _⟩ := N_once h1 g1
    have et : t = r0.l := by rw [← hr0]
    have ex : x = 1 := by rw [← u8_self x, hx]; rfl
    unfold reqBytes
    dsimp only
    rw [et, e1, e2, e3, e4, e5, e6, e7, e8, e9, hl, idOf_list n6, idOf_list n7, ex]
    simp
/-- Bytes that are a reply. -/
theorem rep_once {l : List UInt8} (h : repIs l = true) : repAns (repOf l) = true ∧ repBytes (repOf l) = l := by
  cases l with
  | nil => cases h
  | cons x t =>
    have ho : repOf (x :: t) = (repParse ⟨t, true⟩).1 := by rw [repOf, if_pos h, List.tail_cons]
    simp only [repIs, Bool.and_eq_true, decide_eq_true_eq] at h
    obtain ⟨hx, he⟩ := h
    rw [ho]
    obtain ⟨hg, hl⟩ := End_zero he
    clear he ho
    generalize hr0 : (⟨t, true⟩ : Rd) = r0 at hg hl ⊢
    unfold repParse at hg hl ⊢
    dsimp only at hg hl ⊢
    generalize h1 : r0.N 4294967295 = q1 at hg hl ⊢
    obtain ⟨v1, r1⟩ := q1
    dsimp only at hg hl ⊢
    generalize h2 : r1.N 18446744073709551615 = q2 at hg hl ⊢
    obtain ⟨v2, r2⟩ := q2
    dsimp only at hg hl ⊢
    have b3 := Rd.N_le r2 1000
    generalize h3 : r2.N 1000 = q3 at hg hl b3 ⊢
    obtain ⟨v3, r3⟩ := q3
    dsimp only at hg hl b3 ⊢
    generalize h4 : r3.Raw 32 = q4 at hg hl ⊢
    obtain ⟨l4, r4⟩ := q4
    dsimp only at hg hl ⊢
    generalize h5 : r4.N 18446744073709551615 = q5 at hg hl ⊢
    obtain ⟨v5, r5⟩ := q5
    dsimp only at hg hl ⊢
    have b6 := Rd.Text_le r5 110000 110000 (by omega)
    generalize h6 : r5.Text 110000 = q6 at hg hl b6 ⊢
    obtain ⟨l6, r6⟩ := q6
    dsimp only at hg hl b6 ⊢
    have b7 := Rd.N_le r6 1000
    generalize h7 : r6.N 1000 = q7 at hg hl b7 ⊢
    obtain ⟨v7, r7⟩ := q7
    dsimp only at hg hl b7 ⊢
    obtain ⟨g7, e8⟩ := namesGo_once v7 r7 hg
    obtain ⟨g6, e7, _⟩ := N_once h7 g7
    obtain ⟨g5, e6⟩ := Text_once h6 g6
    obtain ⟨g4, e5, _⟩ := N_once h5 g5
    obtain ⟨g3, e4, n4⟩ := Raw_once h4 g4
    obtain ⟨g2, e3, _⟩ := N_once h3 g3
    obtain ⟨g1, e2, _⟩ := N_once h2 g2
    obtain ⟨_, e1, _⟩ := N_once h1 g1
    have et : t = r0.l := by rw [← hr0]
    have ex : x = 2 := by rw [← u8_self x, hx]; rfl
    have hnl := namesGo_len v7 r7
    constructor
    · simp only [repAns, Bool.and_eq_true, decide_eq_true_eq, List.all_eq_true]
      exact ⟨by omega, by omega, b6, by omega, fun s hs => namesGo_size v7 r7 s hs⟩
    · unfold repBytes repHead
      dsimp only
      rw [et, e1, e2, e3, e4, e5, e6, e7, e8, hl, idOf_list n4, ex, hnl]
      simp
theorem not_both {l : List UInt8} (h : reqIs l = true) : repIs l = false := by
  cases l with
  | nil => rfl
  | cons x t =>
    simp only [reqIs, Bool.and_eq_true, decide_eq_true_eq] at h
    simp [repIs, h.1]

theorem back_textK {b rest : List UInt8} {k : Int} (h : (b.length : Int) ≤ k) (h2 : b.length < 18446744073709551616) : Rd.Text ⟨textBytes b ++ rest, true⟩ k = (b, ⟨rest, true⟩) := by
  unfold Rd.Text textBytes
  rw [if_neg (by omega), List.append_assoc, RN_encN (b ++ rest) h2 (by omega)]
  exact back_raw b rest
theorem back_id (x : Id32) (rest : List UInt8) : Rd.Raw ⟨x.1 ++ rest, true⟩ 32 = (x.1, ⟨rest, true⟩) := by
  have := back_raw x.1 rest
  rw [x.2] at this
  exact this
theorem idOf_self (x : Id32) : idOf x.1 = x := Subtype.ext (idOf_eq x.2)
theorem back_names : ∀ (l : List ByteArray) (rest : List UInt8), (∀ s ∈ l, s.size ≤ 64) → namesGo l.length ⟨nameBytes l ++ rest, true⟩ = (l, ⟨rest, true⟩)
  | [], rest, _ => rfl
  | s :: l, rest, h => by
    have hs : s.data.toList.length ≤ 64 := by simpa using h s (List.mem_cons_self ..)
    rw [nameBytes_cons, List.append_assoc, List.length_cons, namesGo, back_textK (by omega) (by omega)]
    dsimp only
    rw [back_names l rest fun s hs => h s (List.mem_cons_of_mem _ hs)]
theorem req_back {r : Req} (hw : reqWf r) (h : reqAsks r = true) : reqIs (reqBytes r) = true ∧ reqOf (reqBytes r) = r := by
  obtain ⟨a1, a2, a3, a4⟩ := asks_of h
  obtain ⟨w1, w2, w3, w4, w5, w6, w7⟩ := hw
  have hb : reqBytes r = 1 :: (encN r.client ++ (encN r.seq ++ (encN r.kind.toNat ++ (encN r.tenant ++ (textBytes r.name.data.toList ++ (r.id.1 ++ (r.old.1 ++ (encN r.n ++ (textBytes r.body ++ []))))))))) := by
    unfold reqBytes; simp
  have hp : reqParse ⟨encN r.client ++ (encN r.seq ++ (encN r.kind.toNat ++ (encN r.tenant ++ (textBytes r.name.data.toList ++ (r.id.1 ++ (r.old.1 ++ (encN r.n ++ (textBytes r.body ++ [])))))))), true⟩ = (r, ⟨[], true⟩) := by
    have hk : ((r.kind.toNat : Nat) : Int) = r.kind := by omega
    have hnm : r.name.data.toList.length ≤ 64 := by simpa using a3
    unfold reqParse
    rw [RN_encN _ (by omega) (by omega)]
    dsimp only
    rw [RN_encN _ (by omega) (by omega)]
    dsimp only
    rw [RN_encN _ (by omega) (by omega)]
    dsimp only
    rw [RN_encN _ (by omega) (by omega)]
    dsimp only
    rw [back_textK (by omega) (by omega)]
    dsimp only
    rw [back_id]
    dsimp only
    rw [back_id]
    dsimp only
    rw [RN_encN _ (by omega) (by omega)]
    dsimp only
    rw [back_textK (by omega) (by omega)]
    dsimp only
    rw [hk, idOf_self, idOf_self]
  have hi : reqIs (reqBytes r) = true := by
    rw [hb]
    simp only [reqIs, hp, h]
    rfl
  refine ⟨hi, ?_⟩
  rw [reqOf, if_pos hi, hb, List.tail_cons, hp]
theorem rep_back {r : Rep} (hw : repWf r) (h : repAns r = true) : repIs (repBytes r) = true ∧ repOf (repBytes r) = r := by
  obtain ⟨a1, a2, a3, a4, a5⟩ := ans_of h
  obtain ⟨w1, w2, w3, w4, w5, w6⟩ := hw
  have hb : repBytes r = 2 :: (encN r.client ++ (encN r.seq ++ (encN r.err.toNat ++ (r.id.1 ++ (encN r.n ++ (textBytes r.body ++ (encN r.names.length ++ (nameBytes r.names ++ [])))))))) := by
    unfold repBytes repHead; simp
  have hp : repParse ⟨encN r.client ++ (encN r.seq ++ (encN r.err.toNat ++ (r.id.1 ++ (encN r.n ++ (textBytes r.body ++ (encN r.names.length ++ (nameBytes r.names ++ []))))))), true⟩ = (r, ⟨[], true⟩) := by
    have hk : ((r.err.toNat : Nat) : Int) = r.err := by omega
    unfold repParse
    rw [RN_encN _ (by omega) (by omega)]
    dsimp only
    rw [RN_encN _ (by omega) (by omega)]
    dsimp only
    rw [RN_encN _ (by omega) (by omega)]
    dsimp only
    rw [back_id]
    dsimp only
    rw [RN_encN _ (by omega) (by omega)]
    dsimp only
    rw [back_textK (by omega) (by omega)]
    dsimp only
    rw [RN_encN _ (by omega) (by omega)]
    dsimp only
    rw [back_names _ _ a5]
    dsimp only
    rw [hk, idOf_self]
  have hi : repIs (repBytes r) = true := by
    rw [hb]
    simp only [repIs, hp]
    rfl
  refine ⟨hi, ?_⟩
  rw [repOf, if_pos hi, hb, List.tail_cons, hp]
end Go.Proofs.Ytnkfchondedfcaa
