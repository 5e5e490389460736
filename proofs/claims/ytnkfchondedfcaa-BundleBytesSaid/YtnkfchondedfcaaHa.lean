/-
  The document's reader (tabulariumref08.Reader): fail, End, Raw, N, Text. Conditions: each contract states its own.
-/
import Derived.Test.YtnkfchondedfcaaEc
namespace Go.Proofs.Ytnkfchondedfcaa
open Go.RowKit

/-- The document's reader at block b: its bytes lie in blocks of G. -/
def RfAt (w : World) (G : Nat → Prop) (b : Nat) (r : Rd) : Prop :=
  ¬ G b ∧ (r.good = false → r.l = []) ∧ ∃ A n c, Blk w b 59 #[.slice A n c, .bool (!r.good)] ∧ n ≤ c ∧ c ≤ maxLen ∧ Byt w G A n r.l

theorem RfAt.fr {w w' : World} {G S : Nat → Prop} {b : Nat} {r : Rd} (h : RfAt w G b r) (hf : Fr S w w') (hb : ¬ S b) (hd : ∀ k, G k → ¬ S k) : RfAt w' G b r := by
  obtain ⟨q0, q1, A, n, c, q2, q3, q4, q5⟩ := h
  exact ⟨q0, q1, A, n, c, q2.fr hf hb, q3, q4, q5.fr hf hd⟩
theorem RfAt.lt {w : World} {G : Nat → Prop} {b : Nat} {r : Rd} (h : RfAt w G b r) : b < w.heap.size := by
  obtain ⟨q0, q1, A, n, c, q2, q3, q4, q5⟩ := h
  exact q2.lt
theorem RfAt.cell1 {w : World} {G : Nat → Prop} {b : Nat} {r : Rd} (h : RfAt w G b r) : w.cell? ⟨b, 1, none⟩ = some (.bool (!r.good)) := by
  obtain ⟨q0, q1, A, n, c, q2, q3, q4, q5⟩ := h
  have := q2.cell 1
  simpa using this

set_option maxHeartbeats 400000 in
theorem rfail_any (w : World) (b : Nat) (v u : Value) (h : Blk w b 59 #[v, u]) :
    Calls Try.prog 86 #[.pointer (some ⟨b, 0, none⟩)] w fun e w' => e = .returned (.tuple #[]) ∧ w' = (w.setCell ⟨b, 0, none⟩ (.slice none 0 0)).setCell ⟨b, 1, none⟩ (.bool true) := by
  have h0 := h.cell 0
  have h1 := h.cell 1
  have f0 := h.frozen 0
  have f1 := h.frozen 1
  simp at h0 h1
  go_enter Try.func86, Try.ntmps86
  go_wp2
  go_end0
  exact ⟨rfl, rfl⟩

theorem rf_fail {w : World} {G : Nat → Prop} {b : Nat} {v u : Value} (hG : ¬ G b) (hB : Blk w b 59 #[v, u]) :
    Fr (· = b) w ((w.setCell ⟨b, 0, none⟩ (.slice none 0 0)).setCell ⟨b, 1, none⟩ (.bool true)) ∧ RfAt ((w.setCell ⟨b, 0, none⟩ (.slice none 0 0)).setCell ⟨b, 1, none⟩ (.bool true)) G b Rd.bad :=
  ⟨((Fr.refl _ _).at_ _ _).at_ _ _, hG, fun _ => rfl, none, 0, 0, by simpa using (hB.set_ 0 _).set_ 1 _, Nat.le_refl _, by simp [maxLen], Byt.nil _ _ _⟩
theorem rf_cut {w : World} {G : Nat → Prop} {b n c k : Nat} {A : Option Addr} {l : List UInt8} (hG : ¬ G b) (hB : Blk w b 59 #[.slice A n c, .bool false]) (hc : n ≤ c) (hm : c ≤ maxLen) (hl : Byt w G A n l) (hk : k ≤ n) :
    Fr (· = b) w (w.setCell ⟨b, 0, none⟩ (.slice (slA A k c 1) (n - k) (c - k))) ∧ RfAt (w.setCell ⟨b, 0, none⟩ (.slice (slA A k c 1) (n - k) (c - k))) G b ⟨l.drop k, true⟩ :=
  ⟨(Fr.refl _ _).at_ _ _, hG, (fun h => by cases h), _, _, _, by simpa using hB.set_ 0 _, by omega, by omega, (hl.cut hk hc).setCell hG _⟩

set_option maxHeartbeats 400000 in
theorem FEnd_any (w : World) (G : Nat → Prop) (b : Nat) (r : Rd) (h : RfAt w G b r) :
    Calls Try.prog 44 #[.pointer (some ⟨b, 0, none⟩)] w fun e w' => e = .returned (.int .i64 (Rd.End r)) ∧ w = w' := by
  have h1 := h.cell1
  obtain ⟨q0, q1, A, n, c, q2, q3, q4, q5⟩ := h
  obtain ⟨l, g⟩ := r
  have h0 := q2.cell_0
  have hlen := q5.len
  dsimp only at hlen
  subst hlen
  clear q2 q3 q4 q5 q0 q1
  cases g with
  | false =>
    go_enter Try.func44, Try.ntmps44
    go_wp2
    go_ret
    exact ⟨rfl, rfl⟩
  | true =>
    cases l with
    | nil =>
      go_enter Try.func44, Try.ntmps44
      go_wp2
      go_ret
      exact ⟨rfl, rfl⟩
    | cons x l =>
      go_enter Try.func44, Try.ntmps44
      go_wp2
      go_ret
      exact ⟨rfl, rfl⟩

/-- The document's reader behind a read that hands back a part of its bytes. -/
def FReadBytes (w w' : World) (e : Ending) (G : Nat → Prop) (b : Nat) (q : List UInt8 × Rd) : Prop :=
  ∃ A c, e = .returned (.slice A q.1.length c) ∧ Fr (· = b) w w' ∧ RfAt w' G b q.2 ∧ q.1.length ≤ c ∧ c ≤ maxLen ∧ Byt w' G A q.1.length q.1

set_option maxRecDepth 100000 in
set_option maxHeartbeats 1000000 in
theorem FRaw_any (w : World) (G : Nat → Prop) (b : Nat) (r : Rd) (k : Int) (h : RfAt w G b r) (hk0 : -9223372036854775808 ≤ k) (hk1 : k ≤ 9223372036854775807) :
    Calls Try.prog 37 #[.pointer (some ⟨b, 0, none⟩), .int .i64 k] w fun e w' => FReadBytes w w' e G b (r.Raw k) := by
  have h1 := h.cell1
  obtain ⟨q0, q1, A, n, c, hB, hc, hm, hl⟩ := h
  obtain ⟨l, g⟩ := r
  have h0 := hB.cell_0
  have f0 := hB.frozen 0
  have hlen := hl.len
  dsimp only at hlen h0 hl
  subst hlen
  have Hm := Lib.hid hm
  clear hm
  cases g with
  | false =>
    have e : Rd.Raw ⟨l, false⟩ k = ([], Rd.bad) := by simp [Rd.Raw]
    rw [e]
    clear e hl q1
    go_enter Try.func37, Try.ntmps37
    go_wp2_with (first | (go_at_call 86; refine (rfail_any _ _ _ _ hB).mono ?_; rintro e w' ⟨rfl, rfl⟩))
    go_ret
    obtain ⟨g1, g2⟩ := rf_fail q0 hB
    exact ⟨none, 0, rfl, g1, g2, Nat.le_refl _, by simp [maxLen], Byt.nil _ _ _⟩
  | true =>
    by_cases hk : 0 ≤ k ∧ k ≤ l.length
    · obtain ⟨ka, kb⟩ := hk
      obtain ⟨m, rfl⟩ := Int.eq_ofNat_of_zero_le ka
      have hml : m ≤ l.length := by omega
      have e : Rd.Raw ⟨l, true⟩ m = (l.take m, ⟨l.drop m, true⟩) := by simp [Rd.Raw, hml]
      rw [e]
      have ht := hl.take hml
      have hA : Hid ((l.take m).length = m) := by show _ = _; simp; omega
      clear e ka kb q1
      go_enter Try.func37, Try.ntmps37
      go_wp2
      go_ret
      obtain ⟨g1, g2⟩ := rf_cut q0 hB hc Hm.out hl hml
      refine ⟨A, c, ret_sl (by rw [hA.out]) rfl, g1, g2, by rw [hA.out]; omega, Hm.out, ?_⟩
      rw [hA.out]
      exact ht.setCell q0 _
    · have e : Rd.Raw ⟨l, true⟩ k = ([], Rd.bad) := by
        unfold Rd.Raw; rw [if_neg (fun h => hk h.2)]
      rw [e]
      clear e hl q1
      by_cases hk0 : 0 ≤ k
      · have hk2 : (l.length : Int) < k := by omega
        clear hk
        go_enter Try.func37, Try.ntmps37
        go_wp2_with (first | (go_at_call 86; refine (rfail_any _ _ _ _ hB).mono ?_; rintro e w' ⟨rfl, rfl⟩))
        go_ret
        obtain ⟨g1, g2⟩ := rf_fail q0 hB
        exact ⟨none, 0, rfl, g1, g2, Nat.le_refl _, by simp [maxLen], Byt.nil _ _ _⟩
      · have hk2 : k < 0 := by omega
        clear hk hk0
        go_enter Try.func37, Try.ntmps37
        go_wp2_with (first | (go_at_call 86; refine (rfail_any _ _ _ _ hB).mono ?_; rintro e w' ⟨rfl, rfl⟩))
        go_ret
        obtain ⟨g1, g2⟩ := rf_fail q0 hB
        exact ⟨none, 0, rfl, g1, g2, Nat.le_refl _, by simp [maxLen], Byt.nil _ _ _⟩
end Go.Proofs.Ytnkfchondedfcaa
