/-
  What a reader of bytes does further (codec.Reader): Raw, Text, Rest. Conditions: each contract states its own.
-/
import Derived.Test.YtnkfchondedfcaaCr
import Derived.Test.YtnkfchondedfcaaEp
namespace Go.Proofs.Ytnkfchondedfcaa
open Go.RowKit

/-- A reader behind a read that hands back new bytes. -/
def ReadBytes (w w' : World) (e : Ending) (F : Nat → Prop) (b : Nat) (q : List UInt8 × Rd) : Prop :=
  ∃ A c, e = .returned (.slice A q.1.length c) ∧ Fr (· = b) w w' ∧ RdAt w' F b q.2 ∧ Own w' 5 1 A q.1.length c (q.1.map bv) ∧ ∀ j, inB A j → w.heap.size ≤ j

theorem ret_sl {A : Option Addr} {n m c d : Nat} (h : n = m) (h2 : c = d) : Ending.returned (.slice A n c) = .returned (.slice A m d) := by rw [h, h2]

set_option maxRecDepth 100000 in
set_option maxHeartbeats 1000000 in
theorem RRaw_any (w : World) (F : Nat → Prop) (b : Nat) (r : Rd) (k : Int) (h : RdAt w F b r) (hk0 : -9223372036854775808 ≤ k) (hk1 : k ≤ 9223372036854775807) (hroom : r.l.length ≤ 70368744177664) :
    Calls Try.prog 36 #[.pointer (some ⟨b, 0, none⟩), .int .i64 k] w fun e w' => ReadBytes w w' e F b (r.Raw k) := by
  obtain ⟨hF, A, n, c, hB, hc, hm, hl⟩ := h
  obtain ⟨l, g⟩ := r
  have h1 := hB.cell 1
  simp at h1
  have h0 := hB.cell_0
  have f0 := hB.frozen 0
  have hlen := hl.len
  dsimp only at hlen hroom h0 hl
  subst hlen
  cases g with
  | false =>
    have e : Rd.Raw ⟨l, false⟩ k = ([], Rd.bad) := by simp [Rd.Raw]
    rw [e]
    clear e hl
    go_enter Try.func36, Try.ntmps36
    go_wp2_with (first | (go_at_call 80; refine (ok_some _ _ _ h1).mono ?_; rintro e w' ⟨rfl, rfl⟩) | (go_at_call 81; refine (fail_some _ _ _ _ hB).mono ?_; rintro e w' ⟨rfl, rfl⟩))
    go_ret
    obtain ⟨g1, g2⟩ := rd_fail hF hB
    exact ⟨none, 0, rfl, g1, g2, Own.nil _ _ _, fun j hj => absurd hj (inB_none j)⟩
  | true =>
    by_cases hk : 0 ≤ k ∧ k ≤ l.length
    · obtain ⟨ka, kb⟩ := hk
      obtain ⟨m, rfl⟩ := Int.eq_ofNat_of_zero_le ka
      have hml : m ≤ l.length := by omega
      have e : Rd.Raw ⟨l, true⟩ m = (l.take m, ⟨l.drop m, true⟩) := by simp [Rd.Raw, hml]
      rw [e]
      have ht := hl.take hml
      have hA : Hid ((l.take m).length = m) := by show _ = _; simp; omega
      clear e ka kb
      go_enter Try.func36, Try.ntmps36
      go_wp2_with (first
        | (go_at_call 80; refine (ok_some _ _ _ h1).mono ?_; rintro e w' ⟨rfl, rfl⟩)
        | (at_builtin; refine wpList_app _ el_u8 rfl (.const (.slice none 0 0)) (.tmp 29) rfl none 0 0 [] rfl (Own.nil _ _ _) _ _ m _ _ rfl ht (bv_one _) (by omega) ?_; intro A1 c1 w1 hown1 hf1 hin1 hnil1; have hB1 := hB.fr hf1 (inB_none b); have h01 := hB1.cell_0; have f01 := hB1.frozen 0))
      go_ret
      have hl1 := hl.fr hf1 fun k _ => inB_none k
      obtain ⟨g1, g2⟩ := rd_cut hF hB1 hc hm hl1 hml
      have hb1 := hB.lt
      rw [Nat.zero_add] at hown1
      refine ⟨A1, c1, ret_sl (by rw [hA.out]) rfl, hf1.mono (fun k _ hk => absurd hk (inB_none k)) |>.trans g1 fun _ _ h => h, g2, ?_, fun j hj => (hin1 j hj).elim (fun h => absurd h (inB_none j)) (fun h => by omega)⟩
      rw [hA.out]
      exact hown1.set_ (fun hj => (hin1 b hj).elim (inB_none b) (fun h => by omega)) _ _
    · have e : Rd.Raw ⟨l, true⟩ k = ([], Rd.bad) := by
        unfold Rd.Raw; rw [if_neg (fun h => hk h.2)]
      rw [e]
      clear e hl
      by_cases hk0 : 0 ≤ k
      · have hk2 : (l.length : Int) < k := by omega
        clear hk
        go_enter Try.func36, Try.ntmps36
        go_wp2_with (first | (go_at_call 80; refine (ok_some _ _ _ h1).mono ?_; rintro e w' ⟨rfl, rfl⟩) | (go_at_call 81; refine (fail_some _ _ _ _ hB).mono ?_; rintro e w' ⟨rfl, rfl⟩))
        go_ret
        obtain ⟨g1, g2⟩ := rd_fail hF hB
        exact ⟨none, 0, rfl, g1, g2, Own.nil _ _ _, fun j hj => absurd hj (inB_none j)⟩
      · have hk2 : k < 0 := by omega
        clear hk hk0
        go_enter Try.func36, Try.ntmps36
        go_wp2_with (first | (go_at_call 80; refine (ok_some _ _ _ h1).mono ?_; rintro e w' ⟨rfl, rfl⟩) | (go_at_call 81; refine (fail_some _ _ _ _ hB).mono ?_; rintro e w' ⟨rfl, rfl⟩))
        go_ret
        obtain ⟨g1, g2⟩ := rd_fail hF hB
        exact ⟨none, 0, rfl, g1, g2, Own.nil _ _ _, fun j hj => absurd hj (inB_none j)⟩

set_option maxHeartbeats 400000 in
theorem RRest_any (w : World) (F : Nat → Prop) (b : Nat) (r : Rd) (h : RdAt w F b r) :
    Calls Try.prog 43 #[.pointer (some ⟨b, 0, none⟩)] w fun e w' => e = .returned (.int .i64 (r.Rest : Int)) ∧ w = w' := by
  obtain ⟨hF, A, n, c, hB, hc, hm, hl⟩ := h
  obtain ⟨l, g⟩ := r
  have h1 := hB.cell 1
  simp at h1
  have h0 := hB.cell_0
  have hlen := hl.len
  dsimp only at hlen h0 hl
  subst hlen
  clear hl
  cases g with
  | false =>
    go_enter Try.func43, Try.ntmps43
    go_wp2_with (first | (go_at_call 80; refine (ok_some _ _ _ h1).mono ?_; rintro e w' ⟨rfl, rfl⟩))
    go_ret
    exact ⟨rfl, rfl⟩
  | true =>
    go_enter Try.func43, Try.ntmps43
    go_wp2_with (first | (go_at_call 80; refine (ok_some _ _ _ h1).mono ?_; rintro e w' ⟨rfl, rfl⟩))
    go_ret
    exact ⟨rfl, rfl⟩

set_option maxRecDepth 100000 in
set_option maxHeartbeats 400000 in
theorem RText_any (w : World) (F : Nat → Prop) (b : Nat) (r : Rd) (k : Int) (h : RdAt w F b r) (hk0 : -9223372036854775808 ≤ k) (hk1 : k ≤ 9223372036854775807) (hroom : r.l.length ≤ 70368744177664) :
    Calls Try.prog 38 #[.pointer (some ⟨b, 0, none⟩), .int .i64 k] w fun e w' => ReadBytes w w' e F b (r.Text k) := by
  by_cases hk : k < 0
  · have e : r.Text k = ([], Rd.bad) := by simp [Rd.Text, hk]
    rw [e]
    clear e
    obtain ⟨hF, A, n, c, hB, hc, hm, hl⟩ := h
    go_enter Try.func38, Try.ntmps38
    go_wp2_with (first | (go_at_call 81; refine (fail_some _ _ _ _ hB).mono ?_; rintro e w' ⟨rfl, rfl⟩))
    go_ret
    obtain ⟨g1, g2⟩ := rd_fail hF hB
    exact ⟨none, 0, rfl, g1, g2, Own.nil _ _ _, fun j hj => absurd hj (inB_none j)⟩
  · have e : r.Text k = (r.N k.toNat).2.Raw (r.N k.toNat).1 := by rw [Rd.Text, if_neg hk]
    rw [e]
    clear e
    obtain ⟨m, rfl⟩ := Int.eq_ofNat_of_zero_le (show 0 ≤ k by omega)
    rw [Int.toNat_natCast]
    have hle := Rd.N_le r m
    have hll := Rd.N_len r m
    have hRN := RN_any w F b r m h
    generalize r.N m = q at hle hll hRN ⊢
    obtain ⟨v, r1⟩ := q
    dsimp only at hle hll hRN ⊢
    have HRN := Lib.hid hRN
    clear hRN
    go_enter Try.func38, Try.ntmps38
    go_wp2_with fail
    refine HRN.out.mono ?_
    rintro e w1 ⟨rfl, hf1, hR1⟩
    go_wp2_with fail
    refine (RRaw_any _ _ _ _ v hR1 (by omega) (by omega) (by omega)).mono ?_
    rintro e w2 ⟨A2, c2, rfl, hf2, hR2, hO2, hA2⟩
    have s1 := hf1.size
    go_wp2
    go_ret
    exact ⟨A2, c2, rfl, hf1.trans hf2 fun _ _ h => h, hR2, hO2, fun j hj => by have := hA2 j hj; omega⟩

end Go.Proofs.Ytnkfchondedfcaa
