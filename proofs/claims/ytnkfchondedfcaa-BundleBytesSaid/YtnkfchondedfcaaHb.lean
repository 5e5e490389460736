/-
  The document's reader (tabulariumref08.Reader): N, Text. Conditions: each contract states its own.
-/
import Derived.Test.YtnkfchondedfcaaHa
namespace Go.Proofs.Ytnkfchondedfcaa
open Go.RowKit

theorem rdGo_ten (v : Nat) (l : List UInt8) : rdGo 10 v l = none := by
  cases l with
  | nil => rfl
  | cons c cs => exact rdGo_bad ((rdBad_iff 10 c).2 (.inl (by omega)))
theorem rdGo_nine {v : Nat} {x : UInt8} {cs : List UInt8} (h : 1 < x.toNat) : rdGo 9 v (x :: cs) = none := by
  by_cases h2 : x.toNat < 128
  · exact rdGo_bad ((rdBad_iff 9 x).2 (.inr (.inl (by
      rw [Nat.mod_eq_of_lt h2]
      have : 2 ^ (7 * 9) = 9223372036854775808 := by decide
      omega))))
  · by_cases h3 : rdBad 9 x = true
    · exact rdGo_bad h3
    · rw [rdGo_on (by simpa using h3) h2]; exact rdGo_ten _ _
theorem part_small {y k : Nat} (hk : k ≤ 9) (h : k = 9 → y ≤ 1) : y % 128 * 2 ^ (7 * k) < 18446744073709551616 := by
  by_cases h9 : k = 9
  · subst h9
    have := h rfl
    have e : 2 ^ (7 * 9) = 9223372036854775808 := by decide
    rw [e]; omega
  · have h1 : 2 ^ (7 * k) ≤ 72057594037927936 := Nat.le_trans (Nat.pow_le_pow_right (by omega) (show 7 * k ≤ 56 by omega)) (by decide)
    have h2 : y % 128 * 2 ^ (7 * k) ≤ 127 * 72057594037927936 := Nat.mul_le_mul (by omega) h1
    omega
theorem and_127 (y : Nat) (hy : y < 256) : bits .and .u64 (y : Int) 127 = ((y % 128 : Nat) : Int) := by
  have := u64_and_nat y 127 (by omega) (by omega)
  rw [show ((127 : Nat) : Int) = 127 from rfl] at this
  rw [this, show y &&& 127 = y % 128 from Nat.and_two_pow_sub_one_eq_mod y 7]

set_option maxRecDepth 100000 in
set_option maxHeartbeats 2000000 in
theorem FN_any (w : World) (G : Nat → Prop) (b : Nat) (r : Rd) (most : Nat) (h : RfAt w G b r) :
    Calls Try.prog 35 #[.pointer (some ⟨b, 0, none⟩), .int .u64 most] w fun e w' => e = .returned (.int .u64 (r.N most).1) ∧ Fr (· = b) w w' ∧ RfAt w' G b (r.N most).2 := by
  have hNl : r.N most = match rdGo 0 0 r.l with | some (v, u) => if v ≤ most then (v, ⟨r.l.drop u, true⟩) else (0, Rd.bad) | none => (0, Rd.bad) := by
    unfold Rd.N
    split
    · rfl
    · rename_i hg
      rw [h.2.1 (by simpa using hg), rdGo_nil]
  obtain ⟨q0, q1, A, n, c, hB, hc, hm, hl⟩ := h
  obtain ⟨l, g⟩ := r
  dsimp only at hNl hl hB q1
  have HNone := Lib.hid (fun (h : rdGo 0 0 l = none) => show Rd.N ⟨l, g⟩ most = (0, Rd.bad) by rw [hNl, h])
  have HSome := Lib.hid (fun v u (h : rdGo 0 0 l = some (v, u)) (hm : v ≤ most) => show Rd.N ⟨l, g⟩ most = (v, ⟨l.drop u, true⟩) by rw [hNl, h]; exact if_pos hm)
  have HGreat := Lib.hid (fun v u (h : rdGo 0 0 l = some (v, u)) (hm : ¬ v ≤ most) => show Rd.N ⟨l, g⟩ most = (0, Rd.bad) by rw [hNl, h]; exact if_neg hm)
  clear hNl
  have h0 := hB.cell 0
  have f0 := hB.frozen 0
  simp at h0
  have hlen : n ≤ 9223372036854775807 := by unfold maxLen at hm; omega
  have Hm := Lib.hid hm
  have Hl := Lib.hid hl.len
  clear hm
  have Hg : Hid (rdGo 0 0 l ≠ none → (!g) = false) := fun h => by
    cases g with
    | true => rfl
    | false => rw [q1 rfl] at h; exact absurd rfl h
  clear q1
  generalize hgg : (!g) = gg at hB Hg
  clear hgg
  go_enter Try.func35, Try.ntmps35
  go_wp2
  go_loop [5, 6] (fun acc i => ∃ k v : Nat, k ≤ n ∧ k ≤ 10 ∧ v < 2 ^ (7 * k) ∧ i = .int .i64 k ∧ acc = .int .u64 v ∧ rdGo 0 0 l = rdGo k v (l.drop k)) (fun _ i => n - (intOf i).toNat)
  case atStart => exact ⟨0, 0, by omega, by omega, by omega, rfl, rfl, rfl⟩
  case round =>
    obtain ⟨k, v, hk, hk10, hv, rfl, rfl, hgo⟩ := hrel
    have Hgo := Lib.hid hgo
    clear hgo
    by_cases hkn : k < n
    · obtain ⟨bb, o, y, x, rfl, hFb, hcell, hyx, hy, hx, hdrop⟩ := hl.get hkn
      have hand := and_127 y hy
      by_cases hk9 : k ≤ 9
      · by_cases hbig : k = 9 ∧ 1 < y
        · obtain ⟨hb9, hy1⟩ := hbig
          have HN := Lib.hid (HNone.out (Hgo.out.trans (by rw [hdrop, hb9]; exact rdGo_nine (hyx ▸ hy1))))
          have hb9' : ((k : Int) == 9) = true := by simp; omega
          clear hyx hdrop hx hv hb9
          go_wp2_with (go_at_call 86; refine (rfail_any _ _ _ _ hB).mono ?_; rintro e w' ⟨rfl, rfl⟩)
          go_ret
          rw [HN.out]
          exact ⟨rfl, rf_fail q0 hB⟩
        · have hM3 := part_small (y := y) hk9 (fun h => by omega)
          have hM1 := part_fits (y := y) (k := k) (by omega)
          rw [← IntKind.wrap_u64] at hM1
          have hp := pow_le_63 hk9
          have hor := u64_or_nat v (y % 128 * 2 ^ (7 * k)) (by omega) hM3
          rw [part_or hv] at hor
          have Hlt := Lib.hid (part_lt (y := y) hv)
          have hz9 : (((k : Int) == 9) = true ∧ y ≤ 1) ∨ ((k : Int) == 9) = false := by
            by_cases h : k = 9
            · exact .inl ⟨by simp [h], by omega⟩
            · exact .inr (by simp; omega)
          clear hbig
          by_cases hy0 : y = 0 ∧ 0 < k
          · have HN := Lib.hid (HNone.out (Hgo.out.trans (by rw [hdrop]; exact rdGo_bad ((rdBad_iff k x).2 (.inr (.inr ⟨hyx ▸ hy0.1, hy0.2⟩))))))
            obtain ⟨hy1, hk1⟩ := hy0
            have hyb : ((y : Int) == 0) = true := by simp [hy1]
            clear hyx hdrop hx hv hp hM3
            generalize y % 128 * 2 ^ (7 * k) = M at *
            rcases hz9 with ⟨hz9, hy1'⟩ | hz9
            all_goals
              go_wp2_with (go_at_call 86; refine (rfail_any _ _ _ _ hB).mono ?_; rintro e w' ⟨rfl, rfl⟩)
              go_ret
              rw [HN.out]
              exact ⟨rfl, rf_fail q0 hB⟩
          · have hnb : rdBad k x = false := (rdBad_not k x).2 ⟨hk9, by rw [← hyx]; exact hM3, fun h => by omega⟩
            have hz : (((y : Int) == 0) = true ∧ ¬ 0 < k) ∨ ((y : Int) == 0) = false := by
              by_cases h : y = 0
              · exact .inl ⟨by simp [h], fun h' => hy0 ⟨h, h'⟩⟩
              · exact .inr (by simp [h])
            clear hy0
            by_cases hy128 : y < 128
            · have hs : rdGo 0 0 l = some (v + y % 128 * 2 ^ (7 * k), k + 1) := Hgo.out.trans (by rw [hdrop, hyx]; exact rdGo_last hnb (by omega))
              have hgf := Hg.out (by rw [hs]; simp)
              subst hgf
              by_cases hmost : v + y % 128 * 2 ^ (7 * k) ≤ most
              · have HN := Lib.hid (HSome.out _ _ hs hmost)
                clear hs hnb hyx hdrop hx hv hp hM3
                generalize y % 128 * 2 ^ (7 * k) = M at *
                rcases hz with ⟨hyb, hk0⟩ | hyb
                all_goals rcases hz9 with ⟨hz9, hy1'⟩ | hz9
                all_goals
                  go_wp2
                  go_ret
                  rw [HN.out]
                  exact ⟨rfl, rf_cut q0 hB hc Hm.out hl hkn⟩
              · have HN := Lib.hid (HGreat.out _ _ hs hmost)
                clear hs hnb hyx hdrop hx hv hp hM3
                generalize y % 128 * 2 ^ (7 * k) = M at *
                rcases hz with ⟨hyb, hk0⟩ | hyb
                all_goals rcases hz9 with ⟨hz9, hy1'⟩ | hz9
                all_goals
                  go_wp2_with (go_at_call 86; refine (rfail_any _ _ _ _ hB).mono ?_; rintro e w' ⟨rfl, rfl⟩)
                  go_ret
                  rw [HN.out]
                  exact ⟨rfl, rf_fail q0 hB⟩
            · have Hs := Lib.hid (Hgo.out.trans (show _ = rdGo (k + 1) (v + y % 128 * 2 ^ (7 * k)) (l.drop (k + 1)) by rw [hdrop, hyx]; exact rdGo_on hnb (by omega)))
              clear hnb hyx hdrop hx hv hp hM3
              generalize y % 128 * 2 ^ (7 * k) = M at *
              have hyb : ((y : Int) == 0) = false := by simp; omega
              clear hz
              rcases hz9 with ⟨hz9, hy1'⟩ | hz9
              · omega
              go_wp2
              go_round
              case rel => exact ⟨k + 1, v + M, by omega, by omega, Hlt.out, by go_num, by go_num, Hs.out⟩
              case measure => simp [intOf]; omega
      · have HN := Lib.hid (HNone.out (Hgo.out.trans (by rw [show k = 10 by omega]; exact rdGo_ten _ _)))
        clear hyx hdrop hx hv
        go_wp2_with (go_at_call 86; refine (rfail_any _ _ _ _ hB).mono ?_; rintro e w' ⟨rfl, rfl⟩)
        go_ret
        rw [HN.out]
        exact ⟨rfl, rf_fail q0 hB⟩
    · have HN := Lib.hid (HNone.out (Hgo.out.trans (by rw [List.drop_eq_nil_of_le (by rw [Hl.out]; omega)]; rfl)))
      clear hv
      go_wp2_with (go_at_call 86; refine (rfail_any _ _ _ _ hB).mono ?_; rintro e w' ⟨rfl, rfl⟩)
      go_ret
      rw [HN.out]
      exact ⟨rfl, rf_fail q0 hB⟩

set_option maxRecDepth 100000 in
set_option maxHeartbeats 400000 in
theorem FText_any (w : World) (G : Nat → Prop) (b : Nat) (r : Rd) (k : Int) (h : RfAt w G b r) (hk1 : k ≤ 9223372036854775807) :
    Calls Try.prog 39 #[.pointer (some ⟨b, 0, none⟩), .int .i64 k] w fun e w' => FReadBytes w w' e G b (r.Text k) := by
  by_cases hk : k < 0
  · have e : r.Text k = ([], Rd.bad) := by simp [Rd.Text, hk]
    rw [e]
    clear e
    obtain ⟨q0, q1, A, n, c, hB, hc, hm, hl⟩ := h
    go_enter Try.func39, Try.ntmps39
    go_wp2_with (first | (go_at_call 86; refine (rfail_any _ _ _ _ hB).mono ?_; rintro e w' ⟨rfl, rfl⟩))
    go_ret
    obtain ⟨g1, g2⟩ := rf_fail q0 hB
    exact ⟨none, 0, rfl, g1, g2, Nat.le_refl _, by simp [maxLen], Byt.nil _ _ _⟩
  · have e : r.Text k = (r.N k.toNat).2.Raw (r.N k.toNat).1 := by rw [Rd.Text, if_neg hk]
    rw [e]
    clear e
    obtain ⟨m, rfl⟩ := Int.eq_ofNat_of_zero_le (show 0 ≤ k by omega)
    rw [Int.toNat_natCast]
    have hle := Rd.N_le r m
    have hRN := FN_any w G b r m h
    generalize r.N m = q at hle hRN ⊢
    obtain ⟨v, r1⟩ := q
    dsimp only at hle hRN ⊢
    have HRN := Lib.hid hRN
    clear hRN
    go_enter Try.func39, Try.ntmps39
    go_wp2_with fail
    refine HRN.out.mono ?_
    rintro e w1 ⟨rfl, hf1, hR1⟩
    go_wp2_with fail
    refine (FRaw_any _ _ _ _ v hR1 (by omega) (by omega)).mono ?_
    rintro e w2 ⟨A2, c2, rfl, hf2, hR2, hc2, hm2, hB2⟩
    go_wp2
    go_ret
    exact ⟨A2, c2, rfl, hf1.trans hf2 fun _ _ => id, hR2, hc2, hm2, hB2⟩
end Go.Proofs.Ytnkfchondedfcaa
