/-
  What a reader of bytes does (codec.Reader): ok, fail, Read, N. Conditions: each contract states its own (where the reader lies, that its bytes are read there).
-/
import Derived.Test.YtnkfchondedfcaaRows
import Derived.Test.YtnkfchondedfcaaWd
import Derived.Test.YtnkfchondedfcaaCp
import Derived.Deep.QuietTactic
import Derived.BigQuiet
import Derived.Outline
namespace Go.Proofs.Ytnkfchondedfcaa
open Go.RowKit

/-- A reader in block b. -/
def RdAt (w : World) (F : Nat → Prop) (b : Nat) (r : Rd) : Prop :=
  F b ∧ ∃ A n c, Blk w b 71 #[.slice A n c, .bool r.good] ∧ n ≤ c ∧ c ≤ maxLen ∧ Byt w (fun k => F k ∧ k ≠ b) A n r.l

set_option maxHeartbeats 400000 in
theorem ok_nil (w : World) :
    Calls Try.prog 80 #[.pointer none] w fun e w' => e = .returned (.bool false) ∧ w = w' := by
  go_enter Try.func80, Try.ntmps80
  go_wp2
  go_ret
  exact ⟨rfl, rfl⟩

set_option maxHeartbeats 400000 in
theorem ok_some (w : World) (b : Nat) (g : Bool) (h : w.cell? ⟨b, 1, none⟩ = some (.bool g)) :
    Calls Try.prog 80 #[.pointer (some ⟨b, 0, none⟩)] w fun e w' => e = .returned (.bool g) ∧ w = w' := by
  go_enter Try.func80, Try.ntmps80
  go_wp2
  go_ret
  exact ⟨rfl, rfl⟩

set_option maxHeartbeats 400000 in
theorem fail_some (w : World) (b : Nat) (v : Value) (g : Bool) (h : Blk w b 71 #[v, .bool g]) :
    Calls Try.prog 81 #[.pointer (some ⟨b, 0, none⟩)] w fun e w' => e = .returned (.tuple #[]) ∧ w' = (w.setCell ⟨b, 0, none⟩ (.slice none 0 0)).setCell ⟨b, 1, none⟩ (.bool false) := by
  have h0 := h.cell 0
  have h1 := h.cell 1
  have f0 := h.frozen 0
  have f1 := h.frozen 1
  simp at h0 h1
  go_enter Try.func81, Try.ntmps81
  go_wp2
  go_end0
  exact ⟨rfl, rfl⟩

set_option maxHeartbeats 400000 in
theorem fail_nil (w : World) :
    Calls Try.prog 81 #[.pointer none] w fun e w' => e = .returned (.tuple #[]) ∧ w = w' := by
  go_enter Try.func81, Try.ntmps81
  go_wp2
  go_end0
  exact ⟨rfl, rfl⟩

theorem el_u8 : ElemOk Try.prog 22 5 (.int .u8 0) 1 1 := .mk Try.underlying22 (by kernel_rfl) rfl (by omega) (by omega)

set_option maxHeartbeats 400000 in
theorem Read_any (w : World) (F : Nat → Prop) (A : Option Addr) (n c : Nat) (l : List UInt8) (h : Byt w F A n l) (hn : n ≤ 140737488351232) :
    Calls Try.prog 27 #[.slice A n c] w fun e w' => ∃ b, e = .returned (.pointer (some ⟨b, 0, none⟩)) ∧ Fr NoB w w' ∧ RdAt w' (fun k => w.heap.size ≤ k) b ⟨l, true⟩ := by
  go_enter Try.func27, Try.ntmps27
  go_wp2_with (at_builtin; refine wpList_app _ el_u8 rfl (.const (.slice none 0 0)) (.tmp 3) rfl none 0 0 [] rfl (Own.nil _ _ _) F A n c _ rfl h (bv_one l) (by omega) ?_; intro A1 c1 w1 hown1 hf1 hin1 hnil1)
  go_ret
  refine ⟨w1.heap.size, rfl, (hf1.mono fun k _ hk => (inB_none k hk)).alloc _, hf1.size, A1, n, c1, Blk.new _ _ _, by simpa using hown1.le, hown1.cap, ?_⟩
  have hb : Byt w1 (fun k => w.heap.size ≤ k ∧ k ≠ w1.heap.size) A1 n l := by
    have := hown1.arr (F := fun k => w.heap.size ≤ k ∧ k ≠ w1.heap.size) fun k hk hin => ⟨by
    rcases hin1 k hin with h | h
    · exact absurd h (inB_none k)
    · omega, by omega⟩
    have e : 0 + n = n := by omega
    rw [e] at this
    exact this
  exact hb.alloc _

set_option maxHeartbeats 400000 in
theorem RN_bad (w : World) (F : Nat → Prop) (b : Nat) (r : Rd) (most : Int) (h : RdAt w F b r) (hg : r.good = false) :
    Calls Try.prog 28 #[.pointer (some ⟨b, 0, none⟩), .int .u64 most] w fun e w' => e = .returned (.int .u64 0) ∧ Fr (· = b) w w' ∧ RdAt w' F b Rd.bad := by
  obtain ⟨hF, A, n, c, hB, hc, hm, hl⟩ := h
  have h1 := hB.cell 1
  simp [hg] at h1
  go_enter Try.func28, Try.ntmps28
  go_wp2_with (first | (go_at_call 80; refine (ok_some _ _ _ h1).mono ?_; rintro e w' ⟨rfl, rfl⟩) | (go_at_call 81; refine (fail_some _ _ _ _ hB).mono ?_; rintro e w' ⟨rfl, rfl⟩))
  go_ret
  refine ⟨rfl, ((Fr.refl _ _).at_ _ _).at_ _ _, ?_⟩
  exact ⟨hF, none, 0, 0, by simpa using (hB.set_ 0 _).set_ 1 _, Nat.le_refl _, by simp [maxLen], Byt.nil _ _ _⟩

theorem rd_fail {w : World} {F : Nat → Prop} {b : Nat} {v : Value} {g : Bool} (hF : F b) (hB : Blk w b 71 #[v, .bool g]) :
    Fr (· = b) w ((w.setCell ⟨b, 0, none⟩ (.slice none 0 0)).setCell ⟨b, 1, none⟩ (.bool false)) ∧ RdAt ((w.setCell ⟨b, 0, none⟩ (.slice none 0 0)).setCell ⟨b, 1, none⟩ (.bool false)) F b Rd.bad :=
  ⟨((Fr.refl _ _).at_ _ _).at_ _ _, hF, none, 0, 0, by simpa using (hB.set_ 0 _).set_ 1 _, Nat.le_refl _, by simp [maxLen], Byt.nil _ _ _⟩
theorem rd_cut {w : World} {F : Nat → Prop} {b n c k : Nat} {A : Option Addr} {g : Bool} {l : List UInt8} (hF : F b) (hB : Blk w b 71 #[.slice A n c, .bool g]) (hc : n ≤ c) (hm : c ≤ maxLen) (hl : Byt w (fun k => F k ∧ k ≠ b) A n l) (hk : k ≤ n) :
    Fr (· = b) w (w.setCell ⟨b, 0, none⟩ (.slice (slA A k c 1) (n - k) (c - k))) ∧ RdAt (w.setCell ⟨b, 0, none⟩ (.slice (slA A k c 1) (n - k) (c - k))) F b ⟨l.drop k, g⟩ :=
  ⟨(Fr.refl _ _).at_ _ _, hF, _, _, _, by simpa using hB.set_ 0 _, by omega, by omega, (hl.cut hk hc).setCell (by simp) _⟩

set_option maxRecDepth 100000 in
set_option maxHeartbeats 1000000 in
theorem RN_good (w : World) (F : Nat → Prop) (b : Nat) (l : List UInt8) (most : Nat) (h : RdAt w F b ⟨l, true⟩) :
    Calls Try.prog 28 #[.pointer (some ⟨b, 0, none⟩), .int .u64 most] w fun e w' => e = .returned (.int .u64 (Rd.N ⟨l, true⟩ most).1) ∧ Fr (· = b) w w' ∧ RdAt w' F b (Rd.N ⟨l, true⟩ most).2 := by
  obtain ⟨hF, A, n, c, hB, hc, hm, hl⟩ := h
  have h0 := hB.cell 0
  have h1 := hB.cell 1
  have f0 := hB.frozen 0
  simp at h0 h1
  have hlen : n ≤ 9223372036854775807 := by unfold maxLen at hm; omega
  go_enter Try.func28, Try.ntmps28
  go_wp2_with (first | (go_at_call 80; refine (ok_some _ _ _ h1).mono ?_; rintro e w' ⟨rfl, rfl⟩))
  go_step3
  go_wp2
  go_step3
  go_wp2
  go_loop [5, 6, 7, 8, 19] (fun acc sh us wh i => ∃ k v : Nat, us = .int .i64 0 ∧ wh = .bool false ∧ k ≤ n ∧ k ≤ 10 ∧ v < 2 ^ (7 * k) ∧ i = .int .i64 k ∧ sh = .int .i64 (7 * k : Nat) ∧ acc = .int .u64 v ∧ rdGo 0 0 l = rdGo k v (l.drop k)) (fun _ _ _ _ i => n - (intOf i).toNat)
  case atStart => exact ⟨0, 0, rfl, rfl, by omega, by omega, by omega, rfl, rfl, rfl, rfl⟩
  case round =>
    obtain ⟨k, v, rfl, rfl, hk, hk10, hv, rfl, rfl, rfl, hgo⟩ := hrel
    have Hgo := Lib.hid hgo
    clear hgo
    by_cases hkn : k < n
    · obtain ⟨bb, o, y, x, rfl, hFb, hcell, hyx, hy, hx, hdrop⟩ := hl.get hkn
      have hand : bits .andNot .u8 (y : Int) 128 = ((y % 128 : Nat) : Int) := by
        have := u8_andNot_nat y 128 hy (by omega)
        rw [show ((128 : Nat) : Int) = 128 from rfl] at this
        rw [this]
        have h2 := Nat.and_two_pow_sub_one_eq_mod y 7
        have h3 : y &&& (255 - 128) = y % 128 := h2
        rw [h3]
      by_cases hk9 : k ≤ 9
      · by_cases hov : 18446744073709551616 ≤ y % 128 * 2 ^ (7 * k)
        · have HN := Lib.hid (Rd.N_none (most := most) (Hgo.out.trans (by rw [hdrop]; exact rdGo_bad ((rdBad_iff k x).2 (.inr (.inl (hyx ▸ hov)))))))
          obtain ⟨q, hq, hq2⟩ := part_over hov
          rw [← IntKind.wrap_u64] at hq
          clear hyx hdrop hx hv hov
          go_wp2_with (first | (go_at_call 81; refine (fail_some _ _ _ _ hB).mono ?_; rintro e w' ⟨rfl, rfl⟩))
          go_ret
          rw [HN.out]
          exact ⟨rfl, rd_fail hF hB⟩
        · have hM1 := part_fits (y := y) (k := k) (by omega)
          have hM2 := part_back y k
          rw [← IntKind.wrap_u64] at hM1
          have hp := pow_le_63 hk9
          have hM3 : y % 128 * 2 ^ (7 * k) < 18446744073709551616 := by omega
          have hor := u64_or_nat v (y % 128 * 2 ^ (7 * k)) (by omega) hM3
          rw [part_or hv] at hor
          have Hlt := Lib.hid (part_lt (y := y) hv)
          by_cases hy0 : y = 0 ∧ 0 < k
          · have HN := Lib.hid (Rd.N_none (most := most) (Hgo.out.trans (by rw [hdrop]; exact rdGo_bad ((rdBad_iff k x).2 (.inr (.inr ⟨hyx ▸ hy0.1, hy0.2⟩))))))
            obtain ⟨hy1, hk1⟩ := hy0
            have hyb : ((y : Int) == 0) = true := by simp [hy1]
            clear hy1 hyx hdrop hx hv hov hp hM3 hor
            generalize y % 128 * 2 ^ (7 * k) = M at *
            go_wp2_with (first | (go_at_call 81; refine (fail_some _ _ _ _ hB).mono ?_; rintro e w' ⟨rfl, rfl⟩))
            go_ret
            rw [HN.out]
            exact ⟨rfl, rd_fail hF hB⟩
          · have hnb : rdBad k x = false := (rdBad_not k x).2 ⟨hk9, by rw [← hyx]; exact hM3, fun h => by omega⟩
            have hz : (((y : Int) == 0) = true ∧ ¬ 0 < k) ∨ ((y : Int) == 0) = false := by
              by_cases h : y = 0
              · exact .inl ⟨by simp [h], fun h' => hy0 ⟨h, h'⟩⟩
              · exact .inr (by simp [h])
            clear hy0
            by_cases hy128 : y < 128
            · have hs : rdGo 0 0 l = some (v + y % 128 * 2 ^ (7 * k), k + 1) := Hgo.out.trans (by rw [hdrop, hyx]; exact rdGo_last hnb (by omega))
              by_cases hmost : v + y % 128 * 2 ^ (7 * k) ≤ most
              · have HN := Lib.hid (Rd.N_some hs hmost)
                clear hs hnb hyx hdrop hx hv hov hp hM3
                generalize y % 128 * 2 ^ (7 * k) = M at *
                rcases hz with ⟨hyb, hk0⟩ | hyb
                all_goals
                  go_wp2
                  go_ret
                  rw [HN.out]
                  exact ⟨rfl, rd_cut hF hB hc hm hl hkn⟩
              · have HN := Lib.hid (Rd.N_great hs hmost)
                clear hs hnb hyx hdrop hx hv hov hp hM3
                generalize y % 128 * 2 ^ (7 * k) = M at *
                rcases hz with ⟨hyb, hk0⟩ | hyb
                all_goals
                  go_wp2_with (first | (go_at_call 81; refine (fail_some _ _ _ _ hB).mono ?_; rintro e w' ⟨rfl, rfl⟩))
                  go_ret
                  rw [HN.out]
                  exact ⟨rfl, rd_fail hF hB⟩
            · have Hs := Lib.hid (Hgo.out.trans (show _ = rdGo (k + 1) (v + y % 128 * 2 ^ (7 * k)) (l.drop (k + 1)) by rw [hdrop, hyx]; exact rdGo_on hnb (by omega)))
              clear hnb hyx hdrop hx hv hov hp hM3
              generalize y % 128 * 2 ^ (7 * k) = M at *
              have hyb : ((y : Int) == 0) = false := by simp; omega
              clear hz
              go_wp2
              go_round
              case rel => exact ⟨k + 1, v + M, rfl, rfl, by omega, by omega, Hlt.out, by go_num, by go_num, by go_num, Hs.out⟩
              case measure => simp [intOf]; omega
      · have HN := Lib.hid (Rd.N_none (most := most) (Hgo.out.trans (by rw [hdrop]; exact rdGo_bad ((rdBad_iff k x).2 (.inl (by omega))))))
        clear hyx hdrop hx hv
        go_wp2_with (first | (go_at_call 81; refine (fail_some _ _ _ _ hB).mono ?_; rintro e w' ⟨rfl, rfl⟩))
        go_ret
        rw [HN.out]
        exact ⟨rfl, rd_fail hF hB⟩
    · have HN := Lib.hid (Rd.N_none (most := most) (Hgo.out.trans (by rw [List.drop_eq_nil_of_le (by have := hl.len; omega)]; rfl)))
      clear hv
      go_wp2_with (first | (go_at_call 81; refine (fail_some _ _ _ _ hB).mono ?_; rintro e w' ⟨rfl, rfl⟩))
      go_ret
      rw [HN.out]
      exact ⟨rfl, rd_fail hF hB⟩

theorem RN_any (w : World) (F : Nat → Prop) (b : Nat) (r : Rd) (most : Nat) (h : RdAt w F b r) :
    Calls Try.prog 28 #[.pointer (some ⟨b, 0, none⟩), .int .u64 most] w fun e w' => e = .returned (.int .u64 (r.N most).1) ∧ Fr (· = b) w w' ∧ RdAt w' F b (r.N most).2 := by
  obtain ⟨l, g⟩ := r
  cases g with
  | true => exact RN_good w F b l most h
  | false =>
    have e : Rd.N ⟨l, false⟩ most = (0, Rd.bad) := by simp [Rd.N]
    rw [e]
    exact RN_bad w F b ⟨l, false⟩ most h rfl

set_option maxHeartbeats 400000 in
theorem REnd_any (w : World) (F : Nat → Prop) (b : Nat) (r : Rd) (h : RdAt w F b r) :
    Calls Try.prog 29 #[.pointer (some ⟨b, 0, none⟩)] w fun e w' => e = .returned (.int .i64 (Rd.End r)) ∧ w = w' := by
  obtain ⟨hF, A, n, c, hB, hc, hm, hl⟩ := h
  obtain ⟨l, g⟩ := r
  have h0 := hB.cell_0
  have h1 := hB.cell 1
  simp at h1
  have hlen := hl.len
  dsimp only at hlen
  subst hlen
  clear hc hm hl hB hF
  cases g with
  | false =>
    go_enter Try.func29, Try.ntmps29
    go_wp2_with (first | (go_at_call 80; refine (ok_some _ _ _ h1).mono ?_; rintro e w' ⟨rfl, rfl⟩))
    go_ret
    exact ⟨rfl, rfl⟩
  | true =>
    cases l with
    | nil =>
      go_enter Try.func29, Try.ntmps29
      go_wp2_with (first | (go_at_call 80; refine (ok_some _ _ _ h1).mono ?_; rintro e w' ⟨rfl, rfl⟩))
      go_ret
      exact ⟨rfl, rfl⟩
    | cons x l =>
      go_enter Try.func29, Try.ntmps29
      go_wp2_with (first | (go_at_call 80; refine (ok_some _ _ _ h1).mono ?_; rintro e w' ⟨rfl, rfl⟩))
      go_ret
      exact ⟨rfl, rfl⟩

end Go.Proofs.Ytnkfchondedfcaa
