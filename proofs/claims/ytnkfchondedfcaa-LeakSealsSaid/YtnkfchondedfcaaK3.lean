/-
  Plain laws: envelopes as bytes, and the envelope that bytes are.
-/
import Derived.Test.YtnkfchondedfcaaK2
import Derived.Deep.MidRow
import Derived.OrdersHeld
import Derived.Lib.BytesEntry
namespace Go.Proofs.Ytnkfchondedfcaa
section
open Go.RowKit

theorem rdGo_ten (v : Nat) (l : List UInt8) : rdGo 10 v l = none := by
  cases l with
  | nil => rfl
  | cons c cs => exact rdGo_bad ((rdBad_iff 10 c).2 (.inl (by omega)))
theorem rdGo_nine {v : Nat} {x : UInt8} {cs : List UInt8} (h : 1 < x.toNat) : rdGo 9 v (x :: cs) = none := by
  by_cases h2 : x.toNat < 128
  · exact rdGo_bad ((rdBad_iff 9 x).2 (.inr (.inl (by
      rw [Nat.mod_eq_of_lt h2]
      have : 2 ^ (7 * 9) = 9223372036854775808 := by decide
      omega))))
  · by_cases h3 : rdBad 9 x = true
    · exact rdGo_bad h3
    · rw [rdGo_on (by simpa using h3) h2]; exact rdGo_ten _ _
theorem part_small {y k : Nat} (hk : k ≤ 9) (h : k = 9 → y ≤ 1) : y % 128 * 2 ^ (7 * k) < 18446744073709551616 := by
  by_cases h9 : k = 9
  · subst h9
    have := h rfl
    have e : 2 ^ (7 * 9) = 9223372036854775808 := by decide
    rw [e]; omega
  · have h1 : 2 ^ (7 * k) ≤ 72057594037927936 := Nat.le_trans (Nat.pow_le_pow_right (by omega) (show 7 * k ≤ 56 by omega)) (by decide)
    have h2 : y % 128 * 2 ^ (7 * k) ≤ 127 * 72057594037927936 := Nat.mul_le_mul (by omega) h1
    omega
theorem and_127 (y : Nat) (hy : y < 256) : bits .and .u64 (y : Int) 127 = ((y % 128 : Nat) : Int) := by
  have := u64_and_nat y 127 (by omega) (by omega)
  rw [show ((127 : Nat) : Int) = 127 from rfl] at this
  rw [this, show y &&& 127 = y % 128 from Nat.and_two_pow_sub_one_eq_mod y 7]

set_option maxRecDepth 100000 in
set_option maxHeartbeats 2000000 in
theorem FN_any (w : World) (G : Nat → Prop) (b : Nat) (r : Rd) (most : Nat) (h : RfAt w G b r) :
    Calls Try.prog 35 #[.pointer (some ⟨b, 0, none⟩), .int .u64 most] w fun e w' => e = .returned (.int .u64 (r.N most).1) ∧ Fr (· = b) w w' ∧ RfAt w' G b (r.N most).2 := by
  have hNl : r.N most = match rdGo 0 0 r.l with | some (v, u) => if v ≤ most then (v, ⟨r.l.drop u, true⟩) else (0, Rd.bad) | none => (0, Rd.bad) := by
    unfold Rd.N
    split
    · rfl
    · rename_i hg
      rw [h.2.1 (by simpa using hg), rdGo_nil]
  obtain ⟨q0, q1, A, n, c, hB, hc, hm, hl⟩ := h
  obtain ⟨l, g⟩ := r
  dsimp only at hNl hl hB q1
  have HNone := Lib.hid (fun (h : rdGo 0 0 l = none) => show Rd.N ⟨l, g⟩ most = (0, Rd.bad) by rw [hNl, h])
  have HSome := Lib.hid (fun v u (h : rdGo 0 0 l = some (v, u)) (hm : v ≤ most) => show Rd.N ⟨l, g⟩ most = (v, ⟨l.drop u, true⟩) by rw [hNl, h]; exact if_pos hm)
  have HGreat := Lib.hid (fun v u (h : rdGo 0 0 l = some (v, u)) (hm : ¬ v ≤ most) => show Rd.N ⟨l, g⟩ most = (0, Rd.bad) by rw [hNl, h]; exact if_neg hm)
  clear hNl
  have h0 := hB.cell 0
  have f0 := hB.frozen 0
  simp at h0
  have hlen : n ≤ 9223372036854775807 := by unfold maxLen at hm; omega
  have Hm := Lib.hid hm
  have Hl := Lib.hid hl.len
  clear hm
  have Hg : Hid (rdGo 0 0 l ≠ none → (!g) = false) := fun h => by
    cases g with
    | true => rfl
    | false => rw [q1 rfl] at h; exact absurd rfl h
  clear q1
  generalize hgg : (!g) = gg at hB Hg
  clear hgg
  go_enter Try.func35, Try.ntmps35
  go_wp2
  go_loop [5, 6] (fun acc i => ∃ k v : Nat, k ≤ n ∧ k ≤ 10 ∧ v < 2 ^ (7 * k) ∧ i = .int .i64 k ∧ acc = .int .u64 v ∧ rdGo 0 0 l = rdGo k v (l.drop k)) (fun _ i => n - (intOf i).toNat)
  case atStart => exact ⟨0, 0, by omega, by omega, by omega, rfl, rfl, rfl⟩
  case round =>
    obtain ⟨k, v, hk, hk10, hv, rfl, rfl, hgo⟩ := hrel
    have Hgo := Lib.hid hgo
    clear hgo
    by_cases hkn : k < n
    · obtain ⟨bb, o, y, x, rfl, hFb, hcell, hyx, hy, hx, hdrop⟩ := hl.get hkn
      have hand := and_127 y hy
      by_cases hk9 : k ≤ 9
      · by_cases hbig : k = 9 ∧ 1 < y
        · obtain ⟨hb9, hy1⟩ := hbig
          have HN := Lib.hid (HNone.out (Hgo.out.trans (by rw [hdrop, hb9]; exact rdGo_nine (hyx ▸ hy1))))
          have hb9' : ((k : Int) == 9) = true := by simp; omega
          clear hyx hdrop hx hv hb9
          go_wp2_with (go_at_call 86; refine (rfail_any _ _ _ _ hB).mono ?_; rintro e w' ⟨rfl, rfl⟩)
          go_ret
          rw [HN.out]
          exact ⟨rfl, rf_fail q0 hB⟩
        · have hM3 := part_small (y := y) hk9 (fun h => by omega)
          have hM1 := part_fits (y := y) (k := k) (by omega)
          rw [← IntKind.wrap_u64] at hM1
          have hp := pow_le_63 hk9
          have hor := u64_or_nat v (y % 128 * 2 ^ (7 * k)) (by omega) hM3
          rw [part_or hv] at hor
          have Hlt := Lib.hid (part_lt (y := y) hv)
          have hz9 : (((k : Int) == 9) = true ∧ y ≤ 1) ∨ ((k : Int) == 9) = false := by
            by_cases h : k = 9
            · exact .inl ⟨by simp [h], by omega⟩
            · exact .inr (by simp; omega)
          clear hbig
          by_cases hy0 : y = 0 ∧ 0 < k
          · have HN := Lib.hid (HNone.out (Hgo.out.trans (by rw [hdrop]; exact rdGo_bad ((rdBad_iff k x).2 (.inr (.inr ⟨hyx ▸ hy0.1, hy0.2⟩))))))
            obtain ⟨hy1, hk1⟩ := hy0
            have hyb : ((y : Int) == 0) = true := by simp [hy1]
            clear hyx hdrop hx hv hp hM3
            generalize y % 128 * 2 ^ (7 * k) = M at *
            rcases hz9 with ⟨hz9, hy1'⟩ | hz9
            all_goals
              go_wp2_with (go_at_call 86; refine (rfail_any _ _ _ _ hB).mono ?_; rintro e w' ⟨rfl, rfl⟩)
              go_ret
              rw [HN.out]
              exact ⟨rfl, rf_fail q0 hB⟩
          · have hnb : rdBad k x = false := (rdBad_not k x).2 ⟨hk9, by rw [← hyx]; exact hM3, fun h => by omega⟩
            have hz : (((y : Int) == 0) = true ∧ ¬ 0 < k) ∨ ((y : Int) == 0) = false := by
              by_cases h : y = 0
              · exact .inl ⟨by simp [h], fun h' => hy0 ⟨h, h'⟩⟩
              · exact .inr (by simp [h])
            clear hy0
            by_cases hy128 : y < 128
            · have hs : rdGo 0 0 l = some (v + y % 128 * 2 ^ (7 * k), k + 1) := Hgo.out.trans (by rw [hdrop, hyx]; exact rdGo_last hnb (by omega))
              have hgf := Hg.out (by rw [hs]; simp)
              subst hgf
              by_cases hmost : v + y % 128 * 2 ^ (7 * k) ≤ most
              · have HN := Lib.hid (HSome.out _ _ hs hmost)
                clear hs hnb hyx hdrop hx hv hp hM3
                generalize y % 128 * 2 ^ (7 * k) = M at *
                rcases hz with ⟨hyb, hk0⟩ | hyb
                all_goals rcases hz9 with ⟨hz9, hy1'⟩ | hz9
                all_goals
                  go_wp2
                  go_ret
                  rw [HN.out]
                  exact ⟨rfl, rf_cut q0 hB hc Hm.out hl hkn⟩
              · have HN := Lib.hid (HGreat.out _ _ hs hmost)
                clear hs hnb hyx hdrop hx hv hp hM3
                generalize y % 128 * 2 ^ (7 * k) = M at *
                rcases hz with ⟨hyb, hk0⟩ | hyb
                all_goals rcases hz9 with ⟨hz9, hy1'⟩ | hz9
                all_goals
                  go_wp2_with (go_at_call 86; refine (rfail_any _ _ _ _ hB).mono ?_; rintro e w' ⟨rfl, rfl⟩)
                  go_ret
                  rw [HN.out]
                  exact ⟨rfl, rf_fail q0 hB⟩
            · have Hs := Lib.hid (Hgo.out.trans (show _ = rdGo (k + 1) (v + y % 128 * 2 ^ (7 * k)) (l.drop (k + 1)) by rw [hdrop, hyx]; exact rdGo_on hnb (by omega)))
              clear hnb hyx hdrop hx hv hp hM3
              generalize y % 128 * 2 ^ (7 * k) = M at *
              have hyb : ((y : Int) == 0) = false := by simp; omega
              clear hz
              rcases hz9 with ⟨hz9, hy1'⟩ | hz9
              · omega
              go_wp2
              go_round
              case rel => exact ⟨k + 1, v + M, by omega, by omega, Hlt.out, by go_num, by go_num, Hs.out⟩
              case measure => simp [intOf]; omega
      · have HN := Lib.hid (HNone.out (Hgo.out.trans (by rw [show k = 10 by omega]; exact rdGo_ten _ _)))
        clear hyx hdrop hx hv
        go_wp2_with (go_at_call 86; refine (rfail_any _ _ _ _ hB).mono ?_; rintro e w' ⟨rfl, rfl⟩)
        go_ret
        rw [HN.out]
        exact ⟨rfl, rf_fail q0 hB⟩
    · have HN := Lib.hid (HNone.out (Hgo.out.trans (by rw [List.drop_eq_nil_of_le (by rw [Hl.out]; omega)]; rfl)))
      clear hv
      go_wp2_with (go_at_call 86; refine (rfail_any _ _ _ _ hB).mono ?_; rintro e w' ⟨rfl, rfl⟩)
      go_ret
      rw [HN.out]
      exact ⟨rfl, rf_fail q0 hB⟩

set_option maxRecDepth 100000 in
set_option maxHeartbeats 400000 in
theorem FText_any (w : World) (G : Nat → Prop) (b : Nat) (r : Rd) (k : Int) (h : RfAt w G b r) (hk1 : k ≤ 9223372036854775807) :
    Calls Try.prog 39 #[.pointer (some ⟨b, 0, none⟩), .int .i64 k] w fun e w' => FReadBytes w w' e G b (r.Text k) := by
  by_cases hk : k < 0
  · have e : r.Text k = ([], Rd.bad) := by simp [Rd.Text, hk]
    rw [e]
    clear e
    obtain ⟨q0, q1, A, n, c, hB, hc, hm, hl⟩ := h
    go_enter Try.func39, Try.ntmps39
    go_wp2_with (first | (go_at_call 86; refine (rfail_any _ _ _ _ hB).mono ?_; rintro e w' ⟨rfl, rfl⟩))
    go_ret
    obtain ⟨g1, g2⟩ := rf_fail q0 hB
    exact ⟨none, 0, rfl, g1, g2, Nat.le_refl _, by simp [maxLen], Byt.nil _ _ _⟩
  · have e : r.Text k = (r.N k.toNat).2.Raw (r.N k.toNat).1 := by rw [Rd.Text, if_neg hk]
    rw [e]
    clear e
    obtain ⟨m, rfl⟩ := Int.eq_ofNat_of_zero_le (show 0 ≤ k by omega)
    rw [Int.toNat_natCast]
    have hle := Rd.N_le r m
    have hRN := FN_any w G b r m h
    generalize r.N m = q at hle hRN ⊢
    obtain ⟨v, r1⟩ := q
    dsimp only at hle hRN ⊢
    have HRN := Lib.hid hRN
    clear hRN
    go_enter Try.func39, Try.ntmps39
    go_wp2_with fail
    refine HRN.out.mono ?_
    rintro e w1 ⟨rfl, hf1, hR1⟩
    go_wp2_with fail
    refine (FRaw_any _ _ _ _ v hR1 (by omega) (by omega)).mono ?_
    rintro e w2 ⟨A2, c2, rfl, hf2, hR2, hc2, hm2, hB2⟩
    go_wp2
    go_ret
    exact ⟨A2, c2, rfl, hf1.trans hf2 fun _ _ => id, hR2, hc2, hm2, hB2⟩
end

section
open Go.RowKit

section
variable {P : Program}
theorem results_cell {fn : Func} {t : Tmp} {ty : TypeId} {tmps : Array Value} {w : World} {g : Nat} {cs : List Value} {d : TypeDesc} (h : fn.results = #[.cell t ty]) (ht : tmps.getD t undef = .pointer (some ⟨g, 0, none⟩))
    (hc : ∀ j v, cs[j]? = some v → w.cell? ⟨g, 0 + j, none⟩ = some v) (hu : P.underlying ty = some d) (hd : d.isRow = true) (hi : (P.info? ty).map (·.size) = some cs.length) :
    (results fn tmps).run P w = .ok (.agg cs.toArray) w := by
  have hl := run_loadVar_mid (P := P) w g 0 ty cs d hc hu hd hi
  have ht' : tmps[t]?.getD undef = .pointer (some ⟨g, 0, none⟩) := by simpa using ht
  simp [results, h, ht', hl, asAddr]
end

def zeroId : Id32 := ⟨List.replicate 32 0, rfl⟩
theorem zero_built : Try.prog.built 74 [] = some (idCells zeroId).toArray := by kernel_rfl

theorem setRow_fr {w : World} {g : Nat} {t : TypeId} {cs ds : Array Value} (h : Blk w g t cs) : Fr (· = g) w (w.setRow g ds) ∧ Blk (w.setRow g ds) g t ds :=
  ⟨⟨rfl, rfl, rfl, by simp, fun k _ hk => by simp [World.setRow, Array.getElem?_modify, Ne.symm hk]⟩, setRow_heap w g cs ds t (0, 0) h⟩

theorem Id32_one (x : Id32) : (idCells x).toArray.all (·.oneCell') = true := by
  rw [Array.all_eq_true_iff_forall_mem]
  intro u hu
  exact bv_one x.1 u (by simpa [idCells] using hu)

set_option maxRecDepth 100000 in
set_option maxHeartbeats 1000000 in
theorem FId_any (w : World) (G : Nat → Prop) (b : Nat) (r : Rd) (h : RfAt w G b r) (hG : ∀ k, G k → k < w.heap.size) :
    Calls Try.prog 88 #[.pointer (some ⟨b, 0, none⟩)] w fun e w' => ∃ x : Id32, e = .returned (.agg (idCells x).toArray) ∧ Fr (· = b) w w' ∧ RfAt w' G b (r.Raw 32).2 ∧ ((r.Raw 32).1.length = 32 → x.1 = (r.Raw 32).1) ∧ ((r.Raw 32).1.length ≠ 32 → (r.Raw 32).2.good = false) := by
  have hb := h.lt
  have h32 := Rd.Raw_32 r
  have hz32 : (r.Raw 32).1.length = 0 → (r.Raw 32).2.good = false := fun h => by
    unfold Rd.Raw at h ⊢
    split at h
    · rename_i hh
      have e : ((32 : Int).toNat) = 32 := rfl
      rw [List.length_take, e] at h
      omega
    · rename_i hh
      rw [if_neg hh]
  generalize hq : r.Raw 32 = q at h32 hz32 ⊢
  have Hq := Lib.hid hq
  clear hq
  rcases h32 with h32 | h32
  · obtain ⟨x, hx⟩ : ∃ x : Id32, x.1 = q.1 := ⟨⟨q.1, h32⟩, rfl⟩
    go_enter Try.func88, Try.ntmps88
    go_wp2_with (first
      | (refine wpList_alloc_any rfl 74 rfl 32 id_zero ?_; intro z hz; have Hz := Lib.hid hz; clear hz))
    have hR := h.fr (w' := w.alloc (.cells z 74)) ((Fr.refl NoB w).alloc _) (fun h => h) fun _ _ => id
    have hcall := FRaw_any _ G b r 32 hR (by omega) (by omega)
    rw [Hq.out] at hcall
    refine hcall.mono ?_
    rintro e w1 ⟨A, c, rfl, hf1, hR1, hc1, hm1, hB1⟩
    rw [h32] at hB1 hc1
    rw [h32]
    have hBz := (Blk.new w 74 z).fr hf1 (fun e => by omega)
    obtain ⟨g, o, hA, hGg, hcell⟩ := hB1.2 (by omega)
    subst hA
    have Hx : Hid ((idCells x).length = 32) := idCells_len x
    have Hxs : Hid ((idCells x).toArray.size = 32) := by show _ = _; simp [idCells_len]
    have Hx1 := Lib.hid (Id32_one x)
    have hcg : ∀ (j : Nat) (u : Value), (idCells x)[j]? = some u → w1.cell? ⟨g, o + j, none⟩ = some u := fun j u hu => hcell j u (by rw [← hx]; exact hu)
    have harr := run_arrayAt (P := Try.prog) (w := w1) 74 5 32 (some ⟨g, o, none⟩) 32 c Try.underlying74 (by omega)
    have Hzz : Hid (z.size = (idCells x).toArray.size) := by show _ = _; rw [Hxs.out, Hz.out]
    clear hB1 hcell
    go_wp2_with (first
      | (refine wpList_load_agg rfl 74 (.tmp 11) rfl g o rfl (idCells x) _ hcg Try.underlying74 rfl (by rw [Hx.out]; exact id_size) ?_)
      | (refine wpList_store_row rfl 74 (.tmp 2) (.tmp 12) rfl w.heap.size (idCells x).toArray rfl rfl 74 z hBz (by rw [Hxs.out]; exact id_size) Hzz.out Hx1.out ?_))
    obtain ⟨hfs, hBs⟩ := setRow_fr (ds := (idCells x).toArray) hBz
    refine bodyPost_ret (results_cell rfl rfl (fun j v hv => by rw [Nat.zero_add, hBs.cell]; simpa using hv) Try.underlying74 rfl (by rw [Hx.out]; exact id_size)) rfl ?_
    refine ⟨x, rfl, (((Fr.refl (· = b) w).alloc _).trans hf1 fun _ _ => id).new hfs fun j e => .inr (by omega), hR1.fr hfs (fun e => by omega) fun k hk e => by have := hG k hk; omega, fun _ => hx, fun h => absurd h32 h⟩
  · go_enter Try.func88, Try.ntmps88
    go_wp2_with (first
      | (refine wpList_alloc_any rfl 74 rfl 32 id_zero ?_; intro z hz; have Hz := Lib.hid hz; clear hz))
    have hR := h.fr (w' := w.alloc (.cells z 74)) ((Fr.refl NoB w).alloc _) (fun h => h) fun _ _ => id
    have hcall := FRaw_any _ G b r 32 hR (by omega) (by omega)
    rw [Hq.out] at hcall
    refine hcall.mono ?_
    rintro e w1 ⟨A, c, rfl, hf1, hR1, hc1, hm1, hB1⟩
    rw [h32] at hB1 hc1
    rw [h32]
    have hBz := (Blk.new w 74 z).fr hf1 (fun e => by omega)
    have Hx : Hid ((idCells zeroId).length = 32) := idCells_len zeroId
    have Hxs : Hid ((idCells zeroId).toArray.size = 32) := by show _ = _; simp [idCells_len]
    have Hx1 := Lib.hid (Id32_one zeroId)
    have Hzz : Hid (z.size = (idCells zeroId).toArray.size) := by show _ = _; rw [Hxs.out, Hz.out]
    clear hB1
    go_wp2_with (first
      | (refine wpList_build rfl 74 #[] rfl (by kernel_rfl) ?_; rw [show (Try.prog.built 74 ((#[] : Array (Nat × Operand)).map _).toList).getD #[] = (idCells zeroId).toArray from by kernel_rfl]; generalize hzi : zeroId = x at *)
      | (refine wpList_store_row rfl 74 (.tmp 2) (.tmp 9) rfl w.heap.size (idCells x).toArray rfl rfl 74 z hBz (by rw [Hxs.out]; exact id_size) Hzz.out Hx1.out ?_))
    obtain ⟨hfs, hBs⟩ := setRow_fr (ds := (idCells x).toArray) hBz
    refine bodyPost_ret (results_cell rfl rfl (fun j v hv => by rw [Nat.zero_add, hBs.cell]; simpa using hv) Try.underlying74 rfl (by rw [Hx.out]; exact id_size)) rfl ?_
    refine ⟨x, rfl, (((Fr.refl (· = b) w).alloc _).trans hf1 fun _ _ => id).new hfs fun j e => .inr (by omega), hR1.fr hfs (fun e => by omega) fun k hk e => by have := hG k hk; omega, fun h => absurd h (by omega), fun _ => hz32 h32⟩
end

section
open Go.RowKit

theorem ret_slice {A : Option Addr} {n m c : Nat} (h : n = m) : Ending.returned (.slice A n c) = .returned (.slice A m c) := by rw [h]

/-- New bytes are handed back; nothing that was there has turned. -/
def NewBytes (w w' : World) (e : Ending) (l : List UInt8) : Prop :=
  ∃ A c, e = .returned (.slice A l.length c) ∧ Fr NoB w w' ∧ Own w' 5 1 A l.length c (l.map bv) ∧ ∀ k, inB A k → w.heap.size ≤ k

set_option maxRecDepth 100000 in
set_option maxHeartbeats 1000000 in
theorem refN_any (w : World) (G : Nat → Prop) (A : Option Addr) (m c n : Nat) (l : List UInt8) (hr : Byt w G A m l) (hn : n < 18446744073709551616) (hroom : m + 10 ≤ 70368744177664) :
    Calls Try.prog 83 #[.slice A m c, .int .u64 n] w fun e w' => NewBytes w w' e (l ++ encN n) := by
  have hlm := hr.len
  go_enter Try.func83, Try.ntmps83
  go_wp2_with (at_builtin; refine wpList_app _ el_u8w rfl (.const (.slice none 0 0)) (.tmp 6) rfl none 0 0 [] rfl (Own.nil _ _ _) _ _ _ _ _ rfl hr (bv_one l) (by omega) ?_; intro A1 c1 w1 hown1 hf1 hin1 hnil1)
  obtain ⟨w0, rfl⟩ : ∃ w0 : World, w0 = w1 := ⟨_, rfl⟩
  have hl10 := encN_len64 hn
  have Hlm := Lib.hid hlm
  clear hlm
  go_loopw [1, 5] (fun v s wi => ∃ (cur p cp : Nat) (P : Option Addr) (done : List UInt8), v = .int .u64 cur ∧ cur ≤ n ∧ done ++ encN cur = encN n ∧ s = .slice P p cp ∧ p = (l ++ done).length ∧ Own wi 5 1 P p cp ((l ++ done).map bv) ∧ (∀ k, inB P k → w.heap.size ≤ k) ∧ Fr NoB w wi) (fun v _ _ => (intOf v).toNat)
  case atStart => exact ⟨n, _, _, _, [], rfl, Nat.le_refl _, rfl, rfl, by simp [Hlm.out], by simpa using hown1, fun k hk => (hin1 k hk).elim (fun h => absurd h (inB_none k)) (fun h => by omega), hf1.mono fun k _ hk => inB_none k hk⟩
  case round =>
    obtain ⟨cur, p, cp, P, done, rfl, hcur, hdone, rfl, hp, hO, hP, hF⟩ := hrel
    obtain ⟨w2, rfl⟩ : ∃ w2 : World, w2 = wr := ⟨_, rfl⟩
    have Hdone := Lib.hid hdone
    have Hp := Lib.hid hp
    have hpl : p + (encN cur).length ≤ m + 10 := by
      have := congrArg List.length hdone
      rw [List.length_append] at this
      rw [hp, List.length_append, Hlm.out]
      omega
    have hp1 : p + 1 ≤ 70368744177664 := by have := encN_len_pos cur; omega
    clear hdone hp hpl
    have hor : bits .or .u8 ((cur : Int) % 256) 128 = (cur : Int) % 128 + 128 := by
      have h1 := u8_or_nat (cur % 256) 128 (by omega) (by omega)
      rw [byte_or] at h1
      simpa using h1
    have hs := hF.size
    by_cases h128 : 128 ≤ cur
    · have Hnew : Hid ([Value.int .u8 ((cur : Int) % 128 + 128)] = [UInt8.ofNat (cur % 128 + 128)].map bv) := by
        show _ = _
        simp only [List.map_cons, List.map_nil, bv]
        rw [ofNat_toNat_lt (by omega)]
        simp
      have Henc := Lib.hid (encN_great (n := cur) (by omega))
      go_wp2_with (at_builtin; refine wpList_app _ el_u8w rfl (.tmp 10) (.tmp 14) rfl P p cp _ rfl (hO.alloc _) _ _ 1 1 _ rfl (Arr.one _ _ _) (by simp [Value.oneCell']) (by omega) ?_; intro A3 c3 w3 hown3 hf3 hin3 hnil3; rw [Hnew.out] at hown3)
      go_roundw
      case rel =>
        exact ⟨cur / 128, p + 1, c3, A3, done ++ [UInt8.ofNat (cur % 128 + 128)], by go_num, by omega, by rw [← Hdone.out, Henc.out]; simp, rfl, by rw [Hp.out]; simp; omega, by rw [← List.append_assoc, List.map_append]; exact hown3,
          fun k hk => (hin3 k hk).elim (hP k) (fun h => by simp at h; omega), (hF.alloc _).new hf3 fun k hk => .inr (hP k hk)⟩
      case measure => simp [intOf]; omega
    · have Hnew : Hid ([Value.int .u8 (cur : Int)] = [UInt8.ofNat cur].map bv) := by
        show _ = _
        simp only [List.map_cons, List.map_nil, bv]
        rw [ofNat_toNat_lt (by omega)]
      have Henc := Lib.hid (encN_small (n := cur) (by omega))
      go_wp2_with (at_builtin; refine wpList_app _ el_u8w rfl (.tmp 18) (.tmp 21) rfl P p cp _ rfl (hO.alloc _) _ _ 1 1 _ rfl (Arr.one _ _ _) (by simp [Value.oneCell']) (by omega) ?_; intro A3 c3 w3 hown3 hf3 hin3 hnil3; rw [Hnew.out] at hown3)
      go_ret
      have e : l ++ encN n = l ++ done ++ [UInt8.ofNat cur] := by rw [← Hdone.out, Henc.out, List.append_assoc]
      have e2 : (l ++ encN n).length = p + 1 := by rw [e, List.length_append, ← Hp.out]; rfl
      exact ⟨A3, c3, ret_slice e2.symm, (hF.alloc _).new hf3 fun k hk => .inr (hP k hk), by rw [e2, e, List.map_append]; exact hown3, fun k hk => (hin3 k hk).elim (hP k) (fun h => by simp at h; omega)⟩

set_option maxHeartbeats 400000 in
theorem refText_any (w : World) (G G2 : Nat → Prop) (A B : Option Addr) (m c p d : Nat) (l t : List UInt8) (hr : Byt w G A m l) (ht : Byt w G2 B p t) (hroom : m + p + 10 ≤ 70368744177664) :
    Calls Try.prog 84 #[.slice A m c, .slice B p d] w fun e w' => NewBytes w w' e (l ++ textBytes t) := by
  have hlm := hr.len
  have htl := ht.len
  subst htl
  go_enter Try.func84, Try.ntmps84
  go_wp2_with fail
  refine (refN_any _ _ _ _ _ _ _ hr (by omega) (by omega)).mono ?_
  rintro e w1 ⟨A1, c1, rfl, hf1, hO1, hA1⟩
  have ht1 := ht.fr hf1 fun _ _ => id
  have hl1 : (l ++ encN t.length).length + t.length ≤ 140737488355328 := by have := encN_len64 (n := t.length) (by omega); rw [List.length_append]; omega
  have e : l ++ textBytes t = l ++ encN t.length ++ t := by simp [textBytes]
  have e2 : (l ++ textBytes t).length = (l ++ encN t.length).length + t.length := by rw [e, List.length_append]
  have E := Lib.hid e
  have E2 := Lib.hid e2
  clear e e2 hlm
  generalize l ++ encN t.length = l1 at *
  go_wp2_with (at_builtin; refine wpList_app _ el_u8w rfl (.tmp 9) (.tmp 10) rfl A1 _ c1 _ rfl hO1 _ _ _ _ _ rfl ht1 (bv_one t) (by omega) ?_; intro A3 c3 w3 hown3 hf3 hin3 hnil3)
  go_ret
  have s1 := hf1.size
  exact ⟨A3, c3, ret_slice E2.out.symm, hf1.new hf3 fun k hk => .inr (hA1 k hk), by rw [E2.out, E.out, List.map_append]; exact hown3, fun k hk => (hin3 k hk).elim (hA1 k) (fun h => by omega)⟩

set_option maxRecDepth 100000 in
set_option maxHeartbeats 1000000 in
theorem refIds_any (w : World) (G G2 : Nat → Prop) (A B : Option Addr) (m c p d : Nat) (l : List UInt8) (ids : List Id32) (hr : Byt w G A m l) (hi : ArrOf IdR w G2 32 B p ids) (hroom : m + 32 * p + 10 ≤ 70368744177664) :
    Calls Try.prog 85 #[.slice A m c, .slice B p d] w fun e w' => NewBytes w w' e (l ++ idsBytes ids) := by
  have hlm := hr.len
  have hip := hi.len
  have Hip := Lib.hid hip
  clear hip
  go_enter Try.func85, Try.ntmps85
  go_wp2_with fail
  refine (refN_any _ _ _ _ _ _ _ hr (by omega) (by omega)).mono ?_
  rintro e w1 ⟨A1, c1, rfl, hf1, hO1, hA1⟩
  have hi1 := hi.fr hf1 (fun _ _ => id) (R' := IdR) fun y a _ hy => hy
  have hl1 : (l ++ encN p).length ≤ m + 10 := by have := encN_len64 (n := p) (by omega); rw [List.length_append]; omega
  obtain ⟨l0, hl0⟩ : ∃ l0, l ++ encN p = l0 := ⟨_, rfl⟩
  rw [hl0] at hO1 hl1
  rw [hl0]
  have Hl0 := Lib.hid hl0
  clear hl0 hlm
  go_wp2
  obtain ⟨w0, rfl⟩ : ∃ w0 : World, w0 = w1 := ⟨_, rfl⟩
  go_loopw [5, 15] (fun s i wr => ∃ (k n3 c3 : Nat) (A3 : Option Addr), k ≤ p ∧ i = .int .i64 k ∧ s = .slice A3 n3 c3 ∧ n3 = (l0 ++ idsFlat (ids.take k)).length ∧ n3 ≤ m + 10 + 32 * k ∧ Own wr 5 1 A3 n3 c3 ((l0 ++ idsFlat (ids.take k)).map bv) ∧ (∀ j, inB A3 j → w.heap.size ≤ j) ∧ Fr (fun j => w.heap.size ≤ j) w0 wr) (fun _ i _ => p - (intOf i).toNat)
  case atStart => exact ⟨0, _, _, _, by omega, rfl, rfl, by simp [idsFlat], by omega, by simpa [idsFlat] using hO1, hA1, Fr.refl _ _⟩
  case round =>
    obtain ⟨k, n3, c3, A3, hk, rfl, rfl, hn3, hn3', hO3, hA3, hF0⟩ := hrel
    obtain ⟨w2, rfl⟩ : ∃ w2 : World, w2 = wr := ⟨_, rfl⟩
    have Hn3 := Lib.hid hn3
    clear hn3
    have s1 := hf1.size
    have s0 := hF0.size
    by_cases hkm : k < p
    · have hrw := (((hi.more (by omega) (F' := fun j => j < w.heap.size) (R' := IdR) (fun j hj _ => hj) fun y a _ hy => hy).fr hf1 (fun _ _ => id) (R' := IdR) fun y a _ hy => hy)).fr hF0 (fun j hj h => by omega) (R' := IdR) fun y a _ hy => hy
      obtain ⟨bb, o, t, y, rfl, hGb, ht, hy, hyr, hcell⟩ := hrw.at_ hkm
      have hkl : k < ids.length := by rw [Hip.out]; exact hkm
      have hyt : y = t.1.map bv := hyr
      have Htake : Hid (l0 ++ idsFlat (ids.take (k + 1)) = l0 ++ idsFlat (ids.take k) ++ t.1) := by
        show _ = _
        rw [List.take_succ_eq_append_getElem hkl, idsFlat, List.flatMap_append]
        rw [List.getElem?_eq_getElem hkl] at ht
        injection ht with ht
        rw [ht]; simp [idsFlat]
      generalize l0 ++ idsFlat (ids.take k) = l1 at *
      have hys : y.toArray.size = 32 := by simpa using hy
      have hy1 : y.toArray.all (·.oneCell') = true := by
        rw [Array.all_eq_true_iff_forall_mem]
        intro v hv
        exact bv_one t.1 v (by rw [← hyt]; simpa using hv)
      have hb : Byt (w2.alloc (.cells y.toArray 74)) (fun k => k = w2.heap.size) (some ⟨w2.heap.size, 0, none⟩) 32 t.1 := by
        have := Byt.new w2 74 t.1 y.toArray (by simpa using hyt)
        rwa [t.2] at this
      have Hys := Lib.hid hys
      have Hy1 := Lib.hid hy1
      have Hy := Lib.hid hy
      have Hb := Lib.hid hb
      clear hyt hys hy1 hyr ht hrw hy hb
      go_wp2_with (first
        | (refine wpList_load_agg rfl 74 (.tmp 17) rfl bb (o + k * 32) rfl y _ hcell Try.underlying74 rfl (by rw [Hy.out]; exact id_size) ?_)
        | (refine wpList_alloc_any rfl 74 rfl 32 id_zero ?_; intro z hz; have Hz := Lib.hid hz; clear hz)
        | (refine wpList_store_new rfl 74 (.tmp 7) (.tmp 18) rfl _ z y.toArray rfl rfl (by rw [Hys.out]; exact id_size) (by rw [Hys.out, Hz.out]) Hy1.out ?_)
        | (at_builtin; refine wpList_app _ el_u8w rfl (.tmp 19) (.tmp 20) rfl A3 n3 c3 _ rfl (hO3.alloc _) _ _ 32 32 _ rfl Hb.out (bv_one t.1) (by omega) ?_; intro A4 c4 w4 hown4 hf4 hin4 hnil4))
      have s4 := hf4.size
      go_roundw
      case rel =>
        refine ⟨k + 1, n3 + 32, c4, A4, by omega, by go_num, rfl, ?_, by omega, ?_, fun j hj => (hin4 j hj).elim (hA3 j) (fun h => by simp at h; omega), (hF0.alloc _).new hf4 fun j hj => .inl (hA3 j hj)⟩
        · rw [Htake.out, List.length_append, ← Hn3.out, t.2]
        · rw [Htake.out, List.map_append]; exact hown4
      case measure => simp [intOf]; omega
    · have hke : k = p := by omega
      subst hke
      have ht : ids.take k = ids := List.take_of_length_le (by rw [Hip.out]; exact Nat.le_refl _)
      rw [ht] at hO3
      have hn := Hn3.out
      rw [ht] at hn
      have Hn := Lib.hid hn
      clear hn ht
      go_wp2
      go_ret
      have e : l ++ idsBytes ids = l0 ++ idsFlat ids := by rw [idsBytes, Hip.out, ← List.append_assoc, Hl0.out]
      rw [NewBytes, e, ← Hn.out]
      exact ⟨A3, c3, rfl, hf1.new hF0 fun j hj => .inr hj, hO3, hA3⟩
end

section
open Go.RowKit

/-- A part that is written or read. -/
structure Part where
  kind : Int
  n : Nat
  b : List UInt8
  ids : List Id32
  most : Int

def PartR (w : World) (F : Nat → Prop) (y : List Value) (p : Part) : Prop :=
  ∃ AB nB cB AI nI cI, y = [.int .i64 p.kind, .int .u64 p.n, .slice AB nB cB, .slice AI nI cI, .int .i64 p.most] ∧ nB ≤ cB ∧ cB ≤ maxLen ∧ Byt w F AB nB p.b ∧ nI ≤ cI ∧ cI ≤ maxLen ∧ ArrOf IdR w F 32 AI nI p.ids ∧
    p.n < 18446744073709551616 ∧ -9223372036854775808 ≤ p.most ∧ p.most ≤ 9223372036854775807

theorem PartR.fr {w w' : World} {F S : Nat → Prop} {y : List Value} {p : Part} (h : PartR w F y p) (hf : Fr S w w') (hd : ∀ k, F k → ¬ S k) : PartR w' F y p := by
  obtain ⟨AB, nB, cB, AI, nI, cI, h1, h2, h3, h4, h5, h6, h7, h8⟩ := h
  exact ⟨AB, nB, cB, AI, nI, cI, h1, h2, h3, h4.fr hf hd, h5, h6, h7.fr hf hd fun y a _ hy => hy, h8⟩

def Parts (w : World) (F : Nat → Prop) (A : Option Addr) (n : Nat) (l : List Part) : Prop := ArrOf (PartR w F) w F 5 A n l
theorem Parts.fr {w w' : World} {F S : Nat → Prop} {A : Option Addr} {n : Nat} {l : List Part} (h : Parts w F A n l) (hf : Fr S w w') (hd : ∀ k, F k → ¬ S k) : Parts w' F A n l :=
  ArrOf.fr h hf hd fun _ _ _ hy => hy.fr hf hd

def partSmall (p : Part) : Bool := decide (p.b.length ≤ 200) && decide (p.ids.length ≤ 10)
def fewB (l : List Part) : Bool := l.all partSmall && decide (l.length ≤ 20)

theorem partT_size : (Try.prog.info? 62).map (·.size) = some 5 := by kernel_rfl
theorem partT_zero : ((Try.prog.info? 62).bind (·.zero)).map (·.cells.size) = some 5 := by kernel_rfl

set_option maxRecDepth 100000 in
set_option maxHeartbeats 1000000 in
theorem few_any (w : World) (A : Option Addr) (n c : Nat) (l : List Part) (h : Parts w (fun k => k < w.heap.size) A n l) (hn : n ≤ 9223372036854775807) :
    Calls Try.prog 32 #[.slice A n c] w fun e w' => e = .returned (.bool (fewB l)) ∧ Fr NoB w w' := by
  have hlen := h.len
  have Hlen := Lib.hid hlen
  clear hlen
  go_enter Try.func32, Try.ntmps32
  obtain ⟨w0, rfl⟩ : ∃ w0 : World, w0 = w := ⟨_, rfl⟩
  go_wp2
  go_loopw [7] (fun i wr => ∃ k : Nat, k ≤ n ∧ i = .int .i64 k ∧ (l.take k).all partSmall = true ∧ Fr NoB w0 wr) (fun i _ => n - (intOf i).toNat)
  case atStart => exact ⟨0, by omega, rfl, rfl, Fr.refl _ _⟩
  case round =>
    obtain ⟨k, hk, rfl, hall, hF⟩ := hrel
    obtain ⟨w1, rfl⟩ : ∃ w1 : World, w1 = wr := ⟨_, rfl⟩
    have Hall := Lib.hid hall
    clear hall
    by_cases hkn : k < n
    · obtain ⟨bb, o, p, y, rfl, hGb, hp, hy, hyr, hcell⟩ := (h.fr hF fun _ _ => id).at_ hkn
      obtain ⟨AB, nB, cB, AI, nI, cI, rfl, h2, h3, h4, h5, h6, h7, _⟩ := hyr
      have hkl : k < l.length := by rw [Hlen.out]; exact hkn
      have hpe : l[k] = p := by rw [List.getElem?_eq_getElem hkl] at hp; injection hp
      have Htake : Hid (l.take (k + 1) = l.take k ++ [p]) := by
        show _ = _
        rw [List.take_succ_eq_append_getElem hkl, hpe]
      have hmem : p ∈ l := hpe ▸ List.getElem_mem _
      have hb := h4.len
      have hi := h7.len
      by_cases hs : nB ≤ 200 ∧ nI ≤ 10
      · obtain ⟨hs1, hs2⟩ := hs
        have Hsm : Hid (partSmall p = true) := by show _ = _; simp [partSmall, hb, hi, hs1, hs2]
        unfold maxLen at h3 h6
        clear hb hi hp hpe h4 h7 hy
        go_wp2_with (first
          | (refine wpList_load_agg rfl 62 (.tmp 9) rfl bb (o + k * 5) rfl _ _ hcell Try.underlying62 rfl partT_size ?_)
          | (refine wpList_alloc_any rfl 62 rfl 5 partT_zero ?_; intro z hz; have Hz := Lib.hid hz; clear hz)
          | (refine wpList_store_newN rfl 62 (.tmp 4) (.tmp 10) rfl 5 partT_size _ z Hz.out #[.int .i64 p.kind, .int .u64 p.n, .slice AB nB cB, .slice AI nI cI, .int .i64 p.most] rfl rfl rfl (by simp [Value.oneCell']) ?_))
        go_roundw
        case rel => exact ⟨k + 1, by omega, by go_num, by rw [Htake.out, List.all_append, Hall.out]; simp [Hsm.out], hF.alloc _⟩
        case measure => simp [intOf]; omega
      · have Hsm : Hid (partSmall p = false) := by
          show _ = _
          simp only [partSmall, hb, hi, Bool.and_eq_false_iff, decide_eq_false_iff_not]; omega
        have Hno : Hid (fewB l = false) := by
          show _ = _
          have : l.all partSmall = false := by rw [List.all_eq_false]; exact ⟨p, hmem, by rw [Hsm.out]; simp⟩
          simp [fewB, this]
        unfold maxLen at h3 h6
        clear hb hi hp hpe h4 h7 hy
        by_cases hs1 : nB ≤ 200
        · have hs2 : ¬ nI ≤ 10 := fun h => hs ⟨hs1, h⟩
          clear hs
          go_wp2_with (first
            | (refine wpList_load_agg rfl 62 (.tmp 9) rfl bb (o + k * 5) rfl _ _ hcell Try.underlying62 rfl partT_size ?_)
            | (refine wpList_alloc_any rfl 62 rfl 5 partT_zero ?_; intro z hz; have Hz := Lib.hid hz; clear hz)
            | (refine wpList_store_newN rfl 62 (.tmp 4) (.tmp 10) rfl 5 partT_size _ z Hz.out #[.int .i64 p.kind, .int .u64 p.n, .slice AB nB cB, .slice AI nI cI, .int .i64 p.most] rfl rfl rfl (by simp [Value.oneCell']) ?_))
          go_ret
          exact ⟨ret_bool Hno.out.symm, hF.alloc _⟩
        · clear hs
          go_wp2_with (first
            | (refine wpList_load_agg rfl 62 (.tmp 9) rfl bb (o + k * 5) rfl _ _ hcell Try.underlying62 rfl partT_size ?_)
            | (refine wpList_alloc_any rfl 62 rfl 5 partT_zero ?_; intro z hz; have Hz := Lib.hid hz; clear hz)
            | (refine wpList_store_newN rfl 62 (.tmp 4) (.tmp 10) rfl 5 partT_size _ z Hz.out #[.int .i64 p.kind, .int .u64 p.n, .slice AB nB cB, .slice AI nI cI, .int .i64 p.most] rfl rfl rfl (by simp [Value.oneCell']) ?_))
          go_ret
          exact ⟨ret_bool Hno.out.symm, hF.alloc _⟩
    · have hke : k = n := by omega
      subst hke
      have Hf : Hid (fewB l = decide (k ≤ 20)) := by
        show _ = _
        have := Hall.out
        rw [List.take_of_length_le (by rw [Hlen.out]; exact Nat.le_refl _)] at this
        simp [fewB, this, Hlen.out]
      go_wp2
      go_ret
      refine ⟨?_, hF⟩
      rw [Hf.out]
      exact ret_bool (by simp; omega)
end

section
open Go.RowKit

def partBytes (p : Part) : List UInt8 := if p.kind = 0 then encN p.n else if p.kind = 1 then p.b else if p.kind = 2 then textBytes p.b else idsBytes p.ids
def partsBytes (l : List Part) : List UInt8 := l.flatMap partBytes

theorem idsFlat_len (x : List Id32) : (idsFlat x).length = 32 * x.length := by
  induction x with
  | nil => rfl
  | cons a x ih => simp only [idsFlat, List.flatMap_cons, List.length_append, List.length_cons] at ih ⊢; rw [ih, a.2]; omega
theorem partBytes_len {p : Part} (h : partSmall p = true) (hn : p.n < 18446744073709551616) : (partBytes p).length ≤ 400 := by
  simp only [partSmall, Bool.and_eq_true, decide_eq_true_eq] at h
  have h1 := encN_len64 hn
  have h2 := encN_len64 (n := p.b.length) (by omega)
  have h3 := encN_len64 (n := p.ids.length) (by omega)
  have h4 := idsFlat_len p.ids
  unfold partBytes
  repeat' split
  all_goals (try simp only [textBytes, idsBytes, List.length_append]); omega
theorem few_mem {l : List Part} (h : fewB l = true) {p : Part} (hp : p ∈ l) : partSmall p = true := by
  simp only [fewB, Bool.and_eq_true, List.all_eq_true] at h
  exact h.1 p hp
theorem few_len {l : List Part} (h : fewB l = true) : l.length ≤ 20 := by
  simp only [fewB, Bool.and_eq_true, decide_eq_true_eq] at h
  exact h.2

set_option maxRecDepth 100000 in
set_option maxHeartbeats 2000000 in
theorem wrote_any (w : World) (A : Option Addr) (n c : Nat) (l : List Part) (h : Parts w (fun k => k < w.heap.size) A n l) (hfew : fewB l = true) :
    Calls Try.prog 33 #[.slice A n c] w fun e w' => NewBytes w w' e (partsBytes l) := by
  have hlen := h.len
  have Hlen := Lib.hid hlen
  have hn20 := few_len hfew
  rw [hlen] at hn20
  have Hfew := Lib.hid hfew
  clear hlen hfew
  go_enter Try.func33, Try.ntmps33
  go_wp2
  have hW0 := WrAt.new w
  obtain ⟨w0, hw0⟩ : ∃ w0 : World, w.alloc (.cells #[.slice none 0 0] 50) = w0 := ⟨_, rfl⟩
  have hs0 : w.heap.size + 1 = w0.heap.size := by rw [← hw0]; simp
  have hF00 : Fr NoB w w0 := by rw [← hw0]; exact (Fr.refl _ _).alloc _
  rw [hw0] at hW0 ⊢
  clear hw0
  have Hs0 := Lib.hid hs0
  clear hs0
  go_loopw [10] (fun i wr => ∃ k : Nat, k ≤ n ∧ i = .int .i64 k ∧ WrAt wr (fun j => w.heap.size ≤ j) w.heap.size (partsBytes (l.take k)) ∧ (partsBytes (l.take k)).length ≤ 400 * k ∧ Fr NoB w wr) (fun i _ => n - (intOf i).toNat)
  case atStart => exact ⟨0, by omega, rfl, by simpa [partsBytes] using hW0.more fun j hj => by omega, by simp [partsBytes], hF00⟩
  case round =>
    obtain ⟨k, hk, rfl, hW, hlk, hF⟩ := hrel
    obtain ⟨w1, rfl⟩ : ∃ w1 : World, w1 = wr := ⟨_, rfl⟩
    have s1 := hF.size
    by_cases hkn : k < n
    · obtain ⟨bb, o, p, y, rfl, hGb, hp, hy, hyr, hcell⟩ := (h.fr hF fun _ _ => id).at_ hkn
      obtain ⟨AB, nB, cB, AI, nI, cI, rfl, h2, h3, h4, h5, h6, h7, hpn, _⟩ := hyr
      have hkl : k < l.length := by rw [Hlen.out]; exact hkn
      have hpe : l[k] = p := by rw [List.getElem?_eq_getElem hkl] at hp; injection hp
      have Htake : Hid (partsBytes (l.take (k + 1)) = partsBytes (l.take k) ++ partBytes p) := by
        show _ = _
        rw [List.take_succ_eq_append_getElem hkl, hpe, partsBytes, List.flatMap_append]; simp [partsBytes]
      have hsm := few_mem Hfew.out (hpe ▸ List.getElem_mem hkl)
      have hpl := partBytes_len hsm hpn
      simp only [partSmall, Bool.and_eq_true, decide_eq_true_eq] at hsm
      rw [h4.len, h7.len] at hsm
      obtain ⟨hsm1, hsm2⟩ := hsm
      generalize partsBytes (l.take k) = l1 at *
      have Hone : Hid (#[Value.int .i64 p.kind, .int .u64 p.n, .slice AB nB cB, .slice AI nI cI, .int .i64 p.most].all (·.oneCell') = true) := by show _ = _; simp [Value.oneCell']
      clear hp hpe hy h5
      have hWt := hW.tight
      have hrel : ∀ w3, WrAt w3 (fun j => w.heap.size ≤ j) w.heap.size (l1 ++ partBytes p) → Fr NoB w w3 → WrAt w3 (fun j => w.heap.size ≤ j) w.heap.size (partsBytes (l.take (k + 1))) ∧ (partsBytes (l.take (k + 1))).length ≤ 400 * (k + 1) ∧ Fr NoB w w3 := fun w3 a b => by
        rw [Htake.out]; exact ⟨a, by rw [List.length_append]; omega, b⟩
      have Hrel := Lib.hid hrel
      clear hrel
      by_cases hk0 : p.kind = 0
      · have hpb : Hid (partBytes p = encN p.n) := by show _ = _; simp [partBytes, hk0]
        have hk0' : (p.kind == 0) = true := by simp [hk0]
        clear hk0
        go_wp2_with (first
          | (refine wpList_load_agg rfl 62 (.tmp 12) rfl bb (o + k * 5) rfl _ _ hcell Try.underlying62 rfl partT_size ?_)
          | (refine wpList_alloc_any rfl 62 rfl 5 partT_zero ?_; intro z hz; have Hz := Lib.hid hz; clear hz)
          | (refine wpList_store_newN rfl 62 (.tmp 5) (.tmp 13) rfl 5 partT_size _ z Hz.out #[.int .i64 p.kind, .int .u64 p.n, .slice AB nB cB, .slice AI nI cI, .int .i64 p.most] rfl rfl rfl Hone.out ?_))
        refine (WN_any _ (fun j => w.heap.size ≤ j ∧ j < w1.heap.size) (fun k => k = w1.heap.size + 1) _ l1 _ 1 1 [p.n] (hWt.fr (((Fr.refl NoB _).alloc _).alloc _) (fun _ _ _ h => h)) ?_ (fun k hk => by omega) (by simpa using hpn) (by omega)).mono ?_
        · have := Arr.one (w1.alloc (.cells #[.int .i64 p.kind, .int .u64 p.n, .slice AB nB cB, .slice AI nI cI, .int .i64 p.most] 62)) (u64v p.n) 23
          simpa [u64v] using this
        rintro e w3 ⟨rfl, hf3, hW3⟩
        have s3 := hf3.size
        simp only [World.size_alloc] at s3 hW3
        have hfin := Hrel.out w3 (by rw [hpb.out]; simp only [List.flatMap_cons, List.flatMap_nil, List.append_nil] at hW3; exact hW3.more fun j hj => by grind) (((hF.alloc _).alloc _).new hf3 fun j hj => by grind)
        have Hfin := Lib.hid hfin
        clear hfin
        go_wp2
        go_roundw
        case rel => exact ⟨k + 1, by omega, by go_num, Hfin.out.1, Hfin.out.2.1, Hfin.out.2.2⟩
        case measure => simp [intOf]; omega
      · have hk0' : (p.kind == 0) = false := by simp [hk0]
        by_cases hk1 : p.kind = 1
        · have hpb : Hid (partBytes p = p.b) := by show _ = _; simp [partBytes, hk1]
          have hk1' : (p.kind == 1) = true := by simp [hk1]
          clear hk0 hk1
          go_wp2_with (first
          | (refine wpList_load_agg rfl 62 (.tmp 12) rfl bb (o + k * 5) rfl _ _ hcell Try.underlying62 rfl partT_size ?_)
          | (refine wpList_alloc_any rfl 62 rfl 5 partT_zero ?_; intro z hz; have Hz := Lib.hid hz; clear hz)
          | (refine wpList_store_newN rfl 62 (.tmp 5) (.tmp 13) rfl 5 partT_size _ z Hz.out #[.int .i64 p.kind, .int .u64 p.n, .slice AB nB cB, .slice AI nI cI, .int .i64 p.most] rfl rfl rfl Hone.out ?_))
          refine (WRaw_any _ _ _ _ _ _ _ _ _ (hWt.fr ((Fr.refl NoB _).alloc _) (fun _ _ _ h => h)) (h4.alloc _) (by omega)).mono ?_
          rintro e w3 ⟨rfl, hf3, hW3⟩
          have s3 := hf3.size
          simp only [World.size_alloc] at s3 hW3
          have hfin := Hrel.out w3 (by rw [hpb.out];  exact hW3.more fun j hj => by grind) ((hF.alloc _).new hf3 fun j hj => by grind)
          have Hfin := Lib.hid hfin
          clear hfin
          go_wp2
          go_roundw
          case rel => exact ⟨k + 1, by omega, by go_num, Hfin.out.1, Hfin.out.2.1, Hfin.out.2.2⟩
          case measure => simp [intOf]; omega
        · have hk1' : (p.kind == 1) = false := by simp [hk1]
          by_cases hk2 : p.kind = 2
          · have hpb : Hid (partBytes p = textBytes p.b) := by show _ = _; simp [partBytes, hk2]
            have hk2' : (p.kind == 2) = true := by simp [hk2]
            clear hk0 hk1 hk2
            go_wp2_with (first
          | (refine wpList_load_agg rfl 62 (.tmp 12) rfl bb (o + k * 5) rfl _ _ hcell Try.underlying62 rfl partT_size ?_)
          | (refine wpList_alloc_any rfl 62 rfl 5 partT_zero ?_; intro z hz; have Hz := Lib.hid hz; clear hz)
          | (refine wpList_store_newN rfl 62 (.tmp 5) (.tmp 13) rfl 5 partT_size _ z Hz.out #[.int .i64 p.kind, .int .u64 p.n, .slice AB nB cB, .slice AI nI cI, .int .i64 p.most] rfl rfl rfl Hone.out ?_))
            have hone := ArrOf.one_bytes (G := fun k => k < w.heap.size ∨ k = w1.heap.size + 1) (c := cB) (h4.alloc (.cells #[.int .i64 p.kind, .int .u64 p.n, .slice AB nB cB, .slice AI nI cI, .int .i64 p.most] 62)) h2 h3 22 (fun k _ hk => .inl hk) (by simp)
            simp only [World.size_alloc] at hone
            refine (WText_any _ (fun j => w.heap.size ≤ j ∧ j < w1.heap.size) _ _ _ _ _ _ _ (hWt.fr (((Fr.refl NoB _).alloc _).alloc _) (fun _ _ _ h => h)) hone (fun k hk => by grind) (fun k hk => by simp only [World.size_alloc]; grind) (by rw [show [p.b].flatMap textBytes = textBytes p.b by simp, textBytes, List.length_append, h4.len]; have := encN_len64 (n := nB) (by omega); omega) (by omega)).mono ?_
            rintro e w3 ⟨rfl, hf3, hW3⟩
            have s3 := hf3.size
            simp only [World.size_alloc] at s3 hW3
            have hfin := Hrel.out w3 (by rw [hpb.out]; simp only [List.flatMap_cons, List.flatMap_nil, List.append_nil] at hW3; exact hW3.more fun j hj => by grind) (((hF.alloc _).alloc _).new hf3 fun j hj => by grind)
            have Hfin := Lib.hid hfin
            clear hfin
            go_wp2
            go_roundw
            case rel => exact ⟨k + 1, by omega, by go_num, Hfin.out.1, Hfin.out.2.1, Hfin.out.2.2⟩
            case measure => simp [intOf]; omega
          · have hpb : Hid (partBytes p = idsBytes p.ids) := by show _ = _; simp [partBytes, hk0, hk1, hk2]
            have hk2' : (p.kind == 2) = false := by simp [hk2]
            clear hk0 hk1 hk2
            go_wp2_with (first
          | (refine wpList_load_agg rfl 62 (.tmp 12) rfl bb (o + k * 5) rfl _ _ hcell Try.underlying62 rfl partT_size ?_)
          | (refine wpList_alloc_any rfl 62 rfl 5 partT_zero ?_; intro z hz; have Hz := Lib.hid hz; clear hz)
          | (refine wpList_store_newN rfl 62 (.tmp 5) (.tmp 13) rfl 5 partT_size _ z Hz.out #[.int .i64 p.kind, .int .u64 p.n, .slice AB nB cB, .slice AI nI cI, .int .i64 p.most] rfl rfl rfl Hone.out ?_))
            refine (WIds_any _ (fun j => w.heap.size ≤ j ∧ j < w1.heap.size) (fun k => k < w.heap.size) _ _ _ _ _ _ (hWt.fr ((Fr.refl NoB _).alloc _) (fun _ _ _ h => h)) (h7.fr ((Fr.refl NoB _).alloc _) (fun _ _ => id) fun y a _ hy => hy) (fun k hk => by omega) (fun k hk => by simp; omega) (by omega)).mono ?_
            rintro e w3 ⟨rfl, hf3, hW3⟩
            have s3 := hf3.size
            simp only [World.size_alloc] at s3 hW3
            have hfin := Hrel.out w3 (by rw [hpb.out];  exact hW3.more fun j hj => by grind) ((hF.alloc _).new hf3 fun j hj => by grind)
            have Hfin := Lib.hid hfin
            clear hfin
            go_wp2
            go_roundw
            case rel => exact ⟨k + 1, by omega, by go_num, Hfin.out.1, Hfin.out.2.1, Hfin.out.2.2⟩
            case measure => simp [intOf]; omega
    · have hke : k = n := by omega
      subst hke
      have Hw : WrAt w1 (fun j => w.heap.size ≤ j) w.heap.size (partsBytes l) := by rwa [List.take_of_length_le (by rw [Hlen.out]; exact Nat.le_refl _)] at hW
      have Hlk : (partsBytes l).length ≤ 400 * k := by rwa [List.take_of_length_le (by rw [Hlen.out]; exact Nat.le_refl _)] at hlk
      go_wp2_with fail
      refine (WBytes_any _ _ _ _ Hw (by omega)).mono ?_
      rintro e w3 ⟨A3, c3, rfl, hf3, hO3, hA3⟩
      go_wp2
      go_ret
      exact ⟨A3, c3, rfl, hF.new hf3 fun j hj => hj.elim, hO3, fun j hj => by have := hA3 j hj; omega⟩
end

section
theorem back_raw (b rest : List UInt8) : Rd.Raw ⟨b ++ rest, true⟩ b.length = (b, ⟨rest, true⟩) := by
  unfold Rd.Raw
  rw [if_pos ⟨rfl, by omega, by simp; omega⟩]
  simp
theorem back_text {b rest : List UInt8} (h : b.length ≤ 1000) : Rd.Text ⟨textBytes b ++ rest, true⟩ 1000 = (b, ⟨rest, true⟩) := by
  unfold Rd.Text textBytes
  rw [if_neg (by omega), List.append_assoc, RN_encN (b ++ rest) (by omega) (by simpa using h)]
  exact back_raw b rest
theorem back_idsGo : ∀ (ids : List Id32) (rest : List UInt8), Rd.idsGo ids.length ⟨idsFlat ids ++ rest, true⟩ = (ids, ⟨rest, true⟩)
  | [], rest => rfl
  | x :: ids, rest => by
    have e : idsFlat (x :: ids) ++ rest = x.1 ++ (idsFlat ids ++ rest) := by simp [idsFlat]
    have hr := back_raw x.1 (idsFlat ids ++ rest)
    rw [x.2] at hr
    rw [e, List.length_cons, Rd.idsGo_on (by rw [show ((32 : Int)) = ((32 : Nat) : Int) from rfl, hr]; exact x.2)]
    have hr' : Rd.Raw ⟨x.1 ++ (idsFlat ids ++ rest), true⟩ 32 = (x.1, ⟨idsFlat ids ++ rest, true⟩) := hr
    have ih := back_idsGo ids rest
    simp only [hr', ih]
theorem back_ids {ids : List Id32} {rest : List UInt8} (h : ids.length ≤ 100) : Rd.Ids ⟨idsBytes ids ++ rest, true⟩ 100 = (ids, ⟨rest, true⟩) := by
  unfold Rd.Ids idsBytes
  rw [if_neg (by omega), List.append_assoc, RN_encN (idsFlat ids ++ rest) (by omega) (by simpa using h)]
  dsimp only
  rw [back_idsGo]
  rfl
theorem partsBytes_drop (l : List Part) (k : Nat) : (partsBytes (l.drop k)).length ≤ (partsBytes l).length := by
  have e : partsBytes l = partsBytes (l.take k) ++ partsBytes (l.drop k) := by rw [partsBytes, partsBytes, partsBytes, ← List.flatMap_append, List.take_append_drop]
  rw [e, List.length_append]; omega
theorem partsBytes_bound : ∀ (l : List Part), (∀ p ∈ l, (partBytes p).length ≤ 400) → (partsBytes l).length ≤ 400 * l.length
  | [], _ => by simp [partsBytes]
  | p :: l, h => by
    have h1 := h p (by simp)
    have h2 := partsBytes_bound l fun q hq => h q (by simp [hq])
    simp only [partsBytes, List.flatMap_cons, List.length_append, List.length_cons] at h2 ⊢
    omega
theorem partsBytes_len {l : List Part} (h : fewB l = true) (hn : ∀ p ∈ l, p.n < 18446744073709551616) : (partsBytes l).length ≤ 8000 := by
  have h1 := partsBytes_bound l fun p hp => partBytes_len (few_mem h hp) (hn p hp)
  have h2 := few_len h
  omega
theorem Parts.small {w : World} {F : Nat → Prop} {A : Option Addr} {n : Nat} {l : List Part} (h : Parts w F A n l) {p : Part} (hp : p ∈ l) : p.n < 18446744073709551616 := by
  obtain ⟨k, hk, rfl⟩ := List.mem_iff_getElem.1 hp
  obtain ⟨_, _, a, _, _, _, ha, _, hr, _⟩ := ArrOf.at_ h (k := k) (by have := h.len; omega)
  rw [List.getElem?_eq_getElem hk] at ha
  injection ha with ha
  obtain ⟨_, _, _, _, _, _, _, _, _, _, _, _, _, hn, _⟩ := hr
  rw [ha]; exact hn
theorem Parts.below' {w w' : World} {A : Option Addr} {n : Nat} {l : List Part} (h : Parts w (fun k => k < w.heap.size) A n l) (hf : Fr NoB w w') : Parts w' (fun k => k < w.heap.size) A n l := h.fr hf fun _ _ => id
end

section
open Go.RowKit

theorem BN (w : World) (F : Nat → Prop) (b n : Nat) (rest : List UInt8) (h : RdAt w F b ⟨encN n ++ rest, true⟩) (hn : n < 18446744073709551616) :
    Calls Try.prog 28 #[.pointer (some ⟨b, 0, none⟩), .int .u64 18446744073709551615] w fun e w' => e = .returned (.int .u64 n) ∧ Fr (· = b) w w' ∧ RdAt w' F b ⟨rest, true⟩ := by
  have := RN_any w F b _ 18446744073709551615 h
  rw [RN_encN rest hn (by omega)] at this
  exact this
theorem BRaw (w : World) (F : Nat → Prop) (b n : Nat) (l rest : List UInt8) (h : RdAt w F b ⟨l ++ rest, true⟩) (hn : l.length = n) (hr : (l ++ rest).length ≤ 8000) :
    Calls Try.prog 36 #[.pointer (some ⟨b, 0, none⟩), .int .i64 n] w fun e w' => ∃ A c, e = .returned (.slice A n c) ∧ Fr (· = b) w w' ∧ RdAt w' F b ⟨rest, true⟩ ∧ Byt w' (fun _ => True) A n l := by
  subst hn
  rw [List.length_append] at hr
  have := RRaw_any w F b _ (l.length : Int) h (by omega) (by omega) (by rw [List.length_append]; omega)
  rw [back_raw] at this
  refine this.mono ?_
  rintro e w' ⟨A, c, rfl, h1, h2, h3, _⟩
  exact ⟨A, c, rfl, h1, h2, h3.arr fun _ _ _ => trivial⟩
theorem BText (w : World) (F : Nat → Prop) (b n : Nat) (l rest : List UInt8) (h : RdAt w F b ⟨textBytes l ++ rest, true⟩) (hn : l.length = n) (hl : n ≤ 1000) (hr : (textBytes l ++ rest).length ≤ 8000) :
    Calls Try.prog 38 #[.pointer (some ⟨b, 0, none⟩), .int .i64 1000] w fun e w' => ∃ A c, e = .returned (.slice A n c) ∧ Fr (· = b) w w' ∧ RdAt w' F b ⟨rest, true⟩ ∧ Byt w' (fun _ => True) A n l := by
  subst hn
  have := RText_any w F b _ 1000 h (by omega) (by omega) (Nat.le_trans hr (by omega))
  rw [back_text hl] at this
  refine this.mono ?_
  rintro e w' ⟨A, c, rfl, h1, h2, h3, _⟩
  exact ⟨A, c, rfl, h1, h2, h3.arr fun _ _ _ => trivial⟩
theorem flat_ids (l : List Id32) : l.flatMap idCells = (l.map idCells).flatten := by rw [List.flatMap_def]
theorem BIds (w : World) (F : Nat → Prop) (b n : Nat) (l : List Id32) (rest : List UInt8) (h : RdAt w F b ⟨idsBytes l ++ rest, true⟩) (hn : l.length = n) (hl : n ≤ 100) (hr : (idsBytes l ++ rest).length ≤ 8000) :
    Calls Try.prog 41 #[.pointer (some ⟨b, 0, none⟩), .int .i64 100] w fun e w' => ∃ A c, e = .returned (.slice A n c) ∧ Fr (· = b) w w' ∧ RdAt w' F b ⟨rest, true⟩ ∧ ArrOf IdR w' (fun _ => True) 32 A n l := by
  subst hn
  have := RIds_any w F b _ 100 h (by omega) (Nat.le_trans hr (by omega))
  rw [back_ids hl] at this
  refine this.mono ?_
  rintro e w' ⟨A, c, rfl, h1, h2, h3, _⟩
  refine ⟨A, c, rfl, h1, h2, ?_⟩
  have ha := h3.arr (F := fun _ => True) fun _ _ _ => trivial
  rw [show (l, (⟨rest, true⟩ : Rd)).1.flatMap idCells = (l.map idCells).flatten from flat_ids l] at ha
  exact ArrOf.of_arr ha (by simp only [List.mem_map]; rintro y ⟨x, _, rfl⟩; exact idCells_len x) rfl fun k x hx => ⟨idCells x, by rw [List.getElem?_map, hx]; rfl, rfl⟩
end

section
open Go.RowKit

theorem Rd.Raw_bad (k : Int) : Rd.Raw Rd.bad k = ([], Rd.bad) := by simp [Rd.Raw]
theorem Rd.idsGo_bad : ∀ v, Rd.idsGo v Rd.bad = ([], Rd.bad)
  | 0 => rfl
  | v + 1 => by rw [Rd.idsGo_stop (by rw [Rd.Raw_bad]; simp), Rd.Raw_bad]
theorem Rd.Raw_stop {r : Rd} {k : Int} (h : (r.Raw k).2.good = false) : (r.Raw k).2 = Rd.bad := by
  unfold Rd.Raw at h ⊢
  split at h
  · cases h
  · rename_i hh
    rw [if_neg hh]
theorem Rd.Raw_go {r : Rd} {k : Int} (h : (r.Raw k).2.good = false) : (r.Raw k).1 = [] := by
  unfold Rd.Raw at h ⊢
  split at h
  · cases h
  · rename_i hh
    rw [if_neg hh]

/-- How far the reading of ids has come: what is left of the reader is r', the ids pre lie there. -/
def IdsInv (v : Nat) (r1 : Rd) (k : Nat) (pre : List Id32) (r' : Rd) : Prop :=
  pre.length = k ∧ 32 * k ≤ r1.l.length + 32 ∧ (r'.good = true → Rd.idsGo v r1 = (pre ++ (Rd.idsGo (v - k) r').1, (Rd.idsGo (v - k) r').2) ∧ 32 * k + r'.l.length ≤ r1.l.length) ∧ (r'.good = false → r' = Rd.bad ∧ (Rd.idsGo v r1).2 = Rd.bad)

theorem IdsInv.start (v : Nat) (r1 : Rd) (h : r1.good = false → r1.l = []) : IdsInv v r1 0 [] r1 := by
  refine ⟨rfl, by omega, fun _ => ⟨by simp, by omega⟩, fun hg => ?_⟩
  have : r1 = Rd.bad := by
    obtain ⟨l, g⟩ := r1
    dsimp only at h hg
    rw [h hg, hg]
  rw [this, Rd.idsGo_bad]
  exact ⟨rfl, rfl⟩
theorem IdsInv.next {v k : Nat} {r1 r' : Rd} {pre : List Id32} {x : Id32} (h : IdsInv v r1 k pre r') (hg : r'.good = true) (hk : k < v) (h1 : (r'.Raw 32).1.length = 32 → x.1 = (r'.Raw 32).1) (h2 : (r'.Raw 32).1.length ≠ 32 → (r'.Raw 32).2.good = false) : IdsInv v r1 (k + 1) (pre ++ [x]) (r'.Raw 32).2 := by
  obtain ⟨a1, a2, a3, a4⟩ := h
  obtain ⟨a3, a5⟩ := a3 hg
  obtain ⟨m, hm⟩ : ∃ m, v - k = m + 1 := ⟨v - k - 1, by omega⟩
  have hm2 : v - (k + 1) = m := by omega
  have hl := Rd.Raw_len r' 32
  rw [hm] at a3
  by_cases h32 : (r'.Raw 32).1.length = 32
  · have hx := h1 h32
    rw [Rd.idsGo_on h32] at a3
    have e : (⟨(r'.Raw 32).1, h32⟩ : Id32) = x := Subtype.ext hx.symm
    rw [e] at a3
    refine ⟨by simp [a1], by omega, fun _ => ⟨by rw [hm2, a3]; simp, by omega⟩, fun hb => ?_⟩
    rw [Rd.Raw_go hb] at h32
    cases h32
  · have hb := h2 h32
    refine ⟨by simp [a1], by omega, fun hg' => by rw [hg'] at hb; (cases hb), fun _ => ⟨Rd.Raw_stop hb, ?_⟩⟩
    rw [a3, Rd.idsGo_stop h32]
    exact Rd.Raw_stop hb
/-- The document's reader behind a read that hands back ids. -/
def FReadIds (w w' : World) (e : Ending) (G : Nat → Prop) (b : Nat) (q : List Id32 × Rd) : Prop :=
  ∃ A c, e = .returned (.slice A q.1.length c) ∧ Fr (· = b) w w' ∧ RfAt w' G b q.2 ∧ ArrOf IdR w' (fun k => w.heap.size ≤ k) 32 A q.1.length q.1

theorem ids_of_own {w : World} {F : Nat → Prop} {A : Option Addr} {n c : Nat} {l : List Id32} (h : Own w 74 32 A n c (l.flatMap idCells)) (hn : l.length = n) (hF : ∀ k, k < w.heap.size → inB A k → F k) : ArrOf IdR w F 32 A n l := by
  have ha := h.arr hF
  rw [flat_ids l] at ha
  exact ArrOf.of_arr ha (by simp only [List.mem_map]; rintro y ⟨x, _, rfl⟩; exact idCells_len x) hn fun k x hx => ⟨idCells x, by rw [List.getElem?_map, hx]; rfl, rfl⟩

set_option maxRecDepth 100000 in
set_option maxHeartbeats 2000000 in
theorem FIds_any (w : World) (G : Nat → Prop) (b : Nat) (r : Rd) (k : Int) (h : RfAt w G b r) (hG : ∀ k, G k → k < w.heap.size) (hk1 : k ≤ 9223372036854775807) (hroom : r.l.length ≤ 70368744177664) :
    Calls Try.prog 42 #[.pointer (some ⟨b, 0, none⟩), .int .i64 k] w fun e w' => FReadIds w w' e G b (r.Ids k) := by
  have hbw := h.lt
  by_cases hk : k < 0
  · have e : r.Ids k = ([], Rd.bad) := by simp [Rd.Ids, hk]
    rw [e]
    clear e
    obtain ⟨q0, q1, A, n, c, hB, hc, hm, hl⟩ := h
    go_enter Try.func42, Try.ntmps42
    go_wp2_with (first | (go_at_call 86; refine (rfail_any _ _ _ _ hB).mono ?_; rintro e w' ⟨rfl, rfl⟩))
    go_ret
    obtain ⟨g1, g2⟩ := rf_fail q0 hB
    exact ⟨none, 0, rfl, g1, g2, ArrOf.none_ _ _ _ _ _⟩
  · obtain ⟨m, rfl⟩ := Int.eq_ofNat_of_zero_le (show 0 ≤ k by omega)
    have hid : r.Ids m = if (Rd.idsGo (r.N m).1 (r.N m).2).2.good = true then Rd.idsGo (r.N m).1 (r.N m).2 else ([], (Rd.idsGo (r.N m).1 (r.N m).2).2) := by
      rw [Rd.Ids, if_neg (by omega), Int.toNat_natCast]
    rw [hid]
    clear hid
    have hle := Rd.N_le r m
    have hll := Rd.N_len r m
    have hRN := FN_any w G b r m h
    generalize r.N m = q at hle hll hRN ⊢
    obtain ⟨v, r1⟩ := q
    dsimp only at hle hll hRN ⊢
    obtain ⟨res, hres⟩ : ∃ res, res = if (Rd.idsGo v r1).2.good = true then Rd.idsGo v r1 else ([], (Rd.idsGo v r1).2) := ⟨_, rfl⟩
    rw [← hres]
    have Hres := Lib.hid hres
    have HRN := Lib.hid hRN
    clear hRN hres
    go_enter Try.func42, Try.ntmps42
    go_wp2_with fail
    refine HRN.out.mono ?_
    rintro e w1 ⟨rfl, hf1, hR1⟩
    have s1 := hf1.size
    have hstart := IdsInv.start v r1 hR1.2.1
    clear h
    obtain ⟨w0, rfl⟩ : ∃ w0 : World, w0 = w1 := ⟨_, rfl⟩
    go_wp2
    go_loopw [6, 7] (fun o i wr => ∃ (k : Nat) (pre : List Id32) (r' : Rd) (A : Option Addr) (c : Nat), k ≤ v ∧ i = .int .u64 k ∧ o = .slice A k c ∧ Own wr 74 32 A k c (pre.flatMap idCells) ∧ (∀ j, inB A j → w.heap.size ≤ j) ∧ RfAt wr G b r' ∧ IdsInv v r1 k pre r' ∧ Fr (fun j => j = b) w wr) (fun _ i _ => v - (intOf i).toNat)
    case atStart => exact ⟨0, [], r1, none, 0, by omega, rfl, rfl, Own.nil _ _ _, fun j hj => absurd hj (inB_none j), hR1, hstart, hf1⟩
    case round =>
      obtain ⟨k, pre, r', A, c, hk, rfl, rfl, hO, hA, hR, hI, hF⟩ := hrel
      obtain ⟨w1, rfl⟩ : ∃ w1 : World, w1 = wr := ⟨_, rfl⟩
      have hc1 := hR.cell1
      have s2 := hF.size
      have Hin := Lib.hid hI
      have hlen32 := hI.2.1
      clear hI
      cases hg : r'.good with
      | true =>
        rw [hg] at hc1
        simp at hc1
        by_cases hkv : k < v
        · have Hid' := Lib.hid (FId_any w1 G b r' hR fun k hk => by have := hG k hk; omega)
          go_wp2_with fail
          refine Hid'.out.mono ?_
          rintro e w2 ⟨x, rfl, hf2, hR2, hx1, hx2⟩
          have Hnext := Lib.hid (Hin.out.next hg hkv hx1 hx2)
          have s3 := hf2.size
          have hO2 := hO.fr hf2 fun j hj e => by have := hA j hj; omega
          have Hxt : Hid ((idCells x).toArray.size = 32) := by show _ = _; simp [idCells_len]
          have Hxs : Hid ((idCells x).toArray.size = 1 * 32) := by show _ = _; simp [idCells_len]
          have hone : Hid (∀ u ∈ (idCells x).toArray.toList, u.oneCell' = true) := fun u hu => bv_one x.1 u (by simpa [idCells] using hu)
          clear hx1 hx2
          go_wp2_with (first
            | (refine wpList_build1 rfl el_id (by omega) (.tmp 30) rfl (idCells x).toArray rfl Hxt.out ?_)
            | (at_builtin; refine wpList_app _ el_id rfl (.tmp 28) (.tmp 31) rfl A k c _ rfl (hO2.alloc _) _ _ 1 1 _ rfl (Arr.new _ _ (idCells x).toArray 1 32 Hxs.out) hone.out (by omega) ?_; intro A4 c4 w4 hown4 hf4 hin4 hnil4))
          go_roundw
          case rel =>
            have s4 := hf4.size
            simp only [World.size_alloc] at s4 hin4
            refine ⟨k + 1, pre ++ [x], _, A4, c4, by omega, by go_num, rfl, ?_, ?_, ?_, Hnext.out, ?_⟩
            · have e : (pre ++ [x]).flatMap idCells = pre.flatMap idCells ++ (idCells x).toArray.toList := by simp
              rw [e]; exact hown4
            · exact fun j hj => (hin4 j hj).elim (hA j) fun h => by omega
            · exact (hR2.fr ((Fr.refl NoB w2).alloc _) (fun h => h) fun _ _ => id).fr hf4 (fun h => by have := hA _ h; omega) fun j hj h => by have := hG j hj; have := hA _ h; omega
            · exact ((hF.trans hf2 fun _ _ => id).alloc _).new hf4 fun j hj => .inr (hA j hj)
          case measure => simp [intOf]; omega
        · obtain rfl : k = v := by omega
          obtain ⟨a1, _, a3, _⟩ := Hin.out
          obtain ⟨a3, _⟩ := a3 hg
          simp [Rd.idsGo_zero] at a3
          have Ha3 := Lib.hid a3
          clear a3 Hin hlen32
          go_wp2
          go_ret
          have hr := Hres.out
          rw [Ha3.out, if_pos hg] at hr
          subst hr
          refine ⟨A, c, ret_sl a1.symm rfl, hF, hR, ?_⟩
          have hfin := ids_of_own (F := fun j => w.heap.size ≤ j) hO a1 fun j _ hj => hA j hj
          rw [← a1] at hfin
          exact hfin
      | false =>
        rw [hg] at hc1
        simp at hc1
        obtain ⟨a1, _, _, a4⟩ := Hin.out
        obtain ⟨a5, a6⟩ := a4 hg
        have Ha4 := Lib.hid a6
        clear a4 Hin hlen32 hg a6
        subst a5
        by_cases hkv : k < v
        · go_wp2
          go_ret
          have hr := Hres.out
          rw [Ha4.out, if_neg (by simp)] at hr
          subst hr
          exact ⟨none, 0, rfl, hF, hR, ArrOf.none_ _ _ _ _ _⟩
        · go_wp2
          go_ret
          have hr := Hres.out
          rw [Ha4.out, if_neg (by simp)] at hr
          subst hr
          exact ⟨none, 0, rfl, hF, hR, ArrOf.none_ _ _ _ _ _⟩
end

section
open Go.RowKit

section
variable {P : Program} {ops : Array Oper} {Q : Exit → Act → World → Prop} {K : Act → World → Prop} {o : Oper} {a : Act} {w w' : World} {v : Value} {i : Nat}

/-- An operation that runs. -/
theorem wpOp_run (hi : ops[i]? = some o) (hw : Region.wanted o (yielded ops a.tmps) = true) (hr : (execOp a.eval o).run P w = .ok (.value v) w') (h : K (a.put o.dst v) w') : wpOp P ops Q i K a w := by
  unfold wpOp
  simp only [hi, hw, if_true, Oper.wp, hr, Oper.upon]
  exact .inl h

theorem wpOp_skip (hi : ops[i]? = some o) (hw : Region.wanted o (yielded ops a.tmps) = true) (hr : (execOp a.eval o).run P w = .ok .skip w') (h : K (a.put o.dst undef) w') : wpOp P ops Q i K a w := by
  unfold wpOp
  simp only [hi, hw, if_true, Oper.wp, hr, Oper.upon]
  exact .inl h

theorem exec_alloc_any (ty : TypeId) (ho : o.op = .alloc ty) (n : Nat) (hz : ((P.info? ty).bind (·.zero)).map (·.cells.size) = some n) :
    ∃ z : Array Value, z.size = n ∧ (execOp a.eval o).run P w = .ok (.value (.pointer (some ⟨w.heap.size, 0, none⟩))) (w.alloc (.cells z ty)) := by
  cases hq : (P.info? ty).bind (·.zero) with
  | none => rw [hq] at hz; cases hz
  | some z =>
    have hs : z.cells.size = n := by rw [hq] at hz; injection hz
    refine ⟨z.cells, hs, ?_⟩
    unfold execOp
    simp only [ho, Sem.run_bind, run_alloc_any w ty z hq, Result.andThen_ok, Sem.run_pure]

theorem exec_store_row (ty : TypeId) (x y : Operand) (ho : o.op = .store ty x y) (g : Nat) (cells : Array Value) (hx : a.eval x = .pointer (some ⟨g, 0, none⟩)) (hy : a.eval y = .agg cells)
    (t : TypeId) (old : Array Value) (hg : Blk w g t old) (hi : (P.info? ty).map (·.size) = some cells.size) (hold : old.size = cells.size) (h1 : cells.all (·.oneCell') = true) :
    (execOp a.eval o).run P w = .ok .skip (w.setRow g cells) := by
  have hr := run_storeVar_row (P := P) w g t ty old cells hg hi hold h1
  unfold execOp
  simp only [ho, hx, hy, Instr.storeAt, Instr.sureAddr, Sem.run_bind, Sem.run_pure, Result.andThen_ok, hr]

theorem setRow_fr' {g : Nat} {t : TypeId} {cs ds : Array Value} (h : Blk w g t cs) : Fr (· = g) w (w.setRow g ds) ∧ Blk (w.setRow g ds) g t ds :=
  ⟨⟨rfl, rfl, rfl, by simp, fun k _ hk => by simp [World.setRow, Array.getElem?_modify, Ne.symm hk]⟩, setRow_heap w g cs ds t (0, 0) h⟩

theorem wpOp_alloc (hi : ops[i]? = some o) (hw : Region.wanted o (yielded ops a.tmps) = true) (ty : TypeId) (ho : o.op = .alloc ty) (n : Nat) (hz : ((P.info? ty).bind (·.zero)).map (·.cells.size) = some n)
    (h : ∀ (g : Nat) (z : Array Value) (W : World), w.heap.size ≤ g → z.size = n → Blk W g ty z → Fr NoB w W → K (a.put o.dst (.pointer (some ⟨g, 0, none⟩))) W) : wpOp P ops Q i K a w := by
  obtain ⟨z, h1, h2⟩ := exec_alloc_any (P := P) (a := a) (w := w) ty ho n hz
  exact wpOp_run hi hw h2 (h _ z _ (Nat.le_refl _) h1 (Blk.new _ _ _) ((Fr.refl _ _).alloc _))
theorem wpOp_store_row (hi : ops[i]? = some o) (hw : Region.wanted o (yielded ops a.tmps) = true) (ty : TypeId) (x y : Operand) (ho : o.op = .store ty x y) (g : Nat) (cells : Array Value) (hx : a.eval x = .pointer (some ⟨g, 0, none⟩)) (hy : a.eval y = .agg cells)
    (t : TypeId) (old : Array Value) (hg : Blk w g t old) (hinf : (P.info? ty).map (·.size) = some cells.size) (hold : old.size = cells.size) (h1 : cells.all (·.oneCell') = true)
    (h : ∀ W : World, Fr (· = g) w W → Blk W g t cells → K (a.put o.dst undef) W) : wpOp P ops Q i K a w :=
  wpOp_skip hi hw (exec_store_row ty x y ho g cells hx hy t old hg hinf hold h1) (h _ (setRow_fr' hg).1 (setRow_fr' hg).2)
/-- append onto an owned row. -/
theorem wpOp_app {t e : TypeId} {z : Value} {size bytes : Nat} (E : ElemOk P t e z size bytes) (hi : ops[i]? = some o) (hw : Region.wanted o (yielded ops a.tmps) = true) (s x : Operand)
    (ho : o.op = .call { callee := .builtin .append, args := #[s, x], argTypes := #[t, t] })
    (A : Option Addr) (n c : Nat) (xs : List Value) (hs : a.eval s = .slice A n c) (hown : Own w e size A n c xs)
    (G : Nat → Prop) (B : Option Addr) (m d : Nat) (news : List Value) (hx : a.eval x = .slice B m d) (hr : Arr w G size B m news) (h1 : ∀ u ∈ news, u.oneCell' = true)
    (hbytes : (n + m) * bytes ≤ 140737488355328)
    (h : ∀ A' c' w', Own w' e size A' (n + m) c' (xs ++ news) → Fr (inB A) w w' → (∀ k, inB A' k → inB A k ∨ k = w.heap.size) → K (a.put o.dst (.slice A' (n + m) c')) w') : wpOp P ops Q i K a w := by
  obtain ⟨A', c', w', hrun, h2, h3, h4, _⟩ := run_app w E o.type A n c xs hown G B m d news hr h1 hbytes
  refine wpOp_run (v := .slice A' (n + m) c') (w' := w') hi hw ?_ (h A' c' w' h2 h3 h4)
  simp [execOp, ho, resolve, invoke, builtin, hs, hx, hrun, Result.andThen]
/-- A call of a function of the program. -/
theorem wpOp_call (hi : ops[i]? = some o) (hw : Region.wanted o (yielded ops a.tmps) = true) (f : FuncId) (hE : Enters P f) (xs : Array Operand) (ts : Array TypeId) (ho : o.op = .call { callee := .value (.func f), args := xs, argTypes := ts })
    (args : Array Value) (ha : (xs.toList.map a.eval).toArray = args) {p : Ending → World → Prop} (h : Calls P f args w p) (hp : ∀ e W, p e W → ∃ v, e = .returned v ∧ K (a.put o.dst v) W) : wpOp P ops Q i K a w := by
  have hr : (execOp a.eval o).run P w = .ok (.enter f args) w := by
    have he : (xs.toList.map a.eval).toArray = xs.map a.eval := by apply Array.ext'; simp
    rw [← ha, he]
    simp [execOp, ho, resolve, invoke, Act.eval, Deferred.ofValue, hE _ _]
  unfold wpOp
  simp only [hi, hw, if_true, Oper.wp, hr, Oper.upon]
  refine .inl (h.mono fun e W he => ?_)
  obtain ⟨v, rfl, hk⟩ := hp e W he
  exact hk
end
end

section
open Go.RowKit

theorem bytesOf_nats (l : List UInt8) : Lib.bytesOf (l.map fun c => (c.toNat : Int)) = l := by
  unfold Lib.bytesOf
  rw [List.map_map]
  conv => rhs; rw [← List.map_id l]
  apply List.map_congr_left
  intro c _
  simp
theorem run_bytesOf {P : Program} {w : World} {F : Nat → Prop} {A : Option Addr} {n c : Nat} {l : List UInt8} (h : Byt w F A n l) : (Extern.Bytes.bytesOf (.slice A n c)).run P w = .ok ⟨l.toArray⟩ w := by
  have hl := h.len
  cases A with
  | none =>
    have : l = [] := by
      rcases Nat.eq_zero_or_pos n with h0 | h0
      · exact List.eq_nil_of_length_eq_zero (by omega)
      · obtain ⟨b, o, e, _⟩ := h.2 h0
        cases e
    subst this
    rfl
  | some a =>
    have hr := Lib.run_loadBytesX (P := P) w (l.map fun c => (c.toNat : Int)) a .empty (fun j x hj => by
      rw [List.getElem?_map] at hj
      have hjl : j < l.length := by
        rcases Nat.lt_or_ge j l.length with h' | h'
        · exact h'
        · rw [List.getElem?_eq_none h'] at hj; cases hj
      obtain ⟨b, o, e, _, hc⟩ := h.at_ (k := j) (by omega)
      injection e with e
      subst e
      rw [Addr.add_lit, hc]
      rw [List.getElem?_eq_getElem hjl] at hj
      injection hj with hj
      rw [← hj])
    rw [bytesOf_nats, List.length_map, hl] at hr
    show (Extern.Bytes.loadBytes a n .empty).run P w = _
    rw [hr]
    congr 1
    apply ByteArray.ext
    show (#[] : Array UInt8) ++ l.toArray = l.toArray
    simp
theorem cmp_run {P : Program} {w : World} {F G : Nat → Prop} {A B : Option Addr} {n m c d : Nat} {x y : List UInt8} (hx : Byt w F A n x) (hy : Byt w G B m y) :
    (Extern.BytealgCompare.compare #[.slice A n c, .slice B m d]).run P w = .ok (.int .i64 (Lib.compareBytes x y)) w := by
  change Sem.run P (do pure (goInt (Extern.BytealgCompare.cmp (← Extern.Bytes.bytesOf (.slice A n c)) (← Extern.Bytes.bytesOf (.slice B m d))))) w = _
  simp only [Sem.run_bind, run_bytesOf hx, run_bytesOf hy, Sem.run_pure, Result.andThen]
  rw [Lib.cmp_eq]
  rfl
theorem cmp_less : ∀ (x y : List UInt8), Lib.compareBytes x y < 0 ↔ Op.bytesLess x y = true
  | [], [] => by simp [Lib.compareBytes, Op.bytesLess]
  | [], _ :: _ => by simp [Lib.compareBytes, Op.bytesLess]
  | _ :: _, [] => by simp [Lib.compareBytes, Op.bytesLess]
  | a :: x, b :: y => by
    have ih := cmp_less x y
    unfold Lib.compareBytes Op.bytesLess
    by_cases h1 : a < b
    · simp [h1]
    · by_cases h2 : b < a
      · have hne : a ≠ b := fun e => by subst e; exact h1 h2
        simp [h1, h2, hne]
      · have he : a = b := UInt8.le_antisymm (UInt8.not_lt.1 h2) (UInt8.not_lt.1 h1)
        subst he
        simp [h1, ih]
theorem cmp_geq (x y : List UInt8) : decide (0 ≤ Lib.compareBytes x y) = !Op.bytesLess x y := by
  have h := cmp_less x y
  cases hb : Op.bytesLess x y with
  | true => rw [hb] at h; have := h.2 rfl; simp; omega
  | false => rw [hb] at h; simp; exact Int.not_lt.1 fun hl => by have := h.1 hl; cases this

set_option maxRecDepth 100000 in
set_option maxHeartbeats 400000 in
theorem bytesCompare_any (w : World) (F G : Nat → Prop) (A B : Option Addr) (n m c d : Nat) (x y : List UInt8) (hx : Byt w F A n x) (hy : Byt w G B m y) :
    Calls Try.prog 119 #[.slice A n c, .slice B m d] w fun e w' => e = .returned (.int .i64 (Lib.compareBytes x y)) ∧ w' = w := by
  have hrun := fun c d => cmp_run (P := Try.prog) (c := c) (d := d) hx hy
  go_enter Try.func119, Try.ntmps119
  go_wp2
  rw [run_callFunc_extern Try.func120 (by kernel_rfl) (by kernel_rfl) (by kernel_rfl) (e := Extern.BytealgCompare.compare) (by kernel_rfl), hrun]
  simp only [Result.andThen]
  rw [Oper.upon_value]
  go_wp2
  go_ret
  exact ⟨rfl, rfl⟩

theorem Byt.id (w : World) (x : Id32) : Byt (w.alloc (.cells (idCells x).toArray 74)) (fun k => k = w.heap.size) (some ⟨w.heap.size, 0, none⟩) 32 x.1 := by
  have := Byt.new w 74 x.1 (idCells x).toArray (by simp [idCells])
  rwa [x.2] at this

set_option maxRecDepth 100000 in
set_option maxHeartbeats 1000000 in
theorem Order_any (w : World) (x y : Id32) :
    Calls Try.prog 113 #[.agg (idCells x).toArray, .agg (idCells y).toArray] w fun e w' => e = .returned (.int .i64 (Lib.compareBytes x.1 y.1)) ∧ Fr NoB w w' := by
  have h1 := (Byt.id w x).alloc (.cells (idCells y).toArray 74)
  have h2 := Byt.id (w.alloc (.cells (idCells x).toArray 74)) y
  have hF : Fr NoB w ((w.alloc (.cells (idCells x).toArray 74)).alloc (.cells (idCells y).toArray 74)) := ((Fr.refl _ _).alloc _).alloc _
  rw [World.size_alloc] at h2
  obtain ⟨w2, hw2⟩ : ∃ w2, w2 = (w.alloc (.cells (idCells x).toArray 74)).alloc (.cells (idCells y).toArray 74) := ⟨_, rfl⟩
  rw [← hw2] at h1 h2 hF
  have Hw2 := Lib.hid hw2
  have hcall := bytesCompare_any w2.drew _ _ _ _ _ _ 32 32 _ _ (h1.fr (Fr.drew (Fr.refl NoB _)) fun _ _ => id) (h2.fr (Fr.drew (Fr.refl NoB _)) fun _ _ => id)
  have Hcall := Lib.hid hcall
  clear h1 h2 hcall hw2
  go_enter Try.func113, Try.ntmps113
  go_wp2
  rw [← Hw2.out]
  clear Hw2
  refine wp_region_held (S := fun _ => True) rfl ?_
  refine wpAnyH_take (i := 0) rfl (by decide +kernel) (by decide +kernel) (by decide +kernel) (fun _ _ _ h => h) (Or.inl ⟨by kernel_rfl, fun W _ => by go_simp; with_reducible rfl⟩) trivial ?_
  refine wpAnyH_take (i := 1) rfl (by decide +kernel) (by decide +kernel) (by decide +kernel) (fun _ _ _ h => h) (Or.inl ⟨by kernel_rfl, fun W _ => by go_simp; with_reducible rfl⟩) trivial ?_
  go_simp
  refine wpAnyH_all (rs := [2]) (by decide +kernel) (by simp) ?_
  intro i hi
  simp only [List.mem_cons, List.not_mem_nil, or_false] at hi
  subst hi
  refine wpOp_call rfl rfl 119 (enters_of Try.func119 (by kernel_rfl) rfl) #[.tmp 5, .tmp 6] _ rfl _ rfl Hcall.out ?_
  rintro e w3 ⟨rfl, rfl⟩
  refine ⟨_, rfl, trivial, ?_⟩
  go_simp
  refine wpAnyH_take (i := 3) rfl (by decide +kernel) (by decide +kernel) (by decide +kernel) (fun _ _ _ h => h) (Or.inl ⟨by kernel_rfl, fun W _ => by go_simp; with_reducible rfl⟩) trivial ?_
  go_simp
  refine wpAnyH_done (by decide +kernel) ?_ _
  go_wp2
  go_ret
  exact ⟨rfl, hF.drew⟩

set_option maxRecDepth 100000 in
set_option maxHeartbeats 1000000 in
theorem less_any (w : World) (x y : Id32) :
    Calls Try.prog 114 #[.agg (idCells x).toArray, .agg (idCells y).toArray] w fun e w' => e = .returned (.bool (Op.bytesLess x.1 y.1)) ∧ Fr NoB w w' := by
  have h1 := (Byt.id w x).alloc (.cells (idCells y).toArray 74)
  have h2 := Byt.id (w.alloc (.cells (idCells x).toArray 74)) y
  have hF : Fr NoB w ((w.alloc (.cells (idCells x).toArray 74)).alloc (.cells (idCells y).toArray 74)) := ((Fr.refl _ _).alloc _).alloc _
  rw [World.size_alloc] at h2
  obtain ⟨w2, hw2⟩ : ∃ w2, w2 = (w.alloc (.cells (idCells x).toArray 74)).alloc (.cells (idCells y).toArray 74) := ⟨_, rfl⟩
  rw [← hw2] at h1 h2 hF
  have Hw2 := Lib.hid hw2
  have v1 := (h1.fr (Fr.drew (Fr.refl NoB w2)) fun _ _ => id).str (P := Try.prog) Try.underlying22 Try.underlying5 Try.underlying9 32
  have v2 := (h2.fr (Fr.drew (Fr.refl NoB w2)) fun _ _ => id).str (P := Try.prog) Try.underlying22 Try.underlying5 Try.underlying9 32
  clear h1 h2 hw2
  go_enter Try.func114, Try.ntmps114
  go_wp2
  rw [← Hw2.out]
  clear Hw2
  refine wp_region_held (S := fun W => W = w2.drew) rfl ?_
  refine wpAnyH_take (i := 0) rfl (by decide +kernel) (by decide +kernel) (by decide +kernel) (fun _ _ _ h => h) (Or.inl ⟨by kernel_rfl, fun W _ => by go_simp; with_reducible rfl⟩) rfl ?_
  refine wpAnyH_take (i := 2) rfl (by decide +kernel) (by decide +kernel) (by decide +kernel) (fun _ _ _ h => h) (Or.inl ⟨by kernel_rfl, fun W _ => by go_simp; with_reducible rfl⟩) rfl ?_
  go_simp
  refine wpAnyH_take (i := 1) rfl (by decide +kernel) (by decide +kernel) (by decide +kernel) (fun _ _ _ h => h) (Or.inl ⟨by kernel_rfl, fun W hW => by rw [hW]; go_simp; with_reducible rfl⟩) rfl ?_
  refine wpAnyH_take (i := 3) rfl (by decide +kernel) (by decide +kernel) (by decide +kernel) (fun _ _ _ h => h) (Or.inl ⟨by kernel_rfl, fun W hW => by rw [hW]; go_simp; with_reducible rfl⟩) rfl ?_
  go_simp
  refine wpAnyH_take (i := 4) rfl (by decide +kernel) (by decide +kernel) (by decide +kernel) (fun _ _ _ h => h) (Or.inl ⟨by kernel_rfl, fun W _ => by go_simp; with_reducible rfl⟩) rfl ?_
  go_simp
  refine wpAnyH_take (i := 5) rfl (by decide +kernel) (by decide +kernel) (by decide +kernel) (fun _ _ _ h => h) (Or.inl ⟨by kernel_rfl, fun W _ => by go_simp; with_reducible rfl⟩) rfl ?_
  go_simp
  refine wpAnyH_done (by decide +kernel) ?_ _
  go_wp2
  go_ret
  exact ⟨rfl, hF.drew⟩
end

section
open Go.RowKit

theorem End_zeroE {r : Rd} (h : Rd.End r = 0) : r.good = true ∧ r.l = [] := by
  unfold Rd.End at h
  split at h
  · rename_i h1 h2; exact ⟨h1, h2⟩
  · cases h
theorem N_onceE {r r' : Rd} {m v : Nat} (h : r.N m = (v, r')) (hg : r'.good = true) : r.good = true ∧ r.l = encN v ++ r'.l ∧ v < 18446744073709551616 := by
  unfold Rd.N at h
  split at h
  · rename_i hgood
    refine ⟨hgood, ?_⟩
    split at h
    · rename_i v' u hgo
      split at h
      · obtain ⟨m', hv, _, hu, hl, ht, _, hlt⟩ := rdGo_some r.l 0 0 v' u hgo
        simp at hv hl ht hlt
        subst hv
        injection h with h1 h2
        subst h1 h2
        exact ⟨by rw [← ht]; exact (List.take_append_drop _ _).symm, hlt⟩
      · injection h with h1 h2
        subst h2
        cases hg
    · injection h with h1 h2
      subst h2
      cases hg
  · injection h with h1 h2
    subst h2
    cases hg
theorem Raw_onceE {r r' : Rd} {k : Int} {l : List UInt8} (h : r.Raw k = (l, r')) (hg : r'.good = true) : r.good = true ∧ r.l = l ++ r'.l ∧ l.length = k.toNat := by
  unfold Rd.Raw at h
  split at h
  · rename_i hc
    injection h with h1 h2
    subst h1 h2
    exact ⟨hc.1, (List.take_append_drop _ _).symm, by rw [List.length_take]; omega⟩
  · injection h with h1 h2
    subst h2
    cases hg
theorem Text_onceE {r r' : Rd} {k : Int} {l : List UInt8} (h : r.Text k = (l, r')) (hg : r'.good = true) : r.good = true ∧ r.l = textBytes l ++ r'.l := by
  unfold Rd.Text at h
  split at h
  · injection h with h1 h2
    subst h2
    cases hg
  · obtain ⟨h1, h2, h3⟩ := Raw_onceE h hg
    generalize hq : r.N k.toNat = q at h h1 h2 h3
    obtain ⟨v, q⟩ := q
    dsimp only at h1 h2 h3
    obtain ⟨g1, g2, _⟩ := N_onceE hq h1
    refine ⟨g1, ?_⟩
    rw [g2, h2, textBytes, List.append_assoc, h3, Int.toNat_natCast]
theorem Rd.Raw_lE (r : Rd) (k : Int) : (r.Raw k).2.l.length ≤ r.l.length := by have := Rd.Raw_len r k; omega
theorem Rd.Text_lE (r : Rd) (k : Int) : (r.Text k).2.l.length ≤ r.l.length := by
  unfold Rd.Text
  split
  · simp
  · exact Nat.le_trans (Rd.Raw_lE _ _) (Rd.N_len _ _)
theorem Rd.idsGo_lE : ∀ (v : Nat) (r : Rd), (Rd.idsGo v r).2.l.length ≤ r.l.length
  | 0, r => by simp [Rd.idsGo_zero]
  | v + 1, r => by
    by_cases h : (r.Raw 32).1.length = 32
    · rw [Rd.idsGo_on h]; exact Nat.le_trans (Rd.idsGo_lE v _) (Rd.Raw_lE _ _)
    · rw [Rd.idsGo_stop h]; exact Rd.Raw_lE _ _
theorem Rd.Ids_lE (r : Rd) (k : Int) : (r.Ids k).2.l.length ≤ r.l.length := by
  unfold Rd.Ids
  split
  · simp
  · split
    · exact Nat.le_trans (Rd.idsGo_lE _ _) (Rd.N_len _ _)
    · exact Nat.le_trans (Rd.idsGo_lE _ _) (Rd.N_len _ _)
theorem Rd.Ids_nE (r : Rd) (k : Int) : (r.Ids k).1.length ≤ r.l.length := by
  unfold Rd.Ids
  split
  · simp
  · split
    · have h1 := Rd.idsGo_len (r.N k.toNat).1 (r.N k.toNat).2
      have h2 := Rd.N_len r k.toNat
      omega
    · simp
theorem Rd.Text_leE (r : Rd) (k : Int) (m : Nat) (hk : k ≤ m) : (r.Text k).1.length ≤ m := by
  unfold Rd.Text
  split
  · simp
  · have h := Rd.N_le r k.toNat
    unfold Rd.Raw
    split
    · rw [List.length_take]; omega
    · simp

theorem idsGo_onceE : ∀ (k : Nat) (r : Rd), (Rd.idsGo k r).2.good = true → r.good = true ∧ r.l = idsFlat (Rd.idsGo k r).1 ++ (Rd.idsGo k r).2.l ∧ (Rd.idsGo k r).1.length = k
  | 0, r, h => ⟨h, rfl, rfl⟩
  | k + 1, r, h => by
    by_cases h32 : (r.Raw 32).1.length = 32
    · rw [Rd.idsGo_on h32] at h ⊢
      dsimp only at h ⊢
      obtain ⟨h1, h2, h3⟩ := idsGo_onceE k _ h
      obtain ⟨g1, g2, _⟩ := Raw_onceE (r := r) (k := 32) (l := (r.Raw 32).1) (r' := (r.Raw 32).2) rfl h1
      refine ⟨g1, ?_, by rw [List.length_cons, h3]⟩
      rw [g2, h2]
      simp [idsFlat]
    · exfalso
      rw [Rd.idsGo_stop h32] at h
      dsimp only at h
      obtain ⟨g1, g2, g3⟩ := Raw_onceE (r := r) (k := 32) (l := (r.Raw 32).1) (r' := (r.Raw 32).2) rfl h
      exact h32 (by simpa using g3)
theorem Ids_onceE {r r' : Rd} {k : Int} {l : List Id32} (h : r.Ids k = (l, r')) (hg : r'.good = true) : r.good = true ∧ r.l = idsBytes l ++ r'.l ∧ (l.length : Int) ≤ k := by
  unfold Rd.Ids at h
  split at h
  · injection h with h1 h2
    subst h2
    cases hg
  · rename_i hk
    split at h
    · rename_i hgo
      obtain ⟨h1, h2, h3⟩ := idsGo_onceE _ _ hgo
      have hle := Rd.N_le r k.toNat
      generalize hq : r.N k.toNat = q at h h1 h2 h3 hle
      obtain ⟨v, q⟩ := q
      dsimp only at h h1 h2 h3 hle
      rw [h] at h2 h3
      dsimp only at h2 h3
      obtain ⟨g1, g2, _⟩ := N_onceE hq h1
      refine ⟨g1, ?_, by omega⟩
      rw [g2, h2, idsBytes, List.append_assoc, h3]
    · rename_i hgo
      injection h with h1 h2
      subst h2
      exact absurd hg hgo
theorem Rd.Ids_leE (r : Rd) (k : Int) (m : Nat) (hk : k ≤ m) : (r.Ids k).1.length ≤ m := by
  unfold Rd.Ids
  split
  · simp
  · split
    · rename_i h1 hgo
      obtain ⟨_, _, h3⟩ := idsGo_onceE _ _ hgo
      have hle := Rd.N_le r k.toNat
      omega
    · simp

structure Env where
  kind : Int
  realm : Nat
  epoch : Nat
  links : List Id32
  body : List UInt8
def envCells (e : Env) (A : Option Addr) (n c : Nat) (B : Option Addr) (m d : Nat) : List Value := [.int .i64 e.kind, .int .u32 e.realm, .int .u32 e.epoch, .slice A n c, .slice B m d]
theorem envCells_len (e : Env) (A : Option Addr) (n c : Nat) (B : Option Addr) (m d : Nat) : (envCells e A n c B m d).length = 5 := rfl
def rising : List Id32 → Bool
  | a :: b :: t => Op.bytesLess a.1 b.1 && rising (b :: t)
  | _ => true
theorem rising_snoc : ∀ (l : List Id32) (a b : Id32), rising (l ++ [a, b]) = (rising (l ++ [a]) && Op.bytesLess a.1 b.1)
  | [], a, b => by simp [rising]
  | [x], a, b => by simp [rising]
  | x :: y :: l, a, b => by
    have := rising_snoc (y :: l) a b
    simp only [List.cons_append] at this ⊢
    rw [rising, rising, this, Bool.and_assoc]
theorem rising_take {l : List Id32} {k : Nat} {a b : Id32} (ha : l[k]? = some a) (hb : l[k + 1]? = some b) : rising (l.take (k + 2)) = (rising (l.take (k + 1)) && Op.bytesLess a.1 b.1) := by
  obtain ⟨h1, rfl⟩ := List.getElem?_eq_some_iff.1 ha
  obtain ⟨h2, rfl⟩ := List.getElem?_eq_some_iff.1 hb
  rw [List.take_succ_eq_append_getElem h2, List.take_succ_eq_append_getElem h1, List.append_assoc]
  exact rising_snoc _ _ _
theorem rising_mono : ∀ (l : List Id32) (k : Nat), rising l = true → rising (l.take k) = true
  | [], k, _ => by simp [rising]
  | [x], 0, _ => rfl
  | [x], k + 1, _ => by simp [rising]
  | x :: y :: l, 0, _ => rfl
  | x :: y :: l, 1, _ => rfl
  | x :: y :: l, k + 2, h => by
    rw [rising, Bool.and_eq_true] at h
    have ih := rising_mono (y :: l) (k + 1) h.2
    simp only [List.take_succ_cons] at ih ⊢
    rw [rising, Bool.and_eq_true]
    exact ⟨h.1, ih⟩
def envMay (e : Env) : Bool := decide (1 ≤ e.kind) && (decide (e.kind ≤ 3) && (decide (e.links.length ≤ 1000) && (decide (e.body.length ≤ 70000) && rising e.links)))
def envHead (e : Env) : List UInt8 := encN e.kind.toNat ++ (encN e.realm ++ (encN e.epoch ++ idsBytes e.links))
def envBytes (e : Env) : List UInt8 := envHead e ++ textBytes e.body
def envParse (l : List UInt8) : Env × Rd :=
  let p1 := Rd.N ⟨l, true⟩ 3
  let p2 := p1.2.N 4294967295
  let p3 := p2.2.N 4294967295
  let p4 := p3.2.Ids 1000
  let p5 := p4.2.Text 70000
  (⟨(p1.1 : Nat), p2.1, p3.1, p4.1, p5.1⟩, p5.2)
theorem envParse_eq {l : List UInt8} {v1 v2 v3 : Nat} {l4 : List Id32} {l5 : List UInt8} {r1 r2 r3 r4 r5 : Rd} (h1 : Rd.N ⟨l, true⟩ 3 = (v1, r1)) (h2 : r1.N 4294967295 = (v2, r2)) (h3 : r2.N 4294967295 = (v3, r3)) (h4 : r3.Ids 1000 = (l4, r4)) (h5 : r4.Text 70000 = (l5, r5)) :
    envParse l = (⟨(v1 : Nat), v2, v3, l4, l5⟩, r5) := by
  unfold envParse
  simp only [h1, h2, h3, h4, h5]
def zeroEnv : Env := ⟨0, 0, 0, [], []⟩
def envIs (l : List UInt8) : Bool := decide (Rd.End (envParse l).2 = 0) && envMay (envParse l).1
def envOf (l : List UInt8) : Env := if envIs l = true then (envParse l).1 else zeroEnv
def envBad (l : List UInt8) : Int := if envIs l = true then 0 else 90
/-- Bytes that are read to their end are the only ones of what they tell. -/
theorem env_once {l : List UInt8} (h : Rd.End (envParse l).2 = 0) : envBytes (envParse l).1 = l := by
  generalize e1 : Rd.N ⟨l, true⟩ 3 = q1
  obtain ⟨v1, r1⟩ := q1
  generalize e2 : r1.N 4294967295 = q2
  obtain ⟨v2, r2⟩ := q2
  generalize e3 : r2.N 4294967295 = q3
  obtain ⟨v3, r3⟩ := q3
  generalize e4 : r3.Ids 1000 = q4
  obtain ⟨l4, r4⟩ := q4
  generalize e5 : r4.Text 70000 = q5
  obtain ⟨l5, r5⟩ := q5
  rw [envParse_eq e1 e2 e3 e4 e5] at h ⊢
  dsimp only at h ⊢
  obtain ⟨g5, n5⟩ := End_zeroE h
  obtain ⟨g4, m5⟩ := Text_onceE e5 g5
  obtain ⟨g3, m4, _⟩ := Ids_onceE e4 g4
  obtain ⟨g2, m3, _⟩ := N_onceE e3 g3
  obtain ⟨g1, m2, _⟩ := N_onceE e2 g2
  obtain ⟨g0, m1, _⟩ := N_onceE e1 g1
  rw [n5, List.append_nil] at m5
  dsimp only at m1
  unfold envBytes envHead
  dsimp only
  rw [m1, m2, m3, m4, m5, Int.toNat_natCast]
  simp only [List.append_assoc]
theorem envParse_fits (l : List UInt8) : 0 ≤ (envParse l).1.kind ∧ (envParse l).1.kind ≤ 3 ∧ (envParse l).1.realm ≤ 4294967295 ∧ (envParse l).1.epoch ≤ 4294967295 ∧ (envParse l).1.links.length ≤ 1000 ∧ (envParse l).1.body.length ≤ 70000 := by
  unfold envParse
  dsimp only
  refine ⟨by omega, ?_, Rd.N_le _ _, Rd.N_le _ _, Rd.Ids_leE _ _ 1000 (by omega), Rd.Text_leE _ _ 70000 (by omega)⟩
  have := Rd.N_le ⟨l, true⟩ 3
  omega
end
end Go.Proofs.Ytnkfchondedfcaa
