/-
  The parts of chapter 8's statements, as the document has them: written. Conditions: the parts are few.
-/
import Derived.Test.YtnkfchondedfcaaDa
namespace Go.Proofs.Ytnkfchondedfcaa
open Go.RowKit

set_option maxRecDepth 100000 in
set_option maxHeartbeats 2000000 in
theorem written_any (w : World) (A : Option Addr) (n c : Nat) (l : List Part) (h : Parts w (fun k => k < w.heap.size) A n l) (hfew : fewB l = true) :
    Calls Try.prog 34 #[.slice A n c] w fun e w' => NewBytes w w' e (partsBytes l) := by
  have hlen := h.len
  have Hlen := Lib.hid hlen
  have hn20 := few_len hfew
  rw [hlen] at hn20
  have Hfew := Lib.hid hfew
  clear hlen hfew
  go_enter Try.func34, Try.ntmps34
  obtain ⟨w0, rfl⟩ : ∃ w0 : World, w0 = w := ⟨_, rfl⟩
  go_wp2
  go_loopw [3, 8] (fun s i wr => ∃ (k n3 c3 : Nat) (A3 : Option Addr), k ≤ n ∧ i = .int .i64 k ∧ s = .slice A3 n3 c3 ∧ n3 = (partsBytes (l.take k)).length ∧ n3 ≤ 400 * k ∧ Own wr 5 1 A3 n3 c3 ((partsBytes (l.take k)).map bv) ∧ (∀ j, inB A3 j → w0.heap.size ≤ j) ∧ Fr NoB w0 wr) (fun _ i _ => n - (intOf i).toNat)
  case atStart => exact ⟨0, 0, 0, none, by omega, rfl, rfl, by simp [partsBytes], by omega, by simpa [partsBytes] using Own.nil _ _ _, fun j hj => absurd hj (inB_none j), Fr.refl _ _⟩
  case round =>
    obtain ⟨k, n3, c3, A3, hk, rfl, rfl, hn3, hn3', hO3, hA3, hF⟩ := hrel
    obtain ⟨w1, rfl⟩ : ∃ w1 : World, w1 = wr := ⟨_, rfl⟩
    have s1 := hF.size
    have Hn3 := Lib.hid hn3
    clear hn3
    by_cases hkn : k < n
    · obtain ⟨bb, o, p, y, rfl, hGb, hp, hy, hyr, hcell⟩ := (h.fr hF fun _ _ => id).at_ hkn
      obtain ⟨AB, nB, cB, AI, nI, cI, rfl, h2, h3, h4, h5, h6, h7, hpn, _⟩ := hyr
      have hkl : k < l.length := by rw [Hlen.out]; exact hkn
      have hpe : l[k] = p := by rw [List.getElem?_eq_getElem hkl] at hp; injection hp
      have Htake : Hid (partsBytes (l.take (k + 1)) = partsBytes (l.take k) ++ partBytes p) := by
        show _ = _
        rw [List.take_succ_eq_append_getElem hkl, hpe, partsBytes, List.flatMap_append]; simp [partsBytes]
      have hsm := few_mem Hfew.out (hpe ▸ List.getElem_mem hkl)
      have hpl := partBytes_len hsm hpn
      simp only [partSmall, Bool.and_eq_true, decide_eq_true_eq] at hsm
      rw [h4.len, h7.len] at hsm
      obtain ⟨hsm1, hsm2⟩ := hsm
      generalize partsBytes (l.take k) = l1 at *
      have Hone : Hid (#[Value.int .i64 p.kind, .int .u64 p.n, .slice AB nB cB, .slice AI nI cI, .int .i64 p.most].all (·.oneCell') = true) := by show _ = _; simp [Value.oneCell']
      clear hp hpe hy h5
      have hbase : Byt w1 (fun _ => True) A3 n3 l1 := hO3.arr fun _ _ _ => trivial
      have hrel : ∀ w3 A4 c4, Own w3 5 1 A4 (l1 ++ partBytes p).length c4 ((l1 ++ partBytes p).map bv) → (∀ j, inB A4 j → w0.heap.size ≤ j) → Fr NoB w0 w3 →
          (l1 ++ partBytes p).length = (partsBytes (l.take (k + 1))).length ∧ (l1 ++ partBytes p).length ≤ 400 * (k + 1) ∧ Own w3 5 1 A4 (l1 ++ partBytes p).length c4 ((partsBytes (l.take (k + 1))).map bv) ∧ (∀ j, inB A4 j → w0.heap.size ≤ j) ∧ Fr NoB w0 w3 := fun w3 A4 c4 a b d => by
        rw [Htake.out]; exact ⟨rfl, by rw [List.length_append, ← Hn3.out]; omega, a, b, d⟩
      have Hrel := Lib.hid hrel
      clear hrel
      by_cases hk0 : p.kind = 0
      · have hpb : Hid (partBytes p = encN p.n) := by show _ = _; simp [partBytes, hk0]
        have hk0' : (p.kind == 0) = true := by simp [hk0]
        clear hk0
        go_wp2_with (first
          | (refine wpList_load_agg rfl 62 (.tmp 10) rfl bb (o + k * 5) rfl _ _ hcell Try.underlying62 rfl partT_size ?_)
          | (refine wpList_alloc_any rfl 62 rfl 5 partT_zero ?_; intro z hz; have Hz := Lib.hid hz; clear hz)
          | (refine wpList_store_newN rfl 62 (.tmp 5) (.tmp 11) rfl 5 partT_size _ z Hz.out #[.int .i64 p.kind, .int .u64 p.n, .slice AB nB cB, .slice AI nI cI, .int .i64 p.most] rfl rfl rfl Hone.out ?_))
        refine (refN_any _ _ _ _ _ _ _ (hbase.alloc _) hpn (by omega)).mono ?_
        rintro e w3 ⟨A4, c4, rfl, hf3, hO4, hA4⟩
        have s3 := hf3.size
        simp only [World.size_alloc] at s3 hA4
        have hfin := Hrel.out w3 A4 c4 (by rw [hpb.out]; exact hO4) (fun j hj => by have := hA4 j hj; omega) ((hF.alloc _).new hf3 fun j hj => hj.elim)
        rw [hpb.out, List.length_append] at hfin
        have Hfin := Lib.hid hfin
        clear hfin
        go_wp2
        go_roundw
        case rel => exact ⟨k + 1, _, c4, A4, by omega, by go_num, rfl, Hfin.out⟩
        case measure => simp [intOf]; omega
      · have hk0' : (p.kind == 0) = false := by simp [hk0]
        by_cases hk1 : p.kind = 1
        · have hpb : Hid (partBytes p = p.b) := by show _ = _; simp [partBytes, hk1]
          have hk1' : (p.kind == 1) = true := by simp [hk1]
          clear hk0 hk1
          go_wp2_with (first
          | (refine wpList_load_agg rfl 62 (.tmp 10) rfl bb (o + k * 5) rfl _ _ hcell Try.underlying62 rfl partT_size ?_)
          | (refine wpList_alloc_any rfl 62 rfl 5 partT_zero ?_; intro z hz; have Hz := Lib.hid hz; clear hz)
          | (refine wpList_store_newN rfl 62 (.tmp 5) (.tmp 11) rfl 5 partT_size _ z Hz.out #[.int .i64 p.kind, .int .u64 p.n, .slice AB nB cB, .slice AI nI cI, .int .i64 p.most] rfl rfl rfl Hone.out ?_)
          | (at_builtin; refine wpList_app _ el_u8w rfl (.tmp 26) (.tmp 28) rfl A3 n3 c3 _ rfl (hO3.alloc _) _ _ _ _ _ rfl (h4.alloc _) (bv_one p.b) (by omega) ?_; intro A4 c4 w4 hown4 hf4 hin4 hnil4))
          have s4 := hf4.size
          have e4 : n3 + nB = (l1 ++ partBytes p).length := by rw [hpb.out, List.length_append, h4.len, ← Hn3.out]
          have hfin := Hrel.out w4 A4 c4 (by rw [← e4, hpb.out, List.map_append]; exact hown4) (fun j hj => (hin4 j hj).elim (hA3 j) (fun h => by simp at h; omega)) ((hF.alloc _).new hf4 fun j hj => .inr (hA3 j hj))
          rw [← e4] at hfin
          have Hfin := Lib.hid hfin
          clear hfin e4
          go_roundw
          case rel => exact ⟨k + 1, _, c4, A4, by omega, by go_num, rfl, Hfin.out⟩
          case measure => simp [intOf]; omega
        · have hk1' : (p.kind == 1) = false := by simp [hk1]
          by_cases hk2 : p.kind = 2
          · have hpb : Hid (partBytes p = textBytes p.b) := by show _ = _; simp [partBytes, hk2]
            have hk2' : (p.kind == 2) = true := by simp [hk2]
            clear hk0 hk1 hk2
            go_wp2_with (first
          | (refine wpList_load_agg rfl 62 (.tmp 10) rfl bb (o + k * 5) rfl _ _ hcell Try.underlying62 rfl partT_size ?_)
          | (refine wpList_alloc_any rfl 62 rfl 5 partT_zero ?_; intro z hz; have Hz := Lib.hid hz; clear hz)
          | (refine wpList_store_newN rfl 62 (.tmp 5) (.tmp 11) rfl 5 partT_size _ z Hz.out #[.int .i64 p.kind, .int .u64 p.n, .slice AB nB cB, .slice AI nI cI, .int .i64 p.most] rfl rfl rfl Hone.out ?_))
            refine (refText_any _ _ _ _ _ _ _ _ _ _ _ (hbase.alloc _) (h4.alloc _) (by omega)).mono ?_
            rintro e w3 ⟨A4, c4, rfl, hf3, hO4, hA4⟩
            have s3 := hf3.size
            simp only [World.size_alloc] at s3 hA4
            have hfin := Hrel.out w3 A4 c4 (by rw [hpb.out]; exact hO4) (fun j hj => by have := hA4 j hj; omega) ((hF.alloc _).new hf3 fun j hj => hj.elim)
            rw [hpb.out, List.length_append] at hfin
            have Hfin := Lib.hid hfin
            clear hfin
            go_wp2
            go_roundw
            case rel => exact ⟨k + 1, _, c4, A4, by omega, by go_num, rfl, Hfin.out⟩
            case measure => simp [intOf]; omega
          · have hpb : Hid (partBytes p = idsBytes p.ids) := by show _ = _; simp [partBytes, hk0, hk1, hk2]
            have hk2' : (p.kind == 2) = false := by simp [hk2]
            clear hk0 hk1 hk2
            go_wp2_with (first
          | (refine wpList_load_agg rfl 62 (.tmp 10) rfl bb (o + k * 5) rfl _ _ hcell Try.underlying62 rfl partT_size ?_)
          | (refine wpList_alloc_any rfl 62 rfl 5 partT_zero ?_; intro z hz; have Hz := Lib.hid hz; clear hz)
          | (refine wpList_store_newN rfl 62 (.tmp 5) (.tmp 11) rfl 5 partT_size _ z Hz.out #[.int .i64 p.kind, .int .u64 p.n, .slice AB nB cB, .slice AI nI cI, .int .i64 p.most] rfl rfl rfl Hone.out ?_))
            refine (refIds_any _ _ _ _ _ _ _ _ _ _ _ (hbase.alloc _) (h7.fr ((Fr.refl NoB _).alloc _) (fun _ _ => id) fun y a _ hy => hy) (by omega)).mono ?_
            rintro e w3 ⟨A4, c4, rfl, hf3, hO4, hA4⟩
            have s3 := hf3.size
            simp only [World.size_alloc] at s3 hA4
            have hfin := Hrel.out w3 A4 c4 (by rw [hpb.out]; exact hO4) (fun j hj => by have := hA4 j hj; omega) ((hF.alloc _).new hf3 fun j hj => hj.elim)
            rw [hpb.out, List.length_append] at hfin
            have Hfin := Lib.hid hfin
            clear hfin
            go_wp2
            go_roundw
            case rel => exact ⟨k + 1, _, c4, A4, by omega, by go_num, rfl, Hfin.out⟩
            case measure => simp [intOf]; omega
    · have hke : k = n := by omega
      subst hke
      have ht : l.take k = l := List.take_of_length_le (by rw [Hlen.out]; exact Nat.le_refl _)
      rw [ht] at hO3
      have hn := Hn3.out
      rw [ht] at hn
      have Hn := Lib.hid hn
      clear hn ht
      go_wp2
      go_ret
      rw [NewBytes, ← Hn.out]
      exact ⟨A3, c3, rfl, hF, hO3, hA3⟩

end Go.Proofs.Ytnkfchondedfcaa
