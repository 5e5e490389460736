/-
  A reply as bytes, as the document has it (tabulariumref15.PutReply). Conditions: each contract states its own.
-/
import Derived.Test.YtnkfchondedfcaaPc
import Derived.Test.YtnkfchondedfcaaMc
namespace Go.Proofs.Ytnkfchondedfcaa
open Go.RowKit

theorem repAns_false {r : Rep} (h : ¬ (0 ≤ r.err ∧ r.err ≤ 1000 ∧ r.body.length ≤ 110000 ∧ r.names.length ≤ 1000 ∧ ∀ s ∈ r.names, s.size ≤ 64)) : repAns r = false := by
  cases hq : repAns r with
  | false => rfl
  | true => exact absurd (ans_of hq) h

set_option maxRecDepth 100000 in
set_option maxHeartbeats 4000000 in
theorem refPutReply_any (w : World) (F : Nat → Prop) (y : List Value) (r : Rep) (hy : RepR w F y r) (hF : ∀ k, F k → k < w.heap.size) :
    Calls Try.prog 58 #[.agg y.toArray] w fun e w' => NewBytes2 .i64 w w' e (repOut r) (repErr r) := by
  obtain ⟨A, n, c, B, m, d, rfl, hnc, hcm, hb, hmd, hdm, hn, hwf⟩ := hy
  have Hbl := Lib.hid hb.len
  have Hml := Lib.hid (Strs.len hn)
  have hB : RepBlk (w.alloc (.cells (repCells r A n c B m d).toArray 90)) w.heap.size r A n c B m d := ⟨Blk.new _ _ _⟩
  have hF0 : Fr NoB w (w.alloc (.cells (repCells r A n c B m d).toArray 90)) := (Fr.refl _ _).alloc _
  have q2 := hB.c2
  have q36 := hB.c36
  have q37 := hB.c37
  by_cases h1 : 0 ≤ r.err
  · have b1 : decide (r.err < 0) = false := by simp only [decide_eq_false_iff_not]; omega
    by_cases h2 : r.err ≤ 1000
    · have b2 : decide (1000 < r.err) = false := by simp only [decide_eq_false_iff_not]; omega
      by_cases h3 : n ≤ 110000
      · have b3 : decide (110000 < (n : Int)) = false := by simp only [decide_eq_false_iff_not]; omega
        by_cases h4 : m ≤ 1000
        · have b4 : decide (1000 < (m : Int)) = false := by simp only [decide_eq_false_iff_not]; omega
          obtain ⟨wf0, wf1, -, -, wf7, wf8⟩ := hwf
          have Wf8 := Lib.hid wf8
          have hkk : ((r.err.toNat : Nat) : Int) = r.err := Int.toNat_of_nonneg (by omega)
          have Hkk := Lib.hid hkk
          clear hkk wf8
          have hk64 : r.err.toNat < 18446744073709551616 := by omega
          have hw1 : IntKind.u64.wrap r.err = r.err := by rw [IntKind.wrap_u64]; omega
          have hw2 : IntKind.u64.wrap (r.client : Int) = (r.client : Int) := by rw [IntKind.wrap_u64]; omega
          generalize hyc : repCells r A n c B m d = yc at *
          have Hyc := Lib.hid hyc
          clear hyc
          go_enter Try.func58, Try.ntmps58
          go_wp2_with fail
          obtain ⟨w1, ew1⟩ : ∃ w1, w1 = w.alloc (.cells yc.toArray 90) := ⟨_, rfl⟩
          rw [← ew1] at hB hF0 ⊢
          clear ew1 q2 q36 q37
          have p0 := hB.c0
          have p1 := hB.c1
          have p2 := hB.c2
          refine wp_region_held (S := fun W => Fr NoB w1 W) rfl ?_
          have hS : Fr NoB w1 { w1 with drawn := w1.drawn + 1 } := Fr.drew (Fr.refl _ _)
          refine wpAnyH_take (i := 1) rfl (by decide +kernel) (by decide +kernel) (by decide +kernel) (fun _ _ _ h => h) (Or.inl ⟨rfl, fun W hW => by go_simp; with_reducible rfl⟩) hS ?_
          refine wpAnyH_take (i := 2) rfl (by decide +kernel) (by decide +kernel) (by decide +kernel) (fun _ _ _ h => h) (Or.inl ⟨rfl, fun W hW => by have q := Fr.cell' hW p0 id; go_simp; with_reducible rfl⟩) hS ?_
          refine wpAnyH_take (i := 3) rfl (by decide +kernel) (by decide +kernel) (by decide +kernel) (fun _ _ _ h => h) (Or.inl ⟨rfl, fun W hW => by go_simp; with_reducible rfl⟩) hS ?_
          refine wpAnyH_take (i := 5) rfl (by decide +kernel) (by decide +kernel) (by decide +kernel) (fun _ _ _ h => h) (Or.inl ⟨rfl, fun W hW => by go_simp; with_reducible rfl⟩) hS ?_
          refine wpAnyH_take (i := 6) rfl (by decide +kernel) (by decide +kernel) (by decide +kernel) (fun _ _ _ h => h) (Or.inl ⟨rfl, fun W hW => by have q := Fr.cell' hW p1 id; go_simp; with_reducible rfl⟩) hS ?_
          refine wpAnyH_take (i := 8) rfl (by decide +kernel) (by decide +kernel) (by decide +kernel) (fun _ _ _ h => h) (Or.inl ⟨rfl, fun W hW => by go_simp; with_reducible rfl⟩) hS ?_
          refine wpAnyH_take (i := 9) rfl (by decide +kernel) (by decide +kernel) (by decide +kernel) (fun _ _ _ h => h) (Or.inl ⟨rfl, fun W hW => by have q := Fr.cell' hW p2 id; go_simp; with_reducible rfl⟩) hS ?_
          refine wpAnyH_take (i := 10) rfl (by decide +kernel) (by decide +kernel) (by decide +kernel) (fun _ _ _ h => h) (Or.inl ⟨rfl, fun W hW => by go_simp; with_reducible rfl⟩) hS ?_
          go_simp
          refine wpAnyH_all (rs := [0]) (by decide +kernel) (by simp) ?_
          intro i hi
          simp only [List.mem_cons, List.not_mem_nil, or_false] at hi
          subst hi
          refine wpOp_run (v := .slice (some ⟨w1.heap.size, 0, none⟩) 1 1) (w' := w1.drew.alloc (.cells #[.int .u8 2] 5)) rfl rfl (by go_simp) ?_
          have hS1 : Fr NoB w1 (w1.drew.alloc (.cells #[.int .u8 2] 5)) := (Fr.drew (Fr.refl _ _)).alloc _
          refine ⟨hS1, ?_⟩
          go_simp
          refine wpAnyH_all (rs := [4]) (by decide +kernel) (by simp) ?_
          intro i hi
          simp only [List.mem_cons, List.not_mem_nil, or_false] at hi
          subst hi
          have hb1 : Byt (w1.drew.alloc (.cells #[.int .u8 2] 5)) (fun _ => True) (some ⟨w1.heap.size, 0, none⟩) 1 [2] := by
            have := Byt.new w1.drew 5 [2] #[.int .u8 2] (by simp [bv])
            simpa using this.more (F' := fun _ => True) fun _ _ _ => trivial
          refine wpOp_call rfl rfl 83 (enters_of Try.func83 (by kernel_rfl) rfl) #[.tmp 27, .tmp 30] #[22, 23] rfl _ rfl (refN_any _ (fun _ => True) _ 1 1 r.client [2] hb1 (by omega) (by omega)) ?_
          rintro e w3 ⟨A3, c3, rfl, hf3, hO3, hin3⟩
          have hS3 := hS1.trans hf3 fun _ _ => id
          refine ⟨_, rfl, hS3, ?_⟩
          obtain ⟨l3, el3⟩ : ∃ l3, l3 = [2] ++ encN r.client := ⟨_, rfl⟩
          have hl3 : l3.length ≤ 11 := by have := encN_len64 (n := r.client) (by omega); rw [el3]; simp; omega
          rw [← el3] at hO3 ⊢
          have El3 := Lib.hid el3
          clear el3
          go_simp
          refine wpAnyH_all (rs := [7]) (by decide +kernel) (by simp) ?_
          intro i hi
          simp only [List.mem_cons, List.not_mem_nil, or_false] at hi
          subst hi
          refine wpOp_call rfl rfl 83 (enters_of Try.func83 (by kernel_rfl) rfl) #[.tmp 31, .tmp 33] #[22, 23] rfl _ rfl (refN_any w3 (fun _ => True) _ _ _ r.seq l3 (Own.arr hO3 fun _ _ _ => trivial) (by omega) (by omega)) ?_
          rintro e w4 ⟨A4, c4, rfl, hf4, hO4, hin4⟩
          have hS4 := hS3.trans hf4 fun _ _ => id
          refine ⟨_, rfl, hS4, ?_⟩
          obtain ⟨l4, el4⟩ : ∃ l4, l4 = l3 ++ encN r.seq := ⟨_, rfl⟩
          have hl4 : l4.length ≤ 21 := by have := encN_len64 (n := r.seq) (by omega); rw [el4]; simp; omega
          rw [← el4] at hO4 ⊢
          have El4 := Lib.hid el4
          clear el4
          go_simp
          refine wpAnyH_all (rs := [11]) (by decide +kernel) (by simp) ?_
          intro i hi
          simp only [List.mem_cons, List.not_mem_nil, or_false] at hi
          subst hi
          refine wpOp_call rfl rfl 83 (enters_of Try.func83 (by kernel_rfl) rfl) #[.tmp 34, .tmp 37] #[22, 23] rfl _ rfl ((by have h := refN_any w4 (fun _ => True) _ _ c4 r.err.toNat l4 (Own.arr hO4 fun _ _ _ => trivial) (by omega) (by omega); rw [Hkk.out] at h; exact h)) ?_
          rintro e w5 ⟨A5, c5, rfl, hf5, hO5, hin5⟩
          have hS5 := hS4.trans hf5 fun _ _ => id
          refine ⟨_, rfl, hS5, ?_⟩
          obtain ⟨l5, el5⟩ : ∃ l5, l5 = l4 ++ encN r.err.toNat := ⟨_, rfl⟩
          have hl5 : l5.length ≤ 31 := by have := encN_len64 (n := r.err.toNat) (by omega); rw [el5]; simp; omega
          rw [← el5] at hO5 ⊢
          have El5 := Lib.hid el5
          clear el5
          go_simp
          refine wpAnyH_take (i := 12) rfl (by decide +kernel) (by decide +kernel) (by decide +kernel) (fun _ _ _ h => h) (Or.inl ⟨rfl, fun W hW => by go_simp; with_reducible rfl⟩) hS5 ?_
          refine wpAnyH_done (by decide +kernel) ?_ _
          have hF5 := hF0.trans hS5 fun _ _ => id
          have hB5 := hB.fr hS5 id
          have hid5 := hB5.id_ (fun j => j = w.heap.size) rfl
          have hA5 : ∀ j, inB A5 j → w.heap.size < j := fun j hj => by have := hin5 j hj; have := (hS1.trans hf3 fun _ _ => id).size; have := hf4.size; have := hB.blk.lt; omega
          clear p0 p1 p2 hw1 hw2 hS
          have q35 := hB5.c35
          have q36 := hB5.c36
          have hb5 := hb.fr hF5 fun _ _ => id
          go_wp2_with fail
          refine wp_region_held (S := fun W => Fr (fun j => w.heap.size < j) w5 W) rfl ?_
          have hS : Fr (fun j => w.heap.size < j) w5 { w5 with drawn := w5.drawn + 1 } := Fr.drew (Fr.refl _ _)
          refine wpAnyH_take (i := 0) rfl (by decide +kernel) (by decide +kernel) (by decide +kernel) (fun _ _ _ h => h) (Or.inl ⟨rfl, fun W hW => by go_simp; with_reducible rfl⟩) hS ?_
          refine wpAnyH_take (i := 1) rfl (by decide +kernel) (by decide +kernel) (by decide +kernel) (fun _ _ _ h => h) (Or.inl ⟨rfl, fun W hW => by go_simp; with_reducible rfl⟩) hS ?_
          refine wpAnyH_take (i := 2) rfl (by decide +kernel) (by decide +kernel) (by decide +kernel) (fun _ _ _ h => h) (Or.inl ⟨rfl, fun W hW => by go_simp; with_reducible rfl⟩) hS ?_
          refine wpAnyH_take (i := 4) rfl (by decide +kernel) (by decide +kernel) (by decide +kernel) (fun _ _ _ h => h) (Or.inl ⟨rfl, fun W hW => by go_simp; with_reducible rfl⟩) hS ?_
          refine wpAnyH_take (i := 5) rfl (by decide +kernel) (by decide +kernel) (by decide +kernel) (fun _ _ _ h => h) (Or.inl ⟨rfl, fun W hW => by have q := Fr.cell' hW q35 (by simp); go_simp; with_reducible rfl⟩) hS ?_
          refine wpAnyH_take (i := 7) rfl (by decide +kernel) (by decide +kernel) (by decide +kernel) (fun _ _ _ h => h) (Or.inl ⟨rfl, fun W hW => by go_simp; with_reducible rfl⟩) hS ?_
          refine wpAnyH_take (i := 8) rfl (by decide +kernel) (by decide +kernel) (by decide +kernel) (fun _ _ _ h => h) (Or.inl ⟨rfl, fun W hW => by have q := Fr.cell' hW q36 (by simp); go_simp; with_reducible rfl⟩) hS ?_
          go_simp
          refine wpAnyH_all (rs := [3]) (by decide +kernel) (by simp) ?_
          intro i hi
          simp only [List.mem_cons, List.not_mem_nil, or_false] at hi
          subst hi
          refine wpOp_app el_u8w rfl rfl (.tmp 39) (.tmp 41) rfl A5 _ c5 _ rfl (hO5.fr (S := NoB) (Fr.drew (Fr.refl _ _)) fun _ _ => id) (fun j => j = w.heap.size) (some ⟨w.heap.size, 3, none⟩) 32 32 (r.id.1.map bv) rfl hid5 (bv_one _) (by omega) ?_
          intro A6 c6 w6 hO6 hf6 hin6
          have hS6 : Fr (fun j => w.heap.size < j) w5 w6 := hS.trans (hf6.mono fun k _ hk => hA5 k hk) fun _ _ => id
          refine ⟨hS6, ?_⟩
          obtain ⟨l6, el6⟩ : ∃ l6, l6 = l5 ++ r.id.1 := ⟨_, rfl⟩
          have hl6 : l6.length = l5.length + 32 := by rw [el6, List.length_append, r.id.2]
          rw [← List.map_append, ← el6, ← hl6] at hO6
          rw [← hl6]
          have hl6' : l6.length ≤ 63 := by omega
          have El6 := Lib.hid el6
          clear el6 hl6
          go_simp
          refine wpAnyH_all (rs := [6]) (by decide +kernel) (by simp) ?_
          intro i hi
          simp only [List.mem_cons, List.not_mem_nil, or_false] at hi
          subst hi
          refine wpOp_call rfl rfl 83 (enters_of Try.func83 (by kernel_rfl) rfl) #[.tmp 42, .tmp 44] #[22, 23] rfl _ rfl (refN_any w6 (fun _ => True) _ _ _ r.n l6 (Own.arr hO6 fun _ _ _ => trivial) (by omega) (by omega)) ?_
          rintro e w7 ⟨A7, c7, rfl, hf7, hO7, hin7⟩
          have hS7 := hS6.trans hf7 fun _ _ h => h.elim
          refine ⟨_, rfl, hS7, ?_⟩
          obtain ⟨l7, el7⟩ : ∃ l7, l7 = l6 ++ encN r.n := ⟨_, rfl⟩
          have hl7 : l7.length ≤ 73 := by have := encN_len64 (n := r.n) (by omega); rw [el7, List.length_append]; omega
          rw [← el7] at hO7 ⊢
          have El7 := Lib.hid el7
          clear el7
          go_simp
          refine wpAnyH_all (rs := [9]) (by decide +kernel) (by simp) ?_
          intro i hi
          simp only [List.mem_cons, List.not_mem_nil, or_false] at hi
          subst hi
          refine wpOp_call rfl rfl 84 (enters_of Try.func84 (by kernel_rfl) rfl) #[.tmp 45, .tmp 47] #[22, 22] rfl _ rfl (refText_any w7 (fun _ => True) F _ _ _ _ _ _ l7 r.body (Own.arr hO7 fun _ _ _ => trivial) (Byt.fr hb5 hS7 fun j hj h => by have := hF j hj; omega) (by omega)) ?_
          rintro e w8 ⟨A8, c8, rfl, hf8, hO8, hin8⟩
          have hS8 := hS7.trans hf8 fun _ _ h => h.elim
          refine ⟨_, rfl, hS8, ?_⟩
          obtain ⟨l8, el8⟩ : ∃ l8, l8 = l7 ++ textBytes r.body := ⟨_, rfl⟩
          have hl8 : l8.length ≤ 110100 := by have := textBytes_len r.body (by rw [Hbl.out]; omega); rw [Hbl.out] at this; rw [el8, List.length_append]; omega
          rw [← el8] at hO8 ⊢
          have El8 := Lib.hid el8
          clear el8
          go_simp
          refine wpAnyH_take (i := 10) rfl (by decide +kernel) (by decide +kernel) (by decide +kernel) (fun _ _ _ h => h) (Or.inl ⟨rfl, fun W hW => by go_simp; with_reducible rfl⟩) hS8 ?_
          refine wpAnyH_done (by decide +kernel) ?_ _
          have hF8 := hF5.new hS8 fun j hj => .inr (by omega)
          have hB8 := hB5.fr hS8 (by omega)
          have s8 := hF8.size
          clear q35 q36 hS
          have q37 := hB8.c37
          have hw9 : IntKind.u64.wrap (m : Int) = (m : Int) := by rw [IntKind.wrap_u64]; omega
          have hm63 : m ≤ 9223372036854775807 := by omega
          go_wp2_with fail
          refine (refN_any w8 (fun _ => True) _ _ _ m l8 (Own.arr hO8 fun _ _ _ => trivial) (by omega) (by omega)).mono ?_
          rintro e w9 ⟨A9, c9, rfl, hf9, hO9, hin9⟩
          have hF9 := hF8.trans hf9 fun _ _ => id
          have s9 := hf9.size
          have hB9 := hB8.fr hf9 id
          have hout : l8 ++ encN m = repHead r := by
            rw [El8.out, El7.out, El6.out, El5.out, El4.out, El3.out, repHead, Hml.out]
          rw [hout] at hO9 ⊢
          have hn9 : (repHead r).length ≤ 110110 := by rw [← hout]; have := encN_len64 (n := m) (by omega); rw [List.length_append]; omega
          clear hout q37 hw9
          obtain ⟨l9, hl9⟩ : ∃ l9, l9 = repHead r := ⟨_, rfl⟩
          rw [← hl9] at hO9 hn9 ⊢
          have Hl9 := Lib.hid hl9
          clear hl9
          have q37 := hB9.c37
          have hn9s : Strs w9 F B m r.names := Arr.fr hn hF9 fun _ _ => id
          go_wp2
          clear q37
          obtain ⟨w10, rfl⟩ : ∃ w10 : World, w10 = w9 := ⟨_, rfl⟩
          go_loopw [4, 58] (fun o i wr => ∃ (k p co : Nat) (Ao : Option Addr), k ≤ m ∧ i = .int .i64 k ∧ o = .slice Ao p co ∧ p = (l9 ++ nameBytes (r.names.take k)).length ∧ p ≤ 110110 + 80 * k ∧ Own wr 5 1 Ao p co ((l9 ++ nameBytes (r.names.take k)).map bv) ∧ (∀ j, inB Ao j → w.heap.size ≤ j) ∧ (∀ s ∈ r.names.take k, s.size ≤ 64) ∧ Fr NoB w10 wr) (fun _ i _ => m - (intOf i).toNat)
          case atStart => exact ⟨0, _, _, _, by omega, rfl, rfl, by simp [nameBytes], by omega, by simpa [nameBytes] using hO9, fun j hj => by have := hin9 j hj; omega, by simp, Fr.refl _ _⟩
          case round =>
            obtain ⟨k, p, co, Ao, hk, rfl, rfl, hp, hpk, hO, hA, hsm, hFk⟩ := hrel
            obtain ⟨w12, rfl⟩ : ∃ w12 : World, w12 = wr := ⟨_, rfl⟩
            have Hp := Lib.hid hp
            have Hsm := Lib.hid hsm
            clear hp hsm
            have sk := hFk.size
            by_cases hkm : k < m
            · have hnk : Strs w12 F B m r.names := Arr.fr hn9s hFk fun _ _ => id
              obtain ⟨g1, o1, x, hBe, _, gx, hc1⟩ := Strs.at_ hnk hkm
              subst hBe
              have hmem := List.mem_of_getElem? gx
              have hxm := Wf8.out x hmem
              by_cases hx : x.size ≤ 64
              · have hxb : decide (64 < (x.size : Int)) = false := by simp only [decide_eq_false_iff_not]; omega
                have Hex : Hid (l9 ++ nameBytes (r.names.take (k + 1)) = l9 ++ nameBytes (r.names.take k) ++ textBytes x.data.toList) := by
                  show _ = _
                  rw [take_snoc_of gx, nameBytes_snoc, List.append_assoc]
                have Hsm' : Hid (∀ s ∈ r.names.take (k + 1), s.size ≤ 64) := by
                  show ∀ s ∈ r.names.take (k + 1), s.size ≤ 64
                  rw [take_snoc_of gx]
                  intro s hs
                  rcases List.mem_append.1 hs with h | h
                  · exact Hsm.out s h
                  · rw [List.mem_singleton] at h; subst h; exact hx
                have hxl : x.data.toList.length = x.size := rfl
                have htl := textBytes_len x.data.toList (by rw [hxl]; omega)
                rw [hxl] at htl
                clear gx hxl hmem
                generalize l9 ++ nameBytes (r.names.take k) = lk at *
                go_wp2_with (first | (refine wpList_str rfl 9 22 5 (.tmp 66) rfl Try.underlying9 Try.underlying22 Try.underlying5 x rfl hxm ?_; intro g4 c4 w4 hg4 hS4 hf4 hc4 hm4))
                have hcall := refText_any w4 (fun _ => True) (fun _ => True) Ao (some ⟨g4, 0, none⟩) p co x.size c4 lk x.data.toList ((hO.fr hf4 fun _ _ => id).arr fun _ _ _ => trivial) (hS4.byt trivial) (by omega)
                refine hcall.mono ?_
                rintro e w5 ⟨A5', c5', rfl, hf5', hO5', hin5'⟩
                have s5 := hf4.size
                go_wp2
                go_roundw
                case rel => exact ⟨k + 1, (lk ++ textBytes x.data.toList).length, c5', A5', by omega, by go_num, by simp, by rw [Hex.out], by rw [List.length_append]; have := Hp.out; omega, by rw [Hex.out]; exact hO5', fun j hj => by have := hin5' j hj; omega, Hsm'.out, hFk.trans (hf4.trans hf5' fun _ _ => id) fun _ _ => id⟩
                case measure => simp [intOf]; omega
              · have hxb : decide (64 < (x.size : Int)) = true := by simp only [decide_eq_true_eq]; omega
                have hask : repAns r = false := repAns_false fun h => hx (h.2.2.2.2 x hmem)
                have e1 := Lib.hid (show repOut r = [] by simp [repOut, hask])
                have e2 := Lib.hid (show repErr r = 180 by simp [repErr, hask])
                clear hx hask hmem gx
                go_wp2
                go_ret2
                rw [e1.out, e2.out]
                exact NewBytes2.none_ (hF9.trans hFk fun _ _ => id)
            · have hall : l9 ++ nameBytes (r.names.take k) = repBytes r := by
                rw [List.take_of_length_le (by rw [Hml.out]; omega), Hl9.out]; rfl
              have hsall := Hsm.out
              rw [List.take_of_length_le (by rw [Hml.out]; omega)] at hsall
              have hask : repAns r = true := by
                have : r.names.all (fun s => decide (s.size ≤ 64)) = true := by rw [List.all_eq_true]; intro s hs; simpa using hsall s hs
                simp [repAns, h1, h2, Hbl.out, h3, Hml.out, h4, this]
              have e1 := Lib.hid (show repOut r = repBytes r by simp [repOut, hask])
              have e2 := Lib.hid (show repErr r = 0 by simp [repErr, hask])
              have hp := Hp.out
              rw [hall] at hO hp
              have Hp' := Lib.hid hp
              clear hall hsall hask hp
              go_wp2
              go_ret2
              rw [e1.out, e2.out]
              refine ⟨Ao, co, ret_nb Hp'.out, hF9.trans hFk fun _ _ => id, ?_, hA⟩
              rw [← Hp'.out]
              exact hO
        · have b4 : decide (1000 < (m : Int)) = true := by simp only [decide_eq_true_eq]; omega
          have hask : repAns r = false := repAns_false (by rw [Hbl.out, Hml.out]; omega)
          have e1 : repOut r = [] := by simp [repOut, hask]
          have e2 : repErr r = 180 := by simp [repErr, hask]
          rw [e1, e2]
          clear e1 e2 hask h4 hB
          generalize repCells r A n c B m d = yc at *
          go_enter Try.func58, Try.ntmps58
          go_wp2
          go_ret2
          exact NewBytes2.none_ hF0
      · have b3 : decide (110000 < (n : Int)) = true := by simp only [decide_eq_true_eq]; omega
        have hask : repAns r = false := repAns_false (by rw [Hbl.out, Hml.out]; omega)
        have e1 : repOut r = [] := by simp [repOut, hask]
        have e2 : repErr r = 180 := by simp [repErr, hask]
        rw [e1, e2]
        clear e1 e2 hask h3 hB
        generalize repCells r A n c B m d = yc at *
        go_enter Try.func58, Try.ntmps58
        go_wp2
        go_ret2
        exact NewBytes2.none_ hF0
    · have b2 : decide (1000 < r.err) = true := by simp only [decide_eq_true_eq]; omega
      have hask : repAns r = false := repAns_false (by rw [Hbl.out, Hml.out]; omega)
      have e1 : repOut r = [] := by simp [repOut, hask]
      have e2 : repErr r = 180 := by simp [repErr, hask]
      rw [e1, e2]
      clear e1 e2 hask h2 hB
      generalize repCells r A n c B m d = yc at *
      go_enter Try.func58, Try.ntmps58
      go_wp2
      go_ret2
      exact NewBytes2.none_ hF0
  · have b1 : decide (r.err < 0) = true := by simp only [decide_eq_true_eq]; omega
    have hask : repAns r = false := repAns_false (by rw [Hbl.out, Hml.out]; omega)
    have e1 : repOut r = [] := by simp [repOut, hask]
    have e2 : repErr r = 180 := by simp [repErr, hask]
    rw [e1, e2]
    clear e1 e2 hask h1 hB
    generalize repCells r A n c B m d = yc at *
    go_enter Try.func58, Try.ntmps58
    go_wp2
    go_ret2
    exact NewBytes2.none_ hF0
end Go.Proofs.Ytnkfchondedfcaa
