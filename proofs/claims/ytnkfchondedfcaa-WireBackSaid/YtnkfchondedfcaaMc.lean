/-
  A request as bytes, as the document has it (tabulariumref15.PutRequest). Conditions: each contract states its own.
-/
import Derived.Test.YtnkfchondedfcaaMb
import Derived.Test.YtnkfchondedfcaaRh
namespace Go.Proofs.Ytnkfchondedfcaa
open Go.RowKit

theorem reqAsks_false {r : Req} (h : ¬ (1 ≤ r.kind ∧ r.kind ≤ 10 ∧ r.name.size ≤ 64 ∧ r.body.length ≤ 110000)) : reqAsks r = false := by
  cases hq : reqAsks r with
  | false => rfl
  | true => exact absurd (asks_of hq) h
theorem ret_nb {A : Option Addr} {n m c : Nat} {k : IntKind} {b : Int} (h : n = m) : Ending.returned (.tuple #[.slice A n c, .int k b]) = .returned (.tuple #[.slice A m c, .int k b]) := by rw [h]

set_option maxRecDepth 100000 in
set_option maxHeartbeats 4000000 in
theorem refPutRequest_any (w : World) (F : Nat → Prop) (y : List Value) (r : Req) (hy : ReqR w F y r) (hF : ∀ k, F k → k < w.heap.size) :
    Calls Try.prog 50 #[.agg y.toArray] w fun e w' => NewBytes2 .i64 w w' e (reqOut r) (reqErr r) := by
  obtain ⟨A, n, c, rfl, hnc, hcm, hb, hwf⟩ := hy
  have hbl := hb.len
  have Hbl := Lib.hid hbl
  have hB : ReqBlk (w.alloc (.cells (reqCells r A n c).toArray 76)) w.heap.size r A n c := ⟨Blk.new _ _ _⟩
  have hF0 : Fr NoB w (w.alloc (.cells (reqCells r A n c).toArray 76)) := (Fr.refl _ _).alloc _
  have q0 := hB.c0
  have q2 := hB.c2
  have q4 := hB.c4
  have q70 := hB.c70
  have Hbl2 := Lib.hid (show r.body.length = n from hbl)
  clear hbl
  by_cases h1 : 1 ≤ r.kind
  · have b1 : decide (r.kind < 1) = false := by simp only [decide_eq_false_iff_not]; omega
    by_cases h2 : r.kind ≤ 10
    · have b2 : decide (10 < r.kind) = false := by simp only [decide_eq_false_iff_not]; omega
      by_cases h3 : r.name.size ≤ 64
      · have b3 : decide (64 < (r.name.size : Int)) = false := by simp only [decide_eq_false_iff_not]; omega
        by_cases h4 : n ≤ 110000
        · have b4 : decide (110000 < (n : Int)) = false := by simp only [decide_eq_false_iff_not]; omega
          have hask : reqAsks r = true := by simp [reqAsks, h1, h2, h3, Hbl2.out, h4]
          have e1 : reqOut r = reqBytes r := by simp [reqOut, hask]
          have e2 : reqErr r = 0 := by simp [reqErr, hask]
          rw [e1, e2]
          clear e1 e2 hask
          obtain ⟨wf0, wf1, -, -, wf3, wf4, wf7⟩ := hwf
          have hkk : ((r.kind.toNat : Nat) : Int) = r.kind := Int.toNat_of_nonneg (by omega)
          have Hkk := Lib.hid hkk
          clear hkk
          have hk64 : r.kind.toNat < 18446744073709551616 := by omega
          have hw1 : IntKind.u64.wrap r.kind = r.kind := by rw [IntKind.wrap_u64]; omega
          have hw2 : IntKind.u64.wrap (r.tenant : Int) = (r.tenant : Int) := by rw [IntKind.wrap_u64]; omega
          have hB0 := hB.fr ((Fr.refl NoB _).alloc (.cells #[.int .u8 1] 5)) id
          have q0' := hB0.c0
          clear q0
          go_enter Try.func50, Try.ntmps50
          go_wp2_with fail
          refine (refN_any _ (fun _ => True) _ 1 1 r.client [1] ?_ (by omega) (by omega)).mono ?_
          · have := Byt.new (w.alloc (.cells (reqCells r A n c).toArray 76)) 5 [1] #[.int .u8 1] (by simp [bv])
            simpa using this.more (F' := fun _ => True) fun _ _ _ => trivial
          rintro e w3 ⟨A3, c3, rfl, hf3, hO3, hin3⟩
          have hF3 : Fr NoB w w3 := ((hF0.alloc (.cells #[.int .u8 1] 5)).trans hf3 fun _ _ => id)
          have hB3 := hB0.fr hf3 id
          have s3 := hF3.size
          have hl3 : ([1] ++ encN r.client).length ≤ 11 := by have := encN_len64 (n := r.client) (by omega); simp; omega
          obtain ⟨l3, el3⟩ : ∃ l3, l3 = [1] ++ encN r.client := ⟨_, rfl⟩
          rw [← el3] at hO3 hl3 ⊢
          have El3 := Lib.hid el3
          clear el3 q0' q2 q4 q70 hB hB0 hf3
          have p1 := hB3.c1
          have p2 := hB3.c2
          have p3 := hB3.c3
          go_wp2_with fail
          refine wp_region_held (S := fun W => Fr NoB w3 W) rfl ?_
          have hS : Fr NoB w3 { w3 with drawn := w3.drawn + 1 } := Fr.drew (Fr.refl _ _)
          refine wpAnyH_take (i := 0) rfl (by decide +kernel) (by decide +kernel) (by decide +kernel) (fun _ _ _ h => h) (Or.inl ⟨rfl, fun W hW => by go_simp; with_reducible rfl⟩) hS ?_
          refine wpAnyH_take (i := 1) rfl (by decide +kernel) (by decide +kernel) (by decide +kernel) (fun _ _ _ h => h) (Or.inl ⟨rfl, fun W hW => by go_simp; with_reducible rfl⟩) hS ?_
          refine wpAnyH_take (i := 2) rfl (by decide +kernel) (by decide +kernel) (by decide +kernel) (fun _ _ _ h => h) (Or.inl ⟨rfl, fun W hW => by have q := Fr.cell' hW p1 id; go_simp; with_reducible rfl⟩) hS ?_
          refine wpAnyH_take (i := 4) rfl (by decide +kernel) (by decide +kernel) (by decide +kernel) (fun _ _ _ h => h) (Or.inl ⟨rfl, fun W hW => by go_simp; with_reducible rfl⟩) hS ?_
          refine wpAnyH_take (i := 5) rfl (by decide +kernel) (by decide +kernel) (by decide +kernel) (fun _ _ _ h => h) (Or.inl ⟨rfl, fun W hW => by have q := Fr.cell' hW p2 id; go_simp; with_reducible rfl⟩) hS ?_
          refine wpAnyH_take (i := 6) rfl (by decide +kernel) (by decide +kernel) (by decide +kernel) (fun _ _ _ h => h) (Or.inl ⟨rfl, fun W hW => by go_simp; with_reducible rfl⟩) hS ?_
          refine wpAnyH_take (i := 8) rfl (by decide +kernel) (by decide +kernel) (by decide +kernel) (fun _ _ _ h => h) (Or.inl ⟨rfl, fun W hW => by go_simp; with_reducible rfl⟩) hS ?_
          refine wpAnyH_take (i := 9) rfl (by decide +kernel) (by decide +kernel) (by decide +kernel) (fun _ _ _ h => h) (Or.inl ⟨rfl, fun W hW => by have q := Fr.cell' hW p3 id; go_simp; with_reducible rfl⟩) hS ?_
          refine wpAnyH_take (i := 10) rfl (by decide +kernel) (by decide +kernel) (by decide +kernel) (fun _ _ _ h => h) (Or.inl ⟨rfl, fun W hW => by go_simp; with_reducible rfl⟩) hS ?_
          go_simp
          refine wpAnyH_all (rs := [3]) (by decide +kernel) (by simp) ?_
          intro i hi
          simp only [List.mem_cons, List.not_mem_nil, or_false] at hi
          subst hi
          refine wpOp_call rfl rfl 83 (enters_of Try.func83 (by kernel_rfl) rfl) #[.tmp 30, .tmp 32] #[22, 23] rfl _ rfl (refN_any _ (fun _ => True) _ _ _ r.seq l3 (Own.arr (hO3.fr (S := NoB) hS fun _ _ => id) fun _ _ _ => trivial) (by omega) (by omega)) ?_
          rintro e w4 ⟨A4, c4, rfl, hf4, hO4, hin4⟩
          have hS4 := hS.trans hf4 fun _ _ => id
          refine ⟨_, rfl, hS4, ?_⟩
          obtain ⟨l4, el4⟩ : ∃ l4, l4 = l3 ++ encN r.seq := ⟨_, rfl⟩
          have hl4 : l4.length ≤ 21 := by have := encN_len64 (n := r.seq) (by omega); rw [el4, List.length_append]; omega
          rw [← el4] at hO4 ⊢
          have El4 := Lib.hid el4
          clear el4
          go_simp
          refine wpAnyH_all (rs := [7]) (by decide +kernel) (by simp) ?_
          intro i hi
          simp only [List.mem_cons, List.not_mem_nil, or_false] at hi
          subst hi
          refine wpOp_call rfl rfl 83 (enters_of Try.func83 (by kernel_rfl) rfl) #[.tmp 33, .tmp 36] #[22, 23] rfl _ rfl ((by have h := refN_any w4 (fun _ => True) _ _ c4 r.kind.toNat l4 (Own.arr hO4 fun _ _ _ => trivial) (by omega) (by omega); rw [Hkk.out] at h; exact h)) ?_
          rintro e w5 ⟨A5, c5, rfl, hf5, hO5, hin5⟩
          have hS5 := hS4.trans hf5 fun _ _ => id
          refine ⟨_, rfl, hS5, ?_⟩
          obtain ⟨l5, el5⟩ : ∃ l5, l5 = l4 ++ encN r.kind.toNat := ⟨_, rfl⟩
          have hl5 : l5.length ≤ 31 := by have := encN_len64 (n := r.kind.toNat) (by omega); rw [el5, List.length_append]; omega
          rw [← el5] at hO5 ⊢
          have El5 := Lib.hid el5
          clear el5
          go_simp
          refine wpAnyH_all (rs := [11]) (by decide +kernel) (by simp) ?_
          intro i hi
          simp only [List.mem_cons, List.not_mem_nil, or_false] at hi
          subst hi
          refine wpOp_call rfl rfl 83 (enters_of Try.func83 (by kernel_rfl) rfl) #[.tmp 37, .tmp 40] #[22, 23] rfl _ rfl (refN_any w5 (fun _ => True) _ _ _ r.tenant l5 (Own.arr hO5 fun _ _ _ => trivial) (by omega) (by omega)) ?_
          rintro e w6 ⟨A6, c6, rfl, hf6, hO6, hin6⟩
          have hS6 := hS5.trans hf6 fun _ _ => id
          refine ⟨_, rfl, hS6, ?_⟩
          obtain ⟨l6, el6⟩ : ∃ l6, l6 = l5 ++ encN r.tenant := ⟨_, rfl⟩
          have hl6 : l6.length ≤ 41 := by have := encN_len64 (n := r.tenant) (by omega); rw [el6, List.length_append]; omega
          rw [← el6] at hO6 ⊢
          have El6 := Lib.hid el6
          clear el6
          go_simp
          refine wpAnyH_take (i := 12) rfl (by decide +kernel) (by decide +kernel) (by decide +kernel) (fun _ _ _ h => h) (Or.inl ⟨rfl, fun W hW => by go_simp; with_reducible rfl⟩) hS6 ?_
          refine wpAnyH_done (by decide +kernel) ?_ _
          have hF6 := hF3.trans hS6 fun _ _ => id
          have s6 := hF6.size
          have hB6 := hB3.fr hS6 id
          clear p1 p2 p3 hw1 hw2
          have q4 := hB6.c4
          go_wp2_with (first | (refine wpList_str rfl 9 22 5 (.tmp 44) rfl Try.underlying9 Try.underlying22 Try.underlying5 r.name rfl wf4 ?_; intro g7 c7 w7 hg7 hS7 hf7 hc7 hm7))
          have hn7 : r.name.data.toList.length = r.name.size := rfl
          refine (refText_any w7 (fun _ => True) (fun _ => True) _ _ _ _ _ _ l6 r.name.data.toList ((hO6.fr hf7 fun _ _ => id).arr fun _ _ _ => trivial) (hS7.byt trivial) (by rw [hn7]; omega)).mono ?_
          rintro e w8 ⟨A8, c8, rfl, hf8, hO8, hin8⟩
          have ht8 : (textBytes r.name.data.toList).length ≤ 74 := by
            have := encN_len64 (n := r.name.data.toList.length) (by omega)
            simp only [textBytes, List.length_append]; omega
          obtain ⟨l8, el8⟩ : ∃ l8, l8 = l6 ++ textBytes r.name.data.toList := ⟨_, rfl⟩
          have hl8 : l8.length ≤ 115 := by rw [el8, List.length_append]; omega
          rw [← el8] at hO8 ⊢
          have El8 := Lib.hid el8
          clear el8 ht8 hn7 q4
          have hF8 := hF6.trans (hf7.trans hf8 fun _ _ => id) fun _ _ => id
          have s8 := hF8.size
          have s7 := hf7.size
          have hB8 := hB6.fr (hf7.trans hf8 fun _ _ => id) id
          have hA8 : ∀ j, inB A8 j → w.heap.size < j := fun j hj => by have := hin8 j hj; have := hB6.blk.lt; omega
          have hid8 := hB8.id_ (fun j => j = w.heap.size) rfl
          have hol8 := hB8.old_ (fun j => j = w.heap.size) rfl
          have hb8 := hb.fr hF8 fun _ _ => id
          go_wp2_with fail
          refine wp_region_held (S := fun W => Fr (fun j => w.heap.size < j) w8 W) rfl ?_
          have hS : Fr (fun j => w.heap.size < j) w8 { w8 with drawn := w8.drawn + 1 } := Fr.drew (Fr.refl _ _)
          refine wpAnyH_take (i := 0) rfl (by decide +kernel) (by decide +kernel) (by decide +kernel) (fun _ _ _ h => h) (Or.inl ⟨rfl, fun W hW => by go_simp; with_reducible rfl⟩) hS ?_
          refine wpAnyH_take (i := 1) rfl (by decide +kernel) (by decide +kernel) (by decide +kernel) (fun _ _ _ h => h) (Or.inl ⟨rfl, fun W hW => by go_simp; with_reducible rfl⟩) hS ?_
          refine wpAnyH_take (i := 2) rfl (by decide +kernel) (by decide +kernel) (by decide +kernel) (fun _ _ _ h => h) (Or.inl ⟨rfl, fun W hW => by go_simp; with_reducible rfl⟩) hS ?_
          refine wpAnyH_take (i := 4) rfl (by decide +kernel) (by decide +kernel) (by decide +kernel) (fun _ _ _ h => h) (Or.inl ⟨rfl, fun W hW => by go_simp; with_reducible rfl⟩) hS ?_
          refine wpAnyH_take (i := 5) rfl (by decide +kernel) (by decide +kernel) (by decide +kernel) (fun _ _ _ h => h) (Or.inl ⟨rfl, fun W hW => by go_simp; with_reducible rfl⟩) hS ?_
          go_simp
          refine wpAnyH_all (rs := [3]) (by decide +kernel) (by simp) ?_
          intro i hi
          simp only [List.mem_cons, List.not_mem_nil, or_false] at hi
          subst hi
          refine wpOp_app el_u8w rfl rfl (.tmp 47) (.tmp 49) rfl A8 _ c8 _ rfl (hO8.fr (S := NoB) (Fr.drew (Fr.refl _ _)) fun _ _ => id) (fun j => j = w.heap.size) (some ⟨w.heap.size, 5, none⟩) 32 32 (r.id.1.map bv) rfl hid8 (bv_one _) (by omega) ?_
          intro A9 c9 w9 hO9 hf9 hin9
          have hS9 : Fr (fun j => w.heap.size < j) w8 w9 := hS.trans (hf9.mono fun k _ hk => hA8 k hk) fun _ _ => id
          refine ⟨hS9, ?_⟩
          have hA9 : ∀ j, inB A9 j → w.heap.size < j := fun j hj => (hin9 j hj).elim (hA8 j) fun h => by have h' : j = w8.heap.size := h; have := hB8.blk.lt; omega
          obtain ⟨l9, el9⟩ : ∃ l9, l9 = l8 ++ r.id.1 := ⟨_, rfl⟩
          have hl9 : l9.length = l8.length + 32 := by rw [el9, List.length_append, r.id.2]
          rw [← List.map_append, ← el9, ← hl9] at hO9
          rw [← hl9]
          have hl9' : l9.length ≤ 147 := by omega
          have El9 := Lib.hid el9
          clear el9 hl9
          go_simp
          refine wpAnyH_all (rs := [6]) (by decide +kernel) (by simp) ?_
          intro i hi
          simp only [List.mem_cons, List.not_mem_nil, or_false] at hi
          subst hi
          refine wpOp_app el_u8w rfl rfl (.tmp 50) (.tmp 52) rfl A9 _ c9 _ rfl hO9 (fun j => j = w.heap.size) (some ⟨w.heap.size, 37, none⟩) 32 32 (r.old.1.map bv) rfl (Byt.fr hol8 hS9 fun j hj => by omega) (bv_one _) (by omega) ?_
          intro A10 c10 w10 hO10 hf10 hin10
          have hS10 : Fr (fun j => w.heap.size < j) w8 w10 := hS9.trans (hf10.mono fun k _ hk => hA9 k hk) fun _ _ => id
          refine ⟨hS10, ?_⟩
          have hA10 : ∀ j, inB A10 j → w.heap.size < j := fun j hj => (hin10 j hj).elim (hA9 j) fun h => by have := hS9.size; have := hB8.blk.lt; omega
          obtain ⟨l10, el10⟩ : ∃ l10, l10 = l9 ++ r.old.1 := ⟨_, rfl⟩
          have hl10 : l10.length = l9.length + 32 := by rw [el10, List.length_append, r.old.2]
          rw [← List.map_append, ← el10, ← hl10] at hO10
          rw [← hl10]
          have hl10' : l10.length ≤ 179 := by omega
          have El10 := Lib.hid el10
          clear el10 hl10
          go_simp
          refine wpAnyH_take (i := 7) rfl (by decide +kernel) (by decide +kernel) (by decide +kernel) (fun _ _ _ h => h) (Or.inl ⟨rfl, fun W hW => by go_simp; with_reducible rfl⟩) hS10 ?_
          refine wpAnyH_done (by decide +kernel) ?_ _
          have hB10 := hB8.fr hS10 (by omega)
          have hb10 := hb8.fr hS10 fun j hj h => by have := hF j hj; omega
          have hF10 : Fr NoB w w10 := hF8.new hS10 fun j hj => .inr (by omega)
          have q69 := hB10.c69
          have q70 := hB10.c70
          clear hid8 hol8 hb8
          go_wp2_with fail
          refine wp_region_held (S := fun W => Fr NoB w10 W) rfl ?_
          have hS : Fr NoB w10 { w10 with drawn := w10.drawn + 1 } := Fr.drew (Fr.refl _ _)
          refine wpAnyH_take (i := 0) rfl (by decide +kernel) (by decide +kernel) (by decide +kernel) (fun _ _ _ h => h) (Or.inl ⟨rfl, fun W hW => by go_simp; with_reducible rfl⟩) hS ?_
          refine wpAnyH_take (i := 1) rfl (by decide +kernel) (by decide +kernel) (by decide +kernel) (fun _ _ _ h => h) (Or.inl ⟨rfl, fun W hW => by go_simp; with_reducible rfl⟩) hS ?_
          refine wpAnyH_take (i := 2) rfl (by decide +kernel) (by decide +kernel) (by decide +kernel) (fun _ _ _ h => h) (Or.inl ⟨rfl, fun W hW => by have q := Fr.cell' hW q69 id; go_simp; with_reducible rfl⟩) hS ?_
          refine wpAnyH_take (i := 4) rfl (by decide +kernel) (by decide +kernel) (by decide +kernel) (fun _ _ _ h => h) (Or.inl ⟨rfl, fun W hW => by go_simp; with_reducible rfl⟩) hS ?_
          refine wpAnyH_take (i := 5) rfl (by decide +kernel) (by decide +kernel) (by decide +kernel) (fun _ _ _ h => h) (Or.inl ⟨rfl, fun W hW => by have q := Fr.cell' hW q70 id; go_simp; with_reducible rfl⟩) hS ?_
          go_simp
          refine wpAnyH_all (rs := [3]) (by decide +kernel) (by simp) ?_
          intro i hi
          simp only [List.mem_cons, List.not_mem_nil, or_false] at hi
          subst hi
          refine wpOp_call rfl rfl 83 (enters_of Try.func83 (by kernel_rfl) rfl) #[.tmp 54, .tmp 56] #[22, 23] rfl _ rfl (refN_any _ (fun _ => True) _ _ _ r.n l10 (Own.arr (hO10.fr (S := NoB) hS fun _ _ => id) fun _ _ _ => trivial) (by omega) (by omega)) ?_
          rintro e w11 ⟨A11, c11, rfl, hf11, hO11, hin11⟩
          have hS11 := hS.trans hf11 fun _ _ => id
          refine ⟨_, rfl, hS11, ?_⟩
          obtain ⟨l11, el11⟩ : ∃ l11, l11 = l10 ++ encN r.n := ⟨_, rfl⟩
          have hl11 : l11.length ≤ 189 := by have := encN_len64 (n := r.n) (by omega); rw [el11, List.length_append]; omega
          rw [← el11] at hO11 ⊢
          have El11 := Lib.hid el11
          clear el11
          go_simp
          refine wpAnyH_all (rs := [6]) (by decide +kernel) (by simp) ?_
          intro i hi
          simp only [List.mem_cons, List.not_mem_nil, or_false] at hi
          subst hi
          refine wpOp_call rfl rfl 84 (enters_of Try.func84 (by kernel_rfl) rfl) #[.tmp 57, .tmp 59] #[22, 22] rfl _ rfl (refText_any w11 (fun _ => True) F _ _ _ _ _ _ l11 r.body (Own.arr hO11 fun _ _ _ => trivial) (Byt.fr hb10 hS11 fun _ _ => id) (by omega)) ?_
          rintro e w12 ⟨A12, c12, rfl, hf12, hO12, hin12⟩
          have hS12 := hS11.trans hf12 fun _ _ => id
          refine ⟨_, rfl, hS12, ?_⟩
          have hout : l11 ++ textBytes r.body = reqBytes r := by
            rw [El11.out, El10.out, El9.out, El8.out, El6.out, El5.out, El4.out, El3.out]; rfl
          rw [hout] at hO12 ⊢
          clear hout
          go_simp
          refine wpAnyH_take (i := 7) rfl (by decide +kernel) (by decide +kernel) (by decide +kernel) (fun _ _ _ h => h) (Or.inl ⟨rfl, fun W hW => by go_simp; with_reducible rfl⟩) hS12 ?_
          refine wpAnyH_take (i := 8) rfl (by decide +kernel) (by decide +kernel) (by decide +kernel) (fun _ _ _ h => h) (Or.inl ⟨rfl, fun W hW => by go_simp; with_reducible rfl⟩) hS12 ?_
          refine wpAnyH_done (by decide +kernel) ?_ _
          go_wp2
          go_ret2
          exact ⟨A12, c12, rfl, hF10.trans hS12 fun _ _ => id, hO12, fun j hj => by have := hin12 j hj; have := hS11.size; have := hF10.size; omega⟩
        · have b4 : decide (110000 < (n : Int)) = true := by simp only [decide_eq_true_eq]; omega
          have hask : reqAsks r = false := reqAsks_false (by rw [Hbl2.out]; omega)
          have e1 : reqOut r = [] := by simp [reqOut, hask]
          have e2 : reqErr r = 180 := by simp [reqErr, hask]
          rw [e1, e2]
          clear e1 e2 hask h4
          go_enter Try.func50, Try.ntmps50
          go_wp2
          go_ret2
          exact NewBytes2.none_ hF0
      · have b3 : decide (64 < (r.name.size : Int)) = true := by simp only [decide_eq_true_eq]; omega
        have hask : reqAsks r = false := reqAsks_false (by rw [Hbl2.out]; omega)
        have e1 : reqOut r = [] := by simp [reqOut, hask]
        have e2 : reqErr r = 180 := by simp [reqErr, hask]
        rw [e1, e2]
        clear e1 e2 hask h3
        go_enter Try.func50, Try.ntmps50
        go_wp2
        go_ret2
        exact NewBytes2.none_ hF0
    · have b2 : decide (10 < r.kind) = true := by simp only [decide_eq_true_eq]; omega
      have hask : reqAsks r = false := reqAsks_false (by rw [Hbl2.out]; omega)
      have e1 : reqOut r = [] := by simp [reqOut, hask]
      have e2 : reqErr r = 180 := by simp [reqErr, hask]
      rw [e1, e2]
      clear e1 e2 hask h2
      go_enter Try.func50, Try.ntmps50
      go_wp2
      go_ret2
      exact NewBytes2.none_ hF0
  · have b1 : decide (r.kind < 1) = true := by simp only [decide_eq_true_eq]; omega
    have hask : reqAsks r = false := reqAsks_false (by rw [Hbl2.out]; omega)
    have e1 : reqOut r = [] := by simp [reqOut, hask]
    have e2 : reqErr r = 180 := by simp [reqErr, hask]
    rw [e1, e2]
    clear e1 e2 hask h1
    go_enter Try.func50, Try.ntmps50
    go_wp2
    go_ret2
    exact NewBytes2.none_ hF0
end Go.Proofs.Ytnkfchondedfcaa
