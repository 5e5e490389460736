/-
  The statement BundleBytes: any bundle as bytes, and the bundle that any bytes are, as the document has them; which are alike (the walk). Conditions: none but that the arguments can be read.
-/
import Derived.Test.YtnkfchondedfcaaXc
namespace Go.Proofs.Ytnkfchondedfcaa
open Go.RowKit

set_option maxRecDepth 100000 in
set_option maxHeartbeats 8000000 in
theorem BundleBytes_any (w : World) (y0 : List Value) (b0 : Bun) (y1 : List Value) (b1 : Bun) (A : Option Addr) (n c : Nat) (l : List UInt8) (hy0 : BunR w (fun k => k < w.heap.size) y0 b0) (hy1 : BunR w (fun k => k < w.heap.size) y1 b1) (hl : Byt w (fun k => k < w.heap.size) A n l) (hle : n ≤ c) (hcm : c ≤ maxLen) :
    Calls Try.prog 17 #[.agg y0.toArray, .agg y1.toArray, .slice A n c] w fun e w' => e = .returned (.bool true) ∧ Below w.heap.size w w' := by
  have hfin : ∀ w', Fr NoB w w' → Below w.heap.size w w' := fun w' h => Fr.below h (Nat.le_refl _) fun _ _ => id
  have Hfin := Lib.hid hfin
  have hll := hl.len
  obtain ⟨ca1, ca2, ca3⟩ := hy0.cells
  have Y0 := Lib.hid ca1
  obtain ⟨cb1, cb2, cb3⟩ := hy1.cells
  have Y1 := Lib.hid cb1
  have hF1 : Fr NoB w ((w.alloc (.cells y0.toArray 112)).alloc (.cells y1.toArray 112)) := ((Fr.refl _ _).alloc _).alloc _
  have hB1 : Blk ((w.alloc (.cells y0.toArray 112)).alloc (.cells y1.toArray 112)) w.heap.size 112 y0.toArray := (Blk.new _ _ _).alloc _
  have hC1 : Blk ((w.alloc (.cells y0.toArray 112)).alloc (.cells y1.toArray 112)) (w.heap.size + 1) 112 y1.toArray := by
    have := Blk.new (w.alloc (.cells y0.toArray 112)) 112 y1.toArray
    simpa using this
  have hI1 := hy0.fr hF1 fun _ _ => id
  have hJ1 := hy1.fr hF1 fun _ _ => id
  have hL1 := hl.fr hF1 fun _ _ => id
  obtain ⟨B, hB⟩ : ∃ B, B = w.heap.size := ⟨_, rfl⟩
  obtain ⟨C, hC⟩ : ∃ C, C = w.heap.size + 1 := ⟨_, rfl⟩
  obtain ⟨w1, hw1⟩ : ∃ w1, w1 = (w.alloc (.cells y0.toArray 112)).alloc (.cells y1.toArray 112) := ⟨_, rfl⟩
  have hs1 : B + 2 ≤ w1.heap.size := by rw [hw1, hB]; simp
  rw [← hw1] at hF1 hB1 hC1 hI1 hJ1 hL1
  rw [← hC] at hC1
  rw [← hB] at hB1 hI1 hJ1 hL1
  have Hw1 := Lib.hid hw1
  have HB := Lib.hid hB
  have HC := Lib.hid hC
  have hall := fun W (h : Blk W B 112 y0.toArray) => (show ∀ j u, y0[j]? = some u → W.cell? ⟨B, 0 + j, none⟩ = some u from fun j u hu => by rw [Nat.zero_add, h.cell]; simpa using hu)
  have Hall := Lib.hid hall
  have hall := fun W (h : Blk W C 112 y1.toArray) => (show ∀ j u, y1[j]? = some u → W.cell? ⟨C, 0 + j, none⟩ = some u from fun j u hu => by rw [Nat.zero_add, h.cell]; simpa using hu)
  have Calls := Lib.hid hall
  clear hfin hy0 hy1 hl hw1 hB hC hall ca1 ca2 ca3 cb1 cb2 cb3
  cases hfew0 : fewBun b0 with
  | false =>
    go_enter Try.func17, Try.ntmps17
    go_wp2_with (first
      | (go_at_call 64
         rw [← Hw1.out, ← HC.out, ← HB.out]
         refine (awake34 _).mono ?_
         rintro e w2 ⟨rfl, hf2⟩
         have hB2 := hB1.fr hf2 id
         have hC2 := hC1.fr hf2 id
         have hI2 := hI1.fr hf2 fun _ _ => id
         have hJ2 := hJ1.fr hf2 fun _ _ => id
         have hL2 := hL1.fr hf2 fun _ _ => id
         have hF2 := hF1.trans hf2 fun _ _ => id
         have hs2 := Nat.le_trans hs1 hf2.size
         clear hf2)
      | (refine wpList_load_agg rfl 112 (.tmp 3) rfl B 0 rfl y0 _ (Hall.out _ hB2) Try.underlying112 rfl (by rw [Y0.out]; exact bun_size) ?_)
      | (go_at_call 65
         refine (few34_any _ _ _ b0 hI2).mono ?_
         rintro e w3 ⟨rfl, hf3⟩
         rw [hfew0]
         have hB3 := hB2.fr hf3 id
         have hC3 := hC2.fr hf3 id
         have hI3 := hI2.fr hf3 fun _ _ => id
         have hJ3 := hJ2.fr hf3 fun _ _ => id
         have hL3 := hL2.fr hf3 fun _ _ => id
         have hF3 := hF2.trans hf3 fun _ _ => id
         have hs3 := Nat.le_trans hs2 hf3.size
         clear hf3 hB2 hC2 hI2 hJ2 hL2 hF2))
    go_ret
    exact ⟨rfl, Hfin.out _ hF3⟩
  | true =>
    cases hfew1 : fewBun b1 with
    | false =>
      go_enter Try.func17, Try.ntmps17
      go_wp2_with (first
        | (go_at_call 64
           rw [← Hw1.out, ← HC.out, ← HB.out]
           refine (awake34 _).mono ?_
           rintro e w2 ⟨rfl, hf2⟩
           have hB2 := hB1.fr hf2 id
           have hC2 := hC1.fr hf2 id
           have hI2 := hI1.fr hf2 fun _ _ => id
           have hJ2 := hJ1.fr hf2 fun _ _ => id
           have hL2 := hL1.fr hf2 fun _ _ => id
           have hF2 := hF1.trans hf2 fun _ _ => id
           have hs2 := Nat.le_trans hs1 hf2.size
           clear hf2)
        | (refine wpList_load_agg rfl 112 (.tmp 3) rfl B 0 rfl y0 _ (Hall.out _ hB2) Try.underlying112 rfl (by rw [Y0.out]; exact bun_size) ?_)
        | (go_at_call 65
           refine (few34_any _ _ _ b0 hI2).mono ?_
           rintro e w3 ⟨rfl, hf3⟩
           rw [hfew0]
           have hB3 := hB2.fr hf3 id
           have hC3 := hC2.fr hf3 id
           have hI3 := hI2.fr hf3 fun _ _ => id
           have hJ3 := hJ2.fr hf3 fun _ _ => id
           have hL3 := hL2.fr hf3 fun _ _ => id
           have hF3 := hF2.trans hf3 fun _ _ => id
           have hs3 := Nat.le_trans hs2 hf3.size
           clear hf3 hB2 hC2 hI2 hJ2 hL2 hF2)
        | (refine wpList_load_aggG rfl 112 (.tmp 4) rfl C 0 rfl y1 _ (Calls.out _ hC3) Try.underlying112 rfl (by rw [Y1.out]; exact bun_size) ?_)
        | (go_at_call 65
           refine (few34_any _ _ _ b1 hJ3).mono ?_
           rintro e w4 ⟨rfl, hf4⟩
           rw [hfew1]
           have hB4 := hB3.fr hf4 id
           have hC4 := hC3.fr hf4 id
           have hI4 := hI3.fr hf4 fun _ _ => id
           have hJ4 := hJ3.fr hf4 fun _ _ => id
           have hL4 := hL3.fr hf4 fun _ _ => id
           have hF4 := hF3.trans hf4 fun _ _ => id
           have hs4 := Nat.le_trans hs3 hf4.size
           clear hf4 hB3 hC3 hI3 hJ3 hL3 hF3))
      go_ret
      exact ⟨rfl, Hfin.out _ hF4⟩
    | true =>
      by_cases hn : n ≤ 4000
      · have bn : decide (4000 < (n : Int)) = false := by simp only [decide_eq_false_iff_not]; omega
        obtain ⟨f1, f2⟩ := fewBun_of hfew0
        have f3 := Nat.le_trans (texts_len b0.objs f1) (show 1010 * b0.objs.length ≤ 1000000000 by omega)
        have Fsz := Lib.hid (show ∀ x ∈ b0.objs, x.length ≤ 70368744177664 from fun x hx => by have := f1 x hx; omega)
        have Fsz2 := Lib.hid (show ∀ x ∈ b0.objs, x.length ≤ 110000 from fun x hx => by have := f1 x hx; omega)
        have Ftot := Lib.hid f3
        clear f1 f2 f3
        go_enter Try.func17, Try.ntmps17
        go_wp2_with (first
          | (go_at_call 64
             rw [← Hw1.out, ← HC.out, ← HB.out]
             refine (awake34 _).mono ?_
             rintro e w2 ⟨rfl, hf2⟩
             have hB2 := hB1.fr hf2 id
             have hC2 := hC1.fr hf2 id
             have hI2 := hI1.fr hf2 fun _ _ => id
             have hJ2 := hJ1.fr hf2 fun _ _ => id
             have hL2 := hL1.fr hf2 fun _ _ => id
             have hF2 := hF1.trans hf2 fun _ _ => id
             have hs2 := Nat.le_trans hs1 hf2.size
             clear hf2)
          | (refine wpList_load_agg rfl 112 (.tmp 3) rfl B 0 rfl y0 _ (Hall.out _ hB2) Try.underlying112 rfl (by rw [Y0.out]; exact bun_size) ?_)
          | (go_at_call 65
             refine (few34_any _ _ _ b0 hI2).mono ?_
             rintro e w3 ⟨rfl, hf3⟩
             rw [hfew0]
             have hB3 := hB2.fr hf3 id
             have hC3 := hC2.fr hf3 id
             have hI3 := hI2.fr hf3 fun _ _ => id
             have hJ3 := hJ2.fr hf3 fun _ _ => id
             have hL3 := hL2.fr hf3 fun _ _ => id
             have hF3 := hF2.trans hf3 fun _ _ => id
             have hs3 := Nat.le_trans hs2 hf3.size
             clear hf3 hB2 hC2 hI2 hJ2 hL2 hF2)
          | (refine wpList_load_aggG rfl 112 (.tmp 4) rfl C 0 rfl y1 _ (Calls.out _ hC3) Try.underlying112 rfl (by rw [Y1.out]; exact bun_size) ?_)
          | (go_at_call 65
             refine (few34_any _ _ _ b1 hJ3).mono ?_
             rintro e w4 ⟨rfl, hf4⟩
             rw [hfew1]
             have hB4 := hB3.fr hf4 id
             have hC4 := hC3.fr hf4 id
             have hI4 := hI3.fr hf4 fun _ _ => id
             have hJ4 := hJ3.fr hf4 fun _ _ => id
             have hL4 := hL3.fr hf4 fun _ _ => id
             have hF4 := hF3.trans hf4 fun _ _ => id
             have hs4 := Nat.le_trans hs3 hf4.size
             clear hf4 hB3 hC3 hI3 hJ3 hL3 hF3)
          | (refine wpList_load_agg rfl 112 (.tmp 3) rfl B 0 rfl y0 _ (Hall.out _ hB4) Try.underlying112 rfl (by rw [Y0.out]; exact bun_size) ?_)
          | (go_at_call 66
             refine (bunPut_any _ _ _ b0 hI4 (fun k hk => by omega) Fsz.out Ftot.out).mono ?_
             rintro e w5 ⟨A5, c5, rfl, hf5, hO5, hin5⟩
             have hX5 : Byt w5 (fun _ => True) A5 (bunOut b0).length (bunOut b0) := hO5.arr fun _ _ _ => trivial
             obtain ⟨X, hX⟩ : ∃ X, X = bunOut b0 := ⟨_, rfl⟩
             obtain ⟨er, her⟩ : ∃ er, er = bunErr b0 := ⟨_, rfl⟩
             rw [← hX] at hX5 ⊢
             rw [← her]
             have HX := Lib.hid hX
             have Her := Lib.hid her
             obtain ⟨nx, hnx⟩ : ∃ nx, nx = X.length := ⟨_, rfl⟩
             rw [← hnx] at hX5 ⊢
             have hB5 := hB4.fr hf5 id
             have hC5 := hC4.fr hf5 id
             have hI5 := hI4.fr hf5 fun _ _ => id
             have hJ5 := hJ4.fr hf5 fun _ _ => id
             have hL5 := hL4.fr hf5 fun _ _ => id
             have hF5 := hF4.trans hf5 fun _ _ => id
             have hs5 := Nat.le_trans hs4 hf5.size
             clear hnx hX her hf5 hO5 hin5 hB4 hC4 hI4 hJ4 hL4 hF4)
          | (refine wpList_load_agg rfl 112 (.tmp 3) rfl B 0 rfl y0 _ (Hall.out _ hB5) Try.underlying112 rfl (by rw [Y0.out]; exact bun_size) ?_)
          | (go_at_call 69
             refine (PutBundle_any _ _ _ b0 hI5 (fun k hk => by omega) Fsz2.out).mono ?_
             rintro e w6 ⟨A6, n6, c6, rfl, hf6, hZ6⟩
             rw [← HX.out] at hZ6
             rw [← Her.out]
             have hX6 := hX5.fr hf6 fun _ _ => id
             have hB6 := hB5.fr hf6 id
             have hC6 := hC5.fr hf6 id
             have hI6 := hI5.fr hf6 fun _ _ => id
             have hJ6 := hJ5.fr hf6 fun _ _ => id
             have hL6 := hL5.fr hf6 fun _ _ => id
             have hF6 := hF5.trans hf6 fun _ _ => id
             have hs6 := Nat.le_trans hs5 hf6.size
             clear hf6 hX5 hB5 hC5 hI5 hJ5 hL5 hF5)
          | (go_at_call 67
             refine (bunOf_any _ _ A n c l hL6 (by omega)).mono ?_
             rintro e w7 ⟨y7, rfl, hf7, hQ7⟩
             obtain ⟨t1, t2, t3⟩ := hQ7.cells
             have T1 := Lib.hid t1
             have T2 := Lib.hid t2
             have T3 := Lib.hid t3
             obtain ⟨bd, hbd⟩ : ∃ bd, bd = bunBad l := ⟨_, rfl⟩
             rw [← hbd]
             have Hbd := Lib.hid hbd
             clear t1 t2 t3 hbd)
          | (refine wpList_alloc_any rfl 112 rfl 2 bun_zero ?_; intro z hz; have Hz := Lib.hid hz; clear hz)
          | (refine wpList_store_newN rfl 112 (.tmp 11) (.tmp 43) rfl 2 bun_size _ z Hz.out y7.toArray rfl rfl T2.out T3.out ?_
             clear Hz
             obtain ⟨g7, hg7⟩ : ∃ g7, g7 = w7.heap.size := ⟨_, rfl⟩
             obtain ⟨w8, hw8⟩ : ∃ w8, w8 = w7.alloc (.cells y7.toArray 112) := ⟨_, rfl⟩
             have hfa : Fr NoB w6 w8 := by rw [hw8]; exact hf7.alloc _
             have hX8 := hX6.fr hfa fun _ _ => id
             have hZ8 := hZ6.fr hfa fun _ _ => id
             have hB8 := hB6.fr hfa id
             have hC8 := hC6.fr hfa id
             have hI8 := hI6.fr hfa fun _ _ => id
             have hJ8 := hJ6.fr hfa fun _ _ => id
             have hL8 := hL6.fr hfa fun _ _ => id
             have hF8 := hF6.trans hfa fun _ _ => id
             have hs8 := Nat.le_trans hs6 hfa.size
             have hQ8 : BunR w8 _ y7 (bunOf l) := hQ7.fr (by rw [hw8]; exact (Fr.refl NoB w7).alloc _) fun _ _ => id
             have hg8 : Blk w8 g7 112 y7.toArray := by rw [hw8, hg7]; exact Blk.new _ _ _
             rw [← hw8]
             rw [← hg7]
             clear hw8 hg7 hfa hf7 hQ7 hX6 hZ6 hB6 hC6 hI6 hJ6 hL6 hF6)
          | (go_at_call 70
             refine (BundleOf_any w8 (fun k => k < B) (fun k hk => by omega) A n c l hL8 hle hcm (by omega)).mono ?_
             rintro e w9 ⟨y9, rfl, hf9, hQ9⟩
             obtain ⟨t1, t2, t3⟩ := hQ9.cells
             have U1 := Lib.hid t1
             have U2 := Lib.hid t2
             have U3 := Lib.hid t3
             rw [← Hbd.out]
             clear t1 t2 t3)
          | (refine wpList_store_newN rfl 112 (.tmp 13) (.tmp 48) rfl 2 bun_size _ z Hz.out y9.toArray rfl rfl U2.out U3.out ?_
             clear Hz
             obtain ⟨g9, hg9⟩ : ∃ g9, g9 = w9.heap.size := ⟨_, rfl⟩
             obtain ⟨w10, hw10⟩ : ∃ w10, w10 = w9.alloc (.cells y9.toArray 112) := ⟨_, rfl⟩
             have hfa : Fr NoB w8 w10 := by rw [hw10]; exact hf9.alloc _
             have hX10 := hX8.fr hfa fun _ _ => id
             have hZ10 := hZ8.fr hfa fun _ _ => id
             have hB10 := hB8.fr hfa id
             have hC10 := hC8.fr hfa id
             have hI10 := hI8.fr hfa fun _ _ => id
             have hJ10 := hJ8.fr hfa fun _ _ => id
             have hF10 := hF8.trans hfa fun _ _ => id
             have hQ10 := hQ8.fr hfa fun _ _ => id
             have hg10 := hg8.fr hfa id
             have hP10 : BunR w10 _ y9 (bunOf l) := hQ9.fr (by rw [hw10]; exact (Fr.refl NoB w9).alloc _) fun _ _ => id
             have hh10 : Blk w10 g9 112 y9.toArray := by rw [hw10, hg9]; exact Blk.new _ _ _
             rw [← hw10]
             rw [← hg9]
             clear hw10 hg9 hfa hf9 hQ9 hX8 hZ8 hB8 hC8 hI8 hJ8 hF8 hQ8 hg8))
        have Hv0 := Lib.hid (show decide (bunOf l = bunOf l) = true from by simp)
        have Hv1 := Lib.hid (show decide (b0 = b0) = true from by simp)
        obtain ⟨v, hv⟩ : ∃ v, decide (b0 = b1) = v := ⟨_, rfl⟩
        have Hv := Lib.hid hv
        clear hv
        refine wp_region_held (S := fun W => Fr NoB w10 W) rfl ?_
        have hS : Fr NoB w10 { w10 with drawn := w10.drawn + 1 } := Fr.drew (Fr.refl _ _)
        refine wpAnyH_take (i := 0) rfl (by decide +kernel) (by decide +kernel) (by decide +kernel) (fun _ _ _ h => h) (Or.inl ⟨by kernel_rfl, fun W hW => by go_simp; with_reducible rfl⟩) hS ?_
        refine wpAnyH_take (i := 2) rfl (by decide +kernel) (by decide +kernel) (by decide +kernel) (fun _ _ _ h => h) (Or.inl ⟨by kernel_rfl, fun W hW => by go_simp; with_reducible rfl⟩) hS ?_
        go_simp
        refine wpAnyH_take (i := 1) rfl (by decide +kernel) (by decide +kernel) (by decide +kernel) (fun _ _ _ h => h) (Or.inl ⟨by kernel_rfl, fun W hW => by have vv := (hX10.fr hW fun _ _ => id).str (P := Try.prog) Try.underlying22 Try.underlying5 Try.underlying9 c5; go_simp; with_reducible rfl⟩) hS ?_
        refine wpAnyH_take (i := 3) rfl (by decide +kernel) (by decide +kernel) (by decide +kernel) (fun _ _ _ h => h) (Or.inl ⟨by kernel_rfl, fun W hW => by have vv := (hZ10.fr hW fun _ _ => id).str (P := Try.prog) Try.underlying22 Try.underlying5 Try.underlying9 c6; go_simp; with_reducible rfl⟩) hS ?_
        go_simp
        refine wpAnyH_take (i := 4) rfl (by decide +kernel) (by decide +kernel) (by decide +kernel) (fun _ _ _ h => h) (Or.inl ⟨by kernel_rfl, fun W hW => by go_simp; with_reducible rfl⟩) hS ?_
        refine wpAnyH_take (i := 5) rfl (by decide +kernel) (by decide +kernel) (by decide +kernel) (fun _ _ _ h => h) (Or.inl ⟨by kernel_rfl, fun W hW => by go_simp; with_reducible rfl⟩) hS ?_
        go_simp
        refine wpAnyH_take (i := 6) rfl (by decide +kernel) (by decide +kernel) (by decide +kernel) (fun _ _ _ h => h) (Or.inl ⟨by kernel_rfl, fun W hW => by go_simp; with_reducible rfl⟩) hS ?_
        refine wpAnyH_take (i := 7) rfl (by decide +kernel) (by decide +kernel) (by decide +kernel) (fun _ _ _ h => h) (Or.inl ⟨by kernel_rfl, fun W hW => by go_simp; with_reducible rfl⟩) hS ?_
        refine wpAnyH_take (i := 8) rfl (by decide +kernel) (by decide +kernel) (by decide +kernel) (fun _ _ _ h => h) (Or.inl ⟨by kernel_rfl, fun W hW => by go_simp; with_reducible rfl⟩) hS ?_
        refine wpAnyH_take (i := 9) rfl (by decide +kernel) (by decide +kernel) (by decide +kernel) (fun _ _ _ h => h) (Or.inl ⟨by kernel_rfl, fun W hW => by go_simp; with_reducible rfl⟩) hS ?_
        refine wpAnyH_take (i := 10) rfl (by decide +kernel) (by decide +kernel) (by decide +kernel) (fun _ _ _ h => h) (Or.inl ⟨by kernel_rfl, fun W hW => by go_simp; with_reducible rfl⟩) hS ?_
        go_simp
        refine wpAnyH_take (i := 11) rfl (by decide +kernel) (by decide +kernel) (by decide +kernel) (fun _ _ _ h => h) (Or.inl ⟨by kernel_rfl, fun W hW => by go_simp; with_reducible rfl⟩) hS ?_
        refine wpAnyH_take (i := 12) rfl (by decide +kernel) (by decide +kernel) (by decide +kernel) (fun _ _ _ h => h) (Or.inl ⟨by kernel_rfl, fun W hW => by go_simp; with_reducible rfl⟩) hS ?_
        refine wpAnyH_take (i := 13) rfl (by decide +kernel) (by decide +kernel) (by decide +kernel) (fun _ _ _ h => h) (Or.inl ⟨by kernel_rfl, fun W hW => by go_simp; with_reducible rfl⟩) hS ?_
        refine wpAnyH_take (i := 14) rfl (by decide +kernel) (by decide +kernel) (by decide +kernel) (fun _ _ _ h => h) (Or.inl ⟨by kernel_rfl, fun W hW => by go_simp; with_reducible rfl⟩) hS ?_
        refine wpAnyH_take (i := 15) rfl (by decide +kernel) (by decide +kernel) (by decide +kernel) (fun _ _ _ h => h) (Or.inl ⟨by kernel_rfl, fun W hW => by go_simp; with_reducible rfl⟩) hS ?_
        go_simp
        refine wpAnyH_take (i := 16) rfl (by decide +kernel) (by decide +kernel) (by decide +kernel) (fun _ _ _ h => h) (Or.inl ⟨by kernel_rfl, fun W hW => exec_load_agg 112 (.tmp 11) rfl g7 0 rfl y7 _ (fun j u hu => Fr.cell' hW (show _ = _ by rw [Nat.zero_add, hg10.cell]; simpa using hu) id) Try.underlying112 rfl (by rw [T1.out]; exact bun_size)⟩) hS ?_
        refine wpAnyH_take (i := 17) rfl (by decide +kernel) (by decide +kernel) (by decide +kernel) (fun _ _ _ h => h) (Or.inl ⟨by kernel_rfl, fun W hW => exec_load_agg 112 (.tmp 13) rfl g9 0 rfl y9 _ (fun j u hu => Fr.cell' hW (show _ = _ by rw [Nat.zero_add, hh10.cell]; simpa using hu) id) Try.underlying112 rfl (by rw [U1.out]; exact bun_size)⟩) hS ?_
        go_simp
        refine wpAnyH_all (rs := [18]) (by decide +kernel) (by simp) ?_
        intro i hi
        simp only [List.mem_cons, List.not_mem_nil, or_false] at hi
        subst hi
        refine wpOp_call rfl rfl 68 (enters_of Try.func68 (by kernel_rfl) rfl) #[.tmp 66, .tmp 67] _ rfl _ rfl (by have h := SameBundle_any _ _ _ _ _ _ _ (hQ10.fr hS fun _ _ => id) (hP10.fr hS fun _ _ => id); rw [Hv0.out] at h; exact h) ?_
        rintro e w11 ⟨rfl, hf⟩
        replace hS := hS.trans hf fun _ _ => id
        clear hf
        refine ⟨_, rfl, hS, ?_⟩
        go_simp
        refine wpAnyH_take (i := 19) rfl (by decide +kernel) (by decide +kernel) (by decide +kernel) (fun _ _ _ h => h) (Or.inl ⟨by kernel_rfl, fun W hW => by go_simp; with_reducible rfl⟩) hS ?_
        refine wpAnyH_take (i := 20) rfl (by decide +kernel) (by decide +kernel) (by decide +kernel) (fun _ _ _ h => h) (Or.inl ⟨by kernel_rfl, fun W hW => by go_simp; with_reducible rfl⟩) hS ?_
        go_simp
        refine wpAnyH_take (i := 21) rfl (by decide +kernel) (by decide +kernel) (by decide +kernel) (fun _ _ _ h => h) (Or.inl ⟨by kernel_rfl, fun W hW => exec_load_agg 112 (.tmp 3) rfl B 0 rfl y0 _ (fun j u hu => Fr.cell' hW (show _ = _ by rw [Nat.zero_add, hB10.cell]; simpa using hu) id) Try.underlying112 rfl (by rw [Y0.out]; exact bun_size)⟩) hS ?_
        refine wpAnyH_take (i := 22) rfl (by decide +kernel) (by decide +kernel) (by decide +kernel) (fun _ _ _ h => h) (Or.inl ⟨by kernel_rfl, fun W hW => exec_load_agg 112 (.tmp 4) rfl C 0 rfl y1 _ (fun j u hu => Fr.cell' hW (show _ = _ by rw [Nat.zero_add, hC10.cell]; simpa using hu) id) Try.underlying112 rfl (by rw [Y1.out]; exact bun_size)⟩) hS ?_
        refine wpAnyH_take (i := 24) rfl (by decide +kernel) (by decide +kernel) (by decide +kernel) (fun _ _ _ h => h) (Or.inl ⟨by kernel_rfl, fun W hW => exec_load_agg 112 (.tmp 3) rfl B 0 rfl y0 _ (fun j u hu => Fr.cell' hW (show _ = _ by rw [Nat.zero_add, hB10.cell]; simpa using hu) id) Try.underlying112 rfl (by rw [Y0.out]; exact bun_size)⟩) hS ?_
        refine wpAnyH_take (i := 25) rfl (by decide +kernel) (by decide +kernel) (by decide +kernel) (fun _ _ _ h => h) (Or.inl ⟨by kernel_rfl, fun W hW => exec_load_agg 112 (.tmp 4) rfl C 0 rfl y1 _ (fun j u hu => Fr.cell' hW (show _ = _ by rw [Nat.zero_add, hC10.cell]; simpa using hu) id) Try.underlying112 rfl (by rw [Y1.out]; exact bun_size)⟩) hS ?_
        go_simp
        refine wpAnyH_all (rs := [23]) (by decide +kernel) (by simp) ?_
        intro i hi
        simp only [List.mem_cons, List.not_mem_nil, or_false] at hi
        subst hi
        refine wpOp_call rfl rfl 71 (enters_of Try.func71 (by kernel_rfl) rfl) #[.tmp 71, .tmp 72] _ rfl _ rfl (by have h := bunSame_any _ _ _ _ _ _ _ (hI10.fr hS fun _ _ => id) (hJ10.fr hS fun _ _ => id); rw [Hv.out] at h; exact h) ?_
        rintro e w12 ⟨rfl, hf⟩
        replace hS := hS.trans hf fun _ _ => id
        clear hf
        refine ⟨_, rfl, hS, ?_⟩
        go_simp
        refine wpAnyH_all (rs := [26]) (by decide +kernel) (by simp) ?_
        intro i hi
        simp only [List.mem_cons, List.not_mem_nil, or_false] at hi
        subst hi
        refine wpOp_call rfl rfl 68 (enters_of Try.func68 (by kernel_rfl) rfl) #[.tmp 74, .tmp 75] _ rfl _ rfl (by have h := SameBundle_any _ _ _ _ _ _ _ (hI10.fr hS fun _ _ => id) (hJ10.fr hS fun _ _ => id); rw [Hv.out] at h; exact h) ?_
        rintro e w13 ⟨rfl, hf⟩
        replace hS := hS.trans hf fun _ _ => id
        clear hf
        refine ⟨_, rfl, hS, ?_⟩
        go_simp
        refine wpAnyH_take (i := 27) rfl (by decide +kernel) (by decide +kernel) (by decide +kernel) (fun _ _ _ h => h) (Or.inl ⟨by kernel_rfl, fun W hW => by go_simp; with_reducible rfl⟩) hS ?_
        refine wpAnyH_take (i := 28) rfl (by decide +kernel) (by decide +kernel) (by decide +kernel) (fun _ _ _ h => h) (Or.inl ⟨by kernel_rfl, fun W hW => by go_simp; with_reducible rfl⟩) hS ?_
        go_simp
        refine wpAnyH_take (i := 29) rfl (by decide +kernel) (by decide +kernel) (by decide +kernel) (fun _ _ _ h => h) (Or.inl ⟨by kernel_rfl, fun W hW => by go_simp; with_reducible rfl⟩) hS ?_
        go_simp
        refine wpAnyH_take (i := 30) rfl (by decide +kernel) (by decide +kernel) (by decide +kernel) (fun _ _ _ h => h) (Or.inl ⟨by kernel_rfl, fun W hW => exec_load_agg 112 (.tmp 3) rfl B 0 rfl y0 _ (fun j u hu => Fr.cell' hW (show _ = _ by rw [Nat.zero_add, hB10.cell]; simpa using hu) id) Try.underlying112 rfl (by rw [Y0.out]; exact bun_size)⟩) hS ?_
        refine wpAnyH_take (i := 31) rfl (by decide +kernel) (by decide +kernel) (by decide +kernel) (fun _ _ _ h => h) (Or.inl ⟨by kernel_rfl, fun W hW => exec_load_agg 112 (.tmp 3) rfl B 0 rfl y0 _ (fun j u hu => Fr.cell' hW (show _ = _ by rw [Nat.zero_add, hB10.cell]; simpa using hu) id) Try.underlying112 rfl (by rw [Y0.out]; exact bun_size)⟩) hS ?_
        go_simp
        refine wpAnyH_all (rs := [32]) (by decide +kernel) (by simp) ?_
        intro i hi
        simp only [List.mem_cons, List.not_mem_nil, or_false] at hi
        subst hi
        refine wpOp_call rfl rfl 71 (enters_of Try.func71 (by kernel_rfl) rfl) #[.tmp 80, .tmp 81] _ rfl _ rfl (by have h := bunSame_any _ _ _ _ _ _ _ (hI10.fr hS fun _ _ => id) (hI10.fr hS fun _ _ => id); rw [Hv1.out] at h; exact h) ?_
        rintro e w14 ⟨rfl, hf⟩
        replace hS := hS.trans hf fun _ _ => id
        clear hf
        refine ⟨_, rfl, hS, ?_⟩
        go_simp
        refine wpAnyH_take (i := 33) rfl (by decide +kernel) (by decide +kernel) (by decide +kernel) (fun _ _ _ h => h) (Or.inl ⟨by kernel_rfl, fun W hW => by go_simp; with_reducible rfl⟩) hS ?_
        refine wpAnyH_take (i := 34) rfl (by decide +kernel) (by decide +kernel) (by decide +kernel) (fun _ _ _ h => h) (Or.inl ⟨by kernel_rfl, fun W hW => by go_simp; with_reducible rfl⟩) hS ?_
        go_simp
        refine wpAnyH_done (by decide +kernel) ?_ _
        go_wp2
        go_ret
        exact ⟨rfl, Hfin.out _ (hF10.trans hS fun _ _ => id)⟩
      · have bn : decide (4000 < (n : Int)) = true := by simp only [decide_eq_true_eq]; omega
        go_enter Try.func17, Try.ntmps17
        go_wp2_with (first
          | (go_at_call 64
             rw [← Hw1.out, ← HC.out, ← HB.out]
             refine (awake34 _).mono ?_
             rintro e w2 ⟨rfl, hf2⟩
             have hB2 := hB1.fr hf2 id
             have hC2 := hC1.fr hf2 id
             have hI2 := hI1.fr hf2 fun _ _ => id
             have hJ2 := hJ1.fr hf2 fun _ _ => id
             have hL2 := hL1.fr hf2 fun _ _ => id
             have hF2 := hF1.trans hf2 fun _ _ => id
             have hs2 := Nat.le_trans hs1 hf2.size
             clear hf2)
          | (refine wpList_load_agg rfl 112 (.tmp 3) rfl B 0 rfl y0 _ (Hall.out _ hB2) Try.underlying112 rfl (by rw [Y0.out]; exact bun_size) ?_)
          | (go_at_call 65
             refine (few34_any _ _ _ b0 hI2).mono ?_
             rintro e w3 ⟨rfl, hf3⟩
             rw [hfew0]
             have hB3 := hB2.fr hf3 id
             have hC3 := hC2.fr hf3 id
             have hI3 := hI2.fr hf3 fun _ _ => id
             have hJ3 := hJ2.fr hf3 fun _ _ => id
             have hL3 := hL2.fr hf3 fun _ _ => id
             have hF3 := hF2.trans hf3 fun _ _ => id
             have hs3 := Nat.le_trans hs2 hf3.size
             clear hf3 hB2 hC2 hI2 hJ2 hL2 hF2)
          | (refine wpList_load_aggG rfl 112 (.tmp 4) rfl C 0 rfl y1 _ (Calls.out _ hC3) Try.underlying112 rfl (by rw [Y1.out]; exact bun_size) ?_)
          | (go_at_call 65
             refine (few34_any _ _ _ b1 hJ3).mono ?_
             rintro e w4 ⟨rfl, hf4⟩
             rw [hfew1]
             have hB4 := hB3.fr hf4 id
             have hC4 := hC3.fr hf4 id
             have hI4 := hI3.fr hf4 fun _ _ => id
             have hJ4 := hJ3.fr hf4 fun _ _ => id
             have hL4 := hL3.fr hf4 fun _ _ => id
             have hF4 := hF3.trans hf4 fun _ _ => id
             have hs4 := Nat.le_trans hs3 hf4.size
             clear hf4 hB3 hC3 hI3 hJ3 hL3 hF3))
        go_ret
        exact ⟨rfl, Hfin.out _ hF4⟩
end Go.Proofs.Ytnkfchondedfcaa
