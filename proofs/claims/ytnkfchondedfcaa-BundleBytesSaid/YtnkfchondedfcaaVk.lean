/-
  The statement BundleBack: a bundle that is put is read as it was, and what is read is put as it was (the walk). Conditions: none but that the arguments can be read.
-/
import Derived.Test.YtnkfchondedfcaaVj
namespace Go.Proofs.Ytnkfchondedfcaa
open Go.RowKit

theorem texts_len : ∀ (l : List (List UInt8)), (∀ x ∈ l, x.length ≤ 1000) → (l.flatMap textBytes).length ≤ 1010 * l.length
  | [], _ => by simp
  | x :: l, h => by
    have hx := h x (List.mem_cons_self ..)
    have e := textBytes_lenE x (by omega)
    have ih := texts_len l fun s hs => h s (List.mem_cons_of_mem _ hs)
    rw [List.flatMap_cons, List.length_append, List.length_cons]
    omega
theorem refs_len : ∀ (l : List Ref), (∀ x ∈ l, x.name.size ≤ 64) → (l.flatMap refBytes).length ≤ 106 * l.length
  | [], _ => by simp
  | x :: l, h => by
    have hx := refBytes_len (h x (List.mem_cons_self ..))
    have ih := refs_len l fun s hs => h s (List.mem_cons_of_mem _ hs)
    rw [List.flatMap_cons, List.length_append, List.length_cons]
    omega
theorem fewBun_of {b : Bun} (h : fewBun b = true) : (∀ x ∈ b.objs, x.length ≤ 1000) ∧ b.objs.length ≤ 30 := by
  unfold fewBun at h
  simp only [Bool.and_eq_true, decide_eq_true_eq, List.all_eq_true] at h
  exact ⟨h.1, h.2.2.2⟩
theorem bunOut_len {b : Bun} (h : fewBun b = true) : (bunOut b).length ≤ 1000000 := by
  obtain ⟨h1, h2⟩ := fewBun_of h
  unfold bunOut
  split
  · rename_i hm
    obtain ⟨a1, a2, a3⟩ := bunMay_of hm
    have e1 := encN_len64 (n := b.refs.length) (by omega)
    have e2 := encN_len64 (n := b.objs.length) (by omega)
    have e3 := refs_len b.refs a2
    have e4 := texts_len b.objs h1
    unfold bunBytes
    simp only [List.length_append]
    omega
  · simp
theorem bunOf_objs (l : List UInt8) : ∀ x ∈ (bunOf l).objs, x.length ≤ 110000 := by
  intro x hx
  unfold bunOf at hx
  split at hx
  · unfold bunParse at hx
    exact objsGo_size _ _ x hx
  · simp [zeroBun] at hx
theorem bunOf_tot {l : List UInt8} (hl : l.length ≤ 4000) : ((bunOf l).objs.flatMap textBytes).length ≤ 1000000000 := by
  cases h : bunIs l with
  | true =>
    have := (bun_again h).2
    have e : (bunBytes (bunOf l)).length = l.length := by rw [this]
    unfold bunBytes at e
    simp only [List.length_append] at e
    omega
  | false => simp [bunOf, h, zeroBun]
theorem BunR.tight {w : World} {F : Nat → Prop} {y : List Value} {b : Bun} (h : BunR w F y b) : BunR w (fun k => F k ∧ k < w.heap.size) y b := by
  obtain ⟨A, n, c, B, m, d, h1, h2, h3, h4, h5, h6, h7⟩ := h
  exact ⟨A, n, c, B, m, d, h1, h2, h3, ArrOf.more h4 (by omega) (fun k hk h => ⟨h, hk⟩) fun _ _ _ h => h, h5, h6, h7.more fun k hk h => ⟨h, hk⟩⟩
theorem BunR.cells {w : World} {F : Nat → Prop} {y : List Value} {b : Bun} (h : BunR w F y b) : y.length = 2 ∧ y.toArray.size = 2 ∧ y.toArray.all (·.oneCell') = true := by
  obtain ⟨A, n, c, B, m, d, rfl, _⟩ := h
  exact ⟨rfl, rfl, bunCells_ones _ _ _ _ _ _⟩

set_option maxRecDepth 100000 in
set_option maxHeartbeats 8000000 in
theorem BundleBack_any (w : World) (y : List Value) (b : Bun) (A : Option Addr) (n c : Nat) (l : List UInt8) (hy : BunR w (fun k => k < w.heap.size) y b) (hl : Byt w (fun k => k < w.heap.size) A n l) :
    Calls Try.prog 16 #[.agg y.toArray, .slice A n c] w fun e w' => e = .returned (.bool true) ∧ Below w.heap.size w w' := by
  have hfin : ∀ w', Fr NoB w w' → Below w.heap.size w w' := fun w' h => Fr.below h (Nat.le_refl _) fun _ _ => id
  have Hfin := Lib.hid hfin
  have hll := hl.len
  obtain ⟨cy1, cy2, cy3⟩ := hy.cells
  have Y2l := Lib.hid cy1
  have hF1 : Fr NoB w (w.alloc (.cells y.toArray 112)) := (Fr.refl _ _).alloc _
  have hB1 : Blk (w.alloc (.cells y.toArray 112)) w.heap.size 112 y.toArray := Blk.new _ _ _
  have hI1 := hy.fr hF1 fun _ _ => id
  have hL1 := hl.fr hF1 fun _ _ => id
  obtain ⟨B, hB⟩ : ∃ B, B = w.heap.size := ⟨_, rfl⟩
  obtain ⟨w1, hw1⟩ : ∃ w1, w1 = w.alloc (.cells y.toArray 112) := ⟨_, rfl⟩
  have hs1 : B + 1 ≤ w1.heap.size := by rw [hw1, hB]; simp
  rw [← hw1] at hF1 hB1 hI1 hL1
  rw [← hB] at hB1 hI1 hL1
  have Hw1 := Lib.hid hw1
  have HB := Lib.hid hB
  have hall := fun W (h : Blk W B 112 y.toArray) => (show ∀ j u, y[j]? = some u → W.cell? ⟨B, 0 + j, none⟩ = some u from fun j u hu => by rw [Nat.zero_add, h.cell]; simpa using hu)
  have Hall := Lib.hid hall
  clear hfin hy hl hw1 hB hall cy1 cy2 cy3
  cases hfew : fewBun b with
  | false =>
    go_enter Try.func16, Try.ntmps16
    go_wp2_with (first
      | (go_at_call 64
         rw [← Hw1.out, ← HB.out]
         refine (awake34 _).mono ?_
         rintro e w2 ⟨rfl, hf2⟩
         have hB2 := hB1.fr hf2 id
         have hI2 := hI1.fr hf2 fun _ _ => id)
      | (refine wpList_load_agg rfl 112 (.tmp 2) rfl B 0 rfl y _ (Hall.out _ hB2) Try.underlying112 rfl (by rw [Y2l.out]; exact bun_size) ?_)
      | (go_at_call 65
         refine (few34_any _ _ _ b hI2).mono ?_
         rintro e w3 ⟨rfl, hf3⟩
         rw [hfew]))
    go_ret
    exact ⟨rfl, Hfin.out _ ((hF1.trans hf2 fun _ _ => id).trans hf3 fun _ _ => id)⟩
  | true =>
    by_cases hn : n ≤ 4000
    · have bn : decide (4000 < (n : Int)) = false := by simp only [decide_eq_false_iff_not]; omega
      obtain ⟨f1, f2⟩ := fewBun_of hfew
      have f3 := Nat.le_trans (texts_len b.objs f1) (show 1010 * b.objs.length ≤ 1000000000 by omega)
      have Fsz := Lib.hid (show ∀ x ∈ b.objs, x.length ≤ 70368744177664 from fun x hx => by have := f1 x hx; omega)
      have Ftot := Lib.hid f3
      have Xlen := Lib.hid (bunOut_len hfew)
      have Zsz := Lib.hid (show ∀ x ∈ (bunOf l).objs, x.length ≤ 70368744177664 from fun x hx => by have := bunOf_objs l x hx; omega)
      have Ztot := Lib.hid (bunOf_tot (l := l) (by omega))
      clear f1 f2 f3
      cases hmay : bunMay b with
      | true =>
        have HEx : Hid (bunErr b = 0) := by show _ = _; rw [bunErr, if_pos hmay]
        have hbb := bun_back hmay
        have hout : bunOut b = bunBytes b := by rw [bunOut, if_pos hmay]
        have HBx : Hid (bunBad (bunOut b) = 0) := by show _ = _; rw [hout, bunBad, if_pos hbb.1]
        have HOf : Hid (bunOf (bunOut b) = b) := by show _ = _; rw [hout, hbb.2]
        clear hbb hout hmay
        cases hraw : bunIs l with
        | true =>
          have HBl : Hid (bunBad l = 0) := by show _ = _; rw [bunBad, if_pos hraw]
          have hag := bun_again hraw
          have HEz : Hid (bunErr (bunOf l) = 0) := by show _ = _; rw [bunErr, if_pos hag.1]
          have HOz : Hid (bunOut (bunOf l) = l) := by show _ = _; rw [bunOut, if_pos hag.1, hag.2]
          clear hag hraw
          go_enter Try.func16, Try.ntmps16
          go_wp2_with (first
            | (go_at_call 64
               rw [← Hw1.out, ← HB.out]
               refine (awake34 _).mono ?_
               rintro e w2 ⟨rfl, hf2⟩
               have hB2 := hB1.fr hf2 id
               have hI2 := hI1.fr hf2 fun _ _ => id
               have hL2 := hL1.fr hf2 fun _ _ => id
               have hF2 := hF1.trans hf2 fun _ _ => id
               have hs2 := Nat.le_trans hs1 hf2.size)
            | (refine wpList_load_agg rfl 112 (.tmp 2) rfl B 0 rfl y _ (Hall.out _ hB2) Try.underlying112 rfl (by rw [Y2l.out]; exact bun_size) ?_)
            | (go_at_call 65
               refine (few34_any _ _ _ b hI2).mono ?_
               rintro e w3 ⟨rfl, hf3⟩
               rw [hfew]
               have hB3 := hB2.fr hf3 id
               have hI3 := hI2.fr hf3 fun _ _ => id
               have hL3 := hL2.fr hf3 fun _ _ => id
               have hF3 := hF2.trans hf3 fun _ _ => id
               have hs3 := Nat.le_trans hs2 hf3.size
               clear hf2 hf3 hB2 hI2 hL2 hF2)
            | (refine wpList_load_agg rfl 112 (.tmp 2) rfl B 0 rfl y _ (Hall.out _ hB3) Try.underlying112 rfl (by rw [Y2l.out]; exact bun_size) ?_)
            | (go_at_call 66
               refine (bunPut_any _ _ _ b hI3 (fun k hk => by omega) Fsz.out Ftot.out).mono ?_
               rintro e w4 ⟨A4, c4, rfl, hf4, hO4, hin4⟩
               rw [HEx.out]
               have hX4 : Byt w4 (fun _ => True) A4 (bunOut b).length (bunOut b) := hO4.arr fun _ _ _ => trivial
               have hx4 : (bunOut b).length ≤ 1000000 := Xlen.out
               obtain ⟨X, hX⟩ : ∃ X, X = bunOut b := ⟨_, rfl⟩
               rw [← hX] at hX4 hx4 ⊢
               obtain ⟨nx, hnx⟩ : ∃ nx, nx = X.length := ⟨_, rfl⟩
               rw [← hnx] at hX4 hx4 ⊢
               have HX := Lib.hid hX
               have hB4 := hB3.fr hf4 id
               have hI4 := hI3.fr hf4 fun _ _ => id
               have hL4 := hL3.fr hf4 fun _ _ => id
               have hF4 := hF3.trans hf4 fun _ _ => id
               have hs4 := Nat.le_trans hs3 hf4.size
               clear hnx hX hf4 hO4 hin4 hB3 hI3 hL3 hF3)
            | (go_at_call 67
               refine (bunOf_any _ _ A4 nx c4 X hX4 (by omega)).mono ?_
               rintro e w5 ⟨y5, rfl, hf5, hQ5⟩
               obtain ⟨t1, t2, t3⟩ := hQ5.cells
               have T1 := Lib.hid t1
               have T2 := Lib.hid t2
               have T3 := Lib.hid t3
               rw [HX.out, HBx.out]
               clear t1 t2 t3)
            | (refine wpList_alloc_any rfl 112 rfl 2 bun_zero ?_; intro z hz; have Hz := Lib.hid hz; clear hz)
            | (refine wpList_store_newN rfl 112 (.tmp 7) (.tmp 31) rfl 2 bun_size _ z Hz.out y5.toArray rfl rfl T2.out T3.out ?_
               clear Hz
               obtain ⟨g7, hg7⟩ : ∃ g7, g7 = w5.heap.size := ⟨_, rfl⟩
               obtain ⟨w6, hw6⟩ : ∃ w6, w6 = w5.alloc (.cells y5.toArray 112) := ⟨_, rfl⟩
               have hfa : Fr NoB w4 w6 := by rw [hw6]; exact hf5.alloc _
               have hB6 := hB4.fr hfa id
               have hI6 := hI4.fr hfa fun _ _ => id
               have hL6 := hL4.fr hfa fun _ _ => id
               have hF6 := hF4.trans hfa fun _ _ => id
               have hs6 := Nat.le_trans hs4 hfa.size
               have hQ6 : BunR w6 (fun k => w4.heap.size ≤ k) y5 (bunOf X) := hQ5.fr (by rw [hw6]; exact (Fr.refl NoB w5).alloc _) fun _ _ => id
               have hg6 : Blk w6 g7 112 y5.toArray := by rw [hw6, hg7]; exact Blk.new _ _ _
               have hall6 : ∀ j u, y5[j]? = some u → w6.cell? ⟨g7, 0 + j, none⟩ = some u := fun j u hu => by rw [Nat.zero_add, hg6.cell]; simpa using hu
               rw [← hw6]
               rw [← hg7]
               clear hw6 hg7 hfa hf5 hQ5 hB4 hI4 hF4 hX4)
            | (refine wpList_load_aggG rfl 112 (.tmp 7) rfl g7 0 rfl y5 _ hall6 Try.underlying112 rfl (by rw [T1.out]; exact bun_size) ?_)
            | (refine wpList_load_aggG rfl 112 (.tmp 2) rfl B 0 rfl y _ (Hall.out _ hB6) Try.underlying112 rfl (by rw [Y2l.out]; exact bun_size) ?_)
            | (go_at_call 68
               refine (SameBundle_any _ _ _ _ _ _ _ hQ6 hI6).mono ?_
               rintro e w7 ⟨rfl, hf7⟩
               rw [HX.out, HOf.out, decide_eq_true rfl]
               have hL7 := hL6.fr hf7 fun _ _ => id
               have hF7 := hF6.trans hf7 fun _ _ => id)
            | (go_at_call 67
               refine (bunOf_any _ _ A n c l hL7 (by omega)).mono ?_
               rintro e w8 ⟨y8, rfl, hf8, hQ8⟩
               obtain ⟨t1, t2, t3⟩ := hQ8.cells
               have U1 := Lib.hid t1
               have U2 := Lib.hid t2
               have U3 := Lib.hid t3
               rw [HBl.out]
               clear t1 t2 t3)
            | (refine wpList_store_newN rfl 112 (.tmp 9) (.tmp 48) rfl 2 bun_size _ z Hz.out y8.toArray rfl rfl U2.out U3.out ?_
               clear Hz
               obtain ⟨g9, hg9⟩ : ∃ g9, g9 = w8.heap.size := ⟨_, rfl⟩
               obtain ⟨w9, hw9⟩ : ∃ w9, w9 = w8.alloc (.cells y8.toArray 112) := ⟨_, rfl⟩
               have hfa : Fr NoB w7 w9 := by rw [hw9]; exact hf8.alloc _
               have hL9 := hL7.fr hfa fun _ _ => id
               have hF9 := hF7.trans hfa fun _ _ => id
               have hQ9 := (hQ8.fr (by rw [hw9]; exact (Fr.refl NoB w8).alloc _) fun _ _ => id : BunR w9 _ y8 (bunOf l)).tight
               have hg9b : Blk w9 g9 112 y8.toArray := by rw [hw9, hg9]; exact Blk.new _ _ _
               have hall9 : ∀ j u, y8[j]? = some u → w9.cell? ⟨g9, 0 + j, none⟩ = some u := fun j u hu => by rw [Nat.zero_add, hg9b.cell]; simpa using hu
               rw [← hw9]
               rw [← hg9]
               clear hw9 hg9 hfa hf8 hQ8)
            | (refine wpList_load_agg rfl 112 (.tmp 9) rfl g9 0 rfl y8 _ hall9 Try.underlying112 rfl (by rw [U1.out]; exact bun_size) ?_)
            | (go_at_call 66
               refine (bunPut_any _ _ _ (bunOf l) hQ9 (fun k hk => hk.2) Zsz.out Ztot.out).mono ?_
               rintro e w10 ⟨A10, c10, rfl, hf10, hO10, hin10⟩
               have hF10 := hF9.trans hf10 fun _ _ => id
               rw [HEz.out]
               have hb10 : Byt w10 (fun _ => True) A10 (bunOut (bunOf l)).length (bunOut (bunOf l)) := hO10.arr fun _ _ _ => trivial
               rw [HOz.out] at hb10 ⊢
               have v1 := hb10.str (P := Try.prog) Try.underlying22 Try.underlying5 Try.underlying9 c10
               rw [hll] at v1
               have v2 := (hL9.fr hf10 fun _ _ => id).str (P := Try.prog) Try.underlying22 Try.underlying5 Try.underlying9 c
               clear hf10 hin10 hO10))
          go_ret
          exact ⟨rfl, Hfin.out _ hF10⟩
        | false =>
          have HBl : Hid (bunBad l = 340) := by show _ = _; rw [bunBad, if_neg (by simp [hraw])]
          clear hraw
          go_enter Try.func16, Try.ntmps16
          go_wp2_with (first
            | (go_at_call 64
               rw [← Hw1.out, ← HB.out]
               refine (awake34 _).mono ?_
               rintro e w2 ⟨rfl, hf2⟩
               have hB2 := hB1.fr hf2 id
               have hI2 := hI1.fr hf2 fun _ _ => id
               have hL2 := hL1.fr hf2 fun _ _ => id
               have hF2 := hF1.trans hf2 fun _ _ => id
               have hs2 := Nat.le_trans hs1 hf2.size)
            | (refine wpList_load_agg rfl 112 (.tmp 2) rfl B 0 rfl y _ (Hall.out _ hB2) Try.underlying112 rfl (by rw [Y2l.out]; exact bun_size) ?_)
            | (go_at_call 65
               refine (few34_any _ _ _ b hI2).mono ?_
               rintro e w3 ⟨rfl, hf3⟩
               rw [hfew]
               have hB3 := hB2.fr hf3 id
               have hI3 := hI2.fr hf3 fun _ _ => id
               have hL3 := hL2.fr hf3 fun _ _ => id
               have hF3 := hF2.trans hf3 fun _ _ => id
               have hs3 := Nat.le_trans hs2 hf3.size
               clear hf2 hf3 hB2 hI2 hL2 hF2)
            | (refine wpList_load_agg rfl 112 (.tmp 2) rfl B 0 rfl y _ (Hall.out _ hB3) Try.underlying112 rfl (by rw [Y2l.out]; exact bun_size) ?_)
            | (go_at_call 66
               refine (bunPut_any _ _ _ b hI3 (fun k hk => by omega) Fsz.out Ftot.out).mono ?_
               rintro e w4 ⟨A4, c4, rfl, hf4, hO4, hin4⟩
               rw [HEx.out]
               have hX4 : Byt w4 (fun _ => True) A4 (bunOut b).length (bunOut b) := hO4.arr fun _ _ _ => trivial
               have hx4 : (bunOut b).length ≤ 1000000 := Xlen.out
               obtain ⟨X, hX⟩ : ∃ X, X = bunOut b := ⟨_, rfl⟩
               rw [← hX] at hX4 hx4 ⊢
               obtain ⟨nx, hnx⟩ : ∃ nx, nx = X.length := ⟨_, rfl⟩
               rw [← hnx] at hX4 hx4 ⊢
               have HX := Lib.hid hX
               have hB4 := hB3.fr hf4 id
               have hI4 := hI3.fr hf4 fun _ _ => id
               have hL4 := hL3.fr hf4 fun _ _ => id
               have hF4 := hF3.trans hf4 fun _ _ => id
               have hs4 := Nat.le_trans hs3 hf4.size
               clear hnx hX hf4 hO4 hin4 hB3 hI3 hL3 hF3)
            | (go_at_call 67
               refine (bunOf_any _ _ A4 nx c4 X hX4 (by omega)).mono ?_
               rintro e w5 ⟨y5, rfl, hf5, hQ5⟩
               obtain ⟨t1, t2, t3⟩ := hQ5.cells
               have T1 := Lib.hid t1
               have T2 := Lib.hid t2
               have T3 := Lib.hid t3
               rw [HX.out, HBx.out]
               clear t1 t2 t3)
            | (refine wpList_alloc_any rfl 112 rfl 2 bun_zero ?_; intro z hz; have Hz := Lib.hid hz; clear hz)
            | (refine wpList_store_newN rfl 112 (.tmp 7) (.tmp 31) rfl 2 bun_size _ z Hz.out y5.toArray rfl rfl T2.out T3.out ?_
               clear Hz
               obtain ⟨g7, hg7⟩ : ∃ g7, g7 = w5.heap.size := ⟨_, rfl⟩
               obtain ⟨w6, hw6⟩ : ∃ w6, w6 = w5.alloc (.cells y5.toArray 112) := ⟨_, rfl⟩
               have hfa : Fr NoB w4 w6 := by rw [hw6]; exact hf5.alloc _
               have hB6 := hB4.fr hfa id
               have hI6 := hI4.fr hfa fun _ _ => id
               have hL6 := hL4.fr hfa fun _ _ => id
               have hF6 := hF4.trans hfa fun _ _ => id
               have hs6 := Nat.le_trans hs4 hfa.size
               have hQ6 : BunR w6 (fun k => w4.heap.size ≤ k) y5 (bunOf X) := hQ5.fr (by rw [hw6]; exact (Fr.refl NoB w5).alloc _) fun _ _ => id
               have hg6 : Blk w6 g7 112 y5.toArray := by rw [hw6, hg7]; exact Blk.new _ _ _
               have hall6 : ∀ j u, y5[j]? = some u → w6.cell? ⟨g7, 0 + j, none⟩ = some u := fun j u hu => by rw [Nat.zero_add, hg6.cell]; simpa using hu
               rw [← hw6]
               rw [← hg7]
               clear hw6 hg7 hfa hf5 hQ5 hB4 hI4 hF4 hX4)
            | (refine wpList_load_aggG rfl 112 (.tmp 7) rfl g7 0 rfl y5 _ hall6 Try.underlying112 rfl (by rw [T1.out]; exact bun_size) ?_)
            | (refine wpList_load_aggG rfl 112 (.tmp 2) rfl B 0 rfl y _ (Hall.out _ hB6) Try.underlying112 rfl (by rw [Y2l.out]; exact bun_size) ?_)
            | (go_at_call 68
               refine (SameBundle_any _ _ _ _ _ _ _ hQ6 hI6).mono ?_
               rintro e w7 ⟨rfl, hf7⟩
               rw [HX.out, HOf.out, decide_eq_true rfl]
               have hL7 := hL6.fr hf7 fun _ _ => id
               have hF7 := hF6.trans hf7 fun _ _ => id)
            | (go_at_call 67
               refine (bunOf_any _ _ A n c l hL7 (by omega)).mono ?_
               rintro e w8 ⟨y8, rfl, hf8, hQ8⟩
               obtain ⟨t1, t2, t3⟩ := hQ8.cells
               have U1 := Lib.hid t1
               have U2 := Lib.hid t2
               have U3 := Lib.hid t3
               rw [HBl.out]
               clear t1 t2 t3)
            | (refine wpList_store_newN rfl 112 (.tmp 9) (.tmp 48) rfl 2 bun_size _ z Hz.out y8.toArray rfl rfl U2.out U3.out ?_
               clear Hz
               obtain ⟨g9, hg9⟩ : ∃ g9, g9 = w8.heap.size := ⟨_, rfl⟩
               obtain ⟨w9, hw9⟩ : ∃ w9, w9 = w8.alloc (.cells y8.toArray 112) := ⟨_, rfl⟩
               have hfa : Fr NoB w7 w9 := by rw [hw9]; exact hf8.alloc _
               have hL9 := hL7.fr hfa fun _ _ => id
               have hF9 := hF7.trans hfa fun _ _ => id
               have hQ9 := (hQ8.fr (by rw [hw9]; exact (Fr.refl NoB w8).alloc _) fun _ _ => id : BunR w9 _ y8 (bunOf l)).tight
               have hg9b : Blk w9 g9 112 y8.toArray := by rw [hw9, hg9]; exact Blk.new _ _ _
               have hall9 : ∀ j u, y8[j]? = some u → w9.cell? ⟨g9, 0 + j, none⟩ = some u := fun j u hu => by rw [Nat.zero_add, hg9b.cell]; simpa using hu
               rw [← hw9]
               rw [← hg9]
               clear hw9 hg9 hfa hf8 hQ8)
            | (refine wpList_load_agg rfl 112 (.tmp 9) rfl g9 0 rfl y8 _ hall9 Try.underlying112 rfl (by rw [U1.out]; exact bun_size) ?_)
            | (go_at_call 66
               refine (bunPut_any _ _ _ (bunOf l) hQ9 (fun k hk => hk.2) Zsz.out Ztot.out).mono ?_
               rintro e w10 ⟨A10, c10, rfl, hf10, hO10, hin10⟩
               have hF10 := hF9.trans hf10 fun _ _ => id
               generalize bunErr (bunOf l) = ez at *
               generalize (bunOut (bunOf l)).length = lz at *
               clear hf10 hin10 hO10))
          go_ret
          exact ⟨rfl, Hfin.out _ hF10⟩
      | false =>
        have HEx : Hid (bunErr b = 340) := by show _ = _; rw [bunErr, if_neg (by simp [hmay])]
        clear hmay
        cases hraw : bunIs l with
        | true =>
          have HBl : Hid (bunBad l = 0) := by show _ = _; rw [bunBad, if_pos hraw]
          have hag := bun_again hraw
          have HEz : Hid (bunErr (bunOf l) = 0) := by show _ = _; rw [bunErr, if_pos hag.1]
          have HOz : Hid (bunOut (bunOf l) = l) := by show _ = _; rw [bunOut, if_pos hag.1, hag.2]
          clear hag hraw
          go_enter Try.func16, Try.ntmps16
          go_wp2_with (first
            | (go_at_call 64
               rw [← Hw1.out, ← HB.out]
               refine (awake34 _).mono ?_
               rintro e w2 ⟨rfl, hf2⟩
               have hB2 := hB1.fr hf2 id
               have hI2 := hI1.fr hf2 fun _ _ => id
               have hL2 := hL1.fr hf2 fun _ _ => id
               have hF2 := hF1.trans hf2 fun _ _ => id
               have hs2 := Nat.le_trans hs1 hf2.size)
            | (refine wpList_load_agg rfl 112 (.tmp 2) rfl B 0 rfl y _ (Hall.out _ hB2) Try.underlying112 rfl (by rw [Y2l.out]; exact bun_size) ?_)
            | (go_at_call 65
               refine (few34_any _ _ _ b hI2).mono ?_
               rintro e w3 ⟨rfl, hf3⟩
               rw [hfew]
               have hB3 := hB2.fr hf3 id
               have hI3 := hI2.fr hf3 fun _ _ => id
               have hL3 := hL2.fr hf3 fun _ _ => id
               have hF3 := hF2.trans hf3 fun _ _ => id
               have hs3 := Nat.le_trans hs2 hf3.size
               clear hf2 hf3 hB2 hI2 hL2 hF2)
            | (refine wpList_load_agg rfl 112 (.tmp 2) rfl B 0 rfl y _ (Hall.out _ hB3) Try.underlying112 rfl (by rw [Y2l.out]; exact bun_size) ?_)
            | (go_at_call 66
               refine (bunPut_any _ _ _ b hI3 (fun k hk => by omega) Fsz.out Ftot.out).mono ?_
               rintro e w4 ⟨A4, c4, rfl, hf4, hO4, hin4⟩
               rw [HEx.out]
               have hX4 : Byt w4 (fun _ => True) A4 (bunOut b).length (bunOut b) := hO4.arr fun _ _ _ => trivial
               have hx4 : (bunOut b).length ≤ 1000000 := Xlen.out
               obtain ⟨X, hX⟩ : ∃ X, X = bunOut b := ⟨_, rfl⟩
               rw [← hX] at hX4 hx4 ⊢
               obtain ⟨nx, hnx⟩ : ∃ nx, nx = X.length := ⟨_, rfl⟩
               rw [← hnx] at hX4 hx4 ⊢
               have HX := Lib.hid hX
               have hB4 := hB3.fr hf4 id
               have hI4 := hI3.fr hf4 fun _ _ => id
               have hL4 := hL3.fr hf4 fun _ _ => id
               have hF4 := hF3.trans hf4 fun _ _ => id
               have hs4 := Nat.le_trans hs3 hf4.size
               clear hnx hX hf4 hO4 hin4 hB3 hI3 hL3 hF3)
            | (go_at_call 67
               refine (bunOf_any _ _ A4 nx c4 X hX4 (by omega)).mono ?_
               rintro e w5 ⟨y5, rfl, hf5, hQ5⟩
               obtain ⟨t1, t2, t3⟩ := hQ5.cells
               have T1 := Lib.hid t1
               have T2 := Lib.hid t2
               have T3 := Lib.hid t3
               generalize bunBad X = bx5 at *
               clear t1 t2 t3)
            | (refine wpList_alloc_any rfl 112 rfl 2 bun_zero ?_; intro z hz; have Hz := Lib.hid hz; clear hz)
            | (refine wpList_store_newN rfl 112 (.tmp 7) (.tmp 31) rfl 2 bun_size _ z Hz.out y5.toArray rfl rfl T2.out T3.out ?_
               clear Hz
               obtain ⟨g7, hg7⟩ : ∃ g7, g7 = w5.heap.size := ⟨_, rfl⟩
               obtain ⟨w6, hw6⟩ : ∃ w6, w6 = w5.alloc (.cells y5.toArray 112) := ⟨_, rfl⟩
               have hfa : Fr NoB w4 w6 := by rw [hw6]; exact hf5.alloc _
               have hB6 := hB4.fr hfa id
               have hI6 := hI4.fr hfa fun _ _ => id
               have hL6 := hL4.fr hfa fun _ _ => id
               have hF6 := hF4.trans hfa fun _ _ => id
               have hs6 := Nat.le_trans hs4 hfa.size
               have hQ6 : BunR w6 (fun k => w4.heap.size ≤ k) y5 (bunOf X) := hQ5.fr (by rw [hw6]; exact (Fr.refl NoB w5).alloc _) fun _ _ => id
               have hg6 : Blk w6 g7 112 y5.toArray := by rw [hw6, hg7]; exact Blk.new _ _ _
               have hall6 : ∀ j u, y5[j]? = some u → w6.cell? ⟨g7, 0 + j, none⟩ = some u := fun j u hu => by rw [Nat.zero_add, hg6.cell]; simpa using hu
               rw [← hw6]
               rw [← hg7]
               clear hw6 hg7 hfa hf5 hQ5 hB4 hI4 hF4 hX4)
            | (go_at_call 67
               refine (bunOf_any _ _ A n c l hL6 (by omega)).mono ?_
               rintro e w8 ⟨y8, rfl, hf8, hQ8⟩
               obtain ⟨t1, t2, t3⟩ := hQ8.cells
               have U1 := Lib.hid t1
               have U2 := Lib.hid t2
               have U3 := Lib.hid t3
               rw [HBl.out]
               clear t1 t2 t3)
            | (refine wpList_store_newN rfl 112 (.tmp 9) (.tmp 48) rfl 2 bun_size _ z Hz.out y8.toArray rfl rfl U2.out U3.out ?_
               clear Hz
               obtain ⟨g9, hg9⟩ : ∃ g9, g9 = w8.heap.size := ⟨_, rfl⟩
               obtain ⟨w9, hw9⟩ : ∃ w9, w9 = w8.alloc (.cells y8.toArray 112) := ⟨_, rfl⟩
               have hfa : Fr NoB w6 w9 := by rw [hw9]; exact hf8.alloc _
               have hL9 := hL6.fr hfa fun _ _ => id
               have hF9 := hF6.trans hfa fun _ _ => id
               have hQ9 := (hQ8.fr (by rw [hw9]; exact (Fr.refl NoB w8).alloc _) fun _ _ => id : BunR w9 _ y8 (bunOf l)).tight
               have hg9b : Blk w9 g9 112 y8.toArray := by rw [hw9, hg9]; exact Blk.new _ _ _
               have hall9 : ∀ j u, y8[j]? = some u → w9.cell? ⟨g9, 0 + j, none⟩ = some u := fun j u hu => by rw [Nat.zero_add, hg9b.cell]; simpa using hu
               rw [← hw9]
               rw [← hg9]
               clear hw9 hg9 hfa hf8 hQ8)
            | (refine wpList_load_agg rfl 112 (.tmp 9) rfl g9 0 rfl y8 _ hall9 Try.underlying112 rfl (by rw [U1.out]; exact bun_size) ?_)
            | (go_at_call 66
               refine (bunPut_any _ _ _ (bunOf l) hQ9 (fun k hk => hk.2) Zsz.out Ztot.out).mono ?_
               rintro e w10 ⟨A10, c10, rfl, hf10, hO10, hin10⟩
               have hF10 := hF9.trans hf10 fun _ _ => id
               rw [HEz.out]
               have hb10 : Byt w10 (fun _ => True) A10 (bunOut (bunOf l)).length (bunOut (bunOf l)) := hO10.arr fun _ _ _ => trivial
               rw [HOz.out] at hb10 ⊢
               have v1 := hb10.str (P := Try.prog) Try.underlying22 Try.underlying5 Try.underlying9 c10
               rw [hll] at v1
               have v2 := (hL9.fr hf10 fun _ _ => id).str (P := Try.prog) Try.underlying22 Try.underlying5 Try.underlying9 c
               clear hf10 hin10 hO10))
          go_ret
          exact ⟨rfl, Hfin.out _ hF10⟩
        | false =>
          have HBl : Hid (bunBad l = 340) := by show _ = _; rw [bunBad, if_neg (by simp [hraw])]
          clear hraw
          go_enter Try.func16, Try.ntmps16
          go_wp2_with (first
            | (go_at_call 64
               rw [← Hw1.out, ← HB.out]
               refine (awake34 _).mono ?_
               rintro e w2 ⟨rfl, hf2⟩
               have hB2 := hB1.fr hf2 id
               have hI2 := hI1.fr hf2 fun _ _ => id
               have hL2 := hL1.fr hf2 fun _ _ => id
               have hF2 := hF1.trans hf2 fun _ _ => id
               have hs2 := Nat.le_trans hs1 hf2.size)
            | (refine wpList_load_agg rfl 112 (.tmp 2) rfl B 0 rfl y _ (Hall.out _ hB2) Try.underlying112 rfl (by rw [Y2l.out]; exact bun_size) ?_)
            | (go_at_call 65
               refine (few34_any _ _ _ b hI2).mono ?_
               rintro e w3 ⟨rfl, hf3⟩
               rw [hfew]
               have hB3 := hB2.fr hf3 id
               have hI3 := hI2.fr hf3 fun _ _ => id
               have hL3 := hL2.fr hf3 fun _ _ => id
               have hF3 := hF2.trans hf3 fun _ _ => id
               have hs3 := Nat.le_trans hs2 hf3.size
               clear hf2 hf3 hB2 hI2 hL2 hF2)
            | (refine wpList_load_agg rfl 112 (.tmp 2) rfl B 0 rfl y _ (Hall.out _ hB3) Try.underlying112 rfl (by rw [Y2l.out]; exact bun_size) ?_)
            | (go_at_call 66
               refine (bunPut_any _ _ _ b hI3 (fun k hk => by omega) Fsz.out Ftot.out).mono ?_
               rintro e w4 ⟨A4, c4, rfl, hf4, hO4, hin4⟩
               rw [HEx.out]
               have hX4 : Byt w4 (fun _ => True) A4 (bunOut b).length (bunOut b) := hO4.arr fun _ _ _ => trivial
               have hx4 : (bunOut b).length ≤ 1000000 := Xlen.out
               obtain ⟨X, hX⟩ : ∃ X, X = bunOut b := ⟨_, rfl⟩
               rw [← hX] at hX4 hx4 ⊢
               obtain ⟨nx, hnx⟩ : ∃ nx, nx = X.length := ⟨_, rfl⟩
               rw [← hnx] at hX4 hx4 ⊢
               have HX := Lib.hid hX
               have hB4 := hB3.fr hf4 id
               have hI4 := hI3.fr hf4 fun _ _ => id
               have hL4 := hL3.fr hf4 fun _ _ => id
               have hF4 := hF3.trans hf4 fun _ _ => id
               have hs4 := Nat.le_trans hs3 hf4.size
               clear hnx hX hf4 hO4 hin4 hB3 hI3 hL3 hF3)
            | (go_at_call 67
               refine (bunOf_any _ _ A4 nx c4 X hX4 (by omega)).mono ?_
               rintro e w5 ⟨y5, rfl, hf5, hQ5⟩
               obtain ⟨t1, t2, t3⟩ := hQ5.cells
               have T1 := Lib.hid t1
               have T2 := Lib.hid t2
               have T3 := Lib.hid t3
               generalize bunBad X = bx5 at *
               clear t1 t2 t3)
            | (refine wpList_alloc_any rfl 112 rfl 2 bun_zero ?_; intro z hz; have Hz := Lib.hid hz; clear hz)
            | (refine wpList_store_newN rfl 112 (.tmp 7) (.tmp 31) rfl 2 bun_size _ z Hz.out y5.toArray rfl rfl T2.out T3.out ?_
               clear Hz
               obtain ⟨g7, hg7⟩ : ∃ g7, g7 = w5.heap.size := ⟨_, rfl⟩
               obtain ⟨w6, hw6⟩ : ∃ w6, w6 = w5.alloc (.cells y5.toArray 112) := ⟨_, rfl⟩
               have hfa : Fr NoB w4 w6 := by rw [hw6]; exact hf5.alloc _
               have hB6 := hB4.fr hfa id
               have hI6 := hI4.fr hfa fun _ _ => id
               have hL6 := hL4.fr hfa fun _ _ => id
               have hF6 := hF4.trans hfa fun _ _ => id
               have hs6 := Nat.le_trans hs4 hfa.size
               have hQ6 : BunR w6 (fun k => w4.heap.size ≤ k) y5 (bunOf X) := hQ5.fr (by rw [hw6]; exact (Fr.refl NoB w5).alloc _) fun _ _ => id
               have hg6 : Blk w6 g7 112 y5.toArray := by rw [hw6, hg7]; exact Blk.new _ _ _
               have hall6 : ∀ j u, y5[j]? = some u → w6.cell? ⟨g7, 0 + j, none⟩ = some u := fun j u hu => by rw [Nat.zero_add, hg6.cell]; simpa using hu
               rw [← hw6]
               rw [← hg7]
               clear hw6 hg7 hfa hf5 hQ5 hB4 hI4 hF4 hX4)
            | (go_at_call 67
               refine (bunOf_any _ _ A n c l hL6 (by omega)).mono ?_
               rintro e w8 ⟨y8, rfl, hf8, hQ8⟩
               obtain ⟨t1, t2, t3⟩ := hQ8.cells
               have U1 := Lib.hid t1
               have U2 := Lib.hid t2
               have U3 := Lib.hid t3
               rw [HBl.out]
               clear t1 t2 t3)
            | (refine wpList_store_newN rfl 112 (.tmp 9) (.tmp 48) rfl 2 bun_size _ z Hz.out y8.toArray rfl rfl U2.out U3.out ?_
               clear Hz
               obtain ⟨g9, hg9⟩ : ∃ g9, g9 = w8.heap.size := ⟨_, rfl⟩
               obtain ⟨w9, hw9⟩ : ∃ w9, w9 = w8.alloc (.cells y8.toArray 112) := ⟨_, rfl⟩
               have hfa : Fr NoB w6 w9 := by rw [hw9]; exact hf8.alloc _
               have hL9 := hL6.fr hfa fun _ _ => id
               have hF9 := hF6.trans hfa fun _ _ => id
               have hQ9 := (hQ8.fr (by rw [hw9]; exact (Fr.refl NoB w8).alloc _) fun _ _ => id : BunR w9 _ y8 (bunOf l)).tight
               have hg9b : Blk w9 g9 112 y8.toArray := by rw [hw9, hg9]; exact Blk.new _ _ _
               have hall9 : ∀ j u, y8[j]? = some u → w9.cell? ⟨g9, 0 + j, none⟩ = some u := fun j u hu => by rw [Nat.zero_add, hg9b.cell]; simpa using hu
               rw [← hw9]
               rw [← hg9]
               clear hw9 hg9 hfa hf8 hQ8)
            | (refine wpList_load_agg rfl 112 (.tmp 9) rfl g9 0 rfl y8 _ hall9 Try.underlying112 rfl (by rw [U1.out]; exact bun_size) ?_)
            | (go_at_call 66
               refine (bunPut_any _ _ _ (bunOf l) hQ9 (fun k hk => hk.2) Zsz.out Ztot.out).mono ?_
               rintro e w10 ⟨A10, c10, rfl, hf10, hO10, hin10⟩
               have hF10 := hF9.trans hf10 fun _ _ => id
               generalize bunErr (bunOf l) = ez at *
               generalize (bunOut (bunOf l)).length = lz at *
               clear hf10 hin10 hO10))
          go_ret
          exact ⟨rfl, Hfin.out _ hF10⟩
    · have bn : decide (4000 < (n : Int)) = true := by simp only [decide_eq_true_eq]; omega
      go_enter Try.func16, Try.ntmps16
      go_wp2_with (first
        | (go_at_call 64
           rw [← Hw1.out, ← HB.out]
           refine (awake34 _).mono ?_
           rintro e w2 ⟨rfl, hf2⟩
           have hB2 := hB1.fr hf2 id
           have hI2 := hI1.fr hf2 fun _ _ => id)
        | (refine wpList_load_agg rfl 112 (.tmp 2) rfl B 0 rfl y _ (Hall.out _ hB2) Try.underlying112 rfl (by rw [Y2l.out]; exact bun_size) ?_)
        | (go_at_call 65
           refine (few34_any _ _ _ b hI2).mono ?_
           rintro e w3 ⟨rfl, hf3⟩
           rw [hfew]))
      go_ret
      exact ⟨rfl, Hfin.out _ ((hF1.trans hf2 fun _ _ => id).trans hf3 fun _ _ => id)⟩
end Go.Proofs.Ytnkfchondedfcaa
