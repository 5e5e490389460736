/-
  Whether a reply is small (tabulariumlaw16.answers); the statement WireSame: which replies are alike (the walk). Conditions: none but that the arguments can be read.
-/
import Derived.Test.YtnkfchondedfcaaNc
import Derived.Test.YtnkfchondedfcaaRh
import Derived.Test.YtnkfchondedfcaaMi
namespace Go.Proofs.Ytnkfchondedfcaa
open Go.RowKit

def repSmall (r : Rep) : Bool := r.names.all (fun s => decide (s.size ≤ 200)) && (decide (r.names.length ≤ 40) && decide (r.body.length ≤ 1000))

set_option maxRecDepth 100000 in
set_option maxHeartbeats 2000000 in
theorem repSmall_any (w : World) (F : Nat → Prop) (y : List Value) (r : Rep) (hy : RepR w F y r) :
    Calls Try.prog 54 #[.agg y.toArray] w fun e w' => e = .returned (.bool (repSmall r)) ∧ Fr NoB w w' := by
  obtain ⟨A, n, c, B, m, d, rfl, _, _, hb, hmd, hdm, hn, _⟩ := hy
  have hbl := hb.len
  have hml := Strs.len hn
  have hB : RepBlk (w.alloc (.cells (repCells r A n c B m d).toArray 90)) w.heap.size r A n c B m d := ⟨Blk.new _ _ _⟩
  have hf : Fr NoB w (w.alloc (.cells (repCells r A n c B m d).toArray 90)) := (Fr.refl _ _).alloc _
  replace hn := Arr.fr hn hf fun _ _ => id
  generalize repCells r A n c B m d = yc at *
  have p36 := hB.c36
  have p37 := hB.c37
  have Hbl := Lib.hid hbl
  have Hml := Lib.hid hml
  have hm63 : m ≤ 9223372036854775807 := by unfold maxLen at hdm; omega
  clear hbl hml hB hmd hdm
  go_enter Try.func54, Try.ntmps54
  go_wp2
  obtain ⟨w0, hw0⟩ : ∃ w0, w0 = w.alloc (.cells yc.toArray 90) := ⟨_, rfl⟩
  rw [← hw0] at hn p36 p37 hf ⊢
  clear hw0
  go_loop [8] (fun i => ∃ k : Nat, k ≤ m ∧ i = .int .i64 k ∧ (r.names.take k).all (fun s => decide (s.size ≤ 200)) = true) (fun i => m - (intOf i).toNat)
  case atStart => exact ⟨0, by omega, rfl, rfl⟩
  case round =>
    obtain ⟨k, hk, rfl, hall⟩ := hrel
    have Hall := Lib.hid hall
    clear hall
    by_cases hkn : k < m
    · obtain ⟨b1, o1, s, rfl, _, gx, hc1⟩ := Strs.at_ hn hkn
      have Hex := Lib.hid (take_snoc_of gx)
      have hmem : s ∈ r.names := List.mem_of_getElem? gx
      by_cases hs : s.size ≤ 200
      · have b1 : decide (200 < (s.size : Int)) = false := by simp only [decide_eq_false_iff_not]; omega
        have Hs := Lib.hid hs
        clear hs gx hmem
        go_wp2
        go_round
        case rel => exact ⟨k + 1, by omega, by go_num, by rw [Hex.out, List.all_append, Hall.out]; simpa using Hs.out⟩
        case measure => simp [intOf]; omega
      · have b1 : decide (200 < (s.size : Int)) = true := by simp only [decide_eq_true_eq]; omega
        have He : Hid (repSmall r = false) := by
          show _ = _
          have : r.names.all (fun s => decide (s.size ≤ 200)) = false := by
            rw [List.all_eq_false]
            exact ⟨s, hmem, by simpa using hs⟩
          simp [repSmall, this]
        clear hs gx hmem
        go_wp2
        go_ret
        exact ⟨ret_bool He.out.symm, hf⟩
    · have hke : k = m := by omega
      have hall : r.names.all (fun s => decide (s.size ≤ 200)) = true := by
        have := Hall.out
        rwa [List.take_of_length_le (by rw [Hml.out]; omega)] at this
      have He : Hid (repSmall r = (decide (m ≤ 40) && decide (n ≤ 1000))) := by show _ = _; rw [repSmall, hall, Hml.out, Hbl.out]; rfl
      clear hall hke
      by_cases h1 : m ≤ 40
      · have b1 : decide ((m : Int) ≤ 40) = true := by simp only [decide_eq_true_eq]; omega
        by_cases h2 : n ≤ 1000
        · have b2 : decide ((n : Int) ≤ 1000) = true := by simp only [decide_eq_true_eq]; omega
          have He2 : Hid (repSmall r = true) := by show _ = _; rw [He.out]; simp [h1, h2]
          clear h1 h2
          go_wp2
          go_ret
          exact ⟨ret_bool He2.out.symm, hf⟩
        · have b2 : decide ((n : Int) ≤ 1000) = false := by simp only [decide_eq_false_iff_not]; omega
          have He2 : Hid (repSmall r = false) := by show _ = _; rw [He.out]; simp [h2]
          clear h1 h2
          go_wp2
          go_ret
          exact ⟨ret_bool He2.out.symm, hf⟩
      · have b1 : decide ((m : Int) ≤ 40) = false := by simp only [decide_eq_false_iff_not]; omega
        have He2 : Hid (repSmall r = false) := by show _ = _; rw [He.out]; simp [h1]
        clear h1
        go_wp2
        go_ret
        exact ⟨ret_bool He2.out.symm, hf⟩

set_option maxRecDepth 100000 in
set_option maxHeartbeats 8000000 in
theorem WireSame_any (w : World) (ya yb : List Value) (a b : Rep) (hya : RepR w (fun k => k < w.heap.size) ya a) (hyb : RepR w (fun k => k < w.heap.size) yb b) :
    Calls Try.prog 11 #[.agg ya.toArray, .agg yb.toArray] w fun e w' => e = .returned (.bool true) ∧ Below w.heap.size w w' := by
  have hfin : ∀ w', Fr NoB w w' → Below w.heap.size w w' := fun w' h => Fr.below h (Nat.le_refl _) fun _ _ => id
  have Hfin := Lib.hid hfin
  have Hla := Lib.hid hya.len
  have Hlb := Lib.hid hyb.len
  have hA0 : Blk ((w.alloc (.cells ya.toArray 90)).alloc (.cells yb.toArray 90)) w.heap.size 90 ya.toArray := (Blk.new _ _ _).alloc _
  have hB0 : Blk ((w.alloc (.cells ya.toArray 90)).alloc (.cells yb.toArray 90)) (w.heap.size + 1) 90 yb.toArray := by simpa using Blk.new (w.alloc (.cells ya.toArray 90)) 90 yb.toArray
  have hf0 : Fr NoB w ((w.alloc (.cells ya.toArray 90)).alloc (.cells yb.toArray 90)) := ((Fr.refl _ _).alloc _).alloc _
  obtain ⟨v, hv⟩ : ∃ v, decide (a = b) = v := ⟨_, rfl⟩
  have Hv := Lib.hid hv
  clear hfin hv
  cases hsa : repSmall a with
  | false =>
    have Hsa := Lib.hid hsa
    clear hsa
    go_enter Try.func11, Try.ntmps11
    go_wp2_with (go_at_call 47; refine (awake16 _).mono ?_; rintro e w1 ⟨rfl, hf1⟩)
    have hF1 := hf0.trans hf1 fun _ _ => id
    have hBa := hA0.fr hf1 id
    have hBb := hB0.fr hf1 id
    clear hA0 hB0 hf0
    refine wp_region_held (S := fun W => Fr NoB w1 W) rfl ?_
    have hS : Fr NoB w1 { w1 with drawn := w1.drawn + 1 } := Fr.drew (Fr.refl _ _)
    refine wpAnyH_take (i := 0) rfl (by decide +kernel) (by decide +kernel) (by decide +kernel) (fun _ _ _ h => h) (Or.inl ⟨by kernel_rfl, fun W hW => exec_load_agg 90 (.tmp 2) rfl w.heap.size 0 rfl ya _ (fun j u hu => Fr.cell' hW (hBa.all j u hu) id) Try.underlying90 rfl (by rw [Hla.out]; exact rep_size)⟩) hS ?_
    go_simp
    refine wpAnyH_all (rs := [1]) (by decide +kernel) (by simp) ?_
    intro i hi
    simp only [List.mem_cons, List.not_mem_nil, or_false] at hi
    subst hi
    refine wpOp_call rfl rfl 54 (enters_of Try.func54 (by kernel_rfl) rfl) #[.tmp 7] _ rfl _ rfl ((by have h := repSmall_any _ _ _ a (hya.fr (hF1.trans hS fun _ _ => id) fun _ _ => id); rw [Hsa.out] at h; exact h)) ?_
    rintro e w2 ⟨rfl, hf⟩
    replace hS := hS.trans hf fun _ _ => id
    clear hf
    refine ⟨_, rfl, hS, ?_⟩
    go_simp
    refine wpAnyH_take (i := 2) rfl (by decide +kernel) (by decide +kernel) (by decide +kernel) (fun _ _ _ h => h) (Or.inl ⟨by kernel_rfl, fun W hW => by go_simp; with_reducible rfl⟩) hS ?_
    refine wpAnyH_take (i := 3) rfl (by decide +kernel) (by decide +kernel) (by decide +kernel) (fun _ _ _ h => h) (Or.inl ⟨by kernel_rfl, fun W hW => by go_simp; with_reducible rfl⟩) hS ?_
    refine wpAnyH_take (i := 4) (v := undef) rfl (by decide +kernel) (by decide +kernel) (by decide +kernel) (fun _ _ _ h => h) (Or.inr ⟨by kernel_rfl, rfl⟩) hS ?_
    refine wpAnyH_take (i := 5) (v := undef) rfl (by decide +kernel) (by decide +kernel) (by decide +kernel) (fun _ _ _ h => h) (Or.inr ⟨by kernel_rfl, rfl⟩) hS ?_
    refine wpAnyH_take (i := 6) (v := undef) rfl (by decide +kernel) (by decide +kernel) (by decide +kernel) (fun _ _ _ h => h) (Or.inr ⟨by kernel_rfl, rfl⟩) hS ?_
    refine wpAnyH_take (i := 7) rfl (by decide +kernel) (by decide +kernel) (by decide +kernel) (fun _ _ _ h => h) (Or.inl ⟨by kernel_rfl, fun W hW => by go_simp; with_reducible rfl⟩) hS ?_
    refine wpAnyH_take (i := 8) rfl (by decide +kernel) (by decide +kernel) (by decide +kernel) (fun _ _ _ h => h) (Or.inl ⟨by kernel_rfl, fun W hW => by go_simp; with_reducible rfl⟩) hS ?_
    go_simp
    refine wpAnyH_take (i := 9) (v := undef) rfl (by decide +kernel) (by decide +kernel) (by decide +kernel) (fun _ _ _ h => h) (Or.inr ⟨by kernel_rfl, rfl⟩) hS ?_
    refine wpAnyH_take (i := 10) (v := undef) rfl (by decide +kernel) (by decide +kernel) (by decide +kernel) (fun _ _ _ h => h) (Or.inr ⟨by kernel_rfl, rfl⟩) hS ?_
    refine wpAnyH_take (i := 11) (v := undef) rfl (by decide +kernel) (by decide +kernel) (by decide +kernel) (fun _ _ _ h => h) (Or.inr ⟨by kernel_rfl, rfl⟩) hS ?_
    refine wpAnyH_take (i := 12) (v := undef) rfl (by decide +kernel) (by decide +kernel) (by decide +kernel) (fun _ _ _ h => h) (Or.inr ⟨by kernel_rfl, rfl⟩) hS ?_
    refine wpAnyH_take (i := 13) (v := undef) rfl (by decide +kernel) (by decide +kernel) (by decide +kernel) (fun _ _ _ h => h) (Or.inr ⟨by kernel_rfl, rfl⟩) hS ?_
    refine wpAnyH_take (i := 14) (v := undef) rfl (by decide +kernel) (by decide +kernel) (by decide +kernel) (fun _ _ _ h => h) (Or.inr ⟨by kernel_rfl, rfl⟩) hS ?_
    refine wpAnyH_take (i := 15) (v := undef) rfl (by decide +kernel) (by decide +kernel) (by decide +kernel) (fun _ _ _ h => h) (Or.inr ⟨by kernel_rfl, rfl⟩) hS ?_
    refine wpAnyH_take (i := 16) (v := undef) rfl (by decide +kernel) (by decide +kernel) (by decide +kernel) (fun _ _ _ h => h) (Or.inr ⟨by kernel_rfl, rfl⟩) hS ?_
    refine wpAnyH_take (i := 17) (v := undef) rfl (by decide +kernel) (by decide +kernel) (by decide +kernel) (fun _ _ _ h => h) (Or.inr ⟨by kernel_rfl, rfl⟩) hS ?_
    refine wpAnyH_take (i := 18) (v := undef) rfl (by decide +kernel) (by decide +kernel) (by decide +kernel) (fun _ _ _ h => h) (Or.inr ⟨by kernel_rfl, rfl⟩) hS ?_
    refine wpAnyH_take (i := 19) (v := undef) rfl (by decide +kernel) (by decide +kernel) (by decide +kernel) (fun _ _ _ h => h) (Or.inr ⟨by kernel_rfl, rfl⟩) hS ?_
    refine wpAnyH_take (i := 20) (v := undef) rfl (by decide +kernel) (by decide +kernel) (by decide +kernel) (fun _ _ _ h => h) (Or.inr ⟨by kernel_rfl, rfl⟩) hS ?_
    go_simp
    refine wpAnyH_take (i := 21) rfl (by decide +kernel) (by decide +kernel) (by decide +kernel) (fun _ _ _ h => h) (Or.inl ⟨by kernel_rfl, fun W hW => by go_simp; with_reducible rfl⟩) hS ?_
    refine wpAnyH_take (i := 22) rfl (by decide +kernel) (by decide +kernel) (by decide +kernel) (fun _ _ _ h => h) (Or.inl ⟨by kernel_rfl, fun W hW => by go_simp; with_reducible rfl⟩) hS ?_
    go_simp
    refine wpAnyH_done (by decide +kernel) ?_ _
    go_wp2
    go_ret
    exact ⟨rfl, Hfin.out _ (hF1.trans hS fun _ _ => id)⟩
  | true =>
    have Hsa := Lib.hid hsa
    clear hsa
    cases hsb : repSmall b with
    | false =>
      have Hsb := Lib.hid hsb
      clear hsb
      go_enter Try.func11, Try.ntmps11
      go_wp2_with (go_at_call 47; refine (awake16 _).mono ?_; rintro e w1 ⟨rfl, hf1⟩)
      have hF1 := hf0.trans hf1 fun _ _ => id
      have hBa := hA0.fr hf1 id
      have hBb := hB0.fr hf1 id
      clear hA0 hB0 hf0
      refine wp_region_held (S := fun W => Fr NoB w1 W) rfl ?_
      have hS : Fr NoB w1 { w1 with drawn := w1.drawn + 1 } := Fr.drew (Fr.refl _ _)
      refine wpAnyH_take (i := 0) rfl (by decide +kernel) (by decide +kernel) (by decide +kernel) (fun _ _ _ h => h) (Or.inl ⟨by kernel_rfl, fun W hW => exec_load_agg 90 (.tmp 2) rfl w.heap.size 0 rfl ya _ (fun j u hu => Fr.cell' hW (hBa.all j u hu) id) Try.underlying90 rfl (by rw [Hla.out]; exact rep_size)⟩) hS ?_
      go_simp
      refine wpAnyH_all (rs := [1]) (by decide +kernel) (by simp) ?_
      intro i hi
      simp only [List.mem_cons, List.not_mem_nil, or_false] at hi
      subst hi
      refine wpOp_call rfl rfl 54 (enters_of Try.func54 (by kernel_rfl) rfl) #[.tmp 7] _ rfl _ rfl ((by have h := repSmall_any _ _ _ a (hya.fr (hF1.trans hS fun _ _ => id) fun _ _ => id); rw [Hsa.out] at h; exact h)) ?_
      rintro e w2 ⟨rfl, hf⟩
      replace hS := hS.trans hf fun _ _ => id
      clear hf
      refine ⟨_, rfl, hS, ?_⟩
      go_simp
      refine wpAnyH_take (i := 2) rfl (by decide +kernel) (by decide +kernel) (by decide +kernel) (fun _ _ _ h => h) (Or.inl ⟨by kernel_rfl, fun W hW => by go_simp; with_reducible rfl⟩) hS ?_
      refine wpAnyH_take (i := 3) rfl (by decide +kernel) (by decide +kernel) (by decide +kernel) (fun _ _ _ h => h) (Or.inl ⟨by kernel_rfl, fun W hW => by go_simp; with_reducible rfl⟩) hS ?_
      refine wpAnyH_take (i := 4) rfl (by decide +kernel) (by decide +kernel) (by decide +kernel) (fun _ _ _ h => h) (Or.inl ⟨by kernel_rfl, fun W hW => exec_load_agg 90 (.tmp 3) rfl (w.heap.size + 1) 0 rfl yb _ (fun j u hu => Fr.cell' hW (hBb.all j u hu) id) Try.underlying90 rfl (by rw [Hlb.out]; exact rep_size)⟩) hS ?_
      go_simp
      refine wpAnyH_all (rs := [5]) (by decide +kernel) (by simp) ?_
      intro i hi
      simp only [List.mem_cons, List.not_mem_nil, or_false] at hi
      subst hi
      refine wpOp_call rfl rfl 54 (enters_of Try.func54 (by kernel_rfl) rfl) #[.tmp 11] _ rfl _ rfl ((by have h := repSmall_any _ _ _ b (hyb.fr (hF1.trans hS fun _ _ => id) fun _ _ => id); rw [Hsb.out] at h; exact h)) ?_
      rintro e w3 ⟨rfl, hf⟩
      replace hS := hS.trans hf fun _ _ => id
      clear hf
      refine ⟨_, rfl, hS, ?_⟩
      go_simp
      refine wpAnyH_take (i := 6) rfl (by decide +kernel) (by decide +kernel) (by decide +kernel) (fun _ _ _ h => h) (Or.inl ⟨by kernel_rfl, fun W hW => by go_simp; with_reducible rfl⟩) hS ?_
      refine wpAnyH_take (i := 7) rfl (by decide +kernel) (by decide +kernel) (by decide +kernel) (fun _ _ _ h => h) (Or.inl ⟨by kernel_rfl, fun W hW => by go_simp; with_reducible rfl⟩) hS ?_
      refine wpAnyH_take (i := 8) rfl (by decide +kernel) (by decide +kernel) (by decide +kernel) (fun _ _ _ h => h) (Or.inl ⟨by kernel_rfl, fun W hW => by go_simp; with_reducible rfl⟩) hS ?_
      go_simp
      refine wpAnyH_take (i := 9) (v := undef) rfl (by decide +kernel) (by decide +kernel) (by decide +kernel) (fun _ _ _ h => h) (Or.inr ⟨by kernel_rfl, rfl⟩) hS ?_
      refine wpAnyH_take (i := 10) (v := undef) rfl (by decide +kernel) (by decide +kernel) (by decide +kernel) (fun _ _ _ h => h) (Or.inr ⟨by kernel_rfl, rfl⟩) hS ?_
      refine wpAnyH_take (i := 11) (v := undef) rfl (by decide +kernel) (by decide +kernel) (by decide +kernel) (fun _ _ _ h => h) (Or.inr ⟨by kernel_rfl, rfl⟩) hS ?_
      refine wpAnyH_take (i := 12) (v := undef) rfl (by decide +kernel) (by decide +kernel) (by decide +kernel) (fun _ _ _ h => h) (Or.inr ⟨by kernel_rfl, rfl⟩) hS ?_
      refine wpAnyH_take (i := 13) (v := undef) rfl (by decide +kernel) (by decide +kernel) (by decide +kernel) (fun _ _ _ h => h) (Or.inr ⟨by kernel_rfl, rfl⟩) hS ?_
      refine wpAnyH_take (i := 14) (v := undef) rfl (by decide +kernel) (by decide +kernel) (by decide +kernel) (fun _ _ _ h => h) (Or.inr ⟨by kernel_rfl, rfl⟩) hS ?_
      refine wpAnyH_take (i := 15) (v := undef) rfl (by decide +kernel) (by decide +kernel) (by decide +kernel) (fun _ _ _ h => h) (Or.inr ⟨by kernel_rfl, rfl⟩) hS ?_
      refine wpAnyH_take (i := 16) (v := undef) rfl (by decide +kernel) (by decide +kernel) (by decide +kernel) (fun _ _ _ h => h) (Or.inr ⟨by kernel_rfl, rfl⟩) hS ?_
      refine wpAnyH_take (i := 17) (v := undef) rfl (by decide +kernel) (by decide +kernel) (by decide +kernel) (fun _ _ _ h => h) (Or.inr ⟨by kernel_rfl, rfl⟩) hS ?_
      refine wpAnyH_take (i := 18) (v := undef) rfl (by decide +kernel) (by decide +kernel) (by decide +kernel) (fun _ _ _ h => h) (Or.inr ⟨by kernel_rfl, rfl⟩) hS ?_
      refine wpAnyH_take (i := 19) (v := undef) rfl (by decide +kernel) (by decide +kernel) (by decide +kernel) (fun _ _ _ h => h) (Or.inr ⟨by kernel_rfl, rfl⟩) hS ?_
      refine wpAnyH_take (i := 20) (v := undef) rfl (by decide +kernel) (by decide +kernel) (by decide +kernel) (fun _ _ _ h => h) (Or.inr ⟨by kernel_rfl, rfl⟩) hS ?_
      go_simp
      refine wpAnyH_take (i := 21) rfl (by decide +kernel) (by decide +kernel) (by decide +kernel) (fun _ _ _ h => h) (Or.inl ⟨by kernel_rfl, fun W hW => by go_simp; with_reducible rfl⟩) hS ?_
      refine wpAnyH_take (i := 22) rfl (by decide +kernel) (by decide +kernel) (by decide +kernel) (fun _ _ _ h => h) (Or.inl ⟨by kernel_rfl, fun W hW => by go_simp; with_reducible rfl⟩) hS ?_
      go_simp
      refine wpAnyH_done (by decide +kernel) ?_ _
      go_wp2
      go_ret
      exact ⟨rfl, Hfin.out _ (hF1.trans hS fun _ _ => id)⟩
    | true =>
      have Hsb := Lib.hid hsb
      clear hsb
      go_enter Try.func11, Try.ntmps11
      go_wp2_with (go_at_call 47; refine (awake16 _).mono ?_; rintro e w1 ⟨rfl, hf1⟩)
      have hF1 := hf0.trans hf1 fun _ _ => id
      have hBa := hA0.fr hf1 id
      have hBb := hB0.fr hf1 id
      clear hA0 hB0 hf0
      refine wp_region_held (S := fun W => Fr NoB w1 W) rfl ?_
      have hS : Fr NoB w1 { w1 with drawn := w1.drawn + 1 } := Fr.drew (Fr.refl _ _)
      refine wpAnyH_take (i := 0) rfl (by decide +kernel) (by decide +kernel) (by decide +kernel) (fun _ _ _ h => h) (Or.inl ⟨by kernel_rfl, fun W hW => exec_load_agg 90 (.tmp 2) rfl w.heap.size 0 rfl ya _ (fun j u hu => Fr.cell' hW (hBa.all j u hu) id) Try.underlying90 rfl (by rw [Hla.out]; exact rep_size)⟩) hS ?_
      go_simp
      refine wpAnyH_all (rs := [1]) (by decide +kernel) (by simp) ?_
      intro i hi
      simp only [List.mem_cons, List.not_mem_nil, or_false] at hi
      subst hi
      refine wpOp_call rfl rfl 54 (enters_of Try.func54 (by kernel_rfl) rfl) #[.tmp 7] _ rfl _ rfl ((by have h := repSmall_any _ _ _ a (hya.fr (hF1.trans hS fun _ _ => id) fun _ _ => id); rw [Hsa.out] at h; exact h)) ?_
      rintro e w2 ⟨rfl, hf⟩
      replace hS := hS.trans hf fun _ _ => id
      clear hf
      refine ⟨_, rfl, hS, ?_⟩
      go_simp
      refine wpAnyH_take (i := 2) rfl (by decide +kernel) (by decide +kernel) (by decide +kernel) (fun _ _ _ h => h) (Or.inl ⟨by kernel_rfl, fun W hW => by go_simp; with_reducible rfl⟩) hS ?_
      refine wpAnyH_take (i := 3) rfl (by decide +kernel) (by decide +kernel) (by decide +kernel) (fun _ _ _ h => h) (Or.inl ⟨by kernel_rfl, fun W hW => by go_simp; with_reducible rfl⟩) hS ?_
      refine wpAnyH_take (i := 4) rfl (by decide +kernel) (by decide +kernel) (by decide +kernel) (fun _ _ _ h => h) (Or.inl ⟨by kernel_rfl, fun W hW => exec_load_agg 90 (.tmp 3) rfl (w.heap.size + 1) 0 rfl yb _ (fun j u hu => Fr.cell' hW (hBb.all j u hu) id) Try.underlying90 rfl (by rw [Hlb.out]; exact rep_size)⟩) hS ?_
      go_simp
      refine wpAnyH_all (rs := [5]) (by decide +kernel) (by simp) ?_
      intro i hi
      simp only [List.mem_cons, List.not_mem_nil, or_false] at hi
      subst hi
      refine wpOp_call rfl rfl 54 (enters_of Try.func54 (by kernel_rfl) rfl) #[.tmp 11] _ rfl _ rfl ((by have h := repSmall_any _ _ _ b (hyb.fr (hF1.trans hS fun _ _ => id) fun _ _ => id); rw [Hsb.out] at h; exact h)) ?_
      rintro e w3 ⟨rfl, hf⟩
      replace hS := hS.trans hf fun _ _ => id
      clear hf
      refine ⟨_, rfl, hS, ?_⟩
      go_simp
      refine wpAnyH_take (i := 6) rfl (by decide +kernel) (by decide +kernel) (by decide +kernel) (fun _ _ _ h => h) (Or.inl ⟨by kernel_rfl, fun W hW => by go_simp; with_reducible rfl⟩) hS ?_
      refine wpAnyH_take (i := 7) rfl (by decide +kernel) (by decide +kernel) (by decide +kernel) (fun _ _ _ h => h) (Or.inl ⟨by kernel_rfl, fun W hW => by go_simp; with_reducible rfl⟩) hS ?_
      refine wpAnyH_take (i := 8) rfl (by decide +kernel) (by decide +kernel) (by decide +kernel) (fun _ _ _ h => h) (Or.inl ⟨by kernel_rfl, fun W hW => by go_simp; with_reducible rfl⟩) hS ?_
      go_simp
      refine wpAnyH_take (i := 9) rfl (by decide +kernel) (by decide +kernel) (by decide +kernel) (fun _ _ _ h => h) (Or.inl ⟨by kernel_rfl, fun W hW => exec_load_agg 90 (.tmp 2) rfl w.heap.size 0 rfl ya _ (fun j u hu => Fr.cell' hW (hBa.all j u hu) id) Try.underlying90 rfl (by rw [Hla.out]; exact rep_size)⟩) hS ?_
      refine wpAnyH_take (i := 10) rfl (by decide +kernel) (by decide +kernel) (by decide +kernel) (fun _ _ _ h => h) (Or.inl ⟨by kernel_rfl, fun W hW => exec_load_agg 90 (.tmp 3) rfl (w.heap.size + 1) 0 rfl yb _ (fun j u hu => Fr.cell' hW (hBb.all j u hu) id) Try.underlying90 rfl (by rw [Hlb.out]; exact rep_size)⟩) hS ?_
      refine wpAnyH_take (i := 12) rfl (by decide +kernel) (by decide +kernel) (by decide +kernel) (fun _ _ _ h => h) (Or.inl ⟨by kernel_rfl, fun W hW => exec_load_agg 90 (.tmp 2) rfl w.heap.size 0 rfl ya _ (fun j u hu => Fr.cell' hW (hBa.all j u hu) id) Try.underlying90 rfl (by rw [Hla.out]; exact rep_size)⟩) hS ?_
      refine wpAnyH_take (i := 13) rfl (by decide +kernel) (by decide +kernel) (by decide +kernel) (fun _ _ _ h => h) (Or.inl ⟨by kernel_rfl, fun W hW => exec_load_agg 90 (.tmp 3) rfl (w.heap.size + 1) 0 rfl yb _ (fun j u hu => Fr.cell' hW (hBb.all j u hu) id) Try.underlying90 rfl (by rw [Hlb.out]; exact rep_size)⟩) hS ?_
      go_simp
      refine wpAnyH_all (rs := [11]) (by decide +kernel) (by simp) ?_
      intro i hi
      simp only [List.mem_cons, List.not_mem_nil, or_false] at hi
      subst hi
      refine wpOp_call rfl rfl 55 (enters_of Try.func55 (by kernel_rfl) rfl) #[.tmp 16, .tmp 17] _ rfl _ rfl ((by have h := WSameReply_any _ _ _ _ _ a b (hya.fr (hF1.trans hS fun _ _ => id) fun _ _ => id) (hyb.fr (hF1.trans hS fun _ _ => id) fun _ _ => id); rw [Hv.out] at h; exact h)) ?_
      rintro e w4 ⟨rfl, hf⟩
      replace hS := hS.trans hf fun _ _ => id
      clear hf
      refine ⟨_, rfl, hS, ?_⟩
      go_simp
      refine wpAnyH_all (rs := [14]) (by decide +kernel) (by simp) ?_
      intro i hi
      simp only [List.mem_cons, List.not_mem_nil, or_false] at hi
      subst hi
      refine wpOp_call rfl rfl 56 (enters_of Try.func56 (by kernel_rfl) rfl) #[.tmp 19, .tmp 20] _ rfl _ rfl ((by have h := RSameReply_any _ _ _ _ _ a b (hya.fr (hF1.trans hS fun _ _ => id) fun _ _ => id) (hyb.fr (hF1.trans hS fun _ _ => id) fun _ _ => id); rw [Hv.out] at h; exact h)) ?_
      rintro e w5 ⟨rfl, hf⟩
      replace hS := hS.trans hf fun _ _ => id
      clear hf
      refine ⟨_, rfl, hS, ?_⟩
      go_simp
      refine wpAnyH_take (i := 15) rfl (by decide +kernel) (by decide +kernel) (by decide +kernel) (fun _ _ _ h => h) (Or.inl ⟨by kernel_rfl, fun W hW => by go_simp; with_reducible rfl⟩) hS ?_
      refine wpAnyH_take (i := 16) rfl (by decide +kernel) (by decide +kernel) (by decide +kernel) (fun _ _ _ h => h) (Or.inl ⟨by kernel_rfl, fun W hW => by go_simp; with_reducible rfl⟩) hS ?_
      refine wpAnyH_take (i := 17) rfl (by decide +kernel) (by decide +kernel) (by decide +kernel) (fun _ _ _ h => h) (Or.inl ⟨by kernel_rfl, fun W hW => exec_load_agg 90 (.tmp 2) rfl w.heap.size 0 rfl ya _ (fun j u hu => Fr.cell' hW (hBa.all j u hu) id) Try.underlying90 rfl (by rw [Hla.out]; exact rep_size)⟩) hS ?_
      refine wpAnyH_take (i := 18) rfl (by decide +kernel) (by decide +kernel) (by decide +kernel) (fun _ _ _ h => h) (Or.inl ⟨by kernel_rfl, fun W hW => exec_load_agg 90 (.tmp 2) rfl w.heap.size 0 rfl ya _ (fun j u hu => Fr.cell' hW (hBa.all j u hu) id) Try.underlying90 rfl (by rw [Hla.out]; exact rep_size)⟩) hS ?_
      go_simp
      refine wpAnyH_all (rs := [19]) (by decide +kernel) (by simp) ?_
      intro i hi
      simp only [List.mem_cons, List.not_mem_nil, or_false] at hi
      subst hi
      refine wpOp_call rfl rfl 55 (enters_of Try.func55 (by kernel_rfl) rfl) #[.tmp 24, .tmp 25] _ rfl _ rfl ((by have h := WSameReply_any _ _ _ _ _ a a (hya.fr (hF1.trans hS fun _ _ => id) fun _ _ => id) (hya.fr (hF1.trans hS fun _ _ => id) fun _ _ => id); rw [show decide (a = a) = true from by simp] at h; exact h)) ?_
      rintro e w6 ⟨rfl, hf⟩
      replace hS := hS.trans hf fun _ _ => id
      clear hf
      refine ⟨_, rfl, hS, ?_⟩
      go_simp
      refine wpAnyH_take (i := 20) rfl (by decide +kernel) (by decide +kernel) (by decide +kernel) (fun _ _ _ h => h) (Or.inl ⟨by kernel_rfl, fun W hW => by go_simp; with_reducible rfl⟩) hS ?_
      go_simp
      refine wpAnyH_take (i := 21) rfl (by decide +kernel) (by decide +kernel) (by decide +kernel) (fun _ _ _ h => h) (Or.inl ⟨by kernel_rfl, fun W hW => by go_simp; with_reducible rfl⟩) hS ?_
      refine wpAnyH_take (i := 22) rfl (by decide +kernel) (by decide +kernel) (by decide +kernel) (fun _ _ _ h => h) (Or.inl ⟨by kernel_rfl, fun W hW => by go_simp; with_reducible rfl⟩) hS ?_
      go_simp
      refine wpAnyH_done (by decide +kernel) ?_ _
      go_wp2
      go_ret
      exact ⟨rfl, Hfin.out _ (hF1.trans hS fun _ _ => id)⟩
end Go.Proofs.Ytnkfchondedfcaa
