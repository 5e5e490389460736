/-
  Scripts that a law tries: tabulariumlaw30.Small. Conditions: each contract states its own.
-/
import Derived.Test.YtnkfchondedfcaaTc
namespace Go.Proofs.Ytnkfchondedfcaa
open Go.RowKit

theorem Blk.at' {w : World} {g t : Nat} {y : List Value} (h : Blk w g t y.toArray) {j : Nat} {u : Value} (hu : y[j]? = some u) : w.cell? ⟨g, j, none⟩ = some u := by
  rw [h.cell]; simpa using hu

set_option maxRecDepth 100000 in
set_option maxHeartbeats 2000000 in
theorem ScrSmall_any (w : World) (F : Nat → Prop) (y : List Value) (s : Scr) (hy : ScrR w F y s) :
    Calls Try.prog 19 #[.agg y.toArray] w fun e w' => e = .returned (.bool (scrSmall s)) ∧ Fr NoB w w' := by
  obtain ⟨p, rfl, hin⟩ := hy
  obtain ⟨l1, l5, l6, l7, l8⟩ := Scr.lens hin
  have hB := Blk.new w 28 (scrCells s p).toArray
  have hF : Fr NoB w (w.alloc (.cells (scrCells s p).toArray 28)) := (Fr.refl _ _).alloc _
  have q1 := hB.at' (j := 1) (u := .slice p.A1 p.n1 p.c1) rfl
  have q2 := hB.at' (j := 2) (u := .int .i64 s.sectors) rfl
  have q5 := hB.at' (j := 5) (u := .slice p.A5 p.n5 p.c5) rfl
  have q6 := hB.at' (j := 6) (u := .slice p.A6 p.n6 p.c6) rfl
  have q7 := hB.at' (j := 7) (u := .slice p.A7 p.n7 p.c7) rfl
  have q8 := hB.at' (j := 8) (u := .slice p.A8 p.n8 p.c8) rfl
  have hcall := FewOps_any _ _ p.A8 p.n8 p.c8 s.ops ((hin.fr hF fun _ _ => id).2.2.2.2.2.2) (by have h1 := hin.2.2.2.2.1; have h2 := hin.2.2.2.2.2.1; unfold maxLen at h2; omega)
  have Hcall := Lib.hid hcall
  have hdef : scrSmall s = (decide (p.n1 ≤ 16000) && (decide (s.sectors ≤ 1500) && (decide (p.n5 ≤ 4) && (decide (p.n6 ≤ 60) && (decide (p.n7 ≤ 60) && fewOps s.ops))))) := by rw [scrSmall, l1, l5, l6, l7]
  rw [hdef]
  clear hcall hdef hB hin l1 l5 l6 l7 l8
  generalize (scrCells s p).toArray = yc at *
  by_cases c0 : p.n1 ≤ 16000
  · have b0 : decide ((p.n1 : Int) ≤ 16000) = true := by simp only [decide_eq_true_eq]; omega
    have d0 := decide_eq_true c0
    by_cases c1 : s.sectors ≤ 1500
    · have b1 : decide (s.sectors ≤ 1500) = true := by simp only [decide_eq_true_eq]; omega
      have d1 := decide_eq_true c1
      by_cases c2 : p.n5 ≤ 4
      · have b2 : decide ((p.n5 : Int) ≤ 4) = true := by simp only [decide_eq_true_eq]; omega
        have d2 := decide_eq_true c2
        by_cases c3 : p.n6 ≤ 60
        · have b3 : decide ((p.n6 : Int) ≤ 60) = true := by simp only [decide_eq_true_eq]; omega
          have d3 := decide_eq_true c3
          by_cases c4 : p.n7 ≤ 60
          · have b4 : decide ((p.n7 : Int) ≤ 60) = true := by simp only [decide_eq_true_eq]; omega
            have d4 := decide_eq_true c4
            rw [d0, d1, d2, d3, d4]
            simp only [Bool.true_and]
            clear c0 d0 c1 d1 c2 d2 c3 d3 c4 d4
            go_enter Try.func19, Try.ntmps19
            go_wp2_with (go_at_call 72; refine Hcall.out.mono ?_; rintro e w2 ⟨rfl, hf2⟩)
            go_ret
            exact ⟨rfl, hF.trans hf2 fun _ _ => id⟩
          · have b4 : decide ((p.n7 : Int) ≤ 60) = false := by simp only [decide_eq_false_iff_not]; omega
            rw [d0, d1, d2, d3, decide_eq_false c4]
            simp only [Bool.true_and, Bool.false_and]
            clear c0 d0 c1 d1 c2 d2 c3 d3 c4
            go_enter Try.func19, Try.ntmps19
            go_wp2
            go_ret
            exact ⟨rfl, hF⟩
        · have b3 : decide ((p.n6 : Int) ≤ 60) = false := by simp only [decide_eq_false_iff_not]; omega
          rw [d0, d1, d2, decide_eq_false c3]
          simp only [Bool.true_and, Bool.false_and]
          clear c0 d0 c1 d1 c2 d2 c3
          go_enter Try.func19, Try.ntmps19
          go_wp2
          go_ret
          exact ⟨rfl, hF⟩
      · have b2 : decide ((p.n5 : Int) ≤ 4) = false := by simp only [decide_eq_false_iff_not]; omega
        rw [d0, d1, decide_eq_false c2]
        simp only [Bool.true_and, Bool.false_and]
        clear c0 d0 c1 d1 c2
        go_enter Try.func19, Try.ntmps19
        go_wp2
        go_ret
        exact ⟨rfl, hF⟩
    · have b1 : decide (s.sectors ≤ 1500) = false := by simp only [decide_eq_false_iff_not]; omega
      rw [d0, decide_eq_false c1]
      simp only [Bool.true_and, Bool.false_and]
      clear c0 d0 c1
      go_enter Try.func19, Try.ntmps19
      go_wp2
      go_ret
      exact ⟨rfl, hF⟩
  · have b0 : decide ((p.n1 : Int) ≤ 16000) = false := by simp only [decide_eq_false_iff_not]; omega
    rw [decide_eq_false c0]
    simp only [Bool.false_and]
    clear c0
    go_enter Try.func19, Try.ntmps19
    go_wp2
    go_ret
    exact ⟨rfl, hF⟩
end Go.Proofs.Ytnkfchondedfcaa
