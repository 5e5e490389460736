/-
  Disks without crashes to come, as far as they are long (disk.Disk); halves, heads and regions of a disk (keep, slog). Conditions: each contract states its own.
-/
import Derived.Test.YtdfmoafjgocbnaaGreatKa
namespace Go.Proofs.YtdfmoafjgocbnaaGreat
open Go.RowKit

/-- A disk of n sectors, with power, without crashes to come. -/
structure DiskAt (w : World) (p r n k : Nat) : Prop where
  blk : Blk w p 157 #[.slice (some ⟨r, 0, none⟩) n n, .slice none 0 0, .int .i64 (k : Int), .bool true]
  row : ∃ cs : Array Value, Blk w r 97 cs ∧ cs.size = n * 64
section
variable {w w' : World} {p r n k : Nat} {S : Nat → Prop}
theorem DiskAt.fr (h : DiskAt w p r n k) (hf : Fr S w w') (hp : ¬ S p) (hr : ¬ S r) : DiskAt w' p r n k := ⟨h.blk.fr hf hp, h.row.elim fun cs hc => ⟨cs, hc.1.fr hf hr, hc.2⟩⟩
theorem DiskAt.ne (h : DiskAt w p r n k) : p ≠ r := by
  obtain ⟨cs, hc, _⟩ := h.row
  exact h.blk.ne_ hc (by decide)
theorem DiskAt.c0 (h : DiskAt w p r n k) : w.cell? ⟨p, 0, none⟩ = some (.slice (some ⟨r, 0, none⟩) n n) := (h.blk.cell 0).trans rfl
theorem DiskAt.c1 (h : DiskAt w p r n k) : w.cell? ⟨p, 1, none⟩ = some (.slice none 0 0) := (h.blk.cell 1).trans rfl
theorem DiskAt.c2 (h : DiskAt w p r n k) : w.cell? ⟨p, 2, none⟩ = some (.int .i64 (k : Int)) := (h.blk.cell 2).trans rfl
theorem DiskAt.c3 (h : DiskAt w p r n k) : w.cell? ⟨p, 3, none⟩ = some (.bool true) := (h.blk.cell 3).trans rfl
end

theorem diskLen_any (w : World) (p r n k : Nat) (h : DiskAt w p r n k) : Calls Tryz.prog 66 #[.pointer (some ⟨p, 0, none⟩)] w fun e w' => e = .returned (.int .i64 (n : Int)) ∧ w' = w := by
  have c0 := h.c0
  go_enter Tryz.func66, Tryz.ntmps66
  go_wp2
  go_ret
  exact ⟨rfl, rfl⟩
theorem diskDead_any (w : World) (p r n k : Nat) (h : DiskAt w p r n k) : Calls Tryz.prog 248 #[.pointer (some ⟨p, 0, none⟩)] w fun e w' => e = .returned (.bool false) ∧ w' = w := by
  have c3 := h.c3
  go_enter Tryz.func248, Tryz.ntmps248
  go_wp2
  go_ret
  exact ⟨rfl, rfl⟩
theorem diskMay_any (w : World) (p r n k i : Nat) (h : DiskAt w p r n k) (hi : i < n) : Calls Tryz.prog 205 #[.pointer (some ⟨p, 0, none⟩), .int .i64 (i : Int)] w fun e w' => e = .returned (.int .i64 0) ∧ w' = w := by
  have c0 := h.c0
  have H := Lib.hid (diskDead_any w p r n k h)
  have b1 : decide ((i : Int) < 0) = false := by simp only [decide_eq_false_iff_not]; omega
  have b2 : decide ((n : Int) ≤ (i : Int)) = false := by simp only [decide_eq_false_iff_not]; omega
  go_enter Tryz.func205, Tryz.ntmps205
  go_wp2_with (go_at_call 248; refine H.out.mono ?_; rintro e w1 ⟨rfl, rfl⟩)
  go_ret
  exact ⟨rfl, rfl⟩
theorem slot_any (w : World) (g : Nat) (hg : g < 4294967296) : Calls Tryz.prog 117 #[.int .u32 (g : Int)] w fun e w' => e = .returned (.int .i64 ((g % 2 : Nat) : Int)) ∧ w' = w := by
  go_enter Tryz.func117, Tryz.ntmps117
  go_wp2
  go_ret
  refine ⟨?_, rfl⟩
  refine ret_int ?_
  omega

set_option maxRecDepth 100000 in
set_option maxHeartbeats 2000000 in
theorem diskWrite_any (w : World) (p r n k i : Nat) (h : DiskAt w p r n k) (hi : i < n) (hk : k < 1000000) (ys : List Value) (hl : ys.length = 64) (h1 : ∀ v ∈ ys, v.oneCell' = true) :
    Calls Tryz.prog 162 #[.pointer (some ⟨p, 0, none⟩), .int .i64 (i : Int), .agg ys.toArray] w fun e w' => e = .returned (.int .i64 0) ∧ DiskAt w' p r n (k + 1) ∧ Fr (fun j => j = p ∨ j = r) w w' := by
  have hplt := h.blk.lt
  have hrlt : r < w.heap.size := by obtain ⟨cs, hc, _⟩ := h.row; exact hc.lt
  have hpr := h.ne
  obtain ⟨w2, hw2⟩ : ∃ w2, w2 = w.alloc (.cells ys.toArray 97) := ⟨_, rfl⟩
  obtain ⟨B, hB⟩ : ∃ B, B = w.heap.size := ⟨_, rfl⟩
  have hf2 : Fr NoB w w2 := by rw [hw2]; exact (Fr.refl _ _).alloc _
  have hY : Blk w2 B 97 ys.toArray := by rw [hw2, hB]; exact Blk.new _ _ _
  have h2 := h.fr hf2 id id
  have H := Lib.hid (diskMay_any w2 p r n k i h2 hi)
  have HB := Lib.hid hB
  have Hw2 := Lib.hid hw2
  have Hl := Lib.hid hl
  have H1 := Lib.hid h1
  rw [← hB] at hplt hrlt
  clear hB hw2 hl h1
  go_enter Tryz.func162, Tryz.ntmps162
  go_wp2_with fail
  rw [← Hw2.out]
  try rw [← HB.out]
  go_wp2_with (go_at_call 205; refine H.out.mono ?_; rintro e w1 ⟨rfl, h12⟩; rw [h12])
  refine wp_region_held (S := fun W => W = w2.drew) rfl ?_
  have d0 := (h2.fr (Fr.drew (Fr.refl NoB w2)) id id).c1
  refine wpAnyH_take (i := 0) rfl (by decide +kernel) (by decide +kernel) (by decide +kernel) (fun _ _ _ h => h) (Or.inl ⟨by kernel_rfl, fun W hW => by rw [hW]; go_simp; with_reducible rfl⟩) rfl ?_
  go_simp
  refine wpAnyH_take (i := 1) rfl (by decide +kernel) (by decide +kernel) (by decide +kernel) (fun _ _ _ h => h) (Or.inl ⟨by kernel_rfl, fun W hW => by rw [hW]; go_simp; with_reducible rfl⟩) rfl ?_
  go_simp
  refine wpAnyH_take (i := 2) rfl (by decide +kernel) (by decide +kernel) (by decide +kernel) (fun _ _ _ h => h) (Or.inl ⟨by kernel_rfl, fun W hW => by rw [hW]; go_simp; with_reducible rfl⟩) rfl ?_
  go_simp
  refine wpAnyH_take (i := 3) rfl (by decide +kernel) (by decide +kernel) (by decide +kernel) (fun _ _ _ h => h) (Or.inl ⟨by kernel_rfl, fun W hW => by rw [hW]; go_simp; with_reducible rfl⟩) rfl ?_
  go_simp
  refine wpAnyH_take (i := 4) rfl (by decide +kernel) (by decide +kernel) (by decide +kernel) (fun _ _ _ h => h) (Or.inl ⟨by kernel_rfl, fun W hW => by rw [hW]; go_simp; with_reducible rfl⟩) rfl ?_
  go_simp
  refine wpAnyH_take (i := 5) rfl (by decide +kernel) (by decide +kernel) (by decide +kernel) (fun _ _ _ h => h) (Or.inl ⟨by kernel_rfl, fun W hW => by rw [hW]; go_simp; with_reducible rfl⟩) rfl ?_
  go_simp
  refine wpAnyH_take (i := 6) rfl (by decide +kernel) (by decide +kernel) (by decide +kernel) (fun _ _ _ h => h) (Or.inl ⟨by kernel_rfl, fun W hW => by rw [hW]; go_simp; with_reducible rfl⟩) rfl ?_
  go_simp
  refine wpAnyH_take (i := 7) rfl (by decide +kernel) (by decide +kernel) (by decide +kernel) (fun _ _ _ h => h) (Or.inr ⟨by kernel_rfl, rfl⟩) rfl ?_
  refine wpAnyH_take (i := 8) rfl (by decide +kernel) (by decide +kernel) (by decide +kernel) (fun _ _ _ h => h) (Or.inr ⟨by kernel_rfl, rfl⟩) rfl ?_
  refine wpAnyH_take (i := 9) rfl (by decide +kernel) (by decide +kernel) (by decide +kernel) (fun _ _ _ h => h) (Or.inr ⟨by kernel_rfl, rfl⟩) rfl ?_
  refine wpAnyH_take (i := 10) rfl (by decide +kernel) (by decide +kernel) (by decide +kernel) (fun _ _ _ h => h) (Or.inr ⟨by kernel_rfl, rfl⟩) rfl ?_
  refine wpAnyH_take (i := 11) rfl (by decide +kernel) (by decide +kernel) (by decide +kernel) (fun _ _ _ h => h) (Or.inr ⟨by kernel_rfl, rfl⟩) rfl ?_
  refine wpAnyH_take (i := 12) rfl (by decide +kernel) (by decide +kernel) (by decide +kernel) (fun _ _ _ h => h) (Or.inr ⟨by kernel_rfl, rfl⟩) rfl ?_
  refine wpAnyH_take (i := 13) rfl (by decide +kernel) (by decide +kernel) (by decide +kernel) (fun _ _ _ h => h) (Or.inr ⟨by kernel_rfl, rfl⟩) rfl ?_
  refine wpAnyH_take (i := 14) rfl (by decide +kernel) (by decide +kernel) (by decide +kernel) (fun _ _ _ h => h) (Or.inr ⟨by kernel_rfl, rfl⟩) rfl ?_
  refine wpAnyH_take (i := 15) rfl (by decide +kernel) (by decide +kernel) (by decide +kernel) (fun _ _ _ h => h) (Or.inr ⟨by kernel_rfl, rfl⟩) rfl ?_
  refine wpAnyH_take (i := 16) rfl (by decide +kernel) (by decide +kernel) (by decide +kernel) (fun _ _ _ h => h) (Or.inr ⟨by kernel_rfl, rfl⟩) rfl ?_
  refine wpAnyH_take (i := 17) rfl (by decide +kernel) (by decide +kernel) (by decide +kernel) (fun _ _ _ h => h) (Or.inr ⟨by kernel_rfl, rfl⟩) rfl ?_
  refine wpAnyH_take (i := 18) rfl (by decide +kernel) (by decide +kernel) (by decide +kernel) (fun _ _ _ h => h) (Or.inr ⟨by kernel_rfl, rfl⟩) rfl ?_
  refine wpAnyH_take (i := 19) rfl (by decide +kernel) (by decide +kernel) (by decide +kernel) (fun _ _ _ h => h) (Or.inl ⟨by kernel_rfl, fun W hW => by rw [hW]; go_simp; with_reducible rfl⟩) rfl ?_
  go_simp
  refine wpAnyH_done (by decide +kernel) ?_ _
  clear d0
  go_wp2_with fail
  obtain ⟨w3, hw3⟩ : ∃ w3, w3 = w2.drew.drew := ⟨_, rfl⟩
  have hf3 : Fr NoB w2 w3 := by rw [hw3]; exact (Fr.drew (Fr.refl _ _)).drew
  have h3 := h2.fr hf3 id id
  have hY3 := hY.fr hf3 id
  have all3 : ∀ W, Fr (fun j => j = r) w3 W → ∀ j u, ys[j]? = some u → W.cell? ⟨B, 0 + j, none⟩ = some u := fun W hW j u hu => by rw [Nat.zero_add, (hY3.fr hW (by omega)).cell]; simpa using hu
  have d0 := h3.c0
  have gi0 : (0 : Int) ≤ (i : Int) := by omega
  have gi1 : (i : Int) < (n : Int) := by omega
  obtain ⟨cs, hcs, hcl⟩ := h3.row
  have hS : Fr (fun j => j = r) w3 w3 := Fr.refl _ _
  refine wp_region_held (S := fun W => Fr (fun j => j = r) w3 W) rfl ?_
  rw [show { w2.drew with drawn := w2.drew.drawn + 1 } = w3 from hw3.symm]
  clear hw3
  refine wpAnyH_take (i := 0) rfl (by decide +kernel) (by decide +kernel) (by decide +kernel) (fun _ _ _ h => h) (Or.inl ⟨by kernel_rfl, fun W hW => by go_simp; with_reducible rfl⟩) hS ?_
  go_simp
  refine wpAnyH_take (i := 1) rfl (by decide +kernel) (by decide +kernel) (by decide +kernel) (fun _ _ _ h => h) (Or.inl ⟨by kernel_rfl, fun W hW => by go_simp; with_reducible rfl⟩) hS ?_
  go_simp
  refine wpAnyH_take (i := 2) rfl (by decide +kernel) (by decide +kernel) (by decide +kernel) (fun _ _ _ h => h) (Or.inl ⟨by kernel_rfl, fun W hW => by go_simp; with_reducible rfl⟩) hS ?_
  go_simp
  refine wpAnyH_take (i := 3) rfl (by decide +kernel) (by decide +kernel) (by decide +kernel) (fun _ _ _ h => h) (Or.inl ⟨by kernel_rfl, fun W hW => by have qq := hW.cell' d0 hpr; go_simp; with_reducible rfl⟩) hS ?_
  go_simp
  refine wpAnyH_take (i := 4) rfl (by decide +kernel) (by decide +kernel) (by decide +kernel) (fun _ _ _ h => h) (Or.inl ⟨by kernel_rfl, fun W hW => by go_simp; with_reducible rfl⟩) hS ?_
  refine wpAnyH_take (i := 5) rfl (by decide +kernel) (by decide +kernel) (by decide +kernel) (fun _ _ _ h => h) (Or.inl ⟨by kernel_rfl, fun W hW => exec_load_agg 97 (.tmp 5) rfl B 0 rfl ys _ (all3 W hW) Tryz.underlying97 rfl (by rw [Hl.out]; exact sec_size)⟩) hS ?_
  go_simp
  refine wpAnyH_take (i := 6) rfl (by decide +kernel) (by decide +kernel) (by decide +kernel) (fun _ _ _ h => h) (Or.inl ⟨by kernel_rfl, fun W hW => by go_simp; with_reducible rfl⟩) hS ?_
  go_simp
  refine wpAnyH_all (rs := [7]) (by decide +kernel) (by simp) ?_
  intro i hi
  simp only [List.mem_cons, List.not_mem_nil, or_false] at hi
  subst hi
  refine wpOp_skip (w' := w3.setRow r (cs.toList.take (i * 64) ++ ys ++ cs.toList.drop (i * 64 + ys.length)).toArray) rfl (by kernel_rfl) (exec_store_segK 97 (.tmp 61) (.tmp 60) rfl r (i * 64) ys rfl rfl 97 cs hcs (by rw [Hl.out]; exact sec_size) (by rw [Hl.out, hcl]; omega) H1.out) ?_
  obtain ⟨q1, q2⟩ := setRow_frK (ds := (cs.toList.take (i * 64) ++ ys ++ cs.toList.drop (i * 64 + ys.length)).toArray) hcs
  refine ⟨q1, ?_⟩
  refine wpAnyH_done (by decide +kernel) ?_ _
  obtain ⟨w4, hw4⟩ : ∃ w4, w4 = w3.setRow r (cs.toList.take (i * 64) ++ ys ++ cs.toList.drop (i * 64 + ys.length)).toArray := ⟨_, rfl⟩
  rw [← hw4] at q1 q2 ⊢
  have h4 : DiskAt w4 p r n k := ⟨h3.blk.fr q1 hpr, _, q2, by simp [Hl.out, hcl]; omega⟩
  have e2 := h4.c2
  have z2 := h4.blk.frozen 2
  clear hw4 d0 hcs hcl hS
  go_wp2
  have q3 : Fr (fun j => j = p) w4 (w4.setCell ⟨p, 2, none⟩ (.int .i64 ((k : Int) + 1))) := (Fr.refl _ _).at_ _ _
  go_ret
  refine ⟨rfl, ⟨?_, ?_⟩, ?_⟩
  · have := h4.blk.set_ 2 (.int .i64 ((k : Int) + 1))
    simpa using this
  · obtain ⟨cs', c1, c2⟩ := h4.row
    exact ⟨cs', c1.fr q3 fun e => hpr e.symm, c2⟩
  · exact (((hf2.mono (S' := fun j => j = p ∨ j = r) fun _ _ h => h.elim).trans hf3 fun _ _ h => h.elim).trans q1 fun _ _ h => .inr h).trans q3 fun _ _ h => .inl h
/-- Where a half of a disk begins, how long it is. -/
def halfF (n : Nat) (k : Int) : Int × Int := if k < 0 ∨ 1 < k ∨ n < 6 then (0, 0) else (2 + k * (((n - 2) / 2 : Nat) : Int), (((n - 2) / 2 : Nat) : Int))
theorem half_tdiv {n : Nat} (h : 6 ≤ n) : ((n : Int) - 2).tdiv 2 = (((n - 2) / 2 : Nat) : Int) := by
  have e : (n : Int) - 2 = ((n - 2 : Nat) : Int) := by omega
  rw [e, Int.tdiv_eq_ediv_of_nonneg (by omega)]
  omega
theorem half_small {n : Nat} (h : n < 6) : ((n : Int) - 2).tdiv 2 < 2 := by
  rcases (by omega : n = 0 ∨ n = 1 ∨ n = 2 ∨ n = 3 ∨ n = 4 ∨ n = 5) with rfl | rfl | rfl | rfl | rfl | rfl <;> decide
/-- A disk of the document's, as far as it is long. -/
def RefDisk (w : World) (p n : Nat) : Prop := ∃ A c, Blk w p 159 #[.slice A n c, .slice none 0 0, .int .i64 0, .bool false]

set_option maxHeartbeats 1000000 in
theorem half_any (w : World) (p r n k : Nat) (j : Int) (h : DiskAt w p r n k) (hn : n ≤ 1000000) (hj1 : -9223372036854775808 ≤ j) (hj2 : j ≤ 9223372036854775807) :
    Calls Tryz.prog 32 #[.pointer (some ⟨p, 0, none⟩), .int .i64 j] w fun e w' => e = .returned (.tuple #[.int .i64 (halfF n j).1, .int .i64 (halfF n j).2]) ∧ w' = w := by
  have H := Lib.hid (diskLen_any w p r n k h)
  by_cases h6 : n < 6
  · have hh := half_small h6
    have hE : halfF n j = (0, 0) := by unfold halfF; rw [if_pos (.inr (.inr h6))]
    rw [hE]
    go_enter Tryz.func32, Tryz.ntmps32
    go_wp2_with (go_at_call 66; refine H.out.mono ?_; rintro e w1 ⟨rfl, h12⟩; rw [h12])
    all_goals
      go_ret2
      exact ⟨rfl, rfl⟩
  · have hq := half_tdiv (n := n) (by omega)
    obtain ⟨q, hqe⟩ : ∃ q, q = (n - 2) / 2 := ⟨_, rfl⟩
    have hq2 : 2 ≤ q := by omega
    have hqm : q ≤ 1000000 := by omega
    rcases (by omega : (j < 0 ∨ 1 < j) ∨ j = 0 ∨ j = 1) with hj | rfl | rfl
    · have hE : halfF n j = (0, 0) := by unfold halfF; rw [if_pos (by omega)]
      rw [hE]
      rw [← hqe] at hq
      clear hE hqe
      rcases hj with hj | hj
      all_goals
        go_enter Tryz.func32, Tryz.ntmps32
        go_wp2_with (go_at_call 66; refine H.out.mono ?_; rintro e w1 ⟨rfl, h12⟩; rw [h12])
        go_ret2
        exact ⟨rfl, rfl⟩
    · have hE : halfF n 0 = (2, (q : Int)) := by unfold halfF; rw [if_neg (by omega), ← hqe]; simp
      rw [hE]
      rw [← hqe] at hq
      clear hE hqe
      go_enter Tryz.func32, Tryz.ntmps32
      go_wp2_with (go_at_call 66; refine H.out.mono ?_; rintro e w1 ⟨rfl, h12⟩; rw [h12])
      go_ret2
      exact ⟨rfl, rfl⟩
    · have hE : halfF n 1 = (2 + (q : Int), (q : Int)) := by unfold halfF; rw [if_neg (by omega), ← hqe]; simp
      rw [hE]
      rw [← hqe] at hq
      clear hE hqe
      go_enter Tryz.func32, Tryz.ntmps32
      go_wp2_with (go_at_call 66; refine H.out.mono ?_; rintro e w1 ⟨rfl, h12⟩; rw [h12])
      go_ret2
      exact ⟨rfl, rfl⟩

set_option maxHeartbeats 1000000 in
theorem refHalf_any (w : World) (p n : Nat) (j : Int) (h : RefDisk w p n) (hn : n ≤ 1000000) (hj1 : -9223372036854775808 ≤ j) (hj2 : j ≤ 9223372036854775807) :
    Calls Tryz.prog 33 #[.pointer (some ⟨p, 0, none⟩), .int .i64 j] w fun e w' => e = .returned (.tuple #[.int .i64 (halfF n j).1, .int .i64 (halfF n j).2]) ∧ w' = w := by
  obtain ⟨A, c, hB⟩ := h
  have c0 := hB.cell_0
  by_cases h6 : n < 6
  · have hh := half_small h6
    have hE : halfF n j = (0, 0) := by unfold halfF; rw [if_pos (.inr (.inr h6))]
    rw [hE]
    go_enter Tryz.func33, Tryz.ntmps33
    go_wp2
    all_goals
      go_ret2
      exact ⟨rfl, rfl⟩
  · have hq := half_tdiv (n := n) (by omega)
    obtain ⟨q, hqe⟩ : ∃ q, q = (n - 2) / 2 := ⟨_, rfl⟩
    have hq2 : 2 ≤ q := by omega
    have hqm : q ≤ 1000000 := by omega
    rcases (by omega : (j < 0 ∨ 1 < j) ∨ j = 0 ∨ j = 1) with hj | rfl | rfl
    · have hE : halfF n j = (0, 0) := by unfold halfF; rw [if_pos (by omega)]
      rw [hE]
      rw [← hqe] at hq
      clear hE hqe
      rcases hj with hj | hj
      all_goals
        go_enter Tryz.func33, Tryz.ntmps33
        go_wp2
        go_ret2
        exact ⟨rfl, rfl⟩
    · have hE : halfF n 0 = (2, (q : Int)) := by unfold halfF; rw [if_neg (by omega), ← hqe]; simp
      rw [hE]
      rw [← hqe] at hq
      clear hE hqe
      go_enter Tryz.func33, Tryz.ntmps33
      go_wp2
      go_ret2
      exact ⟨rfl, rfl⟩
    · have hE : halfF n 1 = (2 + (q : Int), (q : Int)) := by unfold halfF; rw [if_neg (by omega), ← hqe]; simp
      rw [hE]
      rw [← hqe] at hq
      clear hE hqe
      go_enter Tryz.func33, Tryz.ntmps33
      go_wp2
      go_ret2
      exact ⟨rfl, rfl⟩

/-- A head that is to be written: where, and what. -/
def HeadR (y : List Value) (x : Nat × List Value) : Prop := y = .int .i64 (x.1 : Int) :: x.2 ∧ x.2.length = 64 ∧ ∀ v ∈ x.2, v.oneCell' = true
theorem head_size : (Tryz.prog.info? 227).map (·.size) = some 65 := by kernel_rfl
theorem head_zero : ((Tryz.prog.info? 227).bind (·.zero)).map (·.cells.size) = some 65 := by kernel_rfl

set_option maxRecDepth 100000 in
set_option maxHeartbeats 2000000 in
theorem written_any (w : World) (F : Nat → Prop) (p r n k : Nat) (A : Option Addr) (m c : Nat) (hs : List (Nat × List Value)) (h : DiskAt w p r n k) (hh : ArrOf HeadR w F 65 A m hs) (hF : ∀ j, F j → ¬ (j = p ∨ j = r)) (hat : ∀ x ∈ hs, x.1 < n) (hk : k + m < 1000000) :
    Calls Tryz.prog 118 #[.pointer (some ⟨p, 0, none⟩), .slice A m c] w fun e w' => e = .returned (.int .i64 0) ∧ DiskAt w' p r n (k + m) ∧ Fr (fun j => j = p ∨ j = r) w w' := by
  have Hat := Lib.hid hat
  have Hll := Lib.hid hh.len
  clear hat
  go_enter Tryz.func118, Tryz.ntmps118
  go_wp2
  go_loopw [10] (fun v wr => ∃ i : Nat, i ≤ m ∧ v = .int .i64 i ∧ DiskAt wr p r n (k + i) ∧ Fr (fun j => j = p ∨ j = r) w wr) (fun v _ => m - (intOf v).toNat)
  case atStart => exact ⟨0, by omega, rfl, h, Fr.refl _ _⟩
  case round =>
    obtain ⟨i, hi, rfl, hD, hf1⟩ := hrel
    obtain ⟨w1, rfl⟩ : ∃ w1 : World, w1 = wr := ⟨_, rfl⟩
    by_cases him : i < m
    · obtain ⟨b, o, x, y, rfl, _, gx, ly, ⟨hy, hx64, hx1⟩, hc⟩ := ArrOf.at_ (hh.fr hf1 hF fun _ _ _ h => h) him
      have hxn := Hat.out x (List.mem_of_getElem? gx)
      have Ly := Lib.hid ly
      have Ly2 : Hid (y.toArray.size = 65) := by show _ = _; simpa using ly
      have Y1 : Hid (y.toArray.all (·.oneCell') = true) := by
        show _ = _
        rw [Array.all_eq_true_iff_forall_mem, hy]
        intro u hu
        rcases List.mem_cons.1 (by simpa using hu) with rfl | hu
        · rfl
        · exact hx1 u hu
      have Hy := Lib.hid hy
      have Hx1 := Lib.hid hx1
      have Hx64 := Lib.hid hx64
      obtain ⟨xs, hxs⟩ : ∃ xs, xs = x.2 := ⟨_, rfl⟩
      have Hxs := Lib.hid hxs
      have hplt := hD.blk.lt
      have hrlt : r < w1.heap.size := by obtain ⟨cs, hc, _⟩ := hD.row; exact hc.lt
      clear gx ly hy hx1 hx64 hxs
      go_wp2_with (first
        | (refine wpList_load_agg rfl 227 (.tmp 12) rfl b (o + i * 65) rfl y _ hc Tryz.underlying227 rfl (by rw [Ly.out]; exact head_size) ?_)
        | (refine wpList_alloc_any rfl 227 rfl 65 head_zero ?_; intro z hz; have Hz := Lib.hid hz; clear hz)
        | (refine wpList_store_newN rfl 227 (.tmp 6) (.tmp 13) rfl 65 head_size _ z Hz.out y.toArray rfl rfl Ly2.out Y1.out ?_
           clear Hz
           obtain ⟨g, hg⟩ : ∃ g, g = w1.heap.size := ⟨_, rfl⟩
           obtain ⟨w2, hw2⟩ : ∃ w2, w2 = w1.alloc (.cells y.toArray 227) := ⟨_, rfl⟩
           rw [← hw2]
           rw [← hg]
           have hf2 : Fr NoB w1 w2 := by rw [hw2]; exact (Fr.refl _ _).alloc _
           have hG : Blk w2 g 227 y.toArray := by rw [hw2, hg]; exact Blk.new _ _ _
           have g0 : w2.cell? ⟨g, 0, none⟩ = some (.int .i64 (x.1 : Int)) := by rw [hG.cell, Hy.out]; rfl
           have g1 : ∀ j u, xs[j]? = some u → w2.cell? ⟨g, 1 + j, none⟩ = some u := fun j u hu => by rw [hG.cell, Hy.out, Nat.add_comm]; rw [Hxs.out] at hu; simpa using hu
           have H := Lib.hid (diskWrite_any w2 p r n (k + i) x.1 (hD.fr hf2 id id) hxn (by omega) xs (by rw [Hxs.out]; exact Hx64.out) (by rw [Hxs.out]; exact Hx1.out))
           clear hw2 hg hc)
        | (refine wpList_load_agg rfl 97 (.tmp 17) rfl g 1 rfl xs _ g1 Tryz.underlying97 rfl (by rw [Hxs.out, Hx64.out]; exact sec_size) ?_)
        | (go_at_call 162
           refine H.out.mono ?_
           rintro e w3 ⟨rfl, hD3, hf3⟩))
      go_roundw
      case rel => exact ⟨i + 1, by omega, by go_num, by rw [← Nat.add_assoc]; exact hD3, (hf1.trans hf2 fun _ _ h => h.elim).trans hf3 fun _ _ h => h⟩
      case measure => (simp [intOf] <;> omega)
    · have him2 : i = m := by omega
      subst him2
      go_wp2
      go_ret
      exact ⟨rfl, hD, hf1⟩
set_option maxRecDepth 100000 in
set_option maxHeartbeats 2000000 in
theorem regionIs_any (w : World) (p r n k f m g : Nat) (h : DiskAt w p r n k) (h1 : 2 ≤ m) (h2 : f + m ≤ n) (hn : n ≤ 1000000) :
    Calls Tryz.prog 163 #[.agg #[.pointer (some ⟨p, 0, none⟩), .int .i64 (f : Int), .int .i64 (m : Int), .int .u32 (g : Int)]] w fun e w' => e = .returned (.bool true) ∧ Fr NoB w w' := by
  obtain ⟨w2, hw2⟩ : ∃ w2, w2 = w.alloc (.cells #[.pointer (some ⟨p, 0, none⟩), .int .i64 (f : Int), .int .i64 (m : Int), .int .u32 (g : Int)] 271) := ⟨_, rfl⟩
  obtain ⟨B, hB⟩ : ∃ B, B = w.heap.size := ⟨_, rfl⟩
  have hf2 : Fr NoB w w2 := by rw [hw2]; exact (Fr.refl _ _).alloc _
  have hG : Blk w2 B 271 #[.pointer (some ⟨p, 0, none⟩), .int .i64 (f : Int), .int .i64 (m : Int), .int .u32 (g : Int)] := by rw [hw2, hB]; exact Blk.new _ _ _
  have H := Lib.hid (diskLen_any w2.drew p r n k (h.fr hf2.drew id id))
  have HB := Lib.hid hB
  have Hw2 := Lib.hid hw2
  clear hB hw2
  have q0 : w2.drew.cell? ⟨B, 0, none⟩ = some (.pointer (some ⟨p, 0, none⟩)) := (hG.cell 0).trans rfl
  have q1 : w2.drew.cell? ⟨B, 1, none⟩ = some (.int .i64 (f : Int)) := (hG.cell 1).trans rfl
  have q2 : w2.drew.cell? ⟨B, 2, none⟩ = some (.int .i64 (m : Int)) := (hG.cell 2).trans rfl
  have b1 : decide ((0 : Int) ≤ (f : Int)) = true := by simp only [decide_eq_true_eq]; omega
  have b2 : decide ((2 : Int) ≤ (m : Int)) = true := by simp only [decide_eq_true_eq]; omega
  have b3 : decide ((f : Int) ≤ (n : Int)) = true := by simp only [decide_eq_true_eq]; omega
  have b5 : decide (f ≤ n) = true := by simp only [decide_eq_true_eq]; omega
  have b6 : decide (2 ≤ m) = true := by simp only [decide_eq_true_eq]; omega
  have hwr : IntKind.wrap .i64 ((n : Int) - (f : Int)) = ((n - f : Nat) : Int) := by rw [IntKind.wrap_i64]; omega
  have b4 : decide ((m : Int) ≤ ((n - f : Nat) : Int)) = true := by simp only [decide_eq_true_eq]; omega
  have b7 : decide (m ≤ n - f) = true := by simp only [decide_eq_true_eq]; omega
  go_enter Tryz.func163, Tryz.ntmps163
  go_wp2_with fail
  rw [← Hw2.out]
  try rw [← HB.out]
  refine wp_region_held (S := fun W => W = w2.drew) rfl ?_
  refine wpAnyH_take (i := 0) rfl (by decide +kernel) (by decide +kernel) (by decide +kernel) (fun _ _ _ h => h) (Or.inl ⟨by kernel_rfl, fun W hW => by rw [hW]; go_simp; with_reducible rfl⟩) rfl ?_
  go_simp
  refine wpAnyH_take (i := 1) rfl (by decide +kernel) (by decide +kernel) (by decide +kernel) (fun _ _ _ h => h) (Or.inl ⟨by kernel_rfl, fun W hW => by rw [hW]; go_simp; with_reducible rfl⟩) rfl ?_
  go_simp
  refine wpAnyH_take (i := 2) rfl (by decide +kernel) (by decide +kernel) (by decide +kernel) (fun _ _ _ h => h) (Or.inl ⟨by kernel_rfl, fun W hW => by rw [hW]; go_simp; with_reducible rfl⟩) rfl ?_
  go_simp
  refine wpAnyH_take (i := 3) rfl (by decide +kernel) (by decide +kernel) (by decide +kernel) (fun _ _ _ h => h) (Or.inl ⟨by kernel_rfl, fun W hW => by rw [hW]; go_simp; with_reducible rfl⟩) rfl ?_
  go_simp
  refine wpAnyH_take (i := 4) rfl (by decide +kernel) (by decide +kernel) (by decide +kernel) (fun _ _ _ h => h) (Or.inl ⟨by kernel_rfl, fun W hW => by rw [hW]; go_simp; with_reducible rfl⟩) rfl ?_
  go_simp
  refine wpAnyH_take (i := 5) rfl (by decide +kernel) (by decide +kernel) (by decide +kernel) (fun _ _ _ h => h) (Or.inl ⟨by kernel_rfl, fun W hW => by rw [hW]; go_simp; with_reducible rfl⟩) rfl ?_
  go_simp
  refine wpAnyH_take (i := 6) rfl (by decide +kernel) (by decide +kernel) (by decide +kernel) (fun _ _ _ h => h) (Or.inl ⟨by kernel_rfl, fun W hW => by rw [hW]; go_simp; with_reducible rfl⟩) rfl ?_
  go_simp
  refine wpAnyH_take (i := 7) rfl (by decide +kernel) (by decide +kernel) (by decide +kernel) (fun _ _ _ h => h) (Or.inl ⟨by kernel_rfl, fun W hW => by rw [hW]; go_simp; with_reducible rfl⟩) rfl ?_
  go_simp
  refine wpAnyH_take (i := 8) rfl (by decide +kernel) (by decide +kernel) (by decide +kernel) (fun _ _ _ h => h) (Or.inl ⟨by kernel_rfl, fun W hW => by rw [hW]; go_simp; with_reducible rfl⟩) rfl ?_
  go_simp
  refine wpAnyH_take (i := 9) rfl (by decide +kernel) (by decide +kernel) (by decide +kernel) (fun _ _ _ h => h) (Or.inl ⟨by kernel_rfl, fun W hW => by rw [hW]; go_simp; with_reducible rfl⟩) rfl ?_
  go_simp
  refine wpAnyH_take (i := 10) rfl (by decide +kernel) (by decide +kernel) (by decide +kernel) (fun _ _ _ h => h) (Or.inl ⟨by kernel_rfl, fun W hW => by rw [hW]; go_simp; with_reducible rfl⟩) rfl ?_
  go_simp
  refine wpAnyH_take (i := 11) rfl (by decide +kernel) (by decide +kernel) (by decide +kernel) (fun _ _ _ h => h) (Or.inl ⟨by kernel_rfl, fun W hW => by rw [hW]; go_simp; with_reducible rfl⟩) rfl ?_
  go_simp
  refine wpAnyH_take (i := 12) rfl (by decide +kernel) (by decide +kernel) (by decide +kernel) (fun _ _ _ h => h) (Or.inl ⟨by kernel_rfl, fun W hW => by rw [hW]; go_simp; with_reducible rfl⟩) rfl ?_
  go_simp
  refine wpAnyH_all (rs := [13]) (by decide +kernel) (by simp) ?_
  intro i hi
  simp only [List.mem_cons, List.not_mem_nil, or_false] at hi
  subst hi
  refine wpOp_call rfl (by kernel_rfl) 66 (enters_of Tryz.func66 (by kernel_rfl) rfl) #[.tmp 15] _ rfl _ rfl H.out ?_
  rintro e w3 ⟨rfl, h3⟩
  rw [h3]
  refine ⟨_, rfl, rfl, ?_⟩
  clear h3
  go_simp
  refine wpAnyH_take (i := 14) rfl (by decide +kernel) (by decide +kernel) (by decide +kernel) (fun _ _ _ h => h) (Or.inl ⟨by kernel_rfl, fun W hW => by rw [hW]; go_simp; with_reducible rfl⟩) rfl ?_
  go_simp
  refine wpAnyH_take (i := 15) rfl (by decide +kernel) (by decide +kernel) (by decide +kernel) (fun _ _ _ h => h) (Or.inl ⟨by kernel_rfl, fun W hW => by rw [hW]; go_simp; with_reducible rfl⟩) rfl ?_
  go_simp
  refine wpAnyH_take (i := 16) rfl (by decide +kernel) (by decide +kernel) (by decide +kernel) (fun _ _ _ h => h) (Or.inl ⟨by kernel_rfl, fun W hW => by rw [hW]; go_simp; with_reducible rfl⟩) rfl ?_
  go_simp
  refine wpAnyH_take (i := 17) rfl (by decide +kernel) (by decide +kernel) (by decide +kernel) (fun _ _ _ h => h) (Or.inl ⟨by kernel_rfl, fun W hW => by rw [hW]; go_simp; with_reducible rfl⟩) rfl ?_
  go_simp
  refine wpAnyH_take (i := 18) rfl (by decide +kernel) (by decide +kernel) (by decide +kernel) (fun _ _ _ h => h) (Or.inl ⟨by kernel_rfl, fun W hW => by rw [hW]; go_simp; with_reducible rfl⟩) rfl ?_
  go_simp
  refine wpAnyH_take (i := 19) rfl (by decide +kernel) (by decide +kernel) (by decide +kernel) (fun _ _ _ h => h) (Or.inl ⟨by kernel_rfl, fun W hW => by rw [hW]; go_simp; with_reducible rfl⟩) rfl ?_
  go_simp
  refine wpAnyH_take (i := 20) rfl (by decide +kernel) (by decide +kernel) (by decide +kernel) (fun _ _ _ h => h) (Or.inl ⟨by kernel_rfl, fun W hW => by rw [hW]; go_simp; with_reducible rfl⟩) rfl ?_
  go_simp
  refine wpAnyH_take (i := 22) rfl (by decide +kernel) (by decide +kernel) (by decide +kernel) (fun _ _ _ h => h) (Or.inl ⟨by kernel_rfl, fun W hW => by rw [hW]; go_simp; with_reducible rfl⟩) rfl ?_
  go_simp
  refine wpAnyH_take (i := 23) rfl (by decide +kernel) (by decide +kernel) (by decide +kernel) (fun _ _ _ h => h) (Or.inl ⟨by kernel_rfl, fun W hW => by rw [hW]; go_simp; with_reducible rfl⟩) rfl ?_
  go_simp
  refine wpAnyH_all (rs := [21]) (by decide +kernel) (by simp) ?_
  intro i hi
  simp only [List.mem_cons, List.not_mem_nil, or_false] at hi
  subst hi
  refine wpOp_call rfl (by kernel_rfl) 66 (enters_of Tryz.func66 (by kernel_rfl) rfl) #[.tmp 23] _ rfl _ rfl H.out ?_
  rintro e w3 ⟨rfl, h3⟩
  rw [h3]
  refine ⟨_, rfl, rfl, ?_⟩
  clear h3
  go_simp
  refine wpAnyH_take (i := 24) rfl (by decide +kernel) (by decide +kernel) (by decide +kernel) (fun _ _ _ h => h) (Or.inl ⟨by kernel_rfl, fun W hW => by rw [hW]; go_simp; with_reducible rfl⟩) rfl ?_
  go_simp
  refine wpAnyH_take (i := 25) rfl (by decide +kernel) (by decide +kernel) (by decide +kernel) (fun _ _ _ h => h) (Or.inl ⟨by kernel_rfl, fun W hW => by rw [hW]; go_simp; with_reducible rfl⟩) rfl ?_
  go_simp
  refine wpAnyH_take (i := 26) rfl (by decide +kernel) (by decide +kernel) (by decide +kernel) (fun _ _ _ h => h) (Or.inl ⟨by kernel_rfl, fun W hW => by rw [hW]; go_simp; with_reducible rfl⟩) rfl ?_
  go_simp
  refine wpAnyH_take (i := 27) rfl (by decide +kernel) (by decide +kernel) (by decide +kernel) (fun _ _ _ h => h) (Or.inl ⟨by kernel_rfl, fun W hW => by rw [hW]; go_simp; with_reducible rfl⟩) rfl ?_
  go_simp
  refine wpAnyH_done (by decide +kernel) ?_ _
  go_wp2
  go_ret
  exact ⟨rfl, hf2.drew⟩
theorem zsec_built : Tryz.prog.built 97 [] = some ((List.replicate 64 (0 : UInt8)).map bv).toArray := by kernel_rfl

set_option maxRecDepth 100000 in
set_option maxHeartbeats 2000000 in
theorem format_any (w : World) (p r n k f m g : Nat) (h : DiskAt w p r n k) (h1 : 2 ≤ m) (h2 : f + m ≤ n) (hn : n ≤ 1000000) (hk : k < 1000000) :
    Calls Tryz.prog 119 #[.pointer (some ⟨p, 0, none⟩), .int .i64 (f : Int), .int .i64 (m : Int), .int .u32 (g : Int)] w fun e w' => e = .returned (.int .i64 0) ∧ DiskAt w' p r n (k + 1) ∧ Fr (fun j => j = p ∨ j = r) w w' := by
  have H := Lib.hid (regionIs_any w p r n k f m g h h1 h2 hn)
  obtain ⟨zs, hzs⟩ : ∃ zs, zs = (List.replicate 64 (0 : UInt8)).map bv := ⟨_, rfl⟩
  have Hz : Hid (Tryz.prog.built 97 [] = some zs.toArray) := by show _ = _; rw [hzs]; exact zsec_built
  have H2 := Lib.hid fun W (hW : DiskAt W p r n k) => diskWrite_any W p r n k f hW (by omega) hk zs (by rw [hzs]; simp) (by rw [hzs]; exact bv_one _)
  clear hzs
  go_enter Tryz.func119, Tryz.ntmps119
  go_wp2_with (first
    | (go_at_call 163
       refine H.out.mono ?_
       rintro e w1 ⟨rfl, hf1⟩)
    | (refine wpList_buildK rfl 97 #[] rfl [] rfl zs.toArray Hz.out ?_)
    | (go_at_call 162
       refine (H2.out w1 (h.fr hf1 id id)).mono ?_
       rintro e w2 ⟨rfl, hD2, hf2⟩))
  go_ret
  exact ⟨rfl, hD2, (hf1.mono fun _ _ h => h.elim).trans hf2 fun _ _ h => h⟩
end Go.Proofs.YtdfmoafjgocbnaaGreat
