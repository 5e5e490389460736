/-
  Disks without crashes to come, as far as they are long (disk.Disk); halves, heads and regions of a disk (keep, slog). Conditions: each contract states its own.
-/
import Derived.Test.YtnplamcajjblkaaGreatKa
namespace Go.Proofs.YtnplamcajjblkaaGreat
open Go.RowKit

/-- A disk of n sectors, with power, without crashes to come; secs: what stands in them. -/
structure DiskAt (w : World) (p r n k : Nat) (secs : List (List UInt8)) : Prop where
  blk : Blk w p 110 #[.slice (some ⟨r, 0, none⟩) n n, .slice none 0 0, .int .i64 (k : Int), .bool true]
  row : ∃ cs : Array Value, Blk w r 200 cs ∧ cs.toList = secs.flatMap (·.map bv)
  len : secs.length = n
  all : ∀ s ∈ secs, s.length = 64
theorem flat_len64 : ∀ (l : List (List UInt8)), (∀ s ∈ l, s.length = 64) → (l.flatMap (·.map bv)).length = l.length * 64
  | [], _ => rfl
  | a :: l, h => by
    rw [List.flatMap_cons, List.length_append, List.length_map, h a (List.mem_cons_self ..), flat_len64 l fun s hs => h s (List.mem_cons_of_mem _ hs), List.length_cons]
    omega
theorem flat_set64 : ∀ (l : List (List UInt8)) (i : Nat) (s : List UInt8), (∀ s ∈ l, s.length = 64) → s.length = 64 → i < l.length → (l.flatMap (·.map bv)).take (i * 64) ++ s.map bv ++ (l.flatMap (·.map bv)).drop (i * 64 + 64) = (l.set i s).flatMap (·.map bv)
  | [], _, _, _, _, h => by simp at h
  | a :: l, 0, s, h, hs, _ => by
    have ha : (a.map bv).length = 64 := by rw [List.length_map]; exact h a (List.mem_cons_self ..)
    simp only [Nat.zero_mul, List.take_zero, List.nil_append, Nat.zero_add, List.flatMap_cons, List.set_cons_zero]
    rw [List.drop_left' ha]
  | a :: l, i + 1, s, h, hs, hi => by
    have ha : (a.map bv).length = 64 := by rw [List.length_map]; exact h a (List.mem_cons_self ..)
    have ih := flat_set64 l i s (fun s hs => h s (List.mem_cons_of_mem _ hs)) hs (by simpa using hi)
    have e1 : (i + 1) * 64 = 64 + i * 64 := by omega
    have e2 : (i + 1) * 64 + 64 = 64 + (i * 64 + 64) := by omega
    rw [List.flatMap_cons, List.set_cons_succ, List.flatMap_cons, ← ih, e2, e1, List.take_append, List.drop_append, ha]
    rw [List.take_of_length_le (by rw [ha]; omega), List.drop_eq_nil_of_le (by rw [ha]; omega)]
    have e3 : 64 + i * 64 - 64 = i * 64 := by omega
    have e4 : 64 + (i * 64 + 64) - 64 = i * 64 + 64 := by omega
    rw [e3, e4, List.nil_append]
    simp only [List.append_assoc]
theorem flat_at64 : ∀ (l : List (List UInt8)) (i : Nat) (s : List UInt8), (∀ s ∈ l, s.length = 64) → l[i]? = some s → ∀ (j : Nat) u, (s.map bv)[j]? = some u → (l.flatMap (·.map bv))[i * 64 + j]? = some u
  | [], _, _, _, h, _, _, _ => by simp at h
  | a :: l, 0, s, h, hi, j, u, hu => by
    injection hi with hi
    subst hi
    rw [List.flatMap_cons, Nat.zero_mul, Nat.zero_add]
    rw [List.getElem?_append_left (List.getElem?_eq_some_iff.1 hu).1]
    exact hu
  | a :: l, i + 1, s, h, hi, j, u, hu => by
    have ha : (a.map bv).length = 64 := by rw [List.length_map]; exact h a (List.mem_cons_self ..)
    rw [List.flatMap_cons, List.getElem?_append_right (by rw [ha]; omega), ha]
    have e : (i + 1) * 64 + j - 64 = i * 64 + j := by omega
    rw [e]
    exact flat_at64 l i s (fun s hs => h s (List.mem_cons_of_mem _ hs)) (by simpa using hi) j u hu
section
variable {w w' : World} {p r n k : Nat} {secs : List (List UInt8)} {S : Nat → Prop}
theorem DiskAt.fr (h : DiskAt w p r n k secs) (hf : Fr S w w') (hp : ¬ S p) (hr : ¬ S r) : DiskAt w' p r n k secs := ⟨h.blk.fr hf hp, h.row.elim fun cs hc => ⟨cs, hc.1.fr hf hr, hc.2⟩, h.len, h.all⟩
theorem DiskAt.ne (h : DiskAt w p r n k secs) : p ≠ r := by
  obtain ⟨cs, hc, _⟩ := h.row
  exact h.blk.ne_ hc (by decide)
theorem DiskAt.c0 (h : DiskAt w p r n k secs) : w.cell? ⟨p, 0, none⟩ = some (.slice (some ⟨r, 0, none⟩) n n) := (h.blk.cell 0).trans rfl
theorem DiskAt.c1 (h : DiskAt w p r n k secs) : w.cell? ⟨p, 1, none⟩ = some (.slice none 0 0) := (h.blk.cell 1).trans rfl
theorem DiskAt.c2 (h : DiskAt w p r n k secs) : w.cell? ⟨p, 2, none⟩ = some (.int .i64 (k : Int)) := (h.blk.cell 2).trans rfl
theorem DiskAt.c3 (h : DiskAt w p r n k secs) : w.cell? ⟨p, 3, none⟩ = some (.bool true) := (h.blk.cell 3).trans rfl
end

theorem diskLen_any (w : World) (p r n k : Nat) (secs : List (List UInt8)) (h : DiskAt w p r n k secs) : Calls Tryz.prog 91 #[.pointer (some ⟨p, 0, none⟩)] w fun e w' => e = .returned (.int .i64 (n : Int)) ∧ w' = w := by
  have c0 := h.c0
  go_enter Tryz.func91, Tryz.ntmps91
  go_wp2
  go_ret
  exact ⟨rfl, rfl⟩
theorem diskDead_any (w : World) (p r n k : Nat) (secs : List (List UInt8)) (h : DiskAt w p r n k secs) : Calls Tryz.prog 234 #[.pointer (some ⟨p, 0, none⟩)] w fun e w' => e = .returned (.bool false) ∧ w' = w := by
  have c3 := h.c3
  go_enter Tryz.func234, Tryz.ntmps234
  go_wp2
  go_ret
  exact ⟨rfl, rfl⟩
theorem diskMay_any (w : World) (p r n k i : Nat) (secs : List (List UInt8)) (h : DiskAt w p r n k secs) (hi : i < n) : Calls Tryz.prog 156 #[.pointer (some ⟨p, 0, none⟩), .int .i64 (i : Int)] w fun e w' => e = .returned (.int .i64 0) ∧ w' = w := by
  have c0 := h.c0
  have H := Lib.hid (diskDead_any w p r n k secs h)
  have b1 : decide ((i : Int) < 0) = false := by simp only [decide_eq_false_iff_not]; omega
  have b2 : decide ((n : Int) ≤ (i : Int)) = false := by simp only [decide_eq_false_iff_not]; omega
  go_enter Tryz.func156, Tryz.ntmps156
  go_wp2_with (go_at_call 234; refine H.out.mono ?_; rintro e w1 ⟨rfl, rfl⟩)
  go_ret
  exact ⟨rfl, rfl⟩
theorem slot_any (w : World) (g : Nat) (hg : g < 4294967296) : Calls Tryz.prog 46 #[.int .u32 (g : Int)] w fun e w' => e = .returned (.int .i64 ((g % 2 : Nat) : Int)) ∧ w' = w := by
  go_enter Tryz.func46, Tryz.ntmps46
  go_wp2
  go_ret
  refine ⟨?_, rfl⟩
  refine ret_int ?_
  omega

set_option maxRecDepth 100000 in
set_option maxHeartbeats 2000000 in
theorem diskWrite_any (w : World) (p r n k i : Nat) (secs : List (List UInt8)) (h : DiskAt w p r n k secs) (hi : i < n) (hk : k < 1000000) (sec : List UInt8) (hsl : sec.length = 64) :
    Calls Tryz.prog 154 #[.pointer (some ⟨p, 0, none⟩), .int .i64 (i : Int), .agg (sec.map bv).toArray] w fun e w' => e = .returned (.int .i64 0) ∧ DiskAt w' p r n (k + 1) (secs.set i sec) ∧ Fr (fun j => j = p ∨ j = r) w w' := by
  have hplt := h.blk.lt
  have hrlt : r < w.heap.size := by obtain ⟨cs, hc, _⟩ := h.row; exact hc.lt
  have hpr := h.ne
  obtain ⟨ys, hys⟩ : ∃ ys, ys = sec.map bv := ⟨_, rfl⟩
  have hl : ys.length = 64 := by rw [hys, List.length_map]; exact hsl
  have h1 : ∀ v ∈ ys, v.oneCell' = true := by rw [hys]; exact bv_one _
  have Hys := Lib.hid hys
  rw [← hys]
  clear hys
  obtain ⟨w2, hw2⟩ : ∃ w2, w2 = w.alloc (.cells ys.toArray 200) := ⟨_, rfl⟩
  obtain ⟨B, hB⟩ : ∃ B, B = w.heap.size := ⟨_, rfl⟩
  have hf2 : Fr NoB w w2 := by rw [hw2]; exact (Fr.refl _ _).alloc _
  have hY : Blk w2 B 200 ys.toArray := by rw [hw2, hB]; exact Blk.new _ _ _
  have h2 := h.fr hf2 id id
  have H := Lib.hid (diskMay_any w2 p r n k i secs h2 hi)
  have HB := Lib.hid hB
  have Hw2 := Lib.hid hw2
  have Hl := Lib.hid hl
  have H1 := Lib.hid h1
  rw [← hB] at hplt hrlt
  clear hB hw2 hl h1
  go_enter Tryz.func154, Tryz.ntmps154
  go_wp2_with fail
  rw [← Hw2.out]
  try rw [← HB.out]
  go_wp2_with (go_at_call 156; refine H.out.mono ?_; rintro e w1 ⟨rfl, h12⟩; rw [h12])
  refine wp_region_held (S := fun W => W = w2.drew) rfl ?_
  have d0 := (h2.fr (Fr.drew (Fr.refl NoB w2)) id id).c1
  refine wpAnyH_take (i := 0) rfl (by decide +kernel) (by decide +kernel) (by decide +kernel) (fun _ _ _ h => h) (Or.inl ⟨by kernel_rfl, fun W hW => by rw [hW]; go_simp; with_reducible rfl⟩) rfl ?_
  go_simp
  refine wpAnyH_take (i := 1) rfl (by decide +kernel) (by decide +kernel) (by decide +kernel) (fun _ _ _ h => h) (Or.inl ⟨by kernel_rfl, fun W hW => by rw [hW]; go_simp; with_reducible rfl⟩) rfl ?_
  go_simp
  refine wpAnyH_take (i := 2) rfl (by decide +kernel) (by decide +kernel) (by decide +kernel) (fun _ _ _ h => h) (Or.inl ⟨by kernel_rfl, fun W hW => by rw [hW]; go_simp; with_reducible rfl⟩) rfl ?_
  go_simp
  refine wpAnyH_take (i := 3) rfl (by decide +kernel) (by decide +kernel) (by decide +kernel) (fun _ _ _ h => h) (Or.inl ⟨by kernel_rfl, fun W hW => by rw [hW]; go_simp; with_reducible rfl⟩) rfl ?_
  go_simp
  refine wpAnyH_take (i := 4) rfl (by decide +kernel) (by decide +kernel) (by decide +kernel) (fun _ _ _ h => h) (Or.inl ⟨by kernel_rfl, fun W hW => by rw [hW]; go_simp; with_reducible rfl⟩) rfl ?_
  go_simp
  refine wpAnyH_take (i := 5) rfl (by decide +kernel) (by decide +kernel) (by decide +kernel) (fun _ _ _ h => h) (Or.inl ⟨by kernel_rfl, fun W hW => by rw [hW]; go_simp; with_reducible rfl⟩) rfl ?_
  go_simp
  refine wpAnyH_take (i := 6) rfl (by decide +kernel) (by decide +kernel) (by decide +kernel) (fun _ _ _ h => h) (Or.inl ⟨by kernel_rfl, fun W hW => by rw [hW]; go_simp; with_reducible rfl⟩) rfl ?_
  go_simp
  refine wpAnyH_take (i := 7) rfl (by decide +kernel) (by decide +kernel) (by decide +kernel) (fun _ _ _ h => h) (Or.inr ⟨by kernel_rfl, rfl⟩) rfl ?_
  refine wpAnyH_take (i := 8) rfl (by decide +kernel) (by decide +kernel) (by decide +kernel) (fun _ _ _ h => h) (Or.inr ⟨by kernel_rfl, rfl⟩) rfl ?_
  refine wpAnyH_take (i := 9) rfl (by decide +kernel) (by decide +kernel) (by decide +kernel) (fun _ _ _ h => h) (Or.inr ⟨by kernel_rfl, rfl⟩) rfl ?_
  refine wpAnyH_take (i := 10) rfl (by decide +kernel) (by decide +kernel) (by decide +kernel) (fun _ _ _ h => h) (Or.inr ⟨by kernel_rfl, rfl⟩) rfl ?_
  refine wpAnyH_take (i := 11) rfl (by decide +kernel) (by decide +kernel) (by decide +kernel) (fun _ _ _ h => h) (Or.inr ⟨by kernel_rfl, rfl⟩) rfl ?_
  refine wpAnyH_take (i := 12) rfl (by decide +kernel) (by decide +kernel) (by decide +kernel) (fun _ _ _ h => h) (Or.inr ⟨by kernel_rfl, rfl⟩) rfl ?_
  refine wpAnyH_take (i := 13) rfl (by decide +kernel) (by decide +kernel) (by decide +kernel) (fun _ _ _ h => h) (Or.inr ⟨by kernel_rfl, rfl⟩) rfl ?_
  refine wpAnyH_take (i := 14) rfl (by decide +kernel) (by decide +kernel) (by decide +kernel) (fun _ _ _ h => h) (Or.inr ⟨by kernel_rfl, rfl⟩) rfl ?_
  refine wpAnyH_take (i := 15) rfl (by decide +kernel) (by decide +kernel) (by decide +kernel) (fun _ _ _ h => h) (Or.inr ⟨by kernel_rfl, rfl⟩) rfl ?_
  refine wpAnyH_take (i := 16) rfl (by decide +kernel) (by decide +kernel) (by decide +kernel) (fun _ _ _ h => h) (Or.inr ⟨by kernel_rfl, rfl⟩) rfl ?_
  refine wpAnyH_take (i := 17) rfl (by decide +kernel) (by decide +kernel) (by decide +kernel) (fun _ _ _ h => h) (Or.inr ⟨by kernel_rfl, rfl⟩) rfl ?_
  refine wpAnyH_take (i := 18) rfl (by decide +kernel) (by decide +kernel) (by decide +kernel) (fun _ _ _ h => h) (Or.inr ⟨by kernel_rfl, rfl⟩) rfl ?_
  refine wpAnyH_take (i := 19) rfl (by decide +kernel) (by decide +kernel) (by decide +kernel) (fun _ _ _ h => h) (Or.inl ⟨by kernel_rfl, fun W hW => by rw [hW]; go_simp; with_reducible rfl⟩) rfl ?_
  go_simp
  refine wpAnyH_done (by decide +kernel) ?_ _
  clear d0
  go_wp2_with fail
  obtain ⟨w3, hw3⟩ : ∃ w3, w3 = w2.drew.drew := ⟨_, rfl⟩
  have hf3 : Fr NoB w2 w3 := by rw [hw3]; exact (Fr.drew (Fr.refl _ _)).drew
  have h3 := h2.fr hf3 id id
  have hY3 := hY.fr hf3 id
  have all3 : ∀ W, Fr (fun j => j = r) w3 W → ∀ j u, ys[j]? = some u → W.cell? ⟨B, 0 + j, none⟩ = some u := fun W hW j u hu => by rw [Nat.zero_add, (hY3.fr hW (by omega)).cell]; simpa using hu
  have d0 := h3.c0
  have gi0 : (0 : Int) ≤ (i : Int) := by omega
  have gi1 : (i : Int) < (n : Int) := by omega
  obtain ⟨cs, hcs, hcE⟩ := h3.row
  have hcl : cs.size = n * 64 := by rw [← Array.length_toList, hcE, flat_len64 _ h.all, h.len]
  have HcE := Lib.hid hcE
  clear hcE
  have hS : Fr (fun j => j = r) w3 w3 := Fr.refl _ _
  refine wp_region_held (S := fun W => Fr (fun j => j = r) w3 W) rfl ?_
  rw [show { w2.drew with drawn := w2.drew.drawn + 1 } = w3 from hw3.symm]
  clear hw3
  refine wpAnyH_take (i := 0) rfl (by decide +kernel) (by decide +kernel) (by decide +kernel) (fun _ _ _ h => h) (Or.inl ⟨by kernel_rfl, fun W hW => by go_simp; with_reducible rfl⟩) hS ?_
  go_simp
  refine wpAnyH_take (i := 1) rfl (by decide +kernel) (by decide +kernel) (by decide +kernel) (fun _ _ _ h => h) (Or.inl ⟨by kernel_rfl, fun W hW => by go_simp; with_reducible rfl⟩) hS ?_
  go_simp
  refine wpAnyH_take (i := 2) rfl (by decide +kernel) (by decide +kernel) (by decide +kernel) (fun _ _ _ h => h) (Or.inl ⟨by kernel_rfl, fun W hW => by go_simp; with_reducible rfl⟩) hS ?_
  go_simp
  refine wpAnyH_take (i := 3) rfl (by decide +kernel) (by decide +kernel) (by decide +kernel) (fun _ _ _ h => h) (Or.inl ⟨by kernel_rfl, fun W hW => by have qq := hW.cell' d0 hpr; go_simp; with_reducible rfl⟩) hS ?_
  go_simp
  refine wpAnyH_take (i := 4) rfl (by decide +kernel) (by decide +kernel) (by decide +kernel) (fun _ _ _ h => h) (Or.inl ⟨by kernel_rfl, fun W hW => by go_simp; with_reducible rfl⟩) hS ?_
  refine wpAnyH_take (i := 5) rfl (by decide +kernel) (by decide +kernel) (by decide +kernel) (fun _ _ _ h => h) (Or.inl ⟨by kernel_rfl, fun W hW => exec_load_agg 200 (.tmp 5) rfl B 0 rfl ys _ (all3 W hW) Tryz.underlying200 rfl (by rw [Hl.out]; exact sec_size)⟩) hS ?_
  go_simp
  refine wpAnyH_take (i := 6) rfl (by decide +kernel) (by decide +kernel) (by decide +kernel) (fun _ _ _ h => h) (Or.inl ⟨by kernel_rfl, fun W hW => by go_simp; with_reducible rfl⟩) hS ?_
  go_simp
  refine wpAnyH_all (rs := [7]) (by decide +kernel) (by simp) ?_
  intro i hi
  simp only [List.mem_cons, List.not_mem_nil, or_false] at hi
  subst hi
  refine wpOp_skip (w' := w3.setRow r (cs.toList.take (i * 64) ++ ys ++ cs.toList.drop (i * 64 + ys.length)).toArray) rfl (by kernel_rfl) (exec_store_segK 200 (.tmp 61) (.tmp 60) rfl r (i * 64) ys rfl rfl 200 cs hcs (by rw [Hl.out]; exact sec_size) (by rw [Hl.out, hcl]; omega) H1.out) ?_
  obtain ⟨q1, q2⟩ := setRow_frK (ds := (cs.toList.take (i * 64) ++ ys ++ cs.toList.drop (i * 64 + ys.length)).toArray) hcs
  refine ⟨q1, ?_⟩
  refine wpAnyH_done (by decide +kernel) ?_ _
  obtain ⟨w4, hw4⟩ : ∃ w4, w4 = w3.setRow r (cs.toList.take (i * 64) ++ ys ++ cs.toList.drop (i * 64 + ys.length)).toArray := ⟨_, rfl⟩
  rw [← hw4] at q1 q2 ⊢
  have h4 : DiskAt w4 p r n k (secs.set i sec) := ⟨h3.blk.fr q1 hpr, ⟨_, q2, by rw [List.toList_toArray, HcE.out, Hl.out, Hys.out]; exact flat_set64 secs i sec h.all hsl (by rw [h.len]; exact hi)⟩, by rw [List.length_set]; exact h.len, fun s hs => (List.mem_or_eq_of_mem_set hs).elim (h.all s) fun e => by rw [e]; exact hsl⟩
  have e2 := h4.c2
  have z2 := h4.blk.frozen 2
  clear hw4 d0 hcs hcl hS
  go_wp2
  have q3 : Fr (fun j => j = p) w4 (w4.setCell ⟨p, 2, none⟩ (.int .i64 ((k : Int) + 1))) := (Fr.refl _ _).at_ _ _
  go_ret
  refine ⟨rfl, ⟨?_, ?_, h4.len, h4.all⟩, ?_⟩
  · have := h4.blk.set_ 2 (.int .i64 ((k : Int) + 1))
    simpa using this
  · obtain ⟨cs', c1, c2⟩ := h4.row
    exact ⟨cs', c1.fr q3 fun e => hpr e.symm, c2⟩
  · exact (((hf2.mono (S' := fun j => j = p ∨ j = r) fun _ _ h => h.elim).trans hf3 fun _ _ h => h.elim).trans q1 fun _ _ h => .inr h).trans q3 fun _ _ h => .inl h
/-- Where a half of a disk begins, how long it is. -/
def halfF (n : Nat) (k : Int) : Int × Int := if k < 0 ∨ 1 < k ∨ n < 6 then (0, 0) else (2 + k * (((n - 2) / 2 : Nat) : Int), (((n - 2) / 2 : Nat) : Int))
theorem half_tdiv {n : Nat} (h : 6 ≤ n) : ((n : Int) - 2).tdiv 2 = (((n - 2) / 2 : Nat) : Int) := by
  have e : (n : Int) - 2 = ((n - 2 : Nat) : Int) := by omega
  rw [e, Int.tdiv_eq_ediv_of_nonneg (by omega)]
  omega
theorem half_small {n : Nat} (h : n < 6) : ((n : Int) - 2).tdiv 2 < 2 := by
  rcases (by omega : n = 0 ∨ n = 1 ∨ n = 2 ∨ n = 3 ∨ n = 4 ∨ n = 5) with rfl | rfl | rfl | rfl | rfl | rfl <;> decide
set_option maxHeartbeats 1000000 in
theorem half_any (w : World) (p r n k : Nat) (secs : List (List UInt8)) (j : Int) (h : DiskAt w p r n k secs) (hn : n ≤ 1000000) (hj1 : -9223372036854775808 ≤ j) (hj2 : j ≤ 9223372036854775807) :
    Calls Tryz.prog 44 #[.pointer (some ⟨p, 0, none⟩), .int .i64 j] w fun e w' => e = .returned (.tuple #[.int .i64 (halfF n j).1, .int .i64 (halfF n j).2]) ∧ w' = w := by
  have H := Lib.hid (diskLen_any w p r n k secs h)
  by_cases h6 : n < 6
  · have hh := half_small h6
    have hE : halfF n j = (0, 0) := by unfold halfF; rw [if_pos (.inr (.inr h6))]
    rw [hE]
    go_enter Tryz.func44, Tryz.ntmps44
    go_wp2_with (go_at_call 91; refine H.out.mono ?_; rintro e w1 ⟨rfl, h12⟩; rw [h12])
    all_goals
      go_ret2
      exact ⟨rfl, rfl⟩
  · have hq := half_tdiv (n := n) (by omega)
    obtain ⟨q, hqe⟩ : ∃ q, q = (n - 2) / 2 := ⟨_, rfl⟩
    have hq2 : 2 ≤ q := by omega
    have hqm : q ≤ 1000000 := by omega
    rcases (by omega : (j < 0 ∨ 1 < j) ∨ j = 0 ∨ j = 1) with hj | rfl | rfl
    · have hE : halfF n j = (0, 0) := by unfold halfF; rw [if_pos (by omega)]
      rw [hE]
      rw [← hqe] at hq
      clear hE hqe
      rcases hj with hj | hj
      all_goals
        go_enter Tryz.func44, Tryz.ntmps44
        go_wp2_with (go_at_call 91; refine H.out.mono ?_; rintro e w1 ⟨rfl, h12⟩; rw [h12])
        go_ret2
        exact ⟨rfl, rfl⟩
    · have hE : halfF n 0 = (2, (q : Int)) := by unfold halfF; rw [if_neg (by omega), ← hqe]; simp
      rw [hE]
      rw [← hqe] at hq
      clear hE hqe
      go_enter Tryz.func44, Tryz.ntmps44
      go_wp2_with (go_at_call 91; refine H.out.mono ?_; rintro e w1 ⟨rfl, h12⟩; rw [h12])
      go_ret2
      exact ⟨rfl, rfl⟩
    · have hE : halfF n 1 = (2 + (q : Int), (q : Int)) := by unfold halfF; rw [if_neg (by omega), ← hqe]; simp
      rw [hE]
      rw [← hqe] at hq
      clear hE hqe
      go_enter Tryz.func44, Tryz.ntmps44
      go_wp2_with (go_at_call 91; refine H.out.mono ?_; rintro e w1 ⟨rfl, h12⟩; rw [h12])
      go_ret2
      exact ⟨rfl, rfl⟩

/-- A head that is to be written: where, and what. -/
def HeadR (y : List Value) (x : Nat × List UInt8) : Prop := y = .int .i64 (x.1 : Int) :: x.2.map bv ∧ x.2.length = 64
def setsAt (secs : List (List UInt8)) (hs : List (Nat × List UInt8)) : List (List UInt8) := hs.foldl (fun l x => l.set x.1 x.2) secs
theorem setsAt_step {secs : List (List UInt8)} {hs : List (Nat × List UInt8)} {i : Nat} {x : Nat × List UInt8} (h : hs[i]? = some x) : setsAt secs (hs.take (i + 1)) = (setsAt secs (hs.take i)).set x.1 x.2 := by
  rw [take_snocK h, setsAt, List.foldl_append]
  rfl
theorem head_size : (Tryz.prog.info? 202).map (·.size) = some 65 := by kernel_rfl
theorem head_zero : ((Tryz.prog.info? 202).bind (·.zero)).map (·.cells.size) = some 65 := by kernel_rfl

set_option maxRecDepth 100000 in
set_option maxHeartbeats 2000000 in
theorem written_any (w : World) (F : Nat → Prop) (p r n k : Nat) (secs : List (List UInt8)) (A : Option Addr) (m c : Nat) (hs : List (Nat × List UInt8)) (h : DiskAt w p r n k secs) (hh : ArrOf HeadR w F 65 A m hs) (hF : ∀ j, F j → ¬ (j = p ∨ j = r)) (hat : ∀ x ∈ hs, x.1 < n) (hk : k + m < 1000000) :
    Calls Tryz.prog 86 #[.pointer (some ⟨p, 0, none⟩), .slice A m c] w fun e w' => e = .returned (.int .i64 0) ∧ DiskAt w' p r n (k + m) (setsAt secs hs) ∧ Fr (fun j => j = p ∨ j = r) w w' := by
  have Hat := Lib.hid hat
  have Hll := Lib.hid hh.len
  clear hat
  go_enter Tryz.func86, Tryz.ntmps86
  go_wp2
  go_loopw [10] (fun v wr => ∃ i : Nat, i ≤ m ∧ v = .int .i64 i ∧ DiskAt wr p r n (k + i) (setsAt secs (hs.take i)) ∧ Fr (fun j => j = p ∨ j = r) w wr) (fun v _ => m - (intOf v).toNat)
  case atStart => exact ⟨0, by omega, rfl, h, Fr.refl _ _⟩
  case round =>
    obtain ⟨i, hi, rfl, hD, hf1⟩ := hrel
    obtain ⟨w1, rfl⟩ : ∃ w1 : World, w1 = wr := ⟨_, rfl⟩
    by_cases him : i < m
    · obtain ⟨b, o, x, y, rfl, _, gx, ly, ⟨hy, hx64⟩, hc⟩ := ArrOf.at_ (hh.fr hf1 hF fun _ _ _ h => h) him
      have hxn := Hat.out x (List.mem_of_getElem? gx)
      have Ly := Lib.hid ly
      have Ly2 : Hid (y.toArray.size = 65) := by show _ = _; simpa using ly
      have Y1 : Hid (y.toArray.all (·.oneCell') = true) := by
        show _ = _
        rw [Array.all_eq_true_iff_forall_mem, hy]
        intro u hu
        rcases List.mem_cons.1 (List.mem_toArray.1 hu) with rfl | hu
        · rfl
        · exact bv_one _ u hu
      have Hy := Lib.hid hy
      have Hst := Lib.hid (setsAt_step (secs := secs) gx)
      have Hx64 := Lib.hid hx64
      obtain ⟨xs, hxs⟩ : ∃ xs, xs = x.2.map bv := ⟨_, rfl⟩
      have Hxs := Lib.hid hxs
      have hplt := hD.blk.lt
      have hrlt : r < w1.heap.size := by obtain ⟨cs, hc, _⟩ := hD.row; exact hc.lt
      clear gx ly hy hx64 hxs
      go_wp2_with (first
        | (refine wpList_load_agg rfl 202 (.tmp 12) rfl b (o + i * 65) rfl y _ hc Tryz.underlying202 rfl (by rw [Ly.out]; exact head_size) ?_)
        | (refine wpList_alloc_any rfl 202 rfl 65 head_zero ?_; intro z hz; have Hz := Lib.hid hz; clear hz)
        | (refine wpList_store_newN rfl 202 (.tmp 6) (.tmp 13) rfl 65 head_size _ z Hz.out y.toArray rfl rfl Ly2.out Y1.out ?_
           clear Hz
           obtain ⟨g, hg⟩ : ∃ g, g = w1.heap.size := ⟨_, rfl⟩
           obtain ⟨w2, hw2⟩ : ∃ w2, w2 = w1.alloc (.cells y.toArray 202) := ⟨_, rfl⟩
           rw [← hw2]
           rw [← hg]
           have hf2 : Fr NoB w1 w2 := by rw [hw2]; exact (Fr.refl _ _).alloc _
           have hG : Blk w2 g 202 y.toArray := by rw [hw2, hg]; exact Blk.new _ _ _
           have g0 : w2.cell? ⟨g, 0, none⟩ = some (.int .i64 (x.1 : Int)) := by rw [hG.cell, Hy.out]; rfl
           have g1 : ∀ j u, xs[j]? = some u → w2.cell? ⟨g, 1 + j, none⟩ = some u := fun j u hu => by rw [hG.cell, Hy.out, Nat.add_comm]; rw [Hxs.out] at hu; simpa using hu
           have H := diskWrite_any w2 p r n (k + i) x.1 _ (hD.fr hf2 id id) hxn (by omega) x.2 Hx64.out
           rw [← Hxs.out] at H
           have H := Lib.hid H
           clear hw2 hg hc)
        | (refine wpList_load_agg rfl 200 (.tmp 17) rfl g 1 rfl xs _ g1 Tryz.underlying200 rfl (by rw [Hxs.out, List.length_map, Hx64.out]; exact sec_size) ?_)
        | (go_at_call 154
           refine H.out.mono ?_
           rintro e w3 ⟨rfl, hD3, hf3⟩))
      go_roundw
      case rel => exact ⟨i + 1, by omega, by go_num, by rw [← Nat.add_assoc, Hst.out]; exact hD3, (hf1.trans hf2 fun _ _ h => h.elim).trans hf3 fun _ _ h => h⟩
      case measure => (simp [intOf] <;> omega)
    · have him2 : i = m := by omega
      subst him2
      rw [List.take_of_length_le (by rw [Hll.out]; exact Nat.le_refl _)] at hD
      go_wp2
      go_ret
      exact ⟨rfl, hD, hf1⟩
set_option maxRecDepth 100000 in
set_option maxHeartbeats 2000000 in
theorem regionIs_any (w : World) (p r n k f m g : Nat) (secs : List (List UInt8)) (h : DiskAt w p r n k secs) (h1 : 2 ≤ m) (h2 : f + m ≤ n) (hn : n ≤ 1000000) :
    Calls Tryz.prog 94 #[.agg #[.pointer (some ⟨p, 0, none⟩), .int .i64 (f : Int), .int .i64 (m : Int), .int .u32 (g : Int)]] w fun e w' => e = .returned (.bool true) ∧ Fr NoB w w' := by
  obtain ⟨w2, hw2⟩ : ∃ w2, w2 = w.alloc (.cells #[.pointer (some ⟨p, 0, none⟩), .int .i64 (f : Int), .int .i64 (m : Int), .int .u32 (g : Int)] 223) := ⟨_, rfl⟩
  obtain ⟨B, hB⟩ : ∃ B, B = w.heap.size := ⟨_, rfl⟩
  have hf2 : Fr NoB w w2 := by rw [hw2]; exact (Fr.refl _ _).alloc _
  have hG : Blk w2 B 223 #[.pointer (some ⟨p, 0, none⟩), .int .i64 (f : Int), .int .i64 (m : Int), .int .u32 (g : Int)] := by rw [hw2, hB]; exact Blk.new _ _ _
  have H := Lib.hid (diskLen_any w2.drew p r n k secs (h.fr hf2.drew id id))
  have HB := Lib.hid hB
  have Hw2 := Lib.hid hw2
  clear hB hw2
  have q0 : w2.drew.cell? ⟨B, 0, none⟩ = some (.pointer (some ⟨p, 0, none⟩)) := (hG.cell 0).trans rfl
  have q1 : w2.drew.cell? ⟨B, 1, none⟩ = some (.int .i64 (f : Int)) := (hG.cell 1).trans rfl
  have q2 : w2.drew.cell? ⟨B, 2, none⟩ = some (.int .i64 (m : Int)) := (hG.cell 2).trans rfl
  have b1 : decide ((0 : Int) ≤ (f : Int)) = true := by simp only [decide_eq_true_eq]; omega
  have b2 : decide ((2 : Int) ≤ (m : Int)) = true := by simp only [decide_eq_true_eq]; omega
  have b3 : decide ((f : Int) ≤ (n : Int)) = true := by simp only [decide_eq_true_eq]; omega
  have b5 : decide (f ≤ n) = true := by simp only [decide_eq_true_eq]; omega
  have b6 : decide (2 ≤ m) = true := by simp only [decide_eq_true_eq]; omega
  have hwr : IntKind.wrap .i64 ((n : Int) - (f : Int)) = ((n - f : Nat) : Int) := by rw [IntKind.wrap_i64]; omega
  have b4 : decide ((m : Int) ≤ ((n - f : Nat) : Int)) = true := by simp only [decide_eq_true_eq]; omega
  have b7 : decide (m ≤ n - f) = true := by simp only [decide_eq_true_eq]; omega
  go_enter Tryz.func94, Tryz.ntmps94
  go_wp2_with fail
  rw [← Hw2.out]
  try rw [← HB.out]
  refine wp_region_held (S := fun W => W = w2.drew) rfl ?_
  refine wpAnyH_take (i := 0) rfl (by decide +kernel) (by decide +kernel) (by decide +kernel) (fun _ _ _ h => h) (Or.inl ⟨by kernel_rfl, fun W hW => by rw [hW]; go_simp; with_reducible rfl⟩) rfl ?_
  go_simp
  refine wpAnyH_take (i := 1) rfl (by decide +kernel) (by decide +kernel) (by decide +kernel) (fun _ _ _ h => h) (Or.inl ⟨by kernel_rfl, fun W hW => by rw [hW]; go_simp; with_reducible rfl⟩) rfl ?_
  go_simp
  refine wpAnyH_take (i := 2) rfl (by decide +kernel) (by decide +kernel) (by decide +kernel) (fun _ _ _ h => h) (Or.inl ⟨by kernel_rfl, fun W hW => by rw [hW]; go_simp; with_reducible rfl⟩) rfl ?_
  go_simp
  refine wpAnyH_take (i := 3) rfl (by decide +kernel) (by decide +kernel) (by decide +kernel) (fun _ _ _ h => h) (Or.inl ⟨by kernel_rfl, fun W hW => by rw [hW]; go_simp; with_reducible rfl⟩) rfl ?_
  go_simp
  refine wpAnyH_take (i := 4) rfl (by decide +kernel) (by decide +kernel) (by decide +kernel) (fun _ _ _ h => h) (Or.inl ⟨by kernel_rfl, fun W hW => by rw [hW]; go_simp; with_reducible rfl⟩) rfl ?_
  go_simp
  refine wpAnyH_take (i := 5) rfl (by decide +kernel) (by decide +kernel) (by decide +kernel) (fun _ _ _ h => h) (Or.inl ⟨by kernel_rfl, fun W hW => by rw [hW]; go_simp; with_reducible rfl⟩) rfl ?_
  go_simp
  refine wpAnyH_take (i := 6) rfl (by decide +kernel) (by decide +kernel) (by decide +kernel) (fun _ _ _ h => h) (Or.inl ⟨by kernel_rfl, fun W hW => by rw [hW]; go_simp; with_reducible rfl⟩) rfl ?_
  go_simp
  refine wpAnyH_take (i := 7) rfl (by decide +kernel) (by decide +kernel) (by decide +kernel) (fun _ _ _ h => h) (Or.inl ⟨by kernel_rfl, fun W hW => by rw [hW]; go_simp; with_reducible rfl⟩) rfl ?_
  go_simp
  refine wpAnyH_take (i := 8) rfl (by decide +kernel) (by decide +kernel) (by decide +kernel) (fun _ _ _ h => h) (Or.inl ⟨by kernel_rfl, fun W hW => by rw [hW]; go_simp; with_reducible rfl⟩) rfl ?_
  go_simp
  refine wpAnyH_take (i := 9) rfl (by decide +kernel) (by decide +kernel) (by decide +kernel) (fun _ _ _ h => h) (Or.inl ⟨by kernel_rfl, fun W hW => by rw [hW]; go_simp; with_reducible rfl⟩) rfl ?_
  go_simp
  refine wpAnyH_take (i := 10) rfl (by decide +kernel) (by decide +kernel) (by decide +kernel) (fun _ _ _ h => h) (Or.inl ⟨by kernel_rfl, fun W hW => by rw [hW]; go_simp; with_reducible rfl⟩) rfl ?_
  go_simp
  refine wpAnyH_take (i := 11) rfl (by decide +kernel) (by decide +kernel) (by decide +kernel) (fun _ _ _ h => h) (Or.inl ⟨by kernel_rfl, fun W hW => by rw [hW]; go_simp; with_reducible rfl⟩) rfl ?_
  go_simp
  refine wpAnyH_take (i := 12) rfl (by decide +kernel) (by decide +kernel) (by decide +kernel) (fun _ _ _ h => h) (Or.inl ⟨by kernel_rfl, fun W hW => by rw [hW]; go_simp; with_reducible rfl⟩) rfl ?_
  go_simp
  refine wpAnyH_all (rs := [13]) (by decide +kernel) (by simp) ?_
  intro i hi
  simp only [List.mem_cons, List.not_mem_nil, or_false] at hi
  subst hi
  refine wpOp_call rfl (by kernel_rfl) 91 (enters_of Tryz.func91 (by kernel_rfl) rfl) #[.tmp 15] _ rfl _ rfl H.out ?_
  rintro e w3 ⟨rfl, h3⟩
  rw [h3]
  refine ⟨_, rfl, rfl, ?_⟩
  clear h3
  go_simp
  refine wpAnyH_take (i := 14) rfl (by decide +kernel) (by decide +kernel) (by decide +kernel) (fun _ _ _ h => h) (Or.inl ⟨by kernel_rfl, fun W hW => by rw [hW]; go_simp; with_reducible rfl⟩) rfl ?_
  go_simp
  refine wpAnyH_take (i := 15) rfl (by decide +kernel) (by decide +kernel) (by decide +kernel) (fun _ _ _ h => h) (Or.inl ⟨by kernel_rfl, fun W hW => by rw [hW]; go_simp; with_reducible rfl⟩) rfl ?_
  go_simp
  refine wpAnyH_take (i := 16) rfl (by decide +kernel) (by decide +kernel) (by decide +kernel) (fun _ _ _ h => h) (Or.inl ⟨by kernel_rfl, fun W hW => by rw [hW]; go_simp; with_reducible rfl⟩) rfl ?_
  go_simp
  refine wpAnyH_take (i := 17) rfl (by decide +kernel) (by decide +kernel) (by decide +kernel) (fun _ _ _ h => h) (Or.inl ⟨by kernel_rfl, fun W hW => by rw [hW]; go_simp; with_reducible rfl⟩) rfl ?_
  go_simp
  refine wpAnyH_take (i := 18) rfl (by decide +kernel) (by decide +kernel) (by decide +kernel) (fun _ _ _ h => h) (Or.inl ⟨by kernel_rfl, fun W hW => by rw [hW]; go_simp; with_reducible rfl⟩) rfl ?_
  go_simp
  refine wpAnyH_take (i := 19) rfl (by decide +kernel) (by decide +kernel) (by decide +kernel) (fun _ _ _ h => h) (Or.inl ⟨by kernel_rfl, fun W hW => by rw [hW]; go_simp; with_reducible rfl⟩) rfl ?_
  go_simp
  refine wpAnyH_take (i := 20) rfl (by decide +kernel) (by decide +kernel) (by decide +kernel) (fun _ _ _ h => h) (Or.inl ⟨by kernel_rfl, fun W hW => by rw [hW]; go_simp; with_reducible rfl⟩) rfl ?_
  go_simp
  refine wpAnyH_take (i := 22) rfl (by decide +kernel) (by decide +kernel) (by decide +kernel) (fun _ _ _ h => h) (Or.inl ⟨by kernel_rfl, fun W hW => by rw [hW]; go_simp; with_reducible rfl⟩) rfl ?_
  go_simp
  refine wpAnyH_take (i := 23) rfl (by decide +kernel) (by decide +kernel) (by decide +kernel) (fun _ _ _ h => h) (Or.inl ⟨by kernel_rfl, fun W hW => by rw [hW]; go_simp; with_reducible rfl⟩) rfl ?_
  go_simp
  refine wpAnyH_all (rs := [21]) (by decide +kernel) (by simp) ?_
  intro i hi
  simp only [List.mem_cons, List.not_mem_nil, or_false] at hi
  subst hi
  refine wpOp_call rfl (by kernel_rfl) 91 (enters_of Tryz.func91 (by kernel_rfl) rfl) #[.tmp 23] _ rfl _ rfl H.out ?_
  rintro e w3 ⟨rfl, h3⟩
  rw [h3]
  refine ⟨_, rfl, rfl, ?_⟩
  clear h3
  go_simp
  refine wpAnyH_take (i := 24) rfl (by decide +kernel) (by decide +kernel) (by decide +kernel) (fun _ _ _ h => h) (Or.inl ⟨by kernel_rfl, fun W hW => by rw [hW]; go_simp; with_reducible rfl⟩) rfl ?_
  go_simp
  refine wpAnyH_take (i := 25) rfl (by decide +kernel) (by decide +kernel) (by decide +kernel) (fun _ _ _ h => h) (Or.inl ⟨by kernel_rfl, fun W hW => by rw [hW]; go_simp; with_reducible rfl⟩) rfl ?_
  go_simp
  refine wpAnyH_take (i := 26) rfl (by decide +kernel) (by decide +kernel) (by decide +kernel) (fun _ _ _ h => h) (Or.inl ⟨by kernel_rfl, fun W hW => by rw [hW]; go_simp; with_reducible rfl⟩) rfl ?_
  go_simp
  refine wpAnyH_take (i := 27) rfl (by decide +kernel) (by decide +kernel) (by decide +kernel) (fun _ _ _ h => h) (Or.inl ⟨by kernel_rfl, fun W hW => by rw [hW]; go_simp; with_reducible rfl⟩) rfl ?_
  go_simp
  refine wpAnyH_done (by decide +kernel) ?_ _
  go_wp2
  go_ret
  exact ⟨rfl, hf2.drew⟩
theorem zsec_built : Tryz.prog.built 200 [] = some ((List.replicate 64 (0 : UInt8)).map bv).toArray := by kernel_rfl

set_option maxRecDepth 100000 in
set_option maxHeartbeats 2000000 in
theorem format_any (w : World) (p r n k f m g : Nat) (secs : List (List UInt8)) (h : DiskAt w p r n k secs) (h1 : 2 ≤ m) (h2 : f + m ≤ n) (hn : n ≤ 1000000) (hk : k < 1000000) :
    Calls Tryz.prog 87 #[.pointer (some ⟨p, 0, none⟩), .int .i64 (f : Int), .int .i64 (m : Int), .int .u32 (g : Int)] w fun e w' => e = .returned (.int .i64 0) ∧ DiskAt w' p r n (k + 1) (secs.set f (List.replicate 64 0)) ∧ Fr (fun j => j = p ∨ j = r) w w' := by
  have H := Lib.hid (regionIs_any w p r n k f m g secs h h1 h2 hn)
  obtain ⟨zs, hzs⟩ : ∃ zs, zs = (List.replicate 64 (0 : UInt8)).map bv := ⟨_, rfl⟩
  have Hz : Hid (Tryz.prog.built 200 [] = some zs.toArray) := by show _ = _; rw [hzs]; exact zsec_built
  have h2' : ∀ W (hW : DiskAt W p r n k secs), Calls Tryz.prog 154 #[.pointer (some ⟨p, 0, none⟩), .int .i64 (f : Int), .agg zs.toArray] W fun e w' => e = .returned (.int .i64 0) ∧ DiskAt w' p r n (k + 1) (secs.set f (List.replicate 64 0)) ∧ Fr (fun j => j = p ∨ j = r) W w' := fun W hW => by rw [hzs]; exact diskWrite_any W p r n k f secs hW (by omega) hk _ (by simp)
  have H2 := Lib.hid h2'
  clear h2'
  clear hzs
  go_enter Tryz.func87, Tryz.ntmps87
  go_wp2_with (first
    | (go_at_call 94
       refine H.out.mono ?_
       rintro e w1 ⟨rfl, hf1⟩)
    | (refine wpList_buildK rfl 200 #[] rfl [] rfl zs.toArray Hz.out ?_)
    | (go_at_call 154
       refine (H2.out w1 (h.fr hf1 id id)).mono ?_
       rintro e w2 ⟨rfl, hD2, hf2⟩))
  go_ret
  exact ⟨rfl, hD2, (hf1.mono fun _ _ h => h.elim).trans hf2 fun _ _ h => h⟩
end Go.Proofs.YtnplamcajjblkaaGreat
