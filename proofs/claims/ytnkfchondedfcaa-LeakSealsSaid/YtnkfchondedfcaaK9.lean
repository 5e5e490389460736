/-
  The statement LeakSeals: what one sees who has no key (the walk). Conditions: none but that the arguments can be read.
-/
import Derived.Test.YtnkfchondedfcaaK8
namespace Go.Proofs.Ytnkfchondedfcaa
section
open Go.RowKit Go.Shelf
attribute [local go_sem] Oper.semAt_some

/-- A stretch of code that ends in one act, whatever order was drawn. -/
theorem wpIn_once {F : Fence} {n : Nat} {P : Program} {c : Code} {Q : Exit → Act → World → Prop} {a : Act} {w W : World} (h : ∃ b : Act, c.wpIn F n P (fun e a' W' => e = .normal ∧ W' = W ∧ a' = b) a w ∧ Q .normal b W) : c.wpIn F n P Q a w := by
  obtain ⟨b, h1, h2⟩ := h
  exact wpIn_mono h1 fun e a' W' ⟨q1, q2, q3⟩ => by rw [q1, q2, q3]; exact h2
/-- What holds while the texts are told. -/
def LsI (w : World) (B g : Nat) (F : Nat → Prop) (A : Option Addr) (n c : Nat) (most : Int) (ls : List (List UInt8)) (pre : List Tx) (W : World) : Prop :=
  Blk W B 100 #[.slice A n c] ∧ Blk W (B + 1) 3 #[.int .i64 most] ∧ (∃ b, Blk W (B + 2) 4 #[.bool b]) ∧ Blk W g 3 #[.int .i64 (pre.length : Nat)] ∧ Bytss W F A n ls ∧ Fr NoB w W
theorem LsI.fr {w W W' : World} {B g : Nat} {F S : Nat → Prop} {A : Option Addr} {n c : Nat} {most : Int} {ls : List (List UInt8)} {pre : List Tx} (h : LsI w B g F A n c most ls pre W) (hf : Fr S W W') (hS : ∀ j, S j → g < j) (hB : B + 2 < g) (hw : w.heap.size = B) (hF : ∀ j, F j → j < B) : LsI w B g F A n c most ls pre W' := by
  obtain ⟨h1, h2, ⟨b, h3⟩, h4, h5, h6⟩ := h
  have nS : ∀ j, j ≤ g → ¬ S j := fun j hj h => by have := hS j h; omega
  exact ⟨h1.fr hf (nS _ (by omega)), h2.fr hf (nS _ (by omega)), ⟨b, h3.fr hf (nS _ (by omega))⟩, h4.fr hf (nS _ (Nat.le_refl _)), h5.fr hf fun j hj => nS j (by have := hF j hj; omega), h6.new hf fun j hj => .inr (by have := hS j hj; omega)⟩

set_option maxRecDepth 100000 in
set_option maxHeartbeats 8000000 in
theorem LeakSeals_any (w : World) (A : Option Addr) (n c : Nat) (most : Int) (ls : List (List UInt8)) (h : Bytss w (fun k => k < w.heap.size) A n ls) (hnc : n ≤ c) (hcm : c ≤ maxLen) (hlo : -9223372036854775808 ≤ most) (hhi : most ≤ 9223372036854775807) :
    Calls Try.prog 14 #[.slice A n c, .int .i64 most] w fun e w' => e = .returned (.bool true) ∧ Below w.heap.size w w' := by
  obtain ⟨B, hB⟩ : ∃ B, B = w.heap.size := ⟨_, rfl⟩
  have hlen := h.len
  have hn63 : n ≤ 9223372036854775807 := by unfold maxLen at hcm; omega
  obtain ⟨F, hFe⟩ : ∃ F : Nat → Prop, F = fun k => k < w.heap.size := ⟨_, rfl⟩
  rw [← hFe] at h
  have hFB : ∀ k, F k → k < B := by rw [hFe, hB]; exact fun _ h => h
  obtain ⟨w0, hw0⟩ : ∃ w0, w0 = ((w.alloc (.cells #[.slice A n c] 100)).alloc (.cells #[.int .i64 most] 3)).alloc (.cells #[.bool false] 4) := ⟨_, rfl⟩
  have hf0 : Fr NoB w w0 := by rw [hw0]; exact (((Fr.refl NoB w).alloc _).alloc _).alloc _
  have hs0 : w0.heap.size = B + 3 := by rw [hw0, hB]; simp
  have k0 : Blk w0 B 100 #[.slice A n c] := by rw [hw0, hB]; exact ((Blk.new w _ _).alloc _).alloc _
  have k1 : Blk w0 (B + 1) 3 #[.int .i64 most] := by
    rw [hw0, hB]
    have := (Blk.new (w.alloc (.cells #[.slice A n c] 100)) 3 #[.int .i64 most]).alloc (.cells #[.bool false] 4)
    simpa using this
  have k2 : Blk w0 (B + 2) 4 #[.bool false] := by
    rw [hw0, hB]
    have := Blk.new ((w.alloc (.cells #[.slice A n c] 100)).alloc (.cells #[.int .i64 most] 3)) 4 #[.bool false]
    simpa using this
  have Hlen := Lib.hid hlen
  have HB := Lib.hid hB
  have Hw0 := Lib.hid hw0
  have hfin : ∀ W : World, Fr NoB w W → Below w.heap.size w W := fun W hf => hf.below (Nat.le_refl _) fun _ _ => id
  have Hfin := Lib.hid hfin
  clear hB hw0 hlen hFe hfin
  refine (callsIn_wide (n := 7)).1 ?_
  refine callsIn_of_wp_marks Try.func14 rfl trivial ?_ rfl
  simp only [Try.ntmps14, List.size_toArray, List.length_cons, List.length_nil, Nat.reduceAdd, Nat.reduceSub, Array.replicate_succ, Array.replicate_zero, List.push_toArray, List.append_toArray, List.nil_append, List.cons_append]
  have key : ∀ (w1 : World), Fr NoB w0 w1 → True := fun _ _ => trivial
  clear key
  by_cases h20 : n ≤ 20
  · have b1 : decide ((20 : Int) < (n : Int)) = false := by simp only [decide_eq_false_iff_not]; omega
    by_cases hm0 : 0 ≤ most
    · have b2 : decide (most < (0 : Int)) = false := by simp only [decide_eq_false_iff_not]; omega
      gi_wp2_with (first
        | (refine ⟨trivial, ?_⟩
           gi_at_call 18
           rw [← HB.out]
           rw [← Hw0.out]
           simp only [Nat.add_assoc, Nat.reduceAdd]
           refine (callsIn_wide.2 (awake31 w0)).mono ?_
           rintro e w1 ⟨rfl, hf1⟩
           have p0 := (k0.fr hf1 id).cell_0
           have p1 := (k1.fr hf1 id).cell_0
           have p2 := (k2.fr hf1 id).cell_0
           have z2 := (k2.fr hf1 id).frozen 0))
      have q1 : Fr NoB w w1 := hf0.trans hf1 fun _ _ => id
      gi_loopw [27] (fun v wr => ∃ k : Nat, k ≤ n ∧ v = .int .i64 k ∧ (∀ b ∈ ls.take k, b.length ≤ 1000) ∧ Fr NoB w1 wr) (fun v _ => n - (intOf v).toNat)
      case atStart => exact ⟨0, by omega, rfl, by simp, Fr.refl _ _⟩
      case round =>
        obtain ⟨k, hk, rfl, hall, hf2⟩ := hrel
        obtain ⟨w2, rfl⟩ : ∃ w2 : World, w2 = wr := ⟨_, rfl⟩
        have q2 : Fr NoB w w2 := q1.trans hf2 fun _ _ => id
        have hf12 : Fr NoB w0 w2 := hf1.trans hf2 fun _ _ => id
        have Hall := Lib.hid hall
        clear hall
        by_cases hkn : k < n
        · obtain ⟨bb, oo, x, y, rfl, _, gx, _, ⟨X, p, e, hy, hpe, hem, hb⟩, hcell⟩ := ArrOf.at_ h hkn
          have c0w : w.cell? ⟨bb, oo + k, none⟩ = some (.slice X p e) := by
            have := hcell 0 (.slice X p e) (by rw [hy]; rfl)
            simpa using this
          have c0 := q2.cell' c0w id
          have hp := hb.len
          subst hp
          have Htk := Lib.hid (take_snocE gx)
          clear hy hcell gx c0w
          by_cases hx : x.length ≤ 1000
          · have b3 : decide ((1000 : Int) < (x.length : Int)) = false := by simp only [decide_eq_false_iff_not]; omega
            gi_wp2
            go_roundw
            case rel =>
              refine ⟨k + 1, by omega, by go_num, ?_, hf2⟩
              intro b hb
              rw [Htk.out] at hb
              rcases List.mem_append.1 hb with hb | hb
              · exact Hall.out b hb
              · rw [List.mem_singleton] at hb; rw [hb]; exact hx
            case measure => (simp [intOf] <;> omega)
          · have b3 : decide ((1000 : Int) < (x.length : Int)) = true := by simp only [decide_eq_true_eq]; omega
            have k2' := k2.fr hf12 id
            have z2' := k2'.frozen 0
            have p2' := k2'.cell_0
            gi_wp2
            have hq : Fr (· = B + 2) w2 (w2.setCell ⟨B + 2, 0, none⟩ (.bool true)) := (Fr.refl _ _).at_ _ _
            have hr : Fr NoB w (w2.setCell ⟨B + 2, 0, none⟩ (.bool true)) := (q2).new hq fun j hj => .inr (by have := HB.out; omega)
            have c4 : (w2.setCell ⟨B + 2, 0, none⟩ (.bool true)).cell? ⟨B + 2, 0, none⟩ = some (.bool true) := by have := k2'.set_ 0 (.bool true); exact Blk.cell_0 (by simpa using this)
            refine ⟨.bool true, by simp [results, Try.results14, go_sem, c4], ?_⟩
            exact ⟨rfl, Hfin.out _ hr⟩
        · have hkn2 : k = n := by omega
          subst hkn2
          have hle : ∀ b ∈ ls, b.length ≤ 1000 := fun b hb => Hall.out b (by rw [List.take_of_length_le (by have := Hlen.out; omega)]; exact hb)
          have hsm : ∀ b ∈ ls, b.length ≤ 1000000 := fun b hb => by have := hle b hb; omega
          have r0 := k0.fr hf12 id
          have c1 := r0.cell_0
          have Hof := Lib.hid (sealsOf_any w2 F A k c ls (h.fr q2 fun _ _ => id) (fun j hj => by have := hFB j hj; have := q2.size; have := HB.out; omega) h20 hsm)
          have Href := Lib.hid fun W (hW : Fr NoB w W) => refSeals_any W F A k c ls (h.fr hW fun _ _ => id) (fun j hj => by have := hFB j hj; have := hW.size; have := HB.out; omega) h20 hsm
          clear p0 p1 p2 z2
          gi_wp2_with (first
            | (refine ⟨trivial, ?_⟩
               gi_at_call 61
               refine (callsIn_wide.2 Hof.out).mono ?_
               rintro e w3 ⟨A7, n7, c7, rfl, hf3, hnc7, hcm7, hs7⟩
               have q3 : Fr NoB w w3 := q2.trans hf3 fun _ _ => id
               have t0 := r0.fr hf3 id
               have c3 := t0.cell_0
               clear c1 Hof)
            | (refine ⟨trivial, ?_⟩
               gi_at_call 62
               refine (callsIn_wide.2 (Href.out w3 q3)).mono ?_
               rintro e w4 ⟨A9, n9, c9, rfl, hf4, hnc9, hcm9, hs9⟩
               have q4 : Fr NoB w w4 := q3.trans hf4 fun _ _ => id
               have hs7b := hs7.fr hf4 fun _ _ => id
               clear c3 Href)
            | (refine ⟨trivial, ?_⟩
               gi_at_call 25
               refine (callsIn_wide.2 (SameSeals_any w4 _ _ A7 A9 n7 c7 n9 c9 _ _ hs7b hs9 (by unfold maxLen at hcm7; omega))).mono ?_
               rintro e w5 ⟨rfl, hf5⟩
               rw [decide_eq_true rfl]
               have hs7c := hs7b.fr hf5 fun _ _ => id)
            | (refine ⟨trivial, ?_⟩
               gi_at_call 24
               refine (callsIn_wide.2 (Same_any w5 _ _ A7 A7 n7 c7 n7 c7 _ _ hs7c hs7c (by unfold maxLen at hcm7; omega))).mono ?_
               rintro e w6 ⟨rfl, hf6⟩
               rw [decide_eq_true rfl]
               have q6 : Fr NoB w w6 := (q4.trans hf5 fun _ _ => id).trans hf6 fun _ _ => id
               have hf06 : Fr NoB w0 w6 := (((hf12.trans hf3 fun _ _ => id).trans hf4 fun _ _ => id).trans hf5 fun _ _ => id).trans hf6 fun _ _ => id
               have x0 := k0.fr hf06 id
               have c6 := (x0.alloc (.cells #[.int .i64 0] 3)).cell_0)
            | (refine ⟨trivial, ?_⟩
               gi_at_call 63
               obtain ⟨g, hg⟩ : ∃ g, g = w6.heap.size := ⟨_, rfl⟩
               obtain ⟨w7, hw7⟩ : ∃ w7, w7 = w6.alloc (.cells #[.int .i64 0] 3) := ⟨_, rfl⟩
               rw [← hw7]
               have hf7 : Fr NoB w6 w7 := by rw [hw7]; exact (Fr.refl _ _).alloc _
               have n7 : Blk w7 g 3 #[.int .i64 0] := by rw [hw7, hg]; exact Blk.new _ _ _
               have hs7 : w7.heap.size = g + 1 := by rw [hw7, hg, World.size_alloc]
               have hBg : B + 2 < g := by have := hf06.size; omega
               refine (callsIn_wide.2 (Numbers_any _ _ _ _)).mono ?_
               rintro e w8 ⟨rfl, hw8⟩
               rw [hs7]
               have hf8 : Fr NoB w7 w8 := by rw [hw8]; exact (Fr.refl _ _).alloc _
               have hbs : Blk w8 (g + 1) 100 #[.slice A k c] := by rw [hw8, ← hs7]; exact Blk.new _ _ _
               have hs8 : w8.heap.size = g + 2 := by rw [hw8, World.size_alloc, hs7]
               have hf08 : Fr NoB w0 w8 := (hf06.trans hf7 fun _ _ => id).trans hf8 fun _ _ => id
               have q8 : Fr NoB w w8 := hf0.trans hf08 fun _ _ => id
               have hI8 : LsI w B g F A k c most ls [] w8 := ⟨k0.fr hf08 id, k1.fr hf08 id, ⟨false, k2.fr hf08 id⟩, n7.fr hf8 id, h.fr q8 fun _ _ => id, q8⟩
               have hT8 := h.fr q8 fun _ _ => id
               try rw [← hg]
               clear hw7 hw8 hg hf7 n7 hf8 hf06 q6 x0 c6 hs7b hs7c hs9))
          refine wpIn_rangeFuncW (gf := 98) (lb := #[.pointer (some ⟨g + 1, 0, none⟩)]) rfl (enters_of Try.func98 (by kernel_rfl) rfl)
            (Numbers1_seq 6 (by omega) w8 (g + 1) F (fun j => j = B + 2 ∨ j = g) A k c ls hbs hT8 (by omega) hsm ⟨fun j hj => by have := hFB j hj; omega, by omega, by omega⟩) (fun _ => rfl)
            (fun (pre : List Tx) W => LsI w B g F A k c most ls pre W)
            (fun cc _ W => cc = .ret ∧ Blk W (B + 2) 4 #[.bool true] ∧ Fr NoB w W) ?hI ?hIx ⟨by omega, by omega⟩ ⟨by omega, by omega⟩ ?hGs hI8
            (fun (x : Tx) a' _ => ∃ s0 s1 s5 s6 s7 s8 s9 s10 s14 s15 s16 s17 s18 s19 s20 s21 s22 s23 s24 s25 s26 s27 s28 s29 s30 s31 s32 s33 s34 s35 s36 s37 s38 s39 s40 s41 s42 s43 s44 s45 s46 s47 s48 s49 s50 s51 s52 s53 s54 s55 s56 s57 s58 s59 s60 s61 s62 s63 s64 s65 s66 s67 s68 s69 s70 s71 s72 s73 s74 s75 s76 s77 s78 s79 s80 s81 s82 s83 s84 s85 s86 s87 s88 s89 s90 s91, a' = { tmps := #[s0, s1, .pointer (some ⟨B, 0, none⟩), .pointer (some ⟨B + 1, 0, none⟩), .pointer (some ⟨B + 2, 0, none⟩), s5, s6, s7, s8, s9, s10, .pointer (some ⟨g, 0, none⟩), .int .i64 (x.num : Nat), .slice x.A x.b.length x.c, s14, s15, s16, s17, s18, s19, s20, s21, s22, s23, s24, s25, s26, s27, s28, s29, s30, s31, s32, s33, s34, s35, s36, s37, s38, s39, s40, s41, s42, s43, s44, s45, s46, s47, s48, s49, s50, s51, s52, s53, s54, s55, s56, s57, s58, s59, s60, s61, s62, s63, s64, s65, s66, s67, s68, s69, s70, s71, s72, s73, s74, s75, s76, s77, s78, s79, s80, s81, s82, s83, s84, s85, s86, s87, s88, s89, s90, s91], defers := [] }) (fun _ _ _ _ h _ => h) ?assign ?body ?done ?stop (fun _ _ _ h _ => h) (fun _ _ _ h _ => h)
          case hI =>
            intro pre P Q hP hf
            exact hP.fr hf (fun j h => by omega) hBg HB.out.symm hFB
          case hIx =>
            rintro c pre P Q ⟨q0, q1, q2⟩ hf
            exact ⟨q0, q1.fr hf (by omega), q2.new hf fun j hj => .inr (by have := HB.out; omega)⟩
          case hGs =>
            rintro pre x P Q ⟨g1, g2, g3, g4, g5, g6⟩ hf
            exact ⟨g1, g2, g3, g4, g5.fr hf (fun j hj h => by omega), Nat.le_trans g6 hf.size⟩
          case assign =>
            intro lp x W K hsz hK
            unfold Tx.enc
            simp only [params_two]
            gi_wp2
            exact hK _ _ (Fr.refl NoB W) ⟨_, _, _, _, _, _, _, _, _, _, _, _, _, _, _, _, _, _, _, _, _, _, _, _, _, _, _, _, _, _, _, _, _, _, _, _, _, _, _, _, _, _, _, _, _, _, _, _, _, _, _, _, _, _, _, _, _, _, _, _, _, _, _, _, _, _, _, _, _, _, _, _, _, _, _, _, _, _, _, _, _, _, _, _, _, _, rfl⟩
          case body =>
            rintro pre ⟨num, XA, xc, xb⟩ W a' ⟨i1, i2, ⟨rb, i3⟩, i4, i5, i6⟩ ⟨⟨kx, gp, gx, gd⟩, g2, g3, g4, g5, g6⟩ ⟨s0, s1, s5, s6, s7, s8, s9, s10, s14, s15, s16, s17, s18, s19, s20, s21, s22, s23, s24, s25, s26, s27, s28, s29, s30, s31, s32, s33, s34, s35, s36, s37, s38, s39, s40, s41, s42, s43, s44, s45, s46, s47, s48, s49, s50, s51, s52, s53, s54, s55, s56, s57, s58, s59, s60, s61, s62, s63, s64, s65, s66, s67, s68, s69, s70, s71, s72, s73, s74, s75, s76, s77, s78, s79, s80, s81, s82, s83, s84, s85, s86, s87, s88, s89, s90, s91, rfl⟩ hsz
            dsimp only at gp gx gd g2 g3 g4 g5
            rw [hs8] at g6 hsz g5
            subst g2
            have c1 := i1.cell_0
            have c2 := i2.cell_0
            have c3 := i3.cell_0
            have c4 := i4.cell_0
            have z3 := i3.frozen 0
            have z4 := i4.frozen 0
            have hkx := (List.getElem?_eq_some_iff.1 gx).1
            have Hgx := Lib.hid gx
            have hpl : pre.length ≤ 20 := by
              have h1 := dist_len ls kx
              rw [← gp, List.length_map] at h1
              have := Hlen.out
              omega
            clear gp gx gd
            by_cases hmo : (pre.length : Int) = most
            · have b4 : (((pre.length : Nat) : Int) == most) = true := by rw [hmo]; simp
              gi_wp2
              have hq : Fr (fun j => j = B + 2 ∨ j = g) W (W.setCell ⟨B + 2, 0, none⟩ (.bool true)) := (Fr.refl _ _).set_ (.inl (.inl rfl)) _ _
              exact ⟨hq, rfl, by simpa using i3.set_ 0 (.bool true), i6.new hq fun j hj => .inr (by have := HB.out; omega)⟩
            · have b4 : (((pre.length : Nat) : Int) == most) = false := by rw [beq_eq_false_iff_ne]; exact hmo
              gi_wp2
              gi_loopw [15, 14] (fun v v14 wr => ∃ (q : Nat) (f : Int), q ≤ k ∧ v = .int .i64 ((q : Int) - 1) ∧ v14 = .int .i64 f ∧ (-1 ≤ f ∧ f ≤ k) ∧ (∀ j, q ≤ j → ls[j]? = some xb → 0 ≤ f) ∧ Fr NoB W wr) (fun v _ _ => (intOf v + 1).toNat)
              case atStart => exact ⟨k, -1, Nat.le_refl _, rfl, rfl, by omega, fun j hj hjx => by have := (List.getElem?_eq_some_iff.1 hjx).1; have := Hlen.out; omega, Fr.refl _ _⟩
              case round =>
                obtain ⟨q, f, hq, rfl, rfl, hfb, hfq, hf9⟩ := hrel
                obtain ⟨w9, rfl⟩ : ∃ w9 : World, w9 = wr := ⟨_, rfl⟩
                have Hfq := Lib.hid hfq
                clear hfq
                rcases q with _ | q
                · have e1 : ((0 : Nat) : Int) - 1 = -1 := by omega
                  rw [e1]
                  have hf0' : 0 ≤ f := Hfq.out kx (Nat.zero_le _) Hgx.out
                  have b5 : decide (f < (0 : Int)) = false := by simp only [decide_eq_false_iff_not]; omega
                  have j4 := i4.fr hf9 id
                  have c4' := j4.cell_0
                  have z4' := j4.frozen 0
                  have c2' := (i2.fr hf9 id).cell_0
                  clear c4 z4 c2 c1 c3 z3
                  gi_wp2
                  have hq : Fr (fun j => j = B + 2 ∨ j = g) w9 (w9.setCell ⟨g, 0, none⟩ (.int .i64 ((pre.length : Int) + 1))) := (Fr.refl _ _).set_ (.inl (.inr rfl)) _ _
                  have hQ : Fr (fun j => j = B + 2 ∨ j = g) W (w9.setCell ⟨g, 0, none⟩ (.int .i64 ((pre.length : Int) + 1))) := (hf9.mono fun _ _ h => h.elim).trans hq fun _ _ h => h
                  refine ⟨hQ, i1.fr hQ (by omega), i2.fr hQ (by omega), ⟨rb, (i3.fr hf9 id).fr ((Fr.refl (· = g) w9).at_ _ _) (by omega)⟩, ?_, i5.fr hQ (fun j hj => by have := hFB j hj; omega), i6.new hQ fun j hj => .inr (by have := HB.out; omega)⟩
                  have := j4.set_ 0 (.int .i64 ((pre.length : Int) + 1))
                  simpa using this
                · have e1 : ((q + 1 : Nat) : Int) - 1 = (q : Int) := by omega
                  rw [e1]
                  have hqk : q < k := by omega
                  obtain ⟨bb, oo, x, y, hA, _, gq, _, ⟨Y, p, e, hy, hpe, hem, hb⟩, hcell⟩ := ArrOf.at_ (i5.fr (hf9.drew) fun _ _ => id) hqk
                  have c0 : w9.drew.cell? ⟨bb, oo + q, none⟩ = some (.slice Y p e) := by
                    have := hcell 0 (.slice Y p e) (by rw [hy]; rfl)
                    simpa using this
                  have hp := hb.len
                  subst hp
                  have c1' := (i1.fr hf9.drew id).cell_0
                  rw [hA] at c1'
                  have v1 := hb.str (P := Try.prog) Try.underlying22 Try.underlying5 Try.underlying9 e
                  have v2 := (g5.fr hf9.drew fun _ _ => id).str (P := Try.prog) Try.underlying22 Try.underlying5 Try.underlying9 xc
                  have Hgq := Lib.hid gq
                  have HA := Lib.hid hA
                  have gq0 : (0 : Int) ≤ (q : Int) := by omega
                  have gq1 : (q : Int) < (k : Int) := by omega
                  clear c1 c2 c3 c4 z3 z4 hy hcell gq hA
                  obtain ⟨bq, hbq⟩ : ∃ bq, (x == xb) = bq := ⟨_, rfl⟩
                  gi_wp2
                  apply wpIn_once (W := w9.drew)
                  apply Exists.intro
                  apply And.intro
                  · refine wpIn_region_any rfl ?_
                    refine wpAnyIn_all (rs := [0, 1, 5]) (by decide +kernel) (by simp) ?_
                    intro i hi
                    simp only [List.mem_cons, List.not_mem_nil, or_false] at hi
                    rcases hi with rfl | rfl | rfl
                    · refine wpOpIn_run (v := .slice (some ⟨bb, oo, none⟩) k c) (w' := w9.drew) rfl (by kernel_rfl) (fun f hf => by simp [Oper.about] at hf) (fun c hc => by cases hc) (by go_simp) ?_
                      go_simp
                      refine wpAnyIn_all (rs := [1, 5]) (by decide +kernel) (by simp) ?_
                      intro i hi
                      simp only [List.mem_cons, List.not_mem_nil, or_false] at hi
                      rcases hi with rfl | rfl
                      · refine wpOpIn_run (v := .int .i64 (q : Int)) (w' := w9.drew) rfl (by kernel_rfl) (fun f hf => by simp [Oper.about] at hf) (fun c hc => by cases hc) (by go_simp) ?_
                        go_simp
                        refine wpAnyIn_all (rs := [2, 5]) (by decide +kernel) (by simp) ?_
                        intro i hi
                        simp only [List.mem_cons, List.not_mem_nil, or_false] at hi
                        rcases hi with rfl | rfl
                        · refine wpOpIn_run (v := .pointer (some ⟨bb, oo + q, none⟩)) (w' := w9.drew) rfl (by kernel_rfl) (fun f hf => by simp [Oper.about] at hf) (fun c hc => by cases hc) (by go_simp) ?_
                          go_simp
                          refine wpAnyIn_all (rs := [3, 5]) (by decide +kernel) (by simp) ?_
                          intro i hi
                          simp only [List.mem_cons, List.not_mem_nil, or_false] at hi
                          rcases hi with rfl | rfl
                          · refine wpOpIn_run (v := .slice Y x.length e) (w' := w9.drew) rfl (by kernel_rfl) (fun f hf => by simp [Oper.about] at hf) (fun c hc => by cases hc) (by go_simp) ?_
                            go_simp
                            refine wpAnyIn_all (rs := [4, 5]) (by decide +kernel) (by simp) ?_
                            intro i hi
                            simp only [List.mem_cons, List.not_mem_nil, or_false] at hi
                            rcases hi with rfl | rfl
                            · refine wpOpIn_run (v := .string ⟨x.toArray⟩) (w' := w9.drew) rfl (by kernel_rfl) (fun f hf => by simp [Oper.about] at hf) (fun c hc => by cases hc) (by go_simp) ?_
                              go_simp
                              refine wpAnyIn_all (rs := [5]) (by decide +kernel) (by simp) ?_
                              intro i hi
                              simp only [List.mem_cons, List.not_mem_nil, or_false] at hi
                              subst hi
                              refine wpOpIn_run (v := .slice XA xb.length xc) (w' := w9.drew) rfl (by kernel_rfl) (fun f hf => by simp [Oper.about] at hf) (fun c hc => by cases hc) (by go_simp) ?_
                              go_simp
                              refine wpAnyIn_all (rs := [6]) (by decide +kernel) (by simp) ?_
                              intro i hi
                              simp only [List.mem_cons, List.not_mem_nil, or_false] at hi
                              subst hi
                              refine wpOpIn_run (v := .string ⟨xb.toArray⟩) (w' := w9.drew) rfl (by kernel_rfl) (fun f hf => by simp [Oper.about] at hf) (fun c hc => by cases hc) (by go_simp) ?_
                              go_simp
                              refine wpAnyIn_all (rs := [7]) (by decide +kernel) (by simp) ?_
                              intro i hi
                              simp only [List.mem_cons, List.not_mem_nil, or_false] at hi
                              subst hi
                              refine wpOpIn_run (v := .bool bq) (w' := w9.drew) rfl (by kernel_rfl) (fun f hf => by simp [Oper.about] at hf) (fun c hc => by cases hc) (by go_simp) ?_
                              go_simp
                              refine wpAnyIn_done (by decide +kernel) ?_ _
                              exact ⟨rfl, rfl, rfl⟩
                            · refine wpOpIn_run (v := .slice XA xb.length xc) (w' := w9.drew) rfl (by kernel_rfl) (fun f hf => by simp [Oper.about] at hf) (fun c hc => by cases hc) (by go_simp) ?_
                              go_simp
                              refine wpAnyIn_all (rs := [4, 6]) (by decide +kernel) (by simp) ?_
                              intro i hi
                              simp only [List.mem_cons, List.not_mem_nil, or_false] at hi
                              rcases hi with rfl | rfl
                              · refine wpOpIn_run (v := .string ⟨x.toArray⟩) (w' := w9.drew) rfl (by kernel_rfl) (fun f hf => by simp [Oper.about] at hf) (fun c hc => by cases hc) (by go_simp) ?_
                                go_simp
                                refine wpAnyIn_all (rs := [6]) (by decide +kernel) (by simp) ?_
                                intro i hi
                                simp only [List.mem_cons, List.not_mem_nil, or_false] at hi
                                subst hi
                                refine wpOpIn_run (v := .string ⟨xb.toArray⟩) (w' := w9.drew) rfl (by kernel_rfl) (fun f hf => by simp [Oper.about] at hf) (fun c hc => by cases hc) (by go_simp) ?_
                                go_simp
                                refine wpAnyIn_all (rs := [7]) (by decide +kernel) (by simp) ?_
                                intro i hi
                                simp only [List.mem_cons, List.not_mem_nil, or_false] at hi
                                subst hi
                                refine wpOpIn_run (v := .bool bq) (w' := w9.drew) rfl (by kernel_rfl) (fun f hf => by simp [Oper.about] at hf) (fun c hc => by cases hc) (by go_simp) ?_
                                go_simp
                                refine wpAnyIn_done (by decide +kernel) ?_ _
                                exact ⟨rfl, rfl, rfl⟩
                              · refine wpOpIn_run (v := .string ⟨xb.toArray⟩) (w' := w9.drew) rfl (by kernel_rfl) (fun f hf => by simp [Oper.about] at hf) (fun c hc => by cases hc) (by go_simp) ?_
                                go_simp
                                refine wpAnyIn_all (rs := [4]) (by decide +kernel) (by simp) ?_
                                intro i hi
                                simp only [List.mem_cons, List.not_mem_nil, or_false] at hi
                                subst hi
                                refine wpOpIn_run (v := .string ⟨x.toArray⟩) (w' := w9.drew) rfl (by kernel_rfl) (fun f hf => by simp [Oper.about] at hf) (fun c hc => by cases hc) (by go_simp) ?_
                                go_simp
                                refine wpAnyIn_all (rs := [7]) (by decide +kernel) (by simp) ?_
                                intro i hi
                                simp only [List.mem_cons, List.not_mem_nil, or_false] at hi
                                subst hi
                                refine wpOpIn_run (v := .bool bq) (w' := w9.drew) rfl (by kernel_rfl) (fun f hf => by simp [Oper.about] at hf) (fun c hc => by cases hc) (by go_simp) ?_
                                go_simp
                                refine wpAnyIn_done (by decide +kernel) ?_ _
                                exact ⟨rfl, rfl, rfl⟩
                          · refine wpOpIn_run (v := .slice XA xb.length xc) (w' := w9.drew) rfl (by kernel_rfl) (fun f hf => by simp [Oper.about] at hf) (fun c hc => by cases hc) (by go_simp) ?_
                            go_simp
                            refine wpAnyIn_all (rs := [3, 6]) (by decide +kernel) (by simp) ?_
                            intro i hi
                            simp only [List.mem_cons, List.not_mem_nil, or_false] at hi
                            rcases hi with rfl | rfl
                            · refine wpOpIn_run (v := .slice Y x.length e) (w' := w9.drew) rfl (by kernel_rfl) (fun f hf => by simp [Oper.about] at hf) (fun c hc => by cases hc) (by go_simp) ?_
                              go_simp
                              refine wpAnyIn_all (rs := [4, 6]) (by decide +kernel) (by simp) ?_
                              intro i hi
                              simp only [List.mem_cons, List.not_mem_nil, or_false] at hi
                              rcases hi with rfl | rfl
                              · refine wpOpIn_run (v := .string ⟨x.toArray⟩) (w' := w9.drew) rfl (by kernel_rfl) (fun f hf => by simp [Oper.about] at hf) (fun c hc => by cases hc) (by go_simp) ?_
                                go_simp
                                refine wpAnyIn_all (rs := [6]) (by decide +kernel) (by simp) ?_
                                intro i hi
                                simp only [List.mem_cons, List.not_mem_nil, or_false] at hi
                                subst hi
                                refine wpOpIn_run (v := .string ⟨xb.toArray⟩) (w' := w9.drew) rfl (by kernel_rfl) (fun f hf => by simp [Oper.about] at hf) (fun c hc => by cases hc) (by go_simp) ?_
                                go_simp
                                refine wpAnyIn_all (rs := [7]) (by decide +kernel) (by simp) ?_
                                intro i hi
                                simp only [List.mem_cons, List.not_mem_nil, or_false] at hi
                                subst hi
                                refine wpOpIn_run (v := .bool bq) (w' := w9.drew) rfl (by kernel_rfl) (fun f hf => by simp [Oper.about] at hf) (fun c hc => by cases hc) (by go_simp) ?_
                                go_simp
                                refine wpAnyIn_done (by decide +kernel) ?_ _
                                exact ⟨rfl, rfl, rfl⟩
                              · refine wpOpIn_run (v := .string ⟨xb.toArray⟩) (w' := w9.drew) rfl (by kernel_rfl) (fun f hf => by simp [Oper.about] at hf) (fun c hc => by cases hc) (by go_simp) ?_
                                go_simp
                                refine wpAnyIn_all (rs := [4]) (by decide +kernel) (by simp) ?_
                                intro i hi
                                simp only [List.mem_cons, List.not_mem_nil, or_false] at hi
                                subst hi
                                refine wpOpIn_run (v := .string ⟨x.toArray⟩) (w' := w9.drew) rfl (by kernel_rfl) (fun f hf => by simp [Oper.about] at hf) (fun c hc => by cases hc) (by go_simp) ?_
                                go_simp
                                refine wpAnyIn_all (rs := [7]) (by decide +kernel) (by simp) ?_
                                intro i hi
                                simp only [List.mem_cons, List.not_mem_nil, or_false] at hi
                                subst hi
                                refine wpOpIn_run (v := .bool bq) (w' := w9.drew) rfl (by kernel_rfl) (fun f hf => by simp [Oper.about] at hf) (fun c hc => by cases hc) (by go_simp) ?_
                                go_simp
                                refine wpAnyIn_done (by decide +kernel) ?_ _
                                exact ⟨rfl, rfl, rfl⟩
                            · refine wpOpIn_run (v := .string ⟨xb.toArray⟩) (w' := w9.drew) rfl (by kernel_rfl) (fun f hf => by simp [Oper.about] at hf) (fun c hc => by cases hc) (by go_simp) ?_
                              go_simp
                              refine wpAnyIn_all (rs := [3]) (by decide +kernel) (by simp) ?_
                              intro i hi
                              simp only [List.mem_cons, List.not_mem_nil, or_false] at hi
                              subst hi
                              refine wpOpIn_run (v := .slice Y x.length e) (w' := w9.drew) rfl (by kernel_rfl) (fun f hf => by simp [Oper.about] at hf) (fun c hc => by cases hc) (by go_simp) ?_
                              go_simp
                              refine wpAnyIn_all (rs := [4]) (by decide +kernel) (by simp) ?_
                              intro i hi
                              simp only [List.mem_cons, List.not_mem_nil, or_false] at hi
                              subst hi
                              refine wpOpIn_run (v := .string ⟨x.toArray⟩) (w' := w9.drew) rfl (by kernel_rfl) (fun f hf => by simp [Oper.about] at hf) (fun c hc => by cases hc) (by go_simp) ?_
                              go_simp
                              refine wpAnyIn_all (rs := [7]) (by decide +kernel) (by simp) ?_
                              intro i hi
                              simp only [List.mem_cons, List.not_mem_nil, or_false] at hi
                              subst hi
                              refine wpOpIn_run (v := .bool bq) (w' := w9.drew) rfl (by kernel_rfl) (fun f hf => by simp [Oper.about] at hf) (fun c hc => by cases hc) (by go_simp) ?_
                              go_simp
                              refine wpAnyIn_done (by decide +kernel) ?_ _
                              exact ⟨rfl, rfl, rfl⟩
                        · refine wpOpIn_run (v := .slice XA xb.length xc) (w' := w9.drew) rfl (by kernel_rfl) (fun f hf => by simp [Oper.about] at hf) (fun c hc => by cases hc) (by go_simp) ?_
                          go_simp
                          refine wpAnyIn_all (rs := [2, 6]) (by decide +kernel) (by simp) ?_
                          intro i hi
                          simp only [List.mem_cons, List.not_mem_nil, or_false] at hi
                          rcases hi with rfl | rfl
                          · refine wpOpIn_run (v := .pointer (some ⟨bb, oo + q, none⟩)) (w' := w9.drew) rfl (by kernel_rfl) (fun f hf => by simp [Oper.about] at hf) (fun c hc => by cases hc) (by go_simp) ?_
                            go_simp
                            refine wpAnyIn_all (rs := [3, 6]) (by decide +kernel) (by simp) ?_
                            intro i hi
                            simp only [List.mem_cons, List.not_mem_nil, or_false] at hi
                            rcases hi with rfl | rfl
                            · refine wpOpIn_run (v := .slice Y x.length e) (w' := w9.drew) rfl (by kernel_rfl) (fun f hf => by simp [Oper.about] at hf) (fun c hc => by cases hc) (by go_simp) ?_
                              go_simp
                              refine wpAnyIn_all (rs := [4, 6]) (by decide +kernel) (by simp) ?_
                              intro i hi
                              simp only [List.mem_cons, List.not_mem_nil, or_false] at hi
                              rcases hi with rfl | rfl
                              · refine wpOpIn_run (v := .string ⟨x.toArray⟩) (w' := w9.drew) rfl (by kernel_rfl) (fun f hf => by simp [Oper.about] at hf) (fun c hc => by cases hc) (by go_simp) ?_
                                go_simp
                                refine wpAnyIn_all (rs := [6]) (by decide +kernel) (by simp) ?_
                                intro i hi
                                simp only [List.mem_cons, List.not_mem_nil, or_false] at hi
                                subst hi
                                refine wpOpIn_run (v := .string ⟨xb.toArray⟩) (w' := w9.drew) rfl (by kernel_rfl) (fun f hf => by simp [Oper.about] at hf) (fun c hc => by cases hc) (by go_simp) ?_
                                go_simp
                                refine wpAnyIn_all (rs := [7]) (by decide +kernel) (by simp) ?_
                                intro i hi
                                simp only [List.mem_cons, List.not_mem_nil, or_false] at hi
                                subst hi
                                refine wpOpIn_run (v := .bool bq) (w' := w9.drew) rfl (by kernel_rfl) (fun f hf => by simp [Oper.about] at hf) (fun c hc => by cases hc) (by go_simp) ?_
                                go_simp
                                refine wpAnyIn_done (by decide +kernel) ?_ _
                                exact ⟨rfl, rfl, rfl⟩
                              · refine wpOpIn_run (v := .string ⟨xb.toArray⟩) (w' := w9.drew) rfl (by kernel_rfl) (fun f hf => by simp [Oper.about] at hf) (fun c hc => by cases hc) (by go_simp) ?_
                                go_simp
                                refine wpAnyIn_all (rs := [4]) (by decide +kernel) (by simp) ?_
                                intro i hi
                                simp only [List.mem_cons, List.not_mem_nil, or_false] at hi
                                subst hi
                                refine wpOpIn_run (v := .string ⟨x.toArray⟩) (w' := w9.drew) rfl (by kernel_rfl) (fun f hf => by simp [Oper.about] at hf) (fun c hc => by cases hc) (by go_simp) ?_
                                go_simp
                                refine wpAnyIn_all (rs := [7]) (by decide +kernel) (by simp) ?_
                                intro i hi
                                simp only [List.mem_cons, List.not_mem_nil, or_false] at hi
                                subst hi
                                refine wpOpIn_run (v := .bool bq) (w' := w9.drew) rfl (by kernel_rfl) (fun f hf => by simp [Oper.about] at hf) (fun c hc => by cases hc) (by go_simp) ?_
                                go_simp
                                refine wpAnyIn_done (by decide +kernel) ?_ _
                                exact ⟨rfl, rfl, rfl⟩
                            · refine wpOpIn_run (v := .string ⟨xb.toArray⟩) (w' := w9.drew) rfl (by kernel_rfl) (fun f hf => by simp [Oper.about] at hf) (fun c hc => by cases hc) (by go_simp) ?_
                              go_simp
                              refine wpAnyIn_all (rs := [3]) (by decide +kernel) (by simp) ?_
                              intro i hi
                              simp only [List.mem_cons, List.not_mem_nil, or_false] at hi
                              subst hi
                              refine wpOpIn_run (v := .slice Y x.length e) (w' := w9.drew) rfl (by kernel_rfl) (fun f hf => by simp [Oper.about] at hf) (fun c hc => by cases hc) (by go_simp) ?_
                              go_simp
                              refine wpAnyIn_all (rs := [4]) (by decide +kernel) (by simp) ?_
                              intro i hi
                              simp only [List.mem_cons, List.not_mem_nil, or_false] at hi
                              subst hi
                              refine wpOpIn_run (v := .string ⟨x.toArray⟩) (w' := w9.drew) rfl (by kernel_rfl) (fun f hf => by simp [Oper.about] at hf) (fun c hc => by cases hc) (by go_simp) ?_
                              go_simp
                              refine wpAnyIn_all (rs := [7]) (by decide +kernel) (by simp) ?_
                              intro i hi
                              simp only [List.mem_cons, List.not_mem_nil, or_false] at hi
                              subst hi
                              refine wpOpIn_run (v := .bool bq) (w' := w9.drew) rfl (by kernel_rfl) (fun f hf => by simp [Oper.about] at hf) (fun c hc => by cases hc) (by go_simp) ?_
                              go_simp
                              refine wpAnyIn_done (by decide +kernel) ?_ _
                              exact ⟨rfl, rfl, rfl⟩
                          · refine wpOpIn_run (v := .string ⟨xb.toArray⟩) (w' := w9.drew) rfl (by kernel_rfl) (fun f hf => by simp [Oper.about] at hf) (fun c hc => by cases hc) (by go_simp) ?_
                            go_simp
                            refine wpAnyIn_all (rs := [2]) (by decide +kernel) (by simp) ?_
                            intro i hi
                            simp only [List.mem_cons, List.not_mem_nil, or_false] at hi
                            subst hi
                            refine wpOpIn_run (v := .pointer (some ⟨bb, oo + q, none⟩)) (w' := w9.drew) rfl (by kernel_rfl) (fun f hf => by simp [Oper.about] at hf) (fun c hc => by cases hc) (by go_simp) ?_
                            go_simp
                            refine wpAnyIn_all (rs := [3]) (by decide +kernel) (by simp) ?_
                            intro i hi
                            simp only [List.mem_cons, List.not_mem_nil, or_false] at hi
                            subst hi
                            refine wpOpIn_run (v := .slice Y x.length e) (w' := w9.drew) rfl (by kernel_rfl) (fun f hf => by simp [Oper.about] at hf) (fun c hc => by cases hc) (by go_simp) ?_
                            go_simp
                            refine wpAnyIn_all (rs := [4]) (by decide +kernel) (by simp) ?_
                            intro i hi
                            simp only [List.mem_cons, List.not_mem_nil, or_false] at hi
                            subst hi
                            refine wpOpIn_run (v := .string ⟨x.toArray⟩) (w' := w9.drew) rfl (by kernel_rfl) (fun f hf => by simp [Oper.about] at hf) (fun c hc => by cases hc) (by go_simp) ?_
                            go_simp
                            refine wpAnyIn_all (rs := [7]) (by decide +kernel) (by simp) ?_
                            intro i hi
                            simp only [List.mem_cons, List.not_mem_nil, or_false] at hi
                            subst hi
                            refine wpOpIn_run (v := .bool bq) (w' := w9.drew) rfl (by kernel_rfl) (fun f hf => by simp [Oper.about] at hf) (fun c hc => by cases hc) (by go_simp) ?_
                            go_simp
                            refine wpAnyIn_done (by decide +kernel) ?_ _
                            exact ⟨rfl, rfl, rfl⟩
                      · refine wpOpIn_run (v := .slice XA xb.length xc) (w' := w9.drew) rfl (by kernel_rfl) (fun f hf => by simp [Oper.about] at hf) (fun c hc => by cases hc) (by go_simp) ?_
                        go_simp
                        refine wpAnyIn_all (rs := [1, 6]) (by decide +kernel) (by simp) ?_
                        intro i hi
                        simp only [List.mem_cons, List.not_mem_nil, or_false] at hi
                        rcases hi with rfl | rfl
                        · refine wpOpIn_run (v := .int .i64 (q : Int)) (w' := w9.drew) rfl (by kernel_rfl) (fun f hf => by simp [Oper.about] at hf) (fun c hc => by cases hc) (by go_simp) ?_
                          go_simp
                          refine wpAnyIn_all (rs := [2, 6]) (by decide +kernel) (by simp) ?_
                          intro i hi
                          simp only [List.mem_cons, List.not_mem_nil, or_false] at hi
                          rcases hi with rfl | rfl
                          · refine wpOpIn_run (v := .pointer (some ⟨bb, oo + q, none⟩)) (w' := w9.drew) rfl (by kernel_rfl) (fun f hf => by simp [Oper.about] at hf) (fun c hc => by cases hc) (by go_simp) ?_
                            go_simp
                            refine wpAnyIn_all (rs := [3, 6]) (by decide +kernel) (by simp) ?_
                            intro i hi
                            simp only [List.mem_cons, List.not_mem_nil, or_false] at hi
                            rcases hi with rfl | rfl
                            · refine wpOpIn_run (v := .slice Y x.length e) (w' := w9.drew) rfl (by kernel_rfl) (fun f hf => by simp [Oper.about] at hf) (fun c hc => by cases hc) (by go_simp) ?_
                              go_simp
                              refine wpAnyIn_all (rs := [4, 6]) (by decide +kernel) (by simp) ?_
                              intro i hi
                              simp only [List.mem_cons, List.not_mem_nil, or_false] at hi
                              rcases hi with rfl | rfl
                              · refine wpOpIn_run (v := .string ⟨x.toArray⟩) (w' := w9.drew) rfl (by kernel_rfl) (fun f hf => by simp [Oper.about] at hf) (fun c hc => by cases hc) (by go_simp) ?_
                                go_simp
                                refine wpAnyIn_all (rs := [6]) (by decide +kernel) (by simp) ?_
                                intro i hi
                                simp only [List.mem_cons, List.not_mem_nil, or_false] at hi
                                subst hi
                                refine wpOpIn_run (v := .string ⟨xb.toArray⟩) (w' := w9.drew) rfl (by kernel_rfl) (fun f hf => by simp [Oper.about] at hf) (fun c hc => by cases hc) (by go_simp) ?_
                                go_simp
                                refine wpAnyIn_all (rs := [7]) (by decide +kernel) (by simp) ?_
                                intro i hi
                                simp only [List.mem_cons, List.not_mem_nil, or_false] at hi
                                subst hi
                                refine wpOpIn_run (v := .bool bq) (w' := w9.drew) rfl (by kernel_rfl) (fun f hf => by simp [Oper.about] at hf) (fun c hc => by cases hc) (by go_simp) ?_
                                go_simp
                                refine wpAnyIn_done (by decide +kernel) ?_ _
                                exact ⟨rfl, rfl, rfl⟩
                              · refine wpOpIn_run (v := .string ⟨xb.toArray⟩) (w' := w9.drew) rfl (by kernel_rfl) (fun f hf => by simp [Oper.about] at hf) (fun c hc => by cases hc) (by go_simp) ?_
                                go_simp
                                refine wpAnyIn_all (rs := [4]) (by decide +kernel) (by simp) ?_
                                intro i hi
                                simp only [List.mem_cons, List.not_mem_nil, or_false] at hi
                                subst hi
                                refine wpOpIn_run (v := .string ⟨x.toArray⟩) (w' := w9.drew) rfl (by kernel_rfl) (fun f hf => by simp [Oper.about] at hf) (fun c hc => by cases hc) (by go_simp) ?_
                                go_simp
                                refine wpAnyIn_all (rs := [7]) (by decide +kernel) (by simp) ?_
                                intro i hi
                                simp only [List.mem_cons, List.not_mem_nil, or_false] at hi
                                subst hi
                                refine wpOpIn_run (v := .bool bq) (w' := w9.drew) rfl (by kernel_rfl) (fun f hf => by simp [Oper.about] at hf) (fun c hc => by cases hc) (by go_simp) ?_
                                go_simp
                                refine wpAnyIn_done (by decide +kernel) ?_ _
                                exact ⟨rfl, rfl, rfl⟩
                            · refine wpOpIn_run (v := .string ⟨xb.toArray⟩) (w' := w9.drew) rfl (by kernel_rfl) (fun f hf => by simp [Oper.about] at hf) (fun c hc => by cases hc) (by go_simp) ?_
                              go_simp
                              refine wpAnyIn_all (rs := [3]) (by decide +kernel) (by simp) ?_
                              intro i hi
                              simp only [List.mem_cons, List.not_mem_nil, or_false] at hi
                              subst hi
                              refine wpOpIn_run (v := .slice Y x.length e) (w' := w9.drew) rfl (by kernel_rfl) (fun f hf => by simp [Oper.about] at hf) (fun c hc => by cases hc) (by go_simp) ?_
                              go_simp
                              refine wpAnyIn_all (rs := [4]) (by decide +kernel) (by simp) ?_
                              intro i hi
                              simp only [List.mem_cons, List.not_mem_nil, or_false] at hi
                              subst hi
                              refine wpOpIn_run (v := .string ⟨x.toArray⟩) (w' := w9.drew) rfl (by kernel_rfl) (fun f hf => by simp [Oper.about] at hf) (fun c hc => by cases hc) (by go_simp) ?_
                              go_simp
                              refine wpAnyIn_all (rs := [7]) (by decide +kernel) (by simp) ?_
                              intro i hi
                              simp only [List.mem_cons, List.not_mem_nil, or_false] at hi
                              subst hi
                              refine wpOpIn_run (v := .bool bq) (w' := w9.drew) rfl (by kernel_rfl) (fun f hf => by simp [Oper.about] at hf) (fun c hc => by cases hc) (by go_simp) ?_
                              go_simp
                              refine wpAnyIn_done (by decide +kernel) ?_ _
                              exact ⟨rfl, rfl, rfl⟩
                          · refine wpOpIn_run (v := .string ⟨xb.toArray⟩) (w' := w9.drew) rfl (by kernel_rfl) (fun f hf => by simp [Oper.about] at hf) (fun c hc => by cases hc) (by go_simp) ?_
                            go_simp
                            refine wpAnyIn_all (rs := [2]) (by decide +kernel) (by simp) ?_
                            intro i hi
                            simp only [List.mem_cons, List.not_mem_nil, or_false] at hi
                            subst hi
                            refine wpOpIn_run (v := .pointer (some ⟨bb, oo + q, none⟩)) (w' := w9.drew) rfl (by kernel_rfl) (fun f hf => by simp [Oper.about] at hf) (fun c hc => by cases hc) (by go_simp) ?_
                            go_simp
                            refine wpAnyIn_all (rs := [3]) (by decide +kernel) (by simp) ?_
                            intro i hi
                            simp only [List.mem_cons, List.not_mem_nil, or_false] at hi
                            subst hi
                            refine wpOpIn_run (v := .slice Y x.length e) (w' := w9.drew) rfl (by kernel_rfl) (fun f hf => by simp [Oper.about] at hf) (fun c hc => by cases hc) (by go_simp) ?_
                            go_simp
                            refine wpAnyIn_all (rs := [4]) (by decide +kernel) (by simp) ?_
                            intro i hi
                            simp only [List.mem_cons, List.not_mem_nil, or_false] at hi
                            subst hi
                            refine wpOpIn_run (v := .string ⟨x.toArray⟩) (w' := w9.drew) rfl (by kernel_rfl) (fun f hf => by simp [Oper.about] at hf) (fun c hc => by cases hc) (by go_simp) ?_
                            go_simp
                            refine wpAnyIn_all (rs := [7]) (by decide +kernel) (by simp) ?_
                            intro i hi
                            simp only [List.mem_cons, List.not_mem_nil, or_false] at hi
                            subst hi
                            refine wpOpIn_run (v := .bool bq) (w' := w9.drew) rfl (by kernel_rfl) (fun f hf => by simp [Oper.about] at hf) (fun c hc => by cases hc) (by go_simp) ?_
                            go_simp
                            refine wpAnyIn_done (by decide +kernel) ?_ _
                            exact ⟨rfl, rfl, rfl⟩
                        · refine wpOpIn_run (v := .string ⟨xb.toArray⟩) (w' := w9.drew) rfl (by kernel_rfl) (fun f hf => by simp [Oper.about] at hf) (fun c hc => by cases hc) (by go_simp) ?_
                          go_simp
                          refine wpAnyIn_all (rs := [1]) (by decide +kernel) (by simp) ?_
                          intro i hi
                          simp only [List.mem_cons, List.not_mem_nil, or_false] at hi
                          subst hi
                          refine wpOpIn_run (v := .int .i64 (q : Int)) (w' := w9.drew) rfl (by kernel_rfl) (fun f hf => by simp [Oper.about] at hf) (fun c hc => by cases hc) (by go_simp) ?_
                          go_simp
                          refine wpAnyIn_all (rs := [2]) (by decide +kernel) (by simp) ?_
                          intro i hi
                          simp only [List.mem_cons, List.not_mem_nil, or_false] at hi
                          subst hi
                          refine wpOpIn_run (v := .pointer (some ⟨bb, oo + q, none⟩)) (w' := w9.drew) rfl (by kernel_rfl) (fun f hf => by simp [Oper.about] at hf) (fun c hc => by cases hc) (by go_simp) ?_
                          go_simp
                          refine wpAnyIn_all (rs := [3]) (by decide +kernel) (by simp) ?_
                          intro i hi
                          simp only [List.mem_cons, List.not_mem_nil, or_false] at hi
                          subst hi
                          refine wpOpIn_run (v := .slice Y x.length e) (w' := w9.drew) rfl (by kernel_rfl) (fun f hf => by simp [Oper.about] at hf) (fun c hc => by cases hc) (by go_simp) ?_
                          go_simp
                          refine wpAnyIn_all (rs := [4]) (by decide +kernel) (by simp) ?_
                          intro i hi
                          simp only [List.mem_cons, List.not_mem_nil, or_false] at hi
                          subst hi
                          refine wpOpIn_run (v := .string ⟨x.toArray⟩) (w' := w9.drew) rfl (by kernel_rfl) (fun f hf => by simp [Oper.about] at hf) (fun c hc => by cases hc) (by go_simp) ?_
                          go_simp
                          refine wpAnyIn_all (rs := [7]) (by decide +kernel) (by simp) ?_
                          intro i hi
                          simp only [List.mem_cons, List.not_mem_nil, or_false] at hi
                          subst hi
                          refine wpOpIn_run (v := .bool bq) (w' := w9.drew) rfl (by kernel_rfl) (fun f hf => by simp [Oper.about] at hf) (fun c hc => by cases hc) (by go_simp) ?_
                          go_simp
                          refine wpAnyIn_done (by decide +kernel) ?_ _
                          exact ⟨rfl, rfl, rfl⟩
                    · refine wpOpIn_run (v := .int .i64 (q : Int)) (w' := w9.drew) rfl (by kernel_rfl) (fun f hf => by simp [Oper.about] at hf) (fun c hc => by cases hc) (by go_simp) ?_
                      go_simp
                      refine wpAnyIn_all (rs := [0, 5]) (by decide +kernel) (by simp) ?_
                      intro i hi
                      simp only [List.mem_cons, List.not_mem_nil, or_false] at hi
                      rcases hi with rfl | rfl
                      · refine wpOpIn_run (v := .slice (some ⟨bb, oo, none⟩) k c) (w' := w9.drew) rfl (by kernel_rfl) (fun f hf => by simp [Oper.about] at hf) (fun c hc => by cases hc) (by go_simp) ?_
                        go_simp
                        refine wpAnyIn_all (rs := [2, 5]) (by decide +kernel) (by simp) ?_
                        intro i hi
                        simp only [List.mem_cons, List.not_mem_nil, or_false] at hi
                        rcases hi with rfl | rfl
                        · refine wpOpIn_run (v := .pointer (some ⟨bb, oo + q, none⟩)) (w' := w9.drew) rfl (by kernel_rfl) (fun f hf => by simp [Oper.about] at hf) (fun c hc => by cases hc) (by go_simp) ?_
                          go_simp
                          refine wpAnyIn_all (rs := [3, 5]) (by decide +kernel) (by simp) ?_
                          intro i hi
                          simp only [List.mem_cons, List.not_mem_nil, or_false] at hi
                          rcases hi with rfl | rfl
                          · refine wpOpIn_run (v := .slice Y x.length e) (w' := w9.drew) rfl (by kernel_rfl) (fun f hf => by simp [Oper.about] at hf) (fun c hc => by cases hc) (by go_simp) ?_
                            go_simp
                            refine wpAnyIn_all (rs := [4, 5]) (by decide +kernel) (by simp) ?_
                            intro i hi
                            simp only [List.mem_cons, List.not_mem_nil, or_false] at hi
                            rcases hi with rfl | rfl
                            · refine wpOpIn_run (v := .string ⟨x.toArray⟩) (w' := w9.drew) rfl (by kernel_rfl) (fun f hf => by simp [Oper.about] at hf) (fun c hc => by cases hc) (by go_simp) ?_
                              go_simp
                              refine wpAnyIn_all (rs := [5]) (by decide +kernel) (by simp) ?_
                              intro i hi
                              simp only [List.mem_cons, List.not_mem_nil, or_false] at hi
                              subst hi
                              refine wpOpIn_run (v := .slice XA xb.length xc) (w' := w9.drew) rfl (by kernel_rfl) (fun f hf => by simp [Oper.about] at hf) (fun c hc => by cases hc) (by go_simp) ?_
                              go_simp
                              refine wpAnyIn_all (rs := [6]) (by decide +kernel) (by simp) ?_
                              intro i hi
                              simp only [List.mem_cons, List.not_mem_nil, or_false] at hi
                              subst hi
                              refine wpOpIn_run (v := .string ⟨xb.toArray⟩) (w' := w9.drew) rfl (by kernel_rfl) (fun f hf => by simp [Oper.about] at hf) (fun c hc => by cases hc) (by go_simp) ?_
                              go_simp
                              refine wpAnyIn_all (rs := [7]) (by decide +kernel) (by simp) ?_
                              intro i hi
                              simp only [List.mem_cons, List.not_mem_nil, or_false] at hi
                              subst hi
                              refine wpOpIn_run (v := .bool bq) (w' := w9.drew) rfl (by kernel_rfl) (fun f hf => by simp [Oper.about] at hf) (fun c hc => by cases hc) (by go_simp) ?_
                              go_simp
                              refine wpAnyIn_done (by decide +kernel) ?_ _
                              exact ⟨rfl, rfl, rfl⟩
                            · refine wpOpIn_run (v := .slice XA xb.length xc) (w' := w9.drew) rfl (by kernel_rfl) (fun f hf => by simp [Oper.about] at hf) (fun c hc => by cases hc) (by go_simp) ?_
                              go_simp
                              refine wpAnyIn_all (rs := [4, 6]) (by decide +kernel) (by simp) ?_
                              intro i hi
                              simp only [List.mem_cons, List.not_mem_nil, or_false] at hi
                              rcases hi with rfl | rfl
                              · refine wpOpIn_run (v := .string ⟨x.toArray⟩) (w' := w9.drew) rfl (by kernel_rfl) (fun f hf => by simp [Oper.about] at hf) (fun c hc => by cases hc) (by go_simp) ?_
                                go_simp
                                refine wpAnyIn_all (rs := [6]) (by decide +kernel) (by simp) ?_
                                intro i hi
                                simp only [List.mem_cons, List.not_mem_nil, or_false] at hi
                                subst hi
                                refine wpOpIn_run (v := .string ⟨xb.toArray⟩) (w' := w9.drew) rfl (by kernel_rfl) (fun f hf => by simp [Oper.about] at hf) (fun c hc => by cases hc) (by go_simp) ?_
                                go_simp
                                refine wpAnyIn_all (rs := [7]) (by decide +kernel) (by simp) ?_
                                intro i hi
                                simp only [List.mem_cons, List.not_mem_nil, or_false] at hi
                                subst hi
                                refine wpOpIn_run (v := .bool bq) (w' := w9.drew) rfl (by kernel_rfl) (fun f hf => by simp [Oper.about] at hf) (fun c hc => by cases hc) (by go_simp) ?_
                                go_simp
                                refine wpAnyIn_done (by decide +kernel) ?_ _
                                exact ⟨rfl, rfl, rfl⟩
                              · refine wpOpIn_run (v := .string ⟨xb.toArray⟩) (w' := w9.drew) rfl (by kernel_rfl) (fun f hf => by simp [Oper.about] at hf) (fun c hc => by cases hc) (by go_simp) ?_
                                go_simp
                                refine wpAnyIn_all (rs := [4]) (by decide +kernel) (by simp) ?_
                                intro i hi
                                simp only [List.mem_cons, List.not_mem_nil, or_false] at hi
                                subst hi
                                refine wpOpIn_run (v := .string ⟨x.toArray⟩) (w' := w9.drew) rfl (by kernel_rfl) (fun f hf => by simp [Oper.about] at hf) (fun c hc => by cases hc) (by go_simp) ?_
                                go_simp
                                refine wpAnyIn_all (rs := [7]) (by decide +kernel) (by simp) ?_
                                intro i hi
                                simp only [List.mem_cons, List.not_mem_nil, or_false] at hi
                                subst hi
                                refine wpOpIn_run (v := .bool bq) (w' := w9.drew) rfl (by kernel_rfl) (fun f hf => by simp [Oper.about] at hf) (fun c hc => by cases hc) (by go_simp) ?_
                                go_simp
                                refine wpAnyIn_done (by decide +kernel) ?_ _
                                exact ⟨rfl, rfl, rfl⟩
                          · refine wpOpIn_run (v := .slice XA xb.length xc) (w' := w9.drew) rfl (by kernel_rfl) (fun f hf => by simp [Oper.about] at hf) (fun c hc => by cases hc) (by go_simp) ?_
                            go_simp
                            refine wpAnyIn_all (rs := [3, 6]) (by decide +kernel) (by simp) ?_
                            intro i hi
                            simp only [List.mem_cons, List.not_mem_nil, or_false] at hi
                            rcases hi with rfl | rfl
                            · refine wpOpIn_run (v := .slice Y x.length e) (w' := w9.drew) rfl (by kernel_rfl) (fun f hf => by simp [Oper.about] at hf) (fun c hc => by cases hc) (by go_simp) ?_
                              go_simp
                              refine wpAnyIn_all (rs := [4, 6]) (by decide +kernel) (by simp) ?_
                              intro i hi
                              simp only [List.mem_cons, List.not_mem_nil, or_false] at hi
                              rcases hi with rfl | rfl
                              · refine wpOpIn_run (v := .string ⟨x.toArray⟩) (w' := w9.drew) rfl (by kernel_rfl) (fun f hf => by simp [Oper.about] at hf) (fun c hc => by cases hc) (by go_simp) ?_
                                go_simp
                                refine wpAnyIn_all (rs := [6]) (by decide +kernel) (by simp) ?_
                                intro i hi
                                simp only [List.mem_cons, List.not_mem_nil, or_false] at hi
                                subst hi
                                refine wpOpIn_run (v := .string ⟨xb.toArray⟩) (w' := w9.drew) rfl (by kernel_rfl) (fun f hf => by simp [Oper.about] at hf) (fun c hc => by cases hc) (by go_simp) ?_
                                go_simp
                                refine wpAnyIn_all (rs := [7]) (by decide +kernel) (by simp) ?_
                                intro i hi
                                simp only [List.mem_cons, List.not_mem_nil, or_false] at hi
                                subst hi
                                refine wpOpIn_run (v := .bool bq) (w' := w9.drew) rfl (by kernel_rfl) (fun f hf => by simp [Oper.about] at hf) (fun c hc => by cases hc) (by go_simp) ?_
                                go_simp
                                refine wpAnyIn_done (by decide +kernel) ?_ _
                                exact ⟨rfl, rfl, rfl⟩
                              · refine wpOpIn_run (v := .string ⟨xb.toArray⟩) (w' := w9.drew) rfl (by kernel_rfl) (fun f hf => by simp [Oper.about] at hf) (fun c hc => by cases hc) (by go_simp) ?_
                                go_simp
                                refine wpAnyIn_all (rs := [4]) (by decide +kernel) (by simp) ?_
                                intro i hi
                                simp only [List.mem_cons, List.not_mem_nil, or_false] at hi
                                subst hi
                                refine wpOpIn_run (v := .string ⟨x.toArray⟩) (w' := w9.drew) rfl (by kernel_rfl) (fun f hf => by simp [Oper.about] at hf) (fun c hc => by cases hc) (by go_simp) ?_
                                go_simp
                                refine wpAnyIn_all (rs := [7]) (by decide +kernel) (by simp) ?_
                                intro i hi
                                simp only [List.mem_cons, List.not_mem_nil, or_false] at hi
                                subst hi
                                refine wpOpIn_run (v := .bool bq) (w' := w9.drew) rfl (by kernel_rfl) (fun f hf => by simp [Oper.about] at hf) (fun c hc => by cases hc) (by go_simp) ?_
                                go_simp
                                refine wpAnyIn_done (by decide +kernel) ?_ _
                                exact ⟨rfl, rfl, rfl⟩
                            · refine wpOpIn_run (v := .string ⟨xb.toArray⟩) (w' := w9.drew) rfl (by kernel_rfl) (fun f hf => by simp [Oper.about] at hf) (fun c hc => by cases hc) (by go_simp) ?_
                              go_simp
                              refine wpAnyIn_all (rs := [3]) (by decide +kernel) (by simp) ?_
                              intro i hi
                              simp only [List.mem_cons, List.not_mem_nil, or_false] at hi
                              subst hi
                              refine wpOpIn_run (v := .slice Y x.length e) (w' := w9.drew) rfl (by kernel_rfl) (fun f hf => by simp [Oper.about] at hf) (fun c hc => by cases hc) (by go_simp) ?_
                              go_simp
                              refine wpAnyIn_all (rs := [4]) (by decide +kernel) (by simp) ?_
                              intro i hi
                              simp only [List.mem_cons, List.not_mem_nil, or_false] at hi
                              subst hi
                              refine wpOpIn_run (v := .string ⟨x.toArray⟩) (w' := w9.drew) rfl (by kernel_rfl) (fun f hf => by simp [Oper.about] at hf) (fun c hc => by cases hc) (by go_simp) ?_
                              go_simp
                              refine wpAnyIn_all (rs := [7]) (by decide +kernel) (by simp) ?_
                              intro i hi
                              simp only [List.mem_cons, List.not_mem_nil, or_false] at hi
                              subst hi
                              refine wpOpIn_run (v := .bool bq) (w' := w9.drew) rfl (by kernel_rfl) (fun f hf => by simp [Oper.about] at hf) (fun c hc => by cases hc) (by go_simp) ?_
                              go_simp
                              refine wpAnyIn_done (by decide +kernel) ?_ _
                              exact ⟨rfl, rfl, rfl⟩
                        · refine wpOpIn_run (v := .slice XA xb.length xc) (w' := w9.drew) rfl (by kernel_rfl) (fun f hf => by simp [Oper.about] at hf) (fun c hc => by cases hc) (by go_simp) ?_
                          go_simp
                          refine wpAnyIn_all (rs := [2, 6]) (by decide +kernel) (by simp) ?_
                          intro i hi
                          simp only [List.mem_cons, List.not_mem_nil, or_false] at hi
                          rcases hi with rfl | rfl
                          · refine wpOpIn_run (v := .pointer (some ⟨bb, oo + q, none⟩)) (w' := w9.drew) rfl (by kernel_rfl) (fun f hf => by simp [Oper.about] at hf) (fun c hc => by cases hc) (by go_simp) ?_
                            go_simp
                            refine wpAnyIn_all (rs := [3, 6]) (by decide +kernel) (by simp) ?_
                            intro i hi
                            simp only [List.mem_cons, List.not_mem_nil, or_false] at hi
                            rcases hi with rfl | rfl
                            · refine wpOpIn_run (v := .slice Y x.length e) (w' := w9.drew) rfl (by kernel_rfl) (fun f hf => by simp [Oper.about] at hf) (fun c hc => by cases hc) (by go_simp) ?_
                              go_simp
                              refine wpAnyIn_all (rs := [4, 6]) (by decide +kernel) (by simp) ?_
                              intro i hi
                              simp only [List.mem_cons, List.not_mem_nil, or_false] at hi
                              rcases hi with rfl | rfl
                              · refine wpOpIn_run (v := .string ⟨x.toArray⟩) (w' := w9.drew) rfl (by kernel_rfl) (fun f hf => by simp [Oper.about] at hf) (fun c hc => by cases hc) (by go_simp) ?_
                                go_simp
                                refine wpAnyIn_all (rs := [6]) (by decide +kernel) (by simp) ?_
                                intro i hi
                                simp only [List.mem_cons, List.not_mem_nil, or_false] at hi
                                subst hi
                                refine wpOpIn_run (v := .string ⟨xb.toArray⟩) (w' := w9.drew) rfl (by kernel_rfl) (fun f hf => by simp [Oper.about] at hf) (fun c hc => by cases hc) (by go_simp) ?_
                                go_simp
                                refine wpAnyIn_all (rs := [7]) (by decide +kernel) (by simp) ?_
                                intro i hi
                                simp only [List.mem_cons, List.not_mem_nil, or_false] at hi
                                subst hi
                                refine wpOpIn_run (v := .bool bq) (w' := w9.drew) rfl (by kernel_rfl) (fun f hf => by simp [Oper.about] at hf) (fun c hc => by cases hc) (by go_simp) ?_
                                go_simp
                                refine wpAnyIn_done (by decide +kernel) ?_ _
                                exact ⟨rfl, rfl, rfl⟩
                              · refine wpOpIn_run (v := .string ⟨xb.toArray⟩) (w' := w9.drew) rfl (by kernel_rfl) (fun f hf => by simp [Oper.about] at hf) (fun c hc => by cases hc) (by go_simp) ?_
                                go_simp
                                refine wpAnyIn_all (rs := [4]) (by decide +kernel) (by simp) ?_
                                intro i hi
                                simp only [List.mem_cons, List.not_mem_nil, or_false] at hi
                                subst hi
                                refine wpOpIn_run (v := .string ⟨x.toArray⟩) (w' := w9.drew) rfl (by kernel_rfl) (fun f hf => by simp [Oper.about] at hf) (fun c hc => by cases hc) (by go_simp) ?_
                                go_simp
                                refine wpAnyIn_all (rs := [7]) (by decide +kernel) (by simp) ?_
                                intro i hi
                                simp only [List.mem_cons, List.not_mem_nil, or_false] at hi
                                subst hi
                                refine wpOpIn_run (v := .bool bq) (w' := w9.drew) rfl (by kernel_rfl) (fun f hf => by simp [Oper.about] at hf) (fun c hc => by cases hc) (by go_simp) ?_
                                go_simp
                                refine wpAnyIn_done (by decide +kernel) ?_ _
                                exact ⟨rfl, rfl, rfl⟩
                            · refine wpOpIn_run (v := .string ⟨xb.toArray⟩) (w' := w9.drew) rfl (by kernel_rfl) (fun f hf => by simp [Oper.about] at hf) (fun c hc => by cases hc) (by go_simp) ?_
                              go_simp
                              refine wpAnyIn_all (rs := [3]) (by decide +kernel) (by simp) ?_
                              intro i hi
                              simp only [List.mem_cons, List.not_mem_nil, or_false] at hi
                              subst hi
                              refine wpOpIn_run (v := .slice Y x.length e) (w' := w9.drew) rfl (by kernel_rfl) (fun f hf => by simp [Oper.about] at hf) (fun c hc => by cases hc) (by go_simp) ?_
                              go_simp
                              refine wpAnyIn_all (rs := [4]) (by decide +kernel) (by simp) ?_
                              intro i hi
                              simp only [List.mem_cons, List.not_mem_nil, or_false] at hi
                              subst hi
                              refine wpOpIn_run (v := .string ⟨x.toArray⟩) (w' := w9.drew) rfl (by kernel_rfl) (fun f hf => by simp [Oper.about] at hf) (fun c hc => by cases hc) (by go_simp) ?_
                              go_simp
                              refine wpAnyIn_all (rs := [7]) (by decide +kernel) (by simp) ?_
                              intro i hi
                              simp only [List.mem_cons, List.not_mem_nil, or_false] at hi
                              subst hi
                              refine wpOpIn_run (v := .bool bq) (w' := w9.drew) rfl (by kernel_rfl) (fun f hf => by simp [Oper.about] at hf) (fun c hc => by cases hc) (by go_simp) ?_
                              go_simp
                              refine wpAnyIn_done (by decide +kernel) ?_ _
                              exact ⟨rfl, rfl, rfl⟩
                          · refine wpOpIn_run (v := .string ⟨xb.toArray⟩) (w' := w9.drew) rfl (by kernel_rfl) (fun f hf => by simp [Oper.about] at hf) (fun c hc => by cases hc) (by go_simp) ?_
                            go_simp
                            refine wpAnyIn_all (rs := [2]) (by decide +kernel) (by simp) ?_
                            intro i hi
                            simp only [List.mem_cons, List.not_mem_nil, or_false] at hi
                            subst hi
                            refine wpOpIn_run (v := .pointer (some ⟨bb, oo + q, none⟩)) (w' := w9.drew) rfl (by kernel_rfl) (fun f hf => by simp [Oper.about] at hf) (fun c hc => by cases hc) (by go_simp) ?_
                            go_simp
                            refine wpAnyIn_all (rs := [3]) (by decide +kernel) (by simp) ?_
                            intro i hi
                            simp only [List.mem_cons, List.not_mem_nil, or_false] at hi
                            subst hi
                            refine wpOpIn_run (v := .slice Y x.length e) (w' := w9.drew) rfl (by kernel_rfl) (fun f hf => by simp [Oper.about] at hf) (fun c hc => by cases hc) (by go_simp) ?_
                            go_simp
                            refine wpAnyIn_all (rs := [4]) (by decide +kernel) (by simp) ?_
                            intro i hi
                            simp only [List.mem_cons, List.not_mem_nil, or_false] at hi
                            subst hi
                            refine wpOpIn_run (v := .string ⟨x.toArray⟩) (w' := w9.drew) rfl (by kernel_rfl) (fun f hf => by simp [Oper.about] at hf) (fun c hc => by cases hc) (by go_simp) ?_
                            go_simp
                            refine wpAnyIn_all (rs := [7]) (by decide +kernel) (by simp) ?_
                            intro i hi
                            simp only [List.mem_cons, List.not_mem_nil, or_false] at hi
                            subst hi
                            refine wpOpIn_run (v := .bool bq) (w' := w9.drew) rfl (by kernel_rfl) (fun f hf => by simp [Oper.about] at hf) (fun c hc => by cases hc) (by go_simp) ?_
                            go_simp
                            refine wpAnyIn_done (by decide +kernel) ?_ _
                            exact ⟨rfl, rfl, rfl⟩
                      · refine wpOpIn_run (v := .slice XA xb.length xc) (w' := w9.drew) rfl (by kernel_rfl) (fun f hf => by simp [Oper.about] at hf) (fun c hc => by cases hc) (by go_simp) ?_
                        go_simp
                        refine wpAnyIn_all (rs := [0, 6]) (by decide +kernel) (by simp) ?_
                        intro i hi
                        simp only [List.mem_cons, List.not_mem_nil, or_false] at hi
                        rcases hi with rfl | rfl
                        · refine wpOpIn_run (v := .slice (some ⟨bb, oo, none⟩) k c) (w' := w9.drew) rfl (by kernel_rfl) (fun f hf => by simp [Oper.about] at hf) (fun c hc => by cases hc) (by go_simp) ?_
                          go_simp
                          refine wpAnyIn_all (rs := [2, 6]) (by decide +kernel) (by simp) ?_
                          intro i hi
                          simp only [List.mem_cons, List.not_mem_nil, or_false] at hi
                          rcases hi with rfl | rfl
                          · refine wpOpIn_run (v := .pointer (some ⟨bb, oo + q, none⟩)) (w' := w9.drew) rfl (by kernel_rfl) (fun f hf => by simp [Oper.about] at hf) (fun c hc => by cases hc) (by go_simp) ?_
                            go_simp
                            refine wpAnyIn_all (rs := [3, 6]) (by decide +kernel) (by simp) ?_
                            intro i hi
                            simp only [List.mem_cons, List.not_mem_nil, or_false] at hi
                            rcases hi with rfl | rfl
                            · refine wpOpIn_run (v := .slice Y x.length e) (w' := w9.drew) rfl (by kernel_rfl) (fun f hf => by simp [Oper.about] at hf) (fun c hc => by cases hc) (by go_simp) ?_
                              go_simp
                              refine wpAnyIn_all (rs := [4, 6]) (by decide +kernel) (by simp) ?_
                              intro i hi
                              simp only [List.mem_cons, List.not_mem_nil, or_false] at hi
                              rcases hi with rfl | rfl
                              · refine wpOpIn_run (v := .string ⟨x.toArray⟩) (w' := w9.drew) rfl (by kernel_rfl) (fun f hf => by simp [Oper.about] at hf) (fun c hc => by cases hc) (by go_simp) ?_
                                go_simp
                                refine wpAnyIn_all (rs := [6]) (by decide +kernel) (by simp) ?_
                                intro i hi
                                simp only [List.mem_cons, List.not_mem_nil, or_false] at hi
                                subst hi
                                refine wpOpIn_run (v := .string ⟨xb.toArray⟩) (w' := w9.drew) rfl (by kernel_rfl) (fun f hf => by simp [Oper.about] at hf) (fun c hc => by cases hc) (by go_simp) ?_
                                go_simp
                                refine wpAnyIn_all (rs := [7]) (by decide +kernel) (by simp) ?_
                                intro i hi
                                simp only [List.mem_cons, List.not_mem_nil, or_false] at hi
                                subst hi
                                refine wpOpIn_run (v := .bool bq) (w' := w9.drew) rfl (by kernel_rfl) (fun f hf => by simp [Oper.about] at hf) (fun c hc => by cases hc) (by go_simp) ?_
                                go_simp
                                refine wpAnyIn_done (by decide +kernel) ?_ _
                                exact ⟨rfl, rfl, rfl⟩
                              · refine wpOpIn_run (v := .string ⟨xb.toArray⟩) (w' := w9.drew) rfl (by kernel_rfl) (fun f hf => by simp [Oper.about] at hf) (fun c hc => by cases hc) (by go_simp) ?_
                                go_simp
                                refine wpAnyIn_all (rs := [4]) (by decide +kernel) (by simp) ?_
                                intro i hi
                                simp only [List.mem_cons, List.not_mem_nil, or_false] at hi
                                subst hi
                                refine wpOpIn_run (v := .string ⟨x.toArray⟩) (w' := w9.drew) rfl (by kernel_rfl) (fun f hf => by simp [Oper.about] at hf) (fun c hc => by cases hc) (by go_simp) ?_
                                go_simp
                                refine wpAnyIn_all (rs := [7]) (by decide +kernel) (by simp) ?_
                                intro i hi
                                simp only [List.mem_cons, List.not_mem_nil, or_false] at hi
                                subst hi
                                refine wpOpIn_run (v := .bool bq) (w' := w9.drew) rfl (by kernel_rfl) (fun f hf => by simp [Oper.about] at hf) (fun c hc => by cases hc) (by go_simp) ?_
                                go_simp
                                refine wpAnyIn_done (by decide +kernel) ?_ _
                                exact ⟨rfl, rfl, rfl⟩
                            · refine wpOpIn_run (v := .string ⟨xb.toArray⟩) (w' := w9.drew) rfl (by kernel_rfl) (fun f hf => by simp [Oper.about] at hf) (fun c hc => by cases hc) (by go_simp) ?_
                              go_simp
                              refine wpAnyIn_all (rs := [3]) (by decide +kernel) (by simp) ?_
                              intro i hi
                              simp only [List.mem_cons, List.not_mem_nil, or_false] at hi
                              subst hi
                              refine wpOpIn_run (v := .slice Y x.length e) (w' := w9.drew) rfl (by kernel_rfl) (fun f hf => by simp [Oper.about] at hf) (fun c hc => by cases hc) (by go_simp) ?_
                              go_simp
                              refine wpAnyIn_all (rs := [4]) (by decide +kernel) (by simp) ?_
                              intro i hi
                              simp only [List.mem_cons, List.not_mem_nil, or_false] at hi
                              subst hi
                              refine wpOpIn_run (v := .string ⟨x.toArray⟩) (w' := w9.drew) rfl (by kernel_rfl) (fun f hf => by simp [Oper.about] at hf) (fun c hc => by cases hc) (by go_simp) ?_
                              go_simp
                              refine wpAnyIn_all (rs := [7]) (by decide +kernel) (by simp) ?_
                              intro i hi
                              simp only [List.mem_cons, List.not_mem_nil, or_false] at hi
                              subst hi
                              refine wpOpIn_run (v := .bool bq) (w' := w9.drew) rfl (by kernel_rfl) (fun f hf => by simp [Oper.about] at hf) (fun c hc => by cases hc) (by go_simp) ?_
                              go_simp
                              refine wpAnyIn_done (by decide +kernel) ?_ _
                              exact ⟨rfl, rfl, rfl⟩
                          · refine wpOpIn_run (v := .string ⟨xb.toArray⟩) (w' := w9.drew) rfl (by kernel_rfl) (fun f hf => by simp [Oper.about] at hf) (fun c hc => by cases hc) (by go_simp) ?_
                            go_simp
                            refine wpAnyIn_all (rs := [2]) (by decide +kernel) (by simp) ?_
                            intro i hi
                            simp only [List.mem_cons, List.not_mem_nil, or_false] at hi
                            subst hi
                            refine wpOpIn_run (v := .pointer (some ⟨bb, oo + q, none⟩)) (w' := w9.drew) rfl (by kernel_rfl) (fun f hf => by simp [Oper.about] at hf) (fun c hc => by cases hc) (by go_simp) ?_
                            go_simp
                            refine wpAnyIn_all (rs := [3]) (by decide +kernel) (by simp) ?_
                            intro i hi
                            simp only [List.mem_cons, List.not_mem_nil, or_false] at hi
                            subst hi
                            refine wpOpIn_run (v := .slice Y x.length e) (w' := w9.drew) rfl (by kernel_rfl) (fun f hf => by simp [Oper.about] at hf) (fun c hc => by cases hc) (by go_simp) ?_
                            go_simp
                            refine wpAnyIn_all (rs := [4]) (by decide +kernel) (by simp) ?_
                            intro i hi
                            simp only [List.mem_cons, List.not_mem_nil, or_false] at hi
                            subst hi
                            refine wpOpIn_run (v := .string ⟨x.toArray⟩) (w' := w9.drew) rfl (by kernel_rfl) (fun f hf => by simp [Oper.about] at hf) (fun c hc => by cases hc) (by go_simp) ?_
                            go_simp
                            refine wpAnyIn_all (rs := [7]) (by decide +kernel) (by simp) ?_
                            intro i hi
                            simp only [List.mem_cons, List.not_mem_nil, or_false] at hi
                            subst hi
                            refine wpOpIn_run (v := .bool bq) (w' := w9.drew) rfl (by kernel_rfl) (fun f hf => by simp [Oper.about] at hf) (fun c hc => by cases hc) (by go_simp) ?_
                            go_simp
                            refine wpAnyIn_done (by decide +kernel) ?_ _
                            exact ⟨rfl, rfl, rfl⟩
                        · refine wpOpIn_run (v := .string ⟨xb.toArray⟩) (w' := w9.drew) rfl (by kernel_rfl) (fun f hf => by simp [Oper.about] at hf) (fun c hc => by cases hc) (by go_simp) ?_
                          go_simp
                          refine wpAnyIn_all (rs := [0]) (by decide +kernel) (by simp) ?_
                          intro i hi
                          simp only [List.mem_cons, List.not_mem_nil, or_false] at hi
                          subst hi
                          refine wpOpIn_run (v := .slice (some ⟨bb, oo, none⟩) k c) (w' := w9.drew) rfl (by kernel_rfl) (fun f hf => by simp [Oper.about] at hf) (fun c hc => by cases hc) (by go_simp) ?_
                          go_simp
                          refine wpAnyIn_all (rs := [2]) (by decide +kernel) (by simp) ?_
                          intro i hi
                          simp only [List.mem_cons, List.not_mem_nil, or_false] at hi
                          subst hi
                          refine wpOpIn_run (v := .pointer (some ⟨bb, oo + q, none⟩)) (w' := w9.drew) rfl (by kernel_rfl) (fun f hf => by simp [Oper.about] at hf) (fun c hc => by cases hc) (by go_simp) ?_
                          go_simp
                          refine wpAnyIn_all (rs := [3]) (by decide +kernel) (by simp) ?_
                          intro i hi
                          simp only [List.mem_cons, List.not_mem_nil, or_false] at hi
                          subst hi
                          refine wpOpIn_run (v := .slice Y x.length e) (w' := w9.drew) rfl (by kernel_rfl) (fun f hf => by simp [Oper.about] at hf) (fun c hc => by cases hc) (by go_simp) ?_
                          go_simp
                          refine wpAnyIn_all (rs := [4]) (by decide +kernel) (by simp) ?_
                          intro i hi
                          simp only [List.mem_cons, List.not_mem_nil, or_false] at hi
                          subst hi
                          refine wpOpIn_run (v := .string ⟨x.toArray⟩) (w' := w9.drew) rfl (by kernel_rfl) (fun f hf => by simp [Oper.about] at hf) (fun c hc => by cases hc) (by go_simp) ?_
                          go_simp
                          refine wpAnyIn_all (rs := [7]) (by decide +kernel) (by simp) ?_
                          intro i hi
                          simp only [List.mem_cons, List.not_mem_nil, or_false] at hi
                          subst hi
                          refine wpOpIn_run (v := .bool bq) (w' := w9.drew) rfl (by kernel_rfl) (fun f hf => by simp [Oper.about] at hf) (fun c hc => by cases hc) (by go_simp) ?_
                          go_simp
                          refine wpAnyIn_done (by decide +kernel) ?_ _
                          exact ⟨rfl, rfl, rfl⟩
                    · refine wpOpIn_run (v := .slice XA xb.length xc) (w' := w9.drew) rfl (by kernel_rfl) (fun f hf => by simp [Oper.about] at hf) (fun c hc => by cases hc) (by go_simp) ?_
                      go_simp
                      refine wpAnyIn_all (rs := [0, 1, 6]) (by decide +kernel) (by simp) ?_
                      intro i hi
                      simp only [List.mem_cons, List.not_mem_nil, or_false] at hi
                      rcases hi with rfl | rfl | rfl
                      · refine wpOpIn_run (v := .slice (some ⟨bb, oo, none⟩) k c) (w' := w9.drew) rfl (by kernel_rfl) (fun f hf => by simp [Oper.about] at hf) (fun c hc => by cases hc) (by go_simp) ?_
                        go_simp
                        refine wpAnyIn_all (rs := [1, 6]) (by decide +kernel) (by simp) ?_
                        intro i hi
                        simp only [List.mem_cons, List.not_mem_nil, or_false] at hi
                        rcases hi with rfl | rfl
                        · refine wpOpIn_run (v := .int .i64 (q : Int)) (w' := w9.drew) rfl (by kernel_rfl) (fun f hf => by simp [Oper.about] at hf) (fun c hc => by cases hc) (by go_simp) ?_
                          go_simp
                          refine wpAnyIn_all (rs := [2, 6]) (by decide +kernel) (by simp) ?_
                          intro i hi
                          simp only [List.mem_cons, List.not_mem_nil, or_false] at hi
                          rcases hi with rfl | rfl
                          · refine wpOpIn_run (v := .pointer (some ⟨bb, oo + q, none⟩)) (w' := w9.drew) rfl (by kernel_rfl) (fun f hf => by simp [Oper.about] at hf) (fun c hc => by cases hc) (by go_simp) ?_
                            go_simp
                            refine wpAnyIn_all (rs := [3, 6]) (by decide +kernel) (by simp) ?_
                            intro i hi
                            simp only [List.mem_cons, List.not_mem_nil, or_false] at hi
                            rcases hi with rfl | rfl
                            · refine wpOpIn_run (v := .slice Y x.length e) (w' := w9.drew) rfl (by kernel_rfl) (fun f hf => by simp [Oper.about] at hf) (fun c hc => by cases hc) (by go_simp) ?_
                              go_simp
                              refine wpAnyIn_all (rs := [4, 6]) (by decide +kernel) (by simp) ?_
                              intro i hi
                              simp only [List.mem_cons, List.not_mem_nil, or_false] at hi
                              rcases hi with rfl | rfl
                              · refine wpOpIn_run (v := .string ⟨x.toArray⟩) (w' := w9.drew) rfl (by kernel_rfl) (fun f hf => by simp [Oper.about] at hf) (fun c hc => by cases hc) (by go_simp) ?_
                                go_simp
                                refine wpAnyIn_all (rs := [6]) (by decide +kernel) (by simp) ?_
                                intro i hi
                                simp only [List.mem_cons, List.not_mem_nil, or_false] at hi
                                subst hi
                                refine wpOpIn_run (v := .string ⟨xb.toArray⟩) (w' := w9.drew) rfl (by kernel_rfl) (fun f hf => by simp [Oper.about] at hf) (fun c hc => by cases hc) (by go_simp) ?_
                                go_simp
                                refine wpAnyIn_all (rs := [7]) (by decide +kernel) (by simp) ?_
                                intro i hi
                                simp only [List.mem_cons, List.not_mem_nil, or_false] at hi
                                subst hi
                                refine wpOpIn_run (v := .bool bq) (w' := w9.drew) rfl (by kernel_rfl) (fun f hf => by simp [Oper.about] at hf) (fun c hc => by cases hc) (by go_simp) ?_
                                go_simp
                                refine wpAnyIn_done (by decide +kernel) ?_ _
                                exact ⟨rfl, rfl, rfl⟩
                              · refine wpOpIn_run (v := .string ⟨xb.toArray⟩) (w' := w9.drew) rfl (by kernel_rfl) (fun f hf => by simp [Oper.about] at hf) (fun c hc => by cases hc) (by go_simp) ?_
                                go_simp
                                refine wpAnyIn_all (rs := [4]) (by decide +kernel) (by simp) ?_
                                intro i hi
                                simp only [List.mem_cons, List.not_mem_nil, or_false] at hi
                                subst hi
                                refine wpOpIn_run (v := .string ⟨x.toArray⟩) (w' := w9.drew) rfl (by kernel_rfl) (fun f hf => by simp [Oper.about] at hf) (fun c hc => by cases hc) (by go_simp) ?_
                                go_simp
                                refine wpAnyIn_all (rs := [7]) (by decide +kernel) (by simp) ?_
                                intro i hi
                                simp only [List.mem_cons, List.not_mem_nil, or_false] at hi
                                subst hi
                                refine wpOpIn_run (v := .bool bq) (w' := w9.drew) rfl (by kernel_rfl) (fun f hf => by simp [Oper.about] at hf) (fun c hc => by cases hc) (by go_simp) ?_
                                go_simp
                                refine wpAnyIn_done (by decide +kernel) ?_ _
                                exact ⟨rfl, rfl, rfl⟩
                            · refine wpOpIn_run (v := .string ⟨xb.toArray⟩) (w' := w9.drew) rfl (by kernel_rfl) (fun f hf => by simp [Oper.about] at hf) (fun c hc => by cases hc) (by go_simp) ?_
                              go_simp
                              refine wpAnyIn_all (rs := [3]) (by decide +kernel) (by simp) ?_
                              intro i hi
                              simp only [List.mem_cons, List.not_mem_nil, or_false] at hi
                              subst hi
                              refine wpOpIn_run (v := .slice Y x.length e) (w' := w9.drew) rfl (by kernel_rfl) (fun f hf => by simp [Oper.about] at hf) (fun c hc => by cases hc) (by go_simp) ?_
                              go_simp
                              refine wpAnyIn_all (rs := [4]) (by decide +kernel) (by simp) ?_
                              intro i hi
                              simp only [List.mem_cons, List.not_mem_nil, or_false] at hi
                              subst hi
                              refine wpOpIn_run (v := .string ⟨x.toArray⟩) (w' := w9.drew) rfl (by kernel_rfl) (fun f hf => by simp [Oper.about] at hf) (fun c hc => by cases hc) (by go_simp) ?_
                              go_simp
                              refine wpAnyIn_all (rs := [7]) (by decide +kernel) (by simp) ?_
                              intro i hi
                              simp only [List.mem_cons, List.not_mem_nil, or_false] at hi
                              subst hi
                              refine wpOpIn_run (v := .bool bq) (w' := w9.drew) rfl (by kernel_rfl) (fun f hf => by simp [Oper.about] at hf) (fun c hc => by cases hc) (by go_simp) ?_
                              go_simp
                              refine wpAnyIn_done (by decide +kernel) ?_ _
                              exact ⟨rfl, rfl, rfl⟩
                          · refine wpOpIn_run (v := .string ⟨xb.toArray⟩) (w' := w9.drew) rfl (by kernel_rfl) (fun f hf => by simp [Oper.about] at hf) (fun c hc => by cases hc) (by go_simp) ?_
                            go_simp
                            refine wpAnyIn_all (rs := [2]) (by decide +kernel) (by simp) ?_
                            intro i hi
                            simp only [List.mem_cons, List.not_mem_nil, or_false] at hi
                            subst hi
                            refine wpOpIn_run (v := .pointer (some ⟨bb, oo + q, none⟩)) (w' := w9.drew) rfl (by kernel_rfl) (fun f hf => by simp [Oper.about] at hf) (fun c hc => by cases hc) (by go_simp) ?_
                            go_simp
                            refine wpAnyIn_all (rs := [3]) (by decide +kernel) (by simp) ?_
                            intro i hi
                            simp only [List.mem_cons, List.not_mem_nil, or_false] at hi
                            subst hi
                            refine wpOpIn_run (v := .slice Y x.length e) (w' := w9.drew) rfl (by kernel_rfl) (fun f hf => by simp [Oper.about] at hf) (fun c hc => by cases hc) (by go_simp) ?_
                            go_simp
                            refine wpAnyIn_all (rs := [4]) (by decide +kernel) (by simp) ?_
                            intro i hi
                            simp only [List.mem_cons, List.not_mem_nil, or_false] at hi
                            subst hi
                            refine wpOpIn_run (v := .string ⟨x.toArray⟩) (w' := w9.drew) rfl (by kernel_rfl) (fun f hf => by simp [Oper.about] at hf) (fun c hc => by cases hc) (by go_simp) ?_
                            go_simp
                            refine wpAnyIn_all (rs := [7]) (by decide +kernel) (by simp) ?_
                            intro i hi
                            simp only [List.mem_cons, List.not_mem_nil, or_false] at hi
                            subst hi
                            refine wpOpIn_run (v := .bool bq) (w' := w9.drew) rfl (by kernel_rfl) (fun f hf => by simp [Oper.about] at hf) (fun c hc => by cases hc) (by go_simp) ?_
                            go_simp
                            refine wpAnyIn_done (by decide +kernel) ?_ _
                            exact ⟨rfl, rfl, rfl⟩
                        · refine wpOpIn_run (v := .string ⟨xb.toArray⟩) (w' := w9.drew) rfl (by kernel_rfl) (fun f hf => by simp [Oper.about] at hf) (fun c hc => by cases hc) (by go_simp) ?_
                          go_simp
                          refine wpAnyIn_all (rs := [1]) (by decide +kernel) (by simp) ?_
                          intro i hi
                          simp only [List.mem_cons, List.not_mem_nil, or_false] at hi
                          subst hi
                          refine wpOpIn_run (v := .int .i64 (q : Int)) (w' := w9.drew) rfl (by kernel_rfl) (fun f hf => by simp [Oper.about] at hf) (fun c hc => by cases hc) (by go_simp) ?_
                          go_simp
                          refine wpAnyIn_all (rs := [2]) (by decide +kernel) (by simp) ?_
                          intro i hi
                          simp only [List.mem_cons, List.not_mem_nil, or_false] at hi
                          subst hi
                          refine wpOpIn_run (v := .pointer (some ⟨bb, oo + q, none⟩)) (w' := w9.drew) rfl (by kernel_rfl) (fun f hf => by simp [Oper.about] at hf) (fun c hc => by cases hc) (by go_simp) ?_
                          go_simp
                          refine wpAnyIn_all (rs := [3]) (by decide +kernel) (by simp) ?_
                          intro i hi
                          simp only [List.mem_cons, List.not_mem_nil, or_false] at hi
                          subst hi
                          refine wpOpIn_run (v := .slice Y x.length e) (w' := w9.drew) rfl (by kernel_rfl) (fun f hf => by simp [Oper.about] at hf) (fun c hc => by cases hc) (by go_simp) ?_
                          go_simp
                          refine wpAnyIn_all (rs := [4]) (by decide +kernel) (by simp) ?_
                          intro i hi
                          simp only [List.mem_cons, List.not_mem_nil, or_false] at hi
                          subst hi
                          refine wpOpIn_run (v := .string ⟨x.toArray⟩) (w' := w9.drew) rfl (by kernel_rfl) (fun f hf => by simp [Oper.about] at hf) (fun c hc => by cases hc) (by go_simp) ?_
                          go_simp
                          refine wpAnyIn_all (rs := [7]) (by decide +kernel) (by simp) ?_
                          intro i hi
                          simp only [List.mem_cons, List.not_mem_nil, or_false] at hi
                          subst hi
                          refine wpOpIn_run (v := .bool bq) (w' := w9.drew) rfl (by kernel_rfl) (fun f hf => by simp [Oper.about] at hf) (fun c hc => by cases hc) (by go_simp) ?_
                          go_simp
                          refine wpAnyIn_done (by decide +kernel) ?_ _
                          exact ⟨rfl, rfl, rfl⟩
                      · refine wpOpIn_run (v := .int .i64 (q : Int)) (w' := w9.drew) rfl (by kernel_rfl) (fun f hf => by simp [Oper.about] at hf) (fun c hc => by cases hc) (by go_simp) ?_
                        go_simp
                        refine wpAnyIn_all (rs := [0, 6]) (by decide +kernel) (by simp) ?_
                        intro i hi
                        simp only [List.mem_cons, List.not_mem_nil, or_false] at hi
                        rcases hi with rfl | rfl
                        · refine wpOpIn_run (v := .slice (some ⟨bb, oo, none⟩) k c) (w' := w9.drew) rfl (by kernel_rfl) (fun f hf => by simp [Oper.about] at hf) (fun c hc => by cases hc) (by go_simp) ?_
                          go_simp
                          refine wpAnyIn_all (rs := [2, 6]) (by decide +kernel) (by simp) ?_
                          intro i hi
                          simp only [List.mem_cons, List.not_mem_nil, or_false] at hi
                          rcases hi with rfl | rfl
                          · refine wpOpIn_run (v := .pointer (some ⟨bb, oo + q, none⟩)) (w' := w9.drew) rfl (by kernel_rfl) (fun f hf => by simp [Oper.about] at hf) (fun c hc => by cases hc) (by go_simp) ?_
                            go_simp
                            refine wpAnyIn_all (rs := [3, 6]) (by decide +kernel) (by simp) ?_
                            intro i hi
                            simp only [List.mem_cons, List.not_mem_nil, or_false] at hi
                            rcases hi with rfl | rfl
                            · refine wpOpIn_run (v := .slice Y x.length e) (w' := w9.drew) rfl (by kernel_rfl) (fun f hf => by simp [Oper.about] at hf) (fun c hc => by cases hc) (by go_simp) ?_
                              go_simp
                              refine wpAnyIn_all (rs := [4, 6]) (by decide +kernel) (by simp) ?_
                              intro i hi
                              simp only [List.mem_cons, List.not_mem_nil, or_false] at hi
                              rcases hi with rfl | rfl
                              · refine wpOpIn_run (v := .string ⟨x.toArray⟩) (w' := w9.drew) rfl (by kernel_rfl) (fun f hf => by simp [Oper.about] at hf) (fun c hc => by cases hc) (by go_simp) ?_
                                go_simp
                                refine wpAnyIn_all (rs := [6]) (by decide +kernel) (by simp) ?_
                                intro i hi
                                simp only [List.mem_cons, List.not_mem_nil, or_false] at hi
                                subst hi
                                refine wpOpIn_run (v := .string ⟨xb.toArray⟩) (w' := w9.drew) rfl (by kernel_rfl) (fun f hf => by simp [Oper.about] at hf) (fun c hc => by cases hc) (by go_simp) ?_
                                go_simp
                                refine wpAnyIn_all (rs := [7]) (by decide +kernel) (by simp) ?_
                                intro i hi
                                simp only [List.mem_cons, List.not_mem_nil, or_false] at hi
                                subst hi
                                refine wpOpIn_run (v := .bool bq) (w' := w9.drew) rfl (by kernel_rfl) (fun f hf => by simp [Oper.about] at hf) (fun c hc => by cases hc) (by go_simp) ?_
                                go_simp
                                refine wpAnyIn_done (by decide +kernel) ?_ _
                                exact ⟨rfl, rfl, rfl⟩
                              · refine wpOpIn_run (v := .string ⟨xb.toArray⟩) (w' := w9.drew) rfl (by kernel_rfl) (fun f hf => by simp [Oper.about] at hf) (fun c hc => by cases hc) (by go_simp) ?_
                                go_simp
                                refine wpAnyIn_all (rs := [4]) (by decide +kernel) (by simp) ?_
                                intro i hi
                                simp only [List.mem_cons, List.not_mem_nil, or_false] at hi
                                subst hi
                                refine wpOpIn_run (v := .string ⟨x.toArray⟩) (w' := w9.drew) rfl (by kernel_rfl) (fun f hf => by simp [Oper.about] at hf) (fun c hc => by cases hc) (by go_simp) ?_
                                go_simp
                                refine wpAnyIn_all (rs := [7]) (by decide +kernel) (by simp) ?_
                                intro i hi
                                simp only [List.mem_cons, List.not_mem_nil, or_false] at hi
                                subst hi
                                refine wpOpIn_run (v := .bool bq) (w' := w9.drew) rfl (by kernel_rfl) (fun f hf => by simp [Oper.about] at hf) (fun c hc => by cases hc) (by go_simp) ?_
                                go_simp
                                refine wpAnyIn_done (by decide +kernel) ?_ _
                                exact ⟨rfl, rfl, rfl⟩
                            · refine wpOpIn_run (v := .string ⟨xb.toArray⟩) (w' := w9.drew) rfl (by kernel_rfl) (fun f hf => by simp [Oper.about] at hf) (fun c hc => by cases hc) (by go_simp) ?_
                              go_simp
                              refine wpAnyIn_all (rs := [3]) (by decide +kernel) (by simp) ?_
                              intro i hi
                              simp only [List.mem_cons, List.not_mem_nil, or_false] at hi
                              subst hi
                              refine wpOpIn_run (v := .slice Y x.length e) (w' := w9.drew) rfl (by kernel_rfl) (fun f hf => by simp [Oper.about] at hf) (fun c hc => by cases hc) (by go_simp) ?_
                              go_simp
                              refine wpAnyIn_all (rs := [4]) (by decide +kernel) (by simp) ?_
                              intro i hi
                              simp only [List.mem_cons, List.not_mem_nil, or_false] at hi
                              subst hi
                              refine wpOpIn_run (v := .string ⟨x.toArray⟩) (w' := w9.drew) rfl (by kernel_rfl) (fun f hf => by simp [Oper.about] at hf) (fun c hc => by cases hc) (by go_simp) ?_
                              go_simp
                              refine wpAnyIn_all (rs := [7]) (by decide +kernel) (by simp) ?_
                              intro i hi
                              simp only [List.mem_cons, List.not_mem_nil, or_false] at hi
                              subst hi
                              refine wpOpIn_run (v := .bool bq) (w' := w9.drew) rfl (by kernel_rfl) (fun f hf => by simp [Oper.about] at hf) (fun c hc => by cases hc) (by go_simp) ?_
                              go_simp
                              refine wpAnyIn_done (by decide +kernel) ?_ _
                              exact ⟨rfl, rfl, rfl⟩
                          · refine wpOpIn_run (v := .string ⟨xb.toArray⟩) (w' := w9.drew) rfl (by kernel_rfl) (fun f hf => by simp [Oper.about] at hf) (fun c hc => by cases hc) (by go_simp) ?_
                            go_simp
                            refine wpAnyIn_all (rs := [2]) (by decide +kernel) (by simp) ?_
                            intro i hi
                            simp only [List.mem_cons, List.not_mem_nil, or_false] at hi
                            subst hi
                            refine wpOpIn_run (v := .pointer (some ⟨bb, oo + q, none⟩)) (w' := w9.drew) rfl (by kernel_rfl) (fun f hf => by simp [Oper.about] at hf) (fun c hc => by cases hc) (by go_simp) ?_
                            go_simp
                            refine wpAnyIn_all (rs := [3]) (by decide +kernel) (by simp) ?_
                            intro i hi
                            simp only [List.mem_cons, List.not_mem_nil, or_false] at hi
                            subst hi
                            refine wpOpIn_run (v := .slice Y x.length e) (w' := w9.drew) rfl (by kernel_rfl) (fun f hf => by simp [Oper.about] at hf) (fun c hc => by cases hc) (by go_simp) ?_
                            go_simp
                            refine wpAnyIn_all (rs := [4]) (by decide +kernel) (by simp) ?_
                            intro i hi
                            simp only [List.mem_cons, List.not_mem_nil, or_false] at hi
                            subst hi
                            refine wpOpIn_run (v := .string ⟨x.toArray⟩) (w' := w9.drew) rfl (by kernel_rfl) (fun f hf => by simp [Oper.about] at hf) (fun c hc => by cases hc) (by go_simp) ?_
                            go_simp
                            refine wpAnyIn_all (rs := [7]) (by decide +kernel) (by simp) ?_
                            intro i hi
                            simp only [List.mem_cons, List.not_mem_nil, or_false] at hi
                            subst hi
                            refine wpOpIn_run (v := .bool bq) (w' := w9.drew) rfl (by kernel_rfl) (fun f hf => by simp [Oper.about] at hf) (fun c hc => by cases hc) (by go_simp) ?_
                            go_simp
                            refine wpAnyIn_done (by decide +kernel) ?_ _
                            exact ⟨rfl, rfl, rfl⟩
                        · refine wpOpIn_run (v := .string ⟨xb.toArray⟩) (w' := w9.drew) rfl (by kernel_rfl) (fun f hf => by simp [Oper.about] at hf) (fun c hc => by cases hc) (by go_simp) ?_
                          go_simp
                          refine wpAnyIn_all (rs := [0]) (by decide +kernel) (by simp) ?_
                          intro i hi
                          simp only [List.mem_cons, List.not_mem_nil, or_false] at hi
                          subst hi
                          refine wpOpIn_run (v := .slice (some ⟨bb, oo, none⟩) k c) (w' := w9.drew) rfl (by kernel_rfl) (fun f hf => by simp [Oper.about] at hf) (fun c hc => by cases hc) (by go_simp) ?_
                          go_simp
                          refine wpAnyIn_all (rs := [2]) (by decide +kernel) (by simp) ?_
                          intro i hi
                          simp only [List.mem_cons, List.not_mem_nil, or_false] at hi
                          subst hi
                          refine wpOpIn_run (v := .pointer (some ⟨bb, oo + q, none⟩)) (w' := w9.drew) rfl (by kernel_rfl) (fun f hf => by simp [Oper.about] at hf) (fun c hc => by cases hc) (by go_simp) ?_
                          go_simp
                          refine wpAnyIn_all (rs := [3]) (by decide +kernel) (by simp) ?_
                          intro i hi
                          simp only [List.mem_cons, List.not_mem_nil, or_false] at hi
                          subst hi
                          refine wpOpIn_run (v := .slice Y x.length e) (w' := w9.drew) rfl (by kernel_rfl) (fun f hf => by simp [Oper.about] at hf) (fun c hc => by cases hc) (by go_simp) ?_
                          go_simp
                          refine wpAnyIn_all (rs := [4]) (by decide +kernel) (by simp) ?_
                          intro i hi
                          simp only [List.mem_cons, List.not_mem_nil, or_false] at hi
                          subst hi
                          refine wpOpIn_run (v := .string ⟨x.toArray⟩) (w' := w9.drew) rfl (by kernel_rfl) (fun f hf => by simp [Oper.about] at hf) (fun c hc => by cases hc) (by go_simp) ?_
                          go_simp
                          refine wpAnyIn_all (rs := [7]) (by decide +kernel) (by simp) ?_
                          intro i hi
                          simp only [List.mem_cons, List.not_mem_nil, or_false] at hi
                          subst hi
                          refine wpOpIn_run (v := .bool bq) (w' := w9.drew) rfl (by kernel_rfl) (fun f hf => by simp [Oper.about] at hf) (fun c hc => by cases hc) (by go_simp) ?_
                          go_simp
                          refine wpAnyIn_done (by decide +kernel) ?_ _
                          exact ⟨rfl, rfl, rfl⟩
                      · refine wpOpIn_run (v := .string ⟨xb.toArray⟩) (w' := w9.drew) rfl (by kernel_rfl) (fun f hf => by simp [Oper.about] at hf) (fun c hc => by cases hc) (by go_simp) ?_
                        go_simp
                        refine wpAnyIn_all (rs := [0, 1]) (by decide +kernel) (by simp) ?_
                        intro i hi
                        simp only [List.mem_cons, List.not_mem_nil, or_false] at hi
                        rcases hi with rfl | rfl
                        · refine wpOpIn_run (v := .slice (some ⟨bb, oo, none⟩) k c) (w' := w9.drew) rfl (by kernel_rfl) (fun f hf => by simp [Oper.about] at hf) (fun c hc => by cases hc) (by go_simp) ?_
                          go_simp
                          refine wpAnyIn_all (rs := [1]) (by decide +kernel) (by simp) ?_
                          intro i hi
                          simp only [List.mem_cons, List.not_mem_nil, or_false] at hi
                          subst hi
                          refine wpOpIn_run (v := .int .i64 (q : Int)) (w' := w9.drew) rfl (by kernel_rfl) (fun f hf => by simp [Oper.about] at hf) (fun c hc => by cases hc) (by go_simp) ?_
                          go_simp
                          refine wpAnyIn_all (rs := [2]) (by decide +kernel) (by simp) ?_
                          intro i hi
                          simp only [List.mem_cons, List.not_mem_nil, or_false] at hi
                          subst hi
                          refine wpOpIn_run (v := .pointer (some ⟨bb, oo + q, none⟩)) (w' := w9.drew) rfl (by kernel_rfl) (fun f hf => by simp [Oper.about] at hf) (fun c hc => by cases hc) (by go_simp) ?_
                          go_simp
                          refine wpAnyIn_all (rs := [3]) (by decide +kernel) (by simp) ?_
                          intro i hi
                          simp only [List.mem_cons, List.not_mem_nil, or_false] at hi
                          subst hi
                          refine wpOpIn_run (v := .slice Y x.length e) (w' := w9.drew) rfl (by kernel_rfl) (fun f hf => by simp [Oper.about] at hf) (fun c hc => by cases hc) (by go_simp) ?_
                          go_simp
                          refine wpAnyIn_all (rs := [4]) (by decide +kernel) (by simp) ?_
                          intro i hi
                          simp only [List.mem_cons, List.not_mem_nil, or_false] at hi
                          subst hi
                          refine wpOpIn_run (v := .string ⟨x.toArray⟩) (w' := w9.drew) rfl (by kernel_rfl) (fun f hf => by simp [Oper.about] at hf) (fun c hc => by cases hc) (by go_simp) ?_
                          go_simp
                          refine wpAnyIn_all (rs := [7]) (by decide +kernel) (by simp) ?_
                          intro i hi
                          simp only [List.mem_cons, List.not_mem_nil, or_false] at hi
                          subst hi
                          refine wpOpIn_run (v := .bool bq) (w' := w9.drew) rfl (by kernel_rfl) (fun f hf => by simp [Oper.about] at hf) (fun c hc => by cases hc) (by go_simp) ?_
                          go_simp
                          refine wpAnyIn_done (by decide +kernel) ?_ _
                          exact ⟨rfl, rfl, rfl⟩
                        · refine wpOpIn_run (v := .int .i64 (q : Int)) (w' := w9.drew) rfl (by kernel_rfl) (fun f hf => by simp [Oper.about] at hf) (fun c hc => by cases hc) (by go_simp) ?_
                          go_simp
                          refine wpAnyIn_all (rs := [0]) (by decide +kernel) (by simp) ?_
                          intro i hi
                          simp only [List.mem_cons, List.not_mem_nil, or_false] at hi
                          subst hi
                          refine wpOpIn_run (v := .slice (some ⟨bb, oo, none⟩) k c) (w' := w9.drew) rfl (by kernel_rfl) (fun f hf => by simp [Oper.about] at hf) (fun c hc => by cases hc) (by go_simp) ?_
                          go_simp
                          refine wpAnyIn_all (rs := [2]) (by decide +kernel) (by simp) ?_
                          intro i hi
                          simp only [List.mem_cons, List.not_mem_nil, or_false] at hi
                          subst hi
                          refine wpOpIn_run (v := .pointer (some ⟨bb, oo + q, none⟩)) (w' := w9.drew) rfl (by kernel_rfl) (fun f hf => by simp [Oper.about] at hf) (fun c hc => by cases hc) (by go_simp) ?_
                          go_simp
                          refine wpAnyIn_all (rs := [3]) (by decide +kernel) (by simp) ?_
                          intro i hi
                          simp only [List.mem_cons, List.not_mem_nil, or_false] at hi
                          subst hi
                          refine wpOpIn_run (v := .slice Y x.length e) (w' := w9.drew) rfl (by kernel_rfl) (fun f hf => by simp [Oper.about] at hf) (fun c hc => by cases hc) (by go_simp) ?_
                          go_simp
                          refine wpAnyIn_all (rs := [4]) (by decide +kernel) (by simp) ?_
                          intro i hi
                          simp only [List.mem_cons, List.not_mem_nil, or_false] at hi
                          subst hi
                          refine wpOpIn_run (v := .string ⟨x.toArray⟩) (w' := w9.drew) rfl (by kernel_rfl) (fun f hf => by simp [Oper.about] at hf) (fun c hc => by cases hc) (by go_simp) ?_
                          go_simp
                          refine wpAnyIn_all (rs := [7]) (by decide +kernel) (by simp) ?_
                          intro i hi
                          simp only [List.mem_cons, List.not_mem_nil, or_false] at hi
                          subst hi
                          refine wpOpIn_run (v := .bool bq) (w' := w9.drew) rfl (by kernel_rfl) (fun f hf => by simp [Oper.about] at hf) (fun c hc => by cases hc) (by go_simp) ?_
                          go_simp
                          refine wpAnyIn_done (by decide +kernel) ?_ _
                          exact ⟨rfl, rfl, rfl⟩
                  have Hbq := Lib.hid hbq
                  clear hbq
                  cases bq with
                  | true =>
                    gi_wp2
                    go_roundw
                    case rel => exact ⟨q, q, by omega, rfl, rfl, by omega, fun j _ _ => by omega, hf9.drew⟩
                    case measure => (simp [intOf] <;> omega)
                  | false =>
                    have Hx : Hid (x ≠ xb) := by have := Hbq.out; show _ ≠ _; simpa using this
                    gi_wp2
                    go_roundw
                    case rel =>
                      refine ⟨q, f, by omega, rfl, rfl, hfb, fun j hj hjx => ?_, hf9.drew⟩
                      rcases Nat.lt_or_ge q j with h | h
                      · exact Hfq.out j h hjx
                      · have : j = q := by omega
                        subst this
                        rw [Hgq.out] at hjx
                        injection hjx with hjx
                        exact absurd hjx Hx.out
                    case measure => (simp [intOf] <;> omega)
          case done =>
            rintro xs W hS ⟨i1, i2, ⟨rb, i3⟩, i4, i5, i6⟩ hK
            rw [hs8] at hK
            have HK := Lib.hid hK
            have c3 := i3.cell_0
            have z3 := i3.frozen 0
            clear hK
            gi_wp2
            try simp only [hs8]
            have hk1 : Fr (fun j => j = B + 2) W (W.setCell ⟨B + 2, 0, none⟩ (.bool true)) := (Fr.refl _ _).at_ _ _
            have hk2 : ∀ {o : Obj}, Fr (fun j => j = B + 2 ∨ j = g + 2) W ((W.setCell ⟨B + 2, 0, none⟩ (.bool true)).putObj (g + 2) o) := fun {o} => (hk1.mono (S' := fun j => j = B + 2 ∨ j = g + 2) fun j _ h => .inl h).putObj (r := g + 2) (.inl (.inr rfl)) o
            have hB4 : ∀ {o : Obj}, Blk ((W.setCell ⟨B + 2, 0, none⟩ (.bool true)).putObj (g + 2) o) (B + 2) 4 #[.bool true] := fun {o} => by
              have q := (i3.set_ 0 (.bool true)).fr ((Fr.refl (fun j => j = g + 2) _).putObj (r := g + 2) (.inl rfl) o) (by omega)
              simpa using q
            refine ⟨by simp, .inl ⟨_, _, rfl, run_takeDeferred ((Below.heap_setCell _ _ _ _ (by simp <;> omega)).trans HK.out), ?_⟩⟩
            have c4 := fun o => (hB4 (o := o)).cell_0
            exact ⟨.bool true, by simp [results, Try.results14, go_sem, c4], rfl, Hfin.out _ (i6.new hk2 fun j hj => .inr (by have := HB.out; omega))⟩
          case stop =>
            rintro c0 pre W _ ⟨rfl, q1, q2⟩ hK
            have HK := Lib.hid hK
            clear hK
            gi_wp2
            have hB4 : ∀ {o : Obj}, Blk (W.putObj w8.heap.size o) (B + 2) 4 #[.bool true] := fun {o} => q1.fr ((Fr.refl (fun j => j = w8.heap.size) _).putObj (r := w8.heap.size) (.inl rfl) o) (by omega)
            have hF4 : ∀ {o : Obj}, Fr NoB w (W.putObj w8.heap.size o) := fun {o} => q2.new ((Fr.refl (fun j => j = w8.heap.size) _).putObj (r := w8.heap.size) (.inl rfl) o) fun j hj => .inr (by have := HB.out; omega)
            refine ⟨by simp, .inl ⟨_, _, rfl, run_takeDeferred HK.out, ?_⟩⟩
            have c4 := fun o => (hB4 (o := o)).cell_0
            exact ⟨.bool true, by simp [results, Try.results14, go_sem, c4], rfl, Hfin.out _ hF4⟩
    · have b2 : decide (most < (0 : Int)) = true := by simp only [decide_eq_true_eq]; omega
      gi_wp2_with (first
        | (refine ⟨trivial, ?_⟩
           gi_at_call 18
           rw [← HB.out]
           rw [← Hw0.out]
           simp only [Nat.add_assoc, Nat.reduceAdd]
           refine (callsIn_wide.2 (awake31 w0)).mono ?_
           rintro e w1 ⟨rfl, hf1⟩
           have p0 := (k0.fr hf1 id).cell_0
           have p1 := (k1.fr hf1 id).cell_0
           have k2' := k2.fr hf1 id
           have z2 := k2'.frozen 0
           have p2' := k2'.cell_0))
      have hq : Fr (· = B + 2) w1 (w1.setCell ⟨B + 2, 0, none⟩ (.bool true)) := (Fr.refl _ _).at_ _ _
      have hr : Fr NoB w (w1.setCell ⟨B + 2, 0, none⟩ (.bool true)) := (hf0.trans hf1 fun _ _ => id).new hq fun j hj => .inr (by have := HB.out; omega)
      have c4 : (w1.setCell ⟨B + 2, 0, none⟩ (.bool true)).cell? ⟨B + 2, 0, none⟩ = some (.bool true) := by have := k2'.set_ 0 (.bool true); exact Blk.cell_0 (by simpa using this)
      refine ⟨.bool true, by simp [results, Try.results14, go_sem, c4], ?_⟩
      exact ⟨rfl, Hfin.out _ hr⟩
  · have b1 : decide ((20 : Int) < (n : Int)) = true := by simp only [decide_eq_true_eq]; omega
    gi_wp2_with (first
      | (refine ⟨trivial, ?_⟩
         gi_at_call 18
         rw [← HB.out]
         rw [← Hw0.out]
         simp only [Nat.add_assoc, Nat.reduceAdd]
         refine (callsIn_wide.2 (awake31 w0)).mono ?_
         rintro e w1 ⟨rfl, hf1⟩
         have p0 := (k0.fr hf1 id).cell_0
         have k2' := k2.fr hf1 id
         have z2 := k2'.frozen 0
         have p2' := k2'.cell_0))
    have hq : Fr (· = B + 2) w1 (w1.setCell ⟨B + 2, 0, none⟩ (.bool true)) := (Fr.refl _ _).at_ _ _
    have hr : Fr NoB w (w1.setCell ⟨B + 2, 0, none⟩ (.bool true)) := (hf0.trans hf1 fun _ _ => id).new hq fun j hj => .inr (by have := HB.out; omega)
    have c4 : (w1.setCell ⟨B + 2, 0, none⟩ (.bool true)).cell? ⟨B + 2, 0, none⟩ = some (.bool true) := by have := k2'.set_ 0 (.bool true); exact Blk.cell_0 (by simpa using this)
    refine ⟨.bool true, by simp [results, Try.results14, go_sem, c4], ?_⟩
    exact ⟨rfl, Hfin.out _ hr⟩
end
end Go.Proofs.Ytnkfchondedfcaa
