/-
  A script whose ops are turned: leak.Rename. Conditions: each contract states its own.
-/
import Derived.Test.YtnkfchondedfcaaTh
import Derived.Test.YtnkfchondedfcaaTd
import Derived.Test.YtnkfchondedfcaaRh
import Derived.Deep.CutBlock
import Derived.Deep.CutRange
namespace Go.Proofs.Ytnkfchondedfcaa
open Go.RowKit

set_option maxRecDepth 100000 in
set_option maxHeartbeats 4000000 in
theorem Rename_any (w : World) (F : Nat → Prop) (hG0 : ∀ j, F j → j < w.heap.size) (s : Scr) (p : ScrAt) (k : Int) (h : ScrIn w F p s) (hb1 : p.n1 ≤ 1000000) (hb5 : p.n5 ≤ 1000000) (hb6 : p.n6 ≤ 1000000) (hb7 : p.n7 ≤ 1000000) (hb8 : p.n8 ≤ 1000000) :
    Calls Try.prog 20 #[.agg (scrCells s p).toArray, .int .i64 k] w fun e w' => ∃ p', e = .returned (.agg (scrCells s p').toArray) ∧ Fr NoB w w' ∧ ScrIn w' (fun j => w.heap.size ≤ j) p' { s with ops := s.ops.map (opTurn k) } := by
  obtain ⟨⟨a1, d1, i1⟩, ⟨a5, d5, i5⟩, ⟨a6, d6, i6⟩, ⟨a7, d7, i7⟩, a8, d8, i8⟩ := h
  have Hwf := Lib.hid i8.wf
  have Hlen := Lib.hid i8.len
  obtain ⟨B, hB⟩ : ∃ B, B = w.heap.size := ⟨_, rfl⟩
  obtain ⟨yc, hyc⟩ : ∃ yc, yc = (scrCells s p).toArray := ⟨_, rfl⟩
  rw [← hyc, ← hB]
  rw [← hB] at hG0
  have Hyc := Lib.hid hyc
  have HB := Lib.hid hB
  have h9 : scrCells s p = yc.toList := by rw [hyc]
  clear hyc h9 hB
  go_enter Try.func20, Try.ntmps20
  go_wp2_with (first
    | (refine wpList_alloc_any rfl 28 rfl 9 scr_zero ?_
       intro z hz
       have Hz := Lib.hid hz
       obtain ⟨w1, hw1⟩ : ∃ w1, w1 = (w.alloc (.cells yc 28)).alloc (.cells z 28) := ⟨_, rfl⟩
       have hF : Fr NoB w w1 := by rw [hw1]; exact ((Fr.refl _ _).alloc _).alloc _
       have hBs : ScrBlk w1 B s p := by rw [hw1, HB.out, Hyc.out]; exact ⟨(Blk.new w _ _).alloc _⟩
       have hBz : Blk w1 (B + 1) 28 z := by
         rw [hw1, HB.out]
         have := Blk.new (w.alloc (.cells yc 28)) 28 z
         rwa [World.size_alloc] at this
       have hsz : B + 2 ≤ w1.heap.size := by rw [hw1, HB.out]; simp
       have j1 := i1.fr hF fun _ _ => id
       have j5 := i5.fr hF fun _ _ => id
       have j6 := i6.fr hF fun _ _ => id
       have j7 := i7.fr hF fun _ _ => id
       have j8 := i8.fr hF fun _ _ => id
       have q8 := hBs.c8
       have hcl := Lib.hid (CloneOps_any _ _ _ _ p.c8 _ j8.arr (ops_ones _) (by omega))
       rw [← HB.out]
       simp only [World.size_alloc]
       rw [← HB.out, ← hw1]
       clear hw1 hz i1 i5 i6 i7 i8)
    | (go_at_call 73
       refine hcl.out.mono ?_
       rintro e w2 ⟨A8, c8, rfl, hO8, hf2, hin8⟩
       have hs2 := hf2.size
       replace hF := hF.trans hf2 fun _ _ => id
       replace hBs := hBs.fr hf2 id
       replace hBz := hBz.fr hf2 id
       replace j1 := j1.fr hf2 fun _ _ => id
       replace j5 := j5.fr hf2 fun _ _ => id
       replace j6 := j6.fr hf2 fun _ _ => id
       replace j7 := j7.fr hf2 fun _ _ => id
       have q8 := hBs.c8
       have f8 := hBs.blk.frozen 8
       clear hf2 j8 hcl))
  have hin : ∀ j, inB A8 j → B + 2 ≤ j := fun j hj => Nat.le_trans hsz (hin8 j hj)
  have hfs : Fr (· = B) w2 (w2.setCell ⟨B, 8, none⟩ (.slice A8 p.n8 c8)) := (Fr.refl _ _).at_ _ _
  replace hO8 := hO8.fr hfs (fun j hj e => by have := hin j hj; omega)
  replace hF := hF.new hfs fun j hj => .inr (by have := HB.out; omega)
  replace hBs := hBs.s8 A8 p.n8 c8
  replace hBz := hBz.fr hfs (by omega)
  replace j1 := j1.fr hfs fun j hj e => by have := hG0 j hj; omega
  replace j5 := j5.fr hfs fun j hj e => by have := hG0 j hj; omega
  replace j6 := j6.fr hfs fun j hj e => by have := hG0 j hj; omega
  replace j7 := j7.fr hfs fun j hj e => by have := hG0 j hj; omega
  have hsz2 := Nat.le_trans hsz (Nat.le_trans hs2 hfs.size)
  clear hfs q8 f8 hin8 hsz hs2
  generalize w2.setCell ⟨B, 8, none⟩ (.slice A8 p.n8 c8) = w3 at *
  rw [← opsTurned_zero k s.ops] at hO8
  go_loopw [14] (fun v wr => ∃ m : Nat, m ≤ p.n8 ∧ v = .int .i64 m ∧ Own wr 34 7 A8 p.n8 c8 ((opsTurned k s.ops m).flatMap opCells) ∧ ScrBlk wr B s { p with A8 := A8, n8 := p.n8, c8 := c8 } ∧ Blk wr (B + 1) 28 z ∧ Fr (fun j => B ≤ j) w3 wr) (fun v _ => p.n8 - (intOf v).toNat)
  case atStart => exact ⟨0, by omega, rfl, hO8, hBs, hBz, Fr.refl _ _⟩
  case round =>
    obtain ⟨m, hmn, rfl, hO, hBs, hBz, hFr⟩ := hrel
    obtain ⟨w4, rfl⟩ : ∃ w4 : World, w4 = wr := ⟨_, rfl⟩
    have q8 : w4.cell? ⟨B, 8, none⟩ = some (.slice A8 p.n8 c8) := hBs.c8
    by_cases hin8 : m < p.n8
    · obtain ⟨g, rfl⟩ : ∃ g, A8 = some ⟨g, 0, none⟩ := by
        rcases Own.form hO with ⟨_, h0, _⟩ | ⟨g, _, h0, _⟩
        · omega
        · exact ⟨g, h0⟩
      have hgB : B + 2 ≤ g := hin g ((inB_some _ _).2 rfl)
      have hil : m < s.ops.length := by rw [Hlen.out]; exact hin8
      obtain ⟨o, ho⟩ : ∃ o, s.ops[m] = o := ⟨_, rfl⟩
      have hat := opsTurned_at (k := k) hil
      rw [ho] at hat
      obtain ⟨o1, o2, o3, o4⟩ : opWf o := Hwf.out o (ho ▸ List.getElem_mem _)
      have hsucc := opsTurned_succ (k := k) hil
      rw [ho] at hsucc
      have Hsucc := Lib.hid hsucc
      have hR : OpRow w4 g p.n8 c8 (opsTurned k s.ops m) := hO
      obtain ⟨L, hL⟩ : ∃ L, L = opsTurned k s.ops m := ⟨_, rfl⟩
      rw [← hL] at hR hat
      have HL := Lib.hid hL
      have Hat := Lib.hid hat
      clear ho hsucc hO hL hat
      go_upto_block 1 with fail
      go_cut [5, 6] from 16 to 47 (fun _ _ W => OpRow W g p.n8 c8 (opsTurned k s.ops (m + 1)) ∧ Fr (· = g) w4 W)
      case rest =>
        obtain ⟨hR4, hf3⟩ := hcut
        go_wp2
        go_roundw
        case rel => exact ⟨m + 1, by omega, by go_num, hR4, hBs.fr hf3 (by omega), hBz.fr hf3 (by omega), hFr.trans hf3 fun j _ e => by omega⟩
        case measure => (simp [intOf] <;> omega)
      case first =>
        go_wp2
        refine wp_region_held (S := fun _ => True) rfl ?_
        have hR9 : OpRow w4.drew g p.n8 c8 L := hR.fr (Fr.drew (Fr.refl NoB w4)) id
        have hT : Fr NoB w4.drew w4.drew := Fr.refl _ _
        refine wpAnyH_take (i := 0) rfl (by decide +kernel) (by decide +kernel) (by decide +kernel) (fun _ _ _ h => h) (Or.inl ⟨by kernel_rfl, fun W _ => by go_simp; with_reducible rfl⟩) trivial ?_
        refine wpAnyH_take (i := 1) rfl (by decide +kernel) (by decide +kernel) (by decide +kernel) (fun _ _ _ h => h) (Or.inl ⟨by kernel_rfl, fun W _ => by go_simp; with_reducible rfl⟩) trivial ?_
        refine wpAnyH_take (i := 2) rfl (by decide +kernel) (by decide +kernel) (by decide +kernel) (fun _ _ _ h => h) (Or.inl ⟨by kernel_rfl, fun W _ => by go_simp; with_reducible rfl⟩) trivial ?_
        refine wpAnyH_take (i := 3) rfl (by decide +kernel) (by decide +kernel) (by decide +kernel) (fun _ _ _ h => h) (Or.inl ⟨by kernel_rfl, fun W _ => by go_simp; with_reducible rfl⟩) trivial ?_
        refine wpAnyH_take (i := 4) rfl (by decide +kernel) (by decide +kernel) (by decide +kernel) (fun _ _ _ h => h) (Or.inl ⟨by kernel_rfl, fun W _ => by go_simp; with_reducible rfl⟩) trivial ?_
        go_simp
        refine wpAnyH_take (i := 5) rfl (by decide +kernel) (by decide +kernel) (by decide +kernel) (fun _ _ _ h => h) (Or.inl ⟨by kernel_rfl, fun W _ => by go_simp; with_reducible rfl⟩) trivial ?_
        refine wpAnyH_take (i := 7) rfl (by decide +kernel) (by decide +kernel) (by decide +kernel) (fun _ _ _ h => h) (Or.inl ⟨by kernel_rfl, fun W _ => by go_simp; with_reducible rfl⟩) trivial ?_
        refine wpAnyH_take (i := 9) rfl (by decide +kernel) (by decide +kernel) (by decide +kernel) (fun _ _ _ h => h) (Or.inl ⟨by kernel_rfl, fun W _ => by go_simp; with_reducible rfl⟩) trivial ?_
        refine wpAnyH_take (i := 10) rfl (by decide +kernel) (by decide +kernel) (by decide +kernel) (fun _ _ _ h => h) (Or.inl ⟨by kernel_rfl, fun W _ => by go_simp; with_reducible rfl⟩) trivial ?_
        refine wpAnyH_take (i := 11) rfl (by decide +kernel) (by decide +kernel) (by decide +kernel) (fun _ _ _ h => h) (Or.inl ⟨by kernel_rfl, fun W _ => by go_simp; with_reducible rfl⟩) trivial ?_
        go_simp
        refine wpAnyH_take (i := 13) rfl (by decide +kernel) (by decide +kernel) (by decide +kernel) (fun _ _ _ h => h) (Or.inl ⟨by kernel_rfl, fun W _ => by go_simp; with_reducible rfl⟩) trivial ?_
        refine wpAnyH_take (i := 15) rfl (by decide +kernel) (by decide +kernel) (by decide +kernel) (fun _ _ _ h => h) (Or.inl ⟨by kernel_rfl, fun W _ => by go_simp; with_reducible rfl⟩) trivial ?_
        refine wpAnyH_take (i := 16) rfl (by decide +kernel) (by decide +kernel) (by decide +kernel) (fun _ _ _ h => h) (Or.inl ⟨by kernel_rfl, fun W _ => by go_simp; with_reducible rfl⟩) trivial ?_
        refine wpAnyH_take (i := 17) rfl (by decide +kernel) (by decide +kernel) (by decide +kernel) (fun _ _ _ h => h) (Or.inl ⟨by kernel_rfl, fun W _ => by go_simp; with_reducible rfl⟩) trivial ?_
        refine wpAnyH_take (i := 19) rfl (by decide +kernel) (by decide +kernel) (by decide +kernel) (fun _ _ _ h => h) (Or.inl ⟨by kernel_rfl, fun W _ => by go_simp; with_reducible rfl⟩) trivial ?_
        go_simp
        refine wpAnyH_all (rs := [6, 12, 18]) (by decide +kernel) (by simp) ?_
        intro i hi
        simp only [List.mem_cons, List.not_mem_nil, or_false] at hi
        rcases hi with rfl | rfl | rfl
        · have qx := hT.cell' (hR9.c3 Hat.out) id
          refine wpOp_run (v := .string o.path) (w' := w4.drew) rfl (by kernel_rfl) (by go_simp) ⟨trivial, ?_⟩
          clear qx
          go_simp
          refine wpAnyH_all (rs := [8, 12, 18]) (by decide +kernel) (by simp) ?_
          intro i hi
          simp only [List.mem_cons, List.not_mem_nil, or_false] at hi
          rcases hi with rfl | rfl | rfl
          · refine wpOp_call rfl rfl 22 (enters_of Try.func22 (by kernel_rfl) rfl) #[.tmp 27, .tmp 28] _ rfl _ rfl (TurnS_any w4.drew o.path k o2) ?_
            rintro e x1 ⟨rfl, hf⟩
            refine ⟨_, rfl, trivial, ?_⟩
            replace hT := hT.trans hf fun _ _ => id
            clear hf
            go_simp
            refine wpAnyH_all (rs := [12, 18]) (by decide +kernel) (by simp) ?_
            intro i hi
            simp only [List.mem_cons, List.not_mem_nil, or_false] at hi
            rcases hi with rfl | rfl
            · have qx := hT.cell' (hR9.c4 Hat.out) id
              refine wpOp_run (v := .string o.other) (w' := x1) rfl (by kernel_rfl) (by go_simp) ⟨trivial, ?_⟩
              clear qx
              go_simp
              refine wpAnyH_all (rs := [14, 18]) (by decide +kernel) (by simp) ?_
              intro i hi
              simp only [List.mem_cons, List.not_mem_nil, or_false] at hi
              rcases hi with rfl | rfl
              · refine wpOp_call rfl rfl 22 (enters_of Try.func22 (by kernel_rfl) rfl) #[.tmp 33, .tmp 34] _ rfl _ rfl (TurnS_any x1 o.other k o3) ?_
                rintro e x2 ⟨rfl, hf⟩
                refine ⟨_, rfl, trivial, ?_⟩
                replace hT := hT.trans hf fun _ _ => id
                clear hf
                go_simp
                refine wpAnyH_all (rs := [18]) (by decide +kernel) (by simp) ?_
                intro i hi
                simp only [List.mem_cons, List.not_mem_nil, or_false] at hi
                subst hi
                have qx := hT.cell' (hR9.c5 Hat.out) id
                refine wpOp_run (v := .string o.text) (w' := x2) rfl (by kernel_rfl) (by go_simp) ⟨trivial, ?_⟩
                clear qx
                go_simp
                refine wpAnyH_all (rs := [20]) (by decide +kernel) (by simp) ?_
                intro i hi
                simp only [List.mem_cons, List.not_mem_nil, or_false] at hi
                subst hi
                refine wpOp_call rfl rfl 22 (enters_of Try.func22 (by kernel_rfl) rfl) #[.tmp 39, .tmp 40] _ rfl _ rfl (TurnS_any x2 o.text k o4) ?_
                rintro e x3 ⟨rfl, hf⟩
                refine ⟨_, rfl, trivial, ?_⟩
                replace hT := hT.trans hf fun _ _ => id
                clear hf
                go_simp
                have hf3 := ((Fr.drew (Fr.refl (· = g) w4)).trans hT fun _ _ h => h.elim)
                have hR3 := hR9.fr hT id
                clear hT
                refine wpAnyH_take (i := 21) rfl (by decide +kernel) (by decide +kernel) (by decide +kernel) (fun _ _ _ h => h) (Or.inl ⟨by kernel_rfl, fun W _ => by go_simp; with_reducible rfl⟩) trivial ?_
                refine wpAnyH_take (i := 22) rfl (by decide +kernel) (by decide +kernel) (by decide +kernel) (fun _ _ _ h => h) (Or.inl ⟨by kernel_rfl, fun W _ => by go_simp; with_reducible rfl⟩) trivial ?_
                go_simp
                refine wpAnyH_all (rs := [23]) (by decide +kernel) (by simp) ?_
                intro i hi
                simp only [List.mem_cons, List.not_mem_nil, or_false] at hi
                subst hi
                have qx := hR3.c3 Hat.out
                have qf := hR3.fz (m * 7 + 3)
                refine wpOp_skip (w' := x3.setCell ⟨g, m * 7 + 3, none⟩ (.string (turnS k o.path))) rfl (by kernel_rfl) (by go_simp) ⟨trivial, ?_⟩
                clear qx qf
                replace hR3 := hR3.put (v := .string (turnS k o.path)) (o' := ⟨o.client, o.kind, o.branch, turnS k o.path, o.other, o.text, o.n⟩) Hat.out (j := 3) (by omega) rfl
                replace hf3 := hf3.at_ (m * 7 + 3) (.string (turnS k o.path))
                go_simp
                refine wpAnyH_take (i := 24) rfl (by decide +kernel) (by decide +kernel) (by decide +kernel) (fun _ _ _ h => h) (Or.inl ⟨by kernel_rfl, fun W _ => by go_simp; with_reducible rfl⟩) trivial ?_
                refine wpAnyH_take (i := 25) rfl (by decide +kernel) (by decide +kernel) (by decide +kernel) (fun _ _ _ h => h) (Or.inl ⟨by kernel_rfl, fun W _ => by go_simp; with_reducible rfl⟩) trivial ?_
                go_simp
                refine wpAnyH_all (rs := [26]) (by decide +kernel) (by simp) ?_
                intro i hi
                simp only [List.mem_cons, List.not_mem_nil, or_false] at hi
                subst hi
                have qx := hR3.c4 (set_at Hat.out)
                have qf := hR3.fz (m * 7 + 4)
                refine wpOp_skip (w' := (x3.setCell ⟨g, m * 7 + 3, none⟩ (.string (turnS k o.path))).setCell ⟨g, m * 7 + 4, none⟩ (.string (turnS k o.other))) rfl (by kernel_rfl) (by go_simp) ⟨trivial, ?_⟩
                clear qx qf
                replace hR3 := hR3.put (v := .string (turnS k o.other)) (o' := ⟨o.client, o.kind, o.branch, turnS k o.path, turnS k o.other, o.text, o.n⟩) (set_at Hat.out) (j := 4) (by omega) rfl
                replace hf3 := hf3.at_ (m * 7 + 4) (.string (turnS k o.other))
                go_simp
                refine wpAnyH_take (i := 27) rfl (by decide +kernel) (by decide +kernel) (by decide +kernel) (fun _ _ _ h => h) (Or.inl ⟨by kernel_rfl, fun W _ => by go_simp; with_reducible rfl⟩) trivial ?_
                refine wpAnyH_take (i := 28) rfl (by decide +kernel) (by decide +kernel) (by decide +kernel) (fun _ _ _ h => h) (Or.inl ⟨by kernel_rfl, fun W _ => by go_simp; with_reducible rfl⟩) trivial ?_
                go_simp
                refine wpAnyH_all (rs := [29]) (by decide +kernel) (by simp) ?_
                intro i hi
                simp only [List.mem_cons, List.not_mem_nil, or_false] at hi
                subst hi
                have qx := hR3.c5 (set_at (set_at Hat.out))
                have qf := hR3.fz (m * 7 + 5)
                refine wpOp_skip (w' := ((x3.setCell ⟨g, m * 7 + 3, none⟩ (.string (turnS k o.path))).setCell ⟨g, m * 7 + 4, none⟩ (.string (turnS k o.other))).setCell ⟨g, m * 7 + 5, none⟩ (.string (turnS k o.text))) rfl (by kernel_rfl) (by go_simp) ⟨trivial, ?_⟩
                clear qx qf
                replace hR3 := hR3.put (v := .string (turnS k o.text)) (o' := opTurn k o) (set_at (set_at Hat.out)) (j := 5) (by omega) rfl
                replace hf3 := hf3.at_ (m * 7 + 5) (.string (turnS k o.text))
                go_simp
                refine wpAnyH_done (by decide +kernel) ?_ _
                rw [List.set_set, List.set_set] at hR3
                have hR4 : OpRow (((x3.setCell ⟨g, m * 7 + 3, none⟩ (.string (turnS k o.path))).setCell ⟨g, m * 7 + 4, none⟩ (.string (turnS k o.other))).setCell ⟨g, m * 7 + 5, none⟩ (.string (turnS k o.text))) g p.n8 c8 (opsTurned k s.ops (m + 1)) := by rw [Hsucc.out, ← HL.out]; exact hR3
                go_wp2
                go_meet
                case rel => exact ⟨hR4, hf3⟩
              · have qx := hT.cell' (hR9.c5 Hat.out) id
                refine wpOp_run (v := .string o.text) (w' := x1) rfl (by kernel_rfl) (by go_simp) ⟨trivial, ?_⟩
                clear qx
                go_simp
                refine wpAnyH_all (rs := [14]) (by decide +kernel) (by simp) ?_
                intro i hi
                simp only [List.mem_cons, List.not_mem_nil, or_false] at hi
                subst hi
                refine wpOp_call rfl rfl 22 (enters_of Try.func22 (by kernel_rfl) rfl) #[.tmp 33, .tmp 34] _ rfl _ rfl (TurnS_any x1 o.other k o3) ?_
                rintro e x2 ⟨rfl, hf⟩
                refine ⟨_, rfl, trivial, ?_⟩
                replace hT := hT.trans hf fun _ _ => id
                clear hf
                go_simp
                refine wpAnyH_all (rs := [20]) (by decide +kernel) (by simp) ?_
                intro i hi
                simp only [List.mem_cons, List.not_mem_nil, or_false] at hi
                subst hi
                refine wpOp_call rfl rfl 22 (enters_of Try.func22 (by kernel_rfl) rfl) #[.tmp 39, .tmp 40] _ rfl _ rfl (TurnS_any x2 o.text k o4) ?_
                rintro e x3 ⟨rfl, hf⟩
                refine ⟨_, rfl, trivial, ?_⟩
                replace hT := hT.trans hf fun _ _ => id
                clear hf
                go_simp
                have hf3 := ((Fr.drew (Fr.refl (· = g) w4)).trans hT fun _ _ h => h.elim)
                have hR3 := hR9.fr hT id
                clear hT
                refine wpAnyH_take (i := 21) rfl (by decide +kernel) (by decide +kernel) (by decide +kernel) (fun _ _ _ h => h) (Or.inl ⟨by kernel_rfl, fun W _ => by go_simp; with_reducible rfl⟩) trivial ?_
                refine wpAnyH_take (i := 22) rfl (by decide +kernel) (by decide +kernel) (by decide +kernel) (fun _ _ _ h => h) (Or.inl ⟨by kernel_rfl, fun W _ => by go_simp; with_reducible rfl⟩) trivial ?_
                go_simp
                refine wpAnyH_all (rs := [23]) (by decide +kernel) (by simp) ?_
                intro i hi
                simp only [List.mem_cons, List.not_mem_nil, or_false] at hi
                subst hi
                have qx := hR3.c3 Hat.out
                have qf := hR3.fz (m * 7 + 3)
                refine wpOp_skip (w' := x3.setCell ⟨g, m * 7 + 3, none⟩ (.string (turnS k o.path))) rfl (by kernel_rfl) (by go_simp) ⟨trivial, ?_⟩
                clear qx qf
                replace hR3 := hR3.put (v := .string (turnS k o.path)) (o' := ⟨o.client, o.kind, o.branch, turnS k o.path, o.other, o.text, o.n⟩) Hat.out (j := 3) (by omega) rfl
                replace hf3 := hf3.at_ (m * 7 + 3) (.string (turnS k o.path))
                go_simp
                refine wpAnyH_take (i := 24) rfl (by decide +kernel) (by decide +kernel) (by decide +kernel) (fun _ _ _ h => h) (Or.inl ⟨by kernel_rfl, fun W _ => by go_simp; with_reducible rfl⟩) trivial ?_
                refine wpAnyH_take (i := 25) rfl (by decide +kernel) (by decide +kernel) (by decide +kernel) (fun _ _ _ h => h) (Or.inl ⟨by kernel_rfl, fun W _ => by go_simp; with_reducible rfl⟩) trivial ?_
                go_simp
                refine wpAnyH_all (rs := [26]) (by decide +kernel) (by simp) ?_
                intro i hi
                simp only [List.mem_cons, List.not_mem_nil, or_false] at hi
                subst hi
                have qx := hR3.c4 (set_at Hat.out)
                have qf := hR3.fz (m * 7 + 4)
                refine wpOp_skip (w' := (x3.setCell ⟨g, m * 7 + 3, none⟩ (.string (turnS k o.path))).setCell ⟨g, m * 7 + 4, none⟩ (.string (turnS k o.other))) rfl (by kernel_rfl) (by go_simp) ⟨trivial, ?_⟩
                clear qx qf
                replace hR3 := hR3.put (v := .string (turnS k o.other)) (o' := ⟨o.client, o.kind, o.branch, turnS k o.path, turnS k o.other, o.text, o.n⟩) (set_at Hat.out) (j := 4) (by omega) rfl
                replace hf3 := hf3.at_ (m * 7 + 4) (.string (turnS k o.other))
                go_simp
                refine wpAnyH_take (i := 27) rfl (by decide +kernel) (by decide +kernel) (by decide +kernel) (fun _ _ _ h => h) (Or.inl ⟨by kernel_rfl, fun W _ => by go_simp; with_reducible rfl⟩) trivial ?_
                refine wpAnyH_take (i := 28) rfl (by decide +kernel) (by decide +kernel) (by decide +kernel) (fun _ _ _ h => h) (Or.inl ⟨by kernel_rfl, fun W _ => by go_simp; with_reducible rfl⟩) trivial ?_
                go_simp
                refine wpAnyH_all (rs := [29]) (by decide +kernel) (by simp) ?_
                intro i hi
                simp only [List.mem_cons, List.not_mem_nil, or_false] at hi
                subst hi
                have qx := hR3.c5 (set_at (set_at Hat.out))
                have qf := hR3.fz (m * 7 + 5)
                refine wpOp_skip (w' := ((x3.setCell ⟨g, m * 7 + 3, none⟩ (.string (turnS k o.path))).setCell ⟨g, m * 7 + 4, none⟩ (.string (turnS k o.other))).setCell ⟨g, m * 7 + 5, none⟩ (.string (turnS k o.text))) rfl (by kernel_rfl) (by go_simp) ⟨trivial, ?_⟩
                clear qx qf
                replace hR3 := hR3.put (v := .string (turnS k o.text)) (o' := opTurn k o) (set_at (set_at Hat.out)) (j := 5) (by omega) rfl
                replace hf3 := hf3.at_ (m * 7 + 5) (.string (turnS k o.text))
                go_simp
                refine wpAnyH_done (by decide +kernel) ?_ _
                rw [List.set_set, List.set_set] at hR3
                have hR4 : OpRow (((x3.setCell ⟨g, m * 7 + 3, none⟩ (.string (turnS k o.path))).setCell ⟨g, m * 7 + 4, none⟩ (.string (turnS k o.other))).setCell ⟨g, m * 7 + 5, none⟩ (.string (turnS k o.text))) g p.n8 c8 (opsTurned k s.ops (m + 1)) := by rw [Hsucc.out, ← HL.out]; exact hR3
                go_wp2
                go_meet
                case rel => exact ⟨hR4, hf3⟩
            · have qx := hT.cell' (hR9.c5 Hat.out) id
              refine wpOp_run (v := .string o.text) (w' := x1) rfl (by kernel_rfl) (by go_simp) ⟨trivial, ?_⟩
              clear qx
              go_simp
              refine wpAnyH_all (rs := [12]) (by decide +kernel) (by simp) ?_
              intro i hi
              simp only [List.mem_cons, List.not_mem_nil, or_false] at hi
              subst hi
              have qx := hT.cell' (hR9.c4 Hat.out) id
              refine wpOp_run (v := .string o.other) (w' := x1) rfl (by kernel_rfl) (by go_simp) ⟨trivial, ?_⟩
              clear qx
              go_simp
              refine wpAnyH_all (rs := [14]) (by decide +kernel) (by simp) ?_
              intro i hi
              simp only [List.mem_cons, List.not_mem_nil, or_false] at hi
              subst hi
              refine wpOp_call rfl rfl 22 (enters_of Try.func22 (by kernel_rfl) rfl) #[.tmp 33, .tmp 34] _ rfl _ rfl (TurnS_any x1 o.other k o3) ?_
              rintro e x2 ⟨rfl, hf⟩
              refine ⟨_, rfl, trivial, ?_⟩
              replace hT := hT.trans hf fun _ _ => id
              clear hf
              go_simp
              refine wpAnyH_all (rs := [20]) (by decide +kernel) (by simp) ?_
              intro i hi
              simp only [List.mem_cons, List.not_mem_nil, or_false] at hi
              subst hi
              refine wpOp_call rfl rfl 22 (enters_of Try.func22 (by kernel_rfl) rfl) #[.tmp 39, .tmp 40] _ rfl _ rfl (TurnS_any x2 o.text k o4) ?_
              rintro e x3 ⟨rfl, hf⟩
              refine ⟨_, rfl, trivial, ?_⟩
              replace hT := hT.trans hf fun _ _ => id
              clear hf
              go_simp
              have hf3 := ((Fr.drew (Fr.refl (· = g) w4)).trans hT fun _ _ h => h.elim)
              have hR3 := hR9.fr hT id
              clear hT
              refine wpAnyH_take (i := 21) rfl (by decide +kernel) (by decide +kernel) (by decide +kernel) (fun _ _ _ h => h) (Or.inl ⟨by kernel_rfl, fun W _ => by go_simp; with_reducible rfl⟩) trivial ?_
              refine wpAnyH_take (i := 22) rfl (by decide +kernel) (by decide +kernel) (by decide +kernel) (fun _ _ _ h => h) (Or.inl ⟨by kernel_rfl, fun W _ => by go_simp; with_reducible rfl⟩) trivial ?_
              go_simp
              refine wpAnyH_all (rs := [23]) (by decide +kernel) (by simp) ?_
              intro i hi
              simp only [List.mem_cons, List.not_mem_nil, or_false] at hi
              subst hi
              have qx := hR3.c3 Hat.out
              have qf := hR3.fz (m * 7 + 3)
              refine wpOp_skip (w' := x3.setCell ⟨g, m * 7 + 3, none⟩ (.string (turnS k o.path))) rfl (by kernel_rfl) (by go_simp) ⟨trivial, ?_⟩
              clear qx qf
              replace hR3 := hR3.put (v := .string (turnS k o.path)) (o' := ⟨o.client, o.kind, o.branch, turnS k o.path, o.other, o.text, o.n⟩) Hat.out (j := 3) (by omega) rfl
              replace hf3 := hf3.at_ (m * 7 + 3) (.string (turnS k o.path))
              go_simp
              refine wpAnyH_take (i := 24) rfl (by decide +kernel) (by decide +kernel) (by decide +kernel) (fun _ _ _ h => h) (Or.inl ⟨by kernel_rfl, fun W _ => by go_simp; with_reducible rfl⟩) trivial ?_
              refine wpAnyH_take (i := 25) rfl (by decide +kernel) (by decide +kernel) (by decide +kernel) (fun _ _ _ h => h) (Or.inl ⟨by kernel_rfl, fun W _ => by go_simp; with_reducible rfl⟩) trivial ?_
              go_simp
              refine wpAnyH_all (rs := [26]) (by decide +kernel) (by simp) ?_
              intro i hi
              simp only [List.mem_cons, List.not_mem_nil, or_false] at hi
              subst hi
              have qx := hR3.c4 (set_at Hat.out)
              have qf := hR3.fz (m * 7 + 4)
              refine wpOp_skip (w' := (x3.setCell ⟨g, m * 7 + 3, none⟩ (.string (turnS k o.path))).setCell ⟨g, m * 7 + 4, none⟩ (.string (turnS k o.other))) rfl (by kernel_rfl) (by go_simp) ⟨trivial, ?_⟩
              clear qx qf
              replace hR3 := hR3.put (v := .string (turnS k o.other)) (o' := ⟨o.client, o.kind, o.branch, turnS k o.path, turnS k o.other, o.text, o.n⟩) (set_at Hat.out) (j := 4) (by omega) rfl
              replace hf3 := hf3.at_ (m * 7 + 4) (.string (turnS k o.other))
              go_simp
              refine wpAnyH_take (i := 27) rfl (by decide +kernel) (by decide +kernel) (by decide +kernel) (fun _ _ _ h => h) (Or.inl ⟨by kernel_rfl, fun W _ => by go_simp; with_reducible rfl⟩) trivial ?_
              refine wpAnyH_take (i := 28) rfl (by decide +kernel) (by decide +kernel) (by decide +kernel) (fun _ _ _ h => h) (Or.inl ⟨by kernel_rfl, fun W _ => by go_simp; with_reducible rfl⟩) trivial ?_
              go_simp
              refine wpAnyH_all (rs := [29]) (by decide +kernel) (by simp) ?_
              intro i hi
              simp only [List.mem_cons, List.not_mem_nil, or_false] at hi
              subst hi
              have qx := hR3.c5 (set_at (set_at Hat.out))
              have qf := hR3.fz (m * 7 + 5)
              refine wpOp_skip (w' := ((x3.setCell ⟨g, m * 7 + 3, none⟩ (.string (turnS k o.path))).setCell ⟨g, m * 7 + 4, none⟩ (.string (turnS k o.other))).setCell ⟨g, m * 7 + 5, none⟩ (.string (turnS k o.text))) rfl (by kernel_rfl) (by go_simp) ⟨trivial, ?_⟩
              clear qx qf
              replace hR3 := hR3.put (v := .string (turnS k o.text)) (o' := opTurn k o) (set_at (set_at Hat.out)) (j := 5) (by omega) rfl
              replace hf3 := hf3.at_ (m * 7 + 5) (.string (turnS k o.text))
              go_simp
              refine wpAnyH_done (by decide +kernel) ?_ _
              rw [List.set_set, List.set_set] at hR3
              have hR4 : OpRow (((x3.setCell ⟨g, m * 7 + 3, none⟩ (.string (turnS k o.path))).setCell ⟨g, m * 7 + 4, none⟩ (.string (turnS k o.other))).setCell ⟨g, m * 7 + 5, none⟩ (.string (turnS k o.text))) g p.n8 c8 (opsTurned k s.ops (m + 1)) := by rw [Hsucc.out, ← HL.out]; exact hR3
              go_wp2
              go_meet
              case rel => exact ⟨hR4, hf3⟩
          · have qx := hT.cell' (hR9.c4 Hat.out) id
            refine wpOp_run (v := .string o.other) (w' := w4.drew) rfl (by kernel_rfl) (by go_simp) ⟨trivial, ?_⟩
            clear qx
            go_simp
            refine wpAnyH_all (rs := [8, 18]) (by decide +kernel) (by simp) ?_
            intro i hi
            simp only [List.mem_cons, List.not_mem_nil, or_false] at hi
            rcases hi with rfl | rfl
            · refine wpOp_call rfl rfl 22 (enters_of Try.func22 (by kernel_rfl) rfl) #[.tmp 27, .tmp 28] _ rfl _ rfl (TurnS_any w4.drew o.path k o2) ?_
              rintro e x1 ⟨rfl, hf⟩
              refine ⟨_, rfl, trivial, ?_⟩
              replace hT := hT.trans hf fun _ _ => id
              clear hf
              go_simp
              refine wpAnyH_all (rs := [14, 18]) (by decide +kernel) (by simp) ?_
              intro i hi
              simp only [List.mem_cons, List.not_mem_nil, or_false] at hi
              rcases hi with rfl | rfl
              · refine wpOp_call rfl rfl 22 (enters_of Try.func22 (by kernel_rfl) rfl) #[.tmp 33, .tmp 34] _ rfl _ rfl (TurnS_any x1 o.other k o3) ?_
                rintro e x2 ⟨rfl, hf⟩
                refine ⟨_, rfl, trivial, ?_⟩
                replace hT := hT.trans hf fun _ _ => id
                clear hf
                go_simp
                refine wpAnyH_all (rs := [18]) (by decide +kernel) (by simp) ?_
                intro i hi
                simp only [List.mem_cons, List.not_mem_nil, or_false] at hi
                subst hi
                have qx := hT.cell' (hR9.c5 Hat.out) id
                refine wpOp_run (v := .string o.text) (w' := x2) rfl (by kernel_rfl) (by go_simp) ⟨trivial, ?_⟩
                clear qx
                go_simp
                refine wpAnyH_all (rs := [20]) (by decide +kernel) (by simp) ?_
                intro i hi
                simp only [List.mem_cons, List.not_mem_nil, or_false] at hi
                subst hi
                refine wpOp_call rfl rfl 22 (enters_of Try.func22 (by kernel_rfl) rfl) #[.tmp 39, .tmp 40] _ rfl _ rfl (TurnS_any x2 o.text k o4) ?_
                rintro e x3 ⟨rfl, hf⟩
                refine ⟨_, rfl, trivial, ?_⟩
                replace hT := hT.trans hf fun _ _ => id
                clear hf
                go_simp
                have hf3 := ((Fr.drew (Fr.refl (· = g) w4)).trans hT fun _ _ h => h.elim)
                have hR3 := hR9.fr hT id
                clear hT
                refine wpAnyH_take (i := 21) rfl (by decide +kernel) (by decide +kernel) (by decide +kernel) (fun _ _ _ h => h) (Or.inl ⟨by kernel_rfl, fun W _ => by go_simp; with_reducible rfl⟩) trivial ?_
                refine wpAnyH_take (i := 22) rfl (by decide +kernel) (by decide +kernel) (by decide +kernel) (fun _ _ _ h => h) (Or.inl ⟨by kernel_rfl, fun W _ => by go_simp; with_reducible rfl⟩) trivial ?_
                go_simp
                refine wpAnyH_all (rs := [23]) (by decide +kernel) (by simp) ?_
                intro i hi
                simp only [List.mem_cons, List.not_mem_nil, or_false] at hi
                subst hi
                have qx := hR3.c3 Hat.out
                have qf := hR3.fz (m * 7 + 3)
                refine wpOp_skip (w' := x3.setCell ⟨g, m * 7 + 3, none⟩ (.string (turnS k o.path))) rfl (by kernel_rfl) (by go_simp) ⟨trivial, ?_⟩
                clear qx qf
                replace hR3 := hR3.put (v := .string (turnS k o.path)) (o' := ⟨o.client, o.kind, o.branch, turnS k o.path, o.other, o.text, o.n⟩) Hat.out (j := 3) (by omega) rfl
                replace hf3 := hf3.at_ (m * 7 + 3) (.string (turnS k o.path))
                go_simp
                refine wpAnyH_take (i := 24) rfl (by decide +kernel) (by decide +kernel) (by decide +kernel) (fun _ _ _ h => h) (Or.inl ⟨by kernel_rfl, fun W _ => by go_simp; with_reducible rfl⟩) trivial ?_
                refine wpAnyH_take (i := 25) rfl (by decide +kernel) (by decide +kernel) (by decide +kernel) (fun _ _ _ h => h) (Or.inl ⟨by kernel_rfl, fun W _ => by go_simp; with_reducible rfl⟩) trivial ?_
                go_simp
                refine wpAnyH_all (rs := [26]) (by decide +kernel) (by simp) ?_
                intro i hi
                simp only [List.mem_cons, List.not_mem_nil, or_false] at hi
                subst hi
                have qx := hR3.c4 (set_at Hat.out)
                have qf := hR3.fz (m * 7 + 4)
                refine wpOp_skip (w' := (x3.setCell ⟨g, m * 7 + 3, none⟩ (.string (turnS k o.path))).setCell ⟨g, m * 7 + 4, none⟩ (.string (turnS k o.other))) rfl (by kernel_rfl) (by go_simp) ⟨trivial, ?_⟩
                clear qx qf
                replace hR3 := hR3.put (v := .string (turnS k o.other)) (o' := ⟨o.client, o.kind, o.branch, turnS k o.path, turnS k o.other, o.text, o.n⟩) (set_at Hat.out) (j := 4) (by omega) rfl
                replace hf3 := hf3.at_ (m * 7 + 4) (.string (turnS k o.other))
                go_simp
                refine wpAnyH_take (i := 27) rfl (by decide +kernel) (by decide +kernel) (by decide +kernel) (fun _ _ _ h => h) (Or.inl ⟨by kernel_rfl, fun W _ => by go_simp; with_reducible rfl⟩) trivial ?_
                refine wpAnyH_take (i := 28) rfl (by decide +kernel) (by decide +kernel) (by decide +kernel) (fun _ _ _ h => h) (Or.inl ⟨by kernel_rfl, fun W _ => by go_simp; with_reducible rfl⟩) trivial ?_
                go_simp
                refine wpAnyH_all (rs := [29]) (by decide +kernel) (by simp) ?_
                intro i hi
                simp only [List.mem_cons, List.not_mem_nil, or_false] at hi
                subst hi
                have qx := hR3.c5 (set_at (set_at Hat.out))
                have qf := hR3.fz (m * 7 + 5)
                refine wpOp_skip (w' := ((x3.setCell ⟨g, m * 7 + 3, none⟩ (.string (turnS k o.path))).setCell ⟨g, m * 7 + 4, none⟩ (.string (turnS k o.other))).setCell ⟨g, m * 7 + 5, none⟩ (.string (turnS k o.text))) rfl (by kernel_rfl) (by go_simp) ⟨trivial, ?_⟩
                clear qx qf
                replace hR3 := hR3.put (v := .string (turnS k o.text)) (o' := opTurn k o) (set_at (set_at Hat.out)) (j := 5) (by omega) rfl
                replace hf3 := hf3.at_ (m * 7 + 5) (.string (turnS k o.text))
                go_simp
                refine wpAnyH_done (by decide +kernel) ?_ _
                rw [List.set_set, List.set_set] at hR3
                have hR4 : OpRow (((x3.setCell ⟨g, m * 7 + 3, none⟩ (.string (turnS k o.path))).setCell ⟨g, m * 7 + 4, none⟩ (.string (turnS k o.other))).setCell ⟨g, m * 7 + 5, none⟩ (.string (turnS k o.text))) g p.n8 c8 (opsTurned k s.ops (m + 1)) := by rw [Hsucc.out, ← HL.out]; exact hR3
                go_wp2
                go_meet
                case rel => exact ⟨hR4, hf3⟩
              · have qx := hT.cell' (hR9.c5 Hat.out) id
                refine wpOp_run (v := .string o.text) (w' := x1) rfl (by kernel_rfl) (by go_simp) ⟨trivial, ?_⟩
                clear qx
                go_simp
                refine wpAnyH_all (rs := [14]) (by decide +kernel) (by simp) ?_
                intro i hi
                simp only [List.mem_cons, List.not_mem_nil, or_false] at hi
                subst hi
                refine wpOp_call rfl rfl 22 (enters_of Try.func22 (by kernel_rfl) rfl) #[.tmp 33, .tmp 34] _ rfl _ rfl (TurnS_any x1 o.other k o3) ?_
                rintro e x2 ⟨rfl, hf⟩
                refine ⟨_, rfl, trivial, ?_⟩
                replace hT := hT.trans hf fun _ _ => id
                clear hf
                go_simp
                refine wpAnyH_all (rs := [20]) (by decide +kernel) (by simp) ?_
                intro i hi
                simp only [List.mem_cons, List.not_mem_nil, or_false] at hi
                subst hi
                refine wpOp_call rfl rfl 22 (enters_of Try.func22 (by kernel_rfl) rfl) #[.tmp 39, .tmp 40] _ rfl _ rfl (TurnS_any x2 o.text k o4) ?_
                rintro e x3 ⟨rfl, hf⟩
                refine ⟨_, rfl, trivial, ?_⟩
                replace hT := hT.trans hf fun _ _ => id
                clear hf
                go_simp
                have hf3 := ((Fr.drew (Fr.refl (· = g) w4)).trans hT fun _ _ h => h.elim)
                have hR3 := hR9.fr hT id
                clear hT
                refine wpAnyH_take (i := 21) rfl (by decide +kernel) (by decide +kernel) (by decide +kernel) (fun _ _ _ h => h) (Or.inl ⟨by kernel_rfl, fun W _ => by go_simp; with_reducible rfl⟩) trivial ?_
                refine wpAnyH_take (i := 22) rfl (by decide +kernel) (by decide +kernel) (by decide +kernel) (fun _ _ _ h => h) (Or.inl ⟨by kernel_rfl, fun W _ => by go_simp; with_reducible rfl⟩) trivial ?_
                go_simp
                refine wpAnyH_all (rs := [23]) (by decide +kernel) (by simp) ?_
                intro i hi
                simp only [List.mem_cons, List.not_mem_nil, or_false] at hi
                subst hi
                have qx := hR3.c3 Hat.out
                have qf := hR3.fz (m * 7 + 3)
                refine wpOp_skip (w' := x3.setCell ⟨g, m * 7 + 3, none⟩ (.string (turnS k o.path))) rfl (by kernel_rfl) (by go_simp) ⟨trivial, ?_⟩
                clear qx qf
                replace hR3 := hR3.put (v := .string (turnS k o.path)) (o' := ⟨o.client, o.kind, o.branch, turnS k o.path, o.other, o.text, o.n⟩) Hat.out (j := 3) (by omega) rfl
                replace hf3 := hf3.at_ (m * 7 + 3) (.string (turnS k o.path))
                go_simp
                refine wpAnyH_take (i := 24) rfl (by decide +kernel) (by decide +kernel) (by decide +kernel) (fun _ _ _ h => h) (Or.inl ⟨by kernel_rfl, fun W _ => by go_simp; with_reducible rfl⟩) trivial ?_
                refine wpAnyH_take (i := 25) rfl (by decide +kernel) (by decide +kernel) (by decide +kernel) (fun _ _ _ h => h) (Or.inl ⟨by kernel_rfl, fun W _ => by go_simp; with_reducible rfl⟩) trivial ?_
                go_simp
                refine wpAnyH_all (rs := [26]) (by decide +kernel) (by simp) ?_
                intro i hi
                simp only [List.mem_cons, List.not_mem_nil, or_false] at hi
                subst hi
                have qx := hR3.c4 (set_at Hat.out)
                have qf := hR3.fz (m * 7 + 4)
                refine wpOp_skip (w' := (x3.setCell ⟨g, m * 7 + 3, none⟩ (.string (turnS k o.path))).setCell ⟨g, m * 7 + 4, none⟩ (.string (turnS k o.other))) rfl (by kernel_rfl) (by go_simp) ⟨trivial, ?_⟩
                clear qx qf
                replace hR3 := hR3.put (v := .string (turnS k o.other)) (o' := ⟨o.client, o.kind, o.branch, turnS k o.path, turnS k o.other, o.text, o.n⟩) (set_at Hat.out) (j := 4) (by omega) rfl
                replace hf3 := hf3.at_ (m * 7 + 4) (.string (turnS k o.other))
                go_simp
                refine wpAnyH_take (i := 27) rfl (by decide +kernel) (by decide +kernel) (by decide +kernel) (fun _ _ _ h => h) (Or.inl ⟨by kernel_rfl, fun W _ => by go_simp; with_reducible rfl⟩) trivial ?_
                refine wpAnyH_take (i := 28) rfl (by decide +kernel) (by decide +kernel) (by decide +kernel) (fun _ _ _ h => h) (Or.inl ⟨by kernel_rfl, fun W _ => by go_simp; with_reducible rfl⟩) trivial ?_
                go_simp
                refine wpAnyH_all (rs := [29]) (by decide +kernel) (by simp) ?_
                intro i hi
                simp only [List.mem_cons, List.not_mem_nil, or_false] at hi
                subst hi
                have qx := hR3.c5 (set_at (set_at Hat.out))
                have qf := hR3.fz (m * 7 + 5)
                refine wpOp_skip (w' := ((x3.setCell ⟨g, m * 7 + 3, none⟩ (.string (turnS k o.path))).setCell ⟨g, m * 7 + 4, none⟩ (.string (turnS k o.other))).setCell ⟨g, m * 7 + 5, none⟩ (.string (turnS k o.text))) rfl (by kernel_rfl) (by go_simp) ⟨trivial, ?_⟩
                clear qx qf
                replace hR3 := hR3.put (v := .string (turnS k o.text)) (o' := opTurn k o) (set_at (set_at Hat.out)) (j := 5) (by omega) rfl
                replace hf3 := hf3.at_ (m * 7 + 5) (.string (turnS k o.text))
                go_simp
                refine wpAnyH_done (by decide +kernel) ?_ _
                rw [List.set_set, List.set_set] at hR3
                have hR4 : OpRow (((x3.setCell ⟨g, m * 7 + 3, none⟩ (.string (turnS k o.path))).setCell ⟨g, m * 7 + 4, none⟩ (.string (turnS k o.other))).setCell ⟨g, m * 7 + 5, none⟩ (.string (turnS k o.text))) g p.n8 c8 (opsTurned k s.ops (m + 1)) := by rw [Hsucc.out, ← HL.out]; exact hR3
                go_wp2
                go_meet
                case rel => exact ⟨hR4, hf3⟩
            · have qx := hT.cell' (hR9.c5 Hat.out) id
              refine wpOp_run (v := .string o.text) (w' := w4.drew) rfl (by kernel_rfl) (by go_simp) ⟨trivial, ?_⟩
              clear qx
              go_simp
              refine wpAnyH_all (rs := [8]) (by decide +kernel) (by simp) ?_
              intro i hi
              simp only [List.mem_cons, List.not_mem_nil, or_false] at hi
              subst hi
              refine wpOp_call rfl rfl 22 (enters_of Try.func22 (by kernel_rfl) rfl) #[.tmp 27, .tmp 28] _ rfl _ rfl (TurnS_any w4.drew o.path k o2) ?_
              rintro e x1 ⟨rfl, hf⟩
              refine ⟨_, rfl, trivial, ?_⟩
              replace hT := hT.trans hf fun _ _ => id
              clear hf
              go_simp
              refine wpAnyH_all (rs := [14]) (by decide +kernel) (by simp) ?_
              intro i hi
              simp only [List.mem_cons, List.not_mem_nil, or_false] at hi
              subst hi
              refine wpOp_call rfl rfl 22 (enters_of Try.func22 (by kernel_rfl) rfl) #[.tmp 33, .tmp 34] _ rfl _ rfl (TurnS_any x1 o.other k o3) ?_
              rintro e x2 ⟨rfl, hf⟩
              refine ⟨_, rfl, trivial, ?_⟩
              replace hT := hT.trans hf fun _ _ => id
              clear hf
              go_simp
              refine wpAnyH_all (rs := [20]) (by decide +kernel) (by simp) ?_
              intro i hi
              simp only [List.mem_cons, List.not_mem_nil, or_false] at hi
              subst hi
              refine wpOp_call rfl rfl 22 (enters_of Try.func22 (by kernel_rfl) rfl) #[.tmp 39, .tmp 40] _ rfl _ rfl (TurnS_any x2 o.text k o4) ?_
              rintro e x3 ⟨rfl, hf⟩
              refine ⟨_, rfl, trivial, ?_⟩
              replace hT := hT.trans hf fun _ _ => id
              clear hf
              go_simp
              have hf3 := ((Fr.drew (Fr.refl (· = g) w4)).trans hT fun _ _ h => h.elim)
              have hR3 := hR9.fr hT id
              clear hT
              refine wpAnyH_take (i := 21) rfl (by decide +kernel) (by decide +kernel) (by decide +kernel) (fun _ _ _ h => h) (Or.inl ⟨by kernel_rfl, fun W _ => by go_simp; with_reducible rfl⟩) trivial ?_
              refine wpAnyH_take (i := 22) rfl (by decide +kernel) (by decide +kernel) (by decide +kernel) (fun _ _ _ h => h) (Or.inl ⟨by kernel_rfl, fun W _ => by go_simp; with_reducible rfl⟩) trivial ?_
              go_simp
              refine wpAnyH_all (rs := [23]) (by decide +kernel) (by simp) ?_
              intro i hi
              simp only [List.mem_cons, List.not_mem_nil, or_false] at hi
              subst hi
              have qx := hR3.c3 Hat.out
              have qf := hR3.fz (m * 7 + 3)
              refine wpOp_skip (w' := x3.setCell ⟨g, m * 7 + 3, none⟩ (.string (turnS k o.path))) rfl (by kernel_rfl) (by go_simp) ⟨trivial, ?_⟩
              clear qx qf
              replace hR3 := hR3.put (v := .string (turnS k o.path)) (o' := ⟨o.client, o.kind, o.branch, turnS k o.path, o.other, o.text, o.n⟩) Hat.out (j := 3) (by omega) rfl
              replace hf3 := hf3.at_ (m * 7 + 3) (.string (turnS k o.path))
              go_simp
              refine wpAnyH_take (i := 24) rfl (by decide +kernel) (by decide +kernel) (by decide +kernel) (fun _ _ _ h => h) (Or.inl ⟨by kernel_rfl, fun W _ => by go_simp; with_reducible rfl⟩) trivial ?_
              refine wpAnyH_take (i := 25) rfl (by decide +kernel) (by decide +kernel) (by decide +kernel) (fun _ _ _ h => h) (Or.inl ⟨by kernel_rfl, fun W _ => by go_simp; with_reducible rfl⟩) trivial ?_
              go_simp
              refine wpAnyH_all (rs := [26]) (by decide +kernel) (by simp) ?_
              intro i hi
              simp only [List.mem_cons, List.not_mem_nil, or_false] at hi
              subst hi
              have qx := hR3.c4 (set_at Hat.out)
              have qf := hR3.fz (m * 7 + 4)
              refine wpOp_skip (w' := (x3.setCell ⟨g, m * 7 + 3, none⟩ (.string (turnS k o.path))).setCell ⟨g, m * 7 + 4, none⟩ (.string (turnS k o.other))) rfl (by kernel_rfl) (by go_simp) ⟨trivial, ?_⟩
              clear qx qf
              replace hR3 := hR3.put (v := .string (turnS k o.other)) (o' := ⟨o.client, o.kind, o.branch, turnS k o.path, turnS k o.other, o.text, o.n⟩) (set_at Hat.out) (j := 4) (by omega) rfl
              replace hf3 := hf3.at_ (m * 7 + 4) (.string (turnS k o.other))
              go_simp
              refine wpAnyH_take (i := 27) rfl (by decide +kernel) (by decide +kernel) (by decide +kernel) (fun _ _ _ h => h) (Or.inl ⟨by kernel_rfl, fun W _ => by go_simp; with_reducible rfl⟩) trivial ?_
              refine wpAnyH_take (i := 28) rfl (by decide +kernel) (by decide +kernel) (by decide +kernel) (fun _ _ _ h => h) (Or.inl ⟨by kernel_rfl, fun W _ => by go_simp; with_reducible rfl⟩) trivial ?_
              go_simp
              refine wpAnyH_all (rs := [29]) (by decide +kernel) (by simp) ?_
              intro i hi
              simp only [List.mem_cons, List.not_mem_nil, or_false] at hi
              subst hi
              have qx := hR3.c5 (set_at (set_at Hat.out))
              have qf := hR3.fz (m * 7 + 5)
              refine wpOp_skip (w' := ((x3.setCell ⟨g, m * 7 + 3, none⟩ (.string (turnS k o.path))).setCell ⟨g, m * 7 + 4, none⟩ (.string (turnS k o.other))).setCell ⟨g, m * 7 + 5, none⟩ (.string (turnS k o.text))) rfl (by kernel_rfl) (by go_simp) ⟨trivial, ?_⟩
              clear qx qf
              replace hR3 := hR3.put (v := .string (turnS k o.text)) (o' := opTurn k o) (set_at (set_at Hat.out)) (j := 5) (by omega) rfl
              replace hf3 := hf3.at_ (m * 7 + 5) (.string (turnS k o.text))
              go_simp
              refine wpAnyH_done (by decide +kernel) ?_ _
              rw [List.set_set, List.set_set] at hR3
              have hR4 : OpRow (((x3.setCell ⟨g, m * 7 + 3, none⟩ (.string (turnS k o.path))).setCell ⟨g, m * 7 + 4, none⟩ (.string (turnS k o.other))).setCell ⟨g, m * 7 + 5, none⟩ (.string (turnS k o.text))) g p.n8 c8 (opsTurned k s.ops (m + 1)) := by rw [Hsucc.out, ← HL.out]; exact hR3
              go_wp2
              go_meet
              case rel => exact ⟨hR4, hf3⟩
          · have qx := hT.cell' (hR9.c5 Hat.out) id
            refine wpOp_run (v := .string o.text) (w' := w4.drew) rfl (by kernel_rfl) (by go_simp) ⟨trivial, ?_⟩
            clear qx
            go_simp
            refine wpAnyH_all (rs := [8, 12]) (by decide +kernel) (by simp) ?_
            intro i hi
            simp only [List.mem_cons, List.not_mem_nil, or_false] at hi
            rcases hi with rfl | rfl
            · refine wpOp_call rfl rfl 22 (enters_of Try.func22 (by kernel_rfl) rfl) #[.tmp 27, .tmp 28] _ rfl _ rfl (TurnS_any w4.drew o.path k o2) ?_
              rintro e x1 ⟨rfl, hf⟩
              refine ⟨_, rfl, trivial, ?_⟩
              replace hT := hT.trans hf fun _ _ => id
              clear hf
              go_simp
              refine wpAnyH_all (rs := [12]) (by decide +kernel) (by simp) ?_
              intro i hi
              simp only [List.mem_cons, List.not_mem_nil, or_false] at hi
              subst hi
              have qx := hT.cell' (hR9.c4 Hat.out) id
              refine wpOp_run (v := .string o.other) (w' := x1) rfl (by kernel_rfl) (by go_simp) ⟨trivial, ?_⟩
              clear qx
              go_simp
              refine wpAnyH_all (rs := [14]) (by decide +kernel) (by simp) ?_
              intro i hi
              simp only [List.mem_cons, List.not_mem_nil, or_false] at hi
              subst hi
              refine wpOp_call rfl rfl 22 (enters_of Try.func22 (by kernel_rfl) rfl) #[.tmp 33, .tmp 34] _ rfl _ rfl (TurnS_any x1 o.other k o3) ?_
              rintro e x2 ⟨rfl, hf⟩
              refine ⟨_, rfl, trivial, ?_⟩
              replace hT := hT.trans hf fun _ _ => id
              clear hf
              go_simp
              refine wpAnyH_all (rs := [20]) (by decide +kernel) (by simp) ?_
              intro i hi
              simp only [List.mem_cons, List.not_mem_nil, or_false] at hi
              subst hi
              refine wpOp_call rfl rfl 22 (enters_of Try.func22 (by kernel_rfl) rfl) #[.tmp 39, .tmp 40] _ rfl _ rfl (TurnS_any x2 o.text k o4) ?_
              rintro e x3 ⟨rfl, hf⟩
              refine ⟨_, rfl, trivial, ?_⟩
              replace hT := hT.trans hf fun _ _ => id
              clear hf
              go_simp
              have hf3 := ((Fr.drew (Fr.refl (· = g) w4)).trans hT fun _ _ h => h.elim)
              have hR3 := hR9.fr hT id
              clear hT
              refine wpAnyH_take (i := 21) rfl (by decide +kernel) (by decide +kernel) (by decide +kernel) (fun _ _ _ h => h) (Or.inl ⟨by kernel_rfl, fun W _ => by go_simp; with_reducible rfl⟩) trivial ?_
              refine wpAnyH_take (i := 22) rfl (by decide +kernel) (by decide +kernel) (by decide +kernel) (fun _ _ _ h => h) (Or.inl ⟨by kernel_rfl, fun W _ => by go_simp; with_reducible rfl⟩) trivial ?_
              go_simp
              refine wpAnyH_all (rs := [23]) (by decide +kernel) (by simp) ?_
              intro i hi
              simp only [List.mem_cons, List.not_mem_nil, or_false] at hi
              subst hi
              have qx := hR3.c3 Hat.out
              have qf := hR3.fz (m * 7 + 3)
              refine wpOp_skip (w' := x3.setCell ⟨g, m * 7 + 3, none⟩ (.string (turnS k o.path))) rfl (by kernel_rfl) (by go_simp) ⟨trivial, ?_⟩
              clear qx qf
              replace hR3 := hR3.put (v := .string (turnS k o.path)) (o' := ⟨o.client, o.kind, o.branch, turnS k o.path, o.other, o.text, o.n⟩) Hat.out (j := 3) (by omega) rfl
              replace hf3 := hf3.at_ (m * 7 + 3) (.string (turnS k o.path))
              go_simp
              refine wpAnyH_take (i := 24) rfl (by decide +kernel) (by decide +kernel) (by decide +kernel) (fun _ _ _ h => h) (Or.inl ⟨by kernel_rfl, fun W _ => by go_simp; with_reducible rfl⟩) trivial ?_
              refine wpAnyH_take (i := 25) rfl (by decide +kernel) (by decide +kernel) (by decide +kernel) (fun _ _ _ h => h) (Or.inl ⟨by kernel_rfl, fun W _ => by go_simp; with_reducible rfl⟩) trivial ?_
              go_simp
              refine wpAnyH_all (rs := [26]) (by decide +kernel) (by simp) ?_
              intro i hi
              simp only [List.mem_cons, List.not_mem_nil, or_false] at hi
              subst hi
              have qx := hR3.c4 (set_at Hat.out)
              have qf := hR3.fz (m * 7 + 4)
              refine wpOp_skip (w' := (x3.setCell ⟨g, m * 7 + 3, none⟩ (.string (turnS k o.path))).setCell ⟨g, m * 7 + 4, none⟩ (.string (turnS k o.other))) rfl (by kernel_rfl) (by go_simp) ⟨trivial, ?_⟩
              clear qx qf
              replace hR3 := hR3.put (v := .string (turnS k o.other)) (o' := ⟨o.client, o.kind, o.branch, turnS k o.path, turnS k o.other, o.text, o.n⟩) (set_at Hat.out) (j := 4) (by omega) rfl
              replace hf3 := hf3.at_ (m * 7 + 4) (.string (turnS k o.other))
              go_simp
              refine wpAnyH_take (i := 27) rfl (by decide +kernel) (by decide +kernel) (by decide +kernel) (fun _ _ _ h => h) (Or.inl ⟨by kernel_rfl, fun W _ => by go_simp; with_reducible rfl⟩) trivial ?_
              refine wpAnyH_take (i := 28) rfl (by decide +kernel) (by decide +kernel) (by decide +kernel) (fun _ _ _ h => h) (Or.inl ⟨by kernel_rfl, fun W _ => by go_simp; with_reducible rfl⟩) trivial ?_
              go_simp
              refine wpAnyH_all (rs := [29]) (by decide +kernel) (by simp) ?_
              intro i hi
              simp only [List.mem_cons, List.not_mem_nil, or_false] at hi
              subst hi
              have qx := hR3.c5 (set_at (set_at Hat.out))
              have qf := hR3.fz (m * 7 + 5)
              refine wpOp_skip (w' := ((x3.setCell ⟨g, m * 7 + 3, none⟩ (.string (turnS k o.path))).setCell ⟨g, m * 7 + 4, none⟩ (.string (turnS k o.other))).setCell ⟨g, m * 7 + 5, none⟩ (.string (turnS k o.text))) rfl (by kernel_rfl) (by go_simp) ⟨trivial, ?_⟩
              clear qx qf
              replace hR3 := hR3.put (v := .string (turnS k o.text)) (o' := opTurn k o) (set_at (set_at Hat.out)) (j := 5) (by omega) rfl
              replace hf3 := hf3.at_ (m * 7 + 5) (.string (turnS k o.text))
              go_simp
              refine wpAnyH_done (by decide +kernel) ?_ _
              rw [List.set_set, List.set_set] at hR3
              have hR4 : OpRow (((x3.setCell ⟨g, m * 7 + 3, none⟩ (.string (turnS k o.path))).setCell ⟨g, m * 7 + 4, none⟩ (.string (turnS k o.other))).setCell ⟨g, m * 7 + 5, none⟩ (.string (turnS k o.text))) g p.n8 c8 (opsTurned k s.ops (m + 1)) := by rw [Hsucc.out, ← HL.out]; exact hR3
              go_wp2
              go_meet
              case rel => exact ⟨hR4, hf3⟩
            · have qx := hT.cell' (hR9.c4 Hat.out) id
              refine wpOp_run (v := .string o.other) (w' := w4.drew) rfl (by kernel_rfl) (by go_simp) ⟨trivial, ?_⟩
              clear qx
              go_simp
              refine wpAnyH_all (rs := [8]) (by decide +kernel) (by simp) ?_
              intro i hi
              simp only [List.mem_cons, List.not_mem_nil, or_false] at hi
              subst hi
              refine wpOp_call rfl rfl 22 (enters_of Try.func22 (by kernel_rfl) rfl) #[.tmp 27, .tmp 28] _ rfl _ rfl (TurnS_any w4.drew o.path k o2) ?_
              rintro e x1 ⟨rfl, hf⟩
              refine ⟨_, rfl, trivial, ?_⟩
              replace hT := hT.trans hf fun _ _ => id
              clear hf
              go_simp
              refine wpAnyH_all (rs := [14]) (by decide +kernel) (by simp) ?_
              intro i hi
              simp only [List.mem_cons, List.not_mem_nil, or_false] at hi
              subst hi
              refine wpOp_call rfl rfl 22 (enters_of Try.func22 (by kernel_rfl) rfl) #[.tmp 33, .tmp 34] _ rfl _ rfl (TurnS_any x1 o.other k o3) ?_
              rintro e x2 ⟨rfl, hf⟩
              refine ⟨_, rfl, trivial, ?_⟩
              replace hT := hT.trans hf fun _ _ => id
              clear hf
              go_simp
              refine wpAnyH_all (rs := [20]) (by decide +kernel) (by simp) ?_
              intro i hi
              simp only [List.mem_cons, List.not_mem_nil, or_false] at hi
              subst hi
              refine wpOp_call rfl rfl 22 (enters_of Try.func22 (by kernel_rfl) rfl) #[.tmp 39, .tmp 40] _ rfl _ rfl (TurnS_any x2 o.text k o4) ?_
              rintro e x3 ⟨rfl, hf⟩
              refine ⟨_, rfl, trivial, ?_⟩
              replace hT := hT.trans hf fun _ _ => id
              clear hf
              go_simp
              have hf3 := ((Fr.drew (Fr.refl (· = g) w4)).trans hT fun _ _ h => h.elim)
              have hR3 := hR9.fr hT id
              clear hT
              refine wpAnyH_take (i := 21) rfl (by decide +kernel) (by decide +kernel) (by decide +kernel) (fun _ _ _ h => h) (Or.inl ⟨by kernel_rfl, fun W _ => by go_simp; with_reducible rfl⟩) trivial ?_
              refine wpAnyH_take (i := 22) rfl (by decide +kernel) (by decide +kernel) (by decide +kernel) (fun _ _ _ h => h) (Or.inl ⟨by kernel_rfl, fun W _ => by go_simp; with_reducible rfl⟩) trivial ?_
              go_simp
              refine wpAnyH_all (rs := [23]) (by decide +kernel) (by simp) ?_
              intro i hi
              simp only [List.mem_cons, List.not_mem_nil, or_false] at hi
              subst hi
              have qx := hR3.c3 Hat.out
              have qf := hR3.fz (m * 7 + 3)
              refine wpOp_skip (w' := x3.setCell ⟨g, m * 7 + 3, none⟩ (.string (turnS k o.path))) rfl (by kernel_rfl) (by go_simp) ⟨trivial, ?_⟩
              clear qx qf
              replace hR3 := hR3.put (v := .string (turnS k o.path)) (o' := ⟨o.client, o.kind, o.branch, turnS k o.path, o.other, o.text, o.n⟩) Hat.out (j := 3) (by omega) rfl
              replace hf3 := hf3.at_ (m * 7 + 3) (.string (turnS k o.path))
              go_simp
              refine wpAnyH_take (i := 24) rfl (by decide +kernel) (by decide +kernel) (by decide +kernel) (fun _ _ _ h => h) (Or.inl ⟨by kernel_rfl, fun W _ => by go_simp; with_reducible rfl⟩) trivial ?_
              refine wpAnyH_take (i := 25) rfl (by decide +kernel) (by decide +kernel) (by decide +kernel) (fun _ _ _ h => h) (Or.inl ⟨by kernel_rfl, fun W _ => by go_simp; with_reducible rfl⟩) trivial ?_
              go_simp
              refine wpAnyH_all (rs := [26]) (by decide +kernel) (by simp) ?_
              intro i hi
              simp only [List.mem_cons, List.not_mem_nil, or_false] at hi
              subst hi
              have qx := hR3.c4 (set_at Hat.out)
              have qf := hR3.fz (m * 7 + 4)
              refine wpOp_skip (w' := (x3.setCell ⟨g, m * 7 + 3, none⟩ (.string (turnS k o.path))).setCell ⟨g, m * 7 + 4, none⟩ (.string (turnS k o.other))) rfl (by kernel_rfl) (by go_simp) ⟨trivial, ?_⟩
              clear qx qf
              replace hR3 := hR3.put (v := .string (turnS k o.other)) (o' := ⟨o.client, o.kind, o.branch, turnS k o.path, turnS k o.other, o.text, o.n⟩) (set_at Hat.out) (j := 4) (by omega) rfl
              replace hf3 := hf3.at_ (m * 7 + 4) (.string (turnS k o.other))
              go_simp
              refine wpAnyH_take (i := 27) rfl (by decide +kernel) (by decide +kernel) (by decide +kernel) (fun _ _ _ h => h) (Or.inl ⟨by kernel_rfl, fun W _ => by go_simp; with_reducible rfl⟩) trivial ?_
              refine wpAnyH_take (i := 28) rfl (by decide +kernel) (by decide +kernel) (by decide +kernel) (fun _ _ _ h => h) (Or.inl ⟨by kernel_rfl, fun W _ => by go_simp; with_reducible rfl⟩) trivial ?_
              go_simp
              refine wpAnyH_all (rs := [29]) (by decide +kernel) (by simp) ?_
              intro i hi
              simp only [List.mem_cons, List.not_mem_nil, or_false] at hi
              subst hi
              have qx := hR3.c5 (set_at (set_at Hat.out))
              have qf := hR3.fz (m * 7 + 5)
              refine wpOp_skip (w' := ((x3.setCell ⟨g, m * 7 + 3, none⟩ (.string (turnS k o.path))).setCell ⟨g, m * 7 + 4, none⟩ (.string (turnS k o.other))).setCell ⟨g, m * 7 + 5, none⟩ (.string (turnS k o.text))) rfl (by kernel_rfl) (by go_simp) ⟨trivial, ?_⟩
              clear qx qf
              replace hR3 := hR3.put (v := .string (turnS k o.text)) (o' := opTurn k o) (set_at (set_at Hat.out)) (j := 5) (by omega) rfl
              replace hf3 := hf3.at_ (m * 7 + 5) (.string (turnS k o.text))
              go_simp
              refine wpAnyH_done (by decide +kernel) ?_ _
              rw [List.set_set, List.set_set] at hR3
              have hR4 : OpRow (((x3.setCell ⟨g, m * 7 + 3, none⟩ (.string (turnS k o.path))).setCell ⟨g, m * 7 + 4, none⟩ (.string (turnS k o.other))).setCell ⟨g, m * 7 + 5, none⟩ (.string (turnS k o.text))) g p.n8 c8 (opsTurned k s.ops (m + 1)) := by rw [Hsucc.out, ← HL.out]; exact hR3
              go_wp2
              go_meet
              case rel => exact ⟨hR4, hf3⟩
        · have qx := hT.cell' (hR9.c4 Hat.out) id
          refine wpOp_run (v := .string o.other) (w' := w4.drew) rfl (by kernel_rfl) (by go_simp) ⟨trivial, ?_⟩
          clear qx
          go_simp
          refine wpAnyH_all (rs := [6, 18]) (by decide +kernel) (by simp) ?_
          intro i hi
          simp only [List.mem_cons, List.not_mem_nil, or_false] at hi
          rcases hi with rfl | rfl
          · have qx := hT.cell' (hR9.c3 Hat.out) id
            refine wpOp_run (v := .string o.path) (w' := w4.drew) rfl (by kernel_rfl) (by go_simp) ⟨trivial, ?_⟩
            clear qx
            go_simp
            refine wpAnyH_all (rs := [8, 18]) (by decide +kernel) (by simp) ?_
            intro i hi
            simp only [List.mem_cons, List.not_mem_nil, or_false] at hi
            rcases hi with rfl | rfl
            · refine wpOp_call rfl rfl 22 (enters_of Try.func22 (by kernel_rfl) rfl) #[.tmp 27, .tmp 28] _ rfl _ rfl (TurnS_any w4.drew o.path k o2) ?_
              rintro e x1 ⟨rfl, hf⟩
              refine ⟨_, rfl, trivial, ?_⟩
              replace hT := hT.trans hf fun _ _ => id
              clear hf
              go_simp
              refine wpAnyH_all (rs := [14, 18]) (by decide +kernel) (by simp) ?_
              intro i hi
              simp only [List.mem_cons, List.not_mem_nil, or_false] at hi
              rcases hi with rfl | rfl
              · refine wpOp_call rfl rfl 22 (enters_of Try.func22 (by kernel_rfl) rfl) #[.tmp 33, .tmp 34] _ rfl _ rfl (TurnS_any x1 o.other k o3) ?_
                rintro e x2 ⟨rfl, hf⟩
                refine ⟨_, rfl, trivial, ?_⟩
                replace hT := hT.trans hf fun _ _ => id
                clear hf
                go_simp
                refine wpAnyH_all (rs := [18]) (by decide +kernel) (by simp) ?_
                intro i hi
                simp only [List.mem_cons, List.not_mem_nil, or_false] at hi
                subst hi
                have qx := hT.cell' (hR9.c5 Hat.out) id
                refine wpOp_run (v := .string o.text) (w' := x2) rfl (by kernel_rfl) (by go_simp) ⟨trivial, ?_⟩
                clear qx
                go_simp
                refine wpAnyH_all (rs := [20]) (by decide +kernel) (by simp) ?_
                intro i hi
                simp only [List.mem_cons, List.not_mem_nil, or_false] at hi
                subst hi
                refine wpOp_call rfl rfl 22 (enters_of Try.func22 (by kernel_rfl) rfl) #[.tmp 39, .tmp 40] _ rfl _ rfl (TurnS_any x2 o.text k o4) ?_
                rintro e x3 ⟨rfl, hf⟩
                refine ⟨_, rfl, trivial, ?_⟩
                replace hT := hT.trans hf fun _ _ => id
                clear hf
                go_simp
                have hf3 := ((Fr.drew (Fr.refl (· = g) w4)).trans hT fun _ _ h => h.elim)
                have hR3 := hR9.fr hT id
                clear hT
                refine wpAnyH_take (i := 21) rfl (by decide +kernel) (by decide +kernel) (by decide +kernel) (fun _ _ _ h => h) (Or.inl ⟨by kernel_rfl, fun W _ => by go_simp; with_reducible rfl⟩) trivial ?_
                refine wpAnyH_take (i := 22) rfl (by decide +kernel) (by decide +kernel) (by decide +kernel) (fun _ _ _ h => h) (Or.inl ⟨by kernel_rfl, fun W _ => by go_simp; with_reducible rfl⟩) trivial ?_
                go_simp
                refine wpAnyH_all (rs := [23]) (by decide +kernel) (by simp) ?_
                intro i hi
                simp only [List.mem_cons, List.not_mem_nil, or_false] at hi
                subst hi
                have qx := hR3.c3 Hat.out
                have qf := hR3.fz (m * 7 + 3)
                refine wpOp_skip (w' := x3.setCell ⟨g, m * 7 + 3, none⟩ (.string (turnS k o.path))) rfl (by kernel_rfl) (by go_simp) ⟨trivial, ?_⟩
                clear qx qf
                replace hR3 := hR3.put (v := .string (turnS k o.path)) (o' := ⟨o.client, o.kind, o.branch, turnS k o.path, o.other, o.text, o.n⟩) Hat.out (j := 3) (by omega) rfl
                replace hf3 := hf3.at_ (m * 7 + 3) (.string (turnS k o.path))
                go_simp
                refine wpAnyH_take (i := 24) rfl (by decide +kernel) (by decide +kernel) (by decide +kernel) (fun _ _ _ h => h) (Or.inl ⟨by kernel_rfl, fun W _ => by go_simp; with_reducible rfl⟩) trivial ?_
                refine wpAnyH_take (i := 25) rfl (by decide +kernel) (by decide +kernel) (by decide +kernel) (fun _ _ _ h => h) (Or.inl ⟨by kernel_rfl, fun W _ => by go_simp; with_reducible rfl⟩) trivial ?_
                go_simp
                refine wpAnyH_all (rs := [26]) (by decide +kernel) (by simp) ?_
                intro i hi
                simp only [List.mem_cons, List.not_mem_nil, or_false] at hi
                subst hi
                have qx := hR3.c4 (set_at Hat.out)
                have qf := hR3.fz (m * 7 + 4)
                refine wpOp_skip (w' := (x3.setCell ⟨g, m * 7 + 3, none⟩ (.string (turnS k o.path))).setCell ⟨g, m * 7 + 4, none⟩ (.string (turnS k o.other))) rfl (by kernel_rfl) (by go_simp) ⟨trivial, ?_⟩
                clear qx qf
                replace hR3 := hR3.put (v := .string (turnS k o.other)) (o' := ⟨o.client, o.kind, o.branch, turnS k o.path, turnS k o.other, o.text, o.n⟩) (set_at Hat.out) (j := 4) (by omega) rfl
                replace hf3 := hf3.at_ (m * 7 + 4) (.string (turnS k o.other))
                go_simp
                refine wpAnyH_take (i := 27) rfl (by decide +kernel) (by decide +kernel) (by decide +kernel) (fun _ _ _ h => h) (Or.inl ⟨by kernel_rfl, fun W _ => by go_simp; with_reducible rfl⟩) trivial ?_
                refine wpAnyH_take (i := 28) rfl (by decide +kernel) (by decide +kernel) (by decide +kernel) (fun _ _ _ h => h) (Or.inl ⟨by kernel_rfl, fun W _ => by go_simp; with_reducible rfl⟩) trivial ?_
                go_simp
                refine wpAnyH_all (rs := [29]) (by decide +kernel) (by simp) ?_
                intro i hi
                simp only [List.mem_cons, List.not_mem_nil, or_false] at hi
                subst hi
                have qx := hR3.c5 (set_at (set_at Hat.out))
                have qf := hR3.fz (m * 7 + 5)
                refine wpOp_skip (w' := ((x3.setCell ⟨g, m * 7 + 3, none⟩ (.string (turnS k o.path))).setCell ⟨g, m * 7 + 4, none⟩ (.string (turnS k o.other))).setCell ⟨g, m * 7 + 5, none⟩ (.string (turnS k o.text))) rfl (by kernel_rfl) (by go_simp) ⟨trivial, ?_⟩
                clear qx qf
                replace hR3 := hR3.put (v := .string (turnS k o.text)) (o' := opTurn k o) (set_at (set_at Hat.out)) (j := 5) (by omega) rfl
                replace hf3 := hf3.at_ (m * 7 + 5) (.string (turnS k o.text))
                go_simp
                refine wpAnyH_done (by decide +kernel) ?_ _
                rw [List.set_set, List.set_set] at hR3
                have hR4 : OpRow (((x3.setCell ⟨g, m * 7 + 3, none⟩ (.string (turnS k o.path))).setCell ⟨g, m * 7 + 4, none⟩ (.string (turnS k o.other))).setCell ⟨g, m * 7 + 5, none⟩ (.string (turnS k o.text))) g p.n8 c8 (opsTurned k s.ops (m + 1)) := by rw [Hsucc.out, ← HL.out]; exact hR3
                go_wp2
                go_meet
                case rel => exact ⟨hR4, hf3⟩
              · have qx := hT.cell' (hR9.c5 Hat.out) id
                refine wpOp_run (v := .string o.text) (w' := x1) rfl (by kernel_rfl) (by go_simp) ⟨trivial, ?_⟩
                clear qx
                go_simp
                refine wpAnyH_all (rs := [14]) (by decide +kernel) (by simp) ?_
                intro i hi
                simp only [List.mem_cons, List.not_mem_nil, or_false] at hi
                subst hi
                refine wpOp_call rfl rfl 22 (enters_of Try.func22 (by kernel_rfl) rfl) #[.tmp 33, .tmp 34] _ rfl _ rfl (TurnS_any x1 o.other k o3) ?_
                rintro e x2 ⟨rfl, hf⟩
                refine ⟨_, rfl, trivial, ?_⟩
                replace hT := hT.trans hf fun _ _ => id
                clear hf
                go_simp
                refine wpAnyH_all (rs := [20]) (by decide +kernel) (by simp) ?_
                intro i hi
                simp only [List.mem_cons, List.not_mem_nil, or_false] at hi
                subst hi
                refine wpOp_call rfl rfl 22 (enters_of Try.func22 (by kernel_rfl) rfl) #[.tmp 39, .tmp 40] _ rfl _ rfl (TurnS_any x2 o.text k o4) ?_
                rintro e x3 ⟨rfl, hf⟩
                refine ⟨_, rfl, trivial, ?_⟩
                replace hT := hT.trans hf fun _ _ => id
                clear hf
                go_simp
                have hf3 := ((Fr.drew (Fr.refl (· = g) w4)).trans hT fun _ _ h => h.elim)
                have hR3 := hR9.fr hT id
                clear hT
                refine wpAnyH_take (i := 21) rfl (by decide +kernel) (by decide +kernel) (by decide +kernel) (fun _ _ _ h => h) (Or.inl ⟨by kernel_rfl, fun W _ => by go_simp; with_reducible rfl⟩) trivial ?_
                refine wpAnyH_take (i := 22) rfl (by decide +kernel) (by decide +kernel) (by decide +kernel) (fun _ _ _ h => h) (Or.inl ⟨by kernel_rfl, fun W _ => by go_simp; with_reducible rfl⟩) trivial ?_
                go_simp
                refine wpAnyH_all (rs := [23]) (by decide +kernel) (by simp) ?_
                intro i hi
                simp only [List.mem_cons, List.not_mem_nil, or_false] at hi
                subst hi
                have qx := hR3.c3 Hat.out
                have qf := hR3.fz (m * 7 + 3)
                refine wpOp_skip (w' := x3.setCell ⟨g, m * 7 + 3, none⟩ (.string (turnS k o.path))) rfl (by kernel_rfl) (by go_simp) ⟨trivial, ?_⟩
                clear qx qf
                replace hR3 := hR3.put (v := .string (turnS k o.path)) (o' := ⟨o.client, o.kind, o.branch, turnS k o.path, o.other, o.text, o.n⟩) Hat.out (j := 3) (by omega) rfl
                replace hf3 := hf3.at_ (m * 7 + 3) (.string (turnS k o.path))
                go_simp
                refine wpAnyH_take (i := 24) rfl (by decide +kernel) (by decide +kernel) (by decide +kernel) (fun _ _ _ h => h) (Or.inl ⟨by kernel_rfl, fun W _ => by go_simp; with_reducible rfl⟩) trivial ?_
                refine wpAnyH_take (i := 25) rfl (by decide +kernel) (by decide +kernel) (by decide +kernel) (fun _ _ _ h => h) (Or.inl ⟨by kernel_rfl, fun W _ => by go_simp; with_reducible rfl⟩) trivial ?_
                go_simp
                refine wpAnyH_all (rs := [26]) (by decide +kernel) (by simp) ?_
                intro i hi
                simp only [List.mem_cons, List.not_mem_nil, or_false] at hi
                subst hi
                have qx := hR3.c4 (set_at Hat.out)
                have qf := hR3.fz (m * 7 + 4)
                refine wpOp_skip (w' := (x3.setCell ⟨g, m * 7 + 3, none⟩ (.string (turnS k o.path))).setCell ⟨g, m * 7 + 4, none⟩ (.string (turnS k o.other))) rfl (by kernel_rfl) (by go_simp) ⟨trivial, ?_⟩
                clear qx qf
                replace hR3 := hR3.put (v := .string (turnS k o.other)) (o' := ⟨o.client, o.kind, o.branch, turnS k o.path, turnS k o.other, o.text, o.n⟩) (set_at Hat.out) (j := 4) (by omega) rfl
                replace hf3 := hf3.at_ (m * 7 + 4) (.string (turnS k o.other))
                go_simp
                refine wpAnyH_take (i := 27) rfl (by decide +kernel) (by decide +kernel) (by decide +kernel) (fun _ _ _ h => h) (Or.inl ⟨by kernel_rfl, fun W _ => by go_simp; with_reducible rfl⟩) trivial ?_
                refine wpAnyH_take (i := 28) rfl (by decide +kernel) (by decide +kernel) (by decide +kernel) (fun _ _ _ h => h) (Or.inl ⟨by kernel_rfl, fun W _ => by go_simp; with_reducible rfl⟩) trivial ?_
                go_simp
                refine wpAnyH_all (rs := [29]) (by decide +kernel) (by simp) ?_
                intro i hi
                simp only [List.mem_cons, List.not_mem_nil, or_false] at hi
                subst hi
                have qx := hR3.c5 (set_at (set_at Hat.out))
                have qf := hR3.fz (m * 7 + 5)
                refine wpOp_skip (w' := ((x3.setCell ⟨g, m * 7 + 3, none⟩ (.string (turnS k o.path))).setCell ⟨g, m * 7 + 4, none⟩ (.string (turnS k o.other))).setCell ⟨g, m * 7 + 5, none⟩ (.string (turnS k o.text))) rfl (by kernel_rfl) (by go_simp) ⟨trivial, ?_⟩
                clear qx qf
                replace hR3 := hR3.put (v := .string (turnS k o.text)) (o' := opTurn k o) (set_at (set_at Hat.out)) (j := 5) (by omega) rfl
                replace hf3 := hf3.at_ (m * 7 + 5) (.string (turnS k o.text))
                go_simp
                refine wpAnyH_done (by decide +kernel) ?_ _
                rw [List.set_set, List.set_set] at hR3
                have hR4 : OpRow (((x3.setCell ⟨g, m * 7 + 3, none⟩ (.string (turnS k o.path))).setCell ⟨g, m * 7 + 4, none⟩ (.string (turnS k o.other))).setCell ⟨g, m * 7 + 5, none⟩ (.string (turnS k o.text))) g p.n8 c8 (opsTurned k s.ops (m + 1)) := by rw [Hsucc.out, ← HL.out]; exact hR3
                go_wp2
                go_meet
                case rel => exact ⟨hR4, hf3⟩
            · have qx := hT.cell' (hR9.c5 Hat.out) id
              refine wpOp_run (v := .string o.text) (w' := w4.drew) rfl (by kernel_rfl) (by go_simp) ⟨trivial, ?_⟩
              clear qx
              go_simp
              refine wpAnyH_all (rs := [8]) (by decide +kernel) (by simp) ?_
              intro i hi
              simp only [List.mem_cons, List.not_mem_nil, or_false] at hi
              subst hi
              refine wpOp_call rfl rfl 22 (enters_of Try.func22 (by kernel_rfl) rfl) #[.tmp 27, .tmp 28] _ rfl _ rfl (TurnS_any w4.drew o.path k o2) ?_
              rintro e x1 ⟨rfl, hf⟩
              refine ⟨_, rfl, trivial, ?_⟩
              replace hT := hT.trans hf fun _ _ => id
              clear hf
              go_simp
              refine wpAnyH_all (rs := [14]) (by decide +kernel) (by simp) ?_
              intro i hi
              simp only [List.mem_cons, List.not_mem_nil, or_false] at hi
              subst hi
              refine wpOp_call rfl rfl 22 (enters_of Try.func22 (by kernel_rfl) rfl) #[.tmp 33, .tmp 34] _ rfl _ rfl (TurnS_any x1 o.other k o3) ?_
              rintro e x2 ⟨rfl, hf⟩
              refine ⟨_, rfl, trivial, ?_⟩
              replace hT := hT.trans hf fun _ _ => id
              clear hf
              go_simp
              refine wpAnyH_all (rs := [20]) (by decide +kernel) (by simp) ?_
              intro i hi
              simp only [List.mem_cons, List.not_mem_nil, or_false] at hi
              subst hi
              refine wpOp_call rfl rfl 22 (enters_of Try.func22 (by kernel_rfl) rfl) #[.tmp 39, .tmp 40] _ rfl _ rfl (TurnS_any x2 o.text k o4) ?_
              rintro e x3 ⟨rfl, hf⟩
              refine ⟨_, rfl, trivial, ?_⟩
              replace hT := hT.trans hf fun _ _ => id
              clear hf
              go_simp
              have hf3 := ((Fr.drew (Fr.refl (· = g) w4)).trans hT fun _ _ h => h.elim)
              have hR3 := hR9.fr hT id
              clear hT
              refine wpAnyH_take (i := 21) rfl (by decide +kernel) (by decide +kernel) (by decide +kernel) (fun _ _ _ h => h) (Or.inl ⟨by kernel_rfl, fun W _ => by go_simp; with_reducible rfl⟩) trivial ?_
              refine wpAnyH_take (i := 22) rfl (by decide +kernel) (by decide +kernel) (by decide +kernel) (fun _ _ _ h => h) (Or.inl ⟨by kernel_rfl, fun W _ => by go_simp; with_reducible rfl⟩) trivial ?_
              go_simp
              refine wpAnyH_all (rs := [23]) (by decide +kernel) (by simp) ?_
              intro i hi
              simp only [List.mem_cons, List.not_mem_nil, or_false] at hi
              subst hi
              have qx := hR3.c3 Hat.out
              have qf := hR3.fz (m * 7 + 3)
              refine wpOp_skip (w' := x3.setCell ⟨g, m * 7 + 3, none⟩ (.string (turnS k o.path))) rfl (by kernel_rfl) (by go_simp) ⟨trivial, ?_⟩
              clear qx qf
              replace hR3 := hR3.put (v := .string (turnS k o.path)) (o' := ⟨o.client, o.kind, o.branch, turnS k o.path, o.other, o.text, o.n⟩) Hat.out (j := 3) (by omega) rfl
              replace hf3 := hf3.at_ (m * 7 + 3) (.string (turnS k o.path))
              go_simp
              refine wpAnyH_take (i := 24) rfl (by decide +kernel) (by decide +kernel) (by decide +kernel) (fun _ _ _ h => h) (Or.inl ⟨by kernel_rfl, fun W _ => by go_simp; with_reducible rfl⟩) trivial ?_
              refine wpAnyH_take (i := 25) rfl (by decide +kernel) (by decide +kernel) (by decide +kernel) (fun _ _ _ h => h) (Or.inl ⟨by kernel_rfl, fun W _ => by go_simp; with_reducible rfl⟩) trivial ?_
              go_simp
              refine wpAnyH_all (rs := [26]) (by decide +kernel) (by simp) ?_
              intro i hi
              simp only [List.mem_cons, List.not_mem_nil, or_false] at hi
              subst hi
              have qx := hR3.c4 (set_at Hat.out)
              have qf := hR3.fz (m * 7 + 4)
              refine wpOp_skip (w' := (x3.setCell ⟨g, m * 7 + 3, none⟩ (.string (turnS k o.path))).setCell ⟨g, m * 7 + 4, none⟩ (.string (turnS k o.other))) rfl (by kernel_rfl) (by go_simp) ⟨trivial, ?_⟩
              clear qx qf
              replace hR3 := hR3.put (v := .string (turnS k o.other)) (o' := ⟨o.client, o.kind, o.branch, turnS k o.path, turnS k o.other, o.text, o.n⟩) (set_at Hat.out) (j := 4) (by omega) rfl
              replace hf3 := hf3.at_ (m * 7 + 4) (.string (turnS k o.other))
              go_simp
              refine wpAnyH_take (i := 27) rfl (by decide +kernel) (by decide +kernel) (by decide +kernel) (fun _ _ _ h => h) (Or.inl ⟨by kernel_rfl, fun W _ => by go_simp; with_reducible rfl⟩) trivial ?_
              refine wpAnyH_take (i := 28) rfl (by decide +kernel) (by decide +kernel) (by decide +kernel) (fun _ _ _ h => h) (Or.inl ⟨by kernel_rfl, fun W _ => by go_simp; with_reducible rfl⟩) trivial ?_
              go_simp
              refine wpAnyH_all (rs := [29]) (by decide +kernel) (by simp) ?_
              intro i hi
              simp only [List.mem_cons, List.not_mem_nil, or_false] at hi
              subst hi
              have qx := hR3.c5 (set_at (set_at Hat.out))
              have qf := hR3.fz (m * 7 + 5)
              refine wpOp_skip (w' := ((x3.setCell ⟨g, m * 7 + 3, none⟩ (.string (turnS k o.path))).setCell ⟨g, m * 7 + 4, none⟩ (.string (turnS k o.other))).setCell ⟨g, m * 7 + 5, none⟩ (.string (turnS k o.text))) rfl (by kernel_rfl) (by go_simp) ⟨trivial, ?_⟩
              clear qx qf
              replace hR3 := hR3.put (v := .string (turnS k o.text)) (o' := opTurn k o) (set_at (set_at Hat.out)) (j := 5) (by omega) rfl
              replace hf3 := hf3.at_ (m * 7 + 5) (.string (turnS k o.text))
              go_simp
              refine wpAnyH_done (by decide +kernel) ?_ _
              rw [List.set_set, List.set_set] at hR3
              have hR4 : OpRow (((x3.setCell ⟨g, m * 7 + 3, none⟩ (.string (turnS k o.path))).setCell ⟨g, m * 7 + 4, none⟩ (.string (turnS k o.other))).setCell ⟨g, m * 7 + 5, none⟩ (.string (turnS k o.text))) g p.n8 c8 (opsTurned k s.ops (m + 1)) := by rw [Hsucc.out, ← HL.out]; exact hR3
              go_wp2
              go_meet
              case rel => exact ⟨hR4, hf3⟩
          · have qx := hT.cell' (hR9.c5 Hat.out) id
            refine wpOp_run (v := .string o.text) (w' := w4.drew) rfl (by kernel_rfl) (by go_simp) ⟨trivial, ?_⟩
            clear qx
            go_simp
            refine wpAnyH_all (rs := [6]) (by decide +kernel) (by simp) ?_
            intro i hi
            simp only [List.mem_cons, List.not_mem_nil, or_false] at hi
            subst hi
            have qx := hT.cell' (hR9.c3 Hat.out) id
            refine wpOp_run (v := .string o.path) (w' := w4.drew) rfl (by kernel_rfl) (by go_simp) ⟨trivial, ?_⟩
            clear qx
            go_simp
            refine wpAnyH_all (rs := [8]) (by decide +kernel) (by simp) ?_
            intro i hi
            simp only [List.mem_cons, List.not_mem_nil, or_false] at hi
            subst hi
            refine wpOp_call rfl rfl 22 (enters_of Try.func22 (by kernel_rfl) rfl) #[.tmp 27, .tmp 28] _ rfl _ rfl (TurnS_any w4.drew o.path k o2) ?_
            rintro e x1 ⟨rfl, hf⟩
            refine ⟨_, rfl, trivial, ?_⟩
            replace hT := hT.trans hf fun _ _ => id
            clear hf
            go_simp
            refine wpAnyH_all (rs := [14]) (by decide +kernel) (by simp) ?_
            intro i hi
            simp only [List.mem_cons, List.not_mem_nil, or_false] at hi
            subst hi
            refine wpOp_call rfl rfl 22 (enters_of Try.func22 (by kernel_rfl) rfl) #[.tmp 33, .tmp 34] _ rfl _ rfl (TurnS_any x1 o.other k o3) ?_
            rintro e x2 ⟨rfl, hf⟩
            refine ⟨_, rfl, trivial, ?_⟩
            replace hT := hT.trans hf fun _ _ => id
            clear hf
            go_simp
            refine wpAnyH_all (rs := [20]) (by decide +kernel) (by simp) ?_
            intro i hi
            simp only [List.mem_cons, List.not_mem_nil, or_false] at hi
            subst hi
            refine wpOp_call rfl rfl 22 (enters_of Try.func22 (by kernel_rfl) rfl) #[.tmp 39, .tmp 40] _ rfl _ rfl (TurnS_any x2 o.text k o4) ?_
            rintro e x3 ⟨rfl, hf⟩
            refine ⟨_, rfl, trivial, ?_⟩
            replace hT := hT.trans hf fun _ _ => id
            clear hf
            go_simp
            have hf3 := ((Fr.drew (Fr.refl (· = g) w4)).trans hT fun _ _ h => h.elim)
            have hR3 := hR9.fr hT id
            clear hT
            refine wpAnyH_take (i := 21) rfl (by decide +kernel) (by decide +kernel) (by decide +kernel) (fun _ _ _ h => h) (Or.inl ⟨by kernel_rfl, fun W _ => by go_simp; with_reducible rfl⟩) trivial ?_
            refine wpAnyH_take (i := 22) rfl (by decide +kernel) (by decide +kernel) (by decide +kernel) (fun _ _ _ h => h) (Or.inl ⟨by kernel_rfl, fun W _ => by go_simp; with_reducible rfl⟩) trivial ?_
            go_simp
            refine wpAnyH_all (rs := [23]) (by decide +kernel) (by simp) ?_
            intro i hi
            simp only [List.mem_cons, List.not_mem_nil, or_false] at hi
            subst hi
            have qx := hR3.c3 Hat.out
            have qf := hR3.fz (m * 7 + 3)
            refine wpOp_skip (w' := x3.setCell ⟨g, m * 7 + 3, none⟩ (.string (turnS k o.path))) rfl (by kernel_rfl) (by go_simp) ⟨trivial, ?_⟩
            clear qx qf
            replace hR3 := hR3.put (v := .string (turnS k o.path)) (o' := ⟨o.client, o.kind, o.branch, turnS k o.path, o.other, o.text, o.n⟩) Hat.out (j := 3) (by omega) rfl
            replace hf3 := hf3.at_ (m * 7 + 3) (.string (turnS k o.path))
            go_simp
            refine wpAnyH_take (i := 24) rfl (by decide +kernel) (by decide +kernel) (by decide +kernel) (fun _ _ _ h => h) (Or.inl ⟨by kernel_rfl, fun W _ => by go_simp; with_reducible rfl⟩) trivial ?_
            refine wpAnyH_take (i := 25) rfl (by decide +kernel) (by decide +kernel) (by decide +kernel) (fun _ _ _ h => h) (Or.inl ⟨by kernel_rfl, fun W _ => by go_simp; with_reducible rfl⟩) trivial ?_
            go_simp
            refine wpAnyH_all (rs := [26]) (by decide +kernel) (by simp) ?_
            intro i hi
            simp only [List.mem_cons, List.not_mem_nil, or_false] at hi
            subst hi
            have qx := hR3.c4 (set_at Hat.out)
            have qf := hR3.fz (m * 7 + 4)
            refine wpOp_skip (w' := (x3.setCell ⟨g, m * 7 + 3, none⟩ (.string (turnS k o.path))).setCell ⟨g, m * 7 + 4, none⟩ (.string (turnS k o.other))) rfl (by kernel_rfl) (by go_simp) ⟨trivial, ?_⟩
            clear qx qf
            replace hR3 := hR3.put (v := .string (turnS k o.other)) (o' := ⟨o.client, o.kind, o.branch, turnS k o.path, turnS k o.other, o.text, o.n⟩) (set_at Hat.out) (j := 4) (by omega) rfl
            replace hf3 := hf3.at_ (m * 7 + 4) (.string (turnS k o.other))
            go_simp
            refine wpAnyH_take (i := 27) rfl (by decide +kernel) (by decide +kernel) (by decide +kernel) (fun _ _ _ h => h) (Or.inl ⟨by kernel_rfl, fun W _ => by go_simp; with_reducible rfl⟩) trivial ?_
            refine wpAnyH_take (i := 28) rfl (by decide +kernel) (by decide +kernel) (by decide +kernel) (fun _ _ _ h => h) (Or.inl ⟨by kernel_rfl, fun W _ => by go_simp; with_reducible rfl⟩) trivial ?_
            go_simp
            refine wpAnyH_all (rs := [29]) (by decide +kernel) (by simp) ?_
            intro i hi
            simp only [List.mem_cons, List.not_mem_nil, or_false] at hi
            subst hi
            have qx := hR3.c5 (set_at (set_at Hat.out))
            have qf := hR3.fz (m * 7 + 5)
            refine wpOp_skip (w' := ((x3.setCell ⟨g, m * 7 + 3, none⟩ (.string (turnS k o.path))).setCell ⟨g, m * 7 + 4, none⟩ (.string (turnS k o.other))).setCell ⟨g, m * 7 + 5, none⟩ (.string (turnS k o.text))) rfl (by kernel_rfl) (by go_simp) ⟨trivial, ?_⟩
            clear qx qf
            replace hR3 := hR3.put (v := .string (turnS k o.text)) (o' := opTurn k o) (set_at (set_at Hat.out)) (j := 5) (by omega) rfl
            replace hf3 := hf3.at_ (m * 7 + 5) (.string (turnS k o.text))
            go_simp
            refine wpAnyH_done (by decide +kernel) ?_ _
            rw [List.set_set, List.set_set] at hR3
            have hR4 : OpRow (((x3.setCell ⟨g, m * 7 + 3, none⟩ (.string (turnS k o.path))).setCell ⟨g, m * 7 + 4, none⟩ (.string (turnS k o.other))).setCell ⟨g, m * 7 + 5, none⟩ (.string (turnS k o.text))) g p.n8 c8 (opsTurned k s.ops (m + 1)) := by rw [Hsucc.out, ← HL.out]; exact hR3
            go_wp2
            go_meet
            case rel => exact ⟨hR4, hf3⟩
        · have qx := hT.cell' (hR9.c5 Hat.out) id
          refine wpOp_run (v := .string o.text) (w' := w4.drew) rfl (by kernel_rfl) (by go_simp) ⟨trivial, ?_⟩
          clear qx
          go_simp
          refine wpAnyH_all (rs := [6, 12]) (by decide +kernel) (by simp) ?_
          intro i hi
          simp only [List.mem_cons, List.not_mem_nil, or_false] at hi
          rcases hi with rfl | rfl
          · have qx := hT.cell' (hR9.c3 Hat.out) id
            refine wpOp_run (v := .string o.path) (w' := w4.drew) rfl (by kernel_rfl) (by go_simp) ⟨trivial, ?_⟩
            clear qx
            go_simp
            refine wpAnyH_all (rs := [8, 12]) (by decide +kernel) (by simp) ?_
            intro i hi
            simp only [List.mem_cons, List.not_mem_nil, or_false] at hi
            rcases hi with rfl | rfl
            · refine wpOp_call rfl rfl 22 (enters_of Try.func22 (by kernel_rfl) rfl) #[.tmp 27, .tmp 28] _ rfl _ rfl (TurnS_any w4.drew o.path k o2) ?_
              rintro e x1 ⟨rfl, hf⟩
              refine ⟨_, rfl, trivial, ?_⟩
              replace hT := hT.trans hf fun _ _ => id
              clear hf
              go_simp
              refine wpAnyH_all (rs := [12]) (by decide +kernel) (by simp) ?_
              intro i hi
              simp only [List.mem_cons, List.not_mem_nil, or_false] at hi
              subst hi
              have qx := hT.cell' (hR9.c4 Hat.out) id
              refine wpOp_run (v := .string o.other) (w' := x1) rfl (by kernel_rfl) (by go_simp) ⟨trivial, ?_⟩
              clear qx
              go_simp
              refine wpAnyH_all (rs := [14]) (by decide +kernel) (by simp) ?_
              intro i hi
              simp only [List.mem_cons, List.not_mem_nil, or_false] at hi
              subst hi
              refine wpOp_call rfl rfl 22 (enters_of Try.func22 (by kernel_rfl) rfl) #[.tmp 33, .tmp 34] _ rfl _ rfl (TurnS_any x1 o.other k o3) ?_
              rintro e x2 ⟨rfl, hf⟩
              refine ⟨_, rfl, trivial, ?_⟩
              replace hT := hT.trans hf fun _ _ => id
              clear hf
              go_simp
              refine wpAnyH_all (rs := [20]) (by decide +kernel) (by simp) ?_
              intro i hi
              simp only [List.mem_cons, List.not_mem_nil, or_false] at hi
              subst hi
              refine wpOp_call rfl rfl 22 (enters_of Try.func22 (by kernel_rfl) rfl) #[.tmp 39, .tmp 40] _ rfl _ rfl (TurnS_any x2 o.text k o4) ?_
              rintro e x3 ⟨rfl, hf⟩
              refine ⟨_, rfl, trivial, ?_⟩
              replace hT := hT.trans hf fun _ _ => id
              clear hf
              go_simp
              have hf3 := ((Fr.drew (Fr.refl (· = g) w4)).trans hT fun _ _ h => h.elim)
              have hR3 := hR9.fr hT id
              clear hT
              refine wpAnyH_take (i := 21) rfl (by decide +kernel) (by decide +kernel) (by decide +kernel) (fun _ _ _ h => h) (Or.inl ⟨by kernel_rfl, fun W _ => by go_simp; with_reducible rfl⟩) trivial ?_
              refine wpAnyH_take (i := 22) rfl (by decide +kernel) (by decide +kernel) (by decide +kernel) (fun _ _ _ h => h) (Or.inl ⟨by kernel_rfl, fun W _ => by go_simp; with_reducible rfl⟩) trivial ?_
              go_simp
              refine wpAnyH_all (rs := [23]) (by decide +kernel) (by simp) ?_
              intro i hi
              simp only [List.mem_cons, List.not_mem_nil, or_false] at hi
              subst hi
              have qx := hR3.c3 Hat.out
              have qf := hR3.fz (m * 7 + 3)
              refine wpOp_skip (w' := x3.setCell ⟨g, m * 7 + 3, none⟩ (.string (turnS k o.path))) rfl (by kernel_rfl) (by go_simp) ⟨trivial, ?_⟩
              clear qx qf
              replace hR3 := hR3.put (v := .string (turnS k o.path)) (o' := ⟨o.client, o.kind, o.branch, turnS k o.path, o.other, o.text, o.n⟩) Hat.out (j := 3) (by omega) rfl
              replace hf3 := hf3.at_ (m * 7 + 3) (.string (turnS k o.path))
              go_simp
              refine wpAnyH_take (i := 24) rfl (by decide +kernel) (by decide +kernel) (by decide +kernel) (fun _ _ _ h => h) (Or.inl ⟨by kernel_rfl, fun W _ => by go_simp; with_reducible rfl⟩) trivial ?_
              refine wpAnyH_take (i := 25) rfl (by decide +kernel) (by decide +kernel) (by decide +kernel) (fun _ _ _ h => h) (Or.inl ⟨by kernel_rfl, fun W _ => by go_simp; with_reducible rfl⟩) trivial ?_
              go_simp
              refine wpAnyH_all (rs := [26]) (by decide +kernel) (by simp) ?_
              intro i hi
              simp only [List.mem_cons, List.not_mem_nil, or_false] at hi
              subst hi
              have qx := hR3.c4 (set_at Hat.out)
              have qf := hR3.fz (m * 7 + 4)
              refine wpOp_skip (w' := (x3.setCell ⟨g, m * 7 + 3, none⟩ (.string (turnS k o.path))).setCell ⟨g, m * 7 + 4, none⟩ (.string (turnS k o.other))) rfl (by kernel_rfl) (by go_simp) ⟨trivial, ?_⟩
              clear qx qf
              replace hR3 := hR3.put (v := .string (turnS k o.other)) (o' := ⟨o.client, o.kind, o.branch, turnS k o.path, turnS k o.other, o.text, o.n⟩) (set_at Hat.out) (j := 4) (by omega) rfl
              replace hf3 := hf3.at_ (m * 7 + 4) (.string (turnS k o.other))
              go_simp
              refine wpAnyH_take (i := 27) rfl (by decide +kernel) (by decide +kernel) (by decide +kernel) (fun _ _ _ h => h) (Or.inl ⟨by kernel_rfl, fun W _ => by go_simp; with_reducible rfl⟩) trivial ?_
              refine wpAnyH_take (i := 28) rfl (by decide +kernel) (by decide +kernel) (by decide +kernel) (fun _ _ _ h => h) (Or.inl ⟨by kernel_rfl, fun W _ => by go_simp; with_reducible rfl⟩) trivial ?_
              go_simp
              refine wpAnyH_all (rs := [29]) (by decide +kernel) (by simp) ?_
              intro i hi
              simp only [List.mem_cons, List.not_mem_nil, or_false] at hi
              subst hi
              have qx := hR3.c5 (set_at (set_at Hat.out))
              have qf := hR3.fz (m * 7 + 5)
              refine wpOp_skip (w' := ((x3.setCell ⟨g, m * 7 + 3, none⟩ (.string (turnS k o.path))).setCell ⟨g, m * 7 + 4, none⟩ (.string (turnS k o.other))).setCell ⟨g, m * 7 + 5, none⟩ (.string (turnS k o.text))) rfl (by kernel_rfl) (by go_simp) ⟨trivial, ?_⟩
              clear qx qf
              replace hR3 := hR3.put (v := .string (turnS k o.text)) (o' := opTurn k o) (set_at (set_at Hat.out)) (j := 5) (by omega) rfl
              replace hf3 := hf3.at_ (m * 7 + 5) (.string (turnS k o.text))
              go_simp
              refine wpAnyH_done (by decide +kernel) ?_ _
              rw [List.set_set, List.set_set] at hR3
              have hR4 : OpRow (((x3.setCell ⟨g, m * 7 + 3, none⟩ (.string (turnS k o.path))).setCell ⟨g, m * 7 + 4, none⟩ (.string (turnS k o.other))).setCell ⟨g, m * 7 + 5, none⟩ (.string (turnS k o.text))) g p.n8 c8 (opsTurned k s.ops (m + 1)) := by rw [Hsucc.out, ← HL.out]; exact hR3
              go_wp2
              go_meet
              case rel => exact ⟨hR4, hf3⟩
            · have qx := hT.cell' (hR9.c4 Hat.out) id
              refine wpOp_run (v := .string o.other) (w' := w4.drew) rfl (by kernel_rfl) (by go_simp) ⟨trivial, ?_⟩
              clear qx
              go_simp
              refine wpAnyH_all (rs := [8]) (by decide +kernel) (by simp) ?_
              intro i hi
              simp only [List.mem_cons, List.not_mem_nil, or_false] at hi
              subst hi
              refine wpOp_call rfl rfl 22 (enters_of Try.func22 (by kernel_rfl) rfl) #[.tmp 27, .tmp 28] _ rfl _ rfl (TurnS_any w4.drew o.path k o2) ?_
              rintro e x1 ⟨rfl, hf⟩
              refine ⟨_, rfl, trivial, ?_⟩
              replace hT := hT.trans hf fun _ _ => id
              clear hf
              go_simp
              refine wpAnyH_all (rs := [14]) (by decide +kernel) (by simp) ?_
              intro i hi
              simp only [List.mem_cons, List.not_mem_nil, or_false] at hi
              subst hi
              refine wpOp_call rfl rfl 22 (enters_of Try.func22 (by kernel_rfl) rfl) #[.tmp 33, .tmp 34] _ rfl _ rfl (TurnS_any x1 o.other k o3) ?_
              rintro e x2 ⟨rfl, hf⟩
              refine ⟨_, rfl, trivial, ?_⟩
              replace hT := hT.trans hf fun _ _ => id
              clear hf
              go_simp
              refine wpAnyH_all (rs := [20]) (by decide +kernel) (by simp) ?_
              intro i hi
              simp only [List.mem_cons, List.not_mem_nil, or_false] at hi
              subst hi
              refine wpOp_call rfl rfl 22 (enters_of Try.func22 (by kernel_rfl) rfl) #[.tmp 39, .tmp 40] _ rfl _ rfl (TurnS_any x2 o.text k o4) ?_
              rintro e x3 ⟨rfl, hf⟩
              refine ⟨_, rfl, trivial, ?_⟩
              replace hT := hT.trans hf fun _ _ => id
              clear hf
              go_simp
              have hf3 := ((Fr.drew (Fr.refl (· = g) w4)).trans hT fun _ _ h => h.elim)
              have hR3 := hR9.fr hT id
              clear hT
              refine wpAnyH_take (i := 21) rfl (by decide +kernel) (by decide +kernel) (by decide +kernel) (fun _ _ _ h => h) (Or.inl ⟨by kernel_rfl, fun W _ => by go_simp; with_reducible rfl⟩) trivial ?_
              refine wpAnyH_take (i := 22) rfl (by decide +kernel) (by decide +kernel) (by decide +kernel) (fun _ _ _ h => h) (Or.inl ⟨by kernel_rfl, fun W _ => by go_simp; with_reducible rfl⟩) trivial ?_
              go_simp
              refine wpAnyH_all (rs := [23]) (by decide +kernel) (by simp) ?_
              intro i hi
              simp only [List.mem_cons, List.not_mem_nil, or_false] at hi
              subst hi
              have qx := hR3.c3 Hat.out
              have qf := hR3.fz (m * 7 + 3)
              refine wpOp_skip (w' := x3.setCell ⟨g, m * 7 + 3, none⟩ (.string (turnS k o.path))) rfl (by kernel_rfl) (by go_simp) ⟨trivial, ?_⟩
              clear qx qf
              replace hR3 := hR3.put (v := .string (turnS k o.path)) (o' := ⟨o.client, o.kind, o.branch, turnS k o.path, o.other, o.text, o.n⟩) Hat.out (j := 3) (by omega) rfl
              replace hf3 := hf3.at_ (m * 7 + 3) (.string (turnS k o.path))
              go_simp
              refine wpAnyH_take (i := 24) rfl (by decide +kernel) (by decide +kernel) (by decide +kernel) (fun _ _ _ h => h) (Or.inl ⟨by kernel_rfl, fun W _ => by go_simp; with_reducible rfl⟩) trivial ?_
              refine wpAnyH_take (i := 25) rfl (by decide +kernel) (by decide +kernel) (by decide +kernel) (fun _ _ _ h => h) (Or.inl ⟨by kernel_rfl, fun W _ => by go_simp; with_reducible rfl⟩) trivial ?_
              go_simp
              refine wpAnyH_all (rs := [26]) (by decide +kernel) (by simp) ?_
              intro i hi
              simp only [List.mem_cons, List.not_mem_nil, or_false] at hi
              subst hi
              have qx := hR3.c4 (set_at Hat.out)
              have qf := hR3.fz (m * 7 + 4)
              refine wpOp_skip (w' := (x3.setCell ⟨g, m * 7 + 3, none⟩ (.string (turnS k o.path))).setCell ⟨g, m * 7 + 4, none⟩ (.string (turnS k o.other))) rfl (by kernel_rfl) (by go_simp) ⟨trivial, ?_⟩
              clear qx qf
              replace hR3 := hR3.put (v := .string (turnS k o.other)) (o' := ⟨o.client, o.kind, o.branch, turnS k o.path, turnS k o.other, o.text, o.n⟩) (set_at Hat.out) (j := 4) (by omega) rfl
              replace hf3 := hf3.at_ (m * 7 + 4) (.string (turnS k o.other))
              go_simp
              refine wpAnyH_take (i := 27) rfl (by decide +kernel) (by decide +kernel) (by decide +kernel) (fun _ _ _ h => h) (Or.inl ⟨by kernel_rfl, fun W _ => by go_simp; with_reducible rfl⟩) trivial ?_
              refine wpAnyH_take (i := 28) rfl (by decide +kernel) (by decide +kernel) (by decide +kernel) (fun _ _ _ h => h) (Or.inl ⟨by kernel_rfl, fun W _ => by go_simp; with_reducible rfl⟩) trivial ?_
              go_simp
              refine wpAnyH_all (rs := [29]) (by decide +kernel) (by simp) ?_
              intro i hi
              simp only [List.mem_cons, List.not_mem_nil, or_false] at hi
              subst hi
              have qx := hR3.c5 (set_at (set_at Hat.out))
              have qf := hR3.fz (m * 7 + 5)
              refine wpOp_skip (w' := ((x3.setCell ⟨g, m * 7 + 3, none⟩ (.string (turnS k o.path))).setCell ⟨g, m * 7 + 4, none⟩ (.string (turnS k o.other))).setCell ⟨g, m * 7 + 5, none⟩ (.string (turnS k o.text))) rfl (by kernel_rfl) (by go_simp) ⟨trivial, ?_⟩
              clear qx qf
              replace hR3 := hR3.put (v := .string (turnS k o.text)) (o' := opTurn k o) (set_at (set_at Hat.out)) (j := 5) (by omega) rfl
              replace hf3 := hf3.at_ (m * 7 + 5) (.string (turnS k o.text))
              go_simp
              refine wpAnyH_done (by decide +kernel) ?_ _
              rw [List.set_set, List.set_set] at hR3
              have hR4 : OpRow (((x3.setCell ⟨g, m * 7 + 3, none⟩ (.string (turnS k o.path))).setCell ⟨g, m * 7 + 4, none⟩ (.string (turnS k o.other))).setCell ⟨g, m * 7 + 5, none⟩ (.string (turnS k o.text))) g p.n8 c8 (opsTurned k s.ops (m + 1)) := by rw [Hsucc.out, ← HL.out]; exact hR3
              go_wp2
              go_meet
              case rel => exact ⟨hR4, hf3⟩
          · have qx := hT.cell' (hR9.c4 Hat.out) id
            refine wpOp_run (v := .string o.other) (w' := w4.drew) rfl (by kernel_rfl) (by go_simp) ⟨trivial, ?_⟩
            clear qx
            go_simp
            refine wpAnyH_all (rs := [6]) (by decide +kernel) (by simp) ?_
            intro i hi
            simp only [List.mem_cons, List.not_mem_nil, or_false] at hi
            subst hi
            have qx := hT.cell' (hR9.c3 Hat.out) id
            refine wpOp_run (v := .string o.path) (w' := w4.drew) rfl (by kernel_rfl) (by go_simp) ⟨trivial, ?_⟩
            clear qx
            go_simp
            refine wpAnyH_all (rs := [8]) (by decide +kernel) (by simp) ?_
            intro i hi
            simp only [List.mem_cons, List.not_mem_nil, or_false] at hi
            subst hi
            refine wpOp_call rfl rfl 22 (enters_of Try.func22 (by kernel_rfl) rfl) #[.tmp 27, .tmp 28] _ rfl _ rfl (TurnS_any w4.drew o.path k o2) ?_
            rintro e x1 ⟨rfl, hf⟩
            refine ⟨_, rfl, trivial, ?_⟩
            replace hT := hT.trans hf fun _ _ => id
            clear hf
            go_simp
            refine wpAnyH_all (rs := [14]) (by decide +kernel) (by simp) ?_
            intro i hi
            simp only [List.mem_cons, List.not_mem_nil, or_false] at hi
            subst hi
            refine wpOp_call rfl rfl 22 (enters_of Try.func22 (by kernel_rfl) rfl) #[.tmp 33, .tmp 34] _ rfl _ rfl (TurnS_any x1 o.other k o3) ?_
            rintro e x2 ⟨rfl, hf⟩
            refine ⟨_, rfl, trivial, ?_⟩
            replace hT := hT.trans hf fun _ _ => id
            clear hf
            go_simp
            refine wpAnyH_all (rs := [20]) (by decide +kernel) (by simp) ?_
            intro i hi
            simp only [List.mem_cons, List.not_mem_nil, or_false] at hi
            subst hi
            refine wpOp_call rfl rfl 22 (enters_of Try.func22 (by kernel_rfl) rfl) #[.tmp 39, .tmp 40] _ rfl _ rfl (TurnS_any x2 o.text k o4) ?_
            rintro e x3 ⟨rfl, hf⟩
            refine ⟨_, rfl, trivial, ?_⟩
            replace hT := hT.trans hf fun _ _ => id
            clear hf
            go_simp
            have hf3 := ((Fr.drew (Fr.refl (· = g) w4)).trans hT fun _ _ h => h.elim)
            have hR3 := hR9.fr hT id
            clear hT
            refine wpAnyH_take (i := 21) rfl (by decide +kernel) (by decide +kernel) (by decide +kernel) (fun _ _ _ h => h) (Or.inl ⟨by kernel_rfl, fun W _ => by go_simp; with_reducible rfl⟩) trivial ?_
            refine wpAnyH_take (i := 22) rfl (by decide +kernel) (by decide +kernel) (by decide +kernel) (fun _ _ _ h => h) (Or.inl ⟨by kernel_rfl, fun W _ => by go_simp; with_reducible rfl⟩) trivial ?_
            go_simp
            refine wpAnyH_all (rs := [23]) (by decide +kernel) (by simp) ?_
            intro i hi
            simp only [List.mem_cons, List.not_mem_nil, or_false] at hi
            subst hi
            have qx := hR3.c3 Hat.out
            have qf := hR3.fz (m * 7 + 3)
            refine wpOp_skip (w' := x3.setCell ⟨g, m * 7 + 3, none⟩ (.string (turnS k o.path))) rfl (by kernel_rfl) (by go_simp) ⟨trivial, ?_⟩
            clear qx qf
            replace hR3 := hR3.put (v := .string (turnS k o.path)) (o' := ⟨o.client, o.kind, o.branch, turnS k o.path, o.other, o.text, o.n⟩) Hat.out (j := 3) (by omega) rfl
            replace hf3 := hf3.at_ (m * 7 + 3) (.string (turnS k o.path))
            go_simp
            refine wpAnyH_take (i := 24) rfl (by decide +kernel) (by decide +kernel) (by decide +kernel) (fun _ _ _ h => h) (Or.inl ⟨by kernel_rfl, fun W _ => by go_simp; with_reducible rfl⟩) trivial ?_
            refine wpAnyH_take (i := 25) rfl (by decide +kernel) (by decide +kernel) (by decide +kernel) (fun _ _ _ h => h) (Or.inl ⟨by kernel_rfl, fun W _ => by go_simp; with_reducible rfl⟩) trivial ?_
            go_simp
            refine wpAnyH_all (rs := [26]) (by decide +kernel) (by simp) ?_
            intro i hi
            simp only [List.mem_cons, List.not_mem_nil, or_false] at hi
            subst hi
            have qx := hR3.c4 (set_at Hat.out)
            have qf := hR3.fz (m * 7 + 4)
            refine wpOp_skip (w' := (x3.setCell ⟨g, m * 7 + 3, none⟩ (.string (turnS k o.path))).setCell ⟨g, m * 7 + 4, none⟩ (.string (turnS k o.other))) rfl (by kernel_rfl) (by go_simp) ⟨trivial, ?_⟩
            clear qx qf
            replace hR3 := hR3.put (v := .string (turnS k o.other)) (o' := ⟨o.client, o.kind, o.branch, turnS k o.path, turnS k o.other, o.text, o.n⟩) (set_at Hat.out) (j := 4) (by omega) rfl
            replace hf3 := hf3.at_ (m * 7 + 4) (.string (turnS k o.other))
            go_simp
            refine wpAnyH_take (i := 27) rfl (by decide +kernel) (by decide +kernel) (by decide +kernel) (fun _ _ _ h => h) (Or.inl ⟨by kernel_rfl, fun W _ => by go_simp; with_reducible rfl⟩) trivial ?_
            refine wpAnyH_take (i := 28) rfl (by decide +kernel) (by decide +kernel) (by decide +kernel) (fun _ _ _ h => h) (Or.inl ⟨by kernel_rfl, fun W _ => by go_simp; with_reducible rfl⟩) trivial ?_
            go_simp
            refine wpAnyH_all (rs := [29]) (by decide +kernel) (by simp) ?_
            intro i hi
            simp only [List.mem_cons, List.not_mem_nil, or_false] at hi
            subst hi
            have qx := hR3.c5 (set_at (set_at Hat.out))
            have qf := hR3.fz (m * 7 + 5)
            refine wpOp_skip (w' := ((x3.setCell ⟨g, m * 7 + 3, none⟩ (.string (turnS k o.path))).setCell ⟨g, m * 7 + 4, none⟩ (.string (turnS k o.other))).setCell ⟨g, m * 7 + 5, none⟩ (.string (turnS k o.text))) rfl (by kernel_rfl) (by go_simp) ⟨trivial, ?_⟩
            clear qx qf
            replace hR3 := hR3.put (v := .string (turnS k o.text)) (o' := opTurn k o) (set_at (set_at Hat.out)) (j := 5) (by omega) rfl
            replace hf3 := hf3.at_ (m * 7 + 5) (.string (turnS k o.text))
            go_simp
            refine wpAnyH_done (by decide +kernel) ?_ _
            rw [List.set_set, List.set_set] at hR3
            have hR4 : OpRow (((x3.setCell ⟨g, m * 7 + 3, none⟩ (.string (turnS k o.path))).setCell ⟨g, m * 7 + 4, none⟩ (.string (turnS k o.other))).setCell ⟨g, m * 7 + 5, none⟩ (.string (turnS k o.text))) g p.n8 c8 (opsTurned k s.ops (m + 1)) := by rw [Hsucc.out, ← HL.out]; exact hR3
            go_wp2
            go_meet
            case rel => exact ⟨hR4, hf3⟩
    · have hme : m = p.n8 := by omega
      subst hme
      rw [opsTurned_all (by rw [Hlen.out]; exact Nat.le_refl _)] at hO
      have I8 : Opns w4 (fun j => B + 2 ≤ j) A8 p.n8 (s.ops.map (opTurn k)) := Opns.of_arr (hO.arr fun j _ hj => hin j hj) (by rw [List.length_map, Hlen.out]) (fun o ho => by obtain ⟨a, ha, rfl⟩ := List.mem_map.1 ho; exact opTurn_wf (Hwf.out a ha))
      have hle8 := hO.le
      have hcap8 := hO.cap
      replace j1 := j1.fr hFr fun j hj e => by have := hG0 j hj; omega
      replace j5 := j5.fr hFr fun j hj e => by have := hG0 j hj; omega
      replace j6 := j6.fr hFr fun j hj e => by have := hG0 j hj; omega
      replace j7 := j7.fr hFr fun j hj e => by have := hG0 j hj; omega
      replace hF := hF.new hFr fun j hj => .inr (by have := HB.out; omega)
      have hsz4 := Nat.le_trans hsz2 hFr.size
      have hFB : ∀ j, F j → ¬ j = B := fun j hj e => by have := hG0 j hj; omega
      clear hO hFr hmn hin8 Hlen Hwf q8
      go_wp2
      go_cut [] from 49 to 56 (fun W => ∃ Q1 d1' Q5 d5', Fr (· = B) w4 W ∧ ScrBlk W B s { { { p with A8 := A8, n8 := p.n8, c8 := c8 } with A1 := Q1, n1 := p.n1, c1 := d1' } with A5 := Q5, n5 := p.n5, c5 := d5' } ∧ Own W 5 1 Q1 p.n1 d1' (s.draws.map bv) ∧ Own W 129 2 Q5 p.n5 d5' (s.crashes.flatMap twoCells) ∧ (∀ j, inB Q1 j → B + 2 ≤ j) ∧ ∀ j, inB Q5 j → B + 2 ≤ j)
      case first =>
        refine wp_region_held (S := fun _ => True) rfl ?_
        have hT : Fr (· = B) w4 w4.drew := Fr.drew (Fr.refl _ _)
        replace hBs := hBs.fr (Fr.drew (Fr.refl NoB w4)) id
        refine wpAnyH_take (i := 0) rfl (by decide +kernel) (by decide +kernel) (by decide +kernel) (fun _ _ _ h => h) (Or.inl ⟨by kernel_rfl, fun W _ => by go_simp; with_reducible rfl⟩) trivial ?_
        refine wpAnyH_take (i := 3) rfl (by decide +kernel) (by decide +kernel) (by decide +kernel) (fun _ _ _ h => h) (Or.inl ⟨by kernel_rfl, fun W _ => by go_simp; with_reducible rfl⟩) trivial ?_
        go_simp
        refine wpAnyH_all (rs := [1, 4]) (by decide +kernel) (by simp) ?_
        intro i hi
        simp only [List.mem_cons, List.not_mem_nil, or_false] at hi
        rcases hi with rfl | rfl
        · have qx := hBs.c1
          refine wpOp_run (v := .slice p.A1 p.n1 p.c1) (w' := w4.drew) rfl (by kernel_rfl) (by go_simp) ⟨trivial, ?_⟩
          clear qx
          go_simp
          refine wpAnyH_all (rs := [2, 4]) (by decide +kernel) (by simp) ?_
          intro i hi
          simp only [List.mem_cons, List.not_mem_nil, or_false] at hi
          rcases hi with rfl | rfl
          · refine wpOp_call rfl rfl 74 (enters_of Try.func74 (by kernel_rfl) rfl) #[.tmp 50] _ rfl _ rfl (CloneB_any _ _ _ _ p.c1 _ (j1.fr hT hFB) (bv_one _) (by omega)) ?_
            rintro e y2 ⟨Q1, d1', rfl, hO1, hf, hin1⟩
            replace hin1 := fun j hj => Nat.le_trans (Nat.le_trans hsz4 hT.size) (hin1 j hj)
            replace hT := hT.trans hf fun _ _ h => h.elim
            replace hBs := hBs.fr hf id
            clear hf
            refine ⟨_, rfl, trivial, ?_⟩
            go_simp
            refine wpAnyH_all (rs := [4]) (by decide +kernel) (by simp) ?_
            intro i hi
            simp only [List.mem_cons, List.not_mem_nil, or_false] at hi
            subst hi
            have qx := hBs.c5
            refine wpOp_run (v := .slice p.A5 p.n5 p.c5) (w' := y2) rfl (by kernel_rfl) (by go_simp) ⟨trivial, ?_⟩
            clear qx
            go_simp
            refine wpAnyH_take (i := 6) rfl (by decide +kernel) (by decide +kernel) (by decide +kernel) (fun _ _ _ h => h) (Or.inl ⟨by kernel_rfl, fun W _ => by go_simp; with_reducible rfl⟩) trivial ?_
            go_simp
            refine wpAnyH_all (rs := [5]) (by decide +kernel) (by simp) ?_
            intro i hi
            simp only [List.mem_cons, List.not_mem_nil, or_false] at hi
            subst hi
            refine wpOp_call rfl rfl 75 (enters_of Try.func75 (by kernel_rfl) rfl) #[.tmp 53] _ rfl _ rfl (CloneCrashes_any _ _ _ _ p.c5 _ (j5.fr hT hFB).arr (twos_ones _) (by omega)) ?_
            rintro e y5 ⟨Q5, d5', rfl, hO5, hf, hin5⟩
            replace hin5 := fun j hj => Nat.le_trans (Nat.le_trans hsz4 hT.size) (hin5 j hj)
            replace hT := hT.trans hf fun _ _ h => h.elim
            replace hBs := hBs.fr hf id
            replace hO1 := hO1.fr hf fun _ _ => id
            clear hf
            refine ⟨_, rfl, trivial, ?_⟩
            go_simp
            refine wpAnyH_all (rs := [7]) (by decide +kernel) (by simp) ?_
            intro i hi
            simp only [List.mem_cons, List.not_mem_nil, or_false] at hi
            subst hi
            have qx := hBs.c1
            have qf := hBs.blk.frozen 1
            obtain ⟨y7, hy7⟩ : ∃ y, y = y5.setCell ⟨B, 1, none⟩ (.slice Q1 p.n1 d1') := ⟨_, rfl⟩
            refine wpOp_skip (w' := y7) rfl (by kernel_rfl) (by rw [hy7]; go_simp) ⟨trivial, ?_⟩
            have hf : Fr (· = B) y5 y7 := by rw [hy7]; exact (Fr.refl _ _).at_ _ _
            replace hBs := hBs.s1 Q1 p.n1 d1'
            rw [← hy7] at hBs
            replace hT := hT.trans hf fun _ _ h => h
            replace hO1 := hO1.fr hf fun j hj e => by have := hin1 j hj; omega
            replace hO5 := hO5.fr hf fun j hj e => by have := hin5 j hj; omega
            clear qx qf hy7 hf
            go_simp
            refine wpAnyH_take (i := 8) rfl (by decide +kernel) (by decide +kernel) (by decide +kernel) (fun _ _ _ h => h) (Or.inl ⟨by kernel_rfl, fun W _ => by go_simp; with_reducible rfl⟩) trivial ?_
            go_simp
            refine wpAnyH_all (rs := [9]) (by decide +kernel) (by simp) ?_
            intro i hi
            simp only [List.mem_cons, List.not_mem_nil, or_false] at hi
            subst hi
            have qx := hBs.c5
            have qf := hBs.blk.frozen 5
            obtain ⟨y9, hy9⟩ : ∃ y, y = y7.setCell ⟨B, 5, none⟩ (.slice Q5 p.n5 d5') := ⟨_, rfl⟩
            refine wpOp_skip (w' := y9) rfl (by kernel_rfl) (by rw [hy9]; go_simp) ⟨trivial, ?_⟩
            have hf : Fr (· = B) y7 y9 := by rw [hy9]; exact (Fr.refl _ _).at_ _ _
            replace hBs := hBs.s5 Q5 p.n5 d5'
            rw [← hy9] at hBs
            replace hT := hT.trans hf fun _ _ h => h
            replace hO1 := hO1.fr hf fun j hj e => by have := hin1 j hj; omega
            replace hO5 := hO5.fr hf fun j hj e => by have := hin5 j hj; omega
            clear qx qf hy9 hf
            go_simp
            refine wpAnyH_done (by decide +kernel) ?_ _
            go_wp2
            go_meet
            case rel => exact ⟨Q1, d1', Q5, d5', hT, hBs, hO1, hO5, hin1, hin5⟩
          · have qx := hBs.c5
            refine wpOp_run (v := .slice p.A5 p.n5 p.c5) (w' := w4.drew) rfl (by kernel_rfl) (by go_simp) ⟨trivial, ?_⟩
            clear qx
            go_simp
            refine wpAnyH_all (rs := [2]) (by decide +kernel) (by simp) ?_
            intro i hi
            simp only [List.mem_cons, List.not_mem_nil, or_false] at hi
            subst hi
            refine wpOp_call rfl rfl 74 (enters_of Try.func74 (by kernel_rfl) rfl) #[.tmp 50] _ rfl _ rfl (CloneB_any _ _ _ _ p.c1 _ (j1.fr hT hFB) (bv_one _) (by omega)) ?_
            rintro e y2 ⟨Q1, d1', rfl, hO1, hf, hin1⟩
            replace hin1 := fun j hj => Nat.le_trans (Nat.le_trans hsz4 hT.size) (hin1 j hj)
            replace hT := hT.trans hf fun _ _ h => h.elim
            replace hBs := hBs.fr hf id
            clear hf
            refine ⟨_, rfl, trivial, ?_⟩
            go_simp
            refine wpAnyH_take (i := 6) rfl (by decide +kernel) (by decide +kernel) (by decide +kernel) (fun _ _ _ h => h) (Or.inl ⟨by kernel_rfl, fun W _ => by go_simp; with_reducible rfl⟩) trivial ?_
            go_simp
            refine wpAnyH_all (rs := [5]) (by decide +kernel) (by simp) ?_
            intro i hi
            simp only [List.mem_cons, List.not_mem_nil, or_false] at hi
            subst hi
            refine wpOp_call rfl rfl 75 (enters_of Try.func75 (by kernel_rfl) rfl) #[.tmp 53] _ rfl _ rfl (CloneCrashes_any _ _ _ _ p.c5 _ (j5.fr hT hFB).arr (twos_ones _) (by omega)) ?_
            rintro e y5 ⟨Q5, d5', rfl, hO5, hf, hin5⟩
            replace hin5 := fun j hj => Nat.le_trans (Nat.le_trans hsz4 hT.size) (hin5 j hj)
            replace hT := hT.trans hf fun _ _ h => h.elim
            replace hBs := hBs.fr hf id
            replace hO1 := hO1.fr hf fun _ _ => id
            clear hf
            refine ⟨_, rfl, trivial, ?_⟩
            go_simp
            refine wpAnyH_all (rs := [7]) (by decide +kernel) (by simp) ?_
            intro i hi
            simp only [List.mem_cons, List.not_mem_nil, or_false] at hi
            subst hi
            have qx := hBs.c1
            have qf := hBs.blk.frozen 1
            obtain ⟨y7, hy7⟩ : ∃ y, y = y5.setCell ⟨B, 1, none⟩ (.slice Q1 p.n1 d1') := ⟨_, rfl⟩
            refine wpOp_skip (w' := y7) rfl (by kernel_rfl) (by rw [hy7]; go_simp) ⟨trivial, ?_⟩
            have hf : Fr (· = B) y5 y7 := by rw [hy7]; exact (Fr.refl _ _).at_ _ _
            replace hBs := hBs.s1 Q1 p.n1 d1'
            rw [← hy7] at hBs
            replace hT := hT.trans hf fun _ _ h => h
            replace hO1 := hO1.fr hf fun j hj e => by have := hin1 j hj; omega
            replace hO5 := hO5.fr hf fun j hj e => by have := hin5 j hj; omega
            clear qx qf hy7 hf
            go_simp
            refine wpAnyH_take (i := 8) rfl (by decide +kernel) (by decide +kernel) (by decide +kernel) (fun _ _ _ h => h) (Or.inl ⟨by kernel_rfl, fun W _ => by go_simp; with_reducible rfl⟩) trivial ?_
            go_simp
            refine wpAnyH_all (rs := [9]) (by decide +kernel) (by simp) ?_
            intro i hi
            simp only [List.mem_cons, List.not_mem_nil, or_false] at hi
            subst hi
            have qx := hBs.c5
            have qf := hBs.blk.frozen 5
            obtain ⟨y9, hy9⟩ : ∃ y, y = y7.setCell ⟨B, 5, none⟩ (.slice Q5 p.n5 d5') := ⟨_, rfl⟩
            refine wpOp_skip (w' := y9) rfl (by kernel_rfl) (by rw [hy9]; go_simp) ⟨trivial, ?_⟩
            have hf : Fr (· = B) y7 y9 := by rw [hy9]; exact (Fr.refl _ _).at_ _ _
            replace hBs := hBs.s5 Q5 p.n5 d5'
            rw [← hy9] at hBs
            replace hT := hT.trans hf fun _ _ h => h
            replace hO1 := hO1.fr hf fun j hj e => by have := hin1 j hj; omega
            replace hO5 := hO5.fr hf fun j hj e => by have := hin5 j hj; omega
            clear qx qf hy9 hf
            go_simp
            refine wpAnyH_done (by decide +kernel) ?_ _
            go_wp2
            go_meet
            case rel => exact ⟨Q1, d1', Q5, d5', hT, hBs, hO1, hO5, hin1, hin5⟩
        · have qx := hBs.c5
          refine wpOp_run (v := .slice p.A5 p.n5 p.c5) (w' := w4.drew) rfl (by kernel_rfl) (by go_simp) ⟨trivial, ?_⟩
          clear qx
          go_simp
          refine wpAnyH_all (rs := [1]) (by decide +kernel) (by simp) ?_
          intro i hi
          simp only [List.mem_cons, List.not_mem_nil, or_false] at hi
          subst hi
          have qx := hBs.c1
          refine wpOp_run (v := .slice p.A1 p.n1 p.c1) (w' := w4.drew) rfl (by kernel_rfl) (by go_simp) ⟨trivial, ?_⟩
          clear qx
          go_simp
          refine wpAnyH_all (rs := [2]) (by decide +kernel) (by simp) ?_
          intro i hi
          simp only [List.mem_cons, List.not_mem_nil, or_false] at hi
          subst hi
          refine wpOp_call rfl rfl 74 (enters_of Try.func74 (by kernel_rfl) rfl) #[.tmp 50] _ rfl _ rfl (CloneB_any _ _ _ _ p.c1 _ (j1.fr hT hFB) (bv_one _) (by omega)) ?_
          rintro e y2 ⟨Q1, d1', rfl, hO1, hf, hin1⟩
          replace hin1 := fun j hj => Nat.le_trans (Nat.le_trans hsz4 hT.size) (hin1 j hj)
          replace hT := hT.trans hf fun _ _ h => h.elim
          replace hBs := hBs.fr hf id
          clear hf
          refine ⟨_, rfl, trivial, ?_⟩
          go_simp
          refine wpAnyH_take (i := 6) rfl (by decide +kernel) (by decide +kernel) (by decide +kernel) (fun _ _ _ h => h) (Or.inl ⟨by kernel_rfl, fun W _ => by go_simp; with_reducible rfl⟩) trivial ?_
          go_simp
          refine wpAnyH_all (rs := [5]) (by decide +kernel) (by simp) ?_
          intro i hi
          simp only [List.mem_cons, List.not_mem_nil, or_false] at hi
          subst hi
          refine wpOp_call rfl rfl 75 (enters_of Try.func75 (by kernel_rfl) rfl) #[.tmp 53] _ rfl _ rfl (CloneCrashes_any _ _ _ _ p.c5 _ (j5.fr hT hFB).arr (twos_ones _) (by omega)) ?_
          rintro e y5 ⟨Q5, d5', rfl, hO5, hf, hin5⟩
          replace hin5 := fun j hj => Nat.le_trans (Nat.le_trans hsz4 hT.size) (hin5 j hj)
          replace hT := hT.trans hf fun _ _ h => h.elim
          replace hBs := hBs.fr hf id
          replace hO1 := hO1.fr hf fun _ _ => id
          clear hf
          refine ⟨_, rfl, trivial, ?_⟩
          go_simp
          refine wpAnyH_all (rs := [7]) (by decide +kernel) (by simp) ?_
          intro i hi
          simp only [List.mem_cons, List.not_mem_nil, or_false] at hi
          subst hi
          have qx := hBs.c1
          have qf := hBs.blk.frozen 1
          obtain ⟨y7, hy7⟩ : ∃ y, y = y5.setCell ⟨B, 1, none⟩ (.slice Q1 p.n1 d1') := ⟨_, rfl⟩
          refine wpOp_skip (w' := y7) rfl (by kernel_rfl) (by rw [hy7]; go_simp) ⟨trivial, ?_⟩
          have hf : Fr (· = B) y5 y7 := by rw [hy7]; exact (Fr.refl _ _).at_ _ _
          replace hBs := hBs.s1 Q1 p.n1 d1'
          rw [← hy7] at hBs
          replace hT := hT.trans hf fun _ _ h => h
          replace hO1 := hO1.fr hf fun j hj e => by have := hin1 j hj; omega
          replace hO5 := hO5.fr hf fun j hj e => by have := hin5 j hj; omega
          clear qx qf hy7 hf
          go_simp
          refine wpAnyH_take (i := 8) rfl (by decide +kernel) (by decide +kernel) (by decide +kernel) (fun _ _ _ h => h) (Or.inl ⟨by kernel_rfl, fun W _ => by go_simp; with_reducible rfl⟩) trivial ?_
          go_simp
          refine wpAnyH_all (rs := [9]) (by decide +kernel) (by simp) ?_
          intro i hi
          simp only [List.mem_cons, List.not_mem_nil, or_false] at hi
          subst hi
          have qx := hBs.c5
          have qf := hBs.blk.frozen 5
          obtain ⟨y9, hy9⟩ : ∃ y, y = y7.setCell ⟨B, 5, none⟩ (.slice Q5 p.n5 d5') := ⟨_, rfl⟩
          refine wpOp_skip (w' := y9) rfl (by kernel_rfl) (by rw [hy9]; go_simp) ⟨trivial, ?_⟩
          have hf : Fr (· = B) y7 y9 := by rw [hy9]; exact (Fr.refl _ _).at_ _ _
          replace hBs := hBs.s5 Q5 p.n5 d5'
          rw [← hy9] at hBs
          replace hT := hT.trans hf fun _ _ h => h
          replace hO1 := hO1.fr hf fun j hj e => by have := hin1 j hj; omega
          replace hO5 := hO5.fr hf fun j hj e => by have := hin5 j hj; omega
          clear qx qf hy9 hf
          go_simp
          refine wpAnyH_done (by decide +kernel) ?_ _
          go_wp2
          go_meet
          case rel => exact ⟨Q1, d1', Q5, d5', hT, hBs, hO1, hO5, hin1, hin5⟩
      case rest =>
        obtain ⟨Q1, d1', Q5, d5', hT, hBs, hO1, hO5, hin1, hin5⟩ := hcut
        have hle1 := hO1.le
        have hcap1 := hO1.cap
        have hle5 := hO5.le
        have hcap5 := hO5.cap
        obtain ⟨w5, rfl⟩ : ∃ W : World, W = wc := ⟨_, rfl⟩
        replace hF := hF.new hT fun j hj => .inr (by have := HB.out; omega)
        replace hBz := hBz.fr hT (by omega)
        replace I8 := I8.fr hT fun j hj e => by omega
        replace hsz4 := Nat.le_trans hsz4 hT.size
        have I1 : Byt w5 (fun j => B + 2 ≤ j) Q1 p.n1 s.draws := hO1.arr fun j _ hj => hin1 j hj
        have I5 : Twos w5 (fun j => B + 2 ≤ j) Q5 p.n5 s.crashes := Twos.of_arr (hO5.arr fun j _ hj => hin5 j hj) j5.len
        replace j6 := j6.fr hT hFB
        replace j7 := j7.fr hT hFB
        clear hT hO1 hO5 j1 j5
        go_wp2
        go_cut [] from 57 to 64 (fun W => ∃ Q6 d6' Q7 d7', Fr (· = B) w5 W ∧ ScrBlk W B s { { { { { p with A8 := A8, n8 := p.n8, c8 := c8 } with A1 := Q1, n1 := p.n1, c1 := d1' } with A5 := Q5, n5 := p.n5, c5 := d5' } with A6 := Q6, n6 := p.n6, c6 := d6' } with A7 := Q7, n7 := p.n7, c7 := d7' } ∧ Own W 132 2 Q6 p.n6 d6' (s.up.flatMap twoCells) ∧ Own W 132 2 Q7 p.n7 d7' (s.down.flatMap twoCells) ∧ (∀ j, inB Q6 j → B + 2 ≤ j) ∧ ∀ j, inB Q7 j → B + 2 ≤ j)
        case first =>
          refine wp_region_held (S := fun _ => True) rfl ?_
          have hT : Fr (· = B) w5 w5.drew := Fr.drew (Fr.refl _ _)
          replace hBs := hBs.fr (Fr.drew (Fr.refl NoB w5)) id
          refine wpAnyH_take (i := 0) rfl (by decide +kernel) (by decide +kernel) (by decide +kernel) (fun _ _ _ h => h) (Or.inl ⟨by kernel_rfl, fun W _ => by go_simp; with_reducible rfl⟩) trivial ?_
          refine wpAnyH_take (i := 3) rfl (by decide +kernel) (by decide +kernel) (by decide +kernel) (fun _ _ _ h => h) (Or.inl ⟨by kernel_rfl, fun W _ => by go_simp; with_reducible rfl⟩) trivial ?_
          go_simp
          refine wpAnyH_all (rs := [1, 4]) (by decide +kernel) (by simp) ?_
          intro i hi
          simp only [List.mem_cons, List.not_mem_nil, or_false] at hi
          rcases hi with rfl | rfl
          · have qx := hBs.c6
            refine wpOp_run (v := .slice p.A6 p.n6 p.c6) (w' := w5.drew) rfl (by kernel_rfl) (by go_simp) ⟨trivial, ?_⟩
            clear qx
            go_simp
            refine wpAnyH_all (rs := [2, 4]) (by decide +kernel) (by simp) ?_
            intro i hi
            simp only [List.mem_cons, List.not_mem_nil, or_false] at hi
            rcases hi with rfl | rfl
            · refine wpOp_call rfl rfl 76 (enters_of Try.func76 (by kernel_rfl) rfl) #[.tmp 58] _ rfl _ rfl (CloneFates_any _ _ _ _ p.c6 _ (j6.fr hT hFB).arr (twos_ones _) (by omega)) ?_
              rintro e y2 ⟨Q6, d6', rfl, hO6, hf, hin6⟩
              replace hin6 := fun j hj => Nat.le_trans (Nat.le_trans hsz4 hT.size) (hin6 j hj)
              replace hT := hT.trans hf fun _ _ h => h.elim
              replace hBs := hBs.fr hf id
              clear hf
              refine ⟨_, rfl, trivial, ?_⟩
              go_simp
              refine wpAnyH_all (rs := [4]) (by decide +kernel) (by simp) ?_
              intro i hi
              simp only [List.mem_cons, List.not_mem_nil, or_false] at hi
              subst hi
              have qx := hBs.c7
              refine wpOp_run (v := .slice p.A7 p.n7 p.c7) (w' := y2) rfl (by kernel_rfl) (by go_simp) ⟨trivial, ?_⟩
              clear qx
              go_simp
              refine wpAnyH_take (i := 6) rfl (by decide +kernel) (by decide +kernel) (by decide +kernel) (fun _ _ _ h => h) (Or.inl ⟨by kernel_rfl, fun W _ => by go_simp; with_reducible rfl⟩) trivial ?_
              go_simp
              refine wpAnyH_all (rs := [5]) (by decide +kernel) (by simp) ?_
              intro i hi
              simp only [List.mem_cons, List.not_mem_nil, or_false] at hi
              subst hi
              refine wpOp_call rfl rfl 76 (enters_of Try.func76 (by kernel_rfl) rfl) #[.tmp 61] _ rfl _ rfl (CloneFates_any _ _ _ _ p.c7 _ (j7.fr hT hFB).arr (twos_ones _) (by omega)) ?_
              rintro e y5 ⟨Q7, d7', rfl, hO7, hf, hin7⟩
              replace hin7 := fun j hj => Nat.le_trans (Nat.le_trans hsz4 hT.size) (hin7 j hj)
              replace hT := hT.trans hf fun _ _ h => h.elim
              replace hBs := hBs.fr hf id
              replace hO6 := hO6.fr hf fun _ _ => id
              clear hf
              refine ⟨_, rfl, trivial, ?_⟩
              go_simp
              refine wpAnyH_all (rs := [7]) (by decide +kernel) (by simp) ?_
              intro i hi
              simp only [List.mem_cons, List.not_mem_nil, or_false] at hi
              subst hi
              have qx := hBs.c6
              have qf := hBs.blk.frozen 6
              obtain ⟨y7, hy7⟩ : ∃ y, y = y5.setCell ⟨B, 6, none⟩ (.slice Q6 p.n6 d6') := ⟨_, rfl⟩
              refine wpOp_skip (w' := y7) rfl (by kernel_rfl) (by rw [hy7]; go_simp) ⟨trivial, ?_⟩
              have hf : Fr (· = B) y5 y7 := by rw [hy7]; exact (Fr.refl _ _).at_ _ _
              replace hBs := hBs.s6 Q6 p.n6 d6'
              rw [← hy7] at hBs
              replace hT := hT.trans hf fun _ _ h => h
              replace hO6 := hO6.fr hf fun j hj e => by have := hin6 j hj; omega
              replace hO7 := hO7.fr hf fun j hj e => by have := hin7 j hj; omega
              clear qx qf hy7 hf
              go_simp
              refine wpAnyH_take (i := 8) rfl (by decide +kernel) (by decide +kernel) (by decide +kernel) (fun _ _ _ h => h) (Or.inl ⟨by kernel_rfl, fun W _ => by go_simp; with_reducible rfl⟩) trivial ?_
              go_simp
              refine wpAnyH_all (rs := [9]) (by decide +kernel) (by simp) ?_
              intro i hi
              simp only [List.mem_cons, List.not_mem_nil, or_false] at hi
              subst hi
              have qx := hBs.c7
              have qf := hBs.blk.frozen 7
              obtain ⟨y9, hy9⟩ : ∃ y, y = y7.setCell ⟨B, 7, none⟩ (.slice Q7 p.n7 d7') := ⟨_, rfl⟩
              refine wpOp_skip (w' := y9) rfl (by kernel_rfl) (by rw [hy9]; go_simp) ⟨trivial, ?_⟩
              have hf : Fr (· = B) y7 y9 := by rw [hy9]; exact (Fr.refl _ _).at_ _ _
              replace hBs := hBs.s7 Q7 p.n7 d7'
              rw [← hy9] at hBs
              replace hT := hT.trans hf fun _ _ h => h
              replace hO6 := hO6.fr hf fun j hj e => by have := hin6 j hj; omega
              replace hO7 := hO7.fr hf fun j hj e => by have := hin7 j hj; omega
              clear qx qf hy9 hf
              go_simp
              refine wpAnyH_done (by decide +kernel) ?_ _
              go_wp2
              go_meet
              case rel => exact ⟨Q6, d6', Q7, d7', hT, hBs, hO6, hO7, hin6, hin7⟩
            · have qx := hBs.c7
              refine wpOp_run (v := .slice p.A7 p.n7 p.c7) (w' := w5.drew) rfl (by kernel_rfl) (by go_simp) ⟨trivial, ?_⟩
              clear qx
              go_simp
              refine wpAnyH_all (rs := [2]) (by decide +kernel) (by simp) ?_
              intro i hi
              simp only [List.mem_cons, List.not_mem_nil, or_false] at hi
              subst hi
              refine wpOp_call rfl rfl 76 (enters_of Try.func76 (by kernel_rfl) rfl) #[.tmp 58] _ rfl _ rfl (CloneFates_any _ _ _ _ p.c6 _ (j6.fr hT hFB).arr (twos_ones _) (by omega)) ?_
              rintro e y2 ⟨Q6, d6', rfl, hO6, hf, hin6⟩
              replace hin6 := fun j hj => Nat.le_trans (Nat.le_trans hsz4 hT.size) (hin6 j hj)
              replace hT := hT.trans hf fun _ _ h => h.elim
              replace hBs := hBs.fr hf id
              clear hf
              refine ⟨_, rfl, trivial, ?_⟩
              go_simp
              refine wpAnyH_take (i := 6) rfl (by decide +kernel) (by decide +kernel) (by decide +kernel) (fun _ _ _ h => h) (Or.inl ⟨by kernel_rfl, fun W _ => by go_simp; with_reducible rfl⟩) trivial ?_
              go_simp
              refine wpAnyH_all (rs := [5]) (by decide +kernel) (by simp) ?_
              intro i hi
              simp only [List.mem_cons, List.not_mem_nil, or_false] at hi
              subst hi
              refine wpOp_call rfl rfl 76 (enters_of Try.func76 (by kernel_rfl) rfl) #[.tmp 61] _ rfl _ rfl (CloneFates_any _ _ _ _ p.c7 _ (j7.fr hT hFB).arr (twos_ones _) (by omega)) ?_
              rintro e y5 ⟨Q7, d7', rfl, hO7, hf, hin7⟩
              replace hin7 := fun j hj => Nat.le_trans (Nat.le_trans hsz4 hT.size) (hin7 j hj)
              replace hT := hT.trans hf fun _ _ h => h.elim
              replace hBs := hBs.fr hf id
              replace hO6 := hO6.fr hf fun _ _ => id
              clear hf
              refine ⟨_, rfl, trivial, ?_⟩
              go_simp
              refine wpAnyH_all (rs := [7]) (by decide +kernel) (by simp) ?_
              intro i hi
              simp only [List.mem_cons, List.not_mem_nil, or_false] at hi
              subst hi
              have qx := hBs.c6
              have qf := hBs.blk.frozen 6
              obtain ⟨y7, hy7⟩ : ∃ y, y = y5.setCell ⟨B, 6, none⟩ (.slice Q6 p.n6 d6') := ⟨_, rfl⟩
              refine wpOp_skip (w' := y7) rfl (by kernel_rfl) (by rw [hy7]; go_simp) ⟨trivial, ?_⟩
              have hf : Fr (· = B) y5 y7 := by rw [hy7]; exact (Fr.refl _ _).at_ _ _
              replace hBs := hBs.s6 Q6 p.n6 d6'
              rw [← hy7] at hBs
              replace hT := hT.trans hf fun _ _ h => h
              replace hO6 := hO6.fr hf fun j hj e => by have := hin6 j hj; omega
              replace hO7 := hO7.fr hf fun j hj e => by have := hin7 j hj; omega
              clear qx qf hy7 hf
              go_simp
              refine wpAnyH_take (i := 8) rfl (by decide +kernel) (by decide +kernel) (by decide +kernel) (fun _ _ _ h => h) (Or.inl ⟨by kernel_rfl, fun W _ => by go_simp; with_reducible rfl⟩) trivial ?_
              go_simp
              refine wpAnyH_all (rs := [9]) (by decide +kernel) (by simp) ?_
              intro i hi
              simp only [List.mem_cons, List.not_mem_nil, or_false] at hi
              subst hi
              have qx := hBs.c7
              have qf := hBs.blk.frozen 7
              obtain ⟨y9, hy9⟩ : ∃ y, y = y7.setCell ⟨B, 7, none⟩ (.slice Q7 p.n7 d7') := ⟨_, rfl⟩
              refine wpOp_skip (w' := y9) rfl (by kernel_rfl) (by rw [hy9]; go_simp) ⟨trivial, ?_⟩
              have hf : Fr (· = B) y7 y9 := by rw [hy9]; exact (Fr.refl _ _).at_ _ _
              replace hBs := hBs.s7 Q7 p.n7 d7'
              rw [← hy9] at hBs
              replace hT := hT.trans hf fun _ _ h => h
              replace hO6 := hO6.fr hf fun j hj e => by have := hin6 j hj; omega
              replace hO7 := hO7.fr hf fun j hj e => by have := hin7 j hj; omega
              clear qx qf hy9 hf
              go_simp
              refine wpAnyH_done (by decide +kernel) ?_ _
              go_wp2
              go_meet
              case rel => exact ⟨Q6, d6', Q7, d7', hT, hBs, hO6, hO7, hin6, hin7⟩
          · have qx := hBs.c7
            refine wpOp_run (v := .slice p.A7 p.n7 p.c7) (w' := w5.drew) rfl (by kernel_rfl) (by go_simp) ⟨trivial, ?_⟩
            clear qx
            go_simp
            refine wpAnyH_all (rs := [1]) (by decide +kernel) (by simp) ?_
            intro i hi
            simp only [List.mem_cons, List.not_mem_nil, or_false] at hi
            subst hi
            have qx := hBs.c6
            refine wpOp_run (v := .slice p.A6 p.n6 p.c6) (w' := w5.drew) rfl (by kernel_rfl) (by go_simp) ⟨trivial, ?_⟩
            clear qx
            go_simp
            refine wpAnyH_all (rs := [2]) (by decide +kernel) (by simp) ?_
            intro i hi
            simp only [List.mem_cons, List.not_mem_nil, or_false] at hi
            subst hi
            refine wpOp_call rfl rfl 76 (enters_of Try.func76 (by kernel_rfl) rfl) #[.tmp 58] _ rfl _ rfl (CloneFates_any _ _ _ _ p.c6 _ (j6.fr hT hFB).arr (twos_ones _) (by omega)) ?_
            rintro e y2 ⟨Q6, d6', rfl, hO6, hf, hin6⟩
            replace hin6 := fun j hj => Nat.le_trans (Nat.le_trans hsz4 hT.size) (hin6 j hj)
            replace hT := hT.trans hf fun _ _ h => h.elim
            replace hBs := hBs.fr hf id
            clear hf
            refine ⟨_, rfl, trivial, ?_⟩
            go_simp
            refine wpAnyH_take (i := 6) rfl (by decide +kernel) (by decide +kernel) (by decide +kernel) (fun _ _ _ h => h) (Or.inl ⟨by kernel_rfl, fun W _ => by go_simp; with_reducible rfl⟩) trivial ?_
            go_simp
            refine wpAnyH_all (rs := [5]) (by decide +kernel) (by simp) ?_
            intro i hi
            simp only [List.mem_cons, List.not_mem_nil, or_false] at hi
            subst hi
            refine wpOp_call rfl rfl 76 (enters_of Try.func76 (by kernel_rfl) rfl) #[.tmp 61] _ rfl _ rfl (CloneFates_any _ _ _ _ p.c7 _ (j7.fr hT hFB).arr (twos_ones _) (by omega)) ?_
            rintro e y5 ⟨Q7, d7', rfl, hO7, hf, hin7⟩
            replace hin7 := fun j hj => Nat.le_trans (Nat.le_trans hsz4 hT.size) (hin7 j hj)
            replace hT := hT.trans hf fun _ _ h => h.elim
            replace hBs := hBs.fr hf id
            replace hO6 := hO6.fr hf fun _ _ => id
            clear hf
            refine ⟨_, rfl, trivial, ?_⟩
            go_simp
            refine wpAnyH_all (rs := [7]) (by decide +kernel) (by simp) ?_
            intro i hi
            simp only [List.mem_cons, List.not_mem_nil, or_false] at hi
            subst hi
            have qx := hBs.c6
            have qf := hBs.blk.frozen 6
            obtain ⟨y7, hy7⟩ : ∃ y, y = y5.setCell ⟨B, 6, none⟩ (.slice Q6 p.n6 d6') := ⟨_, rfl⟩
            refine wpOp_skip (w' := y7) rfl (by kernel_rfl) (by rw [hy7]; go_simp) ⟨trivial, ?_⟩
            have hf : Fr (· = B) y5 y7 := by rw [hy7]; exact (Fr.refl _ _).at_ _ _
            replace hBs := hBs.s6 Q6 p.n6 d6'
            rw [← hy7] at hBs
            replace hT := hT.trans hf fun _ _ h => h
            replace hO6 := hO6.fr hf fun j hj e => by have := hin6 j hj; omega
            replace hO7 := hO7.fr hf fun j hj e => by have := hin7 j hj; omega
            clear qx qf hy7 hf
            go_simp
            refine wpAnyH_take (i := 8) rfl (by decide +kernel) (by decide +kernel) (by decide +kernel) (fun _ _ _ h => h) (Or.inl ⟨by kernel_rfl, fun W _ => by go_simp; with_reducible rfl⟩) trivial ?_
            go_simp
            refine wpAnyH_all (rs := [9]) (by decide +kernel) (by simp) ?_
            intro i hi
            simp only [List.mem_cons, List.not_mem_nil, or_false] at hi
            subst hi
            have qx := hBs.c7
            have qf := hBs.blk.frozen 7
            obtain ⟨y9, hy9⟩ : ∃ y, y = y7.setCell ⟨B, 7, none⟩ (.slice Q7 p.n7 d7') := ⟨_, rfl⟩
            refine wpOp_skip (w' := y9) rfl (by kernel_rfl) (by rw [hy9]; go_simp) ⟨trivial, ?_⟩
            have hf : Fr (· = B) y7 y9 := by rw [hy9]; exact (Fr.refl _ _).at_ _ _
            replace hBs := hBs.s7 Q7 p.n7 d7'
            rw [← hy9] at hBs
            replace hT := hT.trans hf fun _ _ h => h
            replace hO6 := hO6.fr hf fun j hj e => by have := hin6 j hj; omega
            replace hO7 := hO7.fr hf fun j hj e => by have := hin7 j hj; omega
            clear qx qf hy9 hf
            go_simp
            refine wpAnyH_done (by decide +kernel) ?_ _
            go_wp2
            go_meet
            case rel => exact ⟨Q6, d6', Q7, d7', hT, hBs, hO6, hO7, hin6, hin7⟩
        case rest =>
          obtain ⟨Q6, d6', Q7, d7', hT, hBs, hO6, hO7, hin6, hin7⟩ := hcut
          have hle6 := hO6.le
          have hcap6 := hO6.cap
          have hle7 := hO7.le
          have hcap7 := hO7.cap
          obtain ⟨w6, rfl⟩ : ∃ W : World, W = wc := ⟨_, rfl⟩
          replace hF := hF.new hT fun j hj => .inr (by have := HB.out; omega)
          replace hBz := hBz.fr hT (by omega)
          replace I8 := I8.fr hT fun j hj e => by omega
          replace hsz4 := Nat.le_trans hsz4 hT.size
          have I6 : Twos w6 (fun j => B + 2 ≤ j) Q6 p.n6 s.up := Twos.of_arr (hO6.arr fun j _ hj => hin6 j hj) j6.len
          have I7 : Twos w6 (fun j => B + 2 ≤ j) Q7 p.n7 s.down := Twos.of_arr (hO7.arr fun j _ hj => hin7 j hj) j7.len
          replace I1 := I1.fr hT fun j hj e => by omega
          replace I5 := I5.fr hT fun j hj e => by omega
          clear hT hO6 hO7 j6 j7
          obtain ⟨pf, hpf⟩ : ∃ pf, pf = ({ { { { { p with A8 := A8, n8 := p.n8, c8 := c8 } with A1 := Q1, n1 := p.n1, c1 := d1' } with A5 := Q5, n5 := p.n5, c5 := d5' } with A6 := Q6, n6 := p.n6, c6 := d6' } with A7 := Q7, n7 := p.n7, c7 := d7' } : ScrAt) := ⟨_, rfl⟩
          rw [← hpf] at hBs
          have H9 : Hid ((scrCells s pf).toArray.size = 9) := rfl
          have Hone := Lib.hid (scrCells_ones s pf)
          obtain ⟨yf, hyf⟩ : ∃ yf, yf = scrCells s pf := ⟨_, rfl⟩
          have hall := hBs.all
          rw [← hyf] at H9 Hone hall
          have Hyf := Lib.hid hyf
          have Hpf := Lib.hid hpf
          clear hyf hpf
          have H9l : Hid (yf.length = 9) := by show _ = _; rw [Hyf.out]; rfl
          go_wp2_with (first
            | (refine wpList_load_agg rfl 28 (.tmp 2) rfl B 0 rfl _ _ hall Try.underlying28 rfl (by rw [H9l.out]; exact scr_size) ?_)
            | (refine wpList_store_row rfl 28 (.tmp 4) (.tmp 65) rfl (B + 1) yf.toArray rfl rfl 28 z hBz (by rw [H9.out]; exact scr_size) (by rw [Hz.out, H9.out]) Hone.out ?_))
          obtain ⟨hft, hBt⟩ := setRow_fr' (ds := yf.toArray) hBz
          refine bodyPost_ret (results_cell1 (cs := yf) rfl rfl (fun j v hv => by rw [Nat.zero_add, hBt.cell]; simpa using hv) Try.underlying28 rfl (by rw [H9l.out]; exact scr_size)) rfl ?_
          have hlow : ∀ j, B + 2 ≤ j → ¬ j = B + 1 := fun j hj e => by omega
          refine ⟨pf, by rw [Hyf.out], hF.new hft fun j hj => .inr (by have := HB.out; omega), ?_⟩
          rw [Hpf.out]
          refine ⟨⟨hle1, hcap1, (I1.fr hft hlow).more fun j _ hj => ?_⟩, ⟨hle5, hcap5, ArrOf.more (I5.fr hft hlow) (by omega) (fun j _ hj => ?_) fun _ _ _ h => h⟩, ⟨hle6, hcap6, ArrOf.more (I6.fr hft hlow) (by omega) (fun j _ hj => ?_) fun _ _ _ h => h⟩, ⟨hle7, hcap7, ArrOf.more (I7.fr hft hlow) (by omega) (fun j _ hj => ?_) fun _ _ _ h => h⟩, hle8, hcap8, ArrOf.more (I8.fr hft hlow) (by omega) (fun j _ hj => ?_) fun _ _ _ h => h⟩
          all_goals (have := HB.out; omega)
end Go.Proofs.Ytnkfchondedfcaa
