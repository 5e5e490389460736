/-
  The envelope that bytes are, as the document has it (tabulariumref08.EnvelopeOf). Conditions: each contract states its own.
-/
import Derived.Test.YtnkfchondedfcaaUe
import Derived.Test.YtnkfchondedfcaaUf
namespace Go.Proofs.Ytnkfchondedfcaa
open Go.RowKit

theorem FN_litE {w : World} {G : Nat → Prop} {b : Nat} {r : Rd} (h : RfAt w G b r) (most : Nat) (m : Int) (hm : m = (most : Int)) :
    Calls Try.prog 35 #[.pointer (some ⟨b, 0, none⟩), .int .u64 m] w fun e w' => e = .returned (.int .u64 (r.N most).1) ∧ Fr (· = b) w w' ∧ RfAt w' G b (r.N most).2 := by
  subst hm; exact FN_any w G b r most h

set_option maxRecDepth 100000 in
set_option maxHeartbeats 4000000 in
theorem EnvelopeOf_any (w : World) (F0 : Nat → Prop) (hG0 : ∀ k, F0 k → k < w.heap.size) (A : Option Addr) (n c : Nat) (l : List UInt8) (h : Byt w F0 A n l) (hnc : n ≤ c) (hcm : c ≤ maxLen) (hn : n ≤ 70368744177664) :
    Calls Try.prog 97 #[.slice A n c] w fun e w' => GotEnv (fun k => F0 k ∨ w.heap.size ≤ k) w w' e (envOf l) (envBad l) := by
  have hlen := h.len
  have hn0 : (⟨l, true⟩ : Rd).l.length ≤ 70368744177664 := by simp; omega
  obtain ⟨B, hB0⟩ : ∃ B, B = w.heap.size := ⟨_, rfl⟩
  have HB := Lib.hid hB0
  have hR0 : ∀ z, RfAt ((w.alloc (.cells z 153)).alloc (.cells #[.slice A n c, .bool false] 59)) F0 (B + 1) ⟨l, true⟩ := fun z => by
    rw [hB0]
    exact ⟨fun hh => by have := hG0 _ hh; omega, (fun h => by cases h), A, n, c, by simpa using Blk.new (w.alloc (.cells z 153)) 59 #[.slice A n c, .bool false], hnc, hcm, (h.alloc _).alloc _⟩
  have hz0 : ∀ z, Blk ((w.alloc (.cells z 153)).alloc (.cells #[.slice A n c, .bool false] 59)) B 153 z := fun z => by
    rw [hB0]; exact (Blk.new w _ _).alloc _
  have hb0 : ∀ z, Byt ((w.alloc (.cells z 153)).alloc (.cells #[.slice A n c, .bool false] 59)) F0 A n l := fun z => (h.alloc _).alloc _
  replace hG0 : ∀ k, F0 k → k < B := by rw [hB0]; exact hG0
  have HR0 := Lib.hid hR0
  have Hz0 := Lib.hid hz0
  have Hb0 := Lib.hid hb0
  clear hlen hB0 hR0 hz0 hb0
  go_enter Try.func97, Try.ntmps97
  go_wp2_with (first
    | (refine wpList_alloc_any rfl 153 rfl 5 env_zero ?_; intro z hz; have Hz := Lib.hid hz; clear hz))
  rw [← HB.out]
  have hR := HR0.out z
  have hBz := Hz0.out z
  have hIn := Hb0.out z
  obtain ⟨w0, hw0⟩ : ∃ w0, w0 = (w.alloc (.cells z 153)).alloc (.cells #[.slice A n c, .bool false] 59) := ⟨_, rfl⟩
  have hF : Fr NoB w w0 := by rw [hw0]; exact ((Fr.refl NoB w).alloc _).alloc _
  have hK0 : B + 2 ≤ w0.heap.size := by rw [hw0, HB.out]; simp
  rw [← hw0] at hR hBz hIn ⊢
  clear hw0 HR0 Hz0 Hb0
  obtain ⟨b, hb⟩ : ∃ b, b = B + 1 := ⟨_, rfl⟩
  rw [← hb] at hR ⊢
  have hzb : ¬ B = b := by omega
  have hbB1 : B + 1 ≤ b := by omega
  have hbB2 : b + 1 ≤ w0.heap.size := by omega
  clear hb
  obtain ⟨r0, hr0⟩ : ∃ r0 : Rd, r0 = ⟨l, true⟩ := ⟨_, rfl⟩
  rw [← hr0] at hR
  replace hn0 : r0.l.length ≤ 70368744177664 := by rw [hr0]; exact hn0
  have Hr0 := Lib.hid hr0
  clear hr0
  obtain ⟨v1, r1, e1⟩ : ∃ v r', Rd.N r0 3 = (v, r') := ⟨_, _, rfl⟩
  have hv1 : v1 ≤ 3 := by have := Rd.N_le r0 3; rw [e1] at this; exact this
  have hn1 : r1.l.length ≤ 70368744177664 := by have := Rd.N_len r0 3; rw [e1] at this; exact Nat.le_trans this hn0
  have hcall := FN_litE hR 3 3 (by simp)
  rw [e1] at hcall
  have E1 := Lib.hid e1
  have Hcall := Lib.hid hcall
  clear e1 hR hcall
  go_wp2_with fail
  refine Hcall.out.mono ?_
  rintro e w1 ⟨rfl, hf1, hR⟩
  clear Hcall
  replace hF := hF.new hf1 fun j hj => .inr (by have := HB.out; omega)
  replace hBz := hBz.fr hf1 hzb
  replace hIn := hIn.fr hf1 fun j hj e => by have := hG0 j hj; omega
  have s1 := hf1.size
  clear hf1
  have H5 : Hid ((envCells ⟨(v1 : Int), 0, 0, [], []⟩ none 0 0 none 0 0).toArray.size = 5) := rfl
  have H5c : Hid ((envCells ⟨(v1 : Int), 0, 0, [], []⟩ none 0 0 none 0 0).toArray.all (·.oneCell') = true) := envCells_ones _ _ _ _ _ _ _
  obtain ⟨yc, hyc⟩ : ∃ yc, yc = envCells ⟨(v1 : Int), 0, 0, [], []⟩ none 0 0 none 0 0 := ⟨_, rfl⟩
  rw [← hyc] at H5 H5c
  have Hyc := Lib.hid hyc
  have hbuilt : Hid (Try.prog.built 153 [(0, .int .i64 (v1 : Int))] = some yc.toArray) := by show _ = _; rw [hyc]; exact kindEnv_built _
  clear hyc
  go_wp2_with (first
    | (refine wpList_build_eqE rfl 153 #[(0, .tmp 13)] rfl [(0, .int .i64 (v1 : Int))] rfl yc.toArray hbuilt.out ?_)
    | (refine wpList_alloc_any rfl 153 rfl 5 env_zero ?_; intro z6 hz6; have Hz6 := Lib.hid hz6; clear hz6)
    | (refine wpList_store_newN rfl 153 (.tmp 5) (.tmp 14) rfl 5 env_size _ z6 Hz6.out yc.toArray rfl rfl H5.out H5c.out ?_
       clear Hz6
       have hB : EnvBlk (w1.alloc (.cells yc.toArray 153)) w1.heap.size ⟨(v1 : Int), 0, 0, [], []⟩ none 0 0 none 0 0 := by rw [Hyc.out]; exact ⟨Blk.new _ _ _⟩
       replace hF : Fr NoB w (w1.alloc (.cells yc.toArray 153)) := hF.alloc _
       replace hBz := hBz.alloc (.cells yc.toArray 153)
       have hgl : w1.heap.size < (w1.alloc (.cells yc.toArray 153)).heap.size := by simp
       replace hR := hR.fr ((Fr.refl NoB _).alloc (.cells yc.toArray 153)) id fun _ _ => id
       replace hIn := hIn.alloc (.cells yc.toArray 153)
       obtain ⟨g, hg⟩ : ∃ g, g = w1.heap.size := ⟨_, rfl⟩
       rw [← hg] at hB hgl ⊢
       have hKg : b < g := by omega
       have hgb : ¬ g = b := by omega
       have hzg : ¬ B = g := by omega
       clear hg s1 hbuilt H5 H5c Hyc))
  obtain ⟨v2, r2, e2⟩ : ∃ v r', Rd.N r1 4294967295 = (v, r') := ⟨_, _, rfl⟩
  have hv2 : v2 ≤ 4294967295 := by have := Rd.N_le r1 4294967295; rw [e2] at this; exact this
  have hn2 : r2.l.length ≤ 70368744177664 := by have := Rd.N_len r1 4294967295; rw [e2] at this; exact Nat.le_trans this hn1
  have hcall := FN_litE hR 4294967295 4294967295 (by simp)
  rw [e2] at hcall
  have E2 := Lib.hid e2
  have Hcall := Lib.hid hcall
  clear e2 hR hcall
  go_wp2_with fail
  refine Hcall.out.mono ?_
  rintro e w2 ⟨rfl, hf2, hR⟩
  clear Hcall
  replace hB := hB.fr hf2 hgb
  replace hF := hF.new hf2 fun j hj => .inr (by have := HB.out; omega)
  replace hgl := Nat.lt_of_lt_of_le hgl hf2.size
  replace hBz := hBz.fr hf2 hzb
  replace hIn := hIn.fr hf2 fun j hj e => by have := hG0 j hj; omega
  have qc := hB.c1
  have qf := hB.blk.frozen 1
  have hfs : Fr (· = g) w2 (w2.setCell ⟨g, 1, none⟩ (.int .u32 (v2 : Nat))) := (Fr.refl _ _).at_ _ _
  replace hB := hB.s1 v2
  replace hF := hF.new hfs fun j hj => .inr (by have := HB.out; omega)
  replace hgl := Nat.lt_of_lt_of_le hgl hfs.size
  replace hBz := hBz.fr hfs hzg
  replace hR := hR.fr hfs (by omega) fun j hj e => by have := hG0 j hj; omega
  replace hIn := hIn.fr hfs fun j hj e => by have := hG0 j hj; omega
  clear hfs hf2
  obtain ⟨v3, r3, e3⟩ : ∃ v r', Rd.N r2 4294967295 = (v, r') := ⟨_, _, rfl⟩
  have hv3 : v3 ≤ 4294967295 := by have := Rd.N_le r2 4294967295; rw [e3] at this; exact this
  have hn3 : r3.l.length ≤ 70368744177664 := by have := Rd.N_len r2 4294967295; rw [e3] at this; exact Nat.le_trans this hn2
  have hcall := FN_litE hR 4294967295 4294967295 (by simp)
  rw [e3] at hcall
  have E3 := Lib.hid e3
  have Hcall := Lib.hid hcall
  clear e3 hR hcall
  go_wp2_with fail
  refine Hcall.out.mono ?_
  rintro e w3 ⟨rfl, hf3, hR⟩
  clear Hcall
  replace hB := hB.fr hf3 hgb
  replace hF := hF.new hf3 fun j hj => .inr (by have := HB.out; omega)
  replace hgl := Nat.lt_of_lt_of_le hgl hf3.size
  replace hBz := hBz.fr hf3 hzb
  replace hIn := hIn.fr hf3 fun j hj e => by have := hG0 j hj; omega
  clear qc qf
  have qc := hB.c2
  have qf := hB.blk.frozen 2
  have hfs : Fr (· = g) w3 (w3.setCell ⟨g, 2, none⟩ (.int .u32 (v3 : Nat))) := (Fr.refl _ _).at_ _ _
  replace hB := hB.s2 v3
  replace hF := hF.new hfs fun j hj => .inr (by have := HB.out; omega)
  replace hgl := Nat.lt_of_lt_of_le hgl hfs.size
  replace hBz := hBz.fr hfs hzg
  replace hR := hR.fr hfs (by omega) fun j hj e => by have := hG0 j hj; omega
  replace hIn := hIn.fr hfs fun j hj e => by have := hG0 j hj; omega
  clear hfs hf3
  obtain ⟨l4, r4, e4⟩ : ∃ v r', Rd.Ids r3 1000 = (v, r') := ⟨_, _, rfl⟩
  have hv4 : l4.length ≤ 1000 := by have := Rd.Ids_leE r3 1000 1000 (by omega); rw [e4] at this; exact this
  have hn4 : r4.l.length ≤ 70368744177664 := by have := Rd.Ids_lE r3 1000; rw [e4] at this; exact Nat.le_trans this hn3
  have hcall := FIds_any _ _ _ _ 1000 hR (fun j hj => by have := hG0 j hj; omega) (by omega) hn3
  rw [e4] at hcall
  unfold FReadIds at hcall
  dsimp only at hcall
  have E4 := Lib.hid e4
  have Hcall := Lib.hid hcall
  clear e4 hR hcall
  go_wp2_with fail
  refine Hcall.out.mono ?_
  rintro e w4 ⟨A4, c4, rfl, hf4, hR, hI4⟩
  clear Hcall
  replace hI4 : ArrOf IdR w4 (fun j => g < j) 32 A4 l4.length l4 := ArrOf.more hI4 (by omega) (fun j _ hj => by omega) fun _ _ _ h => h
  replace hB := hB.fr hf4 hgb
  replace hF := hF.new hf4 fun j hj => .inr (by have := HB.out; omega)
  replace hgl := Nat.lt_of_lt_of_le hgl hf4.size
  replace hBz := hBz.fr hf4 hzb
  replace hIn := hIn.fr hf4 fun j hj e => by have := hG0 j hj; omega
  clear qc qf
  have qc := hB.c3
  have qf := hB.blk.frozen 3
  have hfs : Fr (· = g) w4 (w4.setCell ⟨g, 3, none⟩ (.slice A4 l4.length c4)) := (Fr.refl _ _).at_ _ _
  replace hB := hB.s3 l4 A4 l4.length c4
  replace hF := hF.new hfs fun j hj => .inr (by have := HB.out; omega)
  replace hgl := Nat.lt_of_lt_of_le hgl hfs.size
  replace hBz := hBz.fr hfs hzg
  replace hR := hR.fr hfs (by omega) fun j hj e => by have := hG0 j hj; omega
  replace hIn := hIn.fr hfs fun j hj e => by have := hG0 j hj; omega
  replace hI4 := hI4.fr hfs (fun j hj e => by omega) fun _ _ _ h => h
  clear hfs hf4
  obtain ⟨l5, r5, e5⟩ : ∃ v r', Rd.Text r4 70000 = (v, r') := ⟨_, _, rfl⟩
  have hv5 : l5.length ≤ 70000 := by have := Rd.Text_leE r4 70000 70000 (by omega); rw [e5] at this; exact this
  have hcall := FText_any _ _ _ _ 70000 hR (by omega)
  rw [e5] at hcall
  unfold FReadBytes at hcall
  dsimp only at hcall
  have E5 := Lib.hid e5
  have Hcall := Lib.hid hcall
  clear e5 hR hcall
  go_wp2_with fail
  refine Hcall.out.mono ?_
  rintro e w5 ⟨A5, c5, rfl, hf5, hR, hlc5, hcm5, hI5⟩
  clear Hcall
  replace hI4 := hI4.fr hf5 (fun j hj e => by omega) fun _ _ _ h => h
  replace hB := hB.fr hf5 hgb
  replace hF := hF.new hf5 fun j hj => .inr (by have := HB.out; omega)
  replace hgl := Nat.lt_of_lt_of_le hgl hf5.size
  replace hBz := hBz.fr hf5 hzb
  replace hIn := hIn.fr hf5 fun j hj e => by have := hG0 j hj; omega
  clear qc qf
  have qc := hB.c4
  have qf := hB.blk.frozen 4
  have hfs : Fr (· = g) w5 (w5.setCell ⟨g, 4, none⟩ (.slice A5 l5.length c5)) := (Fr.refl _ _).at_ _ _
  replace hB := hB.s4 l5 A5 l5.length c5
  replace hF := hF.new hfs fun j hj => .inr (by have := HB.out; omega)
  replace hgl := Nat.lt_of_lt_of_le hgl hfs.size
  replace hBz := hBz.fr hfs hzg
  replace hR := hR.fr hfs (by omega) fun j hj e => by have := hG0 j hj; omega
  replace hIn := hIn.fr hfs fun j hj e => by have := hG0 j hj; omega
  replace hI4 := hI4.fr hfs (fun j hj e => by omega) fun _ _ _ h => h
  replace hI5 := hI5.fr hfs fun j hj e => by have := hG0 j hj; omega
  clear hfs hf5
  have hpar := envParse_eq (Hr0.out ▸ E1.out) E2.out E3.out E4.out E5.out
  obtain ⟨hof, hbad⟩ := env_vals hpar
  have honce := env_once (l := l)
  rw [hpar] at honce
  dsimp only at honce
  clear E1 E2 E3 E4 E5 Hr0 hpar
  obtain ⟨q, hq⟩ : ∃ q : Env, q = ⟨(v1 : Nat), v2, v3, l4, l5⟩ := ⟨_, rfl⟩
  have hBq : EnvBlk (w5.setCell ⟨g, 4, none⟩ (.slice A5 l5.length c5)) g q A4 l4.length c4 A5 l5.length c5 := by rw [hq]; exact hB
  have hQ : EnvR (w5.setCell ⟨g, 4, none⟩ (.slice A5 l5.length c5)) (fun j => F0 j ∨ g < j) (envCells q A4 l4.length c4 A5 l5.length c5) q := ⟨_, _, _, _, _, _, rfl, by rw [hq]; exact ArrOf.more hI4 (by omega) (fun j _ hj => .inr hj) fun _ _ _ h => h, hlc5, hcm5, by rw [hq]; exact hI5.more fun j _ hj => .inl hj⟩
  have hqr : q.realm ≤ 4294967295 := by rw [hq]; exact hv2
  have hqe : q.epoch ≤ 4294967295 := by rw [hq]; exact hv3
  rw [← hq] at hof hbad honce
  clear hq hB hI4 hI5
  obtain ⟨yq, hyq⟩ : ∃ yq, yq = envCells q A4 l4.length c4 A5 l5.length c5 := ⟨_, rfl⟩
  have hall := hBq.all
  rw [← hyq] at hQ hall
  have H5l : Hid (yq.length = 5) := by show _ = _; rw [hyq]; rfl
  have H5a : Hid (yq.toArray.size = 5) := by show _ = _; rw [hyq]; rfl
  have H1a : Hid (yq.toArray.all (·.oneCell') = true) := by show _ = _; rw [hyq]; exact envCells_ones _ _ _ _ _ _ _
  have hput := Lib.hid (PutEnvelope_any _ _ _ _ hQ hqr hqe)
  obtain ⟨zc, hzc⟩ : ∃ zc, zc = envCells zeroEnv none 0 0 none 0 0 := ⟨_, rfl⟩
  have Hzb : Hid (Try.prog.built 153 [] = some zc.toArray) := by show _ = _; rw [hzc]; exact zeroEnv_built
  have Z5l : Hid (zc.length = 5) := by show _ = _; rw [hzc]; rfl
  have Z5a : Hid (zc.toArray.size = 5) := by show _ = _; rw [hzc]; rfl
  have Z1a : Hid (zc.toArray.all (·.oneCell') = true) := by show _ = _; rw [hzc]; exact envCells_ones _ _ _ _ _ _ _
  have Hzc := Lib.hid hzc
  have hRI := Lib.hid hR
  have hInH := Lib.hid hIn
  clear hyq hzc hBq
  by_cases hev : Rd.End r5 = 0
  · have be : (Rd.End r5 != 0) = false := by simpa using hev
    have hd := decide_eq_true hev
    rw [hd, Bool.true_and] at hof hbad
    have Hone := Lib.hid (honce hev)
    clear hd hev honce
    cases hm : envMay q with
    | true =>
      rw [hm, if_pos rfl] at hof hbad
      have He1 := Lib.hid hof
      have He2 := Lib.hid hbad
      clear hof hbad
      go_wp2_with (first
        | (refine wpList_load_agg rfl 153 (.tmp 5) rfl g 0 rfl yq _ hall Try.underlying153 rfl (by rw [H5l.out]; exact env_size) ?_)
        | (go_at_call 107
           refine hput.out.mono ?_
           rintro e w7 ⟨A7, n7, c7, rfl, hf7, hI7⟩
           rw [hm] at hI7 ⊢
           have hall7 : ∀ j u, yq[j]? = some u → w7.cell? ⟨g, 0 + j, none⟩ = some u := fun j u hu => hf7.cell' (hall j u hu) id
           have hBz7 := hBz.fr hf7 id
           have hQ7 := hQ.fr hf7 fun _ _ => id
           have hF7 := hF.trans hf7 fun _ _ => id
           have hend := FEnd_any _ _ _ _ (hRI.out.fr hf7 id fun _ _ => id)
           have hIn7 := hInH.out.fr hf7 fun _ _ => id
           rw [if_pos rfl, Hone.out] at hI7
           have v1 := hI7.str (P := Try.prog) Try.underlying22 Try.underlying5 Try.underlying9 c7
           have v2 := hIn7.str (P := Try.prog) Try.underlying22 Try.underlying5 Try.underlying9 c
           simp only [if_true])
        | (go_at_call 44; refine hend.mono ?_; rintro e w' ⟨rfl, rfl⟩)
        | (refine wpList_load_agg rfl 153 (.tmp 5) rfl g 0 rfl yq _ hall7 Try.underlying153 rfl (by rw [H5l.out]; exact env_size) ?_)
        | (refine wpList_store_rowE rfl 153 (.tmp 2) (.tmp 49) rfl B yq.toArray rfl rfl 153 z hBz7 (by rw [H5a.out]; exact env_size) (by rw [Hz.out, H5a.out]) H1a.out ?_))
      obtain ⟨hft, hBt⟩ := setRow_fr (ds := yq.toArray) hBz7
      refine bodyPost_ret (results_cell2E (cs := yq) rfl rfl (fun j v hv => by rw [Nat.zero_add, hBt.cell]; simpa using hv) Try.underlying153 rfl (by rw [H5l.out]; exact env_size)) rfl ?_
      rw [He1.out, He2.out]
      refine ⟨yq, rfl, hF7.new hft fun j hj => .inr (by have := HB.out; omega), ?_⟩
      obtain ⟨A, n, c, B', m, d, k1, k4, k5, k6, k7⟩ := hQ7.fr hft fun j hj e => by rcases hj with hj | hj; (have := hG0 j hj; omega); omega
      have hlow : ∀ j, F0 j ∨ g < j → F0 j ∨ w.heap.size ≤ j := fun j hj => hj.imp id fun hj => by have := HB.out; omega
      exact ⟨A, n, c, B', m, d, k1, ArrOf.more k4 (by omega) (fun j _ hj => hlow j hj) fun _ _ _ h => h, k5, k6, k7.more fun j _ hj => hlow j hj⟩
    | false =>
      rw [hm, if_neg (by simp)] at hof hbad
      have He1 := Lib.hid hof
      have He2 := Lib.hid hbad
      clear hof hbad
      go_wp2_with (first
        | (refine wpList_load_agg rfl 153 (.tmp 5) rfl g 0 rfl yq _ hall Try.underlying153 rfl (by rw [H5l.out]; exact env_size) ?_)
        | (go_at_call 107
           refine hput.out.mono ?_
           rintro e w7 ⟨A7, n7, c7, rfl, hf7, hI7⟩
           rw [hm] at hI7 ⊢
           have hall7 : ∀ j u, yq[j]? = some u → w7.cell? ⟨g, 0 + j, none⟩ = some u := fun j u hu => hf7.cell' (hall j u hu) id
           have hBz7 := hBz.fr hf7 id
           have hQ7 := hQ.fr hf7 fun _ _ => id
           have hF7 := hF.trans hf7 fun _ _ => id
           have hend := FEnd_any _ _ _ _ (hRI.out.fr hf7 id fun _ _ => id)
           have hIn7 := hInH.out.fr hf7 fun _ _ => id
           simp only [if_false, Bool.false_eq_true])
        | (go_at_call 44; refine hend.mono ?_; rintro e w' ⟨rfl, rfl⟩)
        | (refine wpList_build_eqE rfl 153 #[] rfl [] rfl zc.toArray Hzb.out ?_)
        | (refine wpList_store_rowE rfl 153 (.tmp 2) (.tmp 48) rfl B zc.toArray rfl rfl 153 z hBz7 (by rw [Z5a.out]; exact env_size) (by rw [Hz.out, Z5a.out]) Z1a.out ?_))
      obtain ⟨hft, hBt⟩ := setRow_fr (ds := zc.toArray) hBz7
      refine bodyPost_ret (results_cell2E (cs := zc) rfl rfl (fun j v hv => by rw [Nat.zero_add, hBt.cell]; simpa using hv) Try.underlying153 rfl (by rw [Z5l.out]; exact env_size)) rfl ?_
      rw [He1.out, He2.out]
      have hgz := GotEnv.zero (G := (fun k => F0 k ∨ w.heap.size ≤ k)) (hF7.new hft fun j hj => .inr (by have := HB.out; omega))
      rw [← Hzc.out] at hgz
      exact hgz
  · have be : (Rd.End r5 != 0) = true := by simpa using hev
    have hd := decide_eq_false hev
    rw [hd, Bool.false_and, if_neg (by simp)] at hof hbad
    have He1 := Lib.hid hof
    have He2 := Lib.hid hbad
    clear hof hbad
    clear hd hev honce
    cases hm : envMay q with
    | true =>
      go_wp2_with (first
        | (refine wpList_load_agg rfl 153 (.tmp 5) rfl g 0 rfl yq _ hall Try.underlying153 rfl (by rw [H5l.out]; exact env_size) ?_)
        | (go_at_call 107
           refine hput.out.mono ?_
           rintro e w7 ⟨A7, n7, c7, rfl, hf7, hI7⟩
           rw [hm] at hI7 ⊢
           have hall7 : ∀ j u, yq[j]? = some u → w7.cell? ⟨g, 0 + j, none⟩ = some u := fun j u hu => hf7.cell' (hall j u hu) id
           have hBz7 := hBz.fr hf7 id
           have hQ7 := hQ.fr hf7 fun _ _ => id
           have hF7 := hF.trans hf7 fun _ _ => id
           have hend := FEnd_any _ _ _ _ (hRI.out.fr hf7 id fun _ _ => id)
           have hIn7 := hInH.out.fr hf7 fun _ _ => id
           simp only [if_true])
        | (go_at_call 44; refine hend.mono ?_; rintro e w' ⟨rfl, rfl⟩)
        | (refine wpList_build_eqE rfl 153 #[] rfl [] rfl zc.toArray Hzb.out ?_)
        | (refine wpList_store_rowE rfl 153 (.tmp 2) (.tmp 48) rfl B zc.toArray rfl rfl 153 z hBz7 (by rw [Z5a.out]; exact env_size) (by rw [Hz.out, Z5a.out]) Z1a.out ?_))
      obtain ⟨hft, hBt⟩ := setRow_fr (ds := zc.toArray) hBz7
      refine bodyPost_ret (results_cell2E (cs := zc) rfl rfl (fun j v hv => by rw [Nat.zero_add, hBt.cell]; simpa using hv) Try.underlying153 rfl (by rw [Z5l.out]; exact env_size)) rfl ?_
      rw [He1.out, He2.out]
      have hgz := GotEnv.zero (G := (fun k => F0 k ∨ w.heap.size ≤ k)) (hF7.new hft fun j hj => .inr (by have := HB.out; omega))
      rw [← Hzc.out] at hgz
      exact hgz
    | false =>
      go_wp2_with (first
        | (refine wpList_load_agg rfl 153 (.tmp 5) rfl g 0 rfl yq _ hall Try.underlying153 rfl (by rw [H5l.out]; exact env_size) ?_)
        | (go_at_call 107
           refine hput.out.mono ?_
           rintro e w7 ⟨A7, n7, c7, rfl, hf7, hI7⟩
           rw [hm] at hI7 ⊢
           have hall7 : ∀ j u, yq[j]? = some u → w7.cell? ⟨g, 0 + j, none⟩ = some u := fun j u hu => hf7.cell' (hall j u hu) id
           have hBz7 := hBz.fr hf7 id
           have hQ7 := hQ.fr hf7 fun _ _ => id
           have hF7 := hF.trans hf7 fun _ _ => id
           have hend := FEnd_any _ _ _ _ (hRI.out.fr hf7 id fun _ _ => id)
           have hIn7 := hInH.out.fr hf7 fun _ _ => id
           simp only [if_false, Bool.false_eq_true])
        | (go_at_call 44; refine hend.mono ?_; rintro e w' ⟨rfl, rfl⟩)
        | (refine wpList_build_eqE rfl 153 #[] rfl [] rfl zc.toArray Hzb.out ?_)
        | (refine wpList_store_rowE rfl 153 (.tmp 2) (.tmp 48) rfl B zc.toArray rfl rfl 153 z hBz7 (by rw [Z5a.out]; exact env_size) (by rw [Hz.out, Z5a.out]) Z1a.out ?_))
      obtain ⟨hft, hBt⟩ := setRow_fr (ds := zc.toArray) hBz7
      refine bodyPost_ret (results_cell2E (cs := zc) rfl rfl (fun j v hv => by rw [Nat.zero_add, hBt.cell]; simpa using hv) Try.underlying153 rfl (by rw [Z5l.out]; exact env_size)) rfl ?_
      rw [He1.out, He2.out]
      have hgz := GotEnv.zero (G := (fun k => F0 k ∨ w.heap.size ≤ k)) (hF7.new hft fun j hj => .inr (by have := HB.out; omega))
      rw [← Hzc.out] at hgz
      exact hgz
end Go.Proofs.Ytnkfchondedfcaa
