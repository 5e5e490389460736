/-
  The statement CodecReads: whatever is read of any bytes is what the document says, up to the first that fails (the walk). Conditions: none but that the arguments can be read.
-/
import Derived.Test.YtnkfchondedfcaaHd
import Derived.Test.YtnkfchondedfcaaEd
import Derived.Test.YtnkfchondedfcaaDc
import Derived.Deep.Cut
import Derived.Deep.CutBlock
import Derived.Deep.CutRange
namespace Go.Proofs.Ytnkfchondedfcaa
open Go.RowKit

theorem Rd.Raw_l (r : Rd) (k : Int) : (r.Raw k).2.l.length ≤ r.l.length := by have := Rd.Raw_len r k; omega
theorem Rd.Text_l (r : Rd) (k : Int) : (r.Text k).2.l.length ≤ r.l.length := by
  unfold Rd.Text
  split
  · simp
  · exact Nat.le_trans (Rd.Raw_l _ _) (Rd.N_len _ _)
theorem Rd.idsGo_l : ∀ (v : Nat) (r : Rd), (Rd.idsGo v r).2.l.length ≤ r.l.length
  | 0, r => by simp [Rd.idsGo_zero]
  | v + 1, r => by
    by_cases h : (r.Raw 32).1.length = 32
    · rw [Rd.idsGo_on h]; exact Nat.le_trans (Rd.idsGo_l v _) (Rd.Raw_l _ _)
    · rw [Rd.idsGo_stop h]; exact Rd.Raw_l _ _
theorem Rd.Ids_l (r : Rd) (k : Int) : (r.Ids k).2.l.length ≤ r.l.length := by
  unfold Rd.Ids
  split
  · simp
  · split
    · exact Nat.le_trans (Rd.idsGo_l _ _) (Rd.N_len _ _)
    · exact Nat.le_trans (Rd.idsGo_l _ _) (Rd.N_len _ _)
theorem Rd.Ids_n (r : Rd) (k : Int) : (r.Ids k).1.length ≤ r.l.length := by
  unfold Rd.Ids
  split
  · simp
  · split
    · have h1 := Rd.idsGo_len (r.N k.toNat).1 (r.N k.toNat).2
      have h2 := Rd.N_len r k.toNat
      omega
    · simp
theorem RfAt.rest {w : World} {G : Nat → Prop} {b : Nat} {r : Rd} (h : RfAt w G b r) : ∃ A c, w.cell? ⟨b, 0, none⟩ = some (.slice A r.Rest c) := by
  obtain ⟨q0, q1, A, n, c, hB, hc, hm, hl⟩ := h
  have e : r.Rest = n := by
    unfold Rd.Rest
    split
    · exact hl.len
    · rename_i hg
      have h1 := q1 (by simpa using hg)
      have h2 := hl.len
      rw [h1] at h2
      exact h2
  rw [e]
  exact ⟨A, c, hB.cell_0⟩

set_option maxRecDepth 100000 in
set_option maxHeartbeats 40000000 in
theorem CodecReads_any (w : World) (AA : Option Addr) (m d : Nat) (bs : List UInt8) (A : Option Addr) (n c : Nat) (l : List Part) (hb : Byt w (fun k => k < w.heap.size) AA m bs) (hmd : m ≤ d) (hd : d ≤ maxLen) (h : Parts w (fun k => k < w.heap.size) A n l) (hn : n ≤ 9223372036854775807) :
    Calls Try.prog 7 #[.slice AA m d, .slice A n c] w fun e w' => e = .returned (.bool true) ∧ Below w.heap.size w w' := by
  have Hd := Lib.hid hd
  clear hd
  cases hfew : fewB l with
  | false =>
    have Hfew := Lib.hid hfew
    clear hfew
    go_enter Try.func7, Try.ntmps7
    go_wp2_with (go_at_call 26; refine (awake08 _).mono ?_; rintro e w1 ⟨rfl, hf1⟩)
    refine (few_any w1 _ _ c _ (h.to hf1) hn).mono ?_
    rintro e w2 ⟨rfl, hf2⟩
    rw [Hfew.out]
    go_wp2
    go_ret
    exact ⟨rfl, Fr.below (hf1.new hf2 fun _ h => h.elim) (Nat.le_refl _) fun _ _ => id⟩
  | true =>
    have Hfew := Lib.hid hfew
    have Hlen := Lib.hid h.len
    have Hml := Lib.hid hb.len
    clear hfew
    by_cases h500 : 500 < m
    · have hbb : decide ((500 : Int) < (m : Int)) = true := by simp only [decide_eq_true_eq]; omega
      clear h500
      go_enter Try.func7, Try.ntmps7
      go_wp2_with (go_at_call 26; refine (awake08 _).mono ?_; rintro e w1 ⟨rfl, hf1⟩)
      refine (few_any w1 _ _ c _ (h.to hf1) hn).mono ?_
      rintro e w2 ⟨rfl, hf2⟩
      rw [Hfew.out]
      go_wp2
      go_ret
      exact ⟨rfl, Fr.below (hf1.new hf2 fun _ h => h.elim) (Nat.le_refl _) fun _ _ => id⟩
    have hbb : decide ((500 : Int) < (m : Int)) = false := by simp only [decide_eq_false_iff_not]; omega
    go_enter Try.func7, Try.ntmps7
    go_wp2_with (go_at_call 26; refine (awake08 _).mono ?_; rintro e w1 ⟨rfl, hf1⟩)
    refine (few_any w1 _ _ c _ (h.to hf1) hn).mono ?_
    rintro e w2 ⟨rfl, hf2⟩
    rw [Hfew.out]
    go_wp2_with fail
    have hf12 := hf1.new hf2 fun _ h => h.elim
    refine (Read_any _ _ _ _ _ bs (hb.fr hf12 fun _ _ => id) (by omega)).mono ?_
    rintro e w3 ⟨b, rfl, hf3, hR3⟩
    have hF3 := hf12.new hf3 fun _ h => h.elim
    have hb3 := hR3.1
    have hbs3 : b < w3.heap.size := hR3.2.elim fun A h => h.elim fun n h => h.elim fun c h => h.1.lt
    have s3 := hF3.size
    have s2 := hf12.size
    have hRn := hR3.more (G := fun j => w.heap.size ≤ j ∧ j < w3.heap.size) fun j hj h => ⟨by omega, hj⟩
    have hR4 := hRn.fr ((Fr.refl NoB w3).alloc (.cells #[.slice AA m d, .bool false] 59)) fun _ _ => id
    have hX4 : RfAt (w3.alloc (.cells #[.slice AA m d, .bool false] 59)) (fun j => j < w.heap.size) w3.heap.size ⟨bs, true⟩ := ⟨by omega, (fun h => by cases h), AA, m, d, Blk.new _ _ _, hmd, Hd.out, (hb.fr hF3 fun _ _ => id).alloc _⟩
    have hF4 := hF3.alloc (.cells #[.slice AA m d, .bool false] 59)
    have hb500 : bs.length ≤ 500 := by rw [Hml.out]; omega
    clear hR3 hRn hf1 hf2 hf12 hf3 hF3 h500
    go_wp2_with fail
    generalize hw4 : w3.alloc (.cells #[.slice AA m d, .bool false] 59) = w4 at hR4 hX4 hF4 ⊢
    have hxs4 := hX4.lt
    generalize hbx : w3.heap.size = bx at *
    clear hw4 hbx w3
    obtain ⟨w0, rfl⟩ : ∃ w0 : World, w0 = w4 := ⟨_, rfl⟩
    go_wp2
    go_loopw [26] (fun i wr => ∃ (k : Nat) (r : Rd), k ≤ n ∧ i = .int .i64 k ∧ RdAt wr (fun j => w.heap.size ≤ j ∧ j < bx) b r ∧ RfAt wr (fun j => j < w.heap.size) bx r ∧ r.l.length ≤ 500 ∧ Fr (fun j => j = b ∨ j = bx) w0 wr) (fun i _ => n - (intOf i).toNat)
    case atStart => exact ⟨0, _, by omega, rfl, hR4, hX4, hb500, Fr.refl _ _⟩
    case round =>
      obtain ⟨k, r, hk, rfl, hR, hX, hr500, hF⟩ := hrel
      obtain ⟨w1, rfl⟩ : ∃ w1 : World, w1 = wr := ⟨_, rfl⟩
      have s1 := hF.size
      have hbs : b < w1.heap.size := by omega
      have hxs := hX.lt
      have hbxb : ¬ bx = b := by omega
      have hGb : ∀ j, j < w.heap.size → ¬ j = b := fun j hj e => by omega
      have hFx : ∀ j, (w.heap.size ≤ j ∧ j < bx) → ¬ j = bx := fun j hj e => by omega
      by_cases hkn : k < n
      · have hPr := ArrOf.fr (h.below' hF4) hF (fun j hj e => by omega) (R' := PartR w1 (fun j => j < w.heap.size)) fun y p _ hy => hy.fr hF fun j hj e => by omega
        obtain ⟨bb, o, p, y, rfl, hGb', hp, hy, hyr, hcell⟩ := hPr.at_ hkn
        obtain ⟨AB, nB, cB, AI, nI, cI, rfl, h2, h3, h4, h5, h6, h7, hpn, hm0, hm1⟩ := hyr
        have Hone : Hid (#[Value.int .i64 p.kind, .int .u64 p.n, .slice AB nB cB, .slice AI nI cI, .int .i64 p.most].all (·.oneCell') = true) := by show _ = _; simp [Value.oneCell']
        clear hp hy h2 h3 h4 h5 h6 h7 hPr hGb'
        have cellS : ∀ j u, #[Value.int .i64 p.kind, .int .u64 p.n, .slice AB nB cB, .slice AI nI cI, .int .i64 p.most][j]? = some u → ∀ W, Fr (fun q => q = b ∨ q = bx) (w1.alloc (.cells #[Value.int .i64 p.kind, .int .u64 p.n, .slice AB nB cB, .slice AI nI cI, .int .i64 p.most] 62)) W → W.cell? ⟨w1.heap.size, j, none⟩ = some u := fun j u hu W hW => by
          have := ((Blk.new w1 62 #[Value.int .i64 p.kind, .int .u64 p.n, .slice AB nB cB, .slice AI nI cI, .int .i64 p.most]).fr hW (by omega)).cell j
          rw [this]; exact hu
        have CellS := Lib.hid cellS
        clear cellS
        go_upto_block 2 with (first
        | (refine wpList_load_agg rfl 62 (.tmp 28) rfl bb (o + k * 5) rfl _ _ hcell Try.underlying62 rfl partT_size ?_)
        | (refine wpList_alloc_any rfl 62 rfl 5 partT_zero ?_; intro z hz; have Hz := Lib.hid hz; clear hz)
        | (refine wpList_store_newN rfl 62 (.tmp 8) (.tmp 29) rfl 5 partT_size _ z Hz.out #[Value.int .i64 p.kind, .int .u64 p.n, .slice AB nB cB, .slice AI nI cI, .int .i64 p.most] rfl rfl rfl Hone.out ?_))
        go_cut [26] from 26 to 87 (fun i wx => i = .int .i64 k ∧ ∃ q : Rd, q.l.length ≤ 500 ∧ RdAt wx (fun j => w.heap.size ≤ j ∧ j < bx) b q ∧ RfAt wx (fun j => j < w.heap.size) bx q ∧ Fr (fun j => j = b ∨ j = bx) w0 wx)
        case rest =>
          obtain ⟨rfl, q, hq5, hRg0, hXg0, hVg0⟩ := hcut
          have hRg := hRg0.fr ((Fr.refl NoB wc).drew) fun _ _ => id
          have hXg := hXg0.fr ((Fr.refl NoB wc).drew) (fun h => h) fun _ _ => id
          obtain ⟨Ax, cx, hcx⟩ := hXg.rest
          clear CellS hR hX hF
          go_wp2_with fail
          go_region_with (go_at_call 43; refine (RRest_any _ _ _ _ hRg).mono ?_; rintro e w' ⟨rfl, rfl⟩)
          all_goals go_wp2
          all_goals exact ⟨⟨k + 1, q, by omega, by go_num, hRg, hXg, hq5, hVg0.drew⟩, by simp [intOf]; omega⟩
        case first =>
        by_cases hk0 : p.kind = 0
        · have hk0' : (p.kind == 0) = true := by simp [hk0]
          clear hk0

          have hlq := Rd.N_len r p.n
          have hN := fun W h => RN_any W (fun j => w.heap.size ≤ j ∧ j < bx) b r p.n h
          have hXX := fun W h => FN_any W (fun j => j < w.heap.size) bx r p.n h
          generalize r.N p.n = q at hN hXX hlq
          have HN := Lib.hid hN
          have HX := Lib.hid hXX
          clear hN hXX
          go_wp2_with fail
          have hW := ((Fr.refl NoB w1).alloc (.cells #[Value.int .i64 p.kind, .int .u64 p.n, .slice AB nB cB, .slice AI nI cI, .int .i64 p.most] 62)).drew
          have hR0 := hR.fr hW fun _ _ => id
          have hX0 := hX.fr hW (fun h => h) fun _ _ => id
          have hV0 := (Fr.refl (fun j => j = b ∨ j = bx) (w1.alloc (.cells #[Value.int .i64 p.kind, .int .u64 p.n, .slice AB nB cB, .slice AI nI cI, .int .i64 p.most] 62))).drew
          have hc0 := CellS.out 1 _ rfl _ hV0
          go_region_with (first
          | (go_at_call 28; refine (HN.out _ (by assumption)).mono ?_; rintro e w2 ⟨rfl, hf2, hR2⟩; first | (have hV2 := hV0.trans hf2 fun _ _ => .inl; have hX2 := hX0.fr hf2 hbxb hGb; have hc2 := CellS.out 1 _ rfl _ hV2) | (have hV2 := hV3.trans hf2 fun _ _ => .inl; have hXf := hX3.fr hf2 hbxb hGb; have hRf := hR2; have hVf := hV2; have hc2 := CellS.out 1 _ rfl _ hV2))
          | (go_at_call 35; refine (HX.out _ (by assumption)).mono ?_; rintro e w3 ⟨rfl, hf3, hX3⟩; first | (have hV3 := hV0.trans hf3 fun _ _ => .inr; have hR3 := hR0.fr hf3 hFx; have hc3 := CellS.out 1 _ rfl _ hV3) | (have hV3 := hV2.trans hf3 fun _ _ => .inr; have hRf := hR2.fr hf3 hFx; have hXf := hX3; have hVf := hV3; have hc3 := CellS.out 1 _ rfl _ hV3)))
          all_goals go_wp2
          all_goals go_meet
          all_goals exact ⟨rfl, q.2, by omega, hRf, hXf, (hF.alloc (.cells #[Value.int .i64 p.kind, .int .u64 p.n, .slice AB nB cB, .slice AI nI cI, .int .i64 p.most] 62)).trans hVf fun _ _ => id⟩
        by_cases hk1 : p.kind = 1
        · have hk0' : (p.kind == 0) = false := by simp [hk1]
          have hk1' : (p.kind == 1) = true := by simp [hk1]
          clear hk0 hk1

          have hlq := Rd.Raw_l r p.most
          have hN := fun W h => RRaw_any W (fun j => w.heap.size ≤ j ∧ j < bx) b r p.most h hm0 hm1 (by omega)
          have hXX := fun W h => FRaw_any W (fun j => j < w.heap.size) bx r p.most h hm0 hm1
          generalize r.Raw p.most = q at hN hXX hlq
          have HN := Lib.hid hN
          have HX := Lib.hid hXX
          clear hN hXX
          go_wp2_with fail
          have hW := ((Fr.refl NoB w1).alloc (.cells #[Value.int .i64 p.kind, .int .u64 p.n, .slice AB nB cB, .slice AI nI cI, .int .i64 p.most] 62)).drew
          have hR0 := hR.fr hW fun _ _ => id
          have hX0 := hX.fr hW (fun h => h) fun _ _ => id
          have hV0 := (Fr.refl (fun j => j = b ∨ j = bx) (w1.alloc (.cells #[Value.int .i64 p.kind, .int .u64 p.n, .slice AB nB cB, .slice AI nI cI, .int .i64 p.most] 62))).drew
          have hc0 := CellS.out 4 _ rfl _ hV0
          go_region_with (first
          | (go_at_call 36; refine (HN.out _ (by assumption)).mono ?_; rintro e w2 ⟨A2, c2, rfl, hf2, hR2, hO2, hA2⟩; first | (have hV2 := hV0.trans hf2 fun _ _ => .inl; have hX2 := hX0.fr hf2 hbxb hGb; have hc2 := CellS.out 4 _ rfl _ hV2; have hb2 : Byt w2 (fun j => j ≠ b ∧ j ≠ bx) A2 q.1.length q.1 := hO2.arr fun j _ hj => ⟨fun e => by have := hA2 j hj; exact absurd e (by have := hV0.size; have := hbs; have := hxs; simp only [World.size_alloc] at *; omega), fun e => by have := hA2 j hj; exact absurd e (by have := hV0.size; have := hbs; have := hxs; simp only [World.size_alloc] at *; omega)⟩; have hs2 := Byt.str (P := Try.prog) hb2 Try.underlying22 Try.underlying5 Try.underlying9 c2) | (have hV2 := hV3.trans hf2 fun _ _ => .inl; have hXf := hX3.fr hf2 hbxb hGb; have hRf := hR2; have hVf := hV2; have hc2 := CellS.out 4 _ rfl _ hV2; have hb2 : Byt w2 (fun j => j ≠ b ∧ j ≠ bx) A2 q.1.length q.1 := hO2.arr fun j _ hj => ⟨fun e => by have := hA2 j hj; exact absurd e (by have := hV3.size; have := hbs; have := hxs; simp only [World.size_alloc] at *; omega), fun e => by have := hA2 j hj; exact absurd e (by have := hV3.size; have := hbs; have := hxs; simp only [World.size_alloc] at *; omega)⟩; have hs2 := Byt.str (P := Try.prog) hb2 Try.underlying22 Try.underlying5 Try.underlying9 c2; have hs32 := Byt.str (P := Try.prog) (hB3.fr hf2 hGb) Try.underlying22 Try.underlying5 Try.underlying9 c3))
          | (go_at_call 37; refine (HX.out _ (by assumption)).mono ?_; rintro e w3 ⟨A3, c3, rfl, hf3, hX3, _, _, hB3⟩; first | (have hV3 := hV0.trans hf3 fun _ _ => .inr; have hR3 := hR0.fr hf3 hFx; have hc3 := CellS.out 4 _ rfl _ hV3; have hs3 := Byt.str (P := Try.prog) hB3 Try.underlying22 Try.underlying5 Try.underlying9 c3) | (have hV3 := hV2.trans hf3 fun _ _ => .inr; have hRf := hR2.fr hf3 hFx; have hXf := hX3; have hVf := hV3; have hc3 := CellS.out 4 _ rfl _ hV3; have hs3 := Byt.str (P := Try.prog) hB3 Try.underlying22 Try.underlying5 Try.underlying9 c3; have hs23 := Byt.str (P := Try.prog) (hb2.fr hf3 fun j hj => hj.2) Try.underlying22 Try.underlying5 Try.underlying9 c2)))
          all_goals go_wp2
          all_goals go_meet
          all_goals exact ⟨rfl, q.2, by omega, hRf, hXf, (hF.alloc (.cells #[Value.int .i64 p.kind, .int .u64 p.n, .slice AB nB cB, .slice AI nI cI, .int .i64 p.most] 62)).trans hVf fun _ _ => id⟩
        by_cases hk2 : p.kind = 2
        · have hk0' : (p.kind == 0) = false := by simp [hk2]
          have hk1' : (p.kind == 1) = false := by simp [hk2]
          have hk2' : (p.kind == 2) = true := by simp [hk2]
          clear hk0 hk1 hk2

          have hlq := Rd.Text_l r p.most
          have hN := fun W h => RText_any W (fun j => w.heap.size ≤ j ∧ j < bx) b r p.most h hm0 hm1 (by omega)
          have hXX := fun W h => FText_any W (fun j => j < w.heap.size) bx r p.most h hm1
          generalize r.Text p.most = q at hN hXX hlq
          have HN := Lib.hid hN
          have HX := Lib.hid hXX
          clear hN hXX
          go_wp2_with fail
          have hW := ((Fr.refl NoB w1).alloc (.cells #[Value.int .i64 p.kind, .int .u64 p.n, .slice AB nB cB, .slice AI nI cI, .int .i64 p.most] 62)).drew
          have hR0 := hR.fr hW fun _ _ => id
          have hX0 := hX.fr hW (fun h => h) fun _ _ => id
          have hV0 := (Fr.refl (fun j => j = b ∨ j = bx) (w1.alloc (.cells #[Value.int .i64 p.kind, .int .u64 p.n, .slice AB nB cB, .slice AI nI cI, .int .i64 p.most] 62))).drew
          have hc0 := CellS.out 4 _ rfl _ hV0
          go_region_with (first
          | (go_at_call 38; refine (HN.out _ (by assumption)).mono ?_; rintro e w2 ⟨A2, c2, rfl, hf2, hR2, hO2, hA2⟩; first | (have hV2 := hV0.trans hf2 fun _ _ => .inl; have hX2 := hX0.fr hf2 hbxb hGb; have hc2 := CellS.out 4 _ rfl _ hV2; have hb2 : Byt w2 (fun j => j ≠ b ∧ j ≠ bx) A2 q.1.length q.1 := hO2.arr fun j _ hj => ⟨fun e => by have := hA2 j hj; exact absurd e (by have := hV0.size; have := hbs; have := hxs; simp only [World.size_alloc] at *; omega), fun e => by have := hA2 j hj; exact absurd e (by have := hV0.size; have := hbs; have := hxs; simp only [World.size_alloc] at *; omega)⟩; have hs2 := Byt.str (P := Try.prog) hb2 Try.underlying22 Try.underlying5 Try.underlying9 c2) | (have hV2 := hV3.trans hf2 fun _ _ => .inl; have hXf := hX3.fr hf2 hbxb hGb; have hRf := hR2; have hVf := hV2; have hc2 := CellS.out 4 _ rfl _ hV2; have hb2 : Byt w2 (fun j => j ≠ b ∧ j ≠ bx) A2 q.1.length q.1 := hO2.arr fun j _ hj => ⟨fun e => by have := hA2 j hj; exact absurd e (by have := hV3.size; have := hbs; have := hxs; simp only [World.size_alloc] at *; omega), fun e => by have := hA2 j hj; exact absurd e (by have := hV3.size; have := hbs; have := hxs; simp only [World.size_alloc] at *; omega)⟩; have hs2 := Byt.str (P := Try.prog) hb2 Try.underlying22 Try.underlying5 Try.underlying9 c2; have hs32 := Byt.str (P := Try.prog) (hB3.fr hf2 hGb) Try.underlying22 Try.underlying5 Try.underlying9 c3))
          | (go_at_call 39; refine (HX.out _ (by assumption)).mono ?_; rintro e w3 ⟨A3, c3, rfl, hf3, hX3, _, _, hB3⟩; first | (have hV3 := hV0.trans hf3 fun _ _ => .inr; have hR3 := hR0.fr hf3 hFx; have hc3 := CellS.out 4 _ rfl _ hV3; have hs3 := Byt.str (P := Try.prog) hB3 Try.underlying22 Try.underlying5 Try.underlying9 c3) | (have hV3 := hV2.trans hf3 fun _ _ => .inr; have hRf := hR2.fr hf3 hFx; have hXf := hX3; have hVf := hV3; have hc3 := CellS.out 4 _ rfl _ hV3; have hs3 := Byt.str (P := Try.prog) hB3 Try.underlying22 Try.underlying5 Try.underlying9 c3; have hs23 := Byt.str (P := Try.prog) (hb2.fr hf3 fun j hj => hj.2) Try.underlying22 Try.underlying5 Try.underlying9 c2)))
          all_goals go_wp2
          all_goals go_meet
          all_goals exact ⟨rfl, q.2, by omega, hRf, hXf, (hF.alloc (.cells #[Value.int .i64 p.kind, .int .u64 p.n, .slice AB nB cB, .slice AI nI cI, .int .i64 p.most] 62)).trans hVf fun _ _ => id⟩
        · have hk0' : (p.kind == 0) = false := by simp [hk0]
          have hk1' : (p.kind == 1) = false := by simp [hk1]
          have hk2' : (p.kind == 2) = false := by simp [hk2]
          clear hk0 hk1 hk2

          have hlq := Rd.Ids_l r p.most
          have hqn := Rd.Ids_n r p.most
          have hN := fun W h => RIds_any W (fun j => w.heap.size ≤ j ∧ j < bx) b r p.most h hm1 (by omega)
          have hXX := fun W (h : RfAt W (fun j => j < w.heap.size) bx r) => FIds_any W (fun j => j < w.heap.size) bx r p.most h (fun j hj => by have := h.lt; omega) hm1 (by omega)
          generalize r.Ids p.most = q at hN hXX hlq hqn
          have Hql : Hid (q.1.length ≤ 9223372036854775807) := by show _ ≤ _; omega
          have HN := Lib.hid hN
          have HX := Lib.hid hXX
          clear hN hXX hqn
          go_wp2_with fail
          have hW := ((Fr.refl NoB w1).alloc (.cells #[Value.int .i64 p.kind, .int .u64 p.n, .slice AB nB cB, .slice AI nI cI, .int .i64 p.most] 62)).drew
          have hR0 := hR.fr hW fun _ _ => id
          have hX0 := hX.fr hW (fun h => h) fun _ _ => id
          have hV0 := (Fr.refl (fun j => j = b ∨ j = bx) (w1.alloc (.cells #[Value.int .i64 p.kind, .int .u64 p.n, .slice AB nB cB, .slice AI nI cI, .int .i64 p.most] 62))).drew
          have hc0 := CellS.out 4 _ rfl _ hV0
          go_region_with (first
          | (go_at_call 41; refine (HN.out _ (by assumption)).mono ?_; rintro e w2 ⟨A2, c2, rfl, hf2, hR2, hO2, hA2⟩; first | (have hV2 := hV0.trans hf2 fun _ _ => .inl; have hX2 := hX0.fr hf2 hbxb hGb; have hc2 := CellS.out 4 _ rfl _ hV2; have hi2 : ArrOf IdR w2 (fun j => j ≠ b ∧ j ≠ bx) 32 A2 q.1.length q.1 := ids_of_own hO2 rfl fun j _ hj => ⟨fun e => by have := hA2 j hj; exact absurd e (by have := hV0.size; have := hbs; have := hxs; simp only [World.size_alloc] at *; omega), fun e => by have := hA2 j hj; exact absurd e (by have := hV0.size; have := hbs; have := hxs; simp only [World.size_alloc] at *; omega)⟩) | (have hV2 := hV3.trans hf2 fun _ _ => .inl; have hXf := hX3.fr hf2 hbxb hGb; have hRf := hR2; have hVf := hV2; have hc2 := CellS.out 4 _ rfl _ hV2; have hi2 : ArrOf IdR w2 (fun j => j ≠ b ∧ j ≠ bx) 32 A2 q.1.length q.1 := ids_of_own hO2 rfl fun j _ hj => ⟨fun e => by have := hA2 j hj; exact absurd e (by have := hV3.size; have := hbs; have := hxs; simp only [World.size_alloc] at *; omega), fun e => by have := hA2 j hj; exact absurd e (by have := hV3.size; have := hbs; have := hxs; simp only [World.size_alloc] at *; omega)⟩; have HS := Lib.hid (SameIds_any w2 _ _ _ _ _ c2 _ c3 _ _ hi2 (hi3.fr (R' := IdR) hf2 (fun j hj e => by have := hV0.size; have := hbs; simp only [World.size_alloc] at *; omega) fun _ _ _ => id) Hql.out)))
          | (go_at_call 42; refine (HX.out _ (by assumption)).mono ?_; rintro e w3 ⟨A3, c3, rfl, hf3, hX3, hi3⟩; first | (have hV3 := hV0.trans hf3 fun _ _ => .inr; have hR3 := hR0.fr hf3 hFx; have hc3 := CellS.out 4 _ rfl _ hV3) | (have hV3 := hV2.trans hf3 fun _ _ => .inr; have hRf := hR2.fr hf3 hFx; have hXf := hX3; have hVf := hV3; have hc3 := CellS.out 4 _ rfl _ hV3; have HS := Lib.hid (SameIds_any w3 _ _ _ _ _ c2 _ c3 _ _ (hi2.fr (R' := IdR) hf3 (fun j hj => hj.2) fun _ _ _ => id) hi3 Hql.out)))
          | (go_at_call 40; refine HS.out.mono ?_; rintro e w4 ⟨rfl, q4, rfl⟩))
          all_goals go_wp2
          all_goals go_meet
          all_goals exact ⟨rfl, q.2, by omega, hRf.fr ((Fr.refl NoB _).drewN q4) (fun _ _ => id), hXf.fr ((Fr.refl NoB _).drewN q4) (fun h => h) (fun _ _ => id), ((hF.alloc (.cells #[Value.int .i64 p.kind, .int .u64 p.n, .slice AB nB cB, .slice AI nI cI, .int .i64 p.most] 62)).trans hVf fun _ _ => id).drewN q4⟩
      · have hke : k = n := by omega
        subst hke
        have HE := Lib.hid (REnd_any _ _ _ _ hR)
        have HX := Lib.hid (FEnd_any _ _ _ _ hX)
        clear hR hX
        go_wp2_with (first | (go_at_call 29; refine HE.out.mono ?_; rintro e w2 ⟨rfl, rfl⟩) | (go_at_call 44; refine HX.out.mono ?_; rintro e w2 ⟨rfl, rfl⟩))
        go_ret
        exact ⟨rfl, Fr.below (hF4.new hF fun j e => .inr (by omega)) (Nat.le_refl _) fun _ _ => id⟩

end Go.Proofs.Ytnkfchondedfcaa
