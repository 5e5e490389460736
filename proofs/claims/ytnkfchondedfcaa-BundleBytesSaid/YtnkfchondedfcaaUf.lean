/-
  An envelope as bytes, as the document has it: tabulariumref08.Ad, PutEnvelope. Conditions: each contract states its own.
-/
import Derived.Test.YtnkfchondedfcaaUd
import Derived.Test.YtnkfchondedfcaaRw
namespace Go.Proofs.Ytnkfchondedfcaa
open Go.RowKit

set_option maxRecDepth 100000 in
set_option maxHeartbeats 2000000 in
theorem Ad_any (w : World) (F : Nat → Prop) (A : Option Addr) (n c : Nat) (B : Option Addr) (m d : Nat) (e : Env) (hi : ArrOf IdR w F 32 A n e.links) (kn : Nat) (hk : e.kind = kn) (hk3 : kn ≤ 3) (hr : e.realm ≤ 4294967295) (he : e.epoch ≤ 4294967295) (hn : n ≤ 1000) :
    Calls Try.prog 115 #[.agg (envCells e A n c B m d).toArray] w fun x w' => NewBytes w w' x (envHead e) := by
  have hhead : envHead e = ((([] ++ encN kn) ++ encN e.realm) ++ encN e.epoch) ++ idsBytes e.links := by simp [envHead, hk]
  rw [hhead]
  clear hhead
  obtain ⟨w2, hw2⟩ : ∃ w2, w2 = w.alloc (.cells (envCells e A n c B m d).toArray 153) := ⟨_, rfl⟩
  have hB : EnvBlk w2 w.heap.size e A n c B m d := by rw [hw2]; exact ⟨Blk.new _ _ _⟩
  have hF2 : Fr NoB w w2 := by rw [hw2]; exact (Fr.refl _ _).alloc _
  have p0 := hB.c0
  have p1 := hB.c1
  have p2 := hB.c2
  have p3 := hB.c3
  rw [hk] at p0
  have hi2 := hi.fr hF2 (fun _ _ => id) fun _ _ _ h => h
  have hwk : IntKind.u64.wrap (kn : Int) = kn := by rw [IntKind.wrap_u64]; omega
  have hwr : IntKind.u64.wrap (e.realm : Int) = e.realm := by rw [IntKind.wrap_u64]; omega
  have hwe : IntKind.u64.wrap (e.epoch : Int) = e.epoch := by rw [IntKind.wrap_u64]; omega
  have Hw2 := Lib.hid hw2
  clear hB hi hw2 hk
  obtain ⟨ids, hids⟩ : ∃ ids, ids = e.links := ⟨_, rfl⟩
  obtain ⟨re, hre⟩ : ∃ re, re = e.realm := ⟨_, rfl⟩
  obtain ⟨ep, hep⟩ : ∃ ep, ep = e.epoch := ⟨_, rfl⟩
  rw [← hids] at hi2 ⊢
  rw [← hre] at hwr hr p1 ⊢
  rw [← hep] at hwe he p2 ⊢
  clear hids hre hep
  obtain ⟨yc, hyc⟩ : ∃ yc, yc = envCells e A n c B m d := ⟨_, rfl⟩
  rw [← hyc] at Hw2 ⊢
  clear hyc
  obtain ⟨L1, hL1⟩ : ∃ L1, L1 = [] ++ encN kn := ⟨_, rfl⟩
  obtain ⟨L2, hL2⟩ : ∃ L2, L2 = L1 ++ encN re := ⟨_, rfl⟩
  obtain ⟨L3, hL3⟩ : ∃ L3, L3 = L2 ++ encN ep := ⟨_, rfl⟩
  have n1 : L1.length ≤ 10 := by have := encN_len64 (n := kn) (by omega); rw [hL1, List.nil_append]; exact this
  have n2 : L2.length ≤ 20 := by have := encN_len64 (n := re) (by omega); rw [hL2, List.length_append]; omega
  have n3 : L3.length ≤ 30 := by have := encN_len64 (n := ep) (by omega); rw [hL3, List.length_append]; omega
  have k1 : ∀ W : World, Calls Try.prog 83 #[.slice none 0 0, .int .u64 kn] W fun x w' => NewBytes W w' x L1 := fun W => by rw [hL1]; exact refN_any W (fun _ => True) none 0 0 kn [] (Byt.nil _ _ _) (by omega) (by omega)
  have k2 : ∀ (W : World) (A : Option Addr) (c : Nat), Own W 5 1 A L1.length c (L1.map bv) → Calls Try.prog 83 #[.slice A L1.length c, .int .u64 re] W fun x w' => NewBytes W w' x L2 := fun W A c h => by rw [hL2]; exact refN_any W (fun _ => True) A _ c re L1 (h.arr fun _ _ _ => trivial) (by omega) (by omega)
  have k3 : ∀ (W : World) (A : Option Addr) (c : Nat), Own W 5 1 A L2.length c (L2.map bv) → Calls Try.prog 83 #[.slice A L2.length c, .int .u64 ep] W fun x w' => NewBytes W w' x L3 := fun W A c h => by rw [hL3]; exact refN_any W (fun _ => True) A _ c ep L2 (h.arr fun _ _ _ => trivial) (by omega) (by omega)
  rw [← hL1, ← hL2, ← hL3]
  have K1 := Lib.hid k1
  have K2 := Lib.hid k2
  have K3 := Lib.hid k3
  clear hL1 hL2 hL3 k1 k2 k3
  obtain ⟨L4, hL4⟩ : ∃ L4, L4 = L3 ++ idsBytes ids := ⟨_, rfl⟩
  have k4 : ∀ (W : World) (A4 : Option Addr) (c4 : Nat) (G2 : Nat → Prop), Own W 5 1 A4 L3.length c4 (L3.map bv) → ArrOf IdR W G2 32 A n ids → Calls Try.prog 85 #[.slice A4 L3.length c4, .slice A n c] W fun x w' => NewBytes W w' x L4 := fun W A4 c4 G2 h h2 => by rw [hL4]; exact refIds_any W (fun _ => True) G2 A4 A _ c4 n c L3 ids (h.arr fun _ _ _ => trivial) h2 (by omega)
  rw [← hL4]
  have K4 := Lib.hid k4
  clear hL4 k4
  go_enter Try.func115, Try.ntmps115
  go_wp2
  rw [← Hw2.out]
  clear Hw2
  refine wp_region_held (S := fun W => Fr NoB w2 W) rfl ?_
  have hS : Fr NoB w2 w2.drew := Fr.drew (Fr.refl _ _)
  refine wpAnyH_take (i := 0) rfl (by decide +kernel) (by decide +kernel) (by decide +kernel) (fun _ _ _ h => h) (Or.inl ⟨by kernel_rfl, fun W hW => by go_simp; with_reducible rfl⟩) hS ?_
  go_simp
  refine wpAnyH_take (i := 1) rfl (by decide +kernel) (by decide +kernel) (by decide +kernel) (fun _ _ _ h => h) (Or.inl ⟨by kernel_rfl, fun W hW => by have qq := hW.cell' p0 id; go_simp; with_reducible rfl⟩) hS ?_
  go_simp
  refine wpAnyH_take (i := 2) rfl (by decide +kernel) (by decide +kernel) (by decide +kernel) (fun _ _ _ h => h) (Or.inl ⟨by kernel_rfl, fun W hW => by go_simp; with_reducible rfl⟩) hS ?_
  go_simp
  refine wpAnyH_take (i := 4) rfl (by decide +kernel) (by decide +kernel) (by decide +kernel) (fun _ _ _ h => h) (Or.inl ⟨by kernel_rfl, fun W hW => by go_simp; with_reducible rfl⟩) hS ?_
  go_simp
  refine wpAnyH_take (i := 5) rfl (by decide +kernel) (by decide +kernel) (by decide +kernel) (fun _ _ _ h => h) (Or.inl ⟨by kernel_rfl, fun W hW => by have qq := hW.cell' p1 id; go_simp; with_reducible rfl⟩) hS ?_
  go_simp
  refine wpAnyH_take (i := 6) rfl (by decide +kernel) (by decide +kernel) (by decide +kernel) (fun _ _ _ h => h) (Or.inl ⟨by kernel_rfl, fun W hW => by go_simp; with_reducible rfl⟩) hS ?_
  go_simp
  refine wpAnyH_take (i := 8) rfl (by decide +kernel) (by decide +kernel) (by decide +kernel) (fun _ _ _ h => h) (Or.inl ⟨by kernel_rfl, fun W hW => by go_simp; with_reducible rfl⟩) hS ?_
  go_simp
  refine wpAnyH_take (i := 9) rfl (by decide +kernel) (by decide +kernel) (by decide +kernel) (fun _ _ _ h => h) (Or.inl ⟨by kernel_rfl, fun W hW => by have qq := hW.cell' p2 id; go_simp; with_reducible rfl⟩) hS ?_
  go_simp
  refine wpAnyH_take (i := 10) rfl (by decide +kernel) (by decide +kernel) (by decide +kernel) (fun _ _ _ h => h) (Or.inl ⟨by kernel_rfl, fun W hW => by go_simp; with_reducible rfl⟩) hS ?_
  go_simp
  refine wpAnyH_take (i := 12) rfl (by decide +kernel) (by decide +kernel) (by decide +kernel) (fun _ _ _ h => h) (Or.inl ⟨by kernel_rfl, fun W hW => by go_simp; with_reducible rfl⟩) hS ?_
  go_simp
  refine wpAnyH_take (i := 13) rfl (by decide +kernel) (by decide +kernel) (by decide +kernel) (fun _ _ _ h => h) (Or.inl ⟨by kernel_rfl, fun W hW => by have qq := hW.cell' p3 id; go_simp; with_reducible rfl⟩) hS ?_
  go_simp
  refine wpAnyH_all (rs := [3]) (by decide +kernel) (by simp) ?_
  intro i hi
  simp only [List.mem_cons, List.not_mem_nil, or_false] at hi
  subst hi
  refine wpOp_call rfl rfl 83 (enters_of Try.func83 (by kernel_rfl) rfl) #[.const (.slice none 0 0), .tmp 5] _ rfl _ rfl (K1.out _) ?_
  rintro x x1 ⟨A1, c1, rfl, hf, hO1, hA1⟩
  replace hS := hS.trans hf fun _ _ => id
  clear hf
  refine ⟨_, rfl, hS, ?_⟩
  go_simp
  refine wpAnyH_all (rs := [7]) (by decide +kernel) (by simp) ?_
  intro i hi
  simp only [List.mem_cons, List.not_mem_nil, or_false] at hi
  subst hi
  refine wpOp_call rfl rfl 83 (enters_of Try.func83 (by kernel_rfl) rfl) #[.tmp 6, .tmp 9] _ rfl _ rfl (K2.out _ _ _ hO1) ?_
  rintro x x2 ⟨A2, c2, rfl, hf, hO2, hA2⟩
  replace hS := hS.trans hf fun _ _ => id
  clear hf
  refine ⟨_, rfl, hS, ?_⟩
  go_simp
  refine wpAnyH_all (rs := [11]) (by decide +kernel) (by simp) ?_
  intro i hi
  simp only [List.mem_cons, List.not_mem_nil, or_false] at hi
  subst hi
  refine wpOp_call rfl rfl 83 (enters_of Try.func83 (by kernel_rfl) rfl) #[.tmp 10, .tmp 13] _ rfl _ rfl (K3.out _ _ _ hO2) ?_
  rintro x x3 ⟨A3, c3, rfl, hf, hO3, hA3⟩
  replace hS := hS.trans hf fun _ _ => id
  clear hf
  refine ⟨_, rfl, hS, ?_⟩
  go_simp
  refine wpAnyH_all (rs := [14]) (by decide +kernel) (by simp) ?_
  intro i hi
  simp only [List.mem_cons, List.not_mem_nil, or_false] at hi
  subst hi
  refine wpOp_call rfl rfl 85 (enters_of Try.func85 (by kernel_rfl) rfl) #[.tmp 14, .tmp 16] _ rfl _ rfl (K4.out _ _ _ _ hO3 (hi2.fr hS (fun _ _ => id) fun _ _ _ h => h)) ?_
  rintro x x4 ⟨A4, c4, rfl, hf, hO4, hA4⟩
  have hs4 := Nat.le_trans hF2.size hS.size
  replace hS := hS.trans hf fun _ _ => id
  clear hf
  refine ⟨_, rfl, hS, ?_⟩
  go_simp
  refine wpAnyH_take (i := 15) rfl (by decide +kernel) (by decide +kernel) (by decide +kernel) (fun _ _ _ h => h) (Or.inl ⟨by kernel_rfl, fun W hW => by go_simp; with_reducible rfl⟩) hS ?_
  go_simp
  refine wpAnyH_done (by decide +kernel) ?_ _
  go_wp2
  go_ret
  exact ⟨A4, c4, rfl, hF2.trans hS fun _ _ => id, hO4, fun k hk => Nat.le_trans hs4 (hA4 k hk)⟩
theorem idsFlat_lenE : ∀ (l : List Id32), (idsFlat l).length = 32 * l.length
  | [] => rfl
  | x :: l => by
    have := idsFlat_lenE l
    unfold idsFlat at this ⊢
    rw [List.flatMap_cons, List.length_append, this, x.2, List.length_cons]; omega
theorem envHead_len {e : Env} (h1 : e.kind.toNat ≤ 3) (hr : e.realm ≤ 4294967295) (he : e.epoch ≤ 4294967295) (hl : e.links.length ≤ 1000) : (envHead e).length ≤ 40000 := by
  have e1 := encN_len64 (n := e.kind.toNat) (by omega)
  have e2 := encN_len64 (n := e.realm) (by omega)
  have e3 := encN_len64 (n := e.epoch) (by omega)
  have e4 := encN_len64 (n := e.links.length) (by omega)
  have e5 := idsFlat_lenE e.links
  unfold envHead idsBytes
  simp only [List.length_append]
  omega
/-- Bytes and an error's number are handed back. -/
def PutEnv (w w' : World) (x : Ending) (e : Env) : Prop :=
  ∃ A n c, x = .returned (.tuple #[.slice A n c, .int .i64 (if envMay e = true then 0 else 90)]) ∧ Fr NoB w w' ∧ Byt w' (fun _ => True) A n (if envMay e = true then envBytes e else [])
theorem PutEnv.no {w w' : World} {e : Env} (h : envMay e = false) (hf : Fr NoB w w') : PutEnv w w' (.returned (.tuple #[.slice none 0 0, .int .i64 90])) e :=
  ⟨none, 0, 0, by rw [h]; rfl, hf, by rw [h]; exact Byt.nil _ _ _⟩

set_option maxRecDepth 100000 in
set_option maxHeartbeats 4000000 in
theorem PutEnvelope_any (w : World) (F : Nat → Prop) (y : List Value) (e : Env) (hy : EnvR w F y e) (hre : e.realm ≤ 4294967295) (hep : e.epoch ≤ 4294967295) :
    Calls Try.prog 107 #[.agg y.toArray] w fun x w' => PutEnv w w' x e := by
  obtain ⟨A, n, c, B, m, d, rfl, hi, _, _, hb⟩ := hy
  obtain ⟨w2, hw2⟩ : ∃ w2, w2 = w.alloc (.cells (envCells e A n c B m d).toArray 153) := ⟨_, rfl⟩
  have hB : EnvBlk w2 w.heap.size e A n c B m d := by rw [hw2]; exact ⟨Blk.new _ _ _⟩
  have hF2 : Fr NoB w w2 := by rw [hw2]; exact (Fr.refl _ _).alloc _
  have Hml := Lib.hid hb.len
  have Hll := Lib.hid hi.len
  have hi2 := hi.fr hF2 (fun _ _ => id) fun _ _ _ h => h
  have hb2 := hb.fr hF2 fun _ _ => id
  have p0 := hB.c0
  have p3 := hB.c3
  have p4 := hB.c4
  have hall := hB.all
  have Hw2 := Lib.hid hw2
  obtain ⟨yc, hyc⟩ : ∃ yc, yc = envCells e A n c B m d := ⟨_, rfl⟩
  have H5l : Hid (yc.length = 5) := by show _ = _; rw [hyc]; rfl
  rw [← hyc] at Hw2 hall ⊢
  have Hyc := Lib.hid hyc
  clear hB hb hi hw2 hyc
  have z0 := p0
  have z3 := p3
  have z4 := p4
  rw [Hw2.out] at z0 z3 z4
  by_cases h1 : 1 ≤ e.kind
  · have b1 : decide (e.kind < 1) = false := by simp only [decide_eq_false_iff_not]; omega
    by_cases h2 : e.kind ≤ 3
    · have b2 : decide (3 < e.kind) = false := by simp only [decide_eq_false_iff_not]; omega
      by_cases h3 : n ≤ 1000
      · have b3 : decide (1000 < (n : Int)) = false := by simp only [decide_eq_false_iff_not]; omega
        by_cases h4 : m ≤ 70000
        · have b4 : decide (70000 < (m : Int)) = false := by simp only [decide_eq_false_iff_not]; omega
          have hmay : envMay e = rising e.links := by simp [envMay, h1, h2, Hml.out, Hll.out, h3, h4]
          have Hmay := Lib.hid hmay
          obtain ⟨l, hl⟩ : ∃ l, l = e.links := ⟨_, rfl⟩
          rw [← hl] at hi2
          have Hl := Lib.hid hl
          clear hmay hl
          go_enter Try.func107, Try.ntmps107
          go_wp2
          rw [← Hw2.out]
          go_loopw [4] (fun v wr => ∃ k : Nat, (k = 0 ∨ k + 1 ≤ n) ∧ v = .int .i64 (k + 1 : Nat) ∧ rising (l.take (k + 1)) = true ∧ Fr NoB w2 wr) (fun v _ => n - (intOf v).toNat)
          case atStart =>
            refine ⟨0, .inl rfl, rfl, ?_, Fr.refl _ _⟩
            cases l with
            | nil => rfl
            | cons a l => rfl
          case round =>
            obtain ⟨k, hk, rfl, hris, hFr⟩ := hrel
            obtain ⟨w4, rfl⟩ : ∃ w4 : World, w4 = wr := ⟨_, rfl⟩
            have q3 := hFr.cell' p3 id
            have Hris := Lib.hid hris
            clear hris
            by_cases hkn : k + 1 < n
            · obtain ⟨b1', o1, x, y1, hB1, _, gx, ly1, hr1, hc1⟩ := (hi2.fr hFr (fun _ _ => id) fun _ _ _ h => h).at_ (k := k) (by omega)
              obtain ⟨b2', o2, y, y2, hB2, _, gy, ly2, hr2, hc2⟩ := (hi2.fr hFr (fun _ _ => id) fun _ _ _ h => h).at_ (k := k + 1) (by omega)
              rw [hB1] at hB2
              injection hB2 with hB2
              injection hB2 with hb2' ho2
              subst hb2' ho2 hB1
              have hr1 : y1 = idCells x := hr1
              have hr2 : y2 = idCells y := hr2
              subst hr1 hr2
              have Hx : Hid ((idCells x).length = 32) := ly1
              have Hy : Hid ((idCells y).length = 32) := ly2
              have hrt := rising_take gx gy
              rw [Hris.out, Bool.true_and] at hrt
              have Hrt := Lib.hid hrt
              have hless := fun W => less_any W x y
              clear gx gy ly1 ly2 hrt
              generalize hxc : idCells x = xc at *
              generalize hyc : idCells y = yc2 at *
              clear hxc hyc
              generalize Op.bytesLess x.1 y.1 = bb at *
              have Hless := Lib.hid hless
              clear hless
              have hwk : IntKind.i64.wrap (k : Int) = k := by rw [IntKind.wrap_i64]; omega
              have g1 : (0 : Int) ≤ (k : Int) := by omega
              have g2 : (k : Int) < (n : Int) := by omega
              have g3 : (0 : Int) ≤ (k : Int) + 1 := by omega
              have g4 : (k : Int) + 1 < (n : Int) := by omega
              go_wp2
              refine wp_region_held (S := fun W => Fr NoB w4 W) rfl ?_
              have hS : Fr NoB w4 w4.drew := Fr.drew (Fr.refl _ _)
              refine wpAnyH_take (i := 0) rfl (by decide +kernel) (by decide +kernel) (by decide +kernel) (fun _ _ _ h => h) (Or.inl ⟨by kernel_rfl, fun W hW => by go_simp; with_reducible rfl⟩) hS ?_
              go_simp
              refine wpAnyH_take (i := 1) rfl (by decide +kernel) (by decide +kernel) (by decide +kernel) (fun _ _ _ h => h) (Or.inl ⟨by kernel_rfl, fun W hW => by have qq := hW.cell' q3 id; go_simp; with_reducible rfl⟩) hS ?_
              refine wpAnyH_take (i := 2) rfl (by decide +kernel) (by decide +kernel) (by decide +kernel) (fun _ _ _ h => h) (Or.inl ⟨by kernel_rfl, fun W hW => by go_simp; with_reducible rfl⟩) hS ?_
              go_simp
              refine wpAnyH_take (i := 3) rfl (by decide +kernel) (by decide +kernel) (by decide +kernel) (fun _ _ _ h => h) (Or.inl ⟨by kernel_rfl, fun W hW => by go_simp; with_reducible rfl⟩) hS ?_
              go_simp
              refine wpAnyH_take (i := 4) rfl (by decide +kernel) (by decide +kernel) (by decide +kernel) (fun _ _ _ h => h) (Or.inl ⟨by kernel_rfl, fun W hW => by go_simp; with_reducible rfl⟩) hS ?_
              go_simp
              refine wpAnyH_take (i := 5) rfl (by decide +kernel) (by decide +kernel) (by decide +kernel) (fun _ _ _ h => h) (Or.inl ⟨by kernel_rfl, fun W hW => exec_load_agg 74 (.tmp 36) rfl b1' (o1 + k * 32) rfl xc _ (fun j u hu => Fr.cell' hW (hc1 j u hu) id) Try.underlying74 rfl (by rw [Hx.out]; exact id_size)⟩) hS ?_
              go_simp
              refine wpAnyH_take (i := 6) rfl (by decide +kernel) (by decide +kernel) (by decide +kernel) (fun _ _ _ h => h) (Or.inl ⟨by kernel_rfl, fun W hW => by go_simp; with_reducible rfl⟩) hS ?_
              go_simp
              refine wpAnyH_take (i := 7) rfl (by decide +kernel) (by decide +kernel) (by decide +kernel) (fun _ _ _ h => h) (Or.inl ⟨by kernel_rfl, fun W hW => by have qq := hW.cell' q3 id; go_simp; with_reducible rfl⟩) hS ?_
              refine wpAnyH_take (i := 8) rfl (by decide +kernel) (by decide +kernel) (by decide +kernel) (fun _ _ _ h => h) (Or.inl ⟨by kernel_rfl, fun W hW => by go_simp; with_reducible rfl⟩) hS ?_
              go_simp
              refine wpAnyH_take (i := 9) rfl (by decide +kernel) (by decide +kernel) (by decide +kernel) (fun _ _ _ h => h) (Or.inl ⟨by kernel_rfl, fun W hW => by go_simp; with_reducible rfl⟩) hS ?_
              go_simp
              refine wpAnyH_take (i := 10) rfl (by decide +kernel) (by decide +kernel) (by decide +kernel) (fun _ _ _ h => h) (Or.inl ⟨by kernel_rfl, fun W hW => exec_load_agg 74 (.tmp 41) rfl b1' (o1 + (k + 1) * 32) rfl yc2 _ (fun j u hu => Fr.cell' hW (hc2 j u hu) id) Try.underlying74 rfl (by rw [Hy.out]; exact id_size)⟩) hS ?_
              go_simp
              refine wpAnyH_all (rs := [11]) (by decide +kernel) (by simp) ?_
              intro i hi
              simp only [List.mem_cons, List.not_mem_nil, or_false] at hi
              subst hi
              refine wpOp_call rfl rfl 114 (enters_of Try.func114 (by kernel_rfl) rfl) #[.tmp 37, .tmp 42] _ rfl _ rfl (Hless.out _) ?_
              rintro x5 w5 ⟨rfl, hf⟩
              replace hS := hS.trans hf fun _ _ => id
              clear hf
              refine ⟨_, rfl, hS, ?_⟩
              go_simp
              refine wpAnyH_take (i := 12) rfl (by decide +kernel) (by decide +kernel) (by decide +kernel) (fun _ _ _ h => h) (Or.inl ⟨by kernel_rfl, fun W hW => by go_simp; with_reducible rfl⟩) hS ?_
              go_simp
              refine wpAnyH_done (by decide +kernel) ?_ _
              cases bb with
              | true =>
                go_wp2
                go_roundw
                case rel =>
                  exact ⟨k + 1, .inr (by omega), by go_num, Hrt.out, hFr.trans hS fun _ _ => id⟩
                case measure => (simp [intOf] <;> omega)
              | false =>
                have hno : envMay e = false := by
                  rw [Hmay.out, ← Hl.out]
                  cases hr : rising l with
                  | false => rfl
                  | true =>
                    have := rising_mono l (k + 2) hr
                    rw [Hrt.out] at this
                    cases this
                have Hno := Lib.hid hno
                clear hno
                go_wp2
                go_ret2
                exact PutEnv.no Hno.out ((hF2.trans hFr fun _ _ => id).trans hS fun _ _ => id)
            · have hr0 := Hris.out
              rw [List.take_of_length_le (by rw [Hl.out, Hll.out]; omega)] at hr0
              have hyes : envMay e = true := by rw [Hmay.out, ← Hl.out]; exact hr0
              have Hyes := Lib.hid hyes
              have q4 := hFr.cell' p4 id
              have hall4 : ∀ j u, yc[j]? = some u → w4.cell? ⟨w.heap.size, 0 + j, none⟩ = some u := fun j u hu => hFr.cell' (hall j u hu) id
              have hAd := fun W (hW : Fr NoB w4 W) => Ad_any W F A n c B m d e (((Hl.out ▸ hi2).fr hFr (fun _ _ => id) fun _ _ _ h => h).fr hW (fun _ _ => id) fun _ _ _ h => h) e.kind.toNat (by omega) (by omega) hre hep h3
              rw [← Hyc.out] at hAd
              have HAd := Lib.hid hAd
              have Hhl := Lib.hid (envHead_len (e := e) (by omega) hre hep (by rw [Hll.out]; exact h3))
              have hbb := Lib.hid (hb2.fr hFr fun _ _ => id)
              clear hr0 hyes hAd hb2
              go_wp2
              refine wp_region_held (S := fun W => Fr NoB w4 W) rfl ?_
              have hS : Fr NoB w4 w4.drew := Fr.drew (Fr.refl _ _)
              refine wpAnyH_take (i := 0) rfl (by decide +kernel) (by decide +kernel) (by decide +kernel) (fun _ _ _ h => h) (Or.inl ⟨by kernel_rfl, fun W hW => exec_load_agg 153 (.tmp 1) rfl w.heap.size 0 rfl yc _ (fun j u hu => Fr.cell' hW (hall4 j u hu) id) Try.underlying153 rfl (by rw [H5l.out]; exact env_size)⟩) hS ?_
              go_simp
              refine wpAnyH_take (i := 2) rfl (by decide +kernel) (by decide +kernel) (by decide +kernel) (fun _ _ _ h => h) (Or.inl ⟨by kernel_rfl, fun W hW => by go_simp; with_reducible rfl⟩) hS ?_
              go_simp
              refine wpAnyH_take (i := 3) rfl (by decide +kernel) (by decide +kernel) (by decide +kernel) (fun _ _ _ h => h) (Or.inl ⟨by kernel_rfl, fun W hW => by have qq := hW.cell' q4 id; go_simp; with_reducible rfl⟩) hS ?_
              go_simp
              refine wpAnyH_all (rs := [1]) (by decide +kernel) (by simp) ?_
              intro i hi
              simp only [List.mem_cons, List.not_mem_nil, or_false] at hi
              subst hi
              refine wpOp_call rfl rfl 115 (enters_of Try.func115 (by kernel_rfl) rfl) #[.tmp 45] _ rfl _ rfl (HAd.out _ hS) ?_
              rintro x5 w5 ⟨A5, c5, rfl, hf, hO5, hA5⟩
              replace hS := hS.trans hf fun _ _ => id
              clear hf
              refine ⟨_, rfl, hS, ?_⟩
              obtain ⟨L5, hL5⟩ : ∃ L5, L5 = envHead e := ⟨_, rfl⟩
              rw [← hL5] at hO5 ⊢
              have hL5n : L5.length ≤ 40000 := by rw [hL5]; exact Hhl.out
              have HL5 := Lib.hid hL5
              clear hL5
              obtain ⟨n5, hn5⟩ : ∃ n5, n5 = L5.length := ⟨_, rfl⟩
              rw [← hn5] at hO5 hL5n ⊢
              clear hn5
              go_simp
              refine wpAnyH_all (rs := [4]) (by decide +kernel) (by simp) ?_
              intro i hi
              simp only [List.mem_cons, List.not_mem_nil, or_false] at hi
              subst hi
              refine wpOp_call rfl rfl 84 (enters_of Try.func84 (by kernel_rfl) rfl) #[.tmp 46, .tmp 48] _ rfl _ rfl (refText_any w5 (fun _ => True) F A5 B n5 c5 m d L5 e.body (hO5.arr fun _ _ _ => trivial) (hbb.out.fr hS fun _ _ => id) (by omega)) ?_
              rintro x6 w6 ⟨A6, c6, rfl, hf, hO6, hA6⟩
              replace hS := hS.trans hf fun _ _ => id
              clear hf
              refine ⟨_, rfl, hS, ?_⟩
              have hend : L5 ++ textBytes e.body = envBytes e := by rw [HL5.out]; rfl
              rw [hend] at hO6 ⊢
              clear hend
              obtain ⟨n6, hn6⟩ : ∃ n6, n6 = (envBytes e).length := ⟨_, rfl⟩
              rw [← hn6] at hO6 ⊢
              clear hn6
              go_simp
              refine wpAnyH_take (i := 5) rfl (by decide +kernel) (by decide +kernel) (by decide +kernel) (fun _ _ _ h => h) (Or.inl ⟨by kernel_rfl, fun W hW => by go_simp; with_reducible rfl⟩) hS ?_
              go_simp
              refine wpAnyH_take (i := 6) rfl (by decide +kernel) (by decide +kernel) (by decide +kernel) (fun _ _ _ h => h) (Or.inl ⟨by kernel_rfl, fun W hW => by go_simp; with_reducible rfl⟩) hS ?_
              go_simp
              refine wpAnyH_done (by decide +kernel) ?_ _
              go_wp2
              go_ret2
              exact ⟨A6, n6, c6, by rw [Hyes.out]; rfl, (hF2.trans hFr fun _ _ => id).trans hS fun _ _ => id, by rw [Hyes.out]; exact hO6.arr fun _ _ _ => trivial⟩
        · have b4 : decide (70000 < (m : Int)) = true := by simp only [decide_eq_true_eq]; omega
          have He : Hid (envMay e = false) := by show _ = _; simp [envMay, Hml.out, Hll.out, h4]
          clear h4
          go_enter Try.func107, Try.ntmps107
          go_wp2
          rw [← Hw2.out]
          go_ret2
          exact PutEnv.no He.out hF2
      · have b3 : decide (1000 < (n : Int)) = true := by simp only [decide_eq_true_eq]; omega
        have He : Hid (envMay e = false) := by show _ = _; simp [envMay, Hml.out, Hll.out, h3]
        clear h3
        go_enter Try.func107, Try.ntmps107
        go_wp2
        rw [← Hw2.out]
        go_ret2
        exact PutEnv.no He.out hF2
    · have b2 : decide (3 < e.kind) = true := by simp only [decide_eq_true_eq]; omega
      have He : Hid (envMay e = false) := by show _ = _; simp [envMay, Hml.out, Hll.out, h2]
      clear h2
      go_enter Try.func107, Try.ntmps107
      go_wp2
      rw [← Hw2.out]
      go_ret2
      exact PutEnv.no He.out hF2
  · have b1 : decide (e.kind < 1) = true := by simp only [decide_eq_true_eq]; omega
    have He : Hid (envMay e = false) := by show _ = _; simp [envMay, Hml.out, Hll.out, h1]
    clear h1
    go_enter Try.func107, Try.ntmps107
    go_wp2
    rw [← Hw2.out]
    go_ret2
    exact PutEnv.no He.out hF2
end Go.Proofs.Ytnkfchondedfcaa
