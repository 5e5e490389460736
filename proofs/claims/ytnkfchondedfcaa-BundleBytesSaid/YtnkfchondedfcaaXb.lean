/-
  A bundle as bytes, as the document has it (tabulariumref32.PutBundle). Conditions: each contract states its own.
-/
import Derived.Test.YtnkfchondedfcaaXa
namespace Go.Proofs.Ytnkfchondedfcaa
open Go.RowKit

section
variable {P : Program} {ops : Array Oper} {Q : Exit → Act → World → Prop} {K : Act → World → Prop} {o : Oper} {a : Act} {w : World} {i : Nat}
theorem wpOp_str (hi : ops[i]? = some o) (hw : Region.wanted o (yielded ops a.tmps) = true) (src dst e : TypeId) (x : Operand) (ho : o.op = .convert src dst x) (hs : P.underlying src = some .string) (hd : P.underlying dst = some (.slice e)) (he : P.underlying e = some (.int .u8)) (s : ByteArray) (hx : a.eval x = .string s) (hl : s.size ≤ maxLen)
    (h : ∀ (g c : Nat) (W : World), w.heap.size ≤ g → StrRow W g e s.data.toList → Fr NoB w W → s.size ≤ c → c ≤ maxLen → K (a.put o.dst (.slice (some ⟨g, 0, none⟩) s.size c)) W) : wpOp P ops Q i K a w := by
  obtain ⟨g, c, W, hr, h1, h2, h3, h4, h5, _⟩ := exec_str (P := P) (a := a) (w := w) src dst e x ho hs hd he s hx hl
  exact wpOp_run hi hw hr (h g c W h1 h2 h3 h4 h5)
end
/-- Bytes and an error's number are handed back. -/
def PutBun (w w' : World) (x : Ending) (b : Bun) : Prop :=
  ∃ A n c, x = .returned (.tuple #[.slice A n c, .int .i64 (bunErr b)]) ∧ Fr NoB w w' ∧ Byt w' (fun _ => True) A n (bunOut b)
theorem PutBun.no {w w' : World} {b : Bun} (h : bunMay b = false) (hf : Fr NoB w w') : PutBun w w' (.returned (.tuple #[.slice none 0 0, .int .i64 340])) b :=
  ⟨none, 0, 0, by rw [bunErr, h]; rfl, hf, by rw [bunOut, h]; exact Byt.nil _ _ _⟩

set_option maxRecDepth 100000 in
set_option maxHeartbeats 8000000 in
theorem PutBundle_any (w : World) (F : Nat → Prop) (y : List Value) (b : Bun) (hy : BunR w F y b) (hF : ∀ k, F k → k < w.heap.size) (hsz : ∀ x ∈ b.objs, x.length ≤ 110000) :
    Calls Try.prog 69 #[.agg y.toArray] w fun x w' => PutBun w w' x b := by
  obtain ⟨A, n, c, B, m, d, rfl, hnc, hcm, hr, hmd, hdm, ho⟩ := hy
  have Hrl := Lib.hid hr.len
  have Hol := Lib.hid ho.len
  obtain ⟨w1, hw1⟩ : ∃ w1, w1 = w.alloc (.cells (bunCells A n c B m d).toArray 112) := ⟨_, rfl⟩
  have hB0 : BunBlk w1 w.heap.size A n c B m d := by rw [hw1]; exact ⟨Blk.new _ _ _⟩
  have hF1 : Fr NoB w w1 := by rw [hw1]; exact (Fr.refl _ _).alloc _
  obtain ⟨yc, hyc⟩ : ∃ yc, yc = bunCells A n c B m d := ⟨_, rfl⟩
  rw [← hyc] at hw1 ⊢
  clear hyc
  have hr1 := ArrOf.more (hr.fr hF1 fun _ _ => id) (by omega) (F' := fun k => k < w.heap.size) (R' := RefR) (fun k _ hk => hF k hk) fun _ _ _ h => h
  have ho1 : Bytss w1 (fun k => k < w.heap.size) B m b.objs := Bytss.more (ho.fr hF1 fun _ _ => id) fun k _ hk => hF k hk
  have hs1 : w1.heap.size = w.heap.size + 1 := by rw [hw1, World.size_alloc]
  have z0 := hB0.c0
  have z1 := hB0.c1
  rw [hw1] at z0 z1
  have Hw1 := Lib.hid hw1
  obtain ⟨G, hG⟩ : ∃ G, G = w.heap.size := ⟨_, rfl⟩
  rw [← hG] at hB0 hr1 ho1 hs1
  have HG := Lib.hid hG
  clear hw1 hr ho hG hF
  by_cases h1 : n ≤ 100
  · have b1 : decide (100 < (n : Int)) = false := by simp only [decide_eq_false_iff_not]; omega
    by_cases h2 : m ≤ 2000
    · have b2 : decide (2000 < (m : Int)) = false := by simp only [decide_eq_false_iff_not]; omega
      have hdef : bunMay b = ((b.refs.all (fun r => goodS r.name) && risingF refName b.refs) && b.objs.all envIs) := by rw [bunMay, namedP, Hrl.out, Hol.out, decide_eq_true h1, decide_eq_true h2]; simp
      have Hdef := Lib.hid hdef
      have q0 := hB0.c0
      have hN := refN_any w1 (fun _ => True) none 0 0 n [] (Byt.nil _ _ _) (by omega) (by omega)
      obtain ⟨l0, hl0⟩ : ∃ l0, l0 = [] ++ encN n := ⟨_, rfl⟩
      rw [← hl0] at hN
      have hn0 : l0.length ≤ 10 := by have := encN_len64 (n := n) (by omega); rw [hl0]; simpa using this
      have Hl0 := Lib.hid hl0
      have HN := Lib.hid hN
      clear hdef hl0 hN
      go_enter Try.func69, Try.ntmps69
      go_wp2_with (go_at_call 83
                   rw [← Hw1.out, ← HG.out]
                   refine HN.out.mono ?_
                   rintro e w2 ⟨A2, c2, rfl, hf2, hO2, hin2⟩
                   have q2 := (hB0.fr hf2 id).c0
                   clear z0 z1 q0)
      have hB2 := hB0.fr hf2 id
      have hr2 := ArrOf.fr hr1 hf2 (fun _ _ => id) (R' := RefR) fun _ _ _ h => h
      have ho2 := ho1.fr hf2 fun _ _ => id
      have hF2 := hF1.trans hf2 fun _ _ => id
      have s2 := hf2.size
      have hA2 : ∀ j, inB A2 j → G + 1 ≤ j := fun j hj => by have := hin2 j hj; omega
      clear hf2 hin2 hB0 hr1 ho1 hF1
      obtain ⟨w3, rfl⟩ : ∃ w3 : World, w3 = w2 := ⟨_, rfl⟩
      go_loopw [4, 29] (fun v4 v wr => ∃ (k n3 c3 : Nat) (A3 : Option Addr), k ≤ n ∧ v = .int .i64 k ∧ v4 = .slice A3 n3 c3 ∧ n3 = (l0 ++ (b.refs.take k).flatMap refBytes).length ∧ n3 ≤ 10 + 106 * k ∧ Own wr 5 1 A3 n3 c3 ((l0 ++ (b.refs.take k).flatMap refBytes).map bv) ∧ (∀ j, inB A3 j → G + 1 ≤ j) ∧ (b.refs.take k).all (fun r => goodS r.name) = true ∧ risingF refName (b.refs.take k) = true ∧ Fr (fun j => G + 1 ≤ j) w3 wr) (fun _ v _ => n - (intOf v).toNat)
      case atStart => exact ⟨0, l0.length, c2, A2, by omega, rfl, rfl, by simp, by omega, by simpa using hO2, hA2, rfl, rfl, Fr.refl _ _⟩
      case round =>
        obtain ⟨k, n3, c3, A3, hk, rfl, rfl, hn3, hn3', hO3, hA3, hall, hris, hFr⟩ := hrel
        obtain ⟨w4, rfl⟩ : ∃ w4 : World, w4 = wr := ⟨_, rfl⟩
        have s4 := hFr.size
        have hnG : ∀ j, j < G → ¬ G + 1 ≤ j := fun j hj => by omega
        have hB4 := hB2.fr hFr (by omega)
        have hr4 := ArrOf.fr hr2 hFr hnG (R' := RefR) fun _ _ _ h => h
        have Hall := Lib.hid hall
        have Hris := Lib.hid hris
        have Hn3 := Lib.hid hn3
        have hF4 := hF2.new hFr fun j hj => .inr (by have := HG.out; omega)
        clear hall hris hn3
        by_cases hkn : k < n
        · obtain ⟨bb, oo, x, y, rfl, _, gx, _, ⟨hy, hxs⟩, hcell⟩ := ArrOf.at_ hr4 hkn
          have hx33 : Hid (y.length = 33) := by show _ = _; rw [hy]; exact refCells_len x
          have hx33a : Hid (y.toArray.size = 33) := by show _ = _; rw [hy]; simp [refCells_len]
          have hx1 : Hid (y.toArray.all (·.oneCell') = true) := by show _ = _; rw [hy]; exact refCells_ones x
          have Hy := Lib.hid hy
          have Htk := Lib.hid (take_snocE gx)
          have Hmem := Lib.hid (List.mem_of_getElem? gx)
          have Gx := Lib.hid gx
          have Hno : goodS x.name = false → Hid (bunMay b = false) := fun hg => by
            show _ = _
            have : b.refs.all (fun r => goodS r.name) = false := by rw [List.all_eq_false]; exact ⟨x, Hmem.out, by rw [hg]; simp⟩
            rw [Hdef.out, this, Bool.false_and, Bool.false_and]
          have HR4 := Lib.hid hr4
          obtain ⟨lk, hlk⟩ : ∃ lk, lk = l0 ++ (b.refs.take k).flatMap refBytes := ⟨_, rfl⟩
          have Htkb : Hid (l0 ++ (b.refs.take (k + 1)).flatMap refBytes = lk ++ textBytes x.name.toList ++ x.id.1) := by
            show _ = _
            rw [Htk.out, List.flatMap_append, hlk]
            simp [refBytes]
          rw [← hlk] at hO3 Hn3
          clear hy gx hr4 hlk
          go_wp2_with (first
            | (refine wpList_load_agg rfl 162 (.tmp 32) rfl bb (oo + k * 33) rfl y _ hcell Try.underlying162 rfl (by rw [hx33.out]; exact ref_size) ?_)
            | (refine wpList_alloc_any rfl 162 rfl 33 ref_zero ?_; intro z hz; have Hz := Lib.hid hz; clear hz)
            | (refine wpList_store_newN rfl 162 (.tmp 6) (.tmp 33) rfl 33 ref_size _ z Hz.out y.toArray rfl rfl hx33a.out hx1.out ?_
               obtain ⟨g, hg⟩ : ∃ g, g = w4.heap.size := ⟨_, rfl⟩
               obtain ⟨w6, hw6⟩ : ∃ w6, w6 = w4.alloc (.cells y.toArray 162) := ⟨_, rfl⟩
               have hf6 : Fr NoB w4 w6 := by rw [hw6]; exact (Fr.refl _ _).alloc _
               have hR6 : RefBlk w6 g x := by rw [hw6, hg, Hy.out]; exact ⟨Blk.new _ _ _⟩
               have hB6 := hB4.fr hf6 id
               have hO6 := hO3.fr hf6 fun _ _ => id
               have hF6 := hF4.trans hf6 fun _ _ => id
               have HR6 := Lib.hid (ArrOf.fr HR4.out hf6 (fun _ _ => id) (R' := RefR) fun _ _ _ h => h)
               have hgA : ¬ inB A3 g := fun h => by have := hO3.lt h; omega
               have hgG : G + 1 ≤ g := by omega
               have s6 := hf6.size
               rw [← hw6]
               rw [← hg]
               clear hw6 hg hO3 hB4))
          have c0 := hR6.c0
          have p0 := hB6.c0
          go_simp
          refine wp_region_held (S := fun W => Fr NoB w6 W) rfl ?_
          have hS : Fr NoB w6 w6.drew := Fr.drew (Fr.refl _ _)
          refine wpAnyH_take (i := 0) rfl (by decide +kernel) (by decide +kernel) (by decide +kernel) (fun _ _ _ h => h) (Or.inl ⟨by kernel_rfl, fun W hW => by go_simp; with_reducible rfl⟩) hS ?_
          refine wpAnyH_take (i := 1) rfl (by decide +kernel) (by decide +kernel) (by decide +kernel) (fun _ _ _ h => h) (Or.inl ⟨by kernel_rfl, fun W hW => by have qq := hW.cell' c0 id; go_simp; with_reducible rfl⟩) hS ?_
          go_simp
          refine wpAnyH_all (rs := [2]) (by decide +kernel) (by simp) ?_
          intro i hi
          simp only [List.mem_cons, List.not_mem_nil, or_false] at hi
          subst hi
          refine wpOp_call rfl rfl 100 (enters_of Try.func100 (by kernel_rfl) rfl) #[.tmp 35] _ rfl _ rfl (refGood_any _ _ hxs) ?_
          rintro e w7 ⟨rfl, rfl⟩
          refine ⟨_, rfl, hS, ?_⟩
          cases hg : goodS x.name with
          | false =>
            have Hn := Hno hg
            clear hg Hno
            go_simp
            refine wpAnyH_take (i := 3) rfl (by decide +kernel) (by decide +kernel) (by decide +kernel) (fun _ _ _ h => h) (Or.inl ⟨by kernel_rfl, fun W hW => by go_simp; with_reducible rfl⟩) hS ?_
            refine wpAnyH_take (i := 4) rfl (by decide +kernel) (by decide +kernel) (by decide +kernel) (fun _ _ _ h => h) (Or.inl ⟨by kernel_rfl, fun W hW => by go_simp; with_reducible rfl⟩) hS ?_
            go_simp
            refine wpAnyH_take (i := 5) rfl (by decide +kernel) (by decide +kernel) (by decide +kernel) (fun _ _ _ h => h) (Or.inr ⟨by kernel_rfl, rfl⟩) hS ?_
            refine wpAnyH_take (i := 6) rfl (by decide +kernel) (by decide +kernel) (by decide +kernel) (fun _ _ _ h => h) (Or.inr ⟨by kernel_rfl, rfl⟩) hS ?_
            refine wpAnyH_take (i := 7) rfl (by decide +kernel) (by decide +kernel) (by decide +kernel) (fun _ _ _ h => h) (Or.inr ⟨by kernel_rfl, rfl⟩) hS ?_
            refine wpAnyH_take (i := 8) rfl (by decide +kernel) (by decide +kernel) (by decide +kernel) (fun _ _ _ h => h) (Or.inr ⟨by kernel_rfl, rfl⟩) hS ?_
            refine wpAnyH_take (i := 9) rfl (by decide +kernel) (by decide +kernel) (by decide +kernel) (fun _ _ _ h => h) (Or.inr ⟨by kernel_rfl, rfl⟩) hS ?_
            refine wpAnyH_take (i := 10) rfl (by decide +kernel) (by decide +kernel) (by decide +kernel) (fun _ _ _ h => h) (Or.inr ⟨by kernel_rfl, rfl⟩) hS ?_
            refine wpAnyH_take (i := 11) rfl (by decide +kernel) (by decide +kernel) (by decide +kernel) (fun _ _ _ h => h) (Or.inr ⟨by kernel_rfl, rfl⟩) hS ?_
            refine wpAnyH_take (i := 12) rfl (by decide +kernel) (by decide +kernel) (by decide +kernel) (fun _ _ _ h => h) (Or.inr ⟨by kernel_rfl, rfl⟩) hS ?_
            refine wpAnyH_take (i := 13) rfl (by decide +kernel) (by decide +kernel) (by decide +kernel) (fun _ _ _ h => h) (Or.inr ⟨by kernel_rfl, rfl⟩) hS ?_
            refine wpAnyH_take (i := 14) rfl (by decide +kernel) (by decide +kernel) (by decide +kernel) (fun _ _ _ h => h) (Or.inr ⟨by kernel_rfl, rfl⟩) hS ?_
            refine wpAnyH_take (i := 15) rfl (by decide +kernel) (by decide +kernel) (by decide +kernel) (fun _ _ _ h => h) (Or.inr ⟨by kernel_rfl, rfl⟩) hS ?_
            refine wpAnyH_take (i := 16) rfl (by decide +kernel) (by decide +kernel) (by decide +kernel) (fun _ _ _ h => h) (Or.inr ⟨by kernel_rfl, rfl⟩) hS ?_
            refine wpAnyH_take (i := 17) rfl (by decide +kernel) (by decide +kernel) (by decide +kernel) (fun _ _ _ h => h) (Or.inr ⟨by kernel_rfl, rfl⟩) hS ?_
            refine wpAnyH_take (i := 18) rfl (by decide +kernel) (by decide +kernel) (by decide +kernel) (fun _ _ _ h => h) (Or.inr ⟨by kernel_rfl, rfl⟩) hS ?_
            refine wpAnyH_take (i := 19) rfl (by decide +kernel) (by decide +kernel) (by decide +kernel) (fun _ _ _ h => h) (Or.inl ⟨by kernel_rfl, fun W hW => by go_simp; with_reducible rfl⟩) hS ?_
            go_simp
            refine wpAnyH_done (by decide +kernel) ?_ _
            go_wp2
            go_ret2
            exact PutBun.no Hn.out (hF6.trans hS fun _ _ => id)
          | true =>
            have Hg := Lib.hid hg
            have Hall2 : Hid ((b.refs.take (k + 1)).all (fun r => goodS r.name) = true) := by show _ = _; rw [Htk.out, List.all_append, Hall.out]; simp [hg]
            clear hg Hno
            go_simp
            refine wpAnyH_take (i := 3) rfl (by decide +kernel) (by decide +kernel) (by decide +kernel) (fun _ _ _ h => h) (Or.inl ⟨by kernel_rfl, fun W hW => by go_simp; with_reducible rfl⟩) hS ?_
            refine wpAnyH_take (i := 4) rfl (by decide +kernel) (by decide +kernel) (by decide +kernel) (fun _ _ _ h => h) (Or.inl ⟨by kernel_rfl, fun W hW => by go_simp; with_reducible rfl⟩) hS ?_
            go_simp
            refine wpAnyH_take (i := 5) rfl (by decide +kernel) (by decide +kernel) (by decide +kernel) (fun _ _ _ h => h) (Or.inl ⟨by kernel_rfl, fun W hW => by go_simp; with_reducible rfl⟩) hS ?_
            cases k with
            | zero =>
              go_simp
              refine wpAnyH_take (i := 6) rfl (by decide +kernel) (by decide +kernel) (by decide +kernel) (fun _ _ _ h => h) (Or.inl ⟨by kernel_rfl, fun W hW => by go_simp; with_reducible rfl⟩) hS ?_
              go_simp
              refine wpAnyH_take (i := 7) rfl (by decide +kernel) (by decide +kernel) (by decide +kernel) (fun _ _ _ h => h) (Or.inl ⟨by kernel_rfl, fun W hW => by go_simp; with_reducible rfl⟩) hS ?_
              go_simp
              refine wpAnyH_take (i := 8) rfl (by decide +kernel) (by decide +kernel) (by decide +kernel) (fun _ _ _ h => h) (Or.inr ⟨by kernel_rfl, rfl⟩) hS ?_
              refine wpAnyH_take (i := 9) rfl (by decide +kernel) (by decide +kernel) (by decide +kernel) (fun _ _ _ h => h) (Or.inr ⟨by kernel_rfl, rfl⟩) hS ?_
              refine wpAnyH_take (i := 10) rfl (by decide +kernel) (by decide +kernel) (by decide +kernel) (fun _ _ _ h => h) (Or.inr ⟨by kernel_rfl, rfl⟩) hS ?_
              refine wpAnyH_take (i := 11) rfl (by decide +kernel) (by decide +kernel) (by decide +kernel) (fun _ _ _ h => h) (Or.inr ⟨by kernel_rfl, rfl⟩) hS ?_
              refine wpAnyH_take (i := 12) rfl (by decide +kernel) (by decide +kernel) (by decide +kernel) (fun _ _ _ h => h) (Or.inr ⟨by kernel_rfl, rfl⟩) hS ?_
              refine wpAnyH_take (i := 13) rfl (by decide +kernel) (by decide +kernel) (by decide +kernel) (fun _ _ _ h => h) (Or.inr ⟨by kernel_rfl, rfl⟩) hS ?_
              refine wpAnyH_take (i := 14) rfl (by decide +kernel) (by decide +kernel) (by decide +kernel) (fun _ _ _ h => h) (Or.inr ⟨by kernel_rfl, rfl⟩) hS ?_
              refine wpAnyH_take (i := 15) rfl (by decide +kernel) (by decide +kernel) (by decide +kernel) (fun _ _ _ h => h) (Or.inr ⟨by kernel_rfl, rfl⟩) hS ?_
              refine wpAnyH_take (i := 16) rfl (by decide +kernel) (by decide +kernel) (by decide +kernel) (fun _ _ _ h => h) (Or.inr ⟨by kernel_rfl, rfl⟩) hS ?_
              refine wpAnyH_take (i := 17) rfl (by decide +kernel) (by decide +kernel) (by decide +kernel) (fun _ _ _ h => h) (Or.inr ⟨by kernel_rfl, rfl⟩) hS ?_
              refine wpAnyH_take (i := 18) rfl (by decide +kernel) (by decide +kernel) (by decide +kernel) (fun _ _ _ h => h) (Or.inl ⟨by kernel_rfl, fun W hW => by go_simp; with_reducible rfl⟩) hS ?_
              go_simp
              refine wpAnyH_take (i := 19) rfl (by decide +kernel) (by decide +kernel) (by decide +kernel) (fun _ _ _ h => h) (Or.inl ⟨by kernel_rfl, fun W hW => by go_simp; with_reducible rfl⟩) hS ?_
              go_simp
              refine wpAnyH_done (by decide +kernel) ?_ _
              go_wp2
              obtain ⟨wd, hwd⟩ : ∃ wd, wd = w6.drew := ⟨_, rfl⟩
              rw [← hwd] at hS ⊢
              clear hwd
              have h64 := goodS_size Hg.out
              refine wp_region_held (S := fun _ => True) rfl ?_
              refine wpAnyH_take (i := 0) rfl (by decide +kernel) (by decide +kernel) (by decide +kernel) (fun _ _ _ h => h) (Or.inl ⟨by kernel_rfl, fun W _ => by go_simp; with_reducible rfl⟩) trivial ?_
              refine wpAnyH_take (i := 1) rfl (by decide +kernel) (by decide +kernel) (by decide +kernel) (fun _ _ _ h => h) (Or.inl ⟨by kernel_rfl, fun W _ => by go_simp; with_reducible rfl⟩) trivial ?_
              refine wpAnyH_take (i := 5) rfl (by decide +kernel) (by decide +kernel) (by decide +kernel) (fun _ _ _ h => h) (Or.inl ⟨by kernel_rfl, fun W _ => by go_simp; with_reducible rfl⟩) trivial ?_
              go_simp
              refine wpAnyH_take (i := 6) rfl (by decide +kernel) (by decide +kernel) (by decide +kernel) (fun _ _ _ h => h) (Or.inl ⟨by kernel_rfl, fun W _ => by go_simp; with_reducible rfl⟩) trivial ?_
              go_simp
              have hR7 := (hR6.fr hS id).fr (Fr.drew (Fr.refl NoB wd)) id
              have hO7 := (hO6.fr hS fun _ _ => id).fr (Fr.drew (Fr.refl NoB wd)) fun _ _ => id
              have hf67 : Fr NoB w6 wd.drew := hS.trans (Fr.drew (Fr.refl _ _)) fun _ _ => id
              have c7 := hR7.c0
              refine wpAnyH_all (rs := [2]) (by decide +kernel) (by simp) ?_
              intro i hi
              simp only [List.mem_cons, List.not_mem_nil, or_false] at hi
              subst hi
              refine wpOp_run (v := .string x.name) (w' := wd.drew) rfl (by kernel_rfl) (by go_simp) ⟨trivial, ?_⟩
              go_simp
              refine wpAnyH_all (rs := [3]) (by decide +kernel) (by simp) ?_
              intro i hi
              simp only [List.mem_cons, List.not_mem_nil, or_false] at hi
              subst hi
              refine wpOp_str rfl (by kernel_rfl) 9 22 5 (.tmp 56) rfl Try.underlying9 Try.underlying22 Try.underlying5 x.name rfl hxs ?_
              intro g8 c8 w8 hg8 hS8 hf8 hc8 hm8
              refine ⟨trivial, ?_⟩
              have hR8 := hR7.fr hf8 id
              have hO8 := hO7.fr hf8 fun _ _ => id
              go_simp
              refine wpAnyH_all (rs := [4]) (by decide +kernel) (by simp) ?_
              intro i hi
              simp only [List.mem_cons, List.not_mem_nil, or_false] at hi
              subst hi
              refine wpOp_call rfl rfl 84 (enters_of Try.func84 (by kernel_rfl) rfl) #[.tmp 54, .tmp 57] _ rfl _ rfl (refText_any w8 (fun _ => True) (fun _ => True) A3 _ n3 c3 _ c8 lk x.name.data.toList (hO8.arr fun _ _ _ => trivial) (hS8.byt trivial) (by show n3 + x.name.size + 10 ≤ _; omega)) ?_
              rintro e w9 ⟨A9, c9, rfl, hf9, hO9, hin9⟩
              refine ⟨_, rfl, trivial, ?_⟩
              rw [← ByteArray.toList_eq] at hO9 ⊢
              obtain ⟨l9, hl9⟩ : ∃ l9, l9 = lk ++ textBytes x.name.toList := ⟨_, rfl⟩
              have hl9n : l9.length ≤ n3 + 74 := by
                have e : x.name.toList.length = x.name.size := toList_len _
                have := textBytes_lenE x.name.toList (by omega)
                rw [hl9, List.length_append, ← Hn3.out]; omega
              rw [← hl9] at hO9 ⊢
              have Hl9 := Lib.hid hl9
              clear hl9
              obtain ⟨n9, hn9⟩ : ∃ n9, n9 = l9.length := ⟨_, rfl⟩
              rw [← hn9] at hO9 hl9n ⊢
              have Hn9 := Lib.hid hn9
              clear hn9
              have hR9 := hR8.fr hf9 id
              have s9 := hf9.size
              have s8 := hf8.size
              go_simp
              refine wpAnyH_all (rs := [7]) (by decide +kernel) (by simp) ?_
              intro i hi
              simp only [List.mem_cons, List.not_mem_nil, or_false] at hi
              subst hi
              refine wpOp_app el_u8 rfl (by kernel_rfl) (.tmp 58) (.tmp 60) rfl A9 n9 c9 _ rfl hO9 (fun k => k = g) _ 32 32 _ rfl hR9.byt (bv_one _) (by omega) ?_
              intro A10 c10 w10 hO10 hf10 hin10
              refine ⟨trivial, ?_⟩
              go_simp
              refine wpAnyH_take (i := 8) rfl (by decide +kernel) (by decide +kernel) (by decide +kernel) (fun _ _ _ h => h) (Or.inl ⟨by kernel_rfl, fun W _ => by go_simp; with_reducible rfl⟩) trivial ?_
              go_simp
              refine wpAnyH_done (by decide +kernel) ?_ _
              have s67 := hf67.size
              have s10 := hf10.size
              have h9G : ∀ j, inB A9 j → G + 1 ≤ j := fun j hj => by have := hin9 j hj; omega
              have hin10' : ∀ j, inB A10 j → G + 1 ≤ j := fun j hj => (hin10 j hj).elim (h9G j) fun h => by omega
              have hlast : lk ++ textBytes x.name.toList ++ x.id.1 = l9 ++ x.id.1 := by rw [Hl9.out]
              go_wp2
              go_roundw
              case rel => exact ⟨1, n9 + 32, c10, A10, by omega, by go_num, rfl, by rw [Htkb.out, hlast, List.length_append, x.id.2, Hn9.out], by omega, by rw [Htkb.out, hlast, List.map_append]; exact hO10, hin10', Hall2.out, risingF_one b.refs, (((hFr.trans (hf6.mono fun _ _ h => h.elim) fun _ _ h => h).trans (hf67.mono fun _ _ h => h.elim) fun _ _ h => h).trans ((hf8.trans hf9 fun _ _ => id).mono fun _ _ h => h.elim) fun _ _ h => h).trans (hf10.mono fun j _ h => h9G j h) fun _ _ h => h⟩
              case measure => (simp [intOf] <;> omega)
            | succ j =>
              obtain ⟨bb2, oo2, x2, y2, hAe2, _, gx2, _, ⟨hy2, hxs2⟩, hcell2⟩ := ArrOf.at_ HR6.out (k := j) (by omega)
              injection hAe2 with hAe2
              injection hAe2 with hb2 ho2'
              subst hb2 ho2'
              have d0 : w6.cell? ⟨bb, oo + j * 33, none⟩ = some (.string x2.name) := by
                have := hcell2 0 (.string x2.name) (by rw [hy2]; rfl)
                simpa using this
              have hrt := risingF_take (f := refName) gx2 Gx.out
              rw [Hris.out, Bool.true_and] at hrt
              have hless : Op.bytesLess x2.name.toList x.name.toList = Op.bytesLess (refName x2) (refName x) := rfl
              have hwk : IntKind.i64.wrap (j : Int) = j := by rw [IntKind.wrap_i64]; omega
              have g0 : decide ((0 : Int) < (j : Int) + 1) = true := by simp only [decide_eq_true_eq]; omega
              have g1 : (0 : Int) ≤ (j : Int) := by omega
              have g2 : (j : Int) < (n : Int) := by omega
              have Hrt := Lib.hid hrt
              clear gx2 hy2 hcell2 hrt
              generalize Op.bytesLess (refName x2) (refName x) = bl at *
              go_simp
              refine wpAnyH_take (i := 6) rfl (by decide +kernel) (by decide +kernel) (by decide +kernel) (fun _ _ _ h => h) (Or.inl ⟨by kernel_rfl, fun W hW => by go_simp; with_reducible rfl⟩) hS ?_
              go_simp
              refine wpAnyH_take (i := 7) rfl (by decide +kernel) (by decide +kernel) (by decide +kernel) (fun _ _ _ h => h) (Or.inl ⟨by kernel_rfl, fun W hW => by go_simp; with_reducible rfl⟩) hS ?_
              go_simp
              refine wpAnyH_take (i := 8) rfl (by decide +kernel) (by decide +kernel) (by decide +kernel) (fun _ _ _ h => h) (Or.inl ⟨by kernel_rfl, fun W hW => by go_simp; with_reducible rfl⟩) hS ?_
              go_simp
              refine wpAnyH_take (i := 9) rfl (by decide +kernel) (by decide +kernel) (by decide +kernel) (fun _ _ _ h => h) (Or.inl ⟨by kernel_rfl, fun W hW => by have qq := hW.cell' p0 id; go_simp; with_reducible rfl⟩) hS ?_
              refine wpAnyH_take (i := 10) rfl (by decide +kernel) (by decide +kernel) (by decide +kernel) (fun _ _ _ h => h) (Or.inl ⟨by kernel_rfl, fun W hW => by go_simp; with_reducible rfl⟩) hS ?_
              go_simp
              refine wpAnyH_take (i := 11) rfl (by decide +kernel) (by decide +kernel) (by decide +kernel) (fun _ _ _ h => h) (Or.inl ⟨by kernel_rfl, fun W hW => by go_simp; with_reducible rfl⟩) hS ?_
              go_simp
              refine wpAnyH_take (i := 12) rfl (by decide +kernel) (by decide +kernel) (by decide +kernel) (fun _ _ _ h => h) (Or.inl ⟨by kernel_rfl, fun W hW => by go_simp; with_reducible rfl⟩) hS ?_
              go_simp
              refine wpAnyH_take (i := 13) rfl (by decide +kernel) (by decide +kernel) (by decide +kernel) (fun _ _ _ h => h) (Or.inl ⟨by kernel_rfl, fun W hW => by go_simp; with_reducible rfl⟩) hS ?_
              go_simp
              refine wpAnyH_take (i := 14) rfl (by decide +kernel) (by decide +kernel) (by decide +kernel) (fun _ _ _ h => h) (Or.inl ⟨by kernel_rfl, fun W hW => by have qq := hW.cell' d0 id; go_simp; with_reducible rfl⟩) hS ?_
              refine wpAnyH_take (i := 15) rfl (by decide +kernel) (by decide +kernel) (by decide +kernel) (fun _ _ _ h => h) (Or.inl ⟨by kernel_rfl, fun W hW => by go_simp; with_reducible rfl⟩) hS ?_
              go_simp
              refine wpAnyH_take (i := 16) rfl (by decide +kernel) (by decide +kernel) (by decide +kernel) (fun _ _ _ h => h) (Or.inl ⟨by kernel_rfl, fun W hW => by have qq := hW.cell' c0 id; go_simp; with_reducible rfl⟩) hS ?_
              go_simp
              refine wpAnyH_take (i := 17) rfl (by decide +kernel) (by decide +kernel) (by decide +kernel) (fun _ _ _ h => h) (Or.inl ⟨by kernel_rfl, fun W hW => by go_simp; with_reducible rfl⟩) hS ?_
              go_simp
              refine wpAnyH_take (i := 18) rfl (by decide +kernel) (by decide +kernel) (by decide +kernel) (fun _ _ _ h => h) (Or.inl ⟨by kernel_rfl, fun W hW => by go_simp; with_reducible rfl⟩) hS ?_
              go_simp
              refine wpAnyH_take (i := 19) rfl (by decide +kernel) (by decide +kernel) (by decide +kernel) (fun _ _ _ h => h) (Or.inl ⟨by kernel_rfl, fun W hW => by go_simp; with_reducible rfl⟩) hS ?_
              go_simp
              refine wpAnyH_done (by decide +kernel) ?_ _
              cases bl with
              | true =>
                go_wp2
                obtain ⟨wd, hwd⟩ : ∃ wd, wd = w6.drew := ⟨_, rfl⟩
                rw [← hwd] at hS ⊢
                clear hwd
                have h64 := goodS_size Hg.out
                refine wp_region_held (S := fun _ => True) rfl ?_
                refine wpAnyH_take (i := 0) rfl (by decide +kernel) (by decide +kernel) (by decide +kernel) (fun _ _ _ h => h) (Or.inl ⟨by kernel_rfl, fun W _ => by go_simp; with_reducible rfl⟩) trivial ?_
                refine wpAnyH_take (i := 1) rfl (by decide +kernel) (by decide +kernel) (by decide +kernel) (fun _ _ _ h => h) (Or.inl ⟨by kernel_rfl, fun W _ => by go_simp; with_reducible rfl⟩) trivial ?_
                refine wpAnyH_take (i := 5) rfl (by decide +kernel) (by decide +kernel) (by decide +kernel) (fun _ _ _ h => h) (Or.inl ⟨by kernel_rfl, fun W _ => by go_simp; with_reducible rfl⟩) trivial ?_
                go_simp
                refine wpAnyH_take (i := 6) rfl (by decide +kernel) (by decide +kernel) (by decide +kernel) (fun _ _ _ h => h) (Or.inl ⟨by kernel_rfl, fun W _ => by go_simp; with_reducible rfl⟩) trivial ?_
                go_simp
                have hR7 := (hR6.fr hS id).fr (Fr.drew (Fr.refl NoB wd)) id
                have hO7 := (hO6.fr hS fun _ _ => id).fr (Fr.drew (Fr.refl NoB wd)) fun _ _ => id
                have hf67 : Fr NoB w6 wd.drew := hS.trans (Fr.drew (Fr.refl _ _)) fun _ _ => id
                have c7 := hR7.c0
                refine wpAnyH_all (rs := [2]) (by decide +kernel) (by simp) ?_
                intro i hi
                simp only [List.mem_cons, List.not_mem_nil, or_false] at hi
                subst hi
                refine wpOp_run (v := .string x.name) (w' := wd.drew) rfl (by kernel_rfl) (by go_simp) ⟨trivial, ?_⟩
                go_simp
                refine wpAnyH_all (rs := [3]) (by decide +kernel) (by simp) ?_
                intro i hi
                simp only [List.mem_cons, List.not_mem_nil, or_false] at hi
                subst hi
                refine wpOp_str rfl (by kernel_rfl) 9 22 5 (.tmp 56) rfl Try.underlying9 Try.underlying22 Try.underlying5 x.name rfl hxs ?_
                intro g8 c8 w8 hg8 hS8 hf8 hc8 hm8
                refine ⟨trivial, ?_⟩
                have hR8 := hR7.fr hf8 id
                have hO8 := hO7.fr hf8 fun _ _ => id
                go_simp
                refine wpAnyH_all (rs := [4]) (by decide +kernel) (by simp) ?_
                intro i hi
                simp only [List.mem_cons, List.not_mem_nil, or_false] at hi
                subst hi
                refine wpOp_call rfl rfl 84 (enters_of Try.func84 (by kernel_rfl) rfl) #[.tmp 54, .tmp 57] _ rfl _ rfl (refText_any w8 (fun _ => True) (fun _ => True) A3 _ n3 c3 _ c8 lk x.name.data.toList (hO8.arr fun _ _ _ => trivial) (hS8.byt trivial) (by show n3 + x.name.size + 10 ≤ _; omega)) ?_
                rintro e w9 ⟨A9, c9, rfl, hf9, hO9, hin9⟩
                refine ⟨_, rfl, trivial, ?_⟩
                rw [← ByteArray.toList_eq] at hO9 ⊢
                obtain ⟨l9, hl9⟩ : ∃ l9, l9 = lk ++ textBytes x.name.toList := ⟨_, rfl⟩
                have hl9n : l9.length ≤ n3 + 74 := by
                  have e : x.name.toList.length = x.name.size := toList_len _
                  have := textBytes_lenE x.name.toList (by omega)
                  rw [hl9, List.length_append, ← Hn3.out]; omega
                rw [← hl9] at hO9 ⊢
                have Hl9 := Lib.hid hl9
                clear hl9
                obtain ⟨n9, hn9⟩ : ∃ n9, n9 = l9.length := ⟨_, rfl⟩
                rw [← hn9] at hO9 hl9n ⊢
                have Hn9 := Lib.hid hn9
                clear hn9
                have hR9 := hR8.fr hf9 id
                have s9 := hf9.size
                have s8 := hf8.size
                go_simp
                refine wpAnyH_all (rs := [7]) (by decide +kernel) (by simp) ?_
                intro i hi
                simp only [List.mem_cons, List.not_mem_nil, or_false] at hi
                subst hi
                refine wpOp_app el_u8 rfl (by kernel_rfl) (.tmp 58) (.tmp 60) rfl A9 n9 c9 _ rfl hO9 (fun k => k = g) _ 32 32 _ rfl hR9.byt (bv_one _) (by omega) ?_
                intro A10 c10 w10 hO10 hf10 hin10
                refine ⟨trivial, ?_⟩
                go_simp
                refine wpAnyH_take (i := 8) rfl (by decide +kernel) (by decide +kernel) (by decide +kernel) (fun _ _ _ h => h) (Or.inl ⟨by kernel_rfl, fun W _ => by go_simp; with_reducible rfl⟩) trivial ?_
                go_simp
                refine wpAnyH_done (by decide +kernel) ?_ _
                have s67 := hf67.size
                have s10 := hf10.size
                have h9G : ∀ j, inB A9 j → G + 1 ≤ j := fun j hj => by have := hin9 j hj; omega
                have hin10' : ∀ j, inB A10 j → G + 1 ≤ j := fun j hj => (hin10 j hj).elim (h9G j) fun h => by omega
                have hlast : lk ++ textBytes x.name.toList ++ x.id.1 = l9 ++ x.id.1 := by rw [Hl9.out]
                go_wp2
                go_roundw
                case rel => exact ⟨j + 1 + 1, n9 + 32, c10, A10, by omega, by go_num, rfl, by rw [Htkb.out, hlast, List.length_append, x.id.2, Hn9.out], by omega, by rw [Htkb.out, hlast, List.map_append]; exact hO10, hin10', Hall2.out, Hrt.out, (((hFr.trans (hf6.mono fun _ _ h => h.elim) fun _ _ h => h).trans (hf67.mono fun _ _ h => h.elim) fun _ _ h => h).trans ((hf8.trans hf9 fun _ _ => id).mono fun _ _ h => h.elim) fun _ _ h => h).trans (hf10.mono fun j _ h => h9G j h) fun _ _ h => h⟩
                case measure => (simp [intOf] <;> omega)
              | false =>
                have hno : bunMay b = false := by
                  rw [Hdef.out]
                  cases hr : risingF refName b.refs with
                  | false => rw [Bool.and_false, Bool.false_and]
                  | true =>
                    have := risingF_mono (f := refName) b.refs (j + 2) hr
                    rw [Hrt.out] at this
                    cases this
                have Hn := Lib.hid hno
                clear hno
                go_wp2
                go_ret2
                exact PutBun.no Hn.out (hF6.trans hS fun _ _ => id)
        · obtain rfl : k = n := by omega
          have ha := Hall.out
          have hr := Hris.out
          have hn3 := Hn3.out
          rw [List.take_of_length_le (by rw [Hrl.out]; exact Nat.le_refl _)] at ha hr hO3 hn3
          have hnd : bunMay b = b.objs.all envIs := by rw [Hdef.out, ha, hr]; simp
          have Hnd := Lib.hid hnd
          obtain ⟨l5, hl5⟩ : ∃ l5, l5 = l0 ++ b.refs.flatMap refBytes := ⟨_, rfl⟩
          rw [← hl5] at hO3 hn3
          have Hl5 := Lib.hid hl5
          have hN2 := refN_any w4 (fun _ => True) A3 n3 c3 m l5 (hO3.arr fun _ _ _ => trivial) (by omega) (by omega)
          obtain ⟨l6, hl6⟩ : ∃ l6, l6 = l5 ++ encN m := ⟨_, rfl⟩
          have hl6n : l6.length ≤ 20000 := by have := encN_len64 (n := m) (by omega); rw [hl6, List.length_append]; omega
          rw [← hl6] at hN2
          have Hl6 := Lib.hid hl6
          have HN2 := Lib.hid hN2
          have o1 := hB4.c1
          have ho4 := ho2.fr hFr hnG
          clear ha hr hn3 hnd hl5 hl6 hN2 Hall Hris Hn3
          go_wp2_with (go_at_call 83
                       refine HN2.out.mono ?_
                       rintro e w5 ⟨A5, c5, rfl, hf5, hO5, hin5⟩
                       have o5 := (hB4.fr hf5 id).c1
                       clear o1)
          have ho5 := ho4.fr hf5 fun _ _ => id
          have hF5 := hF4.trans hf5 fun _ _ => id
          have s5 := hf5.size
          clear hf5 hin5 hB4 ho4 hF4 hr4
          obtain ⟨w7, rfl⟩ : ∃ w7 : World, w7 = w5 := ⟨_, rfl⟩
          go_loopw [4, 72] (fun v4 v wr => ∃ (j n6 c6 : Nat) (A6 : Option Addr), j ≤ m ∧ v = .int .i64 j ∧ v4 = .slice A6 n6 c6 ∧ n6 = (l6 ++ (b.objs.take j).flatMap textBytes).length ∧ n6 ≤ 20000 + 110010 * j ∧ Own wr 5 1 A6 n6 c6 ((l6 ++ (b.objs.take j).flatMap textBytes).map bv) ∧ (b.objs.take j).all envIs = true ∧ Fr NoB w7 wr) (fun _ v _ => m - (intOf v).toNat)
          case atStart => exact ⟨0, l6.length, c5, A5, by omega, rfl, rfl, by simp, by omega, by simpa using hO5, rfl, Fr.refl _ _⟩
          case round =>
            obtain ⟨j, n6, c6, A6, hj, rfl, rfl, hn6, hn6', hO6, hall, hFj⟩ := hrel
            obtain ⟨w8, rfl⟩ : ∃ w8 : World, w8 = wr := ⟨_, rfl⟩
            have s8 := hFj.size
            have Hal := Lib.hid hall
            have Hn6 := Lib.hid hn6
            have hF8 := hF5.trans hFj fun _ _ => id
            clear hall hn6
            by_cases hjm : j < m
            · obtain ⟨bb, oo, x, y, rfl, _, gx, _, ⟨X, p, e, hy, hpe, hem, hbx⟩, hcell⟩ := ArrOf.at_ (ho5.fr hFj fun _ _ => id) hjm
              have c0 : w8.cell? ⟨bb, oo + j, none⟩ = some (.slice X p e) := by
                have := hcell 0 (.slice X p e) (by rw [hy]; rfl)
                simpa using this
              have hp : p ≤ 110000 := by have := hsz x (List.mem_of_getElem? gx); rw [hbx.len] at this; exact this
              have Htk := Lib.hid (take_snocE gx)
              have Hmem := Lib.hid (List.mem_of_getElem? gx)
              have hcall := EnvelopeOf_any w8 (fun k => k < G) (fun k hk => by omega) X p e x hbx hpe hem (by omega)
              have Hcall := Lib.hid hcall
              obtain ⟨lj, hlj⟩ : ∃ lj, lj = l6 ++ (b.objs.take j).flatMap textBytes := ⟨_, rfl⟩
              have Htkb : Hid (l6 ++ (b.objs.take (j + 1)).flatMap textBytes = lj ++ textBytes x) := by
                show _ = _
                rw [Htk.out, List.flatMap_append, hlj]
                simp
              rw [← hlj] at hO6 Hn6
              have hb := envBad_is x
              clear gx hy hcell hcall hlj
              cases hi : envIs x with
              | true =>
                have Hi := Lib.hid hi
                rw [hi] at hb
                have hb' : envBad x = 0 := hb
                have Hb := Lib.hid hb'
                clear hb hb' hi
                go_wp2_with (first
                  | (go_at_call 97
                     refine Hcall.out.mono ?_
                     rintro e w9 ⟨y, rfl, hf9, A1, n1, c1, B1, m1, d1, rfl, _⟩
                     rw [Hb.out]
                     have H5 : Hid ((envCells (envOf x) A1 n1 c1 B1 m1 d1).toArray.size = 5) := rfl
                     have H1 := Lib.hid (envCells_ones (envOf x) A1 n1 c1 B1 m1 d1)
                     have hO9 := (hO6.fr hf9 fun _ _ => id)
                     have hb9 := hbx.fr hf9 fun _ _ => id
                     generalize envCells (envOf x) A1 n1 c1 B1 m1 d1 = yc9 at *)
                  | (refine wpList_alloc_any rfl 153 rfl 5 env_zero ?_; intro z hz; have Hz := Lib.hid hz; clear hz)
                  | (refine wpList_store_newN rfl 153 (.tmp 9) (.tmp 79) rfl 5 env_size _ z Hz.out yc9.toArray rfl rfl H5.out H1.out ?_)
                  | (go_at_call 84
                     refine (refText_any _ (fun _ => True) _ A6 X n6 c6 p _ lj x ((hO9.alloc _).arr fun _ _ _ => trivial) (hb9.alloc _) (by omega)).mono ?_
                     rintro e w10 ⟨A10, c10, rfl, hf10, hO10, hin10⟩
                     rw [← Htkb.out] at hO10 ⊢
                     have hl10 : (l6 ++ (b.objs.take (j + 1)).flatMap textBytes).length ≤ n6 + 110010 := by
                       have := textBytes_lenE x (by have := hbx.len; omega)
                       have e2 := hbx.len
                       rw [Htkb.out, List.length_append, ← Hn6.out]; omega
                     obtain ⟨n10, hn10⟩ : ∃ n10, n10 = (l6 ++ (b.objs.take (j + 1)).flatMap textBytes).length := ⟨_, rfl⟩
                     rw [← hn10] at hO10 hl10 ⊢
                     have Hn10 := Lib.hid hn10
                     clear hn10))
                have hb10 : n10 ≤ 20000 + 110010 * (j + 1) := by
                  rw [Nat.mul_add, Nat.mul_one, ← Nat.add_assoc]
                  exact Nat.le_trans hl10 (Nat.add_le_add_right hn6' 110010)
                go_roundw
                case rel => exact ⟨j + 1, n10, c10, A10, by omega, by go_num, rfl, Hn10.out, hb10, hO10, by rw [Htk.out, List.all_append, Hal.out]; simp [Hi.out], ((hFj.trans hf9 fun _ _ => id).alloc _).trans hf10 fun _ _ => id⟩
                case measure => (simp [intOf] <;> omega)
              | false =>
                have Hno : Hid (bunMay b = false) := by show _ = _; rw [Hnd.out, List.all_eq_false]; exact ⟨x, Hmem.out, by rw [hi]; simp⟩
                rw [hi] at hb
                have hb' : envBad x = 90 := hb
                have Hb := Lib.hid hb'
                clear hb hb' hi
                go_wp2_with (first
                  | (go_at_call 97
                     refine Hcall.out.mono ?_
                     rintro e w9 ⟨y, rfl, hf9, A1, n1, c1, B1, m1, d1, rfl, _⟩
                     rw [Hb.out]
                     have H5 : Hid ((envCells (envOf x) A1 n1 c1 B1 m1 d1).toArray.size = 5) := rfl
                     have H1 := Lib.hid (envCells_ones (envOf x) A1 n1 c1 B1 m1 d1)
                     generalize envCells (envOf x) A1 n1 c1 B1 m1 d1 = yc9 at *)
                  | (refine wpList_alloc_any rfl 153 rfl 5 env_zero ?_; intro z hz; have Hz := Lib.hid hz; clear hz)
                  | (refine wpList_store_newN rfl 153 (.tmp 9) (.tmp 79) rfl 5 env_size _ z Hz.out yc9.toArray rfl rfl H5.out H1.out ?_))
                go_ret2
                exact PutBun.no Hno.out ((hF8.trans hf9 fun _ _ => id).alloc _)
            · have ha := Hal.out
              rw [List.take_of_length_le (by rw [Hol.out]; omega)] at ha hO6
              have hyes : bunMay b = true := by rw [Hnd.out]; exact ha
              have hout : l6 ++ b.objs.flatMap textBytes = bunOut b := by
                rw [bunOut, if_pos hyes, bunBytes, Hl6.out, Hl5.out, Hl0.out, Hrl.out, Hol.out]
                simp [List.append_assoc]
              rw [hout] at hO6
              have Hyes := Lib.hid hyes
              clear ha hyes hout
              go_wp2
              go_ret2
              exact ⟨A6, n6, c6, by rw [bunErr, Hyes.out]; rfl, hF8, hO6.arr fun _ _ _ => trivial⟩
    · have b2 : decide (2000 < (m : Int)) = true := by simp only [decide_eq_true_eq]; omega
      have He : Hid (bunMay b = false) := by show _ = _; rw [bunMay, Hol.out, decide_eq_false h2]; simp
      clear h2
      go_enter Try.func69, Try.ntmps69
      go_wp2
      rw [← Hw1.out]
      go_ret2
      exact PutBun.no He.out hF1
  · have b1 : decide (100 < (n : Int)) = true := by simp only [decide_eq_true_eq]; omega
    have He : Hid (bunMay b = false) := by show _ = _; rw [bunMay, namedP, Hrl.out, decide_eq_false h1]; simp
    clear h1
    go_enter Try.func69, Try.ntmps69
    go_wp2
    rw [← Hw1.out]
    go_ret2
    exact PutBun.no He.out hF1
end Go.Proofs.Ytnkfchondedfcaa
