/-
  What one sees who has no key, in plain words: numbers of links, seals of texts. Laws of single operations of a region behind a fence. Conditions: each lemma states its own.
-/
import Derived.Test.YtnkfchondedfcaaK5
import Derived.Deep.Cut
import Derived.Deep.CutBlock
import Derived.Deep.CutRange
import Derived.Test.YtnkfchondedfcaaRows
import Derived.Test.YtnkfchondedfcaaK2
import Derived.Test.YtnkfchondedfcaaK4
namespace Go.Proofs.Ytnkfchondedfcaa
section
open Go.RowKit

def refsGo : Nat → Rd → List Ref × Rd
  | 0, r => ([], r)
  | k + 1, r => (⟨⟨(r.Text 64).1.toArray⟩, idOf ((r.Text 64).2.Raw 32).1⟩ :: (refsGo k ((r.Text 64).2.Raw 32).2).1, (refsGo k ((r.Text 64).2.Raw 32).2).2)
def objsGo : Nat → Rd → List (List UInt8) × Rd
  | 0, r => ([], r)
  | k + 1, r => ((r.Text 110000).1 :: (objsGo k (r.Text 110000).2).1, (objsGo k (r.Text 110000).2).2)
theorem Rd.N_badE {r : Rd} (h : r.good = false) (m : Nat) : r.N m = (0, Rd.bad) := by simp [Rd.N, h]
theorem Rd.Raw_badE {r : Rd} (h : r.good = false) (k : Int) : r.Raw k = ([], Rd.bad) := by unfold Rd.Raw; rw [if_neg (by simp [h])]
theorem Rd.Text_badE {r : Rd} (h : r.good = false) (k : Int) : r.Text k = ([], Rd.bad) := by
  rw [Rd.Text]
  split
  · rfl
  · rw [Rd.N_badE h, Rd.Raw_badE rfl]
theorem Rd.Text_restE {r : Rd} (h : r.Rest = 0) (k : Int) : r.Text k = ([], Rd.bad) := by
  cases hg : r.good with
  | false => exact Rd.Text_badE hg k
  | true =>
    have hl : r.l = [] := by
      unfold Rd.Rest at h
      rw [if_pos hg] at h
      exact List.eq_nil_of_length_eq_zero h
    have hN : ∀ m, r.N m = (0, Rd.bad) := fun m => by simp [Rd.N, hg, hl, rdGo_nil]
    rw [Rd.Text]
    split
    · rfl
    · rw [hN, Rd.Raw_badE rfl]
theorem objsGo_bad : ∀ (k : Nat) {r : Rd}, r.good = false → (objsGo k r).2.good = false
  | 0, _, h => h
  | k + 1, r, h => by
    rw [objsGo, Rd.Text_badE h]
    exact objsGo_bad k rfl
theorem objsGo_rest {k : Nat} {r : Rd} (h : r.Rest = 0) (hk : 0 < k) : (objsGo k r).2.good = false := by
  match k, hk with
  | k + 1, _ =>
    rw [objsGo, Rd.Text_restE h]
    exact objsGo_bad k rfl
theorem End_badE {r : Rd} (h : r.good = false) : Rd.End r ≠ 0 := by
  unfold Rd.End
  rw [h]
  simp
theorem objsGo_size : ∀ (k : Nat) (r : Rd), ∀ s ∈ (objsGo k r).1, s.length ≤ 110000
  | 0, _, s, hs => by simp [objsGo] at hs
  | k + 1, r, s, hs => by
    rw [objsGo, List.mem_cons] at hs
    rcases hs with rfl | hs
    · exact Rd.Text_leE r 110000 110000 (by omega)
    · exact objsGo_size k _ s hs
theorem refsGo_size : ∀ (k : Nat) (r : Rd), ∀ s ∈ (refsGo k r).1, s.name.size ≤ 64
  | 0, _, s, hs => by simp [refsGo] at hs
  | k + 1, r, s, hs => by
    rw [refsGo, List.mem_cons] at hs
    rcases hs with rfl | hs
    · show (r.Text 64).1.toArray.size ≤ 64
      have := Rd.Text_leE r 64 64 (by omega)
      simpa using this
    · exact refsGo_size k _ s hs
theorem refsGo_l : ∀ (k : Nat) (r : Rd), (refsGo k r).2.l.length ≤ r.l.length
  | 0, _ => Nat.le_refl _
  | k + 1, r => by
    rw [refsGo]
    exact Nat.le_trans (refsGo_l k _) (Nat.le_trans (Rd.Raw_lE _ _) (Rd.Text_lE _ _))
theorem ArrOf.of_flatE {α : Type} {R : List Value → α → Prop} {w : World} {F : Nat → Prop} {size n : Nat} {A : Option Addr} {ls : List α} (f : α → List Value) (h : Arr w F size A n (ls.flatMap f)) (hn : ls.length = n)
    (hl : ∀ a, (f a).length = size) (hR : ∀ a, a ∈ ls → R (f a) a) : ArrOf R w F size A n ls := by
  rw [List.flatMap_def] at h
  refine ArrOf.of_arr h (by intro y hy; obtain ⟨a, _, rfl⟩ := List.mem_map.1 hy; exact hl a) hn fun k a ha => ?_
  exact ⟨f a, by rw [List.getElem?_map, ha]; rfl, hR a (List.mem_of_getElem? ha)⟩
def bunParse (l : List UInt8) : Bun × Rd :=
  let p1 := Rd.N ⟨l, true⟩ 100
  let q1 := refsGo p1.1 p1.2
  let p2 := q1.2.N 2000
  let q2 := objsGo p2.1 p2.2
  (⟨q1.1, q2.1⟩, q2.2)
theorem bunParse_eq {l : List UInt8} {v1 v2 : Nat} {l1 : List Ref} {r1 r2 r3 : Rd} (h1 : Rd.N ⟨l, true⟩ 100 = (v1, r1)) (h2 : refsGo v1 r1 = (l1, r2)) (h3 : r2.N 2000 = (v2, r3)) :
    bunParse l = (⟨l1, (objsGo v2 r3).1⟩, (objsGo v2 r3).2) := by
  unfold bunParse
  simp only [h1, h2, h3]
def zeroBun : Bun := ⟨[], []⟩
def bunIs (l : List UInt8) : Bool := decide (Rd.End (bunParse l).2 = 0) && bunMay (bunParse l).1
def bunOf (l : List UInt8) : Bun := if bunIs l = true then (bunParse l).1 else zeroBun
def bunBad (l : List UInt8) : Int := if bunIs l = true then 0 else 340
theorem bun_vals {l : List UInt8} {b : Bun} {r : Rd} (h : bunParse l = (b, r)) : bunOf l = (if (decide (Rd.End r = 0) && bunMay b) = true then b else zeroBun) ∧ bunBad l = (if (decide (Rd.End r = 0) && bunMay b) = true then 0 else 340) := by
  unfold bunOf bunBad bunIs
  rw [h]
  exact ⟨rfl, rfl⟩
/-- A bundle and an error's number are handed back; its slices lie in blocks of G. -/
def GotBun (G : Nat → Prop) (w w' : World) (x : Ending) (b : Bun) (bad : Int) : Prop :=
  ∃ y, x = .returned (.tuple #[.agg y.toArray, .int .i64 bad]) ∧ Fr NoB w w' ∧ BunR w' G y b
theorem GotBun.zero {G : Nat → Prop} {w w' : World} (h : Fr NoB w w') : GotBun G w w' (.returned (.tuple #[.agg (bunCells none 0 0 none 0 0).toArray, .int .i64 340])) zeroBun 340 :=
  ⟨_, rfl, h, none, 0, 0, none, 0, 0, rfl, Nat.le_refl _, by simp [maxLen], ArrOf.none_ _ _ _ _ _, Nat.le_refl _, by simp [maxLen], ArrOf.none_ _ _ _ _ _⟩
theorem bun_zeroc : ((Try.prog.info? 112).bind (·.zero)).map (·.cells) = some (bunCells none 0 0 none 0 0).toArray := by kernel_rfl
theorem zeroBun_built : Try.prog.built 112 [] = some (bunCells none 0 0 none 0 0).toArray := by kernel_rfl
theorem nameRef_built (s : ByteArray) : Try.prog.built 162 [(0, .string s)] = some (refCells ⟨s, zeroId⟩).toArray := by kernel_rfl
theorem el_ref : ElemOk Try.prog 110 162 (.agg (refCells ⟨⟨#[]⟩, zeroId⟩).toArray) 33 48 := .mk Try.underlying110 (by kernel_rfl) rfl (by omega) (by omega)
theorem el_byt : ElemOk Try.prog 100 22 (.slice none 0 0) 1 24 := .mk Try.underlying100 (by kernel_rfl) rfl (by omega) (by omega)
set_option maxRecDepth 100000 in
set_option maxHeartbeats 8000000 in
theorem bunOf_any (w : World) (F : Nat → Prop) (A : Option Addr) (n c : Nat) (l : List UInt8) (h : Byt w F A n l) (hn : n ≤ 70368744177664) :
    Calls Try.prog 67 #[.slice A n c] w fun e w' => GotBun (fun k => w.heap.size ≤ k) w w' e (bunOf l) (bunBad l) := by
  have hlen := h.len
  have hcall := fun z => Read_any _ F A n c l (h.alloc (.cells z 112)) (by omega)
  have HcR := Lib.hid hcall
  obtain ⟨B, hB0⟩ : ∃ B, B = w.heap.size := ⟨_, rfl⟩
  have HB := Lib.hid hB0
  obtain ⟨r0, hr0⟩ : ∃ r0 : Rd, r0 = ⟨l, true⟩ := ⟨_, rfl⟩
  have hn0 : r0.l.length ≤ 70368744177664 := by rw [hr0]; show l.length ≤ _; omega
  have Hr0 := Lib.hid hr0
  obtain ⟨zc, hzc⟩ : ∃ zc, zc = bunCells none 0 0 none 0 0 := ⟨_, rfl⟩
  have Hzc := Lib.hid hzc
  have Hzz := bun_zeroc
  rw [← hzc] at Hzz
  have Hzz := Lib.hid Hzz
  have Hzb : Hid (Try.prog.built 112 [] = some zc.toArray) := by show _ = _; rw [hzc]; exact zeroBun_built
  have Z2l : Hid (zc.length = 2) := by show _ = _; rw [hzc]; rfl
  have Z2a : Hid (zc.toArray.size = 2) := by show _ = _; rw [hzc]; rfl
  have Z1a : Hid (zc.toArray.all (·.oneCell') = true) := by show _ = _; rw [hzc]; exact bunCells_ones _ _ _ _ _ _
  clear hcall hlen hB0 hr0 hzc
  go_enter Try.func67, Try.ntmps67
  go_wp2_with (first
    | (refine wpList_alloc_any rfl 112 rfl 2 bun_zero ?_; intro z hz; have Hz := Lib.hid hz; clear hz))
  go_step3
  go_wp2_with fail
  refine (HcR.out z).mono ?_
  rintro e w0 ⟨b, rfl, hf0, hR⟩
  clear HcR
  rw [← HB.out]
  have hb0 := hR.1
  have hbl0 := hR.ltE
  simp only [World.size_alloc, ← HB.out] at hb0 hR
  rw [← Hr0.out] at hR
  have hF : Fr NoB w w0 := ((Fr.refl NoB w).alloc _).trans hf0 fun _ _ => id
  have hBz : Blk w0 B 112 z := by rw [HB.out]; exact (Blk.new w _ _).fr hf0 id
  have hzb : ¬ B = b := by omega
  obtain ⟨K, hK⟩ : ∃ K, K = w0.heap.size := ⟨_, rfl⟩
  replace hR := hR.more (G := fun j => B < j ∧ j < K) fun j hj hh => ⟨by omega, by omega⟩
  have hKw : K ≤ w0.heap.size := by omega
  rw [← hK] at hbl0
  clear hf0 hK
  have hg1 : BunBlk (w0.alloc (.cells zc.toArray 112)) w0.heap.size none 0 0 none 0 0 := by rw [Hzc.out]; exact ⟨Blk.new _ _ _⟩
  have hF1 : Fr NoB w (w0.alloc (.cells zc.toArray 112)) := hF.alloc _
  have hBz1 := hBz.alloc (.cells zc.toArray 112)
  have hR1 := hR.fr ((Fr.refl NoB w0).alloc (.cells zc.toArray 112)) fun _ _ => id
  obtain ⟨g, hg⟩ : ∃ g, g = w0.heap.size := ⟨_, rfl⟩
  obtain ⟨w1, hw1⟩ : ∃ w1, w1 = w0.alloc (.cells zc.toArray 112) := ⟨_, rfl⟩
  have hgl : g < w1.heap.size := by rw [hw1, hg]; simp
  rw [← hw1] at hg1 hF1 hBz1 hR1
  rw [← hg] at hg1
  have hKg : K ≤ g := by omega
  have hgb : ¬ g = b := by omega
  have hzg : ¬ B = g := by omega
  have Hg := Lib.hid hg
  have Hw1 := Lib.hid hw1
  clear hg hw1 hF hBz hR hKw
  obtain ⟨v1, r1, e1⟩ : ∃ v r', Rd.N r0 100 = (v, r') := ⟨_, _, rfl⟩
  have hv1 : v1 ≤ 100 := by have := Rd.N_le r0 100; rw [e1] at this; exact this
  have hn1 : r1.l.length ≤ 70368744177664 := by have := Rd.N_len r0 100; rw [e1] at this; exact Nat.le_trans this hn0
  have hcall := WN_litE hR1 100 100 (by simp)
  rw [e1] at hcall
  have E1 := Lib.hid e1
  have Hcall := Lib.hid hcall
  clear e1 hR1 hcall
  go_wp2_with (first
    | (refine wpList_alloc_zc rfl 112 rfl zc.toArray Hzz.out ?_; rw [← Hw1.out, ← Hg.out])
    | (go_at_call 28; refine Hcall.out.mono ?_; rintro e w2 ⟨rfl, hf2, hR⟩))
  replace hF1 := hF1.new hf2 fun j hj => .inr (by have := HB.out; omega)
  replace hBz1 := hBz1.fr hf2 hzb
  replace hg1 := hg1.fr hf2 hgb
  replace hgl := Nat.lt_of_lt_of_le hgl hf2.size
  obtain ⟨l1, r2, e2⟩ : ∃ v r', refsGo v1 r1 = (v, r') := ⟨_, _, rfl⟩
  have hn2 : r2.l.length ≤ 70368744177664 := by have := refsGo_l v1 r1; rw [e2] at this; exact Nat.le_trans this hn1
  have hsz2 : ∀ s ∈ l1, s.name.size ≤ 64 := by have := refsGo_size v1 r1; rw [e2] at this; exact this
  have E2 := Lib.hid e2
  have Hsz2 := Lib.hid hsz2
  obtain ⟨Kb, hKb⟩ : ∃ Kb, Kb = w2.heap.size := ⟨_, rfl⟩
  have hKb1 : Kb ≤ w2.heap.size := by omega
  rw [← hKb] at hgl
  clear hf2 hsz2 hKb Hcall Hw1 Hg Hzz
  go_loopw [6] (fun v wr => ∃ (pre : List Ref) (r' : Rd) (k p cc : Nat) (A1 : Option Addr), v = .int .u64 (k : Nat) ∧ k + p = v1 ∧ p = pre.length ∧ l1 = pre ++ (refsGo k r').1 ∧ r2 = (refsGo k r').2 ∧ r'.l.length ≤ 70368744177664 ∧ RdAt wr (fun j => B < j ∧ j < K) b r' ∧ BunBlk wr g A1 p cc none 0 0 ∧ Own wr 162 33 A1 p cc (pre.flatMap refCells) ∧ (∀ j, inB A1 j → Kb ≤ j) ∧ Blk wr B 112 z ∧ Fr NoB w wr ∧ Kb ≤ wr.heap.size) (fun v _ => (intOf v).toNat)
  case atStart => exact ⟨[], r1, v1, 0, 0, none, rfl, by omega, rfl, by rw [e2]; rfl, by rw [e2], hn1, hR, hg1, Own.nil _ _ _, fun j hj => absurd hj (inB_none j), hBz1, hF1, hKb1⟩
  case round =>
    obtain ⟨pre, r', k, p, cc, A1, rfl, hkp, hp, hz1, hz2, hrl, hR, hB, hO, hA, hBz, hF, hKw⟩ := hrel
    obtain ⟨w3, rfl⟩ : ∃ w3 : World, w3 = wr := ⟨_, rfl⟩
    have Hp := Lib.hid hp
    have Hz1 := Lib.hid hz1
    have Hz2 := Lib.hid hz2
    clear hp hz1 hz2 e2
    by_cases hk0 : k = 0
    · subst hk0
      obtain rfl : l1 = pre := by rw [Hz1.out]; simp [refsGo]
      obtain rfl : r2 = r' := by rw [Hz2.out]; rfl
      obtain ⟨v2, r3, e3⟩ : ∃ v r', Rd.N r2 2000 = (v, r') := ⟨_, _, rfl⟩
      have hv2 : v2 ≤ 2000 := by have := Rd.N_le r2 2000; rw [e3] at this; exact this
      have hn3 : r3.l.length ≤ 70368744177664 := by have := Rd.N_len r2 2000; rw [e3] at this; exact Nat.le_trans this hrl
      have hcall := WN_litE hR 2000 2000 (by simp)
      rw [e3] at hcall
      have E3 := Lib.hid e3
      have Hcall := Lib.hid hcall
      have hpar := Lib.hid (bunParse_eq (Hr0.out ▸ E1.out) E2.out E3.out)
      clear e3 hR hcall Hz1 Hz2 hkp
      go_wp2
      go_step3
      go_wp2_with (go_at_call 28; refine Hcall.out.mono ?_; rintro e w4 ⟨rfl, hf4, hR⟩)
      have hbKb : b < Kb := by omega
      have hAb : ∀ j, inB A1 j → ¬ j = b := fun j hj => by have := hA j hj; omega
      replace hB := hB.fr hf4 hgb
      replace hO := hO.fr hf4 hAb
      replace hBz := hBz.fr hf4 hzb
      replace hF := hF.new hf4 fun j hj => .inr (by have := HB.out; omega)
      have s4 := hf4.size
      have hKb4 : Kb ≤ w4.heap.size := by omega
      obtain ⟨Km, hKm⟩ : ∃ Km, Km = w4.heap.size := ⟨_, rfl⟩
      have hA4 : ∀ j, inB A1 j → j < Km := fun j hj => by rw [hKm]; exact hO.lt hj
      have hKm1 : Km ≤ w4.heap.size := by omega
      have hKm2 : Kb ≤ Km := by omega
      clear hf4 hKm Hcall
      go_loopw [8] (fun v wr => ∃ (pre2 : List (List UInt8)) (r' : Rd) (k q d : Nat) (A2 : Option Addr) (us : List Value), v = .int .u64 (k : Nat) ∧ k + q = v2 ∧ q = pre2.length ∧ (objsGo v2 r3).1 = pre2 ++ (objsGo k r').1 ∧ (objsGo v2 r3).2 = (objsGo k r').2 ∧ r'.l.length ≤ 70368744177664 ∧ RdAt wr (fun j => B < j ∧ j < K) b r' ∧ BunBlk wr g A1 p cc A2 q d ∧ Own wr 162 33 A1 p cc (l1.flatMap refCells) ∧ Own wr 22 1 A2 q d us ∧ (∀ (i : Nat) (a : List UInt8), pre2[i]? = some a → ∃ u : Value, us[i]? = some u ∧ BytR wr (fun j => Km ≤ j ∧ ¬ inB A2 j) [u] a) ∧ (∀ j, inB A2 j → Km ≤ j) ∧ Blk wr B 112 z ∧ Fr NoB w wr ∧ Km ≤ wr.heap.size) (fun v _ => (intOf v).toNat)
      case atStart => exact ⟨[], r3, v2, 0, 0, none, [], rfl, by omega, rfl, by simp, rfl, hn3, hR, hB, hO, Own.nil _ _ _, fun i a ha => by simp at ha, fun j hj => absurd hj (inB_none j), hBz, hF, hKm1⟩
      case round =>
        obtain ⟨pre2, r', k, q, d, A2, us, rfl, hkq, hq, hz1, hz2, hrl', hR, hB, hO, hP, hus, hA2, hBz, hF, hKw'⟩ := hrel
        obtain ⟨w5, rfl⟩ : ∃ w5 : World, w5 = wr := ⟨_, rfl⟩
        have Hq := Lib.hid hq
        have Hz1 := Lib.hid hz1
        have Hz2 := Lib.hid hz2
        have Hus := Lib.hid hus
        clear hq hz1 hz2 hus
        by_cases hk0 : k = 0
        · subst hk0
          have hobj : (objsGo v2 r3).1 = pre2 := by rw [Hz1.out]; simp [objsGo]
          have hlast : (objsGo v2 r3).2 = r' := by rw [Hz2.out]; rfl
          have hpar' := hpar.out
          rw [hobj, hlast] at hpar'
          obtain ⟨hof, hbad⟩ := bun_vals hpar'
          have hend := Lib.hid (REnd_any _ _ _ _ hR)
          obtain ⟨q0, hq0⟩ : ∃ q0 : Bun, q0 = ⟨l1, pre2⟩ := ⟨_, rfl⟩
          have hQ : BunR w5 (fun j => Kb ≤ j ∧ ¬ j = B) (bunCells A1 p cc A2 q d) q0 := by
            rw [hq0]
            refine ⟨A1, p, cc, A2, q, d, rfl, hO.le, hO.cap, ?_, hP.le, hP.cap, ?_⟩
            · refine ArrOf.of_flatE refCells (hO.arr fun j _ hj => ⟨hA j hj, by have := hA j hj; omega⟩) Hp.out.symm refCells_len fun a ha => ⟨rfl, ?_⟩
              have := Hsz2.out a ha
              unfold maxLen; omega
            · have hflat : Arr w5 (fun j => Kb ≤ j ∧ ¬ j = B) 1 A2 q us := hP.arr fun j _ hj => ⟨by have := hA2 j hj; omega, by have := hA2 j hj; omega⟩
              have hul : us.length = q := by have := hP.len; omega
              refine ArrOf.of_arr (ys := us.map fun u => [u]) ?_ (by intro y hy; obtain ⟨u, _, rfl⟩ := List.mem_map.1 hy; rfl) Hq.out.symm fun i a ha => ?_
              · have e : (us.map fun u => [u]).flatten = us := by
                  clear hflat hul Hus hP
                  induction us with
                  | nil => rfl
                  | cons u us ih => simp [ih]
                rw [e]; exact hflat
              · obtain ⟨u, hu, hbu⟩ := Hus.out i a ha
                exact ⟨[u], by rw [List.getElem?_map, hu]; rfl, hbu.more fun j _ hj => ⟨by omega, by omega⟩⟩
          have hosz : ∀ x ∈ q0.objs, x.length ≤ 70368744177664 := by
            rw [hq0]
            intro x hx
            have := objsGo_size v2 r3 x (by rw [hobj]; exact hx)
            omega
          rw [← hq0] at hof hbad
          obtain ⟨yq, hyq⟩ : ∃ yq, yq = bunCells A1 p cc A2 q d := ⟨_, rfl⟩
          have hall := hB.all
          rw [← hyq] at hQ hall
          have Q2l : Hid (yq.length = 2) := by show _ = _; rw [hyq]; rfl
          have Q2a : Hid (yq.toArray.size = 2) := by show _ = _; rw [hyq]; rfl
          have Q1a : Hid (yq.toArray.all (·.oneCell') = true) := by show _ = _; rw [hyq]; exact bunCells_ones _ _ _ _ _ _
          have hmay := Lib.hid (bunMay_any _ _ _ _ hQ hosz)
          clear hpar' hobj hlast hq0 hyq hosz hB hO hP hR
          by_cases hev : Rd.End r' = 0
          · have be : (Rd.End r' != 0) = false := by simpa using hev
            have hd := decide_eq_true hev
            rw [hd, Bool.true_and] at hof hbad
            clear hd hev
            cases hm : bunMay q0 with
            | true =>
              rw [hm] at hmay
              rw [hm, if_pos rfl] at hof hbad
              have He1 := Lib.hid hof
              have He2 := Lib.hid hbad
              clear hof hbad
              go_wp2_with (first
                | (go_at_call 29; refine hend.out.mono ?_; rintro e w' ⟨rfl, rfl⟩)
                | (refine wpList_load_aggG rfl 112 (.tmp 5) rfl g 0 rfl yq _ hall Try.underlying112 rfl (by rw [Q2l.out]; exact bun_size) ?_)
                | (go_at_call 99
                   refine hmay.out.mono ?_
                   rintro e w7 ⟨rfl, hf7⟩
                   have hall7 : ∀ j u, yq[j]? = some u → w7.cell? ⟨g, 0 + j, none⟩ = some u := fun j u hu => hf7.cell' (hall j u hu) id
                   have hBz7 := hBz.fr hf7 id
                   have hQ7 := hQ.fr hf7 fun _ _ => id
                   have hF7 := hF.trans hf7 fun _ _ => id)
                | (refine wpList_load_agg rfl 112 (.tmp 5) rfl g 0 rfl yq _ hall7 Try.underlying112 rfl (by rw [Q2l.out]; exact bun_size) ?_)
                | (refine wpList_store_rowE rfl 112 (.tmp 2) (.tmp 59) rfl B yq.toArray rfl rfl 112 z hBz7 (by rw [Q2a.out]; exact bun_size) (by rw [Hz.out, Q2a.out]) Q1a.out ?_))
              obtain ⟨hft, hBt⟩ := setRow_fr' (ds := yq.toArray) hBz7
              rw [Exit.noGoto_ret]
              refine bodyPost_ret (results_cell2E (cs := yq) rfl rfl (fun j v hv => by rw [Nat.zero_add, hBt.cell]; simpa using hv) Try.underlying112 rfl (by rw [Q2l.out]; exact bun_size)) rfl ?_
              rw [He1.out, He2.out]
              refine ⟨yq, rfl, hF7.new hft fun j hj => .inr (by have := HB.out; omega), ?_⟩
              obtain ⟨A, n, c, B', m, d, k1, k2, k3, k4, k5, k6, k7⟩ := hQ7.fr hft fun j hj e => hj.2 e
              have hlow : ∀ j, (Kb ≤ j ∧ ¬ j = B) → w.heap.size ≤ j := fun j hj => by have := HB.out; omega
              exact ⟨A, n, c, B', m, d, k1, k2, k3, ArrOf.more k4 (by omega) (fun j _ hj => hlow j hj) fun _ _ _ h => h, k5, k6, k7.more fun j _ hj => hlow j hj⟩
            | false =>
              rw [hm] at hmay
              rw [hm, if_neg (by simp)] at hof hbad
              have He1 := Lib.hid hof
              have He2 := Lib.hid hbad
              clear hof hbad
              go_wp2_with (first
                | (go_at_call 29; refine hend.out.mono ?_; rintro e w' ⟨rfl, rfl⟩)
                | (refine wpList_load_aggG rfl 112 (.tmp 5) rfl g 0 rfl yq _ hall Try.underlying112 rfl (by rw [Q2l.out]; exact bun_size) ?_)
                | (go_at_call 99
                   refine hmay.out.mono ?_
                   rintro e w7 ⟨rfl, hf7⟩
                   have hBz7 := hBz.fr hf7 id
                   have hF7 := hF.trans hf7 fun _ _ => id)
                | (refine wpList_build_eqE rfl 112 #[] rfl [] rfl zc.toArray Hzb.out ?_)
                | (refine wpList_store_rowE rfl 112 (.tmp 2) (.tmp 58) rfl B zc.toArray rfl rfl 112 z hBz7 (by rw [Z2a.out]; exact bun_size) (by rw [Hz.out, Z2a.out]) Z1a.out ?_))
              obtain ⟨hft, hBt⟩ := setRow_fr' (ds := zc.toArray) hBz7
              rw [Exit.noGoto_ret]
              refine bodyPost_ret (results_cell2E (cs := zc) rfl rfl (fun j v hv => by rw [Nat.zero_add, hBt.cell]; simpa using hv) Try.underlying112 rfl (by rw [Z2l.out]; exact bun_size)) rfl ?_
              rw [He1.out, He2.out]
              have hgz := GotBun.zero (G := (fun k => w.heap.size ≤ k)) (hF7.new hft fun j hj => .inr (by have := HB.out; omega))
              rw [← Hzc.out] at hgz
              exact hgz
          · have be : (Rd.End r' != 0) = true := by simpa using hev
            have hd := decide_eq_false hev
            rw [hd, Bool.false_and, if_neg (by simp)] at hof hbad
            have He1 := Lib.hid hof
            have He2 := Lib.hid hbad
            have hBz7 := hBz
            have hF7 := hF
            clear hd hev hof hbad
            go_wp2_with (first
              | (go_at_call 29; refine hend.out.mono ?_; rintro e w' ⟨rfl, rfl⟩)
              | (refine wpList_build_eqE rfl 112 #[] rfl [] rfl zc.toArray Hzb.out ?_)
              | (refine wpList_store_rowE rfl 112 (.tmp 2) (.tmp 58) rfl B zc.toArray rfl rfl 112 z hBz7 (by rw [Z2a.out]; exact bun_size) (by rw [Hz.out, Z2a.out]) Z1a.out ?_))
            obtain ⟨hft, hBt⟩ := setRow_fr' (ds := zc.toArray) hBz7
            rw [Exit.noGoto_ret]
            refine bodyPost_ret (results_cell2E (cs := zc) rfl rfl (fun j v hv => by rw [Nat.zero_add, hBt.cell]; simpa using hv) Try.underlying112 rfl (by rw [Z2l.out]; exact bun_size)) rfl ?_
            rw [He1.out, He2.out]
            have hgz := GotBun.zero (G := (fun k => w.heap.size ≤ k)) (hF7.new hft fun j hj => .inr (by have := HB.out; omega))
            rw [← Hzc.out] at hgz
            exact hgz
        · by_cases hrs : r'.Rest = 0
          · have hbadr := objsGo_rest hrs (show 0 < k by omega)
            rw [← Hz2.out] at hbadr
            obtain ⟨hof, hbad⟩ := bun_vals hpar.out
            rw [decide_eq_false (End_badE hbadr), Bool.false_and, if_neg (by simp)] at hof hbad
            have He1 := Lib.hid hof
            have He2 := Lib.hid hbad
            have hraw : r'.Raw 1 = ([], Rd.bad) := by
              unfold Rd.Raw
              rw [if_neg]
              rintro ⟨h1, h2, h3⟩
              rw [Rd.Rest, if_pos h1] at hrs
              omega
            have hcall := RRaw_any _ _ _ _ 1 hR (by omega) (by omega) hrl'
            rw [hraw] at hcall
            unfold ReadBytes at hcall
            dsimp only at hcall
            have Hcall := Lib.hid hcall
            have hrest := Lib.hid (RRest_any _ _ _ _ hR)
            have hk1 : (0 : Int) < (k : Int) := by omega
            have br : (((r'.Rest : Nat) : Int) == 0) = true := by simp [hrs]
            clear hcall hraw hbadr hof hbad hrs
            go_wp2_with (first
              | (go_at_call 43; refine hrest.out.mono ?_; rintro e w' ⟨rfl, rfl⟩)
              | (go_at_call 36
                 refine Hcall.out.mono ?_
                 rintro e w10 ⟨A10, c10, rfl, hf10, hR10, _, _⟩
                 have hBz7 := hBz.fr hf10 hzb
                 have hend := Lib.hid (REnd_any _ _ _ _ hR10)
                 have be : (Rd.End Rd.bad != 0) = true := rfl
                 have hF7 := hF.new hf10 fun j hj => .inr (by have := HB.out; omega))
              | (go_at_call 29; refine hend.out.mono ?_; rintro e w' ⟨rfl, rfl⟩)
              | (refine wpList_build_eqE rfl 112 #[] rfl [] rfl zc.toArray Hzb.out ?_)
              | (refine wpList_store_rowE rfl 112 (.tmp 2) (.tmp 58) rfl B zc.toArray rfl rfl 112 z hBz7 (by rw [Z2a.out]; exact bun_size) (by rw [Hz.out, Z2a.out]) Z1a.out ?_))
            obtain ⟨hft, hBt⟩ := setRow_fr' (ds := zc.toArray) hBz7
            rw [Exit.noGoto_ret]
            refine bodyPost_ret (results_cell2E (cs := zc) rfl rfl (fun j v hv => by rw [Nat.zero_add, hBt.cell]; simpa using hv) Try.underlying112 rfl (by rw [Z2l.out]; exact bun_size)) rfl ?_
            rw [He1.out, He2.out]
            have hgz := GotBun.zero (G := (fun k => w.heap.size ≤ k)) (hF7.new hft fun j hj => .inr (by have := HB.out; omega))
            rw [← Hzc.out] at hgz
            exact hgz
          · have br : (((r'.Rest : Nat) : Int) == 0) = false := by simp; omega
            have hk1 : (0 : Int) < (k : Int) := by omega
            obtain ⟨k, rfl⟩ : ∃ k0, k = k0 + 1 := ⟨k - 1, by omega⟩
            have hz1 := Hz1.out
            have hz2 := Hz2.out
            rw [objsGo] at hz1 hz2
            have hlt := Rd.Text_lE r' 110000
            have htl := Rd.Text_leE r' 110000 110000 (by omega)
            have hrest := Lib.hid (RRest_any _ _ _ _ hR)
            have hcall := RText_any _ _ _ _ 110000 (hR.fr (Fr.drew (Fr.refl NoB w5)) fun _ _ => id) (by omega) (by omega) hrl'
            generalize hqq : Rd.Text r' 110000 = qq at hz1 hz2 hlt hcall htl
            obtain ⟨lt, rt⟩ := qq
            unfold ReadBytes at hcall
            dsimp only at hz1 hz2 hlt hcall htl
            have Hcall := Lib.hid hcall
            have Hy1 := Lib.hid hz1
            have Hy2 := Lib.hid hz2
            clear hz1 hz2 hcall hqq hrs hk0
            go_wp2_with (go_at_call 43; refine hrest.out.mono ?_; rintro e w' ⟨rfl, rfl⟩)
            refine wp_region_held (S := fun _ => True) rfl ?_
            refine wpAnyH_take (i := 0) rfl (by decide +kernel) (by decide +kernel) (by decide +kernel) (fun _ _ _ h => h) (Or.inl ⟨by kernel_rfl, fun W _ => by go_simp; with_reducible rfl⟩) trivial ?_
            refine wpAnyH_take (i := 2) rfl (by decide +kernel) (by decide +kernel) (by decide +kernel) (fun _ _ _ h => h) (Or.inl ⟨by kernel_rfl, fun W _ => by go_simp; with_reducible rfl⟩) trivial ?_
            go_simp
            have hB9 := hB.fr (Fr.drew (Fr.refl NoB w5)) id
            have hP9 := hP.fr (Fr.drew (Fr.refl NoB w5)) fun _ _ => id
            refine wpAnyH_all (rs := [1, 3]) (by decide +kernel) (by simp) ?_
            intro i hi
            simp only [List.mem_cons, List.not_mem_nil, or_false] at hi
            rcases hi with rfl | rfl
            · have qx := hB9.c1
              refine wpOp_run (v := .slice A2 q d) (w' := w5.drew) rfl (by kernel_rfl) (by go_simp) ⟨trivial, ?_⟩
              clear qx
              go_simp
              refine wpAnyH_all (rs := [3]) (by decide +kernel) (by simp) ?_
              intro i hi
              simp only [List.mem_cons, List.not_mem_nil, or_false] at hi
              subst hi
              refine wpOp_call rfl rfl 38 (enters_of Try.func38 (by kernel_rfl) rfl) #[.tmp 45, .const (.int .i64 110000)] _ rfl _ rfl Hcall.out ?_
              rintro e wt ⟨At, ct, rfl, hft, hRt, hOt, hint⟩
              refine ⟨_, rfl, trivial, ?_⟩
              replace hB9 := hB9.fr hft hgb
              replace hP9 := hP9.fr hft (fun j hj e => by have := hA2 j hj; omega)
              go_simp
              refine wpAnyH_all (rs := [4]) (by decide +kernel) (by simp) ?_
              intro i hi
              simp only [List.mem_cons, List.not_mem_nil, or_false] at hi
              subst hi
              refine wpOp_run (v := .slice (some ⟨wt.heap.size, 0, none⟩) 1 1) (w' := wt.alloc (.cells #[.slice At lt.length ct] 22)) rfl (by kernel_rfl) (by go_simp) ⟨trivial, ?_⟩
              replace hB9 := hB9.fr ((Fr.refl NoB wt).alloc (.cells #[.slice At lt.length ct] 22)) id
              replace hP9 := hP9.alloc (.cells #[.slice At lt.length ct] 22)
              go_simp
              refine wpAnyH_all (rs := [5]) (by decide +kernel) (by simp) ?_
              intro i hi
              simp only [List.mem_cons, List.not_mem_nil, or_false] at hi
              subst hi
              refine wpOp_app el_byt rfl (by kernel_rfl) (.tmp 44) (.tmp 47) rfl A2 q d _ rfl hP9 _ _ 1 1 _ rfl (Arr.one _ _ _) (by simp [Value.oneCell']) (by omega) ?_
              intro A3 d3 wa hPa hfa hina
              have hga : ¬ inB A2 g := fun h => by have := hA2 g h; omega
              have hBa := hB9.fr hfa hga
              refine ⟨trivial, ?_⟩
              go_simp
              refine wpAnyH_take (i := 6) rfl (by decide +kernel) (by decide +kernel) (by decide +kernel) (fun _ _ _ h => h) (Or.inl ⟨by kernel_rfl, fun W _ => by go_simp; with_reducible rfl⟩) trivial ?_
              go_simp
              refine wpAnyH_all (rs := [7]) (by decide +kernel) (by simp) ?_
              intro i hi
              simp only [List.mem_cons, List.not_mem_nil, or_false] at hi
              subst hi
              have qx := hBa.c1
              have qy := hBa.blk.frozen 1
              refine wpOp_skip (w' := wa.setCell ⟨g, 1, none⟩ (.slice A3 (q + 1) d3)) rfl (by kernel_rfl) (by go_simp) ⟨trivial, ?_⟩
              clear qx qy
              go_simp
              refine wpAnyH_done (by decide +kernel) ?_ _
              have hsz1 := hft.size
              have hsz2 := hfa.size
              simp only [World.size_alloc] at hsz2 hina
              have hsz0 : w5.drew.heap.size = w5.heap.size := rfl
              have hfg : Fr (· = g) wa (wa.setCell ⟨g, 1, none⟩ (.slice A3 (q + 1) d3)) := (Fr.refl _ _).at_ _ _
              have hfT : Fr (fun j => j = b ∨ j = g ∨ inB A2 j) w5 (wa.setCell ⟨g, 1, none⟩ (.slice A3 (q + 1) d3)) := ((((Fr.drew (Fr.refl (fun j => j = b ∨ j = g ∨ inB A2 j) w5)).trans hft fun _ _ h => .inl h).alloc (.cells #[.slice At lt.length ct] 22)).trans hfa fun _ _ h => .inr (.inr h)).trans hfg fun _ _ h => .inr (.inl h)
              have hina2 : ∀ j, inB A3 j → Km ≤ j := fun j hj => (hina j hj).elim (hA2 j) fun h => by omega
              have hgA3 : ¬ inB A3 g := fun h => by have := hina2 g h; omega
              have hlow : ∀ j, (j = b ∨ j = g ∨ inB A2 j) → w.heap.size ≤ j ∧ ¬ j = B := fun j h => by
                have := HB.out
                rcases h with h | h | h
                · omega
                · omega
                · have := hA2 j h; omega
              have hA3lt : ∀ j, j < w5.heap.size → ¬ inB A2 j → ¬ inB A3 j := fun j hj h hh => (hina j hh).elim h fun e => by omega
              have hR2 := ((hRt.fr ((Fr.refl NoB wt).alloc (.cells #[.slice At lt.length ct] 22)) fun _ _ => id).fr hfa fun j hj h => by have := hA2 j h; omega).fr hfg fun j hj h => by omega
              have hBt0 : Byt wt (fun j => w5.heap.size ≤ j ∧ j < wt.heap.size) At lt.length lt := hOt.arr fun j hj1 hj => ⟨hint j hj, hj1⟩
              have hBt : Byt (wa.setCell ⟨g, 1, none⟩ (.slice A3 (q + 1) d3)) (fun j => Km ≤ j ∧ ¬ inB A3 j) At lt.length lt := by
                refine (((Byt.fr hBt0 ((Fr.refl NoB wt).alloc (.cells #[.slice At lt.length ct] 22)) fun _ _ => id).fr hfa fun j hj h => ?_).fr hfg fun j hj h => by omega).more fun j _ hj => ⟨by omega, fun hh => ?_⟩
                · have := hP.lt h; omega
                · rcases hina j hh with h | h
                  · have := hP.lt h; omega
                  · omega
              have hus2 : ∀ (i : Nat) (a : List UInt8), (pre2 ++ [lt])[i]? = some a → ∃ u : Value, (us ++ [.slice At lt.length ct])[i]? = some u ∧ BytR (wa.setCell ⟨g, 1, none⟩ (.slice A3 (q + 1) d3)) (fun j => Km ≤ j ∧ ¬ inB A3 j) [u] a := fun i a ha => by
                have hul : us.length = pre2.length := by have := hP.len; have := Hq.out; omega
                rcases Nat.lt_or_ge i pre2.length with hi | hi
                · rw [List.getElem?_append_left hi] at ha
                  obtain ⟨u, hu, hbu⟩ := Hus.out i a ha
                  refine ⟨u, by rw [List.getElem?_append_left (by omega)]; exact hu, ?_⟩
                  refine ((BytR.more (G := fun j => (Km ≤ j ∧ ¬ inB A2 j) ∧ j < w5.heap.size) hbu fun j h1 h2 => ⟨h2, h1⟩).fr hfT fun j hj h => ?_).more fun j _ hj => ⟨hj.1.1, hA3lt j hj.2 hj.1.2⟩
                  rcases h with h | h | h
                  · omega
                  · omega
                  · exact hj.1.2 h
                · have hie : i = pre2.length := by
                    have := (List.getElem?_eq_some_iff.1 ha).1
                    simp at this; omega
                  subst hie
                  rw [List.getElem?_append_right (Nat.le_refl _), Nat.sub_self] at ha
                  injection ha with ha
                  subst ha
                  exact ⟨_, by rw [← hul, List.getElem?_append_right (Nat.le_refl _), Nat.sub_self]; rfl, At, lt.length, ct, rfl, hOt.le, hOt.cap, hBt⟩
              go_wp2
              go_roundw
              case rel => exact ⟨pre2 ++ [lt], rt, k, q + 1, d3, A3, us ++ [.slice At lt.length ct], by go_num, by omega, by rw [List.length_append, ← Hq.out]; rfl, by rw [Hy1.out]; simp, Hy2.out, by omega, hR2, hBa.s1 A3 (q + 1) d3, hO.fr hfT (fun j hj h => by rcases h with h | h | h; (have := hA j hj; omega); (have := hA j hj; omega); (have := hA2 j h; have := hA4 j hj; omega)), hPa.fr hfg (fun j hj h => by have := hina2 j hj; omega), hus2, hina2, hBz.fr hfT (fun h => (hlow B h).2 rfl), hF.new hfT fun j hj => .inr (hlow j hj).1, by have := hfT.size; omega⟩
              case measure => simp [intOf]
            · refine wpOp_call rfl rfl 38 (enters_of Try.func38 (by kernel_rfl) rfl) #[.tmp 45, .const (.int .i64 110000)] _ rfl _ rfl Hcall.out ?_
              rintro e wt ⟨At, ct, rfl, hft, hRt, hOt, hint⟩
              refine ⟨_, rfl, trivial, ?_⟩
              replace hB9 := hB9.fr hft hgb
              replace hP9 := hP9.fr hft (fun j hj e => by have := hA2 j hj; omega)
              go_simp
              refine wpAnyH_all (rs := [1, 4]) (by decide +kernel) (by simp) ?_
              intro i hi
              simp only [List.mem_cons, List.not_mem_nil, or_false] at hi
              rcases hi with rfl | rfl
              · have qx := hB9.c1
                refine wpOp_run (v := .slice A2 q d) (w' := wt) rfl (by kernel_rfl) (by go_simp) ⟨trivial, ?_⟩
                clear qx
                go_simp
                refine wpAnyH_all (rs := [4]) (by decide +kernel) (by simp) ?_
                intro i hi
                simp only [List.mem_cons, List.not_mem_nil, or_false] at hi
                subst hi
                refine wpOp_run (v := .slice (some ⟨wt.heap.size, 0, none⟩) 1 1) (w' := wt.alloc (.cells #[.slice At lt.length ct] 22)) rfl (by kernel_rfl) (by go_simp) ⟨trivial, ?_⟩
                replace hB9 := hB9.fr ((Fr.refl NoB wt).alloc (.cells #[.slice At lt.length ct] 22)) id
                replace hP9 := hP9.alloc (.cells #[.slice At lt.length ct] 22)
                go_simp
                refine wpAnyH_all (rs := [5]) (by decide +kernel) (by simp) ?_
                intro i hi
                simp only [List.mem_cons, List.not_mem_nil, or_false] at hi
                subst hi
                refine wpOp_app el_byt rfl (by kernel_rfl) (.tmp 44) (.tmp 47) rfl A2 q d _ rfl hP9 _ _ 1 1 _ rfl (Arr.one _ _ _) (by simp [Value.oneCell']) (by omega) ?_
                intro A3 d3 wa hPa hfa hina
                have hga : ¬ inB A2 g := fun h => by have := hA2 g h; omega
                have hBa := hB9.fr hfa hga
                refine ⟨trivial, ?_⟩
                go_simp
                refine wpAnyH_take (i := 6) rfl (by decide +kernel) (by decide +kernel) (by decide +kernel) (fun _ _ _ h => h) (Or.inl ⟨by kernel_rfl, fun W _ => by go_simp; with_reducible rfl⟩) trivial ?_
                go_simp
                refine wpAnyH_all (rs := [7]) (by decide +kernel) (by simp) ?_
                intro i hi
                simp only [List.mem_cons, List.not_mem_nil, or_false] at hi
                subst hi
                have qx := hBa.c1
                have qy := hBa.blk.frozen 1
                refine wpOp_skip (w' := wa.setCell ⟨g, 1, none⟩ (.slice A3 (q + 1) d3)) rfl (by kernel_rfl) (by go_simp) ⟨trivial, ?_⟩
                clear qx qy
                go_simp
                refine wpAnyH_done (by decide +kernel) ?_ _
                have hsz1 := hft.size
                have hsz2 := hfa.size
                simp only [World.size_alloc] at hsz2 hina
                have hsz0 : w5.drew.heap.size = w5.heap.size := rfl
                have hfg : Fr (· = g) wa (wa.setCell ⟨g, 1, none⟩ (.slice A3 (q + 1) d3)) := (Fr.refl _ _).at_ _ _
                have hfT : Fr (fun j => j = b ∨ j = g ∨ inB A2 j) w5 (wa.setCell ⟨g, 1, none⟩ (.slice A3 (q + 1) d3)) := ((((Fr.drew (Fr.refl (fun j => j = b ∨ j = g ∨ inB A2 j) w5)).trans hft fun _ _ h => .inl h).alloc (.cells #[.slice At lt.length ct] 22)).trans hfa fun _ _ h => .inr (.inr h)).trans hfg fun _ _ h => .inr (.inl h)
                have hina2 : ∀ j, inB A3 j → Km ≤ j := fun j hj => (hina j hj).elim (hA2 j) fun h => by omega
                have hgA3 : ¬ inB A3 g := fun h => by have := hina2 g h; omega
                have hlow : ∀ j, (j = b ∨ j = g ∨ inB A2 j) → w.heap.size ≤ j ∧ ¬ j = B := fun j h => by
                  have := HB.out
                  rcases h with h | h | h
                  · omega
                  · omega
                  · have := hA2 j h; omega
                have hA3lt : ∀ j, j < w5.heap.size → ¬ inB A2 j → ¬ inB A3 j := fun j hj h hh => (hina j hh).elim h fun e => by omega
                have hR2 := ((hRt.fr ((Fr.refl NoB wt).alloc (.cells #[.slice At lt.length ct] 22)) fun _ _ => id).fr hfa fun j hj h => by have := hA2 j h; omega).fr hfg fun j hj h => by omega
                have hBt0 : Byt wt (fun j => w5.heap.size ≤ j ∧ j < wt.heap.size) At lt.length lt := hOt.arr fun j hj1 hj => ⟨hint j hj, hj1⟩
                have hBt : Byt (wa.setCell ⟨g, 1, none⟩ (.slice A3 (q + 1) d3)) (fun j => Km ≤ j ∧ ¬ inB A3 j) At lt.length lt := by
                  refine (((Byt.fr hBt0 ((Fr.refl NoB wt).alloc (.cells #[.slice At lt.length ct] 22)) fun _ _ => id).fr hfa fun j hj h => ?_).fr hfg fun j hj h => by omega).more fun j _ hj => ⟨by omega, fun hh => ?_⟩
                  · have := hP.lt h; omega
                  · rcases hina j hh with h | h
                    · have := hP.lt h; omega
                    · omega
                have hus2 : ∀ (i : Nat) (a : List UInt8), (pre2 ++ [lt])[i]? = some a → ∃ u : Value, (us ++ [.slice At lt.length ct])[i]? = some u ∧ BytR (wa.setCell ⟨g, 1, none⟩ (.slice A3 (q + 1) d3)) (fun j => Km ≤ j ∧ ¬ inB A3 j) [u] a := fun i a ha => by
                  have hul : us.length = pre2.length := by have := hP.len; have := Hq.out; omega
                  rcases Nat.lt_or_ge i pre2.length with hi | hi
                  · rw [List.getElem?_append_left hi] at ha
                    obtain ⟨u, hu, hbu⟩ := Hus.out i a ha
                    refine ⟨u, by rw [List.getElem?_append_left (by omega)]; exact hu, ?_⟩
                    refine ((BytR.more (G := fun j => (Km ≤ j ∧ ¬ inB A2 j) ∧ j < w5.heap.size) hbu fun j h1 h2 => ⟨h2, h1⟩).fr hfT fun j hj h => ?_).more fun j _ hj => ⟨hj.1.1, hA3lt j hj.2 hj.1.2⟩
                    rcases h with h | h | h
                    · omega
                    · omega
                    · exact hj.1.2 h
                  · have hie : i = pre2.length := by
                      have := (List.getElem?_eq_some_iff.1 ha).1
                      simp at this; omega
                    subst hie
                    rw [List.getElem?_append_right (Nat.le_refl _), Nat.sub_self] at ha
                    injection ha with ha
                    subst ha
                    exact ⟨_, by rw [← hul, List.getElem?_append_right (Nat.le_refl _), Nat.sub_self]; rfl, At, lt.length, ct, rfl, hOt.le, hOt.cap, hBt⟩
                go_wp2
                go_roundw
                case rel => exact ⟨pre2 ++ [lt], rt, k, q + 1, d3, A3, us ++ [.slice At lt.length ct], by go_num, by omega, by rw [List.length_append, ← Hq.out]; rfl, by rw [Hy1.out]; simp, Hy2.out, by omega, hR2, hBa.s1 A3 (q + 1) d3, hO.fr hfT (fun j hj h => by rcases h with h | h | h; (have := hA j hj; omega); (have := hA j hj; omega); (have := hA2 j h; have := hA4 j hj; omega)), hPa.fr hfg (fun j hj h => by have := hina2 j hj; omega), hus2, hina2, hBz.fr hfT (fun h => (hlow B h).2 rfl), hF.new hfT fun j hj => .inr (hlow j hj).1, by have := hfT.size; omega⟩
                case measure => simp [intOf]
              · refine wpOp_run (v := .slice (some ⟨wt.heap.size, 0, none⟩) 1 1) (w' := wt.alloc (.cells #[.slice At lt.length ct] 22)) rfl (by kernel_rfl) (by go_simp) ⟨trivial, ?_⟩
                replace hB9 := hB9.fr ((Fr.refl NoB wt).alloc (.cells #[.slice At lt.length ct] 22)) id
                replace hP9 := hP9.alloc (.cells #[.slice At lt.length ct] 22)
                go_simp
                refine wpAnyH_all (rs := [1]) (by decide +kernel) (by simp) ?_
                intro i hi
                simp only [List.mem_cons, List.not_mem_nil, or_false] at hi
                subst hi
                have qx := hB9.c1
                refine wpOp_run (v := .slice A2 q d) (w' := (wt.alloc (.cells #[.slice At lt.length ct] 22))) rfl (by kernel_rfl) (by go_simp) ⟨trivial, ?_⟩
                clear qx
                go_simp
                refine wpAnyH_all (rs := [5]) (by decide +kernel) (by simp) ?_
                intro i hi
                simp only [List.mem_cons, List.not_mem_nil, or_false] at hi
                subst hi
                refine wpOp_app el_byt rfl (by kernel_rfl) (.tmp 44) (.tmp 47) rfl A2 q d _ rfl hP9 _ _ 1 1 _ rfl (Arr.one _ _ _) (by simp [Value.oneCell']) (by omega) ?_
                intro A3 d3 wa hPa hfa hina
                have hga : ¬ inB A2 g := fun h => by have := hA2 g h; omega
                have hBa := hB9.fr hfa hga
                refine ⟨trivial, ?_⟩
                go_simp
                refine wpAnyH_take (i := 6) rfl (by decide +kernel) (by decide +kernel) (by decide +kernel) (fun _ _ _ h => h) (Or.inl ⟨by kernel_rfl, fun W _ => by go_simp; with_reducible rfl⟩) trivial ?_
                go_simp
                refine wpAnyH_all (rs := [7]) (by decide +kernel) (by simp) ?_
                intro i hi
                simp only [List.mem_cons, List.not_mem_nil, or_false] at hi
                subst hi
                have qx := hBa.c1
                have qy := hBa.blk.frozen 1
                refine wpOp_skip (w' := wa.setCell ⟨g, 1, none⟩ (.slice A3 (q + 1) d3)) rfl (by kernel_rfl) (by go_simp) ⟨trivial, ?_⟩
                clear qx qy
                go_simp
                refine wpAnyH_done (by decide +kernel) ?_ _
                have hsz1 := hft.size
                have hsz2 := hfa.size
                simp only [World.size_alloc] at hsz2 hina
                have hsz0 : w5.drew.heap.size = w5.heap.size := rfl
                have hfg : Fr (· = g) wa (wa.setCell ⟨g, 1, none⟩ (.slice A3 (q + 1) d3)) := (Fr.refl _ _).at_ _ _
                have hfT : Fr (fun j => j = b ∨ j = g ∨ inB A2 j) w5 (wa.setCell ⟨g, 1, none⟩ (.slice A3 (q + 1) d3)) := ((((Fr.drew (Fr.refl (fun j => j = b ∨ j = g ∨ inB A2 j) w5)).trans hft fun _ _ h => .inl h).alloc (.cells #[.slice At lt.length ct] 22)).trans hfa fun _ _ h => .inr (.inr h)).trans hfg fun _ _ h => .inr (.inl h)
                have hina2 : ∀ j, inB A3 j → Km ≤ j := fun j hj => (hina j hj).elim (hA2 j) fun h => by omega
                have hgA3 : ¬ inB A3 g := fun h => by have := hina2 g h; omega
                have hlow : ∀ j, (j = b ∨ j = g ∨ inB A2 j) → w.heap.size ≤ j ∧ ¬ j = B := fun j h => by
                  have := HB.out
                  rcases h with h | h | h
                  · omega
                  · omega
                  · have := hA2 j h; omega
                have hA3lt : ∀ j, j < w5.heap.size → ¬ inB A2 j → ¬ inB A3 j := fun j hj h hh => (hina j hh).elim h fun e => by omega
                have hR2 := ((hRt.fr ((Fr.refl NoB wt).alloc (.cells #[.slice At lt.length ct] 22)) fun _ _ => id).fr hfa fun j hj h => by have := hA2 j h; omega).fr hfg fun j hj h => by omega
                have hBt0 : Byt wt (fun j => w5.heap.size ≤ j ∧ j < wt.heap.size) At lt.length lt := hOt.arr fun j hj1 hj => ⟨hint j hj, hj1⟩
                have hBt : Byt (wa.setCell ⟨g, 1, none⟩ (.slice A3 (q + 1) d3)) (fun j => Km ≤ j ∧ ¬ inB A3 j) At lt.length lt := by
                  refine (((Byt.fr hBt0 ((Fr.refl NoB wt).alloc (.cells #[.slice At lt.length ct] 22)) fun _ _ => id).fr hfa fun j hj h => ?_).fr hfg fun j hj h => by omega).more fun j _ hj => ⟨by omega, fun hh => ?_⟩
                  · have := hP.lt h; omega
                  · rcases hina j hh with h | h
                    · have := hP.lt h; omega
                    · omega
                have hus2 : ∀ (i : Nat) (a : List UInt8), (pre2 ++ [lt])[i]? = some a → ∃ u : Value, (us ++ [.slice At lt.length ct])[i]? = some u ∧ BytR (wa.setCell ⟨g, 1, none⟩ (.slice A3 (q + 1) d3)) (fun j => Km ≤ j ∧ ¬ inB A3 j) [u] a := fun i a ha => by
                  have hul : us.length = pre2.length := by have := hP.len; have := Hq.out; omega
                  rcases Nat.lt_or_ge i pre2.length with hi | hi
                  · rw [List.getElem?_append_left hi] at ha
                    obtain ⟨u, hu, hbu⟩ := Hus.out i a ha
                    refine ⟨u, by rw [List.getElem?_append_left (by omega)]; exact hu, ?_⟩
                    refine ((BytR.more (G := fun j => (Km ≤ j ∧ ¬ inB A2 j) ∧ j < w5.heap.size) hbu fun j h1 h2 => ⟨h2, h1⟩).fr hfT fun j hj h => ?_).more fun j _ hj => ⟨hj.1.1, hA3lt j hj.2 hj.1.2⟩
                    rcases h with h | h | h
                    · omega
                    · omega
                    · exact hj.1.2 h
                  · have hie : i = pre2.length := by
                      have := (List.getElem?_eq_some_iff.1 ha).1
                      simp at this; omega
                    subst hie
                    rw [List.getElem?_append_right (Nat.le_refl _), Nat.sub_self] at ha
                    injection ha with ha
                    subst ha
                    exact ⟨_, by rw [← hul, List.getElem?_append_right (Nat.le_refl _), Nat.sub_self]; rfl, At, lt.length, ct, rfl, hOt.le, hOt.cap, hBt⟩
                go_wp2
                go_roundw
                case rel => exact ⟨pre2 ++ [lt], rt, k, q + 1, d3, A3, us ++ [.slice At lt.length ct], by go_num, by omega, by rw [List.length_append, ← Hq.out]; rfl, by rw [Hy1.out]; simp, Hy2.out, by omega, hR2, hBa.s1 A3 (q + 1) d3, hO.fr hfT (fun j hj h => by rcases h with h | h | h; (have := hA j hj; omega); (have := hA j hj; omega); (have := hA2 j h; have := hA4 j hj; omega)), hPa.fr hfg (fun j hj h => by have := hina2 j hj; omega), hus2, hina2, hBz.fr hfT (fun h => (hlow B h).2 rfl), hF.new hfT fun j hj => .inr (hlow j hj).1, by have := hfT.size; omega⟩
                case measure => simp [intOf]
    · obtain ⟨k, rfl⟩ : ∃ k0, k = k0 + 1 := ⟨k - 1, by omega⟩
      have hz1 := Hz1.out
      have hz2 := Hz2.out
      rw [refsGo] at hz1 hz2
      have hlt := Rd.Text_lE r' 64
      have hcall := RText_any w3 _ b r' 64 hR (by omega) (by omega) hrl
      generalize hq : Rd.Text r' 64 = q at hz1 hz2 hlt hcall
      obtain ⟨lt, rt⟩ := q
      unfold ReadBytes at hcall
      dsimp only at hz1 hz2 hlt hcall
      have hlr := Rd.Raw_lE rt 32
      have h32 := Rd.Raw_32 rt
      have hraw := fun W (hW : RdAt W (fun j => B < j ∧ j < K) b rt) => RRaw_any W _ b rt 32 hW (by omega) (by omega) (by omega)
      generalize hq2 : Rd.Raw rt 32 = q2 at hz1 hz2 hlr h32 hraw
      obtain ⟨li, ri⟩ := q2
      unfold ReadBytes at hraw
      dsimp only at hz1 hz2 hlr h32 hraw
      have Hcall := Lib.hid hcall
      have Hraw := Lib.hid hraw
      have Hy1 := Lib.hid hz1
      have Hy2 := Lib.hid hz2
      clear hz1 hz2 hcall hraw hq hq2 hR
      obtain ⟨s, hs⟩ : ∃ s : ByteArray, s = ⟨lt.toArray⟩ := ⟨_, rfl⟩
      have Hs := Lib.hid hs
      obtain ⟨rc, hrc⟩ : ∃ rc, rc = refCells ⟨s, zeroId⟩ := ⟨_, rfl⟩
      have R33 : Hid (rc.toArray.size = 33) := by show _ = _; rw [hrc]; simp [refCells_len]
      have R1 : Hid (rc.toArray.all (·.oneCell') = true) := by show _ = _; rw [hrc]; exact refCells_ones _
      have Rb : Hid (Try.prog.built 162 [(0, .string ⟨lt.toArray⟩)] = some rc.toArray) := by show _ = _; rw [hrc, hs]; exact nameRef_built _
      have Hrc := Lib.hid hrc
      clear hs hrc
      go_wp2_with (first
        | (go_at_call 38
           refine Hcall.out.mono ?_
           rintro e w4 ⟨A4, c4, rfl, hf4, hR4, hO4, hin4⟩
           have hcv := Byt.str (F := fun _ => True) (hO4.arr fun _ _ _ => trivial) (P := Try.prog) Try.underlying22 Try.underlying5 Try.underlying9 c4)
        | (refine wpList_build_eqE rfl 162 #[(0, .tmp 19)] rfl [(0, .string ⟨lt.toArray⟩)] rfl rc.toArray Rb.out ?_)
        | (refine wpList_alloc_any rfl 162 rfl 33 ref_zero ?_; intro z7 hz7; have Hz7 := Lib.hid hz7; clear hz7)
        | (refine wpList_store_newN rfl 162 (.tmp 7) (.tmp 20) rfl 33 ref_size _ z7 Hz7.out rc.toArray rfl rfl R33.out R1.out ?_
           clear Hz7
           obtain ⟨gr, hgr⟩ : ∃ gr, gr = w4.heap.size := ⟨_, rfl⟩
           obtain ⟨w5, hw5⟩ : ∃ w5, w5 = w4.alloc (.cells rc.toArray 162) := ⟨_, rfl⟩
           have hfa : Fr NoB w4 w5 := by rw [hw5]; exact (Fr.refl _ _).alloc _
           have hRr : RefBlk w5 gr ⟨s, zeroId⟩ := by rw [hw5, hgr, Hrc.out]; exact ⟨Blk.new _ _ _⟩
           have hf5 : Fr (· = b) w3 w5 := hf4.trans (hfa.mono fun _ _ h => h.elim) fun _ _ h => h
           have hR5 := hR4.fr hfa fun _ _ => id
           have s4 := hf4.size
           have hgr3 : w3.heap.size ≤ gr := by omega
           have s5 := hf5.size
           have hgr5 : gr < w5.heap.size := by rw [hw5, hgr]; simp
           rw [← hw5]
           rw [← hgr]
           clear hw5 hgr hfa hf4 hO4 hin4 hR4 hcv s4))
      go_simp
      go_cut [] from 13 to 31 (fun W => RefBlk W gr ⟨s, idOf li⟩ ∧ RdAt W (fun j => B < j ∧ j < K) b ri ∧ Fr (fun j => j = b ∨ j = gr) w5 W)
      case rest =>
        obtain ⟨hRr6, hR6, hf6⟩ := hcut
        obtain ⟨w6, rfl⟩ : ∃ w6 : World, w6 = wc := ⟨_, rfl⟩
        have hfT : Fr (fun j => j = b ∨ j = gr) w3 w6 := (hf5.mono fun _ _ h => .inl h).trans hf6 fun _ _ h => h
        have hbKb : b < Kb := by omega
        have hB6 := hB.fr hfT (by omega)
        have hO6 := hO.fr hfT (fun j hj h => by have := hA j hj; have := hO.lt hj; omega)
        have hBz6 := hBz.fr hfT (by omega)
        have hF6 := hF.new hfT fun j hj => .inr (by have := HB.out; have := hF.size; omega)
        have s6 := hfT.size
        have q0 := hB6.c0
        have f0 := hB6.blk.frozen 0
        obtain ⟨rd, hrd⟩ : ∃ rd, rd = refCells ⟨s, idOf li⟩ := ⟨_, rfl⟩
        have D33l : Hid (rd.length = 33) := by show _ = _; rw [hrd]; exact refCells_len _
        have D33 : Hid (rd.toArray.size = 33) := by show _ = _; rw [hrd]; simp [refCells_len]
        have D33m : Hid (rd.toArray.size = 1 * 33) := by show _ = _; rw [hrd]; simp [refCells_len]
        have D1 : Hid (∀ u ∈ rd.toArray.toList, u.oneCell' = true) := by
          show ∀ u ∈ rd.toArray.toList, u.oneCell' = true
          rw [hrd]
          have := refCells_ones ⟨s, idOf li⟩
          rw [Array.all_eq_true_iff_forall_mem] at this
          intro u hu
          exact this u (by simpa using hu)
        have hall := hRr6.all
        rw [← hrd] at hall
        have Hrd := Lib.hid hrd
        clear hrd hO hB hBz hF hR5 hRr
        go_wp2_with (first
          | (refine wpList_load_agg rfl 162 (.tmp 7) rfl gr 0 rfl rd _ hall Try.underlying162 rfl (by rw [D33l.out]; exact ref_size) ?_)
          | (refine wpList_build1 rfl el_ref (by omega) (.tmp 28) rfl rd.toArray rfl D33.out ?_)
          | (at_builtin
             refine wpList_app _ el_ref rfl (.tmp 27) (.tmp 29) rfl A1 p cc _ rfl (hO6.alloc _) _ _ 1 1 _ rfl (Arr.new _ _ rd.toArray 1 33 D33m.out) D1.out (by omega) ?_
             intro A7 c7 w7 hO7 hf7 hin7 hnil7
             have hgA : ¬ inB A1 g := fun hh => by have := hA g hh; omega
             have hB7 := (hB6.fr ((Fr.refl NoB w6).alloc (.cells rd.toArray 162)) id).fr hf7 hgA
             have q7 := hB7.c0
             have f7 := hB7.blk.frozen 0))
        have s7 := hf7.size
        simp only [World.size_alloc] at s7 hin7
        have hin7' : ∀ j, inB A7 j → Kb ≤ j := fun j hj => (hin7 j hj).elim (hA j) fun h => by omega
        have hfs : Fr (· = g) w7 (w7.setCell ⟨g, 0, none⟩ (.slice A7 (p + 1) c7)) := (Fr.refl _ _).at_ _ _
        have hf67 : Fr (fun j => inB A1 j ∨ j = g) w6 (w7.setCell ⟨g, 0, none⟩ (.slice A7 (p + 1) c7)) := (((Fr.refl _ _).alloc _).trans hf7 fun _ _ h => .inl h).trans hfs fun _ _ h => .inr h
        have hlow : ∀ j, (inB A1 j ∨ j = g) → w.heap.size ≤ j ∧ ¬ j = B ∧ K ≤ j := fun j hj => by
          rcases hj with hj | hj
          · have := hA j hj; have := HB.out; omega
          · have := HB.out; omega
        go_roundw
        case rel =>
          refine ⟨pre ++ [⟨s, idOf li⟩], ri, k, p + 1, c7, A7, by go_num, by omega, by rw [List.length_append, ← Hp.out]; rfl, by rw [Hy1.out, Hs.out]; simp, Hy2.out, by omega, hR6.fr hf67 (fun j hj h => by have := (hlow j h).2.2; omega), hB7.s0 A7 (p + 1) c7, ?_, hin7', hBz6.fr hf67 (fun h => (hlow B h).2.1 rfl), hF6.new hf67 fun j hj => .inr (hlow j hj).1, by have := hf67.size; omega⟩
          have e : (pre ++ [(⟨s, idOf li⟩ : Ref)]).flatMap refCells = pre.flatMap refCells ++ rd.toArray.toList := by rw [List.flatMap_append, Hrd.out]; simp
          rw [e]
          exact hO7.fr hfs fun j hj h => by have := hin7' j hj; omega
        case measure => simp [intOf]
      case first =>
        refine wp_region_held (S := fun _ => True) rfl ?_
        refine wpAnyH_take (i := 0) rfl (by decide +kernel) (by decide +kernel) (by decide +kernel) (fun _ _ _ h => h) (Or.inl ⟨by kernel_rfl, fun W _ => by go_simp; with_reducible rfl⟩) trivial ?_
        refine wpAnyH_take (i := 1) rfl (by decide +kernel) (by decide +kernel) (by decide +kernel) (fun _ _ _ h => h) (Or.inl ⟨by kernel_rfl, fun W _ => by go_simp; with_reducible rfl⟩) trivial ?_
        refine wpAnyH_take (i := 2) rfl (by decide +kernel) (by decide +kernel) (by decide +kernel) (fun _ _ _ h => h) (Or.inl ⟨by kernel_rfl, fun W _ => by go_simp; with_reducible rfl⟩) trivial ?_
        go_simp
        refine wpAnyH_all (rs := [3]) (by decide +kernel) (by simp) ?_
        intro i hi
        simp only [List.mem_cons, List.not_mem_nil, or_false] at hi
        subst hi
        refine wpOp_call rfl rfl 36 (enters_of Try.func36 (by kernel_rfl) rfl) #[.tmp 23, .const (.int .i64 32)] _ rfl _ rfl (Hraw.out _ (hR5.fr (Fr.drew (Fr.refl NoB w5)) fun _ _ => id)) ?_
        rintro e w6 ⟨A6, c6, rfl, hf6, hR6, hO6, hin6⟩
        refine ⟨_, rfl, trivial, ?_⟩
        have hfd : Fr (· = b) w5 w6 := (Fr.drew (Fr.refl _ w5)).trans hf6 fun _ _ h => h
        have hRr6 := hRr.fr hfd (by omega)
        have hgG : ∀ j, B < j ∧ j < K → ¬ j = gr := fun j hj => by omega
        rcases h32 with h32 | h32
        · rw [h32] at hO6 ⊢
          have hBy := hO6.arr (F := fun j => w5.drew.heap.size ≤ j) fun k _ hk => hin6 k hk
          obtain ⟨sb, so, hA6, hsb, hsc⟩ := hBy.2 (by omega)
          subst hA6
          obtain ⟨x, hxq⟩ : ∃ x, x = idOf li := ⟨_, rfl⟩
          have hx : idCells x = li.map bv := by rw [idCells, hxq, idOf_eq h32]
          have Hx : Hid ((idCells x).length = 32) := idCells_len _
          rw [← hx] at hsc
          have hcp := run_copy_row (P := Try.prog) w6 22 22 3 5 gr 1 32 32 ⟨sb, so, none⟩ 32 c6 (refCells ⟨s, zeroId⟩).toArray 162 (idCells x) Try.underlying22 (by kernel_rfl) hRr6.blk (by rw [Hx.out]; rfl) (fun j v hj => by rw [Addr.add_lit]; exact hsc j v hj) (by rw [Hx.out]; simp [refCells_len]) (fun v hv => bv_one _ v (by rw [← hx]; exact hv))
          have hrow : ((refCells ⟨s, zeroId⟩).toArray.toList.take 1 ++ idCells x ++ (refCells ⟨s, zeroId⟩).toArray.toList.drop (1 + 32)) = refCells ⟨s, x⟩ := by
            rw [List.drop_of_length_le (by simp [refCells_len])]
            simp [refCells]
          rw [Hx.out, hrow] at hcp
          obtain ⟨hfs, hBs⟩ := setRow_fr' (ds := (refCells ⟨s, x⟩).toArray) hRr6.blk
          go_simp
          refine wpAnyH_all (rs := [4]) (by decide +kernel) (by simp) ?_
          intro i hi
          simp only [List.mem_cons, List.not_mem_nil, or_false] at hi
          subst hi
          refine wpOp_run (v := goInt 32) (w' := w6.setRow gr (refCells ⟨s, x⟩).toArray) rfl rfl (by simp [execOp, resolve, invoke, builtin, Act.eval, hcp, Result.andThen]) ⟨trivial, ?_⟩
          refine wpAnyH_done (by decide +kernel) ?_ _
          go_wp2
          go_meet
          subst hxq
          case rel => exact ⟨⟨hBs⟩, hR6.fr hfs hgG, (hfd.mono fun _ _ h => .inl h).trans (hfs.mono fun _ _ h => .inr h) fun _ _ h => h⟩
        · rw [h32] at hO6 ⊢
          have hcp := run_copy_none (P := Try.prog) w6 22 22 3 5 (some ⟨gr, 1, none⟩) A6 32 32 0 c6 Try.underlying22 (by kernel_rfl) rfl
          have hx0 := idOf_zero (l := li) (by omega)
          go_simp
          refine wpAnyH_all (rs := [4]) (by decide +kernel) (by simp) ?_
          intro i hi
          simp only [List.mem_cons, List.not_mem_nil, or_false] at hi
          subst hi
          refine wpOp_run (v := goInt 0) (w' := w6) rfl rfl (by simp [execOp, resolve, invoke, builtin, Act.eval, hcp, Result.andThen]) ⟨trivial, ?_⟩
          refine wpAnyH_done (by decide +kernel) ?_ _
          go_wp2
          go_meet
          case rel => exact ⟨by rw [hx0]; exact hRr6, hR6, hfd.mono fun _ _ h => .inl h⟩
end

section
open Go.RowKit

theorem u8_size : ∀ w, (sizeOf 5).run Try.prog w = .ok 1 w := by
  intro w
  obtain ⟨i, h, a, b, c⟩ := info_parts (P := Try.prog) (e := 5) (z := .int .u8 0) (size := 1) (bytes := 1) (by kernel_rfl)
  simp [sizeOf, typeInfo, h, b]
theorem id_guard : Try.prog.eqGuardType Try.prog.depth 74 = false := by kernel_rfl

set_option maxRecDepth 100000 in
set_option maxHeartbeats 1000000 in
theorem SameIds_any (w : World) (G1 G2 : Nat → Prop) (A B : Option Addr) (n c m d : Nat) (xs ys : List Id32) (hx : ArrOf IdR w G1 32 A n xs) (hy : ArrOf IdR w G2 32 B m ys) (hn : n ≤ 9223372036854775807) :
    Calls Try.prog 40 #[.slice A n c, .slice B m d] w fun e w' => e = .returned (.bool (decide (xs = ys))) ∧ ∃ q, w' = w.drewN q := by
  have hxl := hx.len
  have hyl := hy.len
  by_cases hnm : n = m
  · subst hnm
    have Hxl := Lib.hid hxl
    have Hyl := Lib.hid hyl
    clear hxl hyl
    go_enter Try.func40, Try.ntmps40
    go_wp2
    go_loopw [13] (fun i wr => ∃ k q : Nat, k ≤ n ∧ i = .int .i64 k ∧ xs.take k = ys.take k ∧ wr = w.drewN q) (fun i _ => n - (intOf i).toNat)
    case atStart => exact ⟨0, 0, by omega, rfl, rfl, rfl⟩
    case round =>
      obtain ⟨k, q, hk, rfl, hpre, hwr⟩ := hrel
      have hxr : ArrOf IdR wr G1 32 A n xs := by rw [hwr]; exact hx
      have hyr : ArrOf IdR wr G2 32 B n ys := by rw [hwr]; exact hy
      have Hwr := Lib.hid hwr
      clear hwr
      have Hpre := Lib.hid hpre
      clear hpre
      by_cases hkn : k < n
      · obtain ⟨b1, o1, x, y1, rfl, _, gx, ly1, hr1, hc1⟩ := hxr.at_ hkn
        obtain ⟨b2, o2, y, y2, rfl, _, gy, ly2, hr2, hc2⟩ := hyr.at_ hkn
        have Hr1 : Hid (y1 = x.1.map bv) := hr1
        have Hr2 : Hid (y2 = y.1.map bv) := hr2
        have Ly1 : Hid (y1.length = 32) := ly1
        have Ly2 : Hid (y2.length = 32) := ly2
        have hk1 : k < xs.length := by rw [Hxl.out]; exact hkn
        have hk2 : k < ys.length := by rw [Hyl.out]; exact hkn
        have ex : xs.take (k + 1) = xs.take k ++ [x] := by
          rw [List.take_succ_eq_append_getElem hk1]
          rw [List.getElem?_eq_getElem hk1] at gx
          injection gx with gx; rw [gx]
        have ey : ys.take (k + 1) = ys.take k ++ [y] := by
          rw [List.take_succ_eq_append_getElem hk2]
          rw [List.getElem?_eq_getElem hk2] at gy
          injection gy with gy; rw [gy]
        have Hex := Lib.hid ex
        have Hey := Lib.hid ey
        clear ex ey gx gy hr1 hr2 ly1 ly2
        by_cases hxy : x.1 = y.1
        · have hb : (x.1 == y.1) = true := by simpa using hxy
          have Hxy := Lib.hid hxy
          clear hxy
          go_wp2
          refine wp_region_quiet_lit (by kernel_rfl) (by kernel_rfl) ?_
          repeat (first
            | (refine wpQuiet_load_agg rfl 74 (.tmp 18) rfl b1 (o1 + k * 32) rfl y1 _ hc1 Try.underlying74 rfl (by rw [Ly1.out]; exact id_size) ?_; go_simp)
            | (refine wpQuiet_load_agg rfl 74 (.tmp 22) rfl b2 (o2 + k * 32) rfl y2 _ hc2 Try.underlying74 rfl (by rw [Ly2.out]; exact id_size) ?_; rw [Hr1.out, Hr2.out]; go_simp)
            | (refine wpQuiet_run rfl (fun _ _ => exec_neq_arr 74 5 74 32 (.tmp 19) (.tmp 23) rfl Try.underlying74 Try.underlying5 u8_size id_guard x.1 y.1 rfl rfl x.2 y.2) ?_; rw [hb]; go_simp)
            | go_big_quiet_step (fail))
          refine wpQuiet_nil ?_
          intro nq
          go_wp2
          go_roundw
          case rel => exact ⟨k + 1, _, by omega, by go_num, by rw [Hex.out, Hey.out, Hpre.out, Subtype.ext Hxy.out], by rw [Hwr.out, World.drewN_drewN]⟩
          case measure => simp [intOf]; omega
        · have hb : (x.1 == y.1) = false := by simpa using hxy
          have hne : Hid (decide (xs = ys) = false) := by
            show _ = _
            rw [decide_eq_false_iff_not]
            rintro rfl
            have := Hex.out.symm.trans Hey.out
            rw [List.append_right_inj] at this
            injection this with this
            exact hxy (by rw [this])
          clear hxy
          go_wp2
          refine wp_region_quiet_lit (by kernel_rfl) (by kernel_rfl) ?_
          repeat (first
            | (refine wpQuiet_load_agg rfl 74 (.tmp 18) rfl b1 (o1 + k * 32) rfl y1 _ hc1 Try.underlying74 rfl (by rw [Ly1.out]; exact id_size) ?_; go_simp)
            | (refine wpQuiet_load_agg rfl 74 (.tmp 22) rfl b2 (o2 + k * 32) rfl y2 _ hc2 Try.underlying74 rfl (by rw [Ly2.out]; exact id_size) ?_; rw [Hr1.out, Hr2.out]; go_simp)
            | (refine wpQuiet_run rfl (fun _ _ => exec_neq_arr 74 5 74 32 (.tmp 19) (.tmp 23) rfl Try.underlying74 Try.underlying5 u8_size id_guard x.1 y.1 rfl rfl x.2 y.2) ?_; rw [hb]; go_simp)
            | go_big_quiet_step (fail))
          refine wpQuiet_nil ?_
          intro nq
          go_wp2
          go_ret
          exact ⟨ret_bool hne.out.symm, _, by rw [Hwr.out, World.drewN_drewN]⟩
      · have hke : k = n := by omega
        subst hke
        have he : Hid (decide (xs = ys) = true) := by
          show _ = _
          have := Hpre.out
          rw [List.take_of_length_le (by rw [Hxl.out]; exact Nat.le_refl _), List.take_of_length_le (by rw [Hyl.out]; exact Nat.le_refl _)] at this
          simpa using this
        go_wp2
        go_ret
        exact ⟨ret_bool he.out.symm, _, Hwr.out⟩
  · have hne : Hid (decide (xs = ys) = false) := by
      show _ = _
      rw [decide_eq_false_iff_not]
      rintro rfl
      exact hnm (hxl.symm.trans hyl)
    clear hxl hyl
    have hb : ((n : Int) != (m : Int)) = true := by simp; omega
    clear hnm
    go_enter Try.func40, Try.ntmps40
    go_wp2
    go_ret
    exact ⟨ret_bool hne.out.symm, 0, rfl⟩
end

section
open Go.RowKit

theorem ref_guard : Try.prog.eqGuardType Try.prog.depth 162 = false := by kernel_rfl
theorem ref_stood : Try.prog.stoodInHeld 162 = false := by kernel_rfl
theorem ref_fields0 : (Try.prog.fieldsOf 162).toList.map (fun f => (f.type, f.offset, f.name == "_")) = [(9, 0, false), (74, 1, false)] := by kernel_rfl
theorem ref_fields : ∃ f1 f2 : Field, (Try.prog.fieldsOf 162).toList = [f1, f2] ∧ f1.type = 9 ∧ f1.offset = 0 ∧ ¬ f1.name = "_" ∧ f2.type = 74 ∧ f2.offset = 1 ∧ ¬ f2.name = "_" := by
  have h := ref_fields0
  generalize (Try.prog.fieldsOf 162).toList = fs at h
  cases fs with
  | nil => cases h
  | cons f1 t =>
    cases t with
    | nil => simp at h
    | cons f2 t =>
      cases t with
      | cons f3 t => simp at h
      | nil =>
        simp only [List.map_cons, List.map_nil, List.cons.injEq, Prod.mk.injEq, and_true] at h
        exact ⟨f1, f2, rfl, h.1.1, h.1.2.1, by simpa using h.1.2.2, h.2.1, h.2.2.1, by simpa using h.2.2.2⟩
set_option maxRecDepth 100000 in
theorem part_name (w : World) (x : Ref) : (part 9 (refCells x).toArray 0).run Try.prog w = .ok (.string x.name) w := by
  unfold refCells
  go_simp
set_option maxRecDepth 100000 in
theorem part_id (w : World) (x : Ref) : (part 74 (refCells x).toArray 1).run Try.prog w = .ok (.agg (idCells x.id).toArray) w := by
  unfold part
  go_simp
  rw [refCells, List.tail_cons, List.take_of_length_le (by rw [idCells_len]; exact Nat.le_refl _)]
theorem ref_equal (w : World) (x y : Ref) : (Op.equalIn 10000 162 (.agg (refCells x).toArray) (.agg (refCells y).toArray)).run Try.prog w = .ok (decide (x = y)) w := by
  obtain ⟨f1, f2, hf, h1, h2, h3, h4, h5, h6⟩ := ref_fields
  rw [show (10000 : Nat) = 9999 + 1 from rfl, run_equalIn_agg w 9999 162 _ _ (by kernel_rfl) ref_stood, hf]
  have hid : (Op.equalIn 9999 74 (.agg (idCells x.id).toArray) (.agg (idCells y.id).toArray)).run Try.prog w = .ok (x.id.1 == y.id.1) w := by
    rw [show (9999 : Nat) = 9997 + 2 from rfl]
    unfold idCells
    rw [bv_cell]
    exact run_equalIn_bytes w 9997 74 5 32 Try.underlying74 Try.underlying5 u8_size x.id.1 y.id.1 x.id.2 y.id.2
  have hnm : (Op.equalIn 9999 9 (.string x.name) (.string y.name)).run Try.prog w = .ok (x.name.toList == y.name.toList) w := by
    rw [show (9999 : Nat) = 9998 + 1 from rfl]
    exact run_equalIn_string w 9998 9 x.name y.name Try.underlying9
  simp only [Op.eqFields, h1, h2, h3, h4, h5, h6, ne_eq, not_false_eq_true, if_true, Sem.run_bind, part_name, Result.andThen_ok, hnm]
  have hnn : x.name.toList = y.name.toList ↔ x.name = y.name := ⟨fun h => by
    rw [ByteArray.toList_eq, ByteArray.toList_eq] at h
    exact ByteArray.ext (Array.toList_inj.1 h), fun h => by rw [h]⟩
  have e : decide (x = y) = ((x.name.toList == y.name.toList) && (x.id.1 == y.id.1)) := by
    obtain ⟨xn, xi⟩ := x
    obtain ⟨yn, yi⟩ := y
    rw [Bool.eq_iff_iff]
    simp only [decide_eq_true_eq, Ref.mk.injEq, Bool.and_eq_true, beq_iff_eq]
    exact ⟨fun h => ⟨hnn.2 h.1, by rw [h.2]⟩, fun h => ⟨hnn.1 h.1, Subtype.ext h.2⟩⟩
  rw [e]
  cases hb1 : (x.name.toList == y.name.toList) <;> cases hb2 : (x.id.1 == y.id.1) <;> simp [Sem.run_pure, part_id, hid, hb2]
theorem exec_neq_ref {o : Oper} {a : Act} {w : World} (t' : TypeId) (x y : Operand) (ho : o.op = .binOp .neq 162 x y t') (p q : Ref) (hx : a.eval x = .agg (refCells p).toArray) (hy : a.eval y = .agg (refCells q).toArray) :
    (execOp a.eval o).run Try.prog w = .ok (.value (.bool (!decide (p = q)))) w := by
  unfold execOp
  simp only [ho, hx, hy, Sem.run_bind, run_eqGuard_agg w _ _ _ _ _ _ ref_guard, Result.andThen_ok, run_neq_struct, ref_equal, Sem.run_pure]
theorem exec_eql_ref {o : Oper} {a : Act} {w : World} (t' : TypeId) (x y : Operand) (ho : o.op = .binOp .eql 162 x y t') (p q : Ref) (hx : a.eval x = .agg (refCells p).toArray) (hy : a.eval y = .agg (refCells q).toArray) :
    (execOp a.eval o).run Try.prog w = .ok (.value (.bool (decide (p = q)))) w := by
  unfold execOp
  simp only [ho, hx, hy, Sem.run_bind, run_eqGuard_agg w _ _ _ _ _ _ ref_guard, Result.andThen_ok, run_eql_struct, ref_equal, Sem.run_pure]

theorem bunOut_zero : bunOut zeroBun = [0, 0] ∧ bunErr zeroBun = 0 := by
  have hm : bunMay zeroBun = true := by simp [bunMay, zeroBun, namedP, risingF]
  have e0 : encN 0 = [0] := by rw [encN_small (by omega)]; rfl
  constructor
  · rw [bunOut, if_pos hm, bunBytes]
    show encN 0 ++ ([] ++ (encN 0 ++ [])) = _
    rw [e0]; rfl
  · rw [bunErr, if_pos hm]
theorem zeroBun_r (w : World) : BunR w (fun _ => False) (bunCells none 0 0 none 0 0) zeroBun := ⟨none, 0, 0, none, 0, 0, rfl, Nat.le_refl _, by simp [maxLen], ArrOf.none_ _ _ _ _ _, Nat.le_refl _, by simp [maxLen], ArrOf.none_ _ _ _ _ _⟩

set_option maxRecDepth 100000 in
set_option maxHeartbeats 1000000 in
theorem awake34 (w : World) : Calls Try.prog 64 #[] w fun e w' => e = .returned (.bool true) ∧ Fr NoB w w' := by
  have hcall := bunPut_any w _ _ zeroBun (zeroBun_r w) (fun k h => h.elim) (by simp [zeroBun]) (by simp [zeroBun])
  rw [bunOut_zero.1, bunOut_zero.2] at hcall
  have Hcall := Lib.hid hcall
  have Hb := Lib.hid zeroBun_built
  clear hcall
  go_enter Try.func64, Try.ntmps64
  go_wp2_with (first
    | (refine wpList_build_eqE rfl 112 #[] rfl [] rfl _ Hb.out ?_)
    | (go_at_call 66
       refine Hcall.out.mono ?_
       rintro e w1 ⟨A, c, rfl, hf1, hO, hin⟩
       rw [List.length_cons, List.length_cons, List.length_nil]
       have hb : Byt w1 (fun _ => True) A 2 [0, 0] := hO.arr fun _ _ _ => trivial
       obtain ⟨b1, o1, rfl, _, h0⟩ := hb.at_ (k := 0) (by omega)
       obtain ⟨b2, o2, he, _, h1⟩ := hb.at_ (k := 1) (by omega)
       injection he with he
       injection he with he1 he2
       subst he1 he2
       have h0' : w1.cell? ⟨b1, o1, none⟩ = some (.int .u8 0) := h0
       have h1' : w1.cell? ⟨b1, o1 + 1, none⟩ = some (.int .u8 0) := h1))
  go_ret
  exact ⟨rfl, hf1⟩
end

section
open Go.RowKit

theorem take_snocE {α : Type} {l : List α} {k : Nat} {x : α} (h : l[k]? = some x) : l.take (k + 1) = l.take k ++ [x] := by
  obtain ⟨hk, rfl⟩ := List.getElem?_eq_some_iff.1 h
  exact List.take_succ_eq_append_getElem hk
theorem ne_atE {α : Type} {l m : List α} {k : Nat} {x y : α} (h : l[k]? = some x) (h2 : m[k]? = some y) (hne : x ≠ y) : l ≠ m := by
  rintro rfl
  rw [h] at h2
  injection h2 with h2
  exact hne h2
def fewBun (b : Bun) : Bool := b.objs.all (fun x => decide (x.length ≤ 1000)) && (b.refs.all (fun r => decide (r.name.size ≤ 200)) && (decide (b.refs.length ≤ 20) && decide (b.objs.length ≤ 30)))

set_option maxRecDepth 100000 in
set_option maxHeartbeats 2000000 in
theorem few34_any (w : World) (F : Nat → Prop) (y : List Value) (b : Bun) (hy : BunR w F y b) :
    Calls Try.prog 65 #[.agg y.toArray] w fun e w' => e = .returned (.bool (fewBun b)) ∧ Fr NoB w w' := by
  obtain ⟨A, n, c, B, m, d, rfl, hnc, hcm, hr, hmd, hdm, ho⟩ := hy
  have hn63 : n ≤ 9223372036854775807 := by unfold maxLen at hcm; omega
  have hm63 : m ≤ 9223372036854775807 := by unfold maxLen at hdm; omega
  have Hrl := Lib.hid hr.len
  have Hol := Lib.hid ho.len
  have hB0 : BunBlk (w.alloc (.cells (bunCells A n c B m d).toArray 112)) w.heap.size A n c B m d := ⟨Blk.new _ _ _⟩
  have hF1 : Fr NoB w (w.alloc (.cells (bunCells A n c B m d).toArray 112)) := (Fr.refl _ _).alloc _
  obtain ⟨yc, hyc⟩ : ∃ yc, yc = bunCells A n c B m d := ⟨_, rfl⟩
  rw [← hyc] at hB0 hF1 ⊢
  clear hyc
  obtain ⟨w1, hw1⟩ : ∃ w1, w1 = w.alloc (.cells yc.toArray 112) := ⟨_, rfl⟩
  have z1 := hB0.c1
  rw [← hw1] at hB0 hF1
  have Hw1 := Lib.hid hw1
  have hr1 := hr.fr hF1 fun _ _ => id
  have ho1 := ho.fr hF1 fun _ _ => id
  have q0 := hB0.c0
  have q1 := hB0.c1
  obtain ⟨g, hg⟩ : ∃ g, g = w.heap.size := ⟨_, rfl⟩
  rw [← hg] at hB0 q0 q1
  have Hg := Lib.hid hg
  clear hw1 hr ho hg
  go_enter Try.func65, Try.ntmps65
  go_wp2
  rw [← Hw1.out, ← Hg.out]
  clear z1
  go_loopw [10] (fun v wr => ∃ k : Nat, k ≤ m ∧ v = .int .i64 k ∧ (b.objs.take k).all (fun x => decide (x.length ≤ 1000)) = true ∧ Fr NoB w1 wr) (fun v _ => m - (intOf v).toNat)
  case atStart => exact ⟨0, by omega, rfl, rfl, Fr.refl _ _⟩
  case round =>
    obtain ⟨k, hk, rfl, hall, hF0⟩ := hrel
    obtain ⟨w2, rfl⟩ : ∃ w2 : World, w2 = wr := ⟨_, rfl⟩
    replace q0 := hF0.cell' q0 id
    replace q1 := hF0.cell' q1 id
    replace ho1 := ho1.fr hF0 fun _ _ => id
    replace hr1 := hr1.fr hF0 fun _ _ => id
    have hF2 := hF1.trans hF0 fun _ _ => id
    have Hall := Lib.hid hall
    clear hall
    by_cases hkm : k < m
    · obtain ⟨bb, oo, x, y, rfl, _, gx, _, ⟨X, p, e, hy, _, _, hb⟩, hcell⟩ := ArrOf.at_ ho1 hkm
      have c0 : w2.cell? ⟨bb, oo + k, none⟩ = some (.slice X p e) := by
        have := hcell 0 (.slice X p e) (by rw [hy]; rfl)
        simpa using this
      have Htk := Lib.hid (take_snocE gx)
      have Hmem := Lib.hid (List.mem_of_getElem? gx)
      have Hbl := Lib.hid hb.len
      clear gx hy hcell
      by_cases hx : p ≤ 1000
      · have b1 : decide (1000 < (p : Int)) = false := by simp only [decide_eq_false_iff_not]; omega
        have Hx := Lib.hid hx
        clear hx
        go_wp2
        go_roundw
        case rel => exact ⟨k + 1, by omega, by go_num, by rw [Htk.out, List.all_append, Hall.out]; simp [Hbl.out, Hx.out], hF0⟩
        case measure => (simp [intOf] <;> omega)
      · have b1 : decide (1000 < (p : Int)) = true := by simp only [decide_eq_true_eq]; omega
        have He : Hid (fewBun b = false) := by
          show _ = _
          have : b.objs.all (fun x => decide (x.length ≤ 1000)) = false := by rw [List.all_eq_false]; exact ⟨x, Hmem.out, by rw [Hbl.out]; simpa using hx⟩
          rw [fewBun, this, Bool.false_and]
        clear hx
        go_wp2
        go_ret
        exact ⟨ret_bool He.out.symm, hF2⟩
    · have ha := Hall.out
      rw [List.take_of_length_le (by rw [Hol.out]; omega)] at ha
      have Ha := Lib.hid ha
      clear ha
      go_wp2
      go_loopw [21] (fun v wr => ∃ k : Nat, k ≤ n ∧ v = .int .i64 k ∧ (b.refs.take k).all (fun r => decide (r.name.size ≤ 200)) = true ∧ Fr NoB w2 wr) (fun v _ => n - (intOf v).toNat)
      case atStart => exact ⟨0, by omega, rfl, rfl, Fr.refl _ _⟩
      case round =>
        obtain ⟨j, hj, rfl, hall, hFr⟩ := hrel
        obtain ⟨w4, rfl⟩ : ∃ w4 : World, w4 = wr := ⟨_, rfl⟩
        have Hal2 := Lib.hid hall
        clear hall
        by_cases hjn : j < n
        · obtain ⟨bb, oo, x, y, rfl, _, gx, _, ⟨hy, _⟩, hcell⟩ := ArrOf.at_ (hr1.fr hFr fun _ _ => id) hjn
          have hx33 : Hid (y.length = 33) := by show _ = _; rw [hy]; exact refCells_len x
          have hx33a : Hid (y.toArray.size = 33) := by show _ = _; rw [hy]; simp [refCells_len]
          have hx1 : Hid (y.toArray.all (·.oneCell') = true) := by show _ = _; rw [hy]; exact refCells_ones x
          have hB6 : RefBlk (w4.alloc (.cells y.toArray 162)) w4.heap.size x := by rw [hy]; exact ⟨Blk.new _ _ _⟩
          have c0 := hB6.c0
          have Htk := Lib.hid (take_snocE gx)
          have Hmem := Lib.hid (List.mem_of_getElem? gx)
          clear gx hy hB6
          by_cases hx : x.name.size ≤ 200
          · have b1 : decide (200 < (x.name.size : Int)) = false := by simp only [decide_eq_false_iff_not]; omega
            have Hx := Lib.hid hx
            clear hx
            go_wp2_with (first
              | (refine wpList_load_agg rfl 162 (.tmp 23) rfl bb (oo + j * 33) rfl y _ hcell Try.underlying162 rfl (by rw [hx33.out]; exact ref_size) ?_)
              | (refine wpList_alloc_any rfl 162 rfl 33 ref_zero ?_; intro z hz; have Hz := Lib.hid hz; clear hz)
              | (refine wpList_store_newN rfl 162 (.tmp 6) (.tmp 24) rfl 33 ref_size _ z Hz.out y.toArray rfl rfl hx33a.out hx1.out ?_))
            go_roundw
            case rel => exact ⟨j + 1, by omega, by go_num, by rw [Htk.out, List.all_append, Hal2.out]; simp [Hx.out], hFr.alloc _⟩
            case measure => (simp [intOf] <;> omega)
          · have b1 : decide (200 < (x.name.size : Int)) = true := by simp only [decide_eq_true_eq]; omega
            have He : Hid (fewBun b = false) := by
              show _ = _
              have : b.refs.all (fun r => decide (r.name.size ≤ 200)) = false := by rw [List.all_eq_false]; exact ⟨x, Hmem.out, by simpa using hx⟩
              rw [fewBun, this, Bool.false_and, Bool.and_false]
            clear hx
            go_wp2_with (first
              | (refine wpList_load_agg rfl 162 (.tmp 23) rfl bb (oo + j * 33) rfl y _ hcell Try.underlying162 rfl (by rw [hx33.out]; exact ref_size) ?_)
              | (refine wpList_alloc_any rfl 162 rfl 33 ref_zero ?_; intro z hz; have Hz := Lib.hid hz; clear hz)
              | (refine wpList_store_newN rfl 162 (.tmp 6) (.tmp 24) rfl 33 ref_size _ z Hz.out y.toArray rfl rfl hx33a.out hx1.out ?_))
            go_ret
            exact ⟨ret_bool He.out.symm, (hF2.trans hFr fun _ _ => id).alloc _⟩
        · have ha := Hal2.out
          rw [List.take_of_length_le (by rw [Hrl.out]; omega)] at ha
          have hdef : fewBun b = (decide (n ≤ 20) && decide (m ≤ 30)) := by rw [fewBun, Ha.out, ha, Hrl.out, Hol.out]; simp
          have Hdef := Lib.hid hdef
          have q0 := hFr.cell' q0 id
          have q1 := hFr.cell' q1 id
          clear ha hdef
          by_cases h1 : n ≤ 20
          · have c1 : decide ((n : Int) ≤ 20) = true := by simp only [decide_eq_true_eq]; omega
            by_cases h2 : m ≤ 30
            · have c2 : decide ((m : Int) ≤ 30) = true := by simp only [decide_eq_true_eq]; omega
              have He : Hid (fewBun b = true) := by show _ = _; rw [Hdef.out, decide_eq_true h1, decide_eq_true h2]; rfl
              clear h1 h2
              go_wp2
              go_ret
              exact ⟨ret_bool He.out.symm, hF2.trans hFr fun _ _ => id⟩
            · have c2 : decide ((m : Int) ≤ 30) = false := by simp only [decide_eq_false_iff_not]; omega
              have He : Hid (fewBun b = false) := by show _ = _; rw [Hdef.out, decide_eq_true h1, decide_eq_false h2]; rfl
              clear h1 h2
              go_wp2
              go_ret
              exact ⟨ret_bool He.out.symm, hF2.trans hFr fun _ _ => id⟩
          · have c1 : decide ((n : Int) ≤ 20) = false := by simp only [decide_eq_false_iff_not]; omega
            have He : Hid (fewBun b = false) := by show _ = _; rw [Hdef.out, decide_eq_false h1]; rfl
            clear h1
            go_wp2
            go_ret
            exact ⟨ret_bool He.out.symm, hF2.trans hFr fun _ _ => id⟩
end

section
open Go.RowKit Go.Shelf

def linkStep (p : List Int × List Id32) (x : Id32) : List Int × List Id32 := (p.1 ++ [((p.2.idxOf x : Nat) : Int)], addId p.2 x)
/-- The numbers of links, the ids of m met before. -/
def linkAcc (m : List Id32) (l : List Id32) : List Int × List Id32 := l.foldl linkStep ([], m)
theorem linkAcc_step {m l : List Id32} {k : Nat} {x : Id32} (h : l[k]? = some x) : linkAcc m (l.take (k + 1)) = linkStep (linkAcc m (l.take k)) x := by
  rw [take_snocE h, linkAcc, List.foldl_append]
  rfl
theorem linkAcc_len (m : List Id32) : ∀ (l : List Id32) (k : Nat), k ≤ l.length → (linkAcc m (l.take k)).1.length = k ∧ (linkAcc m (l.take k)).2.length ≤ m.length + k
  | l, 0, _ => by simp [linkAcc]
  | l, k + 1, h => by
    obtain ⟨h1, h2⟩ := linkAcc_len m l k (by omega)
    rw [linkAcc_step (List.getElem?_eq_getElem (show k < l.length by omega))]
    unfold linkStep
    have := addId_len (linkAcc m (l.take k)).2 (l[k])
    constructor
    · simp [h1]
    · dsimp only; omega
def sealOf (i : Nat) (e : Env) (ns : List Int) : Seal := ⟨i, e.kind, e.realm, e.epoch, (e.body.length : Nat), ns⟩
def sealStep (p : List Seal × List Id32) (b : List UInt8) : List Seal × List Id32 := (p.1 ++ [sealOf p.1.length (envOf b) (linkAcc p.2 (envOf b).links).1], (linkAcc p.2 (envOf b).links).2)
/-- The seals of texts, and the ids met. -/
def sealAcc (l : List (List UInt8)) : List Seal × List Id32 := l.foldl sealStep ([], [])
theorem sealAcc_snoc (l : List (List UInt8)) (b : List UInt8) : sealAcc (l ++ [b]) = sealStep (sealAcc l) b := by
  rw [sealAcc, List.foldl_append]
  rfl
theorem envOf_links (b : List UInt8) : (envOf b).links.length ≤ 1000 := by
  unfold envOf
  split
  · rename_i h
    unfold envIs at h
    unfold envParse
    exact Rd.Ids_leE _ 1000 1000 (by omega)
  · simp [zeroEnv]
theorem sealAcc_len (l : List (List UInt8)) : ∀ k, k ≤ l.length → (sealAcc (l.take k)).1.length = k ∧ (sealAcc (l.take k)).2.length ≤ 1000 * k
  | 0, _ => by simp [sealAcc]
  | k + 1, h => by
    obtain ⟨h1, h2⟩ := sealAcc_len l k (by omega)
    rw [take_snocE (List.getElem?_eq_getElem (show k < l.length by omega)), sealAcc_snoc]
    have h3 := envOf_links (l[k])
    have h4 := (linkAcc_len (sealAcc (l.take k)).2 (envOf (l[k])).links _ (Nat.le_refl _)).2
    rw [List.take_length] at h4
    unfold sealStep
    constructor
    · simp [h1]
    · dsimp only; omega
def sealsIs (l : List (List UInt8)) : Bool := (dist l).all envIs
def sealsOut (l : List (List UInt8)) : List Seal := if sealsIs l = true then (sealAcc (dist l)).1 else []
def sealsBad (l : List (List UInt8)) : Int := if sealsIs l = true then 0 else 90
theorem el_seal : ElemOk Try.prog 38 41 (.agg #[.int .i64 0, .int .i64 0, .int .u32 0, .int .u32 0, .int .i64 0, .slice none 0 0]) 6 56 := .mk Try.underlying38 (by kernel_rfl) rfl (by omega) (by omega)
theorem el_int : ElemOk Try.prog 39 3 (.int .i64 0) 1 8 := .mk Try.underlying39 (by kernel_rfl) rfl (by omega) (by omega)

section
variable {F : Fence} {n : Nat} {P : Program} {ops : Array Oper} {Q : Exit → Act → World → Prop} {K : Act → World → Prop} {o : Oper} {a : Act} {w w' : World} {v : Value} {i : Nat}
theorem wpOpIn_skip (hi : ops[i]? = some o) (hw : Region.wanted o (yielded ops a.tmps) = true) (hab : ∀ f, o.about P w a.eval = some f → F.fn f) (hnd : ∀ c, o.op ≠ .defer c) (hr : (execOp a.eval o).run P w = .ok .skip w')
    (h : K (a.put o.dst undef) w') : wpOpIn F n P ops Q i K a w := by
  unfold wpOpIn
  simp only [hi]
  rw [if_pos hw]
  refine ⟨hab, ?_⟩
  rw [Oper.semAt_plain F _ _ hnd, hr]
  exact h
theorem wpOpIn_app {t e : TypeId} {z : Value} {size bytes : Nat} (E : ElemOk P t e z size bytes) (hi : ops[i]? = some o) (hw : Region.wanted o (yielded ops a.tmps) = true) (s x : Operand)
    (ho : o.op = .call { callee := .builtin .append, args := #[s, x], argTypes := #[t, t] })
    (A : Option Addr) (m c : Nat) (xs : List Value) (hs : a.eval s = .slice A m c) (hown : Own w e size A m c xs)
    (G : Nat → Prop) (B : Option Addr) (k d : Nat) (news : List Value) (hx : a.eval x = .slice B k d) (hr : Arr w G size B k news) (h1 : ∀ u ∈ news, u.oneCell' = true)
    (hbytes : (m + k) * bytes ≤ 140737488355328)
    (h : ∀ A' c' w', Own w' e size A' (m + k) c' (xs ++ news) → Fr (inB A) w w' → (∀ j, inB A' j → inB A j ∨ j = w.heap.size) → K (a.put o.dst (.slice A' (m + k) c')) w') : wpOpIn F n P ops Q i K a w := by
  obtain ⟨A', c', w', hrun, h2, h3, h4, h5⟩ := run_app w E o.type A m c xs hown G B k d news hr h1 hbytes
  refine wpOpIn_run (v := .slice A' (m + k) c') (w' := w') hi hw ?_ (by rw [ho]; intro c hc'; cases hc') ?_ (h A' c' w' h2 h3 h4)
  · simp [Oper.about, ho, resolve, Target.leads, Sem.run_pure]
  · simp [execOp, ho, resolve, invoke, builtin, hs, hx, hrun, Result.andThen]
end
end
end Go.Proofs.Ytnkfchondedfcaa
