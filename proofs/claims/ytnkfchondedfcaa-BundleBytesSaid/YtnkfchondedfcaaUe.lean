/-
  The envelope that bytes are (envel.Of). Conditions: each contract states its own.
-/
import Derived.Test.YtnkfchondedfcaaUd
import Derived.Test.YtnkfchondedfcaaHc
import Derived.Test.YtnkfchondedfcaaWe
namespace Go.Proofs.Ytnkfchondedfcaa
open Go.RowKit

section
variable {P : Program} {ops : Array Oper} {rest : List Oper} {o : Oper} {a : Act} {w : World} {Q : Exit → Act → World → Prop}
theorem wpList_build_eqE (hg : o.guard = none) (t : TypeId) (parts : Array (Nat × Operand)) (ho : o.op = .build t parts) (ps : List (Nat × Value)) (hp : (parts.toList.map fun (i, x) => (i, a.eval x)) = ps) (cells : Array Value) (hb : P.built t ps = some cells)
    (h : wpList P ops Q rest (a.put o.dst (.agg cells)) w) : wpList P ops Q (o :: rest) a w := by
  have e : (parts.map fun (i, x) => (i, a.eval x)).toList = ps := by rw [← hp]; simp
  exact wpList_build hg t parts ho (by rw [e, hb]; rfl) (by rw [e, hb]; exact h)
theorem results_cell2E {fn : Func} {t t2 : Tmp} {ty : TypeId} {tmps : Array Value} {w : World} {g : Nat} {cs : List Value} {d : TypeDesc} (h : fn.results = #[.cell t ty, .tmp t2]) (ht : tmps.getD t undef = .pointer (some ⟨g, 0, none⟩))
    (hc : ∀ j v, cs[j]? = some v → w.cell? ⟨g, 0 + j, none⟩ = some v) (hu : P.underlying ty = some d) (hd : d.isRow = true) (hi : (P.info? ty).map (·.size) = some cs.length) :
    (results fn tmps).run P w = .ok (.tuple #[.agg cs.toArray, tmps.getD t2 undef]) w := by
  have hl := run_loadVar_mid (P := P) w g 0 ty cs d hc hu hd hi
  have ht' : tmps[t]?.getD undef = .pointer (some ⟨g, 0, none⟩) := by simpa using ht
  simp [results, h, ht', hl, asAddr]
theorem wpList_store_rowE (hgd : o.guard = none) (ty : TypeId) (x y : Operand) (ho : o.op = .store ty x y) (g : Nat) (cells : Array Value) (hx : a.eval x = .pointer (some ⟨g, 0, none⟩)) (hy : a.eval y = .agg cells)
    (t : TypeId) (old : Array Value) (hg : Blk w g t old) (hi : (P.info? ty).map (·.size) = some cells.size) (hold : old.size = cells.size) (h1 : cells.all (·.oneCell') = true)
    (h : wpList P ops Q rest (a.put o.dst undef) (w.setRow g cells)) : wpList P ops Q (o :: rest) a w := by
  refine wpList_plain hgd fun _ hK => ?_
  refine wp_store_row ty x y ho g cells hx hy t old hg hi hold h1 ?_
  exact hK _ _ h
end
theorem RdAt.ltE {w : World} {F : Nat → Prop} {b : Nat} {r : Rd} (h : RdAt w F b r) : b < w.heap.size := by
  obtain ⟨_, _, _, _, h, _⟩ := h; exact h.lt
theorem WN_litE {w : World} {F : Nat → Prop} {b : Nat} {r : Rd} (h : RdAt w F b r) (most : Nat) (m : Int) (hm : m = (most : Int)) :
    Calls Try.prog 28 #[.pointer (some ⟨b, 0, none⟩), .int .u64 m] w fun e w' => e = .returned (.int .u64 (r.N most).1) ∧ Fr (· = b) w w' ∧ RdAt w' F b (r.N most).2 := by
  subst hm; exact RN_any w F b r most h
theorem zeroEnv_built : Try.prog.built 153 [] = some (envCells zeroEnv none 0 0 none 0 0).toArray := by kernel_rfl
theorem kindEnv_built (v : Int) : Try.prog.built 153 [(0, .int .i64 v)] = some (envCells ⟨v, 0, 0, [], []⟩ none 0 0 none 0 0).toArray := by kernel_rfl
/-- An envelope and an error's number are handed back; its slices lie in blocks of G. -/
def GotEnv (G : Nat → Prop) (w w' : World) (x : Ending) (e : Env) (bad : Int) : Prop :=
  ∃ y, x = .returned (.tuple #[.agg y.toArray, .int .i64 bad]) ∧ Fr NoB w w' ∧ EnvR w' G y e
theorem GotEnv.zero {G : Nat → Prop} {w w' : World} (h : Fr NoB w w') : GotEnv G w w' (.returned (.tuple #[.agg (envCells zeroEnv none 0 0 none 0 0).toArray, .int .i64 90])) zeroEnv 90 :=
  ⟨_, rfl, h, none, 0, 0, none, 0, 0, rfl, ArrOf.none_ _ _ _ _ _, Nat.le_refl _, by simp [maxLen], Byt.nil _ _ _⟩
theorem env_vals {l : List UInt8} {e : Env} {r : Rd} (h : envParse l = (e, r)) : envOf l = (if (decide (Rd.End r = 0) && envMay e) = true then e else zeroEnv) ∧ envBad l = (if (decide (Rd.End r = 0) && envMay e) = true then 0 else 90) := by
  unfold envOf envBad envIs
  rw [h]
  exact ⟨rfl, rfl⟩

set_option maxRecDepth 100000 in
set_option maxHeartbeats 4000000 in
theorem EnvOf_any (w : World) (F : Nat → Prop) (A : Option Addr) (n c : Nat) (l : List UInt8) (h : Byt w F A n l) (hn : n ≤ 70368744177664) :
    Calls Try.prog 95 #[.slice A n c] w fun e w' => GotEnv (fun k => w.heap.size ≤ k) w w' e (envOf l) (envBad l) := by
  have hlen := h.len
  have hn0 : (⟨l, true⟩ : Rd).l.length ≤ 70368744177664 := by simp; omega
  have hcall := fun z => Read_any _ F A n c l (h.alloc (.cells z 153)) (by omega)
  have HcR := Lib.hid hcall
  obtain ⟨B, hB0⟩ : ∃ B, B = w.heap.size := ⟨_, rfl⟩
  have HB := Lib.hid hB0
  clear hcall hlen hB0
  go_enter Try.func95, Try.ntmps95
  go_wp2_with (first
    | (refine wpList_alloc_any rfl 153 rfl 5 env_zero ?_; intro z hz; have Hz := Lib.hid hz; clear hz))
  go_wp2_with fail
  refine (HcR.out z).mono ?_
  rintro e w0 ⟨b, rfl, hf0, hR⟩
  clear HcR
  rw [← HB.out]
  have hb0 := hR.1
  have hbl0 := hR.ltE
  simp only [World.size_alloc, ← HB.out] at hb0 hR
  have hF : Fr NoB w w0 := ((Fr.refl NoB w).alloc _).trans hf0 fun _ _ => id
  have hBz : Blk w0 B 153 z := by rw [HB.out]; exact (Blk.new w _ _).fr hf0 id
  have hzb : ¬ B = b := by omega
  obtain ⟨K, hK⟩ : ∃ K, K = w0.heap.size := ⟨_, rfl⟩
  replace hR := hR.more (G := fun j => B < j ∧ j < K) fun j hj hh => ⟨by omega, by omega⟩
  have hKw : K ≤ w0.heap.size := by omega
  rw [← hK] at hbl0
  clear hf0 hK
  obtain ⟨r0, hr0⟩ : ∃ r0 : Rd, r0 = ⟨l, true⟩ := ⟨_, rfl⟩
  rw [← hr0] at hR
  replace hn0 : r0.l.length ≤ 70368744177664 := by rw [hr0]; exact hn0
  have Hr0 := Lib.hid hr0
  clear hr0
  obtain ⟨v1, r1, e1⟩ : ∃ v r', Rd.N r0 3 = (v, r') := ⟨_, _, rfl⟩
  have hv1 : v1 ≤ 3 := by have := Rd.N_le r0 3; rw [e1] at this; exact this
  have hn1 : r1.l.length ≤ 70368744177664 := by have := Rd.N_len r0 3; rw [e1] at this; exact Nat.le_trans this hn0
  have hcall := WN_litE hR 3 3 (by simp)
  rw [e1] at hcall
  have E1 := Lib.hid e1
  have Hcall := Lib.hid hcall
  clear e1 hR hcall
  go_wp2_with fail
  refine Hcall.out.mono ?_
  rintro e w1 ⟨rfl, hf1, hR⟩
  clear Hcall
  replace hF := hF.new hf1 fun j hj => .inr (by have := HB.out; omega)
  replace hBz := hBz.fr hf1 hzb
  have s1 := hf1.size
  clear hf1
  have H5 : Hid ((envCells ⟨(v1 : Int), 0, 0, [], []⟩ none 0 0 none 0 0).toArray.size = 5) := rfl
  have H5c : Hid ((envCells ⟨(v1 : Int), 0, 0, [], []⟩ none 0 0 none 0 0).toArray.all (·.oneCell') = true) := envCells_ones _ _ _ _ _ _ _
  obtain ⟨yc, hyc⟩ : ∃ yc, yc = envCells ⟨(v1 : Int), 0, 0, [], []⟩ none 0 0 none 0 0 := ⟨_, rfl⟩
  rw [← hyc] at H5 H5c
  have Hyc := Lib.hid hyc
  have hbuilt : Hid (Try.prog.built 153 [(0, .int .i64 (v1 : Int))] = some yc.toArray) := by show _ = _; rw [hyc]; exact kindEnv_built _
  clear hyc
  go_wp2_with (first
    | (refine wpList_build_eqE rfl 153 #[(0, .tmp 10)] rfl [(0, .int .i64 (v1 : Int))] rfl yc.toArray hbuilt.out ?_)
    | (refine wpList_alloc_any rfl 153 rfl 5 env_zero ?_; intro z6 hz6; have Hz6 := Lib.hid hz6; clear hz6)
    | (refine wpList_store_newN rfl 153 (.tmp 5) (.tmp 11) rfl 5 env_size _ z6 Hz6.out yc.toArray rfl rfl H5.out H5c.out ?_
       clear Hz6
       have hB : EnvBlk (w1.alloc (.cells yc.toArray 153)) w1.heap.size ⟨(v1 : Int), 0, 0, [], []⟩ none 0 0 none 0 0 := by rw [Hyc.out]; exact ⟨Blk.new _ _ _⟩
       replace hF : Fr NoB w (w1.alloc (.cells yc.toArray 153)) := hF.alloc _
       replace hBz := hBz.alloc (.cells yc.toArray 153)
       have hgl : w1.heap.size < (w1.alloc (.cells yc.toArray 153)).heap.size := by simp
       replace hR := hR.fr ((Fr.refl NoB _).alloc (.cells yc.toArray 153)) fun _ _ => id
       obtain ⟨g, hg⟩ : ∃ g, g = w1.heap.size := ⟨_, rfl⟩
       rw [← hg] at hB hgl ⊢
       have hKg : K ≤ g := by omega
       have hgb : ¬ g = b := by omega
       have hzg : ¬ B = g := by omega
       clear hg s1 hbuilt H5 H5c Hyc))
  obtain ⟨v2, r2, e2⟩ : ∃ v r', Rd.N r1 4294967295 = (v, r') := ⟨_, _, rfl⟩
  have hv2 : v2 ≤ 4294967295 := by have := Rd.N_le r1 4294967295; rw [e2] at this; exact this
  have hn2 : r2.l.length ≤ 70368744177664 := by have := Rd.N_len r1 4294967295; rw [e2] at this; exact Nat.le_trans this hn1
  have hcall := WN_litE hR 4294967295 4294967295 (by simp)
  rw [e2] at hcall
  have E2 := Lib.hid e2
  have Hcall := Lib.hid hcall
  clear e2 hR hcall
  go_wp2_with fail
  refine Hcall.out.mono ?_
  rintro e w2 ⟨rfl, hf2, hR⟩
  clear Hcall
  replace hB := hB.fr hf2 hgb
  replace hF := hF.new hf2 fun j hj => .inr (by have := HB.out; omega)
  replace hgl := Nat.lt_of_lt_of_le hgl hf2.size
  replace hBz := hBz.fr hf2 hzb
  have qc := hB.c1
  have qf := hB.blk.frozen 1
  have hfs : Fr (· = g) w2 (w2.setCell ⟨g, 1, none⟩ (.int .u32 (v2 : Nat))) := (Fr.refl _ _).at_ _ _
  replace hB := hB.s1 v2
  replace hF := hF.new hfs fun j hj => .inr (by have := HB.out; omega)
  replace hgl := Nat.lt_of_lt_of_le hgl hfs.size
  replace hBz := hBz.fr hfs hzg
  replace hR := hR.fr hfs fun j hj e => by omega
  clear hfs hf2
  obtain ⟨v3, r3, e3⟩ : ∃ v r', Rd.N r2 4294967295 = (v, r') := ⟨_, _, rfl⟩
  have hv3 : v3 ≤ 4294967295 := by have := Rd.N_le r2 4294967295; rw [e3] at this; exact this
  have hn3 : r3.l.length ≤ 70368744177664 := by have := Rd.N_len r2 4294967295; rw [e3] at this; exact Nat.le_trans this hn2
  have hcall := WN_litE hR 4294967295 4294967295 (by simp)
  rw [e3] at hcall
  have E3 := Lib.hid e3
  have Hcall := Lib.hid hcall
  clear e3 hR hcall
  go_wp2_with fail
  refine Hcall.out.mono ?_
  rintro e w3 ⟨rfl, hf3, hR⟩
  clear Hcall
  replace hB := hB.fr hf3 hgb
  replace hF := hF.new hf3 fun j hj => .inr (by have := HB.out; omega)
  replace hgl := Nat.lt_of_lt_of_le hgl hf3.size
  replace hBz := hBz.fr hf3 hzb
  clear qc qf
  have qc := hB.c2
  have qf := hB.blk.frozen 2
  have hfs : Fr (· = g) w3 (w3.setCell ⟨g, 2, none⟩ (.int .u32 (v3 : Nat))) := (Fr.refl _ _).at_ _ _
  replace hB := hB.s2 v3
  replace hF := hF.new hfs fun j hj => .inr (by have := HB.out; omega)
  replace hgl := Nat.lt_of_lt_of_le hgl hfs.size
  replace hBz := hBz.fr hfs hzg
  replace hR := hR.fr hfs fun j hj e => by omega
  clear hfs hf3
  obtain ⟨l4, r4, e4⟩ : ∃ v r', Rd.Ids r3 1000 = (v, r') := ⟨_, _, rfl⟩
  have hv4 : l4.length ≤ 1000 := by have := Rd.Ids_leE r3 1000 1000 (by omega); rw [e4] at this; exact this
  have hn4 : r4.l.length ≤ 70368744177664 := by have := Rd.Ids_lE r3 1000; rw [e4] at this; exact Nat.le_trans this hn3
  have hcall := RIds_any _ _ _ _ 1000 hR (by omega) hn3
  rw [e4] at hcall
  unfold ReadIds at hcall
  dsimp only at hcall
  have E4 := Lib.hid e4
  have Hcall := Lib.hid hcall
  clear e4 hR hcall
  go_wp2_with fail
  refine Hcall.out.mono ?_
  rintro e w4 ⟨A4, c4, rfl, hf4, hR, hO4, hin4⟩
  clear Hcall
  replace hin4 : ∀ j, inB A4 j → g < j := fun j hj => Nat.lt_of_lt_of_le hgl (hin4 j hj)
  replace hB := hB.fr hf4 hgb
  replace hF := hF.new hf4 fun j hj => .inr (by have := HB.out; omega)
  replace hgl := Nat.lt_of_lt_of_le hgl hf4.size
  replace hBz := hBz.fr hf4 hzb
  clear qc qf
  have qc := hB.c3
  have qf := hB.blk.frozen 3
  have hfs : Fr (· = g) w4 (w4.setCell ⟨g, 3, none⟩ (.slice A4 l4.length c4)) := (Fr.refl _ _).at_ _ _
  replace hB := hB.s3 l4 A4 l4.length c4
  replace hF := hF.new hfs fun j hj => .inr (by have := HB.out; omega)
  replace hgl := Nat.lt_of_lt_of_le hgl hfs.size
  replace hBz := hBz.fr hfs hzg
  replace hR := hR.fr hfs fun j hj e => by omega
  replace hO4 := hO4.fr hfs fun j hj e => by have := hin4 j hj; omega
  clear hfs hf4
  obtain ⟨l5, r5, e5⟩ : ∃ v r', Rd.Text r4 70000 = (v, r') := ⟨_, _, rfl⟩
  have hcall := RText_any _ _ _ _ 70000 hR (by omega) (by omega) hn4
  rw [e5] at hcall
  unfold ReadBytes at hcall
  dsimp only at hcall
  have E5 := Lib.hid e5
  have Hcall := Lib.hid hcall
  clear e5 hR hcall
  go_wp2_with fail
  refine Hcall.out.mono ?_
  rintro e w5 ⟨A5, c5, rfl, hf5, hR, hO5, hin5⟩
  clear Hcall
  replace hin5 : ∀ j, inB A5 j → g < j := fun j hj => Nat.lt_of_lt_of_le hgl (hin5 j hj)
  replace hO4 := hO4.fr hf5 fun j hj e => by have := hin4 j hj; omega
  replace hB := hB.fr hf5 hgb
  replace hF := hF.new hf5 fun j hj => .inr (by have := HB.out; omega)
  replace hgl := Nat.lt_of_lt_of_le hgl hf5.size
  replace hBz := hBz.fr hf5 hzb
  clear qc qf
  have qc := hB.c4
  have qf := hB.blk.frozen 4
  have hfs : Fr (· = g) w5 (w5.setCell ⟨g, 4, none⟩ (.slice A5 l5.length c5)) := (Fr.refl _ _).at_ _ _
  replace hB := hB.s4 l5 A5 l5.length c5
  replace hF := hF.new hfs fun j hj => .inr (by have := HB.out; omega)
  replace hgl := Nat.lt_of_lt_of_le hgl hfs.size
  replace hBz := hBz.fr hfs hzg
  replace hR := hR.fr hfs fun j hj e => by omega
  replace hO4 := hO4.fr hfs fun j hj e => by have := hin4 j hj; omega
  replace hO5 := hO5.fr hfs fun j hj e => by have := hin5 j hj; omega
  clear hfs hf5
  have hvals := env_vals (envParse_eq (Hr0.out ▸ E1.out) E2.out E3.out E4.out E5.out)
  obtain ⟨hof, hbad⟩ := hvals
  clear E1 E2 E3 E4 E5 Hr0
  obtain ⟨q, hq⟩ : ∃ q : Env, q = ⟨(v1 : Nat), v2, v3, l4, l5⟩ := ⟨_, rfl⟩
  have hBq : EnvBlk (w5.setCell ⟨g, 4, none⟩ (.slice A5 l5.length c5)) g q A4 l4.length c4 A5 l5.length c5 := by rw [hq]; exact hB
  have hQ : EnvR (w5.setCell ⟨g, 4, none⟩ (.slice A5 l5.length c5)) (fun j => g < j) (envCells q A4 l4.length c4 A5 l5.length c5) q := ⟨_, _, _, _, _, _, rfl, by rw [hq]; exact ids_of_own hO4 rfl fun j _ hj => hin4 j hj, hO5.le, hO5.cap, by rw [hq]; exact hO5.arr fun j _ hj => hin5 j hj⟩
  rw [← hq] at hof hbad
  clear hq hB hO4 hO5
  obtain ⟨yq, hyq⟩ : ∃ yq, yq = envCells q A4 l4.length c4 A5 l5.length c5 := ⟨_, rfl⟩
  have hall := hBq.all
  rw [← hyq] at hQ hall
  have H5l : Hid (yq.length = 5) := by show _ = _; rw [hyq]; rfl
  have H5a : Hid (yq.toArray.size = 5) := by show _ = _; rw [hyq]; rfl
  have H1a : Hid (yq.toArray.all (·.oneCell') = true) := by show _ = _; rw [hyq]; exact envCells_ones _ _ _ _ _ _ _
  have hend := Lib.hid (REnd_any _ _ _ _ hR)
  have hmay := Lib.hid (may_any _ _ _ _ hQ)
  obtain ⟨zc, hzc⟩ : ∃ zc, zc = envCells zeroEnv none 0 0 none 0 0 := ⟨_, rfl⟩
  have Hzb : Hid (Try.prog.built 153 [] = some zc.toArray) := by show _ = _; rw [hzc]; exact zeroEnv_built
  have Z5l : Hid (zc.length = 5) := by show _ = _; rw [hzc]; rfl
  have Z5a : Hid (zc.toArray.size = 5) := by show _ = _; rw [hzc]; rfl
  have Z1a : Hid (zc.toArray.all (·.oneCell') = true) := by show _ = _; rw [hzc]; exact envCells_ones _ _ _ _ _ _ _
  have Hzc := Lib.hid hzc
  clear hyq hzc hBq hR
  by_cases hev : Rd.End r5 = 0
  · have be : (Rd.End r5 != 0) = false := by simpa using hev
    have hd := decide_eq_true hev
    rw [hd, Bool.true_and] at hof hbad
    clear hd hev
    cases hm : envMay q with
    | true =>
      rw [hm] at hmay
      rw [hm, if_pos rfl] at hof hbad
      have He1 := Lib.hid hof
      have He2 := Lib.hid hbad
      clear hof hbad
      go_wp2_with (first
        | (go_at_call 29; refine hend.out.mono ?_; rintro e w' ⟨rfl, rfl⟩)
        | (refine wpList_load_aggG rfl 153 (.tmp 5) rfl g 0 rfl yq _ hall Try.underlying153 rfl (by rw [H5l.out]; exact env_size) ?_)
        | (go_at_call 106
           refine hmay.out.mono ?_
           rintro e w7 ⟨rfl, hf7⟩
           have hall7 : ∀ j u, yq[j]? = some u → w7.cell? ⟨g, 0 + j, none⟩ = some u := fun j u hu => hf7.cell' (hall j u hu) id
           have hBz7 := hBz.fr hf7 id
           have hQ7 := hQ.fr hf7 fun _ _ => id
           have hF7 := hF.trans hf7 fun _ _ => id)
        | (refine wpList_load_agg rfl 153 (.tmp 5) rfl g 0 rfl yq _ hall7 Try.underlying153 rfl (by rw [H5l.out]; exact env_size) ?_)
        | (refine wpList_store_rowE rfl 153 (.tmp 2) (.tmp 35) rfl B yq.toArray rfl rfl 153 z hBz7 (by rw [H5a.out]; exact env_size) (by rw [Hz.out, H5a.out]) H1a.out ?_))
      obtain ⟨hft, hBt⟩ := setRow_fr (ds := yq.toArray) hBz7
      refine bodyPost_ret (results_cell2E (cs := yq) rfl rfl (fun j v hv => by rw [Nat.zero_add, hBt.cell]; simpa using hv) Try.underlying153 rfl (by rw [H5l.out]; exact env_size)) rfl ?_
      rw [He1.out, He2.out]
      refine ⟨yq, rfl, hF7.new hft fun j hj => .inr (by have := HB.out; omega), ?_⟩
      obtain ⟨A, n, c, B', m, d, k1, k4, k5, k6, k7⟩ := hQ7.fr hft fun j hj e => by omega
      have hlow : ∀ j, g < j → w.heap.size ≤ j := fun j hj => by have := HB.out; omega
      exact ⟨A, n, c, B', m, d, k1, ArrOf.more k4 (by omega) (fun j _ hj => hlow j hj) fun _ _ _ h => h, k5, k6, k7.more fun j _ hj => hlow j hj⟩
    | false =>
      rw [hm] at hmay
      rw [hm, if_neg (by simp)] at hof hbad
      have He1 := Lib.hid hof
      have He2 := Lib.hid hbad
      clear hof hbad
      go_wp2_with (first
        | (go_at_call 29; refine hend.out.mono ?_; rintro e w' ⟨rfl, rfl⟩)
        | (refine wpList_load_aggG rfl 153 (.tmp 5) rfl g 0 rfl yq _ hall Try.underlying153 rfl (by rw [H5l.out]; exact env_size) ?_)
        | (go_at_call 106
           refine hmay.out.mono ?_
           rintro e w7 ⟨rfl, hf7⟩
           have hBz7 := hBz.fr hf7 id
           have hF7 := hF.trans hf7 fun _ _ => id)
        | (refine wpList_build_eqE rfl 153 #[] rfl [] rfl zc.toArray Hzb.out ?_)
        | (refine wpList_store_rowE rfl 153 (.tmp 2) (.tmp 34) rfl B zc.toArray rfl rfl 153 z hBz7 (by rw [Z5a.out]; exact env_size) (by rw [Hz.out, Z5a.out]) Z1a.out ?_))
      obtain ⟨hft, hBt⟩ := setRow_fr (ds := zc.toArray) hBz7
      refine bodyPost_ret (results_cell2E (cs := zc) rfl rfl (fun j v hv => by rw [Nat.zero_add, hBt.cell]; simpa using hv) Try.underlying153 rfl (by rw [Z5l.out]; exact env_size)) rfl ?_
      rw [He1.out, He2.out]
      have hgz := GotEnv.zero (G := (fun k => w.heap.size ≤ k)) (hF7.new hft fun j hj => .inr (by have := HB.out; omega))
      rw [← Hzc.out] at hgz
      exact hgz
  · have be : (Rd.End r5 != 0) = true := by simpa using hev
    have hd := decide_eq_false hev
    rw [hd, Bool.false_and, if_neg (by simp)] at hof hbad
    have He1 := Lib.hid hof
    have He2 := Lib.hid hbad
    clear hd hev hof hbad
    go_wp2_with (first
      | (go_at_call 29; refine hend.out.mono ?_; rintro e w' ⟨rfl, rfl⟩)
      | (refine wpList_build_eqE rfl 153 #[] rfl [] rfl zc.toArray Hzb.out ?_)
      | (refine wpList_store_rowE rfl 153 (.tmp 2) (.tmp 34) rfl B zc.toArray rfl rfl 153 z hBz (by rw [Z5a.out]; exact env_size) (by rw [Hz.out, Z5a.out]) Z1a.out ?_))
    obtain ⟨hft, hBt⟩ := setRow_fr (ds := zc.toArray) hBz
    refine bodyPost_ret (results_cell2E (cs := zc) rfl rfl (fun j v hv => by rw [Nat.zero_add, hBt.cell]; simpa using hv) Try.underlying153 rfl (by rw [Z5l.out]; exact env_size)) rfl ?_
    rw [He1.out, He2.out]
    have hgz := GotEnv.zero (G := (fun k => w.heap.size ≤ k)) (hF.new hft fun j hj => .inr (by have := HB.out; omega))
    rw [← Hzc.out] at hgz
    exact hgz
end Go.Proofs.Ytnkfchondedfcaa
