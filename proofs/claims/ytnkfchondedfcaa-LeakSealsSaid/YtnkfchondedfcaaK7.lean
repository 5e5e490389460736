/-
  What one sees who has no key (leak.Of). Conditions: each contract states its own.
-/
import Derived.Test.YtnkfchondedfcaaK6
namespace Go.Proofs.Ytnkfchondedfcaa
section
open Go.RowKit Go.Shelf
attribute [local go_sem] Oper.semAt_some

theorem dist_mem (l : List (List UInt8)) : ∀ k, k ≤ l.length → ∀ b ∈ l.take k, b ∈ dist (l.take k)
  | 0, _, b, h => by simp at h
  | k + 1, hk, b, h => by
    have e := List.getElem?_eq_getElem (show k < l.length by omega)
    rw [take_snocE e, List.mem_append, List.mem_singleton] at h
    rw [dist_step e]
    rcases h with h | h
    · have := dist_mem l k (by omega) b h
      split
      · exact this
      · exact List.mem_append_left _ this
    · subst h
      split
      · rename_i h; exact h
      · simp
theorem dist_all {l : List (List UInt8)} {k : Nat} {b : List UInt8} (h : l[k]? = some b) (hb : envIs b = false) : sealsIs l = false := by
  have hm : b ∈ dist l := by
    have := dist_mem l l.length (Nat.le_refl _) b (by rw [List.take_length]; exact List.mem_of_getElem? h)
    rwa [List.take_length] at this
  cases hs : sealsIs l with
  | false => rfl
  | true =>
    unfold sealsIs at hs
    have := List.all_eq_true.1 hs b hm
    rw [hb] at this; cases this
theorem EnvR.cells {w : World} {F : Nat → Prop} {y : List Value} {e : Env} (h : EnvR w F y e) : y.length = 5 ∧ y.toArray.size = 5 ∧ y.toArray.all (·.oneCell') = true := by
  obtain ⟨A, n, c, B, m, d, rfl, _⟩ := h
  exact ⟨rfl, rfl, envCells_ones _ _ _ _ _ _ _⟩
theorem SealR.more {w : World} {F G : Nat → Prop} {y : List Value} {s : Seal} (h : SealR w F y s) (hs : ∀ k, k < w.heap.size → F k → G k) : SealR w G y s := by
  obtain ⟨A, n, c, h1, h2, h3, h4⟩ := h
  exact ⟨A, n, c, h1, h2, h3, Arr.more h4 (fun k hk h => hs k hk h) (by omega)⟩
theorem ArrOf.moreE {α : Type} {R R' : List Value → α → Prop} {w : World} {F G : Nat → Prop} {size n : Nat} {A : Option Addr} {l : List α} (h : ArrOf R w F size A n l) (hs : 0 < size) (hF : ∀ k, k < w.heap.size → F k → G k) (hR : ∀ y a, R y a → R' y a) : ArrOf R' w G size A n l := ArrOf.more h hs hF fun y a _ hy => hR y a hy
theorem Seals.more' {w : World} {F G : Nat → Prop} {A : Option Addr} {n : Nat} {l : List Seal} (h : Seals w F A n l) (hs : ∀ k, k < w.heap.size → F k → G k) : Seals w G A n l := ArrOf.moreE h (by omega) hs fun y s hy => SealR.more hy hs
/-- Seals and an error's number are handed back. -/
def GotSeals (w w' : World) (e : Ending) (l : List Seal) (bad : Int) : Prop :=
  ∃ A n c, e = .returned (.tuple #[.slice A n c, .int .i64 bad]) ∧ Fr NoB w w' ∧ n ≤ c ∧ c ≤ maxLen ∧ Seals w' (fun k => w.heap.size ≤ k) A n l
/-- What has come of the texts so far. -/
def OfI (w : World) (B : Nat) (bs : List (List UInt8)) (W : World) : Prop :=
  bs.all envIs = true ∧ (∃ A n c yss, Blk W (B + 2) 38 #[.slice A n c] ∧ Own W 41 6 A n c (List.flatten yss) ∧ (∀ y ∈ yss, y.length = 6) ∧ n = (sealAcc bs).1.length ∧
    (∀ (i : Nat) s, (sealAcc bs).1[i]? = some s → ∃ y, yss[i]? = some y ∧ SealR W (fun j => B + 9 ≤ j ∧ ¬ inB A j) y s) ∧ ∀ j, inB A j → B + 9 ≤ j) ∧
  MetIds W (B + 3) (sealAcc bs).2 ∧ Blk W (B + 4) 151 #[.map (some (B + 3))] ∧ Blk W B 38 #[.slice none 0 0] ∧ Blk W (B + 1) 46 #[.int .i64 0] ∧ Fr NoB w W
theorem OfI.fr {w W W' : World} {B : Nat} {bs : List (List UInt8)} (hB : B = w.heap.size) (h : OfI w B bs W) (hf : Fr (fun k => k = B + 6 ∨ k = B + 7 ∨ k = B + 8) W W') : OfI w B bs W' := by
  obtain ⟨h1, ⟨A, n, c, yss, a1, a2, a3, a4, a5, a6⟩, h3, h4, h5, h6, h7⟩ := h
  refine ⟨h1, ⟨A, n, c, yss, a1.fr hf (by omega), a2.fr hf (fun j hj h => by have := a6 j hj; omega), a3, a4, fun i s hs => ?_, a6⟩, h3.fr hf (by omega), h4.fr hf (by omega), h5.fr hf (by omega), h6.fr hf (by omega), h7.new hf fun j hj => .inr (by omega)⟩
  obtain ⟨y, hy, hr⟩ := a5 i s hs
  exact ⟨y, hy, hr.fr hf fun j hj h => by omega⟩

def sealCells (i kind realm epoch size : Int) (A : Option Addr) (n c : Nat) : List Value := [.int .i64 i, .int .i64 kind, .int .u32 realm, .int .u32 epoch, .int .i64 size, .slice A n c]
theorem sealCells_ones (i kind realm epoch size : Int) (A : Option Addr) (n c : Nat) : (sealCells i kind realm epoch size A n c).toArray.all (·.oneCell') = true := by simp [sealCells, Value.oneCell']
theorem seal_built (a b c d e : Int) : Try.prog.built 41 [(0, .int .i64 a), (1, .int .i64 b), (2, .int .u32 c), (3, .int .u32 d), (4, .int .i64 e)] = some (sealCells a b c d e none 0 0).toArray := by kernel_rfl
theorem exec_build_eqY {P : Program} {o : Oper} {a : Act} {w : World} (t : TypeId) (parts : Array (Nat × Operand)) (ho : o.op = .build t parts) (ps : List (Nat × Value)) (hp : (parts.toList.map fun (i, x) => (i, a.eval x)) = ps) (cells : Array Value) (hb : P.built t ps = some cells) :
    (execOp a.eval o).run P w = .ok (.value (.agg cells)) w := by
  have e : (parts.map fun (i, x) => (i, a.eval x)).toList = ps := by rw [← hp]; simp
  unfold execOp
  simp only [ho, Sem.run_bind, run_build w t _ cells (by rw [e]; exact hb), Result.andThen_ok, Sem.run_pure]
theorem wpListIn_buildY {F : Fence} {nF : Nat} {P : Program} {ops : Array Oper} {rest : List Oper} {Q : Exit → Act → World → Prop} {o : Oper} {a : Act} {w : World} (hgd : o.guard = none) (t : TypeId) (parts : Array (Nat × Operand)) (ho : o.op = .build t parts) (ps : List (Nat × Value)) (hp : (parts.toList.map fun (i, x) => (i, a.eval x)) = ps) (cells : Array Value) (hb : P.built t ps = some cells)
    (h : wpListIn F nF P ops Q rest (a.put o.dst (.agg cells)) w) : wpListIn F nF P ops Q (o :: rest) a w :=
  wpListIn_run (by simp [Region.wanted, hgd]) (fun f hf => by simp [Oper.about, ho] at hf) (by rw [ho]; intro c hc'; cases hc') (exec_build_eqY t parts ho ps hp cells hb) h
/-- A seal in a block of its own. -/
structure SealBlk (w : World) (g : Nat) (i kind realm epoch size : Int) (A : Option Addr) (n c : Nat) : Prop where
  blk : Blk w g 41 (sealCells i kind realm epoch size A n c).toArray
section
variable {w w' : World} {g : Nat} {i kind realm epoch size : Int} {A : Option Addr} {n c : Nat} {S : Nat → Prop}
theorem SealBlk.fr (h : SealBlk w g i kind realm epoch size A n c) (hf : Fr S w w') (hd : ¬ S g) : SealBlk w' g i kind realm epoch size A n c := ⟨h.blk.fr hf hd⟩
theorem SealBlk.c5 (h : SealBlk w g i kind realm epoch size A n c) : w.cell? ⟨g, 5, none⟩ = some (.slice A n c) := (h.blk.cell 5).trans rfl
theorem SealBlk.s5 (h : SealBlk w g i kind realm epoch size A n c) (A' : Option Addr) (n' c' : Nat) : SealBlk (w.setCell ⟨g, 5, none⟩ (.slice A' n' c')) g i kind realm epoch size A' n' c' := ⟨h.blk.set_ _ _⟩
theorem SealBlk.all (h : SealBlk w g i kind realm epoch size A n c) : ∀ j u, (sealCells i kind realm epoch size A n c)[j]? = some u → w.cell? ⟨g, 0 + j, none⟩ = some u := fun j u hu => by rw [Nat.zero_add, h.blk.cell]; simpa using hu
end
/-- What stays while a text is told. -/
structure Kp (w : World) (B N : Nat) (oA : Option Addr) (on oc : Nat) (yss : List (List Value)) (l : List Seal) (W : World) : Prop where
  o1 : Blk W (B + 2) 38 #[.slice oA on oc]
  o2 : Own W 41 6 oA on oc (List.flatten yss)
  o5 : ∀ (i : Nat) s, l[i]? = some s → ∃ y, yss[i]? = some y ∧ SealR W (fun j => (B + 9 ≤ j ∧ ¬ inB oA j) ∧ j < N) y s
  o6 : ∀ j, inB oA j → B + 9 ≤ j ∧ j < N
  i4 : Blk W (B + 4) 151 #[.map (some (B + 3))]
  i5 : Blk W B 38 #[.slice none 0 0]
  i6 : Blk W (B + 1) 46 #[.int .i64 0]
  i7 : Fr NoB w W
theorem Kp.fr {w W W' : World} {B N : Nat} {oA : Option Addr} {on oc : Nat} {yss : List (List Value)} {l : List Seal} {S : Nat → Prop} (h : Kp w B N oA on oc yss l W) (hf : Fr S W W') (hS : ∀ j, S j → j = B + 3 ∨ N ≤ j) (hN : B + 9 ≤ N) (hB : B = w.heap.size) : Kp w B N oA on oc yss l W' := by
  obtain ⟨h1, h2, h3, h4, h5, h6, h7, h8⟩ := h
  have nS : ∀ j, j < N → ¬ j = B + 3 → ¬ S j := fun j hj hn h => (hS j h).elim hn fun h => by omega
  refine ⟨h1.fr hf (nS _ (by omega) (by omega)), h2.fr hf (fun j hj => nS j (h4 j hj).2 (by have := (h4 j hj).1; omega)), fun i s hs => ?_, h4, h5.fr hf (nS _ (by omega) (by omega)), h6.fr hf (nS _ (by omega) (by omega)), h7.fr hf (nS _ (by omega) (by omega)), h8.new hf fun j hj => .inr (by have := hS j hj; omega)⟩
  obtain ⟨y, hy, hr⟩ := h3 i s hs
  exact ⟨y, hy, hr.fr hf fun j hj => nS j hj.2 (by omega)⟩

set_option maxRecDepth 100000 in
set_option maxHeartbeats 8000000 in
theorem sealsOf_any (w : World) (F : Nat → Prop) (A : Option Addr) (n c : Nat) (ls : List (List UInt8)) (h : Bytss w F A n ls) (hF : ∀ k, F k → k < w.heap.size) (hn : n ≤ 20) (hsm : ∀ b ∈ ls, b.length ≤ 1000000) :
    Calls Try.prog 61 #[.slice A n c] w fun e w' => GotSeals w w' e (sealsOut ls) (sealsBad ls) := by
  obtain ⟨B, hB⟩ : ∃ B, B = w.heap.size := ⟨_, rfl⟩
  have hlen := h.len
  have Hlen := Lib.hid hlen
  obtain ⟨w2, hw2⟩ : ∃ w2, w2 = ((((w.alloc (.cells #[.slice none 0 0] 38)).alloc (.cells #[.int .i64 0] 46)).alloc (.cells #[.slice none 0 0] 38)).alloc (.map #[] 0)).alloc (.cells #[.map (some (w.heap.size + 3))] 151) := ⟨_, rfl⟩
  have hf2 : Fr NoB w w2 := by rw [hw2]; exact (((((Fr.refl NoB w).alloc _).alloc _).alloc _).alloc _).alloc _
  have hs2 : w2.heap.size = B + 5 := by rw [hw2, hB]; simp
  have hI2 : OfI w B [] w2 := by
    refine ⟨rfl, ⟨none, 0, 0, [], ?_, Own.nil _ _ _, by simp, rfl, fun i s hs => by simp [sealAcc] at hs, fun j hj => absurd hj (inB_none j)⟩, ?_, ?_, ?_, ?_, hf2⟩
    · rw [hw2, hB]
      have := ((Blk.new ((w.alloc (.cells #[.slice none 0 0] 38)).alloc (.cells #[.int .i64 0] 46)) 38 #[.slice none 0 0]).alloc (.map #[] 0)).alloc (.cells #[.map (some (w.heap.size + 3))] 151)
      simpa using this
    · rw [hw2, hB]
      have := MapAt.new (P := Try.prog) (k := 74) (e := 3) (kl := idLit) (f := fun i => .lit (.int .i64 (i : Int))) (((w.alloc (.cells #[.slice none 0 0] 38)).alloc (.cells #[.int .i64 0] 46)).alloc (.cells #[.slice none 0 0] 38))
      have h3 := MapAt.fr this ((Fr.refl NoB _).alloc (.cells #[.map (some (w.heap.size + 3))] 151)) id
      simp only [World.size_alloc] at h3
      exact h3
    · rw [hw2, hB]
      have := Blk.new ((((w.alloc (.cells #[.slice none 0 0] 38)).alloc (.cells #[.int .i64 0] 46)).alloc (.cells #[.slice none 0 0] 38)).alloc (.map #[] 0)) 151 #[.map (some (w.heap.size + 3))]
      simpa using this
    · rw [hw2, hB]
      exact ((((Blk.new w 38 #[.slice none 0 0]).alloc _).alloc _).alloc _).alloc _
    · rw [hw2, hB]
      have := (((Blk.new (w.alloc (.cells #[.slice none 0 0] 38)) 46 #[.int .i64 0]).alloc (.cells #[.slice none 0 0] 38)).alloc (.map #[] 0)).alloc (.cells #[.map (some (w.heap.size + 3))] 151)
      simpa using this
  have HB := Lib.hid hB
  have Hw2 := Lib.hid hw2
  clear hB hw2 hlen
  refine (callsIn_wide (n := 7)).1 ?_
  refine callsIn_of_wp_marks Try.func61 rfl trivial ?_ rfl
  simp only [Try.ntmps61, List.size_toArray, List.length_cons, List.length_nil, Nat.reduceAdd, Nat.reduceSub, Array.replicate_succ, Array.replicate_zero, List.push_toArray, List.append_toArray, List.nil_append, List.cons_append]
  gi_wp2_with (first
    | (refine wpListIn_makeMap rfl 151 rfl ?_)
    | (refine ⟨trivial, ?_⟩
       gi_at_call 63
       rw [← Hw2.out, ← HB.out]
       simp only [Nat.add_assoc, Nat.reduceAdd]
       refine (callsIn_wide.2 (Numbers_any _ _ _ _)).mono ?_
       rintro e w3 ⟨rfl, hw3⟩
       rw [hs2]
       have hf3 : Fr NoB w2 w3 := by rw [hw3]; exact (Fr.refl _ _).alloc _
       have hs3 : w3.heap.size = B + 6 := by rw [hw3, World.size_alloc, hs2]
       have hbs : Blk w3 (B + 5) 100 #[.slice A n c] := by rw [hw3, ← hs2]; exact Blk.new _ _ _
       have hI3 := hI2.fr HB.out (hf3.mono fun _ _ h => h.elim)
       have hT3 := (h.fr hf2 fun _ _ => id).fr hf3 fun _ _ => id
       clear hI2 hf3 hf2 hw3 Hw2 h hs2))
  have hFB : ∀ k, F k → k < B := by rw [HB.out]; exact hF
  refine wpIn_rangeFuncW (gf := 98) (lb := #[.pointer (some ⟨B + 5, 0, none⟩)]) rfl (enters_of Try.func98 (by kernel_rfl) rfl)
    (Numbers1_seq 6 (by omega) w3 (B + 5) F (fun k => k = B ∨ k = B + 1 ∨ k = B + 2 ∨ k = B + 3 ∨ B + 9 ≤ k) A n c ls hbs hT3 (by omega) hsm ⟨fun k hk => by have := hFB k hk; omega, by omega, by omega⟩) (fun _ => rfl)
    (fun (pre : List Tx) W => OfI w B (pre.map (·.b)) W)
    (fun c _ W => c = .ret ∧ sealsIs ls = false ∧ Blk W B 38 #[.slice none 0 0] ∧ Blk W (B + 1) 46 #[.int .i64 90] ∧ Fr NoB w W) ?hI ?hIx ⟨by omega, by omega⟩ ⟨by omega, by omega⟩ ?hGs hI3
    (fun (x : Tx) a' _ => ∃ s0 s1 s8 s9 s10 s11 s12 s13 s14 s15 s16 s17 s18 s19 s20 s21 s22 s23 s24 s25 s26 s27 s28 s29 s30 s31 s32 s33 s34 s35 s36 s37 s38 s39 s40 s41 s42 s43 s44 s45 s46 s47 s48 s49 s50 s51 s52 s53 s54 s55 s56 s57, a' = { tmps := #[s0, s1, .pointer (some ⟨B, 0, none⟩), .pointer (some ⟨B + 1, 0, none⟩), .pointer (some ⟨B + 2, 0, none⟩), .pointer (some ⟨B + 4, 0, none⟩), .int .i64 (x.num : Nat), .slice x.A x.b.length x.c, s8, s9, s10, s11, s12, s13, s14, s15, s16, s17, s18, s19, s20, s21, s22, s23, s24, s25, s26, s27, s28, s29, s30, s31, s32, s33, s34, s35, s36, s37, s38, s39, s40, s41, s42, s43, s44, s45, s46, s47, s48, s49, s50, s51, s52, s53, s54, s55, s56, s57], defers := [] }) (fun _ _ _ _ h _ => h) ?assign ?body ?done ?stop (fun _ _ _ h _ => h) (fun _ _ _ h _ => h)
  case hI =>
    intro pre P Q hP hf
    exact hP.fr HB.out (hf.mono fun j _ h => by omega)
  case hIx =>
    rintro c pre P Q ⟨q0, q1, q2, q3, q4⟩ hf
    exact ⟨q0, q1, q2.fr hf (by omega), q3.fr hf (by omega), q4.new hf fun j hj => .inr (by have := HB.out; omega)⟩
  case hGs =>
    rintro pre x P Q ⟨g1, g2, g3, g4, g5, g6⟩ hf
    exact ⟨g1, g2, g3, g4, g5.fr hf (fun j hj h => by omega), Nat.le_trans g6 hf.size⟩
  case assign =>
    intro lp x W K hsz hK
    unfold Tx.enc
    simp only [params_two]
    gi_wp2
    exact hK _ _ (Fr.refl NoB W) ⟨_, _, _, _, _, _, _, _, _, _, _, _, _, _, _, _, _, _, _, _, _, _, _, _, _, _, _, _, _, _, _, _, _, _, _, _, _, _, _, _, _, _, _, _, _, _, _, _, _, _, _, _, rfl⟩
  case body =>
    rintro pre ⟨num, XA, xc, xb⟩ W a' ⟨i1, ⟨oA, on, oc, yss, o1, o2, o3, o4, o5, o6⟩, i3, i4, i5, i6, i7⟩ ⟨⟨kx, gp, gx, gd⟩, g2, g3, g4, g5, g6⟩ ⟨s0, s1, s8, s9, s10, s11, s12, s13, s14, s15, s16, s17, s18, s19, s20, s21, s22, s23, s24, s25, s26, s27, s28, s29, s30, s31, s32, s33, s34, s35, s36, s37, s38, s39, s40, s41, s42, s43, s44, s45, s46, s47, s48, s49, s50, s51, s52, s53, s54, s55, s56, s57, rfl⟩ hsz
    dsimp only at gp gx gd g2 g3 g4 g5
    rw [hs3] at g6
    have hxb := hsm xb (List.mem_of_getElem? gx)
    have henv := EnvOf_any W _ XA xb.length xc xb g5 (by omega)
    obtain ⟨P1, hP1⟩ : ∃ P1, P1 = pre.map (·.b) := ⟨_, rfl⟩
    rw [← hP1] at i1 o4 o5 i3 gp
    have HP1 := Lib.hid hP1
    clear hP1
    cases hb : envIs xb with
    | false =>
      have hbad : envBad xb = 90 := by unfold envBad; rw [hb]; rfl
      rw [hbad] at henv
      have Henv := Lib.hid henv
      have hno := Lib.hid (dist_all gx hb)
      clear henv hbad hb gp gx gd o1 o2 o3 o4 o5 o6 i3
      have c2 := i5.cell_0
      gi_wp2_with (first
        | (refine ⟨trivial, ?_⟩
           gi_at_call 95
           refine (callsIn_wide.2 Henv.out).mono ?_
           rintro e1 w4 ⟨y1, rfl, hf4, hQ4⟩
           obtain ⟨t1, t2, t3⟩ := hQ4.cells
           have T2 := Lib.hid t2
           have T3 := Lib.hid t3
           have i5 := i5.fr hf4 id
           have i6 := i6.fr hf4 id
           have i7 := i7.trans hf4 fun _ _ => id
           have s4 := hf4.size
           clear t1 t2 t3 c2)
        | (refine wpListIn_alloc_any rfl 153 rfl 5 env_zero ?_; intro z hz; have Hz := Lib.hid hz; clear hz)
        | (refine wpListIn_store_newN rfl 153 (.tmp 8) (.tmp 21) rfl 5 env_size _ z Hz.out y1.toArray rfl rfl T2.out T3.out ?_
           clear Hz
           obtain ⟨w5, hw5⟩ : ∃ w5, w5 = w4.alloc (.cells y1.toArray 153) := ⟨_, rfl⟩
           rw [← hw5]
           have hf5 : Fr NoB w4 w5 := by rw [hw5]; exact (Fr.refl _ _).alloc _
           have i5 := i5.fr hf5 id
           have i6 := i6.fr hf5 id
           have i7 := i7.trans hf5 fun _ _ => id
           have c2 := i5.cell_0
           have c3 := i6.cell_0
           have z2 := i5.frozen 0
           have z3 := i6.frozen 0
           have hfW := hf4.trans hf5 fun _ _ => id
           clear hw5))
      have k1 : Fr (fun k => k = B ∨ k = B + 1) w5 ((w5.setCell ⟨B, 0, none⟩ (.slice none 0 0)).setCell ⟨B + 1, 0, none⟩ (.int .i64 90)) := (((Fr.refl _ w5).set_ (.inl (.inl rfl)) _ _).set_ (.inl (.inr rfl)) _ _)
      refine ⟨(hfW.mono fun _ _ h => h.elim).trans k1 fun j _ hj => by rcases hj with hj | hj <;> omega, rfl, hno.out, ?_, ?_, i7.new k1 fun j hj => .inr (by have := HB.out; omega)⟩
      · have q := (i5.set_ 0 (.slice none 0 0)).fr ((Fr.refl (· = B + 1) _).at_ 0 (.int .i64 90)) (by omega)
        simpa using q
      · have q := (i6.fr ((Fr.refl (· = B) w5).at_ 0 (.slice none 0 0)) (by omega)).set_ 0 (.int .i64 90)
        simpa using q
    | true =>
      have hbad : envBad xb = 0 := by unfold envBad; rw [hb]; rfl
      rw [hbad] at henv
      have hlk := envOf_links xb
      have hsnoc := Lib.hid (sealAcc_snoc P1 xb)
      obtain ⟨e0, he0⟩ : ∃ e0, e0 = envOf xb := ⟨_, rfl⟩
      have hP1l : P1.length = pre.length := by rw [HP1.out]; simp
      have hP20 : P1.length ≤ 20 := by
        rw [gp]
        have := dist_len ls kx
        have := (List.getElem?_eq_some_iff.1 gx).1
        have := Hlen.out
        omega
      obtain ⟨q1, q2⟩ := sealAcc_len P1 P1.length (Nat.le_refl _)
      rw [List.take_length] at q1 q2
      have hall1 : (P1 ++ [xb]).all envIs = true := by rw [List.all_append, i1]; simp [hb]
      obtain ⟨p0, hp0⟩ : ∃ p0, p0 = sealAcc P1 := ⟨_, rfl⟩
      rw [← hp0] at o4 o5 i3 q1 q2
      have hon : num = on := by omega
      have hmid : p0.2.length ≤ 20000 := by omega
      subst hon
      have hnum20 : num ≤ 20 := by omega
      obtain ⟨N, hN⟩ : ∃ N, N = W.heap.size := ⟨_, rfl⟩
      have hKp : Kp w B N oA num oc yss p0.1 W := ⟨o1, o2, fun i s hs => by
        obtain ⟨y, hy, hr⟩ := o5 i s hs
        exact ⟨y, hy, hr.more fun j hj h => ⟨h, by omega⟩⟩, fun j hj => ⟨o6 j hj, by rw [hN]; exact o2.lt hj⟩, i4, i5, i6, i7⟩
      rw [← he0] at henv hlk
      have He0 := Lib.hid he0
      have Hp0 := Lib.hid hp0
      have Henv := Lib.hid henv
      have Ho := Lib.hid (show (∀ y ∈ yss, y.length = 6) ∧ num = p0.1.length from ⟨o3, o4⟩)
      have Hall1 := Lib.hid hall1
      have hN9 : B + 9 ≤ N := by omega
      have hFW : Fr (fun j => j = B + 3) W W := Fr.refl _ _
      have HN := Lib.hid hN
      clear henv hbad hb gp gx gd o1 o2 o3 o4 o5 o6 i1 i4 i5 i6 i7 he0 hp0 hall1 g2 g3 g4 g5 g6 hP1l hP20 q1 q2 hN hsz
      gi_wp2_with (first
        | (refine ⟨trivial, ?_⟩
           gi_at_call 95
           refine (callsIn_wide.2 Henv.out).mono ?_
           rintro e1 w4 ⟨y1, rfl, hf4, hQ4⟩
           obtain ⟨t1, t2, t3⟩ := hQ4.cells
           have T2 := Lib.hid t2
           have T3 := Lib.hid t3
           obtain ⟨LA, ln, lc, BA, bm, bd, hy1, hli, _, _, hbo⟩ := hQ4
           have Hy1 := Lib.hid hy1
           clear hy1
           have hln := hli.len
           have hbm := hbo.len
           rw [← HN.out] at hli
           have hK4 := hKp.fr hf4 (fun j h => h.elim) hN9 HB.out
           have hM4 := i3.fr hf4 id
           have hT4 := hFW.trans hf4 fun _ _ h => h.elim
           have s4 := hf4.size
           rw [← HN.out] at s4
           clear t1 t2 t3 hf4 hbo)
        | (refine wpListIn_alloc_any rfl 153 rfl 5 env_zero ?_; intro z hz; have Hz := Lib.hid hz; clear hz)
        | (refine wpListIn_store_newN rfl 153 (.tmp 8) (.tmp 21) rfl 5 env_size _ z Hz.out y1.toArray rfl rfl T2.out T3.out ?_
           clear Hz
           obtain ⟨g8, hg8⟩ : ∃ g8, g8 = w4.heap.size := ⟨_, rfl⟩
           obtain ⟨w5, hw5⟩ : ∃ w5, w5 = w4.alloc (.cells y1.toArray 153) := ⟨_, rfl⟩
           rw [← hw5]
           rw [← hg8]
           have hf5 : Fr NoB w4 w5 := by rw [hw5]; exact (Fr.refl _ _).alloc _
           have hE5 : EnvBlk w5 g8 e0 LA ln lc BA bm bd := by rw [hw5, hg8, Hy1.out]; exact ⟨Blk.new _ _ _⟩
           have hK5 := hK4.fr hf5 (fun j h => h.elim) hN9 HB.out
           have hM5 := hM4.fr hf5 id
           have hT5 := hT4.trans hf5 fun _ _ h => h.elim
           have hL5 : ArrOf IdR w5 (fun j => N ≤ j ∧ j < w5.heap.size) 32 LA ln e0.links := ArrOf.more (hli.fr hf5 (fun _ _ => id) fun _ _ _ h => h) (by omega) (fun j h1 h2 => ⟨h2, h1⟩) fun _ _ _ h => h
           have s5 := hf5.size
           have e0c := hE5.c0
           have e1c := hE5.c1
           have e2c := hE5.c2
           have e3c := hE5.c3
           have e4c := hE5.c4
           have hg8N : N ≤ g8 := by omega
           clear hw5 hf5 hK4 hM4 hT4 hli hg8 Hy1 T2 T3
           obtain ⟨sc, hsc⟩ : ∃ sc, sc = sealCells (num : Nat) e0.kind (e0.realm : Nat) (e0.epoch : Nat) (bm : Nat) none 0 0 := ⟨_, rfl⟩
           have Hsb : Hid (Try.prog.built 41 [(0, .int .i64 (num : Nat)), (1, .int .i64 e0.kind), (2, .int .u32 (e0.realm : Nat)), (3, .int .u32 (e0.epoch : Nat)), (4, .int .i64 (bm : Nat))] = some sc.toArray) := by show _ = _; rw [hsc]; exact seal_built _ _ _ _ _
           have Hs6 : Hid (sc.toArray.size = 6) := by show _ = _; rw [hsc]; rfl
           have Hs1 : Hid (sc.toArray.all (·.oneCell') = true) := by show _ = _; rw [hsc]; exact sealCells_ones _ _ _ _ _ _ _ _
           have Hsc := Lib.hid hsc
           clear hsc)
        | (refine wpListIn_buildY rfl 41 #[(0, .tmp 26), (1, .tmp 28), (2, .tmp 30), (3, .tmp 32), (4, .tmp 35)] rfl [(0, .int .i64 (num : Nat)), (1, .int .i64 e0.kind), (2, .int .u32 (e0.realm : Nat)), (3, .int .u32 (e0.epoch : Nat)), (4, .int .i64 (bm : Nat))] rfl sc.toArray Hsb.out ?_)
        | (refine wpListIn_alloc_any rfl 41 rfl 6 seal_zero ?_; intro z hz; have Hz := Lib.hid hz; clear hz)
        | (refine wpListIn_store_newN rfl 41 (.tmp 10) (.tmp 36) rfl 6 seal_size _ z Hz.out sc.toArray rfl rfl Hs6.out Hs1.out ?_
           clear Hz
           obtain ⟨g10, hg10⟩ : ∃ g10, g10 = w5.heap.size := ⟨_, rfl⟩
           obtain ⟨w6, hw6⟩ : ∃ w6, w6 = w5.alloc (.cells sc.toArray 41) := ⟨_, rfl⟩
           rw [← hw6]
           rw [← hg10]
           have hf6 : Fr NoB w5 w6 := by rw [hw6]; exact (Fr.refl _ _).alloc _
           have hS6 : SealBlk w6 g10 num e0.kind e0.realm e0.epoch bm none 0 0 := by rw [hw6, hg10, Hsc.out]; exact ⟨Blk.new _ _ _⟩
           have hK6 := hK5.fr hf6 (fun j h => h.elim) hN9 HB.out
           have hM6 := hM5.fr hf6 id
           have hT6 := hT5.trans hf6 fun _ _ h => h.elim
           have hL6 := hL5.fr hf6 (fun _ _ => id) fun _ _ _ h => h
           have hE6 := hE5.fr hf6 id
           have c3 := hE6.c3
           have hN10 : N ≤ g10 := by omega
           have hg10b : w5.heap.size ≤ g10 := by omega
           have hs6 : g10 + 1 ≤ w6.heap.size := by rw [hw6, hg10]; simp
           clear hw6 hf6 hK5 hM5 hT5 hL5 hE5 e0c e1c e2c e3c e4c hg10 Hsb Hsc Hs6 Hs1))
      obtain ⟨N6, hN6⟩ : ∃ N6, N6 = w6.heap.size := ⟨_, rfl⟩
      have hN6a : g10 < N6 := by omega
      have hN6b : N6 ≤ w6.heap.size := by omega
      obtain ⟨N5, hN5⟩ : ∃ N5, N5 = w5.heap.size := ⟨_, rfl⟩
      rw [← hN5] at hL6 hg10b
      clear hN5 hN6 i3 hKp hFW c3 hE6
      gi_loopw [40] (fun v wr => ∃ (k : Nat) (A5 : Option Addr) (c5 : Nat), k ≤ ln ∧ v = .int .i64 k ∧ Kp w B N oA num oc yss p0.1 wr ∧ MetIds wr (B + 3) (linkAcc p0.2 (e0.links.take k)).2 ∧ SealBlk wr g10 num e0.kind e0.realm e0.epoch bm A5 k c5 ∧
        Own wr 3 1 A5 k c5 ((linkAcc p0.2 (e0.links.take k)).1.map (Value.int .i64)) ∧ (∀ j, inB A5 j → N6 ≤ j) ∧ ArrOf IdR wr (fun j => N ≤ j ∧ j < N5) 32 LA ln e0.links ∧ Fr (fun j => j = B + 3) W wr ∧ N6 ≤ wr.heap.size) (fun v _ => ln - (intOf v).toNat)
      case atStart => exact ⟨0, none, 0, by omega, rfl, hK6, hM6, hS6, Own.nil _ _ _, fun j hj => absurd hj (inB_none j), hL6, hT6, hN6b⟩
      case round =>
        clear hK6 hM6 hS6 hL6 hT6 hs6 hN6b
        obtain ⟨k, A5, c5, hk, rfl, hK, hM, hS, hO, hA5, hL, hT, hNw⟩ := hrel
        obtain ⟨w7, rfl⟩ : ∃ w7 : World, w7 = wr := ⟨_, rfl⟩
        by_cases hkl : k < ln
        · obtain ⟨b1, q1, x, y1, hLA, hb1, gx, ly1, hr1, hc1⟩ := hL.at_ hkl
          have hr1 : y1 = idCells x := hr1
          subst hr1 hLA
          obtain ⟨hq1, hq2⟩ := linkAcc_len p0.2 e0.links k (by omega)
          have hstep := linkAcc_step (m := p0.2) gx
          obtain ⟨p1, hp1⟩ : ∃ p1, p1 = linkAcc p0.2 (e0.links.take k) := ⟨_, rfl⟩
          rw [← hp1] at hM hO hq1 hq2 hstep
          have Hstep := Lib.hid hstep
          have hnum := fun W7 (h : MetIds W7 (B + 3) p1.2) => number_any W7 (B + 3) p1.2 x h (by omega)
          have Hnum := Lib.hid hnum
          obtain ⟨ix, hix⟩ : ∃ ix, ix = p1.2.idxOf x := ⟨_, rfl⟩
          rw [← hix] at hnum
          have Hnum := Lib.hid hnum
          have Hix := Lib.hid hix
          have Hx : Hid ((idCells x).length = 32) := idCells_len x
          have Hxa : Hid ((idCells x).toArray.size = 32) := by show _ = _; simp [idCells_len]
          have Hx1 : Hid ((idCells x).toArray.all (·.oneCell') = true) := by
            show _ = _
            rw [Array.all_eq_true_iff_forall_mem]
            intro u hu
            exact bv_one x.1 u (by simpa [idCells] using hu)
          clear hp1 hstep hnum hix gx ly1 hq1 hq2
          generalize idCells x = xi at *
          gi_wp2_with (first
            | (refine wpListIn_load_agg rfl 74 (.tmp 42) rfl b1 (q1 + k * 32) rfl xi _ hc1 Try.underlying74 rfl (by rw [Hx.out]; exact id_size) ?_)
            | (refine wpListIn_alloc_any rfl 74 rfl 32 id_zero ?_; intro z hz; have Hz := Lib.hid hz; clear hz)
            | (refine wpListIn_store_newN rfl 74 (.tmp 12) (.tmp 43) rfl 32 id_size _ z Hz.out xi.toArray rfl rfl Hxa.out Hx1.out ?_
               clear Hz
               obtain ⟨g12, hg12⟩ : ∃ g12, g12 = w7.heap.size := ⟨_, rfl⟩
               obtain ⟨w8, hw8⟩ : ∃ w8, w8 = w7.alloc (.cells xi.toArray 74) := ⟨_, rfl⟩
               rw [← hw8]
               rw [← hg12]
               have hf8 : Fr NoB w7 w8 := by rw [hw8]; exact (Fr.refl _ _).alloc _
               have hI8 : Blk w8 g12 74 xi.toArray := by rw [hw8, hg12]; exact Blk.new _ _ _
               have hs8 : g12 + 1 ≤ w8.heap.size := by rw [hw8, hg12]; simp
               have hg12a : N6 ≤ g12 := by omega
               clear hw8 Hxa Hx1 hc1 hg12))
          refine wpIn_region_any rfl ?_
          have hfd : Fr NoB w7 w8.drew := hf8.trans (Fr.drew (Fr.refl NoB w8)) fun _ _ => id
          have hKd := hK.fr hfd (fun j h => h.elim) hN9 HB.out
          have hMd := hM.fr hfd id
          have hSd := hS.fr hfd id
          have hOd := hO.fr hfd fun _ _ => id
          have hId := hI8.fr (Fr.drew (Fr.refl NoB w8)) id
          have hall12 : ∀ j u, xi[j]? = some u → w8.drew.cell? ⟨g12, 0 + j, none⟩ = some u := fun j u hu => by rw [Nat.zero_add, hId.cell]; simpa using hu
          have hcall := Hnum.out w8.drew hMd
          have hdd : w8.drew.heap.size = w8.heap.size := rfl
          clear hI8
          refine wpAnyIn_all (rs := [0, 2, 3]) (by decide +kernel) (by simp) ?_
          intro i hi
          simp only [List.mem_cons, List.not_mem_nil, or_false] at hi
          rcases hi with rfl | rfl | rfl
          · refine wpOpIn_run (v := .pointer (some ⟨g10, 5, none⟩)) (w' := w8.drew) rfl (by kernel_rfl) (fun f hf => by simp [Oper.about] at hf) (fun c hc => by cases hc) (by go_simp) ?_
            go_simp
            refine wpAnyIn_all (rs := [1, 2, 3]) (by decide +kernel) (by simp) ?_
            intro i hi
            simp only [List.mem_cons, List.not_mem_nil, or_false] at hi
            rcases hi with rfl | rfl | rfl
            · have qx := hSd.c5
              refine wpOpIn_run (v := .slice A5 k c5) (w' := w8.drew) rfl (by kernel_rfl) (fun f hf => by simp [Oper.about] at hf) (fun c hc => by cases hc) (by go_simp) ?_
              clear qx
              go_simp
              refine wpAnyIn_all (rs := [2, 3]) (by decide +kernel) (by simp) ?_
              intro i hi
              simp only [List.mem_cons, List.not_mem_nil, or_false] at hi
              rcases hi with rfl | rfl
              · have qx := hKd.i4.cell_0
                refine wpOpIn_run (v := .map (some (B + 3))) (w' := w8.drew) rfl (by kernel_rfl) (fun f hf => by simp [Oper.about] at hf) (fun c hc => by cases hc) (by go_simp) ?_
                clear qx
                go_simp
                refine wpAnyIn_all (rs := [3]) (by decide +kernel) (by simp) ?_
                intro i hi
                simp only [List.mem_cons, List.not_mem_nil, or_false] at hi
                subst hi
                refine wpOpIn_run (v := .agg xi.toArray) (w' := w8.drew) rfl (by kernel_rfl) (fun f hf => by simp [Oper.about] at hf) (fun c hc => by cases hc) (exec_load_agg 74 (.tmp 12) rfl g12 0 rfl xi _ hall12 Try.underlying74 rfl (by rw [Hx.out]; exact id_size)) ?_
                go_simp
                refine wpAnyIn_all (rs := [4]) (by decide +kernel) (by simp) ?_
                intro i hi
                simp only [List.mem_cons, List.not_mem_nil, or_false] at hi
                subst hi
                refine wpOpIn_step rfl ?_
                intro K' hK'
                gi_wp2_with fail
                refine ⟨trivial, ?_⟩
                refine (callsIn_wide.2 hcall).mono ?_
                rintro e2 wt ⟨rfl, hMt, hft⟩
                refine hK' _ _ ?_
                clear hK'
                replace hKd := hKd.fr hft (fun j h => .inl h) hN9 HB.out
                replace hSd := hSd.fr hft (by omega)
                replace hOd := hOd.fr hft (fun j hj h => by have := hA5 j hj; omega)
                go_simp
                refine wpAnyIn_all (rs := [5]) (by decide +kernel) (by simp) ?_
                intro i hi
                simp only [List.mem_cons, List.not_mem_nil, or_false] at hi
                subst hi
                refine wpOpIn_run (v := .slice (some ⟨wt.heap.size, 0, none⟩) 1 1) (w' := wt.alloc (.cells #[.int .i64 (ix : Nat)] 3)) rfl (by kernel_rfl) (fun f hf => by simp [Oper.about] at hf) (fun c hc => by cases hc) (by go_simp) ?_
                replace hKd := hKd.fr ((Fr.refl NoB wt).alloc (.cells #[.int .i64 (ix : Nat)] 3)) (fun j h => h.elim) hN9 HB.out
                replace hSd := hSd.fr ((Fr.refl NoB wt).alloc (.cells #[.int .i64 (ix : Nat)] 3)) id
                replace hOd := hOd.alloc (.cells #[.int .i64 (ix : Nat)] 3)
                go_simp
                refine wpAnyIn_all (rs := [6]) (by decide +kernel) (by simp) ?_
                intro i hi
                simp only [List.mem_cons, List.not_mem_nil, or_false] at hi
                subst hi
                refine wpOpIn_app el_int rfl (by kernel_rfl) (.tmp 45) (.tmp 49) rfl A5 k c5 _ rfl hOd _ _ 1 1 _ rfl (Arr.one _ _ _) (by simp [Value.oneCell']) (by omega) ?_
                intro A6 c6 wa hOa hfa hina
                have hga : ¬ inB A5 g10 := fun h => by have := hA5 g10 h; omega
                replace hSd := hSd.fr hfa hga
                replace hKd := hKd.fr hfa (fun j h => .inr (by have := hA5 j h; omega)) hN9 HB.out
                go_simp
                refine wpAnyIn_all (rs := [7]) (by decide +kernel) (by simp) ?_
                intro i hi
                simp only [List.mem_cons, List.not_mem_nil, or_false] at hi
                subst hi
                refine wpOpIn_run (v := .pointer (some ⟨g10, 5, none⟩)) (w' := wa) rfl (by kernel_rfl) (fun f hf => by simp [Oper.about] at hf) (fun c hc => by cases hc) (by go_simp) ?_
                go_simp
                refine wpAnyIn_all (rs := [8]) (by decide +kernel) (by simp) ?_
                intro i hi
                simp only [List.mem_cons, List.not_mem_nil, or_false] at hi
                subst hi
                have qx := hSd.c5
                have qy := hSd.blk.frozen 5
                refine wpOpIn_skip (w' := wa.setCell ⟨g10, 5, none⟩ (.slice A6 (k + 1) c6)) rfl (by kernel_rfl) (fun f hf => by simp [Oper.about] at hf) (fun c hc => by cases hc) (by go_simp) ?_
                clear qx qy
                go_simp
                refine wpAnyIn_done (by decide +kernel) ?_ _
                have sz1 := hft.size
                have sz2 := hfa.size
                simp only [World.size_alloc] at sz2 hina
                have hfg : Fr (· = g10) wa (wa.setCell ⟨g10, 5, none⟩ (.slice A6 (k + 1) c6)) := (Fr.refl _ _).at_ _ _
                have hfT : Fr (fun j => j = B + 3 ∨ j = g10 ∨ inB A5 j) w7 (wa.setCell ⟨g10, 5, none⟩ (.slice A6 (k + 1) c6)) := ((((hfd.mono (S' := fun j => j = B + 3 ∨ j = g10 ∨ inB A5 j) fun _ _ h => h.elim).trans hft fun _ _ h => .inl h).alloc (.cells #[.int .i64 (ix : Nat)] 3)).trans hfa fun _ _ h => .inr (.inr h)).trans hfg fun _ _ h => .inr (.inl h)
                have hina2 : ∀ j, inB A6 j → N6 ≤ j := fun j hj => (hina j hj).elim (hA5 j) fun h => by omega
                have hM2 := ((hMt.fr ((Fr.refl NoB wt).alloc (.cells #[.int .i64 (ix : Nat)] 3)) id).fr hfa (fun h => by have := hA5 _ h; omega)).fr hfg (by omega)
                have hO2 : Own (wa.setCell ⟨g10, 5, none⟩ (.slice A6 (k + 1) c6)) 3 1 A6 (k + 1) c6 ((linkAcc p0.2 (e0.links.take (k + 1))).1.map (Value.int .i64)) := by
                  rw [Hstep.out]
                  show Own _ _ _ _ _ _ ((p1.1 ++ [((p1.2.idxOf x : Nat) : Int)]).map (Value.int .i64))
                  rw [← Hix.out, List.map_append]
                  exact hOa.fr hfg fun j hj h => by have := hina2 j hj; omega
                gi_wp2
                go_roundw
                case rel => exact ⟨k + 1, A6, c6, by omega, by go_num, hKd.fr hfg (fun j h => .inr (by omega)) hN9 HB.out, by rw [Hstep.out]; exact hM2, hSd.s5 A6 (k + 1) c6, hO2, hina2, hL.fr hfT (fun j hj h => by rcases h with h | h | h; omega; omega; (have := hA5 j h; omega)) (fun _ _ _ h => h), hT.new hfT (fun j hj => by rcases hj with h | h | h; exact .inl h; exact .inr (by have := HN.out; omega); exact .inr (by have := HN.out; have := hA5 j h; omega)), by have := hfT.size; omega⟩
                case measure => (simp [intOf] <;> omega)
              · refine wpOpIn_run (v := .agg xi.toArray) (w' := w8.drew) rfl (by kernel_rfl) (fun f hf => by simp [Oper.about] at hf) (fun c hc => by cases hc) (exec_load_agg 74 (.tmp 12) rfl g12 0 rfl xi _ hall12 Try.underlying74 rfl (by rw [Hx.out]; exact id_size)) ?_
                go_simp
                refine wpAnyIn_all (rs := [2]) (by decide +kernel) (by simp) ?_
                intro i hi
                simp only [List.mem_cons, List.not_mem_nil, or_false] at hi
                subst hi
                have qx := hKd.i4.cell_0
                refine wpOpIn_run (v := .map (some (B + 3))) (w' := w8.drew) rfl (by kernel_rfl) (fun f hf => by simp [Oper.about] at hf) (fun c hc => by cases hc) (by go_simp) ?_
                clear qx
                go_simp
                refine wpAnyIn_all (rs := [4]) (by decide +kernel) (by simp) ?_
                intro i hi
                simp only [List.mem_cons, List.not_mem_nil, or_false] at hi
                subst hi
                refine wpOpIn_step rfl ?_
                intro K' hK'
                gi_wp2_with fail
                refine ⟨trivial, ?_⟩
                refine (callsIn_wide.2 hcall).mono ?_
                rintro e2 wt ⟨rfl, hMt, hft⟩
                refine hK' _ _ ?_
                clear hK'
                replace hKd := hKd.fr hft (fun j h => .inl h) hN9 HB.out
                replace hSd := hSd.fr hft (by omega)
                replace hOd := hOd.fr hft (fun j hj h => by have := hA5 j hj; omega)
                go_simp
                refine wpAnyIn_all (rs := [5]) (by decide +kernel) (by simp) ?_
                intro i hi
                simp only [List.mem_cons, List.not_mem_nil, or_false] at hi
                subst hi
                refine wpOpIn_run (v := .slice (some ⟨wt.heap.size, 0, none⟩) 1 1) (w' := wt.alloc (.cells #[.int .i64 (ix : Nat)] 3)) rfl (by kernel_rfl) (fun f hf => by simp [Oper.about] at hf) (fun c hc => by cases hc) (by go_simp) ?_
                replace hKd := hKd.fr ((Fr.refl NoB wt).alloc (.cells #[.int .i64 (ix : Nat)] 3)) (fun j h => h.elim) hN9 HB.out
                replace hSd := hSd.fr ((Fr.refl NoB wt).alloc (.cells #[.int .i64 (ix : Nat)] 3)) id
                replace hOd := hOd.alloc (.cells #[.int .i64 (ix : Nat)] 3)
                go_simp
                refine wpAnyIn_all (rs := [6]) (by decide +kernel) (by simp) ?_
                intro i hi
                simp only [List.mem_cons, List.not_mem_nil, or_false] at hi
                subst hi
                refine wpOpIn_app el_int rfl (by kernel_rfl) (.tmp 45) (.tmp 49) rfl A5 k c5 _ rfl hOd _ _ 1 1 _ rfl (Arr.one _ _ _) (by simp [Value.oneCell']) (by omega) ?_
                intro A6 c6 wa hOa hfa hina
                have hga : ¬ inB A5 g10 := fun h => by have := hA5 g10 h; omega
                replace hSd := hSd.fr hfa hga
                replace hKd := hKd.fr hfa (fun j h => .inr (by have := hA5 j h; omega)) hN9 HB.out
                go_simp
                refine wpAnyIn_all (rs := [7]) (by decide +kernel) (by simp) ?_
                intro i hi
                simp only [List.mem_cons, List.not_mem_nil, or_false] at hi
                subst hi
                refine wpOpIn_run (v := .pointer (some ⟨g10, 5, none⟩)) (w' := wa) rfl (by kernel_rfl) (fun f hf => by simp [Oper.about] at hf) (fun c hc => by cases hc) (by go_simp) ?_
                go_simp
                refine wpAnyIn_all (rs := [8]) (by decide +kernel) (by simp) ?_
                intro i hi
                simp only [List.mem_cons, List.not_mem_nil, or_false] at hi
                subst hi
                have qx := hSd.c5
                have qy := hSd.blk.frozen 5
                refine wpOpIn_skip (w' := wa.setCell ⟨g10, 5, none⟩ (.slice A6 (k + 1) c6)) rfl (by kernel_rfl) (fun f hf => by simp [Oper.about] at hf) (fun c hc => by cases hc) (by go_simp) ?_
                clear qx qy
                go_simp
                refine wpAnyIn_done (by decide +kernel) ?_ _
                have sz1 := hft.size
                have sz2 := hfa.size
                simp only [World.size_alloc] at sz2 hina
                have hfg : Fr (· = g10) wa (wa.setCell ⟨g10, 5, none⟩ (.slice A6 (k + 1) c6)) := (Fr.refl _ _).at_ _ _
                have hfT : Fr (fun j => j = B + 3 ∨ j = g10 ∨ inB A5 j) w7 (wa.setCell ⟨g10, 5, none⟩ (.slice A6 (k + 1) c6)) := ((((hfd.mono (S' := fun j => j = B + 3 ∨ j = g10 ∨ inB A5 j) fun _ _ h => h.elim).trans hft fun _ _ h => .inl h).alloc (.cells #[.int .i64 (ix : Nat)] 3)).trans hfa fun _ _ h => .inr (.inr h)).trans hfg fun _ _ h => .inr (.inl h)
                have hina2 : ∀ j, inB A6 j → N6 ≤ j := fun j hj => (hina j hj).elim (hA5 j) fun h => by omega
                have hM2 := ((hMt.fr ((Fr.refl NoB wt).alloc (.cells #[.int .i64 (ix : Nat)] 3)) id).fr hfa (fun h => by have := hA5 _ h; omega)).fr hfg (by omega)
                have hO2 : Own (wa.setCell ⟨g10, 5, none⟩ (.slice A6 (k + 1) c6)) 3 1 A6 (k + 1) c6 ((linkAcc p0.2 (e0.links.take (k + 1))).1.map (Value.int .i64)) := by
                  rw [Hstep.out]
                  show Own _ _ _ _ _ _ ((p1.1 ++ [((p1.2.idxOf x : Nat) : Int)]).map (Value.int .i64))
                  rw [← Hix.out, List.map_append]
                  exact hOa.fr hfg fun j hj h => by have := hina2 j hj; omega
                gi_wp2
                go_roundw
                case rel => exact ⟨k + 1, A6, c6, by omega, by go_num, hKd.fr hfg (fun j h => .inr (by omega)) hN9 HB.out, by rw [Hstep.out]; exact hM2, hSd.s5 A6 (k + 1) c6, hO2, hina2, hL.fr hfT (fun j hj h => by rcases h with h | h | h; omega; omega; (have := hA5 j h; omega)) (fun _ _ _ h => h), hT.new hfT (fun j hj => by rcases hj with h | h | h; exact .inl h; exact .inr (by have := HN.out; omega); exact .inr (by have := HN.out; have := hA5 j h; omega)), by have := hfT.size; omega⟩
                case measure => (simp [intOf] <;> omega)
            · have qx := hKd.i4.cell_0
              refine wpOpIn_run (v := .map (some (B + 3))) (w' := w8.drew) rfl (by kernel_rfl) (fun f hf => by simp [Oper.about] at hf) (fun c hc => by cases hc) (by go_simp) ?_
              clear qx
              go_simp
              refine wpAnyIn_all (rs := [1, 3]) (by decide +kernel) (by simp) ?_
              intro i hi
              simp only [List.mem_cons, List.not_mem_nil, or_false] at hi
              rcases hi with rfl | rfl
              · have qx := hSd.c5
                refine wpOpIn_run (v := .slice A5 k c5) (w' := w8.drew) rfl (by kernel_rfl) (fun f hf => by simp [Oper.about] at hf) (fun c hc => by cases hc) (by go_simp) ?_
                clear qx
                go_simp
                refine wpAnyIn_all (rs := [3]) (by decide +kernel) (by simp) ?_
                intro i hi
                simp only [List.mem_cons, List.not_mem_nil, or_false] at hi
                subst hi
                refine wpOpIn_run (v := .agg xi.toArray) (w' := w8.drew) rfl (by kernel_rfl) (fun f hf => by simp [Oper.about] at hf) (fun c hc => by cases hc) (exec_load_agg 74 (.tmp 12) rfl g12 0 rfl xi _ hall12 Try.underlying74 rfl (by rw [Hx.out]; exact id_size)) ?_
                go_simp
                refine wpAnyIn_all (rs := [4]) (by decide +kernel) (by simp) ?_
                intro i hi
                simp only [List.mem_cons, List.not_mem_nil, or_false] at hi
                subst hi
                refine wpOpIn_step rfl ?_
                intro K' hK'
                gi_wp2_with fail
                refine ⟨trivial, ?_⟩
                refine (callsIn_wide.2 hcall).mono ?_
                rintro e2 wt ⟨rfl, hMt, hft⟩
                refine hK' _ _ ?_
                clear hK'
                replace hKd := hKd.fr hft (fun j h => .inl h) hN9 HB.out
                replace hSd := hSd.fr hft (by omega)
                replace hOd := hOd.fr hft (fun j hj h => by have := hA5 j hj; omega)
                go_simp
                refine wpAnyIn_all (rs := [5]) (by decide +kernel) (by simp) ?_
                intro i hi
                simp only [List.mem_cons, List.not_mem_nil, or_false] at hi
                subst hi
                refine wpOpIn_run (v := .slice (some ⟨wt.heap.size, 0, none⟩) 1 1) (w' := wt.alloc (.cells #[.int .i64 (ix : Nat)] 3)) rfl (by kernel_rfl) (fun f hf => by simp [Oper.about] at hf) (fun c hc => by cases hc) (by go_simp) ?_
                replace hKd := hKd.fr ((Fr.refl NoB wt).alloc (.cells #[.int .i64 (ix : Nat)] 3)) (fun j h => h.elim) hN9 HB.out
                replace hSd := hSd.fr ((Fr.refl NoB wt).alloc (.cells #[.int .i64 (ix : Nat)] 3)) id
                replace hOd := hOd.alloc (.cells #[.int .i64 (ix : Nat)] 3)
                go_simp
                refine wpAnyIn_all (rs := [6]) (by decide +kernel) (by simp) ?_
                intro i hi
                simp only [List.mem_cons, List.not_mem_nil, or_false] at hi
                subst hi
                refine wpOpIn_app el_int rfl (by kernel_rfl) (.tmp 45) (.tmp 49) rfl A5 k c5 _ rfl hOd _ _ 1 1 _ rfl (Arr.one _ _ _) (by simp [Value.oneCell']) (by omega) ?_
                intro A6 c6 wa hOa hfa hina
                have hga : ¬ inB A5 g10 := fun h => by have := hA5 g10 h; omega
                replace hSd := hSd.fr hfa hga
                replace hKd := hKd.fr hfa (fun j h => .inr (by have := hA5 j h; omega)) hN9 HB.out
                go_simp
                refine wpAnyIn_all (rs := [7]) (by decide +kernel) (by simp) ?_
                intro i hi
                simp only [List.mem_cons, List.not_mem_nil, or_false] at hi
                subst hi
                refine wpOpIn_run (v := .pointer (some ⟨g10, 5, none⟩)) (w' := wa) rfl (by kernel_rfl) (fun f hf => by simp [Oper.about] at hf) (fun c hc => by cases hc) (by go_simp) ?_
                go_simp
                refine wpAnyIn_all (rs := [8]) (by decide +kernel) (by simp) ?_
                intro i hi
                simp only [List.mem_cons, List.not_mem_nil, or_false] at hi
                subst hi
                have qx := hSd.c5
                have qy := hSd.blk.frozen 5
                refine wpOpIn_skip (w' := wa.setCell ⟨g10, 5, none⟩ (.slice A6 (k + 1) c6)) rfl (by kernel_rfl) (fun f hf => by simp [Oper.about] at hf) (fun c hc => by cases hc) (by go_simp) ?_
                clear qx qy
                go_simp
                refine wpAnyIn_done (by decide +kernel) ?_ _
                have sz1 := hft.size
                have sz2 := hfa.size
                simp only [World.size_alloc] at sz2 hina
                have hfg : Fr (· = g10) wa (wa.setCell ⟨g10, 5, none⟩ (.slice A6 (k + 1) c6)) := (Fr.refl _ _).at_ _ _
                have hfT : Fr (fun j => j = B + 3 ∨ j = g10 ∨ inB A5 j) w7 (wa.setCell ⟨g10, 5, none⟩ (.slice A6 (k + 1) c6)) := ((((hfd.mono (S' := fun j => j = B + 3 ∨ j = g10 ∨ inB A5 j) fun _ _ h => h.elim).trans hft fun _ _ h => .inl h).alloc (.cells #[.int .i64 (ix : Nat)] 3)).trans hfa fun _ _ h => .inr (.inr h)).trans hfg fun _ _ h => .inr (.inl h)
                have hina2 : ∀ j, inB A6 j → N6 ≤ j := fun j hj => (hina j hj).elim (hA5 j) fun h => by omega
                have hM2 := ((hMt.fr ((Fr.refl NoB wt).alloc (.cells #[.int .i64 (ix : Nat)] 3)) id).fr hfa (fun h => by have := hA5 _ h; omega)).fr hfg (by omega)
                have hO2 : Own (wa.setCell ⟨g10, 5, none⟩ (.slice A6 (k + 1) c6)) 3 1 A6 (k + 1) c6 ((linkAcc p0.2 (e0.links.take (k + 1))).1.map (Value.int .i64)) := by
                  rw [Hstep.out]
                  show Own _ _ _ _ _ _ ((p1.1 ++ [((p1.2.idxOf x : Nat) : Int)]).map (Value.int .i64))
                  rw [← Hix.out, List.map_append]
                  exact hOa.fr hfg fun j hj h => by have := hina2 j hj; omega
                gi_wp2
                go_roundw
                case rel => exact ⟨k + 1, A6, c6, by omega, by go_num, hKd.fr hfg (fun j h => .inr (by omega)) hN9 HB.out, by rw [Hstep.out]; exact hM2, hSd.s5 A6 (k + 1) c6, hO2, hina2, hL.fr hfT (fun j hj h => by rcases h with h | h | h; omega; omega; (have := hA5 j h; omega)) (fun _ _ _ h => h), hT.new hfT (fun j hj => by rcases hj with h | h | h; exact .inl h; exact .inr (by have := HN.out; omega); exact .inr (by have := HN.out; have := hA5 j h; omega)), by have := hfT.size; omega⟩
                case measure => (simp [intOf] <;> omega)
              · refine wpOpIn_run (v := .agg xi.toArray) (w' := w8.drew) rfl (by kernel_rfl) (fun f hf => by simp [Oper.about] at hf) (fun c hc => by cases hc) (exec_load_agg 74 (.tmp 12) rfl g12 0 rfl xi _ hall12 Try.underlying74 rfl (by rw [Hx.out]; exact id_size)) ?_
                go_simp
                refine wpAnyIn_all (rs := [1, 4]) (by decide +kernel) (by simp) ?_
                intro i hi
                simp only [List.mem_cons, List.not_mem_nil, or_false] at hi
                rcases hi with rfl | rfl
                · have qx := hSd.c5
                  refine wpOpIn_run (v := .slice A5 k c5) (w' := w8.drew) rfl (by kernel_rfl) (fun f hf => by simp [Oper.about] at hf) (fun c hc => by cases hc) (by go_simp) ?_
                  clear qx
                  go_simp
                  refine wpAnyIn_all (rs := [4]) (by decide +kernel) (by simp) ?_
                  intro i hi
                  simp only [List.mem_cons, List.not_mem_nil, or_false] at hi
                  subst hi
                  refine wpOpIn_step rfl ?_
                  intro K' hK'
                  gi_wp2_with fail
                  refine ⟨trivial, ?_⟩
                  refine (callsIn_wide.2 hcall).mono ?_
                  rintro e2 wt ⟨rfl, hMt, hft⟩
                  refine hK' _ _ ?_
                  clear hK'
                  replace hKd := hKd.fr hft (fun j h => .inl h) hN9 HB.out
                  replace hSd := hSd.fr hft (by omega)
                  replace hOd := hOd.fr hft (fun j hj h => by have := hA5 j hj; omega)
                  go_simp
                  refine wpAnyIn_all (rs := [5]) (by decide +kernel) (by simp) ?_
                  intro i hi
                  simp only [List.mem_cons, List.not_mem_nil, or_false] at hi
                  subst hi
                  refine wpOpIn_run (v := .slice (some ⟨wt.heap.size, 0, none⟩) 1 1) (w' := wt.alloc (.cells #[.int .i64 (ix : Nat)] 3)) rfl (by kernel_rfl) (fun f hf => by simp [Oper.about] at hf) (fun c hc => by cases hc) (by go_simp) ?_
                  replace hKd := hKd.fr ((Fr.refl NoB wt).alloc (.cells #[.int .i64 (ix : Nat)] 3)) (fun j h => h.elim) hN9 HB.out
                  replace hSd := hSd.fr ((Fr.refl NoB wt).alloc (.cells #[.int .i64 (ix : Nat)] 3)) id
                  replace hOd := hOd.alloc (.cells #[.int .i64 (ix : Nat)] 3)
                  go_simp
                  refine wpAnyIn_all (rs := [6]) (by decide +kernel) (by simp) ?_
                  intro i hi
                  simp only [List.mem_cons, List.not_mem_nil, or_false] at hi
                  subst hi
                  refine wpOpIn_app el_int rfl (by kernel_rfl) (.tmp 45) (.tmp 49) rfl A5 k c5 _ rfl hOd _ _ 1 1 _ rfl (Arr.one _ _ _) (by simp [Value.oneCell']) (by omega) ?_
                  intro A6 c6 wa hOa hfa hina
                  have hga : ¬ inB A5 g10 := fun h => by have := hA5 g10 h; omega
                  replace hSd := hSd.fr hfa hga
                  replace hKd := hKd.fr hfa (fun j h => .inr (by have := hA5 j h; omega)) hN9 HB.out
                  go_simp
                  refine wpAnyIn_all (rs := [7]) (by decide +kernel) (by simp) ?_
                  intro i hi
                  simp only [List.mem_cons, List.not_mem_nil, or_false] at hi
                  subst hi
                  refine wpOpIn_run (v := .pointer (some ⟨g10, 5, none⟩)) (w' := wa) rfl (by kernel_rfl) (fun f hf => by simp [Oper.about] at hf) (fun c hc => by cases hc) (by go_simp) ?_
                  go_simp
                  refine wpAnyIn_all (rs := [8]) (by decide +kernel) (by simp) ?_
                  intro i hi
                  simp only [List.mem_cons, List.not_mem_nil, or_false] at hi
                  subst hi
                  have qx := hSd.c5
                  have qy := hSd.blk.frozen 5
                  refine wpOpIn_skip (w' := wa.setCell ⟨g10, 5, none⟩ (.slice A6 (k + 1) c6)) rfl (by kernel_rfl) (fun f hf => by simp [Oper.about] at hf) (fun c hc => by cases hc) (by go_simp) ?_
                  clear qx qy
                  go_simp
                  refine wpAnyIn_done (by decide +kernel) ?_ _
                  have sz1 := hft.size
                  have sz2 := hfa.size
                  simp only [World.size_alloc] at sz2 hina
                  have hfg : Fr (· = g10) wa (wa.setCell ⟨g10, 5, none⟩ (.slice A6 (k + 1) c6)) := (Fr.refl _ _).at_ _ _
                  have hfT : Fr (fun j => j = B + 3 ∨ j = g10 ∨ inB A5 j) w7 (wa.setCell ⟨g10, 5, none⟩ (.slice A6 (k + 1) c6)) := ((((hfd.mono (S' := fun j => j = B + 3 ∨ j = g10 ∨ inB A5 j) fun _ _ h => h.elim).trans hft fun _ _ h => .inl h).alloc (.cells #[.int .i64 (ix : Nat)] 3)).trans hfa fun _ _ h => .inr (.inr h)).trans hfg fun _ _ h => .inr (.inl h)
                  have hina2 : ∀ j, inB A6 j → N6 ≤ j := fun j hj => (hina j hj).elim (hA5 j) fun h => by omega
                  have hM2 := ((hMt.fr ((Fr.refl NoB wt).alloc (.cells #[.int .i64 (ix : Nat)] 3)) id).fr hfa (fun h => by have := hA5 _ h; omega)).fr hfg (by omega)
                  have hO2 : Own (wa.setCell ⟨g10, 5, none⟩ (.slice A6 (k + 1) c6)) 3 1 A6 (k + 1) c6 ((linkAcc p0.2 (e0.links.take (k + 1))).1.map (Value.int .i64)) := by
                    rw [Hstep.out]
                    show Own _ _ _ _ _ _ ((p1.1 ++ [((p1.2.idxOf x : Nat) : Int)]).map (Value.int .i64))
                    rw [← Hix.out, List.map_append]
                    exact hOa.fr hfg fun j hj h => by have := hina2 j hj; omega
                  gi_wp2
                  go_roundw
                  case rel => exact ⟨k + 1, A6, c6, by omega, by go_num, hKd.fr hfg (fun j h => .inr (by omega)) hN9 HB.out, by rw [Hstep.out]; exact hM2, hSd.s5 A6 (k + 1) c6, hO2, hina2, hL.fr hfT (fun j hj h => by rcases h with h | h | h; omega; omega; (have := hA5 j h; omega)) (fun _ _ _ h => h), hT.new hfT (fun j hj => by rcases hj with h | h | h; exact .inl h; exact .inr (by have := HN.out; omega); exact .inr (by have := HN.out; have := hA5 j h; omega)), by have := hfT.size; omega⟩
                  case measure => (simp [intOf] <;> omega)
                · refine wpOpIn_step rfl ?_
                  intro K' hK'
                  gi_wp2_with fail
                  refine ⟨trivial, ?_⟩
                  refine (callsIn_wide.2 hcall).mono ?_
                  rintro e2 wt ⟨rfl, hMt, hft⟩
                  refine hK' _ _ ?_
                  clear hK'
                  replace hKd := hKd.fr hft (fun j h => .inl h) hN9 HB.out
                  replace hSd := hSd.fr hft (by omega)
                  replace hOd := hOd.fr hft (fun j hj h => by have := hA5 j hj; omega)
                  go_simp
                  refine wpAnyIn_all (rs := [1, 5]) (by decide +kernel) (by simp) ?_
                  intro i hi
                  simp only [List.mem_cons, List.not_mem_nil, or_false] at hi
                  rcases hi with rfl | rfl
                  · have qx := hSd.c5
                    refine wpOpIn_run (v := .slice A5 k c5) (w' := wt) rfl (by kernel_rfl) (fun f hf => by simp [Oper.about] at hf) (fun c hc => by cases hc) (by go_simp) ?_
                    clear qx
                    go_simp
                    refine wpAnyIn_all (rs := [5]) (by decide +kernel) (by simp) ?_
                    intro i hi
                    simp only [List.mem_cons, List.not_mem_nil, or_false] at hi
                    subst hi
                    refine wpOpIn_run (v := .slice (some ⟨wt.heap.size, 0, none⟩) 1 1) (w' := wt.alloc (.cells #[.int .i64 (ix : Nat)] 3)) rfl (by kernel_rfl) (fun f hf => by simp [Oper.about] at hf) (fun c hc => by cases hc) (by go_simp) ?_
                    replace hKd := hKd.fr ((Fr.refl NoB wt).alloc (.cells #[.int .i64 (ix : Nat)] 3)) (fun j h => h.elim) hN9 HB.out
                    replace hSd := hSd.fr ((Fr.refl NoB wt).alloc (.cells #[.int .i64 (ix : Nat)] 3)) id
                    replace hOd := hOd.alloc (.cells #[.int .i64 (ix : Nat)] 3)
                    go_simp
                    refine wpAnyIn_all (rs := [6]) (by decide +kernel) (by simp) ?_
                    intro i hi
                    simp only [List.mem_cons, List.not_mem_nil, or_false] at hi
                    subst hi
                    refine wpOpIn_app el_int rfl (by kernel_rfl) (.tmp 45) (.tmp 49) rfl A5 k c5 _ rfl hOd _ _ 1 1 _ rfl (Arr.one _ _ _) (by simp [Value.oneCell']) (by omega) ?_
                    intro A6 c6 wa hOa hfa hina
                    have hga : ¬ inB A5 g10 := fun h => by have := hA5 g10 h; omega
                    replace hSd := hSd.fr hfa hga
                    replace hKd := hKd.fr hfa (fun j h => .inr (by have := hA5 j h; omega)) hN9 HB.out
                    go_simp
                    refine wpAnyIn_all (rs := [7]) (by decide +kernel) (by simp) ?_
                    intro i hi
                    simp only [List.mem_cons, List.not_mem_nil, or_false] at hi
                    subst hi
                    refine wpOpIn_run (v := .pointer (some ⟨g10, 5, none⟩)) (w' := wa) rfl (by kernel_rfl) (fun f hf => by simp [Oper.about] at hf) (fun c hc => by cases hc) (by go_simp) ?_
                    go_simp
                    refine wpAnyIn_all (rs := [8]) (by decide +kernel) (by simp) ?_
                    intro i hi
                    simp only [List.mem_cons, List.not_mem_nil, or_false] at hi
                    subst hi
                    have qx := hSd.c5
                    have qy := hSd.blk.frozen 5
                    refine wpOpIn_skip (w' := wa.setCell ⟨g10, 5, none⟩ (.slice A6 (k + 1) c6)) rfl (by kernel_rfl) (fun f hf => by simp [Oper.about] at hf) (fun c hc => by cases hc) (by go_simp) ?_
                    clear qx qy
                    go_simp
                    refine wpAnyIn_done (by decide +kernel) ?_ _
                    have sz1 := hft.size
                    have sz2 := hfa.size
                    simp only [World.size_alloc] at sz2 hina
                    have hfg : Fr (· = g10) wa (wa.setCell ⟨g10, 5, none⟩ (.slice A6 (k + 1) c6)) := (Fr.refl _ _).at_ _ _
                    have hfT : Fr (fun j => j = B + 3 ∨ j = g10 ∨ inB A5 j) w7 (wa.setCell ⟨g10, 5, none⟩ (.slice A6 (k + 1) c6)) := ((((hfd.mono (S' := fun j => j = B + 3 ∨ j = g10 ∨ inB A5 j) fun _ _ h => h.elim).trans hft fun _ _ h => .inl h).alloc (.cells #[.int .i64 (ix : Nat)] 3)).trans hfa fun _ _ h => .inr (.inr h)).trans hfg fun _ _ h => .inr (.inl h)
                    have hina2 : ∀ j, inB A6 j → N6 ≤ j := fun j hj => (hina j hj).elim (hA5 j) fun h => by omega
                    have hM2 := ((hMt.fr ((Fr.refl NoB wt).alloc (.cells #[.int .i64 (ix : Nat)] 3)) id).fr hfa (fun h => by have := hA5 _ h; omega)).fr hfg (by omega)
                    have hO2 : Own (wa.setCell ⟨g10, 5, none⟩ (.slice A6 (k + 1) c6)) 3 1 A6 (k + 1) c6 ((linkAcc p0.2 (e0.links.take (k + 1))).1.map (Value.int .i64)) := by
                      rw [Hstep.out]
                      show Own _ _ _ _ _ _ ((p1.1 ++ [((p1.2.idxOf x : Nat) : Int)]).map (Value.int .i64))
                      rw [← Hix.out, List.map_append]
                      exact hOa.fr hfg fun j hj h => by have := hina2 j hj; omega
                    gi_wp2
                    go_roundw
                    case rel => exact ⟨k + 1, A6, c6, by omega, by go_num, hKd.fr hfg (fun j h => .inr (by omega)) hN9 HB.out, by rw [Hstep.out]; exact hM2, hSd.s5 A6 (k + 1) c6, hO2, hina2, hL.fr hfT (fun j hj h => by rcases h with h | h | h; omega; omega; (have := hA5 j h; omega)) (fun _ _ _ h => h), hT.new hfT (fun j hj => by rcases hj with h | h | h; exact .inl h; exact .inr (by have := HN.out; omega); exact .inr (by have := HN.out; have := hA5 j h; omega)), by have := hfT.size; omega⟩
                    case measure => (simp [intOf] <;> omega)
                  · refine wpOpIn_run (v := .slice (some ⟨wt.heap.size, 0, none⟩) 1 1) (w' := wt.alloc (.cells #[.int .i64 (ix : Nat)] 3)) rfl (by kernel_rfl) (fun f hf => by simp [Oper.about] at hf) (fun c hc => by cases hc) (by go_simp) ?_
                    replace hKd := hKd.fr ((Fr.refl NoB wt).alloc (.cells #[.int .i64 (ix : Nat)] 3)) (fun j h => h.elim) hN9 HB.out
                    replace hSd := hSd.fr ((Fr.refl NoB wt).alloc (.cells #[.int .i64 (ix : Nat)] 3)) id
                    replace hOd := hOd.alloc (.cells #[.int .i64 (ix : Nat)] 3)
                    go_simp
                    refine wpAnyIn_all (rs := [1]) (by decide +kernel) (by simp) ?_
                    intro i hi
                    simp only [List.mem_cons, List.not_mem_nil, or_false] at hi
                    subst hi
                    have qx := hSd.c5
                    refine wpOpIn_run (v := .slice A5 k c5) (w' := (wt.alloc (.cells #[.int .i64 (ix : Nat)] 3))) rfl (by kernel_rfl) (fun f hf => by simp [Oper.about] at hf) (fun c hc => by cases hc) (by go_simp) ?_
                    clear qx
                    go_simp
                    refine wpAnyIn_all (rs := [6]) (by decide +kernel) (by simp) ?_
                    intro i hi
                    simp only [List.mem_cons, List.not_mem_nil, or_false] at hi
                    subst hi
                    refine wpOpIn_app el_int rfl (by kernel_rfl) (.tmp 45) (.tmp 49) rfl A5 k c5 _ rfl hOd _ _ 1 1 _ rfl (Arr.one _ _ _) (by simp [Value.oneCell']) (by omega) ?_
                    intro A6 c6 wa hOa hfa hina
                    have hga : ¬ inB A5 g10 := fun h => by have := hA5 g10 h; omega
                    replace hSd := hSd.fr hfa hga
                    replace hKd := hKd.fr hfa (fun j h => .inr (by have := hA5 j h; omega)) hN9 HB.out
                    go_simp
                    refine wpAnyIn_all (rs := [7]) (by decide +kernel) (by simp) ?_
                    intro i hi
                    simp only [List.mem_cons, List.not_mem_nil, or_false] at hi
                    subst hi
                    refine wpOpIn_run (v := .pointer (some ⟨g10, 5, none⟩)) (w' := wa) rfl (by kernel_rfl) (fun f hf => by simp [Oper.about] at hf) (fun c hc => by cases hc) (by go_simp) ?_
                    go_simp
                    refine wpAnyIn_all (rs := [8]) (by decide +kernel) (by simp) ?_
                    intro i hi
                    simp only [List.mem_cons, List.not_mem_nil, or_false] at hi
                    subst hi
                    have qx := hSd.c5
                    have qy := hSd.blk.frozen 5
                    refine wpOpIn_skip (w' := wa.setCell ⟨g10, 5, none⟩ (.slice A6 (k + 1) c6)) rfl (by kernel_rfl) (fun f hf => by simp [Oper.about] at hf) (fun c hc => by cases hc) (by go_simp) ?_
                    clear qx qy
                    go_simp
                    refine wpAnyIn_done (by decide +kernel) ?_ _
                    have sz1 := hft.size
                    have sz2 := hfa.size
                    simp only [World.size_alloc] at sz2 hina
                    have hfg : Fr (· = g10) wa (wa.setCell ⟨g10, 5, none⟩ (.slice A6 (k + 1) c6)) := (Fr.refl _ _).at_ _ _
                    have hfT : Fr (fun j => j = B + 3 ∨ j = g10 ∨ inB A5 j) w7 (wa.setCell ⟨g10, 5, none⟩ (.slice A6 (k + 1) c6)) := ((((hfd.mono (S' := fun j => j = B + 3 ∨ j = g10 ∨ inB A5 j) fun _ _ h => h.elim).trans hft fun _ _ h => .inl h).alloc (.cells #[.int .i64 (ix : Nat)] 3)).trans hfa fun _ _ h => .inr (.inr h)).trans hfg fun _ _ h => .inr (.inl h)
                    have hina2 : ∀ j, inB A6 j → N6 ≤ j := fun j hj => (hina j hj).elim (hA5 j) fun h => by omega
                    have hM2 := ((hMt.fr ((Fr.refl NoB wt).alloc (.cells #[.int .i64 (ix : Nat)] 3)) id).fr hfa (fun h => by have := hA5 _ h; omega)).fr hfg (by omega)
                    have hO2 : Own (wa.setCell ⟨g10, 5, none⟩ (.slice A6 (k + 1) c6)) 3 1 A6 (k + 1) c6 ((linkAcc p0.2 (e0.links.take (k + 1))).1.map (Value.int .i64)) := by
                      rw [Hstep.out]
                      show Own _ _ _ _ _ _ ((p1.1 ++ [((p1.2.idxOf x : Nat) : Int)]).map (Value.int .i64))
                      rw [← Hix.out, List.map_append]
                      exact hOa.fr hfg fun j hj h => by have := hina2 j hj; omega
                    gi_wp2
                    go_roundw
                    case rel => exact ⟨k + 1, A6, c6, by omega, by go_num, hKd.fr hfg (fun j h => .inr (by omega)) hN9 HB.out, by rw [Hstep.out]; exact hM2, hSd.s5 A6 (k + 1) c6, hO2, hina2, hL.fr hfT (fun j hj h => by rcases h with h | h | h; omega; omega; (have := hA5 j h; omega)) (fun _ _ _ h => h), hT.new hfT (fun j hj => by rcases hj with h | h | h; exact .inl h; exact .inr (by have := HN.out; omega); exact .inr (by have := HN.out; have := hA5 j h; omega)), by have := hfT.size; omega⟩
                    case measure => (simp [intOf] <;> omega)
            · refine wpOpIn_run (v := .agg xi.toArray) (w' := w8.drew) rfl (by kernel_rfl) (fun f hf => by simp [Oper.about] at hf) (fun c hc => by cases hc) (exec_load_agg 74 (.tmp 12) rfl g12 0 rfl xi _ hall12 Try.underlying74 rfl (by rw [Hx.out]; exact id_size)) ?_
              go_simp
              refine wpAnyIn_all (rs := [1, 2]) (by decide +kernel) (by simp) ?_
              intro i hi
              simp only [List.mem_cons, List.not_mem_nil, or_false] at hi
              rcases hi with rfl | rfl
              · have qx := hSd.c5
                refine wpOpIn_run (v := .slice A5 k c5) (w' := w8.drew) rfl (by kernel_rfl) (fun f hf => by simp [Oper.about] at hf) (fun c hc => by cases hc) (by go_simp) ?_
                clear qx
                go_simp
                refine wpAnyIn_all (rs := [2]) (by decide +kernel) (by simp) ?_
                intro i hi
                simp only [List.mem_cons, List.not_mem_nil, or_false] at hi
                subst hi
                have qx := hKd.i4.cell_0
                refine wpOpIn_run (v := .map (some (B + 3))) (w' := w8.drew) rfl (by kernel_rfl) (fun f hf => by simp [Oper.about] at hf) (fun c hc => by cases hc) (by go_simp) ?_
                clear qx
                go_simp
                refine wpAnyIn_all (rs := [4]) (by decide +kernel) (by simp) ?_
                intro i hi
                simp only [List.mem_cons, List.not_mem_nil, or_false] at hi
                subst hi
                refine wpOpIn_step rfl ?_
                intro K' hK'
                gi_wp2_with fail
                refine ⟨trivial, ?_⟩
                refine (callsIn_wide.2 hcall).mono ?_
                rintro e2 wt ⟨rfl, hMt, hft⟩
                refine hK' _ _ ?_
                clear hK'
                replace hKd := hKd.fr hft (fun j h => .inl h) hN9 HB.out
                replace hSd := hSd.fr hft (by omega)
                replace hOd := hOd.fr hft (fun j hj h => by have := hA5 j hj; omega)
                go_simp
                refine wpAnyIn_all (rs := [5]) (by decide +kernel) (by simp) ?_
                intro i hi
                simp only [List.mem_cons, List.not_mem_nil, or_false] at hi
                subst hi
                refine wpOpIn_run (v := .slice (some ⟨wt.heap.size, 0, none⟩) 1 1) (w' := wt.alloc (.cells #[.int .i64 (ix : Nat)] 3)) rfl (by kernel_rfl) (fun f hf => by simp [Oper.about] at hf) (fun c hc => by cases hc) (by go_simp) ?_
                replace hKd := hKd.fr ((Fr.refl NoB wt).alloc (.cells #[.int .i64 (ix : Nat)] 3)) (fun j h => h.elim) hN9 HB.out
                replace hSd := hSd.fr ((Fr.refl NoB wt).alloc (.cells #[.int .i64 (ix : Nat)] 3)) id
                replace hOd := hOd.alloc (.cells #[.int .i64 (ix : Nat)] 3)
                go_simp
                refine wpAnyIn_all (rs := [6]) (by decide +kernel) (by simp) ?_
                intro i hi
                simp only [List.mem_cons, List.not_mem_nil, or_false] at hi
                subst hi
                refine wpOpIn_app el_int rfl (by kernel_rfl) (.tmp 45) (.tmp 49) rfl A5 k c5 _ rfl hOd _ _ 1 1 _ rfl (Arr.one _ _ _) (by simp [Value.oneCell']) (by omega) ?_
                intro A6 c6 wa hOa hfa hina
                have hga : ¬ inB A5 g10 := fun h => by have := hA5 g10 h; omega
                replace hSd := hSd.fr hfa hga
                replace hKd := hKd.fr hfa (fun j h => .inr (by have := hA5 j h; omega)) hN9 HB.out
                go_simp
                refine wpAnyIn_all (rs := [7]) (by decide +kernel) (by simp) ?_
                intro i hi
                simp only [List.mem_cons, List.not_mem_nil, or_false] at hi
                subst hi
                refine wpOpIn_run (v := .pointer (some ⟨g10, 5, none⟩)) (w' := wa) rfl (by kernel_rfl) (fun f hf => by simp [Oper.about] at hf) (fun c hc => by cases hc) (by go_simp) ?_
                go_simp
                refine wpAnyIn_all (rs := [8]) (by decide +kernel) (by simp) ?_
                intro i hi
                simp only [List.mem_cons, List.not_mem_nil, or_false] at hi
                subst hi
                have qx := hSd.c5
                have qy := hSd.blk.frozen 5
                refine wpOpIn_skip (w' := wa.setCell ⟨g10, 5, none⟩ (.slice A6 (k + 1) c6)) rfl (by kernel_rfl) (fun f hf => by simp [Oper.about] at hf) (fun c hc => by cases hc) (by go_simp) ?_
                clear qx qy
                go_simp
                refine wpAnyIn_done (by decide +kernel) ?_ _
                have sz1 := hft.size
                have sz2 := hfa.size
                simp only [World.size_alloc] at sz2 hina
                have hfg : Fr (· = g10) wa (wa.setCell ⟨g10, 5, none⟩ (.slice A6 (k + 1) c6)) := (Fr.refl _ _).at_ _ _
                have hfT : Fr (fun j => j = B + 3 ∨ j = g10 ∨ inB A5 j) w7 (wa.setCell ⟨g10, 5, none⟩ (.slice A6 (k + 1) c6)) := ((((hfd.mono (S' := fun j => j = B + 3 ∨ j = g10 ∨ inB A5 j) fun _ _ h => h.elim).trans hft fun _ _ h => .inl h).alloc (.cells #[.int .i64 (ix : Nat)] 3)).trans hfa fun _ _ h => .inr (.inr h)).trans hfg fun _ _ h => .inr (.inl h)
                have hina2 : ∀ j, inB A6 j → N6 ≤ j := fun j hj => (hina j hj).elim (hA5 j) fun h => by omega
                have hM2 := ((hMt.fr ((Fr.refl NoB wt).alloc (.cells #[.int .i64 (ix : Nat)] 3)) id).fr hfa (fun h => by have := hA5 _ h; omega)).fr hfg (by omega)
                have hO2 : Own (wa.setCell ⟨g10, 5, none⟩ (.slice A6 (k + 1) c6)) 3 1 A6 (k + 1) c6 ((linkAcc p0.2 (e0.links.take (k + 1))).1.map (Value.int .i64)) := by
                  rw [Hstep.out]
                  show Own _ _ _ _ _ _ ((p1.1 ++ [((p1.2.idxOf x : Nat) : Int)]).map (Value.int .i64))
                  rw [← Hix.out, List.map_append]
                  exact hOa.fr hfg fun j hj h => by have := hina2 j hj; omega
                gi_wp2
                go_roundw
                case rel => exact ⟨k + 1, A6, c6, by omega, by go_num, hKd.fr hfg (fun j h => .inr (by omega)) hN9 HB.out, by rw [Hstep.out]; exact hM2, hSd.s5 A6 (k + 1) c6, hO2, hina2, hL.fr hfT (fun j hj h => by rcases h with h | h | h; omega; omega; (have := hA5 j h; omega)) (fun _ _ _ h => h), hT.new hfT (fun j hj => by rcases hj with h | h | h; exact .inl h; exact .inr (by have := HN.out; omega); exact .inr (by have := HN.out; have := hA5 j h; omega)), by have := hfT.size; omega⟩
                case measure => (simp [intOf] <;> omega)
              · have qx := hKd.i4.cell_0
                refine wpOpIn_run (v := .map (some (B + 3))) (w' := w8.drew) rfl (by kernel_rfl) (fun f hf => by simp [Oper.about] at hf) (fun c hc => by cases hc) (by go_simp) ?_
                clear qx
                go_simp
                refine wpAnyIn_all (rs := [1, 4]) (by decide +kernel) (by simp) ?_
                intro i hi
                simp only [List.mem_cons, List.not_mem_nil, or_false] at hi
                rcases hi with rfl | rfl
                · have qx := hSd.c5
                  refine wpOpIn_run (v := .slice A5 k c5) (w' := w8.drew) rfl (by kernel_rfl) (fun f hf => by simp [Oper.about] at hf) (fun c hc => by cases hc) (by go_simp) ?_
                  clear qx
                  go_simp
                  refine wpAnyIn_all (rs := [4]) (by decide +kernel) (by simp) ?_
                  intro i hi
                  simp only [List.mem_cons, List.not_mem_nil, or_false] at hi
                  subst hi
                  refine wpOpIn_step rfl ?_
                  intro K' hK'
                  gi_wp2_with fail
                  refine ⟨trivial, ?_⟩
                  refine (callsIn_wide.2 hcall).mono ?_
                  rintro e2 wt ⟨rfl, hMt, hft⟩
                  refine hK' _ _ ?_
                  clear hK'
                  replace hKd := hKd.fr hft (fun j h => .inl h) hN9 HB.out
                  replace hSd := hSd.fr hft (by omega)
                  replace hOd := hOd.fr hft (fun j hj h => by have := hA5 j hj; omega)
                  go_simp
                  refine wpAnyIn_all (rs := [5]) (by decide +kernel) (by simp) ?_
                  intro i hi
                  simp only [List.mem_cons, List.not_mem_nil, or_false] at hi
                  subst hi
                  refine wpOpIn_run (v := .slice (some ⟨wt.heap.size, 0, none⟩) 1 1) (w' := wt.alloc (.cells #[.int .i64 (ix : Nat)] 3)) rfl (by kernel_rfl) (fun f hf => by simp [Oper.about] at hf) (fun c hc => by cases hc) (by go_simp) ?_
                  replace hKd := hKd.fr ((Fr.refl NoB wt).alloc (.cells #[.int .i64 (ix : Nat)] 3)) (fun j h => h.elim) hN9 HB.out
                  replace hSd := hSd.fr ((Fr.refl NoB wt).alloc (.cells #[.int .i64 (ix : Nat)] 3)) id
                  replace hOd := hOd.alloc (.cells #[.int .i64 (ix : Nat)] 3)
                  go_simp
                  refine wpAnyIn_all (rs := [6]) (by decide +kernel) (by simp) ?_
                  intro i hi
                  simp only [List.mem_cons, List.not_mem_nil, or_false] at hi
                  subst hi
                  refine wpOpIn_app el_int rfl (by kernel_rfl) (.tmp 45) (.tmp 49) rfl A5 k c5 _ rfl hOd _ _ 1 1 _ rfl (Arr.one _ _ _) (by simp [Value.oneCell']) (by omega) ?_
                  intro A6 c6 wa hOa hfa hina
                  have hga : ¬ inB A5 g10 := fun h => by have := hA5 g10 h; omega
                  replace hSd := hSd.fr hfa hga
                  replace hKd := hKd.fr hfa (fun j h => .inr (by have := hA5 j h; omega)) hN9 HB.out
                  go_simp
                  refine wpAnyIn_all (rs := [7]) (by decide +kernel) (by simp) ?_
                  intro i hi
                  simp only [List.mem_cons, List.not_mem_nil, or_false] at hi
                  subst hi
                  refine wpOpIn_run (v := .pointer (some ⟨g10, 5, none⟩)) (w' := wa) rfl (by kernel_rfl) (fun f hf => by simp [Oper.about] at hf) (fun c hc => by cases hc) (by go_simp) ?_
                  go_simp
                  refine wpAnyIn_all (rs := [8]) (by decide +kernel) (by simp) ?_
                  intro i hi
                  simp only [List.mem_cons, List.not_mem_nil, or_false] at hi
                  subst hi
                  have qx := hSd.c5
                  have qy := hSd.blk.frozen 5
                  refine wpOpIn_skip (w' := wa.setCell ⟨g10, 5, none⟩ (.slice A6 (k + 1) c6)) rfl (by kernel_rfl) (fun f hf => by simp [Oper.about] at hf) (fun c hc => by cases hc) (by go_simp) ?_
                  clear qx qy
                  go_simp
                  refine wpAnyIn_done (by decide +kernel) ?_ _
                  have sz1 := hft.size
                  have sz2 := hfa.size
                  simp only [World.size_alloc] at sz2 hina
                  have hfg : Fr (· = g10) wa (wa.setCell ⟨g10, 5, none⟩ (.slice A6 (k + 1) c6)) := (Fr.refl _ _).at_ _ _
                  have hfT : Fr (fun j => j = B + 3 ∨ j = g10 ∨ inB A5 j) w7 (wa.setCell ⟨g10, 5, none⟩ (.slice A6 (k + 1) c6)) := ((((hfd.mono (S' := fun j => j = B + 3 ∨ j = g10 ∨ inB A5 j) fun _ _ h => h.elim).trans hft fun _ _ h => .inl h).alloc (.cells #[.int .i64 (ix : Nat)] 3)).trans hfa fun _ _ h => .inr (.inr h)).trans hfg fun _ _ h => .inr (.inl h)
                  have hina2 : ∀ j, inB A6 j → N6 ≤ j := fun j hj => (hina j hj).elim (hA5 j) fun h => by omega
                  have hM2 := ((hMt.fr ((Fr.refl NoB wt).alloc (.cells #[.int .i64 (ix : Nat)] 3)) id).fr hfa (fun h => by have := hA5 _ h; omega)).fr hfg (by omega)
                  have hO2 : Own (wa.setCell ⟨g10, 5, none⟩ (.slice A6 (k + 1) c6)) 3 1 A6 (k + 1) c6 ((linkAcc p0.2 (e0.links.take (k + 1))).1.map (Value.int .i64)) := by
                    rw [Hstep.out]
                    show Own _ _ _ _ _ _ ((p1.1 ++ [((p1.2.idxOf x : Nat) : Int)]).map (Value.int .i64))
                    rw [← Hix.out, List.map_append]
                    exact hOa.fr hfg fun j hj h => by have := hina2 j hj; omega
                  gi_wp2
                  go_roundw
                  case rel => exact ⟨k + 1, A6, c6, by omega, by go_num, hKd.fr hfg (fun j h => .inr (by omega)) hN9 HB.out, by rw [Hstep.out]; exact hM2, hSd.s5 A6 (k + 1) c6, hO2, hina2, hL.fr hfT (fun j hj h => by rcases h with h | h | h; omega; omega; (have := hA5 j h; omega)) (fun _ _ _ h => h), hT.new hfT (fun j hj => by rcases hj with h | h | h; exact .inl h; exact .inr (by have := HN.out; omega); exact .inr (by have := HN.out; have := hA5 j h; omega)), by have := hfT.size; omega⟩
                  case measure => (simp [intOf] <;> omega)
                · refine wpOpIn_step rfl ?_
                  intro K' hK'
                  gi_wp2_with fail
                  refine ⟨trivial, ?_⟩
                  refine (callsIn_wide.2 hcall).mono ?_
                  rintro e2 wt ⟨rfl, hMt, hft⟩
                  refine hK' _ _ ?_
                  clear hK'
                  replace hKd := hKd.fr hft (fun j h => .inl h) hN9 HB.out
                  replace hSd := hSd.fr hft (by omega)
                  replace hOd := hOd.fr hft (fun j hj h => by have := hA5 j hj; omega)
                  go_simp
                  refine wpAnyIn_all (rs := [1, 5]) (by decide +kernel) (by simp) ?_
                  intro i hi
                  simp only [List.mem_cons, List.not_mem_nil, or_false] at hi
                  rcases hi with rfl | rfl
                  · have qx := hSd.c5
                    refine wpOpIn_run (v := .slice A5 k c5) (w' := wt) rfl (by kernel_rfl) (fun f hf => by simp [Oper.about] at hf) (fun c hc => by cases hc) (by go_simp) ?_
                    clear qx
                    go_simp
                    refine wpAnyIn_all (rs := [5]) (by decide +kernel) (by simp) ?_
                    intro i hi
                    simp only [List.mem_cons, List.not_mem_nil, or_false] at hi
                    subst hi
                    refine wpOpIn_run (v := .slice (some ⟨wt.heap.size, 0, none⟩) 1 1) (w' := wt.alloc (.cells #[.int .i64 (ix : Nat)] 3)) rfl (by kernel_rfl) (fun f hf => by simp [Oper.about] at hf) (fun c hc => by cases hc) (by go_simp) ?_
                    replace hKd := hKd.fr ((Fr.refl NoB wt).alloc (.cells #[.int .i64 (ix : Nat)] 3)) (fun j h => h.elim) hN9 HB.out
                    replace hSd := hSd.fr ((Fr.refl NoB wt).alloc (.cells #[.int .i64 (ix : Nat)] 3)) id
                    replace hOd := hOd.alloc (.cells #[.int .i64 (ix : Nat)] 3)
                    go_simp
                    refine wpAnyIn_all (rs := [6]) (by decide +kernel) (by simp) ?_
                    intro i hi
                    simp only [List.mem_cons, List.not_mem_nil, or_false] at hi
                    subst hi
                    refine wpOpIn_app el_int rfl (by kernel_rfl) (.tmp 45) (.tmp 49) rfl A5 k c5 _ rfl hOd _ _ 1 1 _ rfl (Arr.one _ _ _) (by simp [Value.oneCell']) (by omega) ?_
                    intro A6 c6 wa hOa hfa hina
                    have hga : ¬ inB A5 g10 := fun h => by have := hA5 g10 h; omega
                    replace hSd := hSd.fr hfa hga
                    replace hKd := hKd.fr hfa (fun j h => .inr (by have := hA5 j h; omega)) hN9 HB.out
                    go_simp
                    refine wpAnyIn_all (rs := [7]) (by decide +kernel) (by simp) ?_
                    intro i hi
                    simp only [List.mem_cons, List.not_mem_nil, or_false] at hi
                    subst hi
                    refine wpOpIn_run (v := .pointer (some ⟨g10, 5, none⟩)) (w' := wa) rfl (by kernel_rfl) (fun f hf => by simp [Oper.about] at hf) (fun c hc => by cases hc) (by go_simp) ?_
                    go_simp
                    refine wpAnyIn_all (rs := [8]) (by decide +kernel) (by simp) ?_
                    intro i hi
                    simp only [List.mem_cons, List.not_mem_nil, or_false] at hi
                    subst hi
                    have qx := hSd.c5
                    have qy := hSd.blk.frozen 5
                    refine wpOpIn_skip (w' := wa.setCell ⟨g10, 5, none⟩ (.slice A6 (k + 1) c6)) rfl (by kernel_rfl) (fun f hf => by simp [Oper.about] at hf) (fun c hc => by cases hc) (by go_simp) ?_
                    clear qx qy
                    go_simp
                    refine wpAnyIn_done (by decide +kernel) ?_ _
                    have sz1 := hft.size
                    have sz2 := hfa.size
                    simp only [World.size_alloc] at sz2 hina
                    have hfg : Fr (· = g10) wa (wa.setCell ⟨g10, 5, none⟩ (.slice A6 (k + 1) c6)) := (Fr.refl _ _).at_ _ _
                    have hfT : Fr (fun j => j = B + 3 ∨ j = g10 ∨ inB A5 j) w7 (wa.setCell ⟨g10, 5, none⟩ (.slice A6 (k + 1) c6)) := ((((hfd.mono (S' := fun j => j = B + 3 ∨ j = g10 ∨ inB A5 j) fun _ _ h => h.elim).trans hft fun _ _ h => .inl h).alloc (.cells #[.int .i64 (ix : Nat)] 3)).trans hfa fun _ _ h => .inr (.inr h)).trans hfg fun _ _ h => .inr (.inl h)
                    have hina2 : ∀ j, inB A6 j → N6 ≤ j := fun j hj => (hina j hj).elim (hA5 j) fun h => by omega
                    have hM2 := ((hMt.fr ((Fr.refl NoB wt).alloc (.cells #[.int .i64 (ix : Nat)] 3)) id).fr hfa (fun h => by have := hA5 _ h; omega)).fr hfg (by omega)
                    have hO2 : Own (wa.setCell ⟨g10, 5, none⟩ (.slice A6 (k + 1) c6)) 3 1 A6 (k + 1) c6 ((linkAcc p0.2 (e0.links.take (k + 1))).1.map (Value.int .i64)) := by
                      rw [Hstep.out]
                      show Own _ _ _ _ _ _ ((p1.1 ++ [((p1.2.idxOf x : Nat) : Int)]).map (Value.int .i64))
                      rw [← Hix.out, List.map_append]
                      exact hOa.fr hfg fun j hj h => by have := hina2 j hj; omega
                    gi_wp2
                    go_roundw
                    case rel => exact ⟨k + 1, A6, c6, by omega, by go_num, hKd.fr hfg (fun j h => .inr (by omega)) hN9 HB.out, by rw [Hstep.out]; exact hM2, hSd.s5 A6 (k + 1) c6, hO2, hina2, hL.fr hfT (fun j hj h => by rcases h with h | h | h; omega; omega; (have := hA5 j h; omega)) (fun _ _ _ h => h), hT.new hfT (fun j hj => by rcases hj with h | h | h; exact .inl h; exact .inr (by have := HN.out; omega); exact .inr (by have := HN.out; have := hA5 j h; omega)), by have := hfT.size; omega⟩
                    case measure => (simp [intOf] <;> omega)
                  · refine wpOpIn_run (v := .slice (some ⟨wt.heap.size, 0, none⟩) 1 1) (w' := wt.alloc (.cells #[.int .i64 (ix : Nat)] 3)) rfl (by kernel_rfl) (fun f hf => by simp [Oper.about] at hf) (fun c hc => by cases hc) (by go_simp) ?_
                    replace hKd := hKd.fr ((Fr.refl NoB wt).alloc (.cells #[.int .i64 (ix : Nat)] 3)) (fun j h => h.elim) hN9 HB.out
                    replace hSd := hSd.fr ((Fr.refl NoB wt).alloc (.cells #[.int .i64 (ix : Nat)] 3)) id
                    replace hOd := hOd.alloc (.cells #[.int .i64 (ix : Nat)] 3)
                    go_simp
                    refine wpAnyIn_all (rs := [1]) (by decide +kernel) (by simp) ?_
                    intro i hi
                    simp only [List.mem_cons, List.not_mem_nil, or_false] at hi
                    subst hi
                    have qx := hSd.c5
                    refine wpOpIn_run (v := .slice A5 k c5) (w' := (wt.alloc (.cells #[.int .i64 (ix : Nat)] 3))) rfl (by kernel_rfl) (fun f hf => by simp [Oper.about] at hf) (fun c hc => by cases hc) (by go_simp) ?_
                    clear qx
                    go_simp
                    refine wpAnyIn_all (rs := [6]) (by decide +kernel) (by simp) ?_
                    intro i hi
                    simp only [List.mem_cons, List.not_mem_nil, or_false] at hi
                    subst hi
                    refine wpOpIn_app el_int rfl (by kernel_rfl) (.tmp 45) (.tmp 49) rfl A5 k c5 _ rfl hOd _ _ 1 1 _ rfl (Arr.one _ _ _) (by simp [Value.oneCell']) (by omega) ?_
                    intro A6 c6 wa hOa hfa hina
                    have hga : ¬ inB A5 g10 := fun h => by have := hA5 g10 h; omega
                    replace hSd := hSd.fr hfa hga
                    replace hKd := hKd.fr hfa (fun j h => .inr (by have := hA5 j h; omega)) hN9 HB.out
                    go_simp
                    refine wpAnyIn_all (rs := [7]) (by decide +kernel) (by simp) ?_
                    intro i hi
                    simp only [List.mem_cons, List.not_mem_nil, or_false] at hi
                    subst hi
                    refine wpOpIn_run (v := .pointer (some ⟨g10, 5, none⟩)) (w' := wa) rfl (by kernel_rfl) (fun f hf => by simp [Oper.about] at hf) (fun c hc => by cases hc) (by go_simp) ?_
                    go_simp
                    refine wpAnyIn_all (rs := [8]) (by decide +kernel) (by simp) ?_
                    intro i hi
                    simp only [List.mem_cons, List.not_mem_nil, or_false] at hi
                    subst hi
                    have qx := hSd.c5
                    have qy := hSd.blk.frozen 5
                    refine wpOpIn_skip (w' := wa.setCell ⟨g10, 5, none⟩ (.slice A6 (k + 1) c6)) rfl (by kernel_rfl) (fun f hf => by simp [Oper.about] at hf) (fun c hc => by cases hc) (by go_simp) ?_
                    clear qx qy
                    go_simp
                    refine wpAnyIn_done (by decide +kernel) ?_ _
                    have sz1 := hft.size
                    have sz2 := hfa.size
                    simp only [World.size_alloc] at sz2 hina
                    have hfg : Fr (· = g10) wa (wa.setCell ⟨g10, 5, none⟩ (.slice A6 (k + 1) c6)) := (Fr.refl _ _).at_ _ _
                    have hfT : Fr (fun j => j = B + 3 ∨ j = g10 ∨ inB A5 j) w7 (wa.setCell ⟨g10, 5, none⟩ (.slice A6 (k + 1) c6)) := ((((hfd.mono (S' := fun j => j = B + 3 ∨ j = g10 ∨ inB A5 j) fun _ _ h => h.elim).trans hft fun _ _ h => .inl h).alloc (.cells #[.int .i64 (ix : Nat)] 3)).trans hfa fun _ _ h => .inr (.inr h)).trans hfg fun _ _ h => .inr (.inl h)
                    have hina2 : ∀ j, inB A6 j → N6 ≤ j := fun j hj => (hina j hj).elim (hA5 j) fun h => by omega
                    have hM2 := ((hMt.fr ((Fr.refl NoB wt).alloc (.cells #[.int .i64 (ix : Nat)] 3)) id).fr hfa (fun h => by have := hA5 _ h; omega)).fr hfg (by omega)
                    have hO2 : Own (wa.setCell ⟨g10, 5, none⟩ (.slice A6 (k + 1) c6)) 3 1 A6 (k + 1) c6 ((linkAcc p0.2 (e0.links.take (k + 1))).1.map (Value.int .i64)) := by
                      rw [Hstep.out]
                      show Own _ _ _ _ _ _ ((p1.1 ++ [((p1.2.idxOf x : Nat) : Int)]).map (Value.int .i64))
                      rw [← Hix.out, List.map_append]
                      exact hOa.fr hfg fun j hj h => by have := hina2 j hj; omega
                    gi_wp2
                    go_roundw
                    case rel => exact ⟨k + 1, A6, c6, by omega, by go_num, hKd.fr hfg (fun j h => .inr (by omega)) hN9 HB.out, by rw [Hstep.out]; exact hM2, hSd.s5 A6 (k + 1) c6, hO2, hina2, hL.fr hfT (fun j hj h => by rcases h with h | h | h; omega; omega; (have := hA5 j h; omega)) (fun _ _ _ h => h), hT.new hfT (fun j hj => by rcases hj with h | h | h; exact .inl h; exact .inr (by have := HN.out; omega); exact .inr (by have := HN.out; have := hA5 j h; omega)), by have := hfT.size; omega⟩
                    case measure => (simp [intOf] <;> omega)
          · have qx := hKd.i4.cell_0
            refine wpOpIn_run (v := .map (some (B + 3))) (w' := w8.drew) rfl (by kernel_rfl) (fun f hf => by simp [Oper.about] at hf) (fun c hc => by cases hc) (by go_simp) ?_
            clear qx
            go_simp
            refine wpAnyIn_all (rs := [0, 3]) (by decide +kernel) (by simp) ?_
            intro i hi
            simp only [List.mem_cons, List.not_mem_nil, or_false] at hi
            rcases hi with rfl | rfl
            · refine wpOpIn_run (v := .pointer (some ⟨g10, 5, none⟩)) (w' := w8.drew) rfl (by kernel_rfl) (fun f hf => by simp [Oper.about] at hf) (fun c hc => by cases hc) (by go_simp) ?_
              go_simp
              refine wpAnyIn_all (rs := [1, 3]) (by decide +kernel) (by simp) ?_
              intro i hi
              simp only [List.mem_cons, List.not_mem_nil, or_false] at hi
              rcases hi with rfl | rfl
              · have qx := hSd.c5
                refine wpOpIn_run (v := .slice A5 k c5) (w' := w8.drew) rfl (by kernel_rfl) (fun f hf => by simp [Oper.about] at hf) (fun c hc => by cases hc) (by go_simp) ?_
                clear qx
                go_simp
                refine wpAnyIn_all (rs := [3]) (by decide +kernel) (by simp) ?_
                intro i hi
                simp only [List.mem_cons, List.not_mem_nil, or_false] at hi
                subst hi
                refine wpOpIn_run (v := .agg xi.toArray) (w' := w8.drew) rfl (by kernel_rfl) (fun f hf => by simp [Oper.about] at hf) (fun c hc => by cases hc) (exec_load_agg 74 (.tmp 12) rfl g12 0 rfl xi _ hall12 Try.underlying74 rfl (by rw [Hx.out]; exact id_size)) ?_
                go_simp
                refine wpAnyIn_all (rs := [4]) (by decide +kernel) (by simp) ?_
                intro i hi
                simp only [List.mem_cons, List.not_mem_nil, or_false] at hi
                subst hi
                refine wpOpIn_step rfl ?_
                intro K' hK'
                gi_wp2_with fail
                refine ⟨trivial, ?_⟩
                refine (callsIn_wide.2 hcall).mono ?_
                rintro e2 wt ⟨rfl, hMt, hft⟩
                refine hK' _ _ ?_
                clear hK'
                replace hKd := hKd.fr hft (fun j h => .inl h) hN9 HB.out
                replace hSd := hSd.fr hft (by omega)
                replace hOd := hOd.fr hft (fun j hj h => by have := hA5 j hj; omega)
                go_simp
                refine wpAnyIn_all (rs := [5]) (by decide +kernel) (by simp) ?_
                intro i hi
                simp only [List.mem_cons, List.not_mem_nil, or_false] at hi
                subst hi
                refine wpOpIn_run (v := .slice (some ⟨wt.heap.size, 0, none⟩) 1 1) (w' := wt.alloc (.cells #[.int .i64 (ix : Nat)] 3)) rfl (by kernel_rfl) (fun f hf => by simp [Oper.about] at hf) (fun c hc => by cases hc) (by go_simp) ?_
                replace hKd := hKd.fr ((Fr.refl NoB wt).alloc (.cells #[.int .i64 (ix : Nat)] 3)) (fun j h => h.elim) hN9 HB.out
                replace hSd := hSd.fr ((Fr.refl NoB wt).alloc (.cells #[.int .i64 (ix : Nat)] 3)) id
                replace hOd := hOd.alloc (.cells #[.int .i64 (ix : Nat)] 3)
                go_simp
                refine wpAnyIn_all (rs := [6]) (by decide +kernel) (by simp) ?_
                intro i hi
                simp only [List.mem_cons, List.not_mem_nil, or_false] at hi
                subst hi
                refine wpOpIn_app el_int rfl (by kernel_rfl) (.tmp 45) (.tmp 49) rfl A5 k c5 _ rfl hOd _ _ 1 1 _ rfl (Arr.one _ _ _) (by simp [Value.oneCell']) (by omega) ?_
                intro A6 c6 wa hOa hfa hina
                have hga : ¬ inB A5 g10 := fun h => by have := hA5 g10 h; omega
                replace hSd := hSd.fr hfa hga
                replace hKd := hKd.fr hfa (fun j h => .inr (by have := hA5 j h; omega)) hN9 HB.out
                go_simp
                refine wpAnyIn_all (rs := [7]) (by decide +kernel) (by simp) ?_
                intro i hi
                simp only [List.mem_cons, List.not_mem_nil, or_false] at hi
                subst hi
                refine wpOpIn_run (v := .pointer (some ⟨g10, 5, none⟩)) (w' := wa) rfl (by kernel_rfl) (fun f hf => by simp [Oper.about] at hf) (fun c hc => by cases hc) (by go_simp) ?_
                go_simp
                refine wpAnyIn_all (rs := [8]) (by decide +kernel) (by simp) ?_
                intro i hi
                simp only [List.mem_cons, List.not_mem_nil, or_false] at hi
                subst hi
                have qx := hSd.c5
                have qy := hSd.blk.frozen 5
                refine wpOpIn_skip (w' := wa.setCell ⟨g10, 5, none⟩ (.slice A6 (k + 1) c6)) rfl (by kernel_rfl) (fun f hf => by simp [Oper.about] at hf) (fun c hc => by cases hc) (by go_simp) ?_
                clear qx qy
                go_simp
                refine wpAnyIn_done (by decide +kernel) ?_ _
                have sz1 := hft.size
                have sz2 := hfa.size
                simp only [World.size_alloc] at sz2 hina
                have hfg : Fr (· = g10) wa (wa.setCell ⟨g10, 5, none⟩ (.slice A6 (k + 1) c6)) := (Fr.refl _ _).at_ _ _
                have hfT : Fr (fun j => j = B + 3 ∨ j = g10 ∨ inB A5 j) w7 (wa.setCell ⟨g10, 5, none⟩ (.slice A6 (k + 1) c6)) := ((((hfd.mono (S' := fun j => j = B + 3 ∨ j = g10 ∨ inB A5 j) fun _ _ h => h.elim).trans hft fun _ _ h => .inl h).alloc (.cells #[.int .i64 (ix : Nat)] 3)).trans hfa fun _ _ h => .inr (.inr h)).trans hfg fun _ _ h => .inr (.inl h)
                have hina2 : ∀ j, inB A6 j → N6 ≤ j := fun j hj => (hina j hj).elim (hA5 j) fun h => by omega
                have hM2 := ((hMt.fr ((Fr.refl NoB wt).alloc (.cells #[.int .i64 (ix : Nat)] 3)) id).fr hfa (fun h => by have := hA5 _ h; omega)).fr hfg (by omega)
                have hO2 : Own (wa.setCell ⟨g10, 5, none⟩ (.slice A6 (k + 1) c6)) 3 1 A6 (k + 1) c6 ((linkAcc p0.2 (e0.links.take (k + 1))).1.map (Value.int .i64)) := by
                  rw [Hstep.out]
                  show Own _ _ _ _ _ _ ((p1.1 ++ [((p1.2.idxOf x : Nat) : Int)]).map (Value.int .i64))
                  rw [← Hix.out, List.map_append]
                  exact hOa.fr hfg fun j hj h => by have := hina2 j hj; omega
                gi_wp2
                go_roundw
                case rel => exact ⟨k + 1, A6, c6, by omega, by go_num, hKd.fr hfg (fun j h => .inr (by omega)) hN9 HB.out, by rw [Hstep.out]; exact hM2, hSd.s5 A6 (k + 1) c6, hO2, hina2, hL.fr hfT (fun j hj h => by rcases h with h | h | h; omega; omega; (have := hA5 j h; omega)) (fun _ _ _ h => h), hT.new hfT (fun j hj => by rcases hj with h | h | h; exact .inl h; exact .inr (by have := HN.out; omega); exact .inr (by have := HN.out; have := hA5 j h; omega)), by have := hfT.size; omega⟩
                case measure => (simp [intOf] <;> omega)
              · refine wpOpIn_run (v := .agg xi.toArray) (w' := w8.drew) rfl (by kernel_rfl) (fun f hf => by simp [Oper.about] at hf) (fun c hc => by cases hc) (exec_load_agg 74 (.tmp 12) rfl g12 0 rfl xi _ hall12 Try.underlying74 rfl (by rw [Hx.out]; exact id_size)) ?_
                go_simp
                refine wpAnyIn_all (rs := [1, 4]) (by decide +kernel) (by simp) ?_
                intro i hi
                simp only [List.mem_cons, List.not_mem_nil, or_false] at hi
                rcases hi with rfl | rfl
                · have qx := hSd.c5
                  refine wpOpIn_run (v := .slice A5 k c5) (w' := w8.drew) rfl (by kernel_rfl) (fun f hf => by simp [Oper.about] at hf) (fun c hc => by cases hc) (by go_simp) ?_
                  clear qx
                  go_simp
                  refine wpAnyIn_all (rs := [4]) (by decide +kernel) (by simp) ?_
                  intro i hi
                  simp only [List.mem_cons, List.not_mem_nil, or_false] at hi
                  subst hi
                  refine wpOpIn_step rfl ?_
                  intro K' hK'
                  gi_wp2_with fail
                  refine ⟨trivial, ?_⟩
                  refine (callsIn_wide.2 hcall).mono ?_
                  rintro e2 wt ⟨rfl, hMt, hft⟩
                  refine hK' _ _ ?_
                  clear hK'
                  replace hKd := hKd.fr hft (fun j h => .inl h) hN9 HB.out
                  replace hSd := hSd.fr hft (by omega)
                  replace hOd := hOd.fr hft (fun j hj h => by have := hA5 j hj; omega)
                  go_simp
                  refine wpAnyIn_all (rs := [5]) (by decide +kernel) (by simp) ?_
                  intro i hi
                  simp only [List.mem_cons, List.not_mem_nil, or_false] at hi
                  subst hi
                  refine wpOpIn_run (v := .slice (some ⟨wt.heap.size, 0, none⟩) 1 1) (w' := wt.alloc (.cells #[.int .i64 (ix : Nat)] 3)) rfl (by kernel_rfl) (fun f hf => by simp [Oper.about] at hf) (fun c hc => by cases hc) (by go_simp) ?_
                  replace hKd := hKd.fr ((Fr.refl NoB wt).alloc (.cells #[.int .i64 (ix : Nat)] 3)) (fun j h => h.elim) hN9 HB.out
                  replace hSd := hSd.fr ((Fr.refl NoB wt).alloc (.cells #[.int .i64 (ix : Nat)] 3)) id
                  replace hOd := hOd.alloc (.cells #[.int .i64 (ix : Nat)] 3)
                  go_simp
                  refine wpAnyIn_all (rs := [6]) (by decide +kernel) (by simp) ?_
                  intro i hi
                  simp only [List.mem_cons, List.not_mem_nil, or_false] at hi
                  subst hi
                  refine wpOpIn_app el_int rfl (by kernel_rfl) (.tmp 45) (.tmp 49) rfl A5 k c5 _ rfl hOd _ _ 1 1 _ rfl (Arr.one _ _ _) (by simp [Value.oneCell']) (by omega) ?_
                  intro A6 c6 wa hOa hfa hina
                  have hga : ¬ inB A5 g10 := fun h => by have := hA5 g10 h; omega
                  replace hSd := hSd.fr hfa hga
                  replace hKd := hKd.fr hfa (fun j h => .inr (by have := hA5 j h; omega)) hN9 HB.out
                  go_simp
                  refine wpAnyIn_all (rs := [7]) (by decide +kernel) (by simp) ?_
                  intro i hi
                  simp only [List.mem_cons, List.not_mem_nil, or_false] at hi
                  subst hi
                  refine wpOpIn_run (v := .pointer (some ⟨g10, 5, none⟩)) (w' := wa) rfl (by kernel_rfl) (fun f hf => by simp [Oper.about] at hf) (fun c hc => by cases hc) (by go_simp) ?_
                  go_simp
                  refine wpAnyIn_all (rs := [8]) (by decide +kernel) (by simp) ?_
                  intro i hi
                  simp only [List.mem_cons, List.not_mem_nil, or_false] at hi
                  subst hi
                  have qx := hSd.c5
                  have qy := hSd.blk.frozen 5
                  refine wpOpIn_skip (w' := wa.setCell ⟨g10, 5, none⟩ (.slice A6 (k + 1) c6)) rfl (by kernel_rfl) (fun f hf => by simp [Oper.about] at hf) (fun c hc => by cases hc) (by go_simp) ?_
                  clear qx qy
                  go_simp
                  refine wpAnyIn_done (by decide +kernel) ?_ _
                  have sz1 := hft.size
                  have sz2 := hfa.size
                  simp only [World.size_alloc] at sz2 hina
                  have hfg : Fr (· = g10) wa (wa.setCell ⟨g10, 5, none⟩ (.slice A6 (k + 1) c6)) := (Fr.refl _ _).at_ _ _
                  have hfT : Fr (fun j => j = B + 3 ∨ j = g10 ∨ inB A5 j) w7 (wa.setCell ⟨g10, 5, none⟩ (.slice A6 (k + 1) c6)) := ((((hfd.mono (S' := fun j => j = B + 3 ∨ j = g10 ∨ inB A5 j) fun _ _ h => h.elim).trans hft fun _ _ h => .inl h).alloc (.cells #[.int .i64 (ix : Nat)] 3)).trans hfa fun _ _ h => .inr (.inr h)).trans hfg fun _ _ h => .inr (.inl h)
                  have hina2 : ∀ j, inB A6 j → N6 ≤ j := fun j hj => (hina j hj).elim (hA5 j) fun h => by omega
                  have hM2 := ((hMt.fr ((Fr.refl NoB wt).alloc (.cells #[.int .i64 (ix : Nat)] 3)) id).fr hfa (fun h => by have := hA5 _ h; omega)).fr hfg (by omega)
                  have hO2 : Own (wa.setCell ⟨g10, 5, none⟩ (.slice A6 (k + 1) c6)) 3 1 A6 (k + 1) c6 ((linkAcc p0.2 (e0.links.take (k + 1))).1.map (Value.int .i64)) := by
                    rw [Hstep.out]
                    show Own _ _ _ _ _ _ ((p1.1 ++ [((p1.2.idxOf x : Nat) : Int)]).map (Value.int .i64))
                    rw [← Hix.out, List.map_append]
                    exact hOa.fr hfg fun j hj h => by have := hina2 j hj; omega
                  gi_wp2
                  go_roundw
                  case rel => exact ⟨k + 1, A6, c6, by omega, by go_num, hKd.fr hfg (fun j h => .inr (by omega)) hN9 HB.out, by rw [Hstep.out]; exact hM2, hSd.s5 A6 (k + 1) c6, hO2, hina2, hL.fr hfT (fun j hj h => by rcases h with h | h | h; omega; omega; (have := hA5 j h; omega)) (fun _ _ _ h => h), hT.new hfT (fun j hj => by rcases hj with h | h | h; exact .inl h; exact .inr (by have := HN.out; omega); exact .inr (by have := HN.out; have := hA5 j h; omega)), by have := hfT.size; omega⟩
                  case measure => (simp [intOf] <;> omega)
                · refine wpOpIn_step rfl ?_
                  intro K' hK'
                  gi_wp2_with fail
                  refine ⟨trivial, ?_⟩
                  refine (callsIn_wide.2 hcall).mono ?_
                  rintro e2 wt ⟨rfl, hMt, hft⟩
                  refine hK' _ _ ?_
                  clear hK'
                  replace hKd := hKd.fr hft (fun j h => .inl h) hN9 HB.out
                  replace hSd := hSd.fr hft (by omega)
                  replace hOd := hOd.fr hft (fun j hj h => by have := hA5 j hj; omega)
                  go_simp
                  refine wpAnyIn_all (rs := [1, 5]) (by decide +kernel) (by simp) ?_
                  intro i hi
                  simp only [List.mem_cons, List.not_mem_nil, or_false] at hi
                  rcases hi with rfl | rfl
                  · have qx := hSd.c5
                    refine wpOpIn_run (v := .slice A5 k c5) (w' := wt) rfl (by kernel_rfl) (fun f hf => by simp [Oper.about] at hf) (fun c hc => by cases hc) (by go_simp) ?_
                    clear qx
                    go_simp
                    refine wpAnyIn_all (rs := [5]) (by decide +kernel) (by simp) ?_
                    intro i hi
                    simp only [List.mem_cons, List.not_mem_nil, or_false] at hi
                    subst hi
                    refine wpOpIn_run (v := .slice (some ⟨wt.heap.size, 0, none⟩) 1 1) (w' := wt.alloc (.cells #[.int .i64 (ix : Nat)] 3)) rfl (by kernel_rfl) (fun f hf => by simp [Oper.about] at hf) (fun c hc => by cases hc) (by go_simp) ?_
                    replace hKd := hKd.fr ((Fr.refl NoB wt).alloc (.cells #[.int .i64 (ix : Nat)] 3)) (fun j h => h.elim) hN9 HB.out
                    replace hSd := hSd.fr ((Fr.refl NoB wt).alloc (.cells #[.int .i64 (ix : Nat)] 3)) id
                    replace hOd := hOd.alloc (.cells #[.int .i64 (ix : Nat)] 3)
                    go_simp
                    refine wpAnyIn_all (rs := [6]) (by decide +kernel) (by simp) ?_
                    intro i hi
                    simp only [List.mem_cons, List.not_mem_nil, or_false] at hi
                    subst hi
                    refine wpOpIn_app el_int rfl (by kernel_rfl) (.tmp 45) (.tmp 49) rfl A5 k c5 _ rfl hOd _ _ 1 1 _ rfl (Arr.one _ _ _) (by simp [Value.oneCell']) (by omega) ?_
                    intro A6 c6 wa hOa hfa hina
                    have hga : ¬ inB A5 g10 := fun h => by have := hA5 g10 h; omega
                    replace hSd := hSd.fr hfa hga
                    replace hKd := hKd.fr hfa (fun j h => .inr (by have := hA5 j h; omega)) hN9 HB.out
                    go_simp
                    refine wpAnyIn_all (rs := [7]) (by decide +kernel) (by simp) ?_
                    intro i hi
                    simp only [List.mem_cons, List.not_mem_nil, or_false] at hi
                    subst hi
                    refine wpOpIn_run (v := .pointer (some ⟨g10, 5, none⟩)) (w' := wa) rfl (by kernel_rfl) (fun f hf => by simp [Oper.about] at hf) (fun c hc => by cases hc) (by go_simp) ?_
                    go_simp
                    refine wpAnyIn_all (rs := [8]) (by decide +kernel) (by simp) ?_
                    intro i hi
                    simp only [List.mem_cons, List.not_mem_nil, or_false] at hi
                    subst hi
                    have qx := hSd.c5
                    have qy := hSd.blk.frozen 5
                    refine wpOpIn_skip (w' := wa.setCell ⟨g10, 5, none⟩ (.slice A6 (k + 1) c6)) rfl (by kernel_rfl) (fun f hf => by simp [Oper.about] at hf) (fun c hc => by cases hc) (by go_simp) ?_
                    clear qx qy
                    go_simp
                    refine wpAnyIn_done (by decide +kernel) ?_ _
                    have sz1 := hft.size
                    have sz2 := hfa.size
                    simp only [World.size_alloc] at sz2 hina
                    have hfg : Fr (· = g10) wa (wa.setCell ⟨g10, 5, none⟩ (.slice A6 (k + 1) c6)) := (Fr.refl _ _).at_ _ _
                    have hfT : Fr (fun j => j = B + 3 ∨ j = g10 ∨ inB A5 j) w7 (wa.setCell ⟨g10, 5, none⟩ (.slice A6 (k + 1) c6)) := ((((hfd.mono (S' := fun j => j = B + 3 ∨ j = g10 ∨ inB A5 j) fun _ _ h => h.elim).trans hft fun _ _ h => .inl h).alloc (.cells #[.int .i64 (ix : Nat)] 3)).trans hfa fun _ _ h => .inr (.inr h)).trans hfg fun _ _ h => .inr (.inl h)
                    have hina2 : ∀ j, inB A6 j → N6 ≤ j := fun j hj => (hina j hj).elim (hA5 j) fun h => by omega
                    have hM2 := ((hMt.fr ((Fr.refl NoB wt).alloc (.cells #[.int .i64 (ix : Nat)] 3)) id).fr hfa (fun h => by have := hA5 _ h; omega)).fr hfg (by omega)
                    have hO2 : Own (wa.setCell ⟨g10, 5, none⟩ (.slice A6 (k + 1) c6)) 3 1 A6 (k + 1) c6 ((linkAcc p0.2 (e0.links.take (k + 1))).1.map (Value.int .i64)) := by
                      rw [Hstep.out]
                      show Own _ _ _ _ _ _ ((p1.1 ++ [((p1.2.idxOf x : Nat) : Int)]).map (Value.int .i64))
                      rw [← Hix.out, List.map_append]
                      exact hOa.fr hfg fun j hj h => by have := hina2 j hj; omega
                    gi_wp2
                    go_roundw
                    case rel => exact ⟨k + 1, A6, c6, by omega, by go_num, hKd.fr hfg (fun j h => .inr (by omega)) hN9 HB.out, by rw [Hstep.out]; exact hM2, hSd.s5 A6 (k + 1) c6, hO2, hina2, hL.fr hfT (fun j hj h => by rcases h with h | h | h; omega; omega; (have := hA5 j h; omega)) (fun _ _ _ h => h), hT.new hfT (fun j hj => by rcases hj with h | h | h; exact .inl h; exact .inr (by have := HN.out; omega); exact .inr (by have := HN.out; have := hA5 j h; omega)), by have := hfT.size; omega⟩
                    case measure => (simp [intOf] <;> omega)
                  · refine wpOpIn_run (v := .slice (some ⟨wt.heap.size, 0, none⟩) 1 1) (w' := wt.alloc (.cells #[.int .i64 (ix : Nat)] 3)) rfl (by kernel_rfl) (fun f hf => by simp [Oper.about] at hf) (fun c hc => by cases hc) (by go_simp) ?_
                    replace hKd := hKd.fr ((Fr.refl NoB wt).alloc (.cells #[.int .i64 (ix : Nat)] 3)) (fun j h => h.elim) hN9 HB.out
                    replace hSd := hSd.fr ((Fr.refl NoB wt).alloc (.cells #[.int .i64 (ix : Nat)] 3)) id
                    replace hOd := hOd.alloc (.cells #[.int .i64 (ix : Nat)] 3)
                    go_simp
                    refine wpAnyIn_all (rs := [1]) (by decide +kernel) (by simp) ?_
                    intro i hi
                    simp only [List.mem_cons, List.not_mem_nil, or_false] at hi
                    subst hi
                    have qx := hSd.c5
                    refine wpOpIn_run (v := .slice A5 k c5) (w' := (wt.alloc (.cells #[.int .i64 (ix : Nat)] 3))) rfl (by kernel_rfl) (fun f hf => by simp [Oper.about] at hf) (fun c hc => by cases hc) (by go_simp) ?_
                    clear qx
                    go_simp
                    refine wpAnyIn_all (rs := [6]) (by decide +kernel) (by simp) ?_
                    intro i hi
                    simp only [List.mem_cons, List.not_mem_nil, or_false] at hi
                    subst hi
                    refine wpOpIn_app el_int rfl (by kernel_rfl) (.tmp 45) (.tmp 49) rfl A5 k c5 _ rfl hOd _ _ 1 1 _ rfl (Arr.one _ _ _) (by simp [Value.oneCell']) (by omega) ?_
                    intro A6 c6 wa hOa hfa hina
                    have hga : ¬ inB A5 g10 := fun h => by have := hA5 g10 h; omega
                    replace hSd := hSd.fr hfa hga
                    replace hKd := hKd.fr hfa (fun j h => .inr (by have := hA5 j h; omega)) hN9 HB.out
                    go_simp
                    refine wpAnyIn_all (rs := [7]) (by decide +kernel) (by simp) ?_
                    intro i hi
                    simp only [List.mem_cons, List.not_mem_nil, or_false] at hi
                    subst hi
                    refine wpOpIn_run (v := .pointer (some ⟨g10, 5, none⟩)) (w' := wa) rfl (by kernel_rfl) (fun f hf => by simp [Oper.about] at hf) (fun c hc => by cases hc) (by go_simp) ?_
                    go_simp
                    refine wpAnyIn_all (rs := [8]) (by decide +kernel) (by simp) ?_
                    intro i hi
                    simp only [List.mem_cons, List.not_mem_nil, or_false] at hi
                    subst hi
                    have qx := hSd.c5
                    have qy := hSd.blk.frozen 5
                    refine wpOpIn_skip (w' := wa.setCell ⟨g10, 5, none⟩ (.slice A6 (k + 1) c6)) rfl (by kernel_rfl) (fun f hf => by simp [Oper.about] at hf) (fun c hc => by cases hc) (by go_simp) ?_
                    clear qx qy
                    go_simp
                    refine wpAnyIn_done (by decide +kernel) ?_ _
                    have sz1 := hft.size
                    have sz2 := hfa.size
                    simp only [World.size_alloc] at sz2 hina
                    have hfg : Fr (· = g10) wa (wa.setCell ⟨g10, 5, none⟩ (.slice A6 (k + 1) c6)) := (Fr.refl _ _).at_ _ _
                    have hfT : Fr (fun j => j = B + 3 ∨ j = g10 ∨ inB A5 j) w7 (wa.setCell ⟨g10, 5, none⟩ (.slice A6 (k + 1) c6)) := ((((hfd.mono (S' := fun j => j = B + 3 ∨ j = g10 ∨ inB A5 j) fun _ _ h => h.elim).trans hft fun _ _ h => .inl h).alloc (.cells #[.int .i64 (ix : Nat)] 3)).trans hfa fun _ _ h => .inr (.inr h)).trans hfg fun _ _ h => .inr (.inl h)
                    have hina2 : ∀ j, inB A6 j → N6 ≤ j := fun j hj => (hina j hj).elim (hA5 j) fun h => by omega
                    have hM2 := ((hMt.fr ((Fr.refl NoB wt).alloc (.cells #[.int .i64 (ix : Nat)] 3)) id).fr hfa (fun h => by have := hA5 _ h; omega)).fr hfg (by omega)
                    have hO2 : Own (wa.setCell ⟨g10, 5, none⟩ (.slice A6 (k + 1) c6)) 3 1 A6 (k + 1) c6 ((linkAcc p0.2 (e0.links.take (k + 1))).1.map (Value.int .i64)) := by
                      rw [Hstep.out]
                      show Own _ _ _ _ _ _ ((p1.1 ++ [((p1.2.idxOf x : Nat) : Int)]).map (Value.int .i64))
                      rw [← Hix.out, List.map_append]
                      exact hOa.fr hfg fun j hj h => by have := hina2 j hj; omega
                    gi_wp2
                    go_roundw
                    case rel => exact ⟨k + 1, A6, c6, by omega, by go_num, hKd.fr hfg (fun j h => .inr (by omega)) hN9 HB.out, by rw [Hstep.out]; exact hM2, hSd.s5 A6 (k + 1) c6, hO2, hina2, hL.fr hfT (fun j hj h => by rcases h with h | h | h; omega; omega; (have := hA5 j h; omega)) (fun _ _ _ h => h), hT.new hfT (fun j hj => by rcases hj with h | h | h; exact .inl h; exact .inr (by have := HN.out; omega); exact .inr (by have := HN.out; have := hA5 j h; omega)), by have := hfT.size; omega⟩
                    case measure => (simp [intOf] <;> omega)
            · refine wpOpIn_run (v := .agg xi.toArray) (w' := w8.drew) rfl (by kernel_rfl) (fun f hf => by simp [Oper.about] at hf) (fun c hc => by cases hc) (exec_load_agg 74 (.tmp 12) rfl g12 0 rfl xi _ hall12 Try.underlying74 rfl (by rw [Hx.out]; exact id_size)) ?_
              go_simp
              refine wpAnyIn_all (rs := [0, 4]) (by decide +kernel) (by simp) ?_
              intro i hi
              simp only [List.mem_cons, List.not_mem_nil, or_false] at hi
              rcases hi with rfl | rfl
              · refine wpOpIn_run (v := .pointer (some ⟨g10, 5, none⟩)) (w' := w8.drew) rfl (by kernel_rfl) (fun f hf => by simp [Oper.about] at hf) (fun c hc => by cases hc) (by go_simp) ?_
                go_simp
                refine wpAnyIn_all (rs := [1, 4]) (by decide +kernel) (by simp) ?_
                intro i hi
                simp only [List.mem_cons, List.not_mem_nil, or_false] at hi
                rcases hi with rfl | rfl
                · have qx := hSd.c5
                  refine wpOpIn_run (v := .slice A5 k c5) (w' := w8.drew) rfl (by kernel_rfl) (fun f hf => by simp [Oper.about] at hf) (fun c hc => by cases hc) (by go_simp) ?_
                  clear qx
                  go_simp
                  refine wpAnyIn_all (rs := [4]) (by decide +kernel) (by simp) ?_
                  intro i hi
                  simp only [List.mem_cons, List.not_mem_nil, or_false] at hi
                  subst hi
                  refine wpOpIn_step rfl ?_
                  intro K' hK'
                  gi_wp2_with fail
                  refine ⟨trivial, ?_⟩
                  refine (callsIn_wide.2 hcall).mono ?_
                  rintro e2 wt ⟨rfl, hMt, hft⟩
                  refine hK' _ _ ?_
                  clear hK'
                  replace hKd := hKd.fr hft (fun j h => .inl h) hN9 HB.out
                  replace hSd := hSd.fr hft (by omega)
                  replace hOd := hOd.fr hft (fun j hj h => by have := hA5 j hj; omega)
                  go_simp
                  refine wpAnyIn_all (rs := [5]) (by decide +kernel) (by simp) ?_
                  intro i hi
                  simp only [List.mem_cons, List.not_mem_nil, or_false] at hi
                  subst hi
                  refine wpOpIn_run (v := .slice (some ⟨wt.heap.size, 0, none⟩) 1 1) (w' := wt.alloc (.cells #[.int .i64 (ix : Nat)] 3)) rfl (by kernel_rfl) (fun f hf => by simp [Oper.about] at hf) (fun c hc => by cases hc) (by go_simp) ?_
                  replace hKd := hKd.fr ((Fr.refl NoB wt).alloc (.cells #[.int .i64 (ix : Nat)] 3)) (fun j h => h.elim) hN9 HB.out
                  replace hSd := hSd.fr ((Fr.refl NoB wt).alloc (.cells #[.int .i64 (ix : Nat)] 3)) id
                  replace hOd := hOd.alloc (.cells #[.int .i64 (ix : Nat)] 3)
                  go_simp
                  refine wpAnyIn_all (rs := [6]) (by decide +kernel) (by simp) ?_
                  intro i hi
                  simp only [List.mem_cons, List.not_mem_nil, or_false] at hi
                  subst hi
                  refine wpOpIn_app el_int rfl (by kernel_rfl) (.tmp 45) (.tmp 49) rfl A5 k c5 _ rfl hOd _ _ 1 1 _ rfl (Arr.one _ _ _) (by simp [Value.oneCell']) (by omega) ?_
                  intro A6 c6 wa hOa hfa hina
                  have hga : ¬ inB A5 g10 := fun h => by have := hA5 g10 h; omega
                  replace hSd := hSd.fr hfa hga
                  replace hKd := hKd.fr hfa (fun j h => .inr (by have := hA5 j h; omega)) hN9 HB.out
                  go_simp
                  refine wpAnyIn_all (rs := [7]) (by decide +kernel) (by simp) ?_
                  intro i hi
                  simp only [List.mem_cons, List.not_mem_nil, or_false] at hi
                  subst hi
                  refine wpOpIn_run (v := .pointer (some ⟨g10, 5, none⟩)) (w' := wa) rfl (by kernel_rfl) (fun f hf => by simp [Oper.about] at hf) (fun c hc => by cases hc) (by go_simp) ?_
                  go_simp
                  refine wpAnyIn_all (rs := [8]) (by decide +kernel) (by simp) ?_
                  intro i hi
                  simp only [List.mem_cons, List.not_mem_nil, or_false] at hi
                  subst hi
                  have qx := hSd.c5
                  have qy := hSd.blk.frozen 5
                  refine wpOpIn_skip (w' := wa.setCell ⟨g10, 5, none⟩ (.slice A6 (k + 1) c6)) rfl (by kernel_rfl) (fun f hf => by simp [Oper.about] at hf) (fun c hc => by cases hc) (by go_simp) ?_
                  clear qx qy
                  go_simp
                  refine wpAnyIn_done (by decide +kernel) ?_ _
                  have sz1 := hft.size
                  have sz2 := hfa.size
                  simp only [World.size_alloc] at sz2 hina
                  have hfg : Fr (· = g10) wa (wa.setCell ⟨g10, 5, none⟩ (.slice A6 (k + 1) c6)) := (Fr.refl _ _).at_ _ _
                  have hfT : Fr (fun j => j = B + 3 ∨ j = g10 ∨ inB A5 j) w7 (wa.setCell ⟨g10, 5, none⟩ (.slice A6 (k + 1) c6)) := ((((hfd.mono (S' := fun j => j = B + 3 ∨ j = g10 ∨ inB A5 j) fun _ _ h => h.elim).trans hft fun _ _ h => .inl h).alloc (.cells #[.int .i64 (ix : Nat)] 3)).trans hfa fun _ _ h => .inr (.inr h)).trans hfg fun _ _ h => .inr (.inl h)
                  have hina2 : ∀ j, inB A6 j → N6 ≤ j := fun j hj => (hina j hj).elim (hA5 j) fun h => by omega
                  have hM2 := ((hMt.fr ((Fr.refl NoB wt).alloc (.cells #[.int .i64 (ix : Nat)] 3)) id).fr hfa (fun h => by have := hA5 _ h; omega)).fr hfg (by omega)
                  have hO2 : Own (wa.setCell ⟨g10, 5, none⟩ (.slice A6 (k + 1) c6)) 3 1 A6 (k + 1) c6 ((linkAcc p0.2 (e0.links.take (k + 1))).1.map (Value.int .i64)) := by
                    rw [Hstep.out]
                    show Own _ _ _ _ _ _ ((p1.1 ++ [((p1.2.idxOf x : Nat) : Int)]).map (Value.int .i64))
                    rw [← Hix.out, List.map_append]
                    exact hOa.fr hfg fun j hj h => by have := hina2 j hj; omega
                  gi_wp2
                  go_roundw
                  case rel => exact ⟨k + 1, A6, c6, by omega, by go_num, hKd.fr hfg (fun j h => .inr (by omega)) hN9 HB.out, by rw [Hstep.out]; exact hM2, hSd.s5 A6 (k + 1) c6, hO2, hina2, hL.fr hfT (fun j hj h => by rcases h with h | h | h; omega; omega; (have := hA5 j h; omega)) (fun _ _ _ h => h), hT.new hfT (fun j hj => by rcases hj with h | h | h; exact .inl h; exact .inr (by have := HN.out; omega); exact .inr (by have := HN.out; have := hA5 j h; omega)), by have := hfT.size; omega⟩
                  case measure => (simp [intOf] <;> omega)
                · refine wpOpIn_step rfl ?_
                  intro K' hK'
                  gi_wp2_with fail
                  refine ⟨trivial, ?_⟩
                  refine (callsIn_wide.2 hcall).mono ?_
                  rintro e2 wt ⟨rfl, hMt, hft⟩
                  refine hK' _ _ ?_
                  clear hK'
                  replace hKd := hKd.fr hft (fun j h => .inl h) hN9 HB.out
                  replace hSd := hSd.fr hft (by omega)
                  replace hOd := hOd.fr hft (fun j hj h => by have := hA5 j hj; omega)
                  go_simp
                  refine wpAnyIn_all (rs := [1, 5]) (by decide +kernel) (by simp) ?_
                  intro i hi
                  simp only [List.mem_cons, List.not_mem_nil, or_false] at hi
                  rcases hi with rfl | rfl
                  · have qx := hSd.c5
                    refine wpOpIn_run (v := .slice A5 k c5) (w' := wt) rfl (by kernel_rfl) (fun f hf => by simp [Oper.about] at hf) (fun c hc => by cases hc) (by go_simp) ?_
                    clear qx
                    go_simp
                    refine wpAnyIn_all (rs := [5]) (by decide +kernel) (by simp) ?_
                    intro i hi
                    simp only [List.mem_cons, List.not_mem_nil, or_false] at hi
                    subst hi
                    refine wpOpIn_run (v := .slice (some ⟨wt.heap.size, 0, none⟩) 1 1) (w' := wt.alloc (.cells #[.int .i64 (ix : Nat)] 3)) rfl (by kernel_rfl) (fun f hf => by simp [Oper.about] at hf) (fun c hc => by cases hc) (by go_simp) ?_
                    replace hKd := hKd.fr ((Fr.refl NoB wt).alloc (.cells #[.int .i64 (ix : Nat)] 3)) (fun j h => h.elim) hN9 HB.out
                    replace hSd := hSd.fr ((Fr.refl NoB wt).alloc (.cells #[.int .i64 (ix : Nat)] 3)) id
                    replace hOd := hOd.alloc (.cells #[.int .i64 (ix : Nat)] 3)
                    go_simp
                    refine wpAnyIn_all (rs := [6]) (by decide +kernel) (by simp) ?_
                    intro i hi
                    simp only [List.mem_cons, List.not_mem_nil, or_false] at hi
                    subst hi
                    refine wpOpIn_app el_int rfl (by kernel_rfl) (.tmp 45) (.tmp 49) rfl A5 k c5 _ rfl hOd _ _ 1 1 _ rfl (Arr.one _ _ _) (by simp [Value.oneCell']) (by omega) ?_
                    intro A6 c6 wa hOa hfa hina
                    have hga : ¬ inB A5 g10 := fun h => by have := hA5 g10 h; omega
                    replace hSd := hSd.fr hfa hga
                    replace hKd := hKd.fr hfa (fun j h => .inr (by have := hA5 j h; omega)) hN9 HB.out
                    go_simp
                    refine wpAnyIn_all (rs := [7]) (by decide +kernel) (by simp) ?_
                    intro i hi
                    simp only [List.mem_cons, List.not_mem_nil, or_false] at hi
                    subst hi
                    refine wpOpIn_run (v := .pointer (some ⟨g10, 5, none⟩)) (w' := wa) rfl (by kernel_rfl) (fun f hf => by simp [Oper.about] at hf) (fun c hc => by cases hc) (by go_simp) ?_
                    go_simp
                    refine wpAnyIn_all (rs := [8]) (by decide +kernel) (by simp) ?_
                    intro i hi
                    simp only [List.mem_cons, List.not_mem_nil, or_false] at hi
                    subst hi
                    have qx := hSd.c5
                    have qy := hSd.blk.frozen 5
                    refine wpOpIn_skip (w' := wa.setCell ⟨g10, 5, none⟩ (.slice A6 (k + 1) c6)) rfl (by kernel_rfl) (fun f hf => by simp [Oper.about] at hf) (fun c hc => by cases hc) (by go_simp) ?_
                    clear qx qy
                    go_simp
                    refine wpAnyIn_done (by decide +kernel) ?_ _
                    have sz1 := hft.size
                    have sz2 := hfa.size
                    simp only [World.size_alloc] at sz2 hina
                    have hfg : Fr (· = g10) wa (wa.setCell ⟨g10, 5, none⟩ (.slice A6 (k + 1) c6)) := (Fr.refl _ _).at_ _ _
                    have hfT : Fr (fun j => j = B + 3 ∨ j = g10 ∨ inB A5 j) w7 (wa.setCell ⟨g10, 5, none⟩ (.slice A6 (k + 1) c6)) := ((((hfd.mono (S' := fun j => j = B + 3 ∨ j = g10 ∨ inB A5 j) fun _ _ h => h.elim).trans hft fun _ _ h => .inl h).alloc (.cells #[.int .i64 (ix : Nat)] 3)).trans hfa fun _ _ h => .inr (.inr h)).trans hfg fun _ _ h => .inr (.inl h)
                    have hina2 : ∀ j, inB A6 j → N6 ≤ j := fun j hj => (hina j hj).elim (hA5 j) fun h => by omega
                    have hM2 := ((hMt.fr ((Fr.refl NoB wt).alloc (.cells #[.int .i64 (ix : Nat)] 3)) id).fr hfa (fun h => by have := hA5 _ h; omega)).fr hfg (by omega)
                    have hO2 : Own (wa.setCell ⟨g10, 5, none⟩ (.slice A6 (k + 1) c6)) 3 1 A6 (k + 1) c6 ((linkAcc p0.2 (e0.links.take (k + 1))).1.map (Value.int .i64)) := by
                      rw [Hstep.out]
                      show Own _ _ _ _ _ _ ((p1.1 ++ [((p1.2.idxOf x : Nat) : Int)]).map (Value.int .i64))
                      rw [← Hix.out, List.map_append]
                      exact hOa.fr hfg fun j hj h => by have := hina2 j hj; omega
                    gi_wp2
                    go_roundw
                    case rel => exact ⟨k + 1, A6, c6, by omega, by go_num, hKd.fr hfg (fun j h => .inr (by omega)) hN9 HB.out, by rw [Hstep.out]; exact hM2, hSd.s5 A6 (k + 1) c6, hO2, hina2, hL.fr hfT (fun j hj h => by rcases h with h | h | h; omega; omega; (have := hA5 j h; omega)) (fun _ _ _ h => h), hT.new hfT (fun j hj => by rcases hj with h | h | h; exact .inl h; exact .inr (by have := HN.out; omega); exact .inr (by have := HN.out; have := hA5 j h; omega)), by have := hfT.size; omega⟩
                    case measure => (simp [intOf] <;> omega)
                  · refine wpOpIn_run (v := .slice (some ⟨wt.heap.size, 0, none⟩) 1 1) (w' := wt.alloc (.cells #[.int .i64 (ix : Nat)] 3)) rfl (by kernel_rfl) (fun f hf => by simp [Oper.about] at hf) (fun c hc => by cases hc) (by go_simp) ?_
                    replace hKd := hKd.fr ((Fr.refl NoB wt).alloc (.cells #[.int .i64 (ix : Nat)] 3)) (fun j h => h.elim) hN9 HB.out
                    replace hSd := hSd.fr ((Fr.refl NoB wt).alloc (.cells #[.int .i64 (ix : Nat)] 3)) id
                    replace hOd := hOd.alloc (.cells #[.int .i64 (ix : Nat)] 3)
                    go_simp
                    refine wpAnyIn_all (rs := [1]) (by decide +kernel) (by simp) ?_
                    intro i hi
                    simp only [List.mem_cons, List.not_mem_nil, or_false] at hi
                    subst hi
                    have qx := hSd.c5
                    refine wpOpIn_run (v := .slice A5 k c5) (w' := (wt.alloc (.cells #[.int .i64 (ix : Nat)] 3))) rfl (by kernel_rfl) (fun f hf => by simp [Oper.about] at hf) (fun c hc => by cases hc) (by go_simp) ?_
                    clear qx
                    go_simp
                    refine wpAnyIn_all (rs := [6]) (by decide +kernel) (by simp) ?_
                    intro i hi
                    simp only [List.mem_cons, List.not_mem_nil, or_false] at hi
                    subst hi
                    refine wpOpIn_app el_int rfl (by kernel_rfl) (.tmp 45) (.tmp 49) rfl A5 k c5 _ rfl hOd _ _ 1 1 _ rfl (Arr.one _ _ _) (by simp [Value.oneCell']) (by omega) ?_
                    intro A6 c6 wa hOa hfa hina
                    have hga : ¬ inB A5 g10 := fun h => by have := hA5 g10 h; omega
                    replace hSd := hSd.fr hfa hga
                    replace hKd := hKd.fr hfa (fun j h => .inr (by have := hA5 j h; omega)) hN9 HB.out
                    go_simp
                    refine wpAnyIn_all (rs := [7]) (by decide +kernel) (by simp) ?_
                    intro i hi
                    simp only [List.mem_cons, List.not_mem_nil, or_false] at hi
                    subst hi
                    refine wpOpIn_run (v := .pointer (some ⟨g10, 5, none⟩)) (w' := wa) rfl (by kernel_rfl) (fun f hf => by simp [Oper.about] at hf) (fun c hc => by cases hc) (by go_simp) ?_
                    go_simp
                    refine wpAnyIn_all (rs := [8]) (by decide +kernel) (by simp) ?_
                    intro i hi
                    simp only [List.mem_cons, List.not_mem_nil, or_false] at hi
                    subst hi
                    have qx := hSd.c5
                    have qy := hSd.blk.frozen 5
                    refine wpOpIn_skip (w' := wa.setCell ⟨g10, 5, none⟩ (.slice A6 (k + 1) c6)) rfl (by kernel_rfl) (fun f hf => by simp [Oper.about] at hf) (fun c hc => by cases hc) (by go_simp) ?_
                    clear qx qy
                    go_simp
                    refine wpAnyIn_done (by decide +kernel) ?_ _
                    have sz1 := hft.size
                    have sz2 := hfa.size
                    simp only [World.size_alloc] at sz2 hina
                    have hfg : Fr (· = g10) wa (wa.setCell ⟨g10, 5, none⟩ (.slice A6 (k + 1) c6)) := (Fr.refl _ _).at_ _ _
                    have hfT : Fr (fun j => j = B + 3 ∨ j = g10 ∨ inB A5 j) w7 (wa.setCell ⟨g10, 5, none⟩ (.slice A6 (k + 1) c6)) := ((((hfd.mono (S' := fun j => j = B + 3 ∨ j = g10 ∨ inB A5 j) fun _ _ h => h.elim).trans hft fun _ _ h => .inl h).alloc (.cells #[.int .i64 (ix : Nat)] 3)).trans hfa fun _ _ h => .inr (.inr h)).trans hfg fun _ _ h => .inr (.inl h)
                    have hina2 : ∀ j, inB A6 j → N6 ≤ j := fun j hj => (hina j hj).elim (hA5 j) fun h => by omega
                    have hM2 := ((hMt.fr ((Fr.refl NoB wt).alloc (.cells #[.int .i64 (ix : Nat)] 3)) id).fr hfa (fun h => by have := hA5 _ h; omega)).fr hfg (by omega)
                    have hO2 : Own (wa.setCell ⟨g10, 5, none⟩ (.slice A6 (k + 1) c6)) 3 1 A6 (k + 1) c6 ((linkAcc p0.2 (e0.links.take (k + 1))).1.map (Value.int .i64)) := by
                      rw [Hstep.out]
                      show Own _ _ _ _ _ _ ((p1.1 ++ [((p1.2.idxOf x : Nat) : Int)]).map (Value.int .i64))
                      rw [← Hix.out, List.map_append]
                      exact hOa.fr hfg fun j hj h => by have := hina2 j hj; omega
                    gi_wp2
                    go_roundw
                    case rel => exact ⟨k + 1, A6, c6, by omega, by go_num, hKd.fr hfg (fun j h => .inr (by omega)) hN9 HB.out, by rw [Hstep.out]; exact hM2, hSd.s5 A6 (k + 1) c6, hO2, hina2, hL.fr hfT (fun j hj h => by rcases h with h | h | h; omega; omega; (have := hA5 j h; omega)) (fun _ _ _ h => h), hT.new hfT (fun j hj => by rcases hj with h | h | h; exact .inl h; exact .inr (by have := HN.out; omega); exact .inr (by have := HN.out; have := hA5 j h; omega)), by have := hfT.size; omega⟩
                    case measure => (simp [intOf] <;> omega)
              · refine wpOpIn_step rfl ?_
                intro K' hK'
                gi_wp2_with fail
                refine ⟨trivial, ?_⟩
                refine (callsIn_wide.2 hcall).mono ?_
                rintro e2 wt ⟨rfl, hMt, hft⟩
                refine hK' _ _ ?_
                clear hK'
                replace hKd := hKd.fr hft (fun j h => .inl h) hN9 HB.out
                replace hSd := hSd.fr hft (by omega)
                replace hOd := hOd.fr hft (fun j hj h => by have := hA5 j hj; omega)
                go_simp
                refine wpAnyIn_all (rs := [0, 5]) (by decide +kernel) (by simp) ?_
                intro i hi
                simp only [List.mem_cons, List.not_mem_nil, or_false] at hi
                rcases hi with rfl | rfl
                · refine wpOpIn_run (v := .pointer (some ⟨g10, 5, none⟩)) (w' := wt) rfl (by kernel_rfl) (fun f hf => by simp [Oper.about] at hf) (fun c hc => by cases hc) (by go_simp) ?_
                  go_simp
                  refine wpAnyIn_all (rs := [1, 5]) (by decide +kernel) (by simp) ?_
                  intro i hi
                  simp only [List.mem_cons, List.not_mem_nil, or_false] at hi
                  rcases hi with rfl | rfl
                  · have qx := hSd.c5
                    refine wpOpIn_run (v := .slice A5 k c5) (w' := wt) rfl (by kernel_rfl) (fun f hf => by simp [Oper.about] at hf) (fun c hc => by cases hc) (by go_simp) ?_
                    clear qx
                    go_simp
                    refine wpAnyIn_all (rs := [5]) (by decide +kernel) (by simp) ?_
                    intro i hi
                    simp only [List.mem_cons, List.not_mem_nil, or_false] at hi
                    subst hi
                    refine wpOpIn_run (v := .slice (some ⟨wt.heap.size, 0, none⟩) 1 1) (w' := wt.alloc (.cells #[.int .i64 (ix : Nat)] 3)) rfl (by kernel_rfl) (fun f hf => by simp [Oper.about] at hf) (fun c hc => by cases hc) (by go_simp) ?_
                    replace hKd := hKd.fr ((Fr.refl NoB wt).alloc (.cells #[.int .i64 (ix : Nat)] 3)) (fun j h => h.elim) hN9 HB.out
                    replace hSd := hSd.fr ((Fr.refl NoB wt).alloc (.cells #[.int .i64 (ix : Nat)] 3)) id
                    replace hOd := hOd.alloc (.cells #[.int .i64 (ix : Nat)] 3)
                    go_simp
                    refine wpAnyIn_all (rs := [6]) (by decide +kernel) (by simp) ?_
                    intro i hi
                    simp only [List.mem_cons, List.not_mem_nil, or_false] at hi
                    subst hi
                    refine wpOpIn_app el_int rfl (by kernel_rfl) (.tmp 45) (.tmp 49) rfl A5 k c5 _ rfl hOd _ _ 1 1 _ rfl (Arr.one _ _ _) (by simp [Value.oneCell']) (by omega) ?_
                    intro A6 c6 wa hOa hfa hina
                    have hga : ¬ inB A5 g10 := fun h => by have := hA5 g10 h; omega
                    replace hSd := hSd.fr hfa hga
                    replace hKd := hKd.fr hfa (fun j h => .inr (by have := hA5 j h; omega)) hN9 HB.out
                    go_simp
                    refine wpAnyIn_all (rs := [7]) (by decide +kernel) (by simp) ?_
                    intro i hi
                    simp only [List.mem_cons, List.not_mem_nil, or_false] at hi
                    subst hi
                    refine wpOpIn_run (v := .pointer (some ⟨g10, 5, none⟩)) (w' := wa) rfl (by kernel_rfl) (fun f hf => by simp [Oper.about] at hf) (fun c hc => by cases hc) (by go_simp) ?_
                    go_simp
                    refine wpAnyIn_all (rs := [8]) (by decide +kernel) (by simp) ?_
                    intro i hi
                    simp only [List.mem_cons, List.not_mem_nil, or_false] at hi
                    subst hi
                    have qx := hSd.c5
                    have qy := hSd.blk.frozen 5
                    refine wpOpIn_skip (w' := wa.setCell ⟨g10, 5, none⟩ (.slice A6 (k + 1) c6)) rfl (by kernel_rfl) (fun f hf => by simp [Oper.about] at hf) (fun c hc => by cases hc) (by go_simp) ?_
                    clear qx qy
                    go_simp
                    refine wpAnyIn_done (by decide +kernel) ?_ _
                    have sz1 := hft.size
                    have sz2 := hfa.size
                    simp only [World.size_alloc] at sz2 hina
                    have hfg : Fr (· = g10) wa (wa.setCell ⟨g10, 5, none⟩ (.slice A6 (k + 1) c6)) := (Fr.refl _ _).at_ _ _
                    have hfT : Fr (fun j => j = B + 3 ∨ j = g10 ∨ inB A5 j) w7 (wa.setCell ⟨g10, 5, none⟩ (.slice A6 (k + 1) c6)) := ((((hfd.mono (S' := fun j => j = B + 3 ∨ j = g10 ∨ inB A5 j) fun _ _ h => h.elim).trans hft fun _ _ h => .inl h).alloc (.cells #[.int .i64 (ix : Nat)] 3)).trans hfa fun _ _ h => .inr (.inr h)).trans hfg fun _ _ h => .inr (.inl h)
                    have hina2 : ∀ j, inB A6 j → N6 ≤ j := fun j hj => (hina j hj).elim (hA5 j) fun h => by omega
                    have hM2 := ((hMt.fr ((Fr.refl NoB wt).alloc (.cells #[.int .i64 (ix : Nat)] 3)) id).fr hfa (fun h => by have := hA5 _ h; omega)).fr hfg (by omega)
                    have hO2 : Own (wa.setCell ⟨g10, 5, none⟩ (.slice A6 (k + 1) c6)) 3 1 A6 (k + 1) c6 ((linkAcc p0.2 (e0.links.take (k + 1))).1.map (Value.int .i64)) := by
                      rw [Hstep.out]
                      show Own _ _ _ _ _ _ ((p1.1 ++ [((p1.2.idxOf x : Nat) : Int)]).map (Value.int .i64))
                      rw [← Hix.out, List.map_append]
                      exact hOa.fr hfg fun j hj h => by have := hina2 j hj; omega
                    gi_wp2
                    go_roundw
                    case rel => exact ⟨k + 1, A6, c6, by omega, by go_num, hKd.fr hfg (fun j h => .inr (by omega)) hN9 HB.out, by rw [Hstep.out]; exact hM2, hSd.s5 A6 (k + 1) c6, hO2, hina2, hL.fr hfT (fun j hj h => by rcases h with h | h | h; omega; omega; (have := hA5 j h; omega)) (fun _ _ _ h => h), hT.new hfT (fun j hj => by rcases hj with h | h | h; exact .inl h; exact .inr (by have := HN.out; omega); exact .inr (by have := HN.out; have := hA5 j h; omega)), by have := hfT.size; omega⟩
                    case measure => (simp [intOf] <;> omega)
                  · refine wpOpIn_run (v := .slice (some ⟨wt.heap.size, 0, none⟩) 1 1) (w' := wt.alloc (.cells #[.int .i64 (ix : Nat)] 3)) rfl (by kernel_rfl) (fun f hf => by simp [Oper.about] at hf) (fun c hc => by cases hc) (by go_simp) ?_
                    replace hKd := hKd.fr ((Fr.refl NoB wt).alloc (.cells #[.int .i64 (ix : Nat)] 3)) (fun j h => h.elim) hN9 HB.out
                    replace hSd := hSd.fr ((Fr.refl NoB wt).alloc (.cells #[.int .i64 (ix : Nat)] 3)) id
                    replace hOd := hOd.alloc (.cells #[.int .i64 (ix : Nat)] 3)
                    go_simp
                    refine wpAnyIn_all (rs := [1]) (by decide +kernel) (by simp) ?_
                    intro i hi
                    simp only [List.mem_cons, List.not_mem_nil, or_false] at hi
                    subst hi
                    have qx := hSd.c5
                    refine wpOpIn_run (v := .slice A5 k c5) (w' := (wt.alloc (.cells #[.int .i64 (ix : Nat)] 3))) rfl (by kernel_rfl) (fun f hf => by simp [Oper.about] at hf) (fun c hc => by cases hc) (by go_simp) ?_
                    clear qx
                    go_simp
                    refine wpAnyIn_all (rs := [6]) (by decide +kernel) (by simp) ?_
                    intro i hi
                    simp only [List.mem_cons, List.not_mem_nil, or_false] at hi
                    subst hi
                    refine wpOpIn_app el_int rfl (by kernel_rfl) (.tmp 45) (.tmp 49) rfl A5 k c5 _ rfl hOd _ _ 1 1 _ rfl (Arr.one _ _ _) (by simp [Value.oneCell']) (by omega) ?_
                    intro A6 c6 wa hOa hfa hina
                    have hga : ¬ inB A5 g10 := fun h => by have := hA5 g10 h; omega
                    replace hSd := hSd.fr hfa hga
                    replace hKd := hKd.fr hfa (fun j h => .inr (by have := hA5 j h; omega)) hN9 HB.out
                    go_simp
                    refine wpAnyIn_all (rs := [7]) (by decide +kernel) (by simp) ?_
                    intro i hi
                    simp only [List.mem_cons, List.not_mem_nil, or_false] at hi
                    subst hi
                    refine wpOpIn_run (v := .pointer (some ⟨g10, 5, none⟩)) (w' := wa) rfl (by kernel_rfl) (fun f hf => by simp [Oper.about] at hf) (fun c hc => by cases hc) (by go_simp) ?_
                    go_simp
                    refine wpAnyIn_all (rs := [8]) (by decide +kernel) (by simp) ?_
                    intro i hi
                    simp only [List.mem_cons, List.not_mem_nil, or_false] at hi
                    subst hi
                    have qx := hSd.c5
                    have qy := hSd.blk.frozen 5
                    refine wpOpIn_skip (w' := wa.setCell ⟨g10, 5, none⟩ (.slice A6 (k + 1) c6)) rfl (by kernel_rfl) (fun f hf => by simp [Oper.about] at hf) (fun c hc => by cases hc) (by go_simp) ?_
                    clear qx qy
                    go_simp
                    refine wpAnyIn_done (by decide +kernel) ?_ _
                    have sz1 := hft.size
                    have sz2 := hfa.size
                    simp only [World.size_alloc] at sz2 hina
                    have hfg : Fr (· = g10) wa (wa.setCell ⟨g10, 5, none⟩ (.slice A6 (k + 1) c6)) := (Fr.refl _ _).at_ _ _
                    have hfT : Fr (fun j => j = B + 3 ∨ j = g10 ∨ inB A5 j) w7 (wa.setCell ⟨g10, 5, none⟩ (.slice A6 (k + 1) c6)) := ((((hfd.mono (S' := fun j => j = B + 3 ∨ j = g10 ∨ inB A5 j) fun _ _ h => h.elim).trans hft fun _ _ h => .inl h).alloc (.cells #[.int .i64 (ix : Nat)] 3)).trans hfa fun _ _ h => .inr (.inr h)).trans hfg fun _ _ h => .inr (.inl h)
                    have hina2 : ∀ j, inB A6 j → N6 ≤ j := fun j hj => (hina j hj).elim (hA5 j) fun h => by omega
                    have hM2 := ((hMt.fr ((Fr.refl NoB wt).alloc (.cells #[.int .i64 (ix : Nat)] 3)) id).fr hfa (fun h => by have := hA5 _ h; omega)).fr hfg (by omega)
                    have hO2 : Own (wa.setCell ⟨g10, 5, none⟩ (.slice A6 (k + 1) c6)) 3 1 A6 (k + 1) c6 ((linkAcc p0.2 (e0.links.take (k + 1))).1.map (Value.int .i64)) := by
                      rw [Hstep.out]
                      show Own _ _ _ _ _ _ ((p1.1 ++ [((p1.2.idxOf x : Nat) : Int)]).map (Value.int .i64))
                      rw [← Hix.out, List.map_append]
                      exact hOa.fr hfg fun j hj h => by have := hina2 j hj; omega
                    gi_wp2
                    go_roundw
                    case rel => exact ⟨k + 1, A6, c6, by omega, by go_num, hKd.fr hfg (fun j h => .inr (by omega)) hN9 HB.out, by rw [Hstep.out]; exact hM2, hSd.s5 A6 (k + 1) c6, hO2, hina2, hL.fr hfT (fun j hj h => by rcases h with h | h | h; omega; omega; (have := hA5 j h; omega)) (fun _ _ _ h => h), hT.new hfT (fun j hj => by rcases hj with h | h | h; exact .inl h; exact .inr (by have := HN.out; omega); exact .inr (by have := HN.out; have := hA5 j h; omega)), by have := hfT.size; omega⟩
                    case measure => (simp [intOf] <;> omega)
                · refine wpOpIn_run (v := .slice (some ⟨wt.heap.size, 0, none⟩) 1 1) (w' := wt.alloc (.cells #[.int .i64 (ix : Nat)] 3)) rfl (by kernel_rfl) (fun f hf => by simp [Oper.about] at hf) (fun c hc => by cases hc) (by go_simp) ?_
                  replace hKd := hKd.fr ((Fr.refl NoB wt).alloc (.cells #[.int .i64 (ix : Nat)] 3)) (fun j h => h.elim) hN9 HB.out
                  replace hSd := hSd.fr ((Fr.refl NoB wt).alloc (.cells #[.int .i64 (ix : Nat)] 3)) id
                  replace hOd := hOd.alloc (.cells #[.int .i64 (ix : Nat)] 3)
                  go_simp
                  refine wpAnyIn_all (rs := [0]) (by decide +kernel) (by simp) ?_
                  intro i hi
                  simp only [List.mem_cons, List.not_mem_nil, or_false] at hi
                  subst hi
                  refine wpOpIn_run (v := .pointer (some ⟨g10, 5, none⟩)) (w' := (wt.alloc (.cells #[.int .i64 (ix : Nat)] 3))) rfl (by kernel_rfl) (fun f hf => by simp [Oper.about] at hf) (fun c hc => by cases hc) (by go_simp) ?_
                  go_simp
                  refine wpAnyIn_all (rs := [1]) (by decide +kernel) (by simp) ?_
                  intro i hi
                  simp only [List.mem_cons, List.not_mem_nil, or_false] at hi
                  subst hi
                  have qx := hSd.c5
                  refine wpOpIn_run (v := .slice A5 k c5) (w' := (wt.alloc (.cells #[.int .i64 (ix : Nat)] 3))) rfl (by kernel_rfl) (fun f hf => by simp [Oper.about] at hf) (fun c hc => by cases hc) (by go_simp) ?_
                  clear qx
                  go_simp
                  refine wpAnyIn_all (rs := [6]) (by decide +kernel) (by simp) ?_
                  intro i hi
                  simp only [List.mem_cons, List.not_mem_nil, or_false] at hi
                  subst hi
                  refine wpOpIn_app el_int rfl (by kernel_rfl) (.tmp 45) (.tmp 49) rfl A5 k c5 _ rfl hOd _ _ 1 1 _ rfl (Arr.one _ _ _) (by simp [Value.oneCell']) (by omega) ?_
                  intro A6 c6 wa hOa hfa hina
                  have hga : ¬ inB A5 g10 := fun h => by have := hA5 g10 h; omega
                  replace hSd := hSd.fr hfa hga
                  replace hKd := hKd.fr hfa (fun j h => .inr (by have := hA5 j h; omega)) hN9 HB.out
                  go_simp
                  refine wpAnyIn_all (rs := [7]) (by decide +kernel) (by simp) ?_
                  intro i hi
                  simp only [List.mem_cons, List.not_mem_nil, or_false] at hi
                  subst hi
                  refine wpOpIn_run (v := .pointer (some ⟨g10, 5, none⟩)) (w' := wa) rfl (by kernel_rfl) (fun f hf => by simp [Oper.about] at hf) (fun c hc => by cases hc) (by go_simp) ?_
                  go_simp
                  refine wpAnyIn_all (rs := [8]) (by decide +kernel) (by simp) ?_
                  intro i hi
                  simp only [List.mem_cons, List.not_mem_nil, or_false] at hi
                  subst hi
                  have qx := hSd.c5
                  have qy := hSd.blk.frozen 5
                  refine wpOpIn_skip (w' := wa.setCell ⟨g10, 5, none⟩ (.slice A6 (k + 1) c6)) rfl (by kernel_rfl) (fun f hf => by simp [Oper.about] at hf) (fun c hc => by cases hc) (by go_simp) ?_
                  clear qx qy
                  go_simp
                  refine wpAnyIn_done (by decide +kernel) ?_ _
                  have sz1 := hft.size
                  have sz2 := hfa.size
                  simp only [World.size_alloc] at sz2 hina
                  have hfg : Fr (· = g10) wa (wa.setCell ⟨g10, 5, none⟩ (.slice A6 (k + 1) c6)) := (Fr.refl _ _).at_ _ _
                  have hfT : Fr (fun j => j = B + 3 ∨ j = g10 ∨ inB A5 j) w7 (wa.setCell ⟨g10, 5, none⟩ (.slice A6 (k + 1) c6)) := ((((hfd.mono (S' := fun j => j = B + 3 ∨ j = g10 ∨ inB A5 j) fun _ _ h => h.elim).trans hft fun _ _ h => .inl h).alloc (.cells #[.int .i64 (ix : Nat)] 3)).trans hfa fun _ _ h => .inr (.inr h)).trans hfg fun _ _ h => .inr (.inl h)
                  have hina2 : ∀ j, inB A6 j → N6 ≤ j := fun j hj => (hina j hj).elim (hA5 j) fun h => by omega
                  have hM2 := ((hMt.fr ((Fr.refl NoB wt).alloc (.cells #[.int .i64 (ix : Nat)] 3)) id).fr hfa (fun h => by have := hA5 _ h; omega)).fr hfg (by omega)
                  have hO2 : Own (wa.setCell ⟨g10, 5, none⟩ (.slice A6 (k + 1) c6)) 3 1 A6 (k + 1) c6 ((linkAcc p0.2 (e0.links.take (k + 1))).1.map (Value.int .i64)) := by
                    rw [Hstep.out]
                    show Own _ _ _ _ _ _ ((p1.1 ++ [((p1.2.idxOf x : Nat) : Int)]).map (Value.int .i64))
                    rw [← Hix.out, List.map_append]
                    exact hOa.fr hfg fun j hj h => by have := hina2 j hj; omega
                  gi_wp2
                  go_roundw
                  case rel => exact ⟨k + 1, A6, c6, by omega, by go_num, hKd.fr hfg (fun j h => .inr (by omega)) hN9 HB.out, by rw [Hstep.out]; exact hM2, hSd.s5 A6 (k + 1) c6, hO2, hina2, hL.fr hfT (fun j hj h => by rcases h with h | h | h; omega; omega; (have := hA5 j h; omega)) (fun _ _ _ h => h), hT.new hfT (fun j hj => by rcases hj with h | h | h; exact .inl h; exact .inr (by have := HN.out; omega); exact .inr (by have := HN.out; have := hA5 j h; omega)), by have := hfT.size; omega⟩
                  case measure => (simp [intOf] <;> omega)
          · refine wpOpIn_run (v := .agg xi.toArray) (w' := w8.drew) rfl (by kernel_rfl) (fun f hf => by simp [Oper.about] at hf) (fun c hc => by cases hc) (exec_load_agg 74 (.tmp 12) rfl g12 0 rfl xi _ hall12 Try.underlying74 rfl (by rw [Hx.out]; exact id_size)) ?_
            go_simp
            refine wpAnyIn_all (rs := [0, 2]) (by decide +kernel) (by simp) ?_
            intro i hi
            simp only [List.mem_cons, List.not_mem_nil, or_false] at hi
            rcases hi with rfl | rfl
            · refine wpOpIn_run (v := .pointer (some ⟨g10, 5, none⟩)) (w' := w8.drew) rfl (by kernel_rfl) (fun f hf => by simp [Oper.about] at hf) (fun c hc => by cases hc) (by go_simp) ?_
              go_simp
              refine wpAnyIn_all (rs := [1, 2]) (by decide +kernel) (by simp) ?_
              intro i hi
              simp only [List.mem_cons, List.not_mem_nil, or_false] at hi
              rcases hi with rfl | rfl
              · have qx := hSd.c5
                refine wpOpIn_run (v := .slice A5 k c5) (w' := w8.drew) rfl (by kernel_rfl) (fun f hf => by simp [Oper.about] at hf) (fun c hc => by cases hc) (by go_simp) ?_
                clear qx
                go_simp
                refine wpAnyIn_all (rs := [2]) (by decide +kernel) (by simp) ?_
                intro i hi
                simp only [List.mem_cons, List.not_mem_nil, or_false] at hi
                subst hi
                have qx := hKd.i4.cell_0
                refine wpOpIn_run (v := .map (some (B + 3))) (w' := w8.drew) rfl (by kernel_rfl) (fun f hf => by simp [Oper.about] at hf) (fun c hc => by cases hc) (by go_simp) ?_
                clear qx
                go_simp
                refine wpAnyIn_all (rs := [4]) (by decide +kernel) (by simp) ?_
                intro i hi
                simp only [List.mem_cons, List.not_mem_nil, or_false] at hi
                subst hi
                refine wpOpIn_step rfl ?_
                intro K' hK'
                gi_wp2_with fail
                refine ⟨trivial, ?_⟩
                refine (callsIn_wide.2 hcall).mono ?_
                rintro e2 wt ⟨rfl, hMt, hft⟩
                refine hK' _ _ ?_
                clear hK'
                replace hKd := hKd.fr hft (fun j h => .inl h) hN9 HB.out
                replace hSd := hSd.fr hft (by omega)
                replace hOd := hOd.fr hft (fun j hj h => by have := hA5 j hj; omega)
                go_simp
                refine wpAnyIn_all (rs := [5]) (by decide +kernel) (by simp) ?_
                intro i hi
                simp only [List.mem_cons, List.not_mem_nil, or_false] at hi
                subst hi
                refine wpOpIn_run (v := .slice (some ⟨wt.heap.size, 0, none⟩) 1 1) (w' := wt.alloc (.cells #[.int .i64 (ix : Nat)] 3)) rfl (by kernel_rfl) (fun f hf => by simp [Oper.about] at hf) (fun c hc => by cases hc) (by go_simp) ?_
                replace hKd := hKd.fr ((Fr.refl NoB wt).alloc (.cells #[.int .i64 (ix : Nat)] 3)) (fun j h => h.elim) hN9 HB.out
                replace hSd := hSd.fr ((Fr.refl NoB wt).alloc (.cells #[.int .i64 (ix : Nat)] 3)) id
                replace hOd := hOd.alloc (.cells #[.int .i64 (ix : Nat)] 3)
                go_simp
                refine wpAnyIn_all (rs := [6]) (by decide +kernel) (by simp) ?_
                intro i hi
                simp only [List.mem_cons, List.not_mem_nil, or_false] at hi
                subst hi
                refine wpOpIn_app el_int rfl (by kernel_rfl) (.tmp 45) (.tmp 49) rfl A5 k c5 _ rfl hOd _ _ 1 1 _ rfl (Arr.one _ _ _) (by simp [Value.oneCell']) (by omega) ?_
                intro A6 c6 wa hOa hfa hina
                have hga : ¬ inB A5 g10 := fun h => by have := hA5 g10 h; omega
                replace hSd := hSd.fr hfa hga
                replace hKd := hKd.fr hfa (fun j h => .inr (by have := hA5 j h; omega)) hN9 HB.out
                go_simp
                refine wpAnyIn_all (rs := [7]) (by decide +kernel) (by simp) ?_
                intro i hi
                simp only [List.mem_cons, List.not_mem_nil, or_false] at hi
                subst hi
                refine wpOpIn_run (v := .pointer (some ⟨g10, 5, none⟩)) (w' := wa) rfl (by kernel_rfl) (fun f hf => by simp [Oper.about] at hf) (fun c hc => by cases hc) (by go_simp) ?_
                go_simp
                refine wpAnyIn_all (rs := [8]) (by decide +kernel) (by simp) ?_
                intro i hi
                simp only [List.mem_cons, List.not_mem_nil, or_false] at hi
                subst hi
                have qx := hSd.c5
                have qy := hSd.blk.frozen 5
                refine wpOpIn_skip (w' := wa.setCell ⟨g10, 5, none⟩ (.slice A6 (k + 1) c6)) rfl (by kernel_rfl) (fun f hf => by simp [Oper.about] at hf) (fun c hc => by cases hc) (by go_simp) ?_
                clear qx qy
                go_simp
                refine wpAnyIn_done (by decide +kernel) ?_ _
                have sz1 := hft.size
                have sz2 := hfa.size
                simp only [World.size_alloc] at sz2 hina
                have hfg : Fr (· = g10) wa (wa.setCell ⟨g10, 5, none⟩ (.slice A6 (k + 1) c6)) := (Fr.refl _ _).at_ _ _
                have hfT : Fr (fun j => j = B + 3 ∨ j = g10 ∨ inB A5 j) w7 (wa.setCell ⟨g10, 5, none⟩ (.slice A6 (k + 1) c6)) := ((((hfd.mono (S' := fun j => j = B + 3 ∨ j = g10 ∨ inB A5 j) fun _ _ h => h.elim).trans hft fun _ _ h => .inl h).alloc (.cells #[.int .i64 (ix : Nat)] 3)).trans hfa fun _ _ h => .inr (.inr h)).trans hfg fun _ _ h => .inr (.inl h)
                have hina2 : ∀ j, inB A6 j → N6 ≤ j := fun j hj => (hina j hj).elim (hA5 j) fun h => by omega
                have hM2 := ((hMt.fr ((Fr.refl NoB wt).alloc (.cells #[.int .i64 (ix : Nat)] 3)) id).fr hfa (fun h => by have := hA5 _ h; omega)).fr hfg (by omega)
                have hO2 : Own (wa.setCell ⟨g10, 5, none⟩ (.slice A6 (k + 1) c6)) 3 1 A6 (k + 1) c6 ((linkAcc p0.2 (e0.links.take (k + 1))).1.map (Value.int .i64)) := by
                  rw [Hstep.out]
                  show Own _ _ _ _ _ _ ((p1.1 ++ [((p1.2.idxOf x : Nat) : Int)]).map (Value.int .i64))
                  rw [← Hix.out, List.map_append]
                  exact hOa.fr hfg fun j hj h => by have := hina2 j hj; omega
                gi_wp2
                go_roundw
                case rel => exact ⟨k + 1, A6, c6, by omega, by go_num, hKd.fr hfg (fun j h => .inr (by omega)) hN9 HB.out, by rw [Hstep.out]; exact hM2, hSd.s5 A6 (k + 1) c6, hO2, hina2, hL.fr hfT (fun j hj h => by rcases h with h | h | h; omega; omega; (have := hA5 j h; omega)) (fun _ _ _ h => h), hT.new hfT (fun j hj => by rcases hj with h | h | h; exact .inl h; exact .inr (by have := HN.out; omega); exact .inr (by have := HN.out; have := hA5 j h; omega)), by have := hfT.size; omega⟩
                case measure => (simp [intOf] <;> omega)
              · have qx := hKd.i4.cell_0
                refine wpOpIn_run (v := .map (some (B + 3))) (w' := w8.drew) rfl (by kernel_rfl) (fun f hf => by simp [Oper.about] at hf) (fun c hc => by cases hc) (by go_simp) ?_
                clear qx
                go_simp
                refine wpAnyIn_all (rs := [1, 4]) (by decide +kernel) (by simp) ?_
                intro i hi
                simp only [List.mem_cons, List.not_mem_nil, or_false] at hi
                rcases hi with rfl | rfl
                · have qx := hSd.c5
                  refine wpOpIn_run (v := .slice A5 k c5) (w' := w8.drew) rfl (by kernel_rfl) (fun f hf => by simp [Oper.about] at hf) (fun c hc => by cases hc) (by go_simp) ?_
                  clear qx
                  go_simp
                  refine wpAnyIn_all (rs := [4]) (by decide +kernel) (by simp) ?_
                  intro i hi
                  simp only [List.mem_cons, List.not_mem_nil, or_false] at hi
                  subst hi
                  refine wpOpIn_step rfl ?_
                  intro K' hK'
                  gi_wp2_with fail
                  refine ⟨trivial, ?_⟩
                  refine (callsIn_wide.2 hcall).mono ?_
                  rintro e2 wt ⟨rfl, hMt, hft⟩
                  refine hK' _ _ ?_
                  clear hK'
                  replace hKd := hKd.fr hft (fun j h => .inl h) hN9 HB.out
                  replace hSd := hSd.fr hft (by omega)
                  replace hOd := hOd.fr hft (fun j hj h => by have := hA5 j hj; omega)
                  go_simp
                  refine wpAnyIn_all (rs := [5]) (by decide +kernel) (by simp) ?_
                  intro i hi
                  simp only [List.mem_cons, List.not_mem_nil, or_false] at hi
                  subst hi
                  refine wpOpIn_run (v := .slice (some ⟨wt.heap.size, 0, none⟩) 1 1) (w' := wt.alloc (.cells #[.int .i64 (ix : Nat)] 3)) rfl (by kernel_rfl) (fun f hf => by simp [Oper.about] at hf) (fun c hc => by cases hc) (by go_simp) ?_
                  replace hKd := hKd.fr ((Fr.refl NoB wt).alloc (.cells #[.int .i64 (ix : Nat)] 3)) (fun j h => h.elim) hN9 HB.out
                  replace hSd := hSd.fr ((Fr.refl NoB wt).alloc (.cells #[.int .i64 (ix : Nat)] 3)) id
                  replace hOd := hOd.alloc (.cells #[.int .i64 (ix : Nat)] 3)
                  go_simp
                  refine wpAnyIn_all (rs := [6]) (by decide +kernel) (by simp) ?_
                  intro i hi
                  simp only [List.mem_cons, List.not_mem_nil, or_false] at hi
                  subst hi
                  refine wpOpIn_app el_int rfl (by kernel_rfl) (.tmp 45) (.tmp 49) rfl A5 k c5 _ rfl hOd _ _ 1 1 _ rfl (Arr.one _ _ _) (by simp [Value.oneCell']) (by omega) ?_
                  intro A6 c6 wa hOa hfa hina
                  have hga : ¬ inB A5 g10 := fun h => by have := hA5 g10 h; omega
                  replace hSd := hSd.fr hfa hga
                  replace hKd := hKd.fr hfa (fun j h => .inr (by have := hA5 j h; omega)) hN9 HB.out
                  go_simp
                  refine wpAnyIn_all (rs := [7]) (by decide +kernel) (by simp) ?_
                  intro i hi
                  simp only [List.mem_cons, List.not_mem_nil, or_false] at hi
                  subst hi
                  refine wpOpIn_run (v := .pointer (some ⟨g10, 5, none⟩)) (w' := wa) rfl (by kernel_rfl) (fun f hf => by simp [Oper.about] at hf) (fun c hc => by cases hc) (by go_simp) ?_
                  go_simp
                  refine wpAnyIn_all (rs := [8]) (by decide +kernel) (by simp) ?_
                  intro i hi
                  simp only [List.mem_cons, List.not_mem_nil, or_false] at hi
                  subst hi
                  have qx := hSd.c5
                  have qy := hSd.blk.frozen 5
                  refine wpOpIn_skip (w' := wa.setCell ⟨g10, 5, none⟩ (.slice A6 (k + 1) c6)) rfl (by kernel_rfl) (fun f hf => by simp [Oper.about] at hf) (fun c hc => by cases hc) (by go_simp) ?_
                  clear qx qy
                  go_simp
                  refine wpAnyIn_done (by decide +kernel) ?_ _
                  have sz1 := hft.size
                  have sz2 := hfa.size
                  simp only [World.size_alloc] at sz2 hina
                  have hfg : Fr (· = g10) wa (wa.setCell ⟨g10, 5, none⟩ (.slice A6 (k + 1) c6)) := (Fr.refl _ _).at_ _ _
                  have hfT : Fr (fun j => j = B + 3 ∨ j = g10 ∨ inB A5 j) w7 (wa.setCell ⟨g10, 5, none⟩ (.slice A6 (k + 1) c6)) := ((((hfd.mono (S' := fun j => j = B + 3 ∨ j = g10 ∨ inB A5 j) fun _ _ h => h.elim).trans hft fun _ _ h => .inl h).alloc (.cells #[.int .i64 (ix : Nat)] 3)).trans hfa fun _ _ h => .inr (.inr h)).trans hfg fun _ _ h => .inr (.inl h)
                  have hina2 : ∀ j, inB A6 j → N6 ≤ j := fun j hj => (hina j hj).elim (hA5 j) fun h => by omega
                  have hM2 := ((hMt.fr ((Fr.refl NoB wt).alloc (.cells #[.int .i64 (ix : Nat)] 3)) id).fr hfa (fun h => by have := hA5 _ h; omega)).fr hfg (by omega)
                  have hO2 : Own (wa.setCell ⟨g10, 5, none⟩ (.slice A6 (k + 1) c6)) 3 1 A6 (k + 1) c6 ((linkAcc p0.2 (e0.links.take (k + 1))).1.map (Value.int .i64)) := by
                    rw [Hstep.out]
                    show Own _ _ _ _ _ _ ((p1.1 ++ [((p1.2.idxOf x : Nat) : Int)]).map (Value.int .i64))
                    rw [← Hix.out, List.map_append]
                    exact hOa.fr hfg fun j hj h => by have := hina2 j hj; omega
                  gi_wp2
                  go_roundw
                  case rel => exact ⟨k + 1, A6, c6, by omega, by go_num, hKd.fr hfg (fun j h => .inr (by omega)) hN9 HB.out, by rw [Hstep.out]; exact hM2, hSd.s5 A6 (k + 1) c6, hO2, hina2, hL.fr hfT (fun j hj h => by rcases h with h | h | h; omega; omega; (have := hA5 j h; omega)) (fun _ _ _ h => h), hT.new hfT (fun j hj => by rcases hj with h | h | h; exact .inl h; exact .inr (by have := HN.out; omega); exact .inr (by have := HN.out; have := hA5 j h; omega)), by have := hfT.size; omega⟩
                  case measure => (simp [intOf] <;> omega)
                · refine wpOpIn_step rfl ?_
                  intro K' hK'
                  gi_wp2_with fail
                  refine ⟨trivial, ?_⟩
                  refine (callsIn_wide.2 hcall).mono ?_
                  rintro e2 wt ⟨rfl, hMt, hft⟩
                  refine hK' _ _ ?_
                  clear hK'
                  replace hKd := hKd.fr hft (fun j h => .inl h) hN9 HB.out
                  replace hSd := hSd.fr hft (by omega)
                  replace hOd := hOd.fr hft (fun j hj h => by have := hA5 j hj; omega)
                  go_simp
                  refine wpAnyIn_all (rs := [1, 5]) (by decide +kernel) (by simp) ?_
                  intro i hi
                  simp only [List.mem_cons, List.not_mem_nil, or_false] at hi
                  rcases hi with rfl | rfl
                  · have qx := hSd.c5
                    refine wpOpIn_run (v := .slice A5 k c5) (w' := wt) rfl (by kernel_rfl) (fun f hf => by simp [Oper.about] at hf) (fun c hc => by cases hc) (by go_simp) ?_
                    clear qx
                    go_simp
                    refine wpAnyIn_all (rs := [5]) (by decide +kernel) (by simp) ?_
                    intro i hi
                    simp only [List.mem_cons, List.not_mem_nil, or_false] at hi
                    subst hi
                    refine wpOpIn_run (v := .slice (some ⟨wt.heap.size, 0, none⟩) 1 1) (w' := wt.alloc (.cells #[.int .i64 (ix : Nat)] 3)) rfl (by kernel_rfl) (fun f hf => by simp [Oper.about] at hf) (fun c hc => by cases hc) (by go_simp) ?_
                    replace hKd := hKd.fr ((Fr.refl NoB wt).alloc (.cells #[.int .i64 (ix : Nat)] 3)) (fun j h => h.elim) hN9 HB.out
                    replace hSd := hSd.fr ((Fr.refl NoB wt).alloc (.cells #[.int .i64 (ix : Nat)] 3)) id
                    replace hOd := hOd.alloc (.cells #[.int .i64 (ix : Nat)] 3)
                    go_simp
                    refine wpAnyIn_all (rs := [6]) (by decide +kernel) (by simp) ?_
                    intro i hi
                    simp only [List.mem_cons, List.not_mem_nil, or_false] at hi
                    subst hi
                    refine wpOpIn_app el_int rfl (by kernel_rfl) (.tmp 45) (.tmp 49) rfl A5 k c5 _ rfl hOd _ _ 1 1 _ rfl (Arr.one _ _ _) (by simp [Value.oneCell']) (by omega) ?_
                    intro A6 c6 wa hOa hfa hina
                    have hga : ¬ inB A5 g10 := fun h => by have := hA5 g10 h; omega
                    replace hSd := hSd.fr hfa hga
                    replace hKd := hKd.fr hfa (fun j h => .inr (by have := hA5 j h; omega)) hN9 HB.out
                    go_simp
                    refine wpAnyIn_all (rs := [7]) (by decide +kernel) (by simp) ?_
                    intro i hi
                    simp only [List.mem_cons, List.not_mem_nil, or_false] at hi
                    subst hi
                    refine wpOpIn_run (v := .pointer (some ⟨g10, 5, none⟩)) (w' := wa) rfl (by kernel_rfl) (fun f hf => by simp [Oper.about] at hf) (fun c hc => by cases hc) (by go_simp) ?_
                    go_simp
                    refine wpAnyIn_all (rs := [8]) (by decide +kernel) (by simp) ?_
                    intro i hi
                    simp only [List.mem_cons, List.not_mem_nil, or_false] at hi
                    subst hi
                    have qx := hSd.c5
                    have qy := hSd.blk.frozen 5
                    refine wpOpIn_skip (w' := wa.setCell ⟨g10, 5, none⟩ (.slice A6 (k + 1) c6)) rfl (by kernel_rfl) (fun f hf => by simp [Oper.about] at hf) (fun c hc => by cases hc) (by go_simp) ?_
                    clear qx qy
                    go_simp
                    refine wpAnyIn_done (by decide +kernel) ?_ _
                    have sz1 := hft.size
                    have sz2 := hfa.size
                    simp only [World.size_alloc] at sz2 hina
                    have hfg : Fr (· = g10) wa (wa.setCell ⟨g10, 5, none⟩ (.slice A6 (k + 1) c6)) := (Fr.refl _ _).at_ _ _
                    have hfT : Fr (fun j => j = B + 3 ∨ j = g10 ∨ inB A5 j) w7 (wa.setCell ⟨g10, 5, none⟩ (.slice A6 (k + 1) c6)) := ((((hfd.mono (S' := fun j => j = B + 3 ∨ j = g10 ∨ inB A5 j) fun _ _ h => h.elim).trans hft fun _ _ h => .inl h).alloc (.cells #[.int .i64 (ix : Nat)] 3)).trans hfa fun _ _ h => .inr (.inr h)).trans hfg fun _ _ h => .inr (.inl h)
                    have hina2 : ∀ j, inB A6 j → N6 ≤ j := fun j hj => (hina j hj).elim (hA5 j) fun h => by omega
                    have hM2 := ((hMt.fr ((Fr.refl NoB wt).alloc (.cells #[.int .i64 (ix : Nat)] 3)) id).fr hfa (fun h => by have := hA5 _ h; omega)).fr hfg (by omega)
                    have hO2 : Own (wa.setCell ⟨g10, 5, none⟩ (.slice A6 (k + 1) c6)) 3 1 A6 (k + 1) c6 ((linkAcc p0.2 (e0.links.take (k + 1))).1.map (Value.int .i64)) := by
                      rw [Hstep.out]
                      show Own _ _ _ _ _ _ ((p1.1 ++ [((p1.2.idxOf x : Nat) : Int)]).map (Value.int .i64))
                      rw [← Hix.out, List.map_append]
                      exact hOa.fr hfg fun j hj h => by have := hina2 j hj; omega
                    gi_wp2
                    go_roundw
                    case rel => exact ⟨k + 1, A6, c6, by omega, by go_num, hKd.fr hfg (fun j h => .inr (by omega)) hN9 HB.out, by rw [Hstep.out]; exact hM2, hSd.s5 A6 (k + 1) c6, hO2, hina2, hL.fr hfT (fun j hj h => by rcases h with h | h | h; omega; omega; (have := hA5 j h; omega)) (fun _ _ _ h => h), hT.new hfT (fun j hj => by rcases hj with h | h | h; exact .inl h; exact .inr (by have := HN.out; omega); exact .inr (by have := HN.out; have := hA5 j h; omega)), by have := hfT.size; omega⟩
                    case measure => (simp [intOf] <;> omega)
                  · refine wpOpIn_run (v := .slice (some ⟨wt.heap.size, 0, none⟩) 1 1) (w' := wt.alloc (.cells #[.int .i64 (ix : Nat)] 3)) rfl (by kernel_rfl) (fun f hf => by simp [Oper.about] at hf) (fun c hc => by cases hc) (by go_simp) ?_
                    replace hKd := hKd.fr ((Fr.refl NoB wt).alloc (.cells #[.int .i64 (ix : Nat)] 3)) (fun j h => h.elim) hN9 HB.out
                    replace hSd := hSd.fr ((Fr.refl NoB wt).alloc (.cells #[.int .i64 (ix : Nat)] 3)) id
                    replace hOd := hOd.alloc (.cells #[.int .i64 (ix : Nat)] 3)
                    go_simp
                    refine wpAnyIn_all (rs := [1]) (by decide +kernel) (by simp) ?_
                    intro i hi
                    simp only [List.mem_cons, List.not_mem_nil, or_false] at hi
                    subst hi
                    have qx := hSd.c5
                    refine wpOpIn_run (v := .slice A5 k c5) (w' := (wt.alloc (.cells #[.int .i64 (ix : Nat)] 3))) rfl (by kernel_rfl) (fun f hf => by simp [Oper.about] at hf) (fun c hc => by cases hc) (by go_simp) ?_
                    clear qx
                    go_simp
                    refine wpAnyIn_all (rs := [6]) (by decide +kernel) (by simp) ?_
                    intro i hi
                    simp only [List.mem_cons, List.not_mem_nil, or_false] at hi
                    subst hi
                    refine wpOpIn_app el_int rfl (by kernel_rfl) (.tmp 45) (.tmp 49) rfl A5 k c5 _ rfl hOd _ _ 1 1 _ rfl (Arr.one _ _ _) (by simp [Value.oneCell']) (by omega) ?_
                    intro A6 c6 wa hOa hfa hina
                    have hga : ¬ inB A5 g10 := fun h => by have := hA5 g10 h; omega
                    replace hSd := hSd.fr hfa hga
                    replace hKd := hKd.fr hfa (fun j h => .inr (by have := hA5 j h; omega)) hN9 HB.out
                    go_simp
                    refine wpAnyIn_all (rs := [7]) (by decide +kernel) (by simp) ?_
                    intro i hi
                    simp only [List.mem_cons, List.not_mem_nil, or_false] at hi
                    subst hi
                    refine wpOpIn_run (v := .pointer (some ⟨g10, 5, none⟩)) (w' := wa) rfl (by kernel_rfl) (fun f hf => by simp [Oper.about] at hf) (fun c hc => by cases hc) (by go_simp) ?_
                    go_simp
                    refine wpAnyIn_all (rs := [8]) (by decide +kernel) (by simp) ?_
                    intro i hi
                    simp only [List.mem_cons, List.not_mem_nil, or_false] at hi
                    subst hi
                    have qx := hSd.c5
                    have qy := hSd.blk.frozen 5
                    refine wpOpIn_skip (w' := wa.setCell ⟨g10, 5, none⟩ (.slice A6 (k + 1) c6)) rfl (by kernel_rfl) (fun f hf => by simp [Oper.about] at hf) (fun c hc => by cases hc) (by go_simp) ?_
                    clear qx qy
                    go_simp
                    refine wpAnyIn_done (by decide +kernel) ?_ _
                    have sz1 := hft.size
                    have sz2 := hfa.size
                    simp only [World.size_alloc] at sz2 hina
                    have hfg : Fr (· = g10) wa (wa.setCell ⟨g10, 5, none⟩ (.slice A6 (k + 1) c6)) := (Fr.refl _ _).at_ _ _
                    have hfT : Fr (fun j => j = B + 3 ∨ j = g10 ∨ inB A5 j) w7 (wa.setCell ⟨g10, 5, none⟩ (.slice A6 (k + 1) c6)) := ((((hfd.mono (S' := fun j => j = B + 3 ∨ j = g10 ∨ inB A5 j) fun _ _ h => h.elim).trans hft fun _ _ h => .inl h).alloc (.cells #[.int .i64 (ix : Nat)] 3)).trans hfa fun _ _ h => .inr (.inr h)).trans hfg fun _ _ h => .inr (.inl h)
                    have hina2 : ∀ j, inB A6 j → N6 ≤ j := fun j hj => (hina j hj).elim (hA5 j) fun h => by omega
                    have hM2 := ((hMt.fr ((Fr.refl NoB wt).alloc (.cells #[.int .i64 (ix : Nat)] 3)) id).fr hfa (fun h => by have := hA5 _ h; omega)).fr hfg (by omega)
                    have hO2 : Own (wa.setCell ⟨g10, 5, none⟩ (.slice A6 (k + 1) c6)) 3 1 A6 (k + 1) c6 ((linkAcc p0.2 (e0.links.take (k + 1))).1.map (Value.int .i64)) := by
                      rw [Hstep.out]
                      show Own _ _ _ _ _ _ ((p1.1 ++ [((p1.2.idxOf x : Nat) : Int)]).map (Value.int .i64))
                      rw [← Hix.out, List.map_append]
                      exact hOa.fr hfg fun j hj h => by have := hina2 j hj; omega
                    gi_wp2
                    go_roundw
                    case rel => exact ⟨k + 1, A6, c6, by omega, by go_num, hKd.fr hfg (fun j h => .inr (by omega)) hN9 HB.out, by rw [Hstep.out]; exact hM2, hSd.s5 A6 (k + 1) c6, hO2, hina2, hL.fr hfT (fun j hj h => by rcases h with h | h | h; omega; omega; (have := hA5 j h; omega)) (fun _ _ _ h => h), hT.new hfT (fun j hj => by rcases hj with h | h | h; exact .inl h; exact .inr (by have := HN.out; omega); exact .inr (by have := HN.out; have := hA5 j h; omega)), by have := hfT.size; omega⟩
                    case measure => (simp [intOf] <;> omega)
            · have qx := hKd.i4.cell_0
              refine wpOpIn_run (v := .map (some (B + 3))) (w' := w8.drew) rfl (by kernel_rfl) (fun f hf => by simp [Oper.about] at hf) (fun c hc => by cases hc) (by go_simp) ?_
              clear qx
              go_simp
              refine wpAnyIn_all (rs := [0, 4]) (by decide +kernel) (by simp) ?_
              intro i hi
              simp only [List.mem_cons, List.not_mem_nil, or_false] at hi
              rcases hi with rfl | rfl
              · refine wpOpIn_run (v := .pointer (some ⟨g10, 5, none⟩)) (w' := w8.drew) rfl (by kernel_rfl) (fun f hf => by simp [Oper.about] at hf) (fun c hc => by cases hc) (by go_simp) ?_
                go_simp
                refine wpAnyIn_all (rs := [1, 4]) (by decide +kernel) (by simp) ?_
                intro i hi
                simp only [List.mem_cons, List.not_mem_nil, or_false] at hi
                rcases hi with rfl | rfl
                · have qx := hSd.c5
                  refine wpOpIn_run (v := .slice A5 k c5) (w' := w8.drew) rfl (by kernel_rfl) (fun f hf => by simp [Oper.about] at hf) (fun c hc => by cases hc) (by go_simp) ?_
                  clear qx
                  go_simp
                  refine wpAnyIn_all (rs := [4]) (by decide +kernel) (by simp) ?_
                  intro i hi
                  simp only [List.mem_cons, List.not_mem_nil, or_false] at hi
                  subst hi
                  refine wpOpIn_step rfl ?_
                  intro K' hK'
                  gi_wp2_with fail
                  refine ⟨trivial, ?_⟩
                  refine (callsIn_wide.2 hcall).mono ?_
                  rintro e2 wt ⟨rfl, hMt, hft⟩
                  refine hK' _ _ ?_
                  clear hK'
                  replace hKd := hKd.fr hft (fun j h => .inl h) hN9 HB.out
                  replace hSd := hSd.fr hft (by omega)
                  replace hOd := hOd.fr hft (fun j hj h => by have := hA5 j hj; omega)
                  go_simp
                  refine wpAnyIn_all (rs := [5]) (by decide +kernel) (by simp) ?_
                  intro i hi
                  simp only [List.mem_cons, List.not_mem_nil, or_false] at hi
                  subst hi
                  refine wpOpIn_run (v := .slice (some ⟨wt.heap.size, 0, none⟩) 1 1) (w' := wt.alloc (.cells #[.int .i64 (ix : Nat)] 3)) rfl (by kernel_rfl) (fun f hf => by simp [Oper.about] at hf) (fun c hc => by cases hc) (by go_simp) ?_
                  replace hKd := hKd.fr ((Fr.refl NoB wt).alloc (.cells #[.int .i64 (ix : Nat)] 3)) (fun j h => h.elim) hN9 HB.out
                  replace hSd := hSd.fr ((Fr.refl NoB wt).alloc (.cells #[.int .i64 (ix : Nat)] 3)) id
                  replace hOd := hOd.alloc (.cells #[.int .i64 (ix : Nat)] 3)
                  go_simp
                  refine wpAnyIn_all (rs := [6]) (by decide +kernel) (by simp) ?_
                  intro i hi
                  simp only [List.mem_cons, List.not_mem_nil, or_false] at hi
                  subst hi
                  refine wpOpIn_app el_int rfl (by kernel_rfl) (.tmp 45) (.tmp 49) rfl A5 k c5 _ rfl hOd _ _ 1 1 _ rfl (Arr.one _ _ _) (by simp [Value.oneCell']) (by omega) ?_
                  intro A6 c6 wa hOa hfa hina
                  have hga : ¬ inB A5 g10 := fun h => by have := hA5 g10 h; omega
                  replace hSd := hSd.fr hfa hga
                  replace hKd := hKd.fr hfa (fun j h => .inr (by have := hA5 j h; omega)) hN9 HB.out
                  go_simp
                  refine wpAnyIn_all (rs := [7]) (by decide +kernel) (by simp) ?_
                  intro i hi
                  simp only [List.mem_cons, List.not_mem_nil, or_false] at hi
                  subst hi
                  refine wpOpIn_run (v := .pointer (some ⟨g10, 5, none⟩)) (w' := wa) rfl (by kernel_rfl) (fun f hf => by simp [Oper.about] at hf) (fun c hc => by cases hc) (by go_simp) ?_
                  go_simp
                  refine wpAnyIn_all (rs := [8]) (by decide +kernel) (by simp) ?_
                  intro i hi
                  simp only [List.mem_cons, List.not_mem_nil, or_false] at hi
                  subst hi
                  have qx := hSd.c5
                  have qy := hSd.blk.frozen 5
                  refine wpOpIn_skip (w' := wa.setCell ⟨g10, 5, none⟩ (.slice A6 (k + 1) c6)) rfl (by kernel_rfl) (fun f hf => by simp [Oper.about] at hf) (fun c hc => by cases hc) (by go_simp) ?_
                  clear qx qy
                  go_simp
                  refine wpAnyIn_done (by decide +kernel) ?_ _
                  have sz1 := hft.size
                  have sz2 := hfa.size
                  simp only [World.size_alloc] at sz2 hina
                  have hfg : Fr (· = g10) wa (wa.setCell ⟨g10, 5, none⟩ (.slice A6 (k + 1) c6)) := (Fr.refl _ _).at_ _ _
                  have hfT : Fr (fun j => j = B + 3 ∨ j = g10 ∨ inB A5 j) w7 (wa.setCell ⟨g10, 5, none⟩ (.slice A6 (k + 1) c6)) := ((((hfd.mono (S' := fun j => j = B + 3 ∨ j = g10 ∨ inB A5 j) fun _ _ h => h.elim).trans hft fun _ _ h => .inl h).alloc (.cells #[.int .i64 (ix : Nat)] 3)).trans hfa fun _ _ h => .inr (.inr h)).trans hfg fun _ _ h => .inr (.inl h)
                  have hina2 : ∀ j, inB A6 j → N6 ≤ j := fun j hj => (hina j hj).elim (hA5 j) fun h => by omega
                  have hM2 := ((hMt.fr ((Fr.refl NoB wt).alloc (.cells #[.int .i64 (ix : Nat)] 3)) id).fr hfa (fun h => by have := hA5 _ h; omega)).fr hfg (by omega)
                  have hO2 : Own (wa.setCell ⟨g10, 5, none⟩ (.slice A6 (k + 1) c6)) 3 1 A6 (k + 1) c6 ((linkAcc p0.2 (e0.links.take (k + 1))).1.map (Value.int .i64)) := by
                    rw [Hstep.out]
                    show Own _ _ _ _ _ _ ((p1.1 ++ [((p1.2.idxOf x : Nat) : Int)]).map (Value.int .i64))
                    rw [← Hix.out, List.map_append]
                    exact hOa.fr hfg fun j hj h => by have := hina2 j hj; omega
                  gi_wp2
                  go_roundw
                  case rel => exact ⟨k + 1, A6, c6, by omega, by go_num, hKd.fr hfg (fun j h => .inr (by omega)) hN9 HB.out, by rw [Hstep.out]; exact hM2, hSd.s5 A6 (k + 1) c6, hO2, hina2, hL.fr hfT (fun j hj h => by rcases h with h | h | h; omega; omega; (have := hA5 j h; omega)) (fun _ _ _ h => h), hT.new hfT (fun j hj => by rcases hj with h | h | h; exact .inl h; exact .inr (by have := HN.out; omega); exact .inr (by have := HN.out; have := hA5 j h; omega)), by have := hfT.size; omega⟩
                  case measure => (simp [intOf] <;> omega)
                · refine wpOpIn_step rfl ?_
                  intro K' hK'
                  gi_wp2_with fail
                  refine ⟨trivial, ?_⟩
                  refine (callsIn_wide.2 hcall).mono ?_
                  rintro e2 wt ⟨rfl, hMt, hft⟩
                  refine hK' _ _ ?_
                  clear hK'
                  replace hKd := hKd.fr hft (fun j h => .inl h) hN9 HB.out
                  replace hSd := hSd.fr hft (by omega)
                  replace hOd := hOd.fr hft (fun j hj h => by have := hA5 j hj; omega)
                  go_simp
                  refine wpAnyIn_all (rs := [1, 5]) (by decide +kernel) (by simp) ?_
                  intro i hi
                  simp only [List.mem_cons, List.not_mem_nil, or_false] at hi
                  rcases hi with rfl | rfl
                  · have qx := hSd.c5
                    refine wpOpIn_run (v := .slice A5 k c5) (w' := wt) rfl (by kernel_rfl) (fun f hf => by simp [Oper.about] at hf) (fun c hc => by cases hc) (by go_simp) ?_
                    clear qx
                    go_simp
                    refine wpAnyIn_all (rs := [5]) (by decide +kernel) (by simp) ?_
                    intro i hi
                    simp only [List.mem_cons, List.not_mem_nil, or_false] at hi
                    subst hi
                    refine wpOpIn_run (v := .slice (some ⟨wt.heap.size, 0, none⟩) 1 1) (w' := wt.alloc (.cells #[.int .i64 (ix : Nat)] 3)) rfl (by kernel_rfl) (fun f hf => by simp [Oper.about] at hf) (fun c hc => by cases hc) (by go_simp) ?_
                    replace hKd := hKd.fr ((Fr.refl NoB wt).alloc (.cells #[.int .i64 (ix : Nat)] 3)) (fun j h => h.elim) hN9 HB.out
                    replace hSd := hSd.fr ((Fr.refl NoB wt).alloc (.cells #[.int .i64 (ix : Nat)] 3)) id
                    replace hOd := hOd.alloc (.cells #[.int .i64 (ix : Nat)] 3)
                    go_simp
                    refine wpAnyIn_all (rs := [6]) (by decide +kernel) (by simp) ?_
                    intro i hi
                    simp only [List.mem_cons, List.not_mem_nil, or_false] at hi
                    subst hi
                    refine wpOpIn_app el_int rfl (by kernel_rfl) (.tmp 45) (.tmp 49) rfl A5 k c5 _ rfl hOd _ _ 1 1 _ rfl (Arr.one _ _ _) (by simp [Value.oneCell']) (by omega) ?_
                    intro A6 c6 wa hOa hfa hina
                    have hga : ¬ inB A5 g10 := fun h => by have := hA5 g10 h; omega
                    replace hSd := hSd.fr hfa hga
                    replace hKd := hKd.fr hfa (fun j h => .inr (by have := hA5 j h; omega)) hN9 HB.out
                    go_simp
                    refine wpAnyIn_all (rs := [7]) (by decide +kernel) (by simp) ?_
                    intro i hi
                    simp only [List.mem_cons, List.not_mem_nil, or_false] at hi
                    subst hi
                    refine wpOpIn_run (v := .pointer (some ⟨g10, 5, none⟩)) (w' := wa) rfl (by kernel_rfl) (fun f hf => by simp [Oper.about] at hf) (fun c hc => by cases hc) (by go_simp) ?_
                    go_simp
                    refine wpAnyIn_all (rs := [8]) (by decide +kernel) (by simp) ?_
                    intro i hi
                    simp only [List.mem_cons, List.not_mem_nil, or_false] at hi
                    subst hi
                    have qx := hSd.c5
                    have qy := hSd.blk.frozen 5
                    refine wpOpIn_skip (w' := wa.setCell ⟨g10, 5, none⟩ (.slice A6 (k + 1) c6)) rfl (by kernel_rfl) (fun f hf => by simp [Oper.about] at hf) (fun c hc => by cases hc) (by go_simp) ?_
                    clear qx qy
                    go_simp
                    refine wpAnyIn_done (by decide +kernel) ?_ _
                    have sz1 := hft.size
                    have sz2 := hfa.size
                    simp only [World.size_alloc] at sz2 hina
                    have hfg : Fr (· = g10) wa (wa.setCell ⟨g10, 5, none⟩ (.slice A6 (k + 1) c6)) := (Fr.refl _ _).at_ _ _
                    have hfT : Fr (fun j => j = B + 3 ∨ j = g10 ∨ inB A5 j) w7 (wa.setCell ⟨g10, 5, none⟩ (.slice A6 (k + 1) c6)) := ((((hfd.mono (S' := fun j => j = B + 3 ∨ j = g10 ∨ inB A5 j) fun _ _ h => h.elim).trans hft fun _ _ h => .inl h).alloc (.cells #[.int .i64 (ix : Nat)] 3)).trans hfa fun _ _ h => .inr (.inr h)).trans hfg fun _ _ h => .inr (.inl h)
                    have hina2 : ∀ j, inB A6 j → N6 ≤ j := fun j hj => (hina j hj).elim (hA5 j) fun h => by omega
                    have hM2 := ((hMt.fr ((Fr.refl NoB wt).alloc (.cells #[.int .i64 (ix : Nat)] 3)) id).fr hfa (fun h => by have := hA5 _ h; omega)).fr hfg (by omega)
                    have hO2 : Own (wa.setCell ⟨g10, 5, none⟩ (.slice A6 (k + 1) c6)) 3 1 A6 (k + 1) c6 ((linkAcc p0.2 (e0.links.take (k + 1))).1.map (Value.int .i64)) := by
                      rw [Hstep.out]
                      show Own _ _ _ _ _ _ ((p1.1 ++ [((p1.2.idxOf x : Nat) : Int)]).map (Value.int .i64))
                      rw [← Hix.out, List.map_append]
                      exact hOa.fr hfg fun j hj h => by have := hina2 j hj; omega
                    gi_wp2
                    go_roundw
                    case rel => exact ⟨k + 1, A6, c6, by omega, by go_num, hKd.fr hfg (fun j h => .inr (by omega)) hN9 HB.out, by rw [Hstep.out]; exact hM2, hSd.s5 A6 (k + 1) c6, hO2, hina2, hL.fr hfT (fun j hj h => by rcases h with h | h | h; omega; omega; (have := hA5 j h; omega)) (fun _ _ _ h => h), hT.new hfT (fun j hj => by rcases hj with h | h | h; exact .inl h; exact .inr (by have := HN.out; omega); exact .inr (by have := HN.out; have := hA5 j h; omega)), by have := hfT.size; omega⟩
                    case measure => (simp [intOf] <;> omega)
                  · refine wpOpIn_run (v := .slice (some ⟨wt.heap.size, 0, none⟩) 1 1) (w' := wt.alloc (.cells #[.int .i64 (ix : Nat)] 3)) rfl (by kernel_rfl) (fun f hf => by simp [Oper.about] at hf) (fun c hc => by cases hc) (by go_simp) ?_
                    replace hKd := hKd.fr ((Fr.refl NoB wt).alloc (.cells #[.int .i64 (ix : Nat)] 3)) (fun j h => h.elim) hN9 HB.out
                    replace hSd := hSd.fr ((Fr.refl NoB wt).alloc (.cells #[.int .i64 (ix : Nat)] 3)) id
                    replace hOd := hOd.alloc (.cells #[.int .i64 (ix : Nat)] 3)
                    go_simp
                    refine wpAnyIn_all (rs := [1]) (by decide +kernel) (by simp) ?_
                    intro i hi
                    simp only [List.mem_cons, List.not_mem_nil, or_false] at hi
                    subst hi
                    have qx := hSd.c5
                    refine wpOpIn_run (v := .slice A5 k c5) (w' := (wt.alloc (.cells #[.int .i64 (ix : Nat)] 3))) rfl (by kernel_rfl) (fun f hf => by simp [Oper.about] at hf) (fun c hc => by cases hc) (by go_simp) ?_
                    clear qx
                    go_simp
                    refine wpAnyIn_all (rs := [6]) (by decide +kernel) (by simp) ?_
                    intro i hi
                    simp only [List.mem_cons, List.not_mem_nil, or_false] at hi
                    subst hi
                    refine wpOpIn_app el_int rfl (by kernel_rfl) (.tmp 45) (.tmp 49) rfl A5 k c5 _ rfl hOd _ _ 1 1 _ rfl (Arr.one _ _ _) (by simp [Value.oneCell']) (by omega) ?_
                    intro A6 c6 wa hOa hfa hina
                    have hga : ¬ inB A5 g10 := fun h => by have := hA5 g10 h; omega
                    replace hSd := hSd.fr hfa hga
                    replace hKd := hKd.fr hfa (fun j h => .inr (by have := hA5 j h; omega)) hN9 HB.out
                    go_simp
                    refine wpAnyIn_all (rs := [7]) (by decide +kernel) (by simp) ?_
                    intro i hi
                    simp only [List.mem_cons, List.not_mem_nil, or_false] at hi
                    subst hi
                    refine wpOpIn_run (v := .pointer (some ⟨g10, 5, none⟩)) (w' := wa) rfl (by kernel_rfl) (fun f hf => by simp [Oper.about] at hf) (fun c hc => by cases hc) (by go_simp) ?_
                    go_simp
                    refine wpAnyIn_all (rs := [8]) (by decide +kernel) (by simp) ?_
                    intro i hi
                    simp only [List.mem_cons, List.not_mem_nil, or_false] at hi
                    subst hi
                    have qx := hSd.c5
                    have qy := hSd.blk.frozen 5
                    refine wpOpIn_skip (w' := wa.setCell ⟨g10, 5, none⟩ (.slice A6 (k + 1) c6)) rfl (by kernel_rfl) (fun f hf => by simp [Oper.about] at hf) (fun c hc => by cases hc) (by go_simp) ?_
                    clear qx qy
                    go_simp
                    refine wpAnyIn_done (by decide +kernel) ?_ _
                    have sz1 := hft.size
                    have sz2 := hfa.size
                    simp only [World.size_alloc] at sz2 hina
                    have hfg : Fr (· = g10) wa (wa.setCell ⟨g10, 5, none⟩ (.slice A6 (k + 1) c6)) := (Fr.refl _ _).at_ _ _
                    have hfT : Fr (fun j => j = B + 3 ∨ j = g10 ∨ inB A5 j) w7 (wa.setCell ⟨g10, 5, none⟩ (.slice A6 (k + 1) c6)) := ((((hfd.mono (S' := fun j => j = B + 3 ∨ j = g10 ∨ inB A5 j) fun _ _ h => h.elim).trans hft fun _ _ h => .inl h).alloc (.cells #[.int .i64 (ix : Nat)] 3)).trans hfa fun _ _ h => .inr (.inr h)).trans hfg fun _ _ h => .inr (.inl h)
                    have hina2 : ∀ j, inB A6 j → N6 ≤ j := fun j hj => (hina j hj).elim (hA5 j) fun h => by omega
                    have hM2 := ((hMt.fr ((Fr.refl NoB wt).alloc (.cells #[.int .i64 (ix : Nat)] 3)) id).fr hfa (fun h => by have := hA5 _ h; omega)).fr hfg (by omega)
                    have hO2 : Own (wa.setCell ⟨g10, 5, none⟩ (.slice A6 (k + 1) c6)) 3 1 A6 (k + 1) c6 ((linkAcc p0.2 (e0.links.take (k + 1))).1.map (Value.int .i64)) := by
                      rw [Hstep.out]
                      show Own _ _ _ _ _ _ ((p1.1 ++ [((p1.2.idxOf x : Nat) : Int)]).map (Value.int .i64))
                      rw [← Hix.out, List.map_append]
                      exact hOa.fr hfg fun j hj h => by have := hina2 j hj; omega
                    gi_wp2
                    go_roundw
                    case rel => exact ⟨k + 1, A6, c6, by omega, by go_num, hKd.fr hfg (fun j h => .inr (by omega)) hN9 HB.out, by rw [Hstep.out]; exact hM2, hSd.s5 A6 (k + 1) c6, hO2, hina2, hL.fr hfT (fun j hj h => by rcases h with h | h | h; omega; omega; (have := hA5 j h; omega)) (fun _ _ _ h => h), hT.new hfT (fun j hj => by rcases hj with h | h | h; exact .inl h; exact .inr (by have := HN.out; omega); exact .inr (by have := HN.out; have := hA5 j h; omega)), by have := hfT.size; omega⟩
                    case measure => (simp [intOf] <;> omega)
              · refine wpOpIn_step rfl ?_
                intro K' hK'
                gi_wp2_with fail
                refine ⟨trivial, ?_⟩
                refine (callsIn_wide.2 hcall).mono ?_
                rintro e2 wt ⟨rfl, hMt, hft⟩
                refine hK' _ _ ?_
                clear hK'
                replace hKd := hKd.fr hft (fun j h => .inl h) hN9 HB.out
                replace hSd := hSd.fr hft (by omega)
                replace hOd := hOd.fr hft (fun j hj h => by have := hA5 j hj; omega)
                go_simp
                refine wpAnyIn_all (rs := [0, 5]) (by decide +kernel) (by simp) ?_
                intro i hi
                simp only [List.mem_cons, List.not_mem_nil, or_false] at hi
                rcases hi with rfl | rfl
                · refine wpOpIn_run (v := .pointer (some ⟨g10, 5, none⟩)) (w' := wt) rfl (by kernel_rfl) (fun f hf => by simp [Oper.about] at hf) (fun c hc => by cases hc) (by go_simp) ?_
                  go_simp
                  refine wpAnyIn_all (rs := [1, 5]) (by decide +kernel) (by simp) ?_
                  intro i hi
                  simp only [List.mem_cons, List.not_mem_nil, or_false] at hi
                  rcases hi with rfl | rfl
                  · have qx := hSd.c5
                    refine wpOpIn_run (v := .slice A5 k c5) (w' := wt) rfl (by kernel_rfl) (fun f hf => by simp [Oper.about] at hf) (fun c hc => by cases hc) (by go_simp) ?_
                    clear qx
                    go_simp
                    refine wpAnyIn_all (rs := [5]) (by decide +kernel) (by simp) ?_
                    intro i hi
                    simp only [List.mem_cons, List.not_mem_nil, or_false] at hi
                    subst hi
                    refine wpOpIn_run (v := .slice (some ⟨wt.heap.size, 0, none⟩) 1 1) (w' := wt.alloc (.cells #[.int .i64 (ix : Nat)] 3)) rfl (by kernel_rfl) (fun f hf => by simp [Oper.about] at hf) (fun c hc => by cases hc) (by go_simp) ?_
                    replace hKd := hKd.fr ((Fr.refl NoB wt).alloc (.cells #[.int .i64 (ix : Nat)] 3)) (fun j h => h.elim) hN9 HB.out
                    replace hSd := hSd.fr ((Fr.refl NoB wt).alloc (.cells #[.int .i64 (ix : Nat)] 3)) id
                    replace hOd := hOd.alloc (.cells #[.int .i64 (ix : Nat)] 3)
                    go_simp
                    refine wpAnyIn_all (rs := [6]) (by decide +kernel) (by simp) ?_
                    intro i hi
                    simp only [List.mem_cons, List.not_mem_nil, or_false] at hi
                    subst hi
                    refine wpOpIn_app el_int rfl (by kernel_rfl) (.tmp 45) (.tmp 49) rfl A5 k c5 _ rfl hOd _ _ 1 1 _ rfl (Arr.one _ _ _) (by simp [Value.oneCell']) (by omega) ?_
                    intro A6 c6 wa hOa hfa hina
                    have hga : ¬ inB A5 g10 := fun h => by have := hA5 g10 h; omega
                    replace hSd := hSd.fr hfa hga
                    replace hKd := hKd.fr hfa (fun j h => .inr (by have := hA5 j h; omega)) hN9 HB.out
                    go_simp
                    refine wpAnyIn_all (rs := [7]) (by decide +kernel) (by simp) ?_
                    intro i hi
                    simp only [List.mem_cons, List.not_mem_nil, or_false] at hi
                    subst hi
                    refine wpOpIn_run (v := .pointer (some ⟨g10, 5, none⟩)) (w' := wa) rfl (by kernel_rfl) (fun f hf => by simp [Oper.about] at hf) (fun c hc => by cases hc) (by go_simp) ?_
                    go_simp
                    refine wpAnyIn_all (rs := [8]) (by decide +kernel) (by simp) ?_
                    intro i hi
                    simp only [List.mem_cons, List.not_mem_nil, or_false] at hi
                    subst hi
                    have qx := hSd.c5
                    have qy := hSd.blk.frozen 5
                    refine wpOpIn_skip (w' := wa.setCell ⟨g10, 5, none⟩ (.slice A6 (k + 1) c6)) rfl (by kernel_rfl) (fun f hf => by simp [Oper.about] at hf) (fun c hc => by cases hc) (by go_simp) ?_
                    clear qx qy
                    go_simp
                    refine wpAnyIn_done (by decide +kernel) ?_ _
                    have sz1 := hft.size
                    have sz2 := hfa.size
                    simp only [World.size_alloc] at sz2 hina
                    have hfg : Fr (· = g10) wa (wa.setCell ⟨g10, 5, none⟩ (.slice A6 (k + 1) c6)) := (Fr.refl _ _).at_ _ _
                    have hfT : Fr (fun j => j = B + 3 ∨ j = g10 ∨ inB A5 j) w7 (wa.setCell ⟨g10, 5, none⟩ (.slice A6 (k + 1) c6)) := ((((hfd.mono (S' := fun j => j = B + 3 ∨ j = g10 ∨ inB A5 j) fun _ _ h => h.elim).trans hft fun _ _ h => .inl h).alloc (.cells #[.int .i64 (ix : Nat)] 3)).trans hfa fun _ _ h => .inr (.inr h)).trans hfg fun _ _ h => .inr (.inl h)
                    have hina2 : ∀ j, inB A6 j → N6 ≤ j := fun j hj => (hina j hj).elim (hA5 j) fun h => by omega
                    have hM2 := ((hMt.fr ((Fr.refl NoB wt).alloc (.cells #[.int .i64 (ix : Nat)] 3)) id).fr hfa (fun h => by have := hA5 _ h; omega)).fr hfg (by omega)
                    have hO2 : Own (wa.setCell ⟨g10, 5, none⟩ (.slice A6 (k + 1) c6)) 3 1 A6 (k + 1) c6 ((linkAcc p0.2 (e0.links.take (k + 1))).1.map (Value.int .i64)) := by
                      rw [Hstep.out]
                      show Own _ _ _ _ _ _ ((p1.1 ++ [((p1.2.idxOf x : Nat) : Int)]).map (Value.int .i64))
                      rw [← Hix.out, List.map_append]
                      exact hOa.fr hfg fun j hj h => by have := hina2 j hj; omega
                    gi_wp2
                    go_roundw
                    case rel => exact ⟨k + 1, A6, c6, by omega, by go_num, hKd.fr hfg (fun j h => .inr (by omega)) hN9 HB.out, by rw [Hstep.out]; exact hM2, hSd.s5 A6 (k + 1) c6, hO2, hina2, hL.fr hfT (fun j hj h => by rcases h with h | h | h; omega; omega; (have := hA5 j h; omega)) (fun _ _ _ h => h), hT.new hfT (fun j hj => by rcases hj with h | h | h; exact .inl h; exact .inr (by have := HN.out; omega); exact .inr (by have := HN.out; have := hA5 j h; omega)), by have := hfT.size; omega⟩
                    case measure => (simp [intOf] <;> omega)
                  · refine wpOpIn_run (v := .slice (some ⟨wt.heap.size, 0, none⟩) 1 1) (w' := wt.alloc (.cells #[.int .i64 (ix : Nat)] 3)) rfl (by kernel_rfl) (fun f hf => by simp [Oper.about] at hf) (fun c hc => by cases hc) (by go_simp) ?_
                    replace hKd := hKd.fr ((Fr.refl NoB wt).alloc (.cells #[.int .i64 (ix : Nat)] 3)) (fun j h => h.elim) hN9 HB.out
                    replace hSd := hSd.fr ((Fr.refl NoB wt).alloc (.cells #[.int .i64 (ix : Nat)] 3)) id
                    replace hOd := hOd.alloc (.cells #[.int .i64 (ix : Nat)] 3)
                    go_simp
                    refine wpAnyIn_all (rs := [1]) (by decide +kernel) (by simp) ?_
                    intro i hi
                    simp only [List.mem_cons, List.not_mem_nil, or_false] at hi
                    subst hi
                    have qx := hSd.c5
                    refine wpOpIn_run (v := .slice A5 k c5) (w' := (wt.alloc (.cells #[.int .i64 (ix : Nat)] 3))) rfl (by kernel_rfl) (fun f hf => by simp [Oper.about] at hf) (fun c hc => by cases hc) (by go_simp) ?_
                    clear qx
                    go_simp
                    refine wpAnyIn_all (rs := [6]) (by decide +kernel) (by simp) ?_
                    intro i hi
                    simp only [List.mem_cons, List.not_mem_nil, or_false] at hi
                    subst hi
                    refine wpOpIn_app el_int rfl (by kernel_rfl) (.tmp 45) (.tmp 49) rfl A5 k c5 _ rfl hOd _ _ 1 1 _ rfl (Arr.one _ _ _) (by simp [Value.oneCell']) (by omega) ?_
                    intro A6 c6 wa hOa hfa hina
                    have hga : ¬ inB A5 g10 := fun h => by have := hA5 g10 h; omega
                    replace hSd := hSd.fr hfa hga
                    replace hKd := hKd.fr hfa (fun j h => .inr (by have := hA5 j h; omega)) hN9 HB.out
                    go_simp
                    refine wpAnyIn_all (rs := [7]) (by decide +kernel) (by simp) ?_
                    intro i hi
                    simp only [List.mem_cons, List.not_mem_nil, or_false] at hi
                    subst hi
                    refine wpOpIn_run (v := .pointer (some ⟨g10, 5, none⟩)) (w' := wa) rfl (by kernel_rfl) (fun f hf => by simp [Oper.about] at hf) (fun c hc => by cases hc) (by go_simp) ?_
                    go_simp
                    refine wpAnyIn_all (rs := [8]) (by decide +kernel) (by simp) ?_
                    intro i hi
                    simp only [List.mem_cons, List.not_mem_nil, or_false] at hi
                    subst hi
                    have qx := hSd.c5
                    have qy := hSd.blk.frozen 5
                    refine wpOpIn_skip (w' := wa.setCell ⟨g10, 5, none⟩ (.slice A6 (k + 1) c6)) rfl (by kernel_rfl) (fun f hf => by simp [Oper.about] at hf) (fun c hc => by cases hc) (by go_simp) ?_
                    clear qx qy
                    go_simp
                    refine wpAnyIn_done (by decide +kernel) ?_ _
                    have sz1 := hft.size
                    have sz2 := hfa.size
                    simp only [World.size_alloc] at sz2 hina
                    have hfg : Fr (· = g10) wa (wa.setCell ⟨g10, 5, none⟩ (.slice A6 (k + 1) c6)) := (Fr.refl _ _).at_ _ _
                    have hfT : Fr (fun j => j = B + 3 ∨ j = g10 ∨ inB A5 j) w7 (wa.setCell ⟨g10, 5, none⟩ (.slice A6 (k + 1) c6)) := ((((hfd.mono (S' := fun j => j = B + 3 ∨ j = g10 ∨ inB A5 j) fun _ _ h => h.elim).trans hft fun _ _ h => .inl h).alloc (.cells #[.int .i64 (ix : Nat)] 3)).trans hfa fun _ _ h => .inr (.inr h)).trans hfg fun _ _ h => .inr (.inl h)
                    have hina2 : ∀ j, inB A6 j → N6 ≤ j := fun j hj => (hina j hj).elim (hA5 j) fun h => by omega
                    have hM2 := ((hMt.fr ((Fr.refl NoB wt).alloc (.cells #[.int .i64 (ix : Nat)] 3)) id).fr hfa (fun h => by have := hA5 _ h; omega)).fr hfg (by omega)
                    have hO2 : Own (wa.setCell ⟨g10, 5, none⟩ (.slice A6 (k + 1) c6)) 3 1 A6 (k + 1) c6 ((linkAcc p0.2 (e0.links.take (k + 1))).1.map (Value.int .i64)) := by
                      rw [Hstep.out]
                      show Own _ _ _ _ _ _ ((p1.1 ++ [((p1.2.idxOf x : Nat) : Int)]).map (Value.int .i64))
                      rw [← Hix.out, List.map_append]
                      exact hOa.fr hfg fun j hj h => by have := hina2 j hj; omega
                    gi_wp2
                    go_roundw
                    case rel => exact ⟨k + 1, A6, c6, by omega, by go_num, hKd.fr hfg (fun j h => .inr (by omega)) hN9 HB.out, by rw [Hstep.out]; exact hM2, hSd.s5 A6 (k + 1) c6, hO2, hina2, hL.fr hfT (fun j hj h => by rcases h with h | h | h; omega; omega; (have := hA5 j h; omega)) (fun _ _ _ h => h), hT.new hfT (fun j hj => by rcases hj with h | h | h; exact .inl h; exact .inr (by have := HN.out; omega); exact .inr (by have := HN.out; have := hA5 j h; omega)), by have := hfT.size; omega⟩
                    case measure => (simp [intOf] <;> omega)
                · refine wpOpIn_run (v := .slice (some ⟨wt.heap.size, 0, none⟩) 1 1) (w' := wt.alloc (.cells #[.int .i64 (ix : Nat)] 3)) rfl (by kernel_rfl) (fun f hf => by simp [Oper.about] at hf) (fun c hc => by cases hc) (by go_simp) ?_
                  replace hKd := hKd.fr ((Fr.refl NoB wt).alloc (.cells #[.int .i64 (ix : Nat)] 3)) (fun j h => h.elim) hN9 HB.out
                  replace hSd := hSd.fr ((Fr.refl NoB wt).alloc (.cells #[.int .i64 (ix : Nat)] 3)) id
                  replace hOd := hOd.alloc (.cells #[.int .i64 (ix : Nat)] 3)
                  go_simp
                  refine wpAnyIn_all (rs := [0]) (by decide +kernel) (by simp) ?_
                  intro i hi
                  simp only [List.mem_cons, List.not_mem_nil, or_false] at hi
                  subst hi
                  refine wpOpIn_run (v := .pointer (some ⟨g10, 5, none⟩)) (w' := (wt.alloc (.cells #[.int .i64 (ix : Nat)] 3))) rfl (by kernel_rfl) (fun f hf => by simp [Oper.about] at hf) (fun c hc => by cases hc) (by go_simp) ?_
                  go_simp
                  refine wpAnyIn_all (rs := [1]) (by decide +kernel) (by simp) ?_
                  intro i hi
                  simp only [List.mem_cons, List.not_mem_nil, or_false] at hi
                  subst hi
                  have qx := hSd.c5
                  refine wpOpIn_run (v := .slice A5 k c5) (w' := (wt.alloc (.cells #[.int .i64 (ix : Nat)] 3))) rfl (by kernel_rfl) (fun f hf => by simp [Oper.about] at hf) (fun c hc => by cases hc) (by go_simp) ?_
                  clear qx
                  go_simp
                  refine wpAnyIn_all (rs := [6]) (by decide +kernel) (by simp) ?_
                  intro i hi
                  simp only [List.mem_cons, List.not_mem_nil, or_false] at hi
                  subst hi
                  refine wpOpIn_app el_int rfl (by kernel_rfl) (.tmp 45) (.tmp 49) rfl A5 k c5 _ rfl hOd _ _ 1 1 _ rfl (Arr.one _ _ _) (by simp [Value.oneCell']) (by omega) ?_
                  intro A6 c6 wa hOa hfa hina
                  have hga : ¬ inB A5 g10 := fun h => by have := hA5 g10 h; omega
                  replace hSd := hSd.fr hfa hga
                  replace hKd := hKd.fr hfa (fun j h => .inr (by have := hA5 j h; omega)) hN9 HB.out
                  go_simp
                  refine wpAnyIn_all (rs := [7]) (by decide +kernel) (by simp) ?_
                  intro i hi
                  simp only [List.mem_cons, List.not_mem_nil, or_false] at hi
                  subst hi
                  refine wpOpIn_run (v := .pointer (some ⟨g10, 5, none⟩)) (w' := wa) rfl (by kernel_rfl) (fun f hf => by simp [Oper.about] at hf) (fun c hc => by cases hc) (by go_simp) ?_
                  go_simp
                  refine wpAnyIn_all (rs := [8]) (by decide +kernel) (by simp) ?_
                  intro i hi
                  simp only [List.mem_cons, List.not_mem_nil, or_false] at hi
                  subst hi
                  have qx := hSd.c5
                  have qy := hSd.blk.frozen 5
                  refine wpOpIn_skip (w' := wa.setCell ⟨g10, 5, none⟩ (.slice A6 (k + 1) c6)) rfl (by kernel_rfl) (fun f hf => by simp [Oper.about] at hf) (fun c hc => by cases hc) (by go_simp) ?_
                  clear qx qy
                  go_simp
                  refine wpAnyIn_done (by decide +kernel) ?_ _
                  have sz1 := hft.size
                  have sz2 := hfa.size
                  simp only [World.size_alloc] at sz2 hina
                  have hfg : Fr (· = g10) wa (wa.setCell ⟨g10, 5, none⟩ (.slice A6 (k + 1) c6)) := (Fr.refl _ _).at_ _ _
                  have hfT : Fr (fun j => j = B + 3 ∨ j = g10 ∨ inB A5 j) w7 (wa.setCell ⟨g10, 5, none⟩ (.slice A6 (k + 1) c6)) := ((((hfd.mono (S' := fun j => j = B + 3 ∨ j = g10 ∨ inB A5 j) fun _ _ h => h.elim).trans hft fun _ _ h => .inl h).alloc (.cells #[.int .i64 (ix : Nat)] 3)).trans hfa fun _ _ h => .inr (.inr h)).trans hfg fun _ _ h => .inr (.inl h)
                  have hina2 : ∀ j, inB A6 j → N6 ≤ j := fun j hj => (hina j hj).elim (hA5 j) fun h => by omega
                  have hM2 := ((hMt.fr ((Fr.refl NoB wt).alloc (.cells #[.int .i64 (ix : Nat)] 3)) id).fr hfa (fun h => by have := hA5 _ h; omega)).fr hfg (by omega)
                  have hO2 : Own (wa.setCell ⟨g10, 5, none⟩ (.slice A6 (k + 1) c6)) 3 1 A6 (k + 1) c6 ((linkAcc p0.2 (e0.links.take (k + 1))).1.map (Value.int .i64)) := by
                    rw [Hstep.out]
                    show Own _ _ _ _ _ _ ((p1.1 ++ [((p1.2.idxOf x : Nat) : Int)]).map (Value.int .i64))
                    rw [← Hix.out, List.map_append]
                    exact hOa.fr hfg fun j hj h => by have := hina2 j hj; omega
                  gi_wp2
                  go_roundw
                  case rel => exact ⟨k + 1, A6, c6, by omega, by go_num, hKd.fr hfg (fun j h => .inr (by omega)) hN9 HB.out, by rw [Hstep.out]; exact hM2, hSd.s5 A6 (k + 1) c6, hO2, hina2, hL.fr hfT (fun j hj h => by rcases h with h | h | h; omega; omega; (have := hA5 j h; omega)) (fun _ _ _ h => h), hT.new hfT (fun j hj => by rcases hj with h | h | h; exact .inl h; exact .inr (by have := HN.out; omega); exact .inr (by have := HN.out; have := hA5 j h; omega)), by have := hfT.size; omega⟩
                  case measure => (simp [intOf] <;> omega)
        · have hkn : k = ln := by omega
          subst hkn
          have hfull : e0.links.take k = e0.links := List.take_of_length_le (by omega)
          rw [hfull] at hM hO
          obtain ⟨p1, hp1⟩ : ∃ p1, p1 = linkAcc p0.2 e0.links := ⟨_, rfl⟩
          rw [← hp1] at hM hO
          obtain ⟨sc2, hsc2⟩ : ∃ sc2, sc2 = sealCells num e0.kind e0.realm e0.epoch bm A5 k c5 := ⟨_, rfl⟩
          have hall := hS.all
          rw [← hsc2] at hall
          have L6 : Hid (sc2.length = 6) := by show _ = _; rw [hsc2]; rfl
          have S6 : Hid (sc2.toArray.size = 6) := by show _ = _; rw [hsc2]; rfl
          have S6m : Hid (sc2.toArray.size = 1 * 6) := by show _ = _; rw [hsc2]; rfl
          have S1 : Hid (∀ u ∈ sc2.toArray.toList, u.oneCell' = true) := by
            show ∀ u ∈ sc2.toArray.toList, u.oneCell' = true
            rw [hsc2]
            have := sealCells_ones num e0.kind e0.realm e0.epoch bm A5 k c5
            rw [Array.all_eq_true_iff_forall_mem] at this
            intro u hu
            exact this u (by simpa using hu)
          have Hsc2 := Lib.hid hsc2
          have Hp1 := Lib.hid hp1
          have cB := hK.o1.cell_0
          clear hsc2 hp1 hfull hL hS
          gi_wp2_with (first
            | (refine wpListIn_load_agg rfl 41 (.tmp 10) rfl g10 0 rfl sc2 _ hall Try.underlying41 rfl (by rw [L6.out]; exact seal_size) ?_)
            | (refine wpListIn_build1 rfl el_seal (by omega) (.tmp 54) rfl sc2.toArray rfl S6.out ?_)
            | (refine wpListIn_app el_seal rfl (.tmp 53) (.tmp 55) rfl oA num oc _ rfl (hK.o2.alloc _) _ _ 1 1 _ rfl (Arr.new _ _ sc2.toArray 1 6 S6m.out) S1.out (by omega) ?_
               intro A7 c7 w9 hO9 hf9 hin9 _
               have hnB : ∀ j, j < B + 9 → ¬ inB oA j := fun j hj h => by have := hK.o6 j h; omega
               have hf79 : Fr (inB oA) w7 w9 := ((Fr.refl (inB oA) w7).alloc _).trans hf9 fun _ _ h => h
               have hB9 := hK.o1.fr hf79 (hnB _ (by omega))
               have cB9 := hB9.cell_0
               have zB9 := hB9.frozen 0))
          simp only [World.size_alloc] at hin9
          have hfs : Fr (· = B + 2) w9 (w9.setCell ⟨B + 2, 0, none⟩ (.slice A7 (num + 1) c7)) := (Fr.refl _ _).at_ _ _
          have hf7 : Fr (fun j => inB oA j ∨ j = B + 2) w7 (w9.setCell ⟨B + 2, 0, none⟩ (.slice A7 (num + 1) c7)) := (hf79.mono fun _ _ h => .inl h).trans hfs fun _ _ h => .inr h
          have hnS : ∀ j, j < B + 9 → ¬ j = B + 2 → ¬ (inB oA j ∨ j = B + 2) := fun j hj hn h => h.elim (hnB j hj) hn
          have hN7 : N ≤ w7.heap.size := by omega
          have hsum : sealAcc (P1 ++ [xb]) = (p0.1 ++ [sealOf num e0 p1.1], p1.2) := by
            rw [hsnoc.out, ← Hp0.out]
            unfold sealStep
            rw [← He0.out, ← Hp1.out, ← Ho.out.2]
          refine ⟨(hT.mono fun j _ h => .inr (.inr (.inr (.inl h)))).trans hf7 fun j _ h => ?_, ?_⟩
          · rcases h with h | h
            · exact .inr (.inr (.inr (.inr (hK.o6 j h).1)))
            · exact .inr (.inr (.inl h))
          · show OfI w B (List.map (fun x : Tx => x.b) (pre ++ [(⟨num, XA, xc, xb⟩ : Tx)])) _
            rw [List.map_append, ← HP1.out]
            show OfI w B (P1 ++ [xb]) _
            refine ⟨Hall1.out, ⟨A7, num + 1, c7, yss ++ [sc2], ?_, ?_, ?_, ?_, ?_, ?_⟩, ?_, hK.i4.fr hf7 (hnS _ (by omega) (by omega)), hK.i5.fr hf7 (hnS _ (by omega) (by omega)), hK.i6.fr hf7 (hnS _ (by omega) (by omega)), hK.i7.new hf7 fun j hj => .inr (by have := HB.out; rcases hj with h | h; (have := hK.o6 j h; omega); omega)⟩
            · simpa using hB9.set_ 0 (.slice A7 (num + 1) c7)
            · have e : List.flatten (yss ++ [sc2]) = List.flatten yss ++ sc2.toArray.toList := by simp
              rw [e]
              exact hO9.fr hfs fun j hj h => by rcases hin9 j hj with h2 | h2; (have := hK.o6 j h2; omega); omega
            · intro y hy
              rcases List.mem_append.1 hy with hy | hy
              · exact Ho.out.1 y hy
              · rw [List.mem_singleton] at hy; rw [hy]; exact L6.out
            · rw [hsum]; simp [Ho.out.2]
            · rw [hsum]
              intro i sl hsl
              dsimp only at hsl
              have hyl : yss.length = p0.1.length := by
                have h1 := hK.o2.len
                have h2 : ∀ zs : List (List Value), (∀ y ∈ zs, y.length = 6) → zs.flatten.length = zs.length * 6 := by
                  intro zs hz
                  induction zs with
                  | nil => rfl
                  | cons z zs ih => simp only [List.flatten_cons, List.length_append, List.length_cons]; rw [ih fun y hy => hz y (List.mem_cons_of_mem _ hy), hz z (List.mem_cons_self ..)]; omega
                rw [h2 yss Ho.out.1] at h1
                have := Ho.out.2
                omega
              rcases Nat.lt_or_ge i p0.1.length with hi | hi
              · rw [List.getElem?_append_left hi] at hsl
                obtain ⟨y, hy, hr⟩ := hK.o5 i sl hsl
                refine ⟨y, by rw [List.getElem?_append_left (by omega)]; exact hy, SealR.more (hr.fr hf7 fun j hj h => h.elim hj.1.2 fun h => by omega) fun j _ hj => ⟨hj.1.1, fun h => ?_⟩⟩
                rcases hin9 j h with h | h
                · exact hj.1.2 h
                · omega
              · have hie : i = p0.1.length := by
                  have := (List.getElem?_eq_some_iff.1 hsl).1
                  simp at this; omega
                subst hie
                rw [List.getElem?_append_right (Nat.le_refl _), Nat.sub_self] at hsl
                injection hsl with hsl
                subst hsl
                refine ⟨sc2, by rw [← hyl, List.getElem?_append_right (Nat.le_refl _), Nat.sub_self]; rfl, A5, k, c5, ?_, hO.le, hO.cap, ?_⟩
                · rw [Hsc2.out]; unfold sealCells sealOf; dsimp only; rw [hbm]
                · have h1 : Ints w7 (fun j => N6 ≤ j ∧ j < w7.heap.size) A5 k p1.1 := hO.arr fun j hjl hj => ⟨hA5 j hj, hjl⟩
                  refine Arr.more (Arr.fr h1 hf7 fun j hj h => ?_) (fun j _ hj => ⟨by omega, fun h => ?_⟩) (by omega)
                  · rcases h with h | h
                    · have := hK.o6 j h; omega
                    · omega
                  · rcases hin9 j h with h | h
                    · have := hK.o6 j h; omega
                    · omega
            · intro j hj
              rcases hin9 j hj with h | h
              · exact (hK.o6 j h).1
              · omega
            · rw [hsum]
              exact hM.fr hf7 (hnS _ (by omega) (by omega))
  case done =>
    rintro xs W hS ⟨i1, ⟨oA, on, oc, yss, o1, o2, o3, o4, o5, o6⟩, i3, i4, i5, i6, i7⟩ hK
    rw [hS] at i1 o4 o5 i3
    have hyes : sealsIs ls = true := i1
    have Hout : Hid (sealsOut ls = (sealAcc (dist ls)).1) := by show _ = _; unfold sealsOut; rw [if_pos hyes]
    have Hbad : Hid (sealsBad ls = 0) := by show _ = _; unfold sealsBad; rw [if_pos hyes]
    have hP : Seals W (fun k => B + 9 ≤ k) oA on (sealAcc (dist ls)).1 := by
      refine ArrOf.of_arr (ys := yss) (o2.arr fun j _ hj => o6 j hj) o3 o4.symm fun i sl hsl => ?_
      obtain ⟨y, hy, hr⟩ := o5 i sl hsl
      exact ⟨y, hy, SealR.more hr fun j _ hj => hj.1⟩
    have ocap := o2.cap
    have ole := o2.le
    rw [hs3] at hK
    have HK := Lib.hid hK
    have c1 := o1.cell_0
    have c2 := i5.cell_0
    have c3 := i6.cell_0
    have z2 := i5.frozen 0
    have z3 := i6.frozen 0
    clear hK hS i1 hyes o2 o3 o4 o5 o6 i3 i4
    gi_wp2
    try simp only [hs3]
    have hk1 : Fr (fun k => k = B ∨ k = B + 1) W ((W.setCell ⟨B, 0, none⟩ (.slice oA on oc)).setCell ⟨B + 1, 0, none⟩ (.int .i64 0)) := (((Fr.refl _ W).set_ (.inl (.inl rfl)) _ _).set_ (.inl (.inr rfl)) _ _)
    have hk2 : ∀ {o : Obj}, Fr (fun k => k = B ∨ k = B + 1 ∨ k = (B + 6)) W (((W.setCell ⟨B, 0, none⟩ (.slice oA on oc)).setCell ⟨B + 1, 0, none⟩ (.int .i64 0)).putObj (B + 6) o) := fun {o} => (hk1.mono (S' := fun k => k = B ∨ k = B + 1 ∨ k = (B + 6)) fun j _ h => h.elim .inl fun h => .inr (.inl h)).putObj (r := (B + 6)) (.inl (.inr (.inr rfl))) o
    have hB4 : ∀ {o : Obj}, Blk (((W.setCell ⟨B, 0, none⟩ (.slice oA on oc)).setCell ⟨B + 1, 0, none⟩ (.int .i64 0)).putObj (B + 6) o) B 38 #[.slice oA on oc] := fun {o} => by
      have q := ((i5.set_ 0 (.slice oA on oc)).fr ((Fr.refl (· = B + 1) _).at_ 0 (.int .i64 0)) (by omega)).fr ((Fr.refl (fun j => j = (B + 6)) _).putObj (r := (B + 6)) (.inl rfl) o) (by omega)
      simpa using q
    have hB5 : ∀ {o : Obj}, Blk (((W.setCell ⟨B, 0, none⟩ (.slice oA on oc)).setCell ⟨B + 1, 0, none⟩ (.int .i64 0)).putObj (B + 6) o) (B + 1) 46 #[.int .i64 0] := fun {o} => by
      have q := ((i6.fr ((Fr.refl (· = B) W).at_ 0 (.slice oA on oc)) (by omega)).set_ 0 (.int .i64 0)).fr ((Fr.refl (fun j => j = (B + 6)) _).putObj (r := (B + 6)) (.inl rfl) o) (by omega)
      simpa using q
    refine ⟨by simp, .inl ⟨_, _, rfl, run_takeDeferred ((Below.heap_setCell _ _ _ _ (by simp <;> omega)).trans ((Below.heap_setCell W _ _ _ (by simp <;> omega)).trans HK.out)), ?_⟩⟩
    have c4 := fun o => (hB4 (o := o)).cell_0
    have c5 := fun o => (hB5 (o := o)).cell_0
    refine ⟨.tuple #[.slice oA on oc, .int .i64 0], by simp [results, Try.results61, go_sem, c4, c5], ?_⟩
    rw [Hout.out, Hbad.out]
    exact ⟨oA, on, oc, rfl, i7.new hk2 fun j hj => .inr (by have := HB.out; omega), ole, ocap, (hP.fr (S := fun k => k = B ∨ k = B + 1 ∨ k = B + 6) hk2 fun j hj h => by omega).more' fun j _ hj => by have := HB.out; omega⟩
  case stop =>
    rintro c0 pre W _ ⟨rfl, hno, q1, q2, q3⟩ hK
    have Hout : Hid (sealsOut ls = []) := by show _ = _; unfold sealsOut; rw [if_neg (by simp [hno])]
    have Hbad : Hid (sealsBad ls = 90) := by show _ = _; unfold sealsBad; rw [if_neg (by simp [hno])]
    have HK := Lib.hid hK
    clear hK hno
    gi_wp2
    have hB4 : ∀ {o : Obj}, Blk (W.putObj w3.heap.size o) B 38 #[.slice none 0 0] := fun {o} => q1.fr ((Fr.refl (fun j => j = w3.heap.size) _).putObj (r := w3.heap.size) (.inl rfl) o) (by omega)
    have hB5 : ∀ {o : Obj}, Blk (W.putObj w3.heap.size o) (B + 1) 46 #[.int .i64 90] := fun {o} => q2.fr ((Fr.refl (fun j => j = w3.heap.size) _).putObj (r := w3.heap.size) (.inl rfl) o) (by omega)
    have hF4 : ∀ {o : Obj}, Fr NoB w (W.putObj w3.heap.size o) := fun {o} => q3.new ((Fr.refl (fun j => j = w3.heap.size) _).putObj (r := w3.heap.size) (.inl rfl) o) fun j hj => .inr (by have := HB.out; omega)
    refine ⟨by simp, .inl ⟨_, _, rfl, run_takeDeferred HK.out, ?_⟩⟩
    have c4 := fun o => (hB4 (o := o)).cell_0
    have c5 := fun o => (hB5 (o := o)).cell_0
    refine ⟨.tuple #[.slice none 0 0, .int .i64 90], by simp [results, Try.results61, go_sem, c4, c5], ?_⟩
    rw [Hout.out, Hbad.out]
    exact ⟨none, 0, 0, rfl, hF4, Nat.le_refl _, by simp [maxLen], ArrOf.none_ _ _ _ _ _⟩
end
end Go.Proofs.Ytnkfchondedfcaa
