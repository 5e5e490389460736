/-
  A world that is made of a small script (world.New). Conditions: each contract states its own.
-/
import Derived.Test.YtnplamcajjblkaaGreatKv
namespace Go.Proofs.YtnplamcajjblkaaGreat
open Go.RowKit

theorem el_opW : ElemOk Tryz.prog 31 25 (.agg #[.int .u32 0, .int .i64 0, .string ⟨#[]⟩, .string ⟨#[]⟩, .string ⟨#[]⟩, .string ⟨#[]⟩, .int .u64 0]) 7 88 := .mk Tryz.underlying31 (by kernel_rfl) rfl (by omega) (by omega)
/-- A script's cells: draws, sectors, tries, ops; the rest is nothing. -/
def scrW (A : Option Addr) (n c S T : Nat) (O : Option Addr) (m k : Nat) : Array Value := #[.int .i64 0, .slice A n c, .int .i64 (S : Int), .int .u64 0, .int .i64 (T : Int), .slice none 0 0, .slice none 0 0, .slice none 0 0, .slice O m k]
theorem scr_size : (Tryz.prog.info? 33).map (·.size) = some 9 := by kernel_rfl
theorem world_built (x1 x2 x3 x4 x5 x6 x7 x8 x9 : Value) : Tryz.prog.built 40 [(0, .agg #[x1, x2, x3, x4, x5, x6, x7, x8, x9]), (6, .bool true)] = some #[x1, x2, x3, x4, x5, x6, x7, x8, x9, .pointer none, .pointer none, .pointer none, .slice none 0 0, .int .i64 0, .bool true] := by kernel_rfl
theorem sessNew_nil (w : World) : Calls Tryz.prog 37 #[.int .u32 1, .int .i64 0] w fun e w' => e = .returned (.pointer none) ∧ Fr NoB w w' := by
  have := sessNew_any w 1 0 (by omega) (by omega) (by omega)
  refine this.mono ?_
  rintro e w' ⟨q, rfl, hq, hf⟩
  rw [hq.2 rfl]
  exact ⟨rfl, hf⟩
theorem sessNew_made (w : World) (i T : Nat) (hi : 0 < i) (hi2 : i < 4294967296) (h0 : T ≠ 0) (h : T ≤ 50) : Calls Tryz.prog 37 #[.int .u32 (i : Int), .int .i64 (T : Int)] w fun e w' => ∃ cb, e = .returned (.pointer (some cb)) ∧ Fr NoB w w' := by
  refine (sessNew_any w i T hi hi2 h).mono ?_
  rintro e w' ⟨q, rfl, hq, hf⟩
  cases q with
  | none => exact absurd (hq.1 rfl) h0
  | some cb => exact ⟨cb, rfl, hf⟩
/-- A world in memory: its error, its ops, its working copies. -/
def WorldAt (w : World) (q : Nat) (e : Int) (A : Option Addr) (m c : Nat) (rows : List Value) (R : Option Addr) (p k : Nat) (cs : List Nat) : Prop :=
  (∃ x0 x1 x2 x3 x4 x5 x6 x7 x9 x10 x11 : Value, Blk w q 40 #[x0, x1, x2, x3, x4, x5, x6, x7, .slice A m c, x9, x10, x11, .slice R p k, .int .i64 e, .bool true]) ∧ Own w 25 7 A m c rows ∧ Own w 60 1 R p k (cs.map fun j => .pointer (some ⟨j, 0, none⟩)) ∧ ∀ j ∈ cs, RepoClosed w j
theorem el_repW : ElemOk Tryz.prog 37 60 (.pointer none) 1 8 := .mk Tryz.underlying37 (by kernel_rfl) rfl (by omega) (by omega)
theorem el_rkW : ElemOk Tryz.prog 205 104 (.agg (#[.int .u32 0, .int .u32 0] ++ Array.replicate 32 (.int .u8 0))) 34 40 := .mk Tryz.underlying205 (by kernel_rfl) rfl (by omega) (by omega)
theorem rk_built_at (a0 a1 a2 a3 a4 a5 a6 a7 a8 a9 a10 a11 a12 a13 a14 a15 a16 a17 a18 a19 a20 a21 a22 a23 a24 a25 a26 a27 a28 a29 a30 a31 : Value) : Tryz.prog.built 104 [(0, .int .u32 1), (2, .agg #[a0, a1, a2, a3, a4, a5, a6, a7, a8, a9, a10, a11, a12, a13, a14, a15, a16, a17, a18, a19, a20, a21, a22, a23, a24, a25, a26, a27, a28, a29, a30, a31])] = some #[.int .u32 1, .int .u32 0, a0, a1, a2, a3, a4, a5, a6, a7, a8, a9, a10, a11, a12, a13, a14, a15, a16, a17, a18, a19, a20, a21, a22, a23, a24, a25, a26, a27, a28, a29, a30, a31] := by kernel_rfl
theorem rk_builtW (ks : List Value) (hk : ks.length = 32) : Tryz.prog.built 104 [(0, .int .u32 1), (2, .agg ks.toArray)] = some (.int .u32 1 :: .int .u32 0 :: ks : List Value).toArray := by
  obtain _ | ⟨a0, ks⟩ := ks
  · simp at hk
  obtain _ | ⟨a1, ks⟩ := ks
  · simp at hk
  obtain _ | ⟨a2, ks⟩ := ks
  · simp at hk
  obtain _ | ⟨a3, ks⟩ := ks
  · simp at hk
  obtain _ | ⟨a4, ks⟩ := ks
  · simp at hk
  obtain _ | ⟨a5, ks⟩ := ks
  · simp at hk
  obtain _ | ⟨a6, ks⟩ := ks
  · simp at hk
  obtain _ | ⟨a7, ks⟩ := ks
  · simp at hk
  obtain _ | ⟨a8, ks⟩ := ks
  · simp at hk
  obtain _ | ⟨a9, ks⟩ := ks
  · simp at hk
  obtain _ | ⟨a10, ks⟩ := ks
  · simp at hk
  obtain _ | ⟨a11, ks⟩ := ks
  · simp at hk
  obtain _ | ⟨a12, ks⟩ := ks
  · simp at hk
  obtain _ | ⟨a13, ks⟩ := ks
  · simp at hk
  obtain _ | ⟨a14, ks⟩ := ks
  · simp at hk
  obtain _ | ⟨a15, ks⟩ := ks
  · simp at hk
  obtain _ | ⟨a16, ks⟩ := ks
  · simp at hk
  obtain _ | ⟨a17, ks⟩ := ks
  · simp at hk
  obtain _ | ⟨a18, ks⟩ := ks
  · simp at hk
  obtain _ | ⟨a19, ks⟩ := ks
  · simp at hk
  obtain _ | ⟨a20, ks⟩ := ks
  · simp at hk
  obtain _ | ⟨a21, ks⟩ := ks
  · simp at hk
  obtain _ | ⟨a22, ks⟩ := ks
  · simp at hk
  obtain _ | ⟨a23, ks⟩ := ks
  · simp at hk
  obtain _ | ⟨a24, ks⟩ := ks
  · simp at hk
  obtain _ | ⟨a25, ks⟩ := ks
  · simp at hk
  obtain _ | ⟨a26, ks⟩ := ks
  · simp at hk
  obtain _ | ⟨a27, ks⟩ := ks
  · simp at hk
  obtain _ | ⟨a28, ks⟩ := ks
  · simp at hk
  obtain _ | ⟨a29, ks⟩ := ks
  · simp at hk
  obtain _ | ⟨a30, ks⟩ := ks
  · simp at hk
  obtain _ | ⟨a31, ks⟩ := ks
  · simp at hk
  obtain _ | ⟨b, ks⟩ := ks
  · exact rk_built_at _ _ _ _ _ _ _ _ _ _ _ _ _ _ _ _ _ _ _ _ _ _ _ _ _ _ _ _ _ _ _ _
  · simp at hk
theorem repoNew_ex (w : World) (c h u d t : Option Addr) (te re ep au : Int) :
    Calls Tryz.prog 43 #[.pointer c, .pointer h, .pointer u, .pointer d, .pointer t, .int .u32 te, .int .u32 re, .int .u32 ep, .int .u32 au] w fun e w' => ∃ q, e = .returned (.pointer (some ⟨q, 0, none⟩)) ∧ RepoClosed w' q ∧ w.heap.size ≤ q ∧ Fr NoB w w' := by
  refine (repoNew_any w c h u d t te re ep au).mono ?_
  rintro e w' ⟨rfl, h1, h2⟩
  exact ⟨_, rfl, h1, Nat.le_refl _, h2⟩
def NewIs (w w' : World) (e : Ending) (T m : Nat) (rows : List Value) : Prop := ∃ q er A2 k2 R p kR cs, e = .returned (.pointer (some ⟨q, 0, none⟩)) ∧ WorldAt w' q er A2 m k2 rows R p kR cs ∧ Fr NoB w w' ∧ (T = 0 → er = 1) ∧ (T ≠ 0 → er = 0 ∧ cs.length = 3)
set_option maxRecDepth 100000 in
set_option maxHeartbeats 8000000 in
theorem worldNew_small (w : World) (F : Nat → Prop) (A : Option Addr) (n c S T : Nat) (O : Option Addr) (m k : Nat) (l : List UInt8) (rows : List Value) (hA : Byt w F A n l) (hO : Arr w F 7 O m rows) (h1 : ∀ u ∈ rows, u.oneCell' = true) (hm : m ≤ 1000) (hn : n ≤ 1000000) (hT50 : T ≤ 50) (hn32 : T ≠ 0 → 32 ≤ n) (hS100 : T ≠ 0 → S = 100) :
    Calls Tryz.prog 16 #[.agg (scrW A n c S T O m k)] w fun e w' => NewIs w w' e T m rows := by
  unfold scrW
  have hb := world_built
  obtain ⟨B, hB⟩ : ∃ B, B = w.heap.size := ⟨_, rfl⟩
  obtain ⟨w2, hw2⟩ : ∃ w2, w2 = w.alloc (.cells #[.int .i64 0, .slice A n c, .int .i64 (S : Int), .int .u64 0, .int .i64 (T : Int), .slice none 0 0, .slice none 0 0, .slice none 0 0, .slice O m k] 33) := ⟨_, rfl⟩
  have hf2 : Fr NoB w w2 := by rw [hw2]; exact (Fr.refl _ _).alloc _
  have kS : Blk w2 B 33 #[.int .i64 0, .slice A n c, .int .i64 (S : Int), .int .u64 0, .int .i64 (T : Int), .slice none 0 0, .slice none 0 0, .slice none 0 0, .slice O m k] := by rw [hw2, hB]; exact Blk.new _ _ _
  have s2 : w2.heap.size = B + 1 := by rw [hw2, hB, World.size_alloc]
  have hall : ∀ j u, (#[.int .i64 0, .slice A n c, .int .i64 (S : Int), .int .u64 0, .int .i64 (T : Int), .slice none 0 0, .slice none 0 0, .slice none 0 0, .slice O m k] : Array Value).toList[j]? = some u → w2.cell? ⟨B, 0 + j, none⟩ = some u := fun j u hu => by rw [Nat.zero_add, kS.cell, ← Array.getElem?_toList]; exact hu
  have k8 : w2.cell? ⟨B, 8, none⟩ = some (.slice O m k) := (kS.cell 8).trans rfl
  have HB := Lib.hid hB
  have Hw2 := Lib.hid hw2
  clear hB hw2 hb
  go_enter Tryz.func16, Tryz.ntmps16
  go_wp2_with (first
    | rw [← Hw2.out, ← HB.out]
    | (refine wpList_load_agg rfl 33 (.tmp 1) rfl B 0 rfl _ _ hall Tryz.underlying33 rfl scr_size ?_)
    | (refine wpList_buildK rfl 40 #[(0, .tmp 10), (6, .const (.bool true))] rfl [(0, .agg #[.int .i64 0, .slice A n c, .int .i64 (S : Int), .int .u64 0, .int .i64 (T : Int), .slice none 0 0, .slice none 0 0, .slice none 0 0, .slice O m k]), (6, .bool true)] rfl _ (world_built _ _ _ _ _ _ _ _ _) ?_)
    | (at_builtin
       obtain ⟨w3, hw3⟩ : ∃ w3, w3 = w2.alloc (.cells #[.int .i64 0, .slice A n c, .int .i64 (S : Int), .int .u64 0, .int .i64 (T : Int), .slice none 0 0, .slice none 0 0, .slice none 0 0, .slice O m k, .pointer none, .pointer none, .pointer none, .slice none 0 0, .int .i64 0, .bool true] 40) := ⟨_, rfl⟩
       rw [← hw3]
       have kW : Blk w3 (B + 1) 40 #[.int .i64 0, .slice A n c, .int .i64 (S : Int), .int .u64 0, .int .i64 (T : Int), .slice none 0 0, .slice none 0 0, .slice none 0 0, .slice O m k, .pointer none, .pointer none, .pointer none, .slice none 0 0, .int .i64 0, .bool true] := by rw [hw3, ← s2]; exact Blk.new _ _ _
       have f23 : Fr NoB w2 w3 := by rw [hw3]; exact (Fr.refl _ _).alloc _
       have s3 : w3.heap.size = B + 2 := by rw [hw3, World.size_alloc, s2]
       refine wpList_app _ el_opW rfl (.const (.slice none 0 0)) (.tmp 15) rfl none 0 0 [] rfl (Own.nil _ _ _) _ _ m _ _ rfl ((hO.fr hf2 fun _ _ => id).fr f23 fun _ _ => id) h1 (by omega) ?_
       intro O2 k2 w4 hO4 hf4 hin4 _
       rw [Nat.zero_add] at hO4
       rw [Nat.zero_add]
       have f34 : Fr NoB w3 w4 := hf4.mono fun j _ h => inB_none j h
       have kW4 := kW.fr f34 id
       have zW8 := kW4.frozen 8
       have cW8 := kW4.cell 8
       have hS3 := hf4.size
       clear hw3))
  obtain ⟨w5, hw5⟩ : ∃ w5, w5 = w4.setCell ⟨B + 1, 8, none⟩ (.slice O2 m k2) := ⟨_, rfl⟩
  have kW5 : Blk w5 (B + 1) 40 #[.int .i64 0, .slice A n c, .int .i64 (S : Int), .int .u64 0, .int .i64 (T : Int), .slice none 0 0, .slice none 0 0, .slice none 0 0, .slice O2 m k2, .pointer none, .pointer none, .pointer none, .slice none 0 0, .int .i64 0, .bool true] := by
    rw [hw5]
    have := kW4.set_ 8 (.slice O2 m k2)
    simpa using this
  have f45 : Fr (· = B + 1) w4 w5 := by rw [hw5]; exact (Fr.refl _ _).at_ _ _
  have hO5 : Own w5 25 7 O2 m k2 rows := hO4.fr f45 fun j hj e => by have := (hin4 j hj).elim (fun h => absurd h (inB_none j)) id; omega
  have f25 : Fr NoB w2 w5 := ((f23.trans f34 fun _ _ h => h)).new f45 fun j hj => .inr (by omega)
  have s5 : B + 2 ≤ w5.heap.size := by have := f45.size; omega
  have kS5 := kS.fr f25 id
  rw [← hw5]
  clear hw5 zW8 cW8 k8 hall kW4 kW hO4
  have e0 : w5.drew.cell? ⟨B, 0, none⟩ = some (.int .i64 0) := (kS5.cell 0).trans rfl
  have e1 : w5.drew.cell? ⟨B, 1, none⟩ = some (.slice A n c) := (kS5.cell 1).trans rfl
  have hS : Fr (· = B + 1) w5.drew w5.drew := Fr.refl _ _
  have hB1 : ¬ B = B + 1 := by omega
  refine wp_region_held (S := fun W => Fr (· = B + 1) w5.drew W) rfl ?_
  refine wpAnyH_take (i := 0) rfl (by decide +kernel) (by decide +kernel) (by decide +kernel) (fun _ _ _ h => h) (Or.inl ⟨by kernel_rfl, fun W hW => by have q0 := hW.cell' e0 hB1; have q1 := hW.cell' e1 hB1; go_simp; with_reducible rfl⟩) hS ?_
  go_simp
  refine wpAnyH_take (i := 1) rfl (by decide +kernel) (by decide +kernel) (by decide +kernel) (fun _ _ _ h => h) (Or.inl ⟨by kernel_rfl, fun W hW => by have q0 := hW.cell' e0 hB1; have q1 := hW.cell' e1 hB1; go_simp; with_reducible rfl⟩) hS ?_
  go_simp
  refine wpAnyH_take (i := 2) rfl (by decide +kernel) (by decide +kernel) (by decide +kernel) (fun _ _ _ h => h) (Or.inl ⟨by kernel_rfl, fun W hW => by have q0 := hW.cell' e0 hB1; have q1 := hW.cell' e1 hB1; go_simp; with_reducible rfl⟩) hS ?_
  go_simp
  refine wpAnyH_take (i := 3) rfl (by decide +kernel) (by decide +kernel) (by decide +kernel) (fun _ _ _ h => h) (Or.inl ⟨by kernel_rfl, fun W hW => by have q0 := hW.cell' e0 hB1; have q1 := hW.cell' e1 hB1; go_simp; with_reducible rfl⟩) hS ?_
  go_simp
  refine wpAnyH_take (i := 4) rfl (by decide +kernel) (by decide +kernel) (by decide +kernel) (fun _ _ _ h => h) (Or.inl ⟨by kernel_rfl, fun W hW => by have q0 := hW.cell' e0 hB1; have q1 := hW.cell' e1 hB1; go_simp; with_reducible rfl⟩) hS ?_
  go_simp
  refine wpAnyH_all (rs := [5]) (by decide +kernel) (by simp) ?_
  intro i hi
  simp only [List.mem_cons, List.not_mem_nil, or_false] at hi
  subst hi
  have fB : ∀ {W : World}, Fr NoB w5.drew W → Fr (· = B + 1) w5.drew W := fun h => h.mono fun _ _ h => h.elim
  refine wpOp_call rfl (by kernel_rfl) 36 (enters_of Tryz.func36 (by kernel_rfl) rfl) #[.tmp 24] _ rfl _ rfl (tapeNew_any w5.drew F A n c l (((hA.fr hf2 fun _ _ => id).fr f25 fun _ _ => id).fr (Fr.drew (Fr.refl NoB w5)) fun _ _ => id) hn) ?_
  rintro e v1 ⟨t, A1, c1, rfl, ht, hT1, fv1⟩
  refine ⟨_, rfl, fB fv1, ?_⟩
  go_simp
  refine wpAnyH_all (rs := [6]) (by decide +kernel) (by simp) ?_
  intro i hi
  simp only [List.mem_cons, List.not_mem_nil, or_false] at hi
  subst hi
  refine wpOp_call rfl (by kernel_rfl) 35 (enters_of Tryz.func35 (by kernel_rfl) rfl) #[.tmp 22, .tmp 25] _ rfl _ rfl (suiteNew2_any v1 t) ?_
  rintro e v2 ⟨p, rfl, hp, hS2, fv2⟩
  have fv02 : Fr NoB w5.drew v2 := fv1.trans fv2 fun _ _ h => h
  refine ⟨_, rfl, fB fv02, ?_⟩
  have hT2 := hT1.fr fv2 id fun _ _ => id
  have kWv := (kW5.fr (Fr.drew (Fr.refl NoB w5)) id).fr fv02 id
  have cW9 := kWv.cell 9
  have zW9 := kWv.frozen 9
  go_simp
  refine wpAnyH_take (i := 7) rfl (by decide +kernel) (by decide +kernel) (by decide +kernel) (fun _ _ _ h => h) (Or.inl ⟨by kernel_rfl, fun W hW => by go_simp; with_reducible rfl⟩) (fB fv02) ?_
  go_simp
  refine wpAnyH_take (i := 8) rfl (by decide +kernel) (by decide +kernel) (by decide +kernel) (fun _ _ _ h => h) (Or.inl ⟨by kernel_rfl, fun W hW => by go_simp; with_reducible rfl⟩) (fB fv02) ?_
  go_simp
  refine wpAnyH_all (rs := [9]) (by decide +kernel) (by simp) ?_
  intro i hi
  simp only [List.mem_cons, List.not_mem_nil, or_false] at hi
  subst hi
  refine wpOp_skip (w' := v2.setCell ⟨B + 1, 9, none⟩ (.pointer (some ⟨p, 0, none⟩))) rfl (by kernel_rfl) (by go_simp) ?_
  refine ⟨(fB fv02).at_ _ _, ?_⟩
  refine wpAnyH_done (by decide +kernel) ?_ _
  obtain ⟨x0, hx0⟩ : ∃ x0, x0 = v2.setCell ⟨B + 1, 9, none⟩ (.pointer (some ⟨p, 0, none⟩)) := ⟨_, rfl⟩
  have kW0 : Blk x0 (B + 1) 40 #[.int .i64 0, .slice A n c, .int .i64 (S : Int), .int .u64 0, .int .i64 (T : Int), .slice none 0 0, .slice none 0 0, .slice none 0 0, .slice O2 m k2, .pointer (some ⟨p, 0, none⟩), .pointer none, .pointer none, .slice none 0 0, .int .i64 0, .bool true] := by
    rw [hx0]
    have := kWv.set_ 9 (.pointer (some ⟨p, 0, none⟩))
    simpa using this
  have fx0 : Fr (· = B + 1) w5 x0 := by rw [hx0]; exact ((Fr.drew (Fr.refl (· = B + 1) w5)).trans (fB fv02) fun _ _ h => h).at_ _ _
  have f20 : Fr (· = B + 1) v2 x0 := by rw [hx0]; exact (Fr.refl _ _).at_ _ _
  have hv1s := fv1.size
  rw [World.size_drew] at hv1s ht
  have hS0 : SuiteHas x0 p t := hS2.fr f20 (by omega)
  have hT0 := hT2.fr f20 (by omega) fun k hk e => by have := hk.1; rw [World.size_drew] at this; omega
  have hO0 : Own x0 25 7 O2 m k2 rows := hO5.fr fx0 fun j hj e => by have := (hin4 j hj).elim (fun h => absurd h (inB_none j)) id; omega
  have kS0 := kS5.fr fx0 hB1
  have y4 := (kS0.cell 4)
  have c9 := kW0.cell 9
  rw [← hx0]
  clear hx0 e0 e1 hS kWv cW9 zW9 hT1 hS2 hT2 fv02 fv1 fv2 hp f20
  by_cases hT0' : T = 0
  · subst hT0'
    have HC := Lib.hid (sessNew_nil x0)
    go_wp2_with (go_at_call 37
                 refine HC.out.mono ?_
                 rintro e x1 ⟨rfl, fx1⟩
                 have kW1 := kW0.fr fx1 id
                 have z9 := kW1.frozen 9
                 have z13 := kW1.frozen 13
                 have d9 := kW1.cell 9
                 have d13 := kW1.cell 13
                 clear c9)
    go_ret
    have kW9 := (kW1.set_ 9 (.pointer none)).set_ 13 (.int .i64 1)
    have fx9 : Fr (· = B + 1) x1 ((x1.setCell ⟨B + 1, 9, none⟩ (.pointer none)).setCell ⟨B + 1, 13, none⟩ (.int .i64 1)) := ((Fr.refl (· = B + 1) x1).at_ 9 _).at_ 13 _
    have hOz : Own ((x1.setCell ⟨B + 1, 9, none⟩ (.pointer none)).setCell ⟨B + 1, 13, none⟩ (.int .i64 1)) 25 7 O2 m k2 rows := (hO0.fr fx1 fun _ _ => id).fr fx9 fun j hj e => by have := (hin4 j hj).elim (fun h => absurd h (inB_none j)) id; omega
    refine ⟨B + 1, 1, O2, k2, none, 0, 0, [], rfl, ⟨⟨_, _, _, _, _, _, _, _, _, _, _, by simpa using kW9⟩, hOz, Own.nil _ _ _, fun _ h => absurd h List.not_mem_nil⟩, ?_, fun _ => rfl, fun h => absurd rfl h⟩
    have hBw := HB.out
    exact (((hf2.trans f25 fun _ _ h => h).new fx0 fun j hj => .inr (by omega)).trans fx1 fun _ _ h => h).new fx9 fun j hj => .inr (by omega)
  · obtain rfl : S = 100 := hS100 hT0'
    replace hn32 := hn32 hT0'
    have HC := Lib.hid (sessNew_made x0 1 T (by omega) (by omega) hT0' hT50)
    have HD : Hid (∀ W, Fr NoB x0 W → Calls Tryz.prog 38 #[.pointer (some ⟨p, 0, none⟩)] W fun e w' => e = .returned (.tuple #[.agg ((l.take 32).map bv).toArray, .int .i64 0]) ∧ Fr (· = t) W w') := by
      intro W hW
      have hs0 := hT0.blk.lt
      have hsW := hW.size
      refine (suiteDraw_any W p t _ A1 n c1 l (hS0.fr hW id) (hT0.fr hW id fun _ _ => id) (fun k hk => ⟨by have := hk.2; omega, by have := hk.2; omega⟩) hn32 hn).mono ?_
      rintro e w' ⟨h1, _, h3⟩
      exact ⟨h1, h3⟩
    obtain ⟨ky, hky⟩ : ∃ ky, ky = (l.take 32).map bv := ⟨_, rfl⟩
    have Lk : Hid (ky.length = 32) := by show _ = _; rw [hky, List.length_map, List.length_take, hA.len]; omega
    have Ak : Hid (ky.toArray.all (·.oneCell') = true) := by show _ = _; rw [hky]; exact sec_cells _
    have Sk : Hid (ky.toArray.size = 32) := by show _ = _; rw [List.size_toArray]; exact Lk.out
    rw [← hky] at HD
    clear hky
    obtain ⟨kz, hkz⟩ : ∃ kz, kz = (List.replicate 32 (0 : UInt8)).map bv := ⟨_, rfl⟩
    have Hkz : Hid (((Tryz.prog.info? 96).bind (·.zero)).map (·.cells) = some kz.toArray) := by show _ = _; rw [hkz]; exact key_zeroK
    have Hkl : Hid (kz.toArray.size = 32) := by show _ = _; rw [hkz]; simp
    clear hkz
    go_wp2_with (first
      | (go_at_call 37
         refine HC.out.mono ?_
         rintro e x1 ⟨cb, rfl, fx1⟩
         have kW1 := kW0.fr fx1 id
         have d9 := kW1.cell 9
         clear c9)
      | (go_at_call 38
         refine (HD.out x1 fx1).mono ?_
         rintro e x2 ⟨rfl, fx2⟩)
      | (refine wpList_alloc_zcK rfl 96 rfl kz.toArray Hkz.out ?_)
      | (refine wpList_store_newN rfl 96 (.tmp 4) (.tmp 53) rfl 32 key_sizeK _ kz.toArray Hkl.out ky.toArray rfl rfl Sk.out Ak.out ?_
         obtain ⟨K, hK⟩ : ∃ K, K = x2.heap.size := ⟨_, rfl⟩
         obtain ⟨x3, hx3⟩ : ∃ x3, x3 = x2.alloc (.cells ky.toArray 96) := ⟨_, rfl⟩
         rw [← hx3, ← hK]
         have kK : Blk x3 K 96 ky.toArray := by rw [hx3, hK]; exact Blk.new _ _ _
         have fx23 : Fr NoB x2 x3 := by rw [hx3]; exact (Fr.refl _ _).alloc _
         have kS3 := ((kS0.fr fx1 id).fr fx2 (by omega)).fr fx23 id
         have m2 := kS3.cell 2
         have m5 := kS3.cell 5
         have kW3 := (kW1.fr fx2 (by omega)).fr fx23 id
         have hO3 : Own x3 25 7 O2 m k2 rows := ((hO0.fr fx1 fun _ _ => id).fr fx2 fun j hj e => by have := hO5.lt hj; omega).fr fx23 fun _ _ => id
         have hKB : B + 1 < K := by have h0 := fx0.size; have h1 := fx1.size; have h2 := fx2.size; omega
         have s13 : B + 1 < x3.heap.size := kW3.lt
         clear hx3 hK d9)
      | (go_at_call 39
         refine (diskNew_any x3 100 100 (by omega) rfl).mono ?_
         rintro e x4 ⟨dp, dr, rfl, hD4, fx34, hdp, hdr⟩
         have kW4x := kW3.fr fx34 id
         have z10 := kW4x.frozen 10
         have d10 := kW4x.cell 10
         have hO4 := hO3.fr fx34 fun _ _ => id
         have kK4 := kK.fr fx34 id
         have kS4 := kS3.fr fx34 id
         clear m2 m5))
    obtain ⟨x5, hx5⟩ : ∃ x5, x5 = x4.setCell ⟨B + 1, 10, none⟩ (.pointer (some ⟨dp, 0, none⟩)) := ⟨_, rfl⟩
    have kW5b : Blk x5 (B + 1) 40 #[.int .i64 0, .slice A n c, .int .i64 (100 : Int), .int .u64 0, .int .i64 (T : Int), .slice none 0 0, .slice none 0 0, .slice none 0 0, .slice O2 m k2, .pointer (some ⟨p, 0, none⟩), .pointer (some ⟨dp, 0, none⟩), .pointer none, .slice none 0 0, .int .i64 0, .bool true] := by
      rw [hx5]
      have := kW4x.set_ 10 (.pointer (some ⟨dp, 0, none⟩))
      simpa using this
    have fx45 : Fr (· = B + 1) x4 x5 := by rw [hx5]; exact (Fr.refl _ _).at_ _ _
    have hdp1 : ¬ dp = B + 1 := by omega
    have hdr1 : ¬ dr = B + 1 := by omega
    have hD5 := (hD4.fr fx45 hdp1 hdr1).fr (Fr.drew (Fr.refl NoB x5)) id id
    have e9 : x5.drew.cell? ⟨B + 1, 9, none⟩ = some (.pointer (some ⟨p, 0, none⟩)) := (kW5b.cell 9).trans rfl
    have e10 : x5.drew.cell? ⟨B + 1, 10, none⟩ = some (.pointer (some ⟨dp, 0, none⟩)) := (kW5b.cell 10).trans rfl
    rw [← hx5]
    clear hx5 z10 d10 hD4
    have hS : Fr (fun j => j = B + 1 ∨ j = dp ∨ j = dr) x5.drew x5.drew ∧ x5.drew.cell? ⟨B + 1, 9, none⟩ = some (.pointer (some ⟨p, 0, none⟩)) ∧ x5.drew.cell? ⟨B + 1, 10, none⟩ = some (.pointer (some ⟨dp, 0, none⟩)) := ⟨Fr.refl _ _, e9, e10⟩
    refine wp_region_held (S := fun W => Fr (fun j => j = B + 1 ∨ j = dp ∨ j = dr) x5.drew W ∧ W.cell? ⟨B + 1, 9, none⟩ = some (.pointer (some ⟨p, 0, none⟩)) ∧ W.cell? ⟨B + 1, 10, none⟩ = some (.pointer (some ⟨dp, 0, none⟩))) rfl ?_
    refine wpAnyH_take (i := 0) rfl (by decide +kernel) (by decide +kernel) (by decide +kernel) (fun _ _ _ h => h) (Or.inl ⟨by kernel_rfl, fun W hW => by have q9 := hW.2.1; have q10 := hW.2.2; go_simp; with_reducible rfl⟩) hS ?_
    go_simp
    refine wpAnyH_take (i := 1) rfl (by decide +kernel) (by decide +kernel) (by decide +kernel) (fun _ _ _ h => h) (Or.inl ⟨by kernel_rfl, fun W hW => by have q9 := hW.2.1; have q10 := hW.2.2; go_simp; with_reducible rfl⟩) hS ?_
    go_simp
    refine wpAnyH_take (i := 2) rfl (by decide +kernel) (by decide +kernel) (by decide +kernel) (fun _ _ _ h => h) (Or.inl ⟨by kernel_rfl, fun W hW => by have q9 := hW.2.1; have q10 := hW.2.2; go_simp; with_reducible rfl⟩) hS ?_
    go_simp
    refine wpAnyH_take (i := 3) rfl (by decide +kernel) (by decide +kernel) (by decide +kernel) (fun _ _ _ h => h) (Or.inl ⟨by kernel_rfl, fun W hW => by have q9 := hW.2.1; have q10 := hW.2.2; go_simp; with_reducible rfl⟩) hS ?_
    go_simp
    refine wpAnyH_take (i := 4) rfl (by decide +kernel) (by decide +kernel) (by decide +kernel) (fun _ _ _ h => h) (Or.inl ⟨by kernel_rfl, fun W hW => by have q9 := hW.2.1; have q10 := hW.2.2; go_simp; with_reducible rfl⟩) hS ?_
    go_simp
    refine wpAnyH_take (i := 5) rfl (by decide +kernel) (by decide +kernel) (by decide +kernel) (fun _ _ _ h => h) (Or.inl ⟨by kernel_rfl, fun W hW => by have q9 := hW.2.1; have q10 := hW.2.2; go_simp; with_reducible rfl⟩) hS ?_
    go_simp
    refine wpAnyH_take (i := 6) rfl (by decide +kernel) (by decide +kernel) (by decide +kernel) (fun _ _ _ h => h) (Or.inl ⟨by kernel_rfl, fun W hW => by have q9 := hW.2.1; have q10 := hW.2.2; go_simp; with_reducible rfl⟩) hS ?_
    go_simp
    refine wpAnyH_take (i := 7) rfl (by decide +kernel) (by decide +kernel) (by decide +kernel) (fun _ _ _ h => h) (Or.inl ⟨by kernel_rfl, fun W hW => by have q9 := hW.2.1; have q10 := hW.2.2; go_simp; with_reducible rfl⟩) hS ?_
    go_simp
    refine wpAnyH_take (i := 8) rfl (by decide +kernel) (by decide +kernel) (by decide +kernel) (fun _ _ _ h => h) (Or.inl ⟨by kernel_rfl, fun W hW => by have q9 := hW.2.1; have q10 := hW.2.2; go_simp; with_reducible rfl⟩) hS ?_
    go_simp
    refine wpAnyH_all (rs := [9]) (by decide +kernel) (by simp) ?_
    intro i hi
    simp only [List.mem_cons, List.not_mem_nil, or_false] at hi
    subst hi
    refine wpOp_call rfl (by kernel_rfl) 40 (enters_of Tryz.func40 (by kernel_rfl) rfl) #[.tmp 74, .tmp 78] _ rfl _ rfl (createBig_any x5.drew dp dr 100 _ hD5 (by omega) (by omega) (some ⟨p, 0, none⟩)) ?_
    rintro e v1b ⟨rfl, hD6, fv1b⟩
    have kWv := (kW5b.fr (Fr.drew (Fr.refl NoB x5)) id).fr fv1b (by omega)
    have zW13 := kWv.frozen 13
    have hS6 : Fr (fun j => j = B + 1 ∨ j = dp ∨ j = dr) x5.drew v1b ∧ v1b.cell? ⟨B + 1, 9, none⟩ = some (.pointer (some ⟨p, 0, none⟩)) ∧ v1b.cell? ⟨B + 1, 10, none⟩ = some (.pointer (some ⟨dp, 0, none⟩)) := ⟨fv1b.mono fun _ _ h => .inr h, (kWv.cell 9).trans rfl, (kWv.cell 10).trans rfl⟩
    refine ⟨_, rfl, hS6, ?_⟩
    go_simp
    refine wpAnyH_take (i := 10) rfl (by decide +kernel) (by decide +kernel) (by decide +kernel) (fun _ _ _ h => h) (Or.inl ⟨by kernel_rfl, fun W hW => by have q9 := hW.2.1; have q10 := hW.2.2; go_simp; with_reducible rfl⟩) hS6 ?_
    go_simp
    refine wpAnyH_take (i := 11) rfl (by decide +kernel) (by decide +kernel) (by decide +kernel) (fun _ _ _ h => h) (Or.inl ⟨by kernel_rfl, fun W hW => by have q9 := hW.2.1; have q10 := hW.2.2; go_simp; with_reducible rfl⟩) hS6 ?_
    go_simp
    refine wpAnyH_all (rs := [12]) (by decide +kernel) (by simp) ?_
    intro i hi
    simp only [List.mem_cons, List.not_mem_nil, or_false] at hi
    subst hi
    have cW13 := kWv.cell 13
    obtain ⟨x6, hx6⟩ : ∃ x6, x6 = v1b.setCell ⟨B + 1, 13, none⟩ (.int .i64 0) := ⟨_, rfl⟩
    have kW6 : Blk x6 (B + 1) 40 #[.int .i64 0, .slice A n c, .int .i64 (100 : Int), .int .u64 0, .int .i64 (T : Int), .slice none 0 0, .slice none 0 0, .slice none 0 0, .slice O2 m k2, .pointer (some ⟨p, 0, none⟩), .pointer (some ⟨dp, 0, none⟩), .pointer none, .slice none 0 0, .int .i64 0, .bool true] := by
      rw [hx6]
      have := kWv.set_ 13 (.int .i64 0)
      simpa using this
    have f16 : Fr (· = B + 1) v1b x6 := by rw [hx6]; exact (Fr.refl _ _).at_ _ _
    refine wpOp_skip (w' := x6) rfl (by kernel_rfl) (by rw [hx6]; go_simp) ?_
    clear hx6 zW13 cW13
    have fx56 : Fr (fun j => j = B + 1 ∨ j = dp ∨ j = dr) x5.drew x6 := hS6.1.trans f16 fun _ _ h => .inl h
    have c9 : x6.cell? ⟨B + 1, 9, none⟩ = some (.pointer (some ⟨p, 0, none⟩)) := (kW6.cell 9).trans rfl
    have c10 : x6.cell? ⟨B + 1, 10, none⟩ = some (.pointer (some ⟨dp, 0, none⟩)) := (kW6.cell 10).trans rfl
    have c13 : x6.cell? ⟨B + 1, 13, none⟩ = some (.int .i64 0) := (kW6.cell 13).trans rfl
    refine ⟨⟨fx56, c9, c10⟩, ?_⟩
    refine wpAnyH_done (by decide +kernel) ?_ _
    have hD7 := (hD6.fr f16 hdp1 hdr1).fr (Fr.drew (Fr.refl NoB x6)) id id
    have fx46 : Fr (fun j => j = B + 1 ∨ j = dp ∨ j = dr) x4 x6 := (((fx45.mono fun _ _ h => .inl h).trans (Fr.drew (Fr.refl NoB x5)) fun _ _ h => h.elim)).trans fx56 fun _ _ h => h
    clear kW5b kWv hD5 hD6 hS6 hS e9 e10 f16 fv1b fx45 fx56
    go_wp2
    have g9 : x6.drew.cell? ⟨B + 1, 9, none⟩ = some (.pointer (some ⟨p, 0, none⟩)) := c9
    have g10 : x6.drew.cell? ⟨B + 1, 10, none⟩ = some (.pointer (some ⟨dp, 0, none⟩)) := c10
    clear c9 c10 c13
    have hS : Fr (· = B + 1) x6.drew x6.drew ∧ x6.drew.cell? ⟨B + 1, 9, none⟩ = some (.pointer (some ⟨p, 0, none⟩)) ∧ x6.drew.cell? ⟨B + 1, 10, none⟩ = some (.pointer (some ⟨dp, 0, none⟩)) := ⟨Fr.refl _ _, g9, g10⟩
    refine wp_region_held (S := fun W => Fr (· = B + 1) x6.drew W ∧ W.cell? ⟨B + 1, 9, none⟩ = some (.pointer (some ⟨p, 0, none⟩)) ∧ W.cell? ⟨B + 1, 10, none⟩ = some (.pointer (some ⟨dp, 0, none⟩))) rfl ?_
    refine wpAnyH_take (i := 0) rfl (by decide +kernel) (by decide +kernel) (by decide +kernel) (fun _ _ _ h => h) (Or.inl ⟨by kernel_rfl, fun W hW => by have q9 := hW.2.1; have q10 := hW.2.2; go_simp; with_reducible rfl⟩) hS ?_
    go_simp
    refine wpAnyH_take (i := 1) rfl (by decide +kernel) (by decide +kernel) (by decide +kernel) (fun _ _ _ h => h) (Or.inl ⟨by kernel_rfl, fun W hW => by have q9 := hW.2.1; have q10 := hW.2.2; go_simp; with_reducible rfl⟩) hS ?_
    go_simp
    refine wpAnyH_take (i := 2) rfl (by decide +kernel) (by decide +kernel) (by decide +kernel) (fun _ _ _ h => h) (Or.inl ⟨by kernel_rfl, fun W hW => by have q9 := hW.2.1; have q10 := hW.2.2; go_simp; with_reducible rfl⟩) hS ?_
    go_simp
    refine wpAnyH_take (i := 3) rfl (by decide +kernel) (by decide +kernel) (by decide +kernel) (fun _ _ _ h => h) (Or.inl ⟨by kernel_rfl, fun W hW => by have q9 := hW.2.1; have q10 := hW.2.2; go_simp; with_reducible rfl⟩) hS ?_
    go_simp
    refine wpAnyH_take (i := 4) rfl (by decide +kernel) (by decide +kernel) (by decide +kernel) (fun _ _ _ h => h) (Or.inl ⟨by kernel_rfl, fun W hW => by have q9 := hW.2.1; have q10 := hW.2.2; go_simp; with_reducible rfl⟩) hS ?_
    go_simp
    refine wpAnyH_take (i := 5) rfl (by decide +kernel) (by decide +kernel) (by decide +kernel) (fun _ _ _ h => h) (Or.inl ⟨by kernel_rfl, fun W hW => by have q9 := hW.2.1; have q10 := hW.2.2; go_simp; with_reducible rfl⟩) hS ?_
    go_simp
    refine wpAnyH_take (i := 6) rfl (by decide +kernel) (by decide +kernel) (by decide +kernel) (fun _ _ _ h => h) (Or.inl ⟨by kernel_rfl, fun W hW => by have q9 := hW.2.1; have q10 := hW.2.2; go_simp; with_reducible rfl⟩) hS ?_
    go_simp
    refine wpAnyH_take (i := 7) rfl (by decide +kernel) (by decide +kernel) (by decide +kernel) (fun _ _ _ h => h) (Or.inl ⟨by kernel_rfl, fun W hW => by have q9 := hW.2.1; have q10 := hW.2.2; go_simp; with_reducible rfl⟩) hS ?_
    go_simp
    refine wpAnyH_take (i := 8) rfl (by decide +kernel) (by decide +kernel) (by decide +kernel) (fun _ _ _ h => h) (Or.inl ⟨by kernel_rfl, fun W hW => by have q9 := hW.2.1; have q10 := hW.2.2; go_simp; with_reducible rfl⟩) hS ?_
    go_simp
    refine wpAnyH_take (i := 9) rfl (by decide +kernel) (by decide +kernel) (by decide +kernel) (fun _ _ _ h => h) (Or.inl ⟨by kernel_rfl, fun W hW => by have q9 := hW.2.1; have q10 := hW.2.2; go_simp; with_reducible rfl⟩) hS ?_
    go_simp
    refine wpAnyH_all (rs := [10]) (by decide +kernel) (by simp) ?_
    intro i hi
    simp only [List.mem_cons, List.not_mem_nil, or_false] at hi
    subst hi
    refine wpOp_call rfl (by kernel_rfl) 19 (enters_of Tryz.func19 (by kernel_rfl) rfl) #[.tmp 93, .tmp 97] _ rfl _ rfl (freshOpen_any x6.drew p dp dr 4 hD7) ?_
    rintro e v2b ⟨ho, rfl, fv2b⟩
    have kWv := (kW6.fr (Fr.drew (Fr.refl NoB x6)) id).fr fv2b id
    have zW11 := kWv.frozen 11
    have cW11 := kWv.cell 11
    have hS7 : Fr (· = B + 1) x6.drew v2b ∧ v2b.cell? ⟨B + 1, 9, none⟩ = some (.pointer (some ⟨p, 0, none⟩)) ∧ v2b.cell? ⟨B + 1, 10, none⟩ = some (.pointer (some ⟨dp, 0, none⟩)) := ⟨fv2b.mono fun _ _ h => h.elim, (kWv.cell 9).trans rfl, (kWv.cell 10).trans rfl⟩
    refine ⟨_, rfl, hS7, ?_⟩
    go_simp
    refine wpAnyH_take (i := 11) rfl (by decide +kernel) (by decide +kernel) (by decide +kernel) (fun _ _ _ h => h) (Or.inl ⟨by kernel_rfl, fun W hW => by have q9 := hW.2.1; have q10 := hW.2.2; go_simp; with_reducible rfl⟩) hS7 ?_
    go_simp
    refine wpAnyH_take (i := 12) rfl (by decide +kernel) (by decide +kernel) (by decide +kernel) (fun _ _ _ h => h) (Or.inl ⟨by kernel_rfl, fun W hW => by have q9 := hW.2.1; have q10 := hW.2.2; go_simp; with_reducible rfl⟩) hS7 ?_
    go_simp
    refine wpAnyH_take (i := 13) rfl (by decide +kernel) (by decide +kernel) (by decide +kernel) (fun _ _ _ h => h) (Or.inl ⟨by kernel_rfl, fun W hW => by have q9 := hW.2.1; have q10 := hW.2.2; go_simp; with_reducible rfl⟩) hS7 ?_
    go_simp
    refine wpAnyH_take (i := 14) rfl (by decide +kernel) (by decide +kernel) (by decide +kernel) (fun _ _ _ h => h) (Or.inl ⟨by kernel_rfl, fun W hW => by have q9 := hW.2.1; have q10 := hW.2.2; go_simp; with_reducible rfl⟩) hS7 ?_
    go_simp
    refine wpAnyH_take (i := 15) rfl (by decide +kernel) (by decide +kernel) (by decide +kernel) (fun _ _ _ h => h) (Or.inl ⟨by kernel_rfl, fun W hW => by have q9 := hW.2.1; have q10 := hW.2.2; go_simp; with_reducible rfl⟩) hS7 ?_
    go_simp
    refine wpAnyH_all (rs := [16]) (by decide +kernel) (by simp) ?_
    intro i hi
    simp only [List.mem_cons, List.not_mem_nil, or_false] at hi
    subst hi
    obtain ⟨x7, hx7⟩ : ∃ x7, x7 = v2b.setCell ⟨B + 1, 11, none⟩ (.pointer (some ⟨ho, 0, none⟩)) := ⟨_, rfl⟩
    have kW7 : Blk x7 (B + 1) 40 #[.int .i64 0, .slice A n c, .int .i64 (100 : Int), .int .u64 0, .int .i64 (T : Int), .slice none 0 0, .slice none 0 0, .slice none 0 0, .slice O2 m k2, .pointer (some ⟨p, 0, none⟩), .pointer (some ⟨dp, 0, none⟩), .pointer (some ⟨ho, 0, none⟩), .slice none 0 0, .int .i64 0, .bool true] := by
      rw [hx7]
      have := kWv.set_ 11 (.pointer (some ⟨ho, 0, none⟩))
      simpa using this
    have f27 : Fr (· = B + 1) v2b x7 := by rw [hx7]; exact (Fr.refl _ _).at_ _ _
    refine wpOp_skip (w' := x7) rfl (by kernel_rfl) (by rw [hx7]; go_simp) ?_
    clear hx7 zW11 cW11
    have hS8 : Fr (· = B + 1) x6.drew x7 ∧ x7.cell? ⟨B + 1, 9, none⟩ = some (.pointer (some ⟨p, 0, none⟩)) ∧ x7.cell? ⟨B + 1, 10, none⟩ = some (.pointer (some ⟨dp, 0, none⟩)) := ⟨hS7.1.trans f27 fun _ _ h => h, (kW7.cell 9).trans rfl, (kW7.cell 10).trans rfl⟩
    refine ⟨hS8, ?_⟩
    go_simp
    refine wpAnyH_take (i := 17) rfl (by decide +kernel) (by decide +kernel) (by decide +kernel) (fun _ _ _ h => h) (Or.inl ⟨by kernel_rfl, fun W hW => by have q9 := hW.2.1; have q10 := hW.2.2; go_simp; with_reducible rfl⟩) hS8 ?_
    go_simp
    refine wpAnyH_take (i := 18) rfl (by decide +kernel) (by decide +kernel) (by decide +kernel) (fun _ _ _ h => h) (Or.inl ⟨by kernel_rfl, fun W hW => by have q9 := hW.2.1; have q10 := hW.2.2; go_simp; with_reducible rfl⟩) hS8 ?_
    go_simp
    refine wpAnyH_all (rs := [19]) (by decide +kernel) (by simp) ?_
    intro i hi
    simp only [List.mem_cons, List.not_mem_nil, or_false] at hi
    subst hi
    have zW13 := kW7.frozen 13
    have cW13 := kW7.cell 13
    obtain ⟨x8, hx8⟩ : ∃ x8, x8 = x7.setCell ⟨B + 1, 13, none⟩ (.int .i64 0) := ⟨_, rfl⟩
    have kW8 : Blk x8 (B + 1) 40 #[.int .i64 0, .slice A n c, .int .i64 (100 : Int), .int .u64 0, .int .i64 (T : Int), .slice none 0 0, .slice none 0 0, .slice none 0 0, .slice O2 m k2, .pointer (some ⟨p, 0, none⟩), .pointer (some ⟨dp, 0, none⟩), .pointer (some ⟨ho, 0, none⟩), .slice none 0 0, .int .i64 0, .bool true] := by
      rw [hx8]
      have := kW7.set_ 13 (.int .i64 0)
      simpa using this
    have f78 : Fr (· = B + 1) x7 x8 := by rw [hx8]; exact (Fr.refl _ _).at_ _ _
    refine wpOp_skip (w' := x8) rfl (by kernel_rfl) (by rw [hx8]; go_simp) ?_
    clear hx8 zW13 cW13
    have fx68 : Fr (· = B + 1) x6.drew x8 := hS8.1.trans f78 fun _ _ h => h
    refine ⟨⟨fx68, (kW8.cell 9).trans rfl, (kW8.cell 10).trans rfl⟩, ?_⟩
    refine wpAnyH_done (by decide +kernel) ?_ _
    have fx48 : Fr (fun j => j = B + 1 ∨ j = dp ∨ j = dr) x4 x8 := (fx46.trans (Fr.drew (Fr.refl NoB x6)) fun _ _ h => h.elim).trans fx68 fun _ _ h => .inl h
    have dkK : K ≠ dp ∧ K ≠ dr := by have := kK.lt; omega
    have dkB : ¬ (B = B + 1 ∨ B = dp ∨ B = dr) := by omega
    have kK8 := kK4.fr fx48 (by omega)
    have kS8 := kS4.fr fx48 dkB
    have hO8 : Own x8 25 7 O2 m k2 rows := hO4.fr fx48 fun j hj e => by
      have h5 := hO3.lt hj
      have h6 := (hin4 j hj).elim (fun h => absurd h (inB_none j)) id
      omega
    clear kW6 kW7 kWv hD7 hS7 hS8 hS fv2b f27 f78 g9 g10 kW4x kS4 kK4 hO4 kW3 kS3 hO3 kK kW1 kW0 kS0 hO0 hT0 hS0 HC HD y4 fx46 fx68
    go_wp2
    obtain ⟨rk, hrk⟩ : ∃ rk, rk = (.int .u32 1 :: .int .u32 0 :: ky : List Value).toArray := ⟨_, rfl⟩
    have Brk : Hid (Tryz.prog.built 104 [(0, .int .u32 1), (2, .agg ky.toArray)] = some rk) := by show _ = _; rw [hrk]; exact rk_builtW ky Lk.out
    have Zrk : Hid (rk.size = 34) := by show _ = _; have := Lk.out; rw [hrk, List.size_toArray]; simp only [List.length_cons]; omega
    have Crk : Hid (∀ (q : Nat) (u : Value), (.int .u32 1 :: .int .u32 0 :: ky : List Value)[q]? = some u → rk[q]? = some u) := by show ∀ q u, _; intro q u hu; rw [hrk, List.getElem?_toArray]; exact hu
    have Aky : Hid (∀ v ∈ ky, v.oneCell' = true) := by show ∀ v ∈ ky, _; intro v hv; exact Array.all_eq_true_iff_forall_mem.1 Ak.out v (List.mem_toArray.2 hv)
    clear hrk
    go_loopw [105] (fun v wr => ∃ (i : Nat) (R : Option Addr) (kR : Nat) (cs : List Nat), i ≤ 3 ∧ v = .int .u32 i ∧ cs.length = i ∧ Blk wr (B + 1) 40 #[.int .i64 0, .slice A n c, .int .i64 (100 : Int), .int .u64 0, .int .i64 (T : Int), .slice none 0 0, .slice none 0 0, .slice none 0 0, .slice O2 m k2, .pointer (some ⟨p, 0, none⟩), .pointer (some ⟨dp, 0, none⟩), .pointer (some ⟨ho, 0, none⟩), .slice R i kR, .int .i64 0, .bool true] ∧ Own wr 60 1 R i kR (cs.map fun j => .pointer (some ⟨j, 0, none⟩)) ∧ (∀ j ∈ cs, RepoClosed wr j) ∧ (∀ j, inB R j → x8.heap.size ≤ j) ∧ Fr (· = B + 1) x8 wr) (fun v _ => 3 - (intOf v).toNat)
    case atStart => exact ⟨0, none, 0, [], by omega, rfl, rfl, kW8, Own.nil _ _ _, fun _ h => absurd h List.not_mem_nil, fun j h => absurd h (inB_none j), Fr.refl _ _⟩
    case round =>
      obtain ⟨i, R, kR, cs, hi, rfl, hcl, kW9, hR9, hC9, hRn, fx89⟩ := hrel
      obtain ⟨w9, rfl⟩ : ∃ w9 : World, w9 = wr := ⟨_, rfl⟩
      have x8l := kW8.lt
      by_cases hi3 : i < 3
      · have b1 : decide ((i : Int) < 3) = true := by simp only [decide_eq_true_eq]; omega
        have b1' : decide (i < 3) = true := by simp only [decide_eq_true_eq]; omega
        obtain ⟨j, hj⟩ : ∃ j, j = i + 1 := ⟨_, rfl⟩
        have wr1 : IntKind.wrap .u32 ((i : Int) + 1) = (j : Int) := by rw [IntKind.wrap_u32]; omega
        have Hj := Lib.hid hj
        have Hcl := Lib.hid hcl
        clear hj hcl kW8
        go_wp2
        have kK9 := (kK8.fr fx89 (by omega)).fr (Fr.drew (Fr.refl NoB w9)) id
        have e9 : w9.drew.cell? ⟨B + 1, 9, none⟩ = some (.pointer (some ⟨p, 0, none⟩)) := (kW9.cell 9).trans rfl
        have hK9 : ∀ q u, ky[q]? = some u → w9.drew.cell? ⟨K, 0 + q, none⟩ = some u := fun q u hu => by rw [Nat.zero_add, kK9.cell]; simpa using hu
        have hS : Fr NoB w9.drew w9.drew := Fr.refl _ _
        refine wp_region_held (S := fun W => Fr NoB w9.drew W) rfl ?_
        refine wpAnyH_take (i := 0) rfl (by decide +kernel) (by decide +kernel) (by decide +kernel) (fun _ _ _ h => h) (Or.inl ⟨by kernel_rfl, fun W hW => by have q9 := hW.cell' e9 id; go_simp; with_reducible rfl⟩) hS ?_
        go_simp
        refine wpAnyH_take (i := 1) rfl (by decide +kernel) (by decide +kernel) (by decide +kernel) (fun _ _ _ h => h) (Or.inl ⟨by kernel_rfl, fun W hW => by have q9 := hW.cell' e9 id; go_simp; with_reducible rfl⟩) hS ?_
        go_simp
        refine wpAnyH_take (i := 2) rfl (by decide +kernel) (by decide +kernel) (by decide +kernel) (fun _ _ _ h => h) (Or.inl ⟨by kernel_rfl, fun W hW => by have q9 := hW.cell' e9 id; go_simp; with_reducible rfl⟩) hS ?_
        go_simp
        refine wpAnyH_take (i := 3) rfl (by decide +kernel) (by decide +kernel) (by decide +kernel) (fun _ _ _ h => h) (Or.inl ⟨by kernel_rfl, fun W hW => by have q9 := hW.cell' e9 id; go_simp; with_reducible rfl⟩) hS ?_
        go_simp
        refine wpAnyH_take (i := 4) rfl (by decide +kernel) (by decide +kernel) (by decide +kernel) (fun _ _ _ h => h) (Or.inl ⟨by kernel_rfl, fun W hW => exec_load_agg 96 (.tmp 4) rfl K 0 rfl ky _ (fun q u hu => hW.cell' (hK9 q u hu) id) Tryz.underlying96 rfl (by rw [Lk.out]; exact key_sizeK)⟩) hS ?_
        go_simp
        refine wpAnyH_take (i := 5) rfl (by decide +kernel) (by decide +kernel) (by decide +kernel) (fun _ _ _ h => h) (Or.inl ⟨by kernel_rfl, fun W hW => exec_buildK 104 #[(0, .const (.int .u32 1)), (2, .tmp 112)] rfl [(0, .int .u32 1), (2, .agg ky.toArray)] rfl _ Brk.out⟩) hS ?_
        go_simp
        obtain ⟨g1, hg1⟩ : ∃ g1, g1 = w9.drew.heap.size := ⟨_, rfl⟩
        obtain ⟨y1, hy1⟩ : ∃ y1, y1 = w9.drew.alloc (.cells rk 104) := ⟨_, rfl⟩
        have fy1 : Fr NoB w9.drew y1 := by rw [hy1]; exact (Fr.refl _ _).alloc _
        have kR1 : Blk y1 g1 104 rk := by rw [hy1, hg1]; exact Blk.new _ _ _
        refine wpAnyH_all (rs := [6]) (by decide +kernel) (by simp) ?_
        intro i hi
        simp only [List.mem_cons, List.not_mem_nil, or_false] at hi
        subst hi
        refine wpOp_run (v := .slice (some ⟨g1, 0, none⟩) 1 1) (w' := y1) rfl (by kernel_rfl) (by rw [hy1, hg1]; exact exec_build1 el_rkW (by omega) (.tmp 113) rfl rk rfl Zrk.out) ⟨fy1, ?_⟩
        clear hg1 hy1
        go_simp
        refine wpAnyH_all (rs := [7]) (by decide +kernel) (by simp) ?_
        intro i hi
        simp only [List.mem_cons, List.not_mem_nil, or_false] at hi
        subst hi
        refine wpOp_call rfl (by kernel_rfl) 41 (enters_of Tryz.func41 (by kernel_rfl) rfl) #[.tmp 111, .tmp 114] _ rfl _ rfl (treeNew_any y1 p g1 0 1 ky Lk.out Aky.out (fun q u hu => by rw [Nat.zero_add, kR1.cell]; exact Crk.out q u hu)) ?_
        rintro e y2 ⟨tq, rfl, fy2⟩
        have fz1 : Fr NoB w9.drew y2 := fy1.trans fy2 fun _ _ h => h
        refine ⟨_, rfl, fz1, ?_⟩
        go_simp
        refine wpAnyH_take (i := 8) rfl (by decide +kernel) (by decide +kernel) (by decide +kernel) (fun _ _ _ h => h) (Or.inl ⟨by kernel_rfl, fun W hW => by go_simp; with_reducible rfl⟩) fz1 ?_
        go_simp
        refine wpAnyH_done (by decide +kernel) ?_ _
        have fz2 : Fr NoB w9 y2.drew := Fr.drew ((Fr.drew (Fr.refl NoB w9)).trans fz1 fun _ _ h => h)
        clear kR1 fy1 fy2 fz1 e9 hK9 kK9 hS
        go_wp2
        have kS9 := (kS8.fr fx89 (by omega)).fr fz2 id
        have e6 : y2.drew.cell? ⟨B, 6, none⟩ = some (.slice none 0 0) := (kS9.cell 6).trans rfl
        have e7 : y2.drew.cell? ⟨B, 7, none⟩ = some (.slice none 0 0) := (kS9.cell 7).trans rfl
        have hS : Fr NoB y2.drew y2.drew := Fr.refl _ _
        refine wp_region_held (S := fun W => Fr NoB y2.drew W) rfl ?_
        refine wpAnyH_take (i := 0) rfl (by decide +kernel) (by decide +kernel) (by decide +kernel) (fun _ _ _ h => h) (Or.inl ⟨by kernel_rfl, fun W hW => by have q6 := hW.cell' e6 id; have q7 := hW.cell' e7 id; go_simp; with_reducible rfl⟩) hS ?_
        go_simp
        refine wpAnyH_take (i := 1) rfl (by decide +kernel) (by decide +kernel) (by decide +kernel) (fun _ _ _ h => h) (Or.inl ⟨by kernel_rfl, fun W hW => by have q6 := hW.cell' e6 id; have q7 := hW.cell' e7 id; go_simp; with_reducible rfl⟩) hS ?_
        go_simp
        refine wpAnyH_take (i := 3) rfl (by decide +kernel) (by decide +kernel) (by decide +kernel) (fun _ _ _ h => h) (Or.inl ⟨by kernel_rfl, fun W hW => by have q6 := hW.cell' e6 id; have q7 := hW.cell' e7 id; go_simp; with_reducible rfl⟩) hS ?_
        go_simp
        refine wpAnyH_take (i := 4) rfl (by decide +kernel) (by decide +kernel) (by decide +kernel) (fun _ _ _ h => h) (Or.inl ⟨by kernel_rfl, fun W hW => by have q6 := hW.cell' e6 id; have q7 := hW.cell' e7 id; go_simp; with_reducible rfl⟩) hS ?_
        go_simp
        refine wpAnyH_all (rs := [2]) (by decide +kernel) (by simp) ?_
        intro i hi
        simp only [List.mem_cons, List.not_mem_nil, or_false] at hi
        subst hi
        refine wpOp_call rfl (by kernel_rfl) 42 (enters_of Tryz.func42 (by kernel_rfl) rfl) #[.tmp 117] _ rfl _ rfl (linkNew_nil y2.drew) ?_
        rintro e y3 ⟨uq, rfl, fy3⟩
        refine ⟨_, rfl, fy3, ?_⟩
        go_simp
        refine wpAnyH_all (rs := [5]) (by decide +kernel) (by simp) ?_
        intro i hi
        simp only [List.mem_cons, List.not_mem_nil, or_false] at hi
        subst hi
        refine wpOp_call rfl (by kernel_rfl) 42 (enters_of Tryz.func42 (by kernel_rfl) rfl) #[.tmp 120] _ rfl _ rfl (linkNew_nil y3) ?_
        rintro e y4 ⟨dq, rfl, fy4⟩
        have fz3 : Fr NoB y2.drew y4 := fy3.trans fy4 fun _ _ h => h
        refine ⟨_, rfl, fz3, ?_⟩
        go_simp
        refine wpAnyH_take (i := 6) rfl (by decide +kernel) (by decide +kernel) (by decide +kernel) (fun _ _ _ h => h) (Or.inl ⟨by kernel_rfl, fun W hW => by go_simp; with_reducible rfl⟩) fz3 ?_
        go_simp
        refine wpAnyH_take (i := 7) rfl (by decide +kernel) (by decide +kernel) (by decide +kernel) (fun _ _ _ h => h) (Or.inl ⟨by kernel_rfl, fun W hW => by go_simp; with_reducible rfl⟩) fz3 ?_
        go_simp
        refine wpAnyH_done (by decide +kernel) ?_ _
        obtain ⟨z0, hz0⟩ : ∃ z0, z0 = y4.drew := ⟨_, rfl⟩
        have fz4 : Fr NoB w9 z0 := by rw [hz0]; exact Fr.drew (fz2.trans fz3 fun _ _ h => h)
        clear fy3 fy4 fz2 fz3 e6 e7 hS kS9
        go_wp2
        refine wp_region_held (S := fun W => Fr (fun j => j = B + 1 ∨ inB R j) z0 W ∧ W.cell? ⟨B + 1, 11, none⟩ = some (.pointer (some ⟨ho, 0, none⟩))) rfl ?_
        rw [show ({ y4 with drawn := y4.drawn + 1 } : World) = z0 from hz0.symm]
        clear hz0
        have kS9 := (kS8.fr fx89 (by omega)).fr fz4 id
        have kW9z := kW9.fr fz4 id
        have hR9z := hR9.fr fz4 fun _ _ => id
        have e4 : z0.cell? ⟨B, 4, none⟩ = some (.int .i64 (T : Int)) := (kS9.cell 4).trans rfl
        have e12 : z0.cell? ⟨B + 1, 12, none⟩ = some (.slice R i kR) := (kW9z.cell 12).trans rfl
        have nB : ¬ (B = B + 1 ∨ inB R B) := by
          rintro (h | h)
          · omega
          · have := hRn _ h; omega
        have hS : Fr (fun j => j = B + 1 ∨ inB R j) z0 z0 ∧ z0.cell? ⟨B + 1, 11, none⟩ = some (.pointer (some ⟨ho, 0, none⟩)) := ⟨Fr.refl _ _, (kW9z.cell 11).trans rfl⟩
        refine wpAnyH_take (i := 0) rfl (by decide +kernel) (by decide +kernel) (by decide +kernel) (fun _ _ _ h => h) (Or.inl ⟨by kernel_rfl, fun W hW => by have q4 := hW.1.cell' e4 nB; have q11 := hW.2; go_simp; with_reducible rfl⟩) hS ?_
        go_simp
        refine wpAnyH_take (i := 1) rfl (by decide +kernel) (by decide +kernel) (by decide +kernel) (fun _ _ _ h => h) (Or.inl ⟨by kernel_rfl, fun W hW => by have q4 := hW.1.cell' e4 nB; have q11 := hW.2; go_simp; with_reducible rfl⟩) hS ?_
        go_simp
        refine wpAnyH_take (i := 2) rfl (by decide +kernel) (by decide +kernel) (by decide +kernel) (fun _ _ _ h => h) (Or.inl ⟨by kernel_rfl, fun W hW => by have q4 := hW.1.cell' e4 nB; have q11 := hW.2; go_simp; with_reducible rfl⟩) hS ?_
        go_simp
        refine wpAnyH_take (i := 3) rfl (by decide +kernel) (by decide +kernel) (by decide +kernel) (fun _ _ _ h => h) (Or.inl ⟨by kernel_rfl, fun W hW => by have q4 := hW.1.cell' e4 nB; have q11 := hW.2; go_simp; with_reducible rfl⟩) hS ?_
        go_simp
        refine wpAnyH_take (i := 5) rfl (by decide +kernel) (by decide +kernel) (by decide +kernel) (fun _ _ _ h => h) (Or.inl ⟨by kernel_rfl, fun W hW => by have q4 := hW.1.cell' e4 nB; have q11 := hW.2; go_simp; with_reducible rfl⟩) hS ?_
        go_simp
        refine wpAnyH_take (i := 6) rfl (by decide +kernel) (by decide +kernel) (by decide +kernel) (fun _ _ _ h => h) (Or.inl ⟨by kernel_rfl, fun W hW => by have q4 := hW.1.cell' e4 nB; have q11 := hW.2; go_simp; with_reducible rfl⟩) hS ?_
        go_simp
        refine wpAnyH_take (i := 7) rfl (by decide +kernel) (by decide +kernel) (by decide +kernel) (fun _ _ _ h => h) (Or.inl ⟨by kernel_rfl, fun W hW => by have q4 := hW.1.cell' e4 nB; have q11 := hW.2; go_simp; with_reducible rfl⟩) hS ?_
        go_simp
        refine wpAnyH_take (i := 8) rfl (by decide +kernel) (by decide +kernel) (by decide +kernel) (fun _ _ _ h => h) (Or.inl ⟨by kernel_rfl, fun W hW => by have q4 := hW.1.cell' e4 nB; have q11 := hW.2; go_simp; with_reducible rfl⟩) hS ?_
        go_simp
        refine wpAnyH_take (i := 10) rfl (by decide +kernel) (by decide +kernel) (by decide +kernel) (fun _ _ _ h => h) (Or.inl ⟨by kernel_rfl, fun W hW => by have q4 := hW.1.cell' e4 nB; have q11 := hW.2; go_simp; with_reducible rfl⟩) hS ?_
        go_simp
        refine wpAnyH_take (i := 11) rfl (by decide +kernel) (by decide +kernel) (by decide +kernel) (fun _ _ _ h => h) (Or.inl ⟨by kernel_rfl, fun W hW => by have q4 := hW.1.cell' e4 nB; have q11 := hW.2; go_simp; with_reducible rfl⟩) hS ?_
        go_simp
        refine wpAnyH_take (i := 12) rfl (by decide +kernel) (by decide +kernel) (by decide +kernel) (fun _ _ _ h => h) (Or.inl ⟨by kernel_rfl, fun W hW => by have q4 := hW.1.cell' e4 nB; have q11 := hW.2; go_simp; with_reducible rfl⟩) hS ?_
        go_simp
        refine wpAnyH_take (i := 13) rfl (by decide +kernel) (by decide +kernel) (by decide +kernel) (fun _ _ _ h => h) (Or.inl ⟨by kernel_rfl, fun W hW => by have q4 := hW.1.cell' e4 nB; have q11 := hW.2; go_simp; with_reducible rfl⟩) hS ?_
        go_simp
        refine wpAnyH_take (i := 14) rfl (by decide +kernel) (by decide +kernel) (by decide +kernel) (fun _ _ _ h => h) (Or.inl ⟨by kernel_rfl, fun W hW => by have q4 := hW.1.cell' e4 nB; have q11 := hW.2; go_simp; with_reducible rfl⟩) hS ?_
        go_simp
        refine wpAnyH_take (i := 15) rfl (by decide +kernel) (by decide +kernel) (by decide +kernel) (fun _ _ _ h => h) (Or.inl ⟨by kernel_rfl, fun W hW => by have q4 := hW.1.cell' e4 nB; have q11 := hW.2; go_simp; with_reducible rfl⟩) hS ?_
        go_simp
        refine wpAnyH_take (i := 16) rfl (by decide +kernel) (by decide +kernel) (by decide +kernel) (fun _ _ _ h => h) (Or.inl ⟨by kernel_rfl, fun W hW => by have q4 := hW.1.cell' e4 nB; have q11 := hW.2; go_simp; with_reducible rfl⟩) hS ?_
        go_simp
        refine wpAnyH_take (i := 17) rfl (by decide +kernel) (by decide +kernel) (by decide +kernel) (fun _ _ _ h => h) (Or.inl ⟨by kernel_rfl, fun W hW => by have q4 := hW.1.cell' e4 nB; have q11 := hW.2; go_simp; with_reducible rfl⟩) hS ?_
        go_simp
        refine wpAnyH_take (i := 18) rfl (by decide +kernel) (by decide +kernel) (by decide +kernel) (fun _ _ _ h => h) (Or.inl ⟨by kernel_rfl, fun W hW => by have q4 := hW.1.cell' e4 nB; have q11 := hW.2; go_simp; with_reducible rfl⟩) hS ?_
        go_simp
        have hT : Fr NoB z0 z0 := Fr.refl _ _
        have cRs : ∀ {W : World}, Fr NoB z0 W → Fr (fun j => j = B + 1 ∨ inB R j) z0 W ∧ W.cell? ⟨B + 1, 11, none⟩ = some (.pointer (some ⟨ho, 0, none⟩)) := fun h => ⟨h.mono fun _ _ h => h.elim, (((kW9z.fr h id).cell 11).trans rfl)⟩
        refine wpAnyH_all (rs := [4, 9]) (by decide +kernel) (by simp) ?_
        intro i hi
        simp only [List.mem_cons, List.not_mem_nil, or_false] at hi
        rcases hi with rfl | rfl
        · have q12 := hT.cell' e12 id
          refine wpOp_run (v := .slice R i kR) (w' := z0) rfl (by kernel_rfl) (by go_simp) ⟨cRs hT, ?_⟩
          clear q12
          go_simp
          refine wpAnyH_all (rs := [9]) (by decide +kernel) (by simp) ?_
          intro i hi
          simp only [List.mem_cons, List.not_mem_nil, or_false] at hi
          subst hi
          refine wpOp_call rfl (by kernel_rfl) 37 (enters_of Tryz.func37 (by kernel_rfl) rfl) #[.tmp 128, .tmp 130] _ rfl _ rfl (sessNew_made z0 j T (by have := Hj.out; omega) (by have := Hj.out; omega) hT0' hT50) ?_
          rintro e z1 ⟨cq, rfl, hf⟩
          replace hT := hT.trans hf fun _ _ => id
          clear hf
          refine ⟨_, rfl, cRs hT, ?_⟩
          go_simp
          refine wpAnyH_all (rs := [19]) (by decide +kernel) (by simp) ?_
          intro i hi
          simp only [List.mem_cons, List.not_mem_nil, or_false] at hi
          subst hi
          refine wpOp_call rfl (by kernel_rfl) 43 (enters_of Tryz.func43 (by kernel_rfl) rfl) #[.tmp 131, .tmp 135, .tmp 136, .tmp 137, .tmp 138, .const (.int .u32 1), .const (.int .u32 1), .const (.int .u32 0), .tmp 140] _ rfl _ rfl (repoNew_ex z1 _ _ _ _ _ _ _ _ _) ?_
          rintro e z2 ⟨rq, rfl, hC2, hrq, hf⟩
          have hrq0 : z0.heap.size ≤ rq := Nat.le_trans hT.size hrq
          replace hT := hT.trans hf fun _ _ => id
          clear hf hrq
          refine ⟨_, rfl, cRs hT, ?_⟩
          go_simp
          refine wpAnyH_all (rs := [20]) (by decide +kernel) (by simp) ?_
          intro i hi
          simp only [List.mem_cons, List.not_mem_nil, or_false] at hi
          subst hi
          obtain ⟨g2, hg2⟩ : ∃ g2, g2 = z2.heap.size := ⟨_, rfl⟩
          obtain ⟨z3, hz3⟩ : ∃ z3, z3 = z2.alloc (.cells #[.pointer (some ⟨rq, 0, none⟩)] 60) := ⟨_, rfl⟩
          have f23 : Fr NoB z2 z3 := by rw [hz3]; exact (Fr.refl _ _).alloc _
          have aO : Arr z3 (fun k => k = g2) 1 (some ⟨g2, 0, none⟩) 1 [.pointer (some ⟨rq, 0, none⟩)] := by rw [hz3, hg2]; exact Arr.one _ _ _
          refine wpOp_run (v := .slice (some ⟨g2, 0, none⟩) 1 1) (w' := z3) rfl (by kernel_rfl) (by rw [hz3, hg2]; go_simp) ⟨cRs (hT.trans f23 fun _ _ => id), ?_⟩
          clear hg2 hz3
          replace hT := hT.trans f23 fun _ _ => id
          have hC3 := hC2.fr f23 id
          clear f23 hC2
          go_simp
          refine wpAnyH_all (rs := [21]) (by decide +kernel) (by simp) ?_
          intro i hi
          simp only [List.mem_cons, List.not_mem_nil, or_false] at hi
          subst hi
          refine wpOp_app el_repW rfl (by kernel_rfl) (.tmp 126) (.tmp 142) rfl R i kR _ rfl (hR9z.fr hT fun _ _ => id) _ _ 1 1 _ rfl aO (by simp [Value.oneCell']) (by omega) ?_
          intro R2 kR2 z4 hO10 hf10 hin10
          rw [← Hj.out] at hO10
          rw [← Hj.out]
          have nW : ¬ inB R (B + 1) := hR9z.ne_blk kW9z (by decide)
          have kW10 := (kW9z.fr hT id).fr hf10 nW
          have fS4 : Fr (fun j => j = B + 1 ∨ inB R j) z0 z4 := (cRs hT).1.trans hf10 fun _ _ h => .inr h
          have hS4 : Fr (fun j => j = B + 1 ∨ inB R j) z0 z4 ∧ z4.cell? ⟨B + 1, 11, none⟩ = some (.pointer (some ⟨ho, 0, none⟩)) := ⟨fS4, (kW10.cell 11).trans rfl⟩
          refine ⟨hS4, ?_⟩
          go_simp
          refine wpAnyH_take (i := 22) rfl (by decide +kernel) (by decide +kernel) (by decide +kernel) (fun _ _ _ h => h) (Or.inl ⟨by kernel_rfl, fun W hW => by go_simp; with_reducible rfl⟩) hS4 ?_
          go_simp
          refine wpAnyH_take (i := 23) rfl (by decide +kernel) (by decide +kernel) (by decide +kernel) (fun _ _ _ h => h) (Or.inl ⟨by kernel_rfl, fun W hW => by go_simp; with_reducible rfl⟩) hS4 ?_
          go_simp
          refine wpAnyH_all (rs := [24]) (by decide +kernel) (by simp) ?_
          intro i hi
          simp only [List.mem_cons, List.not_mem_nil, or_false] at hi
          subst hi
          have zW12 := kW10.frozen 12
          have cW12 := kW10.cell 12
          obtain ⟨z5, hz5⟩ : ∃ z5, z5 = z4.setCell ⟨B + 1, 12, none⟩ (.slice R2 j kR2) := ⟨_, rfl⟩
          have kW11 : Blk z5 (B + 1) 40 #[.int .i64 0, .slice A n c, .int .i64 (100 : Int), .int .u64 0, .int .i64 (T : Int), .slice none 0 0, .slice none 0 0, .slice none 0 0, .slice O2 m k2, .pointer (some ⟨p, 0, none⟩), .pointer (some ⟨dp, 0, none⟩), .pointer (some ⟨ho, 0, none⟩), .slice R2 j kR2, .int .i64 0, .bool true] := by
            rw [hz5]
            have := kW10.set_ 12 (.slice R2 j kR2)
            simpa using this
          have f45 : Fr (· = B + 1) z4 z5 := by rw [hz5]; exact (Fr.refl _ _).at_ _ _
          refine wpOp_skip (w' := z5) rfl (by kernel_rfl) (by rw [hz5]; go_simp) ?_
          clear hz5 zW12 cW12
          have fS5 : Fr (fun j => j = B + 1 ∨ inB R j) z0 z5 := fS4.trans f45 fun _ _ h => .inl h
          refine ⟨⟨fS5, (kW11.cell 11).trans rfl⟩, ?_⟩
          refine wpAnyH_done (by decide +kernel) ?_ _
          have z0l := fz4.size
          have z8l := fx89.size
          have hn10 : ∀ q, inB R2 q → x8.heap.size ≤ q := fun q hq => (hin10 q hq).elim (hRn q) fun h => by have := hT.size; omega
          have hO11 : Own z5 60 1 R2 j kR2 ((cs ++ [rq]).map fun j => .pointer (some ⟨j, 0, none⟩)) := by
            rw [List.map_append]
            exact hO10.fr f45 fun q hq e => by have := hn10 q hq; omega
          have hC11 : ∀ q ∈ cs ++ [rq], RepoClosed z5 q := by
            have hne : ∀ {W : World} {q : Nat} {M : Option Addr} {a b : Nat} {xs : List Value}, Own W 60 1 M a b xs → RepoClosed W q → ¬ inB M q := fun h hc => by
              obtain ⟨_, hk, _⟩ := hc
              exact h.ne_blk hk (by decide)
            have hneW : ∀ {W : World} {q : Nat} {us : Array Value}, Blk W (B + 1) 40 us → RepoClosed W q → ¬ q = B + 1 := fun h hc => by
              obtain ⟨_, hk, _⟩ := hc
              rintro rfl
              exact absurd (h.ne_ hk (by decide)) (by simp)
            intro q hq
            rcases List.mem_append.1 hq with hq | hq
            · have c0 := (hC9 q hq).fr fz4 id
              have c4 := (c0.fr hT id).fr hf10 (hne hR9z c0)
              exact c4.fr f45 (hneW kW10 c4)
            · rw [List.mem_singleton.1 hq]
              have c4 := hC3.fr hf10 (hne (hR9z.fr hT fun _ _ => id) hC3)
              exact c4.fr f45 (hneW kW10 c4)
          have fx85 : Fr (· = B + 1) x8 z5 := (fx89.trans fz4 fun _ _ h => h.elim).new fS5 fun q hq => hq.elim (fun h => .inl h) fun h => .inr (hRn q h)
          have hle := Hj.out
          have hlen : (cs ++ [rq]).length = j := by rw [List.length_append, Hcl.out, Hj.out]; rfl
          clear aO hO10 hf10 hin10 fS4 hS4 f45 fS5 z0l z8l kW10 hC3
          go_wp2
          go_roundw
          case rel => exact ⟨j, R2, kR2, cs ++ [rq], by omega, by go_num, hlen, kW11, hO11, hC11, hn10, fx85⟩
          case measure => (simp [intOf] <;> omega)
        · refine wpOp_call rfl (by kernel_rfl) 37 (enters_of Tryz.func37 (by kernel_rfl) rfl) #[.tmp 128, .tmp 130] _ rfl _ rfl (sessNew_made z0 j T (by have := Hj.out; omega) (by have := Hj.out; omega) hT0' hT50) ?_
          rintro e z1 ⟨cq, rfl, hf⟩
          replace hT := hT.trans hf fun _ _ => id
          clear hf
          refine ⟨_, rfl, cRs hT, ?_⟩
          go_simp
          refine wpAnyH_all (rs := [4, 19]) (by decide +kernel) (by simp) ?_
          intro i hi
          simp only [List.mem_cons, List.not_mem_nil, or_false] at hi
          rcases hi with rfl | rfl
          · have q12 := hT.cell' e12 id
            refine wpOp_run (v := .slice R i kR) (w' := z1) rfl (by kernel_rfl) (by go_simp) ⟨cRs hT, ?_⟩
            clear q12
            go_simp
            refine wpAnyH_all (rs := [19]) (by decide +kernel) (by simp) ?_
            intro i hi
            simp only [List.mem_cons, List.not_mem_nil, or_false] at hi
            subst hi
            refine wpOp_call rfl (by kernel_rfl) 43 (enters_of Tryz.func43 (by kernel_rfl) rfl) #[.tmp 131, .tmp 135, .tmp 136, .tmp 137, .tmp 138, .const (.int .u32 1), .const (.int .u32 1), .const (.int .u32 0), .tmp 140] _ rfl _ rfl (repoNew_ex z1 _ _ _ _ _ _ _ _ _) ?_
            rintro e z2 ⟨rq, rfl, hC2, hrq, hf⟩
            have hrq0 : z0.heap.size ≤ rq := Nat.le_trans hT.size hrq
            replace hT := hT.trans hf fun _ _ => id
            clear hf hrq
            refine ⟨_, rfl, cRs hT, ?_⟩
            go_simp
            refine wpAnyH_all (rs := [20]) (by decide +kernel) (by simp) ?_
            intro i hi
            simp only [List.mem_cons, List.not_mem_nil, or_false] at hi
            subst hi
            obtain ⟨g2, hg2⟩ : ∃ g2, g2 = z2.heap.size := ⟨_, rfl⟩
            obtain ⟨z3, hz3⟩ : ∃ z3, z3 = z2.alloc (.cells #[.pointer (some ⟨rq, 0, none⟩)] 60) := ⟨_, rfl⟩
            have f23 : Fr NoB z2 z3 := by rw [hz3]; exact (Fr.refl _ _).alloc _
            have aO : Arr z3 (fun k => k = g2) 1 (some ⟨g2, 0, none⟩) 1 [.pointer (some ⟨rq, 0, none⟩)] := by rw [hz3, hg2]; exact Arr.one _ _ _
            refine wpOp_run (v := .slice (some ⟨g2, 0, none⟩) 1 1) (w' := z3) rfl (by kernel_rfl) (by rw [hz3, hg2]; go_simp) ⟨cRs (hT.trans f23 fun _ _ => id), ?_⟩
            clear hg2 hz3
            replace hT := hT.trans f23 fun _ _ => id
            have hC3 := hC2.fr f23 id
            clear f23 hC2
            go_simp
            refine wpAnyH_all (rs := [21]) (by decide +kernel) (by simp) ?_
            intro i hi
            simp only [List.mem_cons, List.not_mem_nil, or_false] at hi
            subst hi
            refine wpOp_app el_repW rfl (by kernel_rfl) (.tmp 126) (.tmp 142) rfl R i kR _ rfl (hR9z.fr hT fun _ _ => id) _ _ 1 1 _ rfl aO (by simp [Value.oneCell']) (by omega) ?_
            intro R2 kR2 z4 hO10 hf10 hin10
            rw [← Hj.out] at hO10
            rw [← Hj.out]
            have nW : ¬ inB R (B + 1) := hR9z.ne_blk kW9z (by decide)
            have kW10 := (kW9z.fr hT id).fr hf10 nW
            have fS4 : Fr (fun j => j = B + 1 ∨ inB R j) z0 z4 := (cRs hT).1.trans hf10 fun _ _ h => .inr h
            have hS4 : Fr (fun j => j = B + 1 ∨ inB R j) z0 z4 ∧ z4.cell? ⟨B + 1, 11, none⟩ = some (.pointer (some ⟨ho, 0, none⟩)) := ⟨fS4, (kW10.cell 11).trans rfl⟩
            refine ⟨hS4, ?_⟩
            go_simp
            refine wpAnyH_take (i := 22) rfl (by decide +kernel) (by decide +kernel) (by decide +kernel) (fun _ _ _ h => h) (Or.inl ⟨by kernel_rfl, fun W hW => by go_simp; with_reducible rfl⟩) hS4 ?_
            go_simp
            refine wpAnyH_take (i := 23) rfl (by decide +kernel) (by decide +kernel) (by decide +kernel) (fun _ _ _ h => h) (Or.inl ⟨by kernel_rfl, fun W hW => by go_simp; with_reducible rfl⟩) hS4 ?_
            go_simp
            refine wpAnyH_all (rs := [24]) (by decide +kernel) (by simp) ?_
            intro i hi
            simp only [List.mem_cons, List.not_mem_nil, or_false] at hi
            subst hi
            have zW12 := kW10.frozen 12
            have cW12 := kW10.cell 12
            obtain ⟨z5, hz5⟩ : ∃ z5, z5 = z4.setCell ⟨B + 1, 12, none⟩ (.slice R2 j kR2) := ⟨_, rfl⟩
            have kW11 : Blk z5 (B + 1) 40 #[.int .i64 0, .slice A n c, .int .i64 (100 : Int), .int .u64 0, .int .i64 (T : Int), .slice none 0 0, .slice none 0 0, .slice none 0 0, .slice O2 m k2, .pointer (some ⟨p, 0, none⟩), .pointer (some ⟨dp, 0, none⟩), .pointer (some ⟨ho, 0, none⟩), .slice R2 j kR2, .int .i64 0, .bool true] := by
              rw [hz5]
              have := kW10.set_ 12 (.slice R2 j kR2)
              simpa using this
            have f45 : Fr (· = B + 1) z4 z5 := by rw [hz5]; exact (Fr.refl _ _).at_ _ _
            refine wpOp_skip (w' := z5) rfl (by kernel_rfl) (by rw [hz5]; go_simp) ?_
            clear hz5 zW12 cW12
            have fS5 : Fr (fun j => j = B + 1 ∨ inB R j) z0 z5 := fS4.trans f45 fun _ _ h => .inl h
            refine ⟨⟨fS5, (kW11.cell 11).trans rfl⟩, ?_⟩
            refine wpAnyH_done (by decide +kernel) ?_ _
            have z0l := fz4.size
            have z8l := fx89.size
            have hn10 : ∀ q, inB R2 q → x8.heap.size ≤ q := fun q hq => (hin10 q hq).elim (hRn q) fun h => by have := hT.size; omega
            have hO11 : Own z5 60 1 R2 j kR2 ((cs ++ [rq]).map fun j => .pointer (some ⟨j, 0, none⟩)) := by
              rw [List.map_append]
              exact hO10.fr f45 fun q hq e => by have := hn10 q hq; omega
            have hC11 : ∀ q ∈ cs ++ [rq], RepoClosed z5 q := by
              have hne : ∀ {W : World} {q : Nat} {M : Option Addr} {a b : Nat} {xs : List Value}, Own W 60 1 M a b xs → RepoClosed W q → ¬ inB M q := fun h hc => by
                obtain ⟨_, hk, _⟩ := hc
                exact h.ne_blk hk (by decide)
              have hneW : ∀ {W : World} {q : Nat} {us : Array Value}, Blk W (B + 1) 40 us → RepoClosed W q → ¬ q = B + 1 := fun h hc => by
                obtain ⟨_, hk, _⟩ := hc
                rintro rfl
                exact absurd (h.ne_ hk (by decide)) (by simp)
              intro q hq
              rcases List.mem_append.1 hq with hq | hq
              · have c0 := (hC9 q hq).fr fz4 id
                have c4 := (c0.fr hT id).fr hf10 (hne hR9z c0)
                exact c4.fr f45 (hneW kW10 c4)
              · rw [List.mem_singleton.1 hq]
                have c4 := hC3.fr hf10 (hne (hR9z.fr hT fun _ _ => id) hC3)
                exact c4.fr f45 (hneW kW10 c4)
            have fx85 : Fr (· = B + 1) x8 z5 := (fx89.trans fz4 fun _ _ h => h.elim).new fS5 fun q hq => hq.elim (fun h => .inl h) fun h => .inr (hRn q h)
            have hle := Hj.out
            have hlen : (cs ++ [rq]).length = j := by rw [List.length_append, Hcl.out, Hj.out]; rfl
            clear aO hO10 hf10 hin10 fS4 hS4 f45 fS5 z0l z8l kW10 hC3
            go_wp2
            go_roundw
            case rel => exact ⟨j, R2, kR2, cs ++ [rq], by omega, by go_num, hlen, kW11, hO11, hC11, hn10, fx85⟩
            case measure => (simp [intOf] <;> omega)
          · refine wpOp_call rfl (by kernel_rfl) 43 (enters_of Tryz.func43 (by kernel_rfl) rfl) #[.tmp 131, .tmp 135, .tmp 136, .tmp 137, .tmp 138, .const (.int .u32 1), .const (.int .u32 1), .const (.int .u32 0), .tmp 140] _ rfl _ rfl (repoNew_ex z1 _ _ _ _ _ _ _ _ _) ?_
            rintro e z2 ⟨rq, rfl, hC2, hrq, hf⟩
            have hrq0 : z0.heap.size ≤ rq := Nat.le_trans hT.size hrq
            replace hT := hT.trans hf fun _ _ => id
            clear hf hrq
            refine ⟨_, rfl, cRs hT, ?_⟩
            go_simp
            refine wpAnyH_all (rs := [4, 20]) (by decide +kernel) (by simp) ?_
            intro i hi
            simp only [List.mem_cons, List.not_mem_nil, or_false] at hi
            rcases hi with rfl | rfl
            · have q12 := hT.cell' e12 id
              refine wpOp_run (v := .slice R i kR) (w' := z2) rfl (by kernel_rfl) (by go_simp) ⟨cRs hT, ?_⟩
              clear q12
              go_simp
              refine wpAnyH_all (rs := [20]) (by decide +kernel) (by simp) ?_
              intro i hi
              simp only [List.mem_cons, List.not_mem_nil, or_false] at hi
              subst hi
              obtain ⟨g2, hg2⟩ : ∃ g2, g2 = z2.heap.size := ⟨_, rfl⟩
              obtain ⟨z3, hz3⟩ : ∃ z3, z3 = z2.alloc (.cells #[.pointer (some ⟨rq, 0, none⟩)] 60) := ⟨_, rfl⟩
              have f23 : Fr NoB z2 z3 := by rw [hz3]; exact (Fr.refl _ _).alloc _
              have aO : Arr z3 (fun k => k = g2) 1 (some ⟨g2, 0, none⟩) 1 [.pointer (some ⟨rq, 0, none⟩)] := by rw [hz3, hg2]; exact Arr.one _ _ _
              refine wpOp_run (v := .slice (some ⟨g2, 0, none⟩) 1 1) (w' := z3) rfl (by kernel_rfl) (by rw [hz3, hg2]; go_simp) ⟨cRs (hT.trans f23 fun _ _ => id), ?_⟩
              clear hg2 hz3
              replace hT := hT.trans f23 fun _ _ => id
              have hC3 := hC2.fr f23 id
              clear f23 hC2
              go_simp
              refine wpAnyH_all (rs := [21]) (by decide +kernel) (by simp) ?_
              intro i hi
              simp only [List.mem_cons, List.not_mem_nil, or_false] at hi
              subst hi
              refine wpOp_app el_repW rfl (by kernel_rfl) (.tmp 126) (.tmp 142) rfl R i kR _ rfl (hR9z.fr hT fun _ _ => id) _ _ 1 1 _ rfl aO (by simp [Value.oneCell']) (by omega) ?_
              intro R2 kR2 z4 hO10 hf10 hin10
              rw [← Hj.out] at hO10
              rw [← Hj.out]
              have nW : ¬ inB R (B + 1) := hR9z.ne_blk kW9z (by decide)
              have kW10 := (kW9z.fr hT id).fr hf10 nW
              have fS4 : Fr (fun j => j = B + 1 ∨ inB R j) z0 z4 := (cRs hT).1.trans hf10 fun _ _ h => .inr h
              have hS4 : Fr (fun j => j = B + 1 ∨ inB R j) z0 z4 ∧ z4.cell? ⟨B + 1, 11, none⟩ = some (.pointer (some ⟨ho, 0, none⟩)) := ⟨fS4, (kW10.cell 11).trans rfl⟩
              refine ⟨hS4, ?_⟩
              go_simp
              refine wpAnyH_take (i := 22) rfl (by decide +kernel) (by decide +kernel) (by decide +kernel) (fun _ _ _ h => h) (Or.inl ⟨by kernel_rfl, fun W hW => by go_simp; with_reducible rfl⟩) hS4 ?_
              go_simp
              refine wpAnyH_take (i := 23) rfl (by decide +kernel) (by decide +kernel) (by decide +kernel) (fun _ _ _ h => h) (Or.inl ⟨by kernel_rfl, fun W hW => by go_simp; with_reducible rfl⟩) hS4 ?_
              go_simp
              refine wpAnyH_all (rs := [24]) (by decide +kernel) (by simp) ?_
              intro i hi
              simp only [List.mem_cons, List.not_mem_nil, or_false] at hi
              subst hi
              have zW12 := kW10.frozen 12
              have cW12 := kW10.cell 12
              obtain ⟨z5, hz5⟩ : ∃ z5, z5 = z4.setCell ⟨B + 1, 12, none⟩ (.slice R2 j kR2) := ⟨_, rfl⟩
              have kW11 : Blk z5 (B + 1) 40 #[.int .i64 0, .slice A n c, .int .i64 (100 : Int), .int .u64 0, .int .i64 (T : Int), .slice none 0 0, .slice none 0 0, .slice none 0 0, .slice O2 m k2, .pointer (some ⟨p, 0, none⟩), .pointer (some ⟨dp, 0, none⟩), .pointer (some ⟨ho, 0, none⟩), .slice R2 j kR2, .int .i64 0, .bool true] := by
                rw [hz5]
                have := kW10.set_ 12 (.slice R2 j kR2)
                simpa using this
              have f45 : Fr (· = B + 1) z4 z5 := by rw [hz5]; exact (Fr.refl _ _).at_ _ _
              refine wpOp_skip (w' := z5) rfl (by kernel_rfl) (by rw [hz5]; go_simp) ?_
              clear hz5 zW12 cW12
              have fS5 : Fr (fun j => j = B + 1 ∨ inB R j) z0 z5 := fS4.trans f45 fun _ _ h => .inl h
              refine ⟨⟨fS5, (kW11.cell 11).trans rfl⟩, ?_⟩
              refine wpAnyH_done (by decide +kernel) ?_ _
              have z0l := fz4.size
              have z8l := fx89.size
              have hn10 : ∀ q, inB R2 q → x8.heap.size ≤ q := fun q hq => (hin10 q hq).elim (hRn q) fun h => by have := hT.size; omega
              have hO11 : Own z5 60 1 R2 j kR2 ((cs ++ [rq]).map fun j => .pointer (some ⟨j, 0, none⟩)) := by
                rw [List.map_append]
                exact hO10.fr f45 fun q hq e => by have := hn10 q hq; omega
              have hC11 : ∀ q ∈ cs ++ [rq], RepoClosed z5 q := by
                have hne : ∀ {W : World} {q : Nat} {M : Option Addr} {a b : Nat} {xs : List Value}, Own W 60 1 M a b xs → RepoClosed W q → ¬ inB M q := fun h hc => by
                  obtain ⟨_, hk, _⟩ := hc
                  exact h.ne_blk hk (by decide)
                have hneW : ∀ {W : World} {q : Nat} {us : Array Value}, Blk W (B + 1) 40 us → RepoClosed W q → ¬ q = B + 1 := fun h hc => by
                  obtain ⟨_, hk, _⟩ := hc
                  rintro rfl
                  exact absurd (h.ne_ hk (by decide)) (by simp)
                intro q hq
                rcases List.mem_append.1 hq with hq | hq
                · have c0 := (hC9 q hq).fr fz4 id
                  have c4 := (c0.fr hT id).fr hf10 (hne hR9z c0)
                  exact c4.fr f45 (hneW kW10 c4)
                · rw [List.mem_singleton.1 hq]
                  have c4 := hC3.fr hf10 (hne (hR9z.fr hT fun _ _ => id) hC3)
                  exact c4.fr f45 (hneW kW10 c4)
              have fx85 : Fr (· = B + 1) x8 z5 := (fx89.trans fz4 fun _ _ h => h.elim).new fS5 fun q hq => hq.elim (fun h => .inl h) fun h => .inr (hRn q h)
              have hle := Hj.out
              have hlen : (cs ++ [rq]).length = j := by rw [List.length_append, Hcl.out, Hj.out]; rfl
              clear aO hO10 hf10 hin10 fS4 hS4 f45 fS5 z0l z8l kW10 hC3
              go_wp2
              go_roundw
              case rel => exact ⟨j, R2, kR2, cs ++ [rq], by omega, by go_num, hlen, kW11, hO11, hC11, hn10, fx85⟩
              case measure => (simp [intOf] <;> omega)
            · obtain ⟨g2, hg2⟩ : ∃ g2, g2 = z2.heap.size := ⟨_, rfl⟩
              obtain ⟨z3, hz3⟩ : ∃ z3, z3 = z2.alloc (.cells #[.pointer (some ⟨rq, 0, none⟩)] 60) := ⟨_, rfl⟩
              have f23 : Fr NoB z2 z3 := by rw [hz3]; exact (Fr.refl _ _).alloc _
              have aO : Arr z3 (fun k => k = g2) 1 (some ⟨g2, 0, none⟩) 1 [.pointer (some ⟨rq, 0, none⟩)] := by rw [hz3, hg2]; exact Arr.one _ _ _
              refine wpOp_run (v := .slice (some ⟨g2, 0, none⟩) 1 1) (w' := z3) rfl (by kernel_rfl) (by rw [hz3, hg2]; go_simp) ⟨cRs (hT.trans f23 fun _ _ => id), ?_⟩
              clear hg2 hz3
              replace hT := hT.trans f23 fun _ _ => id
              have hC3 := hC2.fr f23 id
              clear f23 hC2
              go_simp
              refine wpAnyH_all (rs := [4]) (by decide +kernel) (by simp) ?_
              intro i hi
              simp only [List.mem_cons, List.not_mem_nil, or_false] at hi
              subst hi
              have q12 := hT.cell' e12 id
              refine wpOp_run (v := .slice R i kR) (w' := z3) rfl (by kernel_rfl) (by go_simp) ⟨cRs hT, ?_⟩
              clear q12
              go_simp
              refine wpAnyH_all (rs := [21]) (by decide +kernel) (by simp) ?_
              intro i hi
              simp only [List.mem_cons, List.not_mem_nil, or_false] at hi
              subst hi
              refine wpOp_app el_repW rfl (by kernel_rfl) (.tmp 126) (.tmp 142) rfl R i kR _ rfl (hR9z.fr hT fun _ _ => id) _ _ 1 1 _ rfl aO (by simp [Value.oneCell']) (by omega) ?_
              intro R2 kR2 z4 hO10 hf10 hin10
              rw [← Hj.out] at hO10
              rw [← Hj.out]
              have nW : ¬ inB R (B + 1) := hR9z.ne_blk kW9z (by decide)
              have kW10 := (kW9z.fr hT id).fr hf10 nW
              have fS4 : Fr (fun j => j = B + 1 ∨ inB R j) z0 z4 := (cRs hT).1.trans hf10 fun _ _ h => .inr h
              have hS4 : Fr (fun j => j = B + 1 ∨ inB R j) z0 z4 ∧ z4.cell? ⟨B + 1, 11, none⟩ = some (.pointer (some ⟨ho, 0, none⟩)) := ⟨fS4, (kW10.cell 11).trans rfl⟩
              refine ⟨hS4, ?_⟩
              go_simp
              refine wpAnyH_take (i := 22) rfl (by decide +kernel) (by decide +kernel) (by decide +kernel) (fun _ _ _ h => h) (Or.inl ⟨by kernel_rfl, fun W hW => by go_simp; with_reducible rfl⟩) hS4 ?_
              go_simp
              refine wpAnyH_take (i := 23) rfl (by decide +kernel) (by decide +kernel) (by decide +kernel) (fun _ _ _ h => h) (Or.inl ⟨by kernel_rfl, fun W hW => by go_simp; with_reducible rfl⟩) hS4 ?_
              go_simp
              refine wpAnyH_all (rs := [24]) (by decide +kernel) (by simp) ?_
              intro i hi
              simp only [List.mem_cons, List.not_mem_nil, or_false] at hi
              subst hi
              have zW12 := kW10.frozen 12
              have cW12 := kW10.cell 12
              obtain ⟨z5, hz5⟩ : ∃ z5, z5 = z4.setCell ⟨B + 1, 12, none⟩ (.slice R2 j kR2) := ⟨_, rfl⟩
              have kW11 : Blk z5 (B + 1) 40 #[.int .i64 0, .slice A n c, .int .i64 (100 : Int), .int .u64 0, .int .i64 (T : Int), .slice none 0 0, .slice none 0 0, .slice none 0 0, .slice O2 m k2, .pointer (some ⟨p, 0, none⟩), .pointer (some ⟨dp, 0, none⟩), .pointer (some ⟨ho, 0, none⟩), .slice R2 j kR2, .int .i64 0, .bool true] := by
                rw [hz5]
                have := kW10.set_ 12 (.slice R2 j kR2)
                simpa using this
              have f45 : Fr (· = B + 1) z4 z5 := by rw [hz5]; exact (Fr.refl _ _).at_ _ _
              refine wpOp_skip (w' := z5) rfl (by kernel_rfl) (by rw [hz5]; go_simp) ?_
              clear hz5 zW12 cW12
              have fS5 : Fr (fun j => j = B + 1 ∨ inB R j) z0 z5 := fS4.trans f45 fun _ _ h => .inl h
              refine ⟨⟨fS5, (kW11.cell 11).trans rfl⟩, ?_⟩
              refine wpAnyH_done (by decide +kernel) ?_ _
              have z0l := fz4.size
              have z8l := fx89.size
              have hn10 : ∀ q, inB R2 q → x8.heap.size ≤ q := fun q hq => (hin10 q hq).elim (hRn q) fun h => by have := hT.size; omega
              have hO11 : Own z5 60 1 R2 j kR2 ((cs ++ [rq]).map fun j => .pointer (some ⟨j, 0, none⟩)) := by
                rw [List.map_append]
                exact hO10.fr f45 fun q hq e => by have := hn10 q hq; omega
              have hC11 : ∀ q ∈ cs ++ [rq], RepoClosed z5 q := by
                have hne : ∀ {W : World} {q : Nat} {M : Option Addr} {a b : Nat} {xs : List Value}, Own W 60 1 M a b xs → RepoClosed W q → ¬ inB M q := fun h hc => by
                  obtain ⟨_, hk, _⟩ := hc
                  exact h.ne_blk hk (by decide)
                have hneW : ∀ {W : World} {q : Nat} {us : Array Value}, Blk W (B + 1) 40 us → RepoClosed W q → ¬ q = B + 1 := fun h hc => by
                  obtain ⟨_, hk, _⟩ := hc
                  rintro rfl
                  exact absurd (h.ne_ hk (by decide)) (by simp)
                intro q hq
                rcases List.mem_append.1 hq with hq | hq
                · have c0 := (hC9 q hq).fr fz4 id
                  have c4 := (c0.fr hT id).fr hf10 (hne hR9z c0)
                  exact c4.fr f45 (hneW kW10 c4)
                · rw [List.mem_singleton.1 hq]
                  have c4 := hC3.fr hf10 (hne (hR9z.fr hT fun _ _ => id) hC3)
                  exact c4.fr f45 (hneW kW10 c4)
              have fx85 : Fr (· = B + 1) x8 z5 := (fx89.trans fz4 fun _ _ h => h.elim).new fS5 fun q hq => hq.elim (fun h => .inl h) fun h => .inr (hRn q h)
              have hle := Hj.out
              have hlen : (cs ++ [rq]).length = j := by rw [List.length_append, Hcl.out, Hj.out]; rfl
              clear aO hO10 hf10 hin10 fS4 hS4 f45 fS5 z0l z8l kW10 hC3
              go_wp2
              go_roundw
              case rel => exact ⟨j, R2, kR2, cs ++ [rq], by omega, by go_num, hlen, kW11, hO11, hC11, hn10, fx85⟩
              case measure => (simp [intOf] <;> omega)
      · obtain rfl : i = 3 := by omega
        go_wp2
        go_ret
        have hBw := HB.out
        have fA : Fr NoB w w9 := ((((((hf2.trans f25 fun _ _ h => h).new fx0 fun q hq => .inr (by omega)).trans fx1 fun _ _ h => h).new fx2 fun q hq => .inr (by have := f25.size; omega)).trans fx23 fun _ _ h => h).trans fx34 fun _ _ h => h).new (fx48.trans fx89 fun _ _ h => .inl h) fun q hq => .inr (by have := hf2.size; omega)
        exact ⟨B + 1, 0, O2, k2, R, 3, kR, cs, rfl, ⟨⟨_, _, _, _, _, _, _, _, _, _, _, kW9⟩, hO8.fr fx89 fun q hq e => by have := (hin4 q hq).elim (fun h => absurd h (inB_none q)) id; omega, hR9, hC9⟩, fA, fun h => absurd h hT0', fun _ => ⟨rfl, hcl⟩⟩
end Go.Proofs.YtnplamcajjblkaaGreat
