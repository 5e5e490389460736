/-
  Whether a bundle may be put (bundle.may). Conditions: each contract states its own.
-/
import Derived.Test.YtnkfchondedfcaaVc
namespace Go.Proofs.Ytnkfchondedfcaa
open Go.RowKit

theorem envBad_is (l : List UInt8) : envBad l = if envIs l = true then 0 else 90 := rfl

set_option maxRecDepth 100000 in
set_option maxHeartbeats 1000000 in
theorem may1_any (w : World) (F : Nat → Prop) (A : Option Addr) (n c : Nat) (l : List UInt8) (h : Byt w F A n l) (hn : n ≤ 70368744177664) :
    Calls Try.prog 110 #[.slice A n c] w fun e w' => e = .returned (.bool (!envIs l)) ∧ Fr NoB w w' := by
  have hcall := EnvOf_any w F A n c l h hn
  have Hcall := Lib.hid hcall
  have hb := envBad_is l
  clear hcall
  cases hi : envIs l with
  | true =>
    rw [hi] at hb
    have hb' : envBad l = 0 := hb
    have Hb := Lib.hid hb'
    clear hb hb' hi
    go_enter Try.func110, Try.ntmps110
    go_wp2_with (first
      | (go_at_call 95
         refine Hcall.out.mono ?_
         rintro e w1 ⟨y, rfl, hf1, A1, n1, c1, B1, m1, d1, rfl, _⟩
         rw [Hb.out]
         have H5 : Hid ((envCells (envOf l) A1 n1 c1 B1 m1 d1).toArray.size = 5) := rfl
         have H1 := Lib.hid (envCells_ones (envOf l) A1 n1 c1 B1 m1 d1)
         generalize envCells (envOf l) A1 n1 c1 B1 m1 d1 = yc at *)
      | (refine wpList_alloc_any rfl 153 rfl 5 env_zero ?_; intro z hz; have Hz := Lib.hid hz; clear hz)
      | (refine wpList_store_newN rfl 153 (.tmp 3) (.tmp 8) rfl 5 env_size _ z Hz.out yc.toArray rfl rfl H5.out H1.out ?_))
    go_ret
    exact ⟨rfl, hf1.alloc _⟩
  | false =>
    rw [hi] at hb
    have hb' : envBad l = 90 := hb
    have Hb := Lib.hid hb'
    clear hb hb' hi
    go_enter Try.func110, Try.ntmps110
    go_wp2_with (first
      | (go_at_call 95
         refine Hcall.out.mono ?_
         rintro e w1 ⟨y, rfl, hf1, A1, n1, c1, B1, m1, d1, rfl, _⟩
         rw [Hb.out]
         have H5 : Hid ((envCells (envOf l) A1 n1 c1 B1 m1 d1).toArray.size = 5) := rfl
         have H1 := Lib.hid (envCells_ones (envOf l) A1 n1 c1 B1 m1 d1)
         generalize envCells (envOf l) A1 n1 c1 B1 m1 d1 = yc at *)
      | (refine wpList_alloc_any rfl 153 rfl 5 env_zero ?_; intro z hz; have Hz := Lib.hid hz; clear hz)
      | (refine wpList_store_newN rfl 153 (.tmp 3) (.tmp 8) rfl 5 env_size _ z Hz.out yc.toArray rfl rfl H5.out H1.out ?_))
    go_ret
    exact ⟨rfl, hf1.alloc _⟩

set_option maxRecDepth 100000 in
set_option maxHeartbeats 2000000 in
theorem IndexFunc_any (w : World) (F : Nat → Prop) (A : Option Addr) (n c : Nat) (l : List (List UInt8)) (h : Bytss w F A n l) (hn : n ≤ 9223372036854775807) (hsz : ∀ x ∈ l, x.length ≤ 70368744177664) :
    Calls Try.prog 117 #[.slice A n c, .func (.func 110) #[] #[]] w fun e w' => ∃ i : Int, e = .returned (.int .i64 i) ∧ decide (0 ≤ i) = !l.all envIs ∧ Fr NoB w w' := by
  have hll := h.len
  have Hll := Lib.hid hll
  clear hll
  go_enter Try.func117, Try.ntmps117
  go_wp2
  go_loopw [8] (fun v wr => ∃ k : Nat, k ≤ n ∧ v = .int .i64 k ∧ (l.take k).all envIs = true ∧ Fr NoB w wr) (fun v _ => n - (intOf v).toNat)
  case atStart => exact ⟨0, by omega, rfl, rfl, Fr.refl _ _⟩
  case round =>
    obtain ⟨k, hk, rfl, hall, hFr⟩ := hrel
    obtain ⟨w4, rfl⟩ : ∃ w4 : World, w4 = wr := ⟨_, rfl⟩
    have Hall := Lib.hid hall
    clear hall
    by_cases hkn : k < n
    · obtain ⟨bb, oo, x, y, rfl, _, gx, _, hyr, hcell⟩ := ArrOf.at_ (Bytss.fr h hFr fun _ _ => id) hkn
      obtain ⟨X, m, d, hy, hmd, hdm, hb⟩ := hyr
      have hil : k < l.length := by rw [Hll.out]; exact hkn
      have htk : l.take (k + 1) = l.take k ++ [x] := by
        rw [List.getElem?_eq_getElem hil] at gx
        injection gx with gx
        rw [List.take_succ_eq_append_getElem hil, gx]
      have hmem : x ∈ l := List.mem_of_getElem? gx
      have hxl := hsz x hmem
      rw [hb.len] at hxl
      have hcall := may1_any w4 F X m d x hb hxl
      have c0 : w4.cell? ⟨bb, oo + k, none⟩ = some (.slice X m d) := by
        have := hcell 0 (.slice X m d) (by rw [hy]; rfl)
        simpa using this
      have Htk := Lib.hid htk
      have Hmem := Lib.hid hmem
      have Hcall := Lib.hid hcall
      clear htk hmem hcall gx hcell hy hil
      cases hi : envIs x with
      | true =>
        have Hi := Lib.hid hi
        rw [hi] at Hcall
        clear hi
        go_wp2_with (go_at_call 110; refine Hcall.out.mono ?_; rintro e w5 ⟨rfl, hf5⟩)
        go_roundw
        case rel => exact ⟨k + 1, by omega, by go_num, by rw [Htk.out, List.all_append, Hall.out]; simp [Hi.out], hFr.trans hf5 fun _ _ => id⟩
        case measure => (simp [intOf] <;> omega)
      | false =>
        have Hno : Hid (l.all envIs = false) := by show _ = _; rw [List.all_eq_false]; exact ⟨x, Hmem.out, by rw [hi]; simp⟩
        rw [hi] at Hcall
        clear hi
        go_wp2_with (go_at_call 110; refine Hcall.out.mono ?_; rintro e w5 ⟨rfl, hf5⟩)
        go_ret
        exact ⟨k, rfl, by rw [Hno.out]; simp, hFr.trans hf5 fun _ _ => id⟩
    · have ha := Hall.out
      rw [List.take_of_length_le (by rw [Hll.out]; omega)] at ha
      have Ha := Lib.hid ha
      clear ha
      go_wp2
      go_ret
      exact ⟨-1, rfl, by rw [Ha.out]; rfl, hFr⟩

set_option maxRecDepth 100000 in
set_option maxHeartbeats 1000000 in
theorem ContainsFunc_any (w : World) (F : Nat → Prop) (A : Option Addr) (n c : Nat) (l : List (List UInt8)) (h : Bytss w F A n l) (hn : n ≤ 9223372036854775807) (hsz : ∀ x ∈ l, x.length ≤ 70368744177664) :
    Calls Try.prog 109 #[.slice A n c, .func (.func 110) #[] #[]] w fun e w' => e = .returned (.bool (!l.all envIs)) ∧ Fr NoB w w' := by
  have hcall := IndexFunc_any w F A n c l h hn hsz
  have Hcall := Lib.hid hcall
  clear hcall
  go_enter Try.func109, Try.ntmps109
  go_wp2_with (go_at_call 117; refine Hcall.out.mono ?_; rintro e w5 ⟨i, rfl, hi, hf5⟩)
  go_ret
  exact ⟨rfl, hf5⟩

set_option maxRecDepth 100000 in
set_option maxHeartbeats 2000000 in
theorem bunMay_any (w : World) (F : Nat → Prop) (y : List Value) (b : Bun) (hy : BunR w F y b) (hsz : ∀ x ∈ b.objs, x.length ≤ 70368744177664) :
    Calls Try.prog 99 #[.agg y.toArray] w fun e w' => e = .returned (.bool (bunMay b)) ∧ Fr NoB w w' := by
  obtain ⟨A, n, c, B, m, d, rfl, _, hcm, hr, _, hdm, ho⟩ := hy
  have hn63 : n ≤ 9223372036854775807 := by unfold maxLen at hcm; omega
  have hm63 : m ≤ 9223372036854775807 := by unfold maxLen at hdm; omega
  have hol := ho.len
  have hF1 : Fr NoB w (w.alloc (.cells (bunCells A n c B m d).toArray 112)) := (Fr.refl _ _).alloc _
  have hB1 := Blk.new w 112 (bunCells A n c B m d).toArray
  have c0 : (w.alloc (.cells (bunCells A n c B m d).toArray 112)).cell? ⟨w.heap.size, 0, none⟩ = some (.slice A n c) := (hB1.cell 0).trans rfl
  have c1 : (w.alloc (.cells (bunCells A n c B m d).toArray 112)).cell? ⟨w.heap.size, 1, none⟩ = some (.slice B m d) := (hB1.cell 1).trans rfl
  have hnm := Lib.hid (named_any _ F A n c _ (hr.fr hF1 fun _ _ => id) hn63)
  have ho1 := Lib.hid (ho.fr hF1 fun _ _ => id)
  have Hol := Lib.hid hol
  have hdef : bunMay b = (namedP b.refs && (decide (m ≤ 2000) && b.objs.all envIs)) := by rw [bunMay, hol]
  have Hdef := Lib.hid hdef
  clear hr ho hol hdef hB1 hn63
  generalize bunCells A n c B m d = yc at *
  obtain ⟨w1, hw1⟩ : ∃ w1, w1 = w.alloc (.cells yc.toArray 112) := ⟨_, rfl⟩
  rw [← hw1] at hF1 c0 c1 hnm ho1
  have Hw1 := Lib.hid hw1
  have z0 := c0
  have z1 := c1
  rw [Hw1.out] at z0 z1
  clear hw1
  cases hnd : namedP b.refs with
  | false =>
    have He : Hid (bunMay b = false) := by show _ = _; rw [Hdef.out, hnd, Bool.false_and]
    rw [hnd] at hnm
    clear hnd
    go_enter Try.func99, Try.ntmps99
    go_wp2_with (go_at_call 108; rw [← Hw1.out]; refine hnm.out.mono ?_; rintro e w2 ⟨rfl, hf2⟩; clear z0 z1; have d1 := hf2.cell' c1 id)
    go_ret
    exact ⟨ret_bool He.out.symm, hF1.trans hf2 fun _ _ => id⟩
  | true =>
    rw [hnd] at hnm
    by_cases h2 : m ≤ 2000
    · have b2 : decide (2000 < (m : Int)) = false := by simp only [decide_eq_false_iff_not]; omega
      have He : Hid (bunMay b = b.objs.all envIs) := by show _ = _; rw [Hdef.out, hnd, decide_eq_true h2]; simp
      clear hnd h2
      go_enter Try.func99, Try.ntmps99
      go_wp2_with (first
        | (go_at_call 108; rw [← Hw1.out]; refine hnm.out.mono ?_; rintro e w2 ⟨rfl, hf2⟩; clear z0 z1; have d1 := hf2.cell' c1 id)
        | (go_at_call 109; refine (ContainsFunc_any _ F B m d b.objs (ho1.out.fr hf2 fun _ _ => id) hm63 hsz).mono ?_; rintro e w3 ⟨rfl, hf3⟩))
      go_ret
      exact ⟨ret_bool He.out.symm, (hF1.trans hf2 fun _ _ => id).trans hf3 fun _ _ => id⟩
    · have b2 : decide (2000 < (m : Int)) = true := by simp only [decide_eq_true_eq]; omega
      have He : Hid (bunMay b = false) := by show _ = _; rw [Hdef.out, hnd, decide_eq_false h2]; rfl
      clear hnd h2
      go_enter Try.func99, Try.ntmps99
      go_wp2_with (go_at_call 108; rw [← Hw1.out]; refine hnm.out.mono ?_; rintro e w2 ⟨rfl, hf2⟩; clear z0 z1; have d1 := hf2.cell' c1 id)
      go_ret
      exact ⟨ret_bool He.out.symm, hF1.trans hf2 fun _ _ => id⟩
end Go.Proofs.Ytnkfchondedfcaa
