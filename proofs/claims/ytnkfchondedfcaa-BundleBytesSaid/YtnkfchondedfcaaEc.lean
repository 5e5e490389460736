/-
  codec.Reader.Ids. Conditions: where the reader lies; its bytes are fewer than 2^46.
-/
import Derived.Test.YtnkfchondedfcaaEb
namespace Go.Proofs.Ytnkfchondedfcaa
open Go.RowKit Go.Shelf
attribute [local go_sem] Oper.semAt_some

theorem el_id : ElemOk Try.prog 60 74 (.agg (Array.replicate 32 (.int .u8 0))) 32 32 := .mk Try.underlying60 (by kernel_rfl) rfl (by omega) (by omega)

/-- New ids are handed back by a reader. -/
def ReadIds (w w' : World) (e : Ending) (F : Nat → Prop) (b : Nat) (q : List Id32 × Rd) : Prop :=
  ∃ A c, e = .returned (.slice A q.1.length c) ∧ Fr (· = b) w w' ∧ RdAt w' F b q.2 ∧ Own w' 74 32 A q.1.length c (q.1.flatMap idCells) ∧ ∀ j, inB A j → w.heap.size ≤ j

set_option maxRecDepth 100000 in
set_option maxHeartbeats 400000 in
theorem RIds_neg (w : World) (F : Nat → Prop) (b : Nat) (r : Rd) (k : Int) (h : RdAt w F b r) (hk : k < 0) :
    Calls Try.prog 41 #[.pointer (some ⟨b, 0, none⟩), .int .i64 k] w fun e w' => ReadIds w w' e F b (r.Ids k) := by
  have e : r.Ids k = ([], Rd.bad) := by simp [Rd.Ids, hk]
  rw [e]
  clear e
  obtain ⟨hF, A, n, c, hB, hc, hm, hl⟩ := h
  go_enter Try.func41, Try.ntmps41
  go_wp2_with (first | (go_at_call 81; refine (fail_some _ _ _ _ hB).mono ?_; rintro e w' ⟨rfl, rfl⟩))
  go_ret
  obtain ⟨g1, g2⟩ := rd_fail hF hB
  exact ⟨none, 0, rfl, g1, g2, Own.nil _ _ _, fun j hj => absurd hj (inB_none j)⟩

theorem Rd.idsGo_len : ∀ (v : Nat) (r : Rd), 32 * (Rd.idsGo v r).1.length ≤ r.l.length
  | 0, r => by simp [Rd.idsGo_zero]
  | v + 1, r => by
    by_cases h : (r.Raw 32).1.length = 32
    · rw [Rd.idsGo_on h]
      have h1 := Rd.idsGo_len v (r.Raw 32).2
      have h2 := Rd.Raw_len r 32
      simp only [List.length_cons]
      omega
    · rw [Rd.idsGo_stop h]; simp

set_option maxRecDepth 100000 in
set_option maxHeartbeats 2000000 in
theorem RIds_pos (w : World) (F : Nat → Prop) (b : Nat) (r : Rd) (k : Nat) (h : RdAt w F b r) (hk1 : k ≤ 9223372036854775807) (hroom : r.l.length ≤ 70368744177664) :
    Calls Try.prog 41 #[.pointer (some ⟨b, 0, none⟩), .int .i64 k] w fun e w' => ReadIds w w' e F b (r.Ids k) := by
  have hid : r.Ids k = if (Rd.idsGo (r.N k).1 (r.N k).2).2.good = true then Rd.idsGo (r.N k).1 (r.N k).2 else ([], (Rd.idsGo (r.N k).1 (r.N k).2).2) := by
    rw [Rd.Ids, if_neg (by omega), Int.toNat_natCast]
  rw [hid]
  clear hid
  have hle := Rd.N_le r k
  have hll := Rd.N_len r k
  have hb := h.2
  have hRN := fun W => RN_any W (fun j => F j ∧ j < w.heap.size) b r k
  generalize r.N k = q at hle hll hRN ⊢
  obtain ⟨v, r1⟩ := q
  dsimp only at hle hll hRN ⊢
  have HRN := Lib.hid hRN
  clear hRN
  have hrl1 : 32 * (Rd.idsGo v r1).1.length ≤ r.l.length := Nat.le_trans (Rd.idsGo_len v r1) hll
  obtain ⟨z, hz⟩ : ∃ z, z = Rd.idsGo v r1 := ⟨_, rfl⟩
  rw [← hz] at hrl1 ⊢
  obtain ⟨res, hres⟩ : ∃ res, res = if z.2.good = true then z else ([], z.2) := ⟨_, rfl⟩
  rw [← hres]
  have Hz := Lib.hid hz
  have Hres := Lib.hid hres
  clear hz hres
  refine (callsIn_wide (n := 7)).1 ?_
  refine callsIn_of_wp_marks Try.func41 rfl trivial ?_ rfl
  simp only [Try.ntmps41, List.size_toArray, List.length_cons, List.length_nil, Nat.reduceAdd, Nat.reduceSub, Array.replicate_succ, Array.replicate_zero, List.push_toArray, List.append_toArray, List.nil_append, List.cons_append]
  have hRa := (h.more (G := fun j => F j ∧ j < w.heap.size) fun j hj h => ⟨h, hj⟩).fr ((Fr.refl NoB w).alloc (.cells #[.slice none 0 0] 60)) fun _ _ => id
  gi_wp2_with fail
  refine ⟨trivial, ?_⟩
  refine (callsIn_wide.2 (HRN.out _ hRa)).mono ?_
  rintro e w1 ⟨rfl, hf1, hR1⟩
  gi_wp2_with fail
  refine ⟨trivial, ?_⟩
  refine (callsIn_wide.2 (each_any _ _ _)).mono ?_
  rintro e w2 ⟨rfl, hw2⟩
  have s1 := hf1.size
  simp only [World.size_alloc] at s1
  have hbl := hRa.1.2
  have hBo : Blk w1 w.heap.size 60 #[.slice none 0 0] := (Blk.new w _ _).fr hf1 (by omega)
  have hBr : Blk w2 w1.heap.size 43 #[.pointer (some ⟨b, 0, none⟩)] := by rw [hw2]; exact (Blk.new w1 _ _).alloc _
  have hBn : Blk w2 (w1.heap.size + 1) 23 #[.int .u64 v] := by rw [hw2]; simpa using Blk.new (w1.alloc (.cells #[.pointer (some ⟨b, 0, none⟩)] 43)) 23 #[.int .u64 v]
  have hf12 : Fr NoB w1 w2 := by rw [hw2]; exact ((Fr.refl NoB w1).alloc _).alloc _
  have hsz2 : w2.heap.size = w1.heap.size + 2 := by rw [hw2]; simp
  have hR2 := hR1.fr hf12 fun _ _ => id
  have hBo2 := hBo.fr hf12 id
  clear hw2
  obtain ⟨w3, rfl⟩ : ∃ w3 : World, w3 = w2 := ⟨_, rfl⟩
  have hs2a : w1.heap.size + 2 ≤ w3.heap.size := by omega
  have hs2b : w3.heap.size ≤ w1.heap.size + 2 := by omega
  clear hsz2
  gi_wp2
  refine wpIn_rangeFuncG (gf := 104) (lb := #[.pointer (some ⟨w1.heap.size + 1, 0, none⟩), .pointer (some ⟨w1.heap.size, 0, none⟩)]) rfl (enters_of Try.func104 (by kernel_rfl) rfl)
    (each1_seq 6 (by omega) w3 b (w1.heap.size + 1) w1.heap.size r1 v (fun j => F j ∧ j < w.heap.size) (fun j => j = w.heap.size ∨ w3.heap.size + 2 ≤ j) hR2 hBn hBr (by omega) ⟨fun j hj => by omega, by omega, by omega⟩ ⟨fun hj => by omega, fun hj => by omega⟩ (by omega)) (fun _ => rfl)
    (fun pre W => ∃ A n c, Blk W w.heap.size 60 #[.slice A n c] ∧ n = pre.length ∧ Own W 74 32 A n c (pre.flatMap idCells) ∧ (∀ j, inB A j → w3.heap.size + 2 ≤ j) ∧ Fr (fun j => j = b ∨ w.heap.size ≤ j) w W)
    (fun _ _ _ => False) ?hI (fun _ _ _ _ h _ => h) ⟨by omega, by omega⟩ ⟨by omega, by omega⟩ ?h0
    (fun x a' W' => ∃ g s0 s1 s2 s3 s4 s7 s8 s9 s10 s11 s12 s13 s14 s15 s16 s17 s18 s19 s20 s21 s22 s23 s24 s25, Blk W' g 74 (idCells x).toArray ∧ w3.heap.size + 2 ≤ g ∧ a' = { tmps := #[s0, s1, s2, s3, s4, .pointer (some ⟨w.heap.size, 0, none⟩), .pointer (some ⟨g, 0, none⟩), s7, s8, s9, s10, s11, s12, s13, s14, s15, s16, s17, s18, s19, s20, s21, s22, s23, s24, s25], defers := [] }) ?hAx ?assign ?body ?done ?stop ?hSb ?hSpb
  case hI =>
    rintro pre A B ⟨A2, n2, c2, q1, q2, q3, q4, q5⟩ hf
    exact ⟨A2, n2, c2, q1.fr hf (by omega), q2, q3.fr hf (fun j hj => by have := q4 j hj; omega), q4, q5.trans hf fun j hj h => by omega⟩
  case h0 =>
    exact ⟨none, 0, 0, hBo2, rfl, Own.nil _ _ _, fun j hj => absurd hj (inB_none j), ((((Fr.refl (fun j => j = b ∨ w.heap.size ≤ j) w).alloc _).trans hf1 fun j _ h => .inl h).trans hf12 fun _ _ h => h.elim)⟩
  case hAx =>
    rintro x a' A B ⟨g, s0, s1, s2, s3, s4, s7, s8, s9, s10, s11, s12, s13, s14, s15, s16, s17, s18, s19, s20, s21, s22, s23, s24, s25, q1, q2, q3⟩ hf
    exact ⟨g, s0, s1, s2, s3, s4, s7, s8, s9, s10, s11, s12, s13, s14, s15, s16, s17, s18, s19, s20, s21, s22, s23, s24, s25, q1.fr hf (by omega), q2, q3⟩
  case assign =>
    intro l x W K hsz hK
    have Hx : Hid ((idCells x).toArray.size = 32) := by show _ = _; simp [idCells_len]
    have Hx1 : Hid ((idCells x).toArray.all (·.oneCell') = true) := by
      show _ = _
      rw [Array.all_eq_true_iff_forall_mem]
      intro u hu
      exact bv_one x.1 u (by simpa [idCells] using hu)
    simp only [params_one]
    gi_wp2_with (first
      | (refine wpListIn_alloc_any rfl 74 rfl 32 id_zero ?_; intro z hz; have Hz := Lib.hid hz; clear hz)
      | (refine wpListIn_store_newN rfl 74 (.tmp 6) (.tmp 17) rfl 32 id_size _ z Hz.out (idCells x).toArray rfl rfl Hx.out Hx1.out ?_))
    refine hK _ _ ((Fr.refl NoB W).alloc _) ?_
    exact ⟨W.heap.size, _, _, _, _, _, _, _, _, _, _, _, _, _, _, _, _, _, _, _, _, _, _, _, _, Blk.new _ _ _, hsz, rfl⟩
  case body =>
    rintro pre x W a' ⟨A2, n2, c2, q1, q2, q3, q4, q5⟩ hG ⟨g, s0, s1, s2, s3, s4, s7, s8, s9, s10, s11, s12, s13, s14, s15, s16, s17, s18, s19, s20, s21, s22, s23, s24, s25, q6, q7, rfl⟩ hsz
    have Hx : Hid ((idCells x).length = 32) := idCells_len x
    have Hxs : Hid ((idCells x).toArray.size = 1 * 32) := by show _ = _; simp [idCells_len]
    have Hxt : Hid ((idCells x).toArray.size = 32) := by show _ = _; simp [idCells_len]
    have c5 := q1.cell_0
    have hcg : ∀ (j : Nat) (u : Value), (idCells x)[j]? = some u → W.cell? ⟨g, 0 + j, none⟩ = some u := fun j u hu => by rw [Nat.zero_add, q6.cell]; simpa using hu
    have hone : Hid (∀ u ∈ (idCells x).toArray.toList, u.oneCell' = true) := fun u hu => bv_one x.1 u (by simpa [idCells] using hu)
    have Hq2 := Lib.hid q2
    have hn2 : (n2 + 1) * 32 ≤ 140737488355328 := by rw [q2]; omega
    have q1' := q1.alloc (.cells (idCells x).toArray 74)
    have hob : ¬ inB A2 w.heap.size := fun h => by have := q4 _ h; omega
    clear q2
    gi_wp2_with (first
      | (refine wpListIn_load_agg rfl 74 (.tmp 6) rfl g 0 rfl (idCells x) _ hcg Try.underlying74 rfl (by rw [Hx.out]; exact id_size) ?_)
      | (refine wpListIn_build1 rfl el_id (by omega) (.tmp 19) rfl (idCells x).toArray rfl Hxt.out ?_)
      | (gi_at_builtin; refine wpListIn_app el_id rfl (.tmp 18) (.tmp 20) rfl A2 n2 c2 _ rfl (q3.alloc _) _ _ 1 1 _ rfl (Arr.new _ _ (idCells x).toArray 1 32 Hxs.out) hone.out hn2 ?_; intro A4 c4 w4 hown4 hf4 hin4 hnil4; have c54 := hf4.cell' q1'.cell_0 hob; have f54 := (q1'.fr hf4 hob).frozen 0))
    have hsz4 := hf4.size
    simp only [World.size_alloc] at hsz4 hin4
    have hstep : Fr (fun j => j = w.heap.size ∨ w3.heap.size + 2 ≤ j) W (w4.setCell ⟨w.heap.size, 0, none⟩ (.slice A4 (n2 + 1) c4)) := (((Fr.refl (fun j => j = w.heap.size ∨ w3.heap.size + 2 ≤ j) W).alloc _).trans hf4 fun j _ h => .inr (q4 j h)).set_ (.inl (.inl rfl)) _ _
    refine ⟨hstep, A4, n2 + 1, c4, by simpa using (q1'.fr hf4 hob).set_ 0 _, by simp [Hq2.out], ?_, fun j hj => (hin4 j hj).elim (q4 j) (fun h => by omega), q5.trans hstep fun j hj h => by omega⟩
    have e : (pre ++ [x]).flatMap idCells = pre.flatMap idCells ++ (idCells x).toArray.toList := by simp
    rw [e]
    exact hown4.set_ (fun hj => (hin4 _ hj).elim hob (fun h => by omega)) _ _
  case done =>
    rintro xs W ⟨rfl, hRf⟩ ⟨A2, n2, c2, q1, q2, q3, q4, q5⟩ hK
    rw [← Hz.out] at hRf q2 q3
    obtain ⟨ids, r2⟩ := z
    dsimp only at *
    have Hq2 := Lib.hid q2
    clear q2
    have c5 := q1.cell_0
    have hFin : ∀ {o : Obj}, Fr (fun j => j = b) w (W.putObj w3.heap.size o) := fun {o} => (q5.trans ((Fr.refl (fun j => j = w3.heap.size) W).putObj (r := w3.heap.size) (.inl rfl) o) fun j hj h => .inr (by omega)).mono fun j hj h => by omega
    have hRo : ∀ {o : Obj}, RdAt (W.putObj w3.heap.size o) F b r2 := fun {o} => (hRf.fr ((Fr.refl (fun j => j = w3.heap.size) W).putObj (.inl rfl) o) (fun j hj h => by omega)).more fun j _ h => h.1
    have hOo : ∀ {o : Obj}, Own (W.putObj w3.heap.size o) 74 32 A2 n2 c2 (ids.flatMap idCells) := fun {o} => q3.fr ((Fr.refl (fun j => j = w3.heap.size) W).putObj (.inl rfl) o) (fun j hj h => by have := q4 j hj; omega)
    have hok : ∀ g, r2.good = g → W.cell? ⟨b, 1, none⟩ = some (.bool g) := fun g hg => by
      obtain ⟨_, A9, n9, c9, t1, _⟩ := hRf
      have := t1.cell 1
      simpa [hg] using this
    cases hg : r2.good with
    | true =>
      have hok1 := hok _ hg
      have hr := Hres.out
      rw [if_pos hg] at hr
      subst hr
      clear hg hok
      gi_wp2_with (refine ⟨trivial, ?_⟩; gi_at_call 80; refine (callsIn_wide.2 (ok_some _ _ _ hok1)).mono ?_; rintro e w' ⟨rfl, rfl⟩)
      refine ⟨by simp, .inl ⟨_, _, rfl, run_takeDeferred hK, ?_⟩⟩
      have hq := Hq2.out
      subst hq
      exact ⟨_, results_tmp rfl _ _ _, A2, c2, rfl, hFin, hRo, hOo, fun j hj => by have := q4 j hj; omega⟩
    | false =>
      have hok1 := hok _ hg
      have hr := Hres.out
      rw [if_neg (by simp [hg])] at hr
      subst hr
      clear hg hok
      gi_wp2_with (refine ⟨trivial, ?_⟩; gi_at_call 80; refine (callsIn_wide.2 (ok_some _ _ _ hok1)).mono ?_; rintro e w' ⟨rfl, rfl⟩)
      refine ⟨by simp, .inl ⟨_, _, rfl, run_takeDeferred hK, ?_⟩⟩
      exact ⟨_, results_tmp rfl _ _ _, none, 0, rfl, hFin, hRo, Own.nil _ _ _, fun j hj => absurd hj (inB_none j)⟩
  case stop =>
    rintro c pre W _ h _
    exact h.elim
  case hSb =>
    rintro xs A B ⟨q1, q2⟩ hf
    exact ⟨q1, q2.fr hf fun j hj => by omega⟩
  case hSpb => exact fun _ _ _ h _ => h

theorem RIds_any (w : World) (F : Nat → Prop) (b : Nat) (r : Rd) (k : Int) (h : RdAt w F b r) (hk1 : k ≤ 9223372036854775807) (hroom : r.l.length ≤ 70368744177664) :
    Calls Try.prog 41 #[.pointer (some ⟨b, 0, none⟩), .int .i64 k] w fun e w' => ReadIds w w' e F b (r.Ids k) := by
  by_cases hk : k < 0
  · exact RIds_neg w F b r k h hk
  · obtain ⟨m, rfl⟩ := Int.eq_ofNat_of_zero_le (show 0 ≤ k by omega)
    exact RIds_pos w F b r m h (by omega) hroom

end Go.Proofs.Ytnkfchondedfcaa
