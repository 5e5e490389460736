/-
  The document's reader (tabulariumref08.Reader): Ids. Conditions: each contract states its own.
-/
import Derived.Test.YtnkfchondedfcaaHc
import Derived.Test.YtnkfchondedfcaaFq
namespace Go.Proofs.Ytnkfchondedfcaa
open Go.RowKit

theorem Rd.Raw_bad (k : Int) : Rd.Raw Rd.bad k = ([], Rd.bad) := by simp [Rd.Raw]
theorem Rd.idsGo_bad : ∀ v, Rd.idsGo v Rd.bad = ([], Rd.bad)
  | 0 => rfl
  | v + 1 => by rw [Rd.idsGo_stop (by rw [Rd.Raw_bad]; simp), Rd.Raw_bad]
theorem Rd.Raw_stop {r : Rd} {k : Int} (h : (r.Raw k).2.good = false) : (r.Raw k).2 = Rd.bad := by
  unfold Rd.Raw at h ⊢
  split at h
  · cases h
  · rename_i hh
    rw [if_neg hh]
theorem Rd.Raw_go {r : Rd} {k : Int} (h : (r.Raw k).2.good = false) : (r.Raw k).1 = [] := by
  unfold Rd.Raw at h ⊢
  split at h
  · cases h
  · rename_i hh
    rw [if_neg hh]

/-- How far the reading of ids has come: what is left of the reader is r', the ids pre lie there. -/
def IdsInv (v : Nat) (r1 : Rd) (k : Nat) (pre : List Id32) (r' : Rd) : Prop :=
  pre.length = k ∧ 32 * k ≤ r1.l.length + 32 ∧ (r'.good = true → Rd.idsGo v r1 = (pre ++ (Rd.idsGo (v - k) r').1, (Rd.idsGo (v - k) r').2) ∧ 32 * k + r'.l.length ≤ r1.l.length) ∧ (r'.good = false → r' = Rd.bad ∧ (Rd.idsGo v r1).2 = Rd.bad)

theorem IdsInv.start (v : Nat) (r1 : Rd) (h : r1.good = false → r1.l = []) : IdsInv v r1 0 [] r1 := by
  refine ⟨rfl, by omega, fun _ => ⟨by simp, by omega⟩, fun hg => ?_⟩
  have : r1 = Rd.bad := by
    obtain ⟨l, g⟩ := r1
    dsimp only at h hg
    rw [h hg, hg]
  rw [this, Rd.idsGo_bad]
  exact ⟨rfl, rfl⟩
theorem IdsInv.next {v k : Nat} {r1 r' : Rd} {pre : List Id32} {x : Id32} (h : IdsInv v r1 k pre r') (hg : r'.good = true) (hk : k < v) (h1 : (r'.Raw 32).1.length = 32 → x.1 = (r'.Raw 32).1) (h2 : (r'.Raw 32).1.length ≠ 32 → (r'.Raw 32).2.good = false) : IdsInv v r1 (k + 1) (pre ++ [x]) (r'.Raw 32).2 := by
  obtain ⟨a1, a2, a3, a4⟩ := h
  obtain ⟨a3, a5⟩ := a3 hg
  obtain ⟨m, hm⟩ : ∃ m, v - k = m + 1 := ⟨v - k - 1, by omega⟩
  have hm2 : v - (k + 1) = m := by omega
  have hl := Rd.Raw_len r' 32
  rw [hm] at a3
  by_cases h32 : (r'.Raw 32).1.length = 32
  · have hx := h1 h32
    rw [Rd.idsGo_on h32] at a3
    have e : (⟨(r'.Raw 32).1, h32⟩ : Id32) = x := Subtype.ext hx.symm
    rw [e] at a3
    refine ⟨by simp [a1], by omega, fun _ => ⟨by rw [hm2, a3]; simp, by omega⟩, fun hb => ?_⟩
    rw [Rd.Raw_go hb] at h32
    cases h32
  · have hb := h2 h32
    refine ⟨by simp [a1], by omega, fun hg' => by rw [hg'] at hb; (cases hb), fun _ => ⟨Rd.Raw_stop hb, ?_⟩⟩
    rw [a3, Rd.idsGo_stop h32]
    exact Rd.Raw_stop hb
/-- The document's reader behind a read that hands back ids. -/
def FReadIds (w w' : World) (e : Ending) (G : Nat → Prop) (b : Nat) (q : List Id32 × Rd) : Prop :=
  ∃ A c, e = .returned (.slice A q.1.length c) ∧ Fr (· = b) w w' ∧ RfAt w' G b q.2 ∧ ArrOf IdR w' (fun k => w.heap.size ≤ k) 32 A q.1.length q.1

theorem ids_of_own {w : World} {F : Nat → Prop} {A : Option Addr} {n c : Nat} {l : List Id32} (h : Own w 74 32 A n c (l.flatMap idCells)) (hn : l.length = n) (hF : ∀ k, k < w.heap.size → inB A k → F k) : ArrOf IdR w F 32 A n l := by
  have ha := h.arr hF
  rw [flat_ids l] at ha
  exact ArrOf.of_arr ha (by simp only [List.mem_map]; rintro y ⟨x, _, rfl⟩; exact idCells_len x) hn fun k x hx => ⟨idCells x, by rw [List.getElem?_map, hx]; rfl, rfl⟩

set_option maxRecDepth 100000 in
set_option maxHeartbeats 2000000 in
theorem FIds_any (w : World) (G : Nat → Prop) (b : Nat) (r : Rd) (k : Int) (h : RfAt w G b r) (hG : ∀ k, G k → k < w.heap.size) (hk1 : k ≤ 9223372036854775807) (hroom : r.l.length ≤ 70368744177664) :
    Calls Try.prog 42 #[.pointer (some ⟨b, 0, none⟩), .int .i64 k] w fun e w' => FReadIds w w' e G b (r.Ids k) := by
  have hbw := h.lt
  by_cases hk : k < 0
  · have e : r.Ids k = ([], Rd.bad) := by simp [Rd.Ids, hk]
    rw [e]
    clear e
    obtain ⟨q0, q1, A, n, c, hB, hc, hm, hl⟩ := h
    go_enter Try.func42, Try.ntmps42
    go_wp2_with (first | (go_at_call 86; refine (rfail_any _ _ _ _ hB).mono ?_; rintro e w' ⟨rfl, rfl⟩))
    go_ret
    obtain ⟨g1, g2⟩ := rf_fail q0 hB
    exact ⟨none, 0, rfl, g1, g2, ArrOf.none_ _ _ _ _ _⟩
  · obtain ⟨m, rfl⟩ := Int.eq_ofNat_of_zero_le (show 0 ≤ k by omega)
    have hid : r.Ids m = if (Rd.idsGo (r.N m).1 (r.N m).2).2.good = true then Rd.idsGo (r.N m).1 (r.N m).2 else ([], (Rd.idsGo (r.N m).1 (r.N m).2).2) := by
      rw [Rd.Ids, if_neg (by omega), Int.toNat_natCast]
    rw [hid]
    clear hid
    have hle := Rd.N_le r m
    have hll := Rd.N_len r m
    have hRN := FN_any w G b r m h
    generalize r.N m = q at hle hll hRN ⊢
    obtain ⟨v, r1⟩ := q
    dsimp only at hle hll hRN ⊢
    obtain ⟨res, hres⟩ : ∃ res, res = if (Rd.idsGo v r1).2.good = true then Rd.idsGo v r1 else ([], (Rd.idsGo v r1).2) := ⟨_, rfl⟩
    rw [← hres]
    have Hres := Lib.hid hres
    have HRN := Lib.hid hRN
    clear hRN hres
    go_enter Try.func42, Try.ntmps42
    go_wp2_with fail
    refine HRN.out.mono ?_
    rintro e w1 ⟨rfl, hf1, hR1⟩
    have s1 := hf1.size
    have hstart := IdsInv.start v r1 hR1.2.1
    clear h
    obtain ⟨w0, rfl⟩ : ∃ w0 : World, w0 = w1 := ⟨_, rfl⟩
    go_wp2
    go_loopw [6, 7] (fun o i wr => ∃ (k : Nat) (pre : List Id32) (r' : Rd) (A : Option Addr) (c : Nat), k ≤ v ∧ i = .int .u64 k ∧ o = .slice A k c ∧ Own wr 74 32 A k c (pre.flatMap idCells) ∧ (∀ j, inB A j → w.heap.size ≤ j) ∧ RfAt wr G b r' ∧ IdsInv v r1 k pre r' ∧ Fr (fun j => j = b) w wr) (fun _ i _ => v - (intOf i).toNat)
    case atStart => exact ⟨0, [], r1, none, 0, by omega, rfl, rfl, Own.nil _ _ _, fun j hj => absurd hj (inB_none j), hR1, hstart, hf1⟩
    case round =>
      obtain ⟨k, pre, r', A, c, hk, rfl, rfl, hO, hA, hR, hI, hF⟩ := hrel
      obtain ⟨w1, rfl⟩ : ∃ w1 : World, w1 = wr := ⟨_, rfl⟩
      have hc1 := hR.cell1
      have s2 := hF.size
      have Hin := Lib.hid hI
      have hlen32 := hI.2.1
      clear hI
      cases hg : r'.good with
      | true =>
        rw [hg] at hc1
        simp at hc1
        by_cases hkv : k < v
        · have Hid' := Lib.hid (FId_any w1 G b r' hR fun k hk => by have := hG k hk; omega)
          go_wp2_with fail
          refine Hid'.out.mono ?_
          rintro e w2 ⟨x, rfl, hf2, hR2, hx1, hx2⟩
          have Hnext := Lib.hid (Hin.out.next hg hkv hx1 hx2)
          have s3 := hf2.size
          have hO2 := hO.fr hf2 fun j hj e => by have := hA j hj; omega
          have Hxt : Hid ((idCells x).toArray.size = 32) := by show _ = _; simp [idCells_len]
          have Hxs : Hid ((idCells x).toArray.size = 1 * 32) := by show _ = _; simp [idCells_len]
          have hone : Hid (∀ u ∈ (idCells x).toArray.toList, u.oneCell' = true) := fun u hu => bv_one x.1 u (by simpa [idCells] using hu)
          clear hx1 hx2
          go_wp2_with (first
            | (refine wpList_build1 rfl el_id (by omega) (.tmp 30) rfl (idCells x).toArray rfl Hxt.out ?_)
            | (at_builtin; refine wpList_app _ el_id rfl (.tmp 28) (.tmp 31) rfl A k c _ rfl (hO2.alloc _) _ _ 1 1 _ rfl (Arr.new _ _ (idCells x).toArray 1 32 Hxs.out) hone.out (by omega) ?_; intro A4 c4 w4 hown4 hf4 hin4 hnil4))
          go_roundw
          case rel =>
            have s4 := hf4.size
            simp only [World.size_alloc] at s4 hin4
            refine ⟨k + 1, pre ++ [x], _, A4, c4, by omega, by go_num, rfl, ?_, ?_, ?_, Hnext.out, ?_⟩
            · have e : (pre ++ [x]).flatMap idCells = pre.flatMap idCells ++ (idCells x).toArray.toList := by simp
              rw [e]; exact hown4
            · exact fun j hj => (hin4 j hj).elim (hA j) fun h => by omega
            · exact (hR2.fr ((Fr.refl NoB w2).alloc _) (fun h => h) fun _ _ => id).fr hf4 (fun h => by have := hA _ h; omega) fun j hj h => by have := hG j hj; have := hA _ h; omega
            · exact ((hF.trans hf2 fun _ _ => id).alloc _).new hf4 fun j hj => .inr (hA j hj)
          case measure => simp [intOf]; omega
        · obtain rfl : k = v := by omega
          obtain ⟨a1, _, a3, _⟩ := Hin.out
          obtain ⟨a3, _⟩ := a3 hg
          simp [Rd.idsGo_zero] at a3
          have Ha3 := Lib.hid a3
          clear a3 Hin hlen32
          go_wp2
          go_ret
          have hr := Hres.out
          rw [Ha3.out, if_pos hg] at hr
          subst hr
          refine ⟨A, c, ret_sl a1.symm rfl, hF, hR, ?_⟩
          have hfin := ids_of_own (F := fun j => w.heap.size ≤ j) hO a1 fun j _ hj => hA j hj
          rw [← a1] at hfin
          exact hfin
      | false =>
        rw [hg] at hc1
        simp at hc1
        obtain ⟨a1, _, _, a4⟩ := Hin.out
        obtain ⟨a5, a6⟩ := a4 hg
        have Ha4 := Lib.hid a6
        clear a4 Hin hlen32 hg a6
        subst a5
        by_cases hkv : k < v
        · go_wp2
          go_ret
          have hr := Hres.out
          rw [Ha4.out, if_neg (by simp)] at hr
          subst hr
          exact ⟨none, 0, rfl, hF, hR, ArrOf.none_ _ _ _ _ _⟩
        · go_wp2
          go_ret
          have hr := Hres.out
          rw [Ha4.out, if_neg (by simp)] at hr
          subst hr
          exact ⟨none, 0, rfl, hF, hR, ArrOf.none_ _ _ _ _ _⟩
end Go.Proofs.Ytnkfchondedfcaa
