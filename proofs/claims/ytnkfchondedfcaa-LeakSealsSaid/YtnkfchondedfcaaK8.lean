/-
  Letters that are turned (leak.Turn), and as the document has them (tabulariumref29.Turn); chapter 31's example. Conditions: each contract states its own.
-/
import Derived.Test.YtnkfchondedfcaaK7
import Derived.Test.YtnkfchondedfcaaK4
import Derived.Test.YtnkfchondedfcaaK5
import Derived.Test.YtnkfchondedfcaaK3
import Derived.Deep.Cut
import Derived.Deep.CutBlock
import Derived.Deep.CutRange
import Derived.Test.YtnkfchondedfcaaK1
import Derived.Test.YtnkfchondedfcaaRows
namespace Go.Proofs.Ytnkfchondedfcaa
section
open Go.RowKit

theorem dist_sub (l : List (List UInt8)) : ∀ b ∈ dist l, b ∈ l := by
  have h : ∀ (l acc : List (List UInt8)), ∀ b ∈ l.foldl (fun a b => if b ∈ a then a else a ++ [b]) acc, b ∈ acc ∨ b ∈ l := by
    intro l
    induction l with
    | nil => exact fun acc b h => .inl h
    | cons x l ih =>
      intro acc b h
      rcases ih _ b h with h | h
      · dsimp only at h
        split at h
        · exact .inl h
        · rcases List.mem_append.1 h with h | h
          · exact .inl h
          · rw [List.mem_singleton] at h
            exact .inr (by rw [h]; exact List.mem_cons_self ..)
      · exact .inr (List.mem_cons_of_mem _ h)
  intro b hb
  rcases h l [] b hb with h | h
  · cases h
  · exact h
theorem size_drewY (W : World) : W.drew.heap.size = W.heap.size := rfl
theorem idx_at {l : List Id32} {q : Nat} {x : Id32} (h : l[q]? = some x) (hn : x ∉ l.take q) : l.idxOf x = q := by
  obtain ⟨hq, he⟩ := List.getElem?_eq_some_iff.1 h
  have e : l = l.take q ++ x :: l.drop (q + 1) := by
    rw [← he, ← List.drop_eq_getElem_cons hq, List.take_append_drop]
  rw [e, List.idxOf_append, if_neg hn, List.idxOf_cons_self, List.length_take]
  omega
theorem Own.at_flat {w : World} {e : TypeId} {A : Option Addr} {n c : Nat} {l : List Id32} (h : Own w e 32 A n c (l.flatMap idCells)) (hl : l.length = n) : ArrOf IdR w (fun _ => True) 32 A n l :=
  ArrOf.of_flatE idCells (h.arr fun _ _ _ => trivial) hl idCells_len fun _ _ => rfl
/-- What stays while a text is told (the document's). -/
structure Kq (w : World) (K N : Nat) (A4 : Option Addr) (m c4 : Nat) (us : List Value) (iA0 oA : Option Addr) (on oc : Nat) (yss : List (List Value)) (l : List Seal) (W : World) : Prop where
  o4 : Own W 22 1 A4 m c4 us
  a4 : ∀ j, inB A4 j → j < K
  o2 : Own W 41 6 oA on oc yss.flatten
  y6 : ∀ y ∈ yss, y.length = 6
  ln : on = l.length
  sl : ∀ (i : Nat) s, l[i]? = some s → ∃ y, yss[i]? = some y ∧ SealR W (fun j => (K ≤ j ∧ ¬ inB oA j ∧ ¬ inB iA0 j) ∧ j < N) y s
  oB : ∀ j, inB oA j → K ≤ j ∧ j < N ∧ ¬ inB iA0 j
  iB : ∀ j, inB iA0 j → K ≤ j
  fr : Fr NoB w W
theorem Kq.step {w W W' : World} {K N : Nat} {A4 : Option Addr} {m c4 : Nat} {us : List Value} {iA0 oA : Option Addr} {on oc : Nat} {yss : List (List Value)} {l : List Seal} {S : Nat → Prop} (h : Kq w K N A4 m c4 us iA0 oA on oc yss l W)
    (hf : Fr S W W') (hS : ∀ j, S j → inB iA0 j ∨ N ≤ j) (hK : w.heap.size ≤ K) (hN : K ≤ N) : Kq w K N A4 m c4 us iA0 oA on oc yss l W' := by
  obtain ⟨h1, h2, h3, h4, h5, h6, h7, h8, h9⟩ := h
  refine ⟨h1.fr hf fun j hj hs => ?_, h2, h3.fr hf fun j hj hs => ?_, h4, h5, fun i s hs => ?_, h7, h8, h9.new hf fun j hj => .inr ?_⟩
  · have := h2 j hj
    rcases hS j hs with h | h
    · have := h8 j h; omega
    · omega
  · obtain ⟨q1, q2, q3⟩ := h7 j hj
    rcases hS j hs with h | h
    · exact q3 h
    · omega
  · obtain ⟨y, hy, hr⟩ := h6 i s hs
    refine ⟨y, hy, hr.fr hf fun j hj hs => ?_⟩
    rcases hS j hs with h | h
    · exact hj.1.2.2 h
    · omega
  · rcases hS j hj with h | h
    · have := h8 j h; omega
    · omega

set_option maxRecDepth 100000 in
set_option maxHeartbeats 8000000 in
theorem refSeals_any (w : World) (F : Nat → Prop) (A : Option Addr) (n c : Nat) (ls : List (List UInt8)) (h : Bytss w F A n ls) (hF : ∀ k, F k → k < w.heap.size) (hn : n ≤ 20) (hsm : ∀ b ∈ ls, b.length ≤ 1000000) :
    Calls Try.prog 62 #[.slice A n c] w fun e w' => GotSeals w w' e (sealsOut ls) (sealsBad ls) := by
  obtain ⟨B, hB⟩ : ∃ B, B = w.heap.size := ⟨_, rfl⟩
  have hlen := h.len
  have Hlen := Lib.hid hlen
  have HB := Lib.hid hB
  have Hsm := Lib.hid hsm
  have hFB : ∀ k, F k → k < B := by rw [hB]; exact hF
  clear hB hlen hsm hF
  go_enter Try.func62, Try.ntmps62
  go_wp2
  go_loopw [22, 4] (fun v v4 wr => ∃ (k m c4 : Nat) (A4 : Option Addr) (us : List Value), k ≤ n ∧ v = .int .i64 k ∧ v4 = .slice A4 m c4 ∧ m = (dist (ls.take k)).length ∧ Own wr 22 1 A4 m c4 us ∧
    (∀ (i : Nat) (a : List UInt8), (dist (ls.take k))[i]? = some a → ∃ u : Value, us[i]? = some u ∧ BytR w F [u] a) ∧ (∀ j, inB A4 j → B ≤ j) ∧ Fr NoB w wr) (fun v _ _ => n - (intOf v).toNat)
  case atStart => exact ⟨0, 0, 0, none, [], by omega, rfl, rfl, rfl, Own.nil _ _ _, fun i a ha => by simp [dist] at ha, fun j hj => absurd hj (inB_none j), Fr.refl _ _⟩
  case round =>
    obtain ⟨k, m, c4, A4, us, hk, rfl, rfl, hm, hO, hus, hA4, hF1⟩ := hrel
    obtain ⟨w1, rfl⟩ : ∃ w1 : World, w1 = wr := ⟨_, rfl⟩
    have hmk := dist_len ls k
    have Hm := Lib.hid hm
    have Hus := Lib.hid hus
    clear hm hus
    by_cases hkn : k < n
    · obtain ⟨bb, oo, x, y, rfl, hFbb, gx, _, ⟨X, p, e, hy, hpe, hem, hb⟩, hcell⟩ := ArrOf.at_ h hkn
      have c0w : w.cell? ⟨bb, oo + k, none⟩ = some (.slice X p e) := by
        have := hcell 0 (.slice X p e) (by rw [hy]; rfl)
        simpa using this
      have c0 := hF1.cell' c0w id
      have hbl := hb.len
      subst hbl
      have hxs := Hsm.out x (List.mem_of_getElem? gx)
      have Hst := Lib.hid (dist_step gx)
      have hm20 : m ≤ 20 := by have := Hm.out; omega
      obtain ⟨dl, hdl⟩ : ∃ dl, dl = dist (ls.take k) := ⟨_, rfl⟩
      rw [← hdl] at Hm Hus Hst hmk
      have hml : dl.length = m := Hm.out.symm
      have Hdl := Lib.hid hdl
      clear hy hcell gx hdl c0w
      go_wp2
      go_loopw [28, 7] (fun v v7 wr => ∃ j : Nat, j ≤ m ∧ v = .int .i64 j ∧ v7 = .bool (decide (x ∈ dl.take j)) ∧ Fr NoB w1 wr) (fun v _ _ => m - (intOf v).toNat)
      case atStart => exact ⟨0, by omega, rfl, by simp, Fr.refl _ _⟩
      case round =>
        obtain ⟨j, hj, rfl, rfl, hf2⟩ := hrel
        obtain ⟨w2, rfl⟩ : ∃ w2 : World, w2 = wr := ⟨_, rfl⟩
        have hb2 := hb.fr (hF1.trans hf2 fun _ _ => id) fun _ _ => id
        by_cases hjm : j < m
        · obtain ⟨a, ha⟩ : ∃ a, dl[j]? = some a := ⟨_, List.getElem?_eq_getElem (by omega)⟩
          obtain ⟨u, hu, Y, q, d, hyu, hqd, hdm, hba⟩ := Hus.out j a ha
          injection hyu with hyu _
          subst hyu
          have hO2 := hO.fr hf2 fun _ _ => id
          obtain ⟨g4, hA4e, hc4⟩ : ∃ g4, A4 = some ⟨g4, 0, none⟩ ∧ w2.cell? ⟨g4, j, none⟩ = some (.slice Y q d) := by
            rcases Own.form hO2 with ⟨_, h0, _⟩ | ⟨g, cur, e1, hBg, h2, h3, h4, h5⟩
            · omega
            · refine ⟨g, e1, ?_⟩
              rw [hBg.cell, ← Array.getElem?_toList]
              have h6 : (cur.toList.take (m * 1))[j]? = some (.slice Y q d) := by rw [h5]; exact hu
              rw [List.getElem?_take] at h6
              split at h6
              · exact h6
              · cases h6
          subst hA4e
          have hba2 := (hba.fr (hF1.trans hf2 fun _ _ => id) fun _ _ => id)
          have hal := hba2.len
          subst hal
          have v1 := hb2.str (P := Try.prog) Try.underlying22 Try.underlying5 Try.underlying9 e
          have v2 := hba2.str (P := Try.prog) Try.underlying22 Try.underlying5 Try.underlying9 d
          have Htk := Lib.hid (take_snocE ha)
          have c02 := hf2.cell' c0 id
          clear hu ha hba hba2 hO2
          by_cases hin : x ∈ dl.take j
          · have hd : decide (x ∈ dl.take j) = true := decide_eq_true hin
            have hnx : decide (x ∈ dl.take (j + 1)) = true := by rw [Htk.out]; exact decide_eq_true (List.mem_append_left _ hin)
            have Hnx := Lib.hid hnx
            rw [hd]
            clear hnx hin hd
            go_wp2
            go_roundw
            case rel => exact ⟨j + 1, by omega, by go_num, by rw [Hnx.out], hf2⟩
            case measure => (simp [intOf] <;> omega)
          · have hd : decide (x ∈ dl.take j) = false := decide_eq_false hin
            rw [hd]
            by_cases hax : a = x
            · have hnx : decide (x ∈ dl.take (j + 1)) = true := by rw [Htk.out, hax]; exact decide_eq_true (by simp)
              have Hnx := Lib.hid hnx
              subst hax
              clear hnx hin hd
              go_wp2
              go_roundw
              case rel => exact ⟨j + 1, by omega, by go_num, by rw [Hnx.out], hf2⟩
              case measure => (simp [intOf] <;> omega)
            · have hnx : decide (x ∈ dl.take (j + 1)) = false := by rw [Htk.out]; exact decide_eq_false (by simp [hin, Ne.symm hax])
              have Hnx := Lib.hid hnx
              have hne : (a == x) = false := beq_eq_false_iff_ne.2 hax
              clear hnx hin hd hax
              go_wp2
              go_roundw
              case rel => exact ⟨j + 1, by omega, by go_num, by rw [Hnx.out], hf2⟩
              case measure => (simp [intOf] <;> omega)
        · have hjm2 : j = m := by omega
          subst hjm2
          have hfull : dl.take j = dl := List.take_of_length_le (by omega)
          have hF2 : Fr NoB w w2 := hF1.trans hf2 fun _ _ => id
          have hO2 := hO.fr hf2 fun _ _ => id
          rw [hfull]
          clear hfull
          by_cases hin : x ∈ dl
          · have hd : decide (x ∈ dl) = true := decide_eq_true hin
            have hnext : dist (ls.take (k + 1)) = dl := by rw [Hst.out, if_pos hin]
            have Hnx := Lib.hid hnext
            rw [hd]
            clear hnext hin hd
            go_wp2
            go_roundw
            case rel => exact ⟨k + 1, j, c4, A4, us, by omega, by go_num, rfl, by rw [Hnx.out]; exact hml.symm, hO2, by rw [Hnx.out]; exact Hus.out, hA4, hF2⟩
            case measure => (simp [intOf] <;> omega)
          · have hd : decide (x ∈ dl) = false := decide_eq_false hin
            have hnext : dist (ls.take (k + 1)) = dl ++ [x] := by rw [Hst.out, if_neg hin]
            have Hnx := Lib.hid hnext
            rw [hd]
            clear hnext hin hd
            go_wp2_with (first
              | (at_builtin; refine wpList_app _ el_byt rfl (.tmp 43) (.tmp 45) rfl A4 j c4 _ rfl (hO2.alloc _) _ _ 1 1 _ rfl (Arr.one _ _ _) (by simp [Value.oneCell']) (by omega) ?_; intro A5 c5 w3 hO3 hf3 hin3 _
                 have hF3 : Fr NoB w w3 := (hF2.alloc _).new hf3 fun q hq => .inr (by have := hA4 q hq; have := HB.out; omega)
                 simp only [World.size_alloc] at hin3))
            have s1 := hF1.size
            have s2 := hf2.size
            have hA5 : ∀ q, inB A5 q → B ≤ q := fun q hq => (hin3 q hq).elim (hA4 q) fun h => by have := HB.out; omega
            have hfa : Fr (inB A4) w2 w3 := ((Fr.refl (inB A4) w2).alloc _).trans hf3 fun _ _ h => h
            have hus3 : ∀ (i : Nat) (a : List UInt8), (dl ++ [x])[i]? = some a → ∃ u : Value, (us ++ [.slice X x.length e])[i]? = some u ∧ BytR w F [u] a := fun i a ha => by
              have hul : us.length = dl.length := by have := hO2.len; omega
              rcases Nat.lt_or_ge i dl.length with hi | hi
              · rw [List.getElem?_append_left hi] at ha
                obtain ⟨u, hu, hr⟩ := Hus.out i a ha
                exact ⟨u, by rw [List.getElem?_append_left (by omega)]; exact hu, hr⟩
              · have hie : i = dl.length := by
                  have := (List.getElem?_eq_some_iff.1 ha).1
                  simp at this; omega
                subst hie
                rw [List.getElem?_append_right (Nat.le_refl _), Nat.sub_self] at ha
                injection ha with ha
                subst ha
                exact ⟨_, by rw [← hul, List.getElem?_append_right (Nat.le_refl _), Nat.sub_self]; rfl, X, x.length, e, rfl, hpe, hem, hb⟩
            go_roundw
            case rel => exact ⟨k + 1, j + 1, c5, A5, us ++ [.slice X x.length e], by omega, by go_num, rfl, by rw [Hnx.out, List.length_append, hml]; rfl, hO3, by rw [Hnx.out]; exact hus3, hA5, hF3⟩
            case measure => (simp [intOf] <;> omega)
    · have hkn2 : k = n := by omega
      subst hkn2
      have hfull : ls.take k = ls := List.take_of_length_le (by have := Hlen.out; omega)
      rw [hfull] at Hm Hus hmk
      have hsmd : ∀ b ∈ dist ls, b.length ≤ 1000000 := fun b hb => Hsm.out b (dist_sub ls b hb)
      obtain ⟨dl, hdl⟩ : ∃ dl, dl = dist ls := ⟨_, rfl⟩
      rw [← hdl] at Hm Hus hmk hsmd
      have hm20 : m ≤ 20 := by have := Hm.out; omega
      have hml : dl.length = m := Hm.out.symm
      have Hdl := Lib.hid hdl
      have Hsmd := Lib.hid hsmd
      obtain ⟨K, hK⟩ : ∃ K, K = w1.heap.size := ⟨_, rfl⟩
      have hBK : B ≤ K := by have := hF1.size; have := HB.out; omega
      have hwK : w.heap.size ≤ K := by have := hF1.size; omega
      have hq0 : Kq w K w1.heap.size A4 m c4 us none none 0 0 [] [] w1 := ⟨hO, fun j hj => by rw [hK]; exact hO.lt hj, Own.nil _ _ _, by simp, rfl, fun i s hs => by simp at hs, fun j hj => absurd hj (inB_none j), fun j hj => absurd hj (inB_none j), hF1⟩
      have hKw : K ≤ w1.heap.size := by omega
      clear hK hdl hsmd hfull hO hF1 hA4 Hm hmk
      go_wp2
      go_loopw [50, 10, 11] (fun v v10 v11 wr => ∃ (i oc iq ic : Nat) (oA iA : Option Addr) (yss : List (List Value)), i ≤ m ∧ v = .int .i64 i ∧ v10 = .slice oA i oc ∧ v11 = .slice iA iq ic ∧ iq = (sealAcc (dl.take i)).2.length ∧ (dl.take i).all envIs = true ∧
        Kq w K wr.heap.size A4 m c4 us iA oA i oc yss (sealAcc (dl.take i)).1 wr ∧ Own wr 74 32 iA iq ic ((sealAcc (dl.take i)).2.flatMap idCells) ∧ K ≤ wr.heap.size) (fun v _ _ _ => m - (intOf v).toNat)
      case atStart => exact ⟨0, 0, 0, 0, none, none, [], by omega, rfl, rfl, rfl, rfl, rfl, hq0, Own.nil _ _ _, hKw⟩
      case round =>
        clear hq0 hKw
        obtain ⟨i, oc, iq, ic, oA, iA, yss, hi, rfl, rfl, rfl, hiq, hall, hQ, hI, hKw⟩ := hrel
        obtain ⟨w2, rfl⟩ : ∃ w2 : World, w2 = wr := ⟨_, rfl⟩
        by_cases him : i < m
        · obtain ⟨xb, hxb⟩ : ∃ a, dl[i]? = some a := ⟨_, List.getElem?_eq_getElem (by omega)⟩
          obtain ⟨u, hu, X, p, e, hyu, hpe, hem, hb0⟩ := Hus.out i xb hxb
          injection hyu with hyu _
          subst hyu
          obtain ⟨g4, hA4e, hc4⟩ : ∃ g4, A4 = some ⟨g4, 0, none⟩ ∧ w2.cell? ⟨g4, i, none⟩ = some (.slice X p e) := by
            rcases Own.form hQ.o4 with ⟨_, h0, _⟩ | ⟨g, cur, e1, hBg, h2, h3, h4, h5⟩
            · omega
            · refine ⟨g, e1, ?_⟩
              rw [hBg.cell, ← Array.getElem?_toList]
              have h6 : (cur.toList.take (m * 1))[i]? = some (.slice X p e) := by rw [h5]; exact hu
              rw [List.getElem?_take] at h6
              split at h6
              · exact h6
              · cases h6
          subst hA4e
          have hbl := hb0.len
          subst hbl
          have hbx := hb0.fr hQ.fr fun _ _ => id
          have hxs := Hsmd.out xb (List.mem_of_getElem? hxb)
          have henv := EnvelopeOf_any w2 F (fun j hj => by have := hFB j hj; omega) X xb.length e xb hbx hpe hem (by omega)
          have htk := take_snocE hxb
          clear hu hb0 hbx
          cases hb : envIs xb with
          | false =>
            have hbad : envBad xb = 90 := by unfold envBad; rw [hb]; rfl
            rw [hbad] at henv
            have Henv := Lib.hid henv
            have hno : sealsIs ls = false := by
              unfold sealsIs
              rw [← Hdl.out, List.all_eq_false]
              exact ⟨xb, List.mem_of_getElem? hxb, by rw [hb]; simp⟩
            have Hout : Hid (sealsOut ls = []) := by show _ = _; unfold sealsOut; rw [if_neg (by simp [hno])]
            have Hbad : Hid (sealsBad ls = 90) := by show _ = _; unfold sealsBad; rw [if_neg (by simp [hno])]
            have hF2 := hQ.fr
            clear henv hbad hb hno hQ hI hiq hall htk hxb
            go_wp2_with (first
              | (go_at_call 97
                 refine Henv.out.mono ?_
                 rintro e1 w3 ⟨y1, rfl, hf3, hQ3⟩
                 obtain ⟨t1, t2, t3⟩ := hQ3.cells
                 have T2 := Lib.hid t2
                 have T3 := Lib.hid t3
                 clear t1 t2 t3)
              | (refine wpList_alloc_any rfl 153 rfl 5 env_zero ?_; intro z hz; have Hz := Lib.hid hz; clear hz)
              | (refine wpList_store_newN rfl 153 (.tmp 14) (.tmp 58) rfl 5 env_size _ z Hz.out y1.toArray rfl rfl T2.out T3.out ?_))
            go_ret2
            rw [Hout.out, Hbad.out]
            exact ⟨none, 0, 0, rfl, (hF2.trans hf3 fun _ _ => id).alloc _, Nat.le_refl _, by simp [maxLen], ArrOf.none_ _ _ _ _ _⟩
          | true =>
            have hbad : envBad xb = 0 := by unfold envBad; rw [hb]; rfl
            rw [hbad] at henv
            have hlk := envOf_links xb
            have hsnoc : sealAcc (dl.take (i + 1)) = sealStep (sealAcc (dl.take i)) xb := by rw [htk, sealAcc_snoc]
            have hall1 : (dl.take (i + 1)).all envIs = true := by rw [htk, List.all_append, hall]; simp [hb]
            obtain ⟨q1, q2⟩ := sealAcc_len dl i (by omega)
            obtain ⟨e0, he0⟩ : ∃ e0, e0 = envOf xb := ⟨_, rfl⟩
            obtain ⟨p0, hp0⟩ : ∃ p0, p0 = sealAcc (dl.take i) := ⟨_, rfl⟩
            rw [← hp0] at hQ hI hiq q1 q2 hsnoc
            have hmid : p0.2.length ≤ 20000 := by omega
            rw [← he0] at henv hlk
            obtain ⟨N, hN⟩ : ∃ N, N = w2.heap.size := ⟨_, rfl⟩
            rw [← hN] at hQ henv hKw
            have hiN : ∀ j, inB iA j → j < N := fun j hj => by rw [hN]; exact hI.lt hj
            have hNs : N ≤ w2.heap.size := by omega
            have He0 := Lib.hid he0
            have Henv := Lib.hid henv
            have Hsnoc := Lib.hid hsnoc
            have Hall1 := Lib.hid hall1
            have Hiq := Lib.hid hiq
            clear henv hbad hb hsnoc hall hall1 htk hxb he0 hp0 hN hiq
            go_wp2_with (first
              | (go_at_call 97
                 refine Henv.out.mono ?_
                 rintro e1 w3 ⟨y1, rfl, hf3, LA, ln, lc, BA, bm, bd, hy1, hli, hmd, hdm, hbb⟩
                 have T2 : Hid (y1.toArray.size = 5) := by show _ = _; rw [hy1]; rfl
                 have T3 : Hid (y1.toArray.all (·.oneCell') = true) := by show _ = _; rw [hy1]; exact envCells_ones _ _ _ _ _ _ _
                 have Hy1 := Lib.hid hy1
                 have hQ3 := hQ.step hf3 (fun j h => h.elim) hwK hKw
                 have hI3 := hI.fr hf3 fun _ _ => id
                 have hll := hli.len
                 have hbm := hbb.len
                 have s3 := hf3.size
                 clear hy1 hf3 hQ hI hmd hdm hbb)
              | (refine wpList_alloc_any rfl 153 rfl 5 env_zero ?_; intro z hz; have Hz := Lib.hid hz; clear hz)
              | (refine wpList_store_newN rfl 153 (.tmp 14) (.tmp 58) rfl 5 env_size _ z Hz.out y1.toArray rfl rfl T2.out T3.out ?_
                 clear Hz
                 obtain ⟨g14, hg14⟩ : ∃ g14, g14 = w3.heap.size := ⟨_, rfl⟩
                 obtain ⟨w4, hw4⟩ : ∃ w4, w4 = w3.alloc (.cells y1.toArray 153) := ⟨_, rfl⟩
                 rw [← hw4]
                 rw [← hg14]
                 have hf4 : Fr NoB w3 w4 := by rw [hw4]; exact (Fr.refl _ _).alloc _
                 have hE4 : EnvBlk w4 g14 e0 LA ln lc BA bm bd := by rw [hw4, hg14, Hy1.out]; exact ⟨Blk.new _ _ _⟩
                 have hQ4 := hQ3.step hf4 (fun j h => h.elim) hwK hKw
                 have hI4 := hI3.fr hf4 fun _ _ => id
                 have hL4 : ArrOf IdR w4 (fun j => j < B ∨ (N ≤ j ∧ j < g14)) 32 LA ln e0.links := (ArrOf.more hli (by omega) (fun j h1 h2 => h2.elim (fun h => .inl (hFB j h)) fun h => .inr ⟨h, by omega⟩) fun _ _ _ h => h).fr hf4 (fun _ _ => id) fun _ _ _ h => h
                 have s4 : g14 + 1 ≤ w4.heap.size := by rw [hw4, hg14]; simp
                 have hg14N : N ≤ g14 := by omega
                 have e0c := hE4.c0
                 have e1c := hE4.c1
                 have e2c := hE4.c2
                 have e3c := hE4.c3
                 have e4c := hE4.c4
                 clear hw4 hf4 hQ3 hI3 hli hg14 Hy1 T2 T3
                 obtain ⟨sc, hsc⟩ : ∃ sc, sc = sealCells (i : Nat) e0.kind (e0.realm : Nat) (e0.epoch : Nat) (bm : Nat) none 0 0 := ⟨_, rfl⟩
                 have Hsb : Hid (Try.prog.built 41 [(0, .int .i64 (i : Nat)), (1, .int .i64 e0.kind), (2, .int .u32 (e0.realm : Nat)), (3, .int .u32 (e0.epoch : Nat)), (4, .int .i64 (bm : Nat))] = some sc.toArray) := by show _ = _; rw [hsc]; exact seal_built _ _ _ _ _
                 have Hs6 : Hid (sc.toArray.size = 6) := by show _ = _; rw [hsc]; rfl
                 have Hs1 : Hid (sc.toArray.all (·.oneCell') = true) := by show _ = _; rw [hsc]; exact sealCells_ones _ _ _ _ _ _ _ _
                 have Hsc := Lib.hid hsc
                 clear hsc)
              | (refine wpList_build_eqE rfl 41 #[(0, .tmp 63), (1, .tmp 65), (2, .tmp 67), (3, .tmp 69), (4, .tmp 72)] rfl [(0, .int .i64 (i : Nat)), (1, .int .i64 e0.kind), (2, .int .u32 (e0.realm : Nat)), (3, .int .u32 (e0.epoch : Nat)), (4, .int .i64 (bm : Nat))] rfl sc.toArray Hsb.out ?_)
              | (refine wpList_alloc_any rfl 41 rfl 6 seal_zero ?_; intro z hz; have Hz := Lib.hid hz; clear hz)
              | (refine wpList_store_newN rfl 41 (.tmp 16) (.tmp 73) rfl 6 seal_size _ z Hz.out sc.toArray rfl rfl Hs6.out Hs1.out ?_
                 clear Hz
                 obtain ⟨g16, hg16⟩ : ∃ g16, g16 = w4.heap.size := ⟨_, rfl⟩
                 obtain ⟨w5, hw5⟩ : ∃ w5, w5 = w4.alloc (.cells sc.toArray 41) := ⟨_, rfl⟩
                 rw [← hw5]
                 rw [← hg16]
                 have hf5 : Fr NoB w4 w5 := by rw [hw5]; exact (Fr.refl _ _).alloc _
                 have hS5 : SealBlk w5 g16 i e0.kind e0.realm e0.epoch bm none 0 0 := by rw [hw5, hg16, Hsc.out]; exact ⟨Blk.new _ _ _⟩
                 have hQ5 := hQ4.step hf5 (fun j h => h.elim) hwK hKw
                 have hI5 := hI4.fr hf5 fun _ _ => id
                 have hL5 := hL4.fr hf5 (fun _ _ => id) fun _ _ _ h => h
                 have c3 := (hE4.fr hf5 id).c3
                 have hg1416 : g14 < g16 := by omega
                 have s5 : g16 + 1 ≤ w5.heap.size := by rw [hw5, hg16]; simp
                 clear hw5 hf5 hQ4 hI4 hL4 hE4 e0c e1c e2c e3c e4c hg16 s4 Hsb Hsc Hs6 Hs1))
            obtain ⟨N1, hN1⟩ : ∃ N1, N1 = w5.heap.size := ⟨_, rfl⟩
            have hg16N : g16 < N1 := by omega
            have hN1s : N1 ≤ w5.heap.size := by omega
            have hi0 : iq = (linkAcc p0.2 (e0.links.take 0)).2.length := Hiq.out
            clear hN1 s5 s3
            go_loopw [77, 11] (fun v v11 wr => ∃ (k c5 il jc : Nat) (A5 iB : Option Addr), k ≤ ln ∧ v = .int .i64 k ∧ v11 = .slice iB il jc ∧ il = (linkAcc p0.2 (e0.links.take k)).2.length ∧ Kq w K N (some ⟨g4, 0, none⟩) m c4 us iA oA i oc yss p0.1 wr ∧
              Own wr 74 32 iB il jc ((linkAcc p0.2 (e0.links.take k)).2.flatMap idCells) ∧ (∀ j, inB iB j → inB iA j ∨ N1 ≤ j) ∧ SealBlk wr g16 i e0.kind e0.realm e0.epoch bm A5 k c5 ∧
              Own wr 3 1 A5 k c5 ((linkAcc p0.2 (e0.links.take k)).1.map (Value.int .i64)) ∧ (∀ j, inB A5 j → N1 ≤ j ∧ ¬ inB iB j) ∧ ArrOf IdR wr (fun j => j < B ∨ (N ≤ j ∧ j < g14)) 32 LA ln e0.links ∧ N1 ≤ wr.heap.size) (fun v _ _ => ln - (intOf v).toNat)
            case atStart => exact ⟨0, 0, iq, ic, none, iA, by omega, rfl, rfl, hi0, hQ5, hI5, fun j hj => .inl hj, hS5, Own.nil _ _ _, fun j hj => absurd hj (inB_none j), hL5, hN1s⟩
            case round =>
              clear hQ5 hI5 hS5 hL5 hN1s c3 hi0
              obtain ⟨k, c5, il, jc, A5, iB, hk, rfl, rfl, hil, hQ, hI, hiB, hS, hO, hA5, hL, hNw⟩ := hrel
              obtain ⟨w7, rfl⟩ : ∃ w7 : World, w7 = wr := ⟨_, rfl⟩
              by_cases hkl : k < ln
              · obtain ⟨b1, o1, x, y1, hLA, hb1, gx, ly1, hr1, hc1⟩ := hL.at_ hkl
                have hr1 : y1 = idCells x := hr1
                subst hr1 hLA
                obtain ⟨hq1, hq2⟩ := linkAcc_len p0.2 e0.links k (by omega)
                have hstep := linkAcc_step (m := p0.2) gx
                obtain ⟨p1, hp1⟩ : ∃ p1, p1 = linkAcc p0.2 (e0.links.take k) := ⟨_, rfl⟩
                rw [← hp1] at hI hO hil hq1 hq2 hstep
                have hil40 : il ≤ 40000 := by omega
                have Hstep := Lib.hid hstep
                have Hil := Lib.hid hil
                have Hx : Hid ((idCells x).length = 32) := idCells_len x
                have Hxa : Hid ((idCells x).toArray.size = 32) := by show _ = _; simp [idCells_len]
                have Hxb : Hid ((idCells x).toArray.size = 1 * 32) := by show _ = _; simp [idCells_len]
                have Hx1 : Hid ((idCells x).toArray.all (·.oneCell') = true) := by
                  show _ = _
                  rw [Array.all_eq_true_iff_forall_mem]
                  intro u hu
                  exact bv_one x.1 u (by simpa [idCells] using hu)
                have Hx2 : Hid (∀ u ∈ (idCells x).toArray.toList, u.oneCell' = true) := by
                  intro u hu
                  exact bv_one x.1 u (by simpa [idCells] using hu)
                obtain ⟨xi, hxi⟩ : ∃ xi, xi = idCells x := ⟨_, rfl⟩
                rw [← hxi] at Hx Hxa Hxb Hx1 Hx2 hc1
                have Hxi := Lib.hid hxi
                clear hp1 hstep gx ly1 hq1 hq2 hil hxi
                go_wp2_with (first
                  | (refine wpList_load_agg rfl 74 (.tmp 79) rfl b1 (o1 + k * 32) rfl xi _ hc1 Try.underlying74 rfl (by rw [Hx.out]; exact id_size) ?_)
                  | (refine wpList_alloc_any rfl 74 rfl 32 id_zero ?_; intro z hz; have Hz := Lib.hid hz; clear hz)
                  | (refine wpList_store_newN rfl 74 (.tmp 18) (.tmp 80) rfl 32 id_size _ z Hz.out xi.toArray rfl rfl Hxa.out Hx1.out ?_
                     clear Hz
                     obtain ⟨g18, hg18⟩ : ∃ g18, g18 = w7.heap.size := ⟨_, rfl⟩
                     obtain ⟨w8, hw8⟩ : ∃ w8, w8 = w7.alloc (.cells xi.toArray 74) := ⟨_, rfl⟩
                     rw [← hw8]
                     rw [← hg18]
                     have hf8 : Fr NoB w7 w8 := by rw [hw8]; exact (Fr.refl _ _).alloc _
                     have hX8 : Blk w8 g18 74 xi.toArray := by rw [hw8, hg18]; exact Blk.new _ _ _
                     have hs8 : w7.heap.size ≤ w8.heap.size := hf8.size
                     have hg18a : N1 ≤ g18 := by omega
                     clear hw8 hc1 hg18))
                go_loopw [19] (fun v wr => ∃ q : Nat, q ≤ il ∧ v = .int .i64 q ∧ x ∉ p1.2.take q ∧ Fr NoB w8 wr) (fun v _ => il - (intOf v).toNat)
                case atStart => exact ⟨0, by omega, rfl, by simp, Fr.refl _ _⟩
                case round =>
                  obtain ⟨q, hq, rfl, hnq, hf9⟩ := hrel
                  obtain ⟨w9, rfl⟩ : ∃ w9 : World, w9 = wr := ⟨_, rfl⟩
                  have hfd : Fr NoB w7 w9.drew := (hf8.trans hf9 fun _ _ => id).drew
                  have hId := hI.fr hfd fun _ _ => id
                  have hOd := hO.fr hfd fun _ _ => id
                  have hSd := hS.fr hfd id
                  have hsd : w9.drew.heap.size = w9.heap.size := rfl
                  have hsz9 : w7.heap.size ≤ w9.heap.size := Nat.le_trans hs8 hf9.size
                  have hXd := hX8.fr (hf9.trans (Fr.drew (Fr.refl NoB w9)) fun _ _ => id) id
                  have e1 : ∀ j u, xi[j]? = some u → w9.drew.cell? ⟨g18, 0 + j, none⟩ = some u := fun j u hu => by rw [Nat.zero_add, hXd.cell]; simpa using hu
                  by_cases hql : q < il
                  · obtain ⟨b2, o2, z2, y2, hiBe, _, gz, _, hr2, hc2⟩ := (Own.at_flat hId Hil.out.symm).at_ hql
                    have hr2 : y2 = idCells z2 := hr2
                    subst hr2
                    have hneq := fun (o : Oper) (a : Act) (t' : TypeId) (u v : Operand) (ho : o.op = .binOp .neq 74 u v t') (hx : a.eval u = .agg (idCells z2).toArray) (hy : a.eval v = .agg (idCells x).toArray) => exec_neq_arr (w := w9.drew) 74 5 t' 32 u v ho Try.underlying74 Try.underlying5 u8_size id_guard z2.1 x.1 hx hy z2.2 x.2
                    rw [← Hxi.out] at hneq
                    have Hz2 : Hid ((idCells z2).length = 32) := idCells_len z2
                    have Htk := Lib.hid (take_snocE gz)
                    have Hgz := Lib.hid gz
                    have hc2' : ∀ j u, (idCells z2)[j]? = some u → w9.drew.cell? ⟨b2, o2 + q * 32 + j, none⟩ = some u := hc2
                    clear hc2 gz
                    generalize idCells z2 = zi at *
                    have b0 : decide ((q : Int) < (il : Int)) = true := by simp only [decide_eq_true_eq]; omega
                    have g1 : (0 : Int) ≤ (q : Int) := by omega
                    have g2 : (q : Int) < (il : Int) := by omega
                    have Hnq := Lib.hid hnq
                    by_cases hzx : z2 = x
                    · have hbq : (!(z2.1 == x.1)) = false := by rw [hzx]; simp
                      rw [hbq] at hneq
                      have hix : p1.2.idxOf x = q := idx_at (by rw [← hzx]; exact Hgz.out) Hnq.out
                      have hmem : x ∈ p1.2 := by rw [← hzx]; exact List.mem_of_getElem? Hgz.out
                      have H2 : Hid (linkAcc p0.2 (e0.links.take (k + 1)) = (p1.1 ++ [(q : Int)], p1.2)) := by
                        show _ = _
                        rw [Hstep.out]
                        unfold linkStep addId
                        rw [if_pos hmem, hix]
                      have b3 : ((q : Int) == (il : Int)) = false := by simp; omega
                      clear hzx hbq hix hmem hnq
                      subst hiBe
                      go_wp2
                      refine wp_region_held (S := fun W => W = w9.drew) rfl ?_
                      refine wpAnyH_take (i := 0) rfl (by decide +kernel) (by decide +kernel) (by decide +kernel) (fun _ _ _ h => h) (Or.inl ⟨by kernel_rfl, fun W hW => by rw [hW]; go_simp; with_reducible rfl⟩) rfl ?_
                      refine wpAnyH_take (i := 1) rfl (by decide +kernel) (by decide +kernel) (by decide +kernel) (fun _ _ _ h => h) (Or.inl ⟨by kernel_rfl, fun W hW => by rw [hW]; go_simp; with_reducible rfl⟩) rfl ?_
                      go_simp
                      refine wpAnyH_take (i := 2) rfl (by decide +kernel) (by decide +kernel) (by decide +kernel) (fun _ _ _ h => h) (Or.inl ⟨by kernel_rfl, fun W hW => by rw [hW]; go_simp; with_reducible rfl⟩) rfl ?_
                      go_simp
                      refine wpAnyH_take (i := 3) rfl (by decide +kernel) (by decide +kernel) (by decide +kernel) (fun _ _ _ h => h) (Or.inl ⟨by kernel_rfl, fun W hW => by rw [hW]; go_simp; with_reducible rfl⟩) rfl ?_
                      go_simp
                      refine wpAnyH_take (i := 4) rfl (by decide +kernel) (by decide +kernel) (by decide +kernel) (fun _ _ _ h => h) (Or.inl ⟨by kernel_rfl, fun W hW => by rw [hW]; go_simp; with_reducible rfl⟩) rfl ?_
                      go_simp
                      refine wpAnyH_take (i := 5) rfl (by decide +kernel) (by decide +kernel) (by decide +kernel) (fun _ _ _ h => h) (Or.inl ⟨by kernel_rfl, fun W hW => by rw [hW]; go_simp; with_reducible rfl⟩) rfl ?_
                      refine wpAnyH_take (i := 6) rfl (by decide +kernel) (by decide +kernel) (by decide +kernel) (fun _ _ _ h => h) (Or.inl ⟨by kernel_rfl, fun W hW => by rw [hW]; go_simp; with_reducible rfl⟩) rfl ?_
                      go_simp
                      refine wpAnyH_take (i := 7) rfl (by decide +kernel) (by decide +kernel) (by decide +kernel) (fun _ _ _ h => h) (Or.inl ⟨by kernel_rfl, fun W hW => by rw [hW]; go_simp; with_reducible rfl⟩) rfl ?_
                      go_simp
                      refine wpAnyH_take (i := 8) rfl (by decide +kernel) (by decide +kernel) (by decide +kernel) (fun _ _ _ h => h) (Or.inl ⟨by kernel_rfl, fun W hW => by rw [hW]; exact exec_load_agg 74 (.tmp 88) rfl b2 (o2 + q * 32) rfl zi _ hc2' Try.underlying74 rfl (by rw [Hz2.out]; exact id_size)⟩) rfl ?_
                      refine wpAnyH_take (i := 9) rfl (by decide +kernel) (by decide +kernel) (by decide +kernel) (fun _ _ _ h => h) (Or.inl ⟨by kernel_rfl, fun W hW => by rw [hW]; exact exec_load_agg 74 (.tmp 18) rfl g18 0 rfl xi _ e1 Try.underlying74 rfl (by rw [Hx.out]; exact id_size)⟩) rfl ?_
                      refine wpAnyH_take (i := 10) rfl (by decide +kernel) (by decide +kernel) (by decide +kernel) (fun _ _ _ h => h) (Or.inl ⟨by kernel_rfl, fun W hW => by rw [hW]; exact hneq _ _ _ (.tmp 89) (.tmp 90) rfl rfl rfl⟩) rfl ?_
                      go_simp
                      refine wpAnyH_take (i := 11) rfl (by decide +kernel) (by decide +kernel) (by decide +kernel) (fun _ _ _ h => h) (Or.inl ⟨by kernel_rfl, fun W hW => by rw [hW]; go_simp; with_reducible rfl⟩) rfl ?_
                      go_simp
                      refine wpAnyH_done (by decide +kernel) ?_ _
                      have qx := hSd.c5
                      go_wp2_with (first
                        | (at_builtin; refine wpList_app _ el_int rfl (.tmp 104) (.tmp 106) rfl A5 k c5 _ rfl (hOd.alloc _) _ _ 1 1 _ rfl (Arr.one _ _ _) (by simp [Value.oneCell']) (by omega) ?_
                           intro A6 c6 wa hOa hfa hina _
                           have hga : ¬ inB A5 g16 := fun h => by have := (hA5 g16 h).1; omega
                           have hSa := (hSd.fr ((Fr.refl NoB w9.drew).alloc _) id).fr hfa hga
                           have qa := hSa.c5
                           have qy := hSa.blk.frozen 5
                           clear qx))
                      simp only [size_drewY, World.size_alloc] at hina
                      have hfg : Fr (· = g16) wa (wa.setCell ⟨g16, 5, none⟩ (.slice A6 (k + 1) c6)) := (Fr.refl _ _).at_ _ _
                      have hfT : Fr (fun j => j = g16 ∨ inB A5 j) w7 (wa.setCell ⟨g16, 5, none⟩ (.slice A6 (k + 1) c6)) := (((hfd.mono (S' := fun j => j = g16 ∨ inB A5 j) fun _ _ h => h.elim).alloc _).trans hfa fun _ _ h => .inr h).trans hfg fun _ _ h => .inl h
                      have hA5l : ∀ j, inB A5 j → j < w9.heap.size := fun j hj => by have := hOd.lt hj; omega
                      have hiBl : ∀ j, inB (some ⟨b2, o2, none⟩) j → j < w9.heap.size := fun j hj => by have := hId.lt hj; omega
                      have hA6 : ∀ j, inB A6 j → N1 ≤ j ∧ ¬ inB (some ⟨b2, o2, none⟩) j := fun j hj => (hina j hj).elim (hA5 j) fun h => ⟨by omega, fun h2 => by have := hiBl j h2; omega⟩
                      have hO2 : Own (wa.setCell ⟨g16, 5, none⟩ (.slice A6 (k + 1) c6)) 3 1 A6 (k + 1) c6 ((p1.1 ++ [(q : Int)]).map (Value.int .i64)) := by
                        rw [List.map_append]
                        exact hOa.fr hfg fun j hj h => by have := (hA6 j hj).1; omega
                      have hI2 := hI.fr hfT fun j hj h => by
                        rcases h with h | h
                        · rcases hiB j hj with h2 | h2
                          · have := hiN j h2; omega
                          · omega
                        · exact (hA5 j h).2 hj
                      go_roundw
                      case rel => exact ⟨k + 1, c6, il, jc, A6, some ⟨b2, o2, none⟩, by omega, by go_num, rfl, by rw [H2.out]; exact Hil.out, hQ.step hfT (fun j h => by rcases h with h | h; exact .inr (by omega); exact .inr (by have := (hA5 j h).1; omega)) hwK hKw, by rw [H2.out]; exact hI2, hiB, hSa.s5 A6 (k + 1) c6, by rw [H2.out]; exact hO2, hA6, hL.fr hfT (fun j hj h => by rcases h with h | h; omega; (have := (hA5 j h).1; omega)) (fun _ _ _ h => h), by have := hfT.size; omega⟩
                      case measure => (simp [intOf] <;> omega)
                    · have hbq : (!(z2.1 == x.1)) = true := by
                        have : (z2.1 == x.1) = false := by rw [beq_eq_false_iff_ne]; exact fun h => hzx (Subtype.ext h)
                        rw [this]; rfl
                      rw [hbq] at hneq
                      have hnq2 : Hid (x ∉ p1.2.take (q + 1)) := by
                        show ¬ _
                        rw [Htk.out, List.mem_append, List.mem_singleton, not_or]
                        exact ⟨Hnq.out, fun h => hzx h.symm⟩
                      clear hzx hbq hnq
                      subst hiBe
                      go_wp2
                      refine wp_region_held (S := fun W => W = w9.drew) rfl ?_
                      refine wpAnyH_take (i := 0) rfl (by decide +kernel) (by decide +kernel) (by decide +kernel) (fun _ _ _ h => h) (Or.inl ⟨by kernel_rfl, fun W hW => by rw [hW]; go_simp; with_reducible rfl⟩) rfl ?_
                      refine wpAnyH_take (i := 1) rfl (by decide +kernel) (by decide +kernel) (by decide +kernel) (fun _ _ _ h => h) (Or.inl ⟨by kernel_rfl, fun W hW => by rw [hW]; go_simp; with_reducible rfl⟩) rfl ?_
                      go_simp
                      refine wpAnyH_take (i := 2) rfl (by decide +kernel) (by decide +kernel) (by decide +kernel) (fun _ _ _ h => h) (Or.inl ⟨by kernel_rfl, fun W hW => by rw [hW]; go_simp; with_reducible rfl⟩) rfl ?_
                      go_simp
                      refine wpAnyH_take (i := 3) rfl (by decide +kernel) (by decide +kernel) (by decide +kernel) (fun _ _ _ h => h) (Or.inl ⟨by kernel_rfl, fun W hW => by rw [hW]; go_simp; with_reducible rfl⟩) rfl ?_
                      go_simp
                      refine wpAnyH_take (i := 4) rfl (by decide +kernel) (by decide +kernel) (by decide +kernel) (fun _ _ _ h => h) (Or.inl ⟨by kernel_rfl, fun W hW => by rw [hW]; go_simp; with_reducible rfl⟩) rfl ?_
                      go_simp
                      refine wpAnyH_take (i := 5) rfl (by decide +kernel) (by decide +kernel) (by decide +kernel) (fun _ _ _ h => h) (Or.inl ⟨by kernel_rfl, fun W hW => by rw [hW]; go_simp; with_reducible rfl⟩) rfl ?_
                      refine wpAnyH_take (i := 6) rfl (by decide +kernel) (by decide +kernel) (by decide +kernel) (fun _ _ _ h => h) (Or.inl ⟨by kernel_rfl, fun W hW => by rw [hW]; go_simp; with_reducible rfl⟩) rfl ?_
                      go_simp
                      refine wpAnyH_take (i := 7) rfl (by decide +kernel) (by decide +kernel) (by decide +kernel) (fun _ _ _ h => h) (Or.inl ⟨by kernel_rfl, fun W hW => by rw [hW]; go_simp; with_reducible rfl⟩) rfl ?_
                      go_simp
                      refine wpAnyH_take (i := 8) rfl (by decide +kernel) (by decide +kernel) (by decide +kernel) (fun _ _ _ h => h) (Or.inl ⟨by kernel_rfl, fun W hW => by rw [hW]; exact exec_load_agg 74 (.tmp 88) rfl b2 (o2 + q * 32) rfl zi _ hc2' Try.underlying74 rfl (by rw [Hz2.out]; exact id_size)⟩) rfl ?_
                      refine wpAnyH_take (i := 9) rfl (by decide +kernel) (by decide +kernel) (by decide +kernel) (fun _ _ _ h => h) (Or.inl ⟨by kernel_rfl, fun W hW => by rw [hW]; exact exec_load_agg 74 (.tmp 18) rfl g18 0 rfl xi _ e1 Try.underlying74 rfl (by rw [Hx.out]; exact id_size)⟩) rfl ?_
                      refine wpAnyH_take (i := 10) rfl (by decide +kernel) (by decide +kernel) (by decide +kernel) (fun _ _ _ h => h) (Or.inl ⟨by kernel_rfl, fun W hW => by rw [hW]; exact hneq _ _ _ (.tmp 89) (.tmp 90) rfl rfl rfl⟩) rfl ?_
                      go_simp
                      refine wpAnyH_take (i := 11) rfl (by decide +kernel) (by decide +kernel) (by decide +kernel) (fun _ _ _ h => h) (Or.inl ⟨by kernel_rfl, fun W hW => by rw [hW]; go_simp; with_reducible rfl⟩) rfl ?_
                      go_simp
                      refine wpAnyH_done (by decide +kernel) ?_ _
                      go_wp2
                      go_roundw
                      case rel => exact ⟨q + 1, by omega, by go_num, hnq2.out, hf9.drew⟩
                      case measure => (simp [intOf] <;> omega)
                  · have hqe : q = il := by omega
                    subst hqe
                    have hnm : x ∉ p1.2 := by
                      have h := hnq
                      rwa [List.take_of_length_le (by rw [Hil.out]; exact Nat.le_refl _)] at h
                    have hix : p1.2.idxOf x = q := by rw [List.idxOf_eq_length hnm]; exact Hil.out.symm
                    have H2 : Hid (linkAcc p0.2 (e0.links.take (k + 1)) = (p1.1 ++ [(q : Int)], p1.2 ++ [x])) := by
                      show _ = _
                      rw [Hstep.out]
                      unfold linkStep addId
                      rw [if_neg hnm, hix]
                    have b0 : decide ((q : Int) < (q : Int)) = false := by simp
                    have b3 : ((q : Int) == (q : Int)) = true := by simp
                    clear hnq hnm hix
                    go_wp2
                    refine wp_region_held (S := fun W => W = w9.drew) rfl ?_
                    refine wpAnyH_take (i := 0) rfl (by decide +kernel) (by decide +kernel) (by decide +kernel) (fun _ _ _ h => h) (Or.inl ⟨by kernel_rfl, fun W hW => by rw [hW]; go_simp; with_reducible rfl⟩) rfl ?_
                    refine wpAnyH_take (i := 1) rfl (by decide +kernel) (by decide +kernel) (by decide +kernel) (fun _ _ _ h => h) (Or.inl ⟨by kernel_rfl, fun W hW => by rw [hW]; go_simp; with_reducible rfl⟩) rfl ?_
                    go_simp
                    refine wpAnyH_take (i := 2) rfl (by decide +kernel) (by decide +kernel) (by decide +kernel) (fun _ _ _ h => h) (Or.inl ⟨by kernel_rfl, fun W hW => by rw [hW]; go_simp; with_reducible rfl⟩) rfl ?_
                    go_simp
                    refine wpAnyH_take (i := 3) rfl (by decide +kernel) (by decide +kernel) (by decide +kernel) (fun _ _ _ h => h) (Or.inl ⟨by kernel_rfl, fun W hW => by rw [hW]; go_simp; with_reducible rfl⟩) rfl ?_
                    go_simp
                    refine wpAnyH_take (i := 4) rfl (by decide +kernel) (by decide +kernel) (by decide +kernel) (fun _ _ _ h => h) (Or.inl ⟨by kernel_rfl, fun W hW => by rw [hW]; go_simp; with_reducible rfl⟩) rfl ?_
                    go_simp
                    refine wpAnyH_take (i := 5) rfl (by decide +kernel) (by decide +kernel) (by decide +kernel) (fun _ _ _ h => h) (Or.inr ⟨by kernel_rfl, rfl⟩) rfl ?_
                    refine wpAnyH_take (i := 6) rfl (by decide +kernel) (by decide +kernel) (by decide +kernel) (fun _ _ _ h => h) (Or.inr ⟨by kernel_rfl, rfl⟩) rfl ?_
                    refine wpAnyH_take (i := 7) rfl (by decide +kernel) (by decide +kernel) (by decide +kernel) (fun _ _ _ h => h) (Or.inr ⟨by kernel_rfl, rfl⟩) rfl ?_
                    refine wpAnyH_take (i := 8) rfl (by decide +kernel) (by decide +kernel) (by decide +kernel) (fun _ _ _ h => h) (Or.inr ⟨by kernel_rfl, rfl⟩) rfl ?_
                    refine wpAnyH_take (i := 9) rfl (by decide +kernel) (by decide +kernel) (by decide +kernel) (fun _ _ _ h => h) (Or.inr ⟨by kernel_rfl, rfl⟩) rfl ?_
                    refine wpAnyH_take (i := 10) rfl (by decide +kernel) (by decide +kernel) (by decide +kernel) (fun _ _ _ h => h) (Or.inr ⟨by kernel_rfl, rfl⟩) rfl ?_
                    refine wpAnyH_take (i := 11) rfl (by decide +kernel) (by decide +kernel) (by decide +kernel) (fun _ _ _ h => h) (Or.inl ⟨by kernel_rfl, fun W hW => by rw [hW]; go_simp; with_reducible rfl⟩) rfl ?_
                    go_simp
                    refine wpAnyH_done (by decide +kernel) ?_ _
                    have hLx : Hid (xi.length = 32) := Hx.out
                    go_wp2_with (first
                      | (refine wpList_load_agg rfl 74 (.tmp 18) rfl g18 0 rfl xi _ e1 Try.underlying74 rfl (by rw [Hx.out]; exact id_size) ?_)
                      | (refine wpList_build1 rfl el_id (by omega) (.tmp 100) rfl xi.toArray rfl Hxa.out ?_)
                      | (at_builtin; refine wpList_app _ el_id rfl (.tmp 99) (.tmp 101) rfl iB q jc _ rfl (hId.alloc _) _ _ 1 1 _ rfl (Arr.new _ _ xi.toArray 1 32 Hxb.out) Hx2.out (by omega) ?_
                         intro A7 c7 wb hIb hfb hinb _
                         have hfdb : Fr (inB iB) w9.drew wb := ((Fr.refl (inB iB) w9.drew).alloc _).trans hfb fun _ _ h => h
                         have hSb := hSd.fr hfdb (fun h => by rcases hiB g16 h with h2 | h2; (have := hiN g16 h2; omega); omega)
                         have hOb := hOd.fr hfdb fun j hj h => (hA5 j hj).2 h
                         have qx := hSb.c5)
                      | (at_builtin; refine wpList_app _ el_int rfl (.tmp 104) (.tmp 106) rfl A5 k c5 _ rfl (hOb.alloc _) _ _ 1 1 _ rfl (Arr.one _ _ _) (by simp [Value.oneCell']) (by omega) ?_
                         intro A6 c6 wa hOa hfa hina _
                         have hga : ¬ inB A5 g16 := fun h => by have := (hA5 g16 h).1; omega
                         have hSa := (hSb.fr ((Fr.refl NoB wb).alloc _) id).fr hfa hga
                         have qa := hSa.c5
                         have qy := hSa.blk.frozen 5
                         clear qx))
                    simp only [size_drewY, World.size_alloc] at hina hinb
                    have hfg : Fr (· = g16) wa (wa.setCell ⟨g16, 5, none⟩ (.slice A6 (k + 1) c6)) := (Fr.refl _ _).at_ _ _
                    have hsb := hfdb.size
                    have hA5l : ∀ j, inB A5 j → j < w9.heap.size := fun j hj => by have := hOd.lt hj; omega
                    have hiBl : ∀ j, inB iB j → j < w9.heap.size := fun j hj => by have := hId.lt hj; omega
                    have hA7l : ∀ j, inB A7 j → j < wb.heap.size := fun j hj => hIb.lt hj
                    have hA7 : ∀ j, inB A7 j → inB iA j ∨ N1 ≤ j := fun j hj => (hinb j hj).elim (hiB j) fun h => .inr (by omega)
                    have hA57 : ∀ j, inB A5 j → ¬ inB A7 j := fun j hj h => (hinb j h).elim (hA5 j hj).2 fun e => by have := hA5l j hj; omega
                    have hfab : Fr (inB A5) wb wa := ((Fr.refl (inB A5) wb).alloc _).trans hfa fun _ _ h => h
                    have hfT : Fr (fun j => j = g16 ∨ inB A5 j ∨ inB iB j) w7 (wa.setCell ⟨g16, 5, none⟩ (.slice A6 (k + 1) c6)) := (((hfd.mono (S' := fun j => j = g16 ∨ inB A5 j ∨ inB iB j) fun _ _ h => h.elim).trans hfdb fun _ _ h => .inr (.inr h)).trans hfab fun _ _ h => .inr (.inl h)).trans hfg fun _ _ h => .inl h
                    have hA6 : ∀ j, inB A6 j → N1 ≤ j ∧ ¬ inB A7 j := fun j hj => (hina j hj).elim (fun h => ⟨(hA5 j h).1, hA57 j h⟩) fun h => ⟨by omega, fun h2 => by have := hA7l j h2; omega⟩
                    have hO2 : Own (wa.setCell ⟨g16, 5, none⟩ (.slice A6 (k + 1) c6)) 3 1 A6 (k + 1) c6 ((p1.1 ++ [(q : Int)]).map (Value.int .i64)) := by
                      rw [List.map_append]
                      exact hOa.fr hfg fun j hj h => by have := (hA6 j hj).1; omega
                    have hI2 : Own (wa.setCell ⟨g16, 5, none⟩ (.slice A6 (k + 1) c6)) 74 32 A7 (q + 1) c7 ((p1.2 ++ [x]).flatMap idCells) := by
                      have e : (p1.2 ++ [x]).flatMap idCells = p1.2.flatMap idCells ++ xi.toArray.toList := by rw [List.flatMap_append, Hxi.out]; simp
                      rw [e]
                      refine (hIb.fr hfab fun j hj h => hA57 j h hj).fr hfg fun j hj h => ?_
                      rcases hA7 j hj with h2 | h2
                      · have := hiN j h2; omega
                      · omega
                    have hlow : ∀ j, (j = g16 ∨ inB A5 j ∨ inB iB j) → inB iA j ∨ N1 ≤ j ∨ j = g16 := fun j h => by
                      rcases h with h | h | h
                      · exact .inr (.inr h)
                      · exact .inr (.inl (hA5 j h).1)
                      · exact (hiB j h).elim .inl fun h => .inr (.inl h)
                    go_roundw
                    case rel => exact ⟨k + 1, c6, q + 1, c7, A6, A7, by omega, by go_num, rfl, by rw [H2.out, List.length_append, ← Hil.out]; rfl, hQ.step hfT (fun j h => by rcases hlow j h with h | h | h; exact .inl h; exact .inr (by omega); exact .inr (by omega)) hwK hKw, by rw [H2.out]; exact hI2, hA7, hSa.s5 A6 (k + 1) c6, by rw [H2.out]; exact hO2, hA6, hL.fr hfT (fun j hj h => by rcases hlow j h with h | h | h; (have := hQ.iB j h; have := hiN j h; omega); omega; omega) (fun _ _ _ h => h), by have := hfT.size; omega⟩
                    case measure => (simp [intOf] <;> omega)
              · have hkn : k = ln := by omega
                subst hkn
                have hfull : e0.links.take k = e0.links := List.take_of_length_le (by omega)
                rw [hfull] at hI hO hil
                obtain ⟨p1, hp1⟩ : ∃ p1, p1 = linkAcc p0.2 e0.links := ⟨_, rfl⟩
                rw [← hp1] at hI hO hil
                obtain ⟨sc2, hsc2⟩ : ∃ sc2, sc2 = sealCells i e0.kind e0.realm e0.epoch bm A5 k c5 := ⟨_, rfl⟩
                have hall := hS.all
                rw [← hsc2] at hall
                have L6 : Hid (sc2.length = 6) := by show _ = _; rw [hsc2]; rfl
                have S6 : Hid (sc2.toArray.size = 6) := by show _ = _; rw [hsc2]; rfl
                have S6m : Hid (sc2.toArray.size = 1 * 6) := by show _ = _; rw [hsc2]; rfl
                have S1 : Hid (∀ u ∈ sc2.toArray.toList, u.oneCell' = true) := by
                  show ∀ u ∈ sc2.toArray.toList, u.oneCell' = true
                  rw [hsc2]
                  have := sealCells_ones i e0.kind e0.realm e0.epoch bm A5 k c5
                  rw [Array.all_eq_true_iff_forall_mem] at this
                  intro u hu
                  exact this u (by simpa using hu)
                have Hsc2 := Lib.hid hsc2
                have Hp1 := Lib.hid hp1
                have Hil := Lib.hid hil
                clear hsc2 hp1 hfull hL hS hil
                go_wp2_with (first
                  | (refine wpList_load_agg rfl 41 (.tmp 16) rfl g16 0 rfl sc2 _ hall Try.underlying41 rfl (by rw [L6.out]; exact seal_size) ?_)
                  | (refine wpList_build1 rfl el_seal (by omega) (.tmp 111) rfl sc2.toArray rfl S6.out ?_)
                  | (at_builtin; refine wpList_app _ el_seal rfl (.tmp 110) (.tmp 112) rfl oA i oc _ rfl (hQ.o2.alloc _) _ _ 1 1 _ rfl (Arr.new _ _ sc2.toArray 1 6 S6m.out) S1.out (by omega) ?_
                     intro A7 c7 w9 hO9 hf9 hin9 _))
                simp only [World.size_alloc] at hin9
                have hf79 : Fr (inB oA) w7 w9 := ((Fr.refl (inB oA) w7).alloc _).trans hf9 fun _ _ h => h
                have s9 := hf79.size
                have hO9l : ∀ j, inB A7 j → j < w9.heap.size := fun j hj => hO9.lt hj
                have hN7 : N ≤ w7.heap.size := by omega
                have hiBl : ∀ j, inB iB j → j < w7.heap.size := fun j hj => hI.lt hj
                have hoi : ∀ j, inB oA j → ¬ inB iB j := fun j hj h => by
                  obtain ⟨_, h2, h3⟩ := hQ.oB j hj
                  rcases hiB j h with h | h
                  · exact h3 h
                  · omega
                have hsum : sealAcc (dl.take (i + 1)) = (p0.1 ++ [sealOf i e0 p1.1], p1.2) := by
                  rw [Hsnoc.out]
                  unfold sealStep
                  rw [← He0.out, ← Hp1.out, ← hQ.ln]
                have Hsum := Lib.hid hsum
                clear hsum
                have hQ2 : Kq w K w9.heap.size (some ⟨g4, 0, none⟩) m c4 us iB A7 (i + 1) c7 (yss ++ [sc2]) (p0.1 ++ [sealOf i e0 p1.1]) w9 := by
                  refine ⟨hQ.o4.fr hf79 fun j hj h => by have := hQ.a4 j hj; have := (hQ.oB j h).1; omega, hQ.a4, ?_, ?_, ?_, ?_, ?_, ?_, hQ.fr.new hf79 fun j hj => .inr (by have := (hQ.oB j hj).1; omega)⟩
                  · have e : List.flatten (yss ++ [sc2]) = List.flatten yss ++ sc2.toArray.toList := by simp
                    rw [e]
                    exact hO9
                  · intro y hy
                    rcases List.mem_append.1 hy with hy | hy
                    · exact hQ.y6 y hy
                    · rw [List.mem_singleton] at hy; rw [hy]; exact L6.out
                  · rw [List.length_append, ← hQ.ln]; rfl
                  · intro i2 sl hsl
                    have hyl : yss.length = p0.1.length := by
                      have h1 := hQ.o2.len
                      have h2 : ∀ zs : List (List Value), (∀ y ∈ zs, y.length = 6) → zs.flatten.length = zs.length * 6 := by
                        intro zs hz
                        induction zs with
                        | nil => rfl
                        | cons z zs ih => simp only [List.flatten_cons, List.length_append, List.length_cons]; rw [ih fun y hy => hz y (List.mem_cons_of_mem _ hy), hz z (List.mem_cons_self ..)]; omega
                      rw [h2 yss hQ.y6] at h1
                      have := hQ.ln
                      omega
                    rcases Nat.lt_or_ge i2 p0.1.length with hi2 | hi2
                    · rw [List.getElem?_append_left hi2] at hsl
                      obtain ⟨y, hy, hr⟩ := hQ.sl i2 sl hsl
                      refine ⟨y, by rw [List.getElem?_append_left (by omega)]; exact hy, SealR.more (hr.fr hf79 fun j hj h => hj.1.2.1 h) fun j hj9 hj => ⟨⟨hj.1.1, fun h => ?_, fun h => ?_⟩, hj9⟩⟩
                      · rcases hin9 j h with h | h
                        · exact hj.1.2.1 h
                        · omega
                      · rcases hiB j h with h | h
                        · exact hj.1.2.2 h
                        · omega
                    · have hie : i2 = p0.1.length := by
                        have := (List.getElem?_eq_some_iff.1 hsl).1
                        simp at this; omega
                      subst hie
                      rw [List.getElem?_append_right (Nat.le_refl _), Nat.sub_self] at hsl
                      injection hsl with hsl
                      subst hsl
                      refine ⟨sc2, by rw [← hyl, List.getElem?_append_right (Nat.le_refl _), Nat.sub_self]; rfl, A5, k, c5, ?_, hO.le, hO.cap, ?_⟩
                      · rw [Hsc2.out]; unfold sealCells sealOf; dsimp only; rw [hbm]
                      · have h1 : Ints w7 (fun j => (N1 ≤ j ∧ ¬ inB iB j) ∧ j < w7.heap.size) A5 k p1.1 := hO.arr fun j hjl hj => ⟨hA5 j hj, hjl⟩
                        refine Arr.more (Arr.fr h1 hf79 fun j hj h => ?_) (fun j hj9 hj => ⟨⟨by omega, fun h => ?_, hj.1.2⟩, hj9⟩) (by omega)
                        · have := (hQ.oB j h).2.1; omega
                        · rcases hin9 j h with h | h
                          · have := (hQ.oB j h).2.1; omega
                          · omega
                  · intro j hj
                    refine ⟨?_, hO9l j hj, fun h => ?_⟩
                    · rcases hin9 j hj with h | h
                      · exact (hQ.oB j h).1
                      · omega
                    · rcases hin9 j hj with h2 | h2
                      · exact hoi j h2 h
                      · have := hiBl j h; omega
                  · intro j hj
                    rcases hiB j hj with h | h
                    · exact hQ.iB j h
                    · omega
                go_roundw
                case rel => exact ⟨i + 1, c7, il, jc, A7, iB, yss ++ [sc2], by omega, by go_num, rfl, rfl, by rw [Hsum.out]; exact Hil.out, Hall1.out, by rw [Hsum.out]; exact hQ2, by rw [Hsum.out]; exact hI.fr hf79 fun j hj h => hoi j h hj, by omega⟩
                case measure => (simp [intOf] <;> omega)
        · have him2 : i = m := by omega
          subst him2
          have hfull : dl.take i = dl := List.take_of_length_le (by omega)
          rw [hfull] at hQ hall
          have hyes : sealsIs ls = true := by unfold sealsIs; rw [← Hdl.out]; exact hall
          have Hout : Hid (sealsOut ls = (sealAcc dl).1) := by show _ = _; unfold sealsOut; rw [if_pos hyes, Hdl.out]
          have Hbad : Hid (sealsBad ls = 0) := by show _ = _; unfold sealsBad; rw [if_pos hyes]
          have hP : Seals w2 (fun k => K ≤ k) oA i (sealAcc dl).1 := by
            refine ArrOf.of_arr (ys := yss) (hQ.o2.arr fun j _ hj => (hQ.oB j hj).1) hQ.y6 hQ.ln.symm fun i2 s hs => ?_
            obtain ⟨y, hy, hr⟩ := hQ.sl i2 s hs
            exact ⟨y, hy, SealR.more hr fun j _ hj => hj.1.1⟩
          have ocap := hQ.o2.cap
          have ole := hQ.o2.le
          have hF := hQ.fr
          clear hQ hI hall hyes hfull hiq
          go_wp2
          go_ret2
          rw [Hout.out, Hbad.out]
          exact ⟨oA, i, oc, rfl, hF, ole, ocap, hP.more' fun j _ hj => by omega⟩
end

section
open Go.RowKit

set_option maxRecDepth 100000 in
set_option maxHeartbeats 2000000 in
theorem SameSeals_any (w : World) (F G : Nat → Prop) (A B : Option Addr) (n c m d : Nat) (xs ys : List Seal) (hx : Seals w F A n xs) (hy : Seals w G B m ys) (hn : n ≤ 9223372036854775807) :
    Calls Try.prog 25 #[.slice A n c, .slice B m d] w fun e w' => e = .returned (.bool (decide (xs = ys))) ∧ Fr NoB w w' := by
  have hxl := hx.len
  have hyl := hy.len
  by_cases hnm : n = m
  · subst hnm
    have Hxl := Lib.hid hxl
    have Hyl := Lib.hid hyl
    clear hxl hyl
    go_enter Try.func25, Try.ntmps25
    go_wp2
    go_loopw [16] (fun i wr => ∃ k : Nat, k ≤ n ∧ i = .int .i64 k ∧ xs.take k = ys.take k ∧ Fr NoB w wr) (fun i _ => n - (intOf i).toNat)
    case atStart => exact ⟨0, by omega, rfl, rfl, Fr.refl _ _⟩
    case round =>
      obtain ⟨k, hk, rfl, hpre, hF⟩ := hrel
      obtain ⟨w1, rfl⟩ : ∃ w1 : World, w1 = wr := ⟨_, rfl⟩
      have Hpre := Lib.hid hpre
      clear hpre
      by_cases hkn : k < n
      · obtain ⟨b1, o1, x, y1, rfl, _, gx, ly1, hr1, hc1⟩ := (hx.fr hF fun _ _ => id).at_ hkn
        obtain ⟨b2, o2, y, y2, rfl, _, gy, ly2, hr2, hc2⟩ := (hy.fr hF fun _ _ => id).at_ hkn
        have Ly1 : Hid (y1.length = 6) := ly1
        have Ly2 : Hid (y2.length = 6) := ly2
        have Ls1 : Hid (y1.toArray.size = 6) := by show _ = _; simpa using ly1
        have Ls2 : Hid (y2.toArray.size = 6) := by show _ = _; simpa using ly2
        have H1 := Lib.hid hr1.one
        have H2 := Lib.hid hr2.one
        have Hex := Lib.hid (take_snoc_of gx)
        have Hey := Lib.hid (take_snoc_of gy)
        have Hne := Lib.hid (ne_of_at gx gy)
        clear gx gy ly1 ly2
        go_wp2
        go_cut [6, 7] from 17 to 87 (fun p6 p7 W => ∃ g1 g2, p6 = .pointer (some ⟨g1, 0, none⟩) ∧ p7 = .pointer (some ⟨g2, 0, none⟩) ∧ Blk W g1 41 y1.toArray ∧ Blk W g2 41 y2.toArray ∧ Fr NoB w1 W)
        case first =>
          refine wp_region_held (S := fun W => Fr NoB w1 W) rfl ?_
          have hS : Fr NoB w1 { w1 with drawn := w1.drawn + 1 } := Fr.drew (Fr.refl _ _)
          refine wpAnyH_take (i := 0) rfl (by kernel_rfl) (by kernel_rfl) (by kernel_rfl) (fun _ _ _ h => h) (Or.inl ⟨rfl, fun W hW => by go_simp; with_reducible rfl⟩) hS ?_
          refine wpAnyH_take (i := 1) rfl (by kernel_rfl) (by kernel_rfl) (by kernel_rfl) (fun _ _ _ h => h) (Or.inl ⟨rfl, fun W hW => by go_simp; with_reducible rfl⟩) hS ?_
          refine wpAnyH_take (i := 2) rfl (by kernel_rfl) (by kernel_rfl) (by kernel_rfl) (fun _ _ _ h => h) (Or.inl ⟨rfl, fun W hW => by go_simp; with_reducible rfl⟩) hS ?_
          refine wpAnyH_take (i := 3) rfl (by kernel_rfl) (by kernel_rfl) (by kernel_rfl) (fun _ _ _ h => h) (Or.inl ⟨rfl, fun W hW => exec_load_agg 41 (.tmp 21) rfl b1 (o1 + k * 6) rfl y1 _ (fun j u hu => Fr.cell' hW (hc1 j u hu) id) Try.underlying41 rfl (by rw [Ly1.out]; exact seal_size)⟩) hS ?_
          refine wpAnyH_take (i := 4) rfl (by kernel_rfl) (by kernel_rfl) (by kernel_rfl) (fun _ _ _ h => h) (Or.inl ⟨rfl, fun W hW => by go_simp; with_reducible rfl⟩) hS ?_
          refine wpAnyH_take (i := 5) rfl (by kernel_rfl) (by kernel_rfl) (by kernel_rfl) (fun _ _ _ h => h) (Or.inl ⟨rfl, fun W hW => by go_simp; with_reducible rfl⟩) hS ?_
          refine wpAnyH_take (i := 6) rfl (by kernel_rfl) (by kernel_rfl) (by kernel_rfl) (fun _ _ _ h => h) (Or.inl ⟨rfl, fun W hW => by go_simp; with_reducible rfl⟩) hS ?_
          refine wpAnyH_take (i := 7) rfl (by kernel_rfl) (by kernel_rfl) (by kernel_rfl) (fun _ _ _ h => h) (Or.inl ⟨rfl, fun W hW => exec_load_agg 41 (.tmp 25) rfl b2 (o2 + k * 6) rfl y2 _ (fun j u hu => Fr.cell' hW (hc2 j u hu) id) Try.underlying41 rfl (by rw [Ly2.out]; exact seal_size)⟩) hS ?_
          go_simp
          refine wpAnyH_all (rs := [8, 9]) (by decide +kernel) (by simp) ?_
          intro i hi
          simp only [List.mem_cons, List.not_mem_nil, or_false] at hi
          rcases hi with rfl | rfl
          · refine wpOp_alloc rfl rfl 41 rfl 6 seal_zero ?_
            intro g1 z1 W' ge1 hz1 hA hf
            have hl1 : w1.heap.size ≤ g1 := Nat.le_trans hS.size ge1
            replace hS := hS.trans hf fun _ _ => id
            refine ⟨hS, ?_⟩
            clear hf
            go_simp
            refine wpAnyH_all (rs := [9]) (by decide +kernel) (by simp) ?_
            intro i hi
            simp only [List.mem_cons, List.not_mem_nil, or_false] at hi
            subst hi
            refine wpOp_alloc rfl rfl 41 rfl 6 seal_zero ?_
            intro g2 z2 W' ge2 hz2 hB hf
            have hl2 : w1.heap.size ≤ g2 := Nat.le_trans hS.size ge2
            have hne : g1 ≠ g2 := by have := hA.lt; omega
            replace hA := hA.fr hf id
            replace hS := hS.trans hf fun _ _ => id
            refine ⟨hS, ?_⟩
            clear hf
            go_simp
            refine wpAnyH_all (rs := [10]) (by decide +kernel) (by simp) ?_
            intro i hi
            simp only [List.mem_cons, List.not_mem_nil, or_false] at hi
            subst hi
            refine wpOp_store_row rfl rfl 41 (.tmp 6) (.tmp 22) rfl g1 y1.toArray rfl rfl 41 z1 hA (by rw [Ls1.out]; exact seal_size) (by rw [Ls1.out, hz1]) H1.out ?_
            intro W' hf hA'
            clear hA
            have hA := hA'
            clear hA'
            replace hB := hB.fr hf (by omega)
            replace hS := hS.new hf fun j (hj : j = g1) => .inr (by omega)
            refine ⟨hS, ?_⟩
            clear hf
            go_simp
            refine wpAnyH_all (rs := [11]) (by decide +kernel) (by simp) ?_
            intro i hi
            simp only [List.mem_cons, List.not_mem_nil, or_false] at hi
            subst hi
            refine wpOp_store_row rfl rfl 41 (.tmp 7) (.tmp 26) rfl g2 y2.toArray rfl rfl 41 z2 hB (by rw [Ls2.out]; exact seal_size) (by rw [Ls2.out, hz2]) H2.out ?_
            intro W' hf hB'
            clear hB
            have hB := hB'
            clear hB'
            replace hA := hA.fr hf (by omega)
            replace hS := hS.new hf fun j (hj : j = g2) => .inr (by omega)
            refine ⟨hS, ?_⟩
            clear hf
            go_simp
            refine wpAnyH_done (by decide +kernel) ?_ _
            go_wp2
            go_meet
            case rel => exact ⟨g1, g2, rfl, rfl, hA, hB, hS⟩
          · refine wpOp_alloc rfl rfl 41 rfl 6 seal_zero ?_
            intro g2 z2 W' ge2 hz2 hB hf
            have hl2 : w1.heap.size ≤ g2 := Nat.le_trans hS.size ge2
            replace hS := hS.trans hf fun _ _ => id
            refine ⟨hS, ?_⟩
            clear hf
            go_simp
            refine wpAnyH_all (rs := [8]) (by decide +kernel) (by simp) ?_
            intro i hi
            simp only [List.mem_cons, List.not_mem_nil, or_false] at hi
            subst hi
            refine wpOp_alloc rfl rfl 41 rfl 6 seal_zero ?_
            intro g1 z1 W' ge1 hz1 hA hf
            have hl1 : w1.heap.size ≤ g1 := Nat.le_trans hS.size ge1
            have hne : g1 ≠ g2 := by have := hB.lt; omega
            replace hB := hB.fr hf id
            replace hS := hS.trans hf fun _ _ => id
            refine ⟨hS, ?_⟩
            clear hf
            go_simp
            refine wpAnyH_all (rs := [10]) (by decide +kernel) (by simp) ?_
            intro i hi
            simp only [List.mem_cons, List.not_mem_nil, or_false] at hi
            subst hi
            refine wpOp_store_row rfl rfl 41 (.tmp 6) (.tmp 22) rfl g1 y1.toArray rfl rfl 41 z1 hA (by rw [Ls1.out]; exact seal_size) (by rw [Ls1.out, hz1]) H1.out ?_
            intro W' hf hA'
            clear hA
            have hA := hA'
            clear hA'
            replace hB := hB.fr hf (by omega)
            replace hS := hS.new hf fun j (hj : j = g1) => .inr (by omega)
            refine ⟨hS, ?_⟩
            clear hf
            go_simp
            refine wpAnyH_all (rs := [11]) (by decide +kernel) (by simp) ?_
            intro i hi
            simp only [List.mem_cons, List.not_mem_nil, or_false] at hi
            subst hi
            refine wpOp_store_row rfl rfl 41 (.tmp 7) (.tmp 26) rfl g2 y2.toArray rfl rfl 41 z2 hB (by rw [Ls2.out]; exact seal_size) (by rw [Ls2.out, hz2]) H2.out ?_
            intro W' hf hB'
            clear hB
            have hB := hB'
            clear hB'
            replace hA := hA.fr hf (by omega)
            replace hS := hS.new hf fun j (hj : j = g2) => .inr (by omega)
            refine ⟨hS, ?_⟩
            clear hf
            go_simp
            refine wpAnyH_done (by decide +kernel) ?_ _
            go_wp2
            go_meet
            case rel => exact ⟨g1, g2, rfl, rfl, hA, hB, hS⟩
        case rest =>
          obtain ⟨g1, g2, rfl, rfl, hA, hB, hS⟩ := hcut
          obtain ⟨W, rfl⟩ : ∃ W : World, W = wc := ⟨_, rfl⟩
          have hFF := hF.trans hS fun _ _ => id
          obtain ⟨P1, n1, c1, rfl, hnc1, hcm1, hl1⟩ := hr1
          obtain ⟨P2, n2, c2, rfl, hnc2, hcm2, hl2⟩ := hr2
          obtain ⟨x1, x2, x3, x4, x5, x6⟩ := x
          obtain ⟨y1, y2, y3, y4, y5, y6⟩ := y
          dsimp only at hl1 hl2 hA hB
          replace hl1 := Arr.fr hl1 hS fun _ _ => id
          replace hl2 := Arr.fr hl2 hS fun _ _ => id
          have hn1 : n1 ≤ 9223372036854775807 := by unfold maxLen at hcm1; omega
          have a0 := hA.cell 0
          have a1 := hA.cell 1
          have a2 := hA.cell 2
          have a3 := hA.cell 3
          have a4 := hA.cell 4
          have a5 := hA.cell 5
          have b0 := hB.cell 0
          have b1 := hB.cell 1
          have b2 := hB.cell 2
          have b3 := hB.cell 3
          have b4 := hB.cell 4
          have b5 := hB.cell 5
          simp at a0 a1 a2 a3 a4 a5 b0 b1 b2 b3 b4 b5
          clear hnc1 hcm1 hnc2 hcm2 hc1 hc2 Ly1 Ly2 Ls1 Ls2 H1 H2
          by_cases h1 : x1 = y1
          · subst h1
            by_cases h2 : x2 = y2
            · subst h2
              by_cases h3 : x3 = y3
              · subst h3
                by_cases h4 : x4 = y4
                · subst h4
                  by_cases h5 : x5 = y5
                  · subst h5
                    have hll1 := Ints.len hl1
                    have hll2 := Ints.len hl2
                    by_cases h6 : n1 = n2
                    · subst h6
                      have Hll1 := Lib.hid hll1
                      have Hll2 := Lib.hid hll2
                      clear hll1 hll2
                      go_wp2
                      go_loopw [72] (fun i wi => ∃ j q : Nat, j ≤ n1 ∧ i = .int .i64 j ∧ x6.take j = y6.take j ∧ wi = W.drewN q) (fun i _ => n1 - (intOf i).toNat)
                      case atStart => exact ⟨0, 0, by omega, rfl, rfl, rfl⟩
                      case round =>
                        obtain ⟨j, q, hj, rfl, hpre, hwr⟩ := hrel
                        have hr1 : Ints wr F P1 n1 x6 := by rw [hwr]; exact hl1
                        have hr2 : Ints wr G P2 n1 y6 := by rw [hwr]; exact hl2
                        have a5' : wr.cell? ⟨g1, 5, none⟩ = some (.slice P1 n1 c1) := by rw [hwr]; exact a5
                        have b5' : wr.cell? ⟨g2, 5, none⟩ = some (.slice P2 n1 c2) := by rw [hwr]; exact b5
                        have Hwr := Lib.hid hwr
                        have hFw : Fr NoB w wr := by rw [hwr]; exact hFF.drewN q
                        clear hwr
                        have Hpr := Lib.hid hpre
                        clear hpre
                        by_cases hjn : j < n1
                        · obtain ⟨d1, p1, u, rfl, _, gu, hd1⟩ := hr1.at_ hjn
                          obtain ⟨d2, p2, v, rfl, _, gv, hd2⟩ := hr2.at_ hjn
                          have Hu := Lib.hid (take_snoc_of gu)
                          have Hv := Lib.hid (take_snoc_of gv)
                          have Hun := Lib.hid (ne_of_at gu gv)
                          clear gu gv
                          by_cases huv : u = v
                          · subst huv
                            go_wp2
                            go_quiet (fail)
                            go_wp2
                            go_roundw
                            case rel => exact ⟨j + 1, _, by omega, by go_num, by rw [Hu.out, Hv.out, Hpr.out], by rw [Hwr.out, World.drewN_drewN]⟩
                            case measure => simp [intOf]; omega
                          · have he := Lib.hid (decide_eq_false (Hne.out (by rintro ⟨⟩; exact Hun.out huv rfl)))
                            have hb : (u != v) = true := by simpa using huv
                            clear huv
                            go_wp2
                            go_quiet (fail)
                            go_wp2
                            go_ret
                            exact ⟨ret_bool he.out.symm, hFw.drewN _⟩
                        · have hje : j = n1 := by omega
                          subst hje
                          have hxy : x6 = y6 := by
                            have := Hpr.out
                            rwa [List.take_of_length_le (by rw [Hll1.out]; exact Nat.le_refl _), List.take_of_length_le (by rw [Hll2.out]; exact Nat.le_refl _)] at this
                          have Hxy := Lib.hid hxy
                          clear hxy
                          go_wp2
                          go_roundw
                          case rel => exact ⟨k + 1, by omega, by go_num, by rw [Hex.out, Hey.out, Hpre.out, Hxy.out], hFw⟩
                          case measure => simp [intOf]; omega
                    · have hb : ((n1 : Int) != (n2 : Int)) = true := by simp; omega
                      have he := Lib.hid (decide_eq_false (Hne.out (by rintro ⟨⟩; omega)))
                      clear h6 hll1 hll2
                      go_wp2
                      go_ret
                      exact ⟨ret_bool he.out.symm, hFF⟩
                  · have hb : (x5 == y5) = false := by simpa using h5
                    have hb' : (x5 != y5) = true := by simpa using h5
                    have he := Lib.hid (decide_eq_false (Hne.out (by simp [h5])))
                    clear h5 hb
                    go_wp2
                    go_ret
                    exact ⟨ret_bool he.out.symm, hFF⟩
                · have hb : (x4 == y4) = false := by simpa using h4
                  have hb' : (x4 != y4) = true := by simpa using h4
                  have he := Lib.hid (decide_eq_false (Hne.out (by simp [h4])))
                  clear h4 hb
                  go_wp2
                  go_ret
                  exact ⟨ret_bool he.out.symm, hFF⟩
              · have hb : (x3 == y3) = false := by simpa using h3
                have hb' : (x3 != y3) = true := by simpa using h3
                have he := Lib.hid (decide_eq_false (Hne.out (by simp [h3])))
                clear h3 hb
                go_wp2
                go_ret
                exact ⟨ret_bool he.out.symm, hFF⟩
            · have hb : (x2 == y2) = false := by simpa using h2
              have hb' : (x2 != y2) = true := by simpa using h2
              have he := Lib.hid (decide_eq_false (Hne.out (by simp [h2])))
              clear h2 hb
              go_wp2
              go_ret
              exact ⟨ret_bool he.out.symm, hFF⟩
          · have hb : (x1 == y1) = false := by simpa using h1
            have hb' : (x1 != y1) = true := by simpa using h1
            have he := Lib.hid (decide_eq_false (Hne.out (by simp [h1])))
            clear h1 hb
            go_wp2
            go_ret
            exact ⟨ret_bool he.out.symm, hFF⟩
      · have hke : k = n := by omega
        subst hke
        have he : Hid (decide (xs = ys) = true) := by
          show _ = _
          have := Hpre.out
          rw [List.take_of_length_le (by rw [Hxl.out]; exact Nat.le_refl _), List.take_of_length_le (by rw [Hyl.out]; exact Nat.le_refl _)] at this
          simpa using this
        go_wp2
        go_ret
        exact ⟨ret_bool he.out.symm, hF⟩
  · have hne : Hid (decide (xs = ys) = false) := by
      show _ = _
      rw [decide_eq_false_iff_not]
      rintro rfl
      exact hnm (hxl.symm.trans hyl)
    clear hxl hyl
    have hb : ((n : Int) != (m : Int)) = true := by simp; omega
    clear hnm
    go_enter Try.func25, Try.ntmps25
    go_wp2
    go_ret
    exact ⟨ret_bool hne.out.symm, Fr.refl _ _⟩
end

section
/-- How far letters are turned. -/
def turnK (k : Int) : Nat := ((k.tmod 26 + 26) % 26).toNat
theorem tmod26 (k : Int) : -26 < k.tmod 26 ∧ k.tmod 26 < 26 := by
  have h1 := Int.tmod_lt_of_pos k (b := 26) (by omega)
  have h2 := Int.lt_tmod_of_pos k (b := 26) (by omega)
  omega
theorem turnK_eq (k : Int) : (k.tmod 26 + 26) % 26 = (turnK k : Int) := by unfold turnK; omega
theorem turnK_lt (k : Int) : turnK k < 26 := by unfold turnK; omega
theorem turnK_neg (k : Int) (h : k.tmod 26 < 0) : k.tmod 26 + 26 = (turnK k : Int) := by have := tmod26 k; unfold turnK; omega
theorem turnK_pos (k : Int) (h : 0 ≤ k.tmod 26) : k.tmod 26 = (turnK k : Int) := by have := tmod26 k; unfold turnK; omega

def turnB (k : Nat) (c : UInt8) : UInt8 := if 97 ≤ c.toNat ∧ c.toNat ≤ 122 then UInt8.ofNat (97 + (c.toNat - 97 + k) % 26) else c
def turnL (k : Nat) (l : List UInt8) : List UInt8 := l.map (turnB k)
theorem turnL_len (k : Nat) (l : List UInt8) : (turnL k l).length = l.length := by simp [turnL]
theorem turnB_out {k : Nat} {c : UInt8} (h : ¬ (97 ≤ c.toNat ∧ c.toNat ≤ 122)) : turnB k c = c := if_neg h
theorem turnB_in {k : Nat} {c : UInt8} (h : 97 ≤ c.toNat ∧ c.toNat ≤ 122) : (turnB k c).toNat = 97 + (c.toNat - 97 + k) % 26 := by
  rw [turnB, if_pos h, UInt8.toNat_ofNat', Nat.mod_eq_of_lt (by omega)]
theorem turnB_val {k : Nat} {c : UInt8} (h1 : 97 ≤ c.toNat) (h2 : c.toNat ≤ 122) : bv (turnB k c) = .int .u8 (97 + ((c.toNat : Int) - 97 + k) % 26) := by
  rw [bv, turnB_in ⟨h1, h2⟩]
  congr 1
  omega
theorem turnB_back (k : Int) (c : UInt8) : turnB (turnK (-k)) (turnB (turnK k) c) = c := by
  by_cases h : 97 ≤ c.toNat ∧ c.toNat ≤ 122
  · have h1 := turnB_in (k := turnK k) h
    have h2 : 97 ≤ (turnB (turnK k) c).toNat ∧ (turnB (turnK k) c).toNat ≤ 122 := by omega
    have h3 := turnB_in (k := turnK (-k)) h2
    apply UInt8.toNat_inj.1
    rw [h3, h1]
    have e : (-k).tmod 26 = - (k.tmod 26) := Int.neg_tmod ..
    have hk := tmod26 k
    unfold turnK
    rw [e]
    omega
  · rw [turnB_out h, turnB_out h]
theorem turnL_back (k : Int) (l : List UInt8) : turnL (turnK (-k)) (turnL (turnK k) l) = l := by
  unfold turnL
  rw [List.map_map]
  conv => rhs; rw [← List.map_id l]
  exact List.map_congr_left fun c _ => turnB_back k c

/-- A text of which the first n letters are turned. -/
def turned (k : Nat) (l : List UInt8) (n : Nat) : List UInt8 := (l.take n).map (turnB k) ++ l.drop n
theorem turned_zero (k : Nat) (l : List UInt8) : turned k l 0 = l := by simp [turned]
theorem turned_len (k : Nat) (l : List UInt8) (n : Nat) : (turned k l n).length = l.length := by simp [turned]; omega
theorem turned_all {k : Nat} {l : List UInt8} {n : Nat} (h : l.length ≤ n) : turned k l n = turnL k l := by
  rw [turned, turnL, List.take_of_length_le h, List.drop_of_length_le h, List.append_nil]
theorem turned_at {k : Nat} {l : List UInt8} {n : Nat} (h : n < l.length) : (turned k l n)[n]'(by rw [turned_len]; exact h) = l[n] := by
  simp only [turned]
  rw [List.getElem_append_right (by simp; omega)]
  simp [Nat.min_eq_left (Nat.le_of_lt h)]
theorem turned_succ {k : Nat} {l : List UInt8} {n : Nat} (h : n < l.length) : turned k l (n + 1) = (turned k l n).set n (turnB k l[n]) := by
  simp only [turned]
  rw [List.take_succ_eq_append_getElem h, List.map_append, List.append_assoc, List.set_append_right _ _ (by simp; omega)]
  congr 1
  simp only [List.length_map, List.length_take, Nat.min_eq_left (Nat.le_of_lt h), Nat.sub_self, List.map_cons, List.map_nil, List.cons_append, List.nil_append]
  rw [List.drop_eq_getElem_cons h]
  rfl
theorem turned_same {k : Nat} {l : List UInt8} {n : Nat} (h : n < l.length) (hc : turnB k l[n] = l[n]) : turned k l (n + 1) = turned k l n := by
  rw [turned_succ h, hc]
  have := turned_at (k := k) h
  rw [← this, List.set_getElem_self]
end

section
open Go.RowKit

theorem ret_str {l m : List UInt8} (h : l = m) : Ending.returned (.string ⟨l.toArray⟩) = .returned (.string ⟨m.toArray⟩) := by rw [h]

set_option maxRecDepth 100000 in
set_option maxHeartbeats 1000000 in
theorem Turn_any (w : World) (s : ByteArray) (by_ : Int) (hs : s.size ≤ maxLen) :
    Calls Try.prog 22 #[.string s, .int .i64 by_] w fun e w' => e = .returned (.string ⟨(turnL (turnK by_) s.data.toList).toArray⟩) ∧ Fr NoB w w' := by
  have hm := tmod26 by_
  have hK := turnK_eq by_
  have hlt := turnK_lt by_
  obtain ⟨hm1, hm2⟩ := hm
  have hsm : s.size ≤ 9223372036854775807 := by unfold maxLen at hs; omega
  obtain ⟨l, hl⟩ : ∃ l, l = s.data.toList := ⟨_, rfl⟩
  have hll : l.length = s.size := by rw [hl]; rfl
  have Hll := Lib.hid hll
  clear hll
  generalize turnK by_ = K at *
  rw [← hl]
  go_enter Try.func22, Try.ntmps22
  go_wp2
  go_step3
  go_wp2_with (refine wpList_str rfl 9 22 5 (.tmp 9) rfl Try.underlying9 Try.underlying22 Try.underlying5 s rfl hs ?_; intro g c w1 hg hR hF hc1 hc2)
  go_step3
  go_wp2
  rw [← hl] at hR
  have Hl := Lib.hid hl
  clear hl
  rw [hK]
  clear hK
  obtain ⟨w0, rfl⟩ : ∃ w0 : World, w0 = w1 := ⟨_, rfl⟩
  go_loopw [17] (fun i wr => ∃ k : Nat, k ≤ s.size ∧ i = .int .i64 k ∧ StrRow wr g 5 (turned K l k) ∧ Fr NoB w wr) (fun i _ => s.size - (intOf i).toNat)
  case atStart => exact ⟨0, by omega, rfl, by rw [turned_zero]; exact hR, hF⟩
  case round =>
    obtain ⟨k, hk, rfl, hRk, hFk⟩ := hrel
    obtain ⟨w2, rfl⟩ : ∃ w2 : World, w2 = wr := ⟨_, rfl⟩
    by_cases hkn : k < s.size
    · have hkl : k < l.length := by rw [Hll.out]; exact hkn
      have hkt : k < (turned K l k).length := by rw [turned_len]; exact hkl
      have hcell := hRk.get hkt
      have hfz := hRk.frozen hkt
      rw [turned_at hkl, bv] at hcell
      have hy : l[k].toNat < 256 := UInt8.toNat_lt _
      by_cases hin : 97 ≤ l[k].toNat ∧ l[k].toNat ≤ 122
      · obtain ⟨h1, h2⟩ := hin
        have Hset := Lib.hid (hRk.set_ (j := k) (turnB K l[k]))
        have Hval := Lib.hid (turnB_val (k := K) h1 h2)
        have Hsucc := Lib.hid (turned_succ (k := K) hkl)
        generalize l[k] = x at *
        generalize hyx : x.toNat = y at *
        have Hyx := Lib.hid hyx
        clear hyx
        go_wp2
        go_roundw
        case rel => exact ⟨k + 1, by omega, by go_num, by rw [Hsucc.out]; have := Hset.out; rw [Hval.out] at this; exact this, hFk.set_ (.inr hg) _ _⟩
        case measure => simp [intOf]; omega
      · have Hsame := Lib.hid (turned_same (k := K) hkl (turnB_out hin))
        have hor : l[k].toNat < 97 ∨ (97 ≤ l[k].toNat ∧ 122 < l[k].toNat) := by omega
        clear hin
        generalize l[k] = x at *
        generalize hyx : x.toNat = y at *
        have Hyx := Lib.hid hyx
        clear hyx
        rcases hor with h1 | ⟨h1, h2⟩
        all_goals
          go_wp2
          go_roundw
          case rel => exact ⟨k + 1, by omega, by go_num, by rw [Hsame.out]; exact hRk, hFk⟩
          case measure => simp [intOf]; omega
    · have hke : k = s.size := by omega
      have hT : turned K l k = turnL K l := turned_all (by rw [Hll.out]; omega)
      rw [hT] at hRk
      have hb := hRk.byt (F := fun _ => True) trivial
      have hcv := hb.str (P := Try.prog) Try.underlying22 Try.underlying5 Try.underlying9 c
      rw [turnL_len, Hll.out] at hcv
      subst hke
      clear hT
      go_wp2
      rw [Exit.noGoto_ret]
      go_ret
      exact ⟨rfl, hFk⟩

theorem awake31_eq : turnL (turnK 1) [97, 122, 46, 90] = [98, 97, 46, 90] := by decide

set_option maxHeartbeats 400000 in
theorem awake31 (w : World) : Calls Try.prog 18 #[] w fun e w' => e = .returned (.bool true) ∧ Fr NoB w w' := by
  have H := Lib.hid (Turn_any w ⟨#[97, 122, 46, 90]⟩ 1 (by decide))
  rw [show turnL (turnK 1) (⟨#[97, 122, 46, 90]⟩ : ByteArray).data.toList = [98, 97, 46, 90] from awake31_eq] at H
  go_enter Try.func18, Try.ntmps18
  go_wp2_with (go_at_call 22; refine H.out.mono ?_; rintro e w1 ⟨rfl, hf1⟩)
  go_ret
  exact ⟨rfl, hf1⟩

set_option maxRecDepth 100000 in
set_option maxHeartbeats 1000000 in
theorem refTurn_any (w : World) (s : ByteArray) (by_ : Int) (hs : s.size ≤ 70368744177664) :
    Calls Try.prog 21 #[.string s, .int .i64 by_] w fun e w' => e = .returned (.string ⟨(turnL (turnK by_) s.data.toList).toArray⟩) ∧ Fr NoB w w' := by
  have hm := tmod26 by_
  have hK1 := turnK_neg by_
  have hK2 := turnK_pos by_
  have hlt := turnK_lt by_
  obtain ⟨hm1, hm2⟩ := hm
  have hsm : s.size ≤ maxLen := by unfold maxLen; omega
  obtain ⟨l, hl⟩ : ∃ l, l = s.data.toList := ⟨_, rfl⟩
  have hll : l.length = s.size := by rw [hl]; rfl
  have Hll := Lib.hid hll
  clear hll
  generalize turnK by_ = K at *
  rw [← hl]
  go_enter Try.func21, Try.ntmps21
  go_upto_if 12 with (fail)
  go_cut [5] from 9 to 42 (fun p W => p = .int .i64 K ∧ W = w)
  case first =>
    by_cases hneg : by_.tmod 26 < 0
    · have hK := hK1 hneg
      go_wp2
      go_meet
      case rel => exact ⟨rfl, rfl⟩
    · have hpos : 0 ≤ by_.tmod 26 := by omega
      have hK := hK2 hpos
      go_wp2
      go_meet
      case rel => exact ⟨rfl, rfl⟩
  case rest =>
    obtain ⟨rfl, rfl⟩ := hcut
    clear hK1 hK2 hm1 hm2
    go_wp2_with (refine wpList_str rfl 9 22 5 (.tmp 15) rfl Try.underlying9 Try.underlying22 Try.underlying5 s rfl hsm ?_; intro g c w1 hg hR hF hc1 hc2)
    rw [← hl] at hR
    have Hl := Lib.hid hl
    clear hl
    obtain ⟨w0, rfl⟩ : ∃ w0 : World, w0 = w1 := ⟨_, rfl⟩
    have hgl := hR.lt
    go_loopw [6, 18] (fun o i wr => ∃ (k co : Nat) (A : Option Addr), k ≤ s.size ∧ i = .int .i64 k ∧ o = .slice A k co ∧ Own wr 5 1 A k co ((turnL K (l.take k)).map bv) ∧ (∀ j, inB A j → w0.heap.size ≤ j) ∧ Fr NoB w0 wr) (fun _ i _ => s.size - (intOf i).toNat)
    case atStart => exact ⟨0, 0, none, by omega, rfl, rfl, Own.nil _ _ _, fun j hj => absurd hj (inB_none j), Fr.refl _ _⟩
    case round =>
      obtain ⟨k, co, A, hk, rfl, rfl, hO, hA, hFk⟩ := hrel
      obtain ⟨w2, rfl⟩ : ∃ w2 : World, w2 = wr := ⟨_, rfl⟩
      have hR2 := hR.fr hFk id
      have s2 := hFk.size
      by_cases hkn : k < s.size
      · have hkl : k < l.length := by rw [Hll.out]; exact hkn
        have hcell := hR2.get hkl
        rw [bv] at hcell
        have hy : l[k].toNat < 256 := UInt8.toNat_lt _
        have Htake : Hid (turnL K (l.take (k + 1)) = turnL K (l.take k) ++ [turnB K l[k]]) := by
          show _ = _
          rw [List.take_succ_eq_append_getElem hkl, turnL, List.map_append]; rfl
        have hrel : ∀ (v : Value), v = bv (turnB K l[k]) → ∀ (A' : Option Addr) (c' : Nat) (w' : World), Own w' 5 1 A' (k + 1) c' ((turnL K (l.take k)).map bv ++ [v]) → Own w' 5 1 A' (k + 1) c' ((turnL K (l.take (k + 1))).map bv) := by
          rintro v rfl A' c' w' h
          rw [Htake.out, List.map_append]; exact h
        have Hrel := Lib.hid hrel
        clear hrel
        by_cases hin : 97 ≤ l[k].toNat ∧ l[k].toNat ≤ 122
        · obtain ⟨h1, h2⟩ := hin
          have Hval := Lib.hid (turnB_val (k := K) h1 h2)
          generalize l[k] = x at *
          generalize hyx : x.toNat = y at *
          have Hyx := Lib.hid hyx
          clear hyx
          go_wp2_with (at_builtin; refine wpList_app _ el_u8w rfl (.tmp 36) (.tmp 38) rfl A k co _ rfl (hO.alloc _) _ _ 1 1 _ rfl (Arr.one _ _ _) (by simp [Value.oneCell']) (by omega) ?_; intro A3 c3 w3 hown3 hf3 hin3 hnil3)
          go_roundw
          case rel => exact ⟨k + 1, c3, A3, by omega, by go_num, rfl, Hrel.out _ Hval.out.symm _ _ _ hown3, fun j hj => (hin3 j hj).elim (hA j) (fun h => by simp at h; omega), (hFk.alloc _).new hf3 fun j hj => .inr (hA j hj)⟩
          case measure => simp [intOf]; omega
        · have Hout := Lib.hid (turnB_out (k := K) hin)
          have hor : l[k].toNat < 97 ∨ (97 ≤ l[k].toNat ∧ 122 < l[k].toNat) := by omega
          clear hin
          have Hbv := Lib.hid (bv_eq l[k])
          generalize l[k] = x at *
          generalize hyx : x.toNat = y at *
          have Hyx := Lib.hid hyx
          clear hyx
          rcases hor with h1 | ⟨h1, h2⟩
          all_goals
            go_wp2_with (at_builtin; refine wpList_app _ el_u8w rfl (.tmp 36) (.tmp 38) rfl A k co _ rfl (hO.alloc _) _ _ 1 1 _ rfl (Arr.one _ _ _) (by simp [Value.oneCell']) (by omega) ?_; intro A3 c3 w3 hown3 hf3 hin3 hnil3)
            go_roundw
            case rel => exact ⟨k + 1, c3, A3, by omega, by go_num, rfl, Hrel.out _ (by rw [Hout.out, Hbv.out]) _ _ _ hown3, fun j hj => (hin3 j hj).elim (hA j) (fun h => by simp at h; omega), (hFk.alloc _).new hf3 fun j hj => .inr (hA j hj)⟩
            case measure => simp [intOf]; omega
      · have hke : k = s.size := by omega
        rw [List.take_of_length_le (by rw [Hll.out]; omega)] at hO
        have hb : Byt w2 (fun _ => True) A k (turnL K l) := hO.arr fun _ _ _ => trivial
        have hcv := hb.str (P := Try.prog) Try.underlying22 Try.underlying5 Try.underlying9 co
        clear hke
        go_wp2
        go_ret
        exact ⟨rfl, hF.trans hFk fun _ _ => id⟩
end
end Go.Proofs.Ytnkfchondedfcaa
