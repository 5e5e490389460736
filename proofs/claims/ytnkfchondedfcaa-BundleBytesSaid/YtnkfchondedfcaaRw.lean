/-
  What the reference writes (tabulariumref08): N, Text, Ids. Conditions: each contract states its own.
-/
import Derived.Test.YtnkfchondedfcaaCy
namespace Go.Proofs.Ytnkfchondedfcaa
open Go.RowKit

theorem ret_slice {A : Option Addr} {n m c : Nat} (h : n = m) : Ending.returned (.slice A n c) = .returned (.slice A m c) := by rw [h]

/-- New bytes are handed back; nothing that was there has turned. -/
def NewBytes (w w' : World) (e : Ending) (l : List UInt8) : Prop :=
  ∃ A c, e = .returned (.slice A l.length c) ∧ Fr NoB w w' ∧ Own w' 5 1 A l.length c (l.map bv) ∧ ∀ k, inB A k → w.heap.size ≤ k

set_option maxRecDepth 100000 in
set_option maxHeartbeats 1000000 in
theorem refN_any (w : World) (G : Nat → Prop) (A : Option Addr) (m c n : Nat) (l : List UInt8) (hr : Byt w G A m l) (hn : n < 18446744073709551616) (hroom : m + 10 ≤ 70368744177664) :
    Calls Try.prog 83 #[.slice A m c, .int .u64 n] w fun e w' => NewBytes w w' e (l ++ encN n) := by
  have hlm := hr.len
  go_enter Try.func83, Try.ntmps83
  go_wp2_with (at_builtin; refine wpList_app _ el_u8w rfl (.const (.slice none 0 0)) (.tmp 6) rfl none 0 0 [] rfl (Own.nil _ _ _) _ _ _ _ _ rfl hr (bv_one l) (by omega) ?_; intro A1 c1 w1 hown1 hf1 hin1 hnil1)
  obtain ⟨w0, rfl⟩ : ∃ w0 : World, w0 = w1 := ⟨_, rfl⟩
  have hl10 := encN_len64 hn
  have Hlm := Lib.hid hlm
  clear hlm
  go_loopw [1, 5] (fun v s wi => ∃ (cur p cp : Nat) (P : Option Addr) (done : List UInt8), v = .int .u64 cur ∧ cur ≤ n ∧ done ++ encN cur = encN n ∧ s = .slice P p cp ∧ p = (l ++ done).length ∧ Own wi 5 1 P p cp ((l ++ done).map bv) ∧ (∀ k, inB P k → w.heap.size ≤ k) ∧ Fr NoB w wi) (fun v _ _ => (intOf v).toNat)
  case atStart => exact ⟨n, _, _, _, [], rfl, Nat.le_refl _, rfl, rfl, by simp [Hlm.out], by simpa using hown1, fun k hk => (hin1 k hk).elim (fun h => absurd h (inB_none k)) (fun h => by omega), hf1.mono fun k _ hk => inB_none k hk⟩
  case round =>
    obtain ⟨cur, p, cp, P, done, rfl, hcur, hdone, rfl, hp, hO, hP, hF⟩ := hrel
    obtain ⟨w2, rfl⟩ : ∃ w2 : World, w2 = wr := ⟨_, rfl⟩
    have Hdone := Lib.hid hdone
    have Hp := Lib.hid hp
    have hpl : p + (encN cur).length ≤ m + 10 := by
      have := congrArg List.length hdone
      rw [List.length_append] at this
      rw [hp, List.length_append, Hlm.out]
      omega
    have hp1 : p + 1 ≤ 70368744177664 := by have := encN_len_pos cur; omega
    clear hdone hp hpl
    have hor : bits .or .u8 ((cur : Int) % 256) 128 = (cur : Int) % 128 + 128 := by
      have h1 := u8_or_nat (cur % 256) 128 (by omega) (by omega)
      rw [byte_or] at h1
      simpa using h1
    have hs := hF.size
    by_cases h128 : 128 ≤ cur
    · have Hnew : Hid ([Value.int .u8 ((cur : Int) % 128 + 128)] = [UInt8.ofNat (cur % 128 + 128)].map bv) := by
        show _ = _
        simp only [List.map_cons, List.map_nil, bv]
        rw [ofNat_toNat_lt (by omega)]
        simp
      have Henc := Lib.hid (encN_great (n := cur) (by omega))
      go_wp2_with (at_builtin; refine wpList_app _ el_u8w rfl (.tmp 10) (.tmp 14) rfl P p cp _ rfl (hO.alloc _) _ _ 1 1 _ rfl (Arr.one _ _ _) (by simp [Value.oneCell']) (by omega) ?_; intro A3 c3 w3 hown3 hf3 hin3 hnil3; rw [Hnew.out] at hown3)
      go_roundw
      case rel =>
        exact ⟨cur / 128, p + 1, c3, A3, done ++ [UInt8.ofNat (cur % 128 + 128)], by go_num, by omega, by rw [← Hdone.out, Henc.out]; simp, rfl, by rw [Hp.out]; simp; omega, by rw [← List.append_assoc, List.map_append]; exact hown3,
          fun k hk => (hin3 k hk).elim (hP k) (fun h => by simp at h; omega), (hF.alloc _).new hf3 fun k hk => .inr (hP k hk)⟩
      case measure => simp [intOf]; omega
    · have Hnew : Hid ([Value.int .u8 (cur : Int)] = [UInt8.ofNat cur].map bv) := by
        show _ = _
        simp only [List.map_cons, List.map_nil, bv]
        rw [ofNat_toNat_lt (by omega)]
      have Henc := Lib.hid (encN_small (n := cur) (by omega))
      go_wp2_with (at_builtin; refine wpList_app _ el_u8w rfl (.tmp 18) (.tmp 21) rfl P p cp _ rfl (hO.alloc _) _ _ 1 1 _ rfl (Arr.one _ _ _) (by simp [Value.oneCell']) (by omega) ?_; intro A3 c3 w3 hown3 hf3 hin3 hnil3; rw [Hnew.out] at hown3)
      go_ret
      have e : l ++ encN n = l ++ done ++ [UInt8.ofNat cur] := by rw [← Hdone.out, Henc.out, List.append_assoc]
      have e2 : (l ++ encN n).length = p + 1 := by rw [e, List.length_append, ← Hp.out]; rfl
      exact ⟨A3, c3, ret_slice e2.symm, (hF.alloc _).new hf3 fun k hk => .inr (hP k hk), by rw [e2, e, List.map_append]; exact hown3, fun k hk => (hin3 k hk).elim (hP k) (fun h => by simp at h; omega)⟩

set_option maxHeartbeats 400000 in
theorem refText_any (w : World) (G G2 : Nat → Prop) (A B : Option Addr) (m c p d : Nat) (l t : List UInt8) (hr : Byt w G A m l) (ht : Byt w G2 B p t) (hroom : m + p + 10 ≤ 70368744177664) :
    Calls Try.prog 84 #[.slice A m c, .slice B p d] w fun e w' => NewBytes w w' e (l ++ textBytes t) := by
  have hlm := hr.len
  have htl := ht.len
  subst htl
  go_enter Try.func84, Try.ntmps84
  go_wp2_with fail
  refine (refN_any _ _ _ _ _ _ _ hr (by omega) (by omega)).mono ?_
  rintro e w1 ⟨A1, c1, rfl, hf1, hO1, hA1⟩
  have ht1 := ht.fr hf1 fun _ _ => id
  have hl1 : (l ++ encN t.length).length + t.length ≤ 140737488355328 := by have := encN_len64 (n := t.length) (by omega); rw [List.length_append]; omega
  have e : l ++ textBytes t = l ++ encN t.length ++ t := by simp [textBytes]
  have e2 : (l ++ textBytes t).length = (l ++ encN t.length).length + t.length := by rw [e, List.length_append]
  have E := Lib.hid e
  have E2 := Lib.hid e2
  clear e e2 hlm
  generalize l ++ encN t.length = l1 at *
  go_wp2_with (at_builtin; refine wpList_app _ el_u8w rfl (.tmp 9) (.tmp 10) rfl A1 _ c1 _ rfl hO1 _ _ _ _ _ rfl ht1 (bv_one t) (by omega) ?_; intro A3 c3 w3 hown3 hf3 hin3 hnil3)
  go_ret
  have s1 := hf1.size
  exact ⟨A3, c3, ret_slice E2.out.symm, hf1.new hf3 fun k hk => .inr (hA1 k hk), by rw [E2.out, E.out, List.map_append]; exact hown3, fun k hk => (hin3 k hk).elim (hA1 k) (fun h => by omega)⟩

set_option maxRecDepth 100000 in
set_option maxHeartbeats 1000000 in
theorem refIds_any (w : World) (G G2 : Nat → Prop) (A B : Option Addr) (m c p d : Nat) (l : List UInt8) (ids : List Id32) (hr : Byt w G A m l) (hi : ArrOf IdR w G2 32 B p ids) (hroom : m + 32 * p + 10 ≤ 70368744177664) :
    Calls Try.prog 85 #[.slice A m c, .slice B p d] w fun e w' => NewBytes w w' e (l ++ idsBytes ids) := by
  have hlm := hr.len
  have hip := hi.len
  have Hip := Lib.hid hip
  clear hip
  go_enter Try.func85, Try.ntmps85
  go_wp2_with fail
  refine (refN_any _ _ _ _ _ _ _ hr (by omega) (by omega)).mono ?_
  rintro e w1 ⟨A1, c1, rfl, hf1, hO1, hA1⟩
  have hi1 := hi.fr hf1 (fun _ _ => id) (R' := IdR) fun y a _ hy => hy
  have hl1 : (l ++ encN p).length ≤ m + 10 := by have := encN_len64 (n := p) (by omega); rw [List.length_append]; omega
  obtain ⟨l0, hl0⟩ : ∃ l0, l ++ encN p = l0 := ⟨_, rfl⟩
  rw [hl0] at hO1 hl1
  rw [hl0]
  have Hl0 := Lib.hid hl0
  clear hl0 hlm
  go_wp2
  obtain ⟨w0, rfl⟩ : ∃ w0 : World, w0 = w1 := ⟨_, rfl⟩
  go_loopw [5, 15] (fun s i wr => ∃ (k n3 c3 : Nat) (A3 : Option Addr), k ≤ p ∧ i = .int .i64 k ∧ s = .slice A3 n3 c3 ∧ n3 = (l0 ++ idsFlat (ids.take k)).length ∧ n3 ≤ m + 10 + 32 * k ∧ Own wr 5 1 A3 n3 c3 ((l0 ++ idsFlat (ids.take k)).map bv) ∧ (∀ j, inB A3 j → w.heap.size ≤ j) ∧ Fr (fun j => w.heap.size ≤ j) w0 wr) (fun _ i _ => p - (intOf i).toNat)
  case atStart => exact ⟨0, _, _, _, by omega, rfl, rfl, by simp [idsFlat], by omega, by simpa [idsFlat] using hO1, hA1, Fr.refl _ _⟩
  case round =>
    obtain ⟨k, n3, c3, A3, hk, rfl, rfl, hn3, hn3', hO3, hA3, hF0⟩ := hrel
    obtain ⟨w2, rfl⟩ : ∃ w2 : World, w2 = wr := ⟨_, rfl⟩
    have Hn3 := Lib.hid hn3
    clear hn3
    have s1 := hf1.size
    have s0 := hF0.size
    by_cases hkm : k < p
    · have hrw := (((hi.more (by omega) (F' := fun j => j < w.heap.size) (R' := IdR) (fun j hj _ => hj) fun y a _ hy => hy).fr hf1 (fun _ _ => id) (R' := IdR) fun y a _ hy => hy)).fr hF0 (fun j hj h => by omega) (R' := IdR) fun y a _ hy => hy
      obtain ⟨bb, o, t, y, rfl, hGb, ht, hy, hyr, hcell⟩ := hrw.at_ hkm
      have hkl : k < ids.length := by rw [Hip.out]; exact hkm
      have hyt : y = t.1.map bv := hyr
      have Htake : Hid (l0 ++ idsFlat (ids.take (k + 1)) = l0 ++ idsFlat (ids.take k) ++ t.1) := by
        show _ = _
        rw [List.take_succ_eq_append_getElem hkl, idsFlat, List.flatMap_append]
        rw [List.getElem?_eq_getElem hkl] at ht
        injection ht with ht
        rw [ht]; simp [idsFlat]
      generalize l0 ++ idsFlat (ids.take k) = l1 at *
      have hys : y.toArray.size = 32 := by simpa using hy
      have hy1 : y.toArray.all (·.oneCell') = true := by
        rw [Array.all_eq_true_iff_forall_mem]
        intro v hv
        exact bv_one t.1 v (by rw [← hyt]; simpa using hv)
      have hb : Byt (w2.alloc (.cells y.toArray 74)) (fun k => k = w2.heap.size) (some ⟨w2.heap.size, 0, none⟩) 32 t.1 := by
        have := Byt.new w2 74 t.1 y.toArray (by simpa using hyt)
        rwa [t.2] at this
      have Hys := Lib.hid hys
      have Hy1 := Lib.hid hy1
      have Hy := Lib.hid hy
      have Hb := Lib.hid hb
      clear hyt hys hy1 hyr ht hrw hy hb
      go_wp2_with (first
        | (refine wpList_load_agg rfl 74 (.tmp 17) rfl bb (o + k * 32) rfl y _ hcell Try.underlying74 rfl (by rw [Hy.out]; exact id_size) ?_)
        | (refine wpList_alloc_any rfl 74 rfl 32 id_zero ?_; intro z hz; have Hz := Lib.hid hz; clear hz)
        | (refine wpList_store_new rfl 74 (.tmp 7) (.tmp 18) rfl _ z y.toArray rfl rfl (by rw [Hys.out]; exact id_size) (by rw [Hys.out, Hz.out]) Hy1.out ?_)
        | (at_builtin; refine wpList_app _ el_u8w rfl (.tmp 19) (.tmp 20) rfl A3 n3 c3 _ rfl (hO3.alloc _) _ _ 32 32 _ rfl Hb.out (bv_one t.1) (by omega) ?_; intro A4 c4 w4 hown4 hf4 hin4 hnil4))
      have s4 := hf4.size
      go_roundw
      case rel =>
        refine ⟨k + 1, n3 + 32, c4, A4, by omega, by go_num, rfl, ?_, by omega, ?_, fun j hj => (hin4 j hj).elim (hA3 j) (fun h => by simp at h; omega), (hF0.alloc _).new hf4 fun j hj => .inl (hA3 j hj)⟩
        · rw [Htake.out, List.length_append, ← Hn3.out, t.2]
        · rw [Htake.out, List.map_append]; exact hown4
      case measure => simp [intOf]; omega
    · have hke : k = p := by omega
      subst hke
      have ht : ids.take k = ids := List.take_of_length_le (by rw [Hip.out]; exact Nat.le_refl _)
      rw [ht] at hO3
      have hn := Hn3.out
      rw [ht] at hn
      have Hn := Lib.hid hn
      clear hn ht
      go_wp2
      go_ret
      have e : l ++ idsBytes ids = l0 ++ idsFlat ids := by rw [idsBytes, Hip.out, ← List.append_assoc, Hl0.out]
      rw [NewBytes, e, ← Hn.out]
      exact ⟨A3, c3, rfl, hf1.new hF0 fun j hj => .inr hj, hO3, hA3⟩

end Go.Proofs.Ytnkfchondedfcaa
