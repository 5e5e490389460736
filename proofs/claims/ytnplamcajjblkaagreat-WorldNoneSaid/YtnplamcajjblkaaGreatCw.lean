/-
  What a writer of bytes does (codec.Writer): N, Raw, Text, Ids, Bytes. Conditions: each contract states its own (where the writer lies; that what is written fits).
-/
import Derived.Test.YtnplamcajjblkaaGreatRows
import Derived.Test.YtnplamcajjblkaaGreatWd
import Derived.Test.YtnplamcajjblkaaGreatCp
import Derived.Deep.QuietTactic
import Derived.BigQuiet
import Derived.Outline
import Derived.Deep.RegionWith
namespace Go.Proofs.YtnplamcajjblkaaGreat
open Go.RowKit

theorem el_u8w : ElemOk Tryz.prog 28 5 (.int .u8 0) 1 1 := .mk Tryz.underlying28 (by kernel_rfl) rfl (by omega) (by omega)

/-- A writer in block b, with its bytes so far. -/
def WrAt (w : World) (F : Nat → Prop) (b : Nat) (l : List UInt8) : Prop :=
  F b ∧ ∃ A n c, Blk w b 334 #[.slice A n c] ∧ Own w 5 1 A n c (l.map bv) ∧ ∀ k, inB A k → F k

theorem WrAt.more {w : World} {F G : Nat → Prop} {b : Nat} {l : List UInt8} (h : WrAt w F b l) (hs : ∀ k, F k → G k) : WrAt w G b l := by
  obtain ⟨h1, A, n, c, h2, h3, h4⟩ := h
  exact ⟨hs _ h1, A, n, c, h2, h3, fun k hk => hs _ (h4 k hk)⟩

theorem WrAt.fr {w w' : World} {F S : Nat → Prop} {b : Nat} {l : List UInt8} (h : WrAt w F b l) (hf : Fr S w w') (hd : ∀ k, k < w.heap.size → F k → ¬ S k) : WrAt w' F b l := by
  obtain ⟨h1, A, n, c, h2, h3, h4⟩ := h
  exact ⟨h1, A, n, c, h2.fr hf (hd _ h2.lt h1), h3.fr hf fun k hk => hd _ (h3.lt hk) (h4 k hk), h4⟩

theorem WrAt.new (w : World) : WrAt (w.alloc (.cells #[.slice none 0 0] 334)) (fun k => k = w.heap.size) w.heap.size [] :=
  ⟨rfl, none, 0, 0, Blk.new _ _ _, Own.nil _ _ _, fun k hk => absurd hk (inB_none k)⟩

def u64v (n : Nat) : Value := .int .u64 (n : Int)

/-- Behind an append of some bytes that lie in w, and the store into the writer. -/
theorem wr_step {w w1 : World} {F : Nat → Prop} {b : Nat} {l news : List UInt8} {A A1 : Option Addr} {n c c1 m : Nat}
    (hF : F b) (hB : Blk w b 334 #[.slice A n c]) (hO : Own w 5 1 A n c (l.map bv)) (hA : ∀ k, inB A k → F k)
    (hown1 : Own w1 5 1 A1 m c1 (l.map bv ++ news.map bv)) (hf1 : Fr (inB A) w w1) (hin1 : ∀ k, inB A1 k → inB A k ∨ w.heap.size ≤ k) :
    Fr F w (w1.setCell ⟨b, 0, none⟩ (.slice A1 m c1)) ∧ WrAt (w1.setCell ⟨b, 0, none⟩ (.slice A1 m c1)) (fun k => F k ∨ w.heap.size ≤ k) b (l ++ news) := by
  have hb1 : ¬ inB A b := hO.ne_blk hB (by decide)
  have hn : ¬ inB A1 b := fun h => by
    rcases hin1 b h with h | h
    · exact hb1 h
    · have := hB.lt; omega
  refine ⟨(hf1.mono fun k _ hk => hA k hk).set_ (.inl hF) _ _, .inl hF, A1, m, c1, by simpa using (hB.fr hf1 hb1).set_ 0 _, ?_, fun k hk => ?_⟩
  · rw [List.map_append]; exact hown1.set_ hn _ _
  · rcases hin1 k hk with h | h
    · exact .inl (hA k h)
    · exact .inr h

set_option maxRecDepth 100000 in
set_option maxHeartbeats 1000000 in
theorem WN_any (w : World) (F G : Nat → Prop) (b : Nat) (l : List UInt8) (A : Option Addr) (m c : Nat) (ns : List Nat) (h : WrAt w F b l) (hr : Arr w G 1 A m (ns.map u64v)) (hd : ∀ k, F k → ¬ G k) (hns : ∀ x ∈ ns, x < 18446744073709551616)
    (hroom : l.length + 10 * m ≤ 70368744177664) :
    Calls Tryz.prog 179 #[.pointer (some ⟨b, 0, none⟩), .slice A m c] w fun e w' => e = .returned (.tuple #[]) ∧ Fr F w w' ∧ WrAt w' (fun k => F k ∨ w.heap.size ≤ k) b (l ++ ns.flatMap encN) := by
  have hm : ns.length = m := by have := hr.1; simpa using this
  have Hm := Lib.hid hm
  clear hm
  go_enter Tryz.func179, Tryz.ntmps179
  go_wp2
  obtain ⟨w0, rfl⟩ : ∃ w0 : World, w0 = w := ⟨_, rfl⟩
  have hmb : m ≤ 7036874417766 := by omega
  go_loopw [10] (fun i wr => ∃ k : Nat, k ≤ m ∧ i = .int .i64 k ∧ WrAt wr (fun j => F j ∨ w0.heap.size ≤ j) b (l ++ (ns.take k).flatMap encN) ∧ Fr F w0 wr ∧ (l ++ (ns.take k).flatMap encN).length ≤ l.length + 10 * k) (fun i _ => m - (intOf i).toNat)
  case atStart => exact ⟨0, by omega, rfl, by simpa using h.more fun _ => .inl, Fr.refl _ _, by simp⟩
  case round =>
    obtain ⟨k, hk, rfl, hW, hF0, hlen⟩ := hrel
    obtain ⟨w1, rfl⟩ : ∃ w1 : World, w1 = wr := ⟨_, rfl⟩
    by_cases hkm : k < m
    · have hrw : Arr w1 G 1 A m (ns.map u64v) := (hr.fr hF0 fun k hG hF => hd k hF hG)
      obtain ⟨bb, o, u, rfl, hGb, hu, hcell⟩ := hrw.at1 hkm
      have hkl : k < ns.length := by rw [Hm.out]; exact hkm
      have hu' : u = .int .u64 (ns[k] : Int) := by
        rw [List.getElem?_map, List.getElem?_eq_getElem hkl] at hu
        simpa [u64v] using hu.symm
      have hn0 : ns[k] < 18446744073709551616 := hns _ (List.getElem_mem _)
      have Htake : Hid (l ++ (ns.take (k + 1)).flatMap encN = l ++ (ns.take k).flatMap encN ++ encN ns[k]) := by
        show _ = _
        rw [List.take_succ_eq_append_getElem hkl, List.flatMap_append]; simp
      subst hu'
      generalize ns[k] = n0 at *
      generalize l ++ (ns.take k).flatMap encN = l1 at *
      clear hu hrw
      have hl10 := encN_len64 hn0
      go_wp2
      go_loopw [5] (fun v wi => ∃ (cur : Nat) (done : List UInt8), v = .int .u64 cur ∧ cur ≤ n0 ∧ done ++ encN cur = encN n0 ∧ WrAt wi (fun j => F j ∨ w0.heap.size ≤ j) b (l1 ++ done) ∧ Fr F w0 wi) (fun v _ => (intOf v).toNat)
      case atStart => exact ⟨n0, [], rfl, Nat.le_refl _, rfl, by simpa using hW, hF0⟩
      case round =>
        rename_i wi _ _ _ _ _ _
        obtain ⟨cur, done, rfl, hcur, hdone, hWi, hFi⟩ := hrel
        obtain ⟨w2, rfl⟩ : ∃ w2 : World, w2 = wr := ⟨_, rfl⟩
        have Hdone := Lib.hid hdone
        clear hdone
        obtain ⟨hFb, A2, n2, c2, hB2, hO2, hA2⟩ := hWi
        have hc2 := hB2.cell 0
        simp at hc2
        have hfc2 := hB2.frozen 0
        have hlen2 : n2 = (l1 ++ done).length := by have := hO2.len; simpa using this.symm
        have hdl : (l1 ++ done).length + (encN cur).length ≤ l.length + 10 * k + 10 := by
          have := congrArg List.length Hdone.out
          rw [List.length_append] at this
          rw [List.length_append]
          omega
        have hn2 : n2 + 1 ≤ 70368744177664 := by have := encN_len_pos cur; omega
        clear hlen2 hdl
        have hor : bits .or .u8 ((cur : Int) % 256) 128 = (cur : Int) % 128 + 128 := by
          have h1 := u8_or_nat (cur % 256) 128 (by omega) (by omega)
          rw [byte_or] at h1
          simpa using h1
        by_cases h128 : 128 ≤ cur
        · have Hnew : Hid ([Value.int .u8 ((cur : Int) % 128 + 128)] = [UInt8.ofNat (cur % 128 + 128)].map bv) := by
            show _ = _
            simp only [List.map_cons, List.map_nil, bv]
            rw [ofNat_toNat_lt (by omega)]
            simp
          have Henc := Lib.hid (encN_great (n := cur) (by omega))
          go_wp2_with (at_builtin; refine wpList_app _ el_u8w rfl (.tmp 22) (.tmp 26) rfl A2 n2 c2 _ rfl (hO2.alloc _) _ _ 1 1 _ rfl (Arr.one _ _ _) (by simp [Value.oneCell']) (by omega) ?_; intro A3 c3 w3 hown3 hf3 hin3 hnil3; rw [Hnew.out] at hown3; have hc3 := hf3.cell' (p := ⟨b, 0, none⟩) (hB2.alloc _).cell_0 (hO2.ne_blk hB2 (by decide)); have hfz3 := ((hB2.alloc _).fr hf3 (hO2.ne_blk hB2 (by decide))).frozen 0)
          go_roundw
          case rel =>
            obtain ⟨hs1, hs2⟩ := wr_step (F := fun j => F j ∨ w0.heap.size ≤ j) hFb (hB2.alloc _) (hO2.alloc _) hA2 hown3 hf3 (fun k hk => (hin3 k hk).imp id (fun h => by simp at h ⊢; omega))
            exact ⟨cur / 128, done ++ [UInt8.ofNat (cur % 128 + 128)], by go_num, by omega, by rw [← Hdone.out, Henc.out]; simp, by
              rw [← List.append_assoc]
              exact hs2.more fun j hj => hj.elim id fun h => .inr (by have := hFi.size; simp at h; omega), hFi.trans (((Fr.refl (fun j => F j ∨ w0.heap.size ≤ j) _).alloc _).trans hs1 fun _ _ h => h) fun j hj hjs => hjs.elim id fun h => by omega⟩
          case measure => simp [intOf]; omega
        · have Hnew : Hid ([Value.int .u8 (cur : Int)] = [UInt8.ofNat cur].map bv) := by
            show _ = _
            simp only [List.map_cons, List.map_nil, bv]
            rw [ofNat_toNat_lt (by omega)]
          have Henc := Lib.hid (encN_small (n := cur) (by omega))
          go_wp2_with (at_builtin; refine wpList_app _ el_u8w rfl (.tmp 34) (.tmp 37) rfl A2 n2 c2 _ rfl (hO2.alloc _) _ _ 1 1 _ rfl (Arr.one _ _ _) (by simp [Value.oneCell']) (by omega) ?_; intro A3 c3 w3 hown3 hf3 hin3 hnil3; have hc3 := hf3.cell' (p := ⟨b, 0, none⟩) (hB2.alloc _).cell_0 (hO2.ne_blk hB2 (by decide)); have hfz3 := ((hB2.alloc _).fr hf3 (hO2.ne_blk hB2 (by decide))).frozen 0)
          rw [Hnew.out] at hown3
          obtain ⟨hs1, hs2⟩ := wr_step (F := fun j => F j ∨ w0.heap.size ≤ j) hFb (hB2.alloc _) (hO2.alloc _) hA2 hown3 hf3 (fun k hk => (hin3 k hk).imp id (fun h => by simp at h ⊢; omega))
          go_roundw
          case rel =>
            exact ⟨k + 1, by omega, by go_num, by
              rw [Htake.out, ← Hdone.out, Henc.out, ← List.append_assoc]
              exact hs2.more fun j hj => hj.elim id fun h => .inr (by have := hFi.size; simp at h; omega), hFi.trans (((Fr.refl (fun j => F j ∨ w0.heap.size ≤ j) _).alloc _).trans hs1 fun _ _ h => h) fun j hj hjs => hjs.elim id fun h => by omega, by rw [Htake.out, List.length_append]; omega⟩
          case measure => simp [intOf]; omega
    · have hke : k = m := by omega
      subst hke
      have Hw : WrAt w1 (fun j => F j ∨ w0.heap.size ≤ j) b (l ++ ns.flatMap encN) := by rwa [List.take_of_length_le (by rw [Hm.out]; exact Nat.le_refl _)] at hW
      go_wp2
      go_end0
      exact ⟨rfl, hF0, Hw⟩

set_option maxHeartbeats 400000 in
theorem WN_nil (w : World) (v : Value) : Calls Tryz.prog 179 #[.pointer none, v] w fun e w' => e = .returned (.tuple #[]) ∧ w = w' := by
  go_enter Tryz.func179, Tryz.ntmps179
  go_wp2
  refine bodyPost_ret (results_none rfl _ _ _) rfl ?_
  exact ⟨rfl, rfl⟩

set_option maxHeartbeats 400000 in
theorem WBytes_any (w : World) (F : Nat → Prop) (b : Nat) (l : List UInt8) (h : WrAt w F b l) (hroom : l.length ≤ 70368744177664) :
    Calls Tryz.prog 181 #[.pointer (some ⟨b, 0, none⟩)] w fun e w' => ∃ A c, e = .returned (.slice A l.length c) ∧ Fr NoB w w' ∧ Own w' 5 1 A l.length c (l.map bv) ∧ ∀ k, inB A k → w.heap.size ≤ k := by
  obtain ⟨hF, A, n, c, hB, hO, hA⟩ := h
  have hc := hB.cell_0
  have hn : l.length = n := by have := hO.len; simpa using this
  subst hn
  go_enter Tryz.func181, Tryz.ntmps181
  go_wp2_with (at_builtin; refine wpList_app _ el_u8w rfl (.const (.slice none 0 0)) (.tmp 8) rfl none 0 0 [] rfl (Own.nil _ _ _) _ _ _ _ _ rfl (hO.arr fun k _ hk => hA k hk) (bv_one l) (by omega) ?_; intro A1 c1 w1 hown1 hf1 hin1 hnil1)
  go_ret
  refine ⟨A1, c1, rfl, hf1.mono fun k _ hk => inB_none k hk, by simpa using hown1, fun k hk => ?_⟩
  rcases hin1 k hk with h | h
  · exact absurd h (inB_none k)
  · omega

set_option maxHeartbeats 400000 in
theorem WBytes_nil (w : World) : Calls Tryz.prog 181 #[.pointer none] w fun e w' => e = .returned (.slice none 0 0) ∧ w = w' := by
  go_enter Tryz.func181, Tryz.ntmps181
  go_wp2
  go_ret
  exact ⟨rfl, rfl⟩

end Go.Proofs.YtnplamcajjblkaaGreat
