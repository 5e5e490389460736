/-
  Pieces of bytes, one behind the other (vec.Chunks), and words of bytes (vec.Words). Conditions: each contract states its own.
-/
import Derived.Test.YtnplamcajjblkaaGreatYc
import Derived.Test.YtnplamcajjblkaaGreatYb
import Derived.Test.YtnplamcajjblkaaGreatKa
import Derived.RangeFuncLeaves
namespace Go.Proofs.YtnplamcajjblkaaGreat
open Go.RowKit Go.Shelf
attribute [local go_sem] Oper.semAt_some

/-- What is handed to a round: a piece, in a row of its own. -/
structure Ch where
  A : Option Addr
  c : Nat
  b : List UInt8
def Ch.enc (x : Ch) : Array Value := #[.slice x.A x.b.length x.c]
def pieceAt (l : List UInt8) (sz k : Nat) : List UInt8 := (l.drop (k * sz)).take sz
/-- What is known of it. -/
def ChAt (l : List UInt8) (sz B : Nat) (pre : List Ch) (x : Ch) (W : World) : Prop :=
  x.b = pieceAt l sz pre.length ∧ pre.length * sz < l.length ∧ x.b.length ≤ x.c ∧ x.c ≤ maxLen ∧ Byt W (fun k => B ≤ k) x.A x.b.length x.b ∧ B ≤ W.heap.size

set_option maxHeartbeats 400000 in
theorem Chunks_any (w : World) (A : Option Addr) (n d : Nat) (m : Int) :
    Calls Tryz.prog 157 #[.slice A n d, .int .i64 m] w fun e w' => e = .returned (.func (.func 235) #[] #[.pointer (some ⟨w.heap.size + 1, 0, none⟩), .pointer (some ⟨w.heap.size, 0, none⟩)]) ∧ w' = (w.alloc (.cells #[.slice A n d] 28)).alloc (.cells #[.int .i64 m] 3) := by
  go_enter Tryz.func157, Tryz.ntmps157
  go_wp2
  go_ret
  exact ⟨rfl, rfl⟩

set_option maxRecDepth 100000 in
set_option maxHeartbeats 4000000 in
theorem Chunks1_seq (m : Nat) (hm : 4 ≤ m) (w : World) (bn bb sz : Nat) (F T : Nat → Prop) (A : Option Addr) (n d : Nat) (l : List UInt8) (hbn : Blk w bn 3 #[.int .i64 (sz : Nat)]) (hbb : Blk w bb 28 #[.slice A n d]) (hA : Byt w F A n l) (hnd : n ≤ d) (hsz : 0 < sz) (hsm : sz ≤ 1000000) (hnm : n ≤ 1000000000)
    (hT : (∀ k, F k → ¬ T k) ∧ ¬ T bn ∧ ¬ T bb) :
    SeqW m Tryz.prog 235 #[.pointer (some ⟨bn, 0, none⟩), .pointer (some ⟨bb, 0, none⟩)] Ch.enc (fun _ => False) T (fun _ pre x W => ChAt l sz (w.heap.size + 2) pre x W)
      (fun xs _ => l.length ≤ xs.length * sz) (fun _ _ => True) w := by
  intro lp J Jx W hF0 hl1 hl2 hJ hJx hY h0
  subst hl1
  have hbnl := hbn.lt
  have hbbl := hbb.lt
  have hSt : Byt w (fun k => F k ∧ k < w.heap.size) A n l := hA.more fun k hk h => ⟨h, hk⟩
  have hml := hA.len
  have Hml := Lib.hid hml
  have hm1 : 1 ≤ m := by omega
  have hm2 : 1 ≤ m - 1 := by omega
  clear hml
  refine callsIn_of_wp Tryz.func235 rfl trivial ?_ rfl
  simp only [Tryz.ntmps235, List.size_toArray, List.length_cons, List.length_nil, Nat.reduceAdd, Nat.reduceSub, Array.replicate_succ, Array.replicate_zero, List.push_toArray, List.append_toArray, List.nil_append, List.cons_append]
  have hbnW := hbn.fr hF0 id
  have hbbW := hbb.fr hF0 id
  have hSW := hSt.fr hF0 fun _ _ => id
  have hsW : w.heap.size + 2 ≤ W.heap.size := by omega
  clear hF0
  gi_wp2
  gi_loopw [4] (fun i wr => ∃ (pre : List Ch) (at_ : Nat), at_ ≤ n ∧ i = .int .i64 at_ ∧ (at_ = pre.length * sz ∨ (at_ = n ∧ n ≤ pre.length * sz)) ∧ J pre wr ∧ Blk wr bn 3 #[.int .i64 (sz : Nat)] ∧ Blk wr bb 28 #[.slice A n d] ∧ Byt wr (fun k => F k ∧ k < w.heap.size) A n l ∧ w.heap.size + 2 ≤ wr.heap.size) (fun i _ => n - (intOf i).toNat)
  case atStart =>
    exact ⟨[], 0, by omega, rfl, .inl (by simp), h0, hbnW, hbbW, hSW, hsW⟩
  case round =>
    obtain ⟨pre, k, hk, rfl, hpre, hJw, hB1, hB2, hSw, hszw⟩ := hrel
    obtain ⟨w1, rfl⟩ : ∃ w1 : World, w1 = wr := ⟨_, rfl⟩
    have c1 := hB1.cell_0
    have c2 := hB2.cell_0
    have b0 : decide ((0 : Int) < (sz : Int)) = true := by simp only [decide_eq_true_eq]; omega
    by_cases hkn : k < n
    · have hat : k = pre.length * sz := by omega
      have b1 : decide ((k : Int) < (n : Int)) = true := by simp only [decide_eq_true_eq]; omega
      obtain ⟨q, hq⟩ : ∃ q, q = min sz (n - k) := ⟨_, rfl⟩
      have hq0 : 0 < q := by omega
      have hqn : k + q ≤ n := by omega
      have hqs : q ≤ sz := by omega
      have hmin : min (sz : Int) ((n : Int) - (k : Int)) = (q : Int) := by omega
      have hif : (if (n : Int) - (k : Int) < (sz : Int) then (n : Int) - (k : Int) else (sz : Int)) = (q : Int) := by split <;> omega
      have hcut := (hSw.cut hk hnd).take (k := q) (by omega)
      have hpl : ((l.drop k).take q).length = q := hcut.len
      have hpiece : (l.drop k).take q = pieceAt l sz pre.length := by
        unfold pieceAt
        rw [← hat, hq]
        have hlen := Hml.out
        rcases Nat.le_total sz (n - k) with h | h
        · rw [Nat.min_eq_left h]
        · rw [Nat.min_eq_right h, List.take_of_length_le (by rw [List.length_drop]; omega), List.take_of_length_le (by rw [List.length_drop]; omega)]
      have Hpiece := Lib.hid hpiece
      have Hat := Lib.hid hat
      have Hq := Lib.hid hq
      clear hpiece hat hq hmin
      have hcut' : Byt w1 (fun k => F k ∧ k < w.heap.size) (slA A k d 1) (k + q - k) ((l.drop k).take q) := by rw [Nat.add_sub_cancel_left]; exact hcut
      gi_wp2_with (first
        | (gi_at_builtin; go_loud (refine wpListIn_app el_u8 rfl (.const (.slice none 0 0)) (.tmp 26) rfl none 0 0 [] rfl (Own.nil _ _ _) _ _ (k + q - k) _ _ rfl hcut' (bv_one _) (by omega) ?_); intro A3 c3 w3 hO3 hf3 hin3 _
           rw [Nat.zero_add, Nat.add_sub_cancel_left] at hO3
           rw [Nat.zero_add, Nat.add_sub_cancel_left]
           have hw13 : Fr NoB w1 w3 := hf3.mono fun j _ h => inB_none j h
           have s3 := hw13.size
           have hJ3 := hJ _ _ _ hJw (hw13.mono fun _ _ h => h.elim)
           have hB13 := hB1.fr hw13 id
           have hB23 := hB2.fr hw13 id
           have hS3 := hSw.fr hw13 fun _ _ => id
           have hby : Byt w3 (fun j => w.heap.size + 2 ≤ j) A3 ((l.drop k).take q).length ((l.drop k).take q) := by rw [hpl]; exact hO3.arr fun j _ hj => (hin3 j hj).elim (fun h => absurd h (inB_none j)) fun h => by omega
           have hle3 := hO3.le
           have hcap3 := hO3.cap
           obtain ⟨fn, tmps, assign, body, hy, hRn⟩ := hY pre ⟨A3, c3, (l.drop k).take q⟩ w3 hJ3 ⟨Hpiece.out, by rw [← Hat.out, Hml.out]; omega, by rw [hpl]; exact hle3, hcap3, hby, by omega⟩ (by omega)
           unfold Ch.enc at hy
           dsimp only at hy
           rw [hpl] at hy
           clear hby hO3 hf3 hin3 c1 c2))
      refine hRn.mono ?_
      rintro e4 w4 (⟨rfl, hJ4, hf4⟩ | ⟨rfl, hJ4, hf4⟩)
      · have s4 := hf4.size
        have hB14 := hB13.fr hf4 fun h => h.elim hT.2.1 fun h => by omega
        have hB24 := hB23.fr hf4 fun h => h.elim hT.2.2 fun h => by omega
        have hS4 := hS3.fr hf4 fun j hj h => h.elim (hT.1 j hj.1) fun h => by omega
        gi_wp2
        go_roundw
        case rel =>
          refine ⟨pre ++ [⟨A3, c3, (l.drop k).take q⟩], k + q, hqn, by go_num, ?_, hJ4, hB14, hB24, hS4, by omega⟩
          have h1 := Hat.out
          have h2 := Hq.out
          rw [List.length_append, List.length_singleton, Nat.add_mul, Nat.one_mul]
          omega
        case measure => simp [intOf]; omega
      · gi_wp2
        refine bodyPost_ret (results_none rfl _ _ _) rfl ?_
        exact ⟨⟨_, rfl⟩, .inr ⟨_, trivial, hJ4⟩⟩
    · have hkn2 : k = n := by omega
      subst hkn2
      have b1 : decide ((k : Int) < (k : Int)) = false := by simp
      gi_wp2
      go_end0
      exact ⟨⟨_, rfl⟩, .inl ⟨pre, by rw [Hml.out]; omega, hJw⟩⟩
end Go.Proofs.YtnplamcajjblkaaGreat
