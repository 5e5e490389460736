/-
  Names that are too long, told one by one (wire.longer). Conditions: each contract states its own.
-/
import Derived.Test.YtnkfchondedfcaaNb
import Derived.Test.YtnkfchondedfcaaEc
namespace Go.Proofs.Ytnkfchondedfcaa
open Go.RowKit Go.Shelf
attribute [local go_sem] Oper.semAt_some

set_option maxHeartbeats 400000 in
theorem longer_any (w : World) (B : Option Addr) (n d : Nat) :
    Calls Try.prog 105 #[.slice B n d] w fun e w' => e = .returned (.func (.func 111) #[] #[.pointer (some ⟨w.heap.size, 0, none⟩)]) ∧ w' = w.alloc (.cells #[.slice B n d] 88) := by
  go_enter Try.func105, Try.ntmps105
  go_wp2
  go_ret
  exact ⟨rfl, rfl⟩

set_option maxRecDepth 100000 in
set_option maxHeartbeats 2000000 in
theorem longer1_seq (m : Nat) (hm : 2 ≤ m) (w : World) (bs : Nat) (F T : Nat → Prop) (B : Option Addr) (n d : Nat) (names : List ByteArray) (hbs : Blk w bs 88 #[.slice B n d]) (hS : Strs w F B n names) (hn : n ≤ 9223372036854775807)
    (hT : (∀ k, F k → ¬ T k) ∧ ¬ T bs) :
    SeqG m Try.prog 111 #[.pointer (some ⟨bs, 0, none⟩)] (fun s : ByteArray => #[.string s]) NoB T (fun _ x => x ∈ names ∧ 64 < x.size)
      (fun xs _ => xs = [] → ∀ s ∈ names, s.size ≤ 64) (fun _ _ => True) w := by
  intro l J Jx W hF0 hl1 hl2 hJ hJx hY h0
  have hbn := hbs.lt
  have hSt : Strs w (fun k => F k ∧ k < w.heap.size) B n names := Arr.more hS (fun k hk h => ⟨h, hk⟩) (by omega)
  have hml := Strs.len hS
  have Hml := Lib.hid hml
  have hm1 : 1 ≤ m := by omega
  have hm2 : 1 ≤ m - 1 := by omega
  clear hml
  refine callsIn_of_wp Try.func111 rfl trivial ?_ rfl
  simp only [Try.ntmps111, List.size_toArray, List.length_cons, List.length_nil, Nat.reduceAdd, Nat.reduceSub, Array.replicate_succ, Array.replicate_zero, List.push_toArray, List.append_toArray, List.nil_append, List.cons_append]
  have cbs := (hbs.fr hF0 id).cell_0
  gi_wp2
  gi_loopw [7] (fun i wr => ∃ (pre : List ByteArray) (k : Nat), k ≤ n ∧ i = .int .i64 k ∧ J pre wr ∧ Strs wr (fun k => F k ∧ k < w.heap.size) B n names ∧ (pre = [] → ∀ s ∈ names.take k, s.size ≤ 64) ∧ W.heap.size ≤ wr.heap.size) (fun i _ => n - (intOf i).toNat)
  case atStart =>
    exact ⟨[], 0, by omega, rfl, h0, Arr.fr hSt hF0 fun _ _ => id, by simp, Nat.le_refl _⟩
  case round =>
    obtain ⟨pre, k, hk, rfl, hJw, hSw, hpre, hsz⟩ := hrel
    obtain ⟨w1, rfl⟩ : ∃ w1 : World, w1 = wr := ⟨_, rfl⟩
    have Hpre := Lib.hid hpre
    clear hpre
    by_cases hkn : k < n
    · obtain ⟨g1, o1, x, hB, _, gx, hc1⟩ := Strs.at_ hSw hkn
      subst hB
      have Hex := Lib.hid (take_snoc_of gx)
      have hmem : x ∈ names := List.mem_of_getElem? gx
      by_cases hx : x.size ≤ 64
      · have b1 : decide (64 < (x.size : Int)) = false := by simp only [decide_eq_false_iff_not]; omega
        have Hx := Lib.hid hx
        clear hx gx hmem
        gi_wp2
        refine ⟨(fun f h => by cases h), ?_⟩
        gi_wp2
        go_roundw
        case rel => exact ⟨pre, k + 1, by omega, by go_num, hJw, hSw, fun e s hs => by
          rw [Hex.out, List.mem_append] at hs
          rcases hs with hs | hs
          · exact Hpre.out e s hs
          · rw [List.mem_singleton] at hs; subst hs; exact Hx.out, hsz⟩
        case measure => simp [intOf]; omega
      · have b1 : decide (64 < (x.size : Int)) = true := by simp only [decide_eq_true_eq]; omega
        obtain ⟨fn, tmps, assign, body, hy, hRn⟩ := hY pre x w1 hJw ⟨hmem, by omega⟩ hsz
        clear hx gx hmem
        gi_wp2
        refine hRn.mono ?_
        rintro e w3 (⟨rfl, hJ3, hf3⟩ | ⟨rfl, hJ3, hf3⟩)
        · have s3 := hf3.size
          have hS3 : Strs w3 (fun k => F k ∧ k < w.heap.size) (some ⟨g1, o1, none⟩) n names := Arr.fr hSw hf3 fun j hj h => h.elim (hT.1 j hj.1) fun h => by omega
          gi_wp2
          go_roundw
          case rel => exact ⟨pre ++ [x], k + 1, by omega, by go_num, hJ3, hS3, fun e => by simp at e, by omega⟩
          case measure => simp [intOf]; omega
        · gi_wp2
          refine bodyPost_ret (results_none rfl _ _ _) rfl ?_
          exact ⟨⟨_, rfl⟩, .inr ⟨pre ++ [x], trivial, hJ3⟩⟩
    · have hke : k = n := by omega
      have hp := Hpre.out
      rw [List.take_of_length_le (by rw [Hml.out]; omega)] at hp
      have Hp := Lib.hid hp
      clear hp hke
      gi_wp2
      go_end0
      exact ⟨⟨_, rfl⟩, .inl ⟨pre, Hp.out, hJw⟩⟩
end Go.Proofs.Ytnkfchondedfcaa
