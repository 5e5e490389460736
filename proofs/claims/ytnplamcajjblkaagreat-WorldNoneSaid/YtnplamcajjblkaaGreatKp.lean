/-
  Tapes (tape.New, Take, Key) and what a suite draws (suite.Draw). Conditions: each contract states its own.
-/
import Derived.Test.YtnplamcajjblkaaGreatKo
namespace Go.Proofs.YtnplamcajjblkaaGreat
open Go.RowKit

/-- A tape in memory: what is left of it. -/
structure TapeAt (w : World) (t : Nat) (F : Nat → Prop) (A : Option Addr) (n c : Nat) (l : List UInt8) : Prop where
  blk : Blk w t 193 #[.slice A n c]
  byt : Byt w F A n l
  le : n ≤ c
  cap : c ≤ maxLen
theorem TapeAt.fr {w w' : World} {t : Nat} {F S : Nat → Prop} {A : Option Addr} {n c : Nat} {l : List UInt8} (h : TapeAt w t F A n c l) (hf : Fr S w w') (ht : ¬ S t) (hF : ∀ k, F k → ¬ S k) : TapeAt w' t F A n c l := ⟨h.blk.fr hf ht, h.byt.fr hf hF, h.le, h.cap⟩
theorem tape_built (A : Option Addr) (n c : Nat) : Tryz.prog.built 193 [(0, .slice A n c)] = some #[.slice A n c] := by kernel_rfl
theorem tapeNew_any (w : World) (F : Nat → Prop) (A : Option Addr) (n c : Nat) (l : List UInt8) (h : Byt w F A n l) (hn : n ≤ 1000000) :
    Calls Tryz.prog 36 #[.slice A n c] w fun e w' => ∃ t A' c', e = .returned (.pointer (some ⟨t, 0, none⟩)) ∧ w.heap.size ≤ t ∧ TapeAt w' t (fun k => w.heap.size ≤ k ∧ k < t) A' n c' l ∧ Fr NoB w w' := by
  have hb := tape_built
  go_enter Tryz.func36, Tryz.ntmps36
  go_wp2_with (first
    | (at_builtin
       refine wpList_app _ el_u8 rfl (.const (.slice none 0 0)) (.tmp 3) rfl none 0 0 [] rfl (Own.nil _ _ _) _ _ n _ _ rfl h (bv_one _) (by omega) ?_
       intro A3 c3 w3 hO3 hf3 hin3 _
       rw [Nat.zero_add] at hO3
       rw [Nat.zero_add]
       have f3 : Fr NoB w w3 := hf3.mono fun j _ h => inB_none j h)
    | (refine wpList_buildK rfl 193 #[(0, .tmp 4)] rfl [(0, .slice A3 n c3)] rfl _ (tape_built _ _ _) ?_))
  go_ret
  have hby : Byt w3 (fun k => w.heap.size ≤ k ∧ k < w3.heap.size) A3 n l := hO3.arr fun k hk hj => ⟨(hin3 k hj).elim (fun h => absurd h (inB_none k)) fun h => by omega, hk⟩
  exact ⟨w3.heap.size, rfl, f3.size, ⟨A3, c3, ⟨Blk.new _ _ _, hby.alloc _, hO3.le, hO3.cap⟩⟩, f3.alloc _⟩
theorem tapeLeft_any (w : World) (t : Nat) (F : Nat → Prop) (A : Option Addr) (n c : Nat) (l : List UInt8) (h : TapeAt w t F A n c l) :
    Calls Tryz.prog 233 #[.pointer (some ⟨t, 0, none⟩)] w fun e w' => e = .returned (.int .i64 (n : Int)) ∧ w' = w := by
  have c0 := h.blk.cell_0
  go_enter Tryz.func233, Tryz.ntmps233
  go_wp2
  go_ret
  exact ⟨rfl, rfl⟩

set_option maxRecDepth 100000 in
set_option maxHeartbeats 2000000 in
theorem tapeTake_any (w : World) (t : Nat) (F : Nat → Prop) (A : Option Addr) (n c m : Nat) (l : List UInt8) (h : TapeAt w t F A n c l) (hF : ∀ k, F k → k < w.heap.size ∧ k ≠ t) (h0 : 0 < m) (hm : m ≤ n) (hn : n ≤ 1000000) :
    Calls Tryz.prog 153 #[.pointer (some ⟨t, 0, none⟩), .int .i64 (m : Int)] w fun e w' => ∃ A' c', e = .returned (.tuple #[.slice A' m c', .int .i64 0]) ∧ Byt w' (fun k => w.heap.size ≤ k) A' m (l.take m) ∧ TapeAt w' t F (slA A m c 1) (n - m) (c - m) (l.drop m) ∧ Fr (· = t) w w' := by
  have c0 := h.blk.cell_0
  have z0 := h.blk.frozen 0
  have tl := h.blk.lt
  have hc := h.cap
  have hnc := h.le
  have HL := Lib.hid (tapeLeft_any w t F A n c l h)
  have b1 : decide ((m : Int) < 0) = false := by simp only [decide_eq_false_iff_not]; omega
  have b2 : decide ((n : Int) < (m : Int)) = false := by simp only [decide_eq_false_iff_not]; omega
  have b2' : decide (n < m) = false := by simp only [decide_eq_false_iff_not]; omega
  have b3 : ((m : Int) == 0) = false := by simp; omega
  have b4 : decide ((m : Int) = 0) = false := by simp; omega
  have b5 : decide (m = 0) = false := by simp; omega
  have hcut : Byt w F A m (l.take m) := h.byt.take hm
  go_enter Tryz.func153, Tryz.ntmps153
  go_wp2_with (first
    | (go_at_call 233; refine HL.out.mono ?_; rintro e w1 ⟨rfl, h1⟩; rw [h1])
    | (at_builtin
       refine wpList_app _ el_u8 rfl (.const (.slice none 0 0)) (.tmp 24) rfl none 0 0 [] rfl (Own.nil _ _ _) _ _ m _ _ rfl hcut (bv_one _) (by omega) ?_
       intro A3 c3 w3 hO3 hf3 hin3 _
       rw [Nat.zero_add] at hO3
       rw [Nat.zero_add]
       have f3 : Fr NoB w w3 := hf3.mono fun j _ h => inB_none j h
       have c03 := f3.cell' c0 id
       have z03 := (h.blk.fr f3 id).frozen 0
       clear c0 z0))
  go_ret2
  have q1 : Fr (· = t) w3 (w3.setCell ⟨t, 0, none⟩ (.slice (slA A m c 1) (n - m) (c - m))) := (Fr.refl _ _).at_ _ _
  have q2 := (h.blk.fr f3 id).set_ 0 (.slice (slA A m c 1) (n - m) (c - m))
  have hby : Byt w3 (fun k => w.heap.size ≤ k) A3 m (l.take m) := hO3.arr fun k hk hj => (hin3 k hj).elim (fun h => absurd h (inB_none k)) fun h => by omega
  have hcd := (h.byt.fr f3 fun _ _ => id).cut hm hnc
  refine ⟨A3, ⟨c3, rfl⟩, hby.fr q1 fun k hk e => by omega, ⟨by simpa using q2, hcd.fr q1 fun k hk e => (hF k hk).2 e, by omega, by omega⟩, (f3.mono fun _ _ h => h.elim).trans q1 fun _ _ h => h⟩
end Go.Proofs.YtnplamcajjblkaaGreat
