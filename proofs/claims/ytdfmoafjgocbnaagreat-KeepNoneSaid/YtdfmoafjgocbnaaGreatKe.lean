/-
  Whether requests are small (tabulariumlaw17.Few). Conditions: each contract states its own.
-/
import Derived.Test.YtdfmoafjgocbnaaGreatMx
import Derived.Test.YtdfmoafjgocbnaaGreatWk
namespace Go.Proofs.YtdfmoafjgocbnaaGreat
open Go.RowKit

def Reqs (w : World) (F : Nat → Prop) (A : Option Addr) (n : Nat) (l : List Req) : Prop := ArrOf (ReqR w F) w F 71 A n l
theorem Reqs.fr {w w' : World} {F S : Nat → Prop} {A : Option Addr} {n : Nat} {l : List Req} (h : Reqs w F A n l) (hf : Fr S w w') (hd : ∀ k, F k → ¬ S k) : Reqs w' F A n l := ArrOf.fr h hf hd fun _ _ _ hy => hy.fr hf hd
def reqFew (r : Req) : Bool := decide (r.name.size ≤ 100) && decide (r.body.length ≤ 2000)
def reqsFew (l : List Req) : Bool := l.all reqFew && decide (l.length ≤ 40)
theorem take_snocF {α : Type} {l : List α} {k : Nat} {x : α} (h : l[k]? = some x) : l.take (k + 1) = l.take k ++ [x] := by
  obtain ⟨hk, rfl⟩ := List.getElem?_eq_some_iff.1 h
  exact List.take_succ_eq_append_getElem hk

set_option maxRecDepth 100000 in
set_option maxHeartbeats 2000000 in
theorem few17_any (w : World) (F : Nat → Prop) (A : Option Addr) (n c : Nat) (l : List Req) (h : Reqs w F A n l) (hn : n ≤ 9223372036854775807) :
    Calls Tryz.prog 9 #[.slice A n c] w fun e w' => e = .returned (.bool (reqsFew l)) ∧ Fr NoB w w' := by
  have Hll := Lib.hid h.len
  go_enter Tryz.func9, Tryz.ntmps9
  go_wp2
  go_loopw [7] (fun v wr => ∃ k : Nat, k ≤ n ∧ v = .int .i64 k ∧ (l.take k).all reqFew = true ∧ Fr NoB w wr) (fun v _ => n - (intOf v).toNat)
  case atStart => exact ⟨0, by omega, rfl, rfl, Fr.refl _ _⟩
  case round =>
    obtain ⟨k, hk, rfl, hall, hf1⟩ := hrel
    obtain ⟨w1, rfl⟩ : ∃ w1 : World, w1 = wr := ⟨_, rfl⟩
    have Hall := Lib.hid hall
    clear hall
    by_cases hkn : k < n
    · obtain ⟨b, o, r, y, rfl, _, gr, ly, ⟨A2, m, d, hy, hmd, hdm, hb, hwf⟩, hc⟩ := ArrOf.at_ (h.fr hf1 fun _ _ => id) hkn
      have hbl := hb.len
      subst hbl
      have Ly := Lib.hid ly
      have Sy : Hid (y.toArray.size = 71) := by show _ = _; simpa using ly
      have Oy : Hid (y.toArray.all (·.oneCell') = true) := by
        show _ = _
        rw [Array.all_eq_true_iff_forall_mem, hy]
        intro u hu
        exact reqCells_one _ _ _ _ u (by simpa using hu)
      have Hy := Lib.hid hy
      have Htk := Lib.hid (take_snocF gr)
      have Hmem := Lib.hid (List.mem_of_getElem? gr)
      have hns : r.name.size ≤ 9223372036854775807 := hwf.2.2.2.2.2.1
      have hbs : r.body.length ≤ 9223372036854775807 := by unfold maxLen at hdm; omega
      clear gr ly hy hb hwf
      have key : ∀ b1 b2, decide ((100 : Int) < (r.name.size : Int)) = b1 → decide ((2000 : Int) < (r.body.length : Int)) = b2 → reqFew r = (!b1 && !b2) := by
        intro b1 b2 h1 h2
        subst h1 h2
        unfold reqFew
        rw [Bool.eq_iff_iff]
        simp only [Bool.and_eq_true, decide_eq_true_eq, Bool.not_eq_true', decide_eq_false_iff_not]
        omega
      have Key := Lib.hid key
      clear key
      obtain ⟨b1, hb1⟩ : ∃ b1, decide ((100 : Int) < (r.name.size : Int)) = b1 := ⟨_, rfl⟩
      obtain ⟨b2, hb2⟩ : ∃ b2, decide ((2000 : Int) < (r.body.length : Int)) = b2 := ⟨_, rfl⟩
      have Hf := Lib.hid (Key.out b1 b2 hb1 hb2)
      have arms : True := trivial
      cases b1 with
      | true =>
        go_wp2_with (first
          | (refine wpList_load_agg rfl 60 (.tmp 9) rfl b (o + k * 71) rfl y _ hc Tryz.underlying60 rfl (by rw [Ly.out]; exact req_size) ?_)
          | (refine wpList_alloc_any rfl 60 rfl 71 req_zero ?_; intro z hz; have Hz := Lib.hid hz; clear hz)
          | (refine wpList_store_newN rfl 60 (.tmp 4) (.tmp 10) rfl 71 req_size _ z Hz.out y.toArray rfl rfl Sy.out Oy.out ?_
             clear Hz
             obtain ⟨w2, hw2⟩ : ∃ w2, w2 = w1.alloc (.cells y.toArray 60) := ⟨_, rfl⟩
             rw [← hw2]
             have hR : ReqBlk w2 w1.heap.size r A2 r.body.length d := by rw [hw2, Hy.out]; exact ⟨Blk.new _ _ _⟩
             have q4 := hR.c4
             have q70 := hR.c70
             have hf2 : Fr NoB w w2 := by rw [hw2]; exact hf1.alloc _
             clear hw2 hc))
        go_ret
        refine ⟨?_, hf2⟩
        have : reqsFew l = false := by
          unfold reqsFew
          rw [List.all_eq_false.2 ⟨r, Hmem.out, by rw [Hf.out]; simp⟩]
          rfl
        rw [this]
        rfl
      | false =>
        cases b2 with
        | true =>
          go_wp2_with (first
            | (refine wpList_load_agg rfl 60 (.tmp 9) rfl b (o + k * 71) rfl y _ hc Tryz.underlying60 rfl (by rw [Ly.out]; exact req_size) ?_)
            | (refine wpList_alloc_any rfl 60 rfl 71 req_zero ?_; intro z hz; have Hz := Lib.hid hz; clear hz)
            | (refine wpList_store_newN rfl 60 (.tmp 4) (.tmp 10) rfl 71 req_size _ z Hz.out y.toArray rfl rfl Sy.out Oy.out ?_
               clear Hz
               obtain ⟨w2, hw2⟩ : ∃ w2, w2 = w1.alloc (.cells y.toArray 60) := ⟨_, rfl⟩
               rw [← hw2]
               have hR : ReqBlk w2 w1.heap.size r A2 r.body.length d := by rw [hw2, Hy.out]; exact ⟨Blk.new _ _ _⟩
               have q4 := hR.c4
               have q70 := hR.c70
               have hf2 : Fr NoB w w2 := by rw [hw2]; exact hf1.alloc _
               clear hw2 hc))
          go_ret
          refine ⟨?_, hf2⟩
          have : reqsFew l = false := by
            unfold reqsFew
            rw [List.all_eq_false.2 ⟨r, Hmem.out, by rw [Hf.out]; simp⟩]
            rfl
          rw [this]
          rfl
        | false =>
          go_wp2_with (first
            | (refine wpList_load_agg rfl 60 (.tmp 9) rfl b (o + k * 71) rfl y _ hc Tryz.underlying60 rfl (by rw [Ly.out]; exact req_size) ?_)
            | (refine wpList_alloc_any rfl 60 rfl 71 req_zero ?_; intro z hz; have Hz := Lib.hid hz; clear hz)
            | (refine wpList_store_newN rfl 60 (.tmp 4) (.tmp 10) rfl 71 req_size _ z Hz.out y.toArray rfl rfl Sy.out Oy.out ?_
               clear Hz
               obtain ⟨w2, hw2⟩ : ∃ w2, w2 = w1.alloc (.cells y.toArray 60) := ⟨_, rfl⟩
               rw [← hw2]
               have hR : ReqBlk w2 w1.heap.size r A2 r.body.length d := by rw [hw2, Hy.out]; exact ⟨Blk.new _ _ _⟩
               have q4 := hR.c4
               have q70 := hR.c70
               have hf2 : Fr NoB w w2 := by rw [hw2]; exact hf1.alloc _
               clear hw2 hc))
          go_roundw
          case rel => exact ⟨k + 1, by omega, by go_num, by rw [Htk.out, List.all_append, Hall.out]; simp [Hf.out], hf2⟩
          case measure => (simp [intOf] <;> omega)
    · have hkn2 : k = n := by omega
      subst hkn2
      have hal : l.all reqFew = true := by
        have := Hall.out
        rwa [List.take_of_length_le (by rw [Hll.out]; exact Nat.le_refl _)] at this
      have hE : reqsFew l = decide ((k : Int) ≤ 40) := by
        unfold reqsFew
        rw [hal, Hll.out, Bool.true_and]
        exact decide_eq_decide.2 (by omega)
      have HE := Lib.hid hE
      clear hal hE
      go_wp2
      go_ret
      exact ⟨by rw [HE.out]; first | rfl | simp, hf1⟩
end Go.Proofs.YtdfmoafjgocbnaaGreat
