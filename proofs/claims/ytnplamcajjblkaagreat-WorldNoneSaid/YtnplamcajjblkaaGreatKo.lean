/-
  A host of a fresh disk is opened (vault.New, (*slog.Log).Records of no records, keep.Open). Conditions: each contract states its own.
-/
import Derived.Test.YtnplamcajjblkaaGreatKn
import Derived.Test.YtnplamcajjblkaaGreatKd
import Derived.Test.YtnplamcajjblkaaGreatYb
namespace Go.Proofs.YtnplamcajjblkaaGreat
open Go.RowKit

theorem state_built (s m1 m2 : Nat) : Tryz.prog.built 234 [(0, .pointer (some ⟨s, 0, none⟩)), (1, .map (some m1)), (2, .map (some m2))] = some #[.pointer (some ⟨s, 0, none⟩), .map (some m1), .map (some m2)] := by kernel_rfl
theorem vaultNew_any (w : World) (s : Nat) : Calls Tryz.prog 48 #[.pointer (some ⟨s, 0, none⟩)] w fun e w' => ∃ q, e = .returned (.pointer (some ⟨q, 0, none⟩)) ∧ Fr NoB w w' := by
  have hmm := @run_makeMap Tryz.prog
  go_enter Tryz.func48, Tryz.ntmps48
  go_wp2_with (refine wpList_buildK rfl 234 #[(0, .tmp 3), (1, .tmp 4), (2, .tmp 5)] rfl [(0, .pointer (some ⟨s, 0, none⟩)), (1, .map (some w.heap.size)), (2, .map (some (w.heap.size + 1)))] rfl _ (state_built _ _ _) ?_)
  go_ret
  exact ⟨_, rfl, ((((Fr.refl _ _).alloc _).alloc _).alloc _)⟩
theorem logCount_any (w : World) (q p f n gen a : Nat) (A : Option Addr) (m c : Nat) (br : Bool) (h : LogAt w q p f n gen a A m c br) :
    Calls Tryz.prog 99 #[.pointer (some ⟨q, 0, none⟩)] w fun e w' => e = .returned (.int .i64 (m : Int)) ∧ w' = w := by
  have l5 : w.cell? ⟨q, 5, none⟩ = some (.slice A m c) := (Blk.cell h 5).trans rfl
  go_enter Tryz.func99, Tryz.ntmps99
  go_wp2
  go_ret
  exact ⟨rfl, rfl⟩
theorem logRecords_any (w : World) (q : Nat) :
    Calls Tryz.prog 49 #[.pointer (some ⟨q, 0, none⟩)] w fun e w' => e = .returned (.func (.func 98) #[] #[.pointer (some ⟨w.heap.size, 0, none⟩)]) ∧ w' = w.alloc (.cells #[.pointer (some ⟨q, 0, none⟩)] 116) := by
  go_enter Tryz.func49, Tryz.ntmps49
  go_wp2
  go_ret
  exact ⟨rfl, rfl⟩
theorem recs0_seq (m : Nat) (hm : 4 ≤ m) (w : World) (bl q p f n gen a c : Nat) (A : Option Addr) (br : Bool) (hb : Blk w bl 116 #[.pointer (some ⟨q, 0, none⟩)]) (h : LogAt w q p f n gen a A 0 c br) :
    SeqW m Tryz.prog 98 #[.pointer (some ⟨bl, 0, none⟩)] (fun x : Empty => x.elim) (fun _ => False) (fun _ => False) (fun _ _ _ _ => False) (fun _ _ => True) (fun _ _ => False) w := by
  intro lp J Jx W hF0 hl1 hl2 hJ hJx hY h0
  have hbW := hb.fr hF0 id
  have b0 := hbW.cell_0
  have HC := Lib.hid (logCount_any W q p f n gen a A 0 c br (Blk.fr h hF0 id))
  have hm1 : 1 ≤ m := by omega
  refine callsIn_of_wp Tryz.func98 rfl trivial ?_ rfl
  simp only [Tryz.ntmps98, List.size_toArray, List.length_cons, List.length_nil, Nat.reduceAdd, Nat.reduceSub, Array.replicate_succ, Array.replicate_zero, List.push_toArray, List.append_toArray, List.nil_append, List.cons_append]
  gi_wp2_with (refine ⟨trivial, ?_⟩; gi_at_call 99; refine (callsIn_wide.2 HC.out).mono ?_; rintro e w1 ⟨rfl, h1⟩; rw [h1])
  gi_loopw [6] (fun v wr => v = .int .i64 0 ∧ wr = W) (fun _ _ => 1)
  case atStart => exact ⟨rfl, rfl⟩
  case round =>
    obtain ⟨rfl, rfl⟩ := hrel
    gi_wp2
    go_end0
    exact ⟨⟨_, rfl⟩, .inl ⟨[], trivial, h0⟩⟩
theorem host_built (s p lg v g : Nat) : Tryz.prog.built 122 [(0, .pointer (some ⟨s, 0, none⟩)), (1, .pointer (some ⟨p, 0, none⟩)), (2, .pointer (some ⟨lg, 0, none⟩)), (3, .pointer (some ⟨v, 0, none⟩)), (4, .int .u32 (g : Int))] = some #[.pointer (some ⟨s, 0, none⟩), .pointer (some ⟨p, 0, none⟩), .pointer (some ⟨lg, 0, none⟩), .pointer (some ⟨v, 0, none⟩), .int .u32 (g : Int), .bool false] := by kernel_rfl
theorem halfF_big {n j : Nat} (hn : 6 ≤ n) (hj : j < 2) : halfF n (j : Int) = (((2 + j * ((n - 2) / 2) : Nat) : Int), (((n - 2) / 2 : Nat) : Int)) := by
  unfold halfF
  rw [if_neg (by omega)]
  simp

set_option maxRecDepth 100000 in
set_option maxHeartbeats 4000000 in
theorem hostOpen_any (w : World) (s p r n k g q f : Nat) (secs : List (List UInt8)) (h : DiskAt w p r n k secs) (hn6 : 6 ≤ n) (hn : n ≤ 1000000) (hgE : g = genAcc secs 2) (hg0 : g ≠ 0) (hg32 : g < 4294967296) (hq : q = (n - 2) / 2) (hf : f = 2 + (g % 2) * q)
    (sec : List UInt8) (hs : secs[f]? = some sec) (hd : dueF g 0 q sec = (0, false)) :
    Calls Tryz.prog 19 #[.pointer (some ⟨s, 0, none⟩), .pointer (some ⟨p, 0, none⟩)] w fun e w' => ∃ ho, e = .returned (.tuple #[.pointer (some ⟨ho, 0, none⟩), .int .i64 0]) ∧ Fr NoB w w' := by
  obtain ⟨a, ha⟩ : ∃ a, a = g % 2 := ⟨_, rfl⟩
  have ha2 : a < 2 := by omega
  rw [← ha] at hf
  have hqn : f + q ≤ n := by
    rw [hf]
    rcases (by omega : a = 0 ∨ a = 1) with rfl | rfl <;> omega
  have hq2 : 2 ≤ q := by omega
  have hqm : q ≤ 1000000 := by omega
  have D : ∀ W, Fr NoB w W → DiskAt W p r n k secs := fun W hW => h.fr hW id id
  have HH0 : Hid (∀ W, Fr NoB w W → Calls Tryz.prog 44 #[.pointer (some ⟨p, 0, none⟩), .int .i64 0] W fun e w' => e = .returned (.tuple #[.int .i64 2, .int .i64 (q : Int)]) ∧ w' = W) := by
    intro W hW
    have := half_any W p r n k secs 0 (D W hW) hn (by omega) (by omega)
    have e := halfF_big (n := n) (j := 0) hn6 (by omega)
    rw [show ((0 : Nat) : Int) = 0 from rfl] at e
    rw [e, ← hq] at this
    simpa using this
  have HH1 : Hid (∀ W, Fr NoB w W → Calls Tryz.prog 44 #[.pointer (some ⟨p, 0, none⟩), .int .i64 (a : Int)] W fun e w' => e = .returned (.tuple #[.int .i64 (f : Int), .int .i64 (q : Int)]) ∧ w' = W) := by
    intro W hW
    have := half_any W p r n k secs (a : Int) (D W hW) hn (by omega) (by omega)
    rw [halfF_big hn6 ha2, ← hq, ← hf] at this
    exact this
  have HL : Hid (∀ W, Fr NoB w W → Calls Tryz.prog 45 #[.pointer (some ⟨p, 0, none⟩)] W fun e w' => e = .returned (.tuple #[.int .u32 (g : Int), .int .i64 0]) ∧ Fr NoB W w') := by
    intro W hW
    have := latest_any W p r n k secs (D W hW) (by omega)
    rw [← hgE, if_neg hg0] at this
    exact this
  have HS : Hid (∀ W, Calls Tryz.prog 46 #[.int .u32 (g : Int)] W fun e w' => e = .returned (.int .i64 (a : Int)) ∧ w' = W) := by
    intro W
    have := slot_any W g hg32
    rw [← ha] at this
    exact this
  have HO : Hid (∀ W, Fr NoB w W → Calls Tryz.prog 47 #[.pointer (some ⟨p, 0, none⟩), .int .i64 (f : Int), .int .i64 (q : Int), .int .u32 (g : Int)] W fun e w' => ∃ q2, e = .returned (.tuple #[.pointer (some ⟨q2, 0, none⟩), .int .i64 0]) ∧ W.heap.size ≤ q2 ∧ LogAt w' q2 p f q g 0 none 0 0 false ∧ Fr NoB W w') := fun W hW => openFresh_any W p r n k f q g secs (D W hW) sec hs hd hq2 hqn hn hg32
  have b1 : ((q : Int) == 0) = false := by simp; omega
  have b2 : decide ((q : Int) = 0) = false := by simp; omega
  have b3 : decide (q = 0) = false := by simp; omega
  clear hq hf ha hgE hd hs D
  refine (callsIn_wide (n := 7)).1 ?_
  refine callsIn_of_wp_marks Tryz.func19 rfl trivial ?_ rfl
  simp only [Tryz.ntmps19, List.size_toArray, List.length_cons, List.length_nil, Nat.reduceAdd, Nat.reduceSub, Array.replicate_succ, Array.replicate_zero, List.push_toArray, List.append_toArray, List.nil_append, List.cons_append]
  gi_wp2
  refine wpIn_scope_calm ?hQ ?_
  case hQ => exact fun _ _ _ h => h
  gi_wp2_with (first
    | (refine wpIn_label ?_)
    | (refine ⟨trivial, ?_⟩
       gi_at_call 44
       refine (callsIn_wide.2 (HH1.out w1 f1)).mono ?_
       rintro e w2 ⟨rfl, h2⟩
       rw [h2])
    | (refine ⟨trivial, ?_⟩
       gi_at_call 44
       refine (callsIn_wide.2 (HH0.out w (Fr.refl _ _))).mono ?_
       rintro e w0 ⟨rfl, h2⟩
       rw [h2])
    | (refine ⟨trivial, ?_⟩
       gi_at_call 45
       refine (callsIn_wide.2 (HL.out w (Fr.refl _ _))).mono ?_
       rintro e w1 ⟨rfl, f1⟩)
    | (refine ⟨trivial, ?_⟩
       gi_at_call 46
       refine (callsIn_wide.2 (HS.out w1)).mono ?_
       rintro e w2 ⟨rfl, h2⟩
       rw [h2])
    | (refine ⟨trivial, ?_⟩
       gi_at_call 47
       refine (callsIn_wide.2 (HO.out w1 f1)).mono ?_
       rintro e w3 ⟨lg, rfl, hlg, kL, f3⟩)
    | (refine ⟨trivial, ?_⟩
       gi_at_call 48
       refine (callsIn_wide.2 (vaultNew_any w3 s)).mono ?_
       rintro e w4 ⟨v, rfl, f4⟩))
  obtain ⟨B, hB⟩ : ∃ B, B = w4.heap.size := ⟨_, rfl⟩
  obtain ⟨w5, hw5⟩ : ∃ w5, w5 = (((w4.alloc (.cells #[.pointer (some ⟨s, 0, none⟩), .pointer (some ⟨p, 0, none⟩), .pointer (some ⟨lg, 0, none⟩), .pointer (some ⟨v, 0, none⟩), .int .u32 (g : Int), .bool false] 122)).alloc (.cells #[.pointer (some ⟨w4.heap.size, 0, none⟩)] 36)).alloc (.cells #[.int .i64 0] 38)) := ⟨_, rfl⟩
  rw [← hw5]
  have k13 : Blk w5 (B + 1) 36 #[.pointer (some ⟨B, 0, none⟩)] := by
    have := (Blk.new (w4.alloc (.cells #[.pointer (some ⟨s, 0, none⟩), .pointer (some ⟨p, 0, none⟩), .pointer (some ⟨lg, 0, none⟩), .pointer (some ⟨v, 0, none⟩), .int .u32 (g : Int), .bool false] 122)) 36 #[.pointer (some ⟨w4.heap.size, 0, none⟩)]).alloc (.cells #[.int .i64 0] 38)
    rw [World.size_alloc, ← hB] at this
    rw [hw5, ← hB]
    exact this
  have k14 : Blk w5 (B + 2) 38 #[.int .i64 0] := by
    have := Blk.new ((w4.alloc (.cells #[.pointer (some ⟨s, 0, none⟩), .pointer (some ⟨p, 0, none⟩), .pointer (some ⟨lg, 0, none⟩), .pointer (some ⟨v, 0, none⟩), .int .u32 (g : Int), .bool false] 122)).alloc (.cells #[.pointer (some ⟨w4.heap.size, 0, none⟩)] 36)) 38 #[.int .i64 0]
    rw [World.size_alloc, World.size_alloc, ← hB] at this
    rw [hw5, ← hB]
    exact this
  have f45 : Fr NoB w4 w5 := by rw [hw5]; exact (((Fr.refl _ _).alloc _).alloc _).alloc _
  have s5 : w5.heap.size = B + 3 := by rw [hw5, hB, World.size_alloc, World.size_alloc, World.size_alloc]
  have kL5 : LogAt w5 lg p f q g 0 none 0 0 false := Blk.fr kL (f4.trans f45 fun _ _ h => h) id
  have f05 : Fr NoB w w5 := ((f1.trans f3 fun _ _ h => h).trans f4 fun _ _ h => h).trans f45 fun _ _ h => h
  obtain ⟨w6, hw6⟩ : ∃ w6, w6 = w5.alloc (.cells #[.pointer (some ⟨lg, 0, none⟩)] 116) := ⟨_, rfl⟩
  have kb : Blk w6 (B + 3) 116 #[.pointer (some ⟨lg, 0, none⟩)] := by rw [hw6, ← s5]; exact Blk.new _ _ _
  have f56 : Fr NoB w5 w6 := by rw [hw6]; exact (Fr.refl _ _).alloc _
  have s6 : w6.heap.size = B + 4 := by rw [hw6, World.size_alloc, s5]
  have kL6 : LogAt w6 lg p f q g 0 none 0 0 false := Blk.fr kL5 f56 id
  have HR := Lib.hid (logRecords_any w5 lg)
  rw [← hw6, s5] at HR
  rw [show w4.heap.size = B from hB.symm]
  have S5 := Lib.hid s5
  clear hB hw5 hw6 s5 f45 kL kL5 f3 f4 f1 hlg HO HH0 HH1 HL HS
  gi_wp2_with (refine ⟨trivial, ?_⟩
               gi_at_call 49
               refine (callsIn_wide.2 HR.out).mono ?_
               rintro e w7 ⟨rfl, h7⟩
               rw [h7])
  refine wpIn_rangeFuncW (gf := 98) (lb := #[.pointer (some ⟨B + 3, 0, none⟩)]) rfl (enters_of Tryz.func98 (by kernel_rfl) rfl)
    (recs0_seq 6 (by omega) w6 (B + 3) lg p f q g 0 0 none false kb kL6) (fun x => x.elim)
    (fun _ W => Fr NoB w5 W) (fun _ _ _ => False) ?hI (fun _ _ _ _ h _ => h) ⟨id, id⟩ ⟨id, id⟩ (fun _ _ _ _ h _ => h) f56
    (fun _ _ _ => True) (fun _ _ _ _ h _ => h) (fun _ x => x.elim) (fun _ x => x.elim) ?done (fun _ _ _ h _ => h.elim) (fun _ _ _ h _ => h) (fun _ _ _ h _ => h)
  case hI =>
    intro pre P Q hP hf
    exact hP.new hf fun j hj => .inr (by have := S5.out; rcases hj with h | h | h; exact h.elim; omega; omega)
  case done =>
    intro xs W _ hW hK
    have c13 := (k13.fr hW id).cell_0
    have c14 := (k14.fr hW id).cell_0
    have HK := Lib.hid hK
    clear hK
    have c14' : W.cell? ⟨B + 1 + 1, 0, none⟩ = some (.int .i64 0) := c14
    gi_wp2
    refine ⟨by simp, .inl ⟨_, _, rfl, run_takeDeferred HK.out, ?_⟩⟩
    have hfp : ∀ {o : Obj}, Fr (fun j => j = w6.heap.size) W (W.putObj w6.heap.size o) := fun {o} => (Fr.refl (fun j => j = w6.heap.size) W).putObj (.inl rfl) o
    exact ⟨_, results_tmp2 rfl _ _ _, B, rfl, (f05.trans hW fun _ _ h => h).new hfp fun j hj => .inr (by have := f05.size; have := S5.out; omega)⟩
end Go.Proofs.YtnplamcajjblkaaGreat
