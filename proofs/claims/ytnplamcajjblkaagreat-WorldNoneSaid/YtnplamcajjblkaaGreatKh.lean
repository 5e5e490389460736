/-
  Words of bytes, the lowest byte ahead (vec.Words). Conditions: each contract states its own.
-/
import Derived.Test.YtnplamcajjblkaaGreatKg
namespace Go.Proofs.YtnplamcajjblkaaGreat
open Go.RowKit Go.Shelf
attribute [local go_sem] Oper.semAt_some

def le32 (l : List UInt8) : Nat := l.foldr (fun c x => c.toNat + 256 * x) 0
def wordsL (l : List UInt8) : List Nat := (List.range (l.length / 4)).map fun k => le32 (pieceAt l 4 k)
theorem el_u32 : ElemOk Tryz.prog 220 22 (.int .u32 0) 1 4 := .mk Tryz.underlying220 (by kernel_rfl) rfl (by omega) (by omega)
theorem bits_or_u32 (x y : Nat) (hx : x < 4294967296) (hy : y < 4294967296) : bits .or .u32 (x : Int) (y : Int) = ((x ||| y : Nat) : Int) := by
  have h : x ||| y < 4294967296 := Nat.or_lt_two_pow (n := 32) hx hy
  have e1 : (BitVec.ofInt IntKind.u32.bits (x : Int)) = BitVec.ofNat 32 x := by show BitVec.ofInt 32 (x : Int) = _; exact BitVec.ofInt_natCast 32 x
  have e2 : (BitVec.ofInt IntKind.u32.bits (y : Int)) = BitVec.ofNat 32 y := by show BitVec.ofInt 32 (y : Int) = _; exact BitVec.ofInt_natCast 32 y
  unfold bits
  simp only
  rw [e1, e2, IntKind.wrap_u32]
  show (((BitVec.ofNat 32 x ||| BitVec.ofNat 32 y).toNat : Nat) : Int) % 4294967296 = _
  rw [BitVec.toNat_or, BitVec.toNat_ofNat, BitVec.toNat_ofNat, Nat.mod_eq_of_lt (by omega), Nat.mod_eq_of_lt (by omega)]
  omega
theorem or_add (x v i : Nat) (h : x < 2 ^ i) : x ||| (v * 2 ^ i) = x + v * 2 ^ i := by
  have := Nat.shiftLeft_add_eq_or_of_lt h v
  rw [Nat.shiftLeft_eq] at this
  rw [Nat.or_comm, ← this, Nat.add_comm]
theorem le32_snoc : ∀ (l : List UInt8) (c : UInt8), le32 (l ++ [c]) = le32 l + c.toNat * 256 ^ l.length
  | [], c => by simp [le32]
  | a :: l, c => by
    have := le32_snoc l c
    unfold le32 at this ⊢
    rw [List.cons_append, List.foldr_cons, this, List.foldr_cons, List.length_cons, Nat.pow_succ]
    rw [Nat.mul_add, Nat.mul_comm (256 ^ l.length) 256, ← Nat.mul_assoc, ← Nat.mul_assoc, Nat.mul_comm 256 c.toNat]
    omega
theorem le32_lt : ∀ (l : List UInt8), le32 l < 256 ^ l.length
  | [] => by simp [le32]
  | a :: l => by
    have := le32_lt l
    have ha := a.toNat_lt
    unfold le32 at this ⊢
    rw [List.foldr_cons, List.length_cons, Nat.pow_succ]
    omega
/-- One more byte of a word. -/
theorem word_step (l : List UInt8) (j : Nat) (c : UInt8) (hj : j < 4) (h : l[j]? = some c) :
    bits .or .u32 (le32 (l.take j) : Int) ((c.toNat * 256 ^ j : Nat) : Int) = (le32 (l.take (j + 1)) : Int) := by
  have hl : (l.take j).length = j := by rw [List.length_take]; have := (List.getElem?_eq_some_iff.1 h).1; omega
  have h1 := le32_lt (l.take j)
  rw [hl] at h1
  have hc := c.toNat_lt
  have e : (256 : Nat) ^ j = 2 ^ (8 * j) := by rw [Nat.pow_mul]
  have h3 : (256 : Nat) ^ j ≤ 16777216 := by
    rcases (by omega : j = 0 ∨ j = 1 ∨ j = 2 ∨ j = 3) with rfl | rfl | rfl | rfl <;> decide
  have h4 : c.toNat * 256 ^ j ≤ 255 * 16777216 := Nat.mul_le_mul (by omega) h3
  rw [bits_or_u32 _ _ (by omega) (by omega), take_snocK h, le32_snoc, hl, e, or_add _ _ _ (by rw [← e]; exact h1)]
section
variable {P : Program} {ops : Array Oper} {o : Oper} {a : Act} {w : World}
theorem exec_make0K {t e : TypeId} {z : Value} {size bytes : Nat} (E : ElemOk P t e z size bytes) (l c : Operand) (ho : o.op = .makeSlice t l c) (kl kc : IntKind) (C : Int) (n : Nat) (hl : a.eval l = .int kl 0) (hc : a.eval c = .int kc C) (hC : C = (n : Int)) (hb : bytes * n ≤ 281474976710656) (h63 : n ≤ maxLen) :
    (execOp a.eval o).run P w = .ok (.value (.slice (some ⟨w.heap.size, 0, none⟩) 0 n)) (w.alloc (.cells (madeCells z.cells (n * size)) e)) := by
  obtain ⟨ht, ⟨i, hi, hz, hs, hby⟩, _⟩ := E
  subst hC hs hby
  have h3 : (n : Int) ≤ 9223372036854775807 := by unfold maxLen at h63; omega
  have hb' : (i.bytes : Int) * (n : Int) ≤ 281474976710656 := by
    have h : ((i.bytes * n : Nat) : Int) ≤ 281474976710656 := by omega
    rwa [Int.natCast_mul] at h
  have hr := run_make (P := P) w t e i z ht hi hz kl kc 0 n (Int.le_refl _) (by omega) hb' h3
  simp only [Int.toNat_zero, Int.toNat_natCast] at hr
  unfold execOp
  simp only [ho, hl, hc, Sem.run_bind, hr, Result.andThen_ok, Sem.run_pure]
end
theorem pieceAt_take {l : List UInt8} {q k : Nat} (h : k < q) : pieceAt (l.take (q * 4)) 4 k = pieceAt l 4 k := by
  unfold pieceAt
  rw [List.drop_take, List.take_take]
  congr 1
  omega
theorem pieceAt_len {l : List UInt8} {k : Nat} (h : k * 4 + 4 ≤ l.length) : (pieceAt l 4 k).length = 4 := by
  unfold pieceAt
  rw [List.length_take, List.length_drop]
  omega
theorem wordsL_len (l : List UInt8) : (wordsL l).length = l.length / 4 := by simp [wordsL]
theorem wordsL_at {l : List UInt8} {k : Nat} (h : k < l.length / 4) : (wordsL l)[k]? = some (le32 (pieceAt l 4 k)) := by
  unfold wordsL
  rw [List.getElem?_map, List.getElem?_range h]
  rfl
/-- What holds while the pieces come. -/
def WdI (w : World) (B q : Nat) (l : List UInt8) (pre : List Ch) (W : World) : Prop :=
  pre.length ≤ q ∧ ∃ A3 c3, Blk W (B + 1) 220 #[.slice A3 pre.length c3] ∧ Own W 22 1 A3 pre.length c3 (((wordsL l).take pre.length).map u32v) ∧ (∀ j, inB A3 j → j = B ∨ B + 6 ≤ j) ∧ Fr NoB w W

set_option maxRecDepth 100000 in
set_option maxHeartbeats 4000000 in
theorem vecWords_any (w : World) (F : Nat → Prop) (A : Option Addr) (n c : Nat) (l : List UInt8) (h : Byt w F A n l) (hF : ∀ k, F k → k < w.heap.size) (hnc : n ≤ c) (hn : n ≤ 1000000) :
    Calls Tryz.prog 93 #[.slice A n c] w fun e w' => ∃ A' c', e = .returned (.slice A' (n / 4 : Nat) c') ∧ Fr NoB w w' ∧ Own w' 22 1 A' (n / 4) c' ((wordsL l).map u32v) ∧ ∀ j, inB A' j → w.heap.size ≤ j := by
  obtain ⟨B, hB⟩ : ∃ B, B = w.heap.size := ⟨_, rfl⟩
  obtain ⟨q, hq⟩ : ∃ q, q = n / 4 := ⟨_, rfl⟩
  have hln := h.len
  have hq4 : q * 4 ≤ n := by omega
  have hqd : (n : Int).tdiv 4 = (q : Int) := by rw [Int.tdiv_eq_ediv_of_nonneg (by omega)]; omega
  have hFB : ∀ k, F k → k < B := by rw [hB]; exact hF
  obtain ⟨w1, hw1⟩ : ∃ w1, w1 = w.alloc (.cells (madeCells (Value.int .u32 0).cells (q * 1)) 22) := ⟨_, rfl⟩
  have hf1 : Fr NoB w w1 := by rw [hw1]; exact (Fr.refl _ _).alloc _
  have hO1 : Own w1 22 1 (some ⟨B, 0, none⟩) 0 q [] := by
    rw [hw1, hB]
    exact World.ownsRow_made w _ q (Nat.zero_le _) (by unfold maxLen; omega) (by rw [size_madeCells])
  have hs1 : w1.heap.size = B + 1 := by rw [hw1, hB, World.size_alloc]
  have HB := Lib.hid hB
  have Hw1 := Lib.hid hw1
  have Hq := Lib.hid hq
  have Hln := Lib.hid hln
  rw [← hq]
  clear hB hw1 hq hln
  refine (callsIn_wide (n := 7)).1 ?_
  refine callsIn_of_wp_marks Tryz.func93 rfl trivial ?_ rfl
  simp only [Tryz.ntmps93, List.size_toArray, List.length_cons, List.length_nil, Nat.reduceAdd, Nat.reduceSub, Array.replicate_succ, Array.replicate_zero, List.push_toArray, List.append_toArray, List.nil_append, List.cons_append]
  have hq0 : (0 : Int) ≤ (q : Int) := by omega
  gi_wp2_with (first
    | (refine wpListIn_run (by simp [Region.wanted]) (fun f hf => by simp [Oper.about] at hf) (fun c hc => by cases hc) (exec_make0K el_u32 (.const (.int .i64 0)) (.tmp 10) rfl .i64 .i64 _ q rfl rfl rfl (by omega) (by unfold maxLen; omega)) ?_
       rw [← Hw1.out]
       rw [← HB.out])
    | (refine ⟨trivial, ?_⟩
       gi_at_call 157
       obtain ⟨w2, hw2⟩ : ∃ w2, w2 = w1.alloc (.cells #[.slice (some ⟨B, 0, none⟩) 0 q] 220) := ⟨_, rfl⟩
       rw [← hw2]
       have hf2 : Fr NoB w1 w2 := by rw [hw2]; exact (Fr.refl _ _).alloc _
       have hs2 : w2.heap.size = B + 2 := by rw [hw2, World.size_alloc, hs1]
       have k2 : Blk w2 (B + 1) 220 #[.slice (some ⟨B, 0, none⟩) 0 q] := by rw [hw2, ← hs1]; exact Blk.new _ _ _
       refine (callsIn_wide.2 (Chunks_any _ _ _ _ _)).mono ?_
       rintro e w3 ⟨rfl, hw3⟩
       rw [hs2]
       have hf3 : Fr NoB w2 w3 := by rw [hw3]; exact ((Fr.refl _ _).alloc _).alloc _
       have hs3 : w3.heap.size = B + 4 := by rw [hw3, World.size_alloc, World.size_alloc, hs2]
       have hbb : Blk w3 (B + 2) 28 #[.slice A (q * 4) c] := by rw [hw3, ← hs2]; exact (Blk.new _ _ _).alloc _
       have hbn : Blk w3 (B + 3) 3 #[.int .i64 ((4 : Nat) : Int)] := by
         have := Blk.new (w2.alloc (.cells #[.slice A (q * 4) c] 28)) 3 #[.int .i64 4]
         rw [World.size_alloc, hs2] at this
         rw [hw3]
         exact this
       have hf03 : Fr NoB w w3 := (hf1.trans hf2 fun _ _ => id).trans hf3 fun _ _ => id
       have hA3 : Byt w3 F A (q * 4) (l.take (q * 4)) := (h.fr hf03 fun _ _ => id).take hq4
       have hI3 : WdI w B q l [] w3 := ⟨Nat.zero_le _, some ⟨B, 0, none⟩, q, k2.fr hf3 id, by simpa using (hO1.fr hf2 fun _ _ => id).fr hf3 fun _ _ => id, fun j hj => by rw [inB_some] at hj; exact .inl hj.symm, hf03⟩
       clear hw2 hw3 hf2 hf3 hO1 hs1 hs2 k2))
  refine wpIn_rangeFuncW (gf := 235) (lb := #[.pointer (some ⟨B + 3, 0, none⟩), .pointer (some ⟨B + 2, 0, none⟩)]) rfl (enters_of Tryz.func235 (by kernel_rfl) rfl)
    (Chunks1_seq 6 (by omega) w3 (B + 3) (B + 2) 4 F (fun j => j = B ∨ j = B + 1 ∨ B + 6 ≤ j) A (q * 4) c (l.take (q * 4)) hbn hbb hA3 (by omega) (by omega) (by omega) (by omega) ⟨fun j hj => by have := hFB j hj; omega, by omega, by omega⟩) (fun _ => rfl)
    (fun (pre : List Ch) W => WdI w B q l pre W)
    (fun _ _ _ => False) ?hI (fun _ _ _ _ h _ => h) ⟨id, id⟩ ⟨by omega, by omega⟩ ?hGs hI3
    (fun (x : Ch) a' _ => ∃ s0 s1 s2 s5 s6 s7 s8 s9 s10 s11 s12 s13 s14 s15 s16 s17 s18 s19 s20 s21 s22 s23 s24 s25 s26 s27 s28 s29 s30 s31 s32 s33 s34 s35 s36 s37 s38 s39, a' = { tmps := #[s0, s1, s2, .pointer (some ⟨B + 1, 0, none⟩), .slice x.A x.b.length x.c, s5, s6, s7, s8, s9, s10, s11, s12, s13, s14, s15, s16, s17, s18, s19, s20, s21, s22, s23, s24, s25, s26, s27, s28, s29, s30, s31, s32, s33, s34, s35, s36, s37, s38, s39], defers := [] }) (fun _ _ _ _ h _ => h) ?assign ?body ?done (fun _ _ _ _ h _ => h.elim) (fun _ _ _ h _ => h) (fun _ _ _ h _ => h)
  case hI =>
    rintro pre P Q ⟨q1, A3, c3, q2, q3, q4, q5⟩ hf0
    have hf := hf0.mono (S' := fun k => k = w3.heap.size ∨ k = w3.heap.size + 1) fun j _ h => h.elim (fun h => h.elim) id
    exact ⟨q1, A3, c3, q2.fr hf (by omega), q3.fr hf (fun j hj h => by have := q4 j hj; omega), q4, q5.new hf fun j hj => .inr (by have := HB.out; omega)⟩
  case hGs =>
    rintro pre x P Q ⟨g1, g2, g3, g4, g5, g6⟩ hf
    exact ⟨g1, g2, g3, g4, g5.fr hf (fun j hj h => by omega), Nat.le_trans g6 hf.size⟩
  case assign =>
    intro lp x W K hsz hK
    unfold Ch.enc
    simp only [params_one]
    gi_wp2
    exact hK _ _ (Fr.refl NoB W) ⟨_, _, _, _, _, _, _, _, _, _, _, _, _, _, _, _, _, _, _, _, _, _, _, _, _, _, _, _, _, _, _, _, _, _, _, _, _, _, rfl⟩
  case body =>
    rintro pre ⟨XA, xc, xb⟩ W a' ⟨hpq, A3, c3, i1, i2, i3, i4⟩ ⟨gp, gl, g3, g4, g5, g6⟩ ⟨s0, s1, s2, s5, s6, s7, s8, s9, s10, s11, s12, s13, s14, s15, s16, s17, s18, s19, s20, s21, s22, s23, s24, s25, s26, s27, s28, s29, s30, s31, s32, s33, s34, s35, s36, s37, s38, s39, rfl⟩ hsz
    dsimp only at gp g3 g4 g5
    rw [hs3] at g5 g6
    have hlt : pre.length < q := by rw [List.length_take] at gl; omega
    rw [pieceAt_take hlt] at gp
    have hx4 : xb.length = 4 := by rw [gp]; exact pieceAt_len (by have := Hln.out; omega)
    have Hgp := Lib.hid gp
    have Hx4 := Lib.hid hx4
    have c1 := i1.cell_0
    have z1 := i1.frozen 0
    clear gp gl
    gi_wp2
    gi_loopw [22, 5] (fun v v5 wr => ∃ j : Nat, j ≤ 4 ∧ v = .int .i64 j ∧ v5 = .int .u32 (le32 (xb.take j) : Int) ∧ Fr NoB W wr) (fun v _ _ => 4 - (intOf v).toNat)
    case atStart => exact ⟨0, by omega, rfl, rfl, Fr.refl _ _⟩
    case round =>
      obtain ⟨j, hj, rfl, rfl, hf4⟩ := hrel
      obtain ⟨w4, rfl⟩ : ∃ w4 : World, w4 = wr := ⟨_, rfl⟩
      by_cases hj4 : j < 4
      · obtain ⟨b, o, y, x, rfl, _, hc, hyx, hy, hxj, _⟩ := (g5.fr hf4 fun _ _ => id).get (by rw [hx4]; exact hj4)
        have hst := word_step xb j x hj4 hxj
        rw [← hyx] at hst
        have Hst := Lib.hid hst
        clear hst hyx hxj
        rcases (by omega : j = 0 ∨ j = 1 ∨ j = 2 ∨ j = 3) with rfl | rfl | rfl | rfl
        all_goals try simp only [Nat.add_zero] at hc
        all_goals
          gi_wp2
        · exact ⟨⟨1, by omega, rfl, congrArg _ (by have := Hst.out; simpa using this), hf4⟩, by decide⟩
        · exact ⟨⟨2, by omega, rfl, congrArg _ (by have := Hst.out; simpa using this), hf4⟩, by decide⟩
        · exact ⟨⟨3, by omega, rfl, congrArg _ (by have := Hst.out; simpa using this), hf4⟩, by decide⟩
        · exact ⟨⟨4, by omega, rfl, congrArg _ (by have := Hst.out; simpa using this), hf4⟩, by decide⟩
      · obtain rfl : j = 4 := by omega
        have hxt : xb.take 4 = xb := List.take_of_length_le (by omega)
        have i1' := i1.fr hf4 id
        have c1 := i1'.cell_0
        have z1 := i1'.frozen 0
        have s4 := hf4.size
        have hob : ¬ inB A3 (B + 1) := fun h => by have := i3 _ h; omega
        have hobn : ¬ inB A3 w4.heap.size := fun h => by have := i2.lt h; omega
        rw [hxt]
        clear z1 c1
        have c1 := i1'.cell_0
        have z1 := i1'.frozen 0
        have hn2 : (pre.length + 1) * 4 ≤ 140737488355328 := by omega
        gi_wp2_with (first
          | (gi_at_builtin; go_loud (refine wpListIn_app el_u32 rfl (.tmp 35) (.tmp 37) rfl A3 pre.length c3 _ rfl ((i2.fr hf4 fun _ _ h => h).alloc _) _ _ 1 1 _ rfl (Arr.new _ _ #[.int .u32 (le32 xb : Int)] 1 1 rfl) (by simp [Value.oneCell']) hn2 ?_); intro A4 c4 w5 hown4 hf5 hin4 hnil4; go_loud (have c54 := hf5.cell' (i1'.alloc _).cell_0 hob); go_loud (have f54 := ((i1'.alloc _).fr hf5 hob).frozen 0); clear c1 z1))
        have hsz5 := hf5.size
        simp only [World.size_alloc] at hsz5 hin4
        have hWB : W.heap.size ≥ B + 6 := by omega
        have hstep : Fr (fun j => j = B ∨ j = B + 1 ∨ B + 6 ≤ j) W (w5.setCell ⟨B + 1, 0, none⟩ (.slice A4 (pre.length + 1) c4)) := (((hf4.mono fun _ _ h => h.elim).alloc _).trans hf5 fun j _ h => by have := i3 j h; omega).set_ (.inl (.inr (.inl rfl))) _ _
        have hstep0 : Fr NoB w (w5.setCell ⟨B + 1, 0, none⟩ (.slice A4 (pre.length + 1) c4)) := i4.new hstep fun j hj => .inr (by have := HB.out; omega)
        have hat := wordsL_at (l := l) (k := pre.length) (by rw [Hln.out, ← Hq.out]; exact hlt)
        have ht : (wordsL l).take (pre.length + 1) = (wordsL l).take pre.length ++ [le32 xb] := by rw [take_snocK hat, Hgp.out]
        refine ⟨hstep, by rw [List.length_append, List.length_singleton]; omega, A4, c4, ?_, ?_, fun j hj => (hin4 j hj).elim (i3 j) fun h => by omega, hstep0⟩
        · rw [List.length_append, List.length_singleton]
          simpa using ((i1'.alloc _).fr hf5 hob).set_ 0 (.slice A4 (pre.length + 1) c4)
        · rw [List.length_append, List.length_singleton, ht, List.map_append]
          exact hown4.set_ (fun hj => (hin4 _ hj).elim hob (fun h => by omega)) _ _
  case done =>
    rintro xs W hS ⟨hpq, A3, c3, i1, i2, i3, i4⟩ hK
    have hlt : (l.take (q * 4)).length = q * 4 := by rw [List.length_take]; have := Hln.out; omega
    rw [hlt] at hS
    obtain rfl : xs.length = q := by omega
    have c1 := i1.cell_0
    have hT : (wordsL l).take xs.length = wordsL l := List.take_of_length_le (by rw [wordsL_len, Hln.out, ← Hq.out]; exact Nat.le_refl _)
    rw [hT] at i2
    have HK := Lib.hid hK
    clear hK hlt hT hS
    gi_wp2
    refine ⟨by simp, .inl ⟨_, _, rfl, run_takeDeferred HK.out, ?_⟩⟩
    have hfp : ∀ {o : Obj}, Fr (fun j => j = w3.heap.size) W (W.putObj w3.heap.size o) := fun {o} => (Fr.refl (fun j => j = w3.heap.size) W).putObj (.inl rfl) o
    exact ⟨_, results_tmp rfl _ _ _, A3, c3, rfl, i4.new hfp fun j hj => .inr (by have := HB.out; omega), i2.fr hfp fun j hj h => by have := i3 j hj; omega, fun j hj => by have := i3 j hj; have := HB.out; omega⟩
end Go.Proofs.YtnplamcajjblkaaGreat
