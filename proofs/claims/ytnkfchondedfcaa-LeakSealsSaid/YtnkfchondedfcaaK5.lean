/-
  An id that is read (wire.id; the document's Reader.Id), and a first byte (wire.begun). Conditions: each contract states its own.
-/
import Derived.Test.YtnkfchondedfcaaK2
import Derived.Laws.IdiomStrings
import Derived.Test.YtnkfchondedfcaaK4
import Derived.Test.YtnkfchondedfcaaK1
import Derived.Test.YtnkfchondedfcaaK3
import Derived.Laws.CopyRow
import Derived.Laws.IdiomCopy
namespace Go.Proofs.Ytnkfchondedfcaa
section
open Go.RowKit

/-- Block g is a row that begins with the bytes l, als a conversion lays it. -/
def StrRow (w : World) (g : Nat) (t : TypeId) (l : List UInt8) : Prop :=
  ∃ cs : Array Value, w.heap[g]? = some (.cells cs t (cs.size, cs.size + 1)) ∧ l.length ≤ cs.size ∧ cs.toList.take l.length = l.map bv

section
variable {w w' : World} {g : Nat} {t : TypeId} {l : List UInt8} {S : Nat → Prop}
theorem StrRow.lt (h : StrRow w g t l) : g < w.heap.size := by
  obtain ⟨cs, h, _⟩ := h
  exact (Array.getElem?_eq_some_iff.1 h).1
theorem StrRow.fr (h : StrRow w g t l) (hf : Fr S w w') (hd : ¬ S g) : StrRow w' g t l := by
  have hlt := h.lt
  obtain ⟨cs, h, h2⟩ := h
  exact ⟨cs, (hf.block g hlt hd).trans h, h2⟩
theorem StrRow.get (h : StrRow w g t l) {j : Nat} (hj : j < l.length) : w.cell? ⟨g, j, none⟩ = some (bv l[j]) := by
  obtain ⟨cs, h, h1, h2⟩ := h
  rw [cell_of_row w g j cs t _ h]
  have := congrArg (·[j]?) h2
  simp only [List.getElem?_take, hj, if_true, List.getElem?_map, List.getElem?_eq_getElem hj, Option.map_some] at this
  simpa using this
theorem StrRow.frozen (h : StrRow w g t l) {j : Nat} (hj : j < l.length) : w.frozen? ⟨g, j, none⟩ = false := by
  obtain ⟨cs, h, h1, h2⟩ := h
  simp [World.frozen?, h]
  omega
theorem StrRow.set_ (h : StrRow w g t l) {j : Nat} (c : UInt8) : StrRow (w.setCell ⟨g, j, none⟩ (bv c)) g t (l.set j c) := by
  obtain ⟨cs, h, h1, h2⟩ := h
  refine ⟨cs.setIfInBounds j (bv c), ?_, by simpa using h1, ?_⟩
  · simp [World.setCell, Array.getElem?_modify, h]
  · rw [Array.toList_setIfInBounds, List.length_set, List.take_set, h2, List.map_set]
theorem StrRow.byt (h : StrRow w g t l) {F : Nat → Prop} (hF : F g) : Byt w F (some ⟨g, 0, none⟩) l.length l := by
  refine ⟨by simp, fun _ => ⟨g, 0, rfl, hF, fun j u hu => ?_⟩⟩
  have hj : j < l.length := by have := (List.getElem?_eq_some_iff.1 hu).1; simpa using this
  rw [Nat.zero_add, h.get hj]
  rw [List.getElem?_map, List.getElem?_eq_getElem hj] at hu
  exact hu
end

section
variable {P : Program} {ops : Array Oper} {rest : List Oper} {o : Oper} {a : Act} {w : World} {Q : Exit → Act → World → Prop}
theorem exec_str (src dst e : TypeId) (x : Operand) (ho : o.op = .convert src dst x) (hs : P.underlying src = some .string) (hd : P.underlying dst = some (.slice e)) (he : P.underlying e = some (.int .u8)) (s : ByteArray) (hx : a.eval x = .string s) (hl : s.size ≤ maxLen) :
    ∃ g c W, (execOp a.eval o).run P w = .ok (.value (.slice (some ⟨g, 0, none⟩) s.size c)) W ∧ w.heap.size ≤ g ∧ StrRow W g e s.data.toList ∧ Fr NoB w W ∧ s.size ≤ c ∧ c ≤ maxLen ∧ W.heap.size = w.heap.size + 1 := by
  have hr := run_bytes_of_string (P := P) w src dst e s hs hd he
  obtain ⟨C, hC⟩ : ∃ C, C = grownCap w s.size 0 e := ⟨_, rfl⟩
  have h1 := grownCap_ge w s.size 0 e
  have h2 := grownCap_le_maxLen w s.size 0 e hl
  rw [← hC] at hr h1 h2
  have hsz : s.data.size = s.size := rfl
  refine ⟨w.heap.size, C, (w.drew.alloc (.cells (bytesRow s C) e ((bytesRow s C).size, (bytesRow s C).size + 1))), ?_, Nat.le_refl _, ⟨bytesRow s C, heap_alloc_new _ _, ?_, ?_⟩, ((Fr.refl NoB w).drew).alloc _, h1, h2, World.size_alloc _ _⟩
  · unfold execOp
    simp only [ho, hx, Sem.run_bind, hr, Result.andThen_ok, Sem.run_pure]
  · simp [bytesRow]
  · simp [bytesRow]
    exact fun _ _ => rfl
theorem wpList_str (hgd : o.guard = none) (src dst e : TypeId) (x : Operand) (ho : o.op = .convert src dst x) (hs : P.underlying src = some .string) (hd : P.underlying dst = some (.slice e)) (he : P.underlying e = some (.int .u8)) (s : ByteArray) (hx : a.eval x = .string s) (hl : s.size ≤ maxLen)
    (h : ∀ g c W, w.heap.size ≤ g → StrRow W g e s.data.toList → Fr NoB w W → s.size ≤ c → c ≤ maxLen → wpList P ops Q rest (a.put o.dst (.slice (some ⟨g, 0, none⟩) s.size c)) W) : wpList P ops Q (o :: rest) a w := by
  obtain ⟨g, c, W, h1, h2, h3, h4, h5, h6, _⟩ := exec_str (P := P) (w := w) src dst e x ho hs hd he s hx hl
  exact wpList_run (by simp [Region.wanted, hgd]) h1 (h g c W h2 h3 h4 h5 h6)
end
end

section
open Go.RowKit

def goodC (c : UInt8) : Bool := !(c == 0) && !(c == 47)
def goodS (s : ByteArray) : Bool := !s.toList.isEmpty && (decide (s.size ≤ 64) && (!(s.toList == [46]) && (!(s.toList == [46, 46]) && s.toList.all goodC)))
theorem goodC_of {c : UInt8} (h0 : ¬ c.toNat = 0) (h1 : ¬ c.toNat = 47) : goodC c = true := by
  have a : ¬ c = 0 := fun h => by subst h; exact h0 rfl
  have b : ¬ c = 47 := fun h => by subst h; exact h1 rfl
  simp [goodC, a, b]
theorem goodC_zero {c : UInt8} (h : c.toNat = 0) : goodC c = false := by
  have : c = 0 := UInt8.toNat_inj.1 h
  simp [goodC, this]
theorem goodC_stroke {c : UInt8} (h : c.toNat = 47) : goodC c = false := by
  have : c = 47 := UInt8.toNat_inj.1 h
  simp [goodC, this]
theorem goodS_no {s : ByteArray} {c : UInt8} (hc : c ∈ s.toList) (h : goodC c = false) : goodS s = false := by
  have : s.toList.all goodC = false := by rw [List.all_eq_false]; exact ⟨c, hc, by rw [h]; simp⟩
  simp [goodS, this]
theorem toList_len (s : ByteArray) : s.toList.length = s.size := by rw [ByteArray.toList_eq]; rfl

set_option maxRecDepth 100000 in
set_option maxHeartbeats 2000000 in
theorem Good_any (w : World) (s : ByteArray) (hs : s.size ≤ maxLen) :
    Calls Try.prog 116 #[.string s] w fun e w' => e = .returned (.bool (goodS s)) ∧ Fr NoB w w' := by
  obtain ⟨l, hl⟩ : ∃ l, l = s.toList := ⟨_, rfl⟩
  have hll : l.length = s.size := by rw [hl]; exact toList_len s
  have Hll := Lib.hid hll
  have hdef : goodS s = (!l.isEmpty && (decide (s.size ≤ 64) && (!(l == [46]) && (!(l == [46, 46]) && l.all goodC)))) := by rw [hl]; rfl
  have Hdef := Lib.hid hdef
  have hno : ∀ c ∈ l, goodC c = false → goodS s = false := fun c hc => goodS_no (hl ▸ hc)
  have Hno := Lib.hid hno
  have Hl := Lib.hid hl
  clear hll hdef hno
  cases e0 : l.isEmpty with
  | true =>
    rw [hl] at e0
    have He : Hid (goodS s = false) := by show _ = _; rw [Hdef.out, Hl.out, e0]; rfl
    clear hl
    go_enter Try.func116, Try.ntmps116
    go_wp2
    go_ret
    exact ⟨ret_bool He.out.symm, Fr.refl _ _⟩
  | false =>
    rw [hl] at e0
    by_cases h1 : s.size ≤ 64
    · have b1 : decide (64 < (s.size : Int)) = false := by simp only [decide_eq_false_iff_not]; omega
      have d1 := decide_eq_true h1
      cases e2 : (l == [46]) with
      | true =>
        rw [hl] at e2
        have He : Hid (goodS s = false) := by show _ = _; rw [Hdef.out, Hl.out, e0, d1, e2]; rfl
        clear hl
        go_enter Try.func116, Try.ntmps116
        go_wp2
        go_ret
        exact ⟨ret_bool He.out.symm, Fr.refl _ _⟩
      | false =>
        rw [hl] at e2
        cases e3 : (l == [46, 46]) with
        | true =>
          rw [hl] at e3
          have He : Hid (goodS s = false) := by show _ = _; rw [Hdef.out, Hl.out, e0, d1, e2, e3]; rfl
          clear hl
          go_enter Try.func116, Try.ntmps116
          go_wp2
          go_ret
          exact ⟨ret_bool He.out.symm, Fr.refl _ _⟩
        | false =>
          rw [hl] at e3
          have he : goodS s = l.all goodC := by rw [Hdef.out, Hl.out, e0, d1, e2, e3]; simp
          have He := Lib.hid he
          clear he hl d1
          go_enter Try.func116, Try.ntmps116
          go_wp2_with (refine wpList_str rfl 9 22 5 (.tmp 20) rfl Try.underlying9 Try.underlying22 Try.underlying5 s rfl hs ?_; intro g c w1 hg hR hF hc1 hc2)
          rw [← ByteArray.toList_eq, ← Hl.out] at hR
          obtain ⟨w0, rfl⟩ : ∃ w0 : World, w0 = w1 := ⟨_, rfl⟩
          have hw1 : Fr NoB w w0 := hF
          go_loopw [23] (fun i wr => ∃ k : Nat, k ≤ s.size ∧ i = .int .i64 k ∧ (l.take k).all goodC = true ∧ wr = w0) (fun i _ => s.size - (intOf i).toNat)
          case atStart => exact ⟨0, by omega, rfl, rfl, rfl⟩
          case round =>
            obtain ⟨k, hk, rfl, hall, rfl⟩ := hrel
            have Hall := Lib.hid hall
            clear hall
            by_cases hkn : k < s.size
            · have hkl : k < l.length := by rw [Hll.out]; exact hkn
              have hcell := hR.get hkl
              have hmem : l[k] ∈ l := List.getElem_mem _
              have htk : (l.take (k + 1)) = l.take k ++ [l[k]] := List.take_succ_eq_append_getElem hkl
              generalize l[k] = x at *
              have Htk := Lib.hid htk
              have hx : x.toNat < 256 := UInt8.toNat_lt _
              rw [bv] at hcell
              clear htk
              by_cases x0 : x.toNat = 0
              · have Hn := Lib.hid (Hno.out x hmem (goodC_zero x0))
                rw [x0] at hcell
                clear hmem
                go_wp2
                go_ret
                exact ⟨ret_bool Hn.out.symm, hF⟩
              · have f0 : ((x.toNat : Int) == 0) = false := by simp; omega
                by_cases x1 : x.toNat = 47
                · have Hn := Lib.hid (Hno.out x hmem (goodC_stroke x1))
                  rw [x1] at hcell
                  clear hmem x0 f0
                  go_wp2
                  go_ret
                  exact ⟨ret_bool Hn.out.symm, hF⟩
                · have f1 : ((x.toNat : Int) == 47) = false := by simp; omega
                  have Hg := Lib.hid (goodC_of x0 x1)
                  clear hmem x0 x1
                  go_wp2
                  go_roundw
                  case rel => exact ⟨k + 1, by omega, by go_num, by rw [Htk.out, List.all_append, Hall.out]; simp [Hg.out], trivial⟩
                  case measure => (simp [intOf] <;> omega)
            · have ha := Hall.out
              rw [List.take_of_length_le (by rw [Hll.out]; omega), ← He.out] at ha
              have Ha := Lib.hid ha
              clear ha
              go_wp2
              go_ret
              exact ⟨ret_bool Ha.out.symm, hF⟩
    · have b1 : decide (64 < (s.size : Int)) = true := by simp only [decide_eq_true_eq]; omega
      have He : Hid (goodS s = false) := by show _ = _; rw [Hdef.out, Hl.out, e0, decide_eq_false h1]; rfl
      clear hl h1
      go_enter Try.func116, Try.ntmps116
      go_wp2
      go_ret
      exact ⟨ret_bool He.out.symm, Fr.refl _ _⟩

set_option maxRecDepth 100000 in
set_option maxHeartbeats 2000000 in
theorem refGood_any (w : World) (s : ByteArray) (hs : s.size ≤ maxLen) :
    Calls Try.prog 100 #[.string s] w fun e w' => e = .returned (.bool (goodS s)) ∧ w = w' := by
  obtain ⟨l, hl⟩ : ∃ l, l = s.toList := ⟨_, rfl⟩
  have hll : l.length = s.size := by rw [hl]; exact toList_len s
  have Hll := Lib.hid hll
  have hno : ∀ c ∈ l, goodC c = false → goodS s = false := fun c hc => goodS_no (hl ▸ hc)
  have Hno := Lib.hid hno
  have Hl := Lib.hid hl
  have hs63 : s.size ≤ 9223372036854775807 := by unfold maxLen at hs; omega
  clear hll hno
  go_enter Try.func100, Try.ntmps100
  go_wp2
  go_loopw [3] (fun i wr => ∃ k : Nat, k ≤ s.size ∧ i = .int .i64 k ∧ (l.take k).all goodC = true ∧ wr = w) (fun i _ => s.size - (intOf i).toNat)
  case atStart => exact ⟨0, by omega, rfl, rfl, rfl⟩
  case round =>
    obtain ⟨k, hk, rfl, hall, rfl⟩ := hrel
    have Hall := Lib.hid hall
    clear hall
    by_cases hkn : k < s.size
    · have hkl : k < l.length := by rw [Hll.out]; exact hkn
      have hmem : l[k] ∈ l := List.getElem_mem _
      have htk : (l.take (k + 1)) = l.take k ++ [l[k]] := List.take_succ_eq_append_getElem hkl
      have hge : s[k]'hkn = l[k] := by
        have : l[k]? = s.data.toList[k]? := by rw [hl, ByteArray.toList_eq]
        rw [List.getElem?_eq_getElem hkl, List.getElem?_eq_getElem (by simpa using hkn)] at this
        injection this with this
        exact this.symm
      rw [← hge] at hmem htk
      have Htk := Lib.hid htk
      have Hmem := Lib.hid hmem
      clear htk hmem hge hl
      by_cases x0 : (s[k]'hkn).toNat = 0
      · have Hn := Lib.hid (Hno.out _ Hmem.out (goodC_zero x0))
        have f0 : (((s[k]'hkn).toNat : Int) == 0) = true := by simp; omega
        clear x0
        go_wp2
        go_ret
        exact ⟨ret_bool Hn.out.symm, rfl⟩
      · have f0 : (((s[k]'hkn).toNat : Int) == 0) = false := by simp; omega
        by_cases x1 : (s[k]'hkn).toNat = 47
        · have Hn := Lib.hid (Hno.out _ Hmem.out (goodC_stroke x1))
          have f1 : (((s[k]'hkn).toNat : Int) == 47) = true := by simp; omega
          clear x0 x1
          go_wp2
          go_ret
          exact ⟨ret_bool Hn.out.symm, rfl⟩
        · have f1 : (((s[k]'hkn).toNat : Int) == 47) = false := by simp; omega
          have Hg := Lib.hid (goodC_of x0 x1)
          clear x0 x1
          go_wp2
          go_roundw
          case rel => exact ⟨k + 1, by omega, by go_num, by rw [Htk.out, List.all_append, Hall.out]; simp [Hg.out], trivial⟩
          case measure => (simp [intOf] <;> omega)
    · have ha := Hall.out
      rw [List.take_of_length_le (by rw [Hll.out]; omega)] at ha
      have hdef : goodS s = (!s.toList.isEmpty && (decide (s.size ≤ 64) && (!(s.toList == [46]) && !(s.toList == [46, 46])))) := by
        unfold goodS
        rw [← hl, ha]
        simp
      have hemp : s.toList.isEmpty = decide (s.size = 0) := by
        rw [← hl]
        cases l with
        | nil => have := Hll.out; rw [List.length_nil] at this; show true = _; rw [decide_eq_true this.symm]
        | cons a t => have := Hll.out; rw [List.length_cons] at this; show false = _; rw [decide_eq_false (by omega)]
      rw [hemp] at hdef
      have Hd := Lib.hid hdef
      clear ha hdef hemp hl
      by_cases h0 : s.size = 0
      · have c0 : decide (1 ≤ (s.size : Int)) = false := by simp only [decide_eq_false_iff_not]; omega
        have He : Hid (goodS s = false) := by show _ = _; rw [Hd.out, decide_eq_true h0]; rfl
        clear h0
        go_wp2
        go_ret
        exact ⟨ret_bool He.out.symm, rfl⟩
      · have c0 : decide (1 ≤ (s.size : Int)) = true := by simp only [decide_eq_true_eq]; omega
        by_cases h1 : s.size ≤ 64
        · have c1 : decide ((s.size : Int) ≤ 64) = true := by simp only [decide_eq_true_eq]; omega
          have he : goodS s = (!(s.toList == [46]) && !(s.toList == [46, 46])) := by rw [Hd.out, decide_eq_false h0, decide_eq_true h1]; simp
          cases e2 : (s.toList == [46]) with
          | true =>
            rw [e2] at he
            have He := Lib.hid he
            clear he h0 h1
            go_wp2
            go_ret
            exact ⟨ret_bool He.out.symm, rfl⟩
          | false =>
            rw [e2] at he
            cases e3 : (s.toList == [46, 46]) with
            | true =>
              rw [e3] at he
              have He := Lib.hid he
              clear he h0 h1
              go_wp2
              go_ret
              exact ⟨ret_bool He.out.symm, rfl⟩
            | false =>
              rw [e3] at he
              have He := Lib.hid he
              clear he h0 h1
              go_wp2
              go_ret
              exact ⟨ret_bool He.out.symm, rfl⟩
        · have c1 : decide ((s.size : Int) ≤ 64) = false := by simp only [decide_eq_false_iff_not]; omega
          have He : Hid (goodS s = false) := by show _ = _; rw [Hd.out, decide_eq_false h0, decide_eq_false h1]; rfl
          clear h0 h1
          go_wp2
          go_ret
          exact ⟨ret_bool He.out.symm, rfl⟩
end

section
open Go.RowKit

structure Ref where
  name : ByteArray
  id : Id32
deriving DecidableEq
def refCells (r : Ref) : List Value := .string r.name :: idCells r.id
theorem refCells_len (r : Ref) : (refCells r).length = 33 := by rw [refCells, List.length_cons, idCells_len]
def RefR (y : List Value) (r : Ref) : Prop := y = refCells r ∧ r.name.size ≤ maxLen
def Refs (w : World) (F : Nat → Prop) (A : Option Addr) (n : Nat) (l : List Ref) : Prop := ArrOf RefR w F 33 A n l
theorem Refs.fr {w w' : World} {F S : Nat → Prop} {A : Option Addr} {n : Nat} {l : List Ref} (h : Refs w F A n l) (hf : Fr S w w') (hd : ∀ k, F k → ¬ S k) : Refs w' F A n l := ArrOf.fr h hf hd fun _ _ _ hy => hy
/-- Slices of bytes, in blocks of F. -/
def Bytss (w : World) (F : Nat → Prop) (A : Option Addr) (n : Nat) (l : List (List UInt8)) : Prop := ArrOf (BytR w F) w F 1 A n l
theorem Bytss.fr {w w' : World} {F S : Nat → Prop} {A : Option Addr} {n : Nat} {l : List (List UInt8)} (h : Bytss w F A n l) (hf : Fr S w w') (hd : ∀ k, F k → ¬ S k) : Bytss w' F A n l := ArrOf.fr h hf hd fun _ _ _ hy => hy.fr hf hd
theorem BytR.more {w : World} {F G : Nat → Prop} {y : List Value} {l : List UInt8} (h : BytR w F y l) (hs : ∀ k, k < w.heap.size → F k → G k) : BytR w G y l := by
  obtain ⟨A, n, c, h1, h2, h3, h4⟩ := h
  exact ⟨A, n, c, h1, h2, h3, h4.more hs⟩
theorem Bytss.more {w : World} {F G : Nat → Prop} {A : Option Addr} {n : Nat} {l : List (List UInt8)} (h : Bytss w F A n l) (hs : ∀ k, k < w.heap.size → F k → G k) : Bytss w G A n l := ArrOf.more h (by omega) hs fun _ _ _ hy => hy.more hs

def risingF {α : Type} (f : α → List UInt8) : List α → Bool
  | a :: b :: t => Op.bytesLess (f a) (f b) && risingF f (b :: t)
  | _ => true
section
variable {α : Type} {f : α → List UInt8}
theorem risingF_snoc : ∀ (l : List α) (a b : α), risingF f (l ++ [a, b]) = (risingF f (l ++ [a]) && Op.bytesLess (f a) (f b))
  | [], a, b => by simp [risingF]
  | [x], a, b => by simp [risingF]
  | x :: y :: l, a, b => by
    have := risingF_snoc (y :: l) a b
    simp only [List.cons_append] at this ⊢
    rw [risingF, risingF, this, Bool.and_assoc]
theorem risingF_take {l : List α} {k : Nat} {a b : α} (ha : l[k]? = some a) (hb : l[k + 1]? = some b) : risingF f (l.take (k + 2)) = (risingF f (l.take (k + 1)) && Op.bytesLess (f a) (f b)) := by
  obtain ⟨h1, rfl⟩ := List.getElem?_eq_some_iff.1 ha
  obtain ⟨h2, rfl⟩ := List.getElem?_eq_some_iff.1 hb
  rw [List.take_succ_eq_append_getElem h2, List.take_succ_eq_append_getElem h1, List.append_assoc]
  exact risingF_snoc _ _ _
theorem risingF_mono : ∀ (l : List α) (k : Nat), risingF f l = true → risingF f (l.take k) = true
  | [], k, _ => by simp [risingF]
  | [x], 0, _ => rfl
  | [x], k + 1, _ => by simp [risingF]
  | x :: y :: l, 0, _ => rfl
  | x :: y :: l, 1, _ => rfl
  | x :: y :: l, k + 2, h => by
    rw [risingF, Bool.and_eq_true] at h
    have ih := risingF_mono (y :: l) (k + 1) h.2
    simp only [List.take_succ_cons] at ih ⊢
    rw [risingF, Bool.and_eq_true]
    exact ⟨h.1, ih⟩
theorem risingF_one (l : List α) : risingF f (l.take 1) = true := by
  cases l with
  | nil => rfl
  | cons a l => rfl
end
def refName (r : Ref) : List UInt8 := r.name.toList
def namedP (l : List Ref) : Bool := decide (l.length ≤ 100) && (l.all (fun r => goodS r.name) && risingF refName l)
structure Bun where
  refs : List Ref
  objs : List (List UInt8)
deriving DecidableEq
def bunCells (A : Option Addr) (n c : Nat) (B : Option Addr) (m d : Nat) : List Value := [.slice A n c, .slice B m d]
def BunR (w : World) (F : Nat → Prop) (y : List Value) (b : Bun) : Prop :=
  ∃ A n c B m d, y = bunCells A n c B m d ∧ n ≤ c ∧ c ≤ maxLen ∧ Refs w F A n b.refs ∧ m ≤ d ∧ d ≤ maxLen ∧ Bytss w F B m b.objs
theorem BunR.fr {w w' : World} {F S : Nat → Prop} {y : List Value} {b : Bun} (h : BunR w F y b) (hf : Fr S w w') (hd : ∀ k, F k → ¬ S k) : BunR w' F y b := by
  obtain ⟨A, n, c, B, m, d, h1, h2, h3, h4, h5, h6, h7⟩ := h
  exact ⟨A, n, c, B, m, d, h1, h2, h3, h4.fr hf hd, h5, h6, h7.fr hf hd⟩
def bunMay (b : Bun) : Bool := namedP b.refs && (decide (b.objs.length ≤ 2000) && b.objs.all envIs)
def refBytes (r : Ref) : List UInt8 := textBytes r.name.toList ++ r.id.1
def bunBytes (b : Bun) : List UInt8 := encN b.refs.length ++ (b.refs.flatMap refBytes ++ (encN b.objs.length ++ b.objs.flatMap textBytes))
theorem ref_size : (Try.prog.info? 162).map (·.size) = some 33 := by kernel_rfl
theorem ref_zero : ((Try.prog.info? 162).bind (·.zero)).map (·.cells.size) = some 33 := by kernel_rfl
theorem bun_size : (Try.prog.info? 112).map (·.size) = some 2 := by kernel_rfl
theorem bun_zero : ((Try.prog.info? 112).bind (·.zero)).map (·.cells.size) = some 2 := by kernel_rfl
theorem refCells_ones (r : Ref) : (refCells r).toArray.all (·.oneCell') = true := by
  rw [Array.all_eq_true_iff_forall_mem]
  intro u hu
  simp only [refCells, List.mem_toArray, List.mem_cons] at hu
  rcases hu with rfl | hu
  · rfl
  · exact bv_one r.id.1 u (by simpa [idCells] using hu)
/-- A ref in a block of its own. -/
structure RefBlk (w : World) (g : Nat) (r : Ref) : Prop where
  blk : Blk w g 162 (refCells r).toArray
section
variable {w w' : World} {g : Nat} {r : Ref} {S : Nat → Prop}
theorem RefBlk.fr (h : RefBlk w g r) (hf : Fr S w w') (hd : ¬ S g) : RefBlk w' g r := ⟨h.blk.fr hf hd⟩
theorem RefBlk.c0 (h : RefBlk w g r) : w.cell? ⟨g, 0, none⟩ = some (.string r.name) := (h.blk.cell 0).trans (by simp [refCells])
theorem RefBlk.byt (h : RefBlk w g r) : Byt w (fun k => k = g) (some ⟨g, 1, none⟩) 32 r.id.1 := by
  refine ⟨by simp [r.id.2], fun _ => ⟨g, 1, rfl, rfl, fun j u hu => ?_⟩⟩
  rw [h.blk.cell]
  simp only [refCells, List.getElem?_toArray, Nat.add_comm 1 j, List.getElem?_cons_succ]
  exact hu
theorem RefBlk.all (h : RefBlk w g r) : ∀ j u, (refCells r)[j]? = some u → w.cell? ⟨g, 0 + j, none⟩ = some u := fun j u hu => by rw [Nat.zero_add, h.blk.cell]; simpa using hu
end
end

section
open Go.RowKit Go.Shelf
attribute [local go_sem] Oper.semAt_some

section
variable {F : Fence} {nF : Nat} {P : Program} {ops : Array Oper} {rest : List Oper} {Q : Exit → Act → World → Prop} {o : Oper} {a : Act} {w w' : World} {v : Value}
theorem wpListIn_makeMap (hg : o.guard = none) (t : TypeId) (hop : o.op = .makeMap t none) (h : wpListIn F nF P ops Q rest (a.put o.dst (.map (some w.heap.size))) (w.alloc (.map #[] 0))) : wpListIn F nF P ops Q (o :: rest) a w := by
  refine wpListIn_plain hg fun K' hK' => ?_
  unfold Oper.wpIn
  refine ⟨by simp [Oper.about, hop], ?_⟩
  rw [Oper.semAt_plain F _ _ (by rw [hop]; intro c hc'; cases hc')]
  simp [execOp, hop, run_makeMap, Result.andThen]
  exact hK' _ _ h
theorem wpListIn_mapPut (hg : o.guard = none) (t : TypeId) (m x y : Operand) (hop : o.op = .mapUpdate t m x y) (mv xv yv : Value) (hm : a.eval m = mv) (hx : a.eval x = xv) (hy : a.eval y = yv)
    (hr : (Instr.mapUpdate t mv xv yv).run P w = .ok () w') (h : wpListIn F nF P ops Q rest (a.put o.dst undef) w') : wpListIn F nF P ops Q (o :: rest) a w := by
  refine wpListIn_plain hg fun K' hK' => ?_
  unfold Oper.wpIn
  refine ⟨by simp [Oper.about, hop], ?_⟩
  rw [Oper.semAt_plain F _ _ (by rw [hop]; intro c hc'; cases hc')]
  simp [execOp, hop, hm, hx, hy, hr, Result.andThen]
  exact hK' _ _ h
theorem wpListIn_mapGet (hg : o.guard = none) (t : TypeId) (m x : Operand) (ok : Bool) (hop : o.op = .lookup t m x ok) (mv xv : Value) (hm : a.eval m = mv) (hx : a.eval x = xv)
    (hr : (Instr.lookup t mv xv ok).run P w = .ok v w) (h : wpListIn F nF P ops Q rest (a.put o.dst v) w) : wpListIn F nF P ops Q (o :: rest) a w := by
  refine wpListIn_plain hg fun K' hK' => ?_
  unfold Oper.wpIn
  refine ⟨by simp [Oper.about, hop], ?_⟩
  rw [Oper.semAt_plain F _ _ (by rw [hop]; intro c hc'; cases hc')]
  simp [execOp, hop, hm, hx, hr, Result.andThen]
  exact hK' _ _ h
theorem wpListIn_mapLen (hg : o.guard = none) (t : TypeId) (m : Operand) (hop : o.op = Op.call { callee := Callee.builtin Builtin.len, args := #[m], argTypes := #[t] }) (mv : Value) (hm : a.eval m = mv)
    (hr : (Builtin.len_ #[t] o.type #[mv]).run P w = .ok v w) (h : wpListIn F nF P ops Q rest (a.put o.dst v) w) : wpListIn F nF P ops Q (o :: rest) a w := by
  refine wpListIn_plain hg fun K' hK' => ?_
  unfold Oper.wpIn
  refine ⟨by simp [Oper.about, hop, resolve, Target.leads, Sem.run_pure], ?_⟩
  rw [Oper.semAt_plain F _ _ (by rw [hop]; intro c hc'; cases hc')]
  simp [execOp, hop, resolve, invoke, builtin, hm, hr, Result.andThen]
  exact hK' _ _ h
end
theorem Met.len {w : World} {b : Nat} {l : List (List UInt8)} (h : Met w b l) (ty : TypeId) : (Builtin.len_ #[160] ty #[.map (some b)]).run Try.prog w = .ok (.int .i64 (l.length : Nat)) w := MapAt.len h Try.underlying160 ty

/-- The texts, each once, in the order met. -/
def dist (l : List (List UInt8)) : List (List UInt8) := l.foldl (fun a b => if b ∈ a then a else a ++ [b]) []
theorem dist_snoc (l : List (List UInt8)) (b : List UInt8) : dist (l ++ [b]) = if b ∈ dist l then dist l else dist l ++ [b] := by
  unfold dist
  rw [List.foldl_append]
  rfl
theorem dist_step {l : List (List UInt8)} {k : Nat} {b : List UInt8} (h : l[k]? = some b) : dist (l.take (k + 1)) = if b ∈ dist (l.take k) then dist (l.take k) else dist (l.take k) ++ [b] := by
  obtain ⟨hk, rfl⟩ := List.getElem?_eq_some_iff.1 h
  rw [List.take_succ_eq_append_getElem hk, dist_snoc]
theorem dist_len (l : List (List UInt8)) : ∀ k, (dist (l.take k)).length ≤ k
  | 0 => by simp [dist]
  | k + 1 => by
    have ih := dist_len l k
    rcases Nat.lt_or_ge k l.length with hk | hk
    · rw [dist_step (List.getElem?_eq_getElem hk)]
      split
      · omega
      · simp; omega
    · rw [List.take_of_length_le (by omega)]
      rw [List.take_of_length_le hk] at ih
      omega
/-- What is handed to a round: a number, and a text that lies in a row. -/
structure Tx where
  num : Nat
  A : Option Addr
  c : Nat
  b : List UInt8
def Tx.enc (x : Tx) : Array Value := #[.int .i64 (x.num : Nat), .slice x.A x.b.length x.c]
/-- What is known of what is handed to a round. -/
def TxAt (ls : List (List UInt8)) (B : Nat) (pre : List Tx) (x : Tx) (W : World) : Prop :=
  (∃ k, pre.map (·.b) = dist (ls.take k) ∧ ls[k]? = some x.b ∧ x.b ∉ dist (ls.take k)) ∧ x.num = pre.length ∧ x.b.length ≤ x.c ∧ x.c ≤ maxLen ∧ Byt W (fun k => B ≤ k) x.A x.b.length x.b ∧ B ≤ W.heap.size

set_option maxHeartbeats 400000 in
theorem Numbers_any (w : World) (B : Option Addr) (n d : Nat) :
    Calls Try.prog 63 #[.slice B n d] w fun e w' => e = .returned (.func (.func 98) #[] #[.pointer (some ⟨w.heap.size, 0, none⟩)]) ∧ w' = w.alloc (.cells #[.slice B n d] 100) := by
  go_enter Try.func63, Try.ntmps63
  go_wp2
  go_ret
  exact ⟨rfl, rfl⟩

set_option maxRecDepth 100000 in
set_option maxHeartbeats 4000000 in
theorem Numbers1_seq (m : Nat) (hm : 4 ≤ m) (w : World) (bs : Nat) (F T : Nat → Prop) (B : Option Addr) (n d : Nat) (ls : List (List UInt8)) (hbs : Blk w bs 100 #[.slice B n d]) (hS : Bytss w F B n ls) (hn : n ≤ 1000000) (hsm : ∀ b ∈ ls, b.length ≤ 1000000)
    (hT : (∀ k, F k → ¬ T k) ∧ ¬ T bs ∧ ¬ T (w.heap.size + 2)) :
    SeqW m Try.prog 98 #[.pointer (some ⟨bs, 0, none⟩)] Tx.enc (fun k => k = w.heap.size + 2) T (fun _ pre x W => TxAt ls (w.heap.size + 3) pre x W)
      (fun xs _ => xs.map (·.b) = dist ls) (fun _ _ => True) w := by
  intro lp J Jx W hF0 hl1 hl2 hJ hJx hY h0
  subst hl1
  have hbn := hbs.lt
  have hSt : Bytss w (fun k => F k ∧ k < w.heap.size) B n ls := hS.more fun k hk h => ⟨h, hk⟩
  have hml := hS.len
  have Hml := Lib.hid hml
  have hm1 : 1 ≤ m := by omega
  have hm2 : 1 ≤ m - 1 := by omega
  have Hsm := Lib.hid hsm
  clear hml hsm
  refine callsIn_of_wp Try.func98 rfl trivial ?_ rfl
  simp only [Try.ntmps98, List.size_toArray, List.length_cons, List.length_nil, Nat.reduceAdd, Nat.reduceSub, Array.replicate_succ, Array.replicate_zero, List.push_toArray, List.append_toArray, List.nil_append, List.cons_append]
  obtain ⟨W0, hW0⟩ : ∃ W0, W0 = W.alloc (.map #[] 0) := ⟨_, rfl⟩
  have hf0 : Fr NoB W W0 := by rw [hW0]; exact (Fr.refl _ _).alloc _
  have hM0 : Met W0 (w.heap.size + 2) [] := by rw [hW0, ← hl2]; exact MapAt.new W
  have hs0 : w.heap.size + 3 ≤ W0.heap.size := by rw [hW0]; simp; omega
  have hbW := (hbs.fr hF0 id).fr hf0 id
  have hSW := (hSt.fr hF0 fun _ _ => id).fr hf0 fun _ _ => id
  have hJ0 := hJ _ _ _ h0 (hf0.mono fun _ _ h => h.elim)
  have cbs := hbW.cell_0
  have hmm := @run_makeMap Try.prog
  have HW0 := Lib.hid hW0
  clear hW0
  refine wpIn_scope_calm (fun _ _ _ h => h) ?_
  gi_wp2_with (first
    | (refine wpListIn_makeMap rfl 160 rfl ?_; rw [← HW0.out, hl2])
    | (refine wpIn_label ?_))
  gi_loopw [9] (fun i wr => ∃ (pre : List Tx) (k : Nat), k ≤ n ∧ i = .int .i64 k ∧ pre.map (·.b) = dist (ls.take k) ∧ J pre wr ∧ Bytss wr (fun k => F k ∧ k < w.heap.size) B n ls ∧ Met wr (w.heap.size + 2) (dist (ls.take k)) ∧ w.heap.size + 3 ≤ wr.heap.size) (fun i _ => n - (intOf i).toNat)
  case atStart =>
    exact ⟨[], 0, by omega, rfl, rfl, hJ0, hSW, hM0, hs0⟩
  case round =>
    obtain ⟨pre, k, hk, rfl, hpre, hJw, hSw, hM, hsz⟩ := hrel
    obtain ⟨w1, rfl⟩ : ∃ w1 : World, w1 = wr := ⟨_, rfl⟩
    have Hpre := Lib.hid hpre
    clear hpre
    by_cases hkn : k < n
    · obtain ⟨bb, oo, x, y, rfl, _, gx, _, ⟨X, p, e, hy, hpe, hem, hb⟩, hcell⟩ := ArrOf.at_ hSw hkn
      have c0 : w1.cell? ⟨bb, oo + k, none⟩ = some (.slice X p e) := by
        have := hcell 0 (.slice X p e) (by rw [hy]; rfl)
        simpa using this
      have hbl := hb.len
      subst hbl
      have hxs := Hsm.out x (List.mem_of_getElem? gx)
      have Hst := Lib.hid (dist_step gx)
      have Hgx := Lib.hid gx
      have hlook := hM.look x (by unfold maxLen; omega)
      have v1 := hb.str (P := Try.prog) Try.underlying22 Try.underlying5 Try.underlying9 e
      clear hy hcell gx
      by_cases hd : x ∈ dist (ls.take k)
      · rw [decide_eq_true hd] at hlook
        have hnext : dist (ls.take (k + 1)) = dist (ls.take k) := by rw [Hst.out, if_pos hd]
        have Hnext := Lib.hid hnext
        have Hlook := Lib.hid hlook
        clear hnext hd hlook
        gi_wp2_with (refine wpListIn_mapGet rfl 160 (.tmp 13) (.tmp 15) false rfl _ _ rfl rfl Hlook.out ?_)
        go_roundw
        case rel => exact ⟨pre, k + 1, by omega, by go_num, by rw [Hnext.out]; exact Hpre.out, hJw, hSw, by rw [Hnext.out]; exact hM, hsz⟩
        case measure => simp [intOf]; omega
      · rw [decide_eq_false hd] at hlook
        have hnext : dist (ls.take (k + 1)) = dist (ls.take k) ++ [x] := by rw [Hst.out, if_neg hd]
        have hdl := dist_len ls k
        obtain ⟨w2, hput, hM2, hf2⟩ := hM.put x (by unfold maxLen; omega) hd (by unfold maxLen; omega)
        have Hnext := Lib.hid hnext
        have Hlook := Lib.hid hlook
        have Hd := Lib.hid hd
        have Hput := Lib.hid hput
        have hlen2 := hM2.len 3
        have Hlen := Lib.hid hlen2
        have s2 := hf2.size
        have hb2 := hb.fr hf2 fun j hj => by omega
        have hcl := CloneB_any w2 _ X x.length e (x.map bv) hb2 (bv_one x) (by omega)
        have Hcl := Lib.hid hcl
        have hJ2 := hJ _ _ _ hJw hf2
        have hS2 := hSw.fr hf2 fun j hj => by omega
        have v2 := hb2.str (P := Try.prog) Try.underlying22 Try.underlying5 Try.underlying9 e
        have hpl : pre.length = (dist (ls.take k)).length := by rw [← Hpre.out]; simp
        clear hnext hd hlook hput hlen2 hcl
        gi_wp2_with (first
          | (refine wpListIn_mapGet rfl 160 (.tmp 13) (.tmp 15) false rfl _ _ rfl rfl Hlook.out ?_)
          | (refine wpListIn_mapPut rfl 160 (.tmp 17) (.tmp 19) (.const (.bool true)) rfl _ _ _ rfl rfl rfl Hput.out ?_)
          | (refine wpListIn_mapLen rfl 160 (.tmp 21) rfl _ rfl Hlen.out ?_))
        refine ⟨trivial, ?_⟩
        refine (callsIn_wide.2 Hcl.out).mono ?_
        rintro e3 w3 ⟨A3, c3, rfl, hO3, hf3, hin3⟩
        have hB3 : Byt w3 (fun k => w.heap.size + 3 ≤ k) A3 x.length x := hO3.arr fun j _ hj => by have := hin3 j hj; omega
        have hJ3 := hJ _ _ _ hJ2 (hf3.mono fun _ _ h => h.elim)
        have hM3 := hM2.fr hf3 id
        have hS3 := hS2.fr hf3 fun _ _ => id
        have s3 := hf3.size
        obtain ⟨fn, tmps, assign, body, hy, hRn⟩ := hY pre ⟨(dist (ls.take k)).length, A3, c3, x⟩ w3 hJ3 ⟨⟨k, Hpre.out, Hgx.out, Hd.out⟩, hpl.symm, hO3.le, hO3.cap, hB3, by omega⟩ (by omega)
        unfold Tx.enc at hy
        dsimp only at hy
        clear hf3 hO3 hin3
        gi_wp2
        refine hRn.mono ?_
        rintro e4 w4 (⟨rfl, hJ4, hf4⟩ | ⟨rfl, hJ4, hf4⟩)
        · have s4 := hf4.size
          have hS4 := hS3.fr hf4 fun j hj h => h.elim (hT.1 j hj.1) fun h => by omega
          have hM4 := hM3.fr hf4 fun h => h.elim hT.2.2 fun h => by omega
          gi_wp2
          go_roundw
          case rel => exact ⟨pre ++ [⟨(dist (ls.take k)).length, A3, c3, x⟩], k + 1, by omega, by go_num, by rw [Hnext.out, List.map_append, Hpre.out]; rfl, hJ4, hS4, by rw [Hnext.out]; exact hM4, by omega⟩
          case measure => simp [intOf]; omega
        · gi_wp2
          refine bodyPost_ret (results_none rfl _ _ _) rfl ?_
          exact ⟨⟨_, rfl⟩, .inr ⟨_, trivial, hJ4⟩⟩
    · have hlast : pre.map (·.b) = dist ls := by
        have := Hpre.out
        rwa [List.take_of_length_le (by have := Hml.out; omega)] at this
      have Hlast := Lib.hid hlast
      clear hlast
      gi_wp2
      go_end0
      exact ⟨⟨_, rfl⟩, .inl ⟨pre, Hlast.out, hJw⟩⟩
end

section
open Go.RowKit

/-- The ids met, once x is met. -/
def addId (l : List Id32) (x : Id32) : List Id32 := if x ∈ l then l else l ++ [x]
theorem addId_len (l : List Id32) (x : Id32) : (addId l x).length ≤ l.length + 1 := by
  unfold addId
  split
  · omega
  · simp
theorem MetIds.len {w : World} {b : Nat} {l : List Id32} (h : MetIds w b l) (ty : TypeId) : (Builtin.len_ #[151] ty #[.map (some b)]).run Try.prog w = .ok (.int .i64 (l.length : Nat)) w := MapAt.len h Try.underlying151 ty

set_option maxRecDepth 100000 in
set_option maxHeartbeats 2000000 in
theorem number_any (w : World) (b : Nat) (l : List Id32) (x : Id32) (h : MetIds w b l) (hn : l.length ≤ 1000000) :
    Calls Try.prog 96 #[.map (some b), .agg (idCells x).toArray] w fun e w' => e = .returned (.int .i64 (l.idxOf x : Nat)) ∧ MetIds w' b (addId l x) ∧ Fr (· = b) w w' := by
  have Hx : Hid ((idCells x).length = 32) := idCells_len x
  have hlt := h.lt
  obtain ⟨w1, hw1⟩ : ∃ w1, w1 = w.alloc (.cells (idCells x).toArray 74) := ⟨_, rfl⟩
  have hf1 : Fr NoB w w1 := by rw [hw1]; exact (Fr.refl _ _).alloc _
  have hB1 : Blk w1 w.heap.size 74 (idCells x).toArray := by rw [hw1]; exact Blk.new _ _ _
  have h1 := h.fr hf1 id
  obtain ⟨c, hlook, hc⟩ := h1.look x
  have hall : ∀ j u, (idCells x)[j]? = some u → w1.cell? ⟨w.heap.size, 0 + j, none⟩ = some u := fun j u hu => by rw [Nat.zero_add, hB1.cell]; simpa using hu
  have Hw1 := Lib.hid hw1
  by_cases hm : x ∈ l
  · rw [decide_eq_true hm] at hlook
    have hci : c = (l.idxOf x : Nat) := hc _ (by
      have hi := List.idxOf_lt_length_iff.2 hm
      rw [List.getElem?_eq_getElem hi, List.getElem_idxOf hi])
    have hadd : addId l x = l := by unfold addId; rw [if_pos hm]
    rw [hadd]
    subst hci
    clear hc hm hadd hw1 h
    generalize l.idxOf x = i at *
    have Hlook := Lib.hid hlook
    clear hlook
    generalize idCells x = xc at *
    go_enter Try.func96, Try.ntmps96
    go_wp2_with (first
      | (rw [← Hw1.out]; refine wpList_load_agg rfl 74 (.tmp 3) rfl w.heap.size 0 rfl xc _ hall Try.underlying74 rfl (by rw [Hx.out]; exact id_size) ?_; have hlook := Hlook.out))
    go_ret
    exact ⟨rfl, h1, hf1.mono fun _ _ h => h.elim⟩
  · rw [decide_eq_false hm] at hlook
    have hlen := h1.len 3
    obtain ⟨w2, hput, hM2, hf2⟩ := h1.put x hm (by unfold maxLen; omega)
    have hadd : addId l x = l ++ [x] := by unfold addId; rw [if_neg hm]
    have hidx : l.idxOf x = l.length := by
      have h1 : l.idxOf x ≤ l.length := List.idxOf_le_length
      have h2 : ¬ l.idxOf x < l.length := fun h => hm (List.idxOf_lt_length_iff.1 h)
      omega
    rw [hadd, hidx]
    have Hput := Lib.hid hput
    have Hlook := Lib.hid hlook
    have Hlen := Lib.hid hlen
    have hE : MetIds w2 b (l ++ [x]) ∧ Fr (· = b) w w2 := ⟨hM2, (hf1.mono fun _ _ h => h.elim).trans hf2 fun _ _ h => h⟩
    have HE := Lib.hid hE
    clear hc hm hadd hidx hw1 h hput hlook hlen hM2 hf2 hE
    generalize idCells x = xc at *
    go_enter Try.func96, Try.ntmps96
    go_wp2_with (first
      | (rw [← Hw1.out]; refine wpList_load_agg rfl 74 (.tmp 3) rfl w.heap.size 0 rfl xc _ hall Try.underlying74 rfl (by rw [Hx.out]; exact id_size) ?_; have hlook := Hlook.out; have hlen := Hlen.out)
      | (refine wpList_load_agg rfl 74 (.tmp 3) rfl w.heap.size 0 rfl xc _ hall Try.underlying74 rfl (by rw [Hx.out]; exact id_size) ?_; have hput := Hput.out))
    go_ret
    exact ⟨rfl, HE.out⟩
end

section
open Go.RowKit

theorem seal_size : (Try.prog.info? 41).map (·.size) = some 6 := by kernel_rfl
theorem seal_zero : ((Try.prog.info? 41).bind (·.zero)).map (·.cells.size) = some 6 := by kernel_rfl
theorem SealR.one {w : World} {F : Nat → Prop} {y : List Value} {s : Seal} (h : SealR w F y s) : y.toArray.all (·.oneCell') = true := by
  obtain ⟨A, n, c, rfl, _⟩ := h
  simp [Value.oneCell']

set_option maxRecDepth 100000 in
set_option maxHeartbeats 2000000 in
theorem EqSeals_any (w : World) (F G : Nat → Prop) (A B : Option Addr) (n c m d : Nat) (xs ys : List Seal) (hx : Seals w F A n xs) (hy : Seals w G B m ys) (hn : n ≤ 9223372036854775807) :
    Calls Try.prog 77 #[.slice A n c, .slice B m d, .func (.func 78) #[] #[]] w fun e w' => e = .returned (.bool (decide (xs = ys))) ∧ Fr NoB w w' := by
  have hxl := hx.len
  have hyl := hy.len
  by_cases hnm : n = m
  · subst hnm
    have Hxl := Lib.hid hxl
    have Hyl := Lib.hid hyl
    clear hxl hyl
    go_enter Try.func77, Try.ntmps77
    go_wp2
    go_loopw [17] (fun i wr => ∃ k : Nat, k ≤ n ∧ i = .int .i64 k ∧ xs.take k = ys.take k ∧ Fr NoB w wr) (fun i _ => n - (intOf i).toNat)
    case atStart => exact ⟨0, by omega, rfl, rfl, Fr.refl _ _⟩
    case round =>
      obtain ⟨k, hk, rfl, hpre, hF⟩ := hrel
      obtain ⟨w1, rfl⟩ : ∃ w1 : World, w1 = wr := ⟨_, rfl⟩
      have Hpre := Lib.hid hpre
      clear hpre
      by_cases hkn : k < n
      · obtain ⟨b1, o1, x, y1, rfl, _, gx, ly1, hr1, hc1⟩ := (hx.fr hF fun _ _ => id).at_ hkn
        obtain ⟨b2, o2, y, y2, rfl, _, gy, ly2, hr2, hc2⟩ := (hy.fr hF fun _ _ => id).at_ hkn
        have Ly1 : Hid (y1.length = 6) := ly1
        have Ly2 : Hid (y2.length = 6) := ly2
        have Ls1 : Hid (y1.toArray.size = 6) := by show _ = _; simpa using ly1
        have Ls2 : Hid (y2.toArray.size = 6) := by show _ = _; simpa using ly2
        have H1 := Lib.hid hr1.one
        have H2 := Lib.hid hr2.one
        have Hex := Lib.hid (take_snoc_of gx)
        have Hey := Lib.hid (take_snoc_of gy)
        have Hne := Lib.hid (ne_of_at gx gy)
        have hc2' : ∀ (j : Nat) (u : Value), y2[j]? = some u → (w1.alloc (.cells y1.toArray 41)).cell? ⟨b2, o2 + k * 6 + j, none⟩ = some u := fun j u hu => ((Fr.refl NoB w1).alloc _).cell' (hc2 j u hu) id
        have hB1 : Blk ((w1.alloc (.cells y1.toArray 41)).alloc (.cells y2.toArray 41)) w1.heap.size 41 y1.toArray := (Blk.new _ _ _).alloc _
        have hB2 : Blk ((w1.alloc (.cells y1.toArray 41)).alloc (.cells y2.toArray 41)) (w1.heap.size + 1) 41 y2.toArray := by simpa using Blk.new (w1.alloc (.cells y1.toArray 41)) 41 y2.toArray
        have hd1 : ∀ (j : Nat) (u : Value), y1[j]? = some u → ((w1.alloc (.cells y1.toArray 41)).alloc (.cells y2.toArray 41)).cell? ⟨w1.heap.size, 0 + j, none⟩ = some u := fun j u hu => by rw [Nat.zero_add, hB1.cell]; simpa using hu
        have hd2 : ∀ (j : Nat) (u : Value), y2[j]? = some u → ((w1.alloc (.cells y1.toArray 41)).alloc (.cells y2.toArray 41)).cell? ⟨w1.heap.size + 1, 0 + j, none⟩ = some u := fun j u hu => by rw [Nat.zero_add, hB2.cell]; simpa using hu
        have hf2 : Fr NoB w1 ((w1.alloc (.cells y1.toArray 41)).alloc (.cells y2.toArray 41)) := ((Fr.refl _ _).alloc _).alloc _
        have hcall := sealEq_any ((w1.alloc (.cells y1.toArray 41)).alloc (.cells y2.toArray 41)) F G y1 y2 x y (hr1.fr hf2 fun _ _ => id) (hr2.fr hf2 fun _ _ => id)
        have Hcall := Lib.hid hcall
        clear gx gy hr1 hr2 ly1 ly2 hB1 hB2 hcall
        by_cases hxy : x = y
        · have hxy' : Hid (decide (x = y) = true) := decide_eq_true hxy
          have Hxy := Lib.hid hxy
          clear hxy
          go_wp2_with (first
            | (refine wpList_load_agg rfl 41 (.tmp 20) rfl b1 (o1 + k * 6) rfl y1 _ hc1 Try.underlying41 rfl (by rw [Ly1.out]; exact seal_size) ?_)
            | (refine wpList_alloc_any rfl 41 rfl 6 seal_zero ?_; intro z hz; have Hz := Lib.hid hz; clear hz)
            | (refine wpList_store_newN rfl 41 (.tmp 8) (.tmp 21) rfl 6 seal_size _ z Hz.out y1.toArray rfl rfl Ls1.out H1.out ?_; clear Hz)
            | (refine wpList_load_agg rfl 41 (.tmp 24) rfl b2 (o2 + k * 6) rfl y2 _ hc2' Try.underlying41 rfl (by rw [Ly2.out]; exact seal_size) ?_)
            | (refine wpList_store_newN rfl 41 (.tmp 9) (.tmp 25) rfl 6 seal_size _ z Hz.out y2.toArray rfl rfl Ls2.out H2.out ?_; clear Hz)
            | (refine wpList_load_agg rfl 41 (.tmp 8) rfl w1.heap.size 0 rfl y1 _ hd1 Try.underlying41 rfl (by rw [Ly1.out]; exact seal_size) ?_)
            | (refine wpList_load_agg rfl 41 (.tmp 9) rfl (w1.heap.size + 1) 0 rfl y2 _ hd2 Try.underlying41 rfl (by rw [Ly2.out]; exact seal_size) ?_)
            | (go_at_call 78; refine Hcall.out.mono ?_; rw [hxy'.out]; rintro e w3 ⟨rfl, hf3⟩))
          go_roundw
          case rel => exact ⟨k + 1, by omega, by go_num, by rw [Hex.out, Hey.out, Hpre.out, Hxy.out], (hF.trans hf2 fun _ _ => id).trans hf3 fun _ _ => id⟩
          case measure => simp [intOf]; omega
        · have hxy' : Hid (decide (x = y) = false) := decide_eq_false hxy
          have hne := Lib.hid (decide_eq_false (Hne.out hxy))
          clear hxy
          go_wp2_with (first
            | (refine wpList_load_agg rfl 41 (.tmp 20) rfl b1 (o1 + k * 6) rfl y1 _ hc1 Try.underlying41 rfl (by rw [Ly1.out]; exact seal_size) ?_)
            | (refine wpList_alloc_any rfl 41 rfl 6 seal_zero ?_; intro z hz; have Hz := Lib.hid hz; clear hz)
            | (refine wpList_store_newN rfl 41 (.tmp 8) (.tmp 21) rfl 6 seal_size _ z Hz.out y1.toArray rfl rfl Ls1.out H1.out ?_; clear Hz)
            | (refine wpList_load_agg rfl 41 (.tmp 24) rfl b2 (o2 + k * 6) rfl y2 _ hc2' Try.underlying41 rfl (by rw [Ly2.out]; exact seal_size) ?_)
            | (refine wpList_store_newN rfl 41 (.tmp 9) (.tmp 25) rfl 6 seal_size _ z Hz.out y2.toArray rfl rfl Ls2.out H2.out ?_; clear Hz)
            | (refine wpList_load_agg rfl 41 (.tmp 8) rfl w1.heap.size 0 rfl y1 _ hd1 Try.underlying41 rfl (by rw [Ly1.out]; exact seal_size) ?_)
            | (refine wpList_load_agg rfl 41 (.tmp 9) rfl (w1.heap.size + 1) 0 rfl y2 _ hd2 Try.underlying41 rfl (by rw [Ly2.out]; exact seal_size) ?_)
            | (go_at_call 78; refine Hcall.out.mono ?_; rw [hxy'.out]; rintro e w3 ⟨rfl, hf3⟩))
          go_ret
          exact ⟨ret_bool hne.out.symm, (hF.trans hf2 fun _ _ => id).trans hf3 fun _ _ => id⟩
      · have hke : k = n := by omega
        subst hke
        have he : Hid (decide (xs = ys) = true) := by
          show _ = _
          have := Hpre.out
          rw [List.take_of_length_le (by rw [Hxl.out]; exact Nat.le_refl _), List.take_of_length_le (by rw [Hyl.out]; exact Nat.le_refl _)] at this
          simpa using this
        go_wp2
        go_ret
        exact ⟨ret_bool he.out.symm, hF⟩
  · have hne : Hid (decide (xs = ys) = false) := by
      show _ = _
      rw [decide_eq_false_iff_not]
      rintro rfl
      exact hnm (hxl.symm.trans hyl)
    clear hxl hyl
    have hb : ((n : Int) != (m : Int)) = true := by simp; omega
    clear hnm
    go_enter Try.func77, Try.ntmps77
    go_wp2
    go_ret
    exact ⟨ret_bool hne.out.symm, Fr.refl _ _⟩

set_option maxHeartbeats 400000 in
theorem Same_any (w : World) (F G : Nat → Prop) (A B : Option Addr) (n c m d : Nat) (xs ys : List Seal) (hx : Seals w F A n xs) (hy : Seals w G B m ys) (hn : n ≤ 9223372036854775807) :
    Calls Try.prog 24 #[.slice A n c, .slice B m d] w fun e w' => e = .returned (.bool (decide (xs = ys))) ∧ Fr NoB w w' := by
  have H := Lib.hid (EqSeals_any w F G A B n c m d xs ys hx hy hn)
  go_enter Try.func24, Try.ntmps24
  go_wp2_with (go_at_call 77; refine H.out.mono ?_; rintro e w1 ⟨rfl, hf1⟩)
  go_ret
  exact ⟨rfl, hf1⟩
end

section
open Go.RowKit

set_option maxRecDepth 100000 in
set_option maxHeartbeats 4000000 in
theorem named_any (w : World) (F : Nat → Prop) (A : Option Addr) (n c : Nat) (l : List Ref) (h : Refs w F A n l) (hn : n ≤ 9223372036854775807) :
    Calls Try.prog 108 #[.slice A n c] w fun e w' => e = .returned (.bool (namedP l)) ∧ Fr NoB w w' := by
  have hll := h.len
  have Hll := Lib.hid hll
  clear hll
  by_cases h1 : n ≤ 100
  · have b1 : decide (100 < (n : Int)) = false := by simp only [decide_eq_false_iff_not]; omega
    have hdef : namedP l = (l.all (fun r => goodS r.name) && risingF refName l) := by rw [namedP, Hll.out, decide_eq_true h1, Bool.true_and]
    have Hdef := Lib.hid hdef
    clear hdef
    go_enter Try.func108, Try.ntmps108
    go_wp2
    go_loopw [10] (fun v wr => ∃ k : Nat, k ≤ n ∧ v = .int .i64 k ∧ (l.take k).all (fun r => goodS r.name) = true ∧ risingF refName (l.take k) = true ∧ Fr NoB w wr) (fun v _ => n - (intOf v).toNat)
    case atStart => exact ⟨0, by omega, rfl, rfl, rfl, Fr.refl _ _⟩
    case round =>
      obtain ⟨k, hk, rfl, hall, hris, hFr⟩ := hrel
      obtain ⟨w4, rfl⟩ : ∃ w4 : World, w4 = wr := ⟨_, rfl⟩
      have Hall := Lib.hid hall
      have Hris := Lib.hid hris
      clear hall hris
      by_cases hkn : k < n
      · have hR4 := h.fr hFr fun _ _ => id
        obtain ⟨bb, oo, x, y, rfl, _, gx, _, hyr, hcell⟩ := ArrOf.at_ hR4 hkn
        obtain ⟨hy, hxs⟩ := hyr
        have hx33 : Hid (y.length = 33) := by show _ = _; rw [hy]; exact refCells_len x
        have hx33a : Hid (y.toArray.size = 33) := by show _ = _; rw [hy]; simp [refCells_len]
        have hx1 : Hid (y.toArray.all (·.oneCell') = true) := by show _ = _; rw [hy]; exact refCells_ones x
        have Hy := Lib.hid hy
        have hil : k < l.length := by rw [Hll.out]; exact hkn
        have htk : l.take (k + 1) = l.take k ++ [x] := by
          rw [List.getElem?_eq_getElem hil] at gx
          injection gx with gx
          rw [List.take_succ_eq_append_getElem hil, gx]
        have hmem : x ∈ l := List.mem_of_getElem? gx
        have Htk := Lib.hid htk
        have Hmem := Lib.hid hmem
        have Gx := Lib.hid gx
        have Hno : goodS x.name = false → Hid (namedP l = false) := fun hg => by
          show _ = _
          have : l.all (fun r => goodS r.name) = false := by rw [List.all_eq_false]; exact ⟨x, Hmem.out, by rw [hg]; simp⟩
          rw [Hdef.out, this, Bool.false_and]
        clear hy hil htk hmem
        have hR4' := Lib.hid hR4
        clear hR4
        go_wp2_with (first
          | (refine wpList_load_agg rfl 162 (.tmp 13) rfl bb (oo + k * 33) rfl y _ hcell Try.underlying162 rfl (by rw [hx33.out]; exact ref_size) ?_)
          | (refine wpList_alloc_any rfl 162 rfl 33 ref_zero ?_; intro z hz; have Hz := Lib.hid hz; clear hz)
          | (refine wpList_store_newN rfl 162 (.tmp 4) (.tmp 14) rfl 33 ref_size _ z Hz.out y.toArray rfl rfl hx33a.out hx1.out ?_
             obtain ⟨g, hg⟩ : ∃ g, g = w4.heap.size := ⟨_, rfl⟩
             obtain ⟨w6, hw6⟩ : ∃ w6, w6 = w4.alloc (.cells y.toArray 162) := ⟨_, rfl⟩
             have hf6 : Fr NoB w4 w6 := by rw [hw6]; exact (Fr.refl _ _).alloc _
             have hB6 : RefBlk w6 g x := by rw [hw6, hg, Hy.out]; exact ⟨Blk.new _ _ _⟩
             have hF6 := hFr.trans hf6 fun _ _ => id
             have hR6 := Lib.hid (hR4'.out.fr hf6 fun _ _ => id)
             rw [← hw6]
             rw [← hg]
             clear hw6 hg hf6))
        have c0 := hB6.c0
        refine wp_region_held (S := fun W => Fr NoB w6 W) rfl ?_
        have hS : Fr NoB w6 w6.drew := Fr.drew (Fr.refl _ _)
        refine wpAnyH_take (i := 0) rfl (by decide +kernel) (by decide +kernel) (by decide +kernel) (fun _ _ _ h => h) (Or.inl ⟨by kernel_rfl, fun W hW => by go_simp; with_reducible rfl⟩) hS ?_
        refine wpAnyH_take (i := 1) rfl (by decide +kernel) (by decide +kernel) (by decide +kernel) (fun _ _ _ h => h) (Or.inl ⟨by kernel_rfl, fun W hW => by have qq := hW.cell' c0 id; go_simp; with_reducible rfl⟩) hS ?_
        go_simp
        refine wpAnyH_all (rs := [2]) (by decide +kernel) (by simp) ?_
        intro i hi
        simp only [List.mem_cons, List.not_mem_nil, or_false] at hi
        subst hi
        refine wpOp_call rfl rfl 116 (enters_of Try.func116 (by kernel_rfl) rfl) #[.tmp 16] _ rfl _ rfl (Good_any _ _ hxs) ?_
        rintro e w7 ⟨rfl, hf⟩
        replace hS := hS.trans hf fun _ _ => id
        clear hf
        refine ⟨_, rfl, hS, ?_⟩
        cases hg : goodS x.name with
        | false =>
          have Hn := Hno hg
          clear hg Hno
          go_simp
          refine wpAnyH_take (i := 3) rfl (by decide +kernel) (by decide +kernel) (by decide +kernel) (fun _ _ _ h => h) (Or.inl ⟨by kernel_rfl, fun W hW => by go_simp; with_reducible rfl⟩) hS ?_
          refine wpAnyH_take (i := 4) rfl (by decide +kernel) (by decide +kernel) (by decide +kernel) (fun _ _ _ h => h) (Or.inl ⟨by kernel_rfl, fun W hW => by go_simp; with_reducible rfl⟩) hS ?_
          go_simp
          refine wpAnyH_take (i := 5) rfl (by decide +kernel) (by decide +kernel) (by decide +kernel) (fun _ _ _ h => h) (Or.inr ⟨by kernel_rfl, rfl⟩) hS ?_
          refine wpAnyH_take (i := 6) rfl (by decide +kernel) (by decide +kernel) (by decide +kernel) (fun _ _ _ h => h) (Or.inr ⟨by kernel_rfl, rfl⟩) hS ?_
          refine wpAnyH_take (i := 7) rfl (by decide +kernel) (by decide +kernel) (by decide +kernel) (fun _ _ _ h => h) (Or.inr ⟨by kernel_rfl, rfl⟩) hS ?_
          refine wpAnyH_take (i := 8) rfl (by decide +kernel) (by decide +kernel) (by decide +kernel) (fun _ _ _ h => h) (Or.inr ⟨by kernel_rfl, rfl⟩) hS ?_
          refine wpAnyH_take (i := 9) rfl (by decide +kernel) (by decide +kernel) (by decide +kernel) (fun _ _ _ h => h) (Or.inr ⟨by kernel_rfl, rfl⟩) hS ?_
          refine wpAnyH_take (i := 10) rfl (by decide +kernel) (by decide +kernel) (by decide +kernel) (fun _ _ _ h => h) (Or.inr ⟨by kernel_rfl, rfl⟩) hS ?_
          refine wpAnyH_take (i := 11) rfl (by decide +kernel) (by decide +kernel) (by decide +kernel) (fun _ _ _ h => h) (Or.inr ⟨by kernel_rfl, rfl⟩) hS ?_
          refine wpAnyH_take (i := 12) rfl (by decide +kernel) (by decide +kernel) (by decide +kernel) (fun _ _ _ h => h) (Or.inr ⟨by kernel_rfl, rfl⟩) hS ?_
          refine wpAnyH_take (i := 13) rfl (by decide +kernel) (by decide +kernel) (by decide +kernel) (fun _ _ _ h => h) (Or.inr ⟨by kernel_rfl, rfl⟩) hS ?_
          refine wpAnyH_take (i := 14) rfl (by decide +kernel) (by decide +kernel) (by decide +kernel) (fun _ _ _ h => h) (Or.inr ⟨by kernel_rfl, rfl⟩) hS ?_
          refine wpAnyH_take (i := 15) rfl (by decide +kernel) (by decide +kernel) (by decide +kernel) (fun _ _ _ h => h) (Or.inr ⟨by kernel_rfl, rfl⟩) hS ?_
          refine wpAnyH_take (i := 16) rfl (by decide +kernel) (by decide +kernel) (by decide +kernel) (fun _ _ _ h => h) (Or.inr ⟨by kernel_rfl, rfl⟩) hS ?_
          refine wpAnyH_take (i := 17) rfl (by decide +kernel) (by decide +kernel) (by decide +kernel) (fun _ _ _ h => h) (Or.inr ⟨by kernel_rfl, rfl⟩) hS ?_
          refine wpAnyH_take (i := 18) rfl (by decide +kernel) (by decide +kernel) (by decide +kernel) (fun _ _ _ h => h) (Or.inl ⟨by kernel_rfl, fun W hW => by go_simp; with_reducible rfl⟩) hS ?_
          go_simp
          refine wpAnyH_done (by decide +kernel) ?_ _
          go_wp2
          go_ret
          exact ⟨ret_bool Hn.out.symm, hF6.trans hS fun _ _ => id⟩
        | true =>
          have Hg := Lib.hid hg
          have Hall2 : Hid ((l.take (k + 1)).all (fun r => goodS r.name) = true) := by show _ = _; rw [Htk.out, List.all_append, Hall.out]; simp [hg]
          clear hg Hno
          go_simp
          refine wpAnyH_take (i := 3) rfl (by decide +kernel) (by decide +kernel) (by decide +kernel) (fun _ _ _ h => h) (Or.inl ⟨by kernel_rfl, fun W hW => by go_simp; with_reducible rfl⟩) hS ?_
          refine wpAnyH_take (i := 4) rfl (by decide +kernel) (by decide +kernel) (by decide +kernel) (fun _ _ _ h => h) (Or.inl ⟨by kernel_rfl, fun W hW => by go_simp; with_reducible rfl⟩) hS ?_
          go_simp
          refine wpAnyH_take (i := 5) rfl (by decide +kernel) (by decide +kernel) (by decide +kernel) (fun _ _ _ h => h) (Or.inl ⟨by kernel_rfl, fun W hW => by go_simp; with_reducible rfl⟩) hS ?_
          cases k with
          | zero =>
            go_simp
            refine wpAnyH_take (i := 6) rfl (by decide +kernel) (by decide +kernel) (by decide +kernel) (fun _ _ _ h => h) (Or.inl ⟨by kernel_rfl, fun W hW => by go_simp; with_reducible rfl⟩) hS ?_
            go_simp
            refine wpAnyH_take (i := 7) rfl (by decide +kernel) (by decide +kernel) (by decide +kernel) (fun _ _ _ h => h) (Or.inl ⟨by kernel_rfl, fun W hW => by go_simp; with_reducible rfl⟩) hS ?_
            go_simp
            refine wpAnyH_take (i := 8) rfl (by decide +kernel) (by decide +kernel) (by decide +kernel) (fun _ _ _ h => h) (Or.inr ⟨by kernel_rfl, rfl⟩) hS ?_
            refine wpAnyH_take (i := 9) rfl (by decide +kernel) (by decide +kernel) (by decide +kernel) (fun _ _ _ h => h) (Or.inr ⟨by kernel_rfl, rfl⟩) hS ?_
            refine wpAnyH_take (i := 10) rfl (by decide +kernel) (by decide +kernel) (by decide +kernel) (fun _ _ _ h => h) (Or.inr ⟨by kernel_rfl, rfl⟩) hS ?_
            refine wpAnyH_take (i := 11) rfl (by decide +kernel) (by decide +kernel) (by decide +kernel) (fun _ _ _ h => h) (Or.inr ⟨by kernel_rfl, rfl⟩) hS ?_
            refine wpAnyH_take (i := 12) rfl (by decide +kernel) (by decide +kernel) (by decide +kernel) (fun _ _ _ h => h) (Or.inr ⟨by kernel_rfl, rfl⟩) hS ?_
            refine wpAnyH_take (i := 13) rfl (by decide +kernel) (by decide +kernel) (by decide +kernel) (fun _ _ _ h => h) (Or.inr ⟨by kernel_rfl, rfl⟩) hS ?_
            refine wpAnyH_take (i := 14) rfl (by decide +kernel) (by decide +kernel) (by decide +kernel) (fun _ _ _ h => h) (Or.inr ⟨by kernel_rfl, rfl⟩) hS ?_
            refine wpAnyH_take (i := 15) rfl (by decide +kernel) (by decide +kernel) (by decide +kernel) (fun _ _ _ h => h) (Or.inr ⟨by kernel_rfl, rfl⟩) hS ?_
            refine wpAnyH_take (i := 16) rfl (by decide +kernel) (by decide +kernel) (by decide +kernel) (fun _ _ _ h => h) (Or.inr ⟨by kernel_rfl, rfl⟩) hS ?_
            refine wpAnyH_take (i := 17) rfl (by decide +kernel) (by decide +kernel) (by decide +kernel) (fun _ _ _ h => h) (Or.inl ⟨by kernel_rfl, fun W hW => by go_simp; with_reducible rfl⟩) hS ?_
            go_simp
            refine wpAnyH_take (i := 18) rfl (by decide +kernel) (by decide +kernel) (by decide +kernel) (fun _ _ _ h => h) (Or.inl ⟨by kernel_rfl, fun W hW => by go_simp; with_reducible rfl⟩) hS ?_
            go_simp
            refine wpAnyH_done (by decide +kernel) ?_ _
            go_wp2
            go_roundw
            case rel => exact ⟨1, by omega, by go_num, Hall2.out, risingF_one l, hF6.trans hS fun _ _ => id⟩
            case measure => (simp [intOf] <;> omega)
          | succ j =>
            obtain ⟨bb2, oo2, x2, y2, hAe2, _, gx2, _, hyr2, hcell2⟩ := ArrOf.at_ hR6.out (k := j) (by omega)
            injection hAe2 with hAe2
            injection hAe2 with hb2 ho2
            subst hb2 ho2
            obtain ⟨hy2, hxs2⟩ := hyr2
            have d0 : w6.cell? ⟨bb, oo + j * 33, none⟩ = some (.string x2.name) := by
              have := hcell2 0 (.string x2.name) (by rw [hy2]; rfl)
              simpa using this
            have hrt := risingF_take (f := refName) gx2 Gx.out
            rw [Hris.out, Bool.true_and] at hrt
            have hless : Op.bytesLess x2.name.toList x.name.toList = Op.bytesLess (refName x2) (refName x) := rfl
            have hwk : IntKind.i64.wrap (j : Int) = j := by rw [IntKind.wrap_i64]; omega
            have g0 : decide ((0 : Int) < (j : Int) + 1) = true := by simp only [decide_eq_true_eq]; omega
            have g1 : (0 : Int) ≤ (j : Int) := by omega
            have g2 : (j : Int) < (n : Int) := by omega
            have Hrt := Lib.hid hrt
            clear gx2 hy2 hcell2 hrt
            generalize Op.bytesLess (refName x2) (refName x) = bl at *
            go_simp
            refine wpAnyH_take (i := 6) rfl (by decide +kernel) (by decide +kernel) (by decide +kernel) (fun _ _ _ h => h) (Or.inl ⟨by kernel_rfl, fun W hW => by go_simp; with_reducible rfl⟩) hS ?_
            go_simp
            refine wpAnyH_take (i := 7) rfl (by decide +kernel) (by decide +kernel) (by decide +kernel) (fun _ _ _ h => h) (Or.inl ⟨by kernel_rfl, fun W hW => by go_simp; with_reducible rfl⟩) hS ?_
            go_simp
            refine wpAnyH_take (i := 8) rfl (by decide +kernel) (by decide +kernel) (by decide +kernel) (fun _ _ _ h => h) (Or.inl ⟨by kernel_rfl, fun W hW => by go_simp; with_reducible rfl⟩) hS ?_
            refine wpAnyH_take (i := 9) rfl (by decide +kernel) (by decide +kernel) (by decide +kernel) (fun _ _ _ h => h) (Or.inl ⟨by kernel_rfl, fun W hW => by go_simp; with_reducible rfl⟩) hS ?_
            go_simp
            refine wpAnyH_take (i := 10) rfl (by decide +kernel) (by decide +kernel) (by decide +kernel) (fun _ _ _ h => h) (Or.inl ⟨by kernel_rfl, fun W hW => by go_simp; with_reducible rfl⟩) hS ?_
            go_simp
            refine wpAnyH_take (i := 11) rfl (by decide +kernel) (by decide +kernel) (by decide +kernel) (fun _ _ _ h => h) (Or.inl ⟨by kernel_rfl, fun W hW => by go_simp; with_reducible rfl⟩) hS ?_
            go_simp
            refine wpAnyH_take (i := 12) rfl (by decide +kernel) (by decide +kernel) (by decide +kernel) (fun _ _ _ h => h) (Or.inl ⟨by kernel_rfl, fun W hW => by go_simp; with_reducible rfl⟩) hS ?_
            go_simp
            refine wpAnyH_take (i := 13) rfl (by decide +kernel) (by decide +kernel) (by decide +kernel) (fun _ _ _ h => h) (Or.inl ⟨by kernel_rfl, fun W hW => by have qq := hW.cell' d0 id; go_simp; with_reducible rfl⟩) hS ?_
            refine wpAnyH_take (i := 14) rfl (by decide +kernel) (by decide +kernel) (by decide +kernel) (fun _ _ _ h => h) (Or.inl ⟨by kernel_rfl, fun W hW => by go_simp; with_reducible rfl⟩) hS ?_
            go_simp
            refine wpAnyH_take (i := 15) rfl (by decide +kernel) (by decide +kernel) (by decide +kernel) (fun _ _ _ h => h) (Or.inl ⟨by kernel_rfl, fun W hW => by have qq := hW.cell' c0 id; go_simp; with_reducible rfl⟩) hS ?_
            go_simp
            refine wpAnyH_take (i := 16) rfl (by decide +kernel) (by decide +kernel) (by decide +kernel) (fun _ _ _ h => h) (Or.inl ⟨by kernel_rfl, fun W hW => by go_simp; with_reducible rfl⟩) hS ?_
            go_simp
            refine wpAnyH_take (i := 17) rfl (by decide +kernel) (by decide +kernel) (by decide +kernel) (fun _ _ _ h => h) (Or.inl ⟨by kernel_rfl, fun W hW => by go_simp; with_reducible rfl⟩) hS ?_
            go_simp
            refine wpAnyH_take (i := 18) rfl (by decide +kernel) (by decide +kernel) (by decide +kernel) (fun _ _ _ h => h) (Or.inl ⟨by kernel_rfl, fun W hW => by go_simp; with_reducible rfl⟩) hS ?_
            go_simp
            refine wpAnyH_done (by decide +kernel) ?_ _
            cases bl with
            | true =>
              go_wp2
              go_roundw
              case rel => exact ⟨j + 1 + 1, by omega, by go_num, Hall2.out, Hrt.out, hF6.trans hS fun _ _ => id⟩
              case measure => (simp [intOf] <;> omega)
            | false =>
              have hno : namedP l = false := by
                rw [Hdef.out]
                cases hr : risingF refName l with
                | false => rw [Bool.and_false]
                | true =>
                  have := risingF_mono (f := refName) l (j + 2) hr
                  rw [Hrt.out] at this
                  cases this
              have Hn := Lib.hid hno
              clear hno
              go_wp2
              go_ret
              exact ⟨ret_bool Hn.out.symm, hF6.trans hS fun _ _ => id⟩
      · have ha := Hall.out
        have hr := Hris.out
        rw [List.take_of_length_le (by rw [Hll.out]; omega)] at ha hr
        have He : Hid (namedP l = true) := by show _ = _; rw [Hdef.out, ha, hr]; rfl
        clear ha hr
        go_wp2
        go_ret
        exact ⟨ret_bool He.out.symm, hFr⟩
  · have b1 : decide (100 < (n : Int)) = true := by simp only [decide_eq_true_eq]; omega
    have He : Hid (namedP l = false) := by show _ = _; rw [namedP, Hll.out, decide_eq_false h1, Bool.false_and]
    clear h1
    go_enter Try.func108, Try.ntmps108
    go_wp2
    go_ret
    exact ⟨ret_bool He.out.symm, Fr.refl _ _⟩
end

section
open Go.RowKit

theorem envBad_is (l : List UInt8) : envBad l = if envIs l = true then 0 else 90 := rfl

set_option maxRecDepth 100000 in
set_option maxHeartbeats 1000000 in
theorem may1_any (w : World) (F : Nat → Prop) (A : Option Addr) (n c : Nat) (l : List UInt8) (h : Byt w F A n l) (hn : n ≤ 70368744177664) :
    Calls Try.prog 110 #[.slice A n c] w fun e w' => e = .returned (.bool (!envIs l)) ∧ Fr NoB w w' := by
  have hcall := EnvOf_any w F A n c l h hn
  have Hcall := Lib.hid hcall
  have hb := envBad_is l
  clear hcall
  cases hi : envIs l with
  | true =>
    rw [hi] at hb
    have hb' : envBad l = 0 := hb
    have Hb := Lib.hid hb'
    clear hb hb' hi
    go_enter Try.func110, Try.ntmps110
    go_wp2_with (first
      | (go_at_call 95
         refine Hcall.out.mono ?_
         rintro e w1 ⟨y, rfl, hf1, A1, n1, c1, B1, m1, d1, rfl, _⟩
         rw [Hb.out]
         have H5 : Hid ((envCells (envOf l) A1 n1 c1 B1 m1 d1).toArray.size = 5) := rfl
         have H1 := Lib.hid (envCells_ones (envOf l) A1 n1 c1 B1 m1 d1)
         generalize envCells (envOf l) A1 n1 c1 B1 m1 d1 = yc at *)
      | (refine wpList_alloc_any rfl 153 rfl 5 env_zero ?_; intro z hz; have Hz := Lib.hid hz; clear hz)
      | (refine wpList_store_newN rfl 153 (.tmp 3) (.tmp 8) rfl 5 env_size _ z Hz.out yc.toArray rfl rfl H5.out H1.out ?_))
    go_ret
    exact ⟨rfl, hf1.alloc _⟩
  | false =>
    rw [hi] at hb
    have hb' : envBad l = 90 := hb
    have Hb := Lib.hid hb'
    clear hb hb' hi
    go_enter Try.func110, Try.ntmps110
    go_wp2_with (first
      | (go_at_call 95
         refine Hcall.out.mono ?_
         rintro e w1 ⟨y, rfl, hf1, A1, n1, c1, B1, m1, d1, rfl, _⟩
         rw [Hb.out]
         have H5 : Hid ((envCells (envOf l) A1 n1 c1 B1 m1 d1).toArray.size = 5) := rfl
         have H1 := Lib.hid (envCells_ones (envOf l) A1 n1 c1 B1 m1 d1)
         generalize envCells (envOf l) A1 n1 c1 B1 m1 d1 = yc at *)
      | (refine wpList_alloc_any rfl 153 rfl 5 env_zero ?_; intro z hz; have Hz := Lib.hid hz; clear hz)
      | (refine wpList_store_newN rfl 153 (.tmp 3) (.tmp 8) rfl 5 env_size _ z Hz.out yc.toArray rfl rfl H5.out H1.out ?_))
    go_ret
    exact ⟨rfl, hf1.alloc _⟩

set_option maxRecDepth 100000 in
set_option maxHeartbeats 2000000 in
theorem IndexFunc_any (w : World) (F : Nat → Prop) (A : Option Addr) (n c : Nat) (l : List (List UInt8)) (h : Bytss w F A n l) (hn : n ≤ 9223372036854775807) (hsz : ∀ x ∈ l, x.length ≤ 70368744177664) :
    Calls Try.prog 117 #[.slice A n c, .func (.func 110) #[] #[]] w fun e w' => ∃ i : Int, e = .returned (.int .i64 i) ∧ decide (0 ≤ i) = !l.all envIs ∧ Fr NoB w w' := by
  have hll := h.len
  have Hll := Lib.hid hll
  clear hll
  go_enter Try.func117, Try.ntmps117
  go_wp2
  go_loopw [8] (fun v wr => ∃ k : Nat, k ≤ n ∧ v = .int .i64 k ∧ (l.take k).all envIs = true ∧ Fr NoB w wr) (fun v _ => n - (intOf v).toNat)
  case atStart => exact ⟨0, by omega, rfl, rfl, Fr.refl _ _⟩
  case round =>
    obtain ⟨k, hk, rfl, hall, hFr⟩ := hrel
    obtain ⟨w4, rfl⟩ : ∃ w4 : World, w4 = wr := ⟨_, rfl⟩
    have Hall := Lib.hid hall
    clear hall
    by_cases hkn : k < n
    · obtain ⟨bb, oo, x, y, rfl, _, gx, _, hyr, hcell⟩ := ArrOf.at_ (Bytss.fr h hFr fun _ _ => id) hkn
      obtain ⟨X, m, d, hy, hmd, hdm, hb⟩ := hyr
      have hil : k < l.length := by rw [Hll.out]; exact hkn
      have htk : l.take (k + 1) = l.take k ++ [x] := by
        rw [List.getElem?_eq_getElem hil] at gx
        injection gx with gx
        rw [List.take_succ_eq_append_getElem hil, gx]
      have hmem : x ∈ l := List.mem_of_getElem? gx
      have hxl := hsz x hmem
      rw [hb.len] at hxl
      have hcall := may1_any w4 F X m d x hb hxl
      have c0 : w4.cell? ⟨bb, oo + k, none⟩ = some (.slice X m d) := by
        have := hcell 0 (.slice X m d) (by rw [hy]; rfl)
        simpa using this
      have Htk := Lib.hid htk
      have Hmem := Lib.hid hmem
      have Hcall := Lib.hid hcall
      clear htk hmem hcall gx hcell hy hil
      cases hi : envIs x with
      | true =>
        have Hi := Lib.hid hi
        rw [hi] at Hcall
        clear hi
        go_wp2_with (go_at_call 110; refine Hcall.out.mono ?_; rintro e w5 ⟨rfl, hf5⟩)
        go_roundw
        case rel => exact ⟨k + 1, by omega, by go_num, by rw [Htk.out, List.all_append, Hall.out]; simp [Hi.out], hFr.trans hf5 fun _ _ => id⟩
        case measure => (simp [intOf] <;> omega)
      | false =>
        have Hno : Hid (l.all envIs = false) := by show _ = _; rw [List.all_eq_false]; exact ⟨x, Hmem.out, by rw [hi]; simp⟩
        rw [hi] at Hcall
        clear hi
        go_wp2_with (go_at_call 110; refine Hcall.out.mono ?_; rintro e w5 ⟨rfl, hf5⟩)
        go_ret
        exact ⟨k, rfl, by rw [Hno.out]; simp, hFr.trans hf5 fun _ _ => id⟩
    · have ha := Hall.out
      rw [List.take_of_length_le (by rw [Hll.out]; omega)] at ha
      have Ha := Lib.hid ha
      clear ha
      go_wp2
      go_ret
      exact ⟨-1, rfl, by rw [Ha.out]; rfl, hFr⟩

set_option maxRecDepth 100000 in
set_option maxHeartbeats 1000000 in
theorem ContainsFunc_any (w : World) (F : Nat → Prop) (A : Option Addr) (n c : Nat) (l : List (List UInt8)) (h : Bytss w F A n l) (hn : n ≤ 9223372036854775807) (hsz : ∀ x ∈ l, x.length ≤ 70368744177664) :
    Calls Try.prog 109 #[.slice A n c, .func (.func 110) #[] #[]] w fun e w' => e = .returned (.bool (!l.all envIs)) ∧ Fr NoB w w' := by
  have hcall := IndexFunc_any w F A n c l h hn hsz
  have Hcall := Lib.hid hcall
  clear hcall
  go_enter Try.func109, Try.ntmps109
  go_wp2_with (go_at_call 117; refine Hcall.out.mono ?_; rintro e w5 ⟨i, rfl, hi, hf5⟩)
  go_ret
  exact ⟨rfl, hf5⟩

set_option maxRecDepth 100000 in
set_option maxHeartbeats 2000000 in
theorem bunMay_any (w : World) (F : Nat → Prop) (y : List Value) (b : Bun) (hy : BunR w F y b) (hsz : ∀ x ∈ b.objs, x.length ≤ 70368744177664) :
    Calls Try.prog 99 #[.agg y.toArray] w fun e w' => e = .returned (.bool (bunMay b)) ∧ Fr NoB w w' := by
  obtain ⟨A, n, c, B, m, d, rfl, _, hcm, hr, _, hdm, ho⟩ := hy
  have hn63 : n ≤ 9223372036854775807 := by unfold maxLen at hcm; omega
  have hm63 : m ≤ 9223372036854775807 := by unfold maxLen at hdm; omega
  have hol := ho.len
  have hF1 : Fr NoB w (w.alloc (.cells (bunCells A n c B m d).toArray 112)) := (Fr.refl _ _).alloc _
  have hB1 := Blk.new w 112 (bunCells A n c B m d).toArray
  have c0 : (w.alloc (.cells (bunCells A n c B m d).toArray 112)).cell? ⟨w.heap.size, 0, none⟩ = some (.slice A n c) := (hB1.cell 0).trans rfl
  have c1 : (w.alloc (.cells (bunCells A n c B m d).toArray 112)).cell? ⟨w.heap.size, 1, none⟩ = some (.slice B m d) := (hB1.cell 1).trans rfl
  have hnm := Lib.hid (named_any _ F A n c _ (hr.fr hF1 fun _ _ => id) hn63)
  have ho1 := Lib.hid (ho.fr hF1 fun _ _ => id)
  have Hol := Lib.hid hol
  have hdef : bunMay b = (namedP b.refs && (decide (m ≤ 2000) && b.objs.all envIs)) := by rw [bunMay, hol]
  have Hdef := Lib.hid hdef
  clear hr ho hol hdef hB1 hn63
  generalize bunCells A n c B m d = yc at *
  obtain ⟨w1, hw1⟩ : ∃ w1, w1 = w.alloc (.cells yc.toArray 112) := ⟨_, rfl⟩
  rw [← hw1] at hF1 c0 c1 hnm ho1
  have Hw1 := Lib.hid hw1
  have z0 := c0
  have z1 := c1
  rw [Hw1.out] at z0 z1
  clear hw1
  cases hnd : namedP b.refs with
  | false =>
    have He : Hid (bunMay b = false) := by show _ = _; rw [Hdef.out, hnd, Bool.false_and]
    rw [hnd] at hnm
    clear hnd
    go_enter Try.func99, Try.ntmps99
    go_wp2_with (go_at_call 108; rw [← Hw1.out]; refine hnm.out.mono ?_; rintro e w2 ⟨rfl, hf2⟩; clear z0 z1; have d1 := hf2.cell' c1 id)
    go_ret
    exact ⟨ret_bool He.out.symm, hF1.trans hf2 fun _ _ => id⟩
  | true =>
    rw [hnd] at hnm
    by_cases h2 : m ≤ 2000
    · have b2 : decide (2000 < (m : Int)) = false := by simp only [decide_eq_false_iff_not]; omega
      have He : Hid (bunMay b = b.objs.all envIs) := by show _ = _; rw [Hdef.out, hnd, decide_eq_true h2]; simp
      clear hnd h2
      go_enter Try.func99, Try.ntmps99
      go_wp2_with (first
        | (go_at_call 108; rw [← Hw1.out]; refine hnm.out.mono ?_; rintro e w2 ⟨rfl, hf2⟩; clear z0 z1; have d1 := hf2.cell' c1 id)
        | (go_at_call 109; refine (ContainsFunc_any _ F B m d b.objs (ho1.out.fr hf2 fun _ _ => id) hm63 hsz).mono ?_; rintro e w3 ⟨rfl, hf3⟩))
      go_ret
      exact ⟨ret_bool He.out.symm, (hF1.trans hf2 fun _ _ => id).trans hf3 fun _ _ => id⟩
    · have b2 : decide (2000 < (m : Int)) = true := by simp only [decide_eq_true_eq]; omega
      have He : Hid (bunMay b = false) := by show _ = _; rw [Hdef.out, hnd, decide_eq_false h2]; rfl
      clear hnd h2
      go_enter Try.func99, Try.ntmps99
      go_wp2_with (go_at_call 108; rw [← Hw1.out]; refine hnm.out.mono ?_; rintro e w2 ⟨rfl, hf2⟩; clear z0 z1; have d1 := hf2.cell' c1 id)
      go_ret
      exact ⟨ret_bool He.out.symm, hF1.trans hf2 fun _ _ => id⟩
end

section
open Go.RowKit

theorem wr_raw {w : World} {B b : Nat} {G : Nat → Prop} {l x : List UInt8} {A : Option Addr} {m c : Nat} (hW : WrAt w (fun j => B ≤ j) b l) (hr : Byt w G A m x) (hB : B ≤ w.heap.size) (hroom : l.length + m ≤ 70368744177664) :
    Calls Try.prog 45 #[.pointer (some ⟨b, 0, none⟩), .slice A m c] w fun e w' => e = .returned (.tuple #[]) ∧ Fr (fun j => B ≤ j) w w' ∧ WrAt w' (fun j => B ≤ j) b (l ++ x) :=
  (WRaw_any w _ G b l x A m c hW hr hroom).mono fun _ _ ⟨h1, h2, h3⟩ => ⟨h1, h2, h3.more fun _ hj => hj.elim id fun h => Nat.le_trans hB h⟩

theorem wr_n {w : World} {B b K : Nat} {l : List UInt8} {A : Option Addr} {m c : Nat} {ns : List Nat} (hW : WrAt w (fun j => B ≤ j ∧ j < K) b l) (hr : Arr w (fun k => K ≤ k) 1 A m (ns.map u64v)) (hB : B ≤ w.heap.size) (hns : ∀ x ∈ ns, x < 18446744073709551616) (hroom : l.length + 10 * m ≤ 70368744177664) :
    Calls Try.prog 30 #[.pointer (some ⟨b, 0, none⟩), .slice A m c] w fun e w' => e = .returned (.tuple #[]) ∧ Fr (fun j => B ≤ j) w w' ∧ WrAt w' (fun j => B ≤ j) b (l ++ ns.flatMap encN) :=
  (WN_any w _ _ b l A m c ns hW hr (fun k h1 h2 => by omega) hns hroom).mono fun _ _ ⟨h1, h2, h3⟩ => ⟨h1, h2.mono fun _ _ h => h.1, h3.more fun _ hj => hj.elim (·.1) fun h => Nat.le_trans hB h⟩

theorem wr_text {w : World} {B b K t : Nat} {l x : List UInt8} {A : Option Addr} {n c : Nat} (hW : WrAt w (fun j => B ≤ j ∧ j < K) b l) (hb : Byt w (fun k => k < B ∨ K ≤ k) A n x) (h1 : n ≤ c) (h2 : c ≤ maxLen) (hB : B ≤ w.heap.size) (hK : K ≤ w.heap.size) (hroom : l.length + n + 30 ≤ 70368744177664) :
    Calls Try.prog 46 #[.pointer (some ⟨b, 0, none⟩), .slice (some ⟨w.heap.size, 0, none⟩) 1 1] (w.alloc (.cells #[.slice A n c] t)) fun e w' => e = .returned (.tuple #[]) ∧ Fr (fun j => B ≤ j) w w' ∧ WrAt w' (fun j => B ≤ j) b (l ++ textBytes x) := by
  have hx := hb.len
  have ht : (textBytes x).length ≤ n + 10 := by
    have := encN_len64 (n := x.length) (by omega)
    simp only [textBytes, List.length_append]
    omega
  have hA := ArrOf.one_bytes (G := fun k => (k < B ∨ K ≤ k) ∧ k < w.heap.size + 1) hb h1 h2 t (fun k hk h => ⟨h, by omega⟩) ⟨.inr hK, by omega⟩
  refine (WText_any _ (fun j => B ≤ j ∧ j < K) _ b l _ 1 1 [x] (hW.fr ((Fr.refl NoB w).alloc _) fun _ _ _ => id) hA (fun k h1 h2 => by omega) (fun k h => by simp only [World.size_alloc]; exact h.2) (by simp only [List.flatMap_cons, List.flatMap_nil, List.append_nil]; omega) (by omega)).mono ?_
  rintro e w' ⟨q1, q2, q3⟩
  simp only [List.flatMap_cons, List.flatMap_nil, List.append_nil, World.size_alloc] at q3
  exact ⟨q1, ((Fr.refl (fun j => B ≤ j) w).alloc _).trans q2 fun _ _ h => h.1, q3.more fun j hj => by omega⟩

theorem wr_bytes {w : World} {B b : Nat} {l : List UInt8} (hW : WrAt w (fun j => B ≤ j) b l) (hroom : l.length ≤ 70368744177664) :
    Calls Try.prog 31 #[.pointer (some ⟨b, 0, none⟩)] w fun e w' => NewBytes w w' e l :=
  (WBytes_any w _ b l hW hroom).mono fun _ _ ⟨A, c, h1, h2, h3, h4⟩ => ⟨A, c, h1, h2, h3, h4⟩

/-- Bytes and an error's number are handed back. -/
def NewBytes2 (k : IntKind) (w w' : World) (e : Ending) (l : List UInt8) (bad : Int) : Prop :=
  ∃ A c, e = .returned (.tuple #[.slice A l.length c, .int k bad]) ∧ Fr NoB w w' ∧ Own w' 5 1 A l.length c (l.map bv) ∧ ∀ j, inB A j → w.heap.size ≤ j
theorem NewBytes2.none_ {k : IntKind} {w w' : World} {bad : Int} (h : Fr NoB w w') : NewBytes2 k w w' (.returned (.tuple #[.slice none 0 0, .int k bad])) [] bad :=
  ⟨none, 0, rfl, h, Own.nil _ _ _, fun j hj => absurd hj (inB_none j)⟩
/-- Numbers just laid. -/
theorem Arr.nums (w : World) (t : TypeId) (ns : List Nat) (cs : Array Value) (K : Nat) (hK : K ≤ w.heap.size) (h : cs.toList = ns.map u64v) (m : Nat) (hm : ns.length = m) : Arr (w.alloc (.cells cs t)) (fun k => K ≤ k) 1 (some ⟨w.heap.size, 0, none⟩) m (ns.map u64v) := by
  rw [← h]
  have hs : cs.size = m * 1 := by
    have := congrArg List.length h
    simp at this; omega
  exact (Arr.new w t cs m 1 hs).more (fun k _ hk => by omega) (by omega)
end

section
open Go.RowKit

def bunOut (b : Bun) : List UInt8 := if bunMay b = true then bunBytes b else []
def bunErr (b : Bun) : Int := if bunMay b = true then 0 else 340
/-- A bundle in a block of its own. -/
structure BunBlk (w : World) (g : Nat) (A : Option Addr) (n c : Nat) (B : Option Addr) (m d : Nat) : Prop where
  blk : Blk w g 112 (bunCells A n c B m d).toArray
section
variable {w w' : World} {g : Nat} {A B : Option Addr} {n c m d : Nat} {S : Nat → Prop}
theorem BunBlk.fr (h : BunBlk w g A n c B m d) (hf : Fr S w w') (hd : ¬ S g) : BunBlk w' g A n c B m d := ⟨h.blk.fr hf hd⟩
theorem BunBlk.c0 (h : BunBlk w g A n c B m d) : w.cell? ⟨g, 0, none⟩ = some (.slice A n c) := (h.blk.cell 0).trans rfl
theorem BunBlk.c1 (h : BunBlk w g A n c B m d) : w.cell? ⟨g, 1, none⟩ = some (.slice B m d) := (h.blk.cell 1).trans rfl
theorem BunBlk.s0 (h : BunBlk w g A n c B m d) (A' : Option Addr) (n' c' : Nat) : BunBlk (w.setCell ⟨g, 0, none⟩ (.slice A' n' c')) g A' n' c' B m d := ⟨h.blk.set_ _ _⟩
theorem BunBlk.s1 (h : BunBlk w g A n c B m d) (B' : Option Addr) (m' d' : Nat) : BunBlk (w.setCell ⟨g, 1, none⟩ (.slice B' m' d')) g A n c B' m' d' := ⟨h.blk.set_ _ _⟩
theorem BunBlk.all (h : BunBlk w g A n c B m d) : ∀ j u, (bunCells A n c B m d)[j]? = some u → w.cell? ⟨g, 0 + j, none⟩ = some u := fun j u hu => by rw [Nat.zero_add, h.blk.cell]; simpa using hu
theorem bunCells_ones (A : Option Addr) (n c : Nat) (B : Option Addr) (m d : Nat) : (bunCells A n c B m d).toArray.all (·.oneCell') = true := by simp [bunCells, Value.oneCell']
end
theorem goodS_size {s : ByteArray} (h : goodS s = true) : s.size ≤ 64 := by
  unfold goodS at h
  simp only [Bool.and_eq_true, decide_eq_true_eq] at h
  exact h.2.1
theorem namedP_of {l : List Ref} (h : namedP l = true) : l.length ≤ 100 ∧ ∀ r ∈ l, r.name.size ≤ 64 := by
  unfold namedP at h
  simp only [Bool.and_eq_true, decide_eq_true_eq, List.all_eq_true] at h
  exact ⟨h.1, fun r hr => goodS_size (h.2.1 r hr)⟩
theorem bunMay_of {b : Bun} (h : bunMay b = true) : b.refs.length ≤ 100 ∧ (∀ r ∈ b.refs, r.name.size ≤ 64) ∧ b.objs.length ≤ 2000 := by
  unfold bunMay at h
  simp only [Bool.and_eq_true, decide_eq_true_eq] at h
  have := namedP_of h.1
  exact ⟨this.1, this.2, h.2.1⟩
theorem textBytes_lenE (l : List UInt8) (h : l.length < 18446744073709551616) : (textBytes l).length ≤ l.length + 10 := by
  have := encN_len64 (n := l.length) h
  simp only [textBytes, List.length_append]; omega
theorem refBytes_len {r : Ref} (h : r.name.size ≤ 64) : (refBytes r).length ≤ 106 := by
  have e : r.name.toList.length = r.name.size := toList_len _
  have := textBytes_lenE r.name.toList (by omega)
  rw [refBytes, List.length_append, r.id.2]; omega

theorem wr_textE {w : World} {B b K t : Nat} {l x : List UInt8} {A : Option Addr} {n c : Nat} (hW : WrAt w (fun j => B ≤ j ∧ j < K) b l) (hb : Byt w (fun k => k < B ∨ K ≤ k) A n x) (h1 : n ≤ c) (h2 : c ≤ maxLen) (hB : B ≤ w.heap.size) (hK : K ≤ w.heap.size) (hroom : l.length + n + 30 ≤ 70368744177664) :
    Calls Try.prog 46 #[.pointer (some ⟨b, 0, none⟩), .slice (some ⟨w.heap.size, 0, none⟩) 1 1] (w.alloc (.cells #[.slice A n c] t)) fun e w' => e = .returned (.tuple #[]) ∧ Fr (fun j => B ≤ j ∧ j < K) w w' ∧ WrAt w' (fun j => B ≤ j) b (l ++ textBytes x) := by
  have hx := hb.len
  have ht : (textBytes x).length ≤ n + 10 := by
    have := encN_len64 (n := x.length) (by omega)
    simp only [textBytes, List.length_append]
    omega
  have hA := ArrOf.one_bytes (G := fun k => (k < B ∨ K ≤ k) ∧ k < w.heap.size + 1) hb h1 h2 t (fun k hk h => ⟨h, by omega⟩) ⟨.inr hK, by omega⟩
  refine (WText_any _ (fun j => B ≤ j ∧ j < K) _ b l _ 1 1 [x] (hW.fr ((Fr.refl NoB w).alloc _) fun _ _ _ => id) hA (fun k h1 h2 => by omega) (fun k h => by simp only [World.size_alloc]; exact h.2) (by simp only [List.flatMap_cons, List.flatMap_nil, List.append_nil]; omega) (by omega)).mono ?_
  rintro e w' ⟨q1, q2, q3⟩
  simp only [List.flatMap_cons, List.flatMap_nil, List.append_nil, World.size_alloc] at q3
  exact ⟨q1, ((Fr.refl (fun j => B ≤ j ∧ j < K) w).alloc _).trans q2 fun _ _ h => h, q3.more fun j hj => by omega⟩

set_option maxRecDepth 100000 in
set_option maxHeartbeats 4000000 in
theorem bunPut_any (w : World) (F : Nat → Prop) (y : List Value) (b : Bun) (hy : BunR w F y b) (hF : ∀ k, F k → k < w.heap.size) (hsz : ∀ x ∈ b.objs, x.length ≤ 70368744177664) (htot : (b.objs.flatMap textBytes).length ≤ 1000000000) :
    Calls Try.prog 66 #[.agg y.toArray] w fun e w' => NewBytes2 .i64 w w' e (bunOut b) (bunErr b) := by
  have hy0 := hy
  obtain ⟨A, n, c, B, m, d, rfl, hnc, hcm, hr, hmd, hdm, ho⟩ := hy
  have Hrl := Lib.hid hr.len
  have Hol := Lib.hid ho.len
  have Hl : Hid ((bunCells A n c B m d).length = 2) := rfl
  have hB : BunBlk (w.alloc (.cells (bunCells A n c B m d).toArray 112)) w.heap.size A n c B m d := ⟨Blk.new _ _ _⟩
  cases hmay : bunMay b with
  | false =>
    have e1 : bunOut b = [] := by simp [bunOut, hmay]
    have e2 : bunErr b = 340 := by simp [bunErr, hmay]
    rw [e1, e2]
    clear e1 e2
    have Hmay := Lib.hid hmay
    have hall := hB.all
    have hcall := fun W (hW : Fr NoB w W) => bunMay_any W F _ b (hy0.fr hW fun _ _ => id) hsz
    clear hmay hB hy0
    generalize bunCells A n c B m d = yc at *
    have Hcall := Lib.hid hcall
    clear hcall
    go_enter Try.func66, Try.ntmps66
    go_wp2_with (first
      | (refine wpList_load_agg rfl 112 (.tmp 1) rfl w.heap.size 0 rfl yc _ hall Try.underlying112 rfl (by rw [Hl.out]; exact bun_size) ?_)
      | (go_at_call 99; refine (Hcall.out _ ((Fr.refl NoB w).alloc _)).mono ?_; rw [Hmay.out]; rintro e w1 ⟨rfl, hf1⟩))
    go_ret2
    exact NewBytes2.none_ (((Fr.refl NoB w).alloc _).trans hf1 fun _ _ => id)
  | true =>
    have e1 : bunOut b = bunBytes b := by simp [bunOut, hmay]
    have e2 : bunErr b = 0 := by simp [bunErr, hmay]
    rw [e1, e2]
    clear e1 e2
    obtain ⟨a1, a2, a3⟩ := bunMay_of hmay
    rw [Hrl.out] at a1
    rw [Hol.out] at a3
    have A2 := Lib.hid a2
    have Hmay := Lib.hid hmay
    have hall := hB.all
    have hcall := fun W (hW : Fr NoB w W) => bunMay_any W F _ b (hy0.fr hW fun _ _ => id) hsz
    have Hcall := Lib.hid hcall
    clear hmay a2 hy0 hcall
    obtain ⟨yc, hyc⟩ : ∃ yc, yc = bunCells A n c B m d := ⟨_, rfl⟩
    rw [← hyc] at hall hB Hl Hcall ⊢
    have Hyc := Lib.hid hyc
    clear hyc
    go_enter Try.func66, Try.ntmps66
    go_wp2_with (first
      | (refine wpList_load_agg rfl 112 (.tmp 1) rfl w.heap.size 0 rfl yc _ hall Try.underlying112 rfl (by rw [Hl.out]; exact bun_size) ?_)
      | (go_at_call 99
         refine (Hcall.out _ ((Fr.refl NoB w).alloc _)).mono ?_
         rw [Hmay.out]
         rintro e w1 ⟨rfl, hf1⟩
         have s1 := hf1.size
         simp only [World.size_alloc] at s1
         have hB1 : BunBlk w1 w.heap.size A n c B m d := hB.fr hf1 id
         have hF1 : Fr NoB w w1 := ((Fr.refl NoB w).alloc _).trans hf1 fun _ _ => id
         have q0 := (hB1.fr ((Fr.refl NoB w1).alloc (.cells #[.slice none 0 0] 50)) id).c0
         clear hf1))
    obtain ⟨wa, hwa⟩ : ∃ wa, wa = w1.alloc (.cells #[.slice none 0 0] 50) := ⟨_, rfl⟩
    have hsa : wa.heap.size = w1.heap.size + 1 := by rw [hwa, World.size_alloc]
    have hWa : WrAt wa (fun j => w1.heap.size ≤ j) w1.heap.size [] := by rw [hwa]; exact (WrAt.new w1).more fun k h => by omega
    have hFa : Fr (fun j => w1.heap.size ≤ j) w1 wa := by rw [hwa]; exact (Fr.refl _ w1).alloc _
    rw [← hwa, ← hsa]
    clear hwa q0
    obtain ⟨P, hP⟩ : ∃ P, P = w1.heap.size := ⟨_, rfl⟩
    rw [← hP] at hsa hWa hFa s1 ⊢
    have hFP : ∀ k, F k → k < P := fun k hk => by have := hF k hk; omega
    have hgB : ¬ P ≤ w.heap.size := by omega
    have HP := Lib.hid hP
    clear hP hB hall
    refine (wr_n (B := P) (K := wa.heap.size) (l := []) (ns := [n]) (hWa.tight.fr ((Fr.refl NoB _).alloc _) fun _ _ _ => id) (Arr.nums wa _ _ _ _ (Nat.le_refl _) (by simp [u64v]) 1 rfl) (by simp; omega) (by simp; omega) (by simp)).mono ?_
    rintro e w3 ⟨rfl, hf3, hW3⟩
    have s3 := hf3.size
    simp only [World.size_alloc] at s3
    have hF3 := hFa.trans (((Fr.refl (fun j => P ≤ j) wa).alloc _).trans hf3 fun _ _ => id) fun _ _ => id
    obtain ⟨l3, hl3⟩ : ∃ l3, l3 = [] ++ [n].flatMap encN := ⟨_, rfl⟩
    have hn3 : l3.length ≤ 10 := by
      have e1 := encN_len64 (n := n) (by omega)
      rw [hl3]; simp; omega
    rw [← hl3] at hW3
    have Hl3 := Lib.hid hl3
    have hB3 := hB1.fr hF3 hgB
    have q0 := hB3.c0
    clear hl3
    go_wp2
    obtain ⟨w4, rfl⟩ : ∃ w4 : World, w4 = w3 := ⟨_, rfl⟩
    have hr4 : Refs w4 (fun k => F k ∧ k < P) A n b.refs := ArrOf.more ((hr.fr hF1 fun _ _ => id).fr hF3 fun k hk h => by have := hFP k hk; omega) (by omega) (fun k _ hk => ⟨hk, hFP k hk⟩) fun _ _ _ h => h
    go_loopw [22] (fun v wr => ∃ k : Nat, k ≤ n ∧ v = .int .i64 k ∧ WrAt wr (fun j => P ≤ j) P (l3 ++ (b.refs.take k).flatMap refBytes) ∧ (l3 ++ (b.refs.take k).flatMap refBytes).length ≤ 10 + 106 * k ∧ Fr (fun j => P ≤ j) w4 wr) (fun v _ => n - (intOf v).toNat)
    case atStart => exact ⟨0, by omega, rfl, by simpa using hW3, by simpa using hn3, Fr.refl _ _⟩
    case round =>
      obtain ⟨k, hk, rfl, hWk, hlen, hFk⟩ := hrel
      obtain ⟨w5, rfl⟩ : ∃ w5 : World, w5 = wr := ⟨_, rfl⟩
      have s5 := hFk.size
      by_cases hkn : k < n
      · obtain ⟨bb, oo, x, y, rfl, _, gx, _, hyr, hcell⟩ := ArrOf.at_ (hr4.fr hFk fun j hj h => by omega) hkn
        obtain ⟨hy, hxs⟩ := hyr
        have hx33 : Hid (y.length = 33) := by show _ = _; rw [hy]; exact refCells_len x
        have hx33a : Hid (y.toArray.size = 33) := by show _ = _; rw [hy]; simp [refCells_len]
        have hx1 : Hid (y.toArray.all (·.oneCell') = true) := by show _ = _; rw [hy]; exact refCells_ones x
        have Hy := Lib.hid hy
        have hil : k < b.refs.length := by rw [Hrl.out]; exact hkn
        have htk : l3 ++ (b.refs.take (k + 1)).flatMap refBytes = l3 ++ (b.refs.take k).flatMap refBytes ++ textBytes x.name.toList ++ x.id.1 := by
          rw [List.getElem?_eq_getElem hil] at gx
          injection gx with gx
          rw [List.take_succ_eq_append_getElem hil, gx, List.flatMap_append]
          simp [refBytes]
        have hx64 := A2.out x (List.mem_of_getElem? gx)
        have Htk := Lib.hid htk
        obtain ⟨lk, hlk⟩ : ∃ lk, lk = l3 ++ (b.refs.take k).flatMap refBytes := ⟨_, rfl⟩
        rw [← hlk] at hWk hlen
        have Hlk := Lib.hid hlk
        clear hy hil htk gx hlk
        go_wp2_with (first
          | (refine wpList_load_agg rfl 162 (.tmp 24) rfl bb (oo + k * 33) rfl y _ hcell Try.underlying162 rfl (by rw [hx33.out]; exact ref_size) ?_)
          | (refine wpList_alloc_any rfl 162 rfl 33 ref_zero ?_; intro z hz; have Hz := Lib.hid hz; clear hz)
          | (refine wpList_store_newN rfl 162 (.tmp 6) (.tmp 25) rfl 33 ref_size _ z Hz.out y.toArray rfl rfl hx33a.out hx1.out ?_
             obtain ⟨g, hg⟩ : ∃ g, g = w5.heap.size := ⟨_, rfl⟩
             obtain ⟨w6, hw6⟩ : ∃ w6, w6 = w5.alloc (.cells y.toArray 162) := ⟨_, rfl⟩
             have hf6 : Fr NoB w5 w6 := by rw [hw6]; exact (Fr.refl _ _).alloc _
             have hB6 : RefBlk w6 g x := by rw [hw6, hg, Hy.out]; exact ⟨Blk.new _ _ _⟩
             have hW6 := hWk.tight.fr hf6 fun _ _ _ => id
             have s6 : w6.heap.size = w5.heap.size + 1 := by rw [hw6, World.size_alloc]
             have c0 := hB6.c0
             rw [← hw6]
             rw [← hg]
             have hg5 : w5.heap.size ≤ g := by omega
             have hgl : g < w6.heap.size := by omega
             clear hw6 hg)
          | (refine wpList_str rfl 9 22 5 (.tmp 28) rfl Try.underlying9 Try.underlying22 Try.underlying5 x.name rfl hxs ?_; intro g7 c7 w7 hg7 hS7 hf7 hc7 hm7))
        have s7 := hf7.size
        refine (wr_textE (B := P) (K := w5.heap.size) (l := lk) (x := x.name.data.toList) (hW6.fr hf7 fun _ _ _ => id) (hS7.byt (.inr (by omega))) hc7 hm7 (by omega) (by omega) (by show lk.length + x.name.size + 30 ≤ _; omega)).mono ?_
        rintro e w8 ⟨rfl, hf8, hW8⟩
        have s8 := hf8.size
        have hB8 := (hB6.fr hf7 id).fr hf8 (by omega)
        have hF8 : Fr (fun j => P ≤ j) w5 w8 := ((hf6.trans hf7 fun _ _ => id).mono fun _ _ h => h.elim).trans hf8 fun _ _ h => h.1
        rw [← ByteArray.toList_eq] at hW8
        have hl8 : (lk ++ textBytes x.name.toList).length ≤ 10 + 106 * k + 74 := by
          have e : x.name.toList.length = x.name.size := toList_len _
          have := textBytes_lenE x.name.toList (by omega)
          rw [List.length_append]; omega
        go_wp2_with fail
        refine (wr_raw (B := P) (G := fun _ => True) (l := lk ++ textBytes x.name.toList) (x := x.id.1) hW8 (hB8.byt.more fun _ _ _ => trivial) (by omega) (by omega)).mono ?_
        rintro e w9 ⟨rfl, hf9, hW9⟩
        have s9 := hf9.size
        have hF9 := hF8.trans hf9 fun _ _ h => h
        rw [Hlk.out, ← Htk.out] at hW9
        have hl9 : (l3 ++ (b.refs.take (k + 1)).flatMap refBytes).length ≤ 10 + 106 * (k + 1) := by
          rw [Htk.out, ← Hlk.out, List.length_append, x.id.2]; omega
        clear hf9 hf8 hf7 hf6
        go_wp2
        go_roundw
        case rel => exact ⟨k + 1, by omega, by go_num, hW9, hl9, hFk.trans hF9 fun _ _ h => h⟩
        case measure => (simp [intOf] <;> omega)
      · obtain rfl : k = n := by omega
        rw [List.take_of_length_le (by rw [Hrl.out]; exact Nat.le_refl _)] at hWk hlen
        obtain ⟨l5, hl5⟩ : ∃ l5, l5 = l3 ++ b.refs.flatMap refBytes := ⟨_, rfl⟩
        rw [← hl5] at hWk hlen
        have Hl5 := Lib.hid hl5
        have hF5 := hF3.trans hFk fun _ _ h => h
        have hB5 := hB1.fr hF5 hgB
        have q1 := hB5.c1
        clear hl5
        go_wp2_with fail
        refine (wr_n (B := P) (K := w5.heap.size) (l := l5) (ns := [m]) (hWk.tight.fr ((Fr.refl NoB _).alloc _) fun _ _ _ => id) (Arr.nums w5 _ _ _ _ (Nat.le_refl _) (by simp [u64v]) 1 rfl) (by simp; omega) (by simp; omega) (by omega)).mono ?_
        rintro e w6 ⟨rfl, hf6, hW6⟩
        have s6 := hf6.size
        simp only [World.size_alloc] at s6
        have hF6 := hF5.trans (((Fr.refl (fun j => P ≤ j) w5).alloc _).trans hf6 fun _ _ => id) fun _ _ => id
        have hB6 := hB1.fr hF6 hgB
        have q2 := hB6.c1
        have hn6 : (l5 ++ [m].flatMap encN).length ≤ 20000 := by
          have e1 := encN_len64 (n := m) (by omega)
          simp; omega
        have ho6 : Bytss w6 (fun j => F j ∧ j < P) B m b.objs := Bytss.more ((ho.fr hF1 fun _ _ => id).fr hF6 fun j hj h => by have := hFP j hj; omega) fun j _ hj => ⟨hj, hFP j hj⟩
        go_wp2_with fail
        refine (WText_any w6 (fun j => P ≤ j) _ P (l5 ++ [m].flatMap encN) B m d b.objs hW6 ho6 (fun j h1 h2 => by omega) (fun j h => by omega) (by omega) (by omega)).mono ?_
        rintro e w7 ⟨rfl, hf7, hW7⟩
        have hW7' := hW7.more (G := fun j => P ≤ j) fun j hj => hj.elim id fun h => by omega
        have hF7 := hF6.trans hf7 fun _ _ h => h
        have s7 := hf7.size
        have hout : l5 ++ [m].flatMap encN ++ b.objs.flatMap textBytes = bunBytes b := by
          rw [Hl5.out, Hl3.out, bunBytes, Hrl.out, Hol.out]
          simp [List.append_assoc]
        have hn7 : (bunBytes b).length ≤ 2000000000 := by rw [← hout, List.length_append]; omega
        rw [hout] at hW7'
        clear hout hW7
        go_wp2_with fail
        refine (wr_bytes hW7' (by omega)).mono ?_
        rintro e w10 ⟨A10, c10, rfl, hf10, hO10, hin10⟩
        go_wp2
        go_ret2
        exact ⟨A10, c10, rfl, (hF1.new hF7 fun j hj => .inr (by have := HP.out; omega)).trans hf10 fun _ _ => id, hO10, fun j hj => by have := hin10 j hj; omega⟩
end

section
open Go.RowKit

def idOf (l : List UInt8) : Id32 := if h : l.length = 32 then ⟨l, h⟩ else zeroId
theorem idOf_eq {l : List UInt8} (h : l.length = 32) : (idOf l).1 = l := by rw [idOf, dif_pos h]
theorem idOf_zero {l : List UInt8} (h : l.length ≠ 32) : idOf l = zeroId := by rw [idOf, dif_neg h]
theorem id_zeroc : ((Try.prog.info? 74).bind (·.zero)).map (·.cells) = some (idCells zeroId).toArray := by kernel_rfl

section
variable {P : Program}
theorem wpList_alloc_zc {ops : Array Oper} {rest : List Oper} {o : Oper} {a : Act} {w : World} {Q : Exit → Act → World → Prop} (hgd : o.guard = none) (ty : TypeId) (ho : o.op = .alloc ty) (zs : Array Value)
    (hz : ((P.info? ty).bind (·.zero)).map (·.cells) = some zs)
    (h : wpList P ops Q rest (a.put o.dst (.pointer (some ⟨w.heap.size, 0, none⟩))) (w.alloc (.cells zs ty))) : wpList P ops Q (o :: rest) a w := by
  cases hq : (P.info? ty).bind (·.zero) with
  | none => rw [hq] at hz; cases hz
  | some z =>
    have hs : z.cells = zs := by rw [hq] at hz; injection hz
    subst hs
    refine wpList_run (v := .pointer (some ⟨w.heap.size, 0, none⟩)) (w' := w.alloc (.cells z.cells ty)) (by simp [Region.wanted, hgd]) ?_ h
    unfold execOp
    simp only [ho, Sem.run_bind, run_alloc_any w ty z hq, Result.andThen_ok, Sem.run_pure]
end

set_option maxRecDepth 100000 in
set_option maxHeartbeats 2000000 in
theorem WId_any (w : World) (F : Nat → Prop) (b : Nat) (r : Rd) (h : RdAt w F b r) (hroom : r.l.length ≤ 70368744177664) :
    Calls Try.prog 91 #[.pointer (some ⟨b, 0, none⟩)] w fun e w' => e = .returned (.agg (idCells (idOf (r.Raw 32).1)).toArray) ∧ Fr (· = b) w w' ∧ RdAt w' F b (r.Raw 32).2 := by
  have h32 := Rd.Raw_32 r
  have hblt : b < w.heap.size := by obtain ⟨_, _, _, _, h, _⟩ := h; exact h.lt
  obtain ⟨zs, hzs⟩ : ∃ zs, zs = (idCells zeroId).toArray := ⟨_, rfl⟩
  have hzc := id_zeroc
  rw [← hzs] at hzc
  have hz32 : zs.size = 32 := by rw [hzs]; simp [idCells_len]
  have Hz32 := Lib.hid hz32
  have Hzs := Lib.hid hzs
  have Hzc := Lib.hid hzc
  clear hz32 hzs hzc
  have hf2 : Fr NoB w ((w.alloc (.cells zs 74)).alloc (.cells zs 74)) := ((Fr.refl NoB w).alloc _).alloc _
  have hB2 : Blk ((w.alloc (.cells zs 74)).alloc (.cells zs 74)) w.heap.size 74 zs := (Blk.new _ _ _).alloc _
  have hB3 : Blk ((w.alloc (.cells zs 74)).alloc (.cells zs 74)) (w.heap.size + 1) 74 zs := by simpa using Blk.new (w.alloc (.cells zs 74)) 74 zs
  obtain ⟨w2, hw2⟩ : ∃ w2, w2 = (w.alloc (.cells zs 74)).alloc (.cells zs 74) := ⟨_, rfl⟩
  have ht := h.more (G := fun j => F j ∧ j < w.heap.size) fun k hk h => ⟨h, hk⟩
  have hcall := fun W (hf : Fr NoB w2 W) => RRaw_any W (fun j => F j ∧ j < w.heap.size) b r 32 ((ht.fr (hw2 ▸ hf2) fun _ _ => id).fr hf fun _ _ => id) (by omega) (by omega) hroom
  generalize hq : r.Raw 32 = q at h32 hcall ⊢
  have Hq := Lib.hid hq
  have Hcall := Lib.hid hcall
  have Hw2 := Lib.hid hw2
  obtain ⟨x, hxq⟩ : ∃ x, x = idOf q.1 := ⟨_, rfl⟩
  rw [← hxq]
  have Hxq := Lib.hid hxq
  clear hq hcall hw2 hxq ht
  go_enter Try.func91, Try.ntmps91
  go_wp2_with (first | (refine wpList_alloc_zc rfl 74 rfl zs Hzc.out ?_))
  rw [← Hw2.out] at hf2 hB2 hB3 ⊢
  simp only [World.size_alloc]
  refine wp_region_held (S := fun _ => True) rfl ?_
  refine wpAnyH_take (i := 0) rfl (by decide +kernel) (by decide +kernel) (by decide +kernel) (fun _ _ _ h => h) (Or.inl ⟨rfl, fun W _ => by go_simp; with_reducible rfl⟩) trivial ?_
  refine wpAnyH_take (i := 1) rfl (by decide +kernel) (by decide +kernel) (by decide +kernel) (fun _ _ _ h => h) (Or.inl ⟨rfl, fun W _ => by go_simp; with_reducible rfl⟩) trivial ?_
  go_simp
  refine wpAnyH_all (rs := [2]) (by decide +kernel) (by simp) ?_
  intro i hi
  simp only [List.mem_cons, List.not_mem_nil, or_false] at hi
  subst hi
  refine wpOp_call rfl rfl 36 (enters_of Try.func36 (by kernel_rfl) rfl) #[.tmp 5, .const (.int .i64 32)] _ rfl _ rfl (Hcall.out _ (Fr.drew (Fr.refl NoB w2))) ?_
  rintro e w3 ⟨A3, c3, rfl, hf3, hR3, hO3, hin3⟩
  refine ⟨_, rfl, trivial, ?_⟩
  have hB2' := (hB2.drew).fr hf3 (by omega)
  have hB3' := (hB3.drew).fr hf3 (by omega)
  have hF3 : Fr (· = b) w w3 := (hf2.mono fun _ _ h => h.elim).trans ((Fr.drew (Fr.refl _ w2)).trans hf3 fun _ _ => id) fun _ _ => id
  clear hB2 hB3
  rcases h32 with h32 | h32
  · rw [h32] at hO3 ⊢
    have hB := hO3.arr (F := fun j => w2.drew.heap.size ≤ j) fun k _ hk => hin3 k hk
    obtain ⟨sb, so, hA3, hsb, hsc⟩ := hB.2 (by omega)
    subst hA3
    have hx : idCells x = q.1.map bv := by rw [idCells, Hxq.out, idOf_eq h32]
    have Hx : Hid ((idCells x).length = 32) := idCells_len _
    have Hxs : Hid ((idCells x).toArray.size = 32) := by show _ = _; simp [idCells_len]
    have Hx1 := Lib.hid (Id32_one x)
    rw [← hx] at hsc
    have hcp := run_copy_row (P := Try.prog) w3 22 22 3 5 (w.heap.size + 1) 0 32 32 ⟨sb, so, none⟩ 32 c3 zs 74 (idCells x) Try.underlying22 (by kernel_rfl) hB3' (by rw [Hx.out]; rfl) (fun j v hj => by rw [Addr.add_lit]; exact hsc j v hj) (by rw [Hx.out, Hz32.out]; omega) (fun v hv => bv_one _ v (by rw [← hx]; exact hv))
    rw [Hx.out, show (zs.toList.take 0 ++ idCells x ++ zs.toList.drop (0 + 32)) = idCells x from by rw [List.take_zero, List.drop_of_length_le (by simp [Hz32.out])]; simp] at hcp
    obtain ⟨hfs, hBs⟩ := setRow_fr (ds := (idCells x).toArray) hB3'
    go_simp
    refine wpAnyH_all (rs := [3]) (by decide +kernel) (by simp) ?_
    intro i hi
    simp only [List.mem_cons, List.not_mem_nil, or_false] at hi
    subst hi
    refine wpOp_run (v := goInt 32) (w' := w3.setRow (w.heap.size + 1) (idCells x).toArray) rfl rfl (by simp [execOp, resolve, invoke, builtin, Act.eval, hcp, Result.andThen]) ⟨trivial, ?_⟩
    refine wpAnyH_done (by decide +kernel) ?_ _
    have hB2s := hB2'.fr hfs (by omega)
    have hall : ∀ (j : Nat) (u : Value), (idCells x)[j]? = some u → (w3.setRow (w.heap.size + 1) (idCells x).toArray).cell? ⟨w.heap.size + 1, 0 + j, none⟩ = some u := fun j u hu => by rw [Nat.zero_add, hBs.cell]; simpa using hu
    have Hzx : Hid (zs.size = (idCells x).toArray.size) := by show _ = _; rw [Hz32.out, Hxs.out]
    clear hcp hx hsc
    go_wp2_with (first
      | (refine wpList_load_agg rfl 74 (.tmp 3) rfl (w.heap.size + 1) 0 rfl (idCells x) _ hall Try.underlying74 rfl (by rw [Hx.out]; exact id_size) ?_)
      | (refine wpList_store_row rfl 74 (.tmp 2) (.tmp 8) rfl w.heap.size (idCells x).toArray rfl rfl 74 zs hB2s (by rw [Hxs.out]; exact id_size) Hzx.out Hx1.out ?_))
    obtain ⟨hft, hBt⟩ := setRow_fr (ds := (idCells x).toArray) hB2s
    refine bodyPost_ret (results_cell rfl rfl (fun j v hv => by rw [Nat.zero_add, hBt.cell]; simpa using hv) Try.underlying74 rfl (by rw [Hx.out]; exact id_size)) rfl ?_
    exact ⟨rfl, (hF3.new hfs fun j e => .inr (by omega)).new hft fun j e => .inr (by omega), ((hR3.fr hfs fun j e h => by omega).fr hft fun j e h => by omega).more fun _ _ h => h.1⟩
  · rw [h32] at hO3 ⊢
    have hcp := run_copy_none (P := Try.prog) w3 22 22 3 5 (some ⟨w.heap.size + 1, 0, none⟩) A3 32 32 0 c3 Try.underlying22 (by kernel_rfl) rfl
    have hx0 := idOf_zero (l := q.1) (by omega)
    have Hx : Hid ((idCells x).length = 32) := idCells_len _
    have Hxs : Hid ((idCells x).toArray.size = 32) := by show _ = _; simp [idCells_len]
    have Hx1 := Lib.hid (Id32_one x)
    rw [Hzs.out, ← hx0, ← Hxq.out] at hB2' hB3'
    clear hx0
    go_simp
    refine wpAnyH_all (rs := [3]) (by decide +kernel) (by simp) ?_
    intro i hi
    simp only [List.mem_cons, List.not_mem_nil, or_false] at hi
    subst hi
    refine wpOp_run (v := goInt 0) (w' := w3) rfl rfl (by simp [execOp, resolve, invoke, builtin, Act.eval, hcp, Result.andThen]) ⟨trivial, ?_⟩
    refine wpAnyH_done (by decide +kernel) ?_ _
    have hall : ∀ (j : Nat) (u : Value), (idCells x)[j]? = some u → w3.cell? ⟨w.heap.size + 1, 0 + j, none⟩ = some u := fun j u hu => by rw [Nat.zero_add, hB3'.cell]; simpa using hu
    clear hcp
    go_wp2_with (first
      | (refine wpList_load_agg rfl 74 (.tmp 3) rfl (w.heap.size + 1) 0 rfl (idCells x) _ hall Try.underlying74 rfl (by rw [Hx.out]; exact id_size) ?_)
      | (refine wpList_store_row rfl 74 (.tmp 2) (.tmp 8) rfl w.heap.size (idCells x).toArray rfl rfl 74 (idCells x).toArray hB2' (by rw [Hxs.out]; exact id_size) rfl Hx1.out ?_))
    obtain ⟨hft, hBt⟩ := setRow_fr (ds := (idCells x).toArray) hB2'
    refine bodyPost_ret (results_cell rfl rfl (fun j v hv => by rw [Nat.zero_add, hBt.cell]; simpa using hv) Try.underlying74 rfl (by rw [Hx.out]; exact id_size)) rfl ?_
    exact ⟨rfl, hF3.new hft fun j e => .inr (by omega), (hR3.fr hft fun j e h => by omega).more fun _ _ h => h.1⟩
end
end Go.Proofs.Ytnkfchondedfcaa
