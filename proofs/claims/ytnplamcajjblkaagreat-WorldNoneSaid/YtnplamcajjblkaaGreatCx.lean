/-
  What a writer of bytes does further (codec.Writer): Raw, Text, Ids. Conditions: each contract states its own.
-/
import Derived.Test.YtnplamcajjblkaaGreatCw
namespace Go.Proofs.YtnplamcajjblkaaGreat
open Go.RowKit

/-- An id: 32 bytes. -/
abbrev Id32 := { l : List UInt8 // l.length = 32 }
def idCells (x : Id32) : List Value := x.1.map bv
theorem idCells_len (x : Id32) : (idCells x).length = 32 := by simp [idCells, x.2]
def zeroId : Id32 := ⟨List.replicate 32 0, rfl⟩
def IdR (y : List Value) (x : Id32) : Prop := y = idCells x
def idsFlat (l : List Id32) : List UInt8 := l.flatMap (·.1)

/-- A slice of bytes as an element. -/
def BytR (w : World) (F : Nat → Prop) (y : List Value) (l : List UInt8) : Prop := ∃ A n c, y = [.slice A n c] ∧ n ≤ c ∧ c ≤ maxLen ∧ Byt w F A n l
theorem BytR.fr {w w' : World} {F S : Nat → Prop} {y : List Value} {l : List UInt8} (h : BytR w F y l) (hf : Fr S w w') (hd : ∀ k, F k → ¬ S k) : BytR w' F y l := by
  obtain ⟨A, n, c, h1, h2, h3, h4⟩ := h
  exact ⟨A, n, c, h1, h2, h3, h4.fr hf hd⟩

/-- A slice of one slice of bytes, just made. -/
theorem ArrOf.one_bytes {w : World} {F G : Nat → Prop} {A : Option Addr} {n c : Nat} {l : List UInt8} (h : Byt w F A n l) (h1 : n ≤ c) (h2 : c ≤ maxLen) (t : TypeId) (hF : ∀ k, k < w.heap.size → F k → G k) (hG : G w.heap.size) :
    ArrOf (BytR (w.alloc (.cells #[.slice A n c] t)) G) (w.alloc (.cells #[.slice A n c] t)) G 1 (some ⟨w.heap.size, 0, none⟩) 1 [l] := by
  refine ⟨rfl, fun _ => ⟨_, _, rfl, hG, fun k a ha => ?_⟩⟩
  match k, ha with
  | 0, ha =>
    simp at ha
    subst ha
    refine ⟨[.slice A n c], rfl, ⟨A, n, c, rfl, h1, h2, (h.more hF).alloc _⟩, fun j u hu => ?_⟩
    have := cell_one_new w (.slice A n c) t j u hu
    rw [Addr.add_lit] at this
    simpa using this

/-- Lists of numbers, each with its bytes ahead. -/
def textBytes (l : List UInt8) : List UInt8 := encN l.length ++ l
def idsBytes (l : List Id32) : List UInt8 := encN l.length ++ idsFlat l

theorem WrAt.tight {w : World} {F : Nat → Prop} {b : Nat} {l : List UInt8} (h : WrAt w F b l) : WrAt w (fun j => F j ∧ j < w.heap.size) b l := by
  obtain ⟨h1, A, n, c, h2, h3, h4⟩ := h
  exact ⟨⟨h1, h2.lt⟩, A, n, c, h2, h3, fun k hk => ⟨h4 k hk, h3.lt hk⟩⟩

set_option maxHeartbeats 400000 in
theorem WRaw_any (w : World) (F G : Nat → Prop) (b : Nat) (l x : List UInt8) (A : Option Addr) (m c : Nat) (h : WrAt w F b l) (hr : Byt w G A m x) (hroom : l.length + m ≤ 70368744177664) :
    Calls Tryz.prog 178 #[.pointer (some ⟨b, 0, none⟩), .slice A m c] w fun e w' => e = .returned (.tuple #[]) ∧ Fr F w w' ∧ WrAt w' (fun k => F k ∨ w.heap.size ≤ k) b (l ++ x) := by
  obtain ⟨hF, A2, n2, c2, hB, hO, hA⟩ := h
  have hc2 := hB.cell_0
  have hn : l.length = n2 := by have := hO.len; simpa using this
  subst hn
  go_enter Tryz.func178, Tryz.ntmps178
  go_wp2_with (at_builtin; refine wpList_app _ el_u8w rfl (.tmp 10) (.tmp 11) rfl A2 _ c2 _ rfl hO _ _ m c _ rfl hr (bv_one x) (by omega) ?_; intro A3 c3 w3 hown3 hf3 hin3 hnil3; have hc3 := hf3.cell' (p := ⟨b, 0, none⟩) hB.cell_0 (hO.ne_blk hB (by decide)); have hfz3 := (hB.fr hf3 (hO.ne_blk hB (by decide))).frozen 0)
  go_end0
  obtain ⟨hs1, hs2⟩ := wr_step hF hB hO hA hown3 hf3 (fun k hk => (hin3 k hk).imp id (fun h => by omega))
  exact ⟨rfl, hs1, hs2⟩

set_option maxHeartbeats 400000 in
theorem WRaw_nil (w : World) (v : Value) : Calls Tryz.prog 178 #[.pointer none, v] w fun e w' => e = .returned (.tuple #[]) ∧ w = w' := by
  go_enter Tryz.func178, Tryz.ntmps178
  go_wp2
  go_end0
  exact ⟨rfl, rfl⟩

set_option maxRecDepth 100000 in
set_option maxHeartbeats 1000000 in
theorem WText_any (w : World) (F G : Nat → Prop) (b : Nat) (l : List UInt8) (A : Option Addr) (m c : Nat) (ts : List (List UInt8)) (h : WrAt w F b l) (hr : ArrOf (BytR w G) w G 1 A m ts) (hd : ∀ k, F k → ¬ G k) (hG : ∀ k, G k → k < w.heap.size)
    (hroom : l.length + (ts.flatMap textBytes).length + 10 ≤ 70368744177664) (hm : m ≤ 70368744177664) :
    Calls Tryz.prog 180 #[.pointer (some ⟨b, 0, none⟩), .slice A m c] w fun e w' => e = .returned (.tuple #[]) ∧ Fr F w w' ∧ WrAt w' (fun k => F k ∨ w.heap.size ≤ k) b (l ++ ts.flatMap textBytes) := by
  go_enter Tryz.func180, Tryz.ntmps180
  obtain ⟨w0, rfl⟩ : ∃ w0 : World, w0 = w := ⟨_, rfl⟩
  go_wp2
  go_loopw [8] (fun i wr => ∃ k : Nat, k ≤ m ∧ i = .int .i64 k ∧ WrAt wr (fun j => F j ∨ w0.heap.size ≤ j) b (l ++ (ts.take k).flatMap textBytes) ∧ Fr F w0 wr) (fun i _ => m - (intOf i).toNat)
  case atStart => exact ⟨0, by omega, rfl, by simpa using h.more fun _ => .inl, Fr.refl _ _⟩
  case round =>
    obtain ⟨k, hk, rfl, hW, hF0⟩ := hrel
    obtain ⟨w1, rfl⟩ : ∃ w1 : World, w1 = wr := ⟨_, rfl⟩
    have Hm := Lib.hid hr.len
    by_cases hkm : k < m
    · have hrw := hr.fr hF0 (fun k hG hF => hd k hF hG) (R' := BytR w1 G) fun y a _ hy => hy.fr hF0 fun k hG hF => hd k hF hG
      obtain ⟨bb, o, t, y, rfl, hGb, ht, hy, ⟨At, nt, ct, rfl, hnc, hcm, hbt⟩, hcell⟩ := hrw.at_ hkm
      have hc := hcell 0 _ rfl
      simp at hc
      have hkl : k < ts.length := by rw [Hm.out]; exact hkm
      have Htake : Hid (l ++ (ts.take (k + 1)).flatMap textBytes = l ++ (ts.take k).flatMap textBytes ++ textBytes t) := by
        show _ = _
        rw [List.take_succ_eq_append_getElem hkl, List.flatMap_append]
        rw [List.getElem?_eq_getElem hkl] at ht
        injection ht with ht
        rw [ht]; simp
      have hle : (l ++ (ts.take k).flatMap textBytes).length + (textBytes t).length ≤ l.length + (ts.flatMap textBytes).length := by
        have e : ts.flatMap textBytes = (ts.take (k + 1)).flatMap textBytes ++ (ts.drop (k + 1)).flatMap textBytes := by rw [← List.flatMap_append, List.take_append_drop]
        have := congrArg List.length Htake.out
        have e2 := congrArg List.length e
        simp only [List.length_append] at this e2 ⊢
        omega
      have htl := hbt.len
      have htb : (textBytes t).length = (encN nt).length + nt := by simp [textBytes, htl]
      have hnt : nt < 18446744073709551616 := by unfold maxLen at hcm; omega
      have Htl := Lib.hid htl
      have hp := encN_len_pos nt
      generalize l ++ (ts.take k).flatMap textBytes = l1 at *
      clear ht hrw hcell htl
      go_wp2_with fail
      refine (WN_any _ (fun j => (F j ∨ w0.heap.size ≤ j) ∧ j < w1.heap.size) (fun k => k = w1.heap.size) b l1 _ 1 1 [nt] (hW.tight.fr ((Fr.refl NoB _).alloc _) (fun _ _ _ h => h)) ?_ (fun k hk => by omega) (by simpa using hnt) (by omega)).mono ?_
      · have := Arr.one w1 (u64v nt) 23
        simpa [u64v] using this
      rintro e w2 ⟨rfl, hf2, hW2⟩
      have s0 := hF0.size
      have s2 := hf2.size
      simp only [World.size_alloc] at s2
      have hbt2 := (hbt.alloc (.cells #[.int .u64 (nt : Int)] 23)).fr hf2 (fun k hG' hF' => hF'.1.elim (fun h => hd k h hG') (fun h => by have := hG k hG'; omega))
      simp only [List.flatMap_cons, List.flatMap_nil, List.append_nil] at hW2
      have hlen2 : (l1 ++ encN nt).length + nt ≤ 70368744177664 := by rw [List.length_append]; omega
      go_wp2_with fail
      refine (WRaw_any _ _ _ _ _ _ _ _ _ hW2 hbt2 hlen2).mono ?_
      rintro e w3 ⟨rfl, hf3, hW3⟩
      go_wp2
      go_roundw
      case rel =>
        refine ⟨k + 1, by omega, by go_num, ?_, ?_⟩
        · rw [Htake.out, textBytes, Htl.out, ← List.append_assoc]
          exact hW3.more fun j hj => by simp only [World.size_alloc] at hj; grind
        · exact ((hF0.alloc _).new hf2 fun j hj => hj.1).new hf3 fun j hj => by simp only [World.size_alloc] at hj; grind
      case measure => simp [intOf]; omega
    · have hke : k = m := by omega
      subst hke
      have Hw : WrAt w1 (fun j => F j ∨ w0.heap.size ≤ j) b (l ++ ts.flatMap textBytes) := by rwa [List.take_of_length_le (by rw [Hm.out]; exact Nat.le_refl _)] at hW
      go_wp2
      go_end0
      exact ⟨rfl, hF0, Hw⟩

end Go.Proofs.YtnplamcajjblkaaGreat
