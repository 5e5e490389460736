/-
  A reply as bytes (wire.PutReply). Conditions: each contract states its own.
-/
import Derived.Test.YtnkfchondedfcaaPb
import Derived.Test.YtnkfchondedfcaaMb
namespace Go.Proofs.Ytnkfchondedfcaa
open Go.RowKit

def nameBytes (l : List ByteArray) : List UInt8 := l.flatMap fun s => textBytes s.data.toList
def repHead (r : Rep) : List UInt8 := [2] ++ encN r.client ++ encN r.seq ++ encN r.err.toNat ++ r.id.1 ++ encN r.n ++ textBytes r.body ++ encN r.names.length
/-- A reply's bytes. -/
def repBytes (r : Rep) : List UInt8 := repHead r ++ nameBytes r.names
def repOut (r : Rep) : List UInt8 := if repAns r = true then repBytes r else []
def repErr (r : Rep) : Int := if repAns r = true then 0 else 180
theorem ans_of {r : Rep} (h : repAns r = true) : 0 ≤ r.err ∧ r.err ≤ 1000 ∧ r.body.length ≤ 110000 ∧ r.names.length ≤ 1000 ∧ ∀ s ∈ r.names, s.size ≤ 64 := by
  simpa [repAns] using h
theorem nameBytes_snoc (l : List ByteArray) (s : ByteArray) : nameBytes (l ++ [s]) = nameBytes l ++ textBytes s.data.toList := by simp [nameBytes]
theorem textBytes_len (l : List UInt8) (h : l.length < 18446744073709551616) : (textBytes l).length ≤ l.length + 10 := by
  have := encN_len64 (n := l.length) h
  simp only [textBytes, List.length_append]; omega

set_option maxRecDepth 100000 in
set_option maxHeartbeats 4000000 in
theorem PutReply_any (w : World) (F : Nat → Prop) (y : List Value) (r : Rep) (hy : RepR w F y r) (hF : ∀ k, F k → k < w.heap.size) :
    Calls Try.prog 57 #[.agg y.toArray] w fun e w' => NewBytes2 .i64 w w' e (repOut r) (repErr r) := by
  have hy0 := hy
  obtain ⟨A, n, c, B, m, d, rfl, hnc, hcm, hb, hmd, hdm, hn, hwf⟩ := hy
  have hbl := hb.len
  have Hbl := Lib.hid hbl
  have Hml := Lib.hid (Strs.len hn)
  clear hbl
  have Hl : Hid ((repCells r A n c B m d).length = 38) := repCells_len r A n c B m d
  have hB : RepBlk (w.alloc (.cells (repCells r A n c B m d).toArray 90)) w.heap.size r A n c B m d := ⟨Blk.new _ _ _⟩
  cases hask : repAns r with
  | false =>
    have e1 : repOut r = [] := by simp [repOut, hask]
    have e2 : repErr r = 180 := by simp [repErr, hask]
    rw [e1, e2]
    clear e1 e2
    have Hask := Lib.hid hask
    clear hask
    go_enter Try.func57, Try.ntmps57
    go_wp2_with (first
      | (refine wpList_load_agg rfl 90 (.tmp 1) rfl w.heap.size 0 rfl _ _ hB.all Try.underlying90 rfl (by rw [Hl.out]; exact rep_size) ?_)
      | (go_at_call 94; refine (answers_any _ F _ r (hy0.fr ((Fr.refl NoB w).alloc _) fun _ _ => id)).mono ?_; rw [Hask.out]; rintro e w1 ⟨rfl, hf1⟩))
    go_ret2
    exact NewBytes2.none_ (((Fr.refl NoB w).alloc _).trans hf1 fun _ _ => id)
  | true =>
    have e1 : repOut r = repBytes r := by simp [repOut, hask]
    have e2 : repErr r = 0 := by simp [repErr, hask]
    rw [e1, e2]
    clear e1 e2
    obtain ⟨a1, a2, a3, a4, a5⟩ := ans_of hask
    rw [Hbl.out] at a3
    rw [Hml.out] at a4
    have A5 := Lib.hid a5
    have Hask := Lib.hid hask
    clear hask a5
    go_enter Try.func57, Try.ntmps57
    go_wp2_with (first
      | (refine wpList_load_agg rfl 90 (.tmp 1) rfl w.heap.size 0 rfl _ _ hB.all Try.underlying90 rfl (by rw [Hl.out]; exact rep_size) ?_)
      | (go_at_call 94; refine (answers_any _ F _ r (hy0.fr ((Fr.refl NoB w).alloc _) fun _ _ => id)).mono ?_; rw [Hask.out]; rintro e w1 ⟨rfl, hf1⟩))
    obtain ⟨wf0, wf1, -, -, wf7, wf8⟩ := hwf
    have Wf8 := Lib.hid wf8
    have hkk : ((r.err.toNat : Nat) : Int) = r.err := Int.toNat_of_nonneg (by omega)
    have Hkk := Lib.hid hkk
    clear hkk wf8
    have hk64 : r.err.toNat < 18446744073709551616 := by omega
    have s1 := hf1.size
    simp only [World.size_alloc] at s1
    have hgB : ¬ w1.heap.size ≤ w.heap.size := by omega
    have hB1 := hB.fr hf1 id
    have hF1 : Fr NoB w w1 := ((Fr.refl NoB w).alloc _).trans hf1 fun _ _ => id
    clear hB hf1 hy0
    refine (wr_raw (B := w1.heap.size) (l := []) (x := [2]) (G := fun _ => True) (((WrAt.new w1).more fun k h => by omega).fr ((Fr.refl NoB _).alloc _) fun _ _ _ => id) ?_ (by simp; omega) (by simp)).mono ?_
    · have := Byt.new (w1.alloc (.cells #[.slice none 0 0] 50)) 5 [2] #[.int .u8 2] (by simp [bv])
      simpa using this.more (F' := fun _ => True) fun _ _ _ => trivial
    rintro e w2 ⟨rfl, hf2, hW2⟩
    have s2 := hf2.size
    simp only [World.size_alloc] at s2
    have hF2 : Fr (fun j => w1.heap.size ≤ j) w1 w2 := ((((Fr.refl _ w1).alloc _).alloc _).trans hf2 fun _ _ => id)
    have hB2 := hB1.fr hF2 hgB
    have q0 := hB2.c0
    have q1 := hB2.c1
    have q2 := hB2.c2
    go_wp2_with fail
    refine (wr_n (B := w1.heap.size) (K := w2.heap.size) (ns := [r.client, r.seq, r.err.toNat]) (hW2.tight.fr ((Fr.refl NoB _).alloc _) fun _ _ _ => id) (Arr.nums w2 _ _ _ _ (Nat.le_refl _) (by simp [u64v, Hkk.out]) 3 rfl) (by simp; omega) (by simp; omega) (by simp)).mono ?_
    rintro e w3 ⟨rfl, hf3, hW3⟩
    clear q0 q1 q2
    have s3 := hf3.size
    simp only [World.size_alloc] at s3
    have hF3 := hF2.trans (((Fr.refl (fun j => w1.heap.size ≤ j) w2).alloc _).trans hf3 fun _ _ => id) fun _ _ => id
    obtain ⟨l3, hl3⟩ : ∃ l3, l3 = [] ++ [2] ++ [r.client, r.seq, r.err.toNat].flatMap encN := ⟨_, rfl⟩
    have hn3 : l3.length ≤ 100 := by
      have e1 := encN_len64 (n := r.client) (by omega)
      have e2 := encN_len64 (n := r.seq) (by omega)
      have e3 := encN_len64 (n := r.err.toNat) (by omega)
      rw [hl3]; simp; omega
    rw [← hl3] at hW3
    have Hl3 := Lib.hid hl3
    clear hl3
    have hB3 := hB1.fr hF3 hgB
    go_wp2_with fail
    refine (wr_raw (B := w1.heap.size) (l := l3) (x := r.id.1) (G := fun _ => True) hW3 (hB3.id_ _ trivial) (by omega) (by omega)).mono ?_
    rintro e w6 ⟨rfl, hf6, hW6⟩
    have hF6 := hF3.trans hf6 fun _ _ => id
    have s6 := hF6.size
    have hB6 := hB1.fr hF6 hgB
    have hn6 : (l3 ++ r.id.1).length ≤ 132 := by rw [List.length_append, r.id.2]; omega
    obtain ⟨l7, hl7⟩ : ∃ l7, l7 = l3 ++ r.id.1 := ⟨_, rfl⟩
    rw [← hl7] at hW6 hn6
    have Hl7 := Lib.hid hl7
    clear hl7
    have q35 := hB6.c35
    go_wp2_with fail
    refine (wr_n (B := w1.heap.size) (K := w6.heap.size) (l := l7) (ns := [r.n]) (hW6.tight.fr ((Fr.refl NoB _).alloc _) fun _ _ _ => id) (Arr.nums w6 _ _ _ _ (Nat.le_refl _) (by simp [u64v]) 1 rfl) (by simp; omega) (by simp; omega) (by omega)).mono ?_
    rintro e w8 ⟨rfl, hf8, hW8⟩
    have hF8 := hF6.trans (((Fr.refl (fun j => w1.heap.size ≤ j) w6).alloc _).trans hf8 fun _ _ => id) fun _ _ => id
    have s8 := hF8.size
    have hB8 := hB1.fr hF8 hgB
    have hn8 : (l7 ++ [r.n].flatMap encN).length ≤ 142 := by
      have := encN_len64 (n := r.n) (by omega)
      simp; omega
    have q36 := hB8.c36
    have hb8 : Byt w8 (fun k => k < w1.heap.size ∨ w8.heap.size ≤ k) A n r.body := ((hb.fr hF1 fun _ _ => id).fr hF8 (fun k hk => by have := hF k hk; omega)).more fun k hk h => .inl (by have := hF k h; omega)
    clear q35
    go_wp2_with fail
    refine (wr_text (B := w1.heap.size) (K := w8.heap.size) (l := l7 ++ [r.n].flatMap encN) (x := r.body) hW8.tight hb8 hnc hcm (by omega) (by omega) (by omega)).mono ?_
    rintro e w9 ⟨rfl, hf9, hW9⟩
    have hF9 := hF8.trans hf9 fun _ _ => id
    have s9 := hF9.size
    have hn9 : (l7 ++ [r.n].flatMap encN ++ textBytes r.body).length ≤ 120000 := by
      have := textBytes_len r.body (by rw [Hbl.out]; omega)
      rw [Hbl.out] at this
      rw [List.length_append]; omega
    obtain ⟨l9, hl9⟩ : ∃ l9, l9 = l7 ++ [r.n].flatMap encN ++ textBytes r.body := ⟨_, rfl⟩
    rw [← hl9] at hW9 hn9
    have Hl9 := Lib.hid hl9
    clear hl9 q36
    have hB9 := hB1.fr hF9 hgB
    have q37 := hB9.c37
    have hw9 : IntKind.u64.wrap (m : Int) = (m : Int) := by rw [IntKind.wrap_u64]; omega
    go_wp2_with fail
    refine (wr_n (B := w1.heap.size) (K := w9.heap.size) (l := l9) (ns := [m]) (hW9.tight.fr ((Fr.refl NoB _).alloc _) fun _ _ _ => id) (Arr.nums w9 _ _ _ _ (Nat.le_refl _) (by simp [u64v]) 1 rfl) (by simp; omega) (by simp; omega) (by omega)).mono ?_
    rintro e w10 ⟨rfl, hf10, hW10⟩
    clear q37 hw9
    have hF10 := hF9.trans (((Fr.refl (fun j => w1.heap.size ≤ j) w9).alloc _).trans hf10 fun _ _ => id) fun _ _ => id
    have s10 := hF10.size
    have hB10 := hB1.fr hF10 hgB
    have hout : l9 ++ [m].flatMap encN = repHead r := by
      rw [Hl9.out, Hl7.out, Hl3.out, repHead, Hml.out]
      simp [List.append_assoc]
    have hn10 : (repHead r).length ≤ 120010 := by
      rw [← hout]
      have := encN_len64 (n := m) (by omega)
      simp; omega
    rw [hout] at hW10
    clear hout
    obtain ⟨l10, hl10⟩ : ∃ l10, l10 = repHead r := ⟨_, rfl⟩
    rw [← hl10] at hW10 hn10
    have Hl10 := Lib.hid hl10
    clear hl10
    have q37 := hB10.c37
    have hn10s : Strs w10 F B m r.names := Arr.fr (Arr.fr hn hF1 fun _ _ => id) hF10 fun k hk => by have := hF k hk; omega
    have hm63 : m ≤ 9223372036854775807 := by omega
    go_wp2
    clear q37
    obtain ⟨w11, rfl⟩ : ∃ w11 : World, w11 = w10 := ⟨_, rfl⟩
    go_loopw [50] (fun i wr => ∃ k : Nat, k ≤ m ∧ i = .int .i64 k ∧ WrAt wr (fun j => w1.heap.size ≤ j) w1.heap.size (l10 ++ nameBytes (r.names.take k)) ∧ (l10 ++ nameBytes (r.names.take k)).length ≤ 120010 + 80 * k ∧ Fr (fun j => w1.heap.size ≤ j) w11 wr) (fun i _ => m - (intOf i).toNat)
    case atStart => exact ⟨0, by omega, rfl, by simpa [nameBytes] using hW10, by simpa [nameBytes] using hn10, Fr.refl _ _⟩
    case round =>
      obtain ⟨k, hk, rfl, hW, hlk, hFk⟩ := hrel
      obtain ⟨w12, rfl⟩ : ∃ w12 : World, w12 = wr := ⟨_, rfl⟩
      have sk := hFk.size
      by_cases hkm : k < m
      · have hnk : Strs w12 F B m r.names := Arr.fr hn10s hFk fun j hj => by have := hF j hj; omega
        obtain ⟨g1, o1, x, hBe, _, gx, hc1⟩ := Strs.at_ hnk hkm
        subst hBe
        have hxs := A5.out x (List.mem_of_getElem? gx)
        have hxm := Wf8.out x (List.mem_of_getElem? gx)
        have Hex : Hid (l10 ++ nameBytes (r.names.take (k + 1)) = l10 ++ nameBytes (r.names.take k) ++ textBytes x.data.toList) := by
          show _ = _
          rw [take_snoc_of gx, nameBytes_snoc, List.append_assoc]
        have hxl : x.data.toList.length = x.size := rfl
        have htl := textBytes_len x.data.toList (by rw [hxl]; omega)
        rw [hxl] at htl
        clear gx hxl
        generalize l10 ++ nameBytes (r.names.take k) = lk at *
        go_wp2_with (first | (refine wpList_str rfl 9 22 5 (.tmp 55) rfl Try.underlying9 Try.underlying22 Try.underlying5 x rfl hxm ?_; intro g4 c4 w4 hg4 hS4 hf4 hc4 hm4))
        have s4 := hf4.size
        refine (wr_text (B := w1.heap.size) (K := w12.heap.size) (l := lk) (x := x.data.toList) (hW.tight.fr hf4 fun _ _ _ => id) (hS4.byt (.inr hg4)) hc4 hm4 (by omega) (by omega) (by show lk.length + x.size + 30 ≤ _; omega)).mono ?_
        rintro e w5 ⟨rfl, hf5, hW5⟩
        go_wp2
        go_roundw
        case rel => exact ⟨k + 1, by omega, by go_num, by rw [Hex.out]; exact hW5, by rw [Hex.out, List.length_append]; omega, hFk.trans ((hf4.mono fun _ _ h => h.elim).trans hf5 fun _ _ => id) fun _ _ => id⟩
        case measure => simp [intOf]; omega
      · have hke : k = m := by omega
        have hall : l10 ++ nameBytes (r.names.take k) = repBytes r := by
          rw [List.take_of_length_le (by rw [Hml.out]; omega), Hl10.out]; rfl
        rw [hall] at hW hlk
        clear hall
        go_wp2_with fail
        refine (wr_bytes hW (by omega)).mono ?_
        rintro e w20 ⟨A20, c20, rfl, hf20, hO20, hin20⟩
        go_wp2
        go_ret2
        exact ⟨A20, c20, rfl, (hF1.new (hF10.trans hFk fun _ _ => id) fun j hj => .inr (by omega)).trans hf20 fun _ _ => id, hO20, fun j hj => by have := hin20 j hj; omega⟩
end Go.Proofs.Ytnkfchondedfcaa
