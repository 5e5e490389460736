/-
  A request as bytes (wire.PutRequest). Conditions: each contract states its own.
-/
import Derived.Test.YtnkfchondedfcaaMa
import Derived.Test.YtnkfchondedfcaaMw
namespace Go.Proofs.Ytnkfchondedfcaa
open Go.RowKit

/-- A request's bytes. -/
def reqBytes (r : Req) : List UInt8 :=
  [1] ++ encN r.client ++ encN r.seq ++ encN r.kind.toNat ++ encN r.tenant ++ textBytes r.name.data.toList ++ r.id.1 ++ r.old.1 ++ encN r.n ++ textBytes r.body
def reqOut (r : Req) : List UInt8 := if reqAsks r = true then reqBytes r else []
def reqErr (r : Req) : Int := if reqAsks r = true then 0 else 180

theorem asks_of {r : Req} (h : reqAsks r = true) : 1 ≤ r.kind ∧ r.kind ≤ 10 ∧ r.name.size ≤ 64 ∧ r.body.length ≤ 110000 := by
  simpa [reqAsks] using h

set_option maxRecDepth 100000 in
set_option maxHeartbeats 4000000 in
theorem PutRequest_any (w : World) (F : Nat → Prop) (y : List Value) (r : Req) (hy : ReqR w F y r) (hF : ∀ k, F k → k < w.heap.size) :
    Calls Try.prog 49 #[.agg y.toArray] w fun e w' => NewBytes2 .i64 w w' e (reqOut r) (reqErr r) := by
  have hy0 := hy
  obtain ⟨A, n, c, rfl, hnc, hcm, hb, hwf⟩ := hy
  have hbl := hb.len
  have Hbl := Lib.hid hbl
  clear hbl
  cases hask : reqAsks r with
  | false =>
    have e1 : reqOut r = [] := by simp [reqOut, hask]
    have e2 : reqErr r = 180 := by simp [reqErr, hask]
    rw [e1, e2]
    clear e1 e2
    have Hask := Lib.hid hask
    clear hask
    have Hl : Hid ((reqCells r A n c).length = 71) := reqCells_len r A n c
    have hB : ReqBlk (w.alloc (.cells (reqCells r A n c).toArray 76)) w.heap.size r A n c := ⟨Blk.new _ _ _⟩
    go_enter Try.func49, Try.ntmps49
    go_wp2_with (first
      | (refine wpList_load_agg rfl 76 (.tmp 1) rfl w.heap.size 0 rfl _ _ hB.all Try.underlying76 rfl (by rw [Hl.out]; exact req_size) ?_)
      | (go_at_call 89; refine (asks_any _ F _ r (hy0.fr ((Fr.refl NoB w).alloc _) fun _ _ => id)).mono ?_; rw [Hask.out]; rintro e w1 ⟨rfl, hf1⟩))
    go_ret2
    exact NewBytes2.none_ (((Fr.refl NoB w).alloc _).trans hf1 fun _ _ => id)
  | true =>
    have e1 : reqOut r = reqBytes r := by simp [reqOut, hask]
    have e2 : reqErr r = 0 := by simp [reqErr, hask]
    rw [e1, e2]
    clear e1 e2
    obtain ⟨a1, a2, a3, a4⟩ := asks_of hask
    rw [Hbl.out] at a4
    have Hask := Lib.hid hask
    clear hask
    have Hl : Hid ((reqCells r A n c).length = 71) := reqCells_len r A n c
    have hB : ReqBlk (w.alloc (.cells (reqCells r A n c).toArray 76)) w.heap.size r A n c := ⟨Blk.new _ _ _⟩
    go_enter Try.func49, Try.ntmps49
    go_wp2_with (first
      | (refine wpList_load_agg rfl 76 (.tmp 1) rfl w.heap.size 0 rfl _ _ hB.all Try.underlying76 rfl (by rw [Hl.out]; exact req_size) ?_)
      | (go_at_call 89; refine (asks_any _ F _ r (hy0.fr ((Fr.refl NoB w).alloc _) fun _ _ => id)).mono ?_; rw [Hask.out]; rintro e w1 ⟨rfl, hf1⟩))
    obtain ⟨wf0, wf1, -, -, wf3, wf4, wf7⟩ := hwf
    have hkk : ((r.kind.toNat : Nat) : Int) = r.kind := Int.toNat_of_nonneg (by omega)
    have Hkk := Lib.hid hkk
    clear hkk
    have hk64 : r.kind.toNat < 18446744073709551616 := by omega
    have s1 := hf1.size
    simp only [World.size_alloc] at s1
    have hgB : ¬ w1.heap.size ≤ w.heap.size := by omega
    have hB1 : ReqBlk w1 w.heap.size r A n c := hB.fr hf1 id
    have hF1 : Fr NoB w w1 := ((Fr.refl NoB w).alloc _).trans hf1 fun _ _ => id
    clear hB hf1 hy0
    refine (wr_raw (B := w1.heap.size) (l := []) (x := [1]) (G := fun _ => True) (((WrAt.new w1).more fun k h => by omega).fr ((Fr.refl NoB _).alloc _) fun _ _ _ => id) ?_ (by simp; omega) (by simp)).mono ?_
    · have := Byt.new (w1.alloc (.cells #[.slice none 0 0] 50)) 5 [1] #[.int .u8 1] (by simp [bv])
      simpa using this.more (F' := fun _ => True) fun _ _ _ => trivial
    rintro e w2 ⟨rfl, hf2, hW2⟩
    have s2 := hf2.size
    simp only [World.size_alloc] at s2
    have hF2 : Fr (fun j => w1.heap.size ≤ j) w1 w2 := ((((Fr.refl _ w1).alloc _).alloc _).trans hf2 fun _ _ => id)
    have hB2 := hB1.fr hF2 hgB
    have q0 := hB2.c0
    have q1 := hB2.c1
    have q2 := hB2.c2
    have q3 := hB2.c3
    go_wp2_with fail
    refine (wr_n (B := w1.heap.size) (K := w2.heap.size) (ns := [r.client, r.seq, r.kind.toNat, r.tenant]) (hW2.tight.fr ((Fr.refl NoB _).alloc _) fun _ _ _ => id) (Arr.nums w2 _ _ _ _ (Nat.le_refl _) (by simp [u64v, Hkk.out]) 4 rfl) (by simp; omega) (by simp; omega) (by simp)).mono ?_
    rintro e w3 ⟨rfl, hf3, hW3⟩
    clear q0 q1 q2 q3
    have s3 := hf3.size
    simp only [World.size_alloc] at s3
    have hF3 := hF2.trans (((Fr.refl (fun j => w1.heap.size ≤ j) w2).alloc _).trans hf3 fun _ _ => id) fun _ _ => id
    obtain ⟨l3, hl3⟩ : ∃ l3, l3 = [] ++ [1] ++ [r.client, r.seq, r.kind.toNat, r.tenant].flatMap encN := ⟨_, rfl⟩
    have hn3 : l3.length ≤ 100 := by
      have e1 := encN_len64 (n := r.client) (by omega)
      have e2 := encN_len64 (n := r.seq) (by omega)
      have e3 := encN_len64 (n := r.kind.toNat) (by omega)
      have e4 := encN_len64 (n := r.tenant) (by omega)
      rw [hl3]; simp; omega
    rw [← hl3] at hW3
    have Hl3 := Lib.hid hl3
    clear hl3
    have hB3 := hB1.fr hF3 hgB
    have q4 := hB3.c4
    go_wp2_with (first | (refine wpList_str rfl 9 22 5 (.tmp 29) rfl Try.underlying9 Try.underlying22 Try.underlying5 r.name rfl wf4 ?_; intro g4 c4 w4 hg4 hS4 hf4 hc4 hm4))
    have s4 := hf4.size
    refine (wr_text (B := w1.heap.size) (K := w3.heap.size) (l := l3) (x := r.name.data.toList) (hW3.tight.fr hf4 fun _ _ _ => id) (hS4.byt (.inr hg4)) hc4 hm4 (by omega) (by omega) (by show l3.length + r.name.size + 30 ≤ _; omega)).mono ?_
    rintro e w5 ⟨rfl, hf5, hW5⟩
    have hF5 := hF3.trans ((hf4.mono fun _ _ h => h.elim).trans hf5 fun _ _ => id) fun _ _ => id
    have s5 := hF5.size
    have ht5 : (textBytes r.name.data.toList).length ≤ 74 := by
      have := encN_len64 (n := r.name.data.toList.length) (by show r.name.size < _; omega)
      have e : r.name.data.toList.length = r.name.size := rfl
      simp only [textBytes, List.length_append]; omega
    obtain ⟨l5, hl5⟩ : ∃ l5, l5 = l3 ++ textBytes r.name.data.toList := ⟨_, rfl⟩
    have hn5 : l5.length ≤ 174 := by rw [hl5, List.length_append]; omega
    rw [← hl5] at hW5
    have Hl5 := Lib.hid hl5
    clear hl5 ht5 q4
    have hB5 := hB1.fr hF5 hgB
    go_wp2_with fail
    refine (wr_raw (B := w1.heap.size) (l := l5) (x := r.id.1) (G := fun _ => True) hW5 (hB5.id_ _ trivial) (by omega) (by omega)).mono ?_
    rintro e w6 ⟨rfl, hf6, hW6⟩
    have hF6 := hF5.trans hf6 fun _ _ => id
    have s6 := hF6.size
    have hB6 := hB1.fr hF6 hgB
    have hn6 : (l5 ++ r.id.1).length ≤ 206 := by rw [List.length_append, r.id.2]; omega
    go_wp2_with fail
    refine (wr_raw (B := w1.heap.size) (l := l5 ++ r.id.1) (x := r.old.1) (G := fun _ => True) hW6 (hB6.old_ _ trivial) (by omega) (by omega)).mono ?_
    rintro e w7 ⟨rfl, hf7, hW7⟩
    have hF7 := hF6.trans hf7 fun _ _ => id
    have s7 := hF7.size
    have hB7 := hB1.fr hF7 hgB
    have hn7 : (l5 ++ r.id.1 ++ r.old.1).length ≤ 238 := by rw [List.length_append, r.old.2]; omega
    obtain ⟨l7, hl7⟩ : ∃ l7, l7 = l5 ++ r.id.1 ++ r.old.1 := ⟨_, rfl⟩
    rw [← hl7] at hW7 hn7
    have Hl7 := Lib.hid hl7
    clear hl7
    have q69 := hB7.c69
    go_wp2_with fail
    refine (wr_n (B := w1.heap.size) (K := w7.heap.size) (l := l7) (ns := [r.n]) (hW7.tight.fr ((Fr.refl NoB _).alloc _) fun _ _ _ => id) (Arr.nums w7 _ _ _ _ (Nat.le_refl _) (by simp [u64v]) 1 rfl) (by simp; omega) (by simp; omega) (by omega)).mono ?_
    rintro e w8 ⟨rfl, hf8, hW8⟩
    have hF8 := hF7.trans (((Fr.refl (fun j => w1.heap.size ≤ j) w7).alloc _).trans hf8 fun _ _ => id) fun _ _ => id
    have s8 := hF8.size
    have hB8 := hB1.fr hF8 hgB
    have hn8 : (l7 ++ [r.n].flatMap encN).length ≤ 248 := by
      have := encN_len64 (n := r.n) (by omega)
      simp; omega
    have q70 := hB8.c70
    have hb8 : Byt w8 (fun k => k < w1.heap.size ∨ w8.heap.size ≤ k) A n r.body := ((hb.fr hF1 fun _ _ => id).fr hF8 (fun k hk => by have := hF k hk; omega)).more fun k hk h => .inl (by have := hF k h; omega)
    clear q69
    go_wp2_with fail
    refine (wr_text (B := w1.heap.size) (K := w8.heap.size) (l := l7 ++ [r.n].flatMap encN) (x := r.body) hW8.tight hb8 hnc hcm (by omega) (by omega) (by omega)).mono ?_
    rintro e w9 ⟨rfl, hf9, hW9⟩
    have hF9 := hF8.trans hf9 fun _ _ => id
    have s9 := hF9.size
    have hn9 : (l7 ++ [r.n].flatMap encN ++ textBytes r.body).length ≤ 200000 := by
      have := encN_len64 (n := r.body.length) (by rw [Hbl.out]; omega)
      simp only [textBytes, List.length_append, Hbl.out] at hn8 this ⊢; omega
    have hout : l7 ++ [r.n].flatMap encN ++ textBytes r.body = reqBytes r := by
      rw [Hl7.out, Hl5.out, Hl3.out, reqBytes]
      simp [List.append_assoc]
    rw [hout] at hW9 hn9
    clear hout q70
    go_wp2_with fail
    refine (wr_bytes hW9 (by omega)).mono ?_
    rintro e w10 ⟨A10, c10, rfl, hf10, hO10, hin10⟩
    go_wp2
    go_ret2
    exact ⟨A10, c10, rfl, (hF1.new hF9 fun j hj => .inr (by omega)).trans hf10 fun _ _ => id, hO10, fun j hj => by have := hin10 j hj; omega⟩
end Go.Proofs.Ytnkfchondedfcaa
