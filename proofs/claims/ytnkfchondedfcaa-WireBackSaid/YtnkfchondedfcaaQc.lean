/-
  The statement WireBack: a request and a reply that are put are read back as they were (the walk). Conditions: none but that the arguments can be read.
-/
import Derived.Test.YtnkfchondedfcaaQa
import Derived.Test.YtnkfchondedfcaaPf
import Derived.Test.YtnkfchondedfcaaMi
import Derived.Test.YtnkfchondedfcaaNd
namespace Go.Proofs.Ytnkfchondedfcaa
open Go.RowKit

-- the reply that any bytes are: as in XPh, pasted (a claim holds at most 60 files)
set_option maxRecDepth 100000 in
set_option maxHeartbeats 4000000 in
theorem OfReply_badP (w : World) (F0 : Nat → Prop) (A : Option Addr) (n c : Nat) (l : List UInt8) (h : Byt w F0 A n l) (hn : n ≤ 70368744177664) (hb : begunB l 2 = false) (hi : repIs l = false) :
    Calls Try.prog 59 #[.slice A n c] w fun e w' => GotRep (fun k => w.heap.size ≤ k) w w' e (repOf l) (repBad l) := by
  have e1 : repOf l = zeroRep := by rw [repOf, hi]; rfl
  have e2 : repBad l = 180 := by rw [repBad, hi]; rfl
  have He1 := Lib.hid e1
  have He2 := Lib.hid e2
  have hcall := fun z => begun_lit (c := c) (h.alloc (.cells z 90)) hn 2 2 (by simp)
  rw [hb] at hcall
  obtain ⟨rb, hrb⟩ : ∃ rb, rb = begunR l := ⟨_, rfl⟩
  rw [← hrb] at hcall
  have H38z : Hid ((repCells zeroRep none 0 0 none 0 0).toArray.size = 38) := by show _ = _; rw [List.size_toArray, repCells_len]
  have Honez : Hid ((repCells zeroRep none 0 0 none 0 0).toArray.all (·.oneCell') = true) := repCells_ones _ _ _ _ _ _ _
  obtain ⟨zc, hzc⟩ : ∃ zc, zc = repCells zeroRep none 0 0 none 0 0 := ⟨_, rfl⟩
  rw [← hzc] at H38z Honez
  have Hzc := Lib.hid hzc
  clear hzc hrb e1 e2 hi hb
  go_enter Try.func59, Try.ntmps59
  go_wp2_with (first
    | (refine wpList_alloc_any rfl 90 rfl 38 rep_zero ?_; intro z hz; have Hz := Lib.hid hz; clear hz))
  go_step3
  go_wp2_with fail
  refine (hcall z).mono ?_
  rintro e w0 ⟨b, rfl, hf0, hR⟩
  clear hcall
  have hF : Fr NoB w w0 := ((Fr.refl NoB w).alloc _).trans hf0 fun _ _ => id
  have hBz : Blk w0 w.heap.size 90 z := (Blk.new w _ _).fr hf0 id
  clear hf0 hR
  go_wp2_with (first
      | (refine wpList_build_eq rfl 90 #[] rfl [] rfl zc.toArray (by rw [Hzc.out]; exact zeroRep_built) ?_)
      | (refine wpList_store_row rfl 90 (.tmp 2) (.tmp 15) rfl w.heap.size zc.toArray rfl rfl 90 z hBz (by rw [H38z.out]; exact rep_size) (by rw [Hz.out, H38z.out]) Honez.out ?_))
  obtain ⟨hft, hBt⟩ := setRow_fr (ds := zc.toArray) hBz
  rw [Exit.noGoto_ret]
  refine bodyPost_ret (results_cell2 (cs := zc) rfl rfl (fun j v hv => by rw [Nat.zero_add, hBt.cell]; simpa using hv) Try.underlying90 rfl (by have h := H38z.out; simp at h; rw [h]; exact rep_size)) rfl ?_
  rw [He1.out, He2.out]
  have hgz := GotRep.zero (G := fun k => w.heap.size ≤ k) (hF.new hft fun j hj => .inr (by omega))
  rw [← Hzc.out] at hgz
  exact hgz
theorem OfReply_anyP (w : World) (F0 : Nat → Prop) (A : Option Addr) (n c : Nat) (l : List UInt8) (h : Byt w F0 A n l) (hn : n ≤ 70368744177664) :
    Calls Try.prog 59 #[.slice A n c] w fun e w' => GotRep (fun k => w.heap.size ≤ k) w w' e (repOf l) (repBad l) := by
  cases l with
  | nil => exact OfReply_badP w F0 A n c [] h hn rfl rfl
  | cons x t =>
    by_cases hx : x.toNat = 2
    · exact OfReply_good w F0 A n c x t h hn hx
    · exact OfReply_badP w F0 A n c (x :: t) h hn (by simp [begunB, hx]) (by simp [repIs, hx])
theorem RSameT (w : World) (F G : Nat → Prop) (y z : List Value) (r : Rep) (hy : RepR w F y r) (hz : RepR w G z r) :
    Calls Try.prog 56 #[.agg y.toArray, .agg z.toArray] w fun e w' => e = .returned (.bool true) ∧ Fr NoB w w' := by
  have h := RSameReply_any w F G y z r r hy hz
  rw [show decide (r = r) = true from by simp] at h
  exact h
theorem reqBytes_le {r : Req} (hw : reqWf r) (h : reqAsks r = true) : (reqBytes r).length ≤ 200000 := by
  obtain ⟨a1, a2, a3, a4⟩ := asks_of h
  obtain ⟨w1, w2, w3, w4, w5, w6, w7⟩ := hw
  have e1 := encN_len64 (n := r.client) (by omega)
  have e2 := encN_len64 (n := r.seq) (by omega)
  have e3 := encN_len64 (n := r.kind.toNat) (by omega)
  have e4 := encN_len64 (n := r.tenant) (by omega)
  have hnm : r.name.data.toList.length ≤ 64 := by simpa using a3
  have e5 := textBytes_len r.name.data.toList (by omega)
  have e6 := encN_len64 (n := r.n) (by omega)
  have e7 := textBytes_len r.body (by omega)
  unfold reqBytes
  simp only [List.length_append, List.length_cons, List.length_nil, r.id.2, r.old.2]
  omega
theorem nameBytes_le : ∀ (l : List ByteArray), (∀ s ∈ l, s.size ≤ 64) → (nameBytes l).length ≤ 74 * l.length
  | [], _ => by simp [nameBytes]
  | s :: l, h => by
    have hs : s.data.toList.length ≤ 64 := by simpa using h s (List.mem_cons_self ..)
    have e := textBytes_len s.data.toList (by omega)
    have ih := nameBytes_le l fun s hs => h s (List.mem_cons_of_mem _ hs)
    rw [nameBytes_cons, List.length_append, List.length_cons]
    omega
theorem repBytes_le {r : Rep} (hw : repWf r) (h : repAns r = true) : (repBytes r).length ≤ 300000 := by
  obtain ⟨a1, a2, a3, a4, a5⟩ := ans_of h
  obtain ⟨w1, w2, w3, w4, w5, w6⟩ := hw
  have e1 := encN_len64 (n := r.client) (by omega)
  have e2 := encN_len64 (n := r.seq) (by omega)
  have e3 := encN_len64 (n := r.err.toNat) (by omega)
  have e4 := encN_len64 (n := r.n) (by omega)
  have e5 := textBytes_len r.body (by omega)
  have e6 := encN_len64 (n := r.names.length) (by omega)
  have e7 := nameBytes_le r.names a5
  unfold repBytes repHead
  simp only [List.length_append, List.length_cons, List.length_nil, r.id.2]
  omega
theorem ReqR.wf {w : World} {F : Nat → Prop} {y : List Value} {r : Req} (h : ReqR w F y r) : reqWf r := by
  obtain ⟨A, n, c, h1, h2, h3, h4, h5⟩ := h
  exact h5
theorem RepR.wf {w : World} {F : Nat → Prop} {y : List Value} {r : Rep} (h : RepR w F y r) : repWf r := by
  obtain ⟨A, n, c, B, m, d, h1, h2, h3, h4, h5, h6, h7, h8⟩ := h
  exact h8
/-- What the two halves say of a request: put, and read back. -/
theorem req_halves {r : Req} (hw : reqWf r) : ∃ l, l.length ≤ 70368744177664 ∧ reqOut r = l ∧ ((reqAsks r = true ∧ reqErr r = 0 ∧ reqOf l = r ∧ reqBad l = 0) ∨ (reqAsks r = false ∧ reqErr r = 180)) := by
  cases h : reqAsks r with
  | true =>
    obtain ⟨hi, ho⟩ := req_back hw h
    exact ⟨reqBytes r, Nat.le_trans (reqBytes_le hw h) (by omega), by rw [reqOut, if_pos h], .inl ⟨rfl, by rw [reqErr, if_pos h], ho, by rw [reqBad, if_pos hi]⟩⟩
  | false => exact ⟨[], by simp, by rw [reqOut, h]; rfl, .inr ⟨rfl, by rw [reqErr, h]; rfl⟩⟩
theorem rep_halves {r : Rep} (hw : repWf r) : ∃ l, l.length ≤ 70368744177664 ∧ repOut r = l ∧ ((repAns r = true ∧ repErr r = 0 ∧ repOf l = r ∧ repBad l = 0) ∨ (repAns r = false ∧ repErr r = 180)) := by
  cases h : repAns r with
  | true =>
    obtain ⟨hi, ho⟩ := rep_back hw h
    exact ⟨repBytes r, Nat.le_trans (repBytes_le hw h) (by omega), by rw [repOut, if_pos h], .inl ⟨rfl, by rw [repErr, if_pos h], ho, by rw [repBad, if_pos hi]⟩⟩
  | false => exact ⟨[], by simp, by rw [repOut, h]; rfl, .inr ⟨rfl, by rw [repErr, h]; rfl⟩⟩
theorem WSameTrue (w : World) (F G : Nat → Prop) (y z : List Value) (r : Rep) (hy : RepR w F y r) (hz : RepR w G z r) :
    Calls Try.prog 55 #[.agg y.toArray, .agg z.toArray] w fun e w' => e = .returned (.bool true) ∧ Fr NoB w w' := by
  have h := WSameReply_any w F G y z r r hy hz
  rw [show decide (r = r) = true from by simp] at h
  exact h

set_option maxRecDepth 100000 in
set_option maxHeartbeats 8000000 in
theorem WireBack_great (w : World) (y0 y1 : List Value) (q : Req) (p : Rep) (hq : ReqR w (fun k => k < w.heap.size) y0 q) (hp : RepR w (fun k => k < w.heap.size) y1 p) (h : reqSmall q = false ∨ (reqSmall q = true ∧ repSmall p = false)) :
    Calls Try.prog 15 #[.agg y0.toArray, .agg y1.toArray] w fun e w' => e = .returned (.bool true) ∧ Below w.heap.size w w' := by
  have hfin : ∀ w', Fr NoB w w' → Below w.heap.size w w' := fun w' h => Fr.below h (Nat.le_refl _) fun _ _ => id
  have Hfin := Lib.hid hfin
  have Hlq := Lib.hid hq.len
  have Hlp := Lib.hid hp.len
  have hF0 : Fr NoB w ((w.alloc (.cells y0.toArray 76)).alloc (.cells y1.toArray 90)) := ((Fr.refl NoB w).alloc _).alloc _
  have hBq0 : Blk ((w.alloc (.cells y0.toArray 76)).alloc (.cells y1.toArray 90)) w.heap.size 76 y0.toArray := (Blk.new _ _ _).alloc _
  have hBp0 : Blk ((w.alloc (.cells y0.toArray 76)).alloc (.cells y1.toArray 90)) (w.heap.size + 1) 90 y1.toArray := by simpa using Blk.new (w.alloc (.cells y0.toArray 76)) 90 y1.toArray
  clear hfin

  rcases h with hsm | ⟨hsm, hsp⟩
  · have Hsm := Lib.hid hsm
    clear hsm
    go_enter Try.func15, Try.ntmps15
    go_wp2_with (first
      | (go_at_call 47; refine (awake16 _).mono ?_; rintro e w1 ⟨rfl, hf1⟩; have hBq1 := hBq0.fr hf1 id; clear hBq0; have hBp1 := hBp0.fr hf1 id; clear hBp0; have hF1 := hF0.trans hf1 fun _ _ => id)
      | (refine wpList_load_aggG rfl 76 (.tmp 2) rfl (w.heap.size) 0 rfl _ _ hBq1.all Try.underlying76 rfl (by rw [Hlq.out]; exact req_size) ?_)
      | (go_at_call 48; refine (small_any _ _ _ q (hq.fr hF1 fun _ _ => id)).mono ?_; rw [Hsm.out]; rintro e w2 ⟨rfl, hf2⟩; have hBq2 := hBq1.fr hf2 id; clear hBq1; have hBp2 := hBp1.fr hf2 id; clear hBp1; have hF2 := hF1.trans hf2 fun _ _ => id))
    go_ret
    exact ⟨rfl, Hfin.out _ hF2⟩
  · have Hsm := Lib.hid hsm
    have Hsp := Lib.hid hsp
    clear hsm hsp
    go_enter Try.func15, Try.ntmps15
    go_wp2_with (first
      | (go_at_call 47; refine (awake16 _).mono ?_; rintro e w1 ⟨rfl, hf1⟩; have hBq1 := hBq0.fr hf1 id; clear hBq0; have hBp1 := hBp0.fr hf1 id; clear hBp0; have hF1 := hF0.trans hf1 fun _ _ => id)
      | (refine wpList_load_aggG rfl 76 (.tmp 2) rfl (w.heap.size) 0 rfl _ _ hBq1.all Try.underlying76 rfl (by rw [Hlq.out]; exact req_size) ?_)
      | (go_at_call 48; refine (small_any _ _ _ q (hq.fr hF1 fun _ _ => id)).mono ?_; rw [Hsm.out]; rintro e w2 ⟨rfl, hf2⟩; have hBq2 := hBq1.fr hf2 id; clear hBq1; have hBp2 := hBp1.fr hf2 id; clear hBp1; have hF2 := hF1.trans hf2 fun _ _ => id)
      | (refine wpList_load_aggG rfl 90 (.tmp 3) rfl (w.heap.size + 1) 0 rfl _ _ hBp2.all Try.underlying90 rfl (by rw [Hlp.out]; exact rep_size) ?_)
      | (go_at_call 54; refine (repSmall_any _ _ _ p (hp.fr hF2 fun _ _ => id)).mono ?_; rw [Hsp.out]; rintro e w3 ⟨rfl, hf3⟩; have hBq3 := hBq2.fr hf3 id; clear hBq2; have hBp3 := hBp2.fr hf3 id; clear hBp2; have hF3 := hF2.trans hf3 fun _ _ => id))
    go_ret
    exact ⟨rfl, Hfin.out _ hF3⟩


set_option maxRecDepth 100000 in
set_option maxHeartbeats 8000000 in
theorem WireBack_small (w : World) (y0 y1 : List Value) (q : Req) (p : Rep) (hq : ReqR w (fun k => k < w.heap.size) y0 q) (hp : RepR w (fun k => k < w.heap.size) y1 p) (hsm : reqSmall q = true) (hsp : repSmall p = true) :
    Calls Try.prog 15 #[.agg y0.toArray, .agg y1.toArray] w fun e w' => e = .returned (.bool true) ∧ Below w.heap.size w w' := by
  have hfin : ∀ w', Fr NoB w w' → Below w.heap.size w w' := fun w' h => Fr.below h (Nat.le_refl _) fun _ _ => id
  have Hfin := Lib.hid hfin
  have Hlq := Lib.hid hq.len
  have Hlp := Lib.hid hp.len
  have hF0 : Fr NoB w ((w.alloc (.cells y0.toArray 76)).alloc (.cells y1.toArray 90)) := ((Fr.refl NoB w).alloc _).alloc _
  have hBq0 : Blk ((w.alloc (.cells y0.toArray 76)).alloc (.cells y1.toArray 90)) w.heap.size 76 y0.toArray := (Blk.new _ _ _).alloc _
  have hBp0 : Blk ((w.alloc (.cells y0.toArray 76)).alloc (.cells y1.toArray 90)) (w.heap.size + 1) 90 y1.toArray := by simpa using Blk.new (w.alloc (.cells y0.toArray 76)) 90 y1.toArray
  clear hfin

  have Hsm := Lib.hid hsm
  have Hsp := Lib.hid hsp
  obtain ⟨lq, hnq, hoq, haq⟩ := req_halves hq.wf
  obtain ⟨lp, hnp, hop, hap⟩ := rep_halves hp.wf
  have Hnq := Lib.hid hnq
  have Hnp := Lib.hid hnp
  have Hoq := Lib.hid hoq
  have Hop := Lib.hid hop
  clear hsm hsp hnq hnp hoq hop
  rcases haq with ⟨_, heq, hq1, hq2⟩ | ⟨_, heq⟩
  · have Heq := Lib.hid heq
    have Hq1 := Lib.hid hq1
    have Hq2 := Lib.hid hq2
    clear heq hq1 hq2
    rcases hap with ⟨_, hep, hp1, hp2⟩ | ⟨_, hep⟩
    · have Hep := Lib.hid hep
      have Hp1 := Lib.hid hp1
      have Hp2 := Lib.hid hp2
      clear hep hp1 hp2
      go_enter Try.func15, Try.ntmps15
      go_wp2_with (first
        | (go_at_call 47; refine (awake16 _).mono ?_; rintro e w1 ⟨rfl, hf1⟩; have hBq1 := hBq0.fr hf1 id; clear hBq0; have hBp1 := hBp0.fr hf1 id; clear hBp0; have hF1 := hF0.trans hf1 fun _ _ => id)
        | (refine wpList_load_aggG rfl 76 (.tmp 2) rfl (w.heap.size) 0 rfl _ _ hBq1.all Try.underlying76 rfl (by rw [Hlq.out]; exact req_size) ?_)
        | (go_at_call 48; refine (small_any _ _ _ q (hq.fr hF1 fun _ _ => id)).mono ?_; rw [Hsm.out]; rintro e w2 ⟨rfl, hf2⟩; have hBq2 := hBq1.fr hf2 id; clear hBq1; have hBp2 := hBp1.fr hf2 id; clear hBp1; have hF2 := hF1.trans hf2 fun _ _ => id)
        | (refine wpList_load_aggG rfl 90 (.tmp 3) rfl (w.heap.size + 1) 0 rfl _ _ hBp2.all Try.underlying90 rfl (by rw [Hlp.out]; exact rep_size) ?_)
        | (go_at_call 54; refine (repSmall_any _ _ _ p (hp.fr hF2 fun _ _ => id)).mono ?_; rw [Hsp.out]; rintro e w3 ⟨rfl, hf3⟩; have hBq3 := hBq2.fr hf3 id; clear hBq2; have hBp3 := hBp2.fr hf3 id; clear hBp2; have hF3 := hF2.trans hf3 fun _ _ => id)
        | (refine wpList_load_agg rfl 76 (.tmp 2) rfl (w.heap.size) 0 rfl _ _ hBq3.all Try.underlying76 rfl (by rw [Hlq.out]; exact req_size) ?_)
        | (go_at_call 49; refine (PutRequest_any _ _ _ q (hq.fr hF3 fun _ _ => id) (fun k h => by have := hF3.size; omega)).mono ?_; rw [Hoq.out, Heq.out]; rintro e w4 ⟨A4, c4, rfl, hf4, hO4, hin4⟩; have hBq4 := hBq3.fr hf4 id; clear hBq3; have hBp4 := hBp3.fr hf4 id; clear hBp3; have hF4 := hF3.trans hf4 fun _ _ => id; have hcall5 := OfRequest_any w4 (fun _ => True) A4 lq.length c4 lq (hO4.arr fun _ _ _ => trivial) Hnq.out)
        | (go_at_call 51; refine hcall5.mono ?_; rw [Hq1.out, Hq2.out]; rintro e w5 ⟨y5, rfl, hf5, hy5⟩; clear hcall5; have Hs5 := Lib.hid hy5.size; have H15 := Lib.hid hy5.ones; have Hl5 := Lib.hid hy5.len; have hBq5 := hBq4.fr hf5 id; clear hBq4; have hBp5 := hBp4.fr hf5 id; clear hBp4; have hF5 := hF4.trans hf5 fun _ _ => id)
        | (refine wpList_alloc_any rfl 76 rfl 71 req_zero ?_; intro z hz; have Hz := Lib.hid hz; clear hz)
        | (refine wpList_store_newN rfl 76 (.tmp 7) (.tmp 31) rfl 71 req_size _ z Hz.out y5.toArray rfl rfl Hs5.out H15.out ?_; clear Hz; have hC6 := Blk.new w5 76 y5.toArray; have hBq6 := hBq5.alloc (.cells y5.toArray 76); clear hBq5; have hBp6 := hBp5.alloc (.cells y5.toArray 76); clear hBp5; have hF6 := hF5.alloc (.cells y5.toArray 76))
        | (refine wpList_load_agg rfl 90 (.tmp 3) rfl (w.heap.size + 1) 0 rfl _ _ hBp6.all Try.underlying90 rfl (by rw [Hlp.out]; exact rep_size) ?_)
        | (go_at_call 57; refine (PutReply_any _ _ _ p (hp.fr hF6 fun _ _ => id) (fun k h => by have := hF6.size; omega)).mono ?_; rw [Hop.out, Hep.out]; rintro e w7 ⟨A7, c7, rfl, hf7, hO7, hin7⟩; have hBq7 := hBq6.fr hf7 id; clear hBq6; have hBp7 := hBp6.fr hf7 id; clear hBp6; have hC7 := hC6.fr hf7 id; clear hC6; have hF7 := hF6.trans hf7 fun _ _ => id; have hcall8 := OfReply_anyP w7 (fun _ => True) A7 lp.length c7 lp (hO7.arr fun _ _ _ => trivial) Hnp.out)
        | (go_at_call 59; refine hcall8.mono ?_; rw [Hp1.out, Hp2.out]; rintro e w8 ⟨y8, rfl, hf8, hy8⟩; clear hcall8; have Hs8 := Lib.hid hy8.size; have H18 := Lib.hid hy8.ones; have Hl8 := Lib.hid hy8.len; have hBq8 := hBq7.fr hf8 id; clear hBq7; have hBp8 := hBp7.fr hf8 id; clear hBp7; have hC8 := hC7.fr hf8 id; clear hC7; have hF8 := hF7.trans hf8 fun _ _ => id)
        | (refine wpList_alloc_any rfl 90 rfl 38 rep_zero ?_; intro z hz; have Hz := Lib.hid hz; clear hz)
        | (refine wpList_store_newN rfl 90 (.tmp 11) (.tmp 41) rfl 38 rep_size _ z Hz.out y8.toArray rfl rfl Hs8.out H18.out ?_; clear Hz; have hD9 := Blk.new w8 90 y8.toArray; have hBq9 := hBq8.alloc (.cells y8.toArray 90); clear hBq8; have hBp9 := hBp8.alloc (.cells y8.toArray 90); clear hBp8; have hC9 := hC8.alloc (.cells y8.toArray 90); clear hC8; have hF9 := hF8.alloc (.cells y8.toArray 90); have hy5n := ((((hy5.fr ((Fr.refl NoB w5).alloc (.cells y5.toArray 76)) fun _ _ => id).fr hf7 fun _ _ => id).fr hf8 fun _ _ => id).fr ((Fr.refl NoB w8).alloc (.cells y8.toArray 90)) fun _ _ => id); have hy8n := hy8.fr ((Fr.refl NoB w8).alloc (.cells y8.toArray 90)) fun _ _ => id)
        | (refine wpList_load_aggG rfl 76 (.tmp 7) rfl (w5.heap.size) 0 rfl _ _ hC9.all Try.underlying76 rfl (by rw [Hl5.out]; exact req_size) ?_)
        | (refine wpList_load_aggG rfl 76 (.tmp 2) rfl (w.heap.size) 0 rfl _ _ hBq9.all Try.underlying76 rfl (by rw [Hlq.out]; exact req_size) ?_)
        | (go_at_call 53; refine (SameReq_true _ _ _ _ _ q hy5n (hq.fr hF9 fun _ _ => id)).mono ?_; rintro e w10 ⟨rfl, hf10⟩; have hBp10 := hBp9.fr hf10 id; clear hBp9; have hD10 := hD9.fr hf10 id; clear hD9; have hF10 := hF9.trans hf10 fun _ _ => id; have hy8m := hy8n.fr hf10 fun _ _ => id)
        | (refine wpList_load_aggG rfl 90 (.tmp 11) rfl (w8.heap.size) 0 rfl _ _ hD10.all Try.underlying90 rfl (by rw [Hl8.out]; exact rep_size) ?_)
        | (refine wpList_load_aggG rfl 90 (.tmp 3) rfl (w.heap.size + 1) 0 rfl _ _ hBp10.all Try.underlying90 rfl (by rw [Hlp.out]; exact rep_size) ?_)
        | (go_at_call 55; refine (WSameTrue _ _ _ _ _ p hy8m (hp.fr hF10 fun _ _ => id)).mono ?_; rintro e w11 ⟨rfl, hf11⟩; have hBp11 := hBp10.fr hf11 id; clear hBp10; have hD11 := hD10.fr hf11 id; clear hD10; have hF11 := hF10.trans hf11 fun _ _ => id; have hy8o := hy8m.fr hf11 fun _ _ => id)
        | (refine wpList_load_aggG rfl 90 (.tmp 11) rfl (w8.heap.size) 0 rfl _ _ hD11.all Try.underlying90 rfl (by rw [Hl8.out]; exact rep_size) ?_)
        | (refine wpList_load_aggG rfl 90 (.tmp 3) rfl (w.heap.size + 1) 0 rfl _ _ hBp11.all Try.underlying90 rfl (by rw [Hlp.out]; exact rep_size) ?_)
        | (go_at_call 56; refine (RSameT _ _ _ _ _ p hy8o (hp.fr hF11 fun _ _ => id)).mono ?_; rintro e w12 ⟨rfl, hf12⟩; have hF12 := hF11.trans hf12 fun _ _ => id))
      go_ret
      exact ⟨rfl, Hfin.out _ hF12⟩
    · have Hep := Lib.hid hep
      clear hep
      go_enter Try.func15, Try.ntmps15
      go_wp2_with (first
        | (go_at_call 47; refine (awake16 _).mono ?_; rintro e w1 ⟨rfl, hf1⟩; have hBq1 := hBq0.fr hf1 id; clear hBq0; have hBp1 := hBp0.fr hf1 id; clear hBp0; have hF1 := hF0.trans hf1 fun _ _ => id)
        | (refine wpList_load_aggG rfl 76 (.tmp 2) rfl (w.heap.size) 0 rfl _ _ hBq1.all Try.underlying76 rfl (by rw [Hlq.out]; exact req_size) ?_)
        | (go_at_call 48; refine (small_any _ _ _ q (hq.fr hF1 fun _ _ => id)).mono ?_; rw [Hsm.out]; rintro e w2 ⟨rfl, hf2⟩; have hBq2 := hBq1.fr hf2 id; clear hBq1; have hBp2 := hBp1.fr hf2 id; clear hBp1; have hF2 := hF1.trans hf2 fun _ _ => id)
        | (refine wpList_load_aggG rfl 90 (.tmp 3) rfl (w.heap.size + 1) 0 rfl _ _ hBp2.all Try.underlying90 rfl (by rw [Hlp.out]; exact rep_size) ?_)
        | (go_at_call 54; refine (repSmall_any _ _ _ p (hp.fr hF2 fun _ _ => id)).mono ?_; rw [Hsp.out]; rintro e w3 ⟨rfl, hf3⟩; have hBq3 := hBq2.fr hf3 id; clear hBq2; have hBp3 := hBp2.fr hf3 id; clear hBp2; have hF3 := hF2.trans hf3 fun _ _ => id)
        | (refine wpList_load_agg rfl 76 (.tmp 2) rfl (w.heap.size) 0 rfl _ _ hBq3.all Try.underlying76 rfl (by rw [Hlq.out]; exact req_size) ?_)
        | (go_at_call 49; refine (PutRequest_any _ _ _ q (hq.fr hF3 fun _ _ => id) (fun k h => by have := hF3.size; omega)).mono ?_; rw [Hoq.out, Heq.out]; rintro e w4 ⟨A4, c4, rfl, hf4, hO4, hin4⟩; have hBq4 := hBq3.fr hf4 id; clear hBq3; have hBp4 := hBp3.fr hf4 id; clear hBp3; have hF4 := hF3.trans hf4 fun _ _ => id; have hcall5 := OfRequest_any w4 (fun _ => True) A4 lq.length c4 lq (hO4.arr fun _ _ _ => trivial) Hnq.out)
        | (go_at_call 51; refine hcall5.mono ?_; rw [Hq1.out, Hq2.out]; rintro e w5 ⟨y5, rfl, hf5, hy5⟩; clear hcall5; have Hs5 := Lib.hid hy5.size; have H15 := Lib.hid hy5.ones; have Hl5 := Lib.hid hy5.len; have hBq5 := hBq4.fr hf5 id; clear hBq4; have hBp5 := hBp4.fr hf5 id; clear hBp4; have hF5 := hF4.trans hf5 fun _ _ => id)
        | (refine wpList_alloc_any rfl 76 rfl 71 req_zero ?_; intro z hz; have Hz := Lib.hid hz; clear hz)
        | (refine wpList_store_newN rfl 76 (.tmp 7) (.tmp 31) rfl 71 req_size _ z Hz.out y5.toArray rfl rfl Hs5.out H15.out ?_; clear Hz; have hC6 := Blk.new w5 76 y5.toArray; have hBq6 := hBq5.alloc (.cells y5.toArray 76); clear hBq5; have hBp6 := hBp5.alloc (.cells y5.toArray 76); clear hBp5; have hF6 := hF5.alloc (.cells y5.toArray 76))
        | (refine wpList_load_agg rfl 90 (.tmp 3) rfl (w.heap.size + 1) 0 rfl _ _ hBp6.all Try.underlying90 rfl (by rw [Hlp.out]; exact rep_size) ?_)
        | (go_at_call 57; refine (PutReply_any _ _ _ p (hp.fr hF6 fun _ _ => id) (fun k h => by have := hF6.size; omega)).mono ?_; rw [Hop.out, Hep.out]; rintro e w7 ⟨A7, c7, rfl, hf7, hO7, hin7⟩; have hBq7 := hBq6.fr hf7 id; clear hBq6; have hBp7 := hBp6.fr hf7 id; clear hBp6; have hC7 := hC6.fr hf7 id; clear hC6; have hF7 := hF6.trans hf7 fun _ _ => id; have hcall8 := OfReply_anyP w7 (fun _ => True) A7 lp.length c7 lp (hO7.arr fun _ _ _ => trivial) Hnp.out)
        | (go_at_call 59; refine hcall8.mono ?_; rintro e w8 ⟨y8, rfl, hf8, hy8⟩; clear hcall8; have Hs8 := Lib.hid hy8.size; have H18 := Lib.hid hy8.ones; have Hl8 := Lib.hid hy8.len; have hBq8 := hBq7.fr hf8 id; clear hBq7; have hBp8 := hBp7.fr hf8 id; clear hBp7; have hC8 := hC7.fr hf8 id; clear hC7; have hF8 := hF7.trans hf8 fun _ _ => id)
        | (refine wpList_alloc_any rfl 90 rfl 38 rep_zero ?_; intro z hz; have Hz := Lib.hid hz; clear hz)
        | (refine wpList_store_newN rfl 90 (.tmp 11) (.tmp 41) rfl 38 rep_size _ z Hz.out y8.toArray rfl rfl Hs8.out H18.out ?_; clear Hz; have hD9 := Blk.new w8 90 y8.toArray; have hBq9 := hBq8.alloc (.cells y8.toArray 90); clear hBq8; have hBp9 := hBp8.alloc (.cells y8.toArray 90); clear hBp8; have hC9 := hC8.alloc (.cells y8.toArray 90); clear hC8; have hF9 := hF8.alloc (.cells y8.toArray 90); have hy5n := ((((hy5.fr ((Fr.refl NoB w5).alloc (.cells y5.toArray 76)) fun _ _ => id).fr hf7 fun _ _ => id).fr hf8 fun _ _ => id).fr ((Fr.refl NoB w8).alloc (.cells y8.toArray 90)) fun _ _ => id); have hy8n := hy8.fr ((Fr.refl NoB w8).alloc (.cells y8.toArray 90)) fun _ _ => id)
        | (refine wpList_load_aggG rfl 76 (.tmp 7) rfl (w5.heap.size) 0 rfl _ _ hC9.all Try.underlying76 rfl (by rw [Hl5.out]; exact req_size) ?_)
        | (refine wpList_load_aggG rfl 76 (.tmp 2) rfl (w.heap.size) 0 rfl _ _ hBq9.all Try.underlying76 rfl (by rw [Hlq.out]; exact req_size) ?_)
        | (go_at_call 53; refine (SameReq_true _ _ _ _ _ q hy5n (hq.fr hF9 fun _ _ => id)).mono ?_; rintro e w10 ⟨rfl, hf10⟩; have hBp10 := hBp9.fr hf10 id; clear hBp9; have hD10 := hD9.fr hf10 id; clear hD9; have hF10 := hF9.trans hf10 fun _ _ => id; have hy8m := hy8n.fr hf10 fun _ _ => id))
      go_ret
      exact ⟨rfl, Hfin.out _ hF10⟩
  · have Heq := Lib.hid heq
    clear heq
    rcases hap with ⟨_, hep, hp1, hp2⟩ | ⟨_, hep⟩
    · have Hep := Lib.hid hep
      have Hp1 := Lib.hid hp1
      have Hp2 := Lib.hid hp2
      clear hep hp1 hp2
      go_enter Try.func15, Try.ntmps15
      go_wp2_with (first
        | (go_at_call 47; refine (awake16 _).mono ?_; rintro e w1 ⟨rfl, hf1⟩; have hBq1 := hBq0.fr hf1 id; clear hBq0; have hBp1 := hBp0.fr hf1 id; clear hBp0; have hF1 := hF0.trans hf1 fun _ _ => id)
        | (refine wpList_load_aggG rfl 76 (.tmp 2) rfl (w.heap.size) 0 rfl _ _ hBq1.all Try.underlying76 rfl (by rw [Hlq.out]; exact req_size) ?_)
        | (go_at_call 48; refine (small_any _ _ _ q (hq.fr hF1 fun _ _ => id)).mono ?_; rw [Hsm.out]; rintro e w2 ⟨rfl, hf2⟩; have hBq2 := hBq1.fr hf2 id; clear hBq1; have hBp2 := hBp1.fr hf2 id; clear hBp1; have hF2 := hF1.trans hf2 fun _ _ => id)
        | (refine wpList_load_aggG rfl 90 (.tmp 3) rfl (w.heap.size + 1) 0 rfl _ _ hBp2.all Try.underlying90 rfl (by rw [Hlp.out]; exact rep_size) ?_)
        | (go_at_call 54; refine (repSmall_any _ _ _ p (hp.fr hF2 fun _ _ => id)).mono ?_; rw [Hsp.out]; rintro e w3 ⟨rfl, hf3⟩; have hBq3 := hBq2.fr hf3 id; clear hBq2; have hBp3 := hBp2.fr hf3 id; clear hBp2; have hF3 := hF2.trans hf3 fun _ _ => id)
        | (refine wpList_load_agg rfl 76 (.tmp 2) rfl (w.heap.size) 0 rfl _ _ hBq3.all Try.underlying76 rfl (by rw [Hlq.out]; exact req_size) ?_)
        | (go_at_call 49; refine (PutRequest_any _ _ _ q (hq.fr hF3 fun _ _ => id) (fun k h => by have := hF3.size; omega)).mono ?_; rw [Hoq.out, Heq.out]; rintro e w4 ⟨A4, c4, rfl, hf4, hO4, hin4⟩; have hBq4 := hBq3.fr hf4 id; clear hBq3; have hBp4 := hBp3.fr hf4 id; clear hBp3; have hF4 := hF3.trans hf4 fun _ _ => id; have hcall5 := OfRequest_any w4 (fun _ => True) A4 lq.length c4 lq (hO4.arr fun _ _ _ => trivial) Hnq.out)
        | (go_at_call 51; refine hcall5.mono ?_; rintro e w5 ⟨y5, rfl, hf5, hy5⟩; clear hcall5; have Hs5 := Lib.hid hy5.size; have H15 := Lib.hid hy5.ones; have Hl5 := Lib.hid hy5.len; have hBq5 := hBq4.fr hf5 id; clear hBq4; have hBp5 := hBp4.fr hf5 id; clear hBp4; have hF5 := hF4.trans hf5 fun _ _ => id)
        | (refine wpList_alloc_any rfl 76 rfl 71 req_zero ?_; intro z hz; have Hz := Lib.hid hz; clear hz)
        | (refine wpList_store_newN rfl 76 (.tmp 7) (.tmp 31) rfl 71 req_size _ z Hz.out y5.toArray rfl rfl Hs5.out H15.out ?_; clear Hz; have hC6 := Blk.new w5 76 y5.toArray; have hBq6 := hBq5.alloc (.cells y5.toArray 76); clear hBq5; have hBp6 := hBp5.alloc (.cells y5.toArray 76); clear hBp5; have hF6 := hF5.alloc (.cells y5.toArray 76))
        | (refine wpList_load_agg rfl 90 (.tmp 3) rfl (w.heap.size + 1) 0 rfl _ _ hBp6.all Try.underlying90 rfl (by rw [Hlp.out]; exact rep_size) ?_)
        | (go_at_call 57; refine (PutReply_any _ _ _ p (hp.fr hF6 fun _ _ => id) (fun k h => by have := hF6.size; omega)).mono ?_; rw [Hop.out, Hep.out]; rintro e w7 ⟨A7, c7, rfl, hf7, hO7, hin7⟩; have hBq7 := hBq6.fr hf7 id; clear hBq6; have hBp7 := hBp6.fr hf7 id; clear hBp6; have hC7 := hC6.fr hf7 id; clear hC6; have hF7 := hF6.trans hf7 fun _ _ => id; have hcall8 := OfReply_anyP w7 (fun _ => True) A7 lp.length c7 lp (hO7.arr fun _ _ _ => trivial) Hnp.out)
        | (go_at_call 59; refine hcall8.mono ?_; rw [Hp1.out, Hp2.out]; rintro e w8 ⟨y8, rfl, hf8, hy8⟩; clear hcall8; have Hs8 := Lib.hid hy8.size; have H18 := Lib.hid hy8.ones; have Hl8 := Lib.hid hy8.len; have hBq8 := hBq7.fr hf8 id; clear hBq7; have hBp8 := hBp7.fr hf8 id; clear hBp7; have hC8 := hC7.fr hf8 id; clear hC7; have hF8 := hF7.trans hf8 fun _ _ => id)
        | (refine wpList_alloc_any rfl 90 rfl 38 rep_zero ?_; intro z hz; have Hz := Lib.hid hz; clear hz)
        | (refine wpList_store_newN rfl 90 (.tmp 11) (.tmp 41) rfl 38 rep_size _ z Hz.out y8.toArray rfl rfl Hs8.out H18.out ?_; clear Hz; have hD9 := Blk.new w8 90 y8.toArray; have hBq9 := hBq8.alloc (.cells y8.toArray 90); clear hBq8; have hBp9 := hBp8.alloc (.cells y8.toArray 90); clear hBp8; have hC9 := hC8.alloc (.cells y8.toArray 90); clear hC8; have hF9 := hF8.alloc (.cells y8.toArray 90); have hy5n := ((((hy5.fr ((Fr.refl NoB w5).alloc (.cells y5.toArray 76)) fun _ _ => id).fr hf7 fun _ _ => id).fr hf8 fun _ _ => id).fr ((Fr.refl NoB w8).alloc (.cells y8.toArray 90)) fun _ _ => id); have hy8n := hy8.fr ((Fr.refl NoB w8).alloc (.cells y8.toArray 90)) fun _ _ => id)
        | (refine wpList_load_aggG rfl 90 (.tmp 11) rfl (w8.heap.size) 0 rfl _ _ hD9.all Try.underlying90 rfl (by rw [Hl8.out]; exact rep_size) ?_)
        | (refine wpList_load_aggG rfl 90 (.tmp 3) rfl (w.heap.size + 1) 0 rfl _ _ hBp9.all Try.underlying90 rfl (by rw [Hlp.out]; exact rep_size) ?_)
        | (go_at_call 55; refine (WSameTrue _ _ _ _ _ p hy8n (hp.fr hF9 fun _ _ => id)).mono ?_; rintro e w11 ⟨rfl, hf11⟩; have hBp11 := hBp9.fr hf11 id; clear hBp9; have hD11 := hD9.fr hf11 id; clear hD9; have hF11 := hF9.trans hf11 fun _ _ => id; have hy8o := hy8n.fr hf11 fun _ _ => id)
        | (refine wpList_load_aggG rfl 90 (.tmp 11) rfl (w8.heap.size) 0 rfl _ _ hD11.all Try.underlying90 rfl (by rw [Hl8.out]; exact rep_size) ?_)
        | (refine wpList_load_aggG rfl 90 (.tmp 3) rfl (w.heap.size + 1) 0 rfl _ _ hBp11.all Try.underlying90 rfl (by rw [Hlp.out]; exact rep_size) ?_)
        | (go_at_call 56; refine (RSameT _ _ _ _ _ p hy8o (hp.fr hF11 fun _ _ => id)).mono ?_; rintro e w12 ⟨rfl, hf12⟩; have hF12 := hF11.trans hf12 fun _ _ => id))
      go_ret
      exact ⟨rfl, Hfin.out _ hF12⟩
    · have Hep := Lib.hid hep
      clear hep
      go_enter Try.func15, Try.ntmps15
      go_wp2_with (first
        | (go_at_call 47; refine (awake16 _).mono ?_; rintro e w1 ⟨rfl, hf1⟩; have hBq1 := hBq0.fr hf1 id; clear hBq0; have hBp1 := hBp0.fr hf1 id; clear hBp0; have hF1 := hF0.trans hf1 fun _ _ => id)
        | (refine wpList_load_aggG rfl 76 (.tmp 2) rfl (w.heap.size) 0 rfl _ _ hBq1.all Try.underlying76 rfl (by rw [Hlq.out]; exact req_size) ?_)
        | (go_at_call 48; refine (small_any _ _ _ q (hq.fr hF1 fun _ _ => id)).mono ?_; rw [Hsm.out]; rintro e w2 ⟨rfl, hf2⟩; have hBq2 := hBq1.fr hf2 id; clear hBq1; have hBp2 := hBp1.fr hf2 id; clear hBp1; have hF2 := hF1.trans hf2 fun _ _ => id)
        | (refine wpList_load_aggG rfl 90 (.tmp 3) rfl (w.heap.size + 1) 0 rfl _ _ hBp2.all Try.underlying90 rfl (by rw [Hlp.out]; exact rep_size) ?_)
        | (go_at_call 54; refine (repSmall_any _ _ _ p (hp.fr hF2 fun _ _ => id)).mono ?_; rw [Hsp.out]; rintro e w3 ⟨rfl, hf3⟩; have hBq3 := hBq2.fr hf3 id; clear hBq2; have hBp3 := hBp2.fr hf3 id; clear hBp2; have hF3 := hF2.trans hf3 fun _ _ => id)
        | (refine wpList_load_agg rfl 76 (.tmp 2) rfl (w.heap.size) 0 rfl _ _ hBq3.all Try.underlying76 rfl (by rw [Hlq.out]; exact req_size) ?_)
        | (go_at_call 49; refine (PutRequest_any _ _ _ q (hq.fr hF3 fun _ _ => id) (fun k h => by have := hF3.size; omega)).mono ?_; rw [Hoq.out, Heq.out]; rintro e w4 ⟨A4, c4, rfl, hf4, hO4, hin4⟩; have hBq4 := hBq3.fr hf4 id; clear hBq3; have hBp4 := hBp3.fr hf4 id; clear hBp3; have hF4 := hF3.trans hf4 fun _ _ => id; have hcall5 := OfRequest_any w4 (fun _ => True) A4 lq.length c4 lq (hO4.arr fun _ _ _ => trivial) Hnq.out)
        | (go_at_call 51; refine hcall5.mono ?_; rintro e w5 ⟨y5, rfl, hf5, hy5⟩; clear hcall5; have Hs5 := Lib.hid hy5.size; have H15 := Lib.hid hy5.ones; have Hl5 := Lib.hid hy5.len; have hBq5 := hBq4.fr hf5 id; clear hBq4; have hBp5 := hBp4.fr hf5 id; clear hBp4; have hF5 := hF4.trans hf5 fun _ _ => id)
        | (refine wpList_alloc_any rfl 76 rfl 71 req_zero ?_; intro z hz; have Hz := Lib.hid hz; clear hz)
        | (refine wpList_store_newN rfl 76 (.tmp 7) (.tmp 31) rfl 71 req_size _ z Hz.out y5.toArray rfl rfl Hs5.out H15.out ?_; clear Hz; have hC6 := Blk.new w5 76 y5.toArray; have hBq6 := hBq5.alloc (.cells y5.toArray 76); clear hBq5; have hBp6 := hBp5.alloc (.cells y5.toArray 76); clear hBp5; have hF6 := hF5.alloc (.cells y5.toArray 76))
        | (refine wpList_load_agg rfl 90 (.tmp 3) rfl (w.heap.size + 1) 0 rfl _ _ hBp6.all Try.underlying90 rfl (by rw [Hlp.out]; exact rep_size) ?_)
        | (go_at_call 57; refine (PutReply_any _ _ _ p (hp.fr hF6 fun _ _ => id) (fun k h => by have := hF6.size; omega)).mono ?_; rw [Hop.out, Hep.out]; rintro e w7 ⟨A7, c7, rfl, hf7, hO7, hin7⟩; have hBq7 := hBq6.fr hf7 id; clear hBq6; have hBp7 := hBp6.fr hf7 id; clear hBp6; have hC7 := hC6.fr hf7 id; clear hC6; have hF7 := hF6.trans hf7 fun _ _ => id; have hcall8 := OfReply_anyP w7 (fun _ => True) A7 lp.length c7 lp (hO7.arr fun _ _ _ => trivial) Hnp.out)
        | (go_at_call 59; refine hcall8.mono ?_; rintro e w8 ⟨y8, rfl, hf8, hy8⟩; clear hcall8; have Hs8 := Lib.hid hy8.size; have H18 := Lib.hid hy8.ones; have Hl8 := Lib.hid hy8.len; have hBq8 := hBq7.fr hf8 id; clear hBq7; have hBp8 := hBp7.fr hf8 id; clear hBp7; have hC8 := hC7.fr hf8 id; clear hC7; have hF8 := hF7.trans hf8 fun _ _ => id)
        | (refine wpList_alloc_any rfl 90 rfl 38 rep_zero ?_; intro z hz; have Hz := Lib.hid hz; clear hz)
        | (refine wpList_store_newN rfl 90 (.tmp 11) (.tmp 41) rfl 38 rep_size _ z Hz.out y8.toArray rfl rfl Hs8.out H18.out ?_; clear Hz; have hD9 := Blk.new w8 90 y8.toArray; have hBq9 := hBq8.alloc (.cells y8.toArray 90); clear hBq8; have hBp9 := hBp8.alloc (.cells y8.toArray 90); clear hBp8; have hC9 := hC8.alloc (.cells y8.toArray 90); clear hC8; have hF9 := hF8.alloc (.cells y8.toArray 90); have hy5n := ((((hy5.fr ((Fr.refl NoB w5).alloc (.cells y5.toArray 76)) fun _ _ => id).fr hf7 fun _ _ => id).fr hf8 fun _ _ => id).fr ((Fr.refl NoB w8).alloc (.cells y8.toArray 90)) fun _ _ => id); have hy8n := hy8.fr ((Fr.refl NoB w8).alloc (.cells y8.toArray 90)) fun _ _ => id))
      go_ret
      exact ⟨rfl, Hfin.out _ hF9⟩

theorem WireBack_any (w : World) (y0 y1 : List Value) (q : Req) (p : Rep) (hq : ReqR w (fun k => k < w.heap.size) y0 q) (hp : RepR w (fun k => k < w.heap.size) y1 p) :
    Calls Try.prog 15 #[.agg y0.toArray, .agg y1.toArray] w fun e w' => e = .returned (.bool true) ∧ Below w.heap.size w w' := by
  cases h1 : reqSmall q with
  | false => exact WireBack_great w y0 y1 q p hq hp (.inl h1)
  | true =>
    cases h2 : repSmall p with
    | false => exact WireBack_great w y0 y1 q p hq hp (.inr ⟨h1, h2⟩)
    | true => exact WireBack_small w y0 y1 q p hq hp h1 h2
end Go.Proofs.Ytnkfchondedfcaa
