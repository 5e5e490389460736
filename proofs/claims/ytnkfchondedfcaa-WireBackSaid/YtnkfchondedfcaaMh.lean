/-
  The request that bytes are, as the document has it: bytes that are none; requests held against each other where they are alike. Conditions: each contract states its own.
-/
import Derived.Test.YtnkfchondedfcaaMg
import Derived.Test.YtnkfchondedfcaaEd
namespace Go.Proofs.Ytnkfchondedfcaa
open Go.RowKit

set_option maxRecDepth 100000 in
set_option maxHeartbeats 2000000 in
theorem RequestOf_bad (w : World) (F0 : Nat → Prop) (A : Option Addr) (n c : Nat) (l : List UInt8) (h : Byt w F0 A n l) (hn : n ≤ 9223372036854775807) (hb : begunB l 1 = false) (hi : reqIs l = false) :
    Calls Try.prog 52 #[.slice A n c] w fun e w' => GotReqIn F0 w w' e (reqOf l) (reqBad l) := by
  have e1 : reqOf l = zeroReq := by rw [reqOf, hi]; rfl
  have e2 : reqBad l = 180 := by rw [reqBad, hi]; rfl
  have He1 := Lib.hid e1
  have He2 := Lib.hid e2
  have H71z : Hid ((reqCells zeroReq none 0 0).toArray.size = 71) := by show _ = _; rw [List.size_toArray, reqCells_len]
  have Honez : Hid ((reqCells zeroReq none 0 0).toArray.all (·.oneCell') = true) := by
    show _ = _
    rw [Array.all_eq_true_iff_forall_mem]
    intro u hu
    exact reqCells_one _ _ _ _ u (by simpa using hu)
  obtain ⟨zc, hzc⟩ : ∃ zc, zc = reqCells zeroReq none 0 0 := ⟨_, rfl⟩
  rw [← hzc] at H71z Honez
  have Hzc := Lib.hid hzc
  have hlen := h.len
  clear hzc e1 e2 hi
  cases l with
  | nil =>
    have hn0 : n = 0 := by simp at hlen; omega
    have hb0 : ((n : Int) == 0) = true := by simp [hn0]
    clear hn0 hlen
    go_enter Try.func52, Try.ntmps52
    go_wp2_with (first
      | (refine wpList_alloc_any rfl 76 rfl 71 req_zero ?_; intro z hz; have Hz := Lib.hid hz; clear hz; have hBz := Blk.new w 76 z)
      | (refine wpList_build_eq rfl 76 #[] rfl [] rfl zc.toArray (by rw [Hzc.out]; exact zeroReq_built) ?_)
      | (refine wpList_store_row rfl 76 (.tmp 2) (.tmp 17) rfl w.heap.size zc.toArray rfl rfl 76 z hBz (by rw [H71z.out]; exact req_size) (by rw [Hz.out, H71z.out]) Honez.out ?_))
    obtain ⟨hft, hBt⟩ := setRow_fr (ds := zc.toArray) hBz
    refine bodyPost_ret (results_cell2 (cs := zc) rfl rfl (fun j v hv => by rw [Nat.zero_add, hBt.cell]; simpa using hv) Try.underlying76 rfl (by have h := H71z.out; simp at h; rw [h]; exact req_size)) rfl ?_
    rw [He1.out, He2.out]
    have hgz := GotReqIn.zero (G := F0) (((Fr.refl NoB w).alloc _).new hft fun j hj => .inr (by omega))
    rw [← Hzc.out] at hgz
    exact hgz
  | cons x t =>
    have hx : x.toNat ≠ 1 := by simpa [begunB] using hb
    have hn0 : ((n : Int) == 0) = false := by simp at hlen ⊢; omega
    obtain ⟨sb, so, rfl, hsb, hsc⟩ := h.at_ (k := 0) (by simp at hlen; omega)
    rw [List.getElem_cons_zero, Nat.add_zero] at hsc
    have hcell : ∀ z, (w.alloc (.cells z 76)).cell? ⟨sb, so, none⟩ = some (.int .u8 (x.toNat : Int)) := fun z => ((Fr.refl NoB w).alloc _).cell' hsc id
    have Hcell := Lib.hid hcell
    have hxb : ((x.toNat : Int) != 1) = true := by simp; omega
    have hn1 : 0 < n := by simp at hlen; omega
    clear hcell hsc hlen hx
    go_enter Try.func52, Try.ntmps52
    go_wp2_with (first
      | (refine wpList_alloc_any rfl 76 rfl 71 req_zero ?_; intro z hz; have Hz := Lib.hid hz; clear hz; have hBz := Blk.new w 76 z; have hsc := Hcell.out z)
      | (refine wpList_build_eq rfl 76 #[] rfl [] rfl zc.toArray (by rw [Hzc.out]; exact zeroReq_built) ?_)
      | (refine wpList_store_row rfl 76 (.tmp 2) (.tmp 17) rfl w.heap.size zc.toArray rfl rfl 76 z hBz (by rw [H71z.out]; exact req_size) (by rw [Hz.out, H71z.out]) Honez.out ?_))
    obtain ⟨hft, hBt⟩ := setRow_fr (ds := zc.toArray) hBz
    refine bodyPost_ret (results_cell2 (cs := zc) rfl rfl (fun j v hv => by rw [Nat.zero_add, hBt.cell]; simpa using hv) Try.underlying76 rfl (by have h := H71z.out; simp at h; rw [h]; exact req_size)) rfl ?_
    rw [He1.out, He2.out]
    have hgz := GotReqIn.zero (G := F0) (((Fr.refl NoB w).alloc _).new hft fun j hj => .inr (by omega))
    rw [← Hzc.out] at hgz
    exact hgz
theorem RequestOf_any (w : World) (F0 : Nat → Prop) (hG0 : ∀ k, F0 k → k < w.heap.size) (A : Option Addr) (n c : Nat) (l : List UInt8) (h : Byt w F0 A n l) (hnc : n ≤ c) (hcm : c ≤ maxLen) (hn : n ≤ 70368744177664) :
    Calls Try.prog 52 #[.slice A n c] w fun e w' => GotReqIn F0 w w' e (reqOf l) (reqBad l) := by
  cases l with
  | nil => exact RequestOf_bad w F0 A n c [] h (by omega) rfl rfl
  | cons x t =>
    by_cases hx : x.toNat = 1
    · exact RequestOf_good w F0 hG0 A n c x t h hnc hcm hn hx
    · exact RequestOf_bad w F0 A n c (x :: t) h (by omega) (by simp [begunB, hx]) (by simp [reqIs, hx])

theorem ReqBlk.idc {w : World} {g : Nat} {r : Req} {A : Option Addr} {n c : Nat} (h : ReqBlk w g r A n c) : ∀ (j : Nat) (u : Value), (idCells r.id)[j]? = some u → w.cell? ⟨g, 5 + j, none⟩ = some u := fun j u hu => by
  obtain ⟨b, o, e, _, hc⟩ := (h.id_ (fun k => k = g) rfl).2 (by omega)
  injection e with e
  injection e with e1 e2
  subst e1 e2
  exact hc j u hu
theorem ReqBlk.oldc {w : World} {g : Nat} {r : Req} {A : Option Addr} {n c : Nat} (h : ReqBlk w g r A n c) : ∀ (j : Nat) (u : Value), (idCells r.old)[j]? = some u → w.cell? ⟨g, 37 + j, none⟩ = some u := fun j u hu => by
  obtain ⟨b, o, e, _, hc⟩ := (h.old_ (fun k => k = g) rfl).2 (by omega)
  injection e with e
  injection e with e1 e2
  subst e1 e2
  exact hc j u hu

set_option maxRecDepth 100000 in
set_option maxHeartbeats 4000000 in
theorem SameReq_true (w : World) (F G : Nat → Prop) (y z : List Value) (r : Req) (hy : ReqR w F y r) (hz : ReqR w G z r) :
    Calls Try.prog 53 #[.agg y.toArray, .agg z.toArray] w fun e w' => e = .returned (.bool true) ∧ Fr NoB w w' := by
  obtain ⟨A, n, c, rfl, _, _, hb, _⟩ := hy
  obtain ⟨B, m, d, rfl, _, _, hb2, _⟩ := hz
  have hB1 : ReqBlk ((w.alloc (.cells (reqCells r A n c).toArray 76)).alloc (.cells (reqCells r B m d).toArray 76)) w.heap.size r A n c := ⟨(Blk.new _ _ _).alloc _⟩
  have hB2 : ReqBlk ((w.alloc (.cells (reqCells r A n c).toArray 76)).alloc (.cells (reqCells r B m d).toArray 76)) (w.heap.size + 1) r B m d := ⟨by simpa using Blk.new (w.alloc (.cells (reqCells r A n c).toArray 76)) 76 (reqCells r B m d).toArray⟩
  have hF : Fr NoB w ((w.alloc (.cells (reqCells r A n c).toArray 76)).alloc (.cells (reqCells r B m d).toArray 76)) := ((Fr.refl _ _).alloc _).alloc _
  have hcv1 := (hb.fr hF fun _ _ => id).str (P := Try.prog) Try.underlying22 Try.underlying5 Try.underlying9 c
  have hcv2 := (hb2.fr hF fun _ _ => id).str (P := Try.prog) Try.underlying22 Try.underlying5 Try.underlying9 d
  have p0 := hB1.c0
  have p1 := hB1.c1
  have p2 := hB1.c2
  have p3 := hB1.c3
  have p4 := hB1.c4
  have p69 := hB1.c69
  have p70 := hB1.c70
  have q0 := hB2.c0
  have q1 := hB2.c1
  have q2 := hB2.c2
  have q3 := hB2.c3
  have q4 := hB2.c4
  have q69 := hB2.c69
  have q70 := hB2.c70
  have Hi := Lib.hid (idCells_len r.id)
  have Ho := Lib.hid (idCells_len r.old)
  clear hb hb2
  go_enter Try.func53, Try.ntmps53
  go_wp2_with (first
    | (refine wpList_load_aggG rfl 74 (.tmp 39) rfl w.heap.size 5 rfl (idCells r.id) _ hB1.idc Try.underlying74 rfl (by rw [Hi.out]; exact id_size) ?_)
    | (refine wpList_load_aggG rfl 74 (.tmp 41) rfl (w.heap.size + 1) 5 rfl (idCells r.id) _ hB2.idc Try.underlying74 rfl (by rw [Hi.out]; exact id_size) ?_)
    | (refine wpList_load_aggG rfl 74 (.tmp 46) rfl w.heap.size 37 rfl (idCells r.old) _ hB1.oldc Try.underlying74 rfl (by rw [Ho.out]; exact id_size) ?_)
    | (refine wpList_load_aggG rfl 74 (.tmp 48) rfl (w.heap.size + 1) 37 rfl (idCells r.old) _ hB2.oldc Try.underlying74 rfl (by rw [Ho.out]; exact id_size) ?_)
    | (refine wpList_run rfl (exec_eql_arr 74 5 74 32 (.tmp 40) (.tmp 42) rfl Try.underlying74 Try.underlying5 u8_size id_guard r.id.1 r.id.1 rfl rfl r.id.2 r.id.2) ?_; rw [beq_self_eq_true])
    | (refine wpList_run rfl (exec_eql_arr 74 5 74 32 (.tmp 47) (.tmp 49) rfl Try.underlying74 Try.underlying5 u8_size id_guard r.old.1 r.old.1 rfl rfl r.old.2 r.old.2) ?_; rw [beq_self_eq_true]))
  go_ret
  exact ⟨rfl, hF⟩
end Go.Proofs.Ytnkfchondedfcaa
