/-
  Reads of a disk, equality of bytes, spans of records (disk.Read, vec.Equal, slog.Span). Conditions: each contract states its own.
-/
import Derived.Test.YtnplamcajjblkaaGreatKb
import Derived.Test.YtnplamcajjblkaaGreatKh
namespace Go.Proofs.YtnplamcajjblkaaGreat
open Go.RowKit

section
variable {P : Program}
theorem results_cell_tmpK {fn : Func} {t u : Tmp} {ty : TypeId} {tmps : Array Value} {w : World} {g : Nat} {cs : List Value} {d : TypeDesc} (h : fn.results = #[.cell t ty, .tmp u]) (ht : tmps.getD t undef = .pointer (some ⟨g, 0, none⟩))
    (hc : ∀ j v, cs[j]? = some v → w.cell? ⟨g, 0 + j, none⟩ = some v) (hu : P.underlying ty = some d) (hd : d.isRow = true) (hi : (P.info? ty).map (·.size) = some cs.length) :
    (results fn tmps).run P w = .ok (.tuple #[.agg cs.toArray, tmps.getD u undef]) w := by
  have hl := run_loadVar_mid (P := P) w g 0 ty cs d hc hu hd hi
  have ht' : tmps[t]?.getD undef = .pointer (some ⟨g, 0, none⟩) := by simpa using ht
  simp [results, h, ht', hl, asAddr]
end
set_option maxRecDepth 100000 in
set_option maxHeartbeats 2000000 in
theorem diskRead_any (w : World) (p r n k i : Nat) (secs : List (List UInt8)) (h : DiskAt w p r n k secs) (sec : List UInt8) (hs : secs[i]? = some sec) :
    Calls Tryz.prog 92 #[.pointer (some ⟨p, 0, none⟩), .int .i64 (i : Int)] w fun e w' => e = .returned (.tuple #[.agg (sec.map bv).toArray, .int .i64 0]) ∧ Fr NoB w w' := by
  have hi : i < n := by rw [← h.len]; exact (List.getElem?_eq_some_iff.1 hs).1
  have hsl : sec.length = 64 := h.all sec (List.mem_of_getElem? hs)
  obtain ⟨zs, hzs⟩ : ∃ zs, zs = (List.replicate 64 (0 : UInt8)).map bv := ⟨_, rfl⟩
  have Hz : Hid (((Tryz.prog.info? 200).bind (·.zero)).map (·.cells) = some zs.toArray) := by show _ = _; rw [hzs]; exact sec_zero
  have Hzl : Hid (zs.toArray.size = 64) := by show _ = _; rw [hzs]; simp
  obtain ⟨ys, hys⟩ : ∃ ys, ys = sec.map bv := ⟨_, rfl⟩
  have hl : ys.length = 64 := by rw [hys, List.length_map]; exact hsl
  have h1 : ys.toArray.all (·.oneCell') = true := by rw [hys]; exact sec_cells _
  obtain ⟨cs, hcs, hcE⟩ := h.row
  have hat := flat_at64 secs i sec h.all hs
  rw [← hys, ← hcE] at hat
  have hrlt := hcs.lt
  have hplt := h.blk.lt
  rw [← hys]
  clear hys hzs hcE
  obtain ⟨B, hB⟩ : ∃ B, B = w.heap.size := ⟨_, rfl⟩
  obtain ⟨w2, hw2⟩ : ∃ w2, w2 = w.alloc (.cells zs.toArray 200) := ⟨_, rfl⟩
  have hf2 : Fr NoB w w2 := by rw [hw2]; exact (Fr.refl _ _).alloc _
  have hY : Blk w2 B 200 zs.toArray := by rw [hw2, hB]; exact Blk.new _ _ _
  have h2 := h.fr hf2 id id
  have hcs2 := hcs.fr hf2 id
  have H := Lib.hid (diskMay_any w2 p r n k i secs h2 hi)
  have d0 := h2.c0
  have hall : ∀ j u, ys[j]? = some u → w2.cell? ⟨r, i * 64 + j, none⟩ = some u := fun j u hu => by rw [hcs2.cell, ← Array.getElem?_toList]; exact hat j u hu
  have gi0 : (0 : Int) ≤ (i : Int) := by omega
  have gi1 : (i : Int) < (n : Int) := by omega
  have HB := Lib.hid hB
  have Hw2 := Lib.hid hw2
  have Hl := Lib.hid hl
  have H1 := Lib.hid h1
  rw [← hB] at hplt hrlt
  clear hB hw2 hl h1 hat hcs hf2
  have hf2 : Fr NoB w w2 := by rw [Hw2.out]; exact (Fr.refl _ _).alloc _
  go_enter Tryz.func92, Tryz.ntmps92
  go_wp2_with (first
    | (refine wpList_alloc_zcK rfl 200 rfl zs.toArray Hz.out ?_)
    | rw [← Hw2.out, ← HB.out]
    | (go_at_call 156; refine H.out.mono ?_; rintro e w1 ⟨rfl, h12⟩; rw [h12])
    | (refine wpList_load_agg rfl 200 (.tmp 19) rfl r (i * 64) rfl ys _ hall Tryz.underlying200 rfl (by rw [Hl.out]; exact sec_size) ?_)
    | (refine wpList_store_rowK rfl 200 (.tmp 4) (.tmp 20) rfl B ys.toArray rfl rfl 200 zs.toArray hY (by rw [List.size_toArray, Hl.out]; exact sec_size) (by rw [Hzl.out, List.size_toArray, Hl.out]) H1.out ?_))
  have q1 := (setRow_frK (ds := ys.toArray) hY).1
  have q2 := (setRow_frK (ds := ys.toArray) hY).2
  refine bodyPost_ret (results_cell_tmpK (cs := ys) rfl rfl (fun j v hv => by rw [Nat.zero_add, q2.cell]; simpa using hv) Tryz.underlying200 rfl (by rw [Hl.out]; exact sec_size)) rfl ?_
  exact ⟨rfl, hf2.new q1 fun j hj => .inr (by have := HB.out; omega)⟩
end Go.Proofs.YtnplamcajjblkaaGreat
