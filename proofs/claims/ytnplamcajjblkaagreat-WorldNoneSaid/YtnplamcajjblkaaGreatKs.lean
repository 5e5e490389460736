/-
  Links without fates and working copies that are made (lossy.New, repo.New). Conditions: each contract states its own.
-/
import Derived.Test.YtnplamcajjblkaaGreatKr
namespace Go.Proofs.YtnplamcajjblkaaGreat
open Go.RowKit

theorem cloneFate_nil (w : World) : Calls Tryz.prog 90 #[.slice none 0 0] w fun e w' => e = .returned (.slice none 0 0) ∧ w' = w := by
  have hcmp := Lib.run_eql_slice_nil (P := Tryz.prog) w 30 213 none 0 0 0 0 Tryz.underlying30
  rw [show (none : Option Addr).isNone = true from rfl] at hcmp
  go_enter Tryz.func90, Tryz.ntmps90
  go_wp2
  go_ret
  exact ⟨rfl, rfl⟩
theorem link_built : Tryz.prog.built 216 [(0, .slice none 0 0), (3, .bool true)] = some #[.slice none 0 0, .int .i64 0, .slice none 0 0, .bool true] := by kernel_rfl
theorem linkNew_nil (w : World) : Calls Tryz.prog 42 #[.slice none 0 0] w fun e w' => ∃ q, e = .returned (.pointer (some ⟨q, 0, none⟩)) ∧ Fr NoB w w' := by
  have H := Lib.hid (cloneFate_nil w)
  go_enter Tryz.func42, Tryz.ntmps42
  go_wp2_with (first
    | (go_at_call 90; refine H.out.mono ?_; rintro e w1 ⟨rfl, h1⟩; rw [h1])
    | (refine wpList_buildK rfl 216 #[(0, .tmp 4), (3, .const (.bool true))] rfl [(0, .slice none 0 0), (3, .bool true)] rfl _ link_built ?_))
  go_ret
  exact ⟨_, rfl, (Fr.refl _ _).alloc _⟩
noncomputable def branchZ : Array Value := (((Tryz.prog.info? 138).bind (·.zero)).map (·.cells)).getD #[]
theorem branchZ_open : branchZ[1]? = some (.bool false) := by kernel_rfl
theorem line_built (c h u d : Option Addr) (te : Int) : Tryz.prog.built 134 [(0, .pointer c), (1, .pointer h), (2, .pointer u), (3, .pointer d), (4, .int .u32 te)] = some #[.pointer c, .pointer h, .pointer u, .pointer d, .int .u32 te] := by kernel_rfl
theorem repo_built (c h u d t : Option Addr) (te re ep au : Int) : Tryz.prog.built 140 [(0, .agg #[.pointer c, .pointer h, .pointer u, .pointer d, .int .u32 te]), (1, .pointer t), (2, .int .u32 re), (3, .int .u32 ep), (4, .int .u32 au)] = some (#[.pointer c, .pointer h, .pointer u, .pointer d, .int .u32 te, .pointer t, .int .u32 re, .int .u32 ep, .int .u32 au] ++ branchZ) := by kernel_rfl
/-- A working copy of no branch. -/
def RepoClosed (w : World) (q : Nat) : Prop := ∃ cs : Array Value, Blk w q 140 cs ∧ cs[10]? = some (.bool false)
theorem RepoClosed.fr {w w' : World} {q : Nat} {S : Nat → Prop} (h : RepoClosed w q) (hf : Fr S w w') (hq : ¬ S q) : RepoClosed w' q := h.elim fun cs hc => ⟨cs, hc.1.fr hf hq, hc.2⟩
set_option maxRecDepth 100000 in
set_option maxHeartbeats 2000000 in
theorem repoNew_any (w : World) (c h u d t : Option Addr) (te re ep au : Int) :
    Calls Tryz.prog 43 #[.pointer c, .pointer h, .pointer u, .pointer d, .pointer t, .int .u32 te, .int .u32 re, .int .u32 ep, .int .u32 au] w fun e w' => e = .returned (.pointer (some ⟨w.heap.size, 0, none⟩)) ∧ RepoClosed w' w.heap.size ∧ Fr NoB w w' := by
  obtain ⟨zs, hzs⟩ : ∃ zs, zs = #[.pointer c, .pointer h, .pointer u, .pointer d, .int .u32 te, .pointer t, .int .u32 re, .int .u32 ep, .int .u32 au] ++ branchZ := ⟨_, rfl⟩
  have hz10 : zs[10]? = some (.bool false) := by
    rw [hzs, Array.getElem?_append_right (by simp)]
    exact branchZ_open
  have hb := repo_built c h u d t te re ep au
  rw [← hzs] at hb
  have Hb := Lib.hid hb
  clear hzs hb
  go_enter Tryz.func43, Tryz.ntmps43
  go_wp2_with (first
    | (refine wpList_buildK rfl 134 #[(0, .tmp 19), (1, .tmp 20), (2, .tmp 21), (3, .tmp 22), (4, .tmp 23)] rfl [(0, .pointer c), (1, .pointer h), (2, .pointer u), (3, .pointer d), (4, .int .u32 te)] rfl _ (line_built c h u d te) ?_)
    | (refine wpList_buildK rfl 140 #[(0, .tmp 24), (1, .tmp 25), (2, .tmp 26), (3, .tmp 27), (4, .tmp 28)] rfl [(0, .agg #[.pointer c, .pointer h, .pointer u, .pointer d, .int .u32 te]), (1, .pointer t), (2, .int .u32 re), (3, .int .u32 ep), (4, .int .u32 au)] rfl zs Hb.out ?_))
  go_ret
  exact ⟨rfl, ⟨zs, Blk.new _ _ _, hz10⟩, (Fr.refl _ _).alloc _⟩
theorem repoClosed_any (w : World) (q : Nat) (h : RepoClosed w q) : Calls Tryz.prog 53 #[.pointer (some ⟨q, 0, none⟩)] w fun e w' => e = .returned (.bool true) ∧ w' = w := by
  obtain ⟨cs, h1, h2⟩ := h
  have c10 : w.cell? ⟨q, 10, none⟩ = some (.bool false) := (h1.cell 10).trans h2
  go_enter Tryz.func53, Tryz.ntmps53
  go_wp2
  go_ret
  exact ⟨rfl, rfl⟩
theorem repoWrite_closed (w : World) (q : Nat) (x y : Value) (h : RepoClosed w q) : Calls Tryz.prog 22 #[.pointer (some ⟨q, 0, none⟩), x, y] w fun e w' => e = .returned (.int .i64 290) ∧ w' = w := by
  have H := Lib.hid (repoClosed_any w q h)
  go_enter Tryz.func22, Tryz.ntmps22
  go_wp2_with (go_at_call 53; refine H.out.mono ?_; rintro e w1 ⟨rfl, h1⟩; rw [h1])
  go_ret
  exact ⟨rfl, rfl⟩
end Go.Proofs.YtnplamcajjblkaaGreat
