/-
  Lists of ids held against each other (tabulariumref08.SameIds). Conditions: each contract states its own.
-/
import Derived.Test.YtnkfchondedfcaaRows
import Derived.Test.YtnkfchondedfcaaWi
import Derived.Test.YtnkfchondedfcaaCy
namespace Go.Proofs.Ytnkfchondedfcaa
open Go.RowKit

theorem u8_size : ∀ w, (sizeOf 5).run Try.prog w = .ok 1 w := by
  intro w
  obtain ⟨i, h, a, b, c⟩ := info_parts (P := Try.prog) (e := 5) (z := .int .u8 0) (size := 1) (bytes := 1) (by kernel_rfl)
  simp [sizeOf, typeInfo, h, b]
theorem id_guard : Try.prog.eqGuardType Try.prog.depth 74 = false := by kernel_rfl

set_option maxRecDepth 100000 in
set_option maxHeartbeats 1000000 in
theorem SameIds_any (w : World) (G1 G2 : Nat → Prop) (A B : Option Addr) (n c m d : Nat) (xs ys : List Id32) (hx : ArrOf IdR w G1 32 A n xs) (hy : ArrOf IdR w G2 32 B m ys) (hn : n ≤ 9223372036854775807) :
    Calls Try.prog 40 #[.slice A n c, .slice B m d] w fun e w' => e = .returned (.bool (decide (xs = ys))) ∧ ∃ q, w' = w.drewN q := by
  have hxl := hx.len
  have hyl := hy.len
  by_cases hnm : n = m
  · subst hnm
    have Hxl := Lib.hid hxl
    have Hyl := Lib.hid hyl
    clear hxl hyl
    go_enter Try.func40, Try.ntmps40
    go_wp2
    go_loopw [13] (fun i wr => ∃ k q : Nat, k ≤ n ∧ i = .int .i64 k ∧ xs.take k = ys.take k ∧ wr = w.drewN q) (fun i _ => n - (intOf i).toNat)
    case atStart => exact ⟨0, 0, by omega, rfl, rfl, rfl⟩
    case round =>
      obtain ⟨k, q, hk, rfl, hpre, hwr⟩ := hrel
      have hxr : ArrOf IdR wr G1 32 A n xs := by rw [hwr]; exact hx
      have hyr : ArrOf IdR wr G2 32 B n ys := by rw [hwr]; exact hy
      have Hwr := Lib.hid hwr
      clear hwr
      have Hpre := Lib.hid hpre
      clear hpre
      by_cases hkn : k < n
      · obtain ⟨b1, o1, x, y1, rfl, _, gx, ly1, hr1, hc1⟩ := hxr.at_ hkn
        obtain ⟨b2, o2, y, y2, rfl, _, gy, ly2, hr2, hc2⟩ := hyr.at_ hkn
        have Hr1 : Hid (y1 = x.1.map bv) := hr1
        have Hr2 : Hid (y2 = y.1.map bv) := hr2
        have Ly1 : Hid (y1.length = 32) := ly1
        have Ly2 : Hid (y2.length = 32) := ly2
        have hk1 : k < xs.length := by rw [Hxl.out]; exact hkn
        have hk2 : k < ys.length := by rw [Hyl.out]; exact hkn
        have ex : xs.take (k + 1) = xs.take k ++ [x] := by
          rw [List.take_succ_eq_append_getElem hk1]
          rw [List.getElem?_eq_getElem hk1] at gx
          injection gx with gx; rw [gx]
        have ey : ys.take (k + 1) = ys.take k ++ [y] := by
          rw [List.take_succ_eq_append_getElem hk2]
          rw [List.getElem?_eq_getElem hk2] at gy
          injection gy with gy; rw [gy]
        have Hex := Lib.hid ex
        have Hey := Lib.hid ey
        clear ex ey gx gy hr1 hr2 ly1 ly2
        by_cases hxy : x.1 = y.1
        · have hb : (x.1 == y.1) = true := by simpa using hxy
          have Hxy := Lib.hid hxy
          clear hxy
          go_wp2
          refine wp_region_quiet_lit (by kernel_rfl) (by kernel_rfl) ?_
          repeat (first
            | (refine wpQuiet_load_agg rfl 74 (.tmp 18) rfl b1 (o1 + k * 32) rfl y1 _ hc1 Try.underlying74 rfl (by rw [Ly1.out]; exact id_size) ?_; go_simp)
            | (refine wpQuiet_load_agg rfl 74 (.tmp 22) rfl b2 (o2 + k * 32) rfl y2 _ hc2 Try.underlying74 rfl (by rw [Ly2.out]; exact id_size) ?_; rw [Hr1.out, Hr2.out]; go_simp)
            | (refine wpQuiet_run rfl (fun _ _ => exec_neq_arr 74 5 74 32 (.tmp 19) (.tmp 23) rfl Try.underlying74 Try.underlying5 u8_size id_guard x.1 y.1 rfl rfl x.2 y.2) ?_; rw [hb]; go_simp)
            | go_big_quiet_step (fail))
          refine wpQuiet_nil ?_
          intro nq
          go_wp2
          go_roundw
          case rel => exact ⟨k + 1, _, by omega, by go_num, by rw [Hex.out, Hey.out, Hpre.out, Subtype.ext Hxy.out], by rw [Hwr.out, World.drewN_drewN]⟩
          case measure => simp [intOf]; omega
        · have hb : (x.1 == y.1) = false := by simpa using hxy
          have hne : Hid (decide (xs = ys) = false) := by
            show _ = _
            rw [decide_eq_false_iff_not]
            rintro rfl
            have := Hex.out.symm.trans Hey.out
            rw [List.append_right_inj] at this
            injection this with this
            exact hxy (by rw [this])
          clear hxy
          go_wp2
          refine wp_region_quiet_lit (by kernel_rfl) (by kernel_rfl) ?_
          repeat (first
            | (refine wpQuiet_load_agg rfl 74 (.tmp 18) rfl b1 (o1 + k * 32) rfl y1 _ hc1 Try.underlying74 rfl (by rw [Ly1.out]; exact id_size) ?_; go_simp)
            | (refine wpQuiet_load_agg rfl 74 (.tmp 22) rfl b2 (o2 + k * 32) rfl y2 _ hc2 Try.underlying74 rfl (by rw [Ly2.out]; exact id_size) ?_; rw [Hr1.out, Hr2.out]; go_simp)
            | (refine wpQuiet_run rfl (fun _ _ => exec_neq_arr 74 5 74 32 (.tmp 19) (.tmp 23) rfl Try.underlying74 Try.underlying5 u8_size id_guard x.1 y.1 rfl rfl x.2 y.2) ?_; rw [hb]; go_simp)
            | go_big_quiet_step (fail))
          refine wpQuiet_nil ?_
          intro nq
          go_wp2
          go_ret
          exact ⟨ret_bool hne.out.symm, _, by rw [Hwr.out, World.drewN_drewN]⟩
      · have hke : k = n := by omega
        subst hke
        have he : Hid (decide (xs = ys) = true) := by
          show _ = _
          have := Hpre.out
          rw [List.take_of_length_le (by rw [Hxl.out]; exact Nat.le_refl _), List.take_of_length_le (by rw [Hyl.out]; exact Nat.le_refl _)] at this
          simpa using this
        go_wp2
        go_ret
        exact ⟨ret_bool he.out.symm, _, Hwr.out⟩
  · have hne : Hid (decide (xs = ys) = false) := by
      show _ = _
      rw [decide_eq_false_iff_not]
      rintro rfl
      exact hnm (hxl.symm.trans hyl)
    clear hxl hyl
    have hb : ((n : Int) != (m : Int)) = true := by simp; omega
    clear hnm
    go_enter Try.func40, Try.ntmps40
    go_wp2
    go_ret
    exact ⟨ret_bool hne.out.symm, 0, rfl⟩
end Go.Proofs.Ytnkfchondedfcaa
