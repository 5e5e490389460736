/-
  For every input the law WorldNone returns true, and each argument reads afterwards as it read before. No condition.
-/
import Derived.Test.YtnplamcajjblkaaGreatRows
import Derived.Test.YtnplamcajjblkaaGreatWn
import Derived.Test.YtnplamcajjblkaaGreatLop
import Derived.Test.YtnplamcajjblkaaGreatWo
namespace Go.Proofs.YtnplamcajjblkaaGreat
open Go.ChangeShapes Go.WideShapes Go.ChangeAt Go.RowKit
open Go.ChangeMaps (open_string shut_string)

namespace worldNone
theorem own : ownKnob Tryz.prog.godebug = none := by kernel_rfl
theorem laidOut : laidOutB Tryz.prog = true := by kernel_rfl

set_option maxRecDepth 100000 in
theorem lifted (os : Os) (started : os.Started) (H : Type) (enc : TypeId × Value → H) :
    ReturnsInHanded {} Tryz.checked os 3 .any (Rows.worldNoneSpec.pre6 enc Tryz.prog Tryz.f3 Rows.worldNoneRow.domain false) (Rows.worldNoneSpec.post enc Tryz.prog Tryz.f3 false true false false) := by
  refine returnsInHanded_of_change (C := Tryz.checked) own started (by kernel_rfl) Tryz.func3
    (ChangeSpec.witness6 (enc := enc) (C := Tryz.checked) false ⟨#[], #[.agg #[.int .u32 0, .int .i64 0, .string ⟨#[]⟩, .string ⟨#[]⟩, .string ⟨#[]⟩, .string ⟨#[]⟩, .int .u64 0]], []⟩ 8 (by kernel_rfl) (by kernel_rfl) (by kernel_rfl) (by kernel_rfl)) ?_
  intro W base args ds gs before hval0 hW hcnd _
  have hval : ∀ (j : Nat) t v, Tryz.f3.params[j]? = some t → args[j]? = some v → Value.okWide Tryz.prog W .any base t v := hval0
  have hW' := hW
  obtain ⟨p, q, hA0, hV, rfl, hfz, hnd⟩ := hW
  have hA : DataW.TrodAll enc Tryz.prog W 0 (fun _ => true) true Tryz.f3.params.toList args.toList ds p := hA0
  rw [Tryz.params3] at hA hval
  obtain ⟨v0, vs0, d0, ds0, p0, q0, hargs, rfl, rfl, h0, r0⟩ := trodAll_cons hA
  obtain ⟨rfl, rfl, rfl⟩ := trodAll_nil r0
  obtain rfl : args = #[v0] := by cases args; simp_all
  obtain ⟨rfl, rfl⟩ := trodVars_none hV
  have k0 := h0
  have lt0 : ∀ x ∈ p0, x.block < W.heap.size := by obtain ⟨m, hm⟩ := k0; exact DataW.trod_lt m _ _ _ hm
  obtain ⟨y0, rfl, l0, w0⟩ := open_op (hval 0 25 v0 rfl rfl) h0
  clear hA0 hval0
  refine (WorldNone_row W y0 l0 w0).mono fun e W' ⟨he, bel⟩ => ?_
  subst he
  exact ⟨_, rfl, _, _, _, [], _, [], hW', trodAll_mk1 (shut_bool Tryz.underlying4 _), (trodAll_cons_mk (Below.trod laidOut (by kernel_rfl) (of_decide_eq_true (by kernel_rfl)) k0 bel lt0) trodAll_mk0), rfl, bel.frame _, fun h => by cases h⟩
end worldNone

theorem worldNoneK0 : Rows.worldNoneRow.wf (OpenSpec.ofChange Rows.worldNoneSpec) = true := by kernel_rfl
theorem worldNoneK1 : laidOutB Tryz.prog = true := by kernel_rfl
theorem worldNoneK2 : mapsRowed Tryz.prog = true := by kernel_rfl
theorem worldNoneK3 : Tryz.f3.params.all (Tryz.prog.readableRec ·) = true := by kernel_rfl
theorem worldNoneK4 : namedTie Tryz.prog Rows.worldNoneRow.named Rows.worldNoneSpec.vars = true := by kernel_rfl
theorem worldNoneK5 : (Rows.worldNoneRow.stops == []) = true := by kernel_rfl
theorem worldNoneK6 : (Tryz.prog.stops == []) = true := by kernel_rfl
theorem worldNoneK7 : (Rows.worldNoneRow.knobs == []) = true := by kernel_rfl
theorem worldNoneK8 : (Tryz.prog.stopKnobs == []) = true := by kernel_rfl
theorem worldNoneK9 : (Rows.worldNoneRow.inPlace == Tryz.prog.inPlace 3) = true := by kernel_rfl
theorem worldNoneK10 : (Rows.worldNoneRow.unfollowed == Tryz.prog.unfollowed 3) = true := by kernel_rfl
theorem worldNoneK11 : (Rows.worldNoneRow.recurses == Tryz.prog.recurses 3) = true := by kernel_rfl
theorem worldNoneK12 : (Rows.worldNoneRow.named == Tryz.prog.varsNamed 3) = true := by kernel_rfl
theorem worldNoneK13 : (Rows.worldNoneRow.maps == (Tryz.f3.params.toList ++ Rows.worldNoneSpec.plain.varTypes Tryz.prog).any (Tryz.prog.mapsRec ·)) = true := by kernel_rfl
theorem worldNoneK14 : (Rows.worldNoneRow.ifaces == (Tryz.f3.params.toList ++ Rows.worldNoneSpec.plain.varTypes Tryz.prog).any (Tryz.prog.ifacesRec ·)) = true := by kernel_rfl
theorem worldNoneK15 : (Rows.worldNoneRow.mapsOut == Tryz.prog.mapsAmong Tryz.f3.resultTypes.toList) = true := by kernel_rfl
theorem worldNoneK16 : (Rows.worldNoneRow.loops == (Tryz.f3.params.toList ++ Rows.worldNoneSpec.plain.varTypes Tryz.prog).any (Tryz.prog.loopsFrom ·)) = true := by kernel_rfl
theorem worldNoneK17 : (Rows.worldNoneRow.wideKeys == (Tryz.f3.params.toList ++ Rows.worldNoneSpec.plain.varTypes Tryz.prog ++ Tryz.f3.resultTypes.toList).any (Tryz.prog.wideKeysFrom ·)) = true := by kernel_rfl
theorem worldNoneK18 : Rows.worldNoneSpec.vars.all (Tryz.prog.varReadable ·) = true := by kernel_rfl
theorem worldNoneK19 : Tryz.f3.resultTypes.all (fun t => Tryz.prog.readableRec t && decide (t < Tryz.prog.types.size)) = true := by kernel_rfl
theorem worldNoneK20 : (Rows.worldNoneRow.ifacesOut == Tryz.f3.resultTypes.toList.any (Tryz.prog.ifacesRec ·)) = true := by kernel_rfl
theorem worldNoneK21 : (Rows.worldNoneRow.loopsOut == Tryz.f3.resultTypes.toList.any (Tryz.prog.loopsFrom ·)) = true := by kernel_rfl
theorem worldNoneK22 : (Rows.worldNoneRow.plainKeys == Tryz.prog.plainKeys) = true := by kernel_rfl
theorem worldNoneK23 : Rows.worldNoneRow.shortTexts.isNone = true := by kernel_rfl
theorem worldNoneK24 : Tryz.prog.stopsHeard = true := by kernel_rfl
theorem worldNoneK25 : Tryz.prog.mayEnter = true := by kernel_rfl
theorem worldNoneK26 : (Rows.worldNoneRow.lifted == Tryz.prog.liftsFinal) = true := by kernel_rfl
theorem worldNoneK27 : (Tryz.prog.make == some Rows.worldNoneRow.make) = true := by kernel_rfl
theorem worldNoneK28 : (Rows.worldNoneRow.kinds == (if Rows.worldNoneRow.domain.isEmpty then [] else Tryz.f3.params.toList.map fun t => match Tryz.prog.underlying t with | some (.int k) => some k | _ => none)) = true := by kernel_rfl
theorem worldNoneK29 : (Rows.worldNoneRow.pinned == Rows.worldNoneRow.pinnedBy) = true := by kernel_rfl
theorem worldNoneK30 : (Rows.worldNoneRow.veiled == (Tryz.f3.params.toList ++ Rows.worldNoneSpec.plain.varTypes Tryz.prog ++ Tryz.f3.resultTypes.toList).any (Tryz.prog.veiledRec ·)) = true := by kernel_rfl
theorem worldNoneK31 : Rows.worldNoneRow.veiledFits Tryz.prog Tryz.f3.params.toList (Tryz.f3.params.toList ++ Rows.worldNoneSpec.plain.varTypes Tryz.prog ++ Tryz.f3.resultTypes.toList) = true := by kernel_rfl
theorem worldNoneAnd {a b : Bool} (h : a = true) (k : b = true) : (a && b) = true := by rw [h, k]; rfl
set_option maxRecDepth 100000 in
theorem worldNoneClosed : joinedFacts Tryz.prog 3 Tryz.f3 Rows.worldNoneSpec Rows.worldNoneRow = true := by
  unfold joinedFacts
  exact worldNoneAnd (worldNoneAnd (worldNoneAnd (worldNoneAnd (worldNoneAnd (worldNoneAnd (worldNoneAnd (worldNoneAnd (worldNoneAnd (worldNoneAnd (worldNoneAnd (worldNoneAnd (worldNoneAnd (worldNoneAnd (worldNoneAnd (worldNoneAnd (worldNoneAnd (worldNoneAnd (worldNoneAnd (worldNoneAnd (worldNoneAnd (worldNoneAnd (worldNoneAnd (worldNoneAnd (worldNoneAnd (worldNoneAnd (worldNoneAnd (worldNoneAnd (worldNoneAnd (worldNoneAnd (worldNoneAnd worldNoneK0 worldNoneK1) worldNoneK2) worldNoneK3) worldNoneK4) worldNoneK5) worldNoneK6) worldNoneK7) worldNoneK8) worldNoneK9) worldNoneK10) worldNoneK11) worldNoneK12) worldNoneK13) worldNoneK14) worldNoneK15) worldNoneK16) worldNoneK17) worldNoneK18) worldNoneK19) worldNoneK20) worldNoneK21) worldNoneK22) worldNoneK23) worldNoneK24) worldNoneK25) worldNoneK26) worldNoneK27) worldNoneK28) worldNoneK29) worldNoneK30) worldNoneK31
theorem worldNoneFn : Tryz.prog.funcNamed Rows.worldNoneRow.func = some 3 := by kernel_rfl
theorem worldNone_holds : Rows.WorldNoneSaid :=
  OpenClaim.holds_of_wide 3 Tryz.f3 rfl rfl rfl rfl rfl rfl rfl ⟨rfl, rfl, rfl, rfl, rfl⟩ rfl rfl rfl rfl rfl worldNoneFn Tryz.func3 worldNoneClosed
    (of_decide_eq_true (by kernel_rfl)) (by unfold Func.isWrapper; first | (rw [if_pos (by decide +kernel)]; kernel_rfl) | (rw [if_neg (by decide +kernel)]; exact ⟨rfl, rfl⟩))
    (fun os started H enc _ => worldNone.lifted os started H enc)
#print axioms worldNone_holds
end Go.Proofs.YtnplamcajjblkaaGreat
