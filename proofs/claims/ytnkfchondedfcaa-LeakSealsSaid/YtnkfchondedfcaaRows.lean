/-
  No cell of these rows narrows 'for every input' (looked for: loops, veiled, ifaces, maps, wideKeys, modest, calm, conditions, laid).
  DERIVED. THE GIVEN ROWS OF THIS SEAT. 15 by the template 'for every input the law returns true; each argument reads behind the call as it read before'; 0 by the template 'total and deterministic' (their statements: YtnkfchondedfcaaTotals.lean).
  GIVEN WITH THE SEED: the statements are not yours to turn. If you find one false, say at which input.
  Laid BY PROGRAM, IN A SANDBOX (cutbox-rows.mjs): the forced cells as the released guide's own fill.sh prints them over the translation 22b41ac459241f3e… (all of the seat's roots in one cut). By AI agents, Wed Nov 11 2026. No macro, syntax, notation, axiom, sorry.
-/
import Derived.Test.YtnkfchondedfcaaChecked
import GoSem.Claim
import GoSem.ClaimJoined
import GoSem.ClaimMapViews
import Derived.JoinedTies
import Derived.KernelRfl
namespace Go.Proofs.Ytnkfchondedfcaa
/- THE CELL 'sum', in the pinned program and in every row, IS THE sha256 OF THE DUMP (.gsa) THAT YtnkfchondedfcaaProg.lean LOADS. Nothing in Lean hashes anything: it is a label: what it is worth is what the hold of that sum in a sandbox is worth. -/
noncomputable def Try.pinned : Pinned := { name := "ytnkfchondedfcaa", sum := "22b41ac459241f3e323eefccae57afedb497997b7b260d208df8f363e2ffda04", checked := Try.checked }
namespace Rows
def none {H : Type} : Left H := { results := [], args := [] }

/-- 'tabulariumlaw31.LeakTurns': WHATEVER THE INPUT: true; the input reads as it did. -/
def leakTurnsSpec : ChangeSpec := { name := "leakTurns", fn := fun _ => fun
  | [d1, d2, d3] => { results := [.lit (.bool true)], args := [d1, d2, d3] }
  | _ => none }
def leakTurnsRow : OpenClaim := { program := "ytnkfchondedfcaa", sum := "22b41ac459241f3e323eefccae57afedb497997b7b260d208df8f363e2ffda04", func := "tabularium/tabulariumlaw31.LeakTurns", spec := "leakTurns", plainKeys := false, apart := false }
def LeakTurnsSaid : Prop := leakTurnsRow.holds Try.pinned (OpenSpec.ofChange leakTurnsSpec)

/-- ITS FALSE NEIGHBOUR: 'it returns false'. Refute it at one input. -/
def leakTurnsWrong : ChangeSpec := { name := "leakTurns", fn := fun _ => fun
  | [d1, d2, d3] => { results := [.lit (.bool false)], args := [d1, d2, d3] }
  | _ => none }
def LeakTurnsWrongFalsely : Prop := leakTurnsRow.holds Try.pinned (OpenSpec.ofChange leakTurnsWrong)

/-- 'tabulariumlaw31.LeakSame': WHATEVER THE INPUT: true; the input reads as it did. -/
def leakSameSpec : ChangeSpec := { name := "leakSame", fn := fun _ => fun
  | [d1, d2] => { results := [.lit (.bool true)], args := [d1, d2] }
  | _ => none }
def leakSameRow : OpenClaim := { program := "ytnkfchondedfcaa", sum := "22b41ac459241f3e323eefccae57afedb497997b7b260d208df8f363e2ffda04", func := "tabularium/tabulariumlaw31.LeakSame", spec := "leakSame", unfollowed := true, recurses := true, plainKeys := false, apart := false }
def LeakSameSaid : Prop := leakSameRow.holds Try.pinned (OpenSpec.ofChange leakSameSpec)

/-- ITS FALSE NEIGHBOUR: 'it returns false'. Refute it at one input. -/
def leakSameWrong : ChangeSpec := { name := "leakSame", fn := fun _ => fun
  | [d1, d2] => { results := [.lit (.bool false)], args := [d1, d2] }
  | _ => none }
def LeakSameWrongFalsely : Prop := leakSameRow.holds Try.pinned (OpenSpec.ofChange leakSameWrong)

/-- 'tabulariumlaw08.CodecOnce': WHATEVER THE INPUT: true; the input reads as it did. -/
def codecOnceSpec : ChangeSpec := { name := "codecOnce", fn := fun _ => fun
  | [d] => { results := [.lit (.bool true)], args := [d] }
  | _ => none }
def codecOnceRow : OpenClaim := { program := "ytnkfchondedfcaa", sum := "22b41ac459241f3e323eefccae57afedb497997b7b260d208df8f363e2ffda04", func := "tabularium/tabulariumlaw08.CodecOnce", spec := "codecOnce", plainKeys := false, apart := false }
def CodecOnceSaid : Prop := codecOnceRow.holds Try.pinned (OpenSpec.ofChange codecOnceSpec)

/-- ITS FALSE NEIGHBOUR: 'it returns false'. Refute it at one input. -/
def codecOnceWrong : ChangeSpec := { name := "codecOnce", fn := fun _ => fun
  | [d] => { results := [.lit (.bool false)], args := [d] }
  | _ => none }
def CodecOnceWrongFalsely : Prop := codecOnceRow.holds Try.pinned (OpenSpec.ofChange codecOnceWrong)

/-- 'tabulariumlaw08.CodecWrites': WHATEVER THE INPUT: true; the input reads as it did. -/
def codecWritesSpec : ChangeSpec := { name := "codecWrites", fn := fun _ => fun
  | [d] => { results := [.lit (.bool true)], args := [d] }
  | _ => none }
def codecWritesRow : OpenClaim := { program := "ytnkfchondedfcaa", sum := "22b41ac459241f3e323eefccae57afedb497997b7b260d208df8f363e2ffda04", func := "tabularium/tabulariumlaw08.CodecWrites", spec := "codecWrites", plainKeys := false, apart := false }
def CodecWritesSaid : Prop := codecWritesRow.holds Try.pinned (OpenSpec.ofChange codecWritesSpec)

/-- ITS FALSE NEIGHBOUR: 'it returns false'. Refute it at one input. -/
def codecWritesWrong : ChangeSpec := { name := "codecWrites", fn := fun _ => fun
  | [d] => { results := [.lit (.bool false)], args := [d] }
  | _ => none }
def CodecWritesWrongFalsely : Prop := codecWritesRow.holds Try.pinned (OpenSpec.ofChange codecWritesWrong)

/-- 'tabulariumlaw08.CodecReads': WHATEVER THE INPUT: true; the input reads as it did. -/
def codecReadsSpec : ChangeSpec := { name := "codecReads", fn := fun _ => fun
  | [d1, d2] => { results := [.lit (.bool true)], args := [d1, d2] }
  | _ => none }
def codecReadsRow : OpenClaim := { program := "ytnkfchondedfcaa", sum := "22b41ac459241f3e323eefccae57afedb497997b7b260d208df8f363e2ffda04", func := "tabularium/tabulariumlaw08.CodecReads", spec := "codecReads", unfollowed := true, recurses := true, plainKeys := false, apart := false }
def CodecReadsSaid : Prop := codecReadsRow.holds Try.pinned (OpenSpec.ofChange codecReadsSpec)

/-- ITS FALSE NEIGHBOUR: 'it returns false'. Refute it at one input. -/
def codecReadsWrong : ChangeSpec := { name := "codecReads", fn := fun _ => fun
  | [d1, d2] => { results := [.lit (.bool false)], args := [d1, d2] }
  | _ => none }
def CodecReadsWrongFalsely : Prop := codecReadsRow.holds Try.pinned (OpenSpec.ofChange codecReadsWrong)

/-- 'tabulariumlaw08.CodecBack': WHATEVER THE INPUT: true; the input reads as it did. -/
def codecBackSpec : ChangeSpec := { name := "codecBack", fn := fun _ => fun
  | [d] => { results := [.lit (.bool true)], args := [d] }
  | _ => none }
def codecBackRow : OpenClaim := { program := "ytnkfchondedfcaa", sum := "22b41ac459241f3e323eefccae57afedb497997b7b260d208df8f363e2ffda04", func := "tabularium/tabulariumlaw08.CodecBack", spec := "codecBack", unfollowed := true, recurses := true, plainKeys := false, apart := false }
def CodecBackSaid : Prop := codecBackRow.holds Try.pinned (OpenSpec.ofChange codecBackSpec)

/-- ITS FALSE NEIGHBOUR: 'it returns false'. Refute it at one input. -/
def codecBackWrong : ChangeSpec := { name := "codecBack", fn := fun _ => fun
  | [d] => { results := [.lit (.bool false)], args := [d] }
  | _ => none }
def CodecBackWrongFalsely : Prop := codecBackRow.holds Try.pinned (OpenSpec.ofChange codecBackWrong)

/-- 'tabulariumlaw08.CodecNone': WHATEVER THE INPUT: true; the input reads as it did. -/
def codecNoneSpec : ChangeSpec := { name := "codecNone", fn := fun _ => fun
  | [d1, d2, d3] => { results := [.lit (.bool true)], args := [d1, d2, d3] }
  | _ => none }
def codecNoneRow : OpenClaim := { program := "ytnkfchondedfcaa", sum := "22b41ac459241f3e323eefccae57afedb497997b7b260d208df8f363e2ffda04", func := "tabularium/tabulariumlaw08.CodecNone", spec := "codecNone", unfollowed := true, recurses := true, plainKeys := false, apart := false }
def CodecNoneSaid : Prop := codecNoneRow.holds Try.pinned (OpenSpec.ofChange codecNoneSpec)

/-- ITS FALSE NEIGHBOUR: 'it returns false'. Refute it at one input. -/
def codecNoneWrong : ChangeSpec := { name := "codecNone", fn := fun _ => fun
  | [d1, d2, d3] => { results := [.lit (.bool false)], args := [d1, d2, d3] }
  | _ => none }
def CodecNoneWrongFalsely : Prop := codecNoneRow.holds Try.pinned (OpenSpec.ofChange codecNoneWrong)

/-- 'tabulariumlaw16.WireRequests': WHATEVER THE INPUT: true; the input reads as it did. -/
def wireRequestsSpec : ChangeSpec := { name := "wireRequests", fn := fun _ => fun
  | [d1, d2] => { results := [.lit (.bool true)], args := [d1, d2] }
  | _ => none }
def wireRequestsRow : OpenClaim := { program := "ytnkfchondedfcaa", sum := "22b41ac459241f3e323eefccae57afedb497997b7b260d208df8f363e2ffda04", func := "tabularium/tabulariumlaw16.WireRequests", spec := "wireRequests", plainKeys := false, apart := false }
def WireRequestsSaid : Prop := wireRequestsRow.holds Try.pinned (OpenSpec.ofChange wireRequestsSpec)

/-- ITS FALSE NEIGHBOUR: 'it returns false'. Refute it at one input. -/
def wireRequestsWrong : ChangeSpec := { name := "wireRequests", fn := fun _ => fun
  | [d1, d2] => { results := [.lit (.bool false)], args := [d1, d2] }
  | _ => none }
def WireRequestsWrongFalsely : Prop := wireRequestsRow.holds Try.pinned (OpenSpec.ofChange wireRequestsWrong)

/-- 'tabulariumlaw16.WireSame': WHATEVER THE INPUT: true; the input reads as it did. -/
def wireSameSpec : ChangeSpec := { name := "wireSame", fn := fun _ => fun
  | [d1, d2] => { results := [.lit (.bool true)], args := [d1, d2] }
  | _ => none }
def wireSameRow : OpenClaim := { program := "ytnkfchondedfcaa", sum := "22b41ac459241f3e323eefccae57afedb497997b7b260d208df8f363e2ffda04", func := "tabularium/tabulariumlaw16.WireSame", spec := "wireSame", plainKeys := false, apart := false }
def WireSameSaid : Prop := wireSameRow.holds Try.pinned (OpenSpec.ofChange wireSameSpec)

/-- ITS FALSE NEIGHBOUR: 'it returns false'. Refute it at one input. -/
def wireSameWrong : ChangeSpec := { name := "wireSame", fn := fun _ => fun
  | [d1, d2] => { results := [.lit (.bool false)], args := [d1, d2] }
  | _ => none }
def WireSameWrongFalsely : Prop := wireSameRow.holds Try.pinned (OpenSpec.ofChange wireSameWrong)

/-- 'tabulariumlaw16.WireReplies': WHATEVER THE INPUT: true; the input reads as it did. -/
def wireRepliesSpec : ChangeSpec := { name := "wireReplies", fn := fun _ => fun
  | [d1, d2] => { results := [.lit (.bool true)], args := [d1, d2] }
  | _ => none }
def wireRepliesRow : OpenClaim := { program := "ytnkfchondedfcaa", sum := "22b41ac459241f3e323eefccae57afedb497997b7b260d208df8f363e2ffda04", func := "tabularium/tabulariumlaw16.WireReplies", spec := "wireReplies", unfollowed := true, recurses := true, plainKeys := false, apart := false }
def WireRepliesSaid : Prop := wireRepliesRow.holds Try.pinned (OpenSpec.ofChange wireRepliesSpec)

/-- ITS FALSE NEIGHBOUR: 'it returns false'. Refute it at one input. -/
def wireRepliesWrong : ChangeSpec := { name := "wireReplies", fn := fun _ => fun
  | [d1, d2] => { results := [.lit (.bool false)], args := [d1, d2] }
  | _ => none }
def WireRepliesWrongFalsely : Prop := wireRepliesRow.holds Try.pinned (OpenSpec.ofChange wireRepliesWrong)

/-- 'tabulariumlaw16.WireOnce': WHATEVER THE INPUT: true; the input reads as it did. -/
def wireOnceSpec : ChangeSpec := { name := "wireOnce", fn := fun _ => fun
  | [d] => { results := [.lit (.bool true)], args := [d] }
  | _ => none }
def wireOnceRow : OpenClaim := { program := "ytnkfchondedfcaa", sum := "22b41ac459241f3e323eefccae57afedb497997b7b260d208df8f363e2ffda04", func := "tabularium/tabulariumlaw16.WireOnce", spec := "wireOnce", unfollowed := true, recurses := true, plainKeys := false, apart := false }
def WireOnceSaid : Prop := wireOnceRow.holds Try.pinned (OpenSpec.ofChange wireOnceSpec)

/-- ITS FALSE NEIGHBOUR: 'it returns false'. Refute it at one input. -/
def wireOnceWrong : ChangeSpec := { name := "wireOnce", fn := fun _ => fun
  | [d] => { results := [.lit (.bool false)], args := [d] }
  | _ => none }
def WireOnceWrongFalsely : Prop := wireOnceRow.holds Try.pinned (OpenSpec.ofChange wireOnceWrong)

/-- 'tabulariumlaw31.LeakSeals': WHATEVER THE INPUT: true; the input reads as it did. -/
def leakSealsSpec : ChangeSpec := { name := "leakSeals", fn := fun _ => fun
  | [d1, d2] => { results := [.lit (.bool true)], args := [d1, d2] }
  | _ => none }
def leakSealsRow : OpenClaim := { program := "ytnkfchondedfcaa", sum := "22b41ac459241f3e323eefccae57afedb497997b7b260d208df8f363e2ffda04", func := "tabularium/tabulariumlaw31.LeakSeals", spec := "leakSeals", inPlace := ["internal/bytealg.Compare"], unfollowed := true, recurses := true, plainKeys := false, apart := false }
def LeakSealsSaid : Prop := leakSealsRow.holds Try.pinned (OpenSpec.ofChange leakSealsSpec)

/-- ITS FALSE NEIGHBOUR: 'it returns false'. Refute it at one input. -/
def leakSealsWrong : ChangeSpec := { name := "leakSeals", fn := fun _ => fun
  | [d1, d2] => { results := [.lit (.bool false)], args := [d1, d2] }
  | _ => none }
def LeakSealsWrongFalsely : Prop := leakSealsRow.holds Try.pinned (OpenSpec.ofChange leakSealsWrong)

/-- 'tabulariumlaw16.WireBack': WHATEVER THE INPUT: true; the input reads as it did. -/
def wireBackSpec : ChangeSpec := { name := "wireBack", fn := fun _ => fun
  | [d1, d2] => { results := [.lit (.bool true)], args := [d1, d2] }
  | _ => none }
def wireBackRow : OpenClaim := { program := "ytnkfchondedfcaa", sum := "22b41ac459241f3e323eefccae57afedb497997b7b260d208df8f363e2ffda04", func := "tabularium/tabulariumlaw16.WireBack", spec := "wireBack", unfollowed := true, recurses := true, plainKeys := false, apart := false }
def WireBackSaid : Prop := wireBackRow.holds Try.pinned (OpenSpec.ofChange wireBackSpec)

/-- ITS FALSE NEIGHBOUR: 'it returns false'. Refute it at one input. -/
def wireBackWrong : ChangeSpec := { name := "wireBack", fn := fun _ => fun
  | [d1, d2] => { results := [.lit (.bool false)], args := [d1, d2] }
  | _ => none }
def WireBackWrongFalsely : Prop := wireBackRow.holds Try.pinned (OpenSpec.ofChange wireBackWrong)

/-- 'tabulariumlaw34.BundleBack': WHATEVER THE INPUT: true; the input reads as it did. -/
def bundleBackSpec : ChangeSpec := { name := "bundleBack", fn := fun _ => fun
  | [d1, d2] => { results := [.lit (.bool true)], args := [d1, d2] }
  | _ => none }
def bundleBackRow : OpenClaim := { program := "ytnkfchondedfcaa", sum := "22b41ac459241f3e323eefccae57afedb497997b7b260d208df8f363e2ffda04", func := "tabularium/tabulariumlaw34.BundleBack", spec := "bundleBack", inPlace := ["internal/bytealg.Compare"], unfollowed := true, recurses := true, plainKeys := false, apart := false }
def BundleBackSaid : Prop := bundleBackRow.holds Try.pinned (OpenSpec.ofChange bundleBackSpec)

/-- ITS FALSE NEIGHBOUR: 'it returns false'. Refute it at one input. -/
def bundleBackWrong : ChangeSpec := { name := "bundleBack", fn := fun _ => fun
  | [d1, d2] => { results := [.lit (.bool false)], args := [d1, d2] }
  | _ => none }
def BundleBackWrongFalsely : Prop := bundleBackRow.holds Try.pinned (OpenSpec.ofChange bundleBackWrong)

/-- 'tabulariumlaw34.BundleBytes': WHATEVER THE INPUT: true; the input reads as it did. -/
def bundleBytesSpec : ChangeSpec := { name := "bundleBytes", fn := fun _ => fun
  | [d1, d2, d3] => { results := [.lit (.bool true)], args := [d1, d2, d3] }
  | _ => none }
def bundleBytesRow : OpenClaim := { program := "ytnkfchondedfcaa", sum := "22b41ac459241f3e323eefccae57afedb497997b7b260d208df8f363e2ffda04", func := "tabularium/tabulariumlaw34.BundleBytes", spec := "bundleBytes", inPlace := ["internal/bytealg.Compare"], unfollowed := true, recurses := true, plainKeys := false, apart := false }
def BundleBytesSaid : Prop := bundleBytesRow.holds Try.pinned (OpenSpec.ofChange bundleBytesSpec)

/-- ITS FALSE NEIGHBOUR: 'it returns false'. Refute it at one input. -/
def bundleBytesWrong : ChangeSpec := { name := "bundleBytes", fn := fun _ => fun
  | [d1, d2, d3] => { results := [.lit (.bool false)], args := [d1, d2, d3] }
  | _ => none }
def BundleBytesWrongFalsely : Prop := bundleBytesRow.holds Try.pinned (OpenSpec.ofChange bundleBytesWrong)

/- THE SECOND FORM. 'bulk': how many values and letters a reading holds, each counted each time it is reached (what is shared counts as often as it is met; a slice's spare places count too). A statement '..UptoSaid' is the law's where the arguments, and the package variables that the reading takes, are together of bulk at most 1048576: NARROWER than '..Said'. Prove '..Said' where nothing that the law and all that it calls make is longer than what came in: it says more and counts as full. Else prove '..UptoSaid'. A law counts once. -/
mutual
def uptoBulk {H : Type} : DataW H → Nat
  | .lit (.string bytes) => bytes.length + 1
  | .lit _ => 1
  | .nil => 1
  | .ptr d => uptoBulk d + 1
  | .slice elems spare => uptoBulkAll elems + uptoBulkAll spare + 1
  | .agg parts => uptoBulkAll parts + 1
  | .iface _ d => uptoBulk d + 1
  | .map entries => uptoBulkEntries entries + 1
  | .held _ => 1
def uptoBulkAll {H : Type} : List (DataW H) → Nat
  | [] => 0
  | d :: r => uptoBulk d + uptoBulkAll r
def uptoBulkEntries {H : Type} : List (Lit × DataW H) → Nat
  | [] => 0
  | x :: r => uptoBulkEntry x + uptoBulkEntries r
def uptoBulkEntry {H : Type} : Lit × DataW H → Nat
  | (.string bytes, d) => bytes.length + uptoBulk d + 1
  | (_, d) => uptoBulk d + 1
 end
def uptoSmall : (H : Type) → List (DataW H) → Bool := fun _ ds => decide (uptoBulkAll ds ≤ 1048576)
def OpenSpec.upto (s : _root_.Go.ChangeSpec) : _root_.Go.OpenSpec := { _root_.Go.OpenSpec.ofChange s with cond := some uptoSmall }

/-- 'tabulariumlaw31.LeakTurns', WHERE WHAT IT READS IS OF BULK AT MOST 1048576: true; the input reads as it did. -/
def leakTurnsUptoRow : OpenClaim := { program := "ytnkfchondedfcaa", sum := "22b41ac459241f3e323eefccae57afedb497997b7b260d208df8f363e2ffda04", func := "tabularium/tabulariumlaw31.LeakTurns", spec := "leakTurns", plainKeys := false, apart := false, narrowed := true }
def LeakTurnsUptoSaid : Prop := leakTurnsUptoRow.holds Try.pinned (OpenSpec.upto leakTurnsSpec)

/-- 'tabulariumlaw31.LeakSame', WHERE WHAT IT READS IS OF BULK AT MOST 1048576: true; the input reads as it did. -/
def leakSameUptoRow : OpenClaim := { program := "ytnkfchondedfcaa", sum := "22b41ac459241f3e323eefccae57afedb497997b7b260d208df8f363e2ffda04", func := "tabularium/tabulariumlaw31.LeakSame", spec := "leakSame", unfollowed := true, recurses := true, plainKeys := false, apart := false, narrowed := true }
def LeakSameUptoSaid : Prop := leakSameUptoRow.holds Try.pinned (OpenSpec.upto leakSameSpec)

/-- 'tabulariumlaw08.CodecOnce', WHERE WHAT IT READS IS OF BULK AT MOST 1048576: true; the input reads as it did. -/
def codecOnceUptoRow : OpenClaim := { program := "ytnkfchondedfcaa", sum := "22b41ac459241f3e323eefccae57afedb497997b7b260d208df8f363e2ffda04", func := "tabularium/tabulariumlaw08.CodecOnce", spec := "codecOnce", plainKeys := false, apart := false, narrowed := true }
def CodecOnceUptoSaid : Prop := codecOnceUptoRow.holds Try.pinned (OpenSpec.upto codecOnceSpec)

/-- 'tabulariumlaw08.CodecWrites', WHERE WHAT IT READS IS OF BULK AT MOST 1048576: true; the input reads as it did. -/
def codecWritesUptoRow : OpenClaim := { program := "ytnkfchondedfcaa", sum := "22b41ac459241f3e323eefccae57afedb497997b7b260d208df8f363e2ffda04", func := "tabularium/tabulariumlaw08.CodecWrites", spec := "codecWrites", plainKeys := false, apart := false, narrowed := true }
def CodecWritesUptoSaid : Prop := codecWritesUptoRow.holds Try.pinned (OpenSpec.upto codecWritesSpec)

/-- 'tabulariumlaw08.CodecReads', WHERE WHAT IT READS IS OF BULK AT MOST 1048576: true; the input reads as it did. -/
def codecReadsUptoRow : OpenClaim := { program := "ytnkfchondedfcaa", sum := "22b41ac459241f3e323eefccae57afedb497997b7b260d208df8f363e2ffda04", func := "tabularium/tabulariumlaw08.CodecReads", spec := "codecReads", unfollowed := true, recurses := true, plainKeys := false, apart := false, narrowed := true }
def CodecReadsUptoSaid : Prop := codecReadsUptoRow.holds Try.pinned (OpenSpec.upto codecReadsSpec)

/-- 'tabulariumlaw08.CodecBack', WHERE WHAT IT READS IS OF BULK AT MOST 1048576: true; the input reads as it did. -/
def codecBackUptoRow : OpenClaim := { program := "ytnkfchondedfcaa", sum := "22b41ac459241f3e323eefccae57afedb497997b7b260d208df8f363e2ffda04", func := "tabularium/tabulariumlaw08.CodecBack", spec := "codecBack", unfollowed := true, recurses := true, plainKeys := false, apart := false, narrowed := true }
def CodecBackUptoSaid : Prop := codecBackUptoRow.holds Try.pinned (OpenSpec.upto codecBackSpec)

/-- 'tabulariumlaw08.CodecNone', WHERE WHAT IT READS IS OF BULK AT MOST 1048576: true; the input reads as it did. -/
def codecNoneUptoRow : OpenClaim := { program := "ytnkfchondedfcaa", sum := "22b41ac459241f3e323eefccae57afedb497997b7b260d208df8f363e2ffda04", func := "tabularium/tabulariumlaw08.CodecNone", spec := "codecNone", unfollowed := true, recurses := true, plainKeys := false, apart := false, narrowed := true }
def CodecNoneUptoSaid : Prop := codecNoneUptoRow.holds Try.pinned (OpenSpec.upto codecNoneSpec)

/-- 'tabulariumlaw16.WireRequests', WHERE WHAT IT READS IS OF BULK AT MOST 1048576: true; the input reads as it did. -/
def wireRequestsUptoRow : OpenClaim := { program := "ytnkfchondedfcaa", sum := "22b41ac459241f3e323eefccae57afedb497997b7b260d208df8f363e2ffda04", func := "tabularium/tabulariumlaw16.WireRequests", spec := "wireRequests", plainKeys := false, apart := false, narrowed := true }
def WireRequestsUptoSaid : Prop := wireRequestsUptoRow.holds Try.pinned (OpenSpec.upto wireRequestsSpec)

/-- 'tabulariumlaw16.WireSame', WHERE WHAT IT READS IS OF BULK AT MOST 1048576: true; the input reads as it did. -/
def wireSameUptoRow : OpenClaim := { program := "ytnkfchondedfcaa", sum := "22b41ac459241f3e323eefccae57afedb497997b7b260d208df8f363e2ffda04", func := "tabularium/tabulariumlaw16.WireSame", spec := "wireSame", plainKeys := false, apart := false, narrowed := true }
def WireSameUptoSaid : Prop := wireSameUptoRow.holds Try.pinned (OpenSpec.upto wireSameSpec)

/-- 'tabulariumlaw16.WireReplies', WHERE WHAT IT READS IS OF BULK AT MOST 1048576: true; the input reads as it did. -/
def wireRepliesUptoRow : OpenClaim := { program := "ytnkfchondedfcaa", sum := "22b41ac459241f3e323eefccae57afedb497997b7b260d208df8f363e2ffda04", func := "tabularium/tabulariumlaw16.WireReplies", spec := "wireReplies", unfollowed := true, recurses := true, plainKeys := false, apart := false, narrowed := true }
def WireRepliesUptoSaid : Prop := wireRepliesUptoRow.holds Try.pinned (OpenSpec.upto wireRepliesSpec)

/-- 'tabulariumlaw16.WireOnce', WHERE WHAT IT READS IS OF BULK AT MOST 1048576: true; the input reads as it did. -/
def wireOnceUptoRow : OpenClaim := { program := "ytnkfchondedfcaa", sum := "22b41ac459241f3e323eefccae57afedb497997b7b260d208df8f363e2ffda04", func := "tabularium/tabulariumlaw16.WireOnce", spec := "wireOnce", unfollowed := true, recurses := true, plainKeys := false, apart := false, narrowed := true }
def WireOnceUptoSaid : Prop := wireOnceUptoRow.holds Try.pinned (OpenSpec.upto wireOnceSpec)

/-- 'tabulariumlaw31.LeakSeals', WHERE WHAT IT READS IS OF BULK AT MOST 1048576: true; the input reads as it did. -/
def leakSealsUptoRow : OpenClaim := { program := "ytnkfchondedfcaa", sum := "22b41ac459241f3e323eefccae57afedb497997b7b260d208df8f363e2ffda04", func := "tabularium/tabulariumlaw31.LeakSeals", spec := "leakSeals", inPlace := ["internal/bytealg.Compare"], unfollowed := true, recurses := true, plainKeys := false, apart := false, narrowed := true }
def LeakSealsUptoSaid : Prop := leakSealsUptoRow.holds Try.pinned (OpenSpec.upto leakSealsSpec)

/-- 'tabulariumlaw16.WireBack', WHERE WHAT IT READS IS OF BULK AT MOST 1048576: true; the input reads as it did. -/
def wireBackUptoRow : OpenClaim := { program := "ytnkfchondedfcaa", sum := "22b41ac459241f3e323eefccae57afedb497997b7b260d208df8f363e2ffda04", func := "tabularium/tabulariumlaw16.WireBack", spec := "wireBack", unfollowed := true, recurses := true, plainKeys := false, apart := false, narrowed := true }
def WireBackUptoSaid : Prop := wireBackUptoRow.holds Try.pinned (OpenSpec.upto wireBackSpec)

/-- 'tabulariumlaw34.BundleBack', WHERE WHAT IT READS IS OF BULK AT MOST 1048576: true; the input reads as it did. -/
def bundleBackUptoRow : OpenClaim := { program := "ytnkfchondedfcaa", sum := "22b41ac459241f3e323eefccae57afedb497997b7b260d208df8f363e2ffda04", func := "tabularium/tabulariumlaw34.BundleBack", spec := "bundleBack", inPlace := ["internal/bytealg.Compare"], unfollowed := true, recurses := true, plainKeys := false, apart := false, narrowed := true }
def BundleBackUptoSaid : Prop := bundleBackUptoRow.holds Try.pinned (OpenSpec.upto bundleBackSpec)

/-- 'tabulariumlaw34.BundleBytes', WHERE WHAT IT READS IS OF BULK AT MOST 1048576: true; the input reads as it did. -/
def bundleBytesUptoRow : OpenClaim := { program := "ytnkfchondedfcaa", sum := "22b41ac459241f3e323eefccae57afedb497997b7b260d208df8f363e2ffda04", func := "tabularium/tabulariumlaw34.BundleBytes", spec := "bundleBytes", inPlace := ["internal/bytealg.Compare"], unfollowed := true, recurses := true, plainKeys := false, apart := false, narrowed := true }
def BundleBytesUptoSaid : Prop := bundleBytesUptoRow.holds Try.pinned (OpenSpec.upto bundleBytesSpec)

end Rows
end Go.Proofs.Ytnkfchondedfcaa
