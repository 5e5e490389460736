/-
  No cell of these rows narrows 'for every input' (looked for: loops, veiled, ifaces, maps, wideKeys, modest, calm, conditions, laid).
  DERIVED. THE GIVEN ROWS OF THIS SEAT. 5 by the template 'for every input the law returns true; each argument reads behind the call as it read before'; 0 by the template 'total and deterministic' (their statements: YtdfmoafjgocbnaaGreatTotals.lean).
  GIVEN WITH THE SEED: the statements are not yours to turn. If you find one false, say at which input.
  Laid BY PROGRAM, IN A SANDBOX (cutbox-rows.mjs): the forced cells as the released guide's own fill.sh prints them over the translation 1f79d0fd6baf3b23… (all of the seat's roots in one cut). By AI agents, Wed Nov 11 2026. No macro, syntax, notation, axiom, sorry.
-/
import Derived.Test.YtdfmoafjgocbnaaGreatChecked
import GoSem.Claim
import GoSem.ClaimJoined
import GoSem.ClaimMapViews
import Derived.JoinedTies
import Derived.KernelRfl
namespace Go.Proofs.YtdfmoafjgocbnaaGreat
/- THE CELL 'sum', in the pinned program and in every row, IS THE sha256 OF THE DUMP (.gsa) THAT YtdfmoafjgocbnaaGreatProg.lean LOADS. Nothing in Lean hashes anything: it is a label: what it is worth is what the hold of that sum in a sandbox is worth. -/
noncomputable def Tryz.pinned : Pinned := { name := "ytdfmoafjgocbnaagreat", sum := "1f79d0fd6baf3b23960e0f0043b1821162f08f9642078c6f73faf05c46232e46", checked := Tryz.checked }
namespace Rows
def none {H : Type} : Left H := { results := [], args := [] }

/-- 'tabulariumlaw17.VaultCloses': WHATEVER THE INPUT: true; the input reads as it did. -/
def vaultClosesSpec : ChangeSpec := { name := "vaultCloses", fn := fun _ => fun
  | [d1, d2, d3, d4] => { results := [.lit (.bool true)], args := [d1, d2, d3, d4] }
  | _ => none }
def vaultClosesRow : OpenClaim := { program := "ytdfmoafjgocbnaagreat", sum := "1f79d0fd6baf3b23960e0f0043b1821162f08f9642078c6f73faf05c46232e46", func := "tabularium/tabulariumlaw17.VaultCloses", spec := "vaultCloses", inPlace := ["internal/bytealg.Compare"], unfollowed := true, recurses := true, plainKeys := false, apart := false }
def VaultClosesSaid : Prop := vaultClosesRow.holds Tryz.pinned (OpenSpec.ofChange vaultClosesSpec)

/-- ITS FALSE NEIGHBOUR: 'it returns false'. Refute it at one input. -/
def vaultClosesWrong : ChangeSpec := { name := "vaultCloses", fn := fun _ => fun
  | [d1, d2, d3, d4] => { results := [.lit (.bool false)], args := [d1, d2, d3, d4] }
  | _ => none }
def VaultClosesWrongFalsely : Prop := vaultClosesRow.holds Tryz.pinned (OpenSpec.ofChange vaultClosesWrong)

/-- 'tabulariumlaw31.LeakHosts': WHATEVER THE INPUT: true; the input reads as it did. -/
def leakHostsSpec : ChangeSpec := { name := "leakHosts", fn := fun _ => fun
  | [d1, d2, d3, d4] => { results := [.lit (.bool true)], args := [d1, d2, d3, d4] }
  | _ => none }
def leakHostsRow : OpenClaim := { program := "ytdfmoafjgocbnaagreat", sum := "1f79d0fd6baf3b23960e0f0043b1821162f08f9642078c6f73faf05c46232e46", func := "tabularium/tabulariumlaw31.LeakHosts", spec := "leakHosts", inPlace := ["internal/bytealg.Compare"], unfollowed := true, recurses := true, plainKeys := false, apart := false }
def LeakHostsSaid : Prop := leakHostsRow.holds Tryz.pinned (OpenSpec.ofChange leakHostsSpec)

/-- ITS FALSE NEIGHBOUR: 'it returns false'. Refute it at one input. -/
def leakHostsWrong : ChangeSpec := { name := "leakHosts", fn := fun _ => fun
  | [d1, d2, d3, d4] => { results := [.lit (.bool false)], args := [d1, d2, d3, d4] }
  | _ => none }
def LeakHostsWrongFalsely : Prop := leakHostsRow.holds Tryz.pinned (OpenSpec.ofChange leakHostsWrong)

/-- 'tabulariumlaw17.VaultRebuilds': WHATEVER THE INPUT: true; the input reads as it did. -/
def vaultRebuildsSpec : ChangeSpec := { name := "vaultRebuilds", fn := fun _ => fun
  | [d1, d2, d3, d4] => { results := [.lit (.bool true)], args := [d1, d2, d3, d4] }
  | _ => none }
def vaultRebuildsRow : OpenClaim := { program := "ytdfmoafjgocbnaagreat", sum := "1f79d0fd6baf3b23960e0f0043b1821162f08f9642078c6f73faf05c46232e46", func := "tabularium/tabulariumlaw17.VaultRebuilds", spec := "vaultRebuilds", inPlace := ["internal/bytealg.Compare"], unfollowed := true, recurses := true, plainKeys := false, apart := false }
def VaultRebuildsSaid : Prop := vaultRebuildsRow.holds Tryz.pinned (OpenSpec.ofChange vaultRebuildsSpec)

/-- ITS FALSE NEIGHBOUR: 'it returns false'. Refute it at one input. -/
def vaultRebuildsWrong : ChangeSpec := { name := "vaultRebuilds", fn := fun _ => fun
  | [d1, d2, d3, d4] => { results := [.lit (.bool false)], args := [d1, d2, d3, d4] }
  | _ => none }
def VaultRebuildsWrongFalsely : Prop := vaultRebuildsRow.holds Tryz.pinned (OpenSpec.ofChange vaultRebuildsWrong)

/-- 'tabulariumlaw17.VaultAgain': WHATEVER THE INPUT: true; the input reads as it did. -/
def vaultAgainSpec : ChangeSpec := { name := "vaultAgain", fn := fun _ => fun
  | [d1, d2, d3, d4, d5] => { results := [.lit (.bool true)], args := [d1, d2, d3, d4, d5] }
  | _ => none }
def vaultAgainRow : OpenClaim := { program := "ytdfmoafjgocbnaagreat", sum := "1f79d0fd6baf3b23960e0f0043b1821162f08f9642078c6f73faf05c46232e46", func := "tabularium/tabulariumlaw17.VaultAgain", spec := "vaultAgain", inPlace := ["internal/bytealg.Compare"], unfollowed := true, recurses := true, plainKeys := false, apart := false }
def VaultAgainSaid : Prop := vaultAgainRow.holds Tryz.pinned (OpenSpec.ofChange vaultAgainSpec)

/-- ITS FALSE NEIGHBOUR: 'it returns false'. Refute it at one input. -/
def vaultAgainWrong : ChangeSpec := { name := "vaultAgain", fn := fun _ => fun
  | [d1, d2, d3, d4, d5] => { results := [.lit (.bool false)], args := [d1, d2, d3, d4, d5] }
  | _ => none }
def VaultAgainWrongFalsely : Prop := vaultAgainRow.holds Tryz.pinned (OpenSpec.ofChange vaultAgainWrong)

/-- 'tabulariumlaw18.KeepNone': WHATEVER THE INPUT: true; the input reads as it did. -/
def keepNoneSpec : ChangeSpec := { name := "keepNone", fn := fun _ => fun
  | [d1, d2, d3, d4] => { results := [.lit (.bool true)], args := [d1, d2, d3, d4] }
  | _ => none }
def keepNoneRow : OpenClaim := { program := "ytdfmoafjgocbnaagreat", sum := "1f79d0fd6baf3b23960e0f0043b1821162f08f9642078c6f73faf05c46232e46", func := "tabularium/tabulariumlaw18.KeepNone", spec := "keepNone", inPlace := ["internal/bytealg.Compare"], unfollowed := true, recurses := true, plainKeys := false, apart := false }
def KeepNoneSaid : Prop := keepNoneRow.holds Tryz.pinned (OpenSpec.ofChange keepNoneSpec)

/-- ITS FALSE NEIGHBOUR: 'it returns false'. Refute it at one input. -/
def keepNoneWrong : ChangeSpec := { name := "keepNone", fn := fun _ => fun
  | [d1, d2, d3, d4] => { results := [.lit (.bool false)], args := [d1, d2, d3, d4] }
  | _ => none }
def KeepNoneWrongFalsely : Prop := keepNoneRow.holds Tryz.pinned (OpenSpec.ofChange keepNoneWrong)

/- THE SECOND FORM. 'bulk': how many values and letters a reading holds, each counted each time it is reached (what is shared counts as often as it is met; a slice's spare places count too). A statement '..UptoSaid' is the law's where the arguments, and the package variables that the reading takes, are together of bulk at most 1048576: NARROWER than '..Said'. Prove '..Said' where nothing that the law and all that it calls make is longer than what came in: it says more and counts as full. Else prove '..UptoSaid'. A law counts once. -/
mutual
def uptoBulk {H : Type} : DataW H → Nat
  | .lit (.string bytes) => bytes.length + 1
  | .lit _ => 1
  | .nil => 1
  | .ptr d => uptoBulk d + 1
  | .slice elems spare => uptoBulkAll elems + uptoBulkAll spare + 1
  | .agg parts => uptoBulkAll parts + 1
  | .iface _ d => uptoBulk d + 1
  | .map entries => uptoBulkEntries entries + 1
  | .held _ => 1
def uptoBulkAll {H : Type} : List (DataW H) → Nat
  | [] => 0
  | d :: r => uptoBulk d + uptoBulkAll r
def uptoBulkEntries {H : Type} : List (Lit × DataW H) → Nat
  | [] => 0
  | x :: r => uptoBulkEntry x + uptoBulkEntries r
def uptoBulkEntry {H : Type} : Lit × DataW H → Nat
  | (.string bytes, d) => bytes.length + uptoBulk d + 1
  | (_, d) => uptoBulk d + 1
 end
def uptoSmall : (H : Type) → List (DataW H) → Bool := fun _ ds => decide (uptoBulkAll ds ≤ 1048576)
def OpenSpec.upto (s : _root_.Go.ChangeSpec) : _root_.Go.OpenSpec := { _root_.Go.OpenSpec.ofChange s with cond := some uptoSmall }

/-- 'tabulariumlaw17.VaultCloses', WHERE WHAT IT READS IS OF BULK AT MOST 1048576: true; the input reads as it did. -/
def vaultClosesUptoRow : OpenClaim := { program := "ytdfmoafjgocbnaagreat", sum := "1f79d0fd6baf3b23960e0f0043b1821162f08f9642078c6f73faf05c46232e46", func := "tabularium/tabulariumlaw17.VaultCloses", spec := "vaultCloses", inPlace := ["internal/bytealg.Compare"], unfollowed := true, recurses := true, plainKeys := false, apart := false, narrowed := true }
def VaultClosesUptoSaid : Prop := vaultClosesUptoRow.holds Tryz.pinned (OpenSpec.upto vaultClosesSpec)

/-- 'tabulariumlaw31.LeakHosts', WHERE WHAT IT READS IS OF BULK AT MOST 1048576: true; the input reads as it did. -/
def leakHostsUptoRow : OpenClaim := { program := "ytdfmoafjgocbnaagreat", sum := "1f79d0fd6baf3b23960e0f0043b1821162f08f9642078c6f73faf05c46232e46", func := "tabularium/tabulariumlaw31.LeakHosts", spec := "leakHosts", inPlace := ["internal/bytealg.Compare"], unfollowed := true, recurses := true, plainKeys := false, apart := false, narrowed := true }
def LeakHostsUptoSaid : Prop := leakHostsUptoRow.holds Tryz.pinned (OpenSpec.upto leakHostsSpec)

/-- 'tabulariumlaw17.VaultRebuilds', WHERE WHAT IT READS IS OF BULK AT MOST 1048576: true; the input reads as it did. -/
def vaultRebuildsUptoRow : OpenClaim := { program := "ytdfmoafjgocbnaagreat", sum := "1f79d0fd6baf3b23960e0f0043b1821162f08f9642078c6f73faf05c46232e46", func := "tabularium/tabulariumlaw17.VaultRebuilds", spec := "vaultRebuilds", inPlace := ["internal/bytealg.Compare"], unfollowed := true, recurses := true, plainKeys := false, apart := false, narrowed := true }
def VaultRebuildsUptoSaid : Prop := vaultRebuildsUptoRow.holds Tryz.pinned (OpenSpec.upto vaultRebuildsSpec)

/-- 'tabulariumlaw17.VaultAgain', WHERE WHAT IT READS IS OF BULK AT MOST 1048576: true; the input reads as it did. -/
def vaultAgainUptoRow : OpenClaim := { program := "ytdfmoafjgocbnaagreat", sum := "1f79d0fd6baf3b23960e0f0043b1821162f08f9642078c6f73faf05c46232e46", func := "tabularium/tabulariumlaw17.VaultAgain", spec := "vaultAgain", inPlace := ["internal/bytealg.Compare"], unfollowed := true, recurses := true, plainKeys := false, apart := false, narrowed := true }
def VaultAgainUptoSaid : Prop := vaultAgainUptoRow.holds Tryz.pinned (OpenSpec.upto vaultAgainSpec)

/-- 'tabulariumlaw18.KeepNone', WHERE WHAT IT READS IS OF BULK AT MOST 1048576: true; the input reads as it did. -/
def keepNoneUptoRow : OpenClaim := { program := "ytdfmoafjgocbnaagreat", sum := "1f79d0fd6baf3b23960e0f0043b1821162f08f9642078c6f73faf05c46232e46", func := "tabularium/tabulariumlaw18.KeepNone", spec := "keepNone", inPlace := ["internal/bytealg.Compare"], unfollowed := true, recurses := true, plainKeys := false, apart := false, narrowed := true }
def KeepNoneUptoSaid : Prop := keepNoneUptoRow.holds Tryz.pinned (OpenSpec.upto keepNoneSpec)

end Rows
end Go.Proofs.YtdfmoafjgocbnaaGreat
