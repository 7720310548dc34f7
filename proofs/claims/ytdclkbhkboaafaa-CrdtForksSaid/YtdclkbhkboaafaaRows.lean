/-
  No cell of these rows narrows 'for every input' (looked for: loops, veiled, ifaces, maps, wideKeys, modest, calm, conditions, laid).
  DERIVED. THE GIVEN ROWS OF THIS SEAT. 8 by the template 'for every input the law returns true; each argument reads behind the call as it read before'; 0 by the template 'total and deterministic' (their statements: YtdclkbhkboaafaaTotals.lean).
  GIVEN WITH THE SEED: the statements are not yours to turn. If you find one false, say at which input.
  Laid BY PROGRAM, IN A SANDBOX (cutbox-rows.mjs): the forced cells as the released guide's own fill.sh prints them over the translation 24513ae93d250f08… (all of the seat's roots in one cut). By AI agents, Wed Nov 11 2026. No macro, syntax, notation, axiom, sorry.
-/
import Derived.Test.YtdclkbhkboaafaaChecked
import GoSem.Claim
import GoSem.ClaimJoined
import GoSem.ClaimMapViews
import Derived.JoinedTies
import Derived.KernelRfl
namespace Go.Proofs.Ytdclkbhkboaafaa
/- THE CELL 'sum', in the pinned program and in every row, IS THE sha256 OF THE DUMP (.gsa) THAT YtdclkbhkboaafaaProg.lean LOADS. Nothing in Lean hashes anything: it is a label: what it is worth is what the hold of that sum in a sandbox is worth. -/
noncomputable def Try.pinned : Pinned := { name := "ytdclkbhkboaafaa", sum := "24513ae93d250f08fc12b48547ea3aa7fcec5833982e76ab91a96b5ece1665b2", checked := Try.checked }
namespace Rows
def none {H : Type} : Left H := { results := [], args := [] }

/-- 'watchfirelaw10.CrdtPuts': WHATEVER THE INPUT: true; the input reads as it did. -/
def crdtPutsSpec : ChangeSpec := { name := "crdtPuts", fn := fun _ => fun
  | [d] => { results := [.lit (.bool true)], args := [d] }
  | _ => none }
def crdtPutsRow : OpenClaim := { program := "ytdclkbhkboaafaa", sum := "24513ae93d250f08fc12b48547ea3aa7fcec5833982e76ab91a96b5ece1665b2", func := "watchfire/watchfirelaw10.CrdtPuts", spec := "crdtPuts", inPlace := ["internal/bytealg.abigen_runtime_cmpstring"], unfollowed := true, recurses := true, apart := false }
def CrdtPutsSaid : Prop := crdtPutsRow.holds Try.pinned (OpenSpec.ofChange crdtPutsSpec)

/-- ITS FALSE NEIGHBOUR: 'it returns false'. Refute it at one input. -/
def crdtPutsWrong : ChangeSpec := { name := "crdtPuts", fn := fun _ => fun
  | [d] => { results := [.lit (.bool false)], args := [d] }
  | _ => none }
def CrdtPutsWrongFalsely : Prop := crdtPutsRow.holds Try.pinned (OpenSpec.ofChange crdtPutsWrong)

/-- 'watchfirelaw10.CrdtLast': WHATEVER THE INPUT: true; the input reads as it did. -/
def crdtLastSpec : ChangeSpec := { name := "crdtLast", fn := fun _ => fun
  | [d] => { results := [.lit (.bool true)], args := [d] }
  | _ => none }
def crdtLastRow : OpenClaim := { program := "ytdclkbhkboaafaa", sum := "24513ae93d250f08fc12b48547ea3aa7fcec5833982e76ab91a96b5ece1665b2", func := "watchfire/watchfirelaw10.CrdtLast", spec := "crdtLast", inPlace := ["internal/bytealg.abigen_runtime_cmpstring"], unfollowed := true, recurses := true, apart := false }
def CrdtLastSaid : Prop := crdtLastRow.holds Try.pinned (OpenSpec.ofChange crdtLastSpec)

/-- ITS FALSE NEIGHBOUR: 'it returns false'. Refute it at one input. -/
def crdtLastWrong : ChangeSpec := { name := "crdtLast", fn := fun _ => fun
  | [d] => { results := [.lit (.bool false)], args := [d] }
  | _ => none }
def CrdtLastWrongFalsely : Prop := crdtLastRow.holds Try.pinned (OpenSpec.ofChange crdtLastWrong)

/-- 'watchfirelaw10.CrdtOrder': WHATEVER THE INPUT: true; the input reads as it did. -/
def crdtOrderSpec : ChangeSpec := { name := "crdtOrder", fn := fun _ => fun
  | [d1, d2] => { results := [.lit (.bool true)], args := [d1, d2] }
  | _ => none }
def crdtOrderRow : OpenClaim := { program := "ytdclkbhkboaafaa", sum := "24513ae93d250f08fc12b48547ea3aa7fcec5833982e76ab91a96b5ece1665b2", func := "watchfire/watchfirelaw10.CrdtOrder", spec := "crdtOrder", inPlace := ["internal/bytealg.abigen_runtime_cmpstring"], unfollowed := true, recurses := true, apart := false }
def CrdtOrderSaid : Prop := crdtOrderRow.holds Try.pinned (OpenSpec.ofChange crdtOrderSpec)

/-- ITS FALSE NEIGHBOUR: 'it returns false'. Refute it at one input. -/
def crdtOrderWrong : ChangeSpec := { name := "crdtOrder", fn := fun _ => fun
  | [d1, d2] => { results := [.lit (.bool false)], args := [d1, d2] }
  | _ => none }
def CrdtOrderWrongFalsely : Prop := crdtOrderRow.holds Try.pinned (OpenSpec.ofChange crdtOrderWrong)

/-- 'watchfirelaw10.CrdtDelta': WHATEVER THE INPUT: true; the input reads as it did. -/
def crdtDeltaSpec : ChangeSpec := { name := "crdtDelta", fn := fun _ => fun
  | [d1, d2] => { results := [.lit (.bool true)], args := [d1, d2] }
  | _ => none }
def crdtDeltaRow : OpenClaim := { program := "ytdclkbhkboaafaa", sum := "24513ae93d250f08fc12b48547ea3aa7fcec5833982e76ab91a96b5ece1665b2", func := "watchfire/watchfirelaw10.CrdtDelta", spec := "crdtDelta", inPlace := ["internal/bytealg.abigen_runtime_cmpstring"], unfollowed := true, recurses := true, apart := false }
def CrdtDeltaSaid : Prop := crdtDeltaRow.holds Try.pinned (OpenSpec.ofChange crdtDeltaSpec)

/-- ITS FALSE NEIGHBOUR: 'it returns false'. Refute it at one input. -/
def crdtDeltaWrong : ChangeSpec := { name := "crdtDelta", fn := fun _ => fun
  | [d1, d2] => { results := [.lit (.bool false)], args := [d1, d2] }
  | _ => none }
def CrdtDeltaWrongFalsely : Prop := crdtDeltaRow.holds Try.pinned (OpenSpec.ofChange crdtDeltaWrong)

/-- 'watchfirelaw10.CrdtLattice': WHATEVER THE INPUT: true; the input reads as it did. -/
def crdtLatticeSpec : ChangeSpec := { name := "crdtLattice", fn := fun _ => fun
  | [d1, d2, d3] => { results := [.lit (.bool true)], args := [d1, d2, d3] }
  | _ => none }
def crdtLatticeRow : OpenClaim := { program := "ytdclkbhkboaafaa", sum := "24513ae93d250f08fc12b48547ea3aa7fcec5833982e76ab91a96b5ece1665b2", func := "watchfire/watchfirelaw10.CrdtLattice", spec := "crdtLattice", inPlace := ["internal/bytealg.abigen_runtime_cmpstring"], unfollowed := true, recurses := true, apart := false }
def CrdtLatticeSaid : Prop := crdtLatticeRow.holds Try.pinned (OpenSpec.ofChange crdtLatticeSpec)

/-- ITS FALSE NEIGHBOUR: 'it returns false'. Refute it at one input. -/
def crdtLatticeWrong : ChangeSpec := { name := "crdtLattice", fn := fun _ => fun
  | [d1, d2, d3] => { results := [.lit (.bool false)], args := [d1, d2, d3] }
  | _ => none }
def CrdtLatticeWrongFalsely : Prop := crdtLatticeRow.holds Try.pinned (OpenSpec.ofChange crdtLatticeWrong)

/-- 'watchfirelaw10.CrdtLooks': WHATEVER THE INPUT: true; the input reads as it did. -/
def crdtLooksSpec : ChangeSpec := { name := "crdtLooks", fn := fun _ => fun
  | [d1, d2, d3] => { results := [.lit (.bool true)], args := [d1, d2, d3] }
  | _ => none }
def crdtLooksRow : OpenClaim := { program := "ytdclkbhkboaafaa", sum := "24513ae93d250f08fc12b48547ea3aa7fcec5833982e76ab91a96b5ece1665b2", func := "watchfire/watchfirelaw10.CrdtLooks", spec := "crdtLooks", inPlace := ["internal/bytealg.abigen_runtime_cmpstring"], unfollowed := true, recurses := true, apart := false }
def CrdtLooksSaid : Prop := crdtLooksRow.holds Try.pinned (OpenSpec.ofChange crdtLooksSpec)

/-- ITS FALSE NEIGHBOUR: 'it returns false'. Refute it at one input. -/
def crdtLooksWrong : ChangeSpec := { name := "crdtLooks", fn := fun _ => fun
  | [d1, d2, d3] => { results := [.lit (.bool false)], args := [d1, d2, d3] }
  | _ => none }
def CrdtLooksWrongFalsely : Prop := crdtLooksRow.holds Try.pinned (OpenSpec.ofChange crdtLooksWrong)

/-- 'watchfirelaw10.CrdtForks': WHATEVER THE INPUT: true; the input reads as it did. -/
def crdtForksSpec : ChangeSpec := { name := "crdtForks", fn := fun _ => fun
  | [d1, d2, d3] => { results := [.lit (.bool true)], args := [d1, d2, d3] }
  | _ => none }
def crdtForksRow : OpenClaim := { program := "ytdclkbhkboaafaa", sum := "24513ae93d250f08fc12b48547ea3aa7fcec5833982e76ab91a96b5ece1665b2", func := "watchfire/watchfirelaw10.CrdtForks", spec := "crdtForks", inPlace := ["internal/bytealg.abigen_runtime_cmpstring", "maps.clone"], unfollowed := true, recurses := true, apart := false }
def CrdtForksSaid : Prop := crdtForksRow.holds Try.pinned (OpenSpec.ofChange crdtForksSpec)

/-- ITS FALSE NEIGHBOUR: 'it returns false'. Refute it at one input. -/
def crdtForksWrong : ChangeSpec := { name := "crdtForks", fn := fun _ => fun
  | [d1, d2, d3] => { results := [.lit (.bool false)], args := [d1, d2, d3] }
  | _ => none }
def CrdtForksWrongFalsely : Prop := crdtForksRow.holds Try.pinned (OpenSpec.ofChange crdtForksWrong)

/-- 'watchfirelaw10.CrdtViews': WHATEVER THE INPUT: true; the input reads as it did. -/
def crdtViewsSpec : ChangeSpec := { name := "crdtViews", fn := fun _ => fun
  | [d1, d2, d3] => { results := [.lit (.bool true)], args := [d1, d2, d3] }
  | _ => none }
def crdtViewsRow : OpenClaim := { program := "ytdclkbhkboaafaa", sum := "24513ae93d250f08fc12b48547ea3aa7fcec5833982e76ab91a96b5ece1665b2", func := "watchfire/watchfirelaw10.CrdtViews", spec := "crdtViews", inPlace := ["internal/bytealg.abigen_runtime_cmpstring", "maps.clone"], unfollowed := true, recurses := true, apart := false }
def CrdtViewsSaid : Prop := crdtViewsRow.holds Try.pinned (OpenSpec.ofChange crdtViewsSpec)

/-- ITS FALSE NEIGHBOUR: 'it returns false'. Refute it at one input. -/
def crdtViewsWrong : ChangeSpec := { name := "crdtViews", fn := fun _ => fun
  | [d1, d2, d3] => { results := [.lit (.bool false)], args := [d1, d2, d3] }
  | _ => none }
def CrdtViewsWrongFalsely : Prop := crdtViewsRow.holds Try.pinned (OpenSpec.ofChange crdtViewsWrong)

/- THE SECOND FORM. 'bulk': how many values and letters a reading holds, each counted each time it is reached (what is shared counts as often as it is met; a slice's spare places count too). A statement '..UptoSaid' is the law's where the arguments, and the package variables that the reading takes, are together of bulk at most 1048576: NARROWER than '..Said'. Prove '..Said' where nothing that the law and all that it calls make is longer than what came in: it says more and counts as full. Else prove '..UptoSaid'. A law counts once. -/
mutual
def uptoBulk {H : Type} : DataW H → Nat
  | .lit (.string bytes) => bytes.length + 1
  | .lit _ => 1
  | .nil => 1
  | .ptr d => uptoBulk d + 1
  | .slice elems spare => uptoBulkAll elems + uptoBulkAll spare + 1
  | .agg parts => uptoBulkAll parts + 1
  | .iface _ d => uptoBulk d + 1
  | .map entries => uptoBulkEntries entries + 1
  | .held _ => 1
def uptoBulkAll {H : Type} : List (DataW H) → Nat
  | [] => 0
  | d :: r => uptoBulk d + uptoBulkAll r
def uptoBulkEntries {H : Type} : List (Lit × DataW H) → Nat
  | [] => 0
  | x :: r => uptoBulkEntry x + uptoBulkEntries r
def uptoBulkEntry {H : Type} : Lit × DataW H → Nat
  | (.string bytes, d) => bytes.length + uptoBulk d + 1
  | (_, d) => uptoBulk d + 1
 end
def uptoSmall : (H : Type) → List (DataW H) → Bool := fun _ ds => decide (uptoBulkAll ds ≤ 1048576)
def OpenSpec.upto (s : _root_.Go.ChangeSpec) : _root_.Go.OpenSpec := { _root_.Go.OpenSpec.ofChange s with cond := some uptoSmall }

/-- 'watchfirelaw10.CrdtPuts', WHERE WHAT IT READS IS OF BULK AT MOST 1048576: true; the input reads as it did. -/
def crdtPutsUptoRow : OpenClaim := { program := "ytdclkbhkboaafaa", sum := "24513ae93d250f08fc12b48547ea3aa7fcec5833982e76ab91a96b5ece1665b2", func := "watchfire/watchfirelaw10.CrdtPuts", spec := "crdtPuts", inPlace := ["internal/bytealg.abigen_runtime_cmpstring"], unfollowed := true, recurses := true, apart := false, narrowed := true }
def CrdtPutsUptoSaid : Prop := crdtPutsUptoRow.holds Try.pinned (OpenSpec.upto crdtPutsSpec)

/-- 'watchfirelaw10.CrdtLast', WHERE WHAT IT READS IS OF BULK AT MOST 1048576: true; the input reads as it did. -/
def crdtLastUptoRow : OpenClaim := { program := "ytdclkbhkboaafaa", sum := "24513ae93d250f08fc12b48547ea3aa7fcec5833982e76ab91a96b5ece1665b2", func := "watchfire/watchfirelaw10.CrdtLast", spec := "crdtLast", inPlace := ["internal/bytealg.abigen_runtime_cmpstring"], unfollowed := true, recurses := true, apart := false, narrowed := true }
def CrdtLastUptoSaid : Prop := crdtLastUptoRow.holds Try.pinned (OpenSpec.upto crdtLastSpec)

/-- 'watchfirelaw10.CrdtOrder', WHERE WHAT IT READS IS OF BULK AT MOST 1048576: true; the input reads as it did. -/
def crdtOrderUptoRow : OpenClaim := { program := "ytdclkbhkboaafaa", sum := "24513ae93d250f08fc12b48547ea3aa7fcec5833982e76ab91a96b5ece1665b2", func := "watchfire/watchfirelaw10.CrdtOrder", spec := "crdtOrder", inPlace := ["internal/bytealg.abigen_runtime_cmpstring"], unfollowed := true, recurses := true, apart := false, narrowed := true }
def CrdtOrderUptoSaid : Prop := crdtOrderUptoRow.holds Try.pinned (OpenSpec.upto crdtOrderSpec)

/-- 'watchfirelaw10.CrdtDelta', WHERE WHAT IT READS IS OF BULK AT MOST 1048576: true; the input reads as it did. -/
def crdtDeltaUptoRow : OpenClaim := { program := "ytdclkbhkboaafaa", sum := "24513ae93d250f08fc12b48547ea3aa7fcec5833982e76ab91a96b5ece1665b2", func := "watchfire/watchfirelaw10.CrdtDelta", spec := "crdtDelta", inPlace := ["internal/bytealg.abigen_runtime_cmpstring"], unfollowed := true, recurses := true, apart := false, narrowed := true }
def CrdtDeltaUptoSaid : Prop := crdtDeltaUptoRow.holds Try.pinned (OpenSpec.upto crdtDeltaSpec)

/-- 'watchfirelaw10.CrdtLattice', WHERE WHAT IT READS IS OF BULK AT MOST 1048576: true; the input reads as it did. -/
def crdtLatticeUptoRow : OpenClaim := { program := "ytdclkbhkboaafaa", sum := "24513ae93d250f08fc12b48547ea3aa7fcec5833982e76ab91a96b5ece1665b2", func := "watchfire/watchfirelaw10.CrdtLattice", spec := "crdtLattice", inPlace := ["internal/bytealg.abigen_runtime_cmpstring"], unfollowed := true, recurses := true, apart := false, narrowed := true }
def CrdtLatticeUptoSaid : Prop := crdtLatticeUptoRow.holds Try.pinned (OpenSpec.upto crdtLatticeSpec)

/-- 'watchfirelaw10.CrdtLooks', WHERE WHAT IT READS IS OF BULK AT MOST 1048576: true; the input reads as it did. -/
def crdtLooksUptoRow : OpenClaim := { program := "ytdclkbhkboaafaa", sum := "24513ae93d250f08fc12b48547ea3aa7fcec5833982e76ab91a96b5ece1665b2", func := "watchfire/watchfirelaw10.CrdtLooks", spec := "crdtLooks", inPlace := ["internal/bytealg.abigen_runtime_cmpstring"], unfollowed := true, recurses := true, apart := false, narrowed := true }
def CrdtLooksUptoSaid : Prop := crdtLooksUptoRow.holds Try.pinned (OpenSpec.upto crdtLooksSpec)

/-- 'watchfirelaw10.CrdtForks', WHERE WHAT IT READS IS OF BULK AT MOST 1048576: true; the input reads as it did. -/
def crdtForksUptoRow : OpenClaim := { program := "ytdclkbhkboaafaa", sum := "24513ae93d250f08fc12b48547ea3aa7fcec5833982e76ab91a96b5ece1665b2", func := "watchfire/watchfirelaw10.CrdtForks", spec := "crdtForks", inPlace := ["internal/bytealg.abigen_runtime_cmpstring", "maps.clone"], unfollowed := true, recurses := true, apart := false, narrowed := true }
def CrdtForksUptoSaid : Prop := crdtForksUptoRow.holds Try.pinned (OpenSpec.upto crdtForksSpec)

/-- 'watchfirelaw10.CrdtViews', WHERE WHAT IT READS IS OF BULK AT MOST 1048576: true; the input reads as it did. -/
def crdtViewsUptoRow : OpenClaim := { program := "ytdclkbhkboaafaa", sum := "24513ae93d250f08fc12b48547ea3aa7fcec5833982e76ab91a96b5ece1665b2", func := "watchfire/watchfirelaw10.CrdtViews", spec := "crdtViews", inPlace := ["internal/bytealg.abigen_runtime_cmpstring", "maps.clone"], unfollowed := true, recurses := true, apart := false, narrowed := true }
def CrdtViewsUptoSaid : Prop := crdtViewsUptoRow.holds Try.pinned (OpenSpec.upto crdtViewsSpec)

end Rows
end Go.Proofs.Ytdclkbhkboaafaa
