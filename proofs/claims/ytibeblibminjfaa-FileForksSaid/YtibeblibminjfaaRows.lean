/-
  No cell of these rows narrows 'for every input' (looked for: loops, veiled, ifaces, maps, wideKeys, modest, calm, conditions, laid).
  DERIVED. THE GIVEN ROWS OF THIS SEAT. 6 by the template 'for every input the law returns true; each argument reads behind the call as it read before'; 0 by the template 'total and deterministic' (their statements: YtibeblibminjfaaTotals.lean).
  GIVEN WITH THE SEED: the statements are not yours to turn. If you find one false, say at which input.
  Laid BY PROGRAM, IN A SANDBOX (cutbox-rows.mjs): the forced cells as the released guide's own fill.sh prints them over the translation b4a8f61caff85761… (all of the seat's roots in one cut). By AI agents, Wed Nov 11 2026. No macro, syntax, notation, axiom, sorry.
-/
import Derived.Test.YtibeblibminjfaaChecked
import GoSem.Claim
import GoSem.ClaimJoined
import GoSem.ClaimMapViews
import Derived.JoinedTies
import Derived.KernelRfl
namespace Go.Proofs.Ytibeblibminjfaa
/- THE CELL 'sum', in the pinned program and in every row, IS THE sha256 OF THE DUMP (.gsa) THAT YtibeblibminjfaaProg.lean LOADS. Nothing in Lean hashes anything: it is a label: what it is worth is what the hold of that sum in a sandbox is worth. -/
noncomputable def Try.pinned : Pinned := { name := "ytibeblibminjfaa", sum := "b4a8f61caff85761bf773e7841afa39a28d1abc0cfdd886ee7bdf9b2041a19ce", checked := Try.checked }
namespace Rows
def none {H : Type} : Left H := { results := [], args := [] }

/-- 'watchfirelaw17.FileSafe': WHATEVER THE INPUT: true; the input reads as it did. -/
def fileSafeSpec : ChangeSpec := { name := "fileSafe", fn := fun _ => fun
  | [d1, d2, d3] => { results := [.lit (.bool true)], args := [d1, d2, d3] }
  | _ => none }
def fileSafeRow : OpenClaim := { program := "ytibeblibminjfaa", sum := "b4a8f61caff85761bf773e7841afa39a28d1abc0cfdd886ee7bdf9b2041a19ce", func := "watchfire/watchfirelaw17.FileSafe", spec := "fileSafe", unfollowed := true, recurses := true, apart := false }
def FileSafeSaid : Prop := fileSafeRow.holds Try.pinned (OpenSpec.ofChange fileSafeSpec)

/-- ITS FALSE NEIGHBOUR: 'it returns false'. Refute it at one input. -/
def fileSafeWrong : ChangeSpec := { name := "fileSafe", fn := fun _ => fun
  | [d1, d2, d3] => { results := [.lit (.bool false)], args := [d1, d2, d3] }
  | _ => none }
def FileSafeWrongFalsely : Prop := fileSafeRow.holds Try.pinned (OpenSpec.ofChange fileSafeWrong)

/-- 'watchfirelaw17.FileSwaps': WHATEVER THE INPUT: true; the input reads as it did. -/
def fileSwapsSpec : ChangeSpec := { name := "fileSwaps", fn := fun _ => fun
  | [d1, d2, d3] => { results := [.lit (.bool true)], args := [d1, d2, d3] }
  | _ => none }
def fileSwapsRow : OpenClaim := { program := "ytibeblibminjfaa", sum := "b4a8f61caff85761bf773e7841afa39a28d1abc0cfdd886ee7bdf9b2041a19ce", func := "watchfire/watchfirelaw17.FileSwaps", spec := "fileSwaps", unfollowed := true, recurses := true, apart := false }
def FileSwapsSaid : Prop := fileSwapsRow.holds Try.pinned (OpenSpec.ofChange fileSwapsSpec)

/-- ITS FALSE NEIGHBOUR: 'it returns false'. Refute it at one input. -/
def fileSwapsWrong : ChangeSpec := { name := "fileSwaps", fn := fun _ => fun
  | [d1, d2, d3] => { results := [.lit (.bool false)], args := [d1, d2, d3] }
  | _ => none }
def FileSwapsWrongFalsely : Prop := fileSwapsRow.holds Try.pinned (OpenSpec.ofChange fileSwapsWrong)

/-- 'watchfirelaw17.FileCuts': WHATEVER THE INPUT: true; the input reads as it did. -/
def fileCutsSpec : ChangeSpec := { name := "fileCuts", fn := fun _ => fun
  | [d1, d2, d3] => { results := [.lit (.bool true)], args := [d1, d2, d3] }
  | _ => none }
def fileCutsRow : OpenClaim := { program := "ytibeblibminjfaa", sum := "b4a8f61caff85761bf773e7841afa39a28d1abc0cfdd886ee7bdf9b2041a19ce", func := "watchfire/watchfirelaw17.FileCuts", spec := "fileCuts", unfollowed := true, recurses := true, apart := false }
def FileCutsSaid : Prop := fileCutsRow.holds Try.pinned (OpenSpec.ofChange fileCutsSpec)

/-- ITS FALSE NEIGHBOUR: 'it returns false'. Refute it at one input. -/
def fileCutsWrong : ChangeSpec := { name := "fileCuts", fn := fun _ => fun
  | [d1, d2, d3] => { results := [.lit (.bool false)], args := [d1, d2, d3] }
  | _ => none }
def FileCutsWrongFalsely : Prop := fileCutsRow.holds Try.pinned (OpenSpec.ofChange fileCutsWrong)

/-- 'watchfirelaw17.FileFulls': WHATEVER THE INPUT: true; the input reads as it did. -/
def fileFullsSpec : ChangeSpec := { name := "fileFulls", fn := fun _ => fun
  | [d1, d2] => { results := [.lit (.bool true)], args := [d1, d2] }
  | _ => none }
def fileFullsRow : OpenClaim := { program := "ytibeblibminjfaa", sum := "b4a8f61caff85761bf773e7841afa39a28d1abc0cfdd886ee7bdf9b2041a19ce", func := "watchfire/watchfirelaw17.FileFulls", spec := "fileFulls", unfollowed := true, recurses := true, apart := false }
def FileFullsSaid : Prop := fileFullsRow.holds Try.pinned (OpenSpec.ofChange fileFullsSpec)

/-- ITS FALSE NEIGHBOUR: 'it returns false'. Refute it at one input. -/
def fileFullsWrong : ChangeSpec := { name := "fileFulls", fn := fun _ => fun
  | [d1, d2] => { results := [.lit (.bool false)], args := [d1, d2] }
  | _ => none }
def FileFullsWrongFalsely : Prop := fileFullsRow.holds Try.pinned (OpenSpec.ofChange fileFullsWrong)

/-- 'watchfirelaw17.FilePlays': WHATEVER THE INPUT: true; the input reads as it did. -/
def filePlaysSpec : ChangeSpec := { name := "filePlays", fn := fun _ => fun
  | [d1, d2] => { results := [.lit (.bool true)], args := [d1, d2] }
  | _ => none }
def filePlaysRow : OpenClaim := { program := "ytibeblibminjfaa", sum := "b4a8f61caff85761bf773e7841afa39a28d1abc0cfdd886ee7bdf9b2041a19ce", func := "watchfire/watchfirelaw17.FilePlays", spec := "filePlays", unfollowed := true, recurses := true, apart := false }
def FilePlaysSaid : Prop := filePlaysRow.holds Try.pinned (OpenSpec.ofChange filePlaysSpec)

/-- ITS FALSE NEIGHBOUR: 'it returns false'. Refute it at one input. -/
def filePlaysWrong : ChangeSpec := { name := "filePlays", fn := fun _ => fun
  | [d1, d2] => { results := [.lit (.bool false)], args := [d1, d2] }
  | _ => none }
def FilePlaysWrongFalsely : Prop := filePlaysRow.holds Try.pinned (OpenSpec.ofChange filePlaysWrong)

/-- 'watchfirelaw17.FileForks': WHATEVER THE INPUT: true; the input reads as it did. -/
def fileForksSpec : ChangeSpec := { name := "fileForks", fn := fun _ => fun
  | [d1, d2] => { results := [.lit (.bool true)], args := [d1, d2] }
  | _ => none }
def fileForksRow : OpenClaim := { program := "ytibeblibminjfaa", sum := "b4a8f61caff85761bf773e7841afa39a28d1abc0cfdd886ee7bdf9b2041a19ce", func := "watchfire/watchfirelaw17.FileForks", spec := "fileForks", unfollowed := true, recurses := true, apart := false }
def FileForksSaid : Prop := fileForksRow.holds Try.pinned (OpenSpec.ofChange fileForksSpec)

/-- ITS FALSE NEIGHBOUR: 'it returns false'. Refute it at one input. -/
def fileForksWrong : ChangeSpec := { name := "fileForks", fn := fun _ => fun
  | [d1, d2] => { results := [.lit (.bool false)], args := [d1, d2] }
  | _ => none }
def FileForksWrongFalsely : Prop := fileForksRow.holds Try.pinned (OpenSpec.ofChange fileForksWrong)

/- THE SECOND FORM. 'bulk': how many values and letters a reading holds, each counted each time it is reached (what is shared counts as often as it is met; a slice's spare places count too). A statement '..UptoSaid' is the law's where the arguments, and the package variables that the reading takes, are together of bulk at most 1048576: NARROWER than '..Said'. Prove '..Said' where nothing that the law and all that it calls make is longer than what came in: it says more and counts as full. Else prove '..UptoSaid'. A law counts once. -/
mutual
def uptoBulk {H : Type} : DataW H → Nat
  | .lit (.string bytes) => bytes.length + 1
  | .lit _ => 1
  | .nil => 1
  | .ptr d => uptoBulk d + 1
  | .slice elems spare => uptoBulkAll elems + uptoBulkAll spare + 1
  | .agg parts => uptoBulkAll parts + 1
  | .iface _ d => uptoBulk d + 1
  | .map entries => uptoBulkEntries entries + 1
  | .held _ => 1
def uptoBulkAll {H : Type} : List (DataW H) → Nat
  | [] => 0
  | d :: r => uptoBulk d + uptoBulkAll r
def uptoBulkEntries {H : Type} : List (Lit × DataW H) → Nat
  | [] => 0
  | x :: r => uptoBulkEntry x + uptoBulkEntries r
def uptoBulkEntry {H : Type} : Lit × DataW H → Nat
  | (.string bytes, d) => bytes.length + uptoBulk d + 1
  | (_, d) => uptoBulk d + 1
 end
def uptoSmall : (H : Type) → List (DataW H) → Bool := fun _ ds => decide (uptoBulkAll ds ≤ 1048576)
def OpenSpec.upto (s : _root_.Go.ChangeSpec) : _root_.Go.OpenSpec := { _root_.Go.OpenSpec.ofChange s with cond := some uptoSmall }

/-- 'watchfirelaw17.FileSafe', WHERE WHAT IT READS IS OF BULK AT MOST 1048576: true; the input reads as it did. -/
def fileSafeUptoRow : OpenClaim := { program := "ytibeblibminjfaa", sum := "b4a8f61caff85761bf773e7841afa39a28d1abc0cfdd886ee7bdf9b2041a19ce", func := "watchfire/watchfirelaw17.FileSafe", spec := "fileSafe", unfollowed := true, recurses := true, apart := false, narrowed := true }
def FileSafeUptoSaid : Prop := fileSafeUptoRow.holds Try.pinned (OpenSpec.upto fileSafeSpec)

/-- 'watchfirelaw17.FileSwaps', WHERE WHAT IT READS IS OF BULK AT MOST 1048576: true; the input reads as it did. -/
def fileSwapsUptoRow : OpenClaim := { program := "ytibeblibminjfaa", sum := "b4a8f61caff85761bf773e7841afa39a28d1abc0cfdd886ee7bdf9b2041a19ce", func := "watchfire/watchfirelaw17.FileSwaps", spec := "fileSwaps", unfollowed := true, recurses := true, apart := false, narrowed := true }
def FileSwapsUptoSaid : Prop := fileSwapsUptoRow.holds Try.pinned (OpenSpec.upto fileSwapsSpec)

/-- 'watchfirelaw17.FileCuts', WHERE WHAT IT READS IS OF BULK AT MOST 1048576: true; the input reads as it did. -/
def fileCutsUptoRow : OpenClaim := { program := "ytibeblibminjfaa", sum := "b4a8f61caff85761bf773e7841afa39a28d1abc0cfdd886ee7bdf9b2041a19ce", func := "watchfire/watchfirelaw17.FileCuts", spec := "fileCuts", unfollowed := true, recurses := true, apart := false, narrowed := true }
def FileCutsUptoSaid : Prop := fileCutsUptoRow.holds Try.pinned (OpenSpec.upto fileCutsSpec)

/-- 'watchfirelaw17.FileFulls', WHERE WHAT IT READS IS OF BULK AT MOST 1048576: true; the input reads as it did. -/
def fileFullsUptoRow : OpenClaim := { program := "ytibeblibminjfaa", sum := "b4a8f61caff85761bf773e7841afa39a28d1abc0cfdd886ee7bdf9b2041a19ce", func := "watchfire/watchfirelaw17.FileFulls", spec := "fileFulls", unfollowed := true, recurses := true, apart := false, narrowed := true }
def FileFullsUptoSaid : Prop := fileFullsUptoRow.holds Try.pinned (OpenSpec.upto fileFullsSpec)

/-- 'watchfirelaw17.FilePlays', WHERE WHAT IT READS IS OF BULK AT MOST 1048576: true; the input reads as it did. -/
def filePlaysUptoRow : OpenClaim := { program := "ytibeblibminjfaa", sum := "b4a8f61caff85761bf773e7841afa39a28d1abc0cfdd886ee7bdf9b2041a19ce", func := "watchfire/watchfirelaw17.FilePlays", spec := "filePlays", unfollowed := true, recurses := true, apart := false, narrowed := true }
def FilePlaysUptoSaid : Prop := filePlaysUptoRow.holds Try.pinned (OpenSpec.upto filePlaysSpec)

/-- 'watchfirelaw17.FileForks', WHERE WHAT IT READS IS OF BULK AT MOST 1048576: true; the input reads as it did. -/
def fileForksUptoRow : OpenClaim := { program := "ytibeblibminjfaa", sum := "b4a8f61caff85761bf773e7841afa39a28d1abc0cfdd886ee7bdf9b2041a19ce", func := "watchfire/watchfirelaw17.FileForks", spec := "fileForks", unfollowed := true, recurses := true, apart := false, narrowed := true }
def FileForksUptoSaid : Prop := fileForksUptoRow.holds Try.pinned (OpenSpec.upto fileForksSpec)

end Rows
end Go.Proofs.Ytibeblibminjfaa
