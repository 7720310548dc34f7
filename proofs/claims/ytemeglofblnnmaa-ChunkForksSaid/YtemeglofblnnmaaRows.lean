/-
  No cell of these rows narrows 'for every input' (looked for: loops, veiled, ifaces, maps, wideKeys, modest, calm, conditions, laid).
  DERIVED. THE GIVEN ROWS OF THIS SEAT. 5 by the template 'for every input the law returns true; each argument reads behind the call as it read before'; 0 by the template 'total and deterministic' (their statements: YtemeglofblnnmaaTotals.lean).
  GIVEN WITH THE SEED: the statements are not yours to turn. If you find one false, say at which input.
  Laid BY PROGRAM, IN A SANDBOX (cutbox-rows.mjs): the forced cells as the released guide's own fill.sh prints them over the translation 35855f81957c9326… (all of the seat's roots in one cut). By AI agents, Wed Nov 11 2026. No macro, syntax, notation, axiom, sorry.
-/
import Derived.Test.YtemeglofblnnmaaChecked
import GoSem.Claim
import GoSem.ClaimJoined
import GoSem.ClaimMapViews
import Derived.JoinedTies
import Derived.KernelRfl
namespace Go.Proofs.Ytemeglofblnnmaa
/- THE CELL 'sum', in the pinned program and in every row, IS THE sha256 OF THE DUMP (.gsa) THAT YtemeglofblnnmaaProg.lean LOADS. Nothing in Lean hashes anything: it is a label: what it is worth is what the hold of that sum in a sandbox is worth. -/
noncomputable def Try.pinned : Pinned := { name := "ytemeglofblnnmaa", sum := "35855f81957c9326f2208a81763f18a4ef73ad7d9ff2071dd5eaef4dd2f9653d", checked := Try.checked }
namespace Rows
def none {H : Type} : Left H := { results := [], args := [] }

/-- 'watchfirelaw31.ChunkSplits': WHATEVER THE INPUT: true; the input reads as it did. -/
def chunkSplitsSpec : ChangeSpec := { name := "chunkSplits", fn := fun _ => fun
  | [d1, d2, d3] => { results := [.lit (.bool true)], args := [d1, d2, d3] }
  | _ => none }
def chunkSplitsRow : OpenClaim := { program := "ytemeglofblnnmaa", sum := "35855f81957c9326f2208a81763f18a4ef73ad7d9ff2071dd5eaef4dd2f9653d", func := "watchfire/watchfirelaw31.ChunkSplits", spec := "chunkSplits", unfollowed := true, recurses := true, apart := false }
def ChunkSplitsSaid : Prop := chunkSplitsRow.holds Try.pinned (OpenSpec.ofChange chunkSplitsSpec)

/-- ITS FALSE NEIGHBOUR: 'it returns false'. Refute it at one input. -/
def chunkSplitsWrong : ChangeSpec := { name := "chunkSplits", fn := fun _ => fun
  | [d1, d2, d3] => { results := [.lit (.bool false)], args := [d1, d2, d3] }
  | _ => none }
def ChunkSplitsWrongFalsely : Prop := chunkSplitsRow.holds Try.pinned (OpenSpec.ofChange chunkSplitsWrong)

/-- 'watchfirelaw31.ChunkApart': WHATEVER THE INPUT: true; the input reads as it did. -/
def chunkApartSpec : ChangeSpec := { name := "chunkApart", fn := fun _ => fun
  | [d1, d2, d3] => { results := [.lit (.bool true)], args := [d1, d2, d3] }
  | _ => none }
def chunkApartRow : OpenClaim := { program := "ytemeglofblnnmaa", sum := "35855f81957c9326f2208a81763f18a4ef73ad7d9ff2071dd5eaef4dd2f9653d", func := "watchfire/watchfirelaw31.ChunkApart", spec := "chunkApart", unfollowed := true, recurses := true, apart := false }
def ChunkApartSaid : Prop := chunkApartRow.holds Try.pinned (OpenSpec.ofChange chunkApartSpec)

/-- ITS FALSE NEIGHBOUR: 'it returns false'. Refute it at one input. -/
def chunkApartWrong : ChangeSpec := { name := "chunkApart", fn := fun _ => fun
  | [d1, d2, d3] => { results := [.lit (.bool false)], args := [d1, d2, d3] }
  | _ => none }
def ChunkApartWrongFalsely : Prop := chunkApartRow.holds Try.pinned (OpenSpec.ofChange chunkApartWrong)

/-- 'watchfirelaw31.ChunkOpen': WHATEVER THE INPUT: true; the input reads as it did. -/
def chunkOpenSpec : ChangeSpec := { name := "chunkOpen", fn := fun _ => fun
  | [d] => { results := [.lit (.bool true)], args := [d] }
  | _ => none }
def chunkOpenRow : OpenClaim := { program := "ytemeglofblnnmaa", sum := "35855f81957c9326f2208a81763f18a4ef73ad7d9ff2071dd5eaef4dd2f9653d", func := "watchfire/watchfirelaw31.ChunkOpen", spec := "chunkOpen", unfollowed := true, recurses := true, apart := false }
def ChunkOpenSaid : Prop := chunkOpenRow.holds Try.pinned (OpenSpec.ofChange chunkOpenSpec)

/-- ITS FALSE NEIGHBOUR: 'it returns false'. Refute it at one input. -/
def chunkOpenWrong : ChangeSpec := { name := "chunkOpen", fn := fun _ => fun
  | [d] => { results := [.lit (.bool false)], args := [d] }
  | _ => none }
def ChunkOpenWrongFalsely : Prop := chunkOpenRow.holds Try.pinned (OpenSpec.ofChange chunkOpenWrong)

/-- 'watchfirelaw31.ChunkJoins': WHATEVER THE INPUT: true; the input reads as it did. -/
def chunkJoinsSpec : ChangeSpec := { name := "chunkJoins", fn := fun _ => fun
  | [d] => { results := [.lit (.bool true)], args := [d] }
  | _ => none }
def chunkJoinsRow : OpenClaim := { program := "ytemeglofblnnmaa", sum := "35855f81957c9326f2208a81763f18a4ef73ad7d9ff2071dd5eaef4dd2f9653d", func := "watchfire/watchfirelaw31.ChunkJoins", spec := "chunkJoins", unfollowed := true, recurses := true, apart := false }
def ChunkJoinsSaid : Prop := chunkJoinsRow.holds Try.pinned (OpenSpec.ofChange chunkJoinsSpec)

/-- ITS FALSE NEIGHBOUR: 'it returns false'. Refute it at one input. -/
def chunkJoinsWrong : ChangeSpec := { name := "chunkJoins", fn := fun _ => fun
  | [d] => { results := [.lit (.bool false)], args := [d] }
  | _ => none }
def ChunkJoinsWrongFalsely : Prop := chunkJoinsRow.holds Try.pinned (OpenSpec.ofChange chunkJoinsWrong)

/-- 'watchfirelaw31.ChunkForks': WHATEVER THE INPUT: true; the input reads as it did. -/
def chunkForksSpec : ChangeSpec := { name := "chunkForks", fn := fun _ => fun
  | [d1, d2] => { results := [.lit (.bool true)], args := [d1, d2] }
  | _ => none }
def chunkForksRow : OpenClaim := { program := "ytemeglofblnnmaa", sum := "35855f81957c9326f2208a81763f18a4ef73ad7d9ff2071dd5eaef4dd2f9653d", func := "watchfire/watchfirelaw31.ChunkForks", spec := "chunkForks", unfollowed := true, recurses := true, apart := false }
def ChunkForksSaid : Prop := chunkForksRow.holds Try.pinned (OpenSpec.ofChange chunkForksSpec)

/-- ITS FALSE NEIGHBOUR: 'it returns false'. Refute it at one input. -/
def chunkForksWrong : ChangeSpec := { name := "chunkForks", fn := fun _ => fun
  | [d1, d2] => { results := [.lit (.bool false)], args := [d1, d2] }
  | _ => none }
def ChunkForksWrongFalsely : Prop := chunkForksRow.holds Try.pinned (OpenSpec.ofChange chunkForksWrong)

/- THE SECOND FORM. 'bulk': how many values and letters a reading holds, each counted each time it is reached (what is shared counts as often as it is met; a slice's spare places count too). A statement '..UptoSaid' is the law's where the arguments, and the package variables that the reading takes, are together of bulk at most 1048576: NARROWER than '..Said'. Prove '..Said' where nothing that the law and all that it calls make is longer than what came in: it says more and counts as full. Else prove '..UptoSaid'. A law counts once. -/
mutual
def uptoBulk {H : Type} : DataW H → Nat
  | .lit (.string bytes) => bytes.length + 1
  | .lit _ => 1
  | .nil => 1
  | .ptr d => uptoBulk d + 1
  | .slice elems spare => uptoBulkAll elems + uptoBulkAll spare + 1
  | .agg parts => uptoBulkAll parts + 1
  | .iface _ d => uptoBulk d + 1
  | .map entries => uptoBulkEntries entries + 1
  | .held _ => 1
def uptoBulkAll {H : Type} : List (DataW H) → Nat
  | [] => 0
  | d :: r => uptoBulk d + uptoBulkAll r
def uptoBulkEntries {H : Type} : List (Lit × DataW H) → Nat
  | [] => 0
  | x :: r => uptoBulkEntry x + uptoBulkEntries r
def uptoBulkEntry {H : Type} : Lit × DataW H → Nat
  | (.string bytes, d) => bytes.length + uptoBulk d + 1
  | (_, d) => uptoBulk d + 1
 end
def uptoSmall : (H : Type) → List (DataW H) → Bool := fun _ ds => decide (uptoBulkAll ds ≤ 1048576)
def OpenSpec.upto (s : _root_.Go.ChangeSpec) : _root_.Go.OpenSpec := { _root_.Go.OpenSpec.ofChange s with cond := some uptoSmall }

/-- 'watchfirelaw31.ChunkSplits', WHERE WHAT IT READS IS OF BULK AT MOST 1048576: true; the input reads as it did. -/
def chunkSplitsUptoRow : OpenClaim := { program := "ytemeglofblnnmaa", sum := "35855f81957c9326f2208a81763f18a4ef73ad7d9ff2071dd5eaef4dd2f9653d", func := "watchfire/watchfirelaw31.ChunkSplits", spec := "chunkSplits", unfollowed := true, recurses := true, apart := false, narrowed := true }
def ChunkSplitsUptoSaid : Prop := chunkSplitsUptoRow.holds Try.pinned (OpenSpec.upto chunkSplitsSpec)

/-- 'watchfirelaw31.ChunkApart', WHERE WHAT IT READS IS OF BULK AT MOST 1048576: true; the input reads as it did. -/
def chunkApartUptoRow : OpenClaim := { program := "ytemeglofblnnmaa", sum := "35855f81957c9326f2208a81763f18a4ef73ad7d9ff2071dd5eaef4dd2f9653d", func := "watchfire/watchfirelaw31.ChunkApart", spec := "chunkApart", unfollowed := true, recurses := true, apart := false, narrowed := true }
def ChunkApartUptoSaid : Prop := chunkApartUptoRow.holds Try.pinned (OpenSpec.upto chunkApartSpec)

/-- 'watchfirelaw31.ChunkOpen', WHERE WHAT IT READS IS OF BULK AT MOST 1048576: true; the input reads as it did. -/
def chunkOpenUptoRow : OpenClaim := { program := "ytemeglofblnnmaa", sum := "35855f81957c9326f2208a81763f18a4ef73ad7d9ff2071dd5eaef4dd2f9653d", func := "watchfire/watchfirelaw31.ChunkOpen", spec := "chunkOpen", unfollowed := true, recurses := true, apart := false, narrowed := true }
def ChunkOpenUptoSaid : Prop := chunkOpenUptoRow.holds Try.pinned (OpenSpec.upto chunkOpenSpec)

/-- 'watchfirelaw31.ChunkJoins', WHERE WHAT IT READS IS OF BULK AT MOST 1048576: true; the input reads as it did. -/
def chunkJoinsUptoRow : OpenClaim := { program := "ytemeglofblnnmaa", sum := "35855f81957c9326f2208a81763f18a4ef73ad7d9ff2071dd5eaef4dd2f9653d", func := "watchfire/watchfirelaw31.ChunkJoins", spec := "chunkJoins", unfollowed := true, recurses := true, apart := false, narrowed := true }
def ChunkJoinsUptoSaid : Prop := chunkJoinsUptoRow.holds Try.pinned (OpenSpec.upto chunkJoinsSpec)

/-- 'watchfirelaw31.ChunkForks', WHERE WHAT IT READS IS OF BULK AT MOST 1048576: true; the input reads as it did. -/
def chunkForksUptoRow : OpenClaim := { program := "ytemeglofblnnmaa", sum := "35855f81957c9326f2208a81763f18a4ef73ad7d9ff2071dd5eaef4dd2f9653d", func := "watchfire/watchfirelaw31.ChunkForks", spec := "chunkForks", unfollowed := true, recurses := true, apart := false, narrowed := true }
def ChunkForksUptoSaid : Prop := chunkForksUptoRow.holds Try.pinned (OpenSpec.upto chunkForksSpec)

end Rows
end Go.Proofs.Ytemeglofblnnmaa
