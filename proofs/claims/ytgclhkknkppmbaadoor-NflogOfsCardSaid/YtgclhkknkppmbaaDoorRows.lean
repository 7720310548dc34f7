/-
  NARROWER THAN 'FOR EVERY INPUT', by the rows' own cells (each row's printed sentence says how): EntryOrder: laid · EntryLater: laid · EntryAbove: laid · NflogEntries: laid · NflogNeeds: laid · NflogKeys: laid · NflogWaits: laid · NflogCalm: laid · EntryBack: laid · NflogOfs: laid · NflogBack: laid.
  DERIVED. THE GIVEN ROWS OF THIS SEAT. 11 by the template 'for every input the law returns true; each argument reads behind the call as it read before'; 0 by the template 'total and deterministic' (their statements: YtgclhkknkppmbaaDoorTotals.lean).
  GIVEN WITH THE SEED: the statements are not yours to turn. If you find one false, say at which input.
  Laid BY PROGRAM, IN A SANDBOX (cutbox-rows.mjs): the forced cells as the released guide's own fill.sh prints them over the translation 0a27951a6a874ce2… (all of the seat's roots in one cut). By AI agents, Wed Nov 11 2026. No macro, syntax, notation, axiom, sorry.
-/
import Derived.Test.YtgclhkknkppmbaaDoorChecked
import GoSem.Claim
import GoSem.ClaimJoined
import GoSem.ClaimMapViews
import Derived.JoinedTies
import Derived.KernelRfl
namespace Go.Proofs.YtgclhkknkppmbaaDoor
/- THE CELL 'sum', in the pinned program and in every row, IS THE sha256 OF THE DUMP (.gsa) THAT YtgclhkknkppmbaaDoorProg.lean LOADS. Nothing in Lean hashes anything: it is a label: what it is worth is what the hold of that sum in a sandbox is worth. -/
noncomputable def Tryd.pinned : Pinned := { name := "ytgclhkknkppmbaadoor", sum := "0a27951a6a874ce20b510b575c087792a5d2a0ffef3712a46faf3054eaaaf96a", checked := Tryd.checked }
namespace Rows
def none {H : Type} : Left H := { results := [], args := [] }

/- WHAT THE LISTED PACKAGE-LEVEL VARIABLES READ AS WHEN THE CALL BEGINS. Each datum BY PROGRAM (the guide's laid-datum.mjs) off the statement by which the dump's own 'gosem.cut.vars' lays the variable. In a bare row this is a premise. The card (YtgclhkknkppmbaaDoorCards.lean) ties it to the program's text. -/
def laid_math_bits_deBruijn32tab {H : Type} : DataW H := .agg [.lit (.int .u8 0), .lit (.int .u8 1), .lit (.int .u8 28), .lit (.int .u8 2), .lit (.int .u8 29), .lit (.int .u8 14), .lit (.int .u8 24), .lit (.int .u8 3), .lit (.int .u8 30), .lit (.int .u8 22), .lit (.int .u8 20), .lit (.int .u8 15), .lit (.int .u8 25), .lit (.int .u8 17), .lit (.int .u8 4), .lit (.int .u8 8), .lit (.int .u8 31), .lit (.int .u8 27), .lit (.int .u8 13), .lit (.int .u8 23), .lit (.int .u8 21), .lit (.int .u8 19), .lit (.int .u8 16), .lit (.int .u8 7), .lit (.int .u8 26), .lit (.int .u8 12), .lit (.int .u8 18), .lit (.int .u8 6), .lit (.int .u8 11), .lit (.int .u8 5), .lit (.int .u8 10), .lit (.int .u8 9)]
def laid_math_bits_deBruijn64tab {H : Type} : DataW H := .agg [.lit (.int .u8 0), .lit (.int .u8 1), .lit (.int .u8 56), .lit (.int .u8 2), .lit (.int .u8 57), .lit (.int .u8 49), .lit (.int .u8 28), .lit (.int .u8 3), .lit (.int .u8 61), .lit (.int .u8 58), .lit (.int .u8 42), .lit (.int .u8 50), .lit (.int .u8 38), .lit (.int .u8 29), .lit (.int .u8 17), .lit (.int .u8 4), .lit (.int .u8 62), .lit (.int .u8 47), .lit (.int .u8 59), .lit (.int .u8 36), .lit (.int .u8 45), .lit (.int .u8 43), .lit (.int .u8 51), .lit (.int .u8 22), .lit (.int .u8 53), .lit (.int .u8 39), .lit (.int .u8 33), .lit (.int .u8 30), .lit (.int .u8 24), .lit (.int .u8 18), .lit (.int .u8 12), .lit (.int .u8 5), .lit (.int .u8 63), .lit (.int .u8 55), .lit (.int .u8 48), .lit (.int .u8 27), .lit (.int .u8 60), .lit (.int .u8 41), .lit (.int .u8 37), .lit (.int .u8 16), .lit (.int .u8 46), .lit (.int .u8 35), .lit (.int .u8 44), .lit (.int .u8 21), .lit (.int .u8 52), .lit (.int .u8 32), .lit (.int .u8 23), .lit (.int .u8 11), .lit (.int .u8 54), .lit (.int .u8 26), .lit (.int .u8 40), .lit (.int .u8 15), .lit (.int .u8 34), .lit (.int .u8 20), .lit (.int .u8 31), .lit (.int .u8 10), .lit (.int .u8 25), .lit (.int .u8 14), .lit (.int .u8 19), .lit (.int .u8 9), .lit (.int .u8 13), .lit (.int .u8 8), .lit (.int .u8 7), .lit (.int .u8 6)]
def laid_internal_strconv_uint64pow10 {H : Type} : DataW H := .agg [.lit (.int .u64 1), .lit (.int .u64 10), .lit (.int .u64 100), .lit (.int .u64 1000), .lit (.int .u64 10000), .lit (.int .u64 100000), .lit (.int .u64 1000000), .lit (.int .u64 10000000), .lit (.int .u64 100000000), .lit (.int .u64 1000000000), .lit (.int .u64 10000000000), .lit (.int .u64 100000000000), .lit (.int .u64 1000000000000), .lit (.int .u64 10000000000000), .lit (.int .u64 100000000000000), .lit (.int .u64 1000000000000000), .lit (.int .u64 10000000000000000), .lit (.int .u64 100000000000000000), .lit (.int .u64 1000000000000000000), .lit (.int .u64 10000000000000000000)]
def laid_strconv_ErrRange {H : Type} : DataW H := .iface "*errors.errorString" (.ptr (.agg [.lit (.string [118, 97, 108, 117, 101, 32, 111, 117, 116, 32, 111, 102, 32, 114, 97, 110, 103, 101])]))
def laid_strconv_ErrSyntax {H : Type} : DataW H := .iface "*errors.errorString" (.ptr (.agg [.lit (.string [105, 110, 118, 97, 108, 105, 100, 32, 115, 121, 110, 116, 97, 120])]))

/-- 'watchfirelaw09.EntryOrder': WHATEVER THE INPUT: true; the input reads as it did. -/
def entryOrderSpec : ChangeSpec := { name := "entryOrder", fn := fun _ => fun
  | [d1, d2, d3] => { results := [.lit (.bool true)], args := [d1, d2, d3] }
  | _ => none }
def entryOrderRow : OpenClaim := { program := "ytgclhkknkppmbaadoor", sum := "0a27951a6a874ce20b510b575c087792a5d2a0ffef3712a46faf3054eaaaf96a", func := "watchfire/watchfirelaw09.EntryOrder", spec := "entryOrder", inPlace := ["internal/bytealg.abigen_runtime_cmpstring"], named := ["internal/strconv.uint64pow10", "math/bits.deBruijn32tab", "math/bits.deBruijn64tab"], apart := false, laid := [("math/bits.deBruijn32tab", laid_math_bits_deBruijn32tab), ("math/bits.deBruijn64tab", laid_math_bits_deBruijn64tab), ("internal/strconv.uint64pow10", laid_internal_strconv_uint64pow10)] }
def EntryOrderSaid : Prop := entryOrderRow.holds Tryd.pinned (OpenSpec.ofChange entryOrderSpec)

/-- ITS FALSE NEIGHBOUR: 'it returns false'. Refute it at one input. -/
def entryOrderWrong : ChangeSpec := { name := "entryOrder", fn := fun _ => fun
  | [d1, d2, d3] => { results := [.lit (.bool false)], args := [d1, d2, d3] }
  | _ => none }
def EntryOrderWrongFalsely : Prop := entryOrderRow.holds Tryd.pinned (OpenSpec.ofChange entryOrderWrong)

/-- 'watchfirelaw09.EntryLater': WHATEVER THE INPUT: true; the input reads as it did. -/
def entryLaterSpec : ChangeSpec := { name := "entryLater", fn := fun _ => fun
  | [d1, d2, d3] => { results := [.lit (.bool true)], args := [d1, d2, d3] }
  | _ => none }
def entryLaterRow : OpenClaim := { program := "ytgclhkknkppmbaadoor", sum := "0a27951a6a874ce20b510b575c087792a5d2a0ffef3712a46faf3054eaaaf96a", func := "watchfire/watchfirelaw09.EntryLater", spec := "entryLater", inPlace := ["internal/bytealg.abigen_runtime_cmpstring"], named := ["internal/strconv.uint64pow10", "math/bits.deBruijn32tab", "math/bits.deBruijn64tab"], apart := false, laid := [("math/bits.deBruijn32tab", laid_math_bits_deBruijn32tab), ("math/bits.deBruijn64tab", laid_math_bits_deBruijn64tab), ("internal/strconv.uint64pow10", laid_internal_strconv_uint64pow10)] }
def EntryLaterSaid : Prop := entryLaterRow.holds Tryd.pinned (OpenSpec.ofChange entryLaterSpec)

/-- ITS FALSE NEIGHBOUR: 'it returns false'. Refute it at one input. -/
def entryLaterWrong : ChangeSpec := { name := "entryLater", fn := fun _ => fun
  | [d1, d2, d3] => { results := [.lit (.bool false)], args := [d1, d2, d3] }
  | _ => none }
def EntryLaterWrongFalsely : Prop := entryLaterRow.holds Tryd.pinned (OpenSpec.ofChange entryLaterWrong)

/-- 'watchfirelaw09.EntryAbove': WHATEVER THE INPUT: true; the input reads as it did. -/
def entryAboveSpec : ChangeSpec := { name := "entryAbove", fn := fun _ => fun
  | [d1, d2, d3] => { results := [.lit (.bool true)], args := [d1, d2, d3] }
  | _ => none }
def entryAboveRow : OpenClaim := { program := "ytgclhkknkppmbaadoor", sum := "0a27951a6a874ce20b510b575c087792a5d2a0ffef3712a46faf3054eaaaf96a", func := "watchfire/watchfirelaw09.EntryAbove", spec := "entryAbove", inPlace := ["internal/bytealg.abigen_runtime_cmpstring"], named := ["internal/strconv.uint64pow10", "math/bits.deBruijn32tab", "math/bits.deBruijn64tab"], apart := false, laid := [("math/bits.deBruijn32tab", laid_math_bits_deBruijn32tab), ("math/bits.deBruijn64tab", laid_math_bits_deBruijn64tab), ("internal/strconv.uint64pow10", laid_internal_strconv_uint64pow10)] }
def EntryAboveSaid : Prop := entryAboveRow.holds Tryd.pinned (OpenSpec.ofChange entryAboveSpec)

/-- ITS FALSE NEIGHBOUR: 'it returns false'. Refute it at one input. -/
def entryAboveWrong : ChangeSpec := { name := "entryAbove", fn := fun _ => fun
  | [d1, d2, d3] => { results := [.lit (.bool false)], args := [d1, d2, d3] }
  | _ => none }
def EntryAboveWrongFalsely : Prop := entryAboveRow.holds Tryd.pinned (OpenSpec.ofChange entryAboveWrong)

/-- 'watchfirelaw12.NflogEntries': WHATEVER THE INPUT: true; the input reads as it did. -/
def nflogEntriesSpec : ChangeSpec := { name := "nflogEntries", fn := fun _ => fun
  | [d1, d2, d3] => { results := [.lit (.bool true)], args := [d1, d2, d3] }
  | _ => none }
def nflogEntriesRow : OpenClaim := { program := "ytgclhkknkppmbaadoor", sum := "0a27951a6a874ce20b510b575c087792a5d2a0ffef3712a46faf3054eaaaf96a", func := "watchfire/watchfirelaw12.NflogEntries", spec := "nflogEntries", named := ["internal/strconv.uint64pow10", "math/bits.deBruijn32tab", "math/bits.deBruijn64tab", "strconv.ErrSyntax", "strconv.ErrRange"], apart := false, laid := [("math/bits.deBruijn32tab", laid_math_bits_deBruijn32tab), ("math/bits.deBruijn64tab", laid_math_bits_deBruijn64tab), ("internal/strconv.uint64pow10", laid_internal_strconv_uint64pow10), ("strconv.ErrRange", laid_strconv_ErrRange), ("strconv.ErrSyntax", laid_strconv_ErrSyntax)] }
def NflogEntriesSaid : Prop := nflogEntriesRow.holds Tryd.pinned (OpenSpec.ofChange nflogEntriesSpec)

/-- ITS FALSE NEIGHBOUR: 'it returns false'. Refute it at one input. -/
def nflogEntriesWrong : ChangeSpec := { name := "nflogEntries", fn := fun _ => fun
  | [d1, d2, d3] => { results := [.lit (.bool false)], args := [d1, d2, d3] }
  | _ => none }
def NflogEntriesWrongFalsely : Prop := nflogEntriesRow.holds Tryd.pinned (OpenSpec.ofChange nflogEntriesWrong)

/-- 'watchfirelaw12.NflogNeeds': WHATEVER THE INPUT: true; the input reads as it did. -/
def nflogNeedsSpec : ChangeSpec := { name := "nflogNeeds", fn := fun _ => fun
  | [d1, d2, d3] => { results := [.lit (.bool true)], args := [d1, d2, d3] }
  | _ => none }
def nflogNeedsRow : OpenClaim := { program := "ytgclhkknkppmbaadoor", sum := "0a27951a6a874ce20b510b575c087792a5d2a0ffef3712a46faf3054eaaaf96a", func := "watchfire/watchfirelaw12.NflogNeeds", spec := "nflogNeeds", named := ["internal/strconv.uint64pow10", "math/bits.deBruijn32tab", "math/bits.deBruijn64tab", "strconv.ErrSyntax", "strconv.ErrRange"], apart := false, laid := [("math/bits.deBruijn32tab", laid_math_bits_deBruijn32tab), ("math/bits.deBruijn64tab", laid_math_bits_deBruijn64tab), ("internal/strconv.uint64pow10", laid_internal_strconv_uint64pow10), ("strconv.ErrRange", laid_strconv_ErrRange), ("strconv.ErrSyntax", laid_strconv_ErrSyntax)] }
def NflogNeedsSaid : Prop := nflogNeedsRow.holds Tryd.pinned (OpenSpec.ofChange nflogNeedsSpec)

/-- ITS FALSE NEIGHBOUR: 'it returns false'. Refute it at one input. -/
def nflogNeedsWrong : ChangeSpec := { name := "nflogNeeds", fn := fun _ => fun
  | [d1, d2, d3] => { results := [.lit (.bool false)], args := [d1, d2, d3] }
  | _ => none }
def NflogNeedsWrongFalsely : Prop := nflogNeedsRow.holds Tryd.pinned (OpenSpec.ofChange nflogNeedsWrong)

/-- 'watchfirelaw12.NflogKeys': WHATEVER THE INPUT: true; the input reads as it did. -/
def nflogKeysSpec : ChangeSpec := { name := "nflogKeys", fn := fun _ => fun
  | [d1, d2] => { results := [.lit (.bool true)], args := [d1, d2] }
  | _ => none }
def nflogKeysRow : OpenClaim := { program := "ytgclhkknkppmbaadoor", sum := "0a27951a6a874ce20b510b575c087792a5d2a0ffef3712a46faf3054eaaaf96a", func := "watchfire/watchfirelaw12.NflogKeys", spec := "nflogKeys", named := ["internal/strconv.uint64pow10", "math/bits.deBruijn32tab", "math/bits.deBruijn64tab", "strconv.ErrSyntax", "strconv.ErrRange"], apart := false, laid := [("math/bits.deBruijn32tab", laid_math_bits_deBruijn32tab), ("math/bits.deBruijn64tab", laid_math_bits_deBruijn64tab), ("internal/strconv.uint64pow10", laid_internal_strconv_uint64pow10), ("strconv.ErrRange", laid_strconv_ErrRange), ("strconv.ErrSyntax", laid_strconv_ErrSyntax)] }
def NflogKeysSaid : Prop := nflogKeysRow.holds Tryd.pinned (OpenSpec.ofChange nflogKeysSpec)

/-- ITS FALSE NEIGHBOUR: 'it returns false'. Refute it at one input. -/
def nflogKeysWrong : ChangeSpec := { name := "nflogKeys", fn := fun _ => fun
  | [d1, d2] => { results := [.lit (.bool false)], args := [d1, d2] }
  | _ => none }
def NflogKeysWrongFalsely : Prop := nflogKeysRow.holds Tryd.pinned (OpenSpec.ofChange nflogKeysWrong)

/-- 'watchfirelaw12.NflogWaits': WHATEVER THE INPUT: true; the input reads as it did. -/
def nflogWaitsSpec : ChangeSpec := { name := "nflogWaits", fn := fun _ => fun
  | [d1, d2, d3] => { results := [.lit (.bool true)], args := [d1, d2, d3] }
  | _ => none }
def nflogWaitsRow : OpenClaim := { program := "ytgclhkknkppmbaadoor", sum := "0a27951a6a874ce20b510b575c087792a5d2a0ffef3712a46faf3054eaaaf96a", func := "watchfire/watchfirelaw12.NflogWaits", spec := "nflogWaits", named := ["internal/strconv.uint64pow10", "math/bits.deBruijn32tab", "math/bits.deBruijn64tab", "strconv.ErrSyntax", "strconv.ErrRange"], apart := false, laid := [("math/bits.deBruijn32tab", laid_math_bits_deBruijn32tab), ("math/bits.deBruijn64tab", laid_math_bits_deBruijn64tab), ("internal/strconv.uint64pow10", laid_internal_strconv_uint64pow10), ("strconv.ErrRange", laid_strconv_ErrRange), ("strconv.ErrSyntax", laid_strconv_ErrSyntax)] }
def NflogWaitsSaid : Prop := nflogWaitsRow.holds Tryd.pinned (OpenSpec.ofChange nflogWaitsSpec)

/-- ITS FALSE NEIGHBOUR: 'it returns false'. Refute it at one input. -/
def nflogWaitsWrong : ChangeSpec := { name := "nflogWaits", fn := fun _ => fun
  | [d1, d2, d3] => { results := [.lit (.bool false)], args := [d1, d2, d3] }
  | _ => none }
def NflogWaitsWrongFalsely : Prop := nflogWaitsRow.holds Tryd.pinned (OpenSpec.ofChange nflogWaitsWrong)

/-- 'watchfirelaw12.NflogCalm': WHATEVER THE INPUT: true; the input reads as it did. -/
def nflogCalmSpec : ChangeSpec := { name := "nflogCalm", fn := fun _ => fun
  | [d1, d2, d3] => { results := [.lit (.bool true)], args := [d1, d2, d3] }
  | _ => none }
def nflogCalmRow : OpenClaim := { program := "ytgclhkknkppmbaadoor", sum := "0a27951a6a874ce20b510b575c087792a5d2a0ffef3712a46faf3054eaaaf96a", func := "watchfire/watchfirelaw12.NflogCalm", spec := "nflogCalm", named := ["internal/strconv.uint64pow10", "math/bits.deBruijn32tab", "math/bits.deBruijn64tab", "strconv.ErrSyntax", "strconv.ErrRange"], apart := false, laid := [("math/bits.deBruijn32tab", laid_math_bits_deBruijn32tab), ("math/bits.deBruijn64tab", laid_math_bits_deBruijn64tab), ("internal/strconv.uint64pow10", laid_internal_strconv_uint64pow10), ("strconv.ErrRange", laid_strconv_ErrRange), ("strconv.ErrSyntax", laid_strconv_ErrSyntax)] }
def NflogCalmSaid : Prop := nflogCalmRow.holds Tryd.pinned (OpenSpec.ofChange nflogCalmSpec)

/-- ITS FALSE NEIGHBOUR: 'it returns false'. Refute it at one input. -/
def nflogCalmWrong : ChangeSpec := { name := "nflogCalm", fn := fun _ => fun
  | [d1, d2, d3] => { results := [.lit (.bool false)], args := [d1, d2, d3] }
  | _ => none }
def NflogCalmWrongFalsely : Prop := nflogCalmRow.holds Tryd.pinned (OpenSpec.ofChange nflogCalmWrong)

/-- 'watchfirelaw09.EntryBack': WHATEVER THE INPUT: true; the input reads as it did. -/
def entryBackSpec : ChangeSpec := { name := "entryBack", fn := fun _ => fun
  | [d1, d2] => { results := [.lit (.bool true)], args := [d1, d2] }
  | _ => none }
def entryBackRow : OpenClaim := { program := "ytgclhkknkppmbaadoor", sum := "0a27951a6a874ce20b510b575c087792a5d2a0ffef3712a46faf3054eaaaf96a", func := "watchfire/watchfirelaw09.EntryBack", spec := "entryBack", inPlace := ["internal/bytealg.abigen_runtime_cmpstring"], named := ["internal/strconv.uint64pow10", "math/bits.deBruijn32tab", "math/bits.deBruijn64tab", "strconv.ErrSyntax", "strconv.ErrRange"], apart := false, laid := [("math/bits.deBruijn32tab", laid_math_bits_deBruijn32tab), ("math/bits.deBruijn64tab", laid_math_bits_deBruijn64tab), ("internal/strconv.uint64pow10", laid_internal_strconv_uint64pow10), ("strconv.ErrRange", laid_strconv_ErrRange), ("strconv.ErrSyntax", laid_strconv_ErrSyntax)] }
def EntryBackSaid : Prop := entryBackRow.holds Tryd.pinned (OpenSpec.ofChange entryBackSpec)

/-- ITS FALSE NEIGHBOUR: 'it returns false'. Refute it at one input. -/
def entryBackWrong : ChangeSpec := { name := "entryBack", fn := fun _ => fun
  | [d1, d2] => { results := [.lit (.bool false)], args := [d1, d2] }
  | _ => none }
def EntryBackWrongFalsely : Prop := entryBackRow.holds Tryd.pinned (OpenSpec.ofChange entryBackWrong)

/-- 'watchfirelaw12.NflogOfs': WHATEVER THE INPUT: true; the input reads as it did. -/
def nflogOfsSpec : ChangeSpec := { name := "nflogOfs", fn := fun _ => fun
  | [d] => { results := [.lit (.bool true)], args := [d] }
  | _ => none }
def nflogOfsRow : OpenClaim := { program := "ytgclhkknkppmbaadoor", sum := "0a27951a6a874ce20b510b575c087792a5d2a0ffef3712a46faf3054eaaaf96a", func := "watchfire/watchfirelaw12.NflogOfs", spec := "nflogOfs", named := ["internal/strconv.uint64pow10", "math/bits.deBruijn32tab", "math/bits.deBruijn64tab", "strconv.ErrSyntax", "strconv.ErrRange"], apart := false, laid := [("math/bits.deBruijn32tab", laid_math_bits_deBruijn32tab), ("math/bits.deBruijn64tab", laid_math_bits_deBruijn64tab), ("internal/strconv.uint64pow10", laid_internal_strconv_uint64pow10), ("strconv.ErrRange", laid_strconv_ErrRange), ("strconv.ErrSyntax", laid_strconv_ErrSyntax)] }
def NflogOfsSaid : Prop := nflogOfsRow.holds Tryd.pinned (OpenSpec.ofChange nflogOfsSpec)

/-- ITS FALSE NEIGHBOUR: 'it returns false'. Refute it at one input. -/
def nflogOfsWrong : ChangeSpec := { name := "nflogOfs", fn := fun _ => fun
  | [d] => { results := [.lit (.bool false)], args := [d] }
  | _ => none }
def NflogOfsWrongFalsely : Prop := nflogOfsRow.holds Tryd.pinned (OpenSpec.ofChange nflogOfsWrong)

/-- 'watchfirelaw12.NflogBack': WHATEVER THE INPUT: true; the input reads as it did. -/
def nflogBackSpec : ChangeSpec := { name := "nflogBack", fn := fun _ => fun
  | [d1, d2, d3] => { results := [.lit (.bool true)], args := [d1, d2, d3] }
  | _ => none }
def nflogBackRow : OpenClaim := { program := "ytgclhkknkppmbaadoor", sum := "0a27951a6a874ce20b510b575c087792a5d2a0ffef3712a46faf3054eaaaf96a", func := "watchfire/watchfirelaw12.NflogBack", spec := "nflogBack", named := ["internal/strconv.uint64pow10", "math/bits.deBruijn32tab", "math/bits.deBruijn64tab", "strconv.ErrSyntax", "strconv.ErrRange"], apart := false, laid := [("math/bits.deBruijn32tab", laid_math_bits_deBruijn32tab), ("math/bits.deBruijn64tab", laid_math_bits_deBruijn64tab), ("internal/strconv.uint64pow10", laid_internal_strconv_uint64pow10), ("strconv.ErrRange", laid_strconv_ErrRange), ("strconv.ErrSyntax", laid_strconv_ErrSyntax)] }
def NflogBackSaid : Prop := nflogBackRow.holds Tryd.pinned (OpenSpec.ofChange nflogBackSpec)

/-- ITS FALSE NEIGHBOUR: 'it returns false'. Refute it at one input. -/
def nflogBackWrong : ChangeSpec := { name := "nflogBack", fn := fun _ => fun
  | [d1, d2, d3] => { results := [.lit (.bool false)], args := [d1, d2, d3] }
  | _ => none }
def NflogBackWrongFalsely : Prop := nflogBackRow.holds Tryd.pinned (OpenSpec.ofChange nflogBackWrong)

/- THE SECOND FORM. 'bulk': how many values and letters a reading holds, each counted each time it is reached (what is shared counts as often as it is met; a slice's spare places count too). A statement '..UptoSaid' is the law's where the arguments, and the package variables that the reading takes, are together of bulk at most 1048576: NARROWER than '..Said'. Prove '..Said' where nothing that the law and all that it calls make is longer than what came in: it says more and counts as full. Else prove '..UptoSaid'. A law counts once. -/
mutual
def uptoBulk {H : Type} : DataW H → Nat
  | .lit (.string bytes) => bytes.length + 1
  | .lit _ => 1
  | .nil => 1
  | .ptr d => uptoBulk d + 1
  | .slice elems spare => uptoBulkAll elems + uptoBulkAll spare + 1
  | .agg parts => uptoBulkAll parts + 1
  | .iface _ d => uptoBulk d + 1
  | .map entries => uptoBulkEntries entries + 1
  | .held _ => 1
def uptoBulkAll {H : Type} : List (DataW H) → Nat
  | [] => 0
  | d :: r => uptoBulk d + uptoBulkAll r
def uptoBulkEntries {H : Type} : List (Lit × DataW H) → Nat
  | [] => 0
  | x :: r => uptoBulkEntry x + uptoBulkEntries r
def uptoBulkEntry {H : Type} : Lit × DataW H → Nat
  | (.string bytes, d) => bytes.length + uptoBulk d + 1
  | (_, d) => uptoBulk d + 1
 end
def uptoSmall : (H : Type) → List (DataW H) → Bool := fun _ ds => decide (uptoBulkAll ds ≤ 1048576)
def OpenSpec.upto (s : _root_.Go.ChangeSpec) : _root_.Go.OpenSpec := { _root_.Go.OpenSpec.ofChange s with cond := some uptoSmall }

/-- 'watchfirelaw09.EntryOrder', WHERE WHAT IT READS IS OF BULK AT MOST 1048576: true; the input reads as it did. -/
def entryOrderUptoRow : OpenClaim := { program := "ytgclhkknkppmbaadoor", sum := "0a27951a6a874ce20b510b575c087792a5d2a0ffef3712a46faf3054eaaaf96a", func := "watchfire/watchfirelaw09.EntryOrder", spec := "entryOrder", inPlace := ["internal/bytealg.abigen_runtime_cmpstring"], named := ["internal/strconv.uint64pow10", "math/bits.deBruijn32tab", "math/bits.deBruijn64tab"], apart := false, laid := [("math/bits.deBruijn32tab", laid_math_bits_deBruijn32tab), ("math/bits.deBruijn64tab", laid_math_bits_deBruijn64tab), ("internal/strconv.uint64pow10", laid_internal_strconv_uint64pow10)], narrowed := true }
def EntryOrderUptoSaid : Prop := entryOrderUptoRow.holds Tryd.pinned (OpenSpec.upto entryOrderSpec)

/-- 'watchfirelaw09.EntryLater', WHERE WHAT IT READS IS OF BULK AT MOST 1048576: true; the input reads as it did. -/
def entryLaterUptoRow : OpenClaim := { program := "ytgclhkknkppmbaadoor", sum := "0a27951a6a874ce20b510b575c087792a5d2a0ffef3712a46faf3054eaaaf96a", func := "watchfire/watchfirelaw09.EntryLater", spec := "entryLater", inPlace := ["internal/bytealg.abigen_runtime_cmpstring"], named := ["internal/strconv.uint64pow10", "math/bits.deBruijn32tab", "math/bits.deBruijn64tab"], apart := false, laid := [("math/bits.deBruijn32tab", laid_math_bits_deBruijn32tab), ("math/bits.deBruijn64tab", laid_math_bits_deBruijn64tab), ("internal/strconv.uint64pow10", laid_internal_strconv_uint64pow10)], narrowed := true }
def EntryLaterUptoSaid : Prop := entryLaterUptoRow.holds Tryd.pinned (OpenSpec.upto entryLaterSpec)

/-- 'watchfirelaw09.EntryAbove', WHERE WHAT IT READS IS OF BULK AT MOST 1048576: true; the input reads as it did. -/
def entryAboveUptoRow : OpenClaim := { program := "ytgclhkknkppmbaadoor", sum := "0a27951a6a874ce20b510b575c087792a5d2a0ffef3712a46faf3054eaaaf96a", func := "watchfire/watchfirelaw09.EntryAbove", spec := "entryAbove", inPlace := ["internal/bytealg.abigen_runtime_cmpstring"], named := ["internal/strconv.uint64pow10", "math/bits.deBruijn32tab", "math/bits.deBruijn64tab"], apart := false, laid := [("math/bits.deBruijn32tab", laid_math_bits_deBruijn32tab), ("math/bits.deBruijn64tab", laid_math_bits_deBruijn64tab), ("internal/strconv.uint64pow10", laid_internal_strconv_uint64pow10)], narrowed := true }
def EntryAboveUptoSaid : Prop := entryAboveUptoRow.holds Tryd.pinned (OpenSpec.upto entryAboveSpec)

/-- 'watchfirelaw12.NflogEntries', WHERE WHAT IT READS IS OF BULK AT MOST 1048576: true; the input reads as it did. -/
def nflogEntriesUptoRow : OpenClaim := { program := "ytgclhkknkppmbaadoor", sum := "0a27951a6a874ce20b510b575c087792a5d2a0ffef3712a46faf3054eaaaf96a", func := "watchfire/watchfirelaw12.NflogEntries", spec := "nflogEntries", named := ["internal/strconv.uint64pow10", "math/bits.deBruijn32tab", "math/bits.deBruijn64tab", "strconv.ErrSyntax", "strconv.ErrRange"], apart := false, laid := [("math/bits.deBruijn32tab", laid_math_bits_deBruijn32tab), ("math/bits.deBruijn64tab", laid_math_bits_deBruijn64tab), ("internal/strconv.uint64pow10", laid_internal_strconv_uint64pow10), ("strconv.ErrRange", laid_strconv_ErrRange), ("strconv.ErrSyntax", laid_strconv_ErrSyntax)], narrowed := true }
def NflogEntriesUptoSaid : Prop := nflogEntriesUptoRow.holds Tryd.pinned (OpenSpec.upto nflogEntriesSpec)

/-- 'watchfirelaw12.NflogNeeds', WHERE WHAT IT READS IS OF BULK AT MOST 1048576: true; the input reads as it did. -/
def nflogNeedsUptoRow : OpenClaim := { program := "ytgclhkknkppmbaadoor", sum := "0a27951a6a874ce20b510b575c087792a5d2a0ffef3712a46faf3054eaaaf96a", func := "watchfire/watchfirelaw12.NflogNeeds", spec := "nflogNeeds", named := ["internal/strconv.uint64pow10", "math/bits.deBruijn32tab", "math/bits.deBruijn64tab", "strconv.ErrSyntax", "strconv.ErrRange"], apart := false, laid := [("math/bits.deBruijn32tab", laid_math_bits_deBruijn32tab), ("math/bits.deBruijn64tab", laid_math_bits_deBruijn64tab), ("internal/strconv.uint64pow10", laid_internal_strconv_uint64pow10), ("strconv.ErrRange", laid_strconv_ErrRange), ("strconv.ErrSyntax", laid_strconv_ErrSyntax)], narrowed := true }
def NflogNeedsUptoSaid : Prop := nflogNeedsUptoRow.holds Tryd.pinned (OpenSpec.upto nflogNeedsSpec)

/-- 'watchfirelaw12.NflogKeys', WHERE WHAT IT READS IS OF BULK AT MOST 1048576: true; the input reads as it did. -/
def nflogKeysUptoRow : OpenClaim := { program := "ytgclhkknkppmbaadoor", sum := "0a27951a6a874ce20b510b575c087792a5d2a0ffef3712a46faf3054eaaaf96a", func := "watchfire/watchfirelaw12.NflogKeys", spec := "nflogKeys", named := ["internal/strconv.uint64pow10", "math/bits.deBruijn32tab", "math/bits.deBruijn64tab", "strconv.ErrSyntax", "strconv.ErrRange"], apart := false, laid := [("math/bits.deBruijn32tab", laid_math_bits_deBruijn32tab), ("math/bits.deBruijn64tab", laid_math_bits_deBruijn64tab), ("internal/strconv.uint64pow10", laid_internal_strconv_uint64pow10), ("strconv.ErrRange", laid_strconv_ErrRange), ("strconv.ErrSyntax", laid_strconv_ErrSyntax)], narrowed := true }
def NflogKeysUptoSaid : Prop := nflogKeysUptoRow.holds Tryd.pinned (OpenSpec.upto nflogKeysSpec)

/-- 'watchfirelaw12.NflogWaits', WHERE WHAT IT READS IS OF BULK AT MOST 1048576: true; the input reads as it did. -/
def nflogWaitsUptoRow : OpenClaim := { program := "ytgclhkknkppmbaadoor", sum := "0a27951a6a874ce20b510b575c087792a5d2a0ffef3712a46faf3054eaaaf96a", func := "watchfire/watchfirelaw12.NflogWaits", spec := "nflogWaits", named := ["internal/strconv.uint64pow10", "math/bits.deBruijn32tab", "math/bits.deBruijn64tab", "strconv.ErrSyntax", "strconv.ErrRange"], apart := false, laid := [("math/bits.deBruijn32tab", laid_math_bits_deBruijn32tab), ("math/bits.deBruijn64tab", laid_math_bits_deBruijn64tab), ("internal/strconv.uint64pow10", laid_internal_strconv_uint64pow10), ("strconv.ErrRange", laid_strconv_ErrRange), ("strconv.ErrSyntax", laid_strconv_ErrSyntax)], narrowed := true }
def NflogWaitsUptoSaid : Prop := nflogWaitsUptoRow.holds Tryd.pinned (OpenSpec.upto nflogWaitsSpec)

/-- 'watchfirelaw12.NflogCalm', WHERE WHAT IT READS IS OF BULK AT MOST 1048576: true; the input reads as it did. -/
def nflogCalmUptoRow : OpenClaim := { program := "ytgclhkknkppmbaadoor", sum := "0a27951a6a874ce20b510b575c087792a5d2a0ffef3712a46faf3054eaaaf96a", func := "watchfire/watchfirelaw12.NflogCalm", spec := "nflogCalm", named := ["internal/strconv.uint64pow10", "math/bits.deBruijn32tab", "math/bits.deBruijn64tab", "strconv.ErrSyntax", "strconv.ErrRange"], apart := false, laid := [("math/bits.deBruijn32tab", laid_math_bits_deBruijn32tab), ("math/bits.deBruijn64tab", laid_math_bits_deBruijn64tab), ("internal/strconv.uint64pow10", laid_internal_strconv_uint64pow10), ("strconv.ErrRange", laid_strconv_ErrRange), ("strconv.ErrSyntax", laid_strconv_ErrSyntax)], narrowed := true }
def NflogCalmUptoSaid : Prop := nflogCalmUptoRow.holds Tryd.pinned (OpenSpec.upto nflogCalmSpec)

/-- 'watchfirelaw09.EntryBack', WHERE WHAT IT READS IS OF BULK AT MOST 1048576: true; the input reads as it did. -/
def entryBackUptoRow : OpenClaim := { program := "ytgclhkknkppmbaadoor", sum := "0a27951a6a874ce20b510b575c087792a5d2a0ffef3712a46faf3054eaaaf96a", func := "watchfire/watchfirelaw09.EntryBack", spec := "entryBack", inPlace := ["internal/bytealg.abigen_runtime_cmpstring"], named := ["internal/strconv.uint64pow10", "math/bits.deBruijn32tab", "math/bits.deBruijn64tab", "strconv.ErrSyntax", "strconv.ErrRange"], apart := false, laid := [("math/bits.deBruijn32tab", laid_math_bits_deBruijn32tab), ("math/bits.deBruijn64tab", laid_math_bits_deBruijn64tab), ("internal/strconv.uint64pow10", laid_internal_strconv_uint64pow10), ("strconv.ErrRange", laid_strconv_ErrRange), ("strconv.ErrSyntax", laid_strconv_ErrSyntax)], narrowed := true }
def EntryBackUptoSaid : Prop := entryBackUptoRow.holds Tryd.pinned (OpenSpec.upto entryBackSpec)

/-- 'watchfirelaw12.NflogOfs', WHERE WHAT IT READS IS OF BULK AT MOST 1048576: true; the input reads as it did. -/
def nflogOfsUptoRow : OpenClaim := { program := "ytgclhkknkppmbaadoor", sum := "0a27951a6a874ce20b510b575c087792a5d2a0ffef3712a46faf3054eaaaf96a", func := "watchfire/watchfirelaw12.NflogOfs", spec := "nflogOfs", named := ["internal/strconv.uint64pow10", "math/bits.deBruijn32tab", "math/bits.deBruijn64tab", "strconv.ErrSyntax", "strconv.ErrRange"], apart := false, laid := [("math/bits.deBruijn32tab", laid_math_bits_deBruijn32tab), ("math/bits.deBruijn64tab", laid_math_bits_deBruijn64tab), ("internal/strconv.uint64pow10", laid_internal_strconv_uint64pow10), ("strconv.ErrRange", laid_strconv_ErrRange), ("strconv.ErrSyntax", laid_strconv_ErrSyntax)], narrowed := true }
def NflogOfsUptoSaid : Prop := nflogOfsUptoRow.holds Tryd.pinned (OpenSpec.upto nflogOfsSpec)

/-- 'watchfirelaw12.NflogBack', WHERE WHAT IT READS IS OF BULK AT MOST 1048576: true; the input reads as it did. -/
def nflogBackUptoRow : OpenClaim := { program := "ytgclhkknkppmbaadoor", sum := "0a27951a6a874ce20b510b575c087792a5d2a0ffef3712a46faf3054eaaaf96a", func := "watchfire/watchfirelaw12.NflogBack", spec := "nflogBack", named := ["internal/strconv.uint64pow10", "math/bits.deBruijn32tab", "math/bits.deBruijn64tab", "strconv.ErrSyntax", "strconv.ErrRange"], apart := false, laid := [("math/bits.deBruijn32tab", laid_math_bits_deBruijn32tab), ("math/bits.deBruijn64tab", laid_math_bits_deBruijn64tab), ("internal/strconv.uint64pow10", laid_internal_strconv_uint64pow10), ("strconv.ErrRange", laid_strconv_ErrRange), ("strconv.ErrSyntax", laid_strconv_ErrSyntax)], narrowed := true }
def NflogBackUptoSaid : Prop := nflogBackUptoRow.holds Tryd.pinned (OpenSpec.upto nflogBackSpec)

end Rows
end Go.Proofs.YtgclhkknkppmbaaDoor
