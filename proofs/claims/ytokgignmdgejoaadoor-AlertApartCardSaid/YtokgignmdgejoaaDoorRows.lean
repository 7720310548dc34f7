/-
  NARROWER THAN 'FOR EVERY INPUT', by the rows' own cells (each row's printed sentence says how): AlertFires: laid · AlertPlays: laid · AlertDrops: laid · AlertApart: laid · AlertForks: laid · AlertGets: laid.
  DERIVED. THE GIVEN ROWS OF THIS SEAT. 6 by the template 'for every input the law returns true; each argument reads behind the call as it read before'; 0 by the template 'total and deterministic' (their statements: YtokgignmdgejoaaDoorTotals.lean).
  GIVEN WITH THE SEED: the statements are not yours to turn. If you find one false, say at which input.
  Laid BY PROGRAM, IN A SANDBOX (cutbox-rows.mjs): the forced cells as the released guide's own fill.sh prints them over the translation 9f8eb0e5b7c4d148… (all of the seat's roots in one cut). By AI agents, Wed Nov 11 2026. No macro, syntax, notation, axiom, sorry.
-/
import Derived.Test.YtokgignmdgejoaaDoorChecked
import GoSem.Claim
import GoSem.ClaimJoined
import GoSem.ClaimMapViews
import Derived.JoinedTies
import Derived.KernelRfl
namespace Go.Proofs.YtokgignmdgejoaaDoor
/- THE CELL 'sum', in the pinned program and in every row, IS THE sha256 OF THE DUMP (.gsa) THAT YtokgignmdgejoaaDoorProg.lean LOADS. Nothing in Lean hashes anything: it is a label: what it is worth is what the hold of that sum in a sandbox is worth. -/
noncomputable def Tryd.pinned : Pinned := { name := "ytokgignmdgejoaadoor", sum := "9f8eb0e5b7c4d14894e9f14a8d8ce6c22d438fbe9bd289fde5ec733a9e11a0db", checked := Tryd.checked }
namespace Rows
def none {H : Type} : Left H := { results := [], args := [] }

/- WHAT THE LISTED PACKAGE-LEVEL VARIABLES READ AS WHEN THE CALL BEGINS. Each datum BY PROGRAM (the guide's laid-datum.mjs) off the statement by which the dump's own 'gosem.cut.vars' lays the variable. In a bare row this is a premise. The card (YtokgignmdgejoaaDoorCards.lean) ties it to the program's text. -/
def laid_math_bits_deBruijn32tab {H : Type} : DataW H := .agg [.lit (.int .u8 0), .lit (.int .u8 1), .lit (.int .u8 28), .lit (.int .u8 2), .lit (.int .u8 29), .lit (.int .u8 14), .lit (.int .u8 24), .lit (.int .u8 3), .lit (.int .u8 30), .lit (.int .u8 22), .lit (.int .u8 20), .lit (.int .u8 15), .lit (.int .u8 25), .lit (.int .u8 17), .lit (.int .u8 4), .lit (.int .u8 8), .lit (.int .u8 31), .lit (.int .u8 27), .lit (.int .u8 13), .lit (.int .u8 23), .lit (.int .u8 21), .lit (.int .u8 19), .lit (.int .u8 16), .lit (.int .u8 7), .lit (.int .u8 26), .lit (.int .u8 12), .lit (.int .u8 18), .lit (.int .u8 6), .lit (.int .u8 11), .lit (.int .u8 5), .lit (.int .u8 10), .lit (.int .u8 9)]
def laid_math_bits_deBruijn64tab {H : Type} : DataW H := .agg [.lit (.int .u8 0), .lit (.int .u8 1), .lit (.int .u8 56), .lit (.int .u8 2), .lit (.int .u8 57), .lit (.int .u8 49), .lit (.int .u8 28), .lit (.int .u8 3), .lit (.int .u8 61), .lit (.int .u8 58), .lit (.int .u8 42), .lit (.int .u8 50), .lit (.int .u8 38), .lit (.int .u8 29), .lit (.int .u8 17), .lit (.int .u8 4), .lit (.int .u8 62), .lit (.int .u8 47), .lit (.int .u8 59), .lit (.int .u8 36), .lit (.int .u8 45), .lit (.int .u8 43), .lit (.int .u8 51), .lit (.int .u8 22), .lit (.int .u8 53), .lit (.int .u8 39), .lit (.int .u8 33), .lit (.int .u8 30), .lit (.int .u8 24), .lit (.int .u8 18), .lit (.int .u8 12), .lit (.int .u8 5), .lit (.int .u8 63), .lit (.int .u8 55), .lit (.int .u8 48), .lit (.int .u8 27), .lit (.int .u8 60), .lit (.int .u8 41), .lit (.int .u8 37), .lit (.int .u8 16), .lit (.int .u8 46), .lit (.int .u8 35), .lit (.int .u8 44), .lit (.int .u8 21), .lit (.int .u8 52), .lit (.int .u8 32), .lit (.int .u8 23), .lit (.int .u8 11), .lit (.int .u8 54), .lit (.int .u8 26), .lit (.int .u8 40), .lit (.int .u8 15), .lit (.int .u8 34), .lit (.int .u8 20), .lit (.int .u8 31), .lit (.int .u8 10), .lit (.int .u8 25), .lit (.int .u8 14), .lit (.int .u8 19), .lit (.int .u8 9), .lit (.int .u8 13), .lit (.int .u8 8), .lit (.int .u8 7), .lit (.int .u8 6)]
def laid_internal_strconv_uint64pow10 {H : Type} : DataW H := .agg [.lit (.int .u64 1), .lit (.int .u64 10), .lit (.int .u64 100), .lit (.int .u64 1000), .lit (.int .u64 10000), .lit (.int .u64 100000), .lit (.int .u64 1000000), .lit (.int .u64 10000000), .lit (.int .u64 100000000), .lit (.int .u64 1000000000), .lit (.int .u64 10000000000), .lit (.int .u64 100000000000), .lit (.int .u64 1000000000000), .lit (.int .u64 10000000000000), .lit (.int .u64 100000000000000), .lit (.int .u64 1000000000000000), .lit (.int .u64 10000000000000000), .lit (.int .u64 100000000000000000), .lit (.int .u64 1000000000000000000), .lit (.int .u64 10000000000000000000)]

/-- 'watchfirelaw07.AlertFires': WHATEVER THE INPUT: true; the input reads as it did. -/
def alertFiresSpec : ChangeSpec := { name := "alertFires", fn := fun _ => fun
  | [d1, d2] => { results := [.lit (.bool true)], args := [d1, d2] }
  | _ => none }
def alertFiresRow : OpenClaim := { program := "ytokgignmdgejoaadoor", sum := "9f8eb0e5b7c4d14894e9f14a8d8ce6c22d438fbe9bd289fde5ec733a9e11a0db", func := "watchfire/watchfirelaw07.AlertFires", spec := "alertFires", inPlace := ["internal/bytealg.abigen_runtime_cmpstring"], unfollowed := true, recurses := true, named := ["internal/strconv.uint64pow10", "math/bits.deBruijn32tab", "math/bits.deBruijn64tab"], apart := false, laid := [("math/bits.deBruijn32tab", laid_math_bits_deBruijn32tab), ("math/bits.deBruijn64tab", laid_math_bits_deBruijn64tab), ("internal/strconv.uint64pow10", laid_internal_strconv_uint64pow10)] }
def AlertFiresSaid : Prop := alertFiresRow.holds Tryd.pinned (OpenSpec.ofChange alertFiresSpec)

/-- ITS FALSE NEIGHBOUR: 'it returns false'. Refute it at one input. -/
def alertFiresWrong : ChangeSpec := { name := "alertFires", fn := fun _ => fun
  | [d1, d2] => { results := [.lit (.bool false)], args := [d1, d2] }
  | _ => none }
def AlertFiresWrongFalsely : Prop := alertFiresRow.holds Tryd.pinned (OpenSpec.ofChange alertFiresWrong)

/-- 'watchfirelaw07.AlertPlays': WHATEVER THE INPUT: true; the input reads as it did. -/
def alertPlaysSpec : ChangeSpec := { name := "alertPlays", fn := fun _ => fun
  | [d1, d2] => { results := [.lit (.bool true)], args := [d1, d2] }
  | _ => none }
def alertPlaysRow : OpenClaim := { program := "ytokgignmdgejoaadoor", sum := "9f8eb0e5b7c4d14894e9f14a8d8ce6c22d438fbe9bd289fde5ec733a9e11a0db", func := "watchfire/watchfirelaw07.AlertPlays", spec := "alertPlays", inPlace := ["internal/bytealg.abigen_runtime_cmpstring"], unfollowed := true, recurses := true, named := ["internal/strconv.uint64pow10", "math/bits.deBruijn32tab", "math/bits.deBruijn64tab"], apart := false, laid := [("math/bits.deBruijn32tab", laid_math_bits_deBruijn32tab), ("math/bits.deBruijn64tab", laid_math_bits_deBruijn64tab), ("internal/strconv.uint64pow10", laid_internal_strconv_uint64pow10)] }
def AlertPlaysSaid : Prop := alertPlaysRow.holds Tryd.pinned (OpenSpec.ofChange alertPlaysSpec)

/-- ITS FALSE NEIGHBOUR: 'it returns false'. Refute it at one input. -/
def alertPlaysWrong : ChangeSpec := { name := "alertPlays", fn := fun _ => fun
  | [d1, d2] => { results := [.lit (.bool false)], args := [d1, d2] }
  | _ => none }
def AlertPlaysWrongFalsely : Prop := alertPlaysRow.holds Tryd.pinned (OpenSpec.ofChange alertPlaysWrong)

/-- 'watchfirelaw07.AlertDrops': WHATEVER THE INPUT: true; the input reads as it did. -/
def alertDropsSpec : ChangeSpec := { name := "alertDrops", fn := fun _ => fun
  | [d1, d2] => { results := [.lit (.bool true)], args := [d1, d2] }
  | _ => none }
def alertDropsRow : OpenClaim := { program := "ytokgignmdgejoaadoor", sum := "9f8eb0e5b7c4d14894e9f14a8d8ce6c22d438fbe9bd289fde5ec733a9e11a0db", func := "watchfire/watchfirelaw07.AlertDrops", spec := "alertDrops", inPlace := ["internal/bytealg.abigen_runtime_cmpstring"], unfollowed := true, recurses := true, named := ["internal/strconv.uint64pow10", "math/bits.deBruijn32tab", "math/bits.deBruijn64tab"], apart := false, laid := [("math/bits.deBruijn32tab", laid_math_bits_deBruijn32tab), ("math/bits.deBruijn64tab", laid_math_bits_deBruijn64tab), ("internal/strconv.uint64pow10", laid_internal_strconv_uint64pow10)] }
def AlertDropsSaid : Prop := alertDropsRow.holds Tryd.pinned (OpenSpec.ofChange alertDropsSpec)

/-- ITS FALSE NEIGHBOUR: 'it returns false'. Refute it at one input. -/
def alertDropsWrong : ChangeSpec := { name := "alertDrops", fn := fun _ => fun
  | [d1, d2] => { results := [.lit (.bool false)], args := [d1, d2] }
  | _ => none }
def AlertDropsWrongFalsely : Prop := alertDropsRow.holds Tryd.pinned (OpenSpec.ofChange alertDropsWrong)

/-- 'watchfirelaw07.AlertApart': WHATEVER THE INPUT: true; the input reads as it did. -/
def alertApartSpec : ChangeSpec := { name := "alertApart", fn := fun _ => fun
  | [d1, d2] => { results := [.lit (.bool true)], args := [d1, d2] }
  | _ => none }
def alertApartRow : OpenClaim := { program := "ytokgignmdgejoaadoor", sum := "9f8eb0e5b7c4d14894e9f14a8d8ce6c22d438fbe9bd289fde5ec733a9e11a0db", func := "watchfire/watchfirelaw07.AlertApart", spec := "alertApart", inPlace := ["internal/bytealg.abigen_runtime_cmpstring"], unfollowed := true, recurses := true, named := ["internal/strconv.uint64pow10", "math/bits.deBruijn32tab", "math/bits.deBruijn64tab"], apart := false, laid := [("math/bits.deBruijn32tab", laid_math_bits_deBruijn32tab), ("math/bits.deBruijn64tab", laid_math_bits_deBruijn64tab), ("internal/strconv.uint64pow10", laid_internal_strconv_uint64pow10)] }
def AlertApartSaid : Prop := alertApartRow.holds Tryd.pinned (OpenSpec.ofChange alertApartSpec)

/-- ITS FALSE NEIGHBOUR: 'it returns false'. Refute it at one input. -/
def alertApartWrong : ChangeSpec := { name := "alertApart", fn := fun _ => fun
  | [d1, d2] => { results := [.lit (.bool false)], args := [d1, d2] }
  | _ => none }
def AlertApartWrongFalsely : Prop := alertApartRow.holds Tryd.pinned (OpenSpec.ofChange alertApartWrong)

/-- 'watchfirelaw07.AlertForks': WHATEVER THE INPUT: true; the input reads as it did. -/
def alertForksSpec : ChangeSpec := { name := "alertForks", fn := fun _ => fun
  | [d1, d2] => { results := [.lit (.bool true)], args := [d1, d2] }
  | _ => none }
def alertForksRow : OpenClaim := { program := "ytokgignmdgejoaadoor", sum := "9f8eb0e5b7c4d14894e9f14a8d8ce6c22d438fbe9bd289fde5ec733a9e11a0db", func := "watchfire/watchfirelaw07.AlertForks", spec := "alertForks", inPlace := ["internal/bytealg.abigen_runtime_cmpstring", "maps.clone"], unfollowed := true, recurses := true, named := ["internal/strconv.uint64pow10", "math/bits.deBruijn32tab", "math/bits.deBruijn64tab"], apart := false, laid := [("math/bits.deBruijn32tab", laid_math_bits_deBruijn32tab), ("math/bits.deBruijn64tab", laid_math_bits_deBruijn64tab), ("internal/strconv.uint64pow10", laid_internal_strconv_uint64pow10)] }
def AlertForksSaid : Prop := alertForksRow.holds Tryd.pinned (OpenSpec.ofChange alertForksSpec)

/-- ITS FALSE NEIGHBOUR: 'it returns false'. Refute it at one input. -/
def alertForksWrong : ChangeSpec := { name := "alertForks", fn := fun _ => fun
  | [d1, d2] => { results := [.lit (.bool false)], args := [d1, d2] }
  | _ => none }
def AlertForksWrongFalsely : Prop := alertForksRow.holds Tryd.pinned (OpenSpec.ofChange alertForksWrong)

/-- 'watchfirelaw07.AlertGets': WHATEVER THE INPUT: true; the input reads as it did. -/
def alertGetsSpec : ChangeSpec := { name := "alertGets", fn := fun _ => fun
  | [d1, d2, d3] => { results := [.lit (.bool true)], args := [d1, d2, d3] }
  | _ => none }
def alertGetsRow : OpenClaim := { program := "ytokgignmdgejoaadoor", sum := "9f8eb0e5b7c4d14894e9f14a8d8ce6c22d438fbe9bd289fde5ec733a9e11a0db", func := "watchfire/watchfirelaw07.AlertGets", spec := "alertGets", inPlace := ["internal/bytealg.abigen_runtime_cmpstring", "maps.clone"], unfollowed := true, recurses := true, named := ["internal/strconv.uint64pow10", "math/bits.deBruijn32tab", "math/bits.deBruijn64tab"], apart := false, laid := [("math/bits.deBruijn32tab", laid_math_bits_deBruijn32tab), ("math/bits.deBruijn64tab", laid_math_bits_deBruijn64tab), ("internal/strconv.uint64pow10", laid_internal_strconv_uint64pow10)] }
def AlertGetsSaid : Prop := alertGetsRow.holds Tryd.pinned (OpenSpec.ofChange alertGetsSpec)

/-- ITS FALSE NEIGHBOUR: 'it returns false'. Refute it at one input. -/
def alertGetsWrong : ChangeSpec := { name := "alertGets", fn := fun _ => fun
  | [d1, d2, d3] => { results := [.lit (.bool false)], args := [d1, d2, d3] }
  | _ => none }
def AlertGetsWrongFalsely : Prop := alertGetsRow.holds Tryd.pinned (OpenSpec.ofChange alertGetsWrong)

/- THE SECOND FORM. 'bulk': how many values and letters a reading holds, each counted each time it is reached (what is shared counts as often as it is met; a slice's spare places count too). A statement '..UptoSaid' is the law's where the arguments, and the package variables that the reading takes, are together of bulk at most 1048576: NARROWER than '..Said'. Prove '..Said' where nothing that the law and all that it calls make is longer than what came in: it says more and counts as full. Else prove '..UptoSaid'. A law counts once. -/
mutual
def uptoBulk {H : Type} : DataW H → Nat
  | .lit (.string bytes) => bytes.length + 1
  | .lit _ => 1
  | .nil => 1
  | .ptr d => uptoBulk d + 1
  | .slice elems spare => uptoBulkAll elems + uptoBulkAll spare + 1
  | .agg parts => uptoBulkAll parts + 1
  | .iface _ d => uptoBulk d + 1
  | .map entries => uptoBulkEntries entries + 1
  | .held _ => 1
def uptoBulkAll {H : Type} : List (DataW H) → Nat
  | [] => 0
  | d :: r => uptoBulk d + uptoBulkAll r
def uptoBulkEntries {H : Type} : List (Lit × DataW H) → Nat
  | [] => 0
  | x :: r => uptoBulkEntry x + uptoBulkEntries r
def uptoBulkEntry {H : Type} : Lit × DataW H → Nat
  | (.string bytes, d) => bytes.length + uptoBulk d + 1
  | (_, d) => uptoBulk d + 1
 end
def uptoSmall : (H : Type) → List (DataW H) → Bool := fun _ ds => decide (uptoBulkAll ds ≤ 1048576)
def OpenSpec.upto (s : _root_.Go.ChangeSpec) : _root_.Go.OpenSpec := { _root_.Go.OpenSpec.ofChange s with cond := some uptoSmall }

/-- 'watchfirelaw07.AlertFires', WHERE WHAT IT READS IS OF BULK AT MOST 1048576: true; the input reads as it did. -/
def alertFiresUptoRow : OpenClaim := { program := "ytokgignmdgejoaadoor", sum := "9f8eb0e5b7c4d14894e9f14a8d8ce6c22d438fbe9bd289fde5ec733a9e11a0db", func := "watchfire/watchfirelaw07.AlertFires", spec := "alertFires", inPlace := ["internal/bytealg.abigen_runtime_cmpstring"], unfollowed := true, recurses := true, named := ["internal/strconv.uint64pow10", "math/bits.deBruijn32tab", "math/bits.deBruijn64tab"], apart := false, laid := [("math/bits.deBruijn32tab", laid_math_bits_deBruijn32tab), ("math/bits.deBruijn64tab", laid_math_bits_deBruijn64tab), ("internal/strconv.uint64pow10", laid_internal_strconv_uint64pow10)], narrowed := true }
def AlertFiresUptoSaid : Prop := alertFiresUptoRow.holds Tryd.pinned (OpenSpec.upto alertFiresSpec)

/-- 'watchfirelaw07.AlertPlays', WHERE WHAT IT READS IS OF BULK AT MOST 1048576: true; the input reads as it did. -/
def alertPlaysUptoRow : OpenClaim := { program := "ytokgignmdgejoaadoor", sum := "9f8eb0e5b7c4d14894e9f14a8d8ce6c22d438fbe9bd289fde5ec733a9e11a0db", func := "watchfire/watchfirelaw07.AlertPlays", spec := "alertPlays", inPlace := ["internal/bytealg.abigen_runtime_cmpstring"], unfollowed := true, recurses := true, named := ["internal/strconv.uint64pow10", "math/bits.deBruijn32tab", "math/bits.deBruijn64tab"], apart := false, laid := [("math/bits.deBruijn32tab", laid_math_bits_deBruijn32tab), ("math/bits.deBruijn64tab", laid_math_bits_deBruijn64tab), ("internal/strconv.uint64pow10", laid_internal_strconv_uint64pow10)], narrowed := true }
def AlertPlaysUptoSaid : Prop := alertPlaysUptoRow.holds Tryd.pinned (OpenSpec.upto alertPlaysSpec)

/-- 'watchfirelaw07.AlertDrops', WHERE WHAT IT READS IS OF BULK AT MOST 1048576: true; the input reads as it did. -/
def alertDropsUptoRow : OpenClaim := { program := "ytokgignmdgejoaadoor", sum := "9f8eb0e5b7c4d14894e9f14a8d8ce6c22d438fbe9bd289fde5ec733a9e11a0db", func := "watchfire/watchfirelaw07.AlertDrops", spec := "alertDrops", inPlace := ["internal/bytealg.abigen_runtime_cmpstring"], unfollowed := true, recurses := true, named := ["internal/strconv.uint64pow10", "math/bits.deBruijn32tab", "math/bits.deBruijn64tab"], apart := false, laid := [("math/bits.deBruijn32tab", laid_math_bits_deBruijn32tab), ("math/bits.deBruijn64tab", laid_math_bits_deBruijn64tab), ("internal/strconv.uint64pow10", laid_internal_strconv_uint64pow10)], narrowed := true }
def AlertDropsUptoSaid : Prop := alertDropsUptoRow.holds Tryd.pinned (OpenSpec.upto alertDropsSpec)

/-- 'watchfirelaw07.AlertApart', WHERE WHAT IT READS IS OF BULK AT MOST 1048576: true; the input reads as it did. -/
def alertApartUptoRow : OpenClaim := { program := "ytokgignmdgejoaadoor", sum := "9f8eb0e5b7c4d14894e9f14a8d8ce6c22d438fbe9bd289fde5ec733a9e11a0db", func := "watchfire/watchfirelaw07.AlertApart", spec := "alertApart", inPlace := ["internal/bytealg.abigen_runtime_cmpstring"], unfollowed := true, recurses := true, named := ["internal/strconv.uint64pow10", "math/bits.deBruijn32tab", "math/bits.deBruijn64tab"], apart := false, laid := [("math/bits.deBruijn32tab", laid_math_bits_deBruijn32tab), ("math/bits.deBruijn64tab", laid_math_bits_deBruijn64tab), ("internal/strconv.uint64pow10", laid_internal_strconv_uint64pow10)], narrowed := true }
def AlertApartUptoSaid : Prop := alertApartUptoRow.holds Tryd.pinned (OpenSpec.upto alertApartSpec)

/-- 'watchfirelaw07.AlertForks', WHERE WHAT IT READS IS OF BULK AT MOST 1048576: true; the input reads as it did. -/
def alertForksUptoRow : OpenClaim := { program := "ytokgignmdgejoaadoor", sum := "9f8eb0e5b7c4d14894e9f14a8d8ce6c22d438fbe9bd289fde5ec733a9e11a0db", func := "watchfire/watchfirelaw07.AlertForks", spec := "alertForks", inPlace := ["internal/bytealg.abigen_runtime_cmpstring", "maps.clone"], unfollowed := true, recurses := true, named := ["internal/strconv.uint64pow10", "math/bits.deBruijn32tab", "math/bits.deBruijn64tab"], apart := false, laid := [("math/bits.deBruijn32tab", laid_math_bits_deBruijn32tab), ("math/bits.deBruijn64tab", laid_math_bits_deBruijn64tab), ("internal/strconv.uint64pow10", laid_internal_strconv_uint64pow10)], narrowed := true }
def AlertForksUptoSaid : Prop := alertForksUptoRow.holds Tryd.pinned (OpenSpec.upto alertForksSpec)

/-- 'watchfirelaw07.AlertGets', WHERE WHAT IT READS IS OF BULK AT MOST 1048576: true; the input reads as it did. -/
def alertGetsUptoRow : OpenClaim := { program := "ytokgignmdgejoaadoor", sum := "9f8eb0e5b7c4d14894e9f14a8d8ce6c22d438fbe9bd289fde5ec733a9e11a0db", func := "watchfire/watchfirelaw07.AlertGets", spec := "alertGets", inPlace := ["internal/bytealg.abigen_runtime_cmpstring", "maps.clone"], unfollowed := true, recurses := true, named := ["internal/strconv.uint64pow10", "math/bits.deBruijn32tab", "math/bits.deBruijn64tab"], apart := false, laid := [("math/bits.deBruijn32tab", laid_math_bits_deBruijn32tab), ("math/bits.deBruijn64tab", laid_math_bits_deBruijn64tab), ("internal/strconv.uint64pow10", laid_internal_strconv_uint64pow10)], narrowed := true }
def AlertGetsUptoSaid : Prop := alertGetsUptoRow.holds Tryd.pinned (OpenSpec.upto alertGetsSpec)

end Rows
end Go.Proofs.YtokgignmdgejoaaDoor
