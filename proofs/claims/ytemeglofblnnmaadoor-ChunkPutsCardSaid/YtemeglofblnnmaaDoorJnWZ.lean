/- The reference of layer 31: two parts that are the same. -/
import Derived.Test.YtemeglofblnnmaaDoorJnVZ
namespace Go.Proofs.YtemeglofblnnmaaDoor
open Go.RowKit Go.Lib
set_option linter.unusedVariables false
set_option linter.unusedSimpArgs false
set_option maxRecDepth 100000
attribute [local go_sem ↓] Go.wp_at_zero Go.wp_at_succ

set_option maxHeartbeats 4000000 in
theorem same_run (id idx cnt : Int) (l : List UInt8) (A B : Option Addr) (n c n2 d : Nat) (Sa Sb : Nat → Prop) (w : World) (ha : BsAt w Sa (.slice A n c) l) (hb : BsAt w Sb (.slice B n2 d) l) :
    Calls Tryd.prog 10 #[.agg #[.int .i64 id, .int .i64 idx, .int .i64 cnt, .slice A n c], .agg #[.int .i64 id, .int .i64 idx, .int .i64 cnt, .slice B n2 d]] w fun e w' => e = .returned (.bool true) ∧ Only Noth w w' := by
  have a1 := ((Only.refl Noth w).alloc (.cells #[.int .i64 id, .int .i64 idx, .int .i64 cnt, .slice A n c] 24)).alloc (.cells #[.int .i64 id, .int .i64 idx, .int .i64 cnt, .slice B n2 d] 24)
  have O := Lib.hid a1
  have hca := BsAt.conv (ha.noth a1)
  have hcb := BsAt.conv (hb.noth a1)
  clear a1 ha hb
  go_enter Tryd.func10, Tryd.ntmps10
  go_wp2
  go_ret
  exact ⟨rfl, O.out⟩
end Go.Proofs.YtemeglofblnnmaaDoor
