/- The reference of layer 31: two parts that are the same. -/
import Derived.Test.YtemeglofblnnmaaJnV
namespace Go.Proofs.Ytemeglofblnnmaa
open Go.RowKit Go.Lib
set_option linter.unusedVariables false
set_option linter.unusedSimpArgs false
set_option maxRecDepth 100000
attribute [local go_sem ↓] Go.wp_at_zero Go.wp_at_succ

set_option maxHeartbeats 4000000 in
theorem same_run (id idx cnt : Int) (l : List UInt8) (A B : Option Addr) (n c n2 d : Nat) (Sa Sb : Nat → Prop) (w : World) (ha : BsAt w Sa (.slice A n c) l) (hb : BsAt w Sb (.slice B n2 d) l) :
    Calls Try.prog 11 #[.agg #[.int .i64 id, .int .i64 idx, .int .i64 cnt, .slice A n c], .agg #[.int .i64 id, .int .i64 idx, .int .i64 cnt, .slice B n2 d]] w fun e w' => e = .returned (.bool true) ∧ Only Noth w w' := by
  have a1 := ((Only.refl Noth w).alloc (.cells #[.int .i64 id, .int .i64 idx, .int .i64 cnt, .slice A n c] 33)).alloc (.cells #[.int .i64 id, .int .i64 idx, .int .i64 cnt, .slice B n2 d] 33)
  have O := Lib.hid a1
  have hca := BsAt.conv (ha.noth a1)
  have hcb := BsAt.conv (hb.noth a1)
  clear a1 ha hb
  go_enter Try.func11, Try.ntmps11
  go_wp2
  go_ret
  exact ⟨rfl, O.out⟩
end Go.Proofs.Ytemeglofblnnmaa
