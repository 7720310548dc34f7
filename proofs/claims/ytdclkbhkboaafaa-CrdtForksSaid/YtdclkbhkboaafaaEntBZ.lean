/- Package entry: Later, Check, Counts; and what the reference says. -/
import Derived.Test.YtdclkbhkboaafaaEntZ
import Derived.Test.YtdclkbhkboaafaaEntKZ
namespace Go.Proofs.Ytdclkbhkboaafaa
open Go.RowKit Go.Lib
set_option linter.unusedVariables false
attribute [local go_sem ↓] Go.wp_at_zero Go.wp_at_succ

theorem entry_counts (a : Ent) (n : Int) (w : World) :
    Calls Try.prog 35 #[.agg #[.string a.key, .int .i64 a.time, .int .u16 a.org, .string a.val, .int .i64 a.til], .int .i64 n] w
      fun e w' => e = .returned (.bool (decide (n < a.til))) ∧ Only Noth w w' := by
  go_enter Try.func35, Try.ntmps35
  go_wp2
  go_ret
  exact ⟨rfl, (Only.refl _ _).alloc _⟩
end Go.Proofs.Ytdclkbhkboaafaa
