/- Package entry: Check; and what the reference says. -/
import Derived.Test.YtdclkbhkboaafaaEntPZ
namespace Go.Proofs.Ytdclkbhkboaafaa
open Go.RowKit Go.Lib
set_option linter.unusedVariables false
attribute [local go_sem ↓] Go.wp_at_zero Go.wp_at_succ

def Ent.check (a : Ent) : Int :=
  if a.key.size = 0 ∨ 1024 < a.key.size ∨ 8192 < a.val.size then 5 else if a.time < 0 ∨ a.til < a.time ∨ 1099511627776 < a.til then 13 else 0
theorem ba_nil (s : ByteArray) : s.size = 0 ↔ s.toList = [] := by
  rw [ByteArray.toList_eq]
  constructor
  · intro h
    exact List.eq_nil_of_length_eq_zero h
  · intro h
    have : s.data.toList.length = 0 := by rw [h]; rfl
    exact this
theorem entry_check (a : Ent) (h1 : a.key.size ≤ 9223372036854775807) (h2 : a.val.size ≤ 9223372036854775807) (w : World) :
    Calls Try.prog 19 #[.agg #[.string a.key, .int .i64 a.time, .int .u16 a.org, .string a.val, .int .i64 a.til]] w
      fun e w' => e = .returned (.int .i64 a.check) ∧ Only Noth w w' := by
  go_enter Try.func19, Try.ntmps19
  go_wp2
  all_goals go_ret
  all_goals refine ⟨ret_num ?_, (Only.refl _ _).alloc _⟩
  all_goals (unfold Ent.check; simp only [List.isEmpty_iff, List.isEmpty_eq_false_iff, ne_eq, ← ba_nil] at *; repeat' split)
  all_goals omega
theorem ref_check (a : Ent) (h1 : a.key.size ≤ 9223372036854775807) (h2 : a.val.size ≤ 9223372036854775807) (w : World) :
    Calls Try.prog 36 #[.agg #[.string a.key, .int .i64 a.time, .int .u16 a.org, .string a.val, .int .i64 a.til]] w
      fun e w' => e = .returned (.int .i64 a.check) ∧ Only Noth w w' := by
  go_enter Try.func36, Try.ntmps36
  go_wp2
  all_goals go_ret
  all_goals refine ⟨ret_num ?_, (Only.refl _ _).alloc _⟩
  all_goals (unfold Ent.check; repeat' split)
  all_goals omega
end Go.Proofs.Ytdclkbhkboaafaa
