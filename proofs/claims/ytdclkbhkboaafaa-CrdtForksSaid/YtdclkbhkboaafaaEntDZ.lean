/- Package entry: Later; the reference's Above and Later; awake. -/
import Derived.Test.YtdclkbhkboaafaaEntCZ
import Derived.Deep.QuietTactic
import Derived.BigQuiet
namespace Go.Proofs.Ytdclkbhkboaafaa
open Go.RowKit Go.Lib
set_option linter.unusedVariables false
attribute [local go_sem ↓] Go.wp_at_zero Go.wp_at_succ

theorem above_1 {a b : Ent} (h : (a.time != b.time) = true) : decide (b.time < a.time) = a.above b := by
  have h : a.time ≠ b.time := by simpa using h
  rw [Bool.eq_iff_iff, above_iff, decide_eq_true_iff]; omega
theorem above_2 {a b : Ent} (h : (a.time != b.time) = false) (h2 : (a.org != b.org) = true) : decide (b.org < a.org) = a.above b := by
  have h : a.time = b.time := by simpa using h
  have h2 : a.org ≠ b.org := by simpa using h2
  rw [Bool.eq_iff_iff, above_iff, decide_eq_true_iff]; omega
theorem above_3 {a b : Ent} (h : (a.time != b.time) = false) (h2 : (a.org != b.org) = false) (h3 : (!a.val.toList == b.val.toList) = true) : (!Op.bytesLess a.val.toList b.val.toList) = a.above b := by
  have h : a.time = b.time := by simpa using h
  have h2 : a.org = b.org := by simpa using h2
  have h3 : a.val.data.toList ≠ b.val.data.toList := by simpa [ByteArray.toList_eq] using h3
  have h4 : compareBytes a.val.data.toList b.val.data.toList ≠ 0 := fun e => h3 (cmpBytes_zero.1 e)
  rw [Bool.eq_iff_iff, above_iff, bytesLess_cmp, ByteArray.toList_eq, ByteArray.toList_eq]
  simp only [Bool.not_eq_true', decide_eq_false_iff_not, h3, false_and, or_false]
  omega
theorem above_4 {a b : Ent} (h : (a.time != b.time) = false) (h2 : (a.org != b.org) = false) (h3 : (!a.val.toList == b.val.toList) = false) : decide (b.til < a.til) = a.above b := by
  have h : a.time = b.time := by simpa using h
  have h2 : a.org = b.org := by simpa using h2
  have h3 : a.val.data.toList = b.val.data.toList := by simpa [ByteArray.toList_eq] using h3
  have h4 : compareBytes a.val.data.toList b.val.data.toList = 0 := cmpBytes_zero.2 h3
  rw [Bool.eq_iff_iff, above_iff, decide_eq_true_iff, h4]
  simp [h, h2, h3]
theorem ref_above (a b : Ent) (w : World) :
    Calls Try.prog 37 #[.agg #[.string a.key, .int .i64 a.time, .int .u16 a.org, .string a.val, .int .i64 a.til], .agg #[.string b.key, .int .i64 b.time, .int .u16 b.org, .string b.val, .int .i64 b.til]] w
      fun e w' => e = .returned (.bool (a.above b)) ∧ Only Noth w w' := by
  go_enter Try.func37, Try.ntmps37
  go_wp2
  all_goals go_ret
  all_goals refine ⟨ret_bool ?_, ((Only.refl _ _).alloc _).alloc _⟩
  all_goals first
    | exact above_1 (by assumption)
    | exact above_2 (by assumption) (by assumption)
    | exact above_3 (by assumption) (by assumption) (by assumption)
    | exact above_4 (by assumption) (by assumption) (by assumption)

/-- The entry that counts. -/
def Ent.later (a b : Ent) : Ent := if a.above b then a else b
end Go.Proofs.Ytdclkbhkboaafaa
