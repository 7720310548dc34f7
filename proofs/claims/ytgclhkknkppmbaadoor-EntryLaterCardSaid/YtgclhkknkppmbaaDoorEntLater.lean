/- The walk of EntryLater: the plain facts. -/
import Derived.Test.YtgclhkknkppmbaaDoorEntE
namespace Go.Proofs.YtgclhkknkppmbaaDoor
open Go.RowKit Go.Lib
set_option linter.unusedVariables false

theorem later_comm {a b : Ent} (hk : a.key = b.key) : a.later b = b.later a := by
  unfold Ent.later
  cases h : a.above b <;> cases k : b.above a
  · simp; exact (above_total hk h k).symm
  · simp
  · simp
  · rw [above_anti h] at k; cases k
theorem later_self (a : Ent) : a.later a = a := by unfold Ent.later; split <;> rfl
theorem later_or (a b : Ent) : a.later b = a ∨ a.later b = b := by unfold Ent.later; split <;> simp
theorem later_abs1 (a b : Ent) : (a.later b).later a = a.later b ∨ a.key ≠ b.key := by
  by_cases hk : a.key = b.key
  · left
    unfold Ent.later
    cases h : a.above b
    · simp only [Bool.false_eq_true, if_false]
      cases k : b.above a
      · simp; exact above_total hk h k
      · simp
    · simp
  · exact .inr hk
theorem later_abs2 (a b : Ent) : (a.later b).later b = a.later b := by
  unfold Ent.later
  cases h : a.above b
  · simp
  · simp [h]
theorem later_assoc {a b c : Ent} (h1 : a.key = b.key) (h2 : b.key = c.key) : (a.later b).later c = a.later (b.later c) := by
  unfold Ent.later
  cases h : a.above b <;> cases k : b.above c
  · simp [k]
    intro hac
    cases hba : b.above a
    · rw [above_total h1 h hba] at hac; rw [hac] at k; cases k
    · have := above_trans hba hac; rw [this] at k; cases k
  · simp [h, k]
  · simp
  · have := above_trans h k
    simp [h, this]
theorem later_key {a b : Ent} (hk : a.key = b.key) : (a.later b).key = b.key := by
  unfold Ent.later
  split
  · exact hk
  · rfl
end Go.Proofs.YtgclhkknkppmbaaDoor
