/- '==' on entries. -/
import Derived.Test.YtdclkbhkboaafaaEntKZ
import Derived.Laws.StructEq
namespace Go.Proofs.Ytdclkbhkboaafaa
open Go.RowKit Go.Lib
set_option linter.unusedVariables false
attribute [local go_sem ↓] Go.wp_at_zero Go.wp_at_succ

theorem ba_inj {a b : ByteArray} (h : a.data.toList = b.data.toList) : a = b := Go.WideShapes.bytes_inj h
/-- '==' on entries. -/
def Ent.same (a b : Ent) : Bool := decide (a.key = b.key ∧ a.time = b.time ∧ a.org = b.org ∧ a.val = b.val ∧ a.til = b.til)
theorem same_iff {a b : Ent} : a.same b = true ↔ a = b := by
  unfold Ent.same
  rw [decide_eq_true_iff]
  cases a
  cases b
  simp
theorem same_self (a : Ent) : a.same a = true := same_iff.2 rfl
theorem ba_beq (a b : ByteArray) : (a.toList == b.toList) = decide (a = b) := by
  rw [ByteArray.toList_eq, ByteArray.toList_eq, Bool.eq_iff_iff, beq_iff_eq, decide_eq_true_iff]
  exact ⟨ba_inj, fun h => by rw [h]⟩
theorem ba_list (a b : ByteArray) : a.toList = b.toList ↔ a = b := by
  rw [ByteArray.toList_eq, ByteArray.toList_eq]
  exact ⟨ba_inj, fun h => by rw [h]⟩
theorem eqin_ent (a b : Ent) (w : World) : (Op.equalIn 10000 34 (.agg #[.string a.key, .int .i64 a.time, .int .u16 a.org, .string a.val, .int .i64 a.til]) (.agg #[.string b.key, .int .i64 b.time, .int .u16 b.org, .string b.val, .int .i64 b.til])).run Try.prog w = .ok (a.same b) w := by
  have u3 := Try.underlying3
  have a3 := Try.isAgg3
  have z3 := Try.sizeOf3
  have u9 := Try.underlying9
  have a9 := Try.isAgg9
  have z9 := Try.sizeOf9
  have u22 := Try.underlying32
  have a22 := Try.isAgg32
  have z22 := Try.sizeOf32
  have hS : Try.prog.underlying 34 = some (.struct (Try.prog.fieldsOf 34)) := by kernel_rfl
  have hp : Try.prog.stoodInHeld 34 = false := by kernel_rfl
  rw [show (10000 : Nat) = 9999 + 1 from rfl, run_equalIn_agg w 9999 34 _ _ hS hp]
  simp only [Program.fieldsOf, Try.underlying34]
  go_simp
  simp only [Ent.same]
  by_cases h1 : a.key = b.key <;> by_cases h2 : a.time = b.time <;> by_cases h3 : a.org = b.org <;> by_cases h4 : a.val = b.val <;> by_cases h5 : a.til = b.til <;> simp [h1, h2, h3, h4, h5, ba_list]
theorem eq_ent (a b : Ent) (w : World) : (binOp .eql 34 (.agg #[.string a.key, .int .i64 a.time, .int .u16 a.org, .string a.val, .int .i64 a.til]) (.agg #[.string b.key, .int .i64 b.time, .int .u16 b.org, .string b.val, .int .i64 b.til])).run Try.prog w = .ok (.bool (a.same b)) w := by
  rw [run_eql_struct, eqin_ent]
  rfl
theorem ne_ent (a b : Ent) (w : World) : (binOp .neq 34 (.agg #[.string a.key, .int .i64 a.time, .int .u16 a.org, .string a.val, .int .i64 a.til]) (.agg #[.string b.key, .int .i64 b.time, .int .u16 b.org, .string b.val, .int .i64 b.til])).run Try.prog w = .ok (.bool (!a.same b)) w := by
  rw [run_neq_struct, eqin_ent]
  rfl
theorem Hld.at_ (W : World) (t : TypeId) (cs : Array Value) (g : Nat) (hg : W.heap.size = g) : Hld (W.alloc (.cells cs t)) g t cs := by
  subst hg
  exact Hld.new W t cs
theorem Hld.five {w : World} {g : Nat} {t : TypeId} {a b c d e : Value} (h : Hld w g t #[a, b, c, d, e]) : w.cell? ⟨g, 0, none⟩ = some a ∧ w.cell? ⟨g, 1, none⟩ = some b ∧ w.cell? ⟨g, 2, none⟩ = some c ∧ w.cell? ⟨g, 3, none⟩ = some d ∧ w.cell? ⟨g, 4, none⟩ = some e :=
  ⟨h.cell 0, h.cell 1, h.cell 2, h.cell 3, h.cell 4⟩
theorem guard_ent : Try.prog.eqGuardType Try.prog.depth 34 = false := by kernel_rfl
end Go.Proofs.Ytdclkbhkboaafaa
