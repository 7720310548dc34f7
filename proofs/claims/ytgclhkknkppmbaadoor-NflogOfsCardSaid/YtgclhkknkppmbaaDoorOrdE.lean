/- Steps of drawn regions: entries. -/
import Derived.Test.YtgclhkknkppmbaaDoorEntE
import Derived.Test.YtgclhkknkppmbaaDoorOrd
namespace Go.Proofs.YtgclhkknkppmbaaDoor
open Go.RowKit Go.Lib
set_option linter.unusedVariables false
attribute [local go_sem ↓] Go.wp_at_zero Go.wp_at_succ

theorem Hld.four {w : World} {g : Nat} {t : TypeId} {a b c d : Value} (h : Hld w g t #[a, b, c, d]) : w.cell? ⟨g, 0, none⟩ = some a ∧ w.cell? ⟨g, 1, none⟩ = some b ∧ w.cell? ⟨g, 2, none⟩ = some c ∧ w.cell? ⟨g, 3, none⟩ = some d :=
  ⟨h.cell 0, h.cell 1, h.cell 2, h.cell 3⟩
/-- A whole entry is read. -/
theorem sure_ent {ops : Array Oper} {o : Oper} {a : Act} {w0 : World} {F : Nat → Prop} {x : Operand} {g : Nat} {k : ByteArray} {t og : Int} {v : ByteArray} {u : Int} (hw : Region.wanted o (yielded ops a.tmps) = true) (ho : o.op = .load 24 x) (hx : a.eval x = .pointer (some ⟨g, 0, none⟩))
    (h : Hld w0 g 24 #[.string k, .int .i64 t, .int .u16 og, .string v, .int .i64 u]) (hF : ¬ F g := by exact fun h => h) : Sure Tryd.prog ops (Only Noth) (Only F w0) o (.agg #[.string k, .int .i64 t, .int .u16 og, .string v, .int .i64 u]) a := by
  refine sure_value hw (fun w1 k1 => ?_)
  obtain ⟨a0, a1, a2, a3, a4⟩ := (h.only k1 hF).five
  unfold execOp
  simp only [ho, hx]
  go_simp

/-- What '==' of two entries says. -/
def Eqs (a b : Ent) (r : Bool) : Prop := a.same b = r
theorem eqs_self (k : ByteArray) (t o : Int) (v : ByteArray) (u : Int) : Eqs ⟨k, t, o, v, u⟩ ⟨k, t, o, v, u⟩ true := same_self _
theorem eqs_of {a b : Ent} (h : a = b) : Eqs a b true := by subst h; exact same_self _
theorem eqs_not {a b : Ent} (h : ¬ a = b) : Eqs a b false := by
  unfold Eqs
  cases e : a.same b
  · rfl
  · exact absurd (same_iff.1 e) h
theorem sure_eq {ops : Array Oper} {o : Oper} {a : Act} {w0 : World} {F : Nat → Prop} {p q : Operand} {ty : TypeId} {x y : Ent} {r : Bool} (he : Eqs x y r) (hw : Region.wanted o (yielded ops a.tmps) = true) (ho : o.op = .binOp .eql 24 p q ty)
    (hp : a.eval p = .agg #[.string x.key, .int .i64 x.time, .int .u16 x.org, .string x.val, .int .i64 x.til]) (hq : a.eval q = .agg #[.string y.key, .int .i64 y.time, .int .u16 y.org, .string y.val, .int .i64 y.til]) : Sure Tryd.prog ops (Only Noth) (Only F w0) o (.bool r) a := by
  refine sure_value hw (fun w1 k1 => ?_)
  unfold execOp
  unfold Eqs at he
  have := eq_ent x y w1
  rw [he] at this
  simp only [ho, hp, hq, Sem.run_bind, run_eqGuard_agg (hm := guard_ent), Result.andThen_ok, this, Sem.run_pure]
/-- A string is read out of a box. -/
theorem sure_str {ops : Array Oper} {o : Oper} {a : Act} {w0 : World} {F : Nat → Prop} {x : Operand} {g i : Nat} {cs : Array Value} {t : TypeId} {s : ByteArray} (hw : Region.wanted o (yielded ops a.tmps) = true) (ho : o.op = .load 9 x) (hx : a.eval x = .pointer (some ⟨g, i, none⟩))
    (h : Hld w0 g t cs) (hi : cs[i]? = some (.string s)) (hF : ¬ F g) : Sure Tryd.prog ops (Only Noth) (Only F w0) o (.string s) a := by
  refine sure_value hw (fun w1 k1 => ?_)
  have c0 := ((h.only k1 hF).cell i).trans hi
  unfold execOp
  simp only [ho, hx]
  go_simp
/-- A number is read out of a box. -/
theorem sure_num {ops : Array Oper} {o : Oper} {a : Act} {w0 : World} {F : Nat → Prop} {x : Operand} {g i : Nat} {cs : Array Value} {t : TypeId} {n : Int} (hw : Region.wanted o (yielded ops a.tmps) = true) (ho : o.op = .load 3 x) (hx : a.eval x = .pointer (some ⟨g, i, none⟩))
    (h : Hld w0 g t cs) (hi : cs[i]? = some (.int .i64 n)) (hF : ¬ F g) : Sure Tryd.prog ops (Only Noth) (Only F w0) o (.int .i64 n) a := by
  refine sure_value hw (fun w1 k1 => ?_)
  have c0 := ((h.only k1 hF).cell i).trans hi
  unfold execOp
  simp only [ho, hx]
  go_simp
end Go.Proofs.YtgclhkknkppmbaaDoor
