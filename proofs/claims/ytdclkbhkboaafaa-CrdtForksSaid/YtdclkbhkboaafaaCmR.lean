/- Drawn regions that read entries and compare their keys. -/
import Derived.Test.YtdclkbhkboaafaaCmGet
namespace Go.Proofs.Ytdclkbhkboaafaa
open Go.RowKit Go.Lib Go.Sort
set_option linter.unusedVariables false
set_option linter.unusedSimpArgs false
set_option maxRecDepth 100000
attribute [local go_sem ↓] Go.wp_at_zero Go.wp_at_succ

/-- An entry lies here. -/
def EntCell (w : World) (b o : Nat) (x : Ent) : Prop := b < w.heap.size ∧ w.cell? ⟨b, o, none⟩ = some (.string x.key) ∧ w.cell? ⟨b, o + 1, none⟩ = some (.int .i64 x.time) ∧ w.cell? ⟨b, o + 2, none⟩ = some (.int .u16 x.org) ∧ w.cell? ⟨b, o + 3, none⟩ = some (.string x.val) ∧ w.cell? ⟨b, o + 4, none⟩ = some (.int .i64 x.til)
theorem EntCell.only {w w' : World} {F : Nat → Prop} {b o : Nat} {x : Ent} (h : EntCell w b o x) (ho : Only F w w') (hF : ¬ F b) : EntCell w' b o x := by
  obtain ⟨hl, h0, h1, h2, h3, h4⟩ := h
  exact ⟨Nat.lt_of_lt_of_le hl ho.size, (ho.cell hl hF).trans h0, (ho.cell (p := ⟨b, o + 1, none⟩) hl hF).trans h1, (ho.cell (p := ⟨b, o + 2, none⟩) hl hF).trans h2, (ho.cell (p := ⟨b, o + 3, none⟩) hl hF).trans h3, (ho.cell (p := ⟨b, o + 4, none⟩) hl hF).trans h4⟩
theorem EntCell.noth {w w' : World} {b o : Nat} {x : Ent} (h : EntCell w b o x) (ho : Only Noth w w') : EntCell w' b o x := h.only ho (fun h => h)
theorem EntCell.drew {w : World} {b o : Nat} {x : Ent} (h : EntCell w b o x) : EntCell w.drew b o x := h
theorem EntCell.box {w : World} {g : Nat} {x : Ent} (h : Hld w g 34 x.arr) : EntCell w g 0 x := ⟨h.lt, h.five⟩
theorem Ents.at {w : World} {A : Option Addr} {c k : Nat} {l : List Ent} {x : Ent} (h : Ents w (.slice A l.length c) l) (hx : l[k]? = some x) : ∃ bb o, A = some ⟨bb, o, none⟩ ∧ EntCell w bb (o + k * 5) x := by
  obtain ⟨A', c', q0, hel, _, _⟩ := h
  injection q0 with q1 _ q3
  subst q1 q3
  obtain ⟨bb, o, hA, _, hl, h⟩ := hel.ent hx
  exact ⟨bb, o, hA, hl, h⟩
theorem less_before : ∀ x y : List UInt8, Op.bytesLess x y = bytesBefore x y := by
  intro x
  induction x with
  | nil => intro y; cases y <;> rfl
  | cons a x ih =>
    intro y
    cases y with
    | nil => rfl
    | cons b y => simp only [Op.bytesLess, bytesBefore, ih]
/-- What '==' of two entries says. -/
def Eqs (a b : Ent) (r : Bool) : Prop := a.same b = r
theorem eqs_self (k : ByteArray) (t o : Int) (v : ByteArray) (u : Int) : Eqs ⟨k, t, o, v, u⟩ ⟨k, t, o, v, u⟩ true := same_self _
theorem eqs_of {a b : Ent} (h : a = b) : Eqs a b true := by subst h; exact same_self _
theorem eqs_not {a b : Ent} (h : ¬ a = b) : Eqs a b false := by
  unfold Eqs
  cases e : a.same b
  · rfl
  · exact absurd (same_iff.1 e) h
theorem sure_eq {ops : Array Oper} {o : Oper} {a : Act} {w0 : World} {F : Nat → Prop} {p q : Operand} {ty : TypeId} {x y : Ent} {r : Bool} (he : Eqs x y r) (hw : Region.wanted o (yielded ops a.tmps) = true) (ho : o.op = .binOp .eql 34 p q ty)
    (hp : a.eval p = .agg #[.string x.key, .int .i64 x.time, .int .u16 x.org, .string x.val, .int .i64 x.til]) (hq : a.eval q = .agg #[.string y.key, .int .i64 y.time, .int .u16 y.org, .string y.val, .int .i64 y.til]) : Sure Try.prog ops (Only Noth) (Only F w0) o (.bool r) a := by
  refine sure_value hw (fun w1 k1 => ?_)
  unfold execOp
  unfold Eqs at he
  have := eq_ent x y w1
  rw [he] at this
  simp only [ho, hp, hq, Sem.run_bind, run_eqGuard_agg (hm := guard_ent), Result.andThen_ok, this, Sem.run_pure]
section
variable {ops : Array Oper} {oi : Oper} {a : Act} {w0 : World} {F : Nat → Prop}
theorem sure_at {p : Operand} {b o : Nat} {x : Ent} (h : EntCell w0 b o x) (hF : ¬ F b) (hw : Region.wanted oi (yielded ops a.tmps) = true) (ho : oi.op = .load 34 p) (hp : a.eval p = .pointer (some ⟨b, o, none⟩)) :
    Sure Try.prog ops (Only Noth) (Only F w0) oi (.agg #[.string x.key, .int .i64 x.time, .int .u16 x.org, .string x.val, .int .i64 x.til]) a := by
  refine sure_value hw (fun w1 k1 => ?_)
  obtain ⟨_, a0, a1, a2, a3, a4⟩ := h.only k1 hF
  unfold execOp
  simp only [ho, hp]
  go_simp
theorem sure_key {p : Operand} {b o : Nat} {x : Ent} (h : EntCell w0 b o x) (hF : ¬ F b) (hw : Region.wanted oi (yielded ops a.tmps) = true) (ho : oi.op = .load 9 p) (hp : a.eval p = .pointer (some ⟨b, o, none⟩)) :
    Sure Try.prog ops (Only Noth) (Only F w0) oi (.string x.key) a := by
  refine sure_value hw (fun w1 k1 => ?_)
  obtain ⟨_, a0, _⟩ := h.only k1 hF
  unfold execOp
  simp only [ho, hp]
  go_simp
theorem sure_lss {p q : Operand} {ty : TypeId} {x y : Ent} {r : Bool} (hr : bytesBefore x.kb y.kb = r) (hw : Region.wanted oi (yielded ops a.tmps) = true) (ho : oi.op = .binOp .lss 9 p q ty) (hp : a.eval p = .string x.key) (hq : a.eval q = .string y.key) :
    Sure Try.prog ops (Only Noth) (Only F w0) oi (.bool r) a := by
  refine sure_value hw (fun w1 k1 => ?_)
  subst hr
  unfold execOp
  simp only [ho, hp, hq]
  go_simp
  simp [less_before, Lib.toList_data, Ent.kb]
theorem sure_geq {p q : Operand} {ty : TypeId} {x y : Ent} {r : Bool} (hr : bytesBefore x.kb y.kb = !r) (hw : Region.wanted oi (yielded ops a.tmps) = true) (ho : oi.op = .binOp .geq 9 p q ty) (hp : a.eval p = .string x.key) (hq : a.eval q = .string y.key) :
    Sure Try.prog ops (Only Noth) (Only F w0) oi (.bool r) a := by
  refine sure_value hw (fun w1 k1 => ?_)
  unfold execOp
  simp only [ho, hp, hq]
  go_simp
  have hr' : bytesBefore x.key.data.toList y.key.data.toList = !r := hr
  simp [less_before, Lib.toList_data, hr']
theorem sure_keq {p q : Operand} {ty : TypeId} {k m : ByteArray} {r : Bool} (hr : (k.data.toList == m.data.toList) = r) (hw : Region.wanted oi (yielded ops a.tmps) = true) (ho : oi.op = .binOp .eql 9 p q ty) (hp : a.eval p = .string k) (hq : a.eval q = .string m) :
    Sure Try.prog ops (Only Noth) (Only F w0) oi (.bool r) a := by
  refine sure_value hw (fun w1 k1 => ?_)
  subst hr
  unfold execOp
  simp only [ho, hp, hq]
  go_simp
  simp [Lib.toList_data]
end
end Go.Proofs.Ytdclkbhkboaafaa
