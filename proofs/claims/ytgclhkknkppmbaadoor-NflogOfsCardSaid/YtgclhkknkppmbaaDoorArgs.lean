/- How the arguments of these rows are opened. -/
import Derived.Test.YtgclhkknkppmbaaDoorEntB
import Derived.ProofKit
import Derived.OpenShut
import Derived.ShutString
import Derived.Deep.Fields
import Derived.ChangeArms
namespace Go.Proofs.YtgclhkknkppmbaaDoor
open Go.ChangeShapes Go.WideShapes Go.RowKit Go.Deep
set_option linter.unusedVariables false
set_option maxRecDepth 100000

/-- Each field of an entry is of its kind. -/
structure Ent.Fit (a : Ent) : Prop where
  k : a.key.size ≤ 9223372036854775807
  v : a.val.size ≤ 9223372036854775807
  t0 : -9223372036854775808 ≤ a.time
  t1 : a.time ≤ 9223372036854775807
  o0 : 0 ≤ a.org
  o1 : a.org ≤ 65535
  u0 : -9223372036854775808 ≤ a.til
  u1 : a.til ≤ 9223372036854775807

section
variable {H : Type} {enc : TypeId × Value → H} {w : World} {base : Nat} {spare : Nat → Bool} {held : Bool}
theorem i64_fit {n : Int} (h : (Lit.int .i64 n).wf = true) : -9223372036854775808 ≤ n ∧ n ≤ 9223372036854775807 := by simpa [Lit.wf, IntKind.min, IntKind.max, IntKind.signed, IntKind.bits] using h
theorem u16_fit {n : Int} (h : (Lit.int .u16 n).wf = true) : 0 ≤ n ∧ n ≤ 65535 := by simpa [Lit.wf, IntKind.min, IntKind.max, IntKind.signed, IntKind.bits] using h
theorem u8_fit {n : Int} (h : (Lit.int .u8 n).wf = true) : 0 ≤ n ∧ n ≤ 255 := by simpa [Lit.wf, IntKind.min, IntKind.max, IntKind.signed, IntKind.bits] using h
theorem cells_ent {n : Nat} {cs : List Value} {x : DataW H × List MemPlace} (h : DataW.trod enc Tryd.prog w base spare held n 24 cs = some x) :
    ∃ a : Ent, cs = [.string a.key, .int .i64 a.time, .int .u16 a.org, .string a.val, .int .i64 a.til] ∧ a.Fit ∧ x.1 = .agg [.lit (.string a.key.data.toList), .lit (.int .i64 a.time), .lit (.int .u16 a.org), .lit (.string a.val.data.toList), .lit (.int .i64 a.til)] := by
  obtain ⟨xs, m, _, hx, hlen, hxs, hf⟩ := DataW.trod_struct Tryd.underlying24 h
  rw [show Tryd.prog.cellsOf 24 = 5 by kernel_rfl] at hlen
  match cs, hlen with
  | [c0, c1, c2, c3, c4], _ =>
    match xs, hxs with
    | [x0, x1, x2, x3, x4], _ =>
      have f0 := hf 0 _ rfl
      have f1 := hf 1 _ rfl
      have f2 := hf 2 _ rfl
      have f3 := hf 3 _ rfl
      have f4 := hf 4 _ rfl
      simp [show Tryd.prog.cellsOf 9 = 1 by kernel_rfl, show Tryd.prog.cellsOf 3 = 1 by kernel_rfl, show Tryd.prog.cellsOf 22 = 1 by kernel_rfl] at f0 f1 f2 f3 f4
      obtain ⟨s0, e0, y0, z0⟩ := DataW.trod_string Tryd.underlying9 f0
      obtain ⟨n1, e1, y1, z1⟩ := DataW.trod_int Tryd.underlying3 f1
      obtain ⟨n2, e2, y2, z2⟩ := DataW.trod_int Tryd.underlying22 f2
      obtain ⟨s3, e3, y3, z3⟩ := DataW.trod_string Tryd.underlying9 f3
      obtain ⟨n4, e4, y4, z4⟩ := DataW.trod_int Tryd.underlying3 f4
      simp only [List.cons.injEq, and_true] at e0 e1 e2 e3 e4
      subst e0 e1 e2 e3 e4 y0 y1 y2 y3 y4
      exact ⟨⟨s0, n1, n2, s3, n4⟩, rfl, ⟨by simpa [maxLen] using z0, by simpa [maxLen] using z3, (i64_fit z1).1, (i64_fit z1).2, (u16_fit z2).1, (u16_fit z2).2, (i64_fit z4).1, (i64_fit z4).2⟩, by rw [hx]; rfl⟩
theorem open_ent {r : Reach} {b0 : Nat} {v : Value} {d : DataW H} {p : List MemPlace} (hv : Value.okWide Tryd.prog w r b0 24 v) (h : DataW.Trod enc Tryd.prog w base spare held 24 v d p) :
    ∃ a : Ent, v = .agg #[.string a.key, .int .i64 a.time, .int .u16 a.org, .string a.val, .int .i64 a.til] ∧ a.Fit ∧ d = .agg [.lit (.string a.key.data.toList), .lit (.int .i64 a.time), .lit (.int .u16 a.org), .lit (.string a.val.data.toList), .lit (.int .i64 a.til)] := by
  obtain ⟨cs, rfl, hsz⟩ := okWide_struct Tryd.underlying24 hv
  obtain ⟨fuel, hf⟩ := h
  obtain ⟨a, hc, hfit, hd⟩ := cells_ent hf
  refine ⟨a, ?_, hfit, hd⟩
  have : cs = #[.string a.key, .int .i64 a.time, .int .u16 a.org, .string a.val, .int .i64 a.til] := by
    apply Array.toList_inj.1
    exact hc
  rw [this]
end
end Go.Proofs.YtgclhkknkppmbaaDoor
