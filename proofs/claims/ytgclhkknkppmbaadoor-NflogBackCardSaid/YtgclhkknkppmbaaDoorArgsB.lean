/- How the arguments of the nflog rows are opened. -/
import Derived.Test.YtgclhkknkppmbaaDoorArgs
import Derived.Test.YtgclhkknkppmbaaDoorNflB
namespace Go.Proofs.YtgclhkknkppmbaaDoor
open Go.ChangeShapes Go.WideShapes Go.RowKit Go.Deep
set_option linter.unusedVariables false
set_option maxRecDepth 100000
section
variable {H : Type} {enc : TypeId × Value → H} {w : World} {base : Nat} {spare : Nat → Bool} {held : Bool}
structure SpotFit (rev : ByteArray) (now rep : Int) : Prop where
  r : rev.size ≤ 9223372036854775807
  n0 : -9223372036854775808 ≤ now
  n1 : now ≤ 9223372036854775807
  p0 : -9223372036854775808 ≤ rep
  p1 : rep ≤ 9223372036854775807
theorem open_spot {r : Reach} {b0 : Nat} {v : Value} {d : DataW H} {p : List MemPlace} (hv : Value.okWide Tryd.prog w r b0 43 v) (h : DataW.Trod enc Tryd.prog w base spare held 43 v d p) :
    ∃ a : ByteArray × Int × Int, v = .agg #[.string a.1, .int .i64 a.2.1, .int .i64 a.2.2] ∧ SpotFit a.1 a.2.1 a.2.2 ∧ d = .agg [.lit (.string a.1.data.toList), .lit (.int .i64 a.2.1), .lit (.int .i64 a.2.2)] := by
  obtain ⟨cs, rfl, hsz⟩ := okWide_struct Tryd.underlying43 hv
  obtain ⟨fuel, hf⟩ := h
  obtain ⟨xs, m, _, hx, hlen, hxs, hg⟩ := DataW.trod_struct Tryd.underlying43 hf
  rw [show Tryd.prog.cellsOf 43 = 3 by kernel_rfl] at hsz
  obtain ⟨l⟩ := cs
  match l, hsz with
  | [c0, c1, c2], _ =>
    match xs, hxs with
    | [x0, x1, x2], _ =>
      have f0 := hg 0 _ rfl
      have f1 := hg 1 _ rfl
      have f2 := hg 2 _ rfl
      simp [Value.cells, show Tryd.prog.cellsOf 9 = 1 by kernel_rfl, show Tryd.prog.cellsOf 3 = 1 by kernel_rfl] at f0 f1 f2
      obtain ⟨s0, e0, y0, z0⟩ := DataW.trod_string Tryd.underlying9 f0
      obtain ⟨n1, e1, y1, z1⟩ := DataW.trod_int Tryd.underlying3 f1
      obtain ⟨n2, e2, y2, z2⟩ := DataW.trod_int Tryd.underlying3 f2
      simp only [List.cons.injEq, and_true] at e0 e1 e2
      subst e0 e1 e2 y0 y1 y2
      simp only [Prod.mk.injEq] at hx
      exact ⟨(s0, n1, n2), rfl, ⟨by simpa [maxLen] using z0, (i64_fit z1).1, (i64_fit z1).2, (i64_fit z2).1, (i64_fit z2).2⟩, by simpa using hx.1⟩
structure Snd.Fit (s : Snd) : Prop where
  r : s.rcv.size ≤ 9223372036854775807
  k : s.key.size ≤ 9223372036854775807
  v : s.rev.size ≤ 9223372036854775807
  a0 : -9223372036854775808 ≤ s.at_
  a1 : s.at_ ≤ 9223372036854775807
theorem open_send {r : Reach} {b0 : Nat} {v : Value} {d : DataW H} {p : List MemPlace} (hv : Value.okWide Tryd.prog w r b0 35 v) (h : DataW.Trod enc Tryd.prog w base spare held 35 v d p) :
    ∃ a : Snd, v = .agg #[.string a.rcv, .string a.key, .string a.rev, .int .i64 a.at_] ∧ a.Fit ∧ d = .agg [.lit (.string a.rcv.data.toList), .lit (.string a.key.data.toList), .lit (.string a.rev.data.toList), .lit (.int .i64 a.at_)] := by
  obtain ⟨cs, rfl, hsz⟩ := okWide_struct Tryd.underlying35 hv
  obtain ⟨fuel, hf⟩ := h
  obtain ⟨xs, m, _, hx, hlen, hxs, hg⟩ := DataW.trod_struct Tryd.underlying35 hf
  rw [show Tryd.prog.cellsOf 35 = 4 by kernel_rfl] at hsz
  obtain ⟨l⟩ := cs
  match l, hsz with
  | [c0, c1, c2, c3], _ =>
    match xs, hxs with
    | [x0, x1, x2, x3], _ =>
      have f0 := hg 0 _ rfl
      have f1 := hg 1 _ rfl
      have f2 := hg 2 _ rfl
      have f3 := hg 3 _ rfl
      simp [Value.cells, show Tryd.prog.cellsOf 9 = 1 by kernel_rfl, show Tryd.prog.cellsOf 3 = 1 by kernel_rfl] at f0 f1 f2 f3
      obtain ⟨s0, e0, y0, z0⟩ := DataW.trod_string Tryd.underlying9 f0
      obtain ⟨s1, e1, y1, z1⟩ := DataW.trod_string Tryd.underlying9 f1
      obtain ⟨s2, e2, y2, z2⟩ := DataW.trod_string Tryd.underlying9 f2
      obtain ⟨n3, e3, y3, z3⟩ := DataW.trod_int Tryd.underlying3 f3
      simp only [List.cons.injEq, and_true] at e0 e1 e2 e3
      subst e0 e1 e2 e3 y0 y1 y2 y3
      simp only [Prod.mk.injEq] at hx
      exact ⟨⟨s0, s1, s2, n3⟩, rfl, ⟨by simpa [maxLen] using z0, by simpa [maxLen] using z1, by simpa [maxLen] using z2, (i64_fit z3).1, (i64_fit z3).2⟩, by simpa using hx.1⟩
end
end Go.Proofs.YtgclhkknkppmbaaDoor
