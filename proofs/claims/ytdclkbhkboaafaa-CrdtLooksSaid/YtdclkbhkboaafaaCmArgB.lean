/- How the Spot of CrdtLooks is opened. -/
import Derived.Test.YtdclkbhkboaafaaCmArg
namespace Go.Proofs.Ytdclkbhkboaafaa
open Go.ChangeShapes Go.WideShapes Go.RowKit Go.Deep
set_option linter.unusedVariables false
set_option maxRecDepth 100000
section
variable {H : Type} {enc : TypeId × Value → H} {w : World} {base : Nat} {spare : Nat → Bool} {held : Bool}
theorem open_spot {r : Reach} {b0 : Nat} {v : Value} {d : DataW H} {p : List MemPlace} (hv : Value.okWide Try.prog w r b0 49 v) (h : DataW.Trod enc Try.prog w base spare held 49 v d p) :
    ∃ (k : ByteArray) (n : Int), v = .agg #[.string k, .int .i64 n] ∧ k.size ≤ 9223372036854775807 := by
  obtain ⟨cs, rfl, hsz⟩ := okWide_struct Try.underlying49 hv
  obtain ⟨fuel, hf⟩ := h
  obtain ⟨xs, m, _, hx, hlen, hxs, hg⟩ := DataW.trod_struct Try.underlying49 hf
  rw [show Try.prog.cellsOf 49 = 2 by kernel_rfl] at hsz
  obtain ⟨l⟩ := cs
  match l, hsz with
  | [c0, c1], _ =>
    match xs, hxs with
    | [x0, x1], _ =>
      have f0 := hg 0 _ rfl
      have f1 := hg 1 _ rfl
      simp [Value.cells, show Try.prog.cellsOf 9 = 1 by kernel_rfl, show Try.prog.cellsOf 3 = 1 by kernel_rfl] at f0 f1
      obtain ⟨s0, e0, y0, z0⟩ := DataW.trod_string Try.underlying9 f0
      obtain ⟨n1, e1, y1, z1⟩ := DataW.trod_int Try.underlying3 f1
      simp only [List.cons.injEq, and_true] at e0 e1
      subst e0 e1
      exact ⟨s0, n1, rfl, by simpa [maxLen] using z0⟩
end
end Go.Proofs.Ytdclkbhkboaafaa
