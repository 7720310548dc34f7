/- Pairs as arguments; how long a text may be. -/
import Derived.Test.YtgclhkknkppmbaaDoorArgsB
import Derived.SizedLaws
namespace Go.Proofs.YtgclhkknkppmbaaDoor
open Go.ChangeShapes Go.WideShapes Go.RowKit Go.Deep
set_option linter.unusedVariables false
set_option maxRecDepth 100000
section
variable {H : Type} {enc : TypeId × Value → H} {w : World} {base : Nat} {spare : Nat → Bool} {held : Bool}
theorem sized_at {ts : List TypeId} {ds : List (DataW H)} (h : (DataW.weightsEach Tryd.prog ts ds).all (· ≤ reachBytes) = true) {j : Nat} {t : TypeId} {d : DataW H} (ht : ts[j]? = some t) (hd : ds[j]? = some d) (x : Nat) (hx : x ∈ DataW.weights Tryd.prog t d) : x ≤ 140737488351232 := by
  have := List.all_eq_true.1 h _ (DataW.weights_mem_each ht hd x hx)
  exact of_decide_eq_true this
theorem okWide_array2 {t e : TypeId} {n : Nat} {r : Reach} {b0 : Nat} {v : Value} (ht : Tryd.prog.underlying t = some (.array n e)) (h : Value.okWide Tryd.prog w r b0 t v) : ∃ cs, v = .agg cs ∧ cs.size = Tryd.prog.cellsOf t := by
  simp only [Value.okWide, ht] at h
  obtain ⟨cs, h1, h2, _⟩ := h
  exact ⟨cs, h1, h2⟩
theorem open_arr2s {r : Reach} {b0 : Nat} {v : Value} {d : DataW H} {p : List MemPlace} (hv : Value.okWide Tryd.prog w r b0 46 v) (h : DataW.Trod enc Tryd.prog w base spare held 46 v d p) :
    ∃ a : ByteArray × ByteArray, v = .agg #[.string a.1, .string a.2] ∧ (a.1.size ≤ 9223372036854775807 ∧ a.2.size ≤ 9223372036854775807) ∧ d = .agg [.lit (.string a.1.data.toList), .lit (.string a.2.data.toList)] := by
  obtain ⟨cs, rfl, hsz⟩ := okWide_array2 Tryd.underlying46 hv
  obtain ⟨fuel, hf⟩ := h
  obtain ⟨xs, m, _, hx, hlen, hxs, hg⟩ := DataW.trod_array Tryd.underlying46 hf
  rw [show Tryd.prog.cellsOf 46 = 2 by kernel_rfl] at hsz
  obtain ⟨l⟩ := cs
  match l, hsz with
  | [c0, c1], _ =>
    match xs, hxs with
    | [x0, x1], _ =>
      have f0 := hg 0 (by decide)
      have f1 := hg 1 (by decide)
      simp [Value.cells, show Tryd.prog.cellsOf 9 = 1 by kernel_rfl] at f0 f1
      obtain ⟨s0, e0, y0, z0⟩ := DataW.trod_string Tryd.underlying9 f0
      obtain ⟨s1, e1, y1, z1⟩ := DataW.trod_string Tryd.underlying9 f1
      simp only [List.cons.injEq, and_true] at e0 e1
      subst e0 e1 y0 y1
      simp only [Prod.mk.injEq] at hx
      exact ⟨(s0, s1), rfl, ⟨by simpa [maxLen] using z0, by simpa [maxLen] using z1⟩, by simpa using hx.1⟩
theorem sized_arr2s {ts : List TypeId} {ds : List (DataW H)} (h : (DataW.weightsEach Tryd.prog ts ds).all (· ≤ reachBytes) = true) {j : Nat} {d : DataW H} (ht : ts[j]? = some 46) (hd : ds[j]? = some d) {a b : ByteArray} (he : d = .agg [.lit (.string a.data.toList), .lit (.string b.data.toList)]) :
    a.size ≤ 140737488351232 ∧ b.size ≤ 140737488351232 := by
  subst he
  have hw : DataW.weights Tryd.prog 46 (H := H) (.agg [.lit (.string a.data.toList), .lit (.string b.data.toList)]) = [a.data.toList.length, b.data.toList.length] := by
    simp [DataW.weights, DataW.weightsAll, Tryd.underlying46]
  exact ⟨sized_at h ht hd a.data.toList.length (by rw [hw]; simp), sized_at h ht hd b.data.toList.length (by rw [hw]; simp)⟩
theorem open_arr2b {r : Reach} {b0 : Nat} {v : Value} {d : DataW H} {p : List MemPlace} (hv : Value.okWide Tryd.prog w r b0 49 v) (h : DataW.Trod enc Tryd.prog w base spare held 49 v d p) :
    ∃ a : Bool × Bool, v = .agg #[.bool a.1, .bool a.2] ∧ True ∧ d = .agg [.lit (.bool a.1), .lit (.bool a.2)] := by
  obtain ⟨cs, rfl, hsz⟩ := okWide_array2 Tryd.underlying49 hv
  obtain ⟨fuel, hf⟩ := h
  obtain ⟨xs, m, _, hx, hlen, hxs, hg⟩ := DataW.trod_array Tryd.underlying49 hf
  rw [show Tryd.prog.cellsOf 49 = 2 by kernel_rfl] at hsz
  obtain ⟨l⟩ := cs
  match l, hsz with
  | [c0, c1], _ =>
    match xs, hxs with
    | [x0, x1], _ =>
      have f0 := hg 0 (by decide)
      have f1 := hg 1 (by decide)
      simp [Value.cells, show Tryd.prog.cellsOf 4 = 1 by kernel_rfl] at f0 f1
      obtain ⟨s0, e0, y0⟩ := DataW.trod_bool Tryd.underlying4 f0
      obtain ⟨s1, e1, y1⟩ := DataW.trod_bool Tryd.underlying4 f1
      simp only [List.cons.injEq, and_true] at e0 e1
      subst e0 e1 y0 y1
      simp only [Prod.mk.injEq] at hx
      exact ⟨(s0, s1), rfl, trivial, by simpa using hx.1⟩
theorem u32_fit {n : Int} (h : (Lit.int .u32 n).wf = true) : 0 ≤ n ∧ n ≤ 4294967295 := by simpa [Lit.wf, IntKind.min, IntKind.max, IntKind.signed, IntKind.bits] using h
end
end Go.Proofs.YtgclhkknkppmbaaDoor
