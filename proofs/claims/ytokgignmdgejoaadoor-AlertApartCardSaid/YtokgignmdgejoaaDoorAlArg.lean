/- The arguments of layer 7's statements: rows of small numbers. -/
import Derived.Test.YtokgignmdgejoaaDoorAlH
import Derived.ChangeSlices
import Derived.ProofKit
import Derived.OpenShut
import Derived.ShutString
import Derived.Deep.Fields
import Derived.ChangeArms
import Derived.SizedLaws
namespace Go.Proofs.YtokgignmdgejoaaDoor
open Go.ChangeShapes Go.WideShapes Go.RowKit Go.Deep Go.Lib
set_option linter.unusedVariables false
set_option maxRecDepth 100000
section
variable {H : Type} {enc : TypeId × Value → H} {w : World} {base : Nat} {spare : Nat → Bool} {held : Bool}
theorem u16w {n : Int} (h : (Lit.int .u16 n).wf = true) : 0 ≤ n ∧ n ≤ 65535 := by simpa [Lit.wf, IntKind.min, IntKind.max, IntKind.signed, IntKind.bits] using h
theorem open_u16s {r : Reach} {b0 : Nat} {v : Value} {d : DataW H} {p : List MemPlace} (hv : Value.okWide Tryd.prog w r b0 22 v) (h : DataW.Trod enc Tryd.prog w base spare held 22 v d p) :
    ∃ b : U16s, v = .slice b.a b.l.length b.c ∧ b.Fit w ∧ True := by
  obtain ⟨a, len, cap, rfl⟩ := okWide_slice Tryd.underlying22 hv
  obtain ⟨fuel, hf⟩ := h
  rcases open_ints Tryd.underlying22 Tryd.underlying29 (by kernel_rfl) hf with ⟨hcs, hd⟩ | ⟨x, len', cap', zs, hcs, _, hl, hm, hz, hd, hcell, hwz⟩
  · simp [Value.cells] at hcs
    obtain ⟨rfl, rfl, rfl⟩ := hcs
    exact ⟨⟨none, 0, []⟩, rfl, ⟨Src.none_ _ _ _ _, by simp, by simp⟩, trivial⟩
  · simp [Value.cells] at hcs
    obtain ⟨rfl, rfl, rfl⟩ := hcs
    have hzl : len ≤ zs.length := by rw [hz]; split <;> omega
    have hlen : (zs.take len).length = len := by rw [List.length_take]; omega
    have hm2 : cap ≤ 9223372036854775807 := by simpa [maxLen] using hm
    refine ⟨⟨some x, cap, zs.take len⟩, by rw [hlen], ⟨?_, fun z hz2 => u16w (hwz z (List.mem_of_mem_take hz2)), by rw [hlen]; omega⟩, trivial⟩
    simp only
    rw [hlen]
    refine ⟨by rw [List.length_map, hlen, Nat.mul_one], fun hn => ?_⟩
    have h0 := hcell 0 (by omega)
    refine ⟨x, rfl, ?_, ?_, fun j u hu => ?_⟩
    · have := World.block_lt_of_cell? w _ h0
      rwa [block_add] at this
    · have := World.block_lt_of_cell? w _ h0
      rwa [block_add] at this
    · rw [List.getElem?_map, List.getElem?_take] at hu
      split at hu
      · rename_i hj
        have hjz : j < zs.length := by omega
        rw [hcell j hjz]
        rw [List.getElem?_eq_getElem hjz] at hu
        simp only [Option.map_some, Option.some.injEq] at hu
        rw [← hu]
        have : (zs.getD j 0) = zs[j] := by simp [List.getD, hjz]
        rw [this]
      · cases hu
end
end Go.Proofs.YtokgignmdgejoaaDoor
