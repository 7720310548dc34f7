/- A slice of bytes as an argument; what the bound on the bulk says. -/
import Derived.Test.YtgclhkknkppmbaaDoorArgsC
import Derived.Test.YtgclhkknkppmbaaDoorStr
import Derived.ChangeSlices
namespace Go.Proofs.YtgclhkknkppmbaaDoor
open Go.ChangeShapes Go.WideShapes Go.RowKit Go.Deep Go.Lib
set_option linter.unusedVariables false
set_option maxRecDepth 100000
section
variable {H : Type} {enc : TypeId × Value → H} {w : World} {base : Nat} {spare : Nat → Bool} {held : Bool}
/-- Bytes that came in: where they lie, how much room, what they are. -/
structure Byt where
  a : Option Addr
  c : Nat
  l : List UInt8
structure Byt.Fit (w : World) (b : Byt) : Prop where
  len : b.l.length ≤ b.c
  cap : b.c ≤ 9223372036854775807
  src : Src w (fun k => k < w.heap.size) 1 b.a b.l.length (byteCells b.l)
theorem open_bytes {r : Reach} {b0 : Nat} {v : Value} {d : DataW H} {p : List MemPlace} (hv : Value.okWide Tryd.prog w r b0 53 v) (h : DataW.Trod enc Tryd.prog w base spare held 53 v d p) :
    ∃ b : Byt, v = .slice b.a b.l.length b.c ∧ b.Fit w ∧ b.l.length ≤ 9223372036854775807 := by
  obtain ⟨a, len, cap, rfl⟩ := okWide_slice Tryd.underlying53 hv
  obtain ⟨fuel, hf⟩ := h
  rcases open_ints Tryd.underlying53 Tryd.underlying5 (by kernel_rfl) hf with ⟨hcs, _⟩ | ⟨x, len', cap', zs, hcs, _, hl, hm, hz, _, hcell, hwz⟩
  · simp [Value.cells] at hcs
    obtain ⟨rfl, rfl, rfl⟩ := hcs
    exact ⟨⟨none, 0, []⟩, rfl, ⟨by simp, by simp, Src.none_ _ _ _ _⟩, by simp⟩
  · simp [Value.cells] at hcs
    obtain ⟨rfl, rfl, rfl⟩ := hcs
    have hzl : len ≤ zs.length := by rw [hz]; split <;> omega
    have hlen : ((zs.take len).map fun n => UInt8.ofNat n.toNat).length = len := by rw [List.length_map, List.length_take]; omega
    have hm2 : cap ≤ 9223372036854775807 := by simpa [maxLen] using hm
    refine ⟨⟨some x, cap, (zs.take len).map fun n => UInt8.ofNat n.toNat⟩, by rw [hlen], ⟨by rw [hlen]; exact hl, by simp only; omega, ?_⟩, by rw [hlen]; omega⟩
    simp only
    rw [hlen]
    refine ⟨by rw [byteCells, List.length_map, hlen, Nat.mul_one], fun hn => ?_⟩
    have h0 := hcell 0 (by omega)
    refine ⟨x, rfl, ?_, ?_, fun j u hu => ?_⟩
    · have := World.block_lt_of_cell? w _ h0
      rwa [block_add] at this
    · have := World.block_lt_of_cell? w _ h0
      rwa [block_add] at this
    · rw [byteCells, List.getElem?_map, List.getElem?_map, List.getElem?_take] at hu
      split at hu
      · rename_i hj
        have hjz : j < zs.length := by omega
        rw [hcell j hjz]
        rw [List.getElem?_eq_getElem hjz] at hu
        simp only [Option.map_some, Option.some.injEq] at hu
        rw [← hu]
        have hb := u8_fit (hwz zs[j] (List.getElem_mem hjz))
        have : (zs.getD j 0) = zs[j] := by simp [List.getD, hjz]
        rw [this]
        congr 2
        rw [UInt8.toNat_ofNat']
        omega
      · cases hu
end
end Go.Proofs.YtgclhkknkppmbaaDoor
