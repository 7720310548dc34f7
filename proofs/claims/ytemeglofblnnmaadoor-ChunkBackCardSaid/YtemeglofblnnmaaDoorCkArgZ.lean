/- XCkArg cut for the door seat (no two-byte array there). -/
import Derived.Test.YtemeglofblnnmaaDoorJn
import Derived.ChangeSlices
import Derived.ProofKit
import Derived.OpenShut
import Derived.ShutString
import Derived.Deep.Fields
import Derived.ChangeArms
import Derived.SizedLaws
namespace Go.Proofs.YtemeglofblnnmaaDoor
open Go.ChangeShapes Go.WideShapes Go.RowKit Go.Deep Go.Lib
set_option linter.unusedVariables false
set_option maxRecDepth 100000
section
variable {H : Type} {enc : TypeId × Value → H} {w : World} {base : Nat} {spare : Nat → Bool} {held : Bool}
theorem i64_fit {n : Int} (h : (Lit.int .i64 n).wf = true) : -9223372036854775808 ≤ n ∧ n ≤ 9223372036854775807 := by simpa [Lit.wf, IntKind.min, IntKind.max, IntKind.signed, IntKind.bits] using h
theorem u16_fit {n : Int} (h : (Lit.int .u16 n).wf = true) : 0 ≤ n ∧ n ≤ 65535 := by simpa [Lit.wf, IntKind.min, IntKind.max, IntKind.signed, IntKind.bits] using h
theorem u8_fit {n : Int} (h : (Lit.int .u8 n).wf = true) : 0 ≤ n ∧ n ≤ 255 := by simpa [Lit.wf, IntKind.min, IntKind.max, IntKind.signed, IntKind.bits] using h
theorem byt_fit {n : Int} (h : (Lit.int .u8 n).wf = true) : 0 ≤ n ∧ n ≤ 255 := by simpa [Lit.wf, IntKind.min, IntKind.max, IntKind.signed, IntKind.bits] using h
structure Byt where
  a : Option Addr
  c : Nat
  l : List UInt8
structure Byt.Fit (w : World) (b : Byt) : Prop where
  len : b.l.length ≤ b.c
  cap : b.c ≤ 9223372036854775807
  src : Src w (fun k => k < w.heap.size) 1 b.a b.l.length (byteCs b.l)
theorem open_bytes {r : Reach} {b0 : Nat} {v : Value} {d : DataW H} {p : List MemPlace} (hv : Value.okWide Tryd.prog w r b0 22 v) (h : DataW.Trod enc Tryd.prog w base spare held 22 v d p) :
    ∃ b : Byt, v = .slice b.a b.l.length b.c ∧ b.Fit w ∧ (d = .nil ∧ b.l = [] ∨ ∃ elems spare, d = .slice elems spare ∧ elems.length = b.l.length) := by
  obtain ⟨a, len, cap, rfl⟩ := okWide_slice Tryd.underlying22 hv
  obtain ⟨fuel, hf⟩ := h
  rcases open_ints Tryd.underlying22 Tryd.underlying5 (by kernel_rfl) hf with ⟨hcs, hd⟩ | ⟨x, len', cap', zs, hcs, _, hl, hm, hz, hd, hcell, hwz⟩
  · simp [Value.cells] at hcs
    obtain ⟨rfl, rfl, rfl⟩ := hcs
    exact ⟨⟨none, 0, []⟩, rfl, ⟨by simp, by simp, Src.none_ _ _ _ _⟩, .inl ⟨(Prod.mk.inj hd).1, rfl⟩⟩
  · simp [Value.cells] at hcs
    obtain ⟨rfl, rfl, rfl⟩ := hcs
    have hzl : len ≤ zs.length := by rw [hz]; split <;> omega
    have hlen : ((zs.take len).map fun n => UInt8.ofNat n.toNat).length = len := by rw [List.length_map, List.length_take]; omega
    have hm2 : cap ≤ 9223372036854775807 := by simpa [maxLen] using hm
    refine ⟨⟨some x, cap, (zs.take len).map fun n => UInt8.ofNat n.toNat⟩, by rw [hlen], ⟨by rw [hlen]; exact hl, by simp only; omega, ?_⟩, .inr ⟨_, _, (Prod.mk.inj hd).1, by rw [hlen]; simp [lits, List.length_take]; omega⟩⟩
    simp only
    rw [hlen]
    refine ⟨by rw [byteCs, List.length_map, hlen, Nat.mul_one], fun hn => ?_⟩
    have h0 := hcell 0 (by omega)
    refine ⟨x, rfl, ?_, ?_, fun j u hu => ?_⟩
    · have := World.block_lt_of_cell? w _ h0
      rwa [block_add] at this
    · have := World.block_lt_of_cell? w _ h0
      rwa [block_add] at this
    · rw [byteCs, List.getElem?_map, List.getElem?_map, List.getElem?_take] at hu
      split at hu
      · rename_i hj
        have hjz : j < zs.length := by omega
        rw [hcell j hjz]
        rw [List.getElem?_eq_getElem hjz] at hu
        simp only [Option.map_some, Option.some.injEq] at hu
        rw [← hu]
        have hb := byt_fit (hwz zs[j] (List.getElem_mem hjz))
        have : (zs.getD j 0) = zs[j] := by simp [List.getD, hjz]
        rw [this]
        congr 2
        rw [UInt8.toNat_ofNat']
        omega
      · cases hu
theorem Byt.Fit.bs {b : Byt} (h : b.Fit w) : BsAt w (fun k => k < w.heap.size) (.slice b.a b.l.length b.c) b.l := ⟨b.a, b.c, rfl, h.src, h.len, by simpa [maxLen] using h.cap⟩
theorem sized_byt {ts : List TypeId} {ds : List (DataW H)} (h : (DataW.weightsEach Tryd.prog ts ds).all (· ≤ reachBytes) = true) {j : Nat} {d : DataW H} (ht : ts[j]? = some 22) (hd : ds[j]? = some d) {l : List UInt8}
    (he : d = .nil ∧ l = [] ∨ ∃ elems spare, d = .slice elems spare ∧ elems.length = l.length) : l.length ≤ 140737488351232 := by
  rcases he with ⟨_, rfl⟩ | ⟨elems, spare, rfl, hl⟩
  · simp
  · have := sized_slice h ht hd Tryd.underlying22
    rw [show Tryd.prog.bytesOf 5 = 1 by kernel_rfl, Nat.mul_one] at this
    have e : reachBytes = 140737488351232 := by decide
    omega
end
end Go.Proofs.YtemeglofblnnmaaDoor
