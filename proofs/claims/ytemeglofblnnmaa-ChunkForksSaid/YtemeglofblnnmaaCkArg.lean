/- The arguments of layer 31's statements. -/
import Derived.Test.YtemeglofblnnmaaJn
import Derived.ChangeSlices
import Derived.ProofKit
import Derived.OpenShut
import Derived.ShutString
import Derived.Deep.Fields
import Derived.ChangeArms
import Derived.SizedLaws
namespace Go.Proofs.Ytemeglofblnnmaa
open Go.ChangeShapes Go.WideShapes Go.RowKit Go.Deep Go.Lib
set_option linter.unusedVariables false
set_option maxRecDepth 100000
section
variable {H : Type} {enc : TypeId × Value → H} {w : World} {base : Nat} {spare : Nat → Bool} {held : Bool}
theorem byt_fit {n : Int} (h : (Lit.int .u8 n).wf = true) : 0 ≤ n ∧ n ≤ 255 := by simpa [Lit.wf, IntKind.min, IntKind.max, IntKind.signed, IntKind.bits] using h
structure Byt where
  a : Option Addr
  c : Nat
  l : List UInt8
structure Byt.Fit (w : World) (b : Byt) : Prop where
  len : b.l.length ≤ b.c
  cap : b.c ≤ 9223372036854775807
  src : Src w (fun k => k < w.heap.size) 1 b.a b.l.length (byteCs b.l)
theorem open_bytes {r : Reach} {b0 : Nat} {v : Value} {d : DataW H} {p : List MemPlace} (hv : Value.okWide Try.prog w r b0 22 v) (h : DataW.Trod enc Try.prog w base spare held 22 v d p) :
    ∃ b : Byt, v = .slice b.a b.l.length b.c ∧ b.Fit w ∧ (d = .nil ∧ b.l = [] ∨ ∃ elems spare, d = .slice elems spare ∧ elems.length = b.l.length) := by
  obtain ⟨a, len, cap, rfl⟩ := okWide_slice Try.underlying22 hv
  obtain ⟨fuel, hf⟩ := h
  rcases open_ints Try.underlying22 Try.underlying5 (by kernel_rfl) hf with ⟨hcs, hd⟩ | ⟨x, len', cap', zs, hcs, _, hl, hm, hz, hd, hcell, hwz⟩
  · simp [Value.cells] at hcs
    obtain ⟨rfl, rfl, rfl⟩ := hcs
    exact ⟨⟨none, 0, []⟩, rfl, ⟨by simp, by simp, Src.none_ _ _ _ _⟩, .inl ⟨(Prod.mk.inj hd).1, rfl⟩⟩
  · simp [Value.cells] at hcs
    obtain ⟨rfl, rfl, rfl⟩ := hcs
    have hzl : len ≤ zs.length := by rw [hz]; split <;> omega
    have hlen : ((zs.take len).map fun n => UInt8.ofNat n.toNat).length = len := by rw [List.length_map, List.length_take]; omega
    have hm2 : cap ≤ 9223372036854775807 := by simpa [maxLen] using hm
    refine ⟨⟨some x, cap, (zs.take len).map fun n => UInt8.ofNat n.toNat⟩, by rw [hlen], ⟨by rw [hlen]; exact hl, by simp only; omega, ?_⟩, .inr ⟨_, _, (Prod.mk.inj hd).1, by rw [hlen]; simp [lits, List.length_take]; omega⟩⟩
    simp only
    rw [hlen]
    refine ⟨by rw [byteCs, List.length_map, hlen, Nat.mul_one], fun hn => ?_⟩
    have h0 := hcell 0 (by omega)
    refine ⟨x, rfl, ?_, ?_, fun j u hu => ?_⟩
    · have := World.block_lt_of_cell? w _ h0
      rwa [block_add] at this
    · have := World.block_lt_of_cell? w _ h0
      rwa [block_add] at this
    · rw [byteCs, List.getElem?_map, List.getElem?_map, List.getElem?_take] at hu
      split at hu
      · rename_i hj
        have hjz : j < zs.length := by omega
        rw [hcell j hjz]
        rw [List.getElem?_eq_getElem hjz] at hu
        simp only [Option.map_some, Option.some.injEq] at hu
        rw [← hu]
        have hb := byt_fit (hwz zs[j] (List.getElem_mem hjz))
        have : (zs.getD j 0) = zs[j] := by simp [List.getD, hjz]
        rw [this]
        congr 2
        rw [UInt8.toNat_ofNat']
        omega
      · cases hu
theorem Byt.Fit.bs {b : Byt} (h : b.Fit w) : BsAt w (fun k => k < w.heap.size) (.slice b.a b.l.length b.c) b.l := ⟨b.a, b.c, rfl, h.src, h.len, by simpa [maxLen] using h.cap⟩
theorem trod_array2 {P : Program} {t e : TypeId} {fuel : Nat} {c0 c1 : Value} {x : DataW H × List MemPlace} (ht : P.underlying t = some (.array 2 e)) (hce : P.cellsOf e = 1)
    (h : DataW.trod enc P w base spare held fuel t [c0, c1] = some x) :
    ∃ y0 y1 n, x = (.agg [y0.1, y1.1], y0.2 ++ y1.2) ∧ DataW.trod enc P w base spare held n e [c0] = some y0 ∧ DataW.trod enc P w base spare held n e [c1] = some y1 := by
  cases fuel with
  | zero => simp [DataW.trod] at h
  | succ n =>
    unfold DataW.trod at h
    rw [ht] at h
    have r2 : List.range 2 = [0, 1] := rfl
    simp [r2, hce] at h
    obtain ⟨_, h⟩ := h
    cases h0 : DataW.trod enc P w base spare held n e [c0] with
    | none => simp [h0] at h
    | some y0 =>
      cases h1 : DataW.trod enc P w base spare held n e [c1] with
      | none => simp [h0, h1] at h
      | some y1 =>
        simp [h0, h1] at h
        exact ⟨y0, y1, n, h.symm, h0, h1⟩
theorem open_two {r : Reach} {b0 : Nat} {v : Value} {d : DataW H} {p : List MemPlace} (hv : Value.okWide Try.prog w r b0 36 v) (h : DataW.Trod enc Try.prog w base spare held 36 v d p) :
    ∃ (x y : Int), v = .agg #[.int .u8 x, .int .u8 y] ∧ (0 ≤ x ∧ x < 256) ∧ (0 ≤ y ∧ y < 256) := by
  have hu := Try.underlying36
  have hv2 := hv
  simp only [Value.okWide, hu] at hv2
  obtain ⟨cs, rfl, hsz, _⟩ := hv2
  obtain ⟨fuel, hf⟩ := h
  rw [show Try.prog.cellsOf 36 = 2 by kernel_rfl] at hsz
  obtain ⟨l⟩ := cs
  match l, hsz with
  | [c0, c1], _ =>
    obtain ⟨y0, y1, n, _, g0, g1⟩ := trod_array2 hu (by kernel_rfl) (by simpa [Value.cells] using hf)
    obtain ⟨n0, e0, w0, z0⟩ := DataW.trod_int Try.underlying5 g0
    obtain ⟨n1, e1, w1, z1⟩ := DataW.trod_int Try.underlying5 g1
    simp only [List.cons.injEq, and_true] at e0 e1
    subst e0 e1
    have f0 := byt_fit z0
    have f1 := byt_fit z1
    exact ⟨n0, n1, rfl, by omega, by omega⟩
end
end Go.Proofs.Ytemeglofblnnmaa
