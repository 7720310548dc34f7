/- The arguments of layer 31's door statements: a part. -/
import Derived.Test.YtemeglofblnnmaaDoorCkArgZ
import Derived.Test.YtemeglofblnnmaaDoorJnA
import Derived.Deep.Slices
import Derived.ChangeOld
namespace Go.Proofs.YtemeglofblnnmaaDoor
open Go.ChangeShapes Go.WideShapes Go.ChangeAt Go.RowKit Go.Deep Go.Lib
set_option linter.unusedVariables false
set_option maxRecDepth 100000
section
variable {H : Type} {enc : TypeId × Value → H} {w : World} {base : Nat} {spare : Nat → Bool} {held : Bool}
theorem bs_of_trod' {fuel : Nat} {cs : List Value} {x : DataW H × List MemPlace} (h : DataW.trod enc Tryd.prog w base spare held fuel 22 cs = some x) :
    ∃ v l, cs = [v] ∧ BsAt w (fun j => j < w.heap.size) v l := by
  rcases open_ints Tryd.underlying22 Tryd.underlying5 (by kernel_rfl) h with ⟨hcs, _⟩ | ⟨x, len, c, zs, hcs, _, hl, hm, hz, _, hc, hwz⟩
  · exact ⟨_, [], hcs, BsAt.nil _ _⟩
  · have hzl : len ≤ zs.length := by rw [hz]; split <;> omega
    have hlen : ((zs.take len).map fun n => UInt8.ofNat n.toNat).length = len := by rw [List.length_map, List.length_take]; omega
    refine ⟨_, (zs.take len).map fun n => UInt8.ofNat n.toNat, hcs, some x, c, by rw [hlen], ?_, by rw [hlen]; exact hl, hm⟩
    rw [hlen]
    refine ⟨by rw [byteCs, List.length_map, hlen, Nat.mul_one], fun hn => ?_⟩
    have h0 := hc 0 (by omega)
    have hlt := World.block_lt_of_cell? w _ h0
    rw [block_add] at hlt
    refine ⟨x, rfl, hlt, hlt, fun j u hu => ?_⟩
    rw [byteCs, List.getElem?_map, List.getElem?_map, List.getElem?_take] at hu
    split at hu
    · rename_i hj
      have hjz : j < zs.length := by omega
      rw [hc j hjz]
      rw [List.getElem?_eq_getElem hjz] at hu
      simp only [Option.map_some, Option.some.injEq] at hu
      rw [← hu]
      have hb := byt_fit (hwz zs[j] (List.getElem_mem hjz))
      have : (zs.getD j 0) = zs[j] := by simp [List.getD, hjz]
      rw [this]
      congr 2
      rw [UInt8.toNat_ofNat']
      omega
    · cases hu
/-- A part as an argument. -/
structure PtArg where
  p : Pt
  a : Option Addr
  c : Nat
theorem open_part {r : Reach} {b0 : Nat} {v : Value} {d : DataW H} {p : List MemPlace} (hv : Value.okWide Tryd.prog w r b0 24 v) (h : DataW.Trod enc Tryd.prog w base spare held 24 v d p) :
    ∃ b : PtArg, v = .agg #[.int .i64 b.p.id, .int .i64 b.p.idx, .int .i64 b.p.cnt, .slice b.a b.p.bs.length b.c] ∧ BsAt w (fun j => j < w.heap.size) (.slice b.a b.p.bs.length b.c) b.p.bs ∧ True := by
  obtain ⟨cs, rfl, hsz⟩ := okWide_struct Tryd.underlying24 hv
  obtain ⟨fuel, ht⟩ := h
  obtain ⟨zs, n2, _, hy2, hlen2, hzl, hf2⟩ := DataW.trod_struct Tryd.underlying24 ht
  have k2 : Tryd.prog.cellsOf 3 = 1 := by kernel_rfl
  have k3 : Tryd.prog.cellsOf 22 = 1 := by kernel_rfl
  rw [show Tryd.prog.cellsOf 24 = 4 by kernel_rfl] at hlen2
  have hzl4 : zs.length = 4 := hzl
  have hcl : cs.toList.length = 4 := hlen2
  obtain ⟨L, hL⟩ : ∃ L, cs.toList = L := ⟨_, rfl⟩
  obtain rfl : cs = L.toArray := by rw [← hL]
  have hL2 : (Value.agg L.toArray).cells.toList = L := by simp [Value.cells]
  rw [hL2] at hf2
  rw [hL] at hcl
  match L, hcl, zs, hzl4 with
  | [u0, u1, u2, u3], _, [z0, z1, z2, z3], _ =>
    have g0 := hf2 0 _ rfl
    have g1 := hf2 1 _ rfl
    have g2 := hf2 2 _ rfl
    have g3 := hf2 3 _ rfl
    simp [k2, k3] at g0 g1 g2 g3
    obtain ⟨n1, e1, _, w1⟩ := DataW.trod_int Tryd.underlying3 g0
    obtain ⟨n2', e2, _, w2⟩ := DataW.trod_int Tryd.underlying3 g1
    obtain ⟨n3, e3, _, w3⟩ := DataW.trod_int Tryd.underlying3 g2
    obtain ⟨v4, l4, e4, hbs⟩ := bs_of_trod' g3
    simp at e1 e2 e3 e4
    subst e1 e2 e3 e4
    obtain ⟨A, c, rfl, hh⟩ := hbs
    exact ⟨⟨⟨n1, n2', n3, l4⟩, A, c⟩, rfl, ⟨A, c, rfl, hh⟩, trivial⟩
end
end Go.Proofs.YtemeglofblnnmaaDoor
