/- An argument that is a list of parts and their senders, opened. -/
import Derived.Test.YtemeglofblnnmaaCkArg
import Derived.Test.YtemeglofblnnmaaRjE
import Derived.ChangeOld
import Derived.Deep.Slices
namespace Go.Proofs.Ytemeglofblnnmaa
open Go.ChangeShapes Go.WideShapes Go.ChangeAt Go.RowKit Go.Deep Go.Lib
set_option linter.unusedVariables false
set_option maxRecDepth 100000
section
variable {H : Type} {enc : TypeId × Value → H} {w : World} {base : Nat} {spare : Nat → Bool} {held : Bool}
theorem bs_of_trod {fuel : Nat} {cs : List Value} {x : DataW H × List MemPlace} (h : DataW.trod enc Try.prog w base spare held fuel 22 cs = some x) :
    ∃ v l, cs = [v] ∧ BsAt w (fun j => j < w.heap.size) v l := by
  rcases open_ints Try.underlying22 Try.underlying5 (by kernel_rfl) h with ⟨hcs, _⟩ | ⟨x, len, c, zs, hcs, _, hl, hm, hz, _, hc, hwz⟩
  · exact ⟨_, [], hcs, BsAt.nil _ _⟩
  · have hzl : len ≤ zs.length := by rw [hz]; split <;> omega
    have hlen : ((zs.take len).map fun n => UInt8.ofNat n.toNat).length = len := by rw [List.length_map, List.length_take]; omega
    refine ⟨_, (zs.take len).map fun n => UInt8.ofNat n.toNat, hcs, some x, c, by rw [hlen], ?_, by rw [hlen]; exact hl, hm⟩
    rw [hlen]
    refine ⟨by rw [byteCs, List.length_map, hlen, Nat.mul_one], fun hn => ?_⟩
    have h0 := hc 0 (by omega)
    have hlt := World.block_lt_of_cell? w _ h0
    rw [block_add] at hlt
    refine ⟨x, rfl, hlt, hlt, fun j u hu => ?_⟩
    rw [byteCs, List.getElem?_map, List.getElem?_map, List.getElem?_take] at hu
    split at hu
    · rename_i hj
      have hjz : j < zs.length := by omega
      rw [hc j hjz]
      rw [List.getElem?_eq_getElem hjz] at hu
      simp only [Option.map_some, Option.some.injEq] at hu
      rw [← hu]
      have hb := byt_fit (hwz zs[j] (List.getElem_mem hjz))
      have : (zs.getD j 0) = zs[j] := by simp [List.getD, hjz]
      rw [this]
      congr 2
      rw [UInt8.toNat_ofNat']
      omega
    · cases hu
structure Aks where
  a : Option Addr
  n : Nat
  c : Nat
  l : List Ak
theorem open_aks {r : Reach} {b0 : Nat} {v : Value} {d : DataW H} {p : List MemPlace} (hv : Value.okWide Try.prog w r b0 44 v) (h : DataW.Trod enc Try.prog w base spare held 44 v d p) :
    ∃ b : Aks, v = .slice b.a b.n b.c ∧ AksAt w (fun j => j < w.heap.size) b.a b.l ∧ b.l.length = b.n ∧ b.n ≤ 9223372036854775807 := by
  obtain ⟨a0, len0, cap0, rfl⟩ := okWide_slice Try.underlying44 hv
  obtain ⟨fuel, hf0⟩ := h
  rcases open_slice Try.underlying44 hf0 with ⟨hcs, _⟩ | ⟨a, len, cap, m, n, D, Pl, hcs, hb, hl, hm, hmm, hx, hi⟩
  · simp [Value.cells] at hcs
    obtain ⟨rfl, rfl, rfl⟩ := hcs
    exact ⟨⟨none, 0, 0, []⟩, rfl, fun h => absurd h (by simp), rfl, by simp⟩
  · simp [Value.cells] at hcs
    obtain ⟨rfl, rfl, rfl⟩ := hcs
    have hml : len0 ≤ m := by rw [hmm]; split <;> omega
    have hC : Try.prog.cellsOf 52 = 5 := by kernel_rfl
    rw [hC] at hi
    rcases Nat.eq_zero_or_pos len0 with h0 | h0
    · subst h0
      exact ⟨⟨some a, 0, cap0, []⟩, rfl, fun h => absurd h (by simp), rfl, by simp⟩
    · obtain ⟨b, o, spot⟩ := a
      have hspot : spot = none := by
        obtain ⟨cs', hc, _⟩ := hi 0 (by omega)
        obtain ⟨_, hcl, hat⟩ := World.cells?_some hc
        have h1 := hat 0 (by omega)
        rw [List.getElem?_eq_getElem (by omega)] at h1
        simpa [Addr.add] using World.cell?_spot h1
      subst hspot
      have hex : ∀ i, i < len0 → ∃ y : Ak, AkAt w (fun j => j < w.heap.size) b (o + i * 5) y := by
        intro i hil
        obtain ⟨cs', hc, ht⟩ := hi i (by omega)
        obtain ⟨_, hcl, hat⟩ := World.cells?_some hc
        obtain ⟨ys, n', _, hy, hlen, hyl, hf⟩ := DataW.trod_struct Try.underlying52 ht
        have hyl2 : ys.length = 2 := hyl
        match cs', hcl, ys, hyl2 with
        | [u0, u1, u2, u3, u4], _, [y0, y1], _ =>
          have f0 := hf 0 _ rfl
          have f1 := hf 1 _ rfl
          have k0 : Try.prog.cellsOf 37 = 1 := by kernel_rfl
          have k1 : Try.prog.cellsOf 33 = 4 := by kernel_rfl
          have k2 : Try.prog.cellsOf 3 = 1 := by kernel_rfl
          have k3 : Try.prog.cellsOf 22 = 1 := by kernel_rfl
          simp [k0, k1] at f0 f1
          obtain ⟨zs, n2, _, hy2, hlen2, hzl, hf2⟩ := DataW.trod_struct Try.underlying33 f1
          have hzl4 : zs.length = 4 := hzl
          match zs, hzl4 with
          | [z0, z1, z2, z3], _ =>
            have g0 := hf2 0 _ rfl
            have g1 := hf2 1 _ rfl
            have g2 := hf2 2 _ rfl
            have g3 := hf2 3 _ rfl
            simp [k2, k3] at g0 g1 g2 g3
            obtain ⟨kd, e0, _, w0⟩ := DataW.trod_int Try.underlying37 f0
            obtain ⟨n1, e1, _, w1⟩ := DataW.trod_int Try.underlying3 g0
            obtain ⟨n2', e2, _, w2⟩ := DataW.trod_int Try.underlying3 g1
            obtain ⟨n3, e3, _, w3⟩ := DataW.trod_int Try.underlying3 g2
            obtain ⟨v4, l4, e4, hbs⟩ := bs_of_trod g3
            simp at e0 e1 e2 e3 e4
            subst e0 e1 e2 e3 e4
            have hkd : 0 ≤ kd ∧ kd ≤ 65535 := by simpa [Lit.wf, IntKind.min, IntKind.max, IntKind.signed, IntKind.bits] using w0
            have c0 := hat 0 (by omega)
            have c1 := hat 1 (by omega)
            have c2 := hat 2 (by omega)
            have c3 := hat 3 (by omega)
            have c4 := hat 4 (by omega)
            simp only [add_plain'] at c0 c1 c2 c3 c4
            have c0' : w.cell? ⟨b, o + i * 5, none⟩ = some (.int .u16 kd) := by simpa using c0
            have hlt := World.block_lt_of_cell? w _ c0'
            exact ⟨⟨kd, ⟨n1, n2', n3, l4⟩, u4⟩, c0', by simpa using c1, by simpa using c2, by simpa using c3, by simpa using c4, hlt, hlt, hbs, hkd.1⟩
      obtain ⟨X, hX⟩ := choose_lt (α := Ak) (p := fun i y => AkAt w (fun j => j < w.heap.size) b (o + i * 5) y) hex
      refine ⟨⟨some ⟨b, o, none⟩, len0, cap0, (List.range len0).map X⟩, rfl, fun _ => ⟨b, o, rfl, fun k y hk => ?_⟩, by simp, by simp only [maxLen] at hm; simp only; omega⟩
      have hkl : k < len0 := by
        have := (List.getElem?_eq_some_iff.1 hk).1
        simpa using this
      simp [hkl] at hk
      subst hk
      exact hX k hkl
end
end Go.Proofs.Ytemeglofblnnmaa
