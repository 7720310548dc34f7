/- A slice of slices of bytes as an argument. -/
import Derived.Test.YtjdgmnaemopfdaaDoorByt
import Derived.Deep.Slices
namespace Go.Proofs.YtjdgmnaemopfdaaDoor
open Go.ChangeShapes Go.WideShapes Go.RowKit Go.Deep Go.Lib
set_option linter.unusedVariables false
set_option maxRecDepth 100000
section
variable {H : Type} {enc : TypeId × Value → H} {w : World} {base : Nat} {spare : Nat → Bool} {held : Bool}
theorem i64_fit {n : Int} (h : (Lit.int .i64 n).wf = true) : -9223372036854775808 ≤ n ∧ n ≤ 9223372036854775807 := by simpa [Lit.wf, IntKind.min, IntKind.max, IntKind.signed, IntKind.bits] using h
theorem bytes_of {fuel : Nat} {cs : List Value} {x : DataW H × List MemPlace} (hf : DataW.trod enc Tryd.prog w base spare held fuel 23 cs = some x) :
    ∃ b : Byt, cs = [.slice b.a b.l.length b.c] ∧ b.Fit w ∧ (x.1 = .nil ∧ b.l = [] ∨ ∃ elems spare, x.1 = .slice elems spare ∧ elems.length = b.l.length) := by
  rcases open_ints Tryd.underlying23 Tryd.underlying5 (by kernel_rfl) hf with ⟨hcs, hd⟩ | ⟨x, len, cap, zs, hcs, _, hl, hm, hz, hd, hcell, hwz⟩
  · subst hcs
    exact ⟨⟨none, 0, []⟩, rfl, ⟨by simp, by simp, Src.none_ _ _ _ _⟩, .inl ⟨(congrArg Prod.fst hd), rfl⟩⟩
  · subst hcs
    have hzl : len ≤ zs.length := by rw [hz]; split <;> omega
    have hlen : ((zs.take len).map fun n => UInt8.ofNat n.toNat).length = len := by rw [List.length_map, List.length_take]; omega
    have hm2 : cap ≤ 9223372036854775807 := by simpa [maxLen] using hm
    refine ⟨⟨some x, cap, (zs.take len).map fun n => UInt8.ofNat n.toNat⟩, by rw [hlen], ⟨by rw [hlen]; exact hl, by simp only; omega, ?_⟩, .inr ⟨_, _, (congrArg Prod.fst hd), by rw [hlen]; simp [lits, List.length_take]; omega⟩⟩
    simp only
    rw [hlen]
    refine ⟨by rw [byteCells, List.length_map, hlen, Nat.mul_one], fun hn => ?_⟩
    have h0 := hcell 0 (by omega)
    refine ⟨x, rfl, ?_, ?_, fun j u hu => ?_⟩
    · have := World.block_lt_of_cell? w _ h0
      rwa [block_add] at this
    · have := World.block_lt_of_cell? w _ h0
      rwa [block_add] at this
    · rw [byteCells, List.getElem?_map, List.getElem?_map, List.getElem?_take] at hu
      split at hu
      · rename_i hj
        have hjz : j < zs.length := by omega
        rw [hcell j hjz]
        rw [List.getElem?_eq_getElem hjz] at hu
        simp only [Option.map_some, Option.some.injEq] at hu
        rw [← hu]
        have hb := byt_fit (hwz zs[j] (List.getElem_mem hjz))
        have : (zs.getD j 0) = zs[j] := by simp [List.getD, hjz]
        rw [this]
        congr 2
        rw [UInt8.toNat_ofNat']
        omega
      · cases hu
/-- Parts that came in: where they lie, how much room, the slices, what they are. -/
structure Prts where
  a : Option Addr
  c : Nat
  vs : List Value
  ls : List (List UInt8)
structure Prts.Fit (w : World) (p : Prts) : Prop where
  len : p.ls.length ≤ p.c
  cap : p.c ≤ 9223372036854775807
  src : Src w (fun k => k < w.heap.size) 1 p.a p.ls.length p.vs
  parts : Parts w p.vs p.ls
/-- Of this bulk at least are parts that read as these. -/
def Bulk {H : Type} (e : DataW H) (l : List UInt8) : Prop := e = .nil ∧ l = [] ∨ ∃ elems spare, e = .slice elems spare ∧ elems.length = l.length
theorem open_prts {r : Reach} {b0 : Nat} {v : Value} {d : DataW H} {p : List MemPlace} (hv : Value.okWide Tryd.prog w r b0 22 v) (h : DataW.Trod enc Tryd.prog w base spare held 22 v d p) :
    ∃ t : Prts, v = .slice t.a t.ls.length t.c ∧ t.Fit w ∧ (d = .nil ∧ t.ls = [] ∨ ∃ elems spare, d = .slice elems spare ∧ elems.length = t.ls.length ∧ ∀ (i : Nat) e l, elems[i]? = some e → t.ls[i]? = some l → Bulk e l) := by
  obtain ⟨a, len, cap, rfl⟩ := okWide_slice Tryd.underlying22 hv
  obtain ⟨fuel, hf⟩ := h
  rcases open_slice1 Tryd.underlying22 (by kernel_rfl) hf with ⟨hcs, hd⟩ | ⟨x, len', cap', m, n, V, D, Pl, hcs, hb, hl, hm, hmm, hx, hi⟩
  · simp [Value.cells] at hcs
    obtain ⟨rfl, rfl, rfl⟩ := hcs
    exact ⟨⟨none, 0, [], []⟩, rfl, ⟨by simp, by simp, Src.none_ _ _ _ _, Parts.nil w⟩, .inl ⟨(Prod.mk.inj hd).1, rfl⟩⟩
  · simp [Value.cells] at hcs
    obtain ⟨rfl, rfl, rfl⟩ := hcs
    have hml : len ≤ m := by rw [hmm]; split <;> omega
    have hm2 : cap ≤ 9223372036854775807 := by simpa [maxLen] using hm
    have hex : ∀ i, i < len → ∃ y : Byt, V i = .slice y.a y.l.length y.c ∧ y.Fit w ∧ Bulk (D i) y.l := fun i hil => by
      obtain ⟨b, e1, e2, e3⟩ := bytes_of (hi i (by omega)).2
      exact ⟨b, by simpa using e1, e2, e3⟩
    haveI : Inhabited Byt := ⟨⟨none, 0, []⟩⟩
    obtain ⟨X, hX⟩ := choose_lt (α := Byt) (p := fun i y => V i = .slice y.a y.l.length y.c ∧ y.Fit w ∧ Bulk (D i) y.l) hex
    have hlen : ((List.range len).map fun i => (X i).l).length = len := by simp
    refine ⟨⟨some x, cap, (List.range len).map V, (List.range len).map fun i => (X i).l⟩, by rw [hlen], ⟨by rw [hlen]; exact hl, hm2, ?_, ?_⟩, .inr ⟨_, _, (Prod.mk.inj hx).1, by simp, fun i e l he hll => ?_⟩⟩
    · simp only
      rw [hlen]
      refine ⟨by simp, fun hn => ?_⟩
      have h0 := (hi 0 (by omega)).1
      have hlt := World.block_lt_of_cell? w _ h0
      rw [block_add] at hlt
      refine ⟨x, rfl, hlt, hlt, fun j u hu => ?_⟩
      have hj : j < len := by
        have := (List.getElem?_eq_some_iff.1 hu).1
        simpa using this
      simp [hj] at hu
      rw [← hu]
      exact (hi j (by omega)).1
    · refine ⟨by simp, fun i l hil => ?_⟩
      have hj : i < len := by
        have := (List.getElem?_eq_some_iff.1 hil).1
        simpa using this
      simp [hj] at hil
      subst hil
      obtain ⟨e1, e2, _⟩ := hX i hj
      exact ⟨V i, by simp [hj], (X i).a, (X i).c, e1, e2.src, e2.len, e2.cap⟩
    · have hj : i < len := by
        have := (List.getElem?_eq_some_iff.1 hll).1
        simpa using this
      simp [hj] at he hll
      subst he hll
      exact (hX i hj).2.2
end
end Go.Proofs.YtjdgmnaemopfdaaDoor
