/- A list of calls of a reader that came in: a kind and a number each. -/
import Derived.Test.YtjdgmnaemopfdaaDoorByt
import Derived.Deep.Slices
namespace Go.Proofs.YtjdgmnaemopfdaaDoor
open Go.ChangeShapes Go.WideShapes Go.RowKit Go.Deep Go.Lib
set_option linter.unusedVariables false
set_option maxRecDepth 100000
/-- A call: its kind, the number that goes with it. -/
structure Tw where
  kind : Nat
  most : Int
structure TwAt (w : World) (b o : Nat) (x : Tw) : Prop where
  c0 : w.cell? ⟨b, o, none⟩ = some (.int .u8 (x.kind : Int))
  c1 : w.cell? ⟨b, o + 1, none⟩ = some (.int .i64 x.most)
  lt : b < w.heap.size
  kind : x.kind ≤ 255
  n0 : -9223372036854775808 ≤ x.most
  n1 : x.most ≤ 9223372036854775807
/-- Calls that came in: where they lie, how much room, what they are. -/
structure Tws where
  a : Option Addr
  c : Nat
  l : List Tw
structure Tws.Fit (w : World) (t : Tws) : Prop where
  len : t.l.length ≤ 9223372036854775807
  at_ : 0 < t.l.length → ∃ b o, t.a = some ⟨b, o, none⟩ ∧ ∀ (k : Nat) (x : Tw), t.l[k]? = some x → TwAt w b (o + k * 2) x
theorem TwAt.noth {w w' : World} {b o : Nat} {x : Tw} (h : TwAt w b o x) (ho : Only Noth w w') : TwAt w' b o x :=
  have hc : ∀ j, w'.cell? ⟨b, j, none⟩ = w.cell? ⟨b, j, none⟩ := fun j => ho.cell (p := ⟨b, j, none⟩) h.lt (fun h => h)
  ⟨(hc _).trans h.c0, (hc _).trans h.c1, Nat.lt_of_lt_of_le h.lt ho.size, h.kind, h.n0, h.n1⟩
section
variable {H : Type} {enc : TypeId × Value → H} {w : World} {base : Nat} {spare : Nat → Bool} {held : Bool}
theorem open_tws {r : Reach} {b0 : Nat} {v : Value} {d : DataW H} {p : List MemPlace} (hv : Value.okWide Tryd.prog w r b0 38 v) (h : DataW.Trod enc Tryd.prog w base spare held 38 v d p) :
    ∃ t : Tws, v = .slice t.a t.l.length t.c ∧ t.Fit w ∧ True := by
  obtain ⟨a, len, cap, rfl⟩ := okWide_slice Tryd.underlying38 hv
  obtain ⟨fuel, hf⟩ := h
  rcases open_slice Tryd.underlying38 hf with ⟨hcs, _⟩ | ⟨x, len', cap', m, n, D, Pl, hcs, hb, hl, hm, hmm, hx, hi⟩
  · simp [Value.cells] at hcs
    obtain ⟨rfl, rfl, rfl⟩ := hcs
    exact ⟨⟨none, 0, []⟩, rfl, ⟨by simp, fun h => absurd h (by simp)⟩, trivial⟩
  · simp [Value.cells] at hcs
    obtain ⟨rfl, rfl, rfl⟩ := hcs
    have hml : len ≤ m := by rw [hmm]; split <;> omega
    have hC : Tryd.prog.cellsOf 44 = 2 := by kernel_rfl
    rw [hC] at hi
    rcases Nat.eq_zero_or_pos len with h0 | h0
    · subst h0
      exact ⟨⟨some x, cap, []⟩, rfl, ⟨by simp, fun h => absurd h (by simp)⟩, trivial⟩
    · obtain ⟨b, o, spot⟩ := x
      have hspot : spot = none := by
        obtain ⟨cs', hc, _⟩ := hi 0 (by omega)
        obtain ⟨_, hcl, hat⟩ := World.cells?_some hc
        have h1 := hat 0 (by omega)
        rw [List.getElem?_eq_getElem (by omega)] at h1
        simpa [Addr.add] using World.cell?_spot h1
      subst hspot
      have hex : ∀ i, i < len → ∃ y : Tw, TwAt w b (o + i * 2) y := by
        intro i hil
        obtain ⟨cs', hc, ht⟩ := hi i (by omega)
        obtain ⟨_, hcl, hat⟩ := World.cells?_some hc
        obtain ⟨ys, n', _, hy, hlen, hyl, hf⟩ := DataW.trod_struct Tryd.underlying44 ht
        have hyl2 : ys.length = 2 := hyl
        match cs', hcl, ys, hyl2 with
        | [u0, u1], _, [y0, y1], _ =>
          have f0 := hf 0 _ rfl
          have f1 := hf 1 _ rfl
          have k0 : Tryd.prog.cellsOf 5 = 1 := by kernel_rfl
          have k1 : Tryd.prog.cellsOf 3 = 1 := by kernel_rfl
          simp [k0, k1] at f0 f1
          obtain ⟨kd, e0, _, w0⟩ := DataW.trod_int Tryd.underlying5 f0
          obtain ⟨nn, e2, _, w2⟩ := DataW.trod_int Tryd.underlying3 f1
          simp at e0 e2
          subst e0 e2
          have hkd : 0 ≤ kd ∧ kd ≤ 255 := by simpa [Lit.wf, IntKind.min, IntKind.max, IntKind.signed, IntKind.bits] using w0
          have hnn : -9223372036854775808 ≤ nn ∧ nn ≤ 9223372036854775807 := by simpa [Lit.wf, IntKind.min, IntKind.max, IntKind.signed, IntKind.bits] using w2
          obtain ⟨kn, rfl⟩ := Int.eq_ofNat_of_zero_le hkd.1
          have c0 := hat 0 (by omega)
          have c1 := hat 1 (by omega)
          simp only [add_plain'] at c0 c1
          have c0' : w.cell? ⟨b, o + i * 2, none⟩ = some (.int .u8 (kn : Int)) := by simpa using c0
          exact ⟨⟨kn, nn⟩, c0', by simpa using c1, World.block_lt_of_cell? w _ c0', by show kn ≤ 255; omega, hnn.1, hnn.2⟩
      haveI : Inhabited Tw := ⟨⟨0, 0⟩⟩
      obtain ⟨X, hX⟩ := choose_lt (α := Tw) (p := fun i y => TwAt w b (o + i * 2) y) hex
      refine ⟨⟨some ⟨b, o, none⟩, cap, (List.range len).map X⟩, by simp, ⟨by simp only [List.length_map, List.length_range]; simp only [maxLen] at hm; omega, fun _ => ⟨b, o, rfl, fun k y hk => ?_⟩⟩, trivial⟩
      have hkl : k < len := by
        have := (List.getElem?_eq_some_iff.1 hk).1
        simpa using this
      simp [hkl] at hk
      subst hk
      exact hX k hkl
end
end Go.Proofs.YtjdgmnaemopfdaaDoor
