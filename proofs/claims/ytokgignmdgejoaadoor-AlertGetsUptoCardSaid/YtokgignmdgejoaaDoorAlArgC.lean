/- An alert that came in, and its bulk. -/
import Derived.Test.YtokgignmdgejoaaDoorAlArgB
import Derived.Deep.SlicePairs
namespace Go.Proofs.YtokgignmdgejoaaDoor
open Go.ChangeShapes Go.WideShapes Go.RowKit Go.Deep Go.Lib
set_option linter.unusedVariables false
set_option maxRecDepth 100000
section
variable {H : Type} {enc : TypeId × Value → H} {w : World} {base : Nat} {spare : Nat → Bool} {held : Bool}
/-- How a label reads. -/
def prD (p : Pr) : DataW H := .agg [.lit (.string p.nb), .lit (.string p.val.data.toList)]
/-- How an alert's labels read. -/
def LsBulk (d : DataW H) (l : List Pr) : Prop := (∃ x y, d = .agg [.nil, x, y] ∧ l = []) ∨ ∃ rest x y, d = .agg [.slice (l.map prD) rest, x, y]
theorem pairs_of_trod {fuel : Nat} {cs : List Value} {x : DataW H × List MemPlace} (h : DataW.trod enc Tryd.prog w base spare held fuel 25 cs = some x) :
    ∃ A c, ∃ l : List Pr, cs = [.slice A l.length c] ∧ PsAt w (fun k => k < w.heap.size) A c l ∧ ((x.1 = .nil ∧ l = []) ∨ ∃ rest, x.1 = .slice (l.map prD) rest) := by
  have hS : ∃ f0 f1 : Field, Tryd.prog.underlying 63 = some (.struct #[f0, f1]) ∧ f0.offset = 0 ∧ f1.offset = 1 ∧ f0.type = 9 ∧ f1.type = 9 := ⟨_, _, Tryd.underlying63, rfl, rfl, rfl, rfl⟩
  obtain ⟨f0, f1, hP, o0, o1, t0, t1⟩ := hS
  rcases open_slice_pairs Tryd.underlying25 hP (by kernel_rfl) o0 o1 (by rw [t0]; kernel_rfl) (by rw [t1]; kernel_rfl) h with ⟨hcs, hd⟩ | ⟨a, len, cap, m, n, V0, V1, D0, D1, P0, P1, hcs, hb, hl, hm, hmm, hx, hi⟩
  · exact ⟨none, 0, [], hcs, ⟨fun h => absurd h (by simp), fun p h => absurd h (by simp), Nat.le_refl _, by omega⟩, .inl ⟨by rw [hd], rfl⟩⟩
  · have hml : len ≤ m := by rw [hmm]; split <;> omega
    have hcap : cap ≤ 9223372036854775807 := by simpa [maxLen] using hm
    haveI : Inhabited Pr := ⟨⟨⟨#[]⟩, ⟨#[]⟩⟩⟩
    have hex : ∀ i, i < len → ∃ p : Pr, V0 i = .string p.name ∧ V1 i = .string p.val ∧ D0 i = .lit (.string p.nb) ∧ D1 i = .lit (.string p.val.data.toList) ∧ p.name.size ≤ 9223372036854775807 ∧ p.val.size ≤ 9223372036854775807 := by
      intro i hil
      obtain ⟨_, _, h0, h1⟩ := hi i (by omega)
      rw [t0] at h0
      rw [t1] at h1
      obtain ⟨s0, e0, y0, z0⟩ := DataW.trod_string Tryd.underlying9 h0
      obtain ⟨s1, e1, y1, z1⟩ := DataW.trod_string Tryd.underlying9 h1
      simp only [List.cons.injEq, and_true] at e0 e1
      exact ⟨⟨s0, s1⟩, e0, e1, congrArg Prod.fst y0, congrArg Prod.fst y1, by simpa [maxLen] using z0, by simpa [maxLen] using z1⟩
    obtain ⟨X, hX⟩ := choose_lt (α := Pr) (p := fun i p => V0 i = .string p.name ∧ V1 i = .string p.val ∧ D0 i = .lit (.string p.nb) ∧ D1 i = .lit (.string p.val.data.toList) ∧ p.name.size ≤ 9223372036854775807 ∧ p.val.size ≤ 9223372036854775807) hex
    obtain ⟨b, o, spot⟩ := a
    refine ⟨some ⟨b, o, spot⟩, cap, (List.range len).map X, by simpa using hcs, ⟨fun hn => ?_, fun p hp => ?_, by simpa using hl, hcap⟩, .inr ⟨_, by
      have hx1 := congrArg Prod.fst hx
      simp only at hx1
      rw [hx1]
      congr 1
      rw [List.map_map]
      refine List.map_congr_left (fun i hir => ?_)
      have hil := List.mem_range.1 hir
      obtain ⟨_, _, h2, h3, _⟩ := hX i hil
      simp only [Function.comp, prD, h2, h3]⟩⟩
    · have hlen : 0 < len := by simpa using hn
      have hspot : spot = none := by
        obtain ⟨h1, _⟩ := hi 0 (by omega)
        simpa [Addr.add] using World.cell?_spot h1
      subst hspot
      have hlt : b < w.heap.size := by
        obtain ⟨h1, _⟩ := hi 0 (by omega)
        have := World.block_lt_of_cell? w _ h1
        simpa only [block_add] using this
      refine ⟨b, o, rfl, hlt, hlt, fun k p hp => ?_⟩
      have hkl : k < len := by
        have := (List.getElem?_eq_some_iff.1 hp).1
        simpa using this
      simp [hkl] at hp
      subst hp
      obtain ⟨h1, h2, _⟩ := hi k (by omega)
      obtain ⟨g1, g2, _⟩ := hX k hkl
      rw [add_plain', g1] at h1
      rw [add_plain', g2] at h2
      exact ⟨h1, by rw [show o + k * 2 + 1 = o + (k * 2 + 1) by omega]; exact h2⟩
    · obtain ⟨i, hi2, rfl⟩ := List.mem_map.1 hp
      obtain ⟨_, _, _, _, h5, h6⟩ := hX i (List.mem_range.1 hi2)
      exact ⟨h5, h6⟩
theorem open_alertb {r : Reach} {b0 : Nat} {v : Value} {d : DataW H} {p : List MemPlace} (hv : Value.okWide Tryd.prog w r b0 27 v) (h : DataW.Trod enc Tryd.prog w base spare held 27 v d p) :
    ∃ a : Aq, v = .agg #[.slice a.a a.l.length a.c, .int .i64 a.st, .int .i64 a.en] ∧ PsAt w (fun k => k < w.heap.size) a.a a.c a.l ∧ LsBulk d a.l := by
  obtain ⟨cs, rfl, hsz⟩ := okWide_struct Tryd.underlying27 hv
  obtain ⟨fuel, hf⟩ := h
  obtain ⟨xs, m, _, hx, hlen, hxs, hf⟩ := DataW.trod_struct Tryd.underlying27 hf
  rw [show Tryd.prog.cellsOf 27 = 3 by kernel_rfl] at hlen
  obtain ⟨cl⟩ := cs
  have hlen : cl.length = 3 := hlen
  match cl, hlen with
  | [c0, c1, c2], _ =>
    match xs, hxs with
    | [x0, x1, x2], _ =>
      have f0 := hf 0 _ rfl
      have f1 := hf 1 _ rfl
      have f2 := hf 2 _ rfl
      simp [Value.cells, show Tryd.prog.cellsOf 3 = 1 by kernel_rfl, show Tryd.prog.cellsOf 25 = 1 by kernel_rfl] at f0 f1 f2
      obtain ⟨A, c, l, e0, hps, hbk⟩ := pairs_of_trod f0
      obtain ⟨n1, e1, y1, z1⟩ := DataW.trod_int Tryd.underlying3 f1
      obtain ⟨n2, e2, y2, z2⟩ := DataW.trod_int Tryd.underlying3 f2
      simp only [List.cons.injEq, and_true] at e0 e1 e2
      subst e0 e1 e2
      refine ⟨⟨A, c, l, n1, n2⟩, rfl, hps, ?_⟩
      have hd : d = .agg [x0.1, x1.1, x2.1] := by
        have := congrArg Prod.fst hx
        simpa using this
      rw [hd]
      rcases hbk with ⟨h1, h2⟩ | ⟨rest, h1⟩
      · exact .inl ⟨x1.1, x2.1, by rw [h1], h2⟩
      · exact .inr ⟨rest, x1.1, x2.1, by rw [h1]⟩
end
theorem tx_bulk {H : Type} : ∀ l : List Pr, (∀ p ∈ l, p.name.size ≤ 9223372036854775807 ∧ p.val.size ≤ 9223372036854775807) → (l.flatMap Pr.tx).flatten.length ≤ 42 * Rows.uptoBulkAll (l.map (prD (H := H)))
  | [], _ => by simp
  | p :: l, h => by
    have ih := tx_bulk (H := H) l (fun q hq => h q (by simp [hq]))
    have hp := h p (by simp)
    have e1 : p.nb.length = p.name.size := rfl
    have e2 : p.val.data.toList.length = p.val.size := rfl
    have k1 := tText_length p.nb
    have k2 := tText_length p.val.data.toList
    have k3 := itoa_len20 (p.nb.length : Int) (by omega) (by omega)
    have k4 := itoa_len20 (p.val.data.toList.length : Int) (by omega) (by omega)
    simp only [List.map_cons, Rows.uptoBulkAll, prD, Rows.uptoBulk, List.flatMap_cons, Pr.tx, List.flatten_append, List.flatten_cons, List.flatten_nil, List.length_append, List.length_nil] at ih ⊢
    omega
theorem ls_bulk {H : Type} {d : DataW H} {l : List Pr} (h : LsBulk d l) (hz : ∀ p ∈ l, p.name.size ≤ 9223372036854775807 ∧ p.val.size ≤ 9223372036854775807) : (l.flatMap Pr.tx).flatten.length ≤ 42 * Rows.uptoBulk d := by
  rcases h with ⟨x, y, _, rfl⟩ | ⟨rest, x, y, rfl⟩
  · simp
  · have := tx_bulk (H := H) l hz
    simp only [Rows.uptoBulk, Rows.uptoBulkAll]
    omega
end Go.Proofs.YtokgignmdgejoaaDoor
