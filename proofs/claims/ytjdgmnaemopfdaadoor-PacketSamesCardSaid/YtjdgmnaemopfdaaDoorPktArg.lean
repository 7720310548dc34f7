/- A packet as an argument, opened. -/
import Derived.Test.YtjdgmnaemopfdaaDoorPkD
import Derived.Test.YtjdgmnaemopfdaaDoorByt
import Derived.ProofKit
import Derived.OpenShut
import Derived.ShutString
import Derived.Deep.Slices
import Derived.Deep.Fields
import Derived.ChangeArms
namespace Go.Proofs.YtjdgmnaemopfdaaDoor
open Go.ChangeShapes Go.WideShapes Go.RowKit Go.Deep Go.Lib
set_option linter.unusedVariables false
set_option maxRecDepth 100000
section
variable {H : Type} {enc : TypeId × Value → H} {w : World} {base : Nat} {spare : Nat → Bool} {held : Bool}
theorem fit_i64 {n : Int} (h : (Lit.int .i64 n).wf = true) : -9223372036854775808 ≤ n ∧ n ≤ 9223372036854775807 := by simpa [Lit.wf, IntKind.min, IntKind.max, IntKind.signed, IntKind.bits] using h
theorem fit_u16 {n : Int} (h : (Lit.int .u16 n).wf = true) : 0 ≤ n ∧ n ≤ 65535 := by simpa [Lit.wf, IntKind.min, IntKind.max, IntKind.signed, IntKind.bits] using h
theorem fit_u8 {n : Int} (h : (Lit.int .u8 n).wf = true) : 0 ≤ n ∧ n ≤ 255 := by simpa [Lit.wf, IntKind.min, IntKind.max, IntKind.signed, IntKind.bits] using h
theorem cells_ent {n : Nat} {cs : List Value} {x : DataW H × List MemPlace} (h : DataW.trod enc Tryd.prog w base spare held n 64 cs = some x) :
    ∃ a : Ent, cs = a.cl ∧ a.Ok ∧ a.key.size ≤ 9223372036854775807 ∧ a.val.size ≤ 9223372036854775807 := by
  obtain ⟨xs, m, _, hx, hlen, hxs, hf⟩ := DataW.trod_struct Tryd.underlying64 h
  rw [show Tryd.prog.cellsOf 64 = 5 by kernel_rfl] at hlen
  match cs, hlen with
  | [c0, c1, c2, c3, c4], _ =>
    match xs, hxs with
    | [x0, x1, x2, x3, x4], _ =>
      have f0 := hf 0 _ rfl
      have f1 := hf 1 _ rfl
      have f2 := hf 2 _ rfl
      have f3 := hf 3 _ rfl
      have f4 := hf 4 _ rfl
      simp [show Tryd.prog.cellsOf 9 = 1 by kernel_rfl, show Tryd.prog.cellsOf 3 = 1 by kernel_rfl, show Tryd.prog.cellsOf 46 = 1 by kernel_rfl] at f0 f1 f2 f3 f4
      obtain ⟨s0, e0, y0, z0⟩ := DataW.trod_string Tryd.underlying9 f0
      obtain ⟨n1, e1, y1, z1⟩ := DataW.trod_int Tryd.underlying3 f1
      obtain ⟨n2, e2, y2, z2⟩ := DataW.trod_int Tryd.underlying46 f2
      obtain ⟨s3, e3, y3, z3⟩ := DataW.trod_string Tryd.underlying9 f3
      obtain ⟨n4, e4, y4, z4⟩ := DataW.trod_int Tryd.underlying3 f4
      simp only [List.cons.injEq, and_true] at e0 e1 e2 e3 e4
      subst e0 e1 e2 e3 e4 y0 y1 y2 y3 y4
      exact ⟨⟨s0, n1, n2, s3, n4⟩, rfl, ⟨(fit_i64 z1).1, (fit_i64 z1).2, (fit_u16 z2).1, (fit_u16 z2).2, (fit_i64 z4).1, (fit_i64 z4).2⟩, by simpa [maxLen] using z0, by simpa [maxLen] using z3⟩
theorem cells_mem {n : Nat} {cs : List Value} {x : DataW H × List MemPlace} (h : DataW.trod enc Tryd.prog w base spare held n 68 cs = some x) :
    ∃ a : Mem, cs = a.cl ∧ a.Ok := by
  obtain ⟨xs, m, _, hx, hlen, hxs, hf⟩ := DataW.trod_struct Tryd.underlying68 h
  rw [show Tryd.prog.cellsOf 68 = 3 by kernel_rfl] at hlen
  match cs, hlen with
  | [c0, c1, c2], _ =>
    match xs, hxs with
    | [x0, x1, x2], _ =>
      have f0 := hf 0 _ rfl
      have f1 := hf 1 _ rfl
      have f2 := hf 2 _ rfl
      simp [show Tryd.prog.cellsOf 3 = 1 by kernel_rfl, show Tryd.prog.cellsOf 46 = 1 by kernel_rfl, show Tryd.prog.cellsOf 66 = 1 by kernel_rfl] at f0 f1 f2
      obtain ⟨n0, e0, y0, z0⟩ := DataW.trod_int Tryd.underlying46 f0
      obtain ⟨n1, e1, y1, z1⟩ := DataW.trod_int Tryd.underlying66 f1
      obtain ⟨n2, e2, y2, z2⟩ := DataW.trod_int Tryd.underlying3 f2
      simp only [List.cons.injEq, and_true] at e0 e1 e2
      subst e0 e1 e2 y0 y1 y2
      exact ⟨⟨n0, n1, n2⟩, rfl, (fit_u16 z0).1, (fit_u16 z0).2, (fit_u8 z1).1, (fit_u8 z1).2, (fit_i64 z2).1, (fit_i64 z2).2⟩
/-- Elements of some cells each, out of their reading. -/
theorem els_of_trod {α : Type} [Inhabited α] (P : α → Prop) (cl : α → List Value) (s t : TypeId) (size : Nat) (hu : Tryd.prog.underlying s = some (.slice t)) (hsz : Tryd.prog.cellsOf t = size) (h0 : 0 < size) (hlen : ∀ a, (cl a).length = size)
    (hel : ∀ (n : Nat) (cs : List Value) (x : DataW H × List MemPlace), DataW.trod enc Tryd.prog w base spare held n t cs = some x → ∃ a : α, cs = cl a ∧ P a)
    {fuel : Nat} {cs : List Value} {x : DataW H × List MemPlace} (h : DataW.trod enc Tryd.prog w base spare held fuel s cs = some x) :
    ∃ A c, ∃ xs : List α, cs = [.slice A xs.length c] ∧ ElAt w (fun k => k < w.heap.size) size A (xs.map cl) ∧ (∀ a ∈ xs, P a) ∧ xs.length ≤ c ∧ c ≤ 9223372036854775807 := by
  rcases open_slice hu h with ⟨hcs, _⟩ | ⟨a, len, cap, m, n, D, Pl, hcs, hb, hl, hm, hmm, hx, hi⟩
  · exact ⟨none, 0, [], hcs, fun h => absurd h (by simp), by simp, Nat.le_refl _, by omega⟩
  · have hml : len ≤ m := by rw [hmm]; split <;> omega
    rw [hsz] at hi
    have hcap : cap ≤ 9223372036854775807 := by simpa [maxLen] using hm
    rcases Nat.eq_zero_or_pos len with hz | hp
    · subst hz
      exact ⟨some a, cap, [], hcs, fun h => absurd h (by simp), by simp, Nat.zero_le _, hcap⟩
    · obtain ⟨b, o, spot⟩ := a
      have hspot : spot = none := by
        obtain ⟨cs', hc, _⟩ := hi 0 (by omega)
        obtain ⟨_, hcl, hat⟩ := World.cells?_some hc
        have h1 := hat 0 (by omega)
        rw [List.getElem?_eq_getElem (by omega)] at h1
        simpa [Addr.add] using World.cell?_spot h1
      subst hspot
      have hex : ∀ i, i < len → ∃ y : α, P y ∧ b < w.heap.size ∧ ∀ (j : Nat) v, (cl y)[j]? = some v → w.cell? ⟨b, o + i * size + j, none⟩ = some v := by
        intro i hil
        obtain ⟨cs', hc, ht⟩ := hi i (by omega)
        obtain ⟨_, hcl, hat⟩ := World.cells?_some hc
        obtain ⟨y, rfl, hy⟩ := hel _ _ _ ht
        have hlt : b < w.heap.size := by
          have h1 := hat 0 (by omega)
          rw [List.getElem?_eq_getElem (by omega)] at h1
          have := World.block_lt_of_cell? w _ h1
          simpa only [block_add] using this
        refine ⟨y, hy, hlt, fun j v hv => ?_⟩
        have hj := (List.getElem?_eq_some_iff.1 hv).1
        have h1 := hat j (by omega)
        simp only [add_plain'] at h1
        rw [h1]
        exact hv
      obtain ⟨X, hX⟩ := choose_lt (α := α) (p := fun i y => P y ∧ b < w.heap.size ∧ ∀ (j : Nat) v, (cl y)[j]? = some v → w.cell? ⟨b, o + i * size + j, none⟩ = some v) hex
      refine ⟨some ⟨b, o, none⟩, cap, (List.range len).map X, by simpa using hcs, fun _ => ⟨b, o, rfl, (hX 0 hp).2.1, (hX 0 hp).2.1, fun k y hk => ?_⟩, fun a ha => ?_, by simpa using hl, hcap⟩
      · have hkl : k < len := by
          have := (List.getElem?_eq_some_iff.1 hk).1
          simpa using this
        simp [hkl] at hk
        subst hk
        exact (hX k hkl).2.2
      · obtain ⟨i, hi, rfl⟩ := List.mem_map.1 ha
        exact (hX i (List.mem_range.1 hi)).1
/-- A packet that came in, and where its lists lie. -/
structure PktIn where
  p : Pkt
  a : Option Addr
  c : Nat
  b : Option Addr
  d : Nat
structure PktIn.Fit (w : World) (x : PktIn) : Prop where
  k0 : 0 ≤ x.p.kind
  k1 : x.p.kind ≤ 255
  f0 : 0 ≤ x.p.frm
  f1 : x.p.frm ≤ 65535
  a0 : 0 ≤ x.p.abt
  a1 : x.p.abt ≤ 65535
  s0 : -9223372036854775808 ≤ x.p.seq
  s1 : x.p.seq ≤ 9223372036854775807
  m : ∀ y ∈ x.p.ms, y.Ok
  e : ∀ y ∈ x.p.es, y.Ok ∧ y.key.size ≤ 9223372036854775807 ∧ y.val.size ≤ 9223372036854775807
  lie : PkAt w x.a x.c x.b x.d x.p
theorem open_pkt {r : Reach} {b0 : Nat} {v : Value} {d : DataW H} {p : List MemPlace} (hv : Value.okWide Tryd.prog w r b0 50 v) (h : DataW.Trod enc Tryd.prog w base spare held 50 v d p) :
    ∃ a : PktIn, v = .agg #[.int .u8 a.p.kind, .int .u16 a.p.frm, .int .u16 a.p.abt, .int .i64 a.p.seq, .slice a.a a.p.ms.length a.c, .slice a.b a.p.es.length a.d] ∧ a.Fit w ∧ True := by
  obtain ⟨cs, rfl, hsz⟩ := okWide_struct Tryd.underlying50 hv
  obtain ⟨fuel, hf⟩ := h
  obtain ⟨xs, m, _, hx, hlen, hxs, hf⟩ := DataW.trod_struct Tryd.underlying50 hf
  rw [show Tryd.prog.cellsOf 50 = 6 by kernel_rfl] at hlen
  obtain ⟨cl⟩ := cs
  have hlen : cl.length = 6 := hlen
  match cl, hlen with
  | [c0, c1, c2, c3, c4, c5], _ =>
    match xs, hxs with
    | [x0, x1, x2, x3, x4, x5], _ =>
      have f0 := hf 0 _ rfl
      have f1 := hf 1 _ rfl
      have f2 := hf 2 _ rfl
      have f3 := hf 3 _ rfl
      have f4 := hf 4 _ rfl
      have f5 := hf 5 _ rfl
      simp [Value.cells, show Tryd.prog.cellsOf 3 = 1 by kernel_rfl, show Tryd.prog.cellsOf 46 = 1 by kernel_rfl, show Tryd.prog.cellsOf 5 = 1 by kernel_rfl, show Tryd.prog.cellsOf 47 = 1 by kernel_rfl, show Tryd.prog.cellsOf 48 = 1 by kernel_rfl] at f0 f1 f2 f3 f4 f5
      obtain ⟨n0, e0, y0, z0⟩ := DataW.trod_int Tryd.underlying5 f0
      obtain ⟨n1, e1, y1, z1⟩ := DataW.trod_int Tryd.underlying46 f1
      obtain ⟨n2, e2, y2, z2⟩ := DataW.trod_int Tryd.underlying46 f2
      obtain ⟨n3, e3, y3, z3⟩ := DataW.trod_int Tryd.underlying3 f3
      haveI : Inhabited Mem := ⟨⟨0, 0, 0⟩⟩
      haveI : Inhabited Ent := ⟨⟨⟨#[]⟩, 0, 0, ⟨#[]⟩, 0⟩⟩
      obtain ⟨A, c, ms, e4, he4, hm, hc0, hc1⟩ := els_of_trod Mem.Ok Mem.cl 47 68 3 Tryd.underlying47 (by kernel_rfl) (by decide) (fun _ => rfl) (fun _ _ _ h => cells_mem h) f4
      obtain ⟨B, d', es, e5, he5, hE, hd0, hd1⟩ := els_of_trod (fun y : Ent => y.Ok ∧ y.key.size ≤ 9223372036854775807 ∧ y.val.size ≤ 9223372036854775807) Ent.cl 48 64 5 Tryd.underlying48 (by kernel_rfl) (by decide) (fun _ => rfl) (fun _ _ _ h => cells_ent h) f5
      simp only [List.cons.injEq, and_true] at e0 e1 e2 e3 e4 e5
      subst e0 e1 e2 e3 e4 e5
      exact ⟨⟨⟨n0, n1, n2, n3, ms, es⟩, A, c, B, d'⟩, rfl, ⟨(fit_u8 z0).1, (fit_u8 z0).2, (fit_u16 z1).1, (fit_u16 z1).2, (fit_u16 z2).1, (fit_u16 z2).2, (fit_i64 z3).1, (fit_i64 z3).2, hm, hE, he4, he5, hc0, hc1, hd0, hd1⟩, trivial⟩
/-- A member that came in. -/
theorem open_mem {r : Reach} {b0 : Nat} {v : Value} {d : DataW H} {p : List MemPlace} (hv : Value.okWide Tryd.prog w r b0 68 v) (h : DataW.Trod enc Tryd.prog w base spare held 68 v d p) :
    ∃ a : Mem, v = .agg #[.int .u16 a.node, .int .u8 a.st, .int .i64 a.inc] ∧ a.Ok ∧ True := by
  obtain ⟨cs, rfl, hsz⟩ := okWide_struct Tryd.underlying68 hv
  obtain ⟨fuel, hf⟩ := h
  obtain ⟨a, hc, ha⟩ := cells_mem hf
  refine ⟨a, ?_, ha, trivial⟩
  have : cs = #[.int .u16 a.node, .int .u8 a.st, .int .i64 a.inc] := by
    apply Array.toList_inj.1
    exact hc
  rw [this]
/-- What a packet is, of one that came in. -/
theorem PktIn.Fit.all {w : World} {x : PktIn} (h : x.Fit w) : x.p.Fit := ⟨h.k0, h.k1, h.f0, h.f1, h.a0, h.a1, h.s0, h.s1, h.m, h.e⟩
end
end Go.Proofs.YtjdgmnaemopfdaaDoor
