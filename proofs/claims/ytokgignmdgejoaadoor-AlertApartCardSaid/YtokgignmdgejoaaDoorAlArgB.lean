/- The arguments of layer 7's statements: alerts, and lists of calls. -/
import Derived.Test.YtokgignmdgejoaaDoorRaH
import Derived.Test.YtokgignmdgejoaaDoorAlArg
import Derived.Deep.Slices
namespace Go.Proofs.YtokgignmdgejoaaDoor
open Go.ChangeShapes Go.WideShapes Go.RowKit Go.Deep Go.Lib
set_option linter.unusedVariables false
set_option maxRecDepth 100000
section
variable {H : Type} {enc : TypeId × Value → H} {w : World} {base : Nat} {spare : Nat → Bool} {held : Bool}
theorem i64_fit {n : Int} (h : (Lit.int .i64 n).wf = true) : -9223372036854775808 ≤ n ∧ n ≤ 9223372036854775807 := by simpa [Lit.wf, IntKind.min, IntKind.max, IntKind.signed, IntKind.bits] using h
theorem u8w {n : Int} (h : (Lit.int .u8 n).wf = true) : 0 ≤ n ∧ n ≤ 255 := by simpa [Lit.wf, IntKind.min, IntKind.max, IntKind.signed, IntKind.bits] using h
/-- Elements of some cells each, out of their reading. -/
theorem els_of_trod {α : Type} [Inhabited α] (P : α → Prop) (cl : α → List Value) (s t : TypeId) (size : Nat) (hu : Tryd.prog.underlying s = some (.slice t)) (hsz : Tryd.prog.cellsOf t = size) (h0 : 0 < size) (hlen : ∀ a, (cl a).length = size)
    (hel : ∀ (n : Nat) (cs : List Value) (x : DataW H × List MemPlace), DataW.trod enc Tryd.prog w base spare held n t cs = some x → ∃ a : α, cs = cl a ∧ P a)
    {fuel : Nat} {cs : List Value} {x : DataW H × List MemPlace} (h : DataW.trod enc Tryd.prog w base spare held fuel s cs = some x) :
    ∃ A c, ∃ xs : List α, cs = [.slice A xs.length c] ∧ (0 < xs.length → ∃ b o, A = some ⟨b, o, none⟩ ∧ b < w.heap.size ∧ ∀ (k : Nat) (y : α), xs[k]? = some y → ∀ (j : Nat) v, (cl y)[j]? = some v → w.cell? ⟨b, o + k * size + j, none⟩ = some v) ∧ (∀ a ∈ xs, P a) ∧ xs.length ≤ c ∧ c ≤ 9223372036854775807 := by
  rcases open_slice hu h with ⟨hcs, _⟩ | ⟨a, len, cap, m, n, D, Pl, hcs, hb, hl, hm, hmm, hx, hi⟩
  · exact ⟨none, 0, [], hcs, fun h => absurd h (by simp), by simp, Nat.le_refl _, by omega⟩
  · have hml : len ≤ m := by rw [hmm]; split <;> omega
    rw [hsz] at hi
    have hcap : cap ≤ 9223372036854775807 := by simpa [maxLen] using hm
    rcases Nat.eq_zero_or_pos len with hz | hp
    · subst hz
      exact ⟨some a, cap, [], hcs, fun h => absurd h (by simp), by simp, Nat.zero_le _, hcap⟩
    · obtain ⟨b, o, spot⟩ := a
      have hspot : spot = none := by
        obtain ⟨cs', hc, _⟩ := hi 0 (by omega)
        obtain ⟨_, hcl, hat⟩ := World.cells?_some hc
        have h1 := hat 0 (by omega)
        rw [List.getElem?_eq_getElem (by omega)] at h1
        simpa [Addr.add] using World.cell?_spot h1
      subst hspot
      have hex : ∀ i, i < len → ∃ y : α, P y ∧ b < w.heap.size ∧ ∀ (j : Nat) v, (cl y)[j]? = some v → w.cell? ⟨b, o + i * size + j, none⟩ = some v := by
        intro i hil
        obtain ⟨cs', hc, ht⟩ := hi i (by omega)
        obtain ⟨_, hcl, hat⟩ := World.cells?_some hc
        obtain ⟨y, rfl, hy⟩ := hel _ _ _ ht
        have hlt : b < w.heap.size := by
          have h1 := hat 0 (by omega)
          rw [List.getElem?_eq_getElem (by omega)] at h1
          have := World.block_lt_of_cell? w _ h1
          simpa only [block_add] using this
        refine ⟨y, hy, hlt, fun j v hv => ?_⟩
        have hj := (List.getElem?_eq_some_iff.1 hv).1
        have h1 := hat j (by omega)
        simp only [add_plain'] at h1
        rw [h1]
        exact hv
      obtain ⟨X, hX⟩ := choose_lt (α := α) (p := fun i y => P y ∧ b < w.heap.size ∧ ∀ (j : Nat) v, (cl y)[j]? = some v → w.cell? ⟨b, o + i * size + j, none⟩ = some v) hex
      refine ⟨some ⟨b, o, none⟩, cap, (List.range len).map X, by simpa using hcs, fun _ => ⟨b, o, rfl, (hX 0 hp).2.1, fun k y hk => ?_⟩, fun a ha => ?_, by simpa using hl, hcap⟩
      · have hkl : k < len := by
          have := (List.getElem?_eq_some_iff.1 hk).1
          simpa using this
        simp [hkl] at hk
        subst hk
        exact (hX k hkl).2.2
      · obtain ⟨i, hi, rfl⟩ := List.mem_map.1 ha
        exact (hX i (List.mem_range.1 hi)).1
theorem cells_pr {n : Nat} {cs : List Value} {x : DataW H × List MemPlace} (h : DataW.trod enc Tryd.prog w base spare held n 63 cs = some x) :
    ∃ a : Pr, cs = [.string a.name, .string a.val] ∧ a.name.size ≤ 9223372036854775807 ∧ a.val.size ≤ 9223372036854775807 := by
  obtain ⟨xs, m, _, hx, hlen, hxs, hf⟩ := DataW.trod_struct Tryd.underlying63 h
  rw [show Tryd.prog.cellsOf 63 = 2 by kernel_rfl] at hlen
  match cs, hlen with
  | [c0, c1], _ =>
    match xs, hxs with
    | [x0, x1], _ =>
      have f0 := hf 0 _ rfl
      have f1 := hf 1 _ rfl
      simp [show Tryd.prog.cellsOf 9 = 1 by kernel_rfl] at f0 f1
      obtain ⟨s0, e0, y0, z0⟩ := DataW.trod_string Tryd.underlying9 f0
      obtain ⟨s1, e1, y1, z1⟩ := DataW.trod_string Tryd.underlying9 f1
      simp only [List.cons.injEq, and_true] at e0 e1
      subst e0 e1 y0 y1
      exact ⟨⟨s0, s1⟩, rfl, by simpa [maxLen] using z0, by simpa [maxLen] using z1⟩
theorem prs_of_trod {fuel : Nat} {cs : List Value} {x : DataW H × List MemPlace} (h : DataW.trod enc Tryd.prog w base spare held fuel 25 cs = some x) :
    ∃ A c, ∃ l : List Pr, cs = [.slice A l.length c] ∧ PsAt w (fun k => k < w.heap.size) A c l := by
  haveI : Inhabited Pr := ⟨⟨⟨#[]⟩, ⟨#[]⟩⟩⟩
  obtain ⟨A, c, l, h1, h2, h3, h4, h5⟩ := els_of_trod (fun a : Pr => a.name.size ≤ 9223372036854775807 ∧ a.val.size ≤ 9223372036854775807) (fun a : Pr => [.string a.name, .string a.val]) 25 63 2 Tryd.underlying25 (by kernel_rfl) (by decide) (fun _ => rfl) (fun _ _ _ h => cells_pr h) h
  refine ⟨A, c, l, h1, fun hl => ?_, h3, h4, h5⟩
  obtain ⟨b, o, hA, hb, hc⟩ := h2 hl
  exact ⟨b, o, hA, hb, hb, fun k p hp => ⟨hc k p hp 0 _ rfl, hc k p hp 1 _ rfl⟩⟩
theorem cells_al {n : Nat} {cs : List Value} {x : DataW H × List MemPlace} (h : DataW.trod enc Tryd.prog w base spare held n 27 cs = some x) :
    ∃ A c, ∃ l : List Pr, ∃ st en : Int, cs = [.slice A l.length c, .int .i64 st, .int .i64 en] ∧ PsAt w (fun k => k < w.heap.size) A c l := by
  obtain ⟨xs, m, _, hx, hlen, hxs, hf⟩ := DataW.trod_struct Tryd.underlying27 h
  rw [show Tryd.prog.cellsOf 27 = 3 by kernel_rfl] at hlen
  match cs, hlen with
  | [c0, c1, c2], _ =>
    match xs, hxs with
    | [x0, x1, x2], _ =>
      have f0 := hf 0 _ rfl
      have f1 := hf 1 _ rfl
      have f2 := hf 2 _ rfl
      simp [show Tryd.prog.cellsOf 3 = 1 by kernel_rfl, show Tryd.prog.cellsOf 25 = 1 by kernel_rfl] at f0 f1 f2
      obtain ⟨A, c, l, e0, hps⟩ := prs_of_trod f0
      obtain ⟨n1, e1, y1, z1⟩ := DataW.trod_int Tryd.underlying3 f1
      obtain ⟨n2, e2, y2, z2⟩ := DataW.trod_int Tryd.underlying3 f2
      simp only [List.cons.injEq, and_true] at e0 e1 e2
      subst e0 e1 e2
      exact ⟨A, c, l, n1, n2, rfl, hps⟩
theorem cells_qc {n : Nat} {cs : List Value} {x : DataW H × List MemPlace} (h : DataW.trod enc Tryd.prog w base spare held n 44 cs = some x) :
    ∃ a : Qc, cs = a.arr.toList ∧ PsAt w (fun k => k < w.heap.size) a.a a.c a.ls ∧ a.kind ≤ 255 := by
  obtain ⟨xs, m, _, hx, hlen, hxs, hf⟩ := DataW.trod_struct Tryd.underlying44 h
  rw [show Tryd.prog.cellsOf 44 = 5 by kernel_rfl] at hlen
  match cs, hlen with
  | [c0, c1, c2, c3, c4], _ =>
    match xs, hxs with
    | [x0, x1, x2], _ =>
      have f0 := hf 0 _ rfl
      have f1 := hf 1 _ rfl
      have f2 := hf 2 _ rfl
      simp [show Tryd.prog.cellsOf 3 = 1 by kernel_rfl, show Tryd.prog.cellsOf 5 = 1 by kernel_rfl, show Tryd.prog.cellsOf 27 = 3 by kernel_rfl] at f0 f1 f2
      obtain ⟨n0, e0, y0, z0⟩ := DataW.trod_int Tryd.underlying5 f0
      obtain ⟨A, c, l, st, en, e1, hps⟩ := cells_al f1
      obtain ⟨n2, e2, y2, z2⟩ := DataW.trod_int Tryd.underlying3 f2
      simp only [List.cons.injEq, and_true] at e0 e1 e2
      obtain ⟨rfl, rfl, rfl⟩ := e1
      subst e0 e2
      obtain ⟨k, rfl⟩ := Int.eq_ofNat_of_zero_le (u8w z0).1
      exact ⟨⟨k, l, A, c, st, en, n2⟩, rfl, hps, by have := (u8w z0).2; show k ≤ 255; omega⟩
/-- A list of calls that came in. -/
structure Qs where
  a : Option Addr
  c : Nat
  l : List Qc
structure Qs.Fit (w : World) (b : Qs) : Prop where
  lie : QsAt w (fun k => k < w.heap.size) b.a b.l
  len : b.l.length ≤ 9223372036854775807
theorem open_qs {r : Reach} {b0 : Nat} {v : Value} {d : DataW H} {p : List MemPlace} (hv : Value.okWide Tryd.prog w r b0 37 v) (h : DataW.Trod enc Tryd.prog w base spare held 37 v d p) :
    ∃ b : Qs, v = .slice b.a b.l.length b.c ∧ b.Fit w ∧ True := by
  obtain ⟨a, len, cap, rfl⟩ := okWide_slice Tryd.underlying37 hv
  obtain ⟨fuel, hf⟩ := h
  obtain ⟨A, c, xs, h1, h2, h3, h4, h5⟩ := els_of_trod (fun a : Qc => PsAt w (fun k => k < w.heap.size) a.a a.c a.ls ∧ a.kind ≤ 255) (fun a : Qc => a.arr.toList) 37 44 5 Tryd.underlying37 (by kernel_rfl) (by decide) (fun _ => rfl) (fun _ _ _ h => cells_qc h) hf
  simp [Value.cells] at h1
  obtain ⟨rfl, rfl, rfl⟩ := h1
  refine ⟨⟨a, cap, xs⟩, rfl, ⟨fun hn => ?_, by simp only; omega⟩, trivial⟩
  obtain ⟨b, o, hA, hb, hc⟩ := h2 hn
  exact ⟨b, o, hA, fun k x hx => ⟨hc k x hx 0 _ rfl, hc k x hx 1 _ rfl, hc k x hx 2 _ rfl, hc k x hx 3 _ rfl, hc k x hx 4 _ rfl, hb, hb, (h3 x (List.mem_of_getElem? hx)).1, (h3 x (List.mem_of_getElem? hx)).2⟩⟩
/-- An alert that came in. -/
structure Aq where
  a : Option Addr
  c : Nat
  l : List Pr
  st : Int
  en : Int
theorem open_alert {r : Reach} {b0 : Nat} {v : Value} {d : DataW H} {p : List MemPlace} (hv : Value.okWide Tryd.prog w r b0 27 v) (h : DataW.Trod enc Tryd.prog w base spare held 27 v d p) :
    ∃ a : Aq, v = .agg #[.slice a.a a.l.length a.c, .int .i64 a.st, .int .i64 a.en] ∧ PsAt w (fun k => k < w.heap.size) a.a a.c a.l ∧ True := by
  obtain ⟨cs, rfl, hsz⟩ := okWide_struct Tryd.underlying27 hv
  obtain ⟨fuel, hf⟩ := h
  obtain ⟨A, c, l, st, en, hc, hps⟩ := cells_al hf
  refine ⟨⟨A, c, l, st, en⟩, ?_, hps, trivial⟩
  have : cs = #[.slice A l.length c, .int .i64 st, .int .i64 en] := by
    apply Array.toList_inj.1
    exact hc
  rw [this]
end
end Go.Proofs.YtokgignmdgejoaaDoor
