/- Lists of entries as arguments, opened. -/
import Derived.Test.YtdclkbhkboaafaaCmM
import Derived.ProofKit
import Derived.OpenShut
import Derived.ShutString
import Derived.Deep.Slices
import Derived.Deep.Fields
import Derived.ChangeArms
import Derived.SizedLaws
namespace Go.Proofs.Ytdclkbhkboaafaa
open Go.ChangeShapes Go.WideShapes Go.RowKit Go.Deep Go.Lib
set_option linter.unusedVariables false
set_option maxRecDepth 100000
instance : Inhabited Ent := ⟨Ent.none⟩
section
variable {H : Type} {enc : TypeId × Value → H} {w : World} {base : Nat} {spare : Nat → Bool} {held : Bool}
theorem fit_i64 {n : Int} (h : (Lit.int .i64 n).wf = true) : -9223372036854775808 ≤ n ∧ n ≤ 9223372036854775807 := by simpa [Lit.wf, IntKind.min, IntKind.max, IntKind.signed, IntKind.bits] using h
theorem fit_u16 {n : Int} (h : (Lit.int .u16 n).wf = true) : 0 ≤ n ∧ n ≤ 65535 := by simpa [Lit.wf, IntKind.min, IntKind.max, IntKind.signed, IntKind.bits] using h
theorem fit_u8 {n : Int} (h : (Lit.int .u8 n).wf = true) : 0 ≤ n ∧ n ≤ 255 := by simpa [Lit.wf, IntKind.min, IntKind.max, IntKind.signed, IntKind.bits] using h
theorem cells_ent {n : Nat} {cs : List Value} {x : DataW H × List MemPlace} (h : DataW.trod enc Try.prog w base spare held n 34 cs = some x) :
    ∃ a : Ent, cs = a.cl ∧ a.key.size ≤ 9223372036854775807 ∧ a.val.size ≤ 9223372036854775807 := by
  obtain ⟨xs, m, _, hx, hlen, hxs, hf⟩ := DataW.trod_struct Try.underlying34 h
  rw [show Try.prog.cellsOf 34 = 5 by kernel_rfl] at hlen
  match cs, hlen with
  | [c0, c1, c2, c3, c4], _ =>
    match xs, hxs with
    | [x0, x1, x2, x3, x4], _ =>
      have f0 := hf 0 _ rfl
      have f1 := hf 1 _ rfl
      have f2 := hf 2 _ rfl
      have f3 := hf 3 _ rfl
      have f4 := hf 4 _ rfl
      simp [show Try.prog.cellsOf 9 = 1 by kernel_rfl, show Try.prog.cellsOf 3 = 1 by kernel_rfl, show Try.prog.cellsOf 32 = 1 by kernel_rfl] at f0 f1 f2 f3 f4
      obtain ⟨s0, e0, y0, z0⟩ := DataW.trod_string Try.underlying9 f0
      obtain ⟨n1, e1, y1, z1⟩ := DataW.trod_int Try.underlying3 f1
      obtain ⟨n2, e2, y2, z2⟩ := DataW.trod_int Try.underlying32 f2
      obtain ⟨s3, e3, y3, z3⟩ := DataW.trod_string Try.underlying9 f3
      obtain ⟨n4, e4, y4, z4⟩ := DataW.trod_int Try.underlying3 f4
      simp only [List.cons.injEq, and_true] at e0 e1 e2 e3 e4
      subst e0 e1 e2 e3 e4 y0 y1 y2 y3 y4
      exact ⟨⟨s0, n1, n2, s3, n4⟩, rfl, by simpa [maxLen] using z0, by simpa [maxLen] using z3⟩
/-- Elements of some cells each, out of their reading. -/
theorem els_of_trod {α : Type} [Inhabited α] (P : α → Prop) (cl : α → List Value) (s t : TypeId) (size : Nat) (hu : Try.prog.underlying s = some (.slice t)) (hsz : Try.prog.cellsOf t = size) (h0 : 0 < size) (hlen : ∀ a, (cl a).length = size)
    (hel : ∀ (n : Nat) (cs : List Value) (x : DataW H × List MemPlace), DataW.trod enc Try.prog w base spare held n t cs = some x → ∃ a : α, cs = cl a ∧ P a)
    {fuel : Nat} {cs : List Value} {x : DataW H × List MemPlace} (h : DataW.trod enc Try.prog w base spare held fuel s cs = some x) :
    ∃ A c, ∃ xs : List α, cs = [.slice A xs.length c] ∧ ElAt w (fun k => k < w.heap.size) size A (xs.map cl) ∧ (∀ a ∈ xs, P a) ∧ xs.length ≤ c ∧ c ≤ 9223372036854775807 := by
  rcases open_slice hu h with ⟨hcs, _⟩ | ⟨a, len, cap, m, n, D, Pl, hcs, hb, hl, hm, hmm, hx, hi⟩
  · exact ⟨none, 0, [], hcs, fun h => absurd h (by simp), by simp, Nat.le_refl _, by omega⟩
  · have hml : len ≤ m := by rw [hmm]; split <;> omega
    rw [hsz] at hi
    have hcap : cap ≤ 9223372036854775807 := by simpa [maxLen] using hm
    rcases Nat.eq_zero_or_pos len with hz | hp
    · subst hz
      exact ⟨some a, cap, [], hcs, fun h => absurd h (by simp), by simp, Nat.zero_le _, hcap⟩
    · obtain ⟨b, o, spot⟩ := a
      have hspot : spot = none := by
        obtain ⟨cs', hc, _⟩ := hi 0 (by omega)
        obtain ⟨_, hcl, hat⟩ := World.cells?_some hc
        have h1 := hat 0 (by omega)
        rw [List.getElem?_eq_getElem (by omega)] at h1
        simpa [Addr.add] using World.cell?_spot h1
      subst hspot
      have hex : ∀ i, i < len → ∃ y : α, P y ∧ b < w.heap.size ∧ ∀ (j : Nat) v, (cl y)[j]? = some v → w.cell? ⟨b, o + i * size + j, none⟩ = some v := by
        intro i hil
        obtain ⟨cs', hc, ht⟩ := hi i (by omega)
        obtain ⟨_, hcl, hat⟩ := World.cells?_some hc
        obtain ⟨y, rfl, hy⟩ := hel _ _ _ ht
        have hlt : b < w.heap.size := by
          have h1 := hat 0 (by omega)
          rw [List.getElem?_eq_getElem (by omega)] at h1
          have := World.block_lt_of_cell? w _ h1
          simpa only [block_add] using this
        refine ⟨y, hy, hlt, fun j v hv => ?_⟩
        have hj := (List.getElem?_eq_some_iff.1 hv).1
        have h1 := hat j (by omega)
        simp only [add_plain'] at h1
        rw [h1]
        exact hv
      obtain ⟨X, hX⟩ := choose_lt (α := α) (p := fun i y => P y ∧ b < w.heap.size ∧ ∀ (j : Nat) v, (cl y)[j]? = some v → w.cell? ⟨b, o + i * size + j, none⟩ = some v) hex
      refine ⟨some ⟨b, o, none⟩, cap, (List.range len).map X, by simpa using hcs, fun _ => ⟨b, o, rfl, (hX 0 hp).2.1, (hX 0 hp).2.1, fun k y hk => ?_⟩, fun a ha => ?_, by simpa using hl, hcap⟩
      · have hkl : k < len := by
          have := (List.getElem?_eq_some_iff.1 hk).1
          simpa using this
        simp [hkl] at hk
        subst hk
        exact (hX k hkl).2.2
      · obtain ⟨i, hi, rfl⟩ := List.mem_map.1 ha
        exact (hX i (List.mem_range.1 hi)).1
theorem open_ents {r : Reach} {b0 : Nat} {v : Value} {d : DataW H} {p : List MemPlace} (hv : Value.okWide Try.prog w r b0 22 v) (h : DataW.Trod enc Try.prog w base spare held 22 v d p) :
    ∃ (A : Option Addr) (c : Nat) (xs : List Ent), v = .slice A xs.length c ∧ Ents w (.slice A xs.length c) xs ∧ Fit xs := by
  obtain ⟨A0, n0, c0, rfl⟩ := okWide_slice Try.underlying22 hv
  obtain ⟨fuel, hf⟩ := h
  obtain ⟨A, c, xs, hcs, h1, h2, h3, h4⟩ := els_of_trod (fun a : Ent => a.key.size ≤ 9223372036854775807 ∧ a.val.size ≤ 9223372036854775807) Ent.cl 22 34 5 Try.underlying22 (by kernel_rfl) (by omega) (fun _ => rfl) (fun _ _ _ h => cells_ent h) hf
  simp [Value.cells] at hcs
  obtain ⟨rfl, rfl, rfl⟩ := hcs
  exact ⟨A0, c0, xs, rfl, ⟨A0, c0, rfl, h1, h3, h4⟩, h2⟩
/-- How long a list of entries may be. -/
theorem ents_len {ts : List TypeId} {ds : List (DataW H)} (hz : (DataW.weightsEach Try.prog ts ds).all (· ≤ reachBytes) = true) {j : Nat} {A : Option Addr} {n c : Nat} {d : DataW H} {p : List MemPlace} (h : DataW.Trod enc Try.prog w base spare held 22 (.slice A n c) d p) (ht : ts[j]? = some 22) (hd : ds[j]? = some d) : n ≤ 4000000000000 := by
  obtain ⟨fuel, hf⟩ := h
  rcases open_slice Try.underlying22 hf with ⟨hcs, _⟩ | ⟨a, len, cap, m, k, D, Pl, hcs, _, _, _, _, hx, _⟩
  · simp [Value.cells] at hcs
    omega
  · simp [Value.cells] at hcs
    obtain ⟨rfl, rfl, rfl⟩ := hcs
    injection hx with hx _
    subst hx
    have := sized_slice hz ht hd Try.underlying22
    rw [show Try.prog.bytesOf 34 = 56 by kernel_rfl, show reachBytes = 140737488351232 from rfl] at this
    simp only [List.length_map, List.length_range] at this
    omega
end
end Go.Proofs.Ytdclkbhkboaafaa
