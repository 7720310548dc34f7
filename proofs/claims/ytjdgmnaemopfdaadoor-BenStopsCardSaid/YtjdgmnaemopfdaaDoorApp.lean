/- append onto a slice without room to spare: whatever its block's marks are. -/
import Derived.Test.YtjdgmnaemopfdaaDoorStr
namespace Go.Proofs.YtjdgmnaemopfdaaDoor
open Go.RowKit Go.Lib
set_option linter.unusedVariables false

section
variable {P : Program}
theorem run_append_full (w : World) (t ty e : TypeId) (i : TypeInfo) (z : Value) (size bytes : Nat) (ht : P.underlying t = some (.slice e)) (hi : P.info? e = some i) (hz : i.zero = some z)
    (hsize : i.size = size) (hby : i.bytes = bytes) (hzs : z.cells.size = size)
    (S S' : Nat → Prop) (hSl : ∀ k, S k → k < w.heap.size) (g n : Nat) (xs : List Value) (hx : Src w S size (some ⟨g, 0, none⟩) n xs) (hn : 0 < n)
    (A : Option Addr) (m c : Nat) (news : List Value) (hs : Src w S' size A m news)
    (h63 : n + m ≤ maxLen) (hbytes : (n + m) * bytes ≤ 140737488355328) :
    ∃ A' c' w', (Builtin.append_ #[t, t] ty #[.slice (some ⟨g, 0, none⟩) n n, .slice A m c]).run P w = .ok (.slice A' (n + m) c') w' ∧ Src w' (fun k => k < w'.heap.size) size A' (n + m) (xs ++ news) ∧ n + m ≤ c' ∧ c' ≤ maxLen ∧ Only Noth w w' := by
  subst hsize
  subst hby
  obtain ⟨ad0, e0, hS0, hlt0, holds⟩ := hx.2 hn
  obtain rfl : ad0 = ⟨g, 0, none⟩ := (Option.some.inj e0).symm
  by_cases hm : m = 0
  · subst hm
    have hn0 : news = [] := List.eq_nil_of_length_eq_zero (by simpa using hs.1)
    subst hn0
    have hst : ∀ a : Addr, (storeCells a []).run P w = .ok () w := fun a => rfl
    refine ⟨some ⟨g, 0, none⟩, n, w, ?_, by rw [Nat.add_zero, List.append_nil]; exact hx.mono (fun k h _ => hSl k h), by omega, by omega, Only.refl _ _⟩
    cases A with
    | none => simp [Builtin.append_, run_underlying ht, sizeOf, typeInfo, hi, Builtin.lenOf, Builtin.firstCells, hst]
    | some ad =>
      have hld : (loadCells ad 0).run P w = .ok #[] w := run_loadCells_list (P := P) w ad [] (by simp)
      simp [Builtin.append_, run_underlying ht, sizeOf, typeInfo, hi, Builtin.lenOf, Builtin.firstCells, hst, hld]
  · obtain ⟨ad, rfl, _, _, hnews⟩ := hs.2 (by omega)
    have hr := run_append_grow (P := P) w t ty e i z ht hi hz ⟨g, 0, none⟩ n n xs hx.1 holds ad m c news hs.1 hnews (by omega) (by simp only [maxLen] at h63; omega) (growslice_fits (by omega) hbytes)
    have hge := grownCap_ge w (n + m) n e
    have hcm : grownCap w (n + m) n e ≤ maxLen := grownCap_le_maxLen w (n + m) n e h63
    refine ⟨_, _, _, hr, ⟨by rw [List.length_append, hx.1, hs.1, Nat.add_mul], fun _ => ⟨_, rfl, by simp, by simp, fun j u hu => ?_⟩⟩, hge, hcm, ((Only.refl Noth w).drew).alloc _⟩
    rw [add_plain', Nat.zero_add]
    have hh : (w.drew.alloc (.cells (xs.toArray ++ news.toArray ++ Builtin.zeroCells z.cells (grownCap w (n + m) n e - (n + m))) e)).heap[w.heap.size]? = some (.cells _ e (0, 0)) := heap_alloc_new w.drew _
    rw [cell_of_row _ _ j _ e (0, 0) hh]
    have hj := (List.getElem?_eq_some_iff.1 hu).1
    rw [List.length_append] at hj
    rw [Array.getElem?_append_left (by simp; omega), ← hu]
    simp [List.getElem?_append]
theorem wpList_append_full {ops : Array Oper} {rest : List Oper} {o : Oper} {a : Act} {w : World} {Q : Exit → Act → World → Prop} (hgd : o.guard = none) (s x : Operand) (t : TypeId)
    (ho : o.op = .call { callee := .builtin .append, args := #[s, x], argTypes := #[t, t] })
    (e : TypeId) (i : TypeInfo) (z : Value) (size bytes : Nat) (ht : P.underlying t = some (.slice e)) (hi : P.info? e = some i) (hz : i.zero = some z)
    (hsize : i.size = size) (hby : i.bytes = bytes) (hzs : z.cells.size = size)
    (S S' : Nat → Prop) (hSl : ∀ k, S k → k < w.heap.size) (g n : Nat) (xs : List Value) (hv : a.eval s = .slice (some ⟨g, 0, none⟩) n n) (hrow : Src w S size (some ⟨g, 0, none⟩) n xs) (hn : 0 < n)
    (A : Option Addr) (m c : Nat) (news : List Value) (hx : a.eval x = .slice A m c) (hs : Src w S' size A m news)
    (h63 : n + m ≤ maxLen) (hbytes : (n + m) * bytes ≤ 140737488355328)
    (h : ∀ A' c' w', Src w' (fun k => k < w'.heap.size) size A' (n + m) (xs ++ news) → n + m ≤ c' → c' ≤ maxLen → Only Noth w w' → wpList P ops Q rest (a.put o.dst (.slice A' (n + m) c')) w') : wpList P ops Q (o :: rest) a w :=
  wpList_plain hgd fun K hK => by
    obtain ⟨A', c', w', hr, h1, h2, h3, h4⟩ := run_append_full (P := P) w t o.type e i z size bytes ht hi hz hsize hby hzs S S' hSl g n xs hrow hn A m c news hs h63 hbytes
    unfold Oper.wp execOp
    simp only [ho, resolve, invoke, builtin, Sem.run_bind, Sem.run_pure, Result.andThen_ok, List.map_toArray, List.map_cons, List.map_nil, hv, hx, hr]
    exact hK _ _ (h A' c' w' h1 h2 h3 h4)
end
end Go.Proofs.YtjdgmnaemopfdaaDoor
