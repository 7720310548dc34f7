/- append onto a slice without room to spare: whatever its block's marks are. -/
import Derived.Test.YtokgignmdgejoaaDoorStrY
namespace Go.Proofs.YtokgignmdgejoaaDoor
open Go.RowKit Go.Lib
set_option linter.unusedVariables false

section
variable {P : Program}
theorem run_append_full (w : World) (t ty e : TypeId) (i : TypeInfo) (z : Value) (size bytes : Nat) (ht : P.underlying t = some (.slice e)) (hi : P.info? e = some i) (hz : i.zero = some z)
    (hsize : i.size = size) (hby : i.bytes = bytes) (hzs : z.cells.size = size)
    (S S' : Nat → Prop) (hSl : ∀ k, S k → k < w.heap.size) (g n : Nat) (xs : List Value) (hx : Src w S size (some ⟨g, 0, none⟩) n xs) (hn : 0 < n)
    (A : Option Addr) (m c : Nat) (news : List Value) (hs : Src w S' size A m news)
    (h63 : n + m ≤ maxLen) (hbytes : (n + m) * bytes ≤ 140737488355328) :
    ∃ A' c' w', (Builtin.append_ #[t, t] ty #[.slice (some ⟨g, 0, none⟩) n n, .slice A m c]).run P w = .ok (.slice A' (n + m) c') w' ∧ Src w' (fun k => k < w'.heap.size) size A' (n + m) (xs ++ news) ∧ n + m ≤ c' ∧ c' ≤ maxLen ∧ Only Noth w w' := by
  subst hsize
  subst hby
  obtain ⟨ad0, e0, hS0, hlt0, holds⟩ := hx.2 hn
  obtain rfl : ad0 = ⟨g, 0, none⟩ := (Option.some.inj e0).symm
  by_cases hm : m = 0
  · subst hm
    have hn0 : news = [] := List.eq_nil_of_length_eq_zero (by simpa using hs.1)
    subst hn0
    have hst : ∀ a : Addr, (storeCells a []).run P w = .ok () w := fun a => rfl
    refine ⟨some ⟨g, 0, none⟩, n, w, ?_, by rw [Nat.add_zero, List.append_nil]; exact hx.mono (fun k h _ => hSl k h), by omega, by omega, Only.refl _ _⟩
    cases A with
    | none => simp [Builtin.append_, run_underlying ht, sizeOf, typeInfo, hi, Builtin.lenOf, Builtin.firstCells, hst]
    | some ad =>
      have hld : (loadCells ad 0).run P w = .ok #[] w := run_loadCells_list (P := P) w ad [] (by simp)
      simp [Builtin.append_, run_underlying ht, sizeOf, typeInfo, hi, Builtin.lenOf, Builtin.firstCells, hst, hld]
  · obtain ⟨ad, rfl, _, _, hnews⟩ := hs.2 (by omega)
    have hr := run_append_grow (P := P) w t ty e i z ht hi hz ⟨g, 0, none⟩ n n xs hx.1 holds ad m c news hs.1 hnews (by omega) (by simp only [maxLen] at h63; omega) (growslice_fits (by omega) hbytes)
    have hge := grownCap_ge w (n + m) n e
    have hcm : grownCap w (n + m) n e ≤ maxLen := grownCap_le_maxLen w (n + m) n e h63
    refine ⟨_, _, _, hr, ⟨by rw [List.length_append, hx.1, hs.1, Nat.add_mul], fun _ => ⟨_, rfl, by simp, by simp, fun j u hu => ?_⟩⟩, hge, hcm, ((Only.refl Noth w).drew).alloc _⟩
    rw [add_plain', Nat.zero_add]
    have hh : (w.drew.alloc (.cells (xs.toArray ++ news.toArray ++ Builtin.zeroCells z.cells (grownCap w (n + m) n e - (n + m))) e)).heap[w.heap.size]? = some (.cells _ e (0, 0)) := heap_alloc_new w.drew _
    rw [cell_of_row _ _ j _ e (0, 0) hh]
    have hj := (List.getElem?_eq_some_iff.1 hu).1
    rw [List.length_append] at hj
    rw [Array.getElem?_append_left (by simp; omega), ← hu]
    simp [List.getElem?_append]
theorem wpList_append_full {ops : Array Oper} {rest : List Oper} {o : Oper} {a : Act} {w : World} {Q : Exit → Act → World → Prop} (hgd : o.guard = none) (s x : Operand) (t : TypeId)
    (ho : o.op = .call { callee := .builtin .append, args := #[s, x], argTypes := #[t, t] })
    (e : TypeId) (i : TypeInfo) (z : Value) (size bytes : Nat) (ht : P.underlying t = some (.slice e)) (hi : P.info? e = some i) (hz : i.zero = some z)
    (hsize : i.size = size) (hby : i.bytes = bytes) (hzs : z.cells.size = size)
    (S S' : Nat → Prop) (hSl : ∀ k, S k → k < w.heap.size) (g n : Nat) (xs : List Value) (hv : a.eval s = .slice (some ⟨g, 0, none⟩) n n) (hrow : Src w S size (some ⟨g, 0, none⟩) n xs) (hn : 0 < n)
    (A : Option Addr) (m c : Nat) (news : List Value) (hx : a.eval x = .slice A m c) (hs : Src w S' size A m news)
    (h63 : n + m ≤ maxLen) (hbytes : (n + m) * bytes ≤ 140737488355328)
    (h : ∀ A' c' w', Src w' (fun k => k < w'.heap.size) size A' (n + m) (xs ++ news) → n + m ≤ c' → c' ≤ maxLen → Only Noth w w' → wpList P ops Q rest (a.put o.dst (.slice A' (n + m) c')) w') : wpList P ops Q (o :: rest) a w :=
  wpList_plain hgd fun K hK => by
    obtain ⟨A', c', w', hr, h1, h2, h3, h4⟩ := run_append_full (P := P) w t o.type e i z size bytes ht hi hz hsize hby hzs S S' hSl g n xs hrow hn A m c news hs h63 hbytes
    unfold Oper.wp execOp
    simp only [ho, resolve, invoke, builtin, Sem.run_bind, Sem.run_pure, Result.andThen_ok, List.map_toArray, List.map_cons, List.map_nil, hv, hx, hr]
    exact hK _ _ (h A' c' w' h1 h2 h3 h4)
/-- A slice value of the call's own, or one without room to spare whose block may bear a mark. -/
def Own (w : World) (F : Nat → Prop) (e : TypeId) (size : Nat) (v : Value) (n : Nat) (xs : List Value) : Prop :=
  Row w F e size v n xs ∨ ∃ g, v = .slice (some ⟨g, 0, none⟩) n n ∧ 0 < n ∧ n ≤ maxLen ∧ F g ∧ Src w (fun k => k = g) size (some ⟨g, 0, none⟩) n xs
theorem Own.shape {w : World} {F : Nat → Prop} {e : TypeId} {size : Nat} {v : Value} {n : Nat} {xs : List Value} (h : Own w F e size v n xs) : ∃ A c, v = .slice A n c ∧ n ≤ c ∧ c ≤ maxLen ∧ Src w F size A n xs := by
  rcases h with h | ⟨g, rfl, _, hm, hF, hs⟩
  · obtain ⟨A, c, rfl⟩ := h.shape
    exact ⟨A, c, rfl, h.caps.1, by simpa [maxLen] using h.caps.2, h.src⟩
  · exact ⟨_, _, rfl, Nat.le_refl _, hm, hs.mono (fun k hk _ => by rw [hk]; exact hF)⟩
theorem Own.alloc {w : World} {F : Nat → Prop} {e : TypeId} {size : Nat} {v : Value} {n : Nat} {xs : List Value} (h : Own w F e size v n xs) (o : Obj) : Own (w.alloc o) F e size v n xs := by
  rcases h with h | ⟨g, rfl, hn, hm, hF, hs⟩
  · exact .inl (h.alloc o)
  · exact .inr ⟨g, rfl, hn, hm, hF, hs.alloc o⟩
theorem Own.mono {w : World} {F G : Nat → Prop} {e : TypeId} {size : Nat} {v : Value} {n : Nat} {xs : List Value} (h : Own w F e size v n xs) (hFG : ∀ k, F k → k < w.heap.size → G k) : Own w G e size v n xs := by
  rcases h with h | ⟨g, rfl, hn, hm, hF, hs⟩
  · exact .inl (h.mono hFG)
  · obtain ⟨ad, _, hg, hlt, _⟩ := hs.2 hn
    have hg : ad.block = g := hg
    exact .inr ⟨g, rfl, hn, hm, hFG g hF (by rw [← hg]; exact hlt), hs⟩
theorem run_append_own' (w : World) (t ty e : TypeId) (i : TypeInfo) (z : Value) (size bytes : Nat) (ht : P.underlying t = some (.slice e)) (hi : P.info? e = some i) (hz : i.zero = some z)
    (hsize : i.size = size) (hby : i.bytes = bytes) (hzs : z.cells.size = size)
    (F S' : Nat → Prop) (v : Value) (n : Nat) (xs : List Value) (hrow : Own w F e size v n xs)
    (A : Option Addr) (m c : Nat) (news : List Value) (hs : Src w S' size A m news) (h1 : ∀ u ∈ news, u.oneCell' = true)
    (h63 : n + m ≤ maxLen) (hbytes : (n + m) * bytes ≤ 140737488355328) :
    ∃ v' w', (Builtin.append_ #[t, t] ty #[v, .slice A m c]).run P w = .ok v' w' ∧ Own w' (Plus F w w') e size v' (n + m) (xs ++ news) ∧ Only F w w' := by
  rcases hrow with h | ⟨g, rfl, hn, hnm, hF, hx⟩
  · obtain ⟨v', w', hr, h2, h3, _⟩ := run_append_row w t ty e i z size bytes ht hi hz hsize hby hzs F S' v n xs h A m c news hs h1 h63 hbytes
    exact ⟨v', w', hr, .inl h2, h3⟩
  · obtain ⟨ad0, e0, hS0, hlt0, holds⟩ := hx.2 hn
    obtain rfl : ad0 = ⟨g, 0, none⟩ := (Option.some.inj e0).symm
    by_cases hm : m = 0
    · subst hm
      have hn0 : news = [] := List.eq_nil_of_length_eq_zero (by simpa using hs.1)
      subst hn0
      have hst : ∀ a : Addr, (storeCells a []).run P w = .ok () w := fun a => rfl
      refine ⟨.slice (some ⟨g, 0, none⟩) n n, w, ?_, by rw [Nat.add_zero, List.append_nil]; exact .inr ⟨g, rfl, hn, hnm, .inl hF, hx⟩, Only.refl _ _⟩
      cases A with
      | none => simp [Builtin.append_, run_underlying ht, sizeOf, typeInfo, hi, Builtin.lenOf, Builtin.firstCells, hst]
      | some ad =>
        have hld : (loadCells ad 0).run P w = .ok #[] w := run_loadCells_list (P := P) w ad [] (by simp)
        simp [Builtin.append_, run_underlying ht, sizeOf, typeInfo, hi, Builtin.lenOf, Builtin.firstCells, hst, hld]
    · subst hsize
      subst hby
      obtain ⟨ad, rfl, _, _, hnews⟩ := hs.2 (by omega)
      have hr := run_append_grow (P := P) w t ty e i z ht hi hz ⟨g, 0, none⟩ n n xs hx.1 holds ad m c news hs.1 hnews (by omega) (by simp only [maxLen] at h63; omega) (growslice_fits (by omega) hbytes)
      have hge := grownCap_ge w (n + m) n e
      have hcm : grownCap w (n + m) n e ≤ maxLen := grownCap_le_maxLen w (n + m) n e h63
      refine ⟨_, _, hr, .inl ⟨by rw [List.length_append, hx.1, hs.1, Nat.add_mul], _, _, rfl, hge, hcm, .inr ⟨w.heap.size, _, rfl, .inr ⟨Nat.le_refl _, by simp⟩, heap_alloc_new w.drew _, ?_, ?_⟩⟩, ((Only.refl F w).drew).alloc _⟩
      · simp only [Array.size_append, List.size_toArray, size_zeroCells, hzs, hx.1, hs.1, ← Nat.add_mul]
        apply Nat.le_of_eq
        congr 1
        omega
      · simp only [Array.toList_append, List.append_assoc]
        rw [← List.append_assoc]
        have : (n + m) * i.size = (xs ++ news).length := by rw [List.length_append, hx.1, hs.1, Nat.add_mul]
        rw [this]
        exact List.take_left
theorem wpList_append_own' {ops : Array Oper} {rest : List Oper} {o : Oper} {a : Act} {w : World} {Q : Exit → Act → World → Prop} (hgd : o.guard = none) (s x : Operand) (t : TypeId)
    (ho : o.op = .call { callee := .builtin .append, args := #[s, x], argTypes := #[t, t] })
    (e : TypeId) (i : TypeInfo) (z : Value) (size bytes : Nat) (ht : P.underlying t = some (.slice e)) (hi : P.info? e = some i) (hz : i.zero = some z)
    (hsize : i.size = size) (hby : i.bytes = bytes) (hzs : z.cells.size = size)
    (F S' : Nat → Prop) (v : Value) (n : Nat) (xs : List Value) (hv : a.eval s = v) (hrow : Own w F e size v n xs)
    (A : Option Addr) (m c : Nat) (news : List Value) (hx : a.eval x = .slice A m c) (hs : Src w S' size A m news) (h1 : ∀ u ∈ news, u.oneCell' = true)
    (h63 : n + m ≤ maxLen) (hbytes : (n + m) * bytes ≤ 140737488355328)
    (h : ∀ v' w', Own w' (Plus F w w') e size v' (n + m) (xs ++ news) → Only F w w' → wpList P ops Q rest (a.put o.dst v') w') : wpList P ops Q (o :: rest) a w :=
  wpList_plain hgd fun K hK => by
    obtain ⟨v', w', hr, h2, h3⟩ := run_append_own' (P := P) w t o.type e i z size bytes ht hi hz hsize hby hzs F S' v n xs hrow A m c news hs h1 h63 hbytes
    unfold Oper.wp execOp
    simp only [ho, resolve, invoke, builtin, Sem.run_bind, Sem.run_pure, Result.andThen_ok, List.map_toArray, List.map_cons, List.map_nil, hv, hx, hr]
    exact hK _ _ (h v' w' h2 h3)
end
end Go.Proofs.YtokgignmdgejoaaDoor
