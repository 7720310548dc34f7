/- Rows of elements of some cells each: one cell is turned. -/
import Derived.Test.YtemeglofblnnmaaDoorMem
namespace Go.Proofs.YtemeglofblnnmaaDoor
open Go.RowKit
set_option linter.unusedVariables false

theorem flat_atg {size : Nat} {css : List (List Value)} (hs : ∀ cs ∈ css, cs.length = size) {k j : Nat} {cs : List Value} (hk : css[k]? = some cs) (hj : j < size) : css.flatten[k * size + j]? = cs[j]? := by
  induction css generalizing k with
  | nil => cases hk
  | cons a t ih =>
    have ha := hs a (by simp)
    rw [List.flatten_cons]
    cases k with
    | zero =>
      injection hk with hk
      subst hk
      rw [List.getElem?_append_left (by omega)]
      congr 1
      omega
    | succ k =>
      rw [List.getElem?_append_right (by rw [ha, Nat.add_mul]; omega), ha, show (k + 1) * size + j - size = k * size + j by rw [Nat.add_mul]; omega]
      exact ih (fun cs hc => hs cs (by simp [hc])) hk
theorem flat_lenG {size : Nat} {css : List (List Value)} (h : ∀ cs ∈ css, cs.length = size) : css.flatten.length = css.length * size := by
  induction css with
  | nil => simp
  | cons a t ih =>
    rw [List.flatten_cons, List.length_append, h a (by simp), ih (fun cs hc => h cs (by simp [hc])), List.length_cons, Nat.add_mul]
    omega
theorem flat_setG {size : Nat} {css : List (List Value)} (hs : ∀ cs ∈ css, cs.length = size) {i r : Nat} {cs : List Value} {v : Value} (hi : css[i]? = some cs) (hr : r < size) : (css.set i (cs.set r v)).flatten = css.flatten.set (i * size + r) v := by
  induction css generalizing i with
  | nil => cases hi
  | cons a t ih =>
    have ha := hs a (by simp)
    cases i with
    | zero =>
      injection hi with hi
      subst hi
      rw [List.set_cons_zero, List.flatten_cons, List.flatten_cons, List.set_append_left _ _ (by omega)]
      congr 2
      omega
    | succ i =>
      rw [List.set_cons_succ, List.flatten_cons, List.flatten_cons, ih (fun cs hc => hs cs (by simp [hc])) hi, List.set_append_right _ _ (by rw [ha, Nat.add_mul]; omega)]
      congr 2
      rw [ha, Nat.add_mul]
      omega
/-- The block of a row, a cell of it, and the row behind a store. -/
theorem Row.cell_at {w : World} {F : Nat → Prop} {e : TypeId} {size c : Nat} {A : Option Addr} {css : List (List Value)} (h : Row w F e size (.slice A css.length c) css.length css.flatten) (hs : ∀ cs ∈ css, cs.length = size) {i r : Nat} {cs : List Value} {u : Value} (hi : css[i]? = some cs) (hu : cs[r]? = some u) :
    ∃ g cur, A = some ⟨g, 0, none⟩ ∧ F g ∧ Hld w g e cur ∧ cur[i * size + r]? = some u ∧
      ∀ (w' : World) (v : Value), Hld w' g e (cur.setIfInBounds (i * size + r) v) → Row w' F e size (.slice A (css.set i (cs.set r v)).length c) (css.set i (cs.set r v)).length (css.set i (cs.set r v)).flatten := by
  have hil := (List.getElem?_eq_some_iff.1 hi).1
  have hrl : r < size := by have := (List.getElem?_eq_some_iff.1 hu).1; rw [hs cs (List.mem_of_getElem? hi)] at this; exact this
  have hx : i * size + r < css.length * size := by
    have e : (i + 1) * size = i * size + size := by rw [Nat.add_mul]; omega
    have h1 : (i + 1) * size ≤ css.length * size := Nat.mul_le_mul_right _ hil
    omega
  obtain ⟨hl, A', cap, hv, h1, h2, h3⟩ := h
  injection hv with e1 _ e3
  subst e1 e3
  rcases h3 with h3 | ⟨g, cur, hA, hF, hg, hc, ht⟩
  · omega
  · refine ⟨g, cur, hA, hF, hg, ?_, fun w' v hg' => ⟨?_, A, c, rfl, by simpa using h1, h2, .inr ⟨g, _, hA, hF, hg', by simpa using hc, ?_⟩⟩⟩
    · have h5 := flat_atg hs hi hrl
      rw [hu, ← ht, List.getElem?_take, if_pos hx] at h5
      simpa using h5
    · rw [flat_setG hs hi hrl, List.length_set, List.length_set, hl]
    · rw [flat_setG hs hi hrl, List.length_set, ← ht]
      apply List.ext_getElem?
      intro x
      simp only [Array.toList_setIfInBounds, List.getElem?_take, List.getElem?_set, List.length_take, Array.length_toList]
      by_cases hxx : x < css.length * size
      · rw [if_pos hxx]
        by_cases e : i * size + r = x
        · subst e
          have : css.length * size ≤ cur.size := Nat.le_trans (Nat.mul_le_mul_right _ h1) hc
          rw [if_pos rfl, if_pos rfl, if_pos (by omega), if_pos (by omega)]
        · rw [if_neg e, if_neg e, if_pos hxx]
      · rw [if_neg hxx]
        by_cases e : i * size + r = x
        · omega
        · rw [if_neg e, if_neg hxx]
/-- The block of a row's address lies in the row's set and in memory; a row that has elements has room. -/
theorem Row.tight4 {w : World} {F : Nat → Prop} {e : TypeId} {size n c k : Nat} {A : Option Addr} {xs : List Value} (h : Row w F e size (.slice A n c) n xs) (hk : c ≠ 0 ∧ A = some ⟨k, 0, none⟩) : F k ∧ ∃ cur, w.heap[k]? = some (.cells cur e (0, 0)) := by
  obtain ⟨_, A', cap, hv, h1, h2, h3⟩ := h
  injection hv with e1 _ e3
  subst e1 e3
  rcases h3 with h3 | ⟨g, cur, hA, hF, hg, hc, ht⟩
  · exact absurd h3 hk.1
  · rw [hk.2] at hA
    injection hA with hA
    injection hA with hA
    subst hA
    exact ⟨hF, cur, hg⟩
theorem Row.cap4 {w : World} {F : Nat → Prop} {e : TypeId} {size n c : Nat} {A : Option Addr} {xs : List Value} (h : Row w F e size (.slice A n c) n xs) : n ≤ c := by
  obtain ⟨_, A', cap, hv, h1, h2, h3⟩ := h
  injection hv with _ _ e3
  subst e3
  exact h1
end Go.Proofs.YtemeglofblnnmaaDoor
