/- The joiner, step by step, in memory. -/
import Derived.Test.YtemeglofblnnmaaDoorJnE
namespace Go.Proofs.YtemeglofblnnmaaDoor
open Go.RowKit Go.Lib
set_option linter.unusedVariables false
set_option maxRecDepth 100000

/-- Within a call that began at w0: the joiner, its row, its texts; what was turned since. -/
structure St (R S : Nat → Prop) (w0 W : World) (g : Nat) (J : Jn) (A : Option Addr) (c : Nat) (css : List (List Value)) : Prop where
  box : Hld W g 74 #[.slice A J.T.length c, .int .i64 J.lost]
  row : Row W (fun b => R b ∨ New w0 b) 79 132 (.slice A J.T.length c) J.T.length css.flatten
  txs : Txs W (fun b => (S b ∨ New w0 b) ∧ ¬ RowB A c b) css J.T
  only : Only (fun b => b = g ∨ R b) w0 W
  ng : ¬ R g ∧ ¬ S g ∧ g < w0.heap.size
section
variable {R S : Nat → Prop} {w0 W W' : World} {g : Nat} {J : Jn} {A : Option Addr} {c : Nat} {css : List (List Value)}
theorem St.len (h : St R S w0 W g J A c css) : css.length = J.T.length := h.txs.1
theorem St.lens (h : St R S w0 W g J A c css) : ∀ cs ∈ css, cs.length = 132 := h.txs.len
theorem St.row_ne (h : St R S w0 W g J A c css) {k : Nat} (hk : RowB A c k) : k ≠ g ∧ (R k ∨ New w0 k) ∧ ∃ cur, Hld W k 79 cur := by
  obtain ⟨h1, cur, h2⟩ := h.row.tightB.2 k hk
  exact ⟨(show Hld W k 79 cur from h2).ne_ h.box (by decide), h1, cur, h2⟩
theorem St.noth (h : St R S w0 W g J A c css) (ho : Only Noth W W') : St R S w0 W' g J A c css :=
  ⟨h.box.only ho (fun h => h), h.row.only ho (fun _ _ h => h), h.txs.only ho (fun _ _ h => h), h.only.tr ho, h.ng⟩
theorem St.one (h : St R S w0 W g J A c css) : ∀ u ∈ css.flatten, u.oneCell' = true := by
  intro u hu
  obtain ⟨cs, h1, h2⟩ := List.mem_flatten.1 hu
  obtain ⟨i, hi, rfl⟩ := List.mem_iff_getElem.1 h1
  obtain ⟨cs', h3, h4⟩ := h.txs.2 i _ (List.getElem?_eq_getElem (by rw [← h.len]; exact hi))
  rw [List.getElem?_eq_getElem hi] at h3
  injection h3 with h3
  rw [h3] at h2
  exact h4.one u h2
/-- What is turned of the row's block, the box, or is new. -/
theorem St.only_row (h : St R S w0 W g J A c css) (ho : Only (RowB A c) W W') : Only (fun b => b = g ∨ R b) w0 W' := h.only.trans ho (fun j hj hl => by
  rcases (h.row_ne hj).2.1 with h1 | h1
  · exact .inr h1
  · have h1 : w0.heap.size ≤ j := h1
    omega)
theorem St.nr (h : St R S w0 W g J A c css) : ¬ (R g ∨ New w0 g) := fun hk => by
  rcases hk with hk | hk
  · exact h.ng.1 hk
  · have hk : w0.heap.size ≤ g := hk
    have := h.ng.2.2
    omega
theorem St.ns (h : St R S w0 W g J A c css) : ¬ (S g ∨ New w0 g) := fun hk => by
  rcases hk with hk | hk
  · exact h.ng.2.1 hk
  · have hk : w0.heap.size ≤ g := hk
    have := h.ng.2.2
    omega
theorem box_set0 {W : World} {g n c : Nat} {t : TypeId} {A A' : Option Addr} {n' c' : Nat} {l : Value} (h : Hld W g t #[.slice A n c, l]) : Hld (W.setCell ⟨g, 0, none⟩ (.slice A' n' c')) g t #[.slice A' n' c', l] := by
  have := h.set_ 0 (.slice A' n' c')
  simpa using this
theorem box_set1 {W : World} {g : Nat} {t : TypeId} {l m : Value} {s : Value} (h : Hld W g t #[s, l]) : Hld (W.setCell ⟨g, 1, none⟩ m) g t #[s, m] := by
  have := h.set_ 1 m
  simpa using this
/-- One text is deleted. -/
theorem St.erase (h : St R S w0 W g J A c css) {i : Nat} (hi : i < J.T.length) (hr : Row W' (RowB A c) 79 132 (.slice A (css.length - 1) c) (css.length - 1) (css.eraseIdx i).flatten) (ho : Only (RowB A c) W W') :
    St R S w0 (W'.setCell ⟨g, 0, none⟩ (.slice A (css.length - 1) c)) g ⟨J.T.eraseIdx i, J.lost⟩ A c (css.eraseIdx i) := by
  have hlen : (J.T.eraseIdx i).length = css.length - 1 := by rw [List.length_eraseIdx_of_lt hi, h.len]
  have hng : ¬ RowB A c g := fun hk => (h.row_ne hk).1 rfl
  have hb := h.box.only ho hng
  refine ⟨?_, ?_, ?_, ?_, ?_⟩
  · simp only [hlen]
    exact box_set0 hb
  · simp only [hlen]
    exact (hr.mono (fun k hk _ => (h.row_ne hk).2.1)).only ((Only.refl (fun k => k = g) W').setCell (p := ⟨g, 0, none⟩) (fun _ => rfl) _) (fun k hk e => h.nr (e ▸ hk))
  · exact ((h.txs.only ho (fun k hk hr => hk.2 hr)).erase i).only ((Only.refl (fun k => k = g) W').setCell (p := ⟨g, 0, none⟩) (fun _ => rfl) _) (fun k hk e => h.ns (e ▸ hk.1))
  · exact (h.only_row ho).setCell (fun _ => .inl rfl) _
  · exact h.ng
theorem St.lose (h : St R S w0 W g J A c css) : St R S w0 (W.setCell ⟨g, 1, none⟩ (.int .i64 ((J.lost : Int) + 1))) g ⟨J.T, J.lost + 1⟩ A c css :=
  ⟨by have := box_set1 (m := .int .i64 ((J.lost : Int) + 1)) h.box; simpa using this,
    h.row.only ((Only.refl (fun k => k = g) W).setCell (p := ⟨g, 1, none⟩) (fun _ => rfl) _) (fun k hk e => h.nr (e ▸ hk)),
    h.txs.only ((Only.refl (fun k => k = g) W).setCell (p := ⟨g, 1, none⟩) (fun _ => rfl) _) (fun k hk e => h.ns (e ▸ hk.1)),
    h.only.setCell (fun _ => .inl rfl) _, h.ng⟩
/-- A text is put behind the others: W2: behind append. -/
theorem St.snoc {W2 W3 : World} {t : Tx} {cs : List Value} {A' : Option Addr} {c' : Nat} (h : St R S w0 W g J A c css) (h1 : Only Noth W W') (hr : Row W2 (Plus (RowB A c) W' W2) 79 132 (.slice A' (J.T.length + 1) c') (J.T.length + 1) (css.flatten ++ cs)) (ho : Only (RowB A c) W' W2) (ht : ∀ V : World, TxIs V (fun _ => False) cs t)
    (hb3 : Hld W3 g 74 #[.slice A' (J.T.length + 1) c', .int .i64 J.lost]) (h3 : Only (fun k => k = g) W2 W3) : St R S w0 W3 g ⟨J.T ++ [t], J.lost⟩ A' c' (css ++ [cs]) := by
  have h0 := h.noth h1
  have hz0 := h.only.size
  have hz1 := h1.size
  have hsub : ∀ k, RowB A' c' k → RowB A c k ∨ W'.heap.size ≤ k := fun k hk => by
    rcases (hr.tightB.2 k hk).1 with h | h
    · exact .inl h
    · exact .inr h.1
  refine ⟨?_, ?_, ?_, ?_, h.ng⟩
  · simpa using hb3
  · have e1 : Row W2 (fun b => R b ∨ New w0 b) 79 132 (.slice A' (J.T ++ [t]).length c') (J.T ++ [t]).length (css ++ [cs]).flatten := by
      simp only [List.length_append, List.length_cons, List.length_nil, List.flatten_append, List.flatten_cons, List.flatten_nil, List.append_nil]
      refine hr.mono (fun k hk _ => ?_)
      rcases hk with hk | hk
      · exact (h0.row_ne hk).2.1
      · exact .inr (show w0.heap.size ≤ k by have := hk.1; omega)
    exact e1.only h3 (fun k hk e => h.nr (e ▸ hk))
  · have e1 : Txs W2 (fun b => (S b ∨ New w0 b) ∧ ¬ RowB A' c' b) (css ++ [cs]) (J.T ++ [t]) := by
      refine Txs.snoc ?_ ((ht W2).mono (fun _ h _ => h.elim))
      have e2 : Txs W' (fun b => ((S b ∨ New w0 b) ∧ ¬ RowB A c b) ∧ b < W'.heap.size) css J.T := h0.txs.mono (fun k hk hl => ⟨hk, hl⟩)
      refine (e2.only ho (fun k hk hr => hk.1.2 hr)).mono (fun k hk _ => ⟨hk.1.1, fun hk2 => ?_⟩)
      rcases hsub k hk2 with h4 | h4
      · exact hk.1.2 h4
      · omega
    exact e1.only h3 (fun k hk e => h.ns (e ▸ hk.1))
  · exact (h0.only_row ho).trans h3 (fun j hj _ => .inl hj)
/-- A part came to the text at i. -/
theorem St.put {i : Nat} {t : Tx} {b : Nat} {cur : Array Value} (h : St R S w0 W g J A c css) (hi : i < J.T.length) (hA : A = some ⟨b, 0, none⟩) (hc : c ≠ 0) (hg : Hld W b 79 cur) (hl : AddLeft W (fun b => (S b ∨ New w0 b) ∧ ¬ RowB A c b) b i cur t W') (ho : Only (fun k => k = b) W W') :
    ∃ css', St R S w0 W' g ⟨J.T.set i t, J.lost⟩ A c css' := by
  obtain ⟨cur', cs', hg', hsz, hout, hin, ht⟩ := hl
  have hrb : RowB A c b := ⟨hc, hA⟩
  have hro : Only (RowB A c) W W' := ho.mono (fun j hj _ => by have hj : j = b := hj; rw [hj]; exact hrb)
  have hbw : b < W.heap.size := hg.lt
  have hng : ¬ RowB A c g := fun hk => (h.row_ne hk).1 rfl
  obtain ⟨hl0, A', cap, hv, h1, h2, h3⟩ := h.row
  injection hv with e1 _ e3
  subst e1 e3
  rcases h3 with h3 | ⟨b2, cur2, hA2, hF, hg2, hc2, ht2⟩
  · exact absurd h3 hc
  rw [hA] at hA2
  injection hA2 with hA2
  injection hA2 with hA2
  subst hA2
  have hcc : cur2 = cur := by
    unfold Hld at hg
    rw [hg] at hg2
    injection hg2 with hg2
    injection hg2 with hg2
    exact hg2.symm
  subst hcc
  have hlens := h.lens
  have hlen := h.len
  have hflen := flat_len132 hlens
  have hcs' : cs'.length = 132 := ht.len
  have hset : ∀ cs ∈ css.set i cs', cs.length = 132 := fun cs hm => by
    rcases List.mem_or_eq_of_mem_set hm with hm | rfl
    · exact hlens cs hm
    · exact hcs'
  have htake : cur'.toList.take (J.T.length * 132) = (css.set i cs').flatten := by
    apply List.ext_getElem?
    intro x
    have hfl2 := flat_len132 hset
    rw [List.length_set] at hfl2
    by_cases hx : x < J.T.length * 132
    · rw [List.getElem?_take, if_pos hx]
      have hdm : x / 132 * 132 + x % 132 = x := by omega
      have hq : x / 132 < css.length := by omega
      have hr : x % 132 < 132 := Nat.mod_lt _ (by omega)
      obtain ⟨cs, hcs⟩ : ∃ cs, (css.set i cs')[x / 132]? = some cs := ⟨_, List.getElem?_eq_getElem (by simpa using hq)⟩
      have e1 := flat_at hset hcs hr
      rw [hdm] at e1
      rw [e1]
      by_cases e : x / 132 = i
      · rw [← e, List.getElem?_set_self hq] at hcs
        injection hcs with hcs
        subst hcs
        have h5 : x % 132 < cs'.length := by omega
        have := hin (x % 132) _ (List.getElem?_eq_getElem h5)
        rw [← e, hdm] at this
        rw [List.getElem?_eq_getElem h5]
        simpa using this
      · rw [List.getElem?_set_ne (fun e2 => e e2.symm)] at hcs
        have e2 := flat_at hlens hcs hr
        rw [hdm, ← ht2, List.getElem?_take, if_pos hx] at e2
        rw [← e2]
        have := hout x (by omega)
        simpa using this
    · rw [List.getElem?_take, if_neg hx, List.getElem?_eq_none (by omega)]
  refine ⟨css.set i cs', by simpa using h.box.only hro hng, ?_, ?_, h.only_row hro, h.ng⟩
  · refine ⟨by rw [← htake, List.length_take, Array.length_toList, hsz, List.length_set]; have := Nat.le_trans (Nat.mul_le_mul_right 132 h1) hc2; omega, A, c, by simp, by simpa using h1, h2, .inr ⟨b, cur', hA, (h.row_ne hrb).2.1, hg', by rw [hsz]; exact hc2, by simpa using htake⟩⟩
  · refine Txs.set ?_ hi (ht.mono (fun k hk hl => ?_))
    · exact (h.txs.only hro (fun k hk hr => hk.2 hr))
    · rcases hk with hk | hk
      · exact hk
      · have hk : W.heap.size ≤ k := hk
        refine ⟨.inr (Nat.le_trans h.only.size hk), fun hr => ?_⟩
        have := hr.2
        rw [hA] at this
        injection this with this
        injection this with this
        omega
end
end Go.Proofs.YtemeglofblnnmaaDoor
