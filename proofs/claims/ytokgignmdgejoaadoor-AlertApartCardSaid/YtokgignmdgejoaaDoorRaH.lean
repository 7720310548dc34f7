/- Both stores within a walk of the law. -/
import Derived.Test.YtokgignmdgejoaaDoorRaG
import Derived.Test.YtokgignmdgejoaaDoorOrdL
namespace Go.Proofs.YtokgignmdgejoaaDoor
open Go.RowKit Go.Lib
set_option linter.unusedVariables false
set_option linter.unusedSimpArgs false
set_option maxRecDepth 100000
attribute [local go_sem ↓] Go.wp_at_zero Go.wp_at_succ

/-- Both stores, the document's in its variable's block p; made since w. -/
structure PlayAt (w : World) (g b p : Nat) (L N : List Al) (A : Option Addr) (c : Nat) (W : World) : Prop where
  st : AlAt W g b L
  rf : RfAt W (fun k => k ≠ b ∧ k ≠ p) A c N
  tw : Tw L N
  bx : Hld W p 40 #[.slice A N.length c]
  lo : w.heap.size ≤ g ∧ w.heap.size ≤ b ∧ w.heap.size ≤ p
  on : Only Noth w W
def DoRes (g b : Nat) (S : Nat → Prop) (v : Value) (w1 w' : World) : Prop :=
  ∃ L' A' c' N', v = .tuple #[.agg #[.slice A' N'.length c'], .bool true] ∧ AlAt w' g b L' ∧ RfAt w' (fun k => S k ∨ w1.heap.size ≤ k) A' c' N' ∧ Tw L' N'
theorem AlAt.aside {W : World} {g b p n c : Nat} {L : List Al} {t : TypeId} {A : Option Addr} (h : AlAt W g b L) (hp : Hld W p t #[.slice A n c]) : p ≠ g ∧ p ≠ b ∧ ∀ e ∈ L, p ≠ e.blk := by
  refine ⟨fun e => ?_, fun e => ?_, fun e he e2 => ?_⟩
  · subst e
    have h1 := h.box.cell 0
    rw [hp.cell 0] at h1
    cases h1
  · subst e
    obtain ⟨es, clock, h2, _⟩ := h.own
    unfold Hld at hp
    rw [hp] at h2
    cases h2
  · obtain ⟨k1, _⟩ := h.labs e he
    have hl := (h.ok e he).2.1
    obtain ⟨bb, oo, hA, hS, _, hc⟩ := k1.mem (by omega)
    injection hA with hA
    injection hA with e3 e4
    subst e3 e4
    obtain ⟨x, hx⟩ : ∃ x, e.ls[0]? = some x := ⟨_, List.getElem?_eq_getElem (by omega)⟩
    have h1 := (hc 0 x hx).1
    subst e2
    rw [show 0 + 0 * 2 = 0 from rfl, hp.cell 0] at h1
    cases h1
theorem PlayAt.pb {w W : World} {g b p : Nat} {L N : List Al} {A : Option Addr} {c : Nat} (h : PlayAt w g b p L N A c W) : p ≠ b := (h.st.aside h.bx).2.1
theorem PlayAt.noth {w W W' : World} {g b p : Nat} {L N : List Al} {A : Option Addr} {c : Nat} (h : PlayAt w g b p L N A c W) (ho : Only Noth W W') : PlayAt w g b p L N A c W' :=
  ⟨h.st.noth ho, h.rf.noth ho, h.tw, h.bx.only ho (fun h => h), h.lo, h.on.tr ho⟩
theorem PlayAt.next {w W w3 w4 w5 w6 w7 : World} {g b p : Nat} {L N L2 N2 : List Al} {A A2 : Option Addr} {c c2 : Nat} (h : PlayAt w g b p L N A c W) (h3 : Only Noth W w3) (h4 : Only (fun k => k = b) W w4)
    (hst : AlAt w4 g b L2) (hrf : RfAt w4 (fun k => (k ≠ b ∧ k ≠ p) ∨ w3.heap.size ≤ k) A2 c2 N2) (htw : Tw L2 N2) (h5 : Only Noth w4 w5) (hb : Hld w6 p 40 #[.slice A2 N2.length c2]) (h6 : Only (fun k => k = p) w5 w6) (h7 : Only Noth w6 w7) : PlayAt w g b p L2 N2 A2 c2 w7 := by
  have hpb := h.pb
  have hp4 := h.bx.only h4 (fun e => hpb e)
  have ha := hst.aside hp4
  have hbl := h.st.own.lt
  have hpl := h.bx.lt
  have hz := h3.size
  have h46 : Only (fun k => k = p) w4 w6 := (h5.mono (fun _ h _ => h.elim)).trans h6 (fun _ h _ => h)
  refine ⟨(hst.only h46 (fun k hk => by have hk : k = p := hk; subst hk; exact ha)).noth h7, (((hrf.mono (T := fun k => k ≠ b ∧ k ≠ p) (fun k hk _ => ?_)).only h46 (fun k hk e => hk.2 e)).noth h7), htw, hb.only h7 (fun h => h), h.lo, ((h.on.trans h4 (fun k hk hl => ?_)).trans h46 (fun k hk hl => ?_)).tr h7⟩
  · rcases hk with hk | hk
    · exact hk
    · exact ⟨by omega, by omega⟩
  · have hk : k = b := hk
    have := h.lo.2.1
    omega
  · have hk : k = p := hk
    have := h.lo.2.2
    omega
theorem play_start {w w1 w2 : World} {g b : Nat} (h : AlAt w1 g b []) (ho : Only Noth w w1) (hg : w.heap.size ≤ g) (hb : w.heap.size ≤ b) (h2 : Only Noth w1 w2) (hp : Hld w2 w1.heap.size 40 #[.slice none 0 0]) : PlayAt w g b w1.heap.size [] [] none 0 w2 :=
  ⟨h.noth h2, ⟨LsAt.nil _ _ _ _ (by omega), List.Pairwise.nil, by simp, fun e h => absurd h (by simp)⟩, trivial, hp, ⟨hg, hb, ho.size⟩, ho.tr h2⟩
end Go.Proofs.YtokgignmdgejoaaDoor
