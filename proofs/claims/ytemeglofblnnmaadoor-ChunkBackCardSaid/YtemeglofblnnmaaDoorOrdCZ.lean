/- A call that hands bytes back, in a drawn region. -/
import Derived.Test.YtemeglofblnnmaaDoorOrdBZ
import Derived.Test.YtemeglofblnnmaaDoorCvb
namespace Go.Proofs.YtemeglofblnnmaaDoor
open Go.RowKit Go.Lib
set_option linter.unusedVariables false
section
variable {ops : Array Oper} {o : Oper} {a : Act} {w0 : World} {Q : Exit → Act → World → Prop} {md : Region.Mode}
theorem wpN_givenp {i : Nat} {d : Option Tmp} {n : Nat} {listed : Array Bool} {w : World} {f : FuncId} {args : Array Value} {L : List UInt8} (hc : ∀ w1, Only Noth w w1 → Calls Tryd.prog f args w1 (GivenP w1 L)) (hS : Only Noth w0 w)
    (hr : Region.ready md ops listed = [i]) (hi : ops[i]? = some o) (hd : o.dst = d) (hw : Region.wanted o (yielded ops a.tmps) = true) (he : ∀ w1, (execOp a.eval o).run Tryd.prog w1 = .ok (.enter f args) w1)
    (h : ∀ A c w2, Part w2 (.slice A L.length c) L → Only Noth w w2 → wpN Tryd.prog md ops Q Noth w2 n (listed.setIfInBounds i true) (a.put d (.slice A L.length c)) w2) : wpN Tryd.prog md ops Q Noth w0 (n + 1) listed a w := by
  refine wpN_call (T := fun v w1 w2 => ∃ A c, v = .slice A L.length c ∧ Part w2 v L ∧ Only Noth w1 w2) (fun w1 h1 => (hc w1 h1).mono ?_) hr hi hd hw he ?_
  · rintro e w' ⟨A, c, rfl, hp, ho⟩
    exact ⟨_, rfl, ⟨A, c, rfl, hp, ho⟩, only_up _ _ _ (only_up _ _ _ hS h1) ho⟩
  · rintro v w1 w2 h1 ⟨A, c, rfl, hp, ho⟩ h2
    exact wpN_rebase h2 (h A c w2 hp (h1.tr ho))
/-- A call that hands a new row of bytes back. -/
theorem wpN_givenr {i : Nat} {d : Option Tmp} {n : Nat} {listed : Array Bool} {w : World} {f : FuncId} {args : Array Value} {L : List UInt8} (hc : ∀ w1, Only Noth w w1 → Calls Tryd.prog f args w1 (Given w1 L)) (hS : Only Noth w0 w)
    (hr : Region.ready md ops listed = [i]) (hi : ops[i]? = some o) (hd : o.dst = d) (hw : Region.wanted o (yielded ops a.tmps) = true) (he : ∀ w1, (execOp a.eval o).run Tryd.prog w1 = .ok (.enter f args) w1)
    (h : ∀ A c w2, Row w2 (New w) 5 1 (.slice A L.length c) L.length (byteCells L) → Only Noth w w2 → wpN Tryd.prog md ops Q Noth w2 n (listed.setIfInBounds i true) (a.put d (.slice A L.length c)) w2) : wpN Tryd.prog md ops Q Noth w0 (n + 1) listed a w := by
  refine wpN_call (T := fun v w1 w2 => ∃ A c, v = .slice A L.length c ∧ Row w2 (New w1) 5 1 v L.length (byteCells L) ∧ Only Noth w1 w2) (fun w1 h1 => (hc w1 h1).mono ?_) hr hi hd hw he ?_
  · rintro e w' ⟨A, c, rfl, hp, ho, _, _⟩
    exact ⟨_, rfl, ⟨A, c, rfl, hp, ho⟩, only_up _ _ _ (only_up _ _ _ hS h1) ho⟩
  · rintro v w1 w2 h1 ⟨A, c, rfl, hp, ho⟩ h2
    refine wpN_rebase h2 (h A c w2 (hp.mono (fun k hk _ => ?_)) (h1.tr ho))
    have := h1.size
    unfold New at hk ⊢
    omega
theorem given_p {f : FuncId} {args : Array Value} {w : World} {L : List UInt8} (h : Calls Tryd.prog f args w (Given w L)) : Calls Tryd.prog f args w (GivenP w L) := h.mono fun _ _ k => k.p
end
end Go.Proofs.YtemeglofblnnmaaDoor
