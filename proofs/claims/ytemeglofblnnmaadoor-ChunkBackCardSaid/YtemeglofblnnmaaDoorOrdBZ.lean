/- Steps of drawn regions that the readers' walks have in common. -/
import Derived.Test.YtemeglofblnnmaaDoorOrd
import Derived.Test.YtemeglofblnnmaaDoorOffZ
namespace Go.Proofs.YtemeglofblnnmaaDoor
open Go.RowKit Go.Lib
set_option linter.unusedVariables false

section
variable {ops : Array Oper} {o : Oper} {a : Act} {w0 : World} {Q : Exit → Act → World → Prop} {md : Region.Mode}
/-- Bytes as a string. -/
theorem sure_conv {x : Operand} {v : Value} {l : List UInt8} (h : Part w0 v l) (hw : Region.wanted o (yielded ops a.tmps) = true) (ho : o.op = .convert 22 9 x) (hx : a.eval x = v) :
    Sure Tryd.prog ops (Only Noth) (Only Noth w0) o (.string ⟨l.toArray⟩) a := by
  refine sure_value hw (fun w1 k1 => ?_)
  obtain ⟨A, c, rfl, h1, h2, h3⟩ := h.noth k1
  have := Part.conv (⟨A, c, rfl, h1, h2, h3⟩ : Part w1 (.slice A l.length c) l)
  unfold execOp
  simp only [ho, hx, Sem.run_bind, this, Result.andThen_ok, Sem.run_pure]
theorem sure_convs {F S : Nat → Prop} {x : Operand} {A : Option Addr} {n c : Nat} {l : List UInt8} (hn : l.length = n) (h : Src w0 S 1 A n (byteCells l)) (hSF : ∀ k, S k → ¬ F k) (hw : Region.wanted o (yielded ops a.tmps) = true) (ho : o.op = .convert 22 9 x) (hx : a.eval x = .slice A n c) :
    Sure Tryd.prog ops (Only Noth) (Only F w0) o (.string ⟨l.toArray⟩) a := by
  refine sure_value hw (fun w1 k1 => ?_)
  have := conv_b8n (w := w1) n c hn (h.only k1 hSF)
  unfold execOp
  simp only [ho, hx, Sem.run_bind, this, Result.andThen_ok, Sem.run_pure]
/-- A call that hands new bytes back. -/
theorem wpN_given {i : Nat} {d : Option Tmp} {n : Nat} {listed : Array Bool} {w : World} {f : FuncId} {args : Array Value} {L : List UInt8} (hc : ∀ w1, Only Noth w w1 → Calls Tryd.prog f args w1 (Given w1 L)) (hS : Only Noth w0 w)
    (hr : Region.ready md ops listed = [i]) (hi : ops[i]? = some o) (hd : o.dst = d) (hw : Region.wanted o (yielded ops a.tmps) = true) (he : ∀ w1, (execOp a.eval o).run Tryd.prog w1 = .ok (.enter f args) w1)
    (h : ∀ A c w2, Part w2 (.slice A L.length c) L → Only Noth w w2 → wpN Tryd.prog md ops Q Noth w2 n (listed.setIfInBounds i true) (a.put d (.slice A L.length c)) w2) : wpN Tryd.prog md ops Q Noth w0 (n + 1) listed a w := by
  refine wpN_call (T := fun v w1 w2 => ∃ A c, v = .slice A L.length c ∧ Part w2 v L ∧ Only Noth w1 w2) (fun w1 h1 => (hc w1 h1).mono ?_) hr hi hd hw he ?_
  · intro e w' hg
    obtain ⟨A, c, rfl, hp, ho⟩ := hg.part
    exact ⟨_, rfl, ⟨A, c, rfl, hp, ho⟩, only_up _ _ _ (only_up _ _ _ hS h1) ho⟩
  · rintro v w1 w2 h1 ⟨A, c, rfl, hp, ho⟩ h2
    exact wpN_rebase h2 (h A c w2 hp (h1.tr ho))
end
end Go.Proofs.YtemeglofblnnmaaDoor
