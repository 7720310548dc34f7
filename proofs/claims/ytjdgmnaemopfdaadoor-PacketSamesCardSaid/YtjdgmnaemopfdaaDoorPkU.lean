/- Package packet: within Read: an entry more. -/
import Derived.Test.YtjdgmnaemopfdaaDoorPkS
import Derived.Test.YtjdgmnaemopfdaaDoorOrdD
namespace Go.Proofs.YtjdgmnaemopfdaaDoor
open Go.RowKit Go.Lib
set_option linter.unusedVariables false
set_option maxRecDepth 100000
attribute [local go_sem ↓] Go.wp_at_zero Go.wp_at_succ

section
variable {w W W' : World} {g b : Nat} {r r' : Rd} {k f q s : Int} {A B : Option Addr} {c d : Nat} {ms : List Mem} {es : List Ent}
theorem RPk.adde (h : RPk w W g b r k f q s A c B d ms es) (he : Env w) {x : Ent} {B' : Option Addr} {d' : Nat} {V : World}
    (hrow : Row V (Plus (OwnB B d) W V) 64 5 (.slice B' (es.length + 1) d') (es.length + 1) ((es.map Ent.cl).flatten ++ x.cl)) (ho1 : Only (OwnB B d) W V)
    (hb' : Hld W' b 50 (pkc k f q s A ms.length c B' (es.length + 1) d')) (ho' : Only (At b) V W') : RPk w W' g b r k f q s A c B' d' ms (es ++ [x]) := by
  have hgl : g < W.heap.size := by
    obtain ⟨_, _, _, h2, _⟩ := h.rd
    exact h2.lt
  have hbl := h.box.lt
  have hw := h.only.size
  have ho : Only (Side w g b) W V := ho1.mono (fun j hj _ => (h.esr.tight.2 j hj).1)
  have e1 : (es ++ [x]).length = es.length + 1 := by simp
  have e2 : ((es ++ [x]).map Ent.cl).flatten = (es.map Ent.cl).flatten ++ x.cl := by simp
  have hrow2 : Row W' (Side w g b) 64 5 (.slice B' (es.length + 1) d') (es.length + 1) ((es.map Ent.cl).flatten ++ x.cl) := by
    refine (hrow.mono (G := Side w g b) (fun j hj _ => ?_)).only ho' (fun j hj e => hj.2.2 e)
    rcases hj with hj | hj
    · exact (h.esr.tight.2 j hj).1
    · have := h.hg; exact ⟨by omega, by omega, by omega⟩
  have hms : Row V (Side w g b) 68 3 (.slice A ms.length c) ms.length (ms.map Mem.cl).flatten :=
    (h.msr.tight.1.only ho1 (fun j hj => Row.apart h.msr h.esr (by decide) j hj)).mono (fun j hj _ => (h.msr.tight.2 j hj).1)
  refine ⟨?_, ?_, ?_, by rw [e1]; exact hb', h.hg, h.hb, h.hi, hms.only ho' (fun j hj e => hj.2.2 e), by rw [e1, e2]; exact hrow2, ?_⟩
  · refine inrd_only (inrd_only h.rd ho (fun e => e.2.1 rfl) (fun j hj e => ?_)) ho' (fun e => ?_) (fun j hj e => ?_)
    · have := e.1; have hj : j < w.heap.size := hj; omega
    · have := h.hb; have e : g = b := e; omega
    · have hj : j < w.heap.size := hj; have e : j = b := e; have := h.hb; have := h.hg; omega
  · exact (h.env.only ho (fun j hj => h.hiside j hj.1 he)).at_ ho' h.hib
  · exact (h.res.only ho (fun e => by have := e.1; omega)).only ho' (fun e => by have e : w.heap.size = b := e; have := h.hb; have := h.hg; omega)
  · exact (h.only.trans ho (fun j hj hl => by have := hj.1; omega)).trans ho' (fun j hj hl => by have hj : j = b := hj; have := h.hb; have := h.hg; omega)
end
theorem wpN_store_ent {ops : Array Oper} {Q : Exit → Act → World → Prop} {md : Region.Mode} {F : Nat → Prop} {w0 : World} {i : Nat} {o : Oper} {n : Nat} {listed : Array Bool} {a : Act} {w : World} (hr : Region.ready md ops listed = [i]) (hi : ops[i]? = some o) (hw : Region.wanted o (yielded ops a.tmps) = true)
    (hdst : o.dst = none) (x y : Operand) (ho : o.op = .store 48 x y) (g k : Nat) (hx : a.eval x = .pointer (some ⟨g, k, none⟩)) (A : Option Addr) (m c : Nat) (hy : a.eval y = .slice A m c) (t : TypeId) (cs : Array Value) (hg : Hld w g t cs) (u : Value) (hu : cs[k]? = some u)
    (hS : Only F w0 w) (hF : F g)
    (h : ∀ w', Hld w' g t (cs.setIfInBounds k (.slice A m c)) → Only (At g) w w' → Only F w0 w' → wpN Tryd.prog md ops Q F w0 n (listed.setIfInBounds i true) a w') : wpN Tryd.prog md ops Q F w0 (n + 1) listed a w := by
  refine wpN_one hr hi hw (fun w1 h1 => ?_)
  have hg1 := hg.only h1 (fun h => h)
  have c0 := (hg1.cell k).trans hu
  have f0 := hg1.free k
  have hA : Only (At g) w (w1.setCell ⟨g, k, none⟩ (.slice A m c)) := (Only.at_of h1).at_tr ((Only.refl (At g) w1).setCell (p := ⟨g, k, none⟩) (fun _ => rfl) _)
  have hE : Only F w0 (w1.setCell ⟨g, k, none⟩ (.slice A m c)) := hS.trans hA (fun j hj _ => by have hj : j = g := hj; rw [hj]; exact hF)
  have K := And.intro hE (h _ (hg1.set_ k (.slice A m c)) hA hE)
  have hp : ∀ v, a.put none v = a := fun _ => rfl
  unfold Oper.wp execOp
  simp only [ho, hx, hy]
  go_simp
  first | done | simpa [Oper.upon, hdst, hp] using K
end Go.Proofs.YtjdgmnaemopfdaaDoor
