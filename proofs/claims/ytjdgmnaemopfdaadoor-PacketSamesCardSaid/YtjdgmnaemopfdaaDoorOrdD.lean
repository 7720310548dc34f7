/- The rule wpN: a load and a call, in either order. -/
import Derived.Test.YtjdgmnaemopfdaaDoorOrdC
namespace Go.Proofs.YtjdgmnaemopfdaaDoor
open Go.RowKit Go.Lib
set_option linter.unusedVariables false
section
variable {P : Program} {ops : Array Oper} {Q : Exit → Act → World → Prop} {md : Region.Mode} {F G : Nat → Prop} {w0 : World}
/-- A load (its value stands, whether or not the call has been) and a call: one goal. -/
theorem wpN_lc {i j : Nat} {o o' : Oper} {d d' : Option Tmp} {n : Nat} {listed : Array Bool} {a : Act} {w : World} {v : Value} {f : FuncId} {args : Array Value} {T : Value → World → World → Prop}
    (hr : Region.ready md ops listed = [i, j]) (hri : Region.ready md ops (listed.setIfInBounds i true) = [j]) (hrj : Region.ready md ops (listed.setIfInBounds j true) = [i])
    (hi : ops[i]? = some o) (hj : ops[j]? = some o') (hdd : o.dst = d) (hdd' : o'.dst = d') (hg : o.guard = none) (hg' : o'.guard = none) (hd : ∀ e, d = some e → d' ≠ some e) (hij : i ≠ j)
    (hS : Only F w0 w) (he : ∀ w1, Only G w w1 → (execOp a.eval o).run P w1 = .ok (.value v) w1) (he2 : ∀ u w1, Only G w w1 → (execOp (a.put d' u).eval o).run P w1 = .ok (.value v) w1)
    (hc1 : ∀ w1, (execOp a.eval o').run P w1 = .ok (.enter f args) w1) (hc2 : ∀ w1, (execOp (a.put d v).eval o').run P w1 = .ok (.enter f args) w1)
    (hc : ∀ w1, Only Noth w w1 → Calls P f args w1 (fun e w' => ∃ u, e = .returned u ∧ T u w1 w' ∧ Only F w0 w' ∧ Only G w w'))
    (h : ∀ u w1 w2 w3, Only Noth w w1 → T u w1 w2 → Only Noth w2 w3 → Only F w0 w3 →
      wpN P md ops Q F w0 n ((listed.setIfInBounds i true).setIfInBounds j true) ((a.put d v).put d' u) w3) : wpN P md ops Q F w0 (n + 2) listed a w := by
  subst hdd hdd'
  have hw : ∀ b : Act, Region.wanted o (yielded ops b.tmps) = true := fun b => by simp [Region.wanted, hg]
  have hw' : ∀ b : Act, Region.wanted o' (yielded ops b.tmps) = true := fun b => by simp [Region.wanted, hg']
  refine wpN_two hr hi (hw a) hj (hw' a) (fun w1 h1 => ?_) (fun w1 h1 => ?_)
  · unfold Oper.wp
    rw [he w1 (h1.mono (fun _ h _ => h.elim))]
    refine ⟨only_up w0 _ _ hS h1, wpN_one hri hj (hw' _) (fun w2 h2 => ?_)⟩
    unfold Oper.wp
    rw [hc2 w2]
    refine (hc w2 (h1.tr h2)).mono ?_
    rintro e w' ⟨u, rfl, ht, ho, hG⟩
    exact ⟨ho, h u w2 w' w' (h1.tr h2) ht (Only.refl _ _) ho⟩
  · unfold Oper.wp
    rw [hc1 w1]
    refine (hc w1 h1).mono ?_
    rintro e w' ⟨u, rfl, ht, ho, hG⟩
    refine ⟨ho, wpN_one hrj hi (hw _) (fun w2 h2 => ?_)⟩
    unfold Oper.wp
    rw [he2 u w2 (hG.trans h2 (fun _ h _ => h.elim))]
    refine ⟨only_up w0 _ _ ho h2, ?_⟩
    have := h u w1 w' w2 h1 ht h2 (only_up w0 _ _ ho h2)
    rw [Array.setIfInBounds_comm _ _ hij, Act.put_comm _ _ _ hd] at this
    exact this
/-- A load, a call whose answer is known (but that turns blocks of G), a slice made of that answer: one goal. -/
theorem wpN_lcb {i j k : Nat} {o o' o'' : Oper} {d d' d'' : Option Tmp} {n m : Nat} {listed : Array Bool} {a : Act} {w : World} {v u : Value} {f : FuncId} {args : Array Value} {T : World → World → Prop} {t : TypeId} {z : Array Value}
    (hr : Region.ready md ops listed = [i, j]) (hri : Region.ready md ops (listed.setIfInBounds i true) = [j]) (hrj : Region.ready md ops (listed.setIfInBounds j true) = [i, k])
    (hrij : Region.ready md ops ((listed.setIfInBounds i true).setIfInBounds j true) = [k]) (hrjk : Region.ready md ops ((listed.setIfInBounds j true).setIfInBounds k true) = [i])
    (hi : ops[i]? = some o) (hj : ops[j]? = some o') (hk : ops[k]? = some o'') (hdd : o.dst = d) (hdd' : o'.dst = d') (hdd'' : o''.dst = d'') (hg : o.guard = none) (hg' : o'.guard = none) (hg'' : o''.guard = none)
    (hd : ∀ e, d = some e → d' ≠ some e) (hd2 : ∀ e, d = some e → d'' ≠ some e) (hij : i ≠ j) (hik : i ≠ k)
    (hS : Only F w0 w) (he : ∀ w1, Only G w w1 → (execOp a.eval o).run P w1 = .ok (.value v) w1) (he2 : ∀ w1, Only G w w1 → (execOp (a.put d' u).eval o).run P w1 = .ok (.value v) w1)
    (he3 : ∀ q w1, Only G w w1 → (execOp ((a.put d' u).put d'' q).eval o).run P w1 = .ok (.value v) w1)
    (hc1 : ∀ w1, (execOp a.eval o').run P w1 = .ok (.enter f args) w1) (hc2 : ∀ w1, (execOp (a.put d v).eval o').run P w1 = .ok (.enter f args) w1)
    (hc : ∀ w1, Only Noth w w1 → Calls P f args w1 (fun e w' => e = .returned u ∧ T w1 w' ∧ Only F w0 w' ∧ Only G w w'))
    (hb1 : ∀ w1, (execOp (a.put d' u).eval o'').run P w1 = .ok (.value (.slice (some ⟨w1.heap.size, 0, none⟩) m m)) (w1.alloc (.cells z t)))
    (hb2 : ∀ w1, (execOp ((a.put d v).put d' u).eval o'').run P w1 = .ok (.value (.slice (some ⟨w1.heap.size, 0, none⟩) m m)) (w1.alloc (.cells z t)))
    (h : ∀ w1 w2 w3 p, Only Noth w w1 → T w1 w2 → Only Noth w2 w3 → Hld w3 p t z → Only F w0 w3 →
      wpN P md ops Q F w0 n (((listed.setIfInBounds i true).setIfInBounds j true).setIfInBounds k true) (((a.put d v).put d' u).put d'' (.slice (some ⟨p, 0, none⟩) m m)) w3) : wpN P md ops Q F w0 (n + 3) listed a w := by
  subst hdd hdd' hdd''
  have hw : ∀ b : Act, Region.wanted o (yielded ops b.tmps) = true := fun b => by simp [Region.wanted, hg]
  have hw' : ∀ b : Act, Region.wanted o' (yielded ops b.tmps) = true := fun b => by simp [Region.wanted, hg']
  have hw'' : ∀ b : Act, Region.wanted o'' (yielded ops b.tmps) = true := fun b => by simp [Region.wanted, hg'']
  have hrij2 : Region.ready md ops ((listed.setIfInBounds j true).setIfInBounds i true) = [k] := by rw [← Array.setIfInBounds_comm _ _ hij]; exact hrij
  refine wpN_two hr hi (hw a) hj (hw' a) (fun w1 h1 => ?_) (fun w1 h1 => ?_)
  · unfold Oper.wp
    rw [he w1 (h1.mono (fun _ h _ => h.elim))]
    refine ⟨only_up w0 _ _ hS h1, wpN_one hri hj (hw' _) (fun w2 h2 => ?_)⟩
    unfold Oper.wp
    rw [hc2 w2]
    refine (hc w2 (h1.tr h2)).mono ?_
    rintro e w' ⟨rfl, ht, ho, hG⟩
    refine ⟨ho, wpN_one hrij hk (hw'' _) (fun w3 h3 => ?_)⟩
    unfold Oper.wp
    rw [hb2 w3]
    have h4 := h3.alloc (.cells z t)
    exact ⟨only_up w0 _ _ ho h4, h w2 w' _ _ (h1.tr h2) ht h4 (Hld.new w3 t z) (only_up w0 _ _ ho h4)⟩
  · unfold Oper.wp
    rw [hc1 w1]
    refine (hc w1 h1).mono ?_
    rintro e w' ⟨rfl, ht, ho, hG⟩
    refine ⟨ho, wpN_two hrj hi (hw _) hk (hw'' _) (fun w2 h2 => ?_) (fun w2 h2 => ?_)⟩
    · unfold Oper.wp
      rw [he2 w2 (hG.trans h2 (fun _ h _ => h.elim))]
      refine ⟨only_up w0 _ _ ho h2, wpN_one hrij2 hk (hw'' _) (fun w3 h3 => ?_)⟩
      unfold Oper.wp
      have hput : (a.put o'.dst u).put o.dst v = (a.put o.dst v).put o'.dst u := (Act.put_comm _ _ _ hd).symm
      rw [hput, hb2 w3]
      have h4 := (h2.tr h3).alloc (.cells z t)
      refine ⟨only_up w0 _ _ ho h4, ?_⟩
      have := h w1 w' _ _ h1 ht h4 (Hld.new w3 t z) (only_up w0 _ _ ho h4)
      rw [Array.setIfInBounds_comm _ _ hij] at this
      exact this
    · unfold Oper.wp
      rw [hb1 w2]
      have h4 := h2.alloc (.cells z t)
      refine ⟨only_up w0 _ _ ho h4, wpN_one hrjk hi (hw _) (fun w3 h3 => ?_)⟩
      unfold Oper.wp
      rw [he3 _ w3 (hG.trans (h4.tr h3) (fun _ h _ => h.elim))]
      have h5 := h4.tr h3
      refine ⟨only_up w0 _ _ ho h5, ?_⟩
      have := h w1 w' _ _ h1 ht h5 ((Hld.new w2 t z).only h3 (fun h => h)) (only_up w0 _ _ ho h5)
      rw [Array.setIfInBounds_comm _ _ hij, Array.setIfInBounds_comm _ _ hik, Act.put_comm _ _ _ hd, Act.put_comm _ _ _ hd2] at this
      exact this
end
end Go.Proofs.YtjdgmnaemopfdaaDoor
