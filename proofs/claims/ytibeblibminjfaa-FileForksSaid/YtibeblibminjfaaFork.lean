/- Fork of a disk. -/
import Derived.Test.YtibeblibminjfaaAwake
namespace Go.Proofs.Ytibeblibminjfaa
open Go.RowKit
set_option linter.unusedVariables false

theorem fork_nil (w : World) : Calls Try.prog 18 #[.pointer none] w fun e w' => e = .returned (.pointer none) ∧ w = w' := by
  go_enter Try.func18, Try.ntmps18
  go_wp2
  go_ret
  exact ⟨rfl, rfl⟩

/-- A disk of its own, out of two clones. -/
theorem fork_left {w w1 w2 w' : World} {b : Nat} {d : Dk} {vs vl v1 v2 : Value} {o : Obj} (h1 : Hld w b 56 (dcells vs vl d.sf d.cp d.op d.fu d.dn d.dw)) (hok : d.Ok) (ho : o = .cells (dcells vs vl d.sf d.cp d.op d.fu d.dn d.dw) 56)
    (g1 : Hid (Cloned 5 d.snap.length (u8s d.snap) v1 (w.alloc o).drew w1)) (g2 : Hid (Cloned 5 d.log.length (u8s d.log) v2 w1 w2))
    (hw : w' = (w2.setCell ⟨w.heap.size, 0, none⟩ v1).setCell ⟨w.heap.size, 1, none⟩ v2) : Leaves Noth w.heap.size d w w' := by
  subst ho
  subst hw
  obtain ⟨r1, o1⟩ := g1.out.undrew
  obtain ⟨r2, o2⟩ := g2.out
  have z0 : (w.alloc (.cells (dcells vs vl d.sf d.cp d.op d.fu d.dn d.dw) 56)).heap.size = w.heap.size + 1 := by simp
  have s1 := o1.size
  have s2 := o2.size
  have hn := ((Hld.new w 56 (dcells vs vl d.sf d.cp d.op d.fu d.dn d.dw)).only o1 (fun h => h)).only o2 (fun h => h)
  have hz : ((w2.setCell ⟨w.heap.size, 0, none⟩ v1).setCell ⟨w.heap.size, 1, none⟩ v2).heap.size = w2.heap.size := by simp [World.setCell]
  have n1 : ∀ k, Plus Noth (w.alloc (.cells (dcells vs vl d.sf d.cp d.op d.fu d.dn d.dw) 56)) w1 k → w.heap.size + 1 ≤ k ∧ k < w1.heap.size := fun k hk => by
    rcases hk with hk | hk
    · exact hk.elim
    · omega
  have n2 : ∀ k, Plus Noth w1 w2 k → w1.heap.size ≤ k ∧ k < w2.heap.size := fun k hk => by
    rcases hk with hk | hk
    · exact hk.elim
    · omega
  refine ⟨⟨v1, v2, _, _, ?_, ((r1.only o2 (fun _ _ h => h)).setCell (p := ⟨w.heap.size, 0, none⟩) (fun h => by have := n1 _ h; simp only [] at this; omega) v1).setCell (p := ⟨w.heap.size, 1, none⟩) (fun h => by have := n1 _ h; simp only [] at this; omega) v2,
    (r2.setCell (p := ⟨w.heap.size, 0, none⟩) (fun h => by have := n2 _ h; simp only [] at this; omega) v1).setCell (p := ⟨w.heap.size, 1, none⟩) (fun h => by have := n2 _ h; simp only [] at this; omega) v2,
    fun k hk => ?_, fun k hk => ?_, ?_, ?_, hok⟩, ?_⟩
  · simpa [dcells] using (hn.set_ 0 v1).set_ 1 v2
  · have := n1 k hk
    exact ⟨.inr ⟨by omega, by rw [hz]; omega⟩, by omega, fun h => by have := n2 k h; omega⟩
  · have := n2 k hk
    exact ⟨.inr ⟨by omega, by rw [hz]; omega⟩, by omega⟩
  · exact .inr ⟨Nat.le_refl _, by rw [hz]; omega⟩
  · rintro k (hk | hk)
    · exact hk.elim
    · exact hk.2
  · have h0 := (((Only.refl Noth w).alloc (.cells (dcells vs vl d.sf d.cp d.op d.fu d.dn d.dw) 56)).trans o1 (fun _ h _ => h)).trans o2 (fun _ h _ => h)
    exact (h0.setCell (p := ⟨w.heap.size, 0, none⟩) (fun h => by simp only [] at h; omega) v1).setCell (p := ⟨w.heap.size, 1, none⟩) (fun h => by simp only [] at h; omega) v2

set_option maxHeartbeats 4000000 in
theorem disk_fork {F : Nat → Prop} {w : World} {b : Nat} {d : Dk} (hD : DiskAt F w b d) :
    Calls Try.prog 18 #[.pointer (some ⟨b, 0, none⟩)] w fun e w' => e = .returned (.pointer (some ⟨w.heap.size, 0, none⟩)) ∧ Leaves Noth w.heap.size d w w' := by
  obtain ⟨vs, vl, Fs, Fl, h1, h2, h3, h4, h5, h6, h7, h8⟩ := hD
  obtain ⟨As, cs, rfl⟩ := h2.shape
  obtain ⟨Al, cl, rfl⟩ := h3.shape
  obtain ⟨⟨c0, c1, c2, c3⟩, c4, c5, c6, c7⟩ := dcells_at h1
  obtain ⟨o, ho⟩ : ∃ o, o = Obj.cells (dcells (.slice As d.snap.length cs) (.slice Al d.log.length cl) d.sf d.cp d.op d.fu d.dn d.dw) 56 := ⟨_, rfl⟩
  have cells : ∀ W, Only Noth (w.alloc o) W → (W.cell? ⟨b, 0, none⟩ = some (.slice As d.snap.length cs) ∧ W.cell? ⟨b, 1, none⟩ = some (.slice Al d.log.length cl)) ∧
      (W.cell? ⟨w.heap.size, 0, none⟩ = some (.slice As d.snap.length cs) ∧ W.cell? ⟨w.heap.size, 1, none⟩ = some (.slice Al d.log.length cl) ∧ W.frozen? ⟨w.heap.size, 0, none⟩ = false ∧ W.frozen? ⟨w.heap.size, 1, none⟩ = false) := fun W hoo => by
    have g := (h1.alloc o).only hoo (fun h => h)
    have g' : Hld W w.heap.size 56 (dcells (.slice As d.snap.length cs) (.slice Al d.log.length cl) d.sf d.cp d.op d.fu d.dn d.dw) := by
      have := Hld.new w 56 (dcells (.slice As d.snap.length cs) (.slice Al d.log.length cl) d.sf d.cp d.op d.fu d.dn d.dw)
      rw [← ho] at this
      exact this.only hoo (fun h => h)
    exact ⟨⟨(dcells_at g).1.1, (dcells_at g).1.2.1⟩, (dcells_at g').1.1, (dcells_at g').1.2.1, g'.free 0, g'.free 1⟩
  have HB := Lib.hid h1.lt
  have hne : w.heap.size ≠ b := by have := h1.lt; omega
  have hne' : b ≠ w.heap.size := fun h => hne h.symm
  have H1 := Lib.hid h1
  have HOK := Lib.hid h8
  have HS := Lib.hid (fun W (hoo : Only Noth (w.alloc o) W) => clone_any As d.snap.length cs Fs (u8s d.snap) W (row_bare h2) ((h2.src.alloc o).only hoo (fun _ _ h => h)) (u8s_one _) (by have := h8.snap; omega))
  have HL := Lib.hid (fun W (hoo : Only Noth (w.alloc o) W) => clone_any Al d.log.length cl Fl (u8s d.log) W (row_bare h3) ((h3.src.alloc o).only hoo (fun _ _ h => h)) (u8s_one _) (by have := h8.log; omega))
  have HC := Lib.hid cells
  have HO : Only Noth (w.alloc o) (w.alloc o).drew := (Only.refl _ _).drew
  have HOE := Lib.hid ho
  have ho' : Obj.cells #[.slice As d.snap.length cs, .slice Al d.log.length cl, .int .i64 d.sf, .int .i64 d.cp, .int .i64 d.op, .int .i64 d.fu, .bool d.dn, .bool d.dw] 56 = o := ho.symm
  have d0 := (cells _ HO).1.1
  have d1 := (cells _ HO).1.2
  clear h1 h2 h3 h4 h5 h6 h7 h8 cells ho
  go_enter Try.func18, Try.ntmps18
  go_wp2_with fail
  go_region_with (go_at_call 30; (first | (with_reducible refine (HS.out _ (by assumption)).mono ?_) | (with_reducible refine (HL.out _ (by assumption)).mono ?_)); rintro e w1 ⟨v, rfl, hcl⟩; have hon := hcl.2; have ho1 : Only Noth (w.alloc o) w1 := (Only.trans (by assumption) hon (fun _ h _ => h)); obtain ⟨⟨hc0, hc1⟩, hc2, hc3, hf0, hf1⟩ := HC.out w1 ho1; obtain ⟨Av, cv, hv⟩ := hcl.1.shape; subst hv; have HCL := Lib.hid hcl; clear hcl hon)
  all_goals go_wp2
  all_goals go_ret
  all_goals (refine ⟨rfl, fork_left H1.out HOK.out HOE.out (by assumption) (by assumption) rfl⟩)
end Go.Proofs.Ytibeblibminjfaa
