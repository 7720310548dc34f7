/- Regions that draw their order and write at their last operation but a few: up to it nothing that was there is turned, so that what was read ahead may be read whenever. -/
import Derived.Test.YtokgignmdgejoaaDoorOrd
namespace Go.Proofs.YtokgignmdgejoaaDoor
open Go.RowKit
set_option linter.unusedVariables false

section
variable {P : Program} {ops : Array Oper} {Q : Exit → Act → World → Prop} {md : Region.Mode} {R : World → World → Prop} {T : Bool → World → Prop} {last : Nat}

/-- As wpR; T false holds as long as the operation 'last' has not come up, T true from then on. -/
def wpL (P : Program) (md : Region.Mode) (ops : Array Oper) (Q : Exit → Act → World → Prop) (R : World → World → Prop) (T : Bool → World → Prop) (last : Nat) : Nat → Array Bool → Act → World → Prop
  | 0, listed, a, w => Region.ready md ops listed = [] ∧ ∀ w1, R w w1 → Q .normal a w1
  | n + 1, listed, a, w => (Region.ready md ops listed = [] → ∀ w1, R w w1 → Q .normal a w1) ∧
      ∀ i ∈ Region.ready md ops listed, ∀ w1, R w w1 → wpOp P ops Q i (fun b w' => T ((listed.setIfInBounds i true).getD last true) w' ∧ wpL P md ops Q R T last n (listed.setIfInBounds i true) b w') a w1

theorem wpAny_of_L (hr : ∀ w, R w w) : ∀ (n : Nat) (listed : Array Bool) (a : Act) (w : World), wpL P md ops Q R T last n listed a w → wpAny P md ops Q n listed a w := by
  intro n
  induction n with
  | zero => exact fun _ _ w h => ⟨h.1, h.2 w (hr w)⟩
  | succ n ih => exact fun _ _ w h => ⟨fun e => h.1 e w (hr w), fun i hi => wpOp_mono (fun b w' k => ih _ b w' k.2) (h.2 i hi w (hr w))⟩
theorem wpL_up (ht : ∀ a b c, R a b → R b c → R a c) {n : Nat} {listed : Array Bool} {a : Act} {w w' : World} (hw : R w w') (h : wpL P md ops Q R T last n listed a w) : wpL P md ops Q R T last n listed a w' := by
  cases n with
  | zero => exact ⟨h.1, fun w1 h1 => h.2 w1 (ht _ _ _ hw h1)⟩
  | succ n => exact ⟨fun e w1 h1 => h.1 e w1 (ht _ _ _ hw h1), fun i hi w1 h1 => h.2 i hi w1 (ht _ _ _ hw h1)⟩
theorem getD_set_ne' {l : Array Bool} {i j : Nat} (h : i ≠ j) : (l.setIfInBounds i true).getD j true = l.getD j true := by
  simp only [Array.getD_eq_getD_getElem?, Array.getElem?_setIfInBounds_ne h]
theorem getD_set_up {l : Array Bool} {i j : Nat} (h : l.getD j true = true) : (l.setIfInBounds i true).getD j true = true := by
  by_cases e : i = j
  · subst e
    simp only [Array.getD_eq_getD_getElem?, Array.getElem?_setIfInBounds]
    split
    · split <;> rfl
    · rename_i e; exact absurd trivial e
  · rw [getD_set_ne' e]; exact h
/-- Behind the last operation. -/
theorem wpL_late : ∀ (n : Nat) (listed : Array Bool) (a : Act) (w : World), listed.getD last true = true → wpR P md ops Q R (T true) n listed a w → wpL P md ops Q R T last n listed a w := by
  intro n
  induction n with
  | zero => exact fun _ _ _ _ h => h
  | succ n ih =>
    intro listed a w hl h
    refine ⟨h.1, fun i hi w1 h1 => wpOp_mono (fun b w' k => ?_) (h.2 i hi w1 h1)⟩
    have h2 := getD_set_up (i := i) hl
    rw [h2]
    exact ⟨k.1, ih _ b w' h2 k.2⟩
/-- The operation 'last' waits for i. -/
def waits (md : Region.Mode) (ops : Array Oper) (last i : Nat) : Bool := match ops[last]? with
  | some o => o.after.any fun e => Region.binds md e && e.on == i
  | none => false
theorem wpL_first (hr : ∀ w, R w w) (ht : ∀ a b c, R a b → R b c → R a c) (hSR : ∀ w w', T false w → R w w' → T false w') {i : Nat} {oi : Oper} {v : Value} (hi : ops[i]? = some oi) (hsel : Region.noSelect ops = true) (hil : i ≠ last) (hwt : waits md ops last i = true)
    (hQ : ∀ c a w, Q (.panic c) (a.put oi.dst v) w → Q (.panic c) a w) :
    ∀ (n : Nat) (listed : Array Bool) (a : Act) (w : World),
      (∀ j oj, ops[j]? = some oj → j ≠ i → listed.getD j true = false → (∀ e ∈ oj.after, Region.binds md e = true → e.on ≠ i) → oi.apart ops oj = true) →
      i ∈ Region.ready md ops listed → listed.getD last true = false → Sure P ops R (T false) oi v a → T false w →
      wpL P md ops Q R T last n (listed.setIfInBounds i true) (a.put oi.dst v) w → wpL P md ops Q R T last (n + 1) listed a w := by
  intro n
  induction n with
  | zero =>
    intro listed a w _ hr1 hll hy hS H
    refine ⟨fun h => (by rw [h] at hr1; cases hr1), fun j hj w1 h1 => ?_⟩
    by_cases hji : j = i
    · subst hji; exact hy.op hr hi (hSR _ _ hS h1) (fun w' h2 hS' => ⟨by rw [getD_set_ne' hil, hll]; exact hS', wpL_up ht (ht _ _ _ h1 h2) H⟩)
    · have := ready_mono hj hji
      rw [H.1] at this
      cases this
  | succ n ih =>
    intro listed a w hfree hr1 hll hy hS H
    refine ⟨fun h => (by rw [h] at hr1; cases hr1), fun j hj w1 h1 => ?_⟩
    by_cases hji : j = i
    · subst hji; exact hy.op hr hi (hSR _ _ hS h1) (fun w' h2 hS' => ⟨by rw [getD_set_ne' hil, hll]; exact hS', wpL_up ht (ht _ _ _ h1 h2) H⟩)
    · obtain ⟨hun, oj, hoj, hall⟩ := mem_ready.1 hj
      have hno : ∀ e ∈ oj.after, Region.binds md e = true → e.on ≠ i := fun e he hb heq => by
        have h2 := hall e he hb
        have h0 := (mem_ready.1 hr1).1
        subst heq
        by_cases hlt : e.on < listed.size
        · simp [hlt] at h0 h2; rw [h0] at h2; cases h2
        · simp [Array.getElem?_eq_none (by omega : listed.size ≤ e.on)] at h2
      have hjl : j ≠ last := by
        rintro rfl
        unfold waits at hwt
        rw [hoj] at hwt
        simp only [Array.any_eq_true'] at hwt
        obtain ⟨e, he, h2⟩ := hwt
        rw [Bool.and_eq_true, beq_iff_eq] at h2
        exact hno e he h2.1 h2.2
      have hl2 : (listed.setIfInBounds j true).getD last true = false := by rw [getD_set_ne' hjl, hll]
      have hl3 : ((listed.setIfInBounds i true).setIfInBounds j true).getD last true = false := by rw [getD_set_ne' hjl, getD_set_ne' hil, hll]
      have h2 := wpOp_beside hoj (hfree j oj hoj hji hun hno) (fun cs b => Region.noSelect_spec hsel i oi cs b hi) (fun cs b => Region.noSelect_spec hsel j oj cs b hoj) hQ hy (H.2 j (ready_mono hj hji) w1 h1)
      refine wpOp_mono (fun b w' h3 => ?_) h2
      have h31 := h3.2.1
      rw [hl3] at h31
      refine ⟨by rw [hl2]; exact h31, ih _ b w' ?_ (ready_mono hr1 (Ne.symm hji)) hl2 h3.1 h31 ?_⟩
      · intro k ok hk hki hkun hkno
        refine hfree k ok hk hki ?_ hkno
        by_cases hjk : j = k
        · subst hjk; exact hun
        · rw [getD_set_ne true hjk] at hkun; exact hkun
      · rw [Array.setIfInBounds_comm _ _ hji]
        exact h3.2.2
/-- An operation that the last one need not wait for, and whose answer is known either way. -/
theorem wpL_free (hr : ∀ w, R w w) (ht : ∀ a b c, R a b → R b c → R a c) (hSR : ∀ b w w', T b w → R w w' → T b w') {i : Nat} {oi : Oper} {v : Value} (hi : ops[i]? = some oi) (hsel : Region.noSelect ops = true) (hil : i ≠ last)
    (hQ : ∀ c a w, Q (.panic c) (a.put oi.dst v) w → Q (.panic c) a w) :
    ∀ (n : Nat) (listed : Array Bool) (a : Act) (w : World),
      (∀ j oj, ops[j]? = some oj → j ≠ i → listed.getD j true = false → (∀ e ∈ oj.after, Region.binds md e = true → e.on ≠ i) → oi.apart ops oj = true) →
      i ∈ Region.ready md ops listed → Sure P ops R (fun w => ∃ b, T b w) oi v a → T (listed.getD last true) w →
      wpL P md ops Q R T last n (listed.setIfInBounds i true) (a.put oi.dst v) w → wpL P md ops Q R T last (n + 1) listed a w := by
  intro n
  induction n with
  | zero =>
    intro listed a w _ hr1 hy hS H
    refine ⟨fun h => (by rw [h] at hr1; cases hr1), fun j hj w1 h1 => ?_⟩
    by_cases hji : j = i
    · subst hji
      refine hy.op hr hi ⟨_, hSR _ _ _ hS h1⟩ (fun w' h2 _ => ⟨?_, wpL_up ht (ht _ _ _ h1 h2) H⟩)
      rw [getD_set_ne' hil]
      exact hSR _ _ _ hS (ht _ _ _ h1 h2)
    · have := ready_mono hj hji
      rw [H.1] at this
      cases this
  | succ n ih =>
    intro listed a w hfree hr1 hy hS H
    refine ⟨fun h => (by rw [h] at hr1; cases hr1), fun j hj w1 h1 => ?_⟩
    by_cases hji : j = i
    · subst hji
      refine hy.op hr hi ⟨_, hSR _ _ _ hS h1⟩ (fun w' h2 _ => ⟨?_, wpL_up ht (ht _ _ _ h1 h2) H⟩)
      rw [getD_set_ne' hil]
      exact hSR _ _ _ hS (ht _ _ _ h1 h2)
    · obtain ⟨hun, oj, hoj, hall⟩ := mem_ready.1 hj
      have hno : ∀ e ∈ oj.after, Region.binds md e = true → e.on ≠ i := fun e he hb heq => by
        have h2 := hall e he hb
        have h0 := (mem_ready.1 hr1).1
        subst heq
        by_cases hlt : e.on < listed.size
        · simp [hlt] at h0 h2; rw [h0] at h2; cases h2
        · simp [Array.getElem?_eq_none (by omega : listed.size ≤ e.on)] at h2
      have h2 := wpOp_beside hoj (hfree j oj hoj hji hun hno) (fun cs b => Region.noSelect_spec hsel i oi cs b hi) (fun cs b => Region.noSelect_spec hsel j oj cs b hoj) hQ hy (H.2 j (ready_mono hj hji) w1 h1)
      refine wpOp_mono (fun b w' h3 => ?_) h2
      have h31 := h3.2.1
      have hc : ((listed.setIfInBounds i true).setIfInBounds j true).getD last true = (listed.setIfInBounds j true).getD last true := by
        rw [← Array.setIfInBounds_comm _ _ hji, getD_set_ne' hil]
      rw [hc] at h31
      refine ⟨h31, ih _ b w' ?_ (ready_mono hr1 (Ne.symm hji)) h3.1 h31 ?_⟩
      · intro k ok hk hki hkun hkno
        refine hfree k ok hk hki ?_ hkno
        by_cases hjk : j = k
        · subst hjk; exact hun
        · rw [getD_set_ne true hjk] at hkun; exact hkun
      · rw [Array.setIfInBounds_comm _ _ hji]
        exact h3.2.2
end

section
variable {P : Program} {ops : Array Oper} {Q : Exit → Act → World → Prop} {md : Region.Mode} {F : Nat → Prop} {w0 : World} {last : Nat}
/-- T of the rule as it is used. -/
def upTo (F : Nat → Prop) (w0 : World) (b : Bool) : World → Prop := if b then Only F w0 else Only Noth w0
abbrev wpE (P : Program) (md : Region.Mode) (ops : Array Oper) (Q : Exit → Act → World → Prop) (F : Nat → Prop) (w0 : World) (last : Nat) : Nat → Array Bool → Act → World → Prop := wpL P md ops Q (Only Noth) (upTo F w0) last
theorem wp_region_E (F : Nat → Prop) (last : Nat) {id : Nat} {a : Act} {w : World} (hm : P.follows .mixedOrders = true) (h : wpE P .any ops Q F w.drew last ops.size (Array.replicate ops.size false) a w.drew) : (Code.region id ops true).wp P Q a w :=
  wp_region_any hm (wpAny_of_L (fun w => Only.refl _ w) _ _ _ _ h)
theorem wpE_take {i : Nat} {oi : Oper} {d : Option Tmp} {v : Value} {n : Nat} {listed : Array Bool} {a : Act} {w : World} (hi : ops[i]? = some oi) (hd : oi.dst = d) (hsel : Region.noSelect ops = true) (hf : Region.free md ops listed i = true)
    (hr : ((Region.ready md ops listed).contains i && !(listed.getD last true) && !(i == last) && waits md ops last i) = true) (hQ : ∀ c a w, Q (.panic c) (a.put d v) w → Q (.panic c) a w) (hs : Sure P ops (Only Noth) (Only Noth w0) oi v a) (hS : Only Noth w0 w)
    (h : wpE P md ops Q F w0 last n (listed.setIfInBounds i true) (a.put d v) w) : wpE P md ops Q F w0 last (n + 1) listed a w := by
  subst hd
  simp only [Bool.and_eq_true, Bool.not_eq_true', beq_eq_false_iff_ne] at hr
  exact wpL_first (T := upTo F w0) (fun w => Only.refl _ w) (fun _ _ _ h k => h.trans k (fun _ h _ => h)) (only_up w0) hi hsel hr.1.2 hr.2 hQ n listed a w (Region.free_spec hi hf) (by simpa using hr.1.1.1) hr.1.1.2 hs hS h
theorem wpE_one {i : Nat} {o : Oper} {n : Nat} {listed : Array Bool} {a : Act} {w : World} (hr : Region.ready md ops listed = [i]) (hi : ops[i]? = some o) (hw : Region.wanted o (yielded ops a.tmps) = true)
    (h : ∀ w1, Only Noth w w1 → o.wp P a w1 (fun b w' => upTo F w0 ((listed.setIfInBounds i true).getD last true) w' ∧ wpE P md ops Q F w0 last n (listed.setIfInBounds i true) b w') Q) : wpE P md ops Q F w0 last (n + 1) listed a w := by
  refine ⟨fun h0 => (by rw [hr] at h0; cases h0), fun j hj w1 h1 => ?_⟩
  rw [hr] at hj
  obtain rfl : j = i := by simpa using hj
  unfold wpOp
  simp only [hi]
  rw [if_pos hw]
  exact .inl (h w1 h1)
theorem wpE_done {listed : Array Bool} {a : Act} {w : World} (hr : Region.ready md ops listed = []) (h : ∀ w1, Only Noth w w1 → Q .normal a w1) : ∀ n, wpE P md ops Q F w0 last n listed a w
  | 0 => ⟨hr, h⟩
  | _ + 1 => ⟨fun _ => h, by rw [hr]; simp⟩
/-- An operation that comes up alone; what it yields may be new. -/
theorem wpE_run1 {i : Nat} {o : Oper} {d : Option Tmp} {n : Nat} {listed : Array Bool} {a : Act} {w : World} (T : Value → World → Prop)
    (hr : (Region.ready md ops listed == [i] && !((listed.setIfInBounds i true).getD last true)) = true) (hi : ops[i]? = some o) (hd : o.dst = d) (hw : Region.wanted o (yielded ops a.tmps) = true)
    (he : ∀ w1, Only Noth w w1 → ∃ v w2, (execOp a.eval o).run P w1 = .ok (.value v) w2 ∧ T v w2 ∧ Only Noth w0 w2)
    (h : ∀ v w2, T v w2 → Only Noth w0 w2 → wpE P md ops Q F w0 last n (listed.setIfInBounds i true) (a.put d v) w2) : wpE P md ops Q F w0 last (n + 1) listed a w := by
  subst hd
  simp only [Bool.and_eq_true, beq_iff_eq, Bool.not_eq_true'] at hr
  refine wpE_one hr.1 hi hw (fun w1 h1 => ?_)
  obtain ⟨v, w2, hrun, ht, ho⟩ := he w1 h1
  unfold Oper.wp
  rw [hrun, hr.2]
  exact ⟨ho, h v w2 ht ho⟩
/-- A call that comes up alone, ahead of the last operation: what it hands back may be new. -/
theorem wpE_call {i : Nat} {o : Oper} {d : Option Tmp} {n : Nat} {listed : Array Bool} {a : Act} {w : World} {f : FuncId} {args : Array Value} (T : Value → World → World → Prop)
    (hc : ∀ w1, Only Noth w w1 → Calls P f args w1 (fun e w' => ∃ v, e = .returned v ∧ T v w1 w' ∧ Only Noth w1 w')) (hS : Only Noth w0 w)
    (hr : (Region.ready md ops listed == [i] && !((listed.setIfInBounds i true).getD last true)) = true) (hi : ops[i]? = some o) (hd : o.dst = d) (hw : Region.wanted o (yielded ops a.tmps) = true)
    (he : ∀ w1, (execOp a.eval o).run P w1 = .ok (.enter f args) w1)
    (h : ∀ v w1 w2, Only Noth w w1 → T v w1 w2 → Only Noth w1 w2 → wpE P md ops Q F w0 last n (listed.setIfInBounds i true) (a.put d v) w2) : wpE P md ops Q F w0 last (n + 1) listed a w := by
  subst hd
  simp only [Bool.and_eq_true, beq_iff_eq, Bool.not_eq_true'] at hr
  refine wpE_one hr.1 hi hw (fun w1 h1 => ?_)
  unfold Oper.wp
  rw [he w1]
  refine (hc w1 h1).mono ?_
  rintro e w' ⟨v, rfl, ht, ho⟩
  rw [hr.2]
  exact ⟨only_up w0 _ _ (only_up w0 _ _ hS h1) ho, h v w1 w' h1 ht ho⟩
/-- The last operation stores one cell. -/
theorem wpE_cell {i n : Nat} {o : Oper} {listed : Array Bool} {a : Act} {w : World} {ty t : TypeId} {x y : Operand} {g off : Nat} {cur : Array Value} {u v : Value}
    (hr : (Region.ready md ops listed == [i] && (listed.setIfInBounds i true).getD last true) = true) (hi : ops[i]? = some o) (hw : Region.wanted o (yielded ops a.tmps) = true) (ho : o.op = .store ty x y) (hdst : o.dst = none) (hx : a.eval x = .pointer (some ⟨g, off, none⟩)) (hy : a.eval y = v)
    (hg : Hld w g t cur) (hu : cur[off]? = some u) (hrun : ∀ w1, w1.cell? ⟨g, off, none⟩ = some u → w1.frozen? ⟨g, off, none⟩ = false → (Instr.storeAt ty (.pointer (some ⟨g, off, none⟩)) v).run P w1 = .ok () (w1.setCell ⟨g, off, none⟩ v))
    (hS : Only Noth w0 w) (hF : g < w0.heap.size → F g)
    (K : ∀ w1 w2, Only Noth w w1 → Hld w2 g t (cur.setIfInBounds off v) → Only (fun k => k = g) w1 w2 → Only F w0 w2 → wpN P md ops Q F w0 n (listed.setIfInBounds i true) a w2) : wpE P md ops Q F w0 last (n + 1) listed a w := by
  simp only [Bool.and_eq_true, beq_iff_eq] at hr
  refine wpE_one hr.1 hi hw (fun w1 k1 => ?_)
  have hg1 := hg.only k1 (fun h => h)
  have hO := (Only.refl (fun k => k = g) w1).setCell (p := ⟨g, off, none⟩) (fun _ => rfl) v
  have hE : Only F w0 (w1.setCell ⟨g, off, none⟩ v) := ((only_up w0 _ _ hS k1).mono (fun _ h _ => h.elim)).trans hO (fun j hj hl => by have hj : j = g := hj; subst hj; exact hF hl)
  have := And.intro hE (wpL_late (T := upTo F w0) (last := last) n (listed.setIfInBounds i true) a _ hr.2 (K w1 _ k1 (hg1.set_ off v) hO hE))
  have hp : ∀ v, a.put none v = a := fun _ => rfl
  have hu : upTo F w0 true = Only F w0 := rfl
  unfold Oper.wp execOp
  simp only [ho, hx, hy, Sem.run_bind, hrun w1 ((hg1.cell off).trans (by assumption)) (hg1.free off), Result.andThen_ok, Sem.run_pure]
  rw [hr.2]
  simpa [Oper.upon, hdst, hp, hu] using this
/-- A cell that is known in the world at the region's begin. -/
theorem sure_cellv {o : Oper} {a : Act} {v : Value} {g i : Nat} (h : w0.cell? ⟨g, i, none⟩ = some v) (hg : g < w0.heap.size) (hF : ¬ F g) (hw : Region.wanted o (yielded ops a.tmps) = true)
    (he : ∀ w, w.cell? ⟨g, i, none⟩ = some v → (execOp a.eval o).run P w = .ok (.value v) w) : Sure P ops (Only Noth) (Only F w0) o v a :=
  sure_value hw (fun w1 k1 => he w1 ((k1.cell (p := ⟨g, i, none⟩) hg hF).trans h))
/-- A struct of two cells. -/
theorem sure_pair {o : Oper} {a : Act} {g : Nat} {x0 x1 : Value} {t : TypeId} (h : Hld w0 g t #[x0, x1]) (hF : ¬ F g) (hw : Region.wanted o (yielded ops a.tmps) = true)
    (he : ∀ w, w.cell? ⟨g, 0, none⟩ = some x0 → w.cell? ⟨g, 1, none⟩ = some x1 → (execOp a.eval o).run P w = .ok (.value (.agg #[x0, x1])) w) : Sure P ops (Only Noth) (Only F w0) o (.agg #[x0, x1]) a :=
  sure_value hw (fun w1 k1 => he w1 ((h.only k1 hF).cell 0) ((h.only k1 hF).cell 1))
/-- The last operation stores a whole struct. -/
theorem wpE_store {i n : Nat} {o : Oper} {listed : Array Bool} {a : Act} {w : World} {ty t : TypeId} {x y : Operand} {g : Nat} {cs cs' : Array Value} (hr : (Region.ready md ops listed == [i] && (listed.setIfInBounds i true).getD last true) = true) (hi : ops[i]? = some o) (hw : Region.wanted o (yielded ops a.tmps) = true)
    (ho : o.op = .store ty x y) (hdst : o.dst = none) (hx : a.eval x = .pointer (some ⟨g, 0, none⟩)) (hy : a.eval y = .agg cs') (hg : Hld w g t cs) (hgw : g < w0.heap.size → F g) (hs : cs'.size = cs.size) (h1 : ∀ v ∈ cs'.toList, v.oneCell' = true) (hti : (P.info? ty).map (·.size) = some cs'.size)
    (hS : Only Noth w0 w)
    (h : ∀ w1 w2, Only Noth w w1 → Hld w2 g t cs' → Only (fun k => k = g) w1 w2 → Only F w0 w2 → wpN P md ops Q F w0 n (listed.setIfInBounds i true) a w2) : wpE P md ops Q F w0 last (n + 1) listed a w := by
  simp only [Bool.and_eq_true, beq_iff_eq] at hr
  refine wpE_one hr.1 hi hw (fun w1 k1 => ?_)
  have hg1 := hg.only k1 (fun h => h)
  unfold Oper.wp execOp
  have hp : ∀ v, a.put none v = a := fun _ => rfl
  simp only [ho, hx, hy, Instr.storeAt, Instr.sureAddr, Sem.run_bind, Sem.run_pure, Result.andThen_ok, run_storeVar_whole w1 g t ty cs cs' hg1 hs h1 hti]
  have hh : Hld (w1.setRow g cs') g t cs' := setRow_heap w1 g cs cs' t (0, 0) hg1
  have ho2 := (Only.refl (fun k => k = g) w1).setRow (fun _ => rfl) cs'
  have hS2 : Only F w0 (w1.setRow g cs') := ((only_up w0 _ _ hS k1).mono (fun _ h _ => h.elim)).trans ho2 (fun j hj hl => by have : j = g := hj; subst this; exact hgw hl)
  have := And.intro hS2 (wpL_late (T := upTo F w0) (last := last) n (listed.setIfInBounds i true) a _ hr.2 (h w1 _ k1 hh ho2 hS2))
  have hu : upTo F w0 true = Only F w0 := rfl
  rw [hr.2]
  simpa [Oper.upon, hdst, hp, hu] using this
end
section
variable {P : Program} {ops : Array Oper} {Q : Exit → Act → World → Prop} {md : Region.Mode} {F0 F : Nat → Prop} {w0 : World} {last : Nat}
/-- As wpE; ahead of the last operation what lies in F0 may be turned. -/
def upTo2 (F0 F : Nat → Prop) (w0 : World) (b : Bool) : World → Prop := if b then Only F w0 else Only F0 w0
abbrev wpG (P : Program) (md : Region.Mode) (ops : Array Oper) (Q : Exit → Act → World → Prop) (F0 F : Nat → Prop) (w0 : World) (last : Nat) : Nat → Array Bool → Act → World → Prop := wpL P md ops Q (Only Noth) (upTo2 F0 F w0) last
theorem wp_region_G (F0 F : Nat → Prop) (last : Nat) {id : Nat} {a : Act} {w : World} (hm : P.follows .mixedOrders = true) (h : wpG P .any ops Q F0 F w.drew last ops.size (Array.replicate ops.size false) a w.drew) : (Code.region id ops true).wp P Q a w :=
  wp_region_any hm (wpAny_of_L (fun w => Only.refl _ w) _ _ _ _ h)
theorem wpG_take {i : Nat} {oi : Oper} {d : Option Tmp} {v : Value} {n : Nat} {listed : Array Bool} {a : Act} {w : World} (hi : ops[i]? = some oi) (hd : oi.dst = d) (hsel : Region.noSelect ops = true) (hf : Region.free md ops listed i = true)
    (hr : ((Region.ready md ops listed).contains i && !(listed.getD last true) && !(i == last) && waits md ops last i) = true) (hQ : ∀ c a w, Q (.panic c) (a.put d v) w → Q (.panic c) a w) (hs : Sure P ops (Only Noth) (Only F0 w0) oi v a) (hS : Only F0 w0 w)
    (h : wpG P md ops Q F0 F w0 last n (listed.setIfInBounds i true) (a.put d v) w) : wpG P md ops Q F0 F w0 last (n + 1) listed a w := by
  subst hd
  simp only [Bool.and_eq_true, Bool.not_eq_true', beq_eq_false_iff_ne] at hr
  exact wpL_first (T := upTo2 F0 F w0) (fun w => Only.refl _ w) (fun _ _ _ h k => h.trans k (fun _ h _ => h)) (only_up w0) hi hsel hr.1.2 hr.2 hQ n listed a w (Region.free_spec hi hf) (by simpa using hr.1.1.1) hr.1.1.2 hs hS h
theorem wpG_free {i : Nat} {oi : Oper} {d : Option Tmp} {v : Value} {n : Nat} {listed : Array Bool} {a : Act} {w : World} (hi : ops[i]? = some oi) (hd : oi.dst = d) (hsel : Region.noSelect ops = true) (hf : Region.free md ops listed i = true)
    (hr : ((Region.ready md ops listed).contains i && !(listed.getD last true) && !(i == last)) = true) (hQ : ∀ c a w, Q (.panic c) (a.put d v) w → Q (.panic c) a w) (hs : Sure P ops (Only Noth) (fun w => ∃ b, upTo2 F0 F w0 b w) oi v a) (hS : Only F0 w0 w)
    (h : wpG P md ops Q F0 F w0 last n (listed.setIfInBounds i true) (a.put d v) w) : wpG P md ops Q F0 F w0 last (n + 1) listed a w := by
  subst hd
  simp only [Bool.and_eq_true, Bool.not_eq_true', beq_eq_false_iff_ne] at hr
  exact wpL_free (T := upTo2 F0 F w0) (fun w => Only.refl _ w) (fun _ _ _ h k => h.trans k (fun _ h _ => h)) (fun b w w' h k => by cases b <;> exact only_up w0 _ _ h k) hi hsel hr.2 hQ n listed a w (Region.free_spec hi hf) (by simpa using hr.1.1) hs (by rw [hr.1.2]; exact hS) h
theorem wpG_one {i : Nat} {o : Oper} {n : Nat} {listed : Array Bool} {a : Act} {w : World} (hr : Region.ready md ops listed = [i]) (hi : ops[i]? = some o) (hw : Region.wanted o (yielded ops a.tmps) = true)
    (h : ∀ w1, Only Noth w w1 → o.wp P a w1 (fun b w' => upTo2 F0 F w0 ((listed.setIfInBounds i true).getD last true) w' ∧ wpG P md ops Q F0 F w0 last n (listed.setIfInBounds i true) b w') Q) : wpG P md ops Q F0 F w0 last (n + 1) listed a w := by
  refine ⟨fun h0 => (by rw [hr] at h0; cases h0), fun j hj w1 h1 => ?_⟩
  rw [hr] at hj
  obtain rfl : j = i := by simpa using hj
  unfold wpOp
  simp only [hi]
  rw [if_pos hw]
  exact .inl (h w1 h1)
theorem wpG_call {i : Nat} {o : Oper} {d : Option Tmp} {n : Nat} {listed : Array Bool} {a : Act} {w : World} {f : FuncId} {args : Array Value} (T : Value → World → World → Prop)
    (hc : ∀ w1, Only Noth w w1 → Calls P f args w1 (fun e w' => ∃ v, e = .returned v ∧ T v w1 w' ∧ Only F0 w0 w'))
    (hr : (Region.ready md ops listed == [i] && !((listed.setIfInBounds i true).getD last true)) = true) (hi : ops[i]? = some o) (hd : o.dst = d) (hw : Region.wanted o (yielded ops a.tmps) = true)
    (he : ∀ w1, (execOp a.eval o).run P w1 = .ok (.enter f args) w1)
    (h : ∀ v w1 w2, Only Noth w w1 → T v w1 w2 → Only F0 w0 w2 → wpG P md ops Q F0 F w0 last n (listed.setIfInBounds i true) (a.put d v) w2) : wpG P md ops Q F0 F w0 last (n + 1) listed a w := by
  subst hd
  simp only [Bool.and_eq_true, beq_iff_eq, Bool.not_eq_true'] at hr
  refine wpG_one hr.1 hi hw (fun w1 h1 => ?_)
  unfold Oper.wp
  rw [he w1]
  refine (hc w1 h1).mono ?_
  rintro e w' ⟨v, rfl, ht, ho⟩
  rw [hr.2]
  exact ⟨ho, h v w1 w' h1 ht ho⟩
/-- The last operation stores a whole struct. -/
theorem wpG_store {i n : Nat} {o : Oper} {listed : Array Bool} {a : Act} {w : World} {ty t : TypeId} {x y : Operand} {g : Nat} {cs cs' : Array Value} (hr : (Region.ready md ops listed == [i] && (listed.setIfInBounds i true).getD last true) = true) (hi : ops[i]? = some o) (hw : Region.wanted o (yielded ops a.tmps) = true)
    (ho : o.op = .store ty x y) (hdst : o.dst = none) (hx : a.eval x = .pointer (some ⟨g, 0, none⟩)) (hy : a.eval y = .agg cs') (hg : Hld w g t cs) (hgw : g < w0.heap.size → F g) (hs : cs'.size = cs.size) (h1 : ∀ v ∈ cs'.toList, v.oneCell' = true) (hti : (P.info? ty).map (·.size) = some cs'.size)
    (hS : Only F0 w0 w) (hFF : ∀ k, F0 k → F k)
    (h : ∀ w1 w2, Only Noth w w1 → Hld w2 g t cs' → Only (fun k => k = g) w1 w2 → Only F w0 w2 → wpN P md ops Q F w0 n (listed.setIfInBounds i true) a w2) : wpG P md ops Q F0 F w0 last (n + 1) listed a w := by
  simp only [Bool.and_eq_true, beq_iff_eq] at hr
  refine wpG_one hr.1 hi hw (fun w1 k1 => ?_)
  have hg1 := hg.only k1 (fun h => h)
  unfold Oper.wp execOp
  have hp : ∀ v, a.put none v = a := fun _ => rfl
  simp only [ho, hx, hy, Instr.storeAt, Instr.sureAddr, Sem.run_bind, Sem.run_pure, Result.andThen_ok, run_storeVar_whole w1 g t ty cs cs' hg1 hs h1 hti]
  have hh : Hld (w1.setRow g cs') g t cs' := setRow_heap w1 g cs cs' t (0, 0) hg1
  have ho2 := (Only.refl (fun k => k = g) w1).setRow (fun _ => rfl) cs'
  have hS2 : Only F w0 (w1.setRow g cs') := ((only_up w0 _ _ hS k1).mono (fun _ h _ => hFF _ h)).trans ho2 (fun j hj hl => by have : j = g := hj; subst this; exact hgw hl)
  have := And.intro hS2 (wpL_late (T := upTo2 F0 F w0) (last := last) n (listed.setIfInBounds i true) a _ hr.2 (h w1 _ k1 hh ho2 hS2))
  have hu : upTo2 F0 F w0 true = Only F w0 := rfl
  rw [hr.2]
  simpa [Oper.upon, hdst, hp, hu] using this
end
section
variable {P : Program}
theorem run_storeVar_mid (w : World) (g off : Nat) (t ty : TypeId) (cur cs' : Array Value) (hg : Hld w g t cur) (hf : off + cs'.size ≤ cur.size) (h1 : ∀ v ∈ cs'.toList, v.oneCell' = true) (hi : (P.info? ty).map (·.size) = some cs'.size) :
    (storeVar ty ⟨g, off, none⟩ (.agg cs')).run P w = .ok () (w.setRow g (cur.toList.take off ++ cs'.toList ++ cur.toList.drop (off + cs'.size)).toArray) := by
  have hst := run_storeCells_at P g off t cs'.toList 0 cur w hg (by simp; omega) h1
  simp only [Nat.add_zero, Array.length_toList] at hst
  cases hq : P.info? ty with
  | none => simp [hq] at hi
  | some i =>
    have hsz : i.size = cs'.size := by simpa [hq] using hi
    simp only [storeVar]
    have hc : (Value.agg cs').cells = cs' := rfl
    rw [hc]
    simp [sizeOf, typeInfo, hq, hsz, hst]
/-- What a block holds behind a struct was stored at an offset. -/
def midRow (cur : Array Value) (off : Nat) (cs' : Array Value) : Array Value := (cur.toList.take off ++ cs'.toList ++ cur.toList.drop (off + cs'.size)).toArray
theorem midRow_size {cur cs' : Array Value} {off : Nat} (hf : off + cs'.size ≤ cur.size) : (midRow cur off cs').size = cur.size := by
  unfold midRow
  simp only [List.size_toArray, List.length_append, List.length_take, List.length_drop, Array.length_toList]
  omega
theorem midRow_in {cur cs' : Array Value} {off : Nat} (hf : off + cs'.size ≤ cur.size) {j : Nat} (hj : j < cs'.size) : (midRow cur off cs')[off + j]? = cs'[j]? := by
  unfold midRow
  rw [List.getElem?_toArray, List.append_assoc, List.getElem?_append_right (by rw [List.length_take, Array.length_toList]; omega), List.length_take, Array.length_toList, Nat.min_eq_left (by omega), Nat.add_sub_cancel_left, List.getElem?_append_left (by rw [Array.length_toList]; exact hj)]
  simp
theorem midRow_out {cur cs' : Array Value} {off : Nat} (hf : off + cs'.size ≤ cur.size) {j : Nat} (hj : j < off ∨ off + cs'.size ≤ j) : (midRow cur off cs')[j]? = cur[j]? := by
  unfold midRow
  rw [List.getElem?_toArray, List.append_assoc]
  rcases hj with hj | hj
  · rw [List.getElem?_append_left (by rw [List.length_take, Array.length_toList]; omega), List.getElem?_take, if_pos hj]
    simp
  · rw [List.getElem?_append_right (by rw [List.length_take, Array.length_toList]; omega), List.length_take, Array.length_toList, Nat.min_eq_left (by omega), List.getElem?_append_right (by rw [Array.length_toList]; omega), Array.length_toList, List.getElem?_drop]
    simp only [Array.getElem?_toList]
    congr 1
    omega
/-- A struct stored at an offset of a block that is known whole. -/
theorem wpList_store_mid {ops : Array Oper} {rest : List Oper} {o : Oper} {a : Act} {w : World} {Q : Exit → Act → World → Prop} (hgd : o.guard = none) (hdst : o.dst = none) (ty : TypeId) (x y : Operand) (ho : o.op = .store ty x y)
    (g off : Nat) (hx : a.eval x = .pointer (some ⟨g, off, none⟩)) (cs' : Array Value) (hy : a.eval y = .agg cs') (t : TypeId) (cur : Array Value) (hg : Hld w g t cur) (hf : off + cs'.size ≤ cur.size) (h1 : ∀ v ∈ cs'.toList, v.oneCell' = true) (hi : (P.info? ty).map (·.size) = some cs'.size)
    (h : ∀ w', Hld w' g t (midRow cur off cs') → Only (fun k => k = g) w w' → w'.heap.size = w.heap.size → wpList P ops Q rest a w') : wpList P ops Q (o :: rest) a w := by
  refine wpList_plain hgd fun K hK => ?_
  unfold Oper.wp execOp
  have hp : ∀ v, a.put none v = a := fun _ => rfl
  simp only [ho, hx, hy, Instr.storeAt, Instr.sureAddr, Sem.run_bind, Sem.run_pure, Result.andThen_ok, run_storeVar_mid w g off t ty cur cs' hg hf h1 hi]
  have hz : (w.setRow g (midRow cur off cs')).heap.size = w.heap.size := by simp [World.setRow]
  have hh : Hld (w.setRow g (midRow cur off cs')) g t (midRow cur off cs') := setRow_heap w g cur (midRow cur off cs') t (0, 0) hg
  have := hK _ _ (h _ hh ((Only.refl (fun k => k = g) w).setRow (fun _ => rfl) _) hz)
  simpa [Oper.upon, hdst, hp, midRow] using this
end
end Go.Proofs.YtokgignmdgejoaaDoor
