/- Regions that draw their order: a call whose answer is known whatever has been made meanwhile may be taken first. -/
import Derived.Test.YtokgignmdgejoaaDoorMem
import Derived.Deep.RegionHeld
namespace Go.Proofs.YtokgignmdgejoaaDoor
open Go.RowKit
set_option linter.unusedVariables false

section
variable {P : Program} {ops : Array Oper} {Q : Exit → Act → World → Prop} {md : Region.Mode} {R : World → World → Prop} {S : World → Prop}

/-- Whatever order is picked from here on, where ahead of each operation the world may go on by R; S holds behind each. -/
def wpR (P : Program) (md : Region.Mode) (ops : Array Oper) (Q : Exit → Act → World → Prop) (R : World → World → Prop) (S : World → Prop) : Nat → Array Bool → Act → World → Prop
  | 0, listed, a, w => Region.ready md ops listed = [] ∧ ∀ w1, R w w1 → Q .normal a w1
  | n + 1, listed, a, w => (Region.ready md ops listed = [] → ∀ w1, R w w1 → Q .normal a w1) ∧
      ∀ i ∈ Region.ready md ops listed, ∀ w1, R w w1 → wpOp P ops Q i (fun b w' => S w' ∧ wpR P md ops Q R S n (listed.setIfInBounds i true) b w') a w1

theorem wpAny_of_R (hr : ∀ w, R w w) : ∀ (n : Nat) (listed : Array Bool) (a : Act) (w : World), wpR P md ops Q R S n listed a w → wpAny P md ops Q n listed a w := by
  intro n
  induction n with
  | zero => exact fun _ _ w h => ⟨h.1, h.2 w (hr w)⟩
  | succ n ih => exact fun _ _ w h => ⟨fun e => h.1 e w (hr w), fun i hi => wpOp_mono (fun b w' k => ih _ b w' k.2) (h.2 i hi w (hr w))⟩
theorem wpR_up (ht : ∀ a b c, R a b → R b c → R a c) {n : Nat} {listed : Array Bool} {a : Act} {w w' : World} (hw : R w w') (h : wpR P md ops Q R S n listed a w) : wpR P md ops Q R S n listed a w' := by
  cases n with
  | zero => exact ⟨h.1, fun w1 h1 => h.2 w1 (ht _ _ _ hw h1)⟩
  | succ n => exact ⟨fun e w1 h1 => h.1 e w1 (ht _ _ _ hw h1), fun i hi w1 h1 => h.2 i hi w1 (ht _ _ _ hw h1)⟩

/-- In state a, from every world that meets S, operation o leaves v in its temporary and a world further on by R. -/
def Sure (P : Program) (ops : Array Oper) (R : World → World → Prop) (S : World → Prop) (o : Oper) (v : Value) (a : Act) : Prop :=
  (Region.wanted o (yielded ops a.tmps) = true ∧ ∀ w, S w → ∀ (b : Act) (K : Act → World → Prop) (Q : Exit → Act → World → Prop), execOp b.eval o = execOp a.eval o → (∀ w', R w w' → S w' → K (b.put o.dst v) w') → o.wp P b w K Q) ∨
  (Region.wanted o (yielded ops a.tmps) = false ∧ v = undef)

theorem Sure.on {o : Oper} {v : Value} {a b : Act} (h : Sure P ops R S o v a) (he : execOp b.eval o = execOp a.eval o)
    (hw : Region.wanted o (yielded ops b.tmps) = Region.wanted o (yielded ops a.tmps)) : Sure P ops R S o v b := by
  rcases h with ⟨h1, h2⟩ | ⟨h1, h2⟩
  · exact .inl ⟨hw.trans h1, fun w hS c K Q hc => h2 w hS c K Q (hc.trans he)⟩
  · exact .inr ⟨hw.trans h1, h2⟩
theorem Sure.op (hr : ∀ w, R w w) {i : Nat} {o : Oper} {v : Value} {a : Act} (hi : ops[i]? = some o) (h : Sure P ops R S o v a) {K : Act → World → Prop} {w : World} (hS : S w)
    (hk : ∀ w', R w w' → S w' → K (a.put o.dst v) w') : wpOp P ops Q i K a w := by
  unfold wpOp
  simp only [hi]
  rcases h with ⟨h1, h2⟩ | ⟨h1, rfl⟩
  · rw [if_pos h1]; exact .inl (h2 w hS a K Q rfl hk)
  · rw [if_neg (by rw [h1]; decide)]; exact hk w (hr w) hS

/-- What another operation does is the same whether v lies already in o's temporary. -/
theorem wpOp_beside {j : Nat} {oi oj : Oper} {v : Value} (hj : ops[j]? = some oj) (hap : oi.apart ops oj = true) (hsi : ∀ cs b, oi.op ≠ .select cs b) (hsj : ∀ cs b, oj.op ≠ .select cs b)
    (hQ : ∀ c a w, Q (.panic c) (a.put oi.dst v) w → Q (.panic c) a w) {K : Act → World → Prop} {a : Act} {w : World} (hs : Sure P ops R S oi v a)
    (h : wpOp P ops Q j K (a.put oi.dst v) w) : wpOp P ops Q j (fun b w' => Sure P ops R S oi v b ∧ K (b.put oi.dst v) w') a w := by
  obtain ⟨h1, h2, h3⟩ := Oper.apart_spec hap
  have put : ∀ (b : Act), Sure P ops R S oi v b → ∀ u, Sure P ops R S oi v (b.put oj.dst u) := fun b hb u => hb.on (execOp_put oi hsi b oj.dst u h3) (wanted_put oi b oj.dst u h3)
  have swap : ∀ (b : Act) u, (b.put oj.dst u).put oi.dst v = (b.put oi.dst v).put oj.dst u := fun b u => (Act.put_comm b v u h2).symm
  unfold wpOp at h ⊢
  simp only [hj] at h ⊢
  rw [wanted_put oj a oi.dst v h1] at h
  by_cases hw : Region.wanted oj (yielded ops a.tmps) = true
  · rw [if_pos hw] at h ⊢
    refine h.imp (fun h => ?_) (fun ⟨h4, h5⟩ => ⟨?_, h5⟩)
    · unfold Oper.wp at h ⊢
      rw [execOp_put oj hsj a oi.dst v h1] at h
      revert h
      generalize (execOp a.eval oj).run P w = r
      intro h
      match r, h with
      | .ok (.value u) w', h => exact ⟨put a hs u, by rw [swap]; exact h⟩
      | .ok .skip w', h => exact ⟨put a hs _, by rw [swap]; exact h⟩
      | .ok (.defer d) w', h => exact ⟨put { a with defers := d :: a.defers } (hs.on rfl rfl) _, by rw [swap, ← Act.put_defers]; exact h⟩
      | .ok (.enter f args) w', h =>
        refine Calls.mono h fun e w'' he => ?_
        match e, he with
        | .returned u, he => exact ⟨put a hs u, by rw [swap]; exact he⟩
        | .panicked c, he => exact hQ _ _ _ he
        | .outgrown, he => exact he
      | .ok (.row row args) w', h => exact Rows.mono h fun u w'' he => ⟨put a hs u, by rw [swap]; exact he⟩
      | .halt (.panic u) w', h => exact hQ _ _ _ h
    · unfold Oper.asks at h4 ⊢; rw [execOp_put oj hsj a oi.dst v h1] at h4; exact h4
  · rw [if_neg hw] at h ⊢
    exact ⟨put a hs _, by rw [swap]; exact h⟩

theorem wpR_first (hr : ∀ w, R w w) (ht : ∀ a b c, R a b → R b c → R a c) (hSR : ∀ w w', S w → R w w' → S w') {i : Nat} {oi : Oper} {v : Value} (hi : ops[i]? = some oi) (hsel : Region.noSelect ops = true)
    (hQ : ∀ c a w, Q (.panic c) (a.put oi.dst v) w → Q (.panic c) a w) :
    ∀ (n : Nat) (listed : Array Bool) (a : Act) (w : World),
      (∀ j oj, ops[j]? = some oj → j ≠ i → listed.getD j true = false → (∀ e ∈ oj.after, Region.binds md e = true → e.on ≠ i) → oi.apart ops oj = true) →
      i ∈ Region.ready md ops listed → Sure P ops R S oi v a → S w →
      wpR P md ops Q R S n (listed.setIfInBounds i true) (a.put oi.dst v) w → wpR P md ops Q R S (n + 1) listed a w := by
  intro n
  induction n with
  | zero =>
    intro listed a w _ hr1 hy hS H
    refine ⟨fun h => (by rw [h] at hr1; cases hr1), fun j hj w1 h1 => ?_⟩
    by_cases hji : j = i
    · subst hji; exact hy.op hr hi (hSR _ _ hS h1) (fun w' h2 hS' => ⟨hS', wpR_up ht (ht _ _ _ h1 h2) H⟩)
    · have := ready_mono hj hji
      rw [H.1] at this
      cases this
  | succ n ih =>
    intro listed a w hfree hr1 hy hS H
    refine ⟨fun h => (by rw [h] at hr1; cases hr1), fun j hj w1 h1 => ?_⟩
    by_cases hji : j = i
    · subst hji; exact hy.op hr hi (hSR _ _ hS h1) (fun w' h2 hS' => ⟨hS', wpR_up ht (ht _ _ _ h1 h2) H⟩)
    · obtain ⟨hun, oj, hoj, hall⟩ := mem_ready.1 hj
      have hno : ∀ e ∈ oj.after, Region.binds md e = true → e.on ≠ i := fun e he hb heq => by
        have h2 := hall e he hb
        have h0 := (mem_ready.1 hr1).1
        subst heq
        by_cases hlt : e.on < listed.size
        · simp [hlt] at h0 h2; rw [h0] at h2; cases h2
        · simp [Array.getElem?_eq_none (by omega : listed.size ≤ e.on)] at h2
      have h2 := wpOp_beside hoj (hfree j oj hoj hji hun hno) (fun cs b => Region.noSelect_spec hsel i oi cs b hi) (fun cs b => Region.noSelect_spec hsel j oj cs b hoj) hQ hy (H.2 j (ready_mono hj hji) w1 h1)
      refine wpOp_mono (fun b w' h3 => ⟨h3.2.1, ih _ b w' ?_ (ready_mono hr1 (Ne.symm hji)) h3.1 h3.2.1 ?_⟩) h2
      · intro k ok hk hki hkun hkno
        refine hfree k ok hk hki ?_ hkno
        by_cases hjk : j = k
        · subst hjk; exact hun
        · rw [getD_set_ne true hjk] at hkun; exact hkun
      · rw [Array.setIfInBounds_comm _ _ hji]
        exact h3.2.2
end

section
variable {P : Program} {ops : Array Oper} {Q : Exit → Act → World → Prop} {md : Region.Mode} {F : Nat → Prop} {w0 : World}

/-- The rule as it is used: R: nothing that was there is turned; S: of what was there at the region's begin only what lies in F. -/
abbrev wpN (P : Program) (md : Region.Mode) (ops : Array Oper) (Q : Exit → Act → World → Prop) (F : Nat → Prop) (w0 : World) : Nat → Array Bool → Act → World → Prop := wpR P md ops Q (Only Noth) (Only F w0)
theorem only_up (w0 : World) : ∀ w w', Only F w0 w → Only Noth w w' → Only F w0 w' := fun _ _ h k => h.trans k (fun _ h _ => h.elim)
theorem wpN_take {i : Nat} {oi : Oper} {d : Option Tmp} {v : Value} {n : Nat} {listed : Array Bool} {a : Act} {w : World} (hi : ops[i]? = some oi) (hd : oi.dst = d) (hsel : Region.noSelect ops = true) (hf : Region.free md ops listed i = true)
    (hr : (Region.ready md ops listed).contains i = true) (hQ : ∀ c a w, Q (.panic c) (a.put d v) w → Q (.panic c) a w) (hs : Sure P ops (Only Noth) (Only F w0) oi v a) (hS : Only F w0 w)
    (h : wpN P md ops Q F w0 n (listed.setIfInBounds i true) (a.put d v) w) : wpN P md ops Q F w0 (n + 1) listed a w := by
  subst hd
  exact wpR_first (fun w => Only.refl _ w) (fun _ _ _ h k => h.trans k (fun _ h _ => h)) (only_up w0) hi hsel hQ n listed a w (Region.free_spec hi hf) (by simpa using hr) hs hS h
theorem wpN_done {listed : Array Bool} {a : Act} {w : World} (hr : Region.ready md ops listed = []) (h : ∀ w1, Only Noth w w1 → Q .normal a w1) : ∀ n, wpN P md ops Q F w0 n listed a w
  | 0 => ⟨hr, h⟩
  | _ + 1 => ⟨fun _ => h, by rw [hr]; simp⟩
/-- The one operation that may come up. -/
theorem wpN_one {i : Nat} {o : Oper} {n : Nat} {listed : Array Bool} {a : Act} {w : World} (hr : Region.ready md ops listed = [i]) (hi : ops[i]? = some o) (hw : Region.wanted o (yielded ops a.tmps) = true)
    (h : ∀ w1, Only Noth w w1 → o.wp P a w1 (fun b w' => Only F w0 w' ∧ wpN P md ops Q F w0 n (listed.setIfInBounds i true) b w') Q) : wpN P md ops Q F w0 (n + 1) listed a w := by
  refine ⟨fun h0 => (by rw [hr] at h0; cases h0), fun j hj w1 h1 => ?_⟩
  rw [hr] at hj
  obtain rfl : j = i := by simpa using hj
  unfold wpOp
  simp only [hi]
  rw [if_pos hw]
  exact .inl (h w1 h1)
theorem wpN_two {i j : Nat} {o p : Oper} {n : Nat} {listed : Array Bool} {a : Act} {w : World} (hr : Region.ready md ops listed = [i, j]) (hi : ops[i]? = some o) (hw : Region.wanted o (yielded ops a.tmps) = true)
    (hj : ops[j]? = some p) (hw2 : Region.wanted p (yielded ops a.tmps) = true)
    (h : ∀ w1, Only Noth w w1 → o.wp P a w1 (fun b w' => Only F w0 w' ∧ wpN P md ops Q F w0 n (listed.setIfInBounds i true) b w') Q)
    (k : ∀ w1, Only Noth w w1 → p.wp P a w1 (fun b w' => Only F w0 w' ∧ wpN P md ops Q F w0 n (listed.setIfInBounds j true) b w') Q) : wpN P md ops Q F w0 (n + 1) listed a w := by
  refine ⟨fun h0 => (by rw [hr] at h0; cases h0), fun l hl w1 h1 => ?_⟩
  rw [hr] at hl
  have hl : l = i ∨ l = j := by simpa using hl
  unfold wpOp
  rcases hl with rfl | rfl
  · simp only [hi]; rw [if_pos hw]; exact .inl (h w1 h1)
  · simp only [hj]; rw [if_pos hw2]; exact .inl (k w1 h1)
theorem wp_region_N (F : Nat → Prop) {id : Nat} {a : Act} {w : World} (hm : P.follows .mixedOrders = true) (h : wpN P .any ops Q F w.drew ops.size (Array.replicate ops.size false) a w.drew) : (Code.region id ops true).wp P Q a w :=
  wp_region_any hm (wpAny_of_R (fun w => Only.refl _ w) _ _ _ _ h)

/-- An operation that yields its value at once. -/
theorem sure_value {o : Oper} {v : Value} {a : Act} (hw : Region.wanted o (yielded ops a.tmps) = true) (h : ∀ w, Only F w0 w → (execOp a.eval o).run P w = .ok (.value v) w) : Sure P ops (Only Noth) (Only F w0) o v a :=
  .inl ⟨hw, fun w hS b K Q he hk => by unfold Oper.wp; rw [he, h w hS]; exact hk w (Only.refl _ w) hS⟩
/-- A call whose answer is known. -/
theorem sure_call {o : Oper} {v : Value} {a : Act} {f : FuncId} {args : Array Value} (hc : ∀ w, Only F w0 w → Calls P f args w (fun e w' => e = .returned v ∧ Only Noth w w'))
    (hw : Region.wanted o (yielded ops a.tmps) = true) (h : ∀ w, (execOp a.eval o).run P w = .ok (.enter f args) w) : Sure P ops (Only Noth) (Only F w0) o v a :=
  .inl ⟨hw, fun w hS b K Q he hk => by
    unfold Oper.wp
    rw [he, h w]
    refine (hc w hS).mono ?_
    rintro e w' ⟨rfl, ho⟩
    exact hk w' ho (only_up w0 _ _ hS ho)⟩
theorem wpN_alloc {i : Nat} {o : Oper} {d : Option Tmp} {n : Nat} {listed : Array Bool} {a : Act} {w : World} {t : TypeId} {z : Array Value} (hr : Region.ready md ops listed = [i]) (hi : ops[i]? = some o) (hd : o.dst = d) (hw : Region.wanted o (yielded ops a.tmps) = true)
    (hS : Only F w0 w) (he : ∀ w1, (execOp a.eval o).run P w1 = .ok (.value (.pointer (some ⟨w1.heap.size, 0, none⟩))) (w1.alloc (.cells z t)))
    (h : ∀ w2 p, Only Noth w w2 → Hld w2 p t z → w.heap.size ≤ p → wpN P md ops Q F w0 n (listed.setIfInBounds i true) (a.put d (.pointer (some ⟨p, 0, none⟩))) w2) : wpN P md ops Q F w0 (n + 1) listed a w := by
  subst hd
  refine wpN_one hr hi hw (fun w1 h1 => ?_)
  unfold Oper.wp
  rw [he w1]
  exact ⟨only_up w0 _ _ hS (h1.alloc _), h _ _ (h1.alloc _) (Hld.new w1 t z) h1.size⟩
theorem wpN_alloc2 {i j : Nat} {o o' : Oper} {d d' : Option Tmp} {n : Nat} {listed : Array Bool} {a : Act} {w : World} {t t' : TypeId} {z z' : Array Value} (hr : Region.ready md ops listed = [i, j]) (hri : Region.ready md ops (listed.setIfInBounds i true) = [j]) (hrj : Region.ready md ops (listed.setIfInBounds j true) = [i])
    (hi : ops[i]? = some o) (hj : ops[j]? = some o') (hdd : o.dst = d) (hdd' : o'.dst = d') (hg : o.guard = none) (hg' : o'.guard = none) (hd : ∀ e, d = some e → d' ≠ some e)
    (hS : Only F w0 w) (he : ∀ (b : Act) w1, (execOp b.eval o).run P w1 = .ok (.value (.pointer (some ⟨w1.heap.size, 0, none⟩))) (w1.alloc (.cells z t)))
    (he' : ∀ (b : Act) w1, (execOp b.eval o').run P w1 = .ok (.value (.pointer (some ⟨w1.heap.size, 0, none⟩))) (w1.alloc (.cells z' t')))
    (h : ∀ w2 p q, Only Noth w w2 → Hld w2 p t z → Hld w2 q t' z' → p ≠ q → w.heap.size ≤ p → w.heap.size ≤ q →
      wpN P md ops Q F w0 n ((listed.setIfInBounds i true).setIfInBounds j true) ((a.put d (.pointer (some ⟨p, 0, none⟩))).put d' (.pointer (some ⟨q, 0, none⟩))) w2) : wpN P md ops Q F w0 (n + 2) listed a w := by
  subst hdd hdd'
  have hw : ∀ b : Act, Region.wanted o (yielded ops b.tmps) = true := fun b => by simp [Region.wanted, hg]
  have hw' : ∀ b : Act, Region.wanted o' (yielded ops b.tmps) = true := fun b => by simp [Region.wanted, hg']
  have hij : i ≠ j := by
    rintro rfl
    rw [hi] at hj
    obtain rfl : o = o' := Option.some.inj hj
    have h1 : i ∈ Region.ready md ops (listed.setIfInBounds i true) := by rw [hri]; simp
    have h2 := (mem_ready.1 h1).1
    have h3 : i ∈ Region.ready md ops listed := by rw [hr]; simp
    have h4 := (mem_ready.1 h3).1
    by_cases hlt : i < listed.size
    · simp [hlt] at h2
    · simp [Array.getElem?_eq_none (by omega : listed.size ≤ i)] at h4
  refine wpN_two hr hi (hw a) hj (hw' a) (fun w1 h1 => ?_) (fun w1 h1 => ?_)
  · unfold Oper.wp
    rw [he a w1]
    refine ⟨only_up w0 _ _ hS (h1.alloc _), wpN_one hri hj (hw' _) (fun w2 h2 => ?_)⟩
    unfold Oper.wp
    rw [he' _ w2]
    have k := (h1.alloc _).trans h2 (fun _ h _ => h)
    have a1 := (Hld.new w1 t z).only h2 (fun h => h)
    exact ⟨only_up w0 _ _ hS (k.alloc _), h _ _ _ (k.alloc _) (a1.alloc _) (Hld.new w2 t' z') (Nat.ne_of_lt a1.lt) h1.size k.size⟩
  · unfold Oper.wp
    rw [he' a w1]
    refine ⟨only_up w0 _ _ hS (h1.alloc _), wpN_one hrj hi (hw _) (fun w2 h2 => ?_)⟩
    unfold Oper.wp
    rw [he _ w2]
    have k := (h1.alloc _).trans h2 (fun _ h _ => h)
    have a1 := (Hld.new w1 t' z').only h2 (fun h => h)
    refine ⟨only_up w0 _ _ hS (k.alloc _), ?_⟩
    have := h _ _ _ (k.alloc _) (Hld.new w2 t z) (a1.alloc _) (Nat.ne_of_gt a1.lt) k.size h1.size
    rw [Array.setIfInBounds_comm _ _ hij, Act.put_comm _ _ _ hd] at this
    exact this
theorem wpN_store {i : Nat} {o : Oper} {n : Nat} {listed : Array Bool} {a : Act} {w : World} {ty t : TypeId} {x y : Operand} {g : Nat} {cs cs' : Array Value} (hr : Region.ready md ops listed = [i]) (hi : ops[i]? = some o) (hw : Region.wanted o (yielded ops a.tmps) = true)
    (ho : o.op = .store ty x y) (hdst : o.dst = none) (hx : a.eval x = .pointer (some ⟨g, 0, none⟩)) (hy : a.eval y = .agg cs') (hg : Hld w g t cs) (hgw : g < w0.heap.size → F g) (hs : cs'.size = cs.size) (h1 : ∀ v ∈ cs'.toList, v.oneCell' = true) (hti : (P.info? ty).map (·.size) = some cs'.size)
    (hS : Only F w0 w)
    (h : ∀ w1 w2, Only Noth w w1 → Hld w2 g t cs' → Only (fun k => k = g) w1 w2 → Only F w0 w2 → wpN P md ops Q F w0 n (listed.setIfInBounds i true) a w2) : wpN P md ops Q F w0 (n + 1) listed a w := by
  refine wpN_one hr hi hw (fun w1 k1 => ?_)
  have hg1 := hg.only k1 (fun h => h)
  unfold Oper.wp execOp
  have hp : ∀ v, a.put none v = a := fun _ => rfl
  simp only [ho, hx, hy, Instr.storeAt, Instr.sureAddr, Sem.run_bind, Sem.run_pure, Result.andThen_ok, run_storeVar_whole w1 g t ty cs cs' hg1 hs h1 hti]
  have hh : Hld (w1.setRow g cs') g t cs' := setRow_heap w1 g cs cs' t (0, 0) hg1
  have ho2 := (Only.refl (fun k => k = g) w1).setRow (fun _ => rfl) cs'
  have hS2 : Only F w0 (w1.setRow g cs') := (only_up w0 _ _ hS k1).trans ho2 (fun j hj hl => by have : j = g := hj; subst this; exact hgw hl)
  have := And.intro hS2 (h w1 _ k1 hh ho2 hS2)
  simpa [Oper.upon, hdst, hp] using this
theorem sure_skip {o : Oper} {a : Act} (hw : Region.wanted o (yielded ops a.tmps) = false) : Sure P ops (Only Noth) (Only F w0) o undef a := .inr ⟨hw, rfl⟩
/-- A call that comes up alone: what it hands back may be new. -/
theorem wpN_call {i : Nat} {o : Oper} {d : Option Tmp} {n : Nat} {listed : Array Bool} {a : Act} {w : World} {f : FuncId} {args : Array Value} {T : Value → World → World → Prop}
    (hc : ∀ w1, Only Noth w w1 → Calls P f args w1 (fun e w' => ∃ v, e = .returned v ∧ T v w1 w' ∧ Only F w0 w'))
    (hr : Region.ready md ops listed = [i]) (hi : ops[i]? = some o) (hd : o.dst = d) (hw : Region.wanted o (yielded ops a.tmps) = true)
    (he : ∀ w1, (execOp a.eval o).run P w1 = .ok (.enter f args) w1)
    (h : ∀ v w1 w2, Only Noth w w1 → T v w1 w2 → Only F w0 w2 → wpN P md ops Q F w0 n (listed.setIfInBounds i true) (a.put d v) w2) : wpN P md ops Q F w0 (n + 1) listed a w := by
  subst hd
  refine wpN_one hr hi hw (fun w1 h1 => ?_)
  unfold Oper.wp
  rw [he w1]
  refine (hc w1 h1).mono ?_
  rintro e w' ⟨v, rfl, ht, ho⟩
  exact ⟨ho, h v w1 w' h1 ht ho⟩
theorem wpR_mono {R : World → World → Prop} {S S' : World → Prop} (hs : ∀ w, S' w → S w) : ∀ (n : Nat) (listed : Array Bool) (a : Act) (w : World), wpR P md ops Q R S' n listed a w → wpR P md ops Q R S n listed a w := by
  intro n
  induction n with
  | zero => exact fun _ _ _ h => h
  | succ n ih => exact fun _ _ _ h => ⟨h.1, fun i hi w1 h1 => wpOp_mono (fun b w' k => ⟨hs _ k.1, ih _ b w' k.2⟩) (h.2 i hi w1 h1)⟩
/-- From here on the world at hand is the one whose blocks are kept. -/
theorem wpN_rebase {n : Nat} {listed : Array Bool} {a : Act} {w : World} (h0 : Only F w0 w) (h : wpN P md ops Q F w n listed a w) : wpN P md ops Q F w0 n listed a w :=
  wpR_mono (fun w' h1 => h0.trans h1 (fun _ h _ => h)) n listed a w h
theorem quiet_noth {f : FuncId} {args : Array Value} {w : World} {e0 : Ending} (h : Calls P f args w (fun e w' => e = e0 ∧ w = w')) : Calls P f args w (fun e w' => e = e0 ∧ Only Noth w w') :=
  h.mono (fun e w' ⟨h1, h2⟩ => ⟨h1, by rw [← h2]; exact Only.refl _ _⟩)
/-- An operation that comes up alone and yields its value from the world at hand on. -/
theorem wpN_value1 {i : Nat} {o : Oper} {d : Option Tmp} {v : Value} {n : Nat} {listed : Array Bool} {a : Act} {w : World} (hr : Region.ready md ops listed = [i]) (hi : ops[i]? = some o) (hd : o.dst = d) (hs : Sure P ops (Only Noth) (Only Noth w) o v a) (hS : Only F w0 w)
    (h : wpN P md ops Q F w0 n (listed.setIfInBounds i true) (a.put d v) w) : wpN P md ops Q F w0 (n + 1) listed a w := by
  subst hd
  refine ⟨fun h0 => (by rw [hr] at h0; cases h0), fun j hj w1 h1 => ?_⟩
  rw [hr] at hj
  obtain rfl : j = i := by simpa using hj
  exact hs.op (fun w => Only.refl _ w) hi h1 (fun w' h2 _ => ⟨only_up _ _ _ (only_up _ _ _ hS h1) h2, wpR_up (fun _ _ _ h k => h.trans k (fun _ h _ => h)) (only_up _ _ _ h1 h2) h⟩)
/-- A call and an alloc may come up. -/
theorem wpN_ca {i j : Nat} {o o' : Oper} {d d' : Option Tmp} {n : Nat} {listed : Array Bool} {a : Act} {w : World} {f : FuncId} {args : Array Value} {T : Value → World → World → Prop} {t : TypeId} {z : Array Value}
    (hc : ∀ w1, Only Noth w w1 → Calls P f args w1 (fun e w' => ∃ v, e = .returned v ∧ T v w1 w' ∧ Only F w0 w'))
    (hr : Region.ready md ops listed = [i, j]) (hi : ops[i]? = some o) (hd : o.dst = d) (hw : Region.wanted o (yielded ops a.tmps) = true)
    (he : ∀ w1, (execOp a.eval o).run P w1 = .ok (.enter f args) w1)
    (hj : ops[j]? = some o') (hd' : o'.dst = d') (hw' : Region.wanted o' (yielded ops a.tmps) = true)
    (he' : ∀ w1, (execOp a.eval o').run P w1 = .ok (.value (.pointer (some ⟨w1.heap.size, 0, none⟩))) (w1.alloc (.cells z t))) (hS : Only F w0 w)
    (h : ∀ v w1 w2, Only Noth w w1 → T v w1 w2 → Only F w0 w2 → wpN P md ops Q F w0 n (listed.setIfInBounds i true) (a.put d v) w2)
    (k : ∀ w2 p, Only Noth w w2 → Hld w2 p t z → w.heap.size ≤ p → wpN P md ops Q F w0 n (listed.setIfInBounds j true) (a.put d' (.pointer (some ⟨p, 0, none⟩))) w2) : wpN P md ops Q F w0 (n + 1) listed a w := by
  subst hd hd'
  refine wpN_two hr hi hw hj hw' (fun w1 h1 => ?_) (fun w1 h1 => ?_)
  · unfold Oper.wp
    rw [he w1]
    refine (hc w1 h1).mono ?_
    rintro e w' ⟨v, rfl, ht, ho⟩
    exact ⟨ho, h v w1 w' h1 ht ho⟩
  · unfold Oper.wp
    rw [he' w1]
    exact ⟨only_up _ _ _ hS (h1.alloc _), k _ _ (h1.alloc _) (Hld.new w1 t z) h1.size⟩
end
end Go.Proofs.YtokgignmdgejoaaDoor
