/- Package packet: Size; the reference's Light and Copy. -/
import Derived.Test.YtjdgmnaemopfdaaDoorPkD
namespace Go.Proofs.YtjdgmnaemopfdaaDoor
open Go.RowKit Go.Lib
set_option linter.unusedVariables false
set_option maxRecDepth 100000
attribute [local go_sem ↓] Go.wp_at_zero Go.wp_at_succ

theorem flat_get {size : Nat} {xs : List (List Value)} (hs : ∀ x ∈ xs, x.length = size) {k r : Nat} {cs : List Value} {u : Value} (hk : xs[k]? = some cs) (hr : cs[r]? = some u) : xs.flatten[k * size + r]? = some u := by
  induction xs generalizing k with
  | nil => simp at hk
  | cons a t ih =>
    have ha := hs a (by simp)
    cases k with
    | zero =>
      simp only [List.getElem?_cons_zero, Option.some.injEq] at hk
      subst hk
      rw [List.flatten_cons, Nat.zero_mul, Nat.zero_add, List.getElem?_append_left (List.getElem?_eq_some_iff.1 hr).1]
      exact hr
    | succ k =>
      rw [List.flatten_cons, Nat.succ_mul, List.getElem?_append_right (by omega), show k * size + size + r - a.length = k * size + r by omega]
      exact ih (fun x hx => hs x (by simp [hx])) (by simpa using hk)
theorem flat_of {size : Nat} {xs : List (List Value)} (hs : ∀ x ∈ xs, x.length = size) {j : Nat} {u : Value} (hj : xs.flatten[j]? = some u) : ∃ k r cs, xs[k]? = some cs ∧ cs[r]? = some u ∧ j = k * size + r := by
  induction xs generalizing j with
  | nil => simp at hj
  | cons a t ih =>
    have ha := hs a (by simp)
    rw [List.flatten_cons] at hj
    by_cases hlt : j < a.length
    · rw [List.getElem?_append_left hlt] at hj
      exact ⟨0, j, a, rfl, hj, by omega⟩
    · rw [List.getElem?_append_right (by omega)] at hj
      obtain ⟨k, r, cs, h1, h2, h3⟩ := ih (fun x hx => hs x (by simp [hx])) hj
      exact ⟨k + 1, r, cs, by simpa using h1, h2, by rw [Nat.succ_mul]; omega⟩
theorem flat_len {size : Nat} {xs : List (List Value)} (hs : ∀ x ∈ xs, x.length = size) : xs.flatten.length = xs.length * size := by
  induction xs with
  | nil => simp
  | cons a t ih =>
    have ha := hs a (by simp)
    rw [List.flatten_cons, List.length_append, List.length_cons, Nat.succ_mul, ih (fun x hx => hs x (by simp [hx]))]
    omega
theorem ElAt.src {w : World} {S : Nat → Prop} {size : Nat} {A : Option Addr} {xs : List (List Value)} (h : ElAt w S size A xs) (hs : ∀ x ∈ xs, x.length = size) : Src w S size A xs.length xs.flatten :=
  ⟨flat_len hs, fun hn => by
    obtain ⟨b, o, hA, hS, hlt, hc⟩ := h hn
    refine ⟨_, hA, hS, hlt, fun j u hj => ?_⟩
    obtain ⟨k, r, cs, h1, h2, rfl⟩ := flat_of hs hj
    rw [add_plain', ← Nat.add_assoc]
    exact hc k cs h1 r u h2⟩
theorem Row.el {w : World} {F : Nat → Prop} {e : TypeId} {size n : Nat} {v : Value} {xs : List (List Value)} (h : Row w F e size v n xs.flatten) (hs : ∀ x ∈ xs, x.length = size) (hp : 0 < size) (hn : xs.length = n) :
    ∃ A c, v = .slice A n c ∧ n ≤ c ∧ c ≤ maxLen ∧ ElAt w F size A xs := by
  obtain ⟨hl, A, cap, hv, h1, h2, h3⟩ := h
  refine ⟨A, cap, hv, h1, h2, fun hpos => ?_⟩
  rcases h3 with h3 | ⟨g, cur, hA, hF, hg, hc, ht⟩
  · omega
  · refine ⟨g, 0, hA, hF, (Array.getElem?_eq_some_iff.1 hg).1, fun k cs hk j u hj => ?_⟩
    have h5 := flat_get hs hk hj
    rw [← ht] at h5
    have h6 : cur[k * size + j]? = some u := by
      rw [List.getElem?_take] at h5
      split at h5
      · simpa using h5
      · cases h5
    rw [Nat.zero_add, cell_of_row w g _ cur e (0, 0) hg]
    exact h6
theorem mem_len (ms : List Mem) : ∀ x ∈ ms.map Mem.cl, x.length = 3 := fun x hx => by
  obtain ⟨m, _, rfl⟩ := List.mem_map.1 hx
  rfl
theorem ent_len (es : List Ent) : ∀ x ∈ es.map Ent.cl, x.length = 5 := fun x hx => by
  obtain ⟨m, _, rfl⟩ := List.mem_map.1 hx
  rfl
theorem mem_one (ms : List Mem) : ∀ u ∈ (ms.map Mem.cl).flatten, u.oneCell' = true := fun u hu => by
  obtain ⟨l, hl, hu⟩ := List.mem_flatten.1 hu
  obtain ⟨m, _, rfl⟩ := List.mem_map.1 hl
  simp only [Mem.cl, List.mem_cons, List.not_mem_nil, or_false] at hu
  rcases hu with rfl | rfl | rfl <;> rfl
theorem ent_one (es : List Ent) : ∀ u ∈ (es.map Ent.cl).flatten, u.oneCell' = true := fun u hu => by
  obtain ⟨l, hl, hu⟩ := List.mem_flatten.1 hu
  obtain ⟨m, _, rfl⟩ := List.mem_map.1 hl
  simp only [Ent.cl, List.mem_cons, List.not_mem_nil, or_false] at hu
  rcases hu with rfl | rfl | rfl | rfl | rfl <;> rfl
theorem meminfo : (Tryd.prog.info? 68).map (fun i => (i.zero, i.size, i.bytes)) = some (some (.agg #[.int .u16 0, .int .u8 0, .int .i64 0]), 3, 16) := by kernel_rfl
theorem entinfo : (Tryd.prog.info? 64).map (fun i => (i.zero, i.size, i.bytes)) = some (some (.agg #[.string ⟨#[]⟩, .int .i64 0, .int .u16 0, .string ⟨#[]⟩, .int .i64 0]), 5, 56) := by kernel_rfl

theorem pk_size (x : Ent) (h : x.Ok) (hs : x.key.size + x.val.size ≤ 140737488355000) (w : World) (ht : Tab w) : Calls Tryd.prog 37 #[.agg #[.string x.key, .int .i64 x.time, .int .u16 x.org, .string x.val, .int .i64 x.til]] w
    fun e w' => e = .returned (.int .i64 x.bytes.length) ∧ Only Noth w w' := by
  have T := Lib.hid ht
  have HO := Lib.hid h
  have HS := Lib.hid hs
  have ON := Lib.hid ((Only.refl Noth w).alloc (.cells #[.string x.key, .int .i64 x.time, .int .u16 x.org, .string x.val, .int .i64 x.til] 64))
  clear ht h hs
  go_enter Tryd.func37, Tryd.ntmps37
  go_wp2_with fail
  refine (entry_put_b x HO.out HS.out _ (T.out.noth ON.out)).mono ?_
  rintro e w1 ⟨A, c, rfl, hp, ho⟩
  have ON1 := Lib.hid (ON.out.tr ho)
  clear hp ho
  go_wp2
  go_ret
  exact ⟨rfl, ON1.out⟩

/-- What Light tells. -/
def Pkt.Light (p : Pkt) : Prop := p.ms.length ≤ 80 ∧ p.es.length ≤ 260 ∧ ∀ e ∈ p.es, e.key.size + e.val.size ≤ 40000
theorem wpList_store_mem {ops : Array Oper} {rest : List Oper} {o : Oper} {a : Act} {w : World} {Q : Exit → Act → World → Prop} (hgd : o.guard = none) (hdst : o.dst = none) (x y : Operand) (ho : o.op = .store 47 x y)
    (g i : Nat) (hx : a.eval x = .pointer (some ⟨g, i, none⟩)) (A : Option Addr) (n c : Nat) (hy : a.eval y = .slice A n c) (t : TypeId) (cs : Array Value) (hg : Hld w g t cs) (u : Value) (hu : cs[i]? = some u)
    (h : ∀ w', Hld w' g t (cs.setIfInBounds i (.slice A n c)) → Only (fun k => k = g) w w' → wpList Tryd.prog ops Q rest a w') : wpList Tryd.prog ops Q (o :: rest) a w := by
  refine wpList_plain hgd fun K hK => ?_
  have c0 := (hg.cell i).trans hu
  have f0 := hg.free i
  have := hK _ _ (h _ (hg.set_ i (.slice A n c)) ((Only.refl (fun k => k = g) w).setCell (p := ⟨g, i, none⟩) (fun _ => rfl) _))
  have hp : ∀ v, a.put none v = a := fun _ => rfl
  unfold Oper.wp execOp
  simp only [ho, hx, hy]
  go_simp
  simpa [Oper.upon, hdst, hp] using this
theorem wpList_store_ent {ops : Array Oper} {rest : List Oper} {o : Oper} {a : Act} {w : World} {Q : Exit → Act → World → Prop} (hgd : o.guard = none) (hdst : o.dst = none) (x y : Operand) (ho : o.op = .store 48 x y)
    (g i : Nat) (hx : a.eval x = .pointer (some ⟨g, i, none⟩)) (A : Option Addr) (n c : Nat) (hy : a.eval y = .slice A n c) (t : TypeId) (cs : Array Value) (hg : Hld w g t cs) (u : Value) (hu : cs[i]? = some u)
    (h : ∀ w', Hld w' g t (cs.setIfInBounds i (.slice A n c)) → Only (fun k => k = g) w w' → wpList Tryd.prog ops Q rest a w') : wpList Tryd.prog ops Q (o :: rest) a w := by
  refine wpList_plain hgd fun K hK => ?_
  have c0 := (hg.cell i).trans hu
  have f0 := hg.free i
  have := hK _ _ (h _ (hg.set_ i (.slice A n c)) ((Only.refl (fun k => k = g) w).setCell (p := ⟨g, i, none⟩) (fun _ => rfl) _))
  have hp : ∀ v, a.put none v = a := fun _ => rfl
  unfold Oper.wp execOp
  simp only [ho, hx, hy]
  go_simp
  simpa [Oper.upon, hdst, hp] using this
end Go.Proofs.YtjdgmnaemopfdaaDoor
