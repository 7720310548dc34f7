/- The reference's map, plain; operations of a drawn region that make new memory; parts of lists of entries. -/
import Derived.Test.YtdclkbhkboaafaaCmF
namespace Go.Proofs.Ytdclkbhkboaafaa
open Go.RowKit Go.Lib Go.Sort
set_option linter.unusedVariables false
set_option linter.unusedSimpArgs false
set_option maxRecDepth 100000
attribute [local go_sem ↓] Go.wp_at_zero Go.wp_at_succ

theorem srt_split {A B : List Ent} {e : Ent} (hA : Srt A) (hB : Srt B) (h1 : ∀ x ∈ A, bytesBefore x.kb e.kb = true) (h2 : ∀ x ∈ B, bytesBefore e.kb x.kb = true) : Srt (A ++ e :: B) := by
  refine List.pairwise_append.2 ⟨hA, List.pairwise_cons.2 ⟨h2, hB⟩, fun x hx y hy => ?_⟩
  rcases List.mem_cons.1 hy with rfl | hy
  · exact h1 x hx
  · exact WideShapes.bytes_trans _ _ _ (h1 x hx) (h2 y hy)
theorem split_at {L : List Ent} {i : Nat} {x : Ent} (hx : L[i]? = some x) : L = L.take i ++ x :: L.drop (i + 1) := by
  obtain ⟨h1, h2⟩ := List.getElem?_eq_some_iff.1 hx
  rw [← h2, ← List.drop_eq_getElem_cons h1, List.take_append_drop]
theorem put_at_eq {L : List Ent} {i : Nat} {x e : Ent} (hs : Srt L) (hx : L[i]? = some x) (hk : x.kb = e.kb) : cget e.kb L = some x ∧ cput e L = L.take i ++ e :: L.drop (i + 1) := by
  have hsp := split_at hx
  have hmem := List.mem_of_getElem? hx
  refine ⟨(cget_iff hs).2 ⟨hmem, hk⟩, ?_⟩
  obtain ⟨A, hA⟩ : ∃ A, L.take i = A := ⟨_, rfl⟩
  obtain ⟨B, hB⟩ : ∃ B, L.drop (i + 1) = B := ⟨_, rfl⟩
  rw [hA, hB] at hsp ⊢
  have hs2 := hs
  rw [hsp] at hs2
  obtain ⟨p1, p2, p3⟩ := List.pairwise_append.1 hs2
  have p4 := List.pairwise_cons.1 p2
  have hS : Srt (A ++ e :: B) := srt_split p1 p4.2 (fun y hy => by have := p3 y hy x (by simp); rwa [hk] at this) (fun y hy => by have := p4.1 y hy; rwa [hk] at this)
  refine srt_ext (cput_srt hs) hS (fun y => ?_)
  rw [cput_mem, hsp]
  simp only [List.mem_append, List.mem_cons]
  constructor
  · rintro (rfl | ⟨h | rfl | h, hne⟩)
    · simp
    · simp [h]
    · exact absurd hk hne
    · simp [h]
  · rintro (h | rfl | h)
    · exact .inr ⟨.inl h, before_ne (by have := p3 y h x (by simp); rwa [hk] at this)⟩
    · exact .inl rfl
    · exact .inr ⟨.inr (.inr h), fun e1 => before_ne (by have := p4.1 y h; rwa [hk] at this) e1.symm⟩
theorem put_at_ne {L : List Ent} {i : Nat} {e : Ent} (hs : Srt L) (hb : ∀ x ∈ L.take i, bytesBefore x.kb e.kb = true) (ha : ∀ x, L[i]? = some x → bytesBefore x.kb e.kb = false ∧ x.kb ≠ e.kb) : cget e.kb L = none ∧ cput e L = L.take i ++ e :: L.drop i := by
  have hsp : L = L.take i ++ L.drop i := (List.take_append_drop i L).symm
  have hd : ∀ y ∈ L.drop i, bytesBefore e.kb y.kb = true := fun y hy => by
    cases hg : L[i]? with
    | none =>
      rw [List.getElem?_eq_none_iff] at hg
      rw [List.drop_eq_nil_of_le hg] at hy
      cases hy
    | some x =>
      obtain ⟨h1, h2⟩ := ha x hg
      have hex : bytesBefore e.kb x.kb = true := by
        rcases WideAt.bytes_total _ _ h2 with h | h
        · rw [h1] at h; cases h
        · exact h
      obtain ⟨h3, h4⟩ := List.getElem?_eq_some_iff.1 hg
      rw [List.drop_eq_getElem_cons h3, h4] at hy
      rcases List.mem_cons.1 hy with rfl | hy
      · exact hex
      · have hs2 : Srt (L.drop i) := List.Pairwise.sublist (List.drop_sublist i L) hs
        rw [List.drop_eq_getElem_cons h3, h4] at hs2
        exact WideShapes.bytes_trans _ _ _ hex ((List.pairwise_cons.1 hs2).1 y hy)
  have hno : ∀ y ∈ L, y.kb ≠ e.kb := fun y hy => by
    rw [hsp] at hy
    rcases List.mem_append.1 hy with hy | hy
    · exact before_ne (hb y hy)
    · exact fun e1 => before_ne (hd y hy) e1.symm
  refine ⟨cget_none.2 hno, srt_ext (cput_srt hs) (srt_split (List.Pairwise.sublist (List.take_sublist i L) hs) (List.Pairwise.sublist (List.drop_sublist i L) hs) hb hd) (fun y => ?_)⟩
  rw [cput_mem]
  simp only [List.mem_append, List.mem_cons]
  constructor
  · rintro (rfl | ⟨h, _⟩)
    · simp
    · rw [hsp] at h
      rcases List.mem_append.1 h with h | h <;> simp [h]
  · rintro (h | rfl | h)
    · have := List.mem_of_mem_take h; exact .inr ⟨this, hno y this⟩
    · exact .inl rfl
    · have := List.mem_of_mem_drop h; exact .inr ⟨this, hno y this⟩
theorem cstep_bad {L : List Ent} {e : Ent} (h : e.check ≠ 0) : cstep L e = (L, false, e.check) := by unfold cstep; rw [if_pos h]
theorem cstep_no {L : List Ent} {e x : Ent} (h : e.check = 0) (hg : cget e.kb L = some x) (ha : e.above x = false) : cstep L e = (L, false, 0) := by unfold cstep; rw [if_neg (by simpa using h), hg]; simp [ha]
theorem cstep_up {L : List Ent} {e x : Ent} (h : e.check = 0) (hg : cget e.kb L = some x) (ha : e.above x = true) : cstep L e = (cput e L, true, 0) := by unfold cstep; rw [if_neg (by simpa using h), hg]; simp [ha]
theorem cstep_full {L : List Ent} {e : Ent} (h : e.check = 0) (hg : cget e.kb L = none) (hl : 256 ≤ L.length) : cstep L e = (L, false, 11) := by unfold cstep; rw [if_neg (by simpa using h), hg]; simp [hl]
theorem cstep_new {L : List Ent} {e : Ent} (h : e.check = 0) (hg : cget e.kb L = none) (hl : L.length < 256) : cstep L e = (cput e L, true, 0) := by unfold cstep; rw [if_neg (by simpa using h), hg]; simp only; rw [if_neg (by omega)]
/-- The beginning, the rest of a list of entries. -/
theorem Ents.take {w : World} {A : Option Addr} {c : Nat} {l : List Ent} (h : Ents w (.slice A l.length c) l) (i : Nat) (hi : i ≤ l.length) : Ents w (.slice A (l.take i).length c) (l.take i) := by
  obtain ⟨A', c', q0, hel, h1, h2⟩ := h
  injection q0 with q1 _ q3
  subst q1 q3
  have hl : (l.take i).length = i := by rw [List.length_take]; omega
  refine ⟨A, c, rfl, fun hp => ?_, by omega, h2⟩
  rw [List.length_map] at hp
  obtain ⟨b, o, hA, hS, hb, hc⟩ := hel (by rw [List.length_map]; omega)
  refine ⟨b, o, hA, hS, hb, fun k cs hk => hc k cs ?_⟩
  rw [List.getElem?_map] at hk ⊢
  rw [List.getElem?_take] at hk
  split at hk
  · exact hk
  · cases hk
theorem Ents.drop {w : World} {b o c : Nat} {l : List Ent} (h : Ents w (.slice (some ⟨b, o, none⟩) l.length c) l) (i : Nat) (hi : i ≤ l.length) : Ents w (.slice (some ⟨b, o + i * 5, none⟩) (l.drop i).length (c - i)) (l.drop i) := by
  obtain ⟨A', c', q0, hel, h1, h2⟩ := h
  injection q0 with q1 _ q3
  subst q1 q3
  have hl : (l.drop i).length = l.length - i := List.length_drop
  refine ⟨_, c - i, rfl, fun hp => ?_, by omega, by omega⟩
  rw [List.length_map, hl] at hp
  obtain ⟨b', o', hA, hS, hb, hc⟩ := hel (by rw [List.length_map]; omega)
  injection hA with hA
  injection hA with e1 e2
  subst e1 e2
  refine ⟨b, o + i * 5, rfl, hS, hb, fun k cs hk j v hv => ?_⟩
  rw [List.getElem?_map, List.getElem?_drop] at hk
  have := hc (i + k) cs (by rw [List.getElem?_map]; exact hk) j v hv
  rw [show o + i * 5 + k * 5 + j = o + (i + k) * 5 + j by omega]
  exact this
theorem Ents.nilc {w : World} {l : List Ent} {c : Nat} (h : Ents w (.slice none l.length c) l) : l = [] := by
  obtain ⟨A', c', q0, hel, h1, h2⟩ := h
  injection q0 with q1 _ q3
  subst q1
  cases l with
  | nil => rfl
  | cons a t =>
    obtain ⟨b, o, hA, _⟩ := hel (by simp)
    cases hA
theorem Ents.none_ (w : World) : Ents w (.slice none 0 0) [] := ⟨none, 0, rfl, fun h => absurd h (by simp), by simp, by omega⟩
theorem app_ents_run (w0 w : World) (ty : TypeId) {A0 : Option Addr} {c0 : Nat} {l m : List Ent} (hr : ERow w0 w A0 c0 l) {A : Option Addr} {c : Nat} (hm : Ents w (.slice A m.length c) m) (hn : l.length + m.length ≤ 100000) (hw : Only Noth w0 w) :
    ∃ B d w', (Builtin.append_ #[22, 22] ty #[.slice A0 l.length c0, .slice A m.length c]).run Try.prog w = .ok (.slice B (l ++ m).length d) w' ∧ ERow w0 w' B d (l ++ m) ∧ Only (New w0) w w' := by
  obtain ⟨i1, hj, hy0, hy1, hy2⟩ := info_parts entinfo
  obtain ⟨A', c', q0, hel, _, _⟩ := hm
  injection q0 with q1 _ q3
  subst q1 q3
  obtain ⟨v', w', hrun, hrow, ho, _⟩ := run_append_row (P := Try.prog) w 22 ty 34 i1 (.agg #[.string ⟨#[]⟩, .int .i64 0, .int .u16 0, .string ⟨#[]⟩, .int .i64 0]) 5 56 Try.underlying22 hj hy0 hy1 hy2 rfl (New w0) _ _ l.length _ hr A m.length c (m.map Ent.cl).flatten (by have := hel.src (ent_len m); rwa [List.length_map] at this) (fun u hu => by
    obtain ⟨cs, hcs, hu⟩ := List.mem_flatten.1 hu
    obtain ⟨e, _, rfl⟩ := List.mem_map.1 hcs
    simp only [List.mem_cons, List.not_mem_nil, or_false] at hu
    rcases hu with rfl | rfl | rfl | rfl | rfl <;> rfl) (by simp only [maxLen]; omega) (by omega)
  obtain ⟨B, d, rfl⟩ := hrow.shape
  refine ⟨B, d, w', ?_, ?_, ho⟩
  · rw [List.length_append]; exact hrun
  · unfold ERow
    rw [List.length_append, List.map_append, List.flatten_append]
    exact hrow.mono (G := New w0) (fun j hj _ => by
      rcases hj with hj | hj
      · exact hj
      · have := hj.1
        have := hw.size
        show w0.heap.size ≤ j
        omega)
section
variable {P : Program} {ops : Array Oper} {Q : Exit → Act → World → Prop} {md : Region.Mode} {F : Nat → Prop} {w0 : World}
/-- An operation that comes up alone; what it yields may be new. -/
theorem wpN_run1 {i : Nat} {o : Oper} {d : Option Tmp} {n : Nat} {listed : Array Bool} {a : Act} {w : World} (T : Value → World → Prop)
    (hr : Region.ready md ops listed = [i]) (hi : ops[i]? = some o) (hd : o.dst = d) (hw : Region.wanted o (yielded ops a.tmps) = true)
    (he : ∀ w1, Only Noth w w1 → ∃ v w2, (execOp a.eval o).run P w1 = .ok (.value v) w2 ∧ T v w2 ∧ Only F w0 w2)
    (h : ∀ v w2, T v w2 → Only F w0 w2 → wpN P md ops Q F w0 n (listed.setIfInBounds i true) (a.put d v) w2) : wpN P md ops Q F w0 (n + 1) listed a w := by
  subst hd
  refine wpN_one hr hi hw (fun w1 h1 => ?_)
  obtain ⟨v, w2, hrun, ht, ho⟩ := he w1 h1
  unfold Oper.wp
  rw [hrun]
  exact ⟨ho, h v w2 ht ho⟩
/-- Two operations that may come up in either order; what they yield is new. -/
theorem wpN_run2 {i j : Nat} {o o' : Oper} {d d' : Option Tmp} {n : Nat} {listed : Array Bool} {a : Act} {w : World} (T U : Value → World → Prop)
    (hT : ∀ v w1 w2, T v w1 → Only Noth w1 w2 → T v w2) (hU : ∀ v w1 w2, U v w1 → Only Noth w1 w2 → U v w2)
    (hr : Region.ready md ops listed = [i, j]) (hri : Region.ready md ops (listed.setIfInBounds i true) = [j]) (hrj : Region.ready md ops (listed.setIfInBounds j true) = [i]) (hij : i ≠ j)
    (hi : ops[i]? = some o) (hj : ops[j]? = some o') (hdd : o.dst = d) (hdd' : o'.dst = d') (hg : o.guard = none) (hg' : o'.guard = none) (hd : ∀ e, d = some e → d' ≠ some e)
    (hS : Only F w0 w)
    (he : ∀ u w1, Only Noth w w1 → ∃ v w2, (execOp a.eval o).run P w1 = .ok (.value v) w2 ∧ (execOp (a.put d' u).eval o).run P w1 = .ok (.value v) w2 ∧ T v w2 ∧ Only Noth w1 w2)
    (he' : ∀ u w1, Only Noth w w1 → ∃ v w2, (execOp a.eval o').run P w1 = .ok (.value v) w2 ∧ (execOp (a.put d u).eval o').run P w1 = .ok (.value v) w2 ∧ U v w2 ∧ Only Noth w1 w2)
    (h : ∀ v u w2, T v w2 → U u w2 → Only Noth w w2 → wpN P md ops Q F w0 n ((listed.setIfInBounds i true).setIfInBounds j true) ((a.put d v).put d' u) w2) : wpN P md ops Q F w0 (n + 2) listed a w := by
  subst hdd hdd'
  have hw : ∀ b : Act, Region.wanted o (yielded ops b.tmps) = true := fun b => by simp [Region.wanted, hg]
  have hw' : ∀ b : Act, Region.wanted o' (yielded ops b.tmps) = true := fun b => by simp [Region.wanted, hg']
  refine wpN_two hr hi (hw a) hj (hw' a) (fun w1 h1 => ?_) (fun w1 h1 => ?_)
  · obtain ⟨v, w2, hrun, _, ht, ho⟩ := he .nilFunc w1 h1
    have k2 := h1.tr ho
    unfold Oper.wp
    rw [hrun]
    refine ⟨only_up w0 _ _ hS k2, wpN_one hri hj (hw' _) (fun w3 h3 => ?_)⟩
    obtain ⟨u, w4, _, hrun4, hu, ho4⟩ := he' v w3 (k2.tr h3)
    have k4 := (k2.tr h3).tr ho4
    unfold Oper.wp
    rw [hrun4]
    exact ⟨only_up w0 _ _ hS k4, h v u w4 (hT _ _ _ (hT _ _ _ ht h3) ho4) hu k4⟩
  · obtain ⟨u, w2, hrun, _, hu, ho⟩ := he' .nilFunc w1 h1
    have k2 := h1.tr ho
    unfold Oper.wp
    rw [hrun]
    refine ⟨only_up w0 _ _ hS k2, wpN_one hrj hi (hw _) (fun w3 h3 => ?_)⟩
    obtain ⟨v, w4, _, hrun4, ht, ho4⟩ := he u w3 (k2.tr h3)
    have k4 := (k2.tr h3).tr ho4
    unfold Oper.wp
    rw [hrun4]
    refine ⟨only_up w0 _ _ hS k4, ?_⟩
    have := h v u w4 ht (hU _ _ _ (hU _ _ _ hu h3) ho4) k4
    rw [Array.setIfInBounds_comm _ _ hij, Act.put_comm _ _ _ hd] at this
    exact this
end
end Go.Proofs.Ytdclkbhkboaafaa
