/- What is put of one alert changes no other one: plain. -/
import Derived.Test.YtokgignmdgejoaaDoorRaH
namespace Go.Proofs.YtokgignmdgejoaaDoor
open Go.RowKit Go.Lib
set_option linter.unusedVariables false
set_option maxRecDepth 100000

theorem tText_inj {a b r s : List UInt8} (ha : a.length ≤ 1000000000) (hb : b.length ≤ 1000000000) (h : tText a ++ r = tText b ++ s) : a = b ∧ r = s := by
  have h1 := Rd.text_laid a r 1000000000 ha (by omega)
  have h2 := Rd.text_laid b s 1000000000 hb (by omega)
  rw [h, h2] at h1
  injection h1 with h3 h4
  injection h3 with h5 _
  exact ⟨h4.symm, h5.symm⟩
theorem text_end {a r : List UInt8} (ha : a.length ≤ 1000000000) (h : [101] = tText a ++ r) : False := by
  have h1 := Rd.text_laid a r 1000000000 ha (by omega)
  rw [← h] at h1
  have h2 : (Rd.text ⟨[101], 0⟩ 1000000000).1.err ≠ 0 := by decide
  rw [h1] at h2
  exact h2 rfl
theorem flat_inj : ∀ (l m : List Pr), (∀ p ∈ l, p.name.size ≤ 1000 ∧ p.val.size ≤ 1000) → (∀ p ∈ m, p.name.size ≤ 1000 ∧ p.val.size ≤ 1000) → (l.flatMap Pr.tx).flatten ++ [101] = (m.flatMap Pr.tx).flatten ++ [101] → l = m
  | [], [], _, _, _ => rfl
  | [], q :: m, _, h2, h => by
    have hq := h2 q (by simp)
    have e1 : q.nb.length = q.name.size := rfl
    simp only [List.flatMap_cons, Pr.tx, List.flatten_append, List.flatten_cons, List.flatten_nil, List.flatMap_nil, List.nil_append, List.append_assoc] at h
    exact (text_end (by omega) h).elim
  | p :: l, [], h1, _, h => by
    have hp := h1 p (by simp)
    have e1 : p.nb.length = p.name.size := rfl
    simp only [List.flatMap_cons, Pr.tx, List.flatten_append, List.flatten_cons, List.flatten_nil, List.flatMap_nil, List.nil_append, List.append_assoc] at h
    exact (text_end (by omega) h.symm).elim
  | p :: l, q :: m, h1, h2, h => by
    have hp := h1 p (by simp)
    have hq := h2 q (by simp)
    have e1 : p.nb.length = p.name.size := rfl
    have e2 : q.nb.length = q.name.size := rfl
    have e3 : p.val.data.toList.length = p.val.size := rfl
    have e4 : q.val.data.toList.length = q.val.size := rfl
    simp only [List.flatMap_cons, Pr.tx, List.flatten_append, List.flatten_cons, List.flatten_nil, List.append_assoc, List.nil_append] at h
    obtain ⟨k1, h⟩ := tText_inj (by omega) (by omega) h
    obtain ⟨k2, h⟩ := tText_inj (by omega) (by omega) h
    have ih := flat_inj l m (fun x hx => h1 x (by simp [hx])) (fun x hx => h2 x (by simp [hx])) h
    obtain ⟨pn, pv⟩ := p
    obtain ⟨qn, qv⟩ := q
    have a1 : pn = qn := ba_inj k1
    have a2 : pv = qv := ba_inj k2
    subst a1 a2 ih
    rfl
/-- Unlike labels have unlike keys. -/
theorem lkey_inj {l m : List Pr} (hl : lcheck l = 0) (hm : lcheck m = 0) (h : lkey l = lkey m) : l = m := by
  have e1 : lkey l = tList (l.flatMap Pr.tx) := rfl
  have e2 : lkey m = tList (m.flatMap Pr.tx) := rfl
  rw [e1, e2] at h
  unfold tList at h
  injection h with _ h
  exact flat_inj l m (lcheck_small hl).2 (lcheck_small hm).2 h
/-- Are labels the same? -/
noncomputable def lsQ (x y : List Pr) : Bool := @decide (x = y) (Classical.propDecidable _)
theorem lsQ_iff {x y : List Pr} : lsQ x y = true ↔ x = y := by unfold lsQ; exact @decide_eq_true_iff _ (Classical.propDecidable _)
theorem lsame_q (A B : Option Addr) (c d : Nat) (l m : List Pr) (w : World) (S S' : Nat → Prop) (ha : PsAt w S A c l) (hb : PsAt w S' B d m) :
    Calls Tryd.prog 21 #[.slice A l.length c, .slice B m.length d] w fun e w' => e = .returned (.bool (lsQ l m)) ∧ Only Noth w w' :=
  (lsame_run A B c d l m w S S' ha hb).mono fun e w' ⟨⟨q, h1, h2⟩, ho⟩ => by
    refine ⟨?_, ho⟩
    rw [h1]
    congr 2
    cases q
    · cases hq : lsQ l m
      · rfl
      · have := h2.2 (lsQ_iff.1 hq); cases this
    · exact (lsQ_iff.2 (h2.1 rfl)).symm
abbrev Core := List Pr × Int × Int
/-- What is passed over. -/
noncomputable def pass (l : List Pr) (eb : Bool) (t : Core) : Bool := eb && lsQ t.1 l
theorem cins_filter {e : Al} {q : Al → Bool} (he : q e = false) : ∀ M : List Al, (cins e M).filter q = M.filter q
  | [] => by simp [cins, he]
  | y :: r => by
    simp only [cins]
    split
    · rw [List.filter_cons, he]
      rfl
    · rw [List.filter_cons, List.filter_cons, cins_filter he r]
theorem pass_filter {L L' : List Al} {l : List Pr} {st en er : Int} (hok : ∀ e ∈ L, lcheck e.ls = 0 ∧ 1 ≤ e.ls.length ∧ e.key = ⟨(lkey e.ls).toArray⟩) (he : aerr L l st en = er) (h0 : er ≠ 0 → L' = L) (h1 : er = 0 → ∃ blk cap, L' = cput ⟨⟨(lkey l).toArray⟩, l, blk, cap, ast L l st en, en⟩ L) :
    (L'.map Al.core).filter (fun t => !pass l (er == 0) t) = (L.map Al.core).filter (fun t => !pass l (er == 0) t) := by
  by_cases hz : er = 0
  · obtain ⟨blk, cap, rfl⟩ := h1 hz
    have hl : lcheck l = 0 := by
      have h2 := he
      rw [hz] at h2
      unfold aerr at h2
      split at h2
      · rename_i h3; exact absurd h2 h3
      · rename_i h3
        have h4 : acheck l st en = 0 := Decidable.not_not.1 h3
        unfold acheck at h4
        split at h4
        · rename_i h5; exact absurd h4 h5
        · rename_i h5; exact Decidable.not_not.1 h5
    obtain ⟨e, hee⟩ : ∃ e : Al, (⟨⟨(lkey l).toArray⟩, l, blk, cap, ast L l st en, en⟩ : Al) = e := ⟨_, rfl⟩
    rw [hee]
    have hels : e.ls = l := by rw [← hee]
    have hekb : e.kb = lkey l := by rw [← hee]; unfold Al.kb; simp
    rw [hz, List.filter_map, List.filter_map]
    congr 1
    have hp : ((fun t : Core => !pass l ((0 : Int) == 0) t) ∘ Al.core) e = false := by
      simp only [Function.comp, pass, Al.core, hels]
      simp [lsQ_iff.2 rfl]
    unfold cput
    rw [cins_filter hp, List.filter_filter]
    refine List.filter_congr (fun x hx => ?_)
    have hk : x.kb = e.kb → ((fun t : Core => !pass l ((0 : Int) == 0) t) ∘ Al.core) x = false := fun hk => by
      obtain ⟨k1, _, k3⟩ := hok x hx
      have : x.ls = l := lkey_inj k1 hl (by
        have h6 : x.kb = lkey x.ls := by unfold Al.kb; rw [k3]
        rw [← h6, hk, hekb])
      simp only [Function.comp, pass, Al.core, this]
      simp [lsQ_iff.2 rfl]
    by_cases hke : x.kb = e.kb
    · rw [hk hke]; rfl
    · have : (x.kb == e.kb) = false := by simpa using hke
      rw [this]
      simp
  · rw [h0 hz]
/-- Where both lists stand: as many that count ahead of both. -/
structure Both (X X' : List Core) (p : Core → Bool) (n i : Nat) : Prop where
  eq : (X.take n).filter p = (X'.take i).filter p
  n : n ≤ X.length
theorem filter_take_succ {X : List Core} {p : Core → Bool} {n : Nat} {u : Core} (hu : X[n]? = some u) : (X.take (n + 1)).filter p = (X.take n).filter p ++ (if p u then [u] else []) := by
  rw [List.take_add_one, hu, List.filter_append]
  congr 1
  cases h : p u <;> simp [h]
theorem Both.over {X X' : List Core} {p : Core → Bool} {n i : Nat} {t : Core} (h : Both X X' p n i) (ht : X'[i]? = some t) (hp : p t = false) : Both X X' p n (i + 1) :=
  ⟨by rw [filter_take_succ ht, hp, h.eq]; simp, h.n⟩
theorem Both.skip {X X' : List Core} {p : Core → Bool} {n i : Nat} {u : Core} (h : Both X X' p n i) (hu : X[n]? = some u) (hp : p u = false) : Both X X' p (n + 1) i :=
  ⟨by rw [filter_take_succ hu, hp, h.eq]; simp, (List.getElem?_eq_some_iff.1 hu).1⟩
theorem Both.next {X X' : List Core} {p : Core → Bool} {n i : Nat} {t : Core} (h : Both X X' p n i) (hall : X'.filter p = X.filter p) (ht : X'[i]? = some t) (hp : p t = true) (hn : ∀ u, X[n]? = some u → p u = true) : n < X.length ∧ X[n]? = some t ∧ Both X X' p (n + 1) (i + 1) := by
  have e1 : X'.filter p = (X'.take i).filter p ++ (t :: (X'.drop (i + 1)).filter p) := by
    obtain ⟨h1, h2⟩ := List.getElem?_eq_some_iff.1 ht
    conv => lhs; rw [← List.take_append_drop i X', List.filter_append, List.drop_eq_getElem_cons h1, h2, List.filter_cons, hp, if_pos rfl]
  have hlt : n < X.length := by
    rcases Nat.lt_or_ge n X.length with h1 | h1
    · exact h1
    · have h2 := h.eq
      rw [List.take_of_length_le h1, ← hall, e1] at h2
      have := congrArg List.length h2
      simp at this
  obtain ⟨u, hu⟩ : ∃ u, X[n]? = some u := ⟨_, List.getElem?_eq_getElem hlt⟩
  have hpu := hn u hu
  have e2 : X.filter p = (X.take n).filter p ++ (u :: (X.drop (n + 1)).filter p) := by
    obtain ⟨h1, h2⟩ := List.getElem?_eq_some_iff.1 hu
    conv => lhs; rw [← List.take_append_drop n X, List.filter_append, List.drop_eq_getElem_cons h1, h2, List.filter_cons, hpu, if_pos rfl]
  have e3 : u = t := by
    rw [e1, e2, h.eq] at hall
    have := List.append_cancel_left hall
    injection this with a _
    exact a.symm
  subst e3
  exact ⟨hlt, hu, by rw [filter_take_succ hu, filter_take_succ ht, h.eq], hlt⟩
end Go.Proofs.YtokgignmdgejoaaDoor
