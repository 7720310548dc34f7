/- Maps of entries, in plain Lean: merging. -/
import Derived.Test.YtdclkbhkboaafaaCmA
namespace Go.Proofs.Ytdclkbhkboaafaa
open Go.RowKit Go.Lib
set_option linter.unusedVariables false

theorem srt_nodup {L : List Ent} (h : Srt L) : L.Nodup := List.Pairwise.imp (fun {a b} hab (e : a = b) => before_ne hab (by rw [e])) h
theorem above_or {a b : Ent} (hk : a.kb = b.kb) (h : a.above b = false) : a = b ∨ b.above a = true := by
  cases hb : b.above a
  · exact .inl (above_total (kb_key.1 hk) h hb)
  · exact .inr rfl
theorem not_above_trans {a b c : Ent} (h1 : a.kb = b.kb) (h2 : b.kb = c.kb) (hab : a.above b = false) (hbc : b.above c = false) : a.above c = false := by
  cases hac : a.above c
  · rfl
  · rcases above_or h1 hab with rfl | h
    · rw [hbc] at hac; cases hac
    · rw [above_trans h hac] at hbc; cases hbc
/-- Entries that leave the same: they hold for each of the others one that is not below it. -/
theorem best_dom {l m : List Ent} (hs : ∀ x ∈ l, x ∈ m) (hd : ∀ y ∈ m, y.check = 0 → ∃ x ∈ l, x.check = 0 ∧ x.kb = y.kb ∧ y.above x = false) (x : Ent) : Best l x ↔ Best m x := by
  constructor
  · rintro ⟨h1, h2, h3⟩
    refine ⟨hs x h1, h2, fun y hy hc hk => ?_⟩
    obtain ⟨z, hz, hzc, hzk, hyz⟩ := hd y hy hc
    exact not_above_trans hzk.symm (hzk.trans hk) hyz (h3 z hz hzc (hzk.trans hk))
  · rintro ⟨h1, h2, h3⟩
    obtain ⟨z, hz, hzc, hzk, hxz⟩ := hd x h1 h2
    have := above_total (kb_key.1 hzk) (h3 z (hs z hz) hzc hzk) hxz
    subst this
    exact ⟨hz, h2, fun y hy hc hk => h3 y (hs y hy) hc hk⟩
theorem isOf_dom {l m L : List Ent} (h : IsOf l L) (hb : ∀ x, Best l x ↔ Best m x) : IsOf m L := ⟨h.1, fun x => by rw [h.2, hb]⟩
theorem isOf_cmerge {S m : List Ent} (hS : S.length ≤ 256) : ∀ {l L : List Ent}, (∀ x ∈ l, x ∈ S) → (∀ x ∈ m, x ∈ S) → IsOf l L → ∀ n, IsOf (l ++ m) (m.foldl (fun s e => ((cstep s.1 e).1, if (cstep s.1 e).2.1 then s.2 + 1 else s.2)) (L, n)).1 := by
  induction m with
  | nil => intro l L _ _ h n; simpa using h
  | cons e t ih =>
    intro l L hl hm h n
    rw [List.foldl_cons]
    have h1 := isOf_step (e := e) h (fun hg hc => by
      have hnd : (e :: L).Nodup := List.nodup_cons.2 ⟨fun hm => cget_none.1 hg e hm rfl, srt_nodup h.1⟩
      have := List.Nodup.length_le_of_subset hnd (l₂ := S) (fun x hx => by
        rcases List.mem_cons.1 hx with rfl | hx
        · exact hm x (by simp)
        · exact hl x ((h.2 x).1 hx).1)
      simp only [List.length_cons] at this
      omega)
    have := ih (l := l ++ [e]) (fun x hx => by
      rcases List.mem_append.1 hx with hx | hx
      · exact hl x hx
      · simp at hx; subst hx; exact hm x (by simp)) (fun x hx => hm x (by simp [hx])) h1 (if (cstep L e).2.1 then n + 1 else n)
    simpa using this
/-- What is left behind a merge. -/
theorem isOf_merge {S l m L : List Ent} (hS : S.length ≤ 256) (hl : ∀ x ∈ l, x ∈ S) (hm : ∀ x ∈ m, x ∈ S) (h : IsOf l L) : IsOf (l ++ m) (cmerge L m).1 := isOf_cmerge hS hl hm h 0
theorem isOf_of {S l : List Ent} (hS : S.length ≤ 256) (hl : ∀ x ∈ l, x ∈ S) : IsOf l (cmerge [] l).1 := by
  have := isOf_merge (m := l) hS (by simp) hl isOf_nil
  simpa using this
theorem isOf_sub {l L : List Ent} (h : IsOf l L) : ∀ x ∈ L, x ∈ l := fun x hx => ((h.2 x).1 hx).1
theorem isOf_ok {l L : List Ent} (h : IsOf l L) : ∀ x ∈ L, x.check = 0 := fun x hx => ((h.2 x).1 hx).2.1
theorem isOf_has {l L : List Ent} (h : IsOf l L) {y : Ent} (hy : y ∈ l) (hc : y.check = 0) : ∃ x ∈ L, x.check = 0 ∧ x.kb = y.kb ∧ y.above x = false := by
  obtain ⟨x, hx, hk⟩ := best_some ⟨y, hy, hc, rfl⟩
  exact ⟨x, (h.2 x).2 hx, hx.2.1, hk, hx.2.2 y hy hc hk.symm⟩
/-- Merging what is left of entries is merging them. -/
theorem best_left {a b L : List Ent} (h : IsOf b L) (x : Ent) : Best (a ++ L) x ↔ Best (a ++ b) x :=
  best_dom (fun x hx => by
    rcases List.mem_append.1 hx with hx | hx
    · simp [hx]
    · simp [isOf_sub h x hx]) (fun y hy hc => by
    rcases List.mem_append.1 hy with hy | hy
    · exact ⟨y, by simp [hy], hc, rfl, above_irrefl y⟩
    · obtain ⟨x, hx, h1, h2, h3⟩ := isOf_has h hy hc
      exact ⟨x, by simp [hx], h1, h2, h3⟩) x
/-- Nothing new. -/
theorem cmerge_old {l L : List Ent} (h : IsOf l L) (m : List Ent) (hm : ∀ x ∈ m, x ∈ l) : cmerge L m = (L, 0) := by
  have hst : ∀ e ∈ l, cstep L e = (L, false, e.check) := fun e he => by
    unfold cstep
    by_cases hc : e.check = 0
    · rw [if_neg (by simpa using hc)]
      obtain ⟨x, hx, hxc, hk, ha⟩ := isOf_has h he hc
      rw [(cget_iff h.1).2 ⟨hx, hk⟩]
      simp [ha, hc]
    · rw [if_pos hc]
  unfold cmerge
  induction m with
  | nil => rfl
  | cons e t ih =>
    rw [List.foldl_cons, hst e (hm e (by simp))]
    exact ih (fun x hx => hm x (by simp [hx]))
/-- All of them are new. -/
theorem cmerge_new {S l : List Ent} (hS : S.length ≤ 256) : ∀ (m : List Ent) {L : List Ent}, (∀ x ∈ L, x ∈ S) → (∀ x ∈ m, x ∈ S) → Srt L → (m.Pairwise fun a b => a.kb ≠ b.kb) → (∀ e ∈ m, e.check = 0) → (∀ e ∈ m, lacks L e = true) → ∀ n : Nat, (m.foldl (fun s e => ((cstep s.1 e).1, if (cstep s.1 e).2.1 then s.2 + 1 else s.2)) (L, n)).2 = n + m.length := by
  intro m
  induction m with
  | nil => intro L _ _ _ _ _ _ n; rfl
  | cons e t ih =>
    intro L hLS hmS hs hp hc hl n
    have hp := List.pairwise_cons.1 hp
    have hst : cstep L e = (cput e L, true, 0) := by
      unfold cstep
      rw [if_neg (by simpa using hc e (by simp))]
      have h1 := hl e (by simp)
      unfold lacks at h1
      cases hg : cget e.kb L with
      | some old =>
        rw [hg] at h1
        simp only at h1 ⊢
        rw [if_pos h1]
      | none =>
        have hnd : (e :: L).Nodup := List.nodup_cons.2 ⟨fun hm => cget_none.1 hg e hm rfl, srt_nodup hs⟩
        have := List.Nodup.length_le_of_subset hnd (l₂ := S) (fun x hx => by
          rcases List.mem_cons.1 hx with rfl | hx
          · exact hmS x (by simp)
          · exact hLS x hx)
        simp only [List.length_cons] at this
        simp only
        rw [if_neg (by omega)]
    rw [List.foldl_cons, hst]
    simp only [if_true]
    rw [ih (L := cput e L) (fun x hx => by
        rcases cput_mem.1 hx with rfl | ⟨hx, _⟩
        · exact hmS x (by simp)
        · exact hLS x hx) (fun x hx => hmS x (by simp [hx])) (cput_srt hs) hp.2 (fun x hx => hc x (by simp [hx])) (fun x hx => ?_) (n + 1)]
    · simp only [List.length_cons]; omega
    · have h1 := hl x (by simp [hx])
      have hne := hp.1 x hx
      unfold lacks at h1 ⊢
      have : cget x.kb (cput e L) = cget x.kb L := by
        cases hg : cget x.kb L with
        | some y =>
          obtain ⟨hy, hk⟩ := cget_some hg
          exact (cget_iff (cput_srt hs)).2 ⟨cput_mem.2 (.inr ⟨hy, fun e1 => hne (by rw [← e1, hk])⟩), hk⟩
        | none =>
          rw [cget_none]
          intro y hy hk
          rcases cput_mem.1 hy with rfl | ⟨hy, _⟩
          · exact hne hk
          · exact cget_none.1 hg y hy hk
      rw [this]
      exact h1
theorem cmerge_all {S L m : List Ent} (hS : S.length ≤ 256) (hL : ∀ x ∈ L, x ∈ S) (hm : ∀ x ∈ m, x ∈ S) (hs : Srt L) (hp : Srt m) (hc : ∀ e ∈ m, e.check = 0) (hl : ∀ e ∈ m, lacks L e = true) : (cmerge L m).2 = m.length := by
  have := cmerge_new (l := []) hS m hL hm hs (hp.imp fun {a b} h => before_ne h) hc hl 0
  rw [Nat.zero_add] at this
  exact this
/-- Of entries the best one of each key, whatever it is. -/
theorem dbest_is (l : List Ent) : Srt (dbest l) ∧ (∀ x ∈ dbest l, x ∈ l ∧ ∀ y ∈ l, y.kb = x.kb → y.above x = false) ∧ ∀ y ∈ l, ∃ x ∈ dbest l, x.kb = y.kb := by
  suffices h : ∀ k, k ≤ l.length → Srt (dbest (l.take k)) ∧ (∀ x ∈ dbest (l.take k), x ∈ l.take k ∧ ∀ y ∈ l.take k, y.kb = x.kb → y.above x = false) ∧ ∀ y ∈ l.take k, ∃ x ∈ dbest (l.take k), x.kb = y.kb by
    have := h l.length (Nat.le_refl _)
    rwa [List.take_of_length_le (Nat.le_refl _)] at this
  intro k
  induction k with
  | zero => intro _; simp [dbest, Srt]
  | succ k ih =>
    intro hk
    obtain ⟨h1, h2, h3⟩ := ih (by omega)
    obtain ⟨e, he⟩ : ∃ e, l[k]? = some e := ⟨_, List.getElem?_eq_getElem (by omega)⟩
    rw [List.take_add_one, he, Option.toList_some, dbest_snoc]
    obtain ⟨D, hD⟩ : ∃ D, dbest (l.take k) = D := ⟨_, rfl⟩
    obtain ⟨t, ht⟩ : ∃ t, l.take k = t := ⟨_, rfl⟩
    rw [hD] at h1 h2 h3 ⊢
    rw [ht] at h2 h3 ⊢
    clear hD ht he hk ih
    refine ⟨dstep_srt h1, ?_, ?_⟩
    · have hput : (∀ y ∈ t, y.kb = e.kb → y.above e = false) → ∀ x ∈ cput e D, x ∈ t ++ [e] ∧ ∀ y ∈ t ++ [e], y.kb = x.kb → y.above x = false := fun hb x hx => by
        rcases cput_mem.1 hx with rfl | ⟨hx, hne⟩
        · refine ⟨by simp, fun y hy hk => ?_⟩
          rcases List.mem_append.1 hy with hy | hy
          · exact hb y hy hk
          · simp at hy; subst hy; exact above_irrefl y
        · obtain ⟨a1, a2⟩ := h2 x hx
          refine ⟨by simp [a1], fun y hy hk => ?_⟩
          rcases List.mem_append.1 hy with hy | hy
          · exact a2 y hy hk
          · simp at hy; subst hy; exact absurd hk.symm hne
      unfold dstep
      cases hg : cget e.kb D with
      | none =>
        exact hput (fun y hy hk => by
          obtain ⟨x, hx, hxk⟩ := h3 y hy
          exact absurd (hxk.trans hk) (cget_none.1 hg x hx))
      | some old =>
        obtain ⟨ho, hok⟩ := cget_some hg
        obtain ⟨o1, o2⟩ := h2 old ho
        simp only
        by_cases ha : e.above old = true
        · rw [if_pos ha]
          exact hput (fun y hy hk => by
            cases hy2 : y.above e
            · rfl
            · have := above_trans hy2 ha
              rw [o2 y hy (hk.trans hok.symm)] at this
              cases this)
        · rw [if_neg ha]
          intro x hx
          obtain ⟨a1, a2⟩ := h2 x hx
          refine ⟨by simp [a1], fun y hy hk => ?_⟩
          rcases List.mem_append.1 hy with hy | hy
          · exact a2 y hy hk
          · simp at hy
            subst hy
            have := srt_key h1 ho hx (hok.trans hk)
            subst this
            simpa using ha
    · intro y hy
      have hkeep : ∀ x ∈ D, x.kb ≠ e.kb → x ∈ dstep D e := fun x hx hne => by
        unfold dstep
        split
        · split
          · exact cput_mem.2 (.inr ⟨hx, hne⟩)
          · exact hx
        · exact cput_mem.2 (.inr ⟨hx, hne⟩)
      have he : ∃ x ∈ dstep D e, x.kb = e.kb := by
        unfold dstep
        cases hg : cget e.kb D with
        | none => exact ⟨e, cput_mem.2 (.inl rfl), rfl⟩
        | some old =>
          obtain ⟨ho, hok⟩ := cget_some hg
          simp only
          split
          · exact ⟨e, cput_mem.2 (.inl rfl), rfl⟩
          · exact ⟨old, ho, hok⟩
      by_cases hye : y.kb = e.kb
      · rw [hye]; exact he
      · rcases List.mem_append.1 hy with hy | hy
        · obtain ⟨x, hx, hxk⟩ := h3 y hy
          exact ⟨x, hkeep x hx (by rw [hxk]; exact hye), hxk⟩
        · simp at hy; subst hy; exact absurd rfl hye
/-- What others lack: it is above all of them. -/
theorem lacks_iff (l : List Ent) (x : Ent) : lacks (dbest l) x = true ↔ ∀ y ∈ l, y.kb = x.kb → x.above y = true := by
  obtain ⟨h1, h2, h3⟩ := dbest_is l
  unfold lacks
  cases hg : cget x.kb (dbest l) with
  | none =>
    refine ⟨fun _ y hy hk => ?_, fun _ => rfl⟩
    obtain ⟨z, hz, hzk⟩ := h3 y hy
    exact absurd (hzk.trans hk) (cget_none.1 hg z hz)
  | some old =>
    obtain ⟨ho, hok⟩ := cget_some hg
    obtain ⟨o1, o2⟩ := h2 old ho
    simp only
    constructor
    · intro ha y hy hk
      rcases above_or (hk.trans hok.symm) (o2 y hy (hk.trans hok.symm)) with e | h
      · rw [e]; exact ha
      · exact above_trans ha h
    · intro h
      exact h old o1 hok
theorem lacks_srt {L : List Ent} (h : Srt L) (x : Ent) : lacks (dbest L) x = lacks L x := by
  have : (∀ y ∈ L, y.kb = x.kb → x.above y = true) ↔ lacks L x = true := by
    unfold lacks
    cases hg : cget x.kb L with
    | none => exact ⟨fun _ => rfl, fun _ y hy hk => absurd hk (cget_none.1 hg y hy)⟩
    | some old =>
      obtain ⟨ho, hok⟩ := cget_some hg
      simp only
      refine ⟨fun hh => hh old ho hok, fun ha y hy hk => ?_⟩
      rw [srt_key h hy ho (hk.trans hok.symm)]
      exact ha
  have h2 := lacks_iff L x
  rw [this] at h2
  cases h3 : lacks (dbest L) x <;> cases h4 : lacks L x <;> simp_all
end Go.Proofs.Ytdclkbhkboaafaa
