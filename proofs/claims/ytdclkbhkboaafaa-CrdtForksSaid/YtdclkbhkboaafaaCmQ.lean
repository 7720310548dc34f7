/- Maps of entries, in plain Lean: what is left of entries that came. -/
import Derived.Test.YtdclkbhkboaafaaCmP
import Derived.Test.YtdclkbhkboaafaaEntDZ
namespace Go.Proofs.Ytdclkbhkboaafaa
open Go.RowKit Go.Lib
set_option linter.unusedVariables false

/-- An entry is told: the map, whether it was taken, the error. -/
def cstep (L : List Ent) (e : Ent) : List Ent × Bool × Int :=
  if e.check ≠ 0 then (L, false, e.check) else
    match cget e.kb L with
    | some old => if e.above old then (cput e L, true, 0) else (L, false, 0)
    | none => if 256 ≤ L.length then (L, false, 11) else (cput e L, true, 0)
theorem cstep_or (L : List Ent) (e : Ent) : ((cstep L e).1 = L ∧ (cstep L e).2.1 = false) ∨ ((cstep L e).1 = cput e L ∧ (cstep L e).2.1 = true ∧ e.check = 0) := by
  unfold cstep
  split
  · exact .inl ⟨rfl, rfl⟩
  · rename_i h
    have h : e.check = 0 := by omega
    split
    · split
      · exact .inr ⟨rfl, rfl, h⟩
      · exact .inl ⟨rfl, rfl⟩
    · split
      · exact .inl ⟨rfl, rfl⟩
      · exact .inr ⟨rfl, rfl, h⟩
theorem cstep_srt {L : List Ent} {e : Ent} (h : Srt L) : Srt (cstep L e).1 := by
  rcases cstep_or L e with ⟨h1, _⟩ | ⟨h1, _⟩
  · rw [h1]; exact h
  · rw [h1]; exact cput_srt h
/-- The entry that counts of all that came with its key. -/
def Best (l : List Ent) (x : Ent) : Prop := x ∈ l ∧ x.check = 0 ∧ ∀ y ∈ l, y.check = 0 → y.kb = x.kb → y.above x = false
theorem best_set {l m : List Ent} (h : ∀ x, x ∈ l ↔ x ∈ m) (x : Ent) : Best l x ↔ Best m x :=
  ⟨fun ⟨a, b, c⟩ => ⟨(h x).1 a, b, fun y hy => c y ((h y).2 hy)⟩, fun ⟨a, b, c⟩ => ⟨(h x).2 a, b, fun y hy => c y ((h y).1 hy)⟩⟩
theorem best_some {l : List Ent} {k : List UInt8} (h : ∃ y ∈ l, y.check = 0 ∧ y.kb = k) : ∃ x, Best l x ∧ x.kb = k := by
  induction l with
  | nil => obtain ⟨y, hy, _⟩ := h; cases hy
  | cons a r ih =>
    by_cases hr : ∃ y ∈ r, y.check = 0 ∧ y.kb = k
    · obtain ⟨x, ⟨h1, h2, h3⟩, hk⟩ := ih hr
      by_cases ha : a.check = 0 ∧ a.kb = k ∧ a.above x = true
      · obtain ⟨a1, a2, a3⟩ := ha
        refine ⟨a, ⟨by simp, a1, fun y hy hc hky => ?_⟩, a2⟩
        rcases List.mem_cons.1 hy with rfl | hy
        · exact above_irrefl y
        · cases hab : y.above a
          · rfl
          · have := above_trans hab a3
            rw [h3 y hy hc (by rw [hky, a2, hk])] at this
            cases this
      · refine ⟨x, ⟨by simp [h1], h2, fun y hy hc hky => ?_⟩, hk⟩
        rcases List.mem_cons.1 hy with rfl | hy
        · cases hab : y.above x
          · rfl
          · exact absurd ⟨hc, hky.trans hk, hab⟩ ha
        · exact h3 y hy hc hky
    · obtain ⟨y, hy, hc, hk⟩ := h
      rcases List.mem_cons.1 hy with rfl | hy
      · refine ⟨y, ⟨by simp, hc, fun z hz hzc hzk => ?_⟩, hk⟩
        rcases List.mem_cons.1 hz with rfl | hz
        · exact above_irrefl z
        · exact absurd ⟨z, hz, hzc, hzk.trans hk⟩ hr
      · exact absurd ⟨y, hy, hc, hk⟩ hr
theorem best_key {l : List Ent} {x y : Ent} (hx : Best l x) (hy : Best l y) (hk : x.kb = y.kb) : x = y :=
  above_total (kb_key.1 hk) (hy.2.2 x hx.1 hx.2.1 hk) (hx.2.2 y hy.1 hy.2.1 hk.symm)
/-- The map L is what is left of the entries l. -/
def IsOf (l L : List Ent) : Prop := Srt L ∧ ∀ x, x ∈ L ↔ Best l x
theorem isOf_nil : IsOf [] [] := by
  refine ⟨List.Pairwise.nil, fun x => ⟨fun h => ?_, fun h => ?_⟩⟩
  · cases h
  · cases h.1
theorem isOf_one {l m L M : List Ent} (h : IsOf l L) (k : IsOf m M) (hs : ∀ x, x ∈ l ↔ x ∈ m) : L = M :=
  srt_ext h.1 k.1 (fun x => by rw [h.2, k.2]; exact best_set hs x)
theorem isOf_get {l L : List Ent} (h : IsOf l L) (k : List UInt8) (x : Ent) : cget k L = some x ↔ Best l x ∧ x.kb = k := by rw [cget_iff h.1, h.2]
theorem isOf_step {l L : List Ent} {e : Ent} (h : IsOf l L) (hroom : cget e.kb L = none → e.check = 0 → L.length < 256) : IsOf (l ++ [e]) (cstep L e).1 := by
  refine ⟨cstep_srt h.1, fun x => ?_⟩
  have hb : Best (l ++ [e]) x ↔ (Best l x ∧ (e.check = 0 → e.kb = x.kb → e.above x = false)) ∨ (x = e ∧ e.check = 0 ∧ ∀ y ∈ l, y.check = 0 → y.kb = e.kb → y.above e = false) := by
    constructor
    · rintro ⟨h1, h2, h3⟩
      rcases List.mem_append.1 h1 with h1 | h1
      · exact .inl ⟨⟨h1, h2, fun y hy => h3 y (by simp [hy])⟩, h3 e (by simp)⟩
      · simp at h1
        subst h1
        exact .inr ⟨rfl, h2, fun y hy => h3 y (by simp [hy])⟩
    · rintro (⟨⟨h1, h2, h3⟩, h4⟩ | ⟨rfl, h2, h3⟩)
      · refine ⟨by simp [h1], h2, fun y hy hc hk => ?_⟩
        rcases List.mem_append.1 hy with hy | hy
        · exact h3 y hy hc hk
        · simp at hy
          subst hy
          exact h4 hc hk
      · refine ⟨by simp, h2, fun y hy hc hk => ?_⟩
        rcases List.mem_append.1 hy with hy | hy
        · exact h3 y hy hc hk
        · simp at hy
          subst hy
          exact above_irrefl y
  rw [hb]
  unfold cstep
  by_cases hc : e.check = 0
  · rw [if_neg (by simpa using hc)]
    cases hg : cget e.kb L with
    | some old =>
      obtain ⟨ho, hk⟩ := (isOf_get h e.kb old).1 hg
      simp only
      by_cases ha : e.above old = true
      · rw [if_pos ha]
        simp only
        rw [cput_mem, h.2]
        constructor
        · rintro (rfl | ⟨hx, hne⟩)
          · refine .inr ⟨rfl, hc, fun y hy hyc hyk => ?_⟩
            cases hab : y.above x
            · rfl
            · have := above_trans hab ha
              rw [ho.2.2 y hy hyc (hyk.trans hk.symm)] at this
              cases this
          · exact .inl ⟨hx, fun _ he => absurd he.symm hne⟩
        · rintro (⟨hx, hx2⟩ | ⟨rfl, _⟩)
          · by_cases hxk : x.kb = e.kb
            · have := best_key hx ho (hxk.trans hk.symm)
              subst this
              rw [hx2 hc hxk.symm] at ha
              cases ha
            · exact .inr ⟨hx, hxk⟩
          · exact .inl rfl
      · rw [if_neg ha]
        simp only
        have ha : e.above old = false := by simpa using ha
        rw [h.2]
        constructor
        · intro hx
          refine .inl ⟨hx, fun _ hk2 => ?_⟩
          have := best_key hx ho (hk2.symm.trans hk.symm)
          subst this
          exact ha
        · rintro (⟨hx, _⟩ | ⟨rfl, _, h3⟩)
          · exact hx
          · have := above_total (kb_key.1 hk) (h3 old ho.1 ho.2.1 hk) ha
            rw [← this]
            exact ho
    | none =>
      simp only
      rw [if_neg (by have := hroom hg hc; omega)]
      simp only
      rw [cput_mem, h.2]
      have hno : ∀ y ∈ l, y.check = 0 → y.kb ≠ e.kb := fun y hy hyc hyk => by
        obtain ⟨z, hz, hzk⟩ := best_some ⟨y, hy, hyc, hyk⟩
        have := (isOf_get h e.kb z).2 ⟨hz, hzk⟩
        rw [hg] at this
        cases this
      constructor
      · rintro (rfl | ⟨hx, hne⟩)
        · exact .inr ⟨rfl, hc, fun y hy hyc hyk => absurd hyk (hno y hy hyc)⟩
        · exact .inl ⟨hx, fun _ he => absurd he.symm hne⟩
      · rintro (⟨hx, _⟩ | ⟨rfl, _⟩)
        · exact .inr ⟨hx, hno x hx.1 hx.2.1⟩
        · exact .inl rfl
  · rw [if_pos hc]
    simp only
    rw [h.2]
    constructor
    · intro hx
      exact .inl ⟨hx, fun h => absurd h hc⟩
    · rintro (⟨hx, _⟩ | ⟨_, h2, _⟩)
      · exact hx
      · exact absurd h2 hc
end Go.Proofs.Ytdclkbhkboaafaa
