/- Package entry: the order of entries (plain), '==' on entries, and what the reference says of two. -/
import Derived.Test.YtdclkbhkboaafaaEntBZ
import Derived.Laws.StructEq
import Derived.Test.YtdclkbhkboaafaaEntQZ
namespace Go.Proofs.Ytdclkbhkboaafaa
open Go.RowKit Go.Lib
set_option linter.unusedVariables false
attribute [local go_sem ↓] Go.wp_at_zero Go.wp_at_succ

theorem bytesLess_cmp (x y : List UInt8) : Op.bytesLess x y = decide (compareBytes x y < 0) := by
  induction x generalizing y with
  | nil => cases y <;> simp [Op.bytesLess, compareBytes]
  | cons a x ih =>
    cases y with
    | nil => simp [Op.bytesLess, compareBytes]
    | cons b y =>
      simp only [Op.bytesLess, compareBytes, ih]
      by_cases h1 : a < b
      · simp [h1]
      · by_cases h2 : b < a
        · have : ¬ a = b := by rintro rfl; exact h1 h2
          simp [h2, this, h1]
        · have : a = b := UInt8.le_antisymm (UInt8.not_lt.1 h2) (UInt8.not_lt.1 h1)
          simp [this]
theorem cmpBytes_zero {x y : List UInt8} : compareBytes x y = 0 ↔ x = y := by
  induction x generalizing y with
  | nil => cases y <;> simp [compareBytes]
  | cons a x ih =>
    cases y with
    | nil => simp [compareBytes]
    | cons b y =>
      simp only [compareBytes]
      by_cases h1 : a < b
      · rw [if_pos h1]
        simp only [List.cons.injEq]
        refine ⟨fun h => absurd h (by decide), fun h => ?_⟩
        rw [h.1] at h1
        exact absurd h1 (UInt8.lt_irrefl b)
      · rw [if_neg h1]
        by_cases h2 : b < a
        · rw [if_pos h2]
          simp only [List.cons.injEq]
          refine ⟨fun h => absurd h (by decide), fun h => ?_⟩
          rw [h.1] at h2
          exact absurd h2 (UInt8.lt_irrefl b)
        · rw [if_neg h2, ih]
          have : a = b := UInt8.le_antisymm (UInt8.not_lt.1 h2) (UInt8.not_lt.1 h1)
          simp [this]
theorem cmpBytes_anti (x y : List UInt8) : compareBytes y x = - compareBytes x y := by
  induction x generalizing y with
  | nil => cases y <;> simp [compareBytes]
  | cons a x ih =>
    cases y with
    | nil => simp [compareBytes]
    | cons b y =>
      simp only [compareBytes]
      by_cases h1 : a < b
      · have : ¬ b < a := fun h => UInt8.lt_asymm h1 h
        simp [h1, this]
      · by_cases h2 : b < a
        · simp [h1, h2]
        · simp [h1, h2, ih]
theorem cmpBytes_trans {x y z : List UInt8} (h1 : 0 < compareBytes x y) (h2 : 0 < compareBytes y z) : 0 < compareBytes x z := by
  induction x generalizing y z with
  | nil => cases y <;> simp [compareBytes] at h1
  | cons a x ih =>
    cases y with
    | nil => cases z <;> simp [compareBytes] at h2
    | cons b y =>
      cases z with
      | nil => simp [compareBytes]
      | cons c z =>
        simp only [compareBytes] at h1 h2 ⊢
        by_cases a1 : a < b
        · rw [if_pos a1] at h1; exact absurd h1 (by decide)
        · by_cases b1 : b < c
          · rw [if_pos b1] at h2; exact absurd h2 (by decide)
          · have hac : ¬ a < c := by rw [UInt8.not_lt] at *; exact UInt8.le_trans b1 a1
            rw [if_neg hac]
            by_cases c1 : c < a
            · rw [if_pos c1]; decide
            · rw [if_neg c1]
              rw [UInt8.not_lt] at *
              have e1 : a = b := UInt8.le_antisymm (UInt8.le_trans c1 b1) a1
              have e2 : b = c := UInt8.le_antisymm (UInt8.le_trans a1 c1) b1
              subst e1
              subst e2
              simp only [UInt8.lt_irrefl, if_false] at h1 h2
              exact ih h1 h2
theorem cmpInt_pos {x y : Int} : 0 < compareInt x y ↔ y < x := by unfold compareInt; split; omega; split <;> omega
theorem cmpInt_zero {x y : Int} : compareInt x y = 0 ↔ x = y := by unfold compareInt; split; omega; split <;> omega
theorem cmpInt_anti (x y : Int) : compareInt y x = - compareInt x y := by unfold compareInt; split <;> split <;> (try split) <;> omega

theorem orL4_pos (c1 c2 c3 c4 : Int) : 0 < orL [c1, c2, c3, c4] ↔ 0 < c1 ∨ (c1 = 0 ∧ (0 < c2 ∨ (c2 = 0 ∧ (0 < c3 ∨ (c3 = 0 ∧ 0 < c4))))) := by
  simp only [orL]
  by_cases h1 : c1 = 0
  · by_cases h2 : c2 = 0
    · by_cases h3 : c3 = 0
      · by_cases h4 : c4 = 0 <;> simp [h1, h2, h3, h4]
      · simp [h1, h2, h3]
    · simp [h1, h2]
  · simp [h1]
theorem above_iff (a b : Ent) : a.above b = true ↔ b.time < a.time ∨ (a.time = b.time ∧ (b.org < a.org ∨ (a.org = b.org ∧ (0 < compareBytes a.val.data.toList b.val.data.toList ∨ (a.val.data.toList = b.val.data.toList ∧ b.til < a.til))))) := by
  unfold Ent.above Ent.cmp
  rw [decide_eq_true_iff, orL4_pos, cmpInt_pos, cmpInt_zero, cmpInt_pos, cmpInt_zero, cmpBytes_zero, cmpInt_pos]
theorem above_irrefl (a : Ent) : a.above a = false := by
  cases h : a.above a with
  | false => rfl
  | true =>
    rw [above_iff] at h
    have : compareBytes a.val.data.toList a.val.data.toList = 0 := cmpBytes_zero.2 rfl
    omega
theorem above_anti {a b : Ent} (h : a.above b = true) : b.above a = false := by
  cases k : b.above a with
  | false => rfl
  | true =>
    rw [above_iff] at h k
    have := cmpBytes_anti a.val.data.toList b.val.data.toList
    have z : a.val.data.toList = b.val.data.toList → compareBytes a.val.data.toList b.val.data.toList = 0 := fun e => cmpBytes_zero.2 e
    rcases h with h | ⟨h1, h | ⟨h2, h | ⟨h3, h⟩⟩⟩ <;> rcases k with k | ⟨k1, k | ⟨k2, k | ⟨k3, k⟩⟩⟩ <;> (try omega)
    · have := z k3.symm; omega
    · have := z h3; omega
theorem above_trans {a b c : Ent} (h : a.above b = true) (k : b.above c = true) : a.above c = true := by
  rw [above_iff] at h k ⊢
  rcases h with h | ⟨h1, h | ⟨h2, h | ⟨h3, h⟩⟩⟩ <;> rcases k with k | ⟨k1, k | ⟨k2, k | ⟨k3, k⟩⟩⟩
  all_goals first
    | exact .inl (by omega)
    | exact .inr ⟨by omega, .inl (by omega)⟩
    | exact .inr ⟨by omega, .inr ⟨by omega, .inl (cmpBytes_trans h k)⟩⟩
    | exact .inr ⟨by omega, .inr ⟨by omega, .inl (by rw [← k3]; exact h)⟩⟩
    | exact .inr ⟨by omega, .inr ⟨by omega, .inl (by rw [h3]; exact k)⟩⟩
    | exact .inr ⟨by omega, .inr ⟨by omega, .inr ⟨h3.trans k3, by omega⟩⟩⟩
/-- Of two unlike entries of one key one is above. -/
theorem above_total {a b : Ent} (hk : a.key = b.key) (h : a.above b = false) (k : b.above a = false) : a = b := by
  have h' : ¬ a.above b = true := by rw [h]; decide
  have k' : ¬ b.above a = true := by rw [k]; decide
  rw [above_iff] at h' k'
  have e1 : a.time = b.time := by
    rcases Int.lt_trichotomy a.time b.time with e | e | e
    · exact absurd (.inl e) k'
    · exact e
    · exact absurd (.inl e) h'
  have e2 : a.org = b.org := by
    rcases Int.lt_trichotomy a.org b.org with e | e | e
    · exact absurd (.inr ⟨e1.symm, .inl e⟩) k'
    · exact e
    · exact absurd (.inr ⟨e1, .inl e⟩) h'
  have e3 : a.val.data.toList = b.val.data.toList := by
    apply cmpBytes_zero.1
    have := cmpBytes_anti a.val.data.toList b.val.data.toList
    rcases Int.lt_trichotomy (compareBytes a.val.data.toList b.val.data.toList) 0 with e | e | e
    · exact absurd (.inr ⟨e1.symm, .inr ⟨e2.symm, .inl (by omega)⟩⟩) k'
    · exact e
    · exact absurd (.inr ⟨e1, .inr ⟨e2, .inl e⟩⟩) h'
  have e4 : a.til = b.til := by
    rcases Int.lt_trichotomy a.til b.til with e | e | e
    · exact absurd (.inr ⟨e1.symm, .inr ⟨e2.symm, .inr ⟨e3.symm, e⟩⟩⟩) k'
    · exact e
    · exact absurd (.inr ⟨e1, .inr ⟨e2, .inr ⟨e3, e⟩⟩⟩) h'
  cases a
  cases b
  simp only [Ent.mk.injEq]
  exact ⟨hk, e1, e2, ba_inj e3, e4⟩
end Go.Proofs.Ytdclkbhkboaafaa
