/- Numerals: what a number is laid as, and which bytes are a number (plain; no program). -/
import Derived.Lib.ItoaLen
import Derived.Lib.AtoiAll
namespace Go.Proofs.YtokgignmdgejoaaDoor
open Go.Lib

theorem ofNat_toNat_dig {d : Nat} (h : d < 10) : (UInt8.ofNat (48 + d)).toNat = 48 + d := by
  rw [UInt8.toNat_ofNat']; omega

theorem dec_digits (u : Nat) : ∀ c ∈ decDigits u, 48 ≤ c.toNat ∧ c.toNat ≤ 57 := by
  induction u using Nat.strongRecOn with
  | _ u ih =>
    rw [decDigits]
    split
    · intro c hc
      simp only [List.mem_singleton] at hc
      subst hc
      rw [ofNat_toNat_dig (by omega)]
      omega
    · intro c hc
      rcases List.mem_append.1 hc with h | h
      · exact ih (u / 10) (by omega) c h
      · simp only [List.mem_singleton] at h
        subst h
        rw [ofNat_toNat_dig (by omega)]
        omega

theorem dec_ne (u : Nat) : decDigits u ≠ [] := by
  intro h
  have := decDigits_length u
  rw [h] at this
  have := nDigits_pos u
  simp at *
  omega

theorem parse_append (l r : List UInt8) (acc v : Nat) (h : parseUint10 acc l = .ok v) : parseUint10 acc (l ++ r) = parseUint10 v r := by
  induction l generalizing acc with
  | nil => simp only [parseUint10] at h; injection h with h; subst h; rfl
  | cons c l ih =>
    simp only [parseUint10, List.cons_append] at h ⊢
    split at h
    · split at h
      · cases h
      · split at h
        · cases h
        · rename_i h1 h2 h3
          rw [if_pos h1, if_neg h2, if_neg h3]
          exact ih _ h
    · cases h

theorem parse_dec (u : Nat) (hu : u < 18446744073709551616) : parseUint10 0 (decDigits u) = .ok u := by
  induction u using Nat.strongRecOn with
  | _ u ih =>
    rw [decDigits]
    split
    · simp only [parseUint10]
      rw [ofNat_toNat_dig (by omega), if_pos (by omega), if_neg (by omega), if_neg (by omega)]
      congr 1
      omega
    · rw [parse_append _ _ _ _ (ih (u / 10) (by omega) (by omega))]
      simp only [parseUint10]
      rw [ofNat_toNat_dig (by omega), if_pos (by omega), if_neg (by omega), if_neg (by omega)]
      congr 1
      omega

theorem atoi_itoa (n : Int) (h0 : -9223372036854775808 ≤ n) (h1 : n ≤ 9223372036854775807) : atoiAll (itoa n) = .ok n := by
  unfold itoa
  by_cases hn : n < 0
  · rw [if_pos hn]
    simp only [atoiAll]
    have e45 : (45 : UInt8).toNat = 45 := rfl
    rw [e45, if_pos (Or.inr rfl)]
    unfold parseMag
    rw [if_neg (dec_ne _), parse_dec _ (by omega)]
    have g : ¬ 9223372036854775808 < n.natAbs := by omega
    simp only [not_true_eq_false, false_and, if_false, true_and, if_true, g]
    congr 1
    omega
  · rw [if_neg hn]
    have hd := dec_digits n.toNat
    have hp := parse_dec n.toNat (by omega)
    have hne := dec_ne n.toNat
    generalize decDigits n.toNat = l at *
    cases l with
    | nil => exact absurd rfl hne
    | cons c r =>
      have hc := hd c (by simp)
      have n43 : ¬ (c.toNat = 43 ∨ c.toNat = 45) := by omega
      have n45 : ¬ c.toNat = 45 := by omega
      simp only [atoiAll]
      rw [if_neg n43]
      unfold parseMag
      rw [if_neg (by simp), hp]
      simp only []
      rw [if_neg (by omega), if_neg (by omega), if_neg n45]
      congr 1
      omega

theorem itoa_inj {n m : Int} (h0 : -9223372036854775808 ≤ n) (h1 : n ≤ 9223372036854775807) (k0 : -9223372036854775808 ≤ m) (k1 : m ≤ 9223372036854775807) (h : itoa n = itoa m) : n = m := by
  have a := atoi_itoa n h0 h1
  rw [h, atoi_itoa m k0 k1] at a
  injection a with a
  exact a.symm

/-- The number whose digits these are, if there is one. -/
def num (s : List UInt8) : Option Int := match atoiAll s with
  | .ok n => if itoa n = s then some n else none
  | _ => none

theorem atoi_range {s : List UInt8} {n : Int} (h : atoiAll s = .ok n) : -9223372036854775808 ≤ n ∧ n ≤ 9223372036854775807 := by
  cases s with
  | nil => cases h
  | cons c r =>
    simp only [atoiAll] at h
    split at h
    · cases h
    · cases h
    · rename_i u hu
      split at h
      · cases h
      · split at h
        · cases h
        · injection h with h
          split at h <;> omega

theorem num_some {s : List UInt8} {n : Int} : num s = some n ↔ (-9223372036854775808 ≤ n ∧ n ≤ 9223372036854775807 ∧ itoa n = s) := by
  unfold num
  constructor
  · intro h
    split at h
    · rename_i m hm
      split at h
      · injection h with h
        subst h
        have := atoi_range hm
        exact ⟨this.1, this.2, by assumption⟩
      · cases h
    · cases h
  · rintro ⟨h0, h1, rfl⟩
    rw [atoi_itoa n h0 h1]
    simp

theorem num_itoa (n : Int) (h0 : -9223372036854775808 ≤ n) (h1 : n ≤ 9223372036854775807) : num (itoa n) = some n := num_some.2 ⟨h0, h1, rfl⟩
theorem num_none {s : List UInt8} : num s = none ↔ ∀ n : Int, -9223372036854775808 ≤ n → n ≤ 9223372036854775807 → itoa n ≠ s := by
  constructor
  · intro h n h0 h1 he
    rw [← he, num_itoa n h0 h1] at h
    cases h
  · intro h
    cases hn : num s with
    | none => rfl
    | some n =>
      obtain ⟨h0, h1, he⟩ := num_some.1 hn
      exact absurd he (h n h0 h1)

theorem itoa_bytes (n : Int) : ∀ c ∈ itoa n, c.toNat = 45 ∨ (48 ≤ c.toNat ∧ c.toNat ≤ 57) := by
  unfold itoa
  split
  · intro c hc
    rcases List.mem_cons.1 hc with h | h
    · left; subst h; rfl
    · exact .inr (dec_digits _ c h)
  · intro c hc
    exact .inr (dec_digits _ c hc)

theorem itoa_ne (n : Int) : itoa n ≠ [] := by
  unfold itoa
  split
  · simp
  · exact dec_ne _

/-- A number whose first digit is one is not below 0. -/
theorem num_nonneg {c : UInt8} {r : List UInt8} {n : Int} (h : num (c :: r) = some n) (hc : 48 ≤ c.toNat) : 0 ≤ n := by
  obtain ⟨_, _, he⟩ := num_some.1 h
  by_cases hn : n < 0
  · unfold itoa at he
    rw [if_pos hn] at he
    injection he with h1 _
    subst h1
    exact absurd hc (by decide)
  · omega
end Go.Proofs.YtokgignmdgejoaaDoor
