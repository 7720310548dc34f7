/- What is laid, and what a reader reads: plain lists of bytes; laid and read again (no program). -/
import Derived.Test.YtokgignmdgejoaaDoorNum
namespace Go.Proofs.YtokgignmdgejoaaDoor
open Go.Lib
/-- What is laid for a number, a text, a list. -/
def tInt (n : Int) : List UInt8 := 105 :: (itoa n ++ [101])
def tText (s : List UInt8) : List UInt8 := itoa s.length ++ 58 :: s
def tList (ps : List (List UInt8)) : List UInt8 := 108 :: (ps.flatten ++ [101])

theorem nd_le (u k : Nat) (h : u < 10 ^ (k + 1)) : nDigits u ≤ k + 1 := by
  induction k generalizing u with
  | zero => rw [nDigits_small (by simpa using h)]; exact Nat.le_refl _
  | succ k ih =>
    by_cases hu : u < 10
    · rw [nDigits_small hu]; omega
    · rw [nDigits_big hu]
      have : u / 10 < 10 ^ (k + 1) := by
        rw [Nat.div_lt_iff_lt_mul (by omega)]
        rw [Nat.pow_succ] at h
        exact h
      have := ih _ this
      omega

theorem itoa_len20 (n : Int) (h0 : -9223372036854775808 ≤ n) (h1 : n ≤ 9223372036854775807) : (itoa n).length ≤ 20 := by
  unfold itoa
  split
  · rw [List.length_cons, decDigits_length]
    have := nd_le n.natAbs 18 (by omega)
    omega
  · rw [decDigits_length]
    have := nd_le n.toNat 18 (by omega)
    omega
theorem itoa_len10 (n : Nat) (h1 : n ≤ 1000000000) : (itoa n).length ≤ 10 := by
  unfold itoa
  rw [if_neg (by omega), decDigits_length]
  have := nd_le (n : Int).toNat 9 (by omega)
  omega
theorem itoa_pos (n : Int) : 1 ≤ (itoa n).length := by
  have := itoa_ne n
  cases h : itoa n with
  | nil => exact absurd h this
  | cons _ _ => simp

/-- A reader: what is left, and the first error. -/
structure Rd where
  b : List UInt8
  err : Int
namespace Rd
def stop (e : Int) : Rd := ⟨[], e⟩
def at? (b : List UInt8) (c : UInt8) (long : Nat) : Option Nat := (b.take (long + 1)).findIdx? (· == c)
def till (b : List UInt8) (c : UInt8) (long : Nat) : Rd × Int × Bool :=
  match at? b c long with
  | none => (stop (if long < b.length then 4 else 3), 0, false)
  | some i => match num (b.take i) with
    | none => (stop 4, 0, false)
    | some n => (⟨b.drop (i + 1), 0⟩, n, true)
def int (r : Rd) : Rd × Int :=
  if r.err ≠ 0 then (r, 0) else match r.b with
    | [] => (stop 3, 0)
    | c :: t => if c ≠ 105 then (stop 4, 0) else ((till t 101 20).1, (till t 101 20).2.1)
def rest (x : Rd) (n : Int) (most : Int) : Rd × List UInt8 :=
  if 1000000000 < n then (stop 4, []) else if most < n then (stop 5, []) else if (x.b.length : Int) < n then (stop 3, []) else (⟨x.b.drop n.toNat, 0⟩, x.b.take n.toNat)
def text (r : Rd) (most : Int) : Rd × List UInt8 :=
  if r.err ≠ 0 then (r, []) else match r.b with
    | [] => (stop 3, [])
    | c :: _ => if c.toNat < 48 ∨ 57 < c.toNat then (stop 4, []) else
      if (till r.b 58 10).2.2 = false then ((till r.b 58 10).1, []) else rest (till r.b 58 10).1 (till r.b 58 10).2.1 most
def byte (r : Rd) (c : UInt8) : Rd :=
  if r.err ≠ 0 then r else match r.b with
    | [] => stop 3
    | d :: t => if d ≠ c then stop 4 else ⟨t, 0⟩
def more (r : Rd) : Bool := match r.b with
  | [] => false
  | c :: _ => c != 101
/-- Behind an error nothing is left. -/
def Sane (r : Rd) : Prop := r.err ≠ 0 → r.b = []
theorem sane_stop (e : Int) : Sane (stop e) := fun _ => rfl
theorem sane_mk (b : List UInt8) : Sane ⟨b, 0⟩ := fun h => absurd rfl h
theorem till_sane (b : List UInt8) (c : UInt8) (long : Nat) : Sane (till b c long).1 := by
  unfold till
  split
  · exact sane_stop _
  · split
    · exact sane_stop _
    · exact sane_mk _
theorem rest_sane (x : Rd) (n most : Int) : Sane (rest x n most).1 := by
  unfold rest
  split
  · exact sane_stop _
  · split
    · exact sane_stop _
    · split
      · exact sane_stop _
      · exact sane_mk _
theorem int_sane {r : Rd} (h : Sane r) : Sane r.int.1 := by
  unfold int
  split
  · exact h
  · split
    · exact sane_stop _
    · split
      · exact sane_stop _
      · exact till_sane _ _ _
theorem text_sane {r : Rd} (h : Sane r) (most : Int) : Sane (r.text most).1 := by
  unfold text
  split
  · exact h
  · split
    · exact sane_stop _
    · split
      · exact sane_stop _
      · split
        · exact till_sane _ _ _
        · exact rest_sane _ _ _
theorem byte_sane {r : Rd} (h : Sane r) (c : UInt8) : Sane (r.byte c) := by
  unfold byte
  split
  · exact h
  · split
    · exact sane_stop _
    · split
      · exact sane_stop _
      · exact sane_mk _

theorem at_here (l : List UInt8) (c : UInt8) (r : List UInt8) (long : Nat) (h : ∀ d ∈ l, d ≠ c) (hl : l.length ≤ long) : at? (l ++ c :: r) c long = some l.length := by
  unfold at?
  have e : (l ++ c :: r).take (long + 1) = l ++ c :: r.take (long - l.length) := by
    rw [List.take_append, List.take_of_length_le (by omega), show long + 1 - l.length = (long - l.length) + 1 by omega, List.take_succ_cons]
  rw [e, List.findIdx?_append]
  have h0 : List.findIdx? (· == c) l = none := by
    rw [List.findIdx?_eq_none_iff]
    intro x hx
    simpa using h x hx
  rw [h0]
  simp [List.findIdx?_cons]

theorem itoa_no (n : Int) (c : UInt8) (hc : c = 101 ∨ c = 58) : ∀ d ∈ itoa n, d ≠ c := by
  intro d hd he
  have := itoa_bytes n d hd
  subst he
  rcases hc with rfl | rfl
  · revert this; decide
  · revert this; decide

theorem till_laid (n : Int) (c : UInt8) (hc : c = 101 ∨ c = 58) (r : List UInt8) (long : Nat) (h0 : -9223372036854775808 ≤ n) (h1 : n ≤ 9223372036854775807) (hl : (itoa n).length ≤ long) :
    till (itoa n ++ c :: r) c long = (⟨r, 0⟩, n, true) := by
  unfold till
  rw [at_here _ _ _ _ (itoa_no n c hc) hl]
  simp only [List.take_left]
  rw [num_itoa n h0 h1]
  simp

theorem at_some {b : List UInt8} {c : UInt8} {long i : Nat} (h : at? b c long = some i) : i ≤ long ∧ i < b.length ∧ b[i]? = some c ∧ b = b.take i ++ c :: b.drop (i + 1) ∧ ∀ d ∈ b.take i, d ≠ c := by
  unfold at? at h
  rw [List.findIdx?_eq_some_iff_getElem] at h
  obtain ⟨hi, hp, hq⟩ := h
  have hi2 : i < long + 1 ∧ i < b.length := by rw [List.length_take] at hi; omega
  have hb : b[i]? = some c := by
    rw [List.getElem_take] at hp
    rw [List.getElem?_eq_getElem hi2.2]
    simpa using hp
  refine ⟨by omega, hi2.2, hb, ?_, ?_⟩
  · have : b.drop i = c :: b.drop (i + 1) := by
      rw [List.drop_eq_getElem_cons hi2.2]
      congr 1
      rw [List.getElem?_eq_getElem hi2.2] at hb
      injection hb
    rw [← this, List.take_append_drop]
  · intro d hd he
    obtain ⟨j, hj, rfl⟩ := List.getElem_of_mem hd
    rw [List.length_take] at hj
    have := hq j (by omega)
    rw [List.getElem_take] at this he
    simp [he] at this

/-- Where a number is taken, its digits stood there. -/
theorem till_back {b : List UInt8} {c : UInt8} {long : Nat} {x : Rd} {n : Int} (h : till b c long = (x, n, true)) : x.err = 0 ∧ b = itoa n ++ c :: x.b ∧ -9223372036854775808 ≤ n ∧ n ≤ 9223372036854775807 ∧ (itoa n).length ≤ long := by
  unfold till at h
  split at h
  · injection h with _ h; injection h with _ h; cases h
  · rename_i i hi
    split at h
    · injection h with _ h; injection h with _ h; cases h
    · rename_i m hm
      injection h with hx h
      injection h with hn _
      subst hn
      subst hx
      obtain ⟨h0, h1, he⟩ := num_some.1 hm
      have := at_some hi
      refine ⟨rfl, ?_, h0, h1, ?_⟩
      · rw [he]; exact this.2.2.2.1
      · rw [he, List.length_take]; omega

theorem till_err {b : List UInt8} {c : UInt8} {long : Nat} : (till b c long).2.2 = false → (till b c long).1.err ≠ 0 ∧ (till b c long).1.b = [] ∧ (till b c long).2.1 = 0 := by
  unfold till
  split
  · intro _; refine ⟨?_, rfl, rfl⟩; simp only [stop]; split <;> decide
  · split
    · intro _; simp [stop]
    · intro h; cases h
theorem till_ok {b : List UInt8} {c : UInt8} {long : Nat} : (till b c long).2.2 = true ↔ (till b c long).1.err = 0 := by
  cases h : (till b c long).2.2
  · have := till_err h
    simp [this.1]
  · have e : till b c long = ((till b c long).1, (till b c long).2.1, true) := by rw [← h]
    have := till_back e
    simp [this.1]

/-- A number that is laid is read. -/
theorem int_laid (n : Int) (r : List UInt8) (h0 : -9223372036854775808 ≤ n) (h1 : n ≤ 9223372036854775807) : int ⟨tInt n ++ r, 0⟩ = (⟨r, 0⟩, n) := by
  unfold int tInt
  simp only [List.cons_append, List.append_assoc, List.nil_append]
  rw [till_laid n 101 (.inl rfl) r 20 h0 h1 (itoa_len20 n h0 h1)]
  rfl

theorem text_laid (s r : List UInt8) (most : Int) (hs : s.length ≤ 1000000000) (hm : (s.length : Int) ≤ most) : text ⟨tText s ++ r, 0⟩ most = (⟨r, 0⟩, s) := by
  unfold text tText
  have hd := itoa_bytes (s.length : Int)
  have hp := itoa_pos (s.length : Int)
  have ht := till_laid (s.length : Int) 58 (.inr rfl) (s ++ r) 10 (by omega) (by omega) (itoa_len10 _ hs)
  have e : itoa (s.length : Int) ++ 58 :: s ++ r = itoa (s.length : Int) ++ 58 :: (s ++ r) := by simp
  simp only [e, ne_eq, not_true_eq_false, if_false]
  have h45 : ∀ c t, itoa (s.length : Int) = c :: t → ¬ (c.toNat < 48 ∨ 57 < c.toNat) := by
    intro c t he
    have := hd c (by rw [he]; simp)
    have hn : num (c :: t) = some (s.length : Int) := by rw [← he]; exact num_itoa _ (by omega) (by omega)
    unfold itoa at he
    rw [if_neg (by omega)] at he
    have := dec_digits (s.length : Int).toNat c (by rw [he]; simp)
    omega
  rw [ht]
  cases hi : itoa (s.length : Int) with
  | nil => rw [hi] at hp; simp at hp
  | cons c t =>
    simp only [List.cons_append]
    rw [if_neg (h45 c t hi)]
    simp only [Bool.true_eq_false, if_false]
    unfold rest
    rw [if_neg (by omega), if_neg (by omega), if_neg (by simp; omega)]
    simp

/-- Where a number is read without an error, it was laid there. -/
theorem int_back {r : Rd} (h : r.int.1.err = 0) : r.err = 0 ∧ r.b = tInt r.int.2 ++ r.int.1.b ∧ -9223372036854775808 ≤ r.int.2 ∧ r.int.2 ≤ 9223372036854775807 := by
  unfold int at h ⊢
  by_cases he : r.err ≠ 0
  · rw [if_pos he] at h; exact absurd h he
  · rw [if_neg he] at h ⊢
    cases hb : r.b with
    | nil => rw [hb] at h; exact absurd h (by decide)
    | cons c t =>
      rw [hb] at h
      simp only [] at h ⊢
      by_cases hc : c ≠ 105
      · rw [if_pos hc] at h; exact absurd h (by decide)
      · rw [if_neg hc] at h ⊢
        simp only [] at h ⊢
        have hk := till_ok.2 h
        have e : till t 101 20 = ((till t 101 20).1, (till t 101 20).2.1, true) := by rw [← hk]
        obtain ⟨_, h2, h3, h4, _⟩ := till_back e
        refine ⟨by simpa using he, ?_, h3, h4⟩
        have hc : c = 105 := by simpa using hc
        unfold tInt
        rw [hc]
        conv => lhs; rw [h2]
        simp
theorem int_err {r : Rd} (h : r.int.1.err ≠ 0) : r.int.2 = 0 := by
  unfold int at h ⊢
  split
  · rfl
  · rename_i h1
    rw [if_neg h1] at h
    split
    · rfl
    · rename_i c t hb
      rw [hb] at h
      simp only [] at h
      split
      · rfl
      · rename_i hc
        rw [if_neg hc] at h
        simp only [] at h ⊢
        refine (till_err ?_).2.2
        cases hk : (till t 101 20).2.2
        · rfl
        · exact absurd (till_ok.1 hk) h

theorem text_back {r : Rd} {most : Int} (h : (r.text most).1.err = 0) : r.err = 0 ∧ r.b = tText (r.text most).2 ++ (r.text most).1.b ∧ ((r.text most).2.length : Int) ≤ most ∧ (r.text most).2.length ≤ 1000000000 := by
  unfold text at h ⊢
  by_cases he : r.err ≠ 0
  · rw [if_pos he] at h; exact absurd h he
  · rw [if_neg he] at h ⊢
    cases hb : r.b with
    | nil => rw [hb] at h; exact absurd h (by simp [stop])
    | cons c t =>
      rw [hb] at h
      simp only [] at h ⊢
      by_cases hc : c.toNat < 48 ∨ 57 < c.toNat
      · rw [if_pos hc] at h; exact absurd h (by decide)
      · rw [if_neg hc] at h ⊢
        by_cases hk : (till (c :: t) 58 10).2.2 = false
        · rw [if_pos hk] at h; exact absurd h (till_err hk).1
        · rw [if_neg hk] at h ⊢
          have hk2 : (till (c :: t) 58 10).2.2 = true := by simpa using hk
          have e : till (c :: t) 58 10 = ((till (c :: t) 58 10).1, (till (c :: t) 58 10).2.1, true) := by rw [← hk2]
          obtain ⟨_, h2, h3, h4, _⟩ := till_back e
          generalize (till (c :: t) 58 10).1 = x at *
          generalize (till (c :: t) 58 10).2.1 = n at *
          have hn0 : 0 ≤ n := by
            by_cases hn : n < 0
            · unfold itoa at h2
              rw [if_pos hn] at h2
              injection h2 with h2 _
              subst h2
              exact absurd (Or.inl (by decide)) hc
            · omega
          unfold rest at h ⊢
          by_cases g1 : 1000000000 < n
          · rw [if_pos g1] at h; exact absurd h (by decide)
          · rw [if_neg g1] at h ⊢
            by_cases g2 : most < n
            · rw [if_pos g2] at h; exact absurd h (by decide)
            · rw [if_neg g2] at h ⊢
              by_cases g3 : (x.b.length : Int) < n
              · rw [if_pos g3] at h; exact absurd h (by decide)
              · rw [if_neg g3]
                have hl : ((x.b.take n.toNat).length : Int) = n := by rw [List.length_take]; omega
                refine ⟨by simpa using he, ?_, by simp only []; rw [hl]; omega, by simp only []; omega⟩
                unfold tText
                rw [hl, h2]
                simp
theorem text_err {r : Rd} {most : Int} (h : (r.text most).1.err ≠ 0) : (r.text most).2 = [] := by
  unfold text at h ⊢
  split
  · rfl
  · rename_i h1
    rw [if_neg h1] at h
    split
    · rfl
    · rename_i c t hb
      rw [hb] at h
      simp only [] at h
      split
      · rfl
      · rename_i hc
        rw [if_neg hc] at h
        split
        · rfl
        · rename_i hk
          rw [hb] at hk ⊢
          rw [if_neg hk] at h
          unfold rest at h ⊢
          split
          · rfl
          · rename_i g1
            rw [if_neg g1] at h
            split
            · rfl
            · rename_i g2
              rw [if_neg g2] at h
              split
              · rfl
              · rename_i g3
                rw [if_neg g3] at h
                exact absurd rfl h
theorem byte_back {r : Rd} {c : UInt8} (h : (r.byte c).err = 0) : r.err = 0 ∧ r.b = c :: (r.byte c).b := by
  unfold byte at h ⊢
  by_cases he : r.err ≠ 0
  · rw [if_pos he] at h; exact absurd h he
  · rw [if_neg he] at h ⊢
    cases hb : r.b with
    | nil => rw [hb] at h; exact absurd h (by simp [stop])
    | cons d t =>
      rw [hb] at h
      simp only [] at h ⊢
      by_cases hc : d ≠ c
      · rw [if_pos hc] at h; exact absurd h (by decide)
      · rw [if_neg hc]
        exact ⟨by simpa using he, by rw [show d = c by simpa using hc]⟩
theorem byte_laid (c : UInt8) (r : List UInt8) : byte ⟨c :: r, 0⟩ c = ⟨r, 0⟩ := by simp [byte]
theorem stopped_int {r : Rd} (h : r.err ≠ 0) : r.int = (r, 0) := by unfold int; rw [if_pos h]
theorem stopped_text {r : Rd} (h : r.err ≠ 0) (most : Int) : r.text most = (r, []) := by unfold text; rw [if_pos h]
theorem stopped_byte {r : Rd} (h : r.err ≠ 0) (c : UInt8) : r.byte c = r := by unfold byte; rw [if_pos h]
end Rd
end Go.Proofs.YtokgignmdgejoaaDoor
