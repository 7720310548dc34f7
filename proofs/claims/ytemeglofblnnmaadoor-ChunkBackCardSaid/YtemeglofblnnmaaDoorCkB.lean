/- A text's parts in any order, plain: they make the text just with the last one. -/
import Derived.Test.YtemeglofblnnmaaDoorJnT
import Derived.Test.YtemeglofblnnmaaDoorJnMZ
namespace Go.Proofs.YtemeglofblnnmaaDoor
open Go.RowKit
set_option linter.unusedVariables false

/-- What came is as it should be. -/
structure BkFit (ps : List (List UInt8)) (P : List (Option (List UInt8))) : Prop where
  len : P.length = ps.length
  at_ : ∀ (j : Nat) (b : List UInt8), P[j]? = some (some b) → ps[j]? = some b
def bkT (P : List (Option (List UInt8))) : Tx := ⟨3, 5, P⟩
def bkJ (P : List (Option (List UInt8))) : Jn := if 0 < (bkT P).left ∧ (bkT P).left < P.length then ⟨[bkT P], 0⟩ else ⟨[], 0⟩
theorem bkJ_lost (P : List (Option (List UInt8))) : (bkJ P).lost = 0 := by unfold bkJ; split <;> rfl
theorem bkT_put (P : List (Option (List UInt8))) (k : Nat) (b : List UInt8) : bkT ((bkT P).put k b).pcs = (bkT P).put k b := by
  unfold Tx.put
  split <;> rfl
theorem bk_none (P : List (Option (List UInt8))) : (bkT (List.replicate P.length none)).left = P.length := by
  unfold bkT Tx.left
  rw [List.countP_replicate]
  rfl
theorem bk_all {P : List (Option (List UInt8))} (h : (bkT P).left = P.length) : P = List.replicate P.length none := by
  have h2 := List.countP_eq_length.1 h
  refine List.eq_replicate_iff.2 ⟨rfl, fun x hx => ?_⟩
  have := h2 x hx
  simpa using this
theorem bk_open {P : List (Option (List UInt8))} (h0 : 0 < (bkT P).left) : (bkJ P).open_ 3 5 P.length = (⟨[bkT P], 0⟩, 0) := by
  by_cases h : (bkT P).left < P.length
  · unfold bkJ
    rw [if_pos ⟨h0, h⟩]
    have hf : (⟨[bkT P], 0⟩ : Jn).find 3 5 = 0 := by
      unfold Jn.find
      simp [List.findIdx_cons, bkT]
    have hft : (⟨[bkT P], 0⟩ : Jn).fits 3 5 P.length = true := by
      unfold Jn.fits
      rw [hf]
      simp [bkT]
    unfold Jn.open_
    rw [hft, hf]
    rfl
  · have hle : (bkT P).left ≤ P.length := Tx.left_le _
    have he := bk_all (P := P) (by omega)
    unfold bkJ
    rw [if_neg (by omega)]
    have e2 : bkT P = ⟨3, 5, List.replicate P.length none⟩ := by unfold bkT; rw [← he]
    rw [e2]
    have hf : (⟨[], 0⟩ : Jn).find 3 5 = 0 := rfl
    have hft : (⟨[], 0⟩ : Jn).fits 3 5 P.length = false := rfl
    have hd : (⟨[], 0⟩ : Jn).drop 3 5 = ⟨[], 0⟩ := rfl
    have hw : (⟨[], 0⟩ : Jn).new 3 5 P.length = ⟨[⟨3, 5, List.replicate P.length none⟩], 0⟩ := rfl
    unfold Jn.open_
    rw [hft, hd, hw]
    rfl
theorem bk_whole {ps : List (List UInt8)} {P : List (Option (List UInt8))} (hf : BkFit ps P) (h : (bkT P).left = 0) : (bkT P).whole = ps.flatten := by
  have e : P = ps.map some := by
    apply List.ext_getElem?
    intro j
    rw [List.getElem?_map]
    cases hj : P[j]? with
    | none =>
      have h1 := List.getElem?_eq_none_iff.1 hj
      rw [List.getElem?_eq_none_iff.2 (by have := hf.len; omega)]
      rfl
    | some x =>
      cases x with
      | none =>
        have h2 := List.countP_eq_zero.1 h none (List.mem_of_getElem? hj)
        simp at h2
      | some b => rw [hf.at_ j b hj]; rfl
  unfold Tx.whole bkT
  simp only
  rw [e, List.map_map, show (fun (o : Option (List UInt8)) => o.getD []) ∘ some = id from rfl, List.map_id]
theorem bk_fit {ps : List (List UInt8)} {P : List (Option (List UInt8))} (hf : BkFit ps P) {k : Nat} {b : List UInt8} (hb : ps[k]? = some b) : BkFit ps ((bkT P).put k b).pcs := by
  refine ⟨by rw [Tx.put_len]; exact hf.len, fun j c hj => ?_⟩
  unfold Tx.put at hj
  split at hj
  · exact hf.at_ j c hj
  · simp only [bkT, List.getElem?_set] at hj
    split at hj
    · rename_i e
      subst e
      split at hj
      · injection hj with hj
        injection hj with hj
        rw [← hj]
        exact hb
      · cases hj
    · exact hf.at_ j c hj
theorem bk_lt {P : List (Option (List UInt8))} {k : Nat} {b : List UInt8} (hk : k < P.length) : ((bkT P).put k b).left < P.length := by
  have hl : ((bkT P).put k b).left ≤ ((bkT P).put k b).pcs.length := Tx.left_le _
  rw [Tx.put_len] at hl
  have hl : ((bkT P).put k b).left ≤ P.length := hl
  rcases Nat.lt_or_ge ((bkT P).put k b).left P.length with h | h
  · exact h
  · have hh := Tx.put_has_at (t := bkT P) (k := k) (b := b) hk k
    have h1 : ((bkT P).put k b).pcs.countP (·.isNone) = ((bkT P).put k b).pcs.length := by
      rw [Tx.put_len]
      show ((bkT P).put k b).left = P.length
      omega
    have h2 := List.countP_eq_length.1 h1
    have hk2 : k < ((bkT P).put k b).pcs.length := by rw [Tx.put_len]; exact hk
    have h3 := h2 _ (List.getElem_mem hk2)
    have h4 : ((bkT P).put k b).has k = true := by rw [hh]; simp
    unfold Tx.has at h4
    rw [List.getElem?_eq_getElem hk2] at h4
    cases hx : ((bkT P).put k b).pcs[k] with
    | none => rw [hx] at h4; cases h4
    | some c => rw [hx] at h3; cases h3
theorem bk_add {ps : List (List UInt8)} {P : List (Option (List UInt8))} (hf : BkFit ps P) (h0 : 0 < (bkT P).left) {k : Nat} {b : List UInt8} (hb : ps[k]? = some b) (h64 : ps.length ≤ 64) (hbl : b.length ≤ 8192) :
    jadd (bkJ P) 3 ⟨5, (k : Int), (ps.length : Int), b⟩ = (bkJ ((bkT P).put k b).pcs, if ((bkT P).put k b).left = 0 then some ps.flatten else none, 0) := by
  have hk := (List.getElem?_eq_some_iff.1 hb).1
  have hlen := hf.len
  have hmay : (⟨5, (k : Int), (ps.length : Int), b⟩ : Pt).may = true := Pt.may_iff.2 ⟨show (0 : Int) ≤ 5 by decide, show (5 : Int) ≤ 1099511627776 by decide, show (1 : Int) ≤ ps.length by omega, show (ps.length : Int) ≤ 64 by omega, show (0 : Int) ≤ k by omega, show (k : Int) < ps.length by omega, hbl⟩
  have hlt := bk_lt (P := P) (k := k) (b := b) (by omega)
  unfold jadd
  rw [hmay]
  simp only [Bool.true_and, show (3 : Int) < 64 by decide, decide_true, if_true, Int.toNat_natCast]
  rw [← hlen, bk_open h0]
  simp only
  unfold Jn.at_
  simp only [List.getElem?_cons_zero, Option.getD_some]
  have hJ : bkJ ((bkT P).put k b).pcs = if 0 < ((bkT P).put k b).left then ⟨[(bkT P).put k b], 0⟩ else ⟨[], 0⟩ := by
    unfold bkJ
    rw [bkT_put, Tx.put_len]
    by_cases h : 0 < ((bkT P).put k b).left
    · rw [if_pos ⟨h, hlt⟩, if_pos h]
    · rw [if_neg (fun e => h e.1), if_neg h]
  rw [hJ]
  by_cases h : ((bkT P).put k b).left = 0
  · rw [if_pos h, if_neg (by omega), if_pos h]
    have := bk_whole (bk_fit hf hb) (by rw [bkT_put]; exact h)
    rw [bkT_put] at this
    rw [this]
    rfl
  · rw [if_neg h, if_pos (by omega), if_neg h]
    rfl
theorem gaps_upto (t : Tx) (k : Nat) (hk : k ≤ t.pcs.length) : (t.gaps k).length = (t.pcs.take k).countP (·.isNone) := by
  induction k with
  | zero => rfl
  | succ k ih =>
    rw [Tx.gaps_succ, List.take_add_one, List.countP_append, ← ih (by omega)]
    have hx : t.pcs[k]? = some t.pcs[k] := List.getElem?_eq_getElem (by omega)
    rw [hx]
    unfold Tx.has
    rw [hx]
    cases hy : t.pcs[k] <;> simp
theorem gaps_left (t : Tx) : (t.gaps t.pcs.length).length = t.left := by
  rw [gaps_upto t _ (Nat.le_refl _), List.take_length]
  rfl
theorem bk_miss {P : List (Option (List UInt8))} (h : (bkT P).left < P.length) : (jmiss (bkJ P) 3 5).length = (bkT P).left := by
  unfold bkJ
  by_cases h0 : 0 < (bkT P).left
  · rw [if_pos ⟨h0, h⟩]
    have hf : (⟨[bkT P], 0⟩ : Jn).find 3 5 = 0 := by
      unfold Jn.find
      simp [List.findIdx_cons, bkT]
    unfold jmiss
    rw [hf]
    exact gaps_left (bkT P)
  · rw [if_neg (fun e => h0 e.1)]
    have : jmiss ⟨[], 0⟩ 3 5 = [] := rfl
    rw [this]
    simp only [List.length_nil]
    omega
/-- Which came, as a row of truth values. -/
def boolCs (P : List (Option (List UInt8))) : Array Value := (P.map fun o => Value.bool o.isSome).toArray
theorem boolCs_none (n : Nat) : boolCs (List.replicate n none) = (List.replicate n (Value.bool false)).toArray := by simp [boolCs]
theorem boolCs_at {P : List (Option (List UInt8))} {k : Nat} (hk : k < P.length) : (boolCs P)[k]? = some (.bool ((bkT P).has k)) := by
  unfold boolCs bkT Tx.has
  rw [List.getElem?_toArray, List.getElem?_map, List.getElem?_eq_getElem hk]
  rfl
theorem boolCs_set {P : List (Option (List UInt8))} {k : Nat} {b : List UInt8} (h : (bkT P).has k = false) : (boolCs P).setIfInBounds k (.bool true) = boolCs ((bkT P).put k b).pcs := by
  rw [Tx.put_new h]
  unfold boolCs bkT
  apply Array.ext'
  simp [List.map_set]
theorem bk_left {P : List (Option (List UInt8))} {k : Nat} {b : List UInt8} (hk : k < P.length) : ((bkT P).put k b).left = if (bkT P).has k then (bkT P).left else (bkT P).left - 1 := Tx.put_left hk
theorem bk_pos {P : List (Option (List UInt8))} {k : Nat} (hk : k < P.length) (h : (bkT P).has k = false) : 0 < (bkT P).left := by
  unfold Tx.left
  rw [List.countP_pos_iff]
  exact ⟨none, List.mem_of_getElem? (Tx.has_false hk h), rfl⟩
end Go.Proofs.YtemeglofblnnmaaDoor
