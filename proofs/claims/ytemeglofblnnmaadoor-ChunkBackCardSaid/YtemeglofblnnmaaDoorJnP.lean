/- Long texts in parts, in plain Lean: what a joiner has. -/
import Derived.Test.YtemeglofblnnmaaDoorMem
namespace Go.Proofs.YtemeglofblnnmaaDoor
open Go.RowKit
set_option linter.unusedVariables false

/-- A text that is open: whose, which, and its parts as far as they came. -/
structure Tx where
  frm : Int
  id : Int
  pcs : List (Option (List UInt8))
instance : Inhabited Tx := ⟨⟨0, 0, []⟩⟩
def Tx.has (t : Tx) (k : Nat) : Bool := (t.pcs[k]?.join).isSome
def Tx.piece (t : Tx) (k : Nat) : List UInt8 := (t.pcs[k]?.join).getD []
def Tx.left (t : Tx) : Nat := t.pcs.countP (·.isNone)
def Tx.whole (t : Tx) : List UInt8 := (t.pcs.map (·.getD [])).flatten
/-- A part is told. -/
def Tx.put (t : Tx) (k : Nat) (b : List UInt8) : Tx := if t.has k then t else ⟨t.frm, t.id, t.pcs.set k (some b)⟩
/-- A joiner: open texts, the one that was opened first ahead. -/
structure Jn where
  T : List Tx
  lost : Nat
/-- A part. -/
structure Pt where
  id : Int
  idx : Int
  cnt : Int
  bs : List UInt8
def Pt.may (p : Pt) : Bool := decide (0 ≤ p.id) && decide (p.id ≤ 1099511627776) && decide (1 ≤ p.cnt) && decide (p.cnt ≤ 64) && decide (0 ≤ p.idx) && decide (p.idx < p.cnt) && decide (p.bs.length ≤ 8192)
theorem Pt.may_iff {p : Pt} : p.may = true ↔ 0 ≤ p.id ∧ p.id ≤ 1099511627776 ∧ 1 ≤ p.cnt ∧ p.cnt ≤ 64 ∧ 0 ≤ p.idx ∧ p.idx < p.cnt ∧ p.bs.length ≤ 8192 := by
  unfold Pt.may
  simp only [Bool.and_eq_true, decide_eq_true_eq, and_assoc]
/-- The place of a text; how many there are: there is none. -/
def Jn.find (J : Jn) (frm id : Int) : Nat := J.T.findIdx fun t => t.frm == frm && t.id == id
/-- Is there one, with so many parts? -/
def Jn.fits (J : Jn) (frm id : Int) (cnt : Nat) : Bool := (J.T[J.find frm id]?.map fun t => decide (t.pcs.length = cnt)) == some true
/-- One with another count of parts is lost. -/
def Jn.drop (J : Jn) (frm id : Int) : Jn := if J.find frm id < J.T.length then ⟨J.T.eraseIdx (J.find frm id), J.lost + 1⟩ else J
/-- A text is opened; the first one is lost if there are too many. -/
def Jn.new (J : Jn) (frm id : Int) (cnt : Nat) : Jn := if 16 < J.T.length + 1 then ⟨(J.T ++ [(⟨frm, id, List.replicate cnt none⟩ : Tx)]).eraseIdx 0, J.lost + 1⟩ else ⟨J.T ++ [(⟨frm, id, List.replicate cnt none⟩ : Tx)], J.lost⟩
def Jn.open_ (J : Jn) (frm id : Int) (cnt : Nat) : Jn × Nat := if J.fits frm id cnt then (J, J.find frm id) else ((J.drop frm id).new frm id cnt, ((J.drop frm id).new frm id cnt).T.length - 1)
/-- A part is put to the text at a place. -/
def Jn.at_ (J : Jn) (i k : Nat) (b : List UInt8) : Jn × Option (List UInt8) :=
  let t := (J.T[i]?.getD default).put k b
  if t.left = 0 then (⟨J.T.eraseIdx i, J.lost⟩, some t.whole) else (⟨J.T.set i t, J.lost⟩, none)
def jadd (J : Jn) (frm : Int) (p : Pt) : Jn × Option (List UInt8) × Int :=
  if p.may && decide (frm < 64) then
    let o := J.open_ frm p.id p.cnt.toNat
    let r := o.1.at_ o.2 p.idx.toNat p.bs
    (r.1, r.2, 0)
  else (J, none, 2)
/-- What a text always is. -/
structure Tx.Ok (t : Tx) : Prop where
  n1 : 1 ≤ t.pcs.length
  n2 : t.pcs.length ≤ 64
  left : 1 ≤ t.left
  small : ∀ b, some b ∈ t.pcs → b.length ≤ 8192
structure Jn.Ok (J : Jn) : Prop where
  len : J.T.length ≤ 16
  all : ∀ t ∈ J.T, t.Ok
theorem Tx.piece_small {t : Tx} (h : ∀ b, some b ∈ t.pcs → b.length ≤ 8192) (k : Nat) : (t.piece k).length ≤ 8192 := by
  unfold Tx.piece
  cases hk : t.pcs[k]? with
  | none => simp
  | some o =>
    cases o with
    | none => simp
    | some b => simpa using h b (List.mem_of_getElem? hk)
theorem Tx.left_le (t : Tx) : t.left ≤ t.pcs.length := List.countP_le_length
theorem countP_set {l : List (Option (List UInt8))} {k : Nat} (b : List UInt8) (h : l[k]? = some none) : (l.set k (some b)).countP (·.isNone) + 1 = l.countP (·.isNone) := by
  induction l generalizing k with
  | nil => cases h
  | cons a t ih =>
    cases k with
    | zero =>
      injection h with h
      subst h
      simp
    | succ k =>
      have := ih (k := k) h
      simp only [List.set_cons_succ, List.countP_cons]
      omega
theorem Tx.has_false {t : Tx} {k : Nat} (hk : k < t.pcs.length) (h : t.has k = false) : t.pcs[k]? = some none := by
  unfold Tx.has at h
  rw [List.getElem?_eq_getElem hk] at h ⊢
  cases hx : t.pcs[k] with
  | none => rfl
  | some b => rw [hx] at h; simp at h
theorem Tx.put_has {t : Tx} {k : Nat} {b : List UInt8} (h : t.has k = true) : t.put k b = t := by unfold Tx.put; rw [if_pos h]
theorem Tx.put_new {t : Tx} {k : Nat} {b : List UInt8} (h : t.has k = false) : t.put k b = ⟨t.frm, t.id, t.pcs.set k (some b)⟩ := by unfold Tx.put; rw [if_neg (by rw [h]; decide)]
theorem Tx.put_frm (t : Tx) (k : Nat) (b : List UInt8) : (t.put k b).frm = t.frm := by unfold Tx.put; split <;> rfl
theorem Tx.put_id (t : Tx) (k : Nat) (b : List UInt8) : (t.put k b).id = t.id := by unfold Tx.put; split <;> rfl
theorem Tx.put_len (t : Tx) (k : Nat) (b : List UInt8) : (t.put k b).pcs.length = t.pcs.length := by unfold Tx.put; split <;> simp
theorem Tx.put_left {t : Tx} {k : Nat} {b : List UInt8} (hk : k < t.pcs.length) : (t.put k b).left = if t.has k then t.left else t.left - 1 := by
  cases h : t.has k
  · rw [Tx.put_new h]
    have := countP_set b (Tx.has_false hk h)
    unfold Tx.left
    simp only [Bool.false_eq_true, if_false]
    omega
  · rw [Tx.put_has h]; simp
theorem Tx.put_has_at {t : Tx} {k : Nat} {b : List UInt8} (hk : k < t.pcs.length) (j : Nat) : (t.put k b).has j = (t.has j || j == k) := by
  cases h : t.has k
  · rw [Tx.put_new h]
    unfold Tx.has
    simp only [List.getElem?_set]
    by_cases e : k = j
    · subst e
      simp [hk]
    · have : (j == k) = false := by simpa using fun e2 => e e2.symm
      simp [e, this]
  · rw [Tx.put_has h]
    by_cases e : j = k
    · subst e; rw [h]; rfl
    · have : (j == k) = false := by simpa using e
      rw [this, Bool.or_false]
theorem Tx.put_piece {t : Tx} {k : Nat} {b : List UInt8} (hk : k < t.pcs.length) (j : Nat) : (t.put k b).piece j = if t.has k then t.piece j else if j = k then b else t.piece j := by
  cases h : t.has k
  · rw [Tx.put_new h]
    unfold Tx.piece
    simp only [List.getElem?_set, Bool.false_eq_true, if_false]
    by_cases e : k = j
    · subst e
      simp [hk]
    · have : ¬ j = k := fun e2 => e e2.symm
      simp [e, this]
  · rw [Tx.put_has h]; simp
theorem Tx.put_small {t : Tx} {k : Nat} {b : List UInt8} (h : ∀ b, some b ∈ t.pcs → b.length ≤ 8192) (hb : b.length ≤ 8192) : ∀ c, some c ∈ (t.put k b).pcs → c.length ≤ 8192 := by
  unfold Tx.put
  split
  · exact h
  · intro c hc
    rcases List.mem_or_eq_of_mem_set hc with hc | hc
    · exact h c hc
    · injection hc with hc
      rw [hc]
      exact hb
theorem Tx.new_ok {frm id : Int} {cnt : Nat} (h1 : 1 ≤ cnt) (h2 : cnt ≤ 64) : (⟨frm, id, List.replicate cnt none⟩ : Tx).Ok := by
  refine ⟨by simpa using h1, by simpa using h2, ?_, ?_⟩
  · unfold Tx.left
    rw [List.countP_replicate]
    simpa using h1
  · intro b hb
    have := List.eq_of_mem_replicate hb
    cases this
theorem Jn.find_lt {J : Jn} {frm id : Int} {t : Tx} (h : J.T[J.find frm id]? = some t) : t.frm = frm ∧ t.id = id := by
  have hl := (List.getElem?_eq_some_iff.1 h).1
  have h1 : (fun t : Tx => t.frm == frm && t.id == id) (J.T[J.find frm id]'hl) = true := List.findIdx_getElem (w := hl)
  rw [(List.getElem?_eq_some_iff.1 h).2] at h1
  simpa using h1
theorem Jn.fits_iff {J : Jn} {frm id : Int} {cnt : Nat} : J.fits frm id cnt = true ↔ ∃ t, J.T[J.find frm id]? = some t ∧ t.pcs.length = cnt := by
  unfold Jn.fits
  cases h : J.T[J.find frm id]? with
  | none => simp
  | some t => simp
theorem mem_erase {α : Type} {l : List α} {i : Nat} {x : α} (h : x ∈ l.eraseIdx i) : x ∈ l := List.mem_of_mem_eraseIdx h
theorem Jn.drop_ok {J : Jn} (h : J.Ok) (frm id : Int) : (J.drop frm id).Ok := by
  unfold Jn.drop
  split
  · exact ⟨Nat.le_trans (List.length_eraseIdx_le _ _) h.len, fun t ht => h.all t (mem_erase ht)⟩
  · exact h
theorem Jn.new_ok {J : Jn} (h : J.Ok) (frm id : Int) {cnt : Nat} (h1 : 1 ≤ cnt) (h2 : cnt ≤ 64) : (J.new frm id cnt).Ok := by
  have hall : ∀ t ∈ J.T ++ [(⟨frm, id, List.replicate cnt none⟩ : Tx)], t.Ok := fun t ht => by
    rcases List.mem_append.1 ht with ht | ht
    · exact h.all t ht
    · obtain rfl := List.mem_singleton.1 ht
      exact Tx.new_ok h1 h2
  unfold Jn.new
  split
  · refine ⟨?_, fun t ht => hall t (mem_erase ht)⟩
    have := h.len
    rw [List.length_eraseIdx_of_lt (by simp)]
    simp
    omega
  · refine ⟨?_, hall⟩
    simp
    omega
/-- Behind open_ the text stands at its place. -/
theorem Jn.open_ok {J : Jn} (h : J.Ok) (frm id : Int) {cnt : Nat} (h1 : 1 ≤ cnt) (h2 : cnt ≤ 64) : (J.open_ frm id cnt).1.Ok ∧ ∃ t, (J.open_ frm id cnt).1.T[(J.open_ frm id cnt).2]? = some t ∧ t.pcs.length = cnt ∧ t.frm = frm ∧ t.id = id := by
  unfold Jn.open_
  split
  · rename_i hf
    obtain ⟨t, ht, hl⟩ := Jn.fits_iff.1 hf
    exact ⟨h, t, ht, hl, Jn.find_lt ht⟩
  · refine ⟨Jn.new_ok (Jn.drop_ok h frm id) frm id h1 h2, ⟨frm, id, List.replicate cnt none⟩, ?_, by simp, rfl, rfl⟩
    unfold Jn.new
    split
    · rename_i hb
      simp only
      cases hT : (J.drop frm id).T with
      | nil => rw [hT] at hb; simp at hb
      | cons a r => simp
    · simp
theorem Jn.at_ok {J : Jn} (h : J.Ok) {i k : Nat} {t : Tx} {b : List UInt8} (ht : J.T[i]? = some t) (hb : b.length ≤ 8192) : (J.at_ i k b).1.Ok := by
  have htm := List.mem_of_getElem? ht
  unfold Jn.at_
  rw [ht]
  simp only [Option.getD_some]
  split
  · exact ⟨Nat.le_trans (List.length_eraseIdx_le _ _) h.len, fun t ht => h.all t (mem_erase ht)⟩
  · rename_i hl
    refine ⟨by simpa using h.len, fun x hx => ?_⟩
    rcases List.mem_or_eq_of_mem_set hx with hx | rfl
    · exact h.all x hx
    · have ho := h.all t htm
      exact ⟨by rw [Tx.put_len]; exact ho.n1, by rw [Tx.put_len]; exact ho.n2, by omega, Tx.put_small ho.small hb⟩
theorem jadd_ok {J : Jn} (h : J.Ok) (frm : Int) (p : Pt) : (jadd J frm p).1.Ok := by
  unfold jadd
  split
  · rename_i hm
    simp only [Bool.and_eq_true] at hm
    have hp := Pt.may_iff.1 hm.1
    obtain ⟨ho, t, ht, _⟩ := Jn.open_ok h frm p.id (cnt := p.cnt.toNat) (by omega) (by omega)
    exact Jn.at_ok ho ht hp.2.2.2.2.2.2
  · exact h
theorem Jn.drop_sum (J : Jn) (frm id : Int) : (J.drop frm id).T.length + (J.drop frm id).lost = J.T.length + J.lost := by
  unfold Jn.drop
  split
  · rename_i hl
    rw [List.length_eraseIdx_of_lt hl]
    simp only
    omega
  · rfl
theorem Jn.new_sum (J : Jn) (frm id : Int) (cnt : Nat) : (J.new frm id cnt).T.length + (J.new frm id cnt).lost = J.T.length + J.lost + 1 := by
  unfold Jn.new
  split
  · rw [List.length_eraseIdx_of_lt (by simp)]
    simp
    omega
  · simp
    omega
/-- How many are open or lost. -/
theorem jadd_sum (J : Jn) (frm : Int) (p : Pt) : (jadd J frm p).1.T.length + (jadd J frm p).1.lost ≤ J.T.length + J.lost + 1 := by
  unfold jadd
  split
  · have h1 : (J.open_ frm p.id p.cnt.toNat).1.T.length + (J.open_ frm p.id p.cnt.toNat).1.lost ≤ J.T.length + J.lost + 1 := by
      unfold Jn.open_
      split
      · simp only; omega
      · simp only
        rw [Jn.new_sum, Jn.drop_sum]
        omega
    have h2 : ∀ (K : Jn) (i k : Nat) (b : List UInt8), (K.at_ i k b).1.T.length + (K.at_ i k b).1.lost ≤ K.T.length + K.lost := by
      intro K i k b
      unfold Jn.at_
      simp only
      split
      · have := List.length_eraseIdx_le K.T i
        simp only
        omega
      · simp
    exact Nat.le_trans (h2 _ _ _ _) h1
  · simp only; omega
end Go.Proofs.YtemeglofblnnmaaDoor
