/- Long texts in parts, plain: the parts of a text, told in order. -/
import Derived.Test.YtemeglofblnnmaaDoorJnP
namespace Go.Proofs.YtemeglofblnnmaaDoor
open Go.RowKit
set_option linter.unusedVariables false

/-- A text of which the first i parts came. -/
def txP (frm id : Int) (ps : List (List UInt8)) (i : Nat) : Tx := ⟨frm, id, (ps.take i).map some ++ List.replicate (ps.length - i) none⟩
def opn (frm id : Int) (ps : List (List UInt8)) (i : Nat) : List Tx := if 0 < i ∧ i < ps.length then [txP frm id ps i] else []
section
variable {frm id : Int} {ps : List (List UInt8)} {i : Nat}
theorem txP_len (hi : i ≤ ps.length) : (txP frm id ps i).pcs.length = ps.length := by
  simp [txP]
  omega
theorem txP_left (hi : i ≤ ps.length) : (txP frm id ps i).left = ps.length - i := by
  unfold Tx.left txP
  rw [List.countP_append, List.countP_replicate]
  have : List.countP (fun (x : Option (List UInt8)) => x.isNone) ((ps.take i).map some) = 0 := by
    rw [List.countP_eq_zero]
    intro a ha
    obtain ⟨b, _, rfl⟩ := List.mem_map.1 ha
    simp
  rw [this]
  simp
theorem txP_put {b : List UInt8} (hb : ps[i]? = some b) : (txP frm id ps i).put i b = txP frm id ps (i + 1) := by
  have hi := (List.getElem?_eq_some_iff.1 hb).1
  have hl : ((ps.take i).map some).length = i := by rw [List.length_map, List.length_take]; omega
  have hat : (txP frm id ps i).pcs[i]? = some none := by
    unfold txP
    rw [List.getElem?_append_right (by rw [hl]; exact Nat.le_refl _), hl, Nat.sub_self, List.getElem?_replicate, if_pos (by omega)]
  have hh : (txP frm id ps i).has i = false := by
    unfold Tx.has
    rw [hat]
    rfl
  unfold Tx.put
  rw [hh]
  simp only [Bool.false_eq_true, if_false]
  unfold txP
  simp only
  congr 1
  rw [List.set_append_right _ _ (by rw [hl]; exact Nat.le_refl _), hl, Nat.sub_self]
  obtain ⟨d, hd⟩ : ∃ d, ps.length - i = d + 1 := ⟨ps.length - i - 1, by omega⟩
  rw [hd, List.replicate_succ, List.set_cons_zero, show ps.length - (i + 1) = d by omega, List.take_add_one, hb]
  simp
theorem txP_whole : (txP frm id ps ps.length).whole = ps.flatten := by
  unfold Tx.whole txP
  simp [Function.comp_def]
/-- No text of someone's. -/
def Free (frm id : Int) (T : List Tx) : Prop := ∀ t ∈ T, (t.frm == frm && t.id == id) = false
theorem find_free {T : List Tx} {L : Nat} (h : Free frm id T) : (⟨T, L⟩ : Jn).find frm id = T.length := by
  unfold Jn.find
  exact List.findIdx_eq_length.2 h
theorem find_mid {pre post : List Tx} {t : Tx} {L : Nat} (h : Free frm id pre) (h1 : t.frm = frm) (h2 : t.id = id) : (⟨pre ++ [t] ++ post, L⟩ : Jn).find frm id = pre.length := by
  unfold Jn.find
  simp only
  rw [List.append_assoc, List.findIdx_append, List.findIdx_eq_length.2 h]
  have : List.findIdx (fun (t : Tx) => t.frm == frm && t.id == id) ([t] ++ post) = 0 := by
    rw [List.singleton_append, List.findIdx_cons]
    simp [h1, h2]
  rw [if_neg (Nat.lt_irrefl _), this]
  simp
theorem open_at {pre post : List Tx} {L : Nat} (hn : 1 ≤ ps.length) (hi : i < ps.length) (hpre : Free frm id pre) (hpost : i = 0 → post = []) (h16 : pre.length + post.length ≤ 15) :
    (⟨pre ++ opn frm id ps i ++ post, L⟩ : Jn).open_ frm id ps.length = (⟨pre ++ [txP frm id ps i] ++ post, L⟩, pre.length) := by
  rcases Nat.eq_zero_or_pos i with h0 | h0
  · subst h0
    rw [hpost rfl]
    have e : opn frm id ps 0 = [] := by unfold opn; simp
    have e2 : txP frm id ps 0 = ⟨frm, id, List.replicate ps.length none⟩ := by unfold txP; simp
    rw [e, e2]
    simp only [List.append_nil]
    have hf : (⟨pre, L⟩ : Jn).find frm id = pre.length := find_free hpre
    have hft : (⟨pre, L⟩ : Jn).fits frm id ps.length = false := by
      unfold Jn.fits
      rw [hf]
      simp
    have hd : (⟨pre, L⟩ : Jn).drop frm id = ⟨pre, L⟩ := by
      unfold Jn.drop
      rw [hf]
      simp
    have hw : (⟨pre, L⟩ : Jn).new frm id ps.length = ⟨pre ++ [⟨frm, id, List.replicate ps.length none⟩], L⟩ := by
      unfold Jn.new
      rw [if_neg (by simp only; omega)]
    unfold Jn.open_
    rw [hft, hd, hw]
    simp
  · have e : opn frm id ps i = [txP frm id ps i] := by unfold opn; rw [if_pos ⟨h0, hi⟩]
    rw [e]
    have hf : (⟨pre ++ [txP frm id ps i] ++ post, L⟩ : Jn).find frm id = pre.length := find_mid hpre rfl rfl
    have hg : (pre ++ [txP frm id ps i] ++ post)[pre.length]? = some (txP frm id ps i) := by simp
    have hft : (⟨pre ++ [txP frm id ps i] ++ post, L⟩ : Jn).fits frm id ps.length = true := by
      unfold Jn.fits
      rw [hf]
      simp only
      rw [hg]
      simp [txP_len (Nat.le_of_lt hi)]
    unfold Jn.open_
    rw [hft, hf]
    simp
theorem at_mid {pre post : List Tx} {L : Nat} {b : List UInt8} (hb : ps[i]? = some b) :
    (⟨pre ++ [txP frm id ps i] ++ post, L⟩ : Jn).at_ pre.length i b = (⟨pre ++ opn frm id ps (i + 1) ++ post, L⟩, if i + 1 = ps.length then some ps.flatten else none) := by
  have hi := (List.getElem?_eq_some_iff.1 hb).1
  have hg : (pre ++ [txP frm id ps i] ++ post)[pre.length]? = some (txP frm id ps i) := by simp
  unfold Jn.at_
  simp only
  rw [hg, Option.getD_some, txP_put hb, txP_left (by omega)]
  by_cases h : i + 1 = ps.length
  · rw [if_pos (by omega), if_pos h, h, txP_whole]
    have e : opn frm id ps ps.length = [] := by unfold opn; rw [if_neg (by omega)]
    rw [e]
    congr 2
    rw [List.append_assoc, List.eraseIdx_append_of_length_le (Nat.le_refl _), Nat.sub_self]
    simp
  · rw [if_neg (by omega), if_neg h]
    have e : opn frm id ps (i + 1) = [txP frm id ps (i + 1)] := by unfold opn; rw [if_pos (by omega)]
    rw [e]
    simp
theorem jadd_turn {pre post : List Tx} {L : Nat} {b : List UInt8} (hb : ps[i]? = some b) (h64 : ps.length ≤ 64) (hbl : b.length ≤ 8192) (hid : 0 ≤ id ∧ id ≤ 1099511627776) (hf : frm < 64) (hpre : Free frm id pre) (hpost : i = 0 → post = []) (h16 : pre.length + post.length ≤ 15) :
    jadd ⟨pre ++ opn frm id ps i ++ post, L⟩ frm ⟨id, (i : Int), (ps.length : Int), b⟩ = (⟨pre ++ opn frm id ps (i + 1) ++ post, L⟩, if i + 1 = ps.length then some ps.flatten else none, 0) := by
  have hi := (List.getElem?_eq_some_iff.1 hb).1
  have hmay : (⟨id, (i : Int), (ps.length : Int), b⟩ : Pt).may = true := Pt.may_iff.2 ⟨hid.1, hid.2, show (1 : Int) ≤ ps.length by omega, show (ps.length : Int) ≤ 64 by omega, show (0 : Int) ≤ i by omega, show (i : Int) < ps.length by omega, hbl⟩
  unfold jadd
  rw [hmay]
  simp only [Bool.true_and, hf, decide_true, if_true, Int.toNat_natCast]
  rw [open_at (by omega) hi hpre hpost h16]
  simp only
  rw [at_mid hb]
end
/-- Two texts by turns: how far each one is. -/
def apJ (frm to : Int) (ps qs : List (List UInt8)) (i k : Nat) : Jn := ⟨opn frm 1 ps i ++ opn to 2 qs k, 0⟩
theorem opn_mem {frm id : Int} {ps : List (List UInt8)} {i : Nat} {t : Tx} (h : t ∈ opn frm id ps i) : t.id = id := by
  unfold opn at h
  split at h
  · simp at h
    rw [h]
    rfl
  · cases h
theorem opn_len (frm id : Int) (ps : List (List UInt8)) (i : Nat) : (opn frm id ps i).length ≤ 1 := by
  unfold opn
  split <;> simp
section
variable {frm to : Int} {ps qs : List (List UInt8)} {i k : Nat} {b : List UInt8}
theorem apJ_one (hb : ps[i]? = some b) (h64 : ps.length ≤ 64) (hbl : b.length ≤ 8192) (hf : frm < 64) (h0 : i = 0 → k = 0) :
    jadd (apJ frm to ps qs i k) frm ⟨1, (i : Int), (ps.length : Int), b⟩ = (apJ frm to ps qs (i + 1) k, if i + 1 = ps.length then some ps.flatten else none, 0) := by
  have := jadd_turn (frm := frm) (id := 1) (pre := []) (post := opn to 2 qs k) (L := 0) hb h64 hbl ⟨by omega, by omega⟩ hf (fun t ht => by cases ht) (fun h => by rw [h0 h]; unfold opn; simp) (by have := opn_len to 2 qs k; simp; omega)
  simpa [apJ] using this
theorem apJ_two (hb : qs[k]? = some b) (h64 : qs.length ≤ 64) (hbl : b.length ≤ 8192) (hf : to < 64) :
    jadd (apJ frm to ps qs i k) to ⟨2, (k : Int), (qs.length : Int), b⟩ = (apJ frm to ps qs i (k + 1), if k + 1 = qs.length then some qs.flatten else none, 0) := by
  have := jadd_turn (frm := to) (id := 2) (pre := opn frm 1 ps i) (post := []) (L := 0) hb h64 hbl ⟨by omega, by omega⟩ hf (fun t ht => by rw [opn_mem ht]; simp) (fun _ => rfl) (by have := opn_len frm 1 ps i; simp; omega)
  simpa [apJ] using this
theorem apJ_start : apJ frm to ps qs 0 0 = ⟨[], 0⟩ := by unfold apJ opn; simp
theorem apJ_end (hi : ps.length ≤ i) (hk : qs.length ≤ k) : apJ frm to ps qs i k = ⟨[], 0⟩ := by unfold apJ opn; rw [if_neg (by omega), if_neg (by omega)]; rfl
end
end Go.Proofs.YtemeglofblnnmaaDoor
