/- Alerts by rising keys, in plain Lean: sorted lists. -/
import Derived.Test.YtokgignmdgejoaaDoorStrY
import Derived.Maps.OwnSet
namespace Go.Proofs.YtokgignmdgejoaaDoor
open Go.RowKit Go.Lib
set_option linter.unusedVariables false

theorem ba_inj {a b : ByteArray} (h : a.data.toList = b.data.toList) : a = b := Go.WideShapes.bytes_inj h
/-- A label. -/
structure Pr where
  name : ByteArray
  val : ByteArray
/-- An alert as a store has it: its key, its labels, where they lie, its times. -/
structure Al where
  key : ByteArray
  ls : List Pr
  blk : Nat
  cap : Nat
  st : Int
  en : Int
/-- A key's bytes. -/
def Al.kb (e : Al) : List UInt8 := e.key.data.toList
theorem kb_key {a b : Al} : a.kb = b.kb ↔ a.key = b.key := ⟨fun h => ba_inj h, fun h => by unfold Al.kb; rw [h]⟩
/-- Entries by rising keys: one is put in. -/
def cins (e : Al) : List Al → List Al
  | [] => [e]
  | y :: r => if bytesBefore e.kb y.kb then e :: y :: r else y :: cins e r
def cput (e : Al) (L : List Al) : List Al := cins e (L.filter fun x => !(x.kb == e.kb))
def cget (k : List UInt8) (L : List Al) : Option Al := L.find? fun x => x.kb == k
def Srt (L : List Al) : Prop := L.Pairwise fun a b => bytesBefore a.kb b.kb = true
theorem before_ne {a b : List UInt8} (h : bytesBefore a b = true) : a ≠ b := fun e => by rw [e, WideAt.bytes_irrefl] at h; cases h
theorem before_anti {a b : List UInt8} (h : bytesBefore a b = true) : bytesBefore b a = false := by
  cases h2 : bytesBefore b a
  · rfl
  · have := WideShapes.bytes_trans _ _ _ h h2
    rw [WideAt.bytes_irrefl] at this
    cases this
theorem cins_mem {e x : Al} {L : List Al} : x ∈ cins e L ↔ x = e ∨ x ∈ L := by
  induction L with
  | nil => simp [cins]
  | cons y r ih =>
    simp only [cins]
    split
    · simp
    · simp only [List.mem_cons, ih]
      exact ⟨fun h => by rcases h with h | h | h <;> simp [h], fun h => by rcases h with h | h | h <;> simp [h]⟩
theorem cins_srt {e : Al} {L : List Al} (h : Srt L) (hn : ∀ x ∈ L, x.kb ≠ e.kb) : Srt (cins e L) := by
  induction L with
  | nil => simp [cins, Srt]
  | cons y r ih =>
    have h1 := List.pairwise_cons.1 h
    simp only [cins]
    split
    · rename_i hb
      refine List.pairwise_cons.2 ⟨fun x hx => ?_, h⟩
      rcases List.mem_cons.1 hx with rfl | hx
      · exact hb
      · exact WideShapes.bytes_trans _ _ _ hb (h1.1 x hx)
    · rename_i hb
      refine List.pairwise_cons.2 ⟨fun x hx => ?_, ih h1.2 (fun x hx => hn x (by simp [hx]))⟩
      rcases cins_mem.1 hx with rfl | hx
      · rcases WideAt.bytes_total _ _ (hn y (by simp)) with h2 | h2
        · exact h2
        · exact absurd h2 hb
      · exact h1.1 x hx
theorem filter_srt {L : List Al} (p : Al → Bool) (h : Srt L) : Srt (L.filter p) := List.Pairwise.filter p h
theorem cput_mem {e x : Al} {L : List Al} : x ∈ cput e L ↔ x = e ∨ (x ∈ L ∧ x.kb ≠ e.kb) := by
  unfold cput
  rw [cins_mem, List.mem_filter]
  simp
theorem cput_srt {e : Al} {L : List Al} (h : Srt L) : Srt (cput e L) :=
  cins_srt (filter_srt _ h) (fun x hx => by have := (List.mem_filter.1 hx).2; simpa using this)
theorem srt_key {L : List Al} (h : Srt L) {a b : Al} (ha : a ∈ L) (hb : b ∈ L) (hk : a.kb = b.kb) : a = b := by
  induction L with
  | nil => cases ha
  | cons y r ih =>
    have h1 := List.pairwise_cons.1 h
    rcases List.mem_cons.1 ha with ea | ha2
    · rcases List.mem_cons.1 hb with eb | hb2
      · rw [ea, eb]
      · rw [ea] at hk
        exact absurd hk (before_ne (h1.1 b hb2))
    · rcases List.mem_cons.1 hb with eb | hb2
      · rw [eb] at hk
        exact absurd hk.symm (before_ne (h1.1 a ha2))
      · exact ih h1.2 ha2 hb2
theorem cget_some {k : List UInt8} {L : List Al} {x : Al} (h : cget k L = some x) : x ∈ L ∧ x.kb = k := by
  unfold cget at h
  exact ⟨List.mem_of_find?_eq_some h, by have := List.find?_some h; simpa using this⟩
theorem cget_none {k : List UInt8} {L : List Al} : cget k L = none ↔ ∀ x ∈ L, x.kb ≠ k := by
  unfold cget
  rw [List.find?_eq_none]
  simp
theorem cget_iff {k : List UInt8} {L : List Al} (hs : Srt L) {x : Al} : cget k L = some x ↔ x ∈ L ∧ x.kb = k := by
  refine ⟨cget_some, fun ⟨h1, h2⟩ => ?_⟩
  cases hg : cget k L with
  | none => exact absurd h2 (cget_none.1 hg x h1)
  | some y =>
    obtain ⟨h3, h4⟩ := cget_some hg
    rw [srt_key hs h1 h3 (h2.trans h4.symm)]
/-- Two sorted lists with the same entries are one. -/
theorem srt_ext {L M : List Al} (hL : Srt L) (hM : Srt M) (h : ∀ x, x ∈ L ↔ x ∈ M) : L = M := by
  induction L generalizing M with
  | nil =>
    cases M with
    | nil => rfl
    | cons y r => exact absurd ((h y).2 (by simp)) (by simp)
  | cons a r ih =>
    cases M with
    | nil => exact absurd ((h a).1 (by simp)) (by simp)
    | cons b s =>
      have h1 := List.pairwise_cons.1 hL
      have h2 := List.pairwise_cons.1 hM
      have hab : a = b := by
        rcases List.mem_cons.1 ((h a).1 (by simp)) with e | e
        · exact e
        · rcases List.mem_cons.1 ((h b).2 (by simp)) with f | f
          · exact f.symm
          · have := before_anti (h1.1 b f)
            rw [h2.1 a e] at this
            cases this
      subst hab
      rw [ih h1.2 h2.2 (fun x => ?_)]
      constructor
      · intro hx
        rcases List.mem_cons.1 ((h x).1 (by simp [hx])) with e | e
        · subst e
          exact absurd rfl (before_ne (h1.1 x hx))
        · exact e
      · intro hx
        rcases List.mem_cons.1 ((h x).2 (by simp [hx])) with e | e
        · subst e
          exact absurd rfl (before_ne (h2.1 x hx))
        · exact e
theorem cput_len {e : Al} {L : List Al} (h : Srt L) : (cput e L).length = if (cget e.kb L).isSome then L.length else L.length + 1 := by
  have hc : ∀ M : List Al, (cins e M).length = M.length + 1 := by
    intro M
    induction M with
    | nil => rfl
    | cons y r ih =>
      simp only [cins]
      split
      · rfl
      · simp [ih]
  have key : ∀ M : List Al, Srt M → (M.filter fun x => !(x.kb == e.kb)).length + (if (cget e.kb M).isSome then 1 else 0) = M.length := by
    intro M hM
    induction M with
    | nil => rfl
    | cons y r ih =>
      have h1 := List.pairwise_cons.1 hM
      have ih := ih h1.2
      unfold cget at ih ⊢
      by_cases hk : y.kb = e.kb
      · have hno : r.find? (fun x => x.kb == e.kb) = none := by
          rw [List.find?_eq_none]
          intro x hx
          have := before_ne (h1.1 x hx)
          simp only [beq_iff_eq]
          intro hxe
          exact this (hk.trans hxe.symm)
        rw [hno] at ih
        simp only [List.filter_cons, List.find?_cons, hk, beq_self_eq_true, Bool.not_true, Bool.false_eq_true, if_false, Option.isSome_some, if_true, List.length_cons]
        simp only [Option.isSome_none, Bool.false_eq_true, if_false, Nat.add_zero] at ih
        omega
      · have hb : (y.kb == e.kb) = false := by simpa using hk
        simp only [List.filter_cons, List.find?_cons, hb, Bool.not_false, if_true, List.length_cons]
        omega
  have := key L h
  unfold cput
  rw [hc]
  split
  · rename_i hs
    rw [if_pos hs] at this
    omega
  · rename_i hs
    rw [if_neg hs] at this
    omega
end Go.Proofs.YtokgignmdgejoaaDoor
