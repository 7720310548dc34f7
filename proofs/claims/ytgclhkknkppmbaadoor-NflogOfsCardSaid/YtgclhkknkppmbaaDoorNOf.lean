/- nflog.Of: plainly, and in memory. -/
import Derived.Test.YtgclhkknkppmbaaDoorNflB
import Derived.Test.YtgclhkknkppmbaaDoorNflC
import Derived.Test.YtgclhkknkppmbaaDoorOrdB
import Derived.Test.YtgclhkknkppmbaaDoorOrdE
import Derived.Test.YtgclhkknkppmbaaDoorCvb
import Derived.Deep.CutRange
namespace Go.Proofs.YtgclhkknkppmbaaDoor
open Go.RowKit Go.Lib
set_option linter.unusedVariables false
set_option maxRecDepth 100000
attribute [local go_sem ↓] Go.wp_at_zero Go.wp_at_succ

/-- The sending that an entry's key is read as, and the reader behind it. -/
def rdS (e : Ent) : Rd × Snd :=
  let a := (Rd.byte ⟨e.key.data.toList.drop 1, 0⟩ 108).text 1024
  let b := a.1.text 1024
  (b.1, ⟨⟨a.2.toArray⟩, ⟨b.2.toArray⟩, e.val, e.time⟩)
def zs : Snd := ⟨⟨#[]⟩, ⟨#[]⟩, ⟨#[]⟩, 0⟩
def ofB (e : Ent) : Bool := ((rdS e).2.ent e.org (e.til - e.time)).1.same e && ((rdS e).2.ent e.org (e.til - e.time)).2 == 0
def ofR (e : Ent) : Snd × Bool := if ofB e then ((rdS e).2, true) else (zs, false)
theorem ofB_iff {e : Ent} : ofB e = true ↔ (rdS e).2.ent e.org (e.til - e.time) = (e, 0) := by
  unfold ofB
  rw [Bool.and_eq_true, same_iff, beq_iff_eq]
  constructor
  · rintro ⟨h1, h2⟩; exact Prod.ext h1 h2
  · intro h; rw [h]; exact ⟨rfl, rfl⟩
theorem ent_ok {s : Snd} {o k : Int} {e : Ent} (h : s.ent o k = (e, 0)) : s.rcv.toList ≠ [] ∧ s.key.toList ≠ [] ∧ s.k.length ≤ 1024 ∧ s.rev.size ≤ 8192 ∧ okT s.at_ = true ∧ okT k = true ∧ okT (s.at_ + k) = true ∧ e = ⟨⟨s.k.toArray⟩, s.at_, o, s.rev, s.at_ + k⟩ := by
  unfold Snd.ent at h
  split at h
  · simp at h
  · rename_i h1
    split at h
    · simp at h
    · rename_i h2
      split at h
      · simp at h
      · rename_i h3
        simp only [Prod.mk.injEq, and_true] at h
        simp only [not_or] at h1 h2 h3
        refine ⟨h1.1, h1.2, by omega, by omega, ?_, ?_, ?_, h.symm⟩
        · simpa using h3.1
        · simpa using h3.2.1
        · simpa using h3.2.2
theorem ofR_no {e : Ent} (h : ofB e = false) : ofR e = (zs, false) := by unfold ofR; rw [h]; rfl
theorem ofR_yes {e : Ent} (h : ofB e = true) : ofR e = ((rdS e).2, true) := by unfold ofR; rw [h]; rfl
theorem ofB_key {e : Ent} (h : ofB e = true) : ∃ t, e.key.data.toList = 110 :: t := by
  have := (ent_ok (ofB_iff.1 h)).2.2.2.2.2.2.2
  refine ⟨tList [tText (rdS e).2.rcv.data.toList, tText (rdS e).2.key.data.toList], ?_⟩
  have h2 := congrArg Ent.key this
  rw [h2]
  rfl
theorem ofB_time {e : Ent} (h : ofB e = true) : okT e.time = true ∧ okT e.til = true ∧ 0 ≤ e.til - e.time := by
  have := ent_ok (ofB_iff.1 h)
  have h5 : okT e.time = true := this.2.2.2.2.1
  have h6 := okT_iff.1 this.2.2.2.2.2.1
  have h7 : okT (e.time + (e.til - e.time)) = true := this.2.2.2.2.2.2.1
  rw [show e.time + (e.til - e.time) = e.til by omega] at h7
  exact ⟨h5, h7, h6.1⟩
theorem text_len (r : Rd) : (r.text 1024).2.length ≤ 1024 := by
  by_cases h : (r.text 1024).1.err = 0
  · have := (Rd.text_back h).2.2.1; omega
  · rw [Rd.text_err h]; simp
theorem rdS_len (e : Ent) : (rdS e).2.rcv.size ≤ 1024 ∧ (rdS e).2.key.size ≤ 1024 := by
  constructor
  · show (ByteArray.mk _).size ≤ 1024
    have := text_len (Rd.byte ⟨e.key.data.toList.drop 1, 0⟩ 108)
    show ((Rd.byte ⟨e.key.data.toList.drop 1, 0⟩ 108).text 1024).2.toArray.size ≤ 1024
    simpa using this
  · show (((Rd.byte ⟨e.key.data.toList.drop 1, 0⟩ 108).text 1024).1.text 1024).2.toArray.size ≤ 1024
    have := text_len ((Rd.byte ⟨e.key.data.toList.drop 1, 0⟩ 108).text 1024).1
    simpa using this
end Go.Proofs.YtgclhkknkppmbaaDoor
