/- []byte as a string and back. -/
import Derived.Test.YtokgignmdgejoaaDoorStrY
import Derived.Lib.SlBytesConst
namespace Go.Proofs.YtokgignmdgejoaaDoor
open Go.RowKit Go.Lib
set_option linter.unusedVariables false

theorem conv_b8 {S : Nat → Prop} {A : Option Addr} {l : List UInt8} {w : World} (c : Nat) (hs : Src w S 1 A l.length (byteCells l)) :
    (convert 75 9 (.slice A l.length c)).run Tryd.prog w = .ok (.string ⟨l.toArray⟩) w := by
  cases A with
  | none =>
    have hl : l.length = 0 := by
      rcases Nat.eq_zero_or_pos l.length with h | h
      · exact h
      · obtain ⟨ad, h, _⟩ := hs.2 h
        cases h
    obtain rfl : l = [] := List.eq_nil_of_length_eq_zero hl
    exact run_convert_bytes_nil w 75 5 Tryd.underlying75 Tryd.underlying5 _ c 9 Tryd.underlying9
  | some a =>
    have hld : (loadCells a l.length).run Tryd.prog w = .ok ((l.map fun b => (b.toNat : Int)).map (Value.int .u8)).toArray w := by
      have hc : ∀ j v, (byteCells l)[j]? = some v → w.cell? (a.add j) = some v := by
        rcases Nat.eq_zero_or_pos l.length with h | h
        · intro j v hj
          obtain rfl : l = [] := List.eq_nil_of_length_eq_zero h
          simp [byteCells] at hj
        · obtain ⟨ad, h, _, _, hc⟩ := hs.2 h
          injection h with h
          subst h
          exact hc
      have := run_loadCells_list (P := Tryd.prog) w a (byteCells l) hc
      rw [cells_length] at this
      rw [this]
      simp [byteCells]
    have hn : l.length = (l.map fun b => (b.toNat : Int)).length := by simp
    rw [run_convert_bytes_string w 75 9 5 _ l.length c Tryd.underlying75 Tryd.underlying5 Tryd.underlying9, run_bytesToString w a l.length c _ hld, foldl_push_bytes]
    simp [ByteArray.empty, ByteArray.emptyWithCapacity, Function.comp_def]
    rfl
theorem conv_b8n {S : Nat → Prop} {A : Option Addr} {l : List UInt8} {w : World} (n c : Nat) (hn : l.length = n) (hs : Src w S 1 A n (byteCells l)) :
    (convert 75 9 (.slice A n c)).run Tryd.prog w = .ok (.string ⟨l.toArray⟩) w := by
  subst hn
  exact conv_b8 c hs
theorem Part.conv {w : World} {A : Option Addr} {c : Nat} {l : List UInt8} (h : Part w (.slice A l.length c) l) : (convert 75 9 (.slice A l.length c)).run Tryd.prog w = .ok (.string ⟨l.toArray⟩) w := by
  obtain ⟨A', c', e, hs, _, _⟩ := h
  have e1 : A = A' := (Value.slice.inj e).1
  subst e1
  exact conv_b8 c hs
end Go.Proofs.YtokgignmdgejoaaDoor
