/- A string as bytes of its own (for a seat without ben.Reader). -/
import Derived.Test.YtokgignmdgejoaaDoorConvY
import Derived.Deep.DrawnRows
import Derived.Lib.ConvBytes
namespace Go.Proofs.YtokgignmdgejoaaDoor
open Go.RowKit Go.Lib
set_option linter.unusedVariables false
set_option maxRecDepth 100000

theorem only_bytes (w : World) (t : TypeId) (s : ByteArray) : Only Noth w (bytesWorld w t s) :=
  ⟨rfl, rfl, rfl, by rw [bytesWorld_size]; omega, fun k hk _ => bytesWorld_at_old w t s k hk⟩
theorem conv_bytes (s : ByteArray) (hs : s.size ≤ 9223372036854775807) (w : World) : ∃ A c W, (convert 9 75 (.string s)).run Tryd.prog w = .ok (.slice A s.size c) W ∧ Part W (.slice A s.data.toList.length c) s.data.toList ∧ Only Noth w W := by
  have hr := Go.Lib.run_convert_string_bytes (P := Tryd.prog) w 9 75 5 s Tryd.underlying9 Tryd.underlying75 Tryd.underlying5
  have hge := grownCap_ge w s.size 0 5
  have hcm : grownCap w s.size 0 5 ≤ maxLen := grownCap_le_maxLen w s.size 0 5 (by simpa [maxLen] using hs)
  refine ⟨_, _, _, hr, ⟨_, _, rfl, ?_, hge, by simpa [maxLen] using hcm⟩, only_bytes w _ s⟩
  have e : s.data.toList.length = s.size := rfl
  refine ⟨by rw [cells_length]; omega, fun hn => ⟨_, rfl, by rw [bytesWorld_size]; simp, by rw [bytesWorld_size]; simp, fun j u hu => ?_⟩⟩
  rw [add_plain', Nat.zero_add]
  have hj : j < s.size := by
    have := (List.getElem?_eq_some_iff.1 hu).1
    rw [cells_length] at this
    exact this
  rw [bytesWorld_cell w _ s j hj, ← hu, byteCells, List.getElem?_map, List.getD]
  have hj2 : j < s.data.toList.length := hj
  rw [List.getElem?_eq_getElem hj2]
  rfl


theorem conv_bytes_n (s : ByteArray) (hs : s.size ≤ 9223372036854775807) (w : World) : ∃ A c W, (convert 9 75 (.string s)).run Tryd.prog w = .ok (.slice A s.size c) W ∧ (Src W (New w) 1 A s.data.toList.length (byteCells s.data.toList) ∧ s.data.toList.length ≤ c ∧ c ≤ 9223372036854775807) ∧ Only Noth w W := by
  have hr := Go.Lib.run_convert_string_bytes (P := Tryd.prog) w 9 75 5 s Tryd.underlying9 Tryd.underlying75 Tryd.underlying5
  have hge := grownCap_ge w s.size 0 5
  have hcm : grownCap w s.size 0 5 ≤ maxLen := grownCap_le_maxLen w s.size 0 5 (by simpa [maxLen] using hs)
  refine ⟨_, _, _, hr, ⟨?_, hge, by simpa [maxLen] using hcm⟩, only_bytes w _ s⟩
  have e : s.data.toList.length = s.size := rfl
  refine ⟨by rw [cells_length]; omega, fun hn => ⟨_, rfl, Nat.le_refl _, by rw [bytesWorld_size]; simp, fun j u hu => ?_⟩⟩
  rw [add_plain', Nat.zero_add]
  have hj : j < s.size := by
    have := (List.getElem?_eq_some_iff.1 hu).1
    rw [cells_length] at this
    exact this
  rw [bytesWorld_cell w _ s j hj, ← hu, byteCells, List.getElem?_map, List.getD]
  have hj2 : j < s.data.toList.length := hj
  rw [List.getElem?_eq_getElem hj2]
  rfl
/-- Bytes that a call hands back: they can be read; nothing that was there is turned. -/
def GivenP (w : World) (l : List UInt8) (e : Ending) (w' : World) : Prop := ∃ A c, e = .returned (.slice A l.length c) ∧ Part w' (.slice A l.length c) l ∧ Only Noth w w'
theorem Given.p {w w' : World} {l : List UInt8} {e : Ending} (h : Given w l e w') : GivenP w l e w' := h.part
end Go.Proofs.YtokgignmdgejoaaDoor
