/- A text's parts, plain: they make the text. -/
import Derived.Test.YtemeglofblnnmaaDoorJnS
import Derived.Test.YtemeglofblnnmaaDoorJnQ
namespace Go.Proofs.YtemeglofblnnmaaDoor
open Go.RowKit
set_option linter.unusedVariables false

/-- The parts' bytes. -/
def chunksOf (room : Nat) (b : List UInt8) : List (List UInt8) := (List.range (nPt b.length room)).map (chunkOf room b)
theorem chunks_len (room : Nat) (b : List UInt8) : (chunksOf room b).length = nPt b.length room := by simp [chunksOf]
theorem parts_len (id : Int) (room : Nat) (b : List UInt8) : (partsOf id room b).length = nPt b.length room := by simp [partsOf]
theorem parts_at (id : Int) (room : Nat) (b : List UInt8) {i : Nat} (hi : i < nPt b.length room) :
    (partsOf id room b)[i]? = some ⟨id, (i : Int), ((chunksOf room b).length : Int), chunkOf room b i⟩ ∧ (chunksOf room b)[i]? = some (chunkOf room b i) := by
  constructor
  · unfold partsOf
    rw [List.getElem?_map, List.getElem?_range hi, chunks_len]
    rfl
  · unfold chunksOf
    rw [List.getElem?_map, List.getElem?_range hi]
    rfl
theorem chunk_small (room : Nat) (b : List UInt8) (i : Nat) : (chunkOf room b i).length ≤ room := by
  unfold chunkOf
  rw [List.length_take]
  omega
theorem flat_upto (room : Nat) (b : List UInt8) (m : Nat) : ((List.range m).map (chunkOf room b)).flatten = b.take (m * room) := by
  induction m with
  | zero => simp
  | succ m ih =>
    rw [List.range_succ, List.map_append, List.flatten_append, ih]
    unfold chunkOf
    rw [Nat.add_mul, Nat.one_mul, List.take_add]
    simp
theorem nPt_pos (len room : Nat) (hr : 1 ≤ room) : 1 ≤ nPt len room := by
  unfold nPt
  split
  · omega
  · rename_i h
    have : room ≤ len + room - 1 := by omega
    exact Nat.div_pos this hr
theorem nPt_mul (len room : Nat) (hr : 1 ≤ room) : len ≤ nPt len room * room := by
  unfold nPt
  split
  · omega
  · have h := Nat.div_add_mod (len + room - 1) room
    have h2 := Nat.mod_lt (len + room - 1) (show room > 0 by omega)
    rw [Nat.mul_comm] at h
    omega
theorem nPt_le {len room m : Nat} (hr : 1 ≤ room) (hm : 1 ≤ m) (h : len ≤ m * room) : nPt len room ≤ m := by
  unfold nPt
  split
  · exact hm
  · have : (len + room - 1) / room < m + 1 := by
      apply Nat.div_lt_of_lt_mul
      rw [Nat.mul_comm, Nat.add_mul]
      omega
    omega
theorem chunks_flat (room : Nat) (b : List UInt8) (hr : 1 ≤ room) : (chunksOf room b).flatten = b := by
  unfold chunksOf
  rw [flat_upto, List.take_of_length_le (nPt_mul _ _ hr)]
end Go.Proofs.YtemeglofblnnmaaDoor
