/- The reference of layer 31: a piece out of the bytes. -/
import Derived.Test.YtemeglofblnnmaaJnW
import Derived.Test.YtemeglofblnnmaaJnT
namespace Go.Proofs.Ytemeglofblnnmaa
open Go.RowKit Go.Lib
set_option linter.unusedVariables false
set_option linter.unusedSimpArgs false

theorem bs_mid {w : World} {S : Nat → Prop} {A : Option Addr} {l : List UInt8} {c : Nat} (i k : Nat) (h : BsAt w S (.slice A l.length c) l) (hi : i ≤ k) (hk : k ≤ l.length) :
    ∃ A', (∀ V : World, (Instr.slice 22 (.slice A l.length c) (some (.int .i64 i)) (some (.int .i64 k)) none).run Try.prog V = .ok (.slice A' (k - i) (c - i)) V) ∧ BsAt w S (.slice A' (k - i) (c - i)) ((l.take k).drop i) := by
  obtain ⟨A0, c0, e, h, hc, hm⟩ := h
  injection e with e1 _ e3
  subst e1 e3
  unfold maxLen at hm
  have hlen : ((l.take k).drop i).length = k - i := by rw [List.length_drop, List.length_take]; omega
  refine ⟨if c = i then A else A.map (·.add (i * 1)), fun V => ?_, _, c - i, by rw [hlen], ?_, by omega, by unfold maxLen; omega⟩
  · have hz := Try.sizeOf5 V
    have hr := run_slice_lh (P := Try.prog) V 22 A l.length c (by kernel_rfl) .i64 .i64 (i : Int) (k : Int) (by omega) (by omega) (by omega)
    rw [show Try.prog.elem 22 = 5 by kernel_rfl, hz] at hr
    rw [hr]
    simp [Result.andThen, sliced]
  · rw [hlen]
    refine ⟨by simp [byteCs]; omega, fun hn => ?_⟩
    obtain ⟨ad, rfl, hS, hlt, hcell⟩ := h.2 (by omega)
    by_cases hck : c = i
    · omega
    · rw [if_neg hck]
      refine ⟨ad.add (i * 1), rfl, by rw [block_add]; exact hS, by rw [block_add]; exact hlt, fun j u hu => ?_⟩
      rw [Go.Addr.add_add, Nat.mul_one]
      refine hcell (i + j) u ?_
      simp only [byteCs, List.map_drop, List.map_take, List.getElem?_drop] at hu ⊢
      rw [List.getElem?_take] at hu
      split at hu
      · exact hu
      · cases hu
theorem mid_chunk (room : Nat) (b : List UInt8) (i : Nat) : (b.take (min b.length ((i + 1) * room))).drop (i * room) = chunkOf room b i := by
  unfold chunkOf
  rw [List.drop_take, Nat.add_mul, Nat.one_mul]
  by_cases h : b.length ≤ i * room + room
  · rw [Nat.min_eq_left h, List.take_of_length_le (by rw [List.length_drop]; exact Nat.le_refl _), List.take_of_length_le (by rw [List.length_drop]; omega)]
  · rw [Nat.min_eq_right (by omega), Nat.add_sub_cancel_left]
end Go.Proofs.Ytemeglofblnnmaa
