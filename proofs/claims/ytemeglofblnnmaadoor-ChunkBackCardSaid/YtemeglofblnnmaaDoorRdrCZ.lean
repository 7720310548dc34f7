/- ben.Reader: until. -/
import Derived.Test.YtemeglofblnnmaaDoorRdrBZ
namespace Go.Proofs.YtemeglofblnnmaaDoor
open Go.RowKit Go.Lib
set_option linter.unusedVariables false
attribute [local go_sem ↓] Go.wp_at_zero Go.wp_at_succ

theorem idx_bytes_n (A : Option Addr) (n c : Nat) (l : List UInt8) (hn : l.length = n) (b : UInt8) (w : World) (S : Nat → Prop) (hs : Src w S 1 A l.length (byteCells l)) (hl : n ≤ 9223372036854775807) :
    Calls Tryd.prog 54 #[.slice A n c, .int .u8 b.toNat] w fun e w' => e = .returned (.int .i64 (idxI l b)) ∧ w = w' := by
  subst hn
  exact idx_bytes A c l b w S hs hl
theorem take_min (b : List UInt8) (L m : Nat) (hm : m = min b.length (L + 1)) : b.take m = b.take (L + 1) := by
  rcases Nat.lt_or_ge b.length (L + 1) with h | h
  · rw [List.take_of_length_le (by omega), List.take_of_length_le (by omega)]
  · rw [show m = L + 1 by omega]
theorem idxI_some {b : List UInt8} {c : UInt8} {L i : Nat} (h : Rd.at? b c L = some i) : idxI (b.take (L + 1)) c = (i : Int) := by
  unfold idxI
  unfold Rd.at? at h
  rw [h]
theorem idxI_none {b : List UInt8} {c : UInt8} {L : Nat} (h : Rd.at? b c L = none) : idxI (b.take (L + 1)) c = -1 := by
  unfold idxI
  unfold Rd.at? at h
  rw [h]

set_option maxRecDepth 100000 in
theorem rdr_until_none (g : Nat) (b : List UInt8) (c : UInt8) (L : Nat) (hL : L ≤ 100) (hx : Rd.at? b c L = none) (w : World) (h : RdAt w g ⟨b, 0⟩) :
    Calls Tryd.prog 45 #[.pointer (some ⟨g, 0, none⟩), .int .u8 c.toNat, .int .i64 L] w fun x w' => x = .returned (.tuple #[.int .i64 0, .bool false]) ∧ RdAt w' g (Rd.stop (if L < b.length then 4 else 3)) ∧ Only (At g) w w' := by
  have H := Lib.hid h
  obtain ⟨hs, A, cc, h1, h2, h3, h4⟩ := h
  simp only at h1 h2 h3
  have c0 := h1.cell 0
  simp at c0
  obtain ⟨m, hm⟩ : ∃ m, m = min b.length (L + 1) := ⟨_, rfl⟩
  obtain ⟨A', hsl, hs2⟩ := slice_to cc m h2 (by omega) h3
  have hb : b.length ≤ 9223372036854775807 := by omega
  have hwr : IntKind.i64.wrap ((L : Int) + 1) = (L : Int) + 1 := IntWalk.i64_in _ (by omega)
  have hmn : min (b.length : Int) ((L : Int) + 1) = (m : Int) := by omega
  have hif : (if (L : Int) + 1 < (b.length : Int) then (L : Int) + 1 else (b.length : Int)) = (m : Int) := by split <;> omega
  have hml : m ≤ 9223372036854775807 := by omega
  have HS := Lib.hid hs2
  have HM := Lib.hid (take_min b L m hm)
  have HL := Lib.hid (show (b.take m).length = m by rw [List.length_take]; omega)
  have HI := Lib.hid (idxI_none hx)
  clear h1 h2 hs hs2 hm hx h3
  by_cases hlt : L < b.length
  all_goals
    first | rw [if_pos hlt] | rw [if_neg hlt]
    go_enter Tryd.func45, Tryd.ntmps45
    go_wp2_with fail
    go_region_held3 (fun w' => w'.cell? ⟨g, 0, none⟩ = some (.slice A b.length cc)) (go_keep)
      ((go_at_call 54; refine (idx_bytes_n A' m cc (b.take m) HL.out c _ _ HS.out.drew hml).mono ?_; rintro e w1 ⟨rfl, rfl⟩; rw [HM.out, HI.out]))
    go_wp2_with (go_at_call 44; refine (rdr_fail g _ _ (by decide) _ (H.out.noth (Only.refl Noth w).drew)).mono ?_; rintro e w1 ⟨rfl, hr, ho⟩; have HR := Lib.hid hr; have HO := Lib.hid ho; clear hr ho)
    go_ret2
    exact ⟨rfl, HR.out, HO.out.undrew⟩
end Go.Proofs.YtemeglofblnnmaaDoor
