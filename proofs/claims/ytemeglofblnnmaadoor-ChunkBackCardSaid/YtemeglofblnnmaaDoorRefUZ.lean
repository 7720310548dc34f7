/- The document's reader: until, stop. -/
import Derived.Test.YtemeglofblnnmaaDoorRefL
import Derived.Test.YtemeglofblnnmaaDoorRdrCZ
namespace Go.Proofs.YtemeglofblnnmaaDoor
open Go.RowKit Go.Lib
set_option linter.unusedVariables false
set_option maxRecDepth 100000
attribute [local go_sem ↓] Go.wp_at_zero Go.wp_at_succ

theorem at_hit {l : List UInt8} {c : UInt8} {k m : Nat} (hn : NoC l c k) (hk : l[k]? = some c) (hm : k ≤ m) : Rd.at? l c m = some k := by
  unfold Rd.at?
  rw [List.findIdx?_eq_some_iff_getElem]
  have hlt := (List.getElem?_eq_some_iff.1 hk).1
  refine ⟨by rw [List.length_take]; omega, by have := (List.getElem?_eq_some_iff.1 hk).2; simp [this], fun j hj => ?_⟩
  have := hn j l[j] hj (List.getElem?_eq_getElem (by omega))
  simp [this]
theorem at_miss {l : List UInt8} {c : UInt8} {k m : Nat} (hn : NoC l c k) (hk : l.length ≤ k ∨ m < k) : Rd.at? l c m = none := by
  unfold Rd.at?
  rw [List.findIdx?_eq_none_iff]
  intro x hx
  obtain ⟨j, hj, rfl⟩ := List.getElem_of_mem hx
  rw [List.length_take] at hj
  rw [List.getElem_take]
  exact hn j _ (by omega) (List.getElem?_eq_getElem (by omega))
/-- What until tells. -/
def untilR (l : List UInt8) (c : UInt8) (m : Nat) : List UInt8 × Int := match Rd.at? l c m with
  | some i => (l.take i, 0)
  | none => ([], if m < l.length then 4 else 3)
theorem until_ret {l : List UInt8} {c : UInt8} {m : Nat} {s : ByteArray} {e : Int} {x : List UInt8 × Int} (h : untilR l c m = x) (hs : s = ⟨x.1.toArray⟩) (he : e = x.2) :
    Ending.returned (.tuple #[.string s, .int .i64 e]) = .returned (.tuple #[.string ⟨(untilR l c m).1.toArray⟩, .int .i64 (untilR l c m).2]) := by rw [h, hs, he]
theorem ref_until (A : Option Addr) (n cp : Nat) (l : List UInt8) (hln : l.length = n) (c : UInt8) (m : Nat) (hm : m ≤ 100) (w : World) (S : Nat → Prop) (hs : Src w S 1 A l.length (byteCells l)) (h1 : l.length ≤ cp) (h2 : cp ≤ 9223372036854775807) :
    Calls Tryd.prog 47 #[.slice A n cp, .int .u8 c.toNat, .int .i64 m] w
      fun e w' => e = .returned (.tuple #[.string ⟨(untilR l c m).1.toArray⟩, .int .i64 (untilR l c m).2]) ∧ w = w' := by
  subst hln
  have HS := Lib.hid hs
  have hl : l.length ≤ 9223372036854775807 := by omega
  have hm0 : (0 : Int) ≤ m := by omega
  have hc0 : (0 : Int) ≤ c.toNat := by omega
  have hc1 : (c.toNat : Int) ≤ 255 := by have := c.toNat_lt; omega
  clear hs
  go_enter Tryd.func47, Tryd.ntmps47
  go_wp2_with fail
  go_loop [8] (fun i => ∃ k : Nat, k ≤ l.length ∧ k ≤ m + 1 ∧ i = .int .i64 k ∧ NoC l c k) (fun i => l.length - (RowKit.intOf i).toNat)
  case atStart => exact ⟨0, Nat.zero_le _, Nat.zero_le _, rfl, fun j d hj => absurd hj (by omega)⟩
  case round =>
    obtain ⟨k, hk, hkm, rfl, hn⟩ := hrel
    have HN := Lib.hid hn
    clear hn
    by_cases hlt : k < l.length
    · have d1 : decide (k < l.length) = true := by simpa using hlt
      by_cases hkm2 : k ≤ m
      · have d2 : decide (k ≤ m) = true := by simpa using hkm2
        obtain ⟨ad, rfl, _, _, hcell⟩ := HS.out.2 (by omega)
        obtain ⟨d, hd⟩ : ∃ d, l[k]? = some d := ⟨_, List.getElem?_eq_getElem hlt⟩
        have hk1 := hcell k (.int .u8 d.toNat) (by simp only [byteCells, List.getElem?_map, hd]; rfl)
        have hb0 : (0 : Int) ≤ k := by omega
        have hb1 : (k : Int) < l.length := by omega
        obtain ⟨A', hsl, hs3⟩ := slice_to cp k HS.out (by omega) h1
        have hcv := conv_b8n k cp (show (l.take k).length = k by rw [List.length_take]; omega) (by rw [show (l.take k).length = k by rw [List.length_take]; omega] at hs3; exact hs3)
        have HD := Lib.hid hd
        clear hcell hd hs3
        have ub := u8_beq d c
        cases hdc : (d == c)
        · rw [hdc] at ub
          go_wp2
          go_round
          case rel =>
            refine ⟨k + 1, by omega, by omega, by go_num, fun j x hj hx => ?_⟩
            by_cases hjk : j = k
            · subst hjk
              rw [HD.out] at hx
              injection hx with hx
              rw [← hx]; exact hdc
            · exact HN.out j x (by omega) hx
          case measure => simp [RowKit.intOf]; omega
        · rw [hdc] at ub
          obtain rfl : d = c := by simpa using hdc
          go_wp2
          go_ret2
          refine ⟨until_ret (x := (l.take k, 0)) (by unfold untilR; rw [at_hit HN.out HD.out hkm2]) rfl rfl, rfl⟩
      · have d2 : decide (k ≤ m) = false := by simpa using hkm2
        have hml : (m : Int) < l.length := by omega
        have d3 : decide (m < l.length) = true := by simp; omega
        go_wp2
        go_ret2
        refine ⟨until_ret (x := ([], 4)) (by unfold untilR; rw [at_miss HN.out (.inr (by omega)), if_pos (by omega)]) rfl rfl, rfl⟩
    · have d1 : decide (k < l.length) = false := by simpa using hlt
      by_cases hml : m < l.length
      · have d3 : decide (m < l.length) = true := by simpa using hml
        go_wp2
        go_ret2
        refine ⟨until_ret (x := ([], 4)) (by unfold untilR; rw [at_miss HN.out (.inl (by omega)), if_pos hml]) rfl rfl, rfl⟩
      · have d3 : decide (m < l.length) = false := by simpa using hml
        go_wp2
        go_ret2
        refine ⟨until_ret (x := ([], 3)) (by unfold untilR; rw [at_miss HN.out (.inl (by omega)), if_neg hml]) rfl rfl, rfl⟩
end Go.Proofs.YtemeglofblnnmaaDoor
