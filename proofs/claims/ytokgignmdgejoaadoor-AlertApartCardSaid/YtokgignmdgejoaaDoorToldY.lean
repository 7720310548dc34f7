/- The document's numerals: told, Told. -/
import Derived.Test.YtokgignmdgejoaaDoorConvY
import Derived.Deep.DrawnRows
namespace Go.Proofs.YtokgignmdgejoaaDoor
open Go.RowKit Go.Lib
set_option linter.unusedVariables false
set_option maxRecDepth 100000
attribute [local go_sem ↓] Go.wp_at_zero Go.wp_at_succ

theorem digs_ext (k : Nat) (hk : k < 10) : (ByteArray.mk #[48, 49, 50, 51, 52, 53, 54, 55, 56, 57]).extract k (k + 1) = ⟨#[UInt8.ofNat (48 + k)]⟩ := by
  have : ∀ k : Fin 10, (ByteArray.mk #[48, 49, 50, 51, 52, 53, 54, 55, 56, 57]).extract k.1 (k.1 + 1) = ⟨#[UInt8.ofNat (48 + k.1)]⟩ := by decide +kernel
  exact this ⟨k, hk⟩
theorem ba_append_list (a b : ByteArray) : (a ++ b).data.toList = a.data.toList ++ b.data.toList := by simp
theorem ret_str {a b : ByteArray} (h : a = b) : Ending.returned (.string a) = .returned (.string b) := by rw [h]
theorem ba_mk {a : ByteArray} {l : List UInt8} (h : a.data.toList = l) : a = ⟨l.toArray⟩ := by subst h; rfl
theorem dec_step {k : Nat} (h : ¬ k < 10) : decDigits k = decDigits (k / 10) ++ [UInt8.ofNat (48 + k % 10)] := by
  rw [decDigits, dif_neg h]
theorem dec_len (m : Nat) (hm : m ≤ 18446744073709551615) : (decDigits m).length ≤ 20 := by
  rw [decDigits_length]
  have := nd_le m 19 (by omega)
  omega
set_option maxHeartbeats 1000000 in
theorem ref_told_low (m : Nat) (hm : m ≤ 18446744073709551615) (w : World) :
    Calls Tryd.prog 64 #[.int .u64 m] w fun e w' => e = .returned (.string ⟨(decDigits m).toArray⟩) ∧ w = w' := by
  have HM := Lib.hid (dec_len m hm)
  go_enter Tryd.func64, Tryd.ntmps64
  go_wp2_with fail
  go_loop [0, 3] (fun n s => ∃ (k : Nat) (b : ByteArray), k ≤ 18446744073709551615 ∧ n = .int .u64 k ∧ s = .string b ∧ decDigits m = decDigits k ++ b.data.toList) (fun n _ => (RowKit.intOf n).toNat)
  case atStart => exact ⟨m, ⟨#[]⟩, hm, rfl, rfl, by simp⟩
  case round =>
    obtain ⟨k, b, hk, rfl, rfl, h⟩ := hrel
    have hb : b.size ≤ 20 := by
      have h1 := HM.out
      rw [h, List.length_append] at h1
      have : b.data.toList.length = b.size := rfl
      omega
    have H := Lib.hid h
    have D := Lib.hid (digs_ext (k % 10) (by omega))
    clear h
    have h0 : (0 : Int) ≤ k := by omega
    have h1 : (k : Int) ≤ 18446744073709551615 := by omega
    have h2 : min (k % 10 + 1) 10 - k % 10 + b.size ≤ 9223372036854775807 := by omega
    by_cases hk10 : k < 10
    · have h3 : ((k : Int) / 10 == 0) = true := by simp; omega
      go_wp2
      go_ret
      refine ⟨?_, rfl⟩
      rw [D.out, H.out, decDigits, dif_pos hk10]
      refine ret_str (ba_mk ?_)
      rw [ba_append_list, show k % 10 = k by omega]
    · have h3 : ((k : Int) / 10 == 0) = false := by simp; omega
      go_wp2
      go_round
      case rel => exact ⟨k / 10, _, by omega, by go_num, rfl, by rw [D.out, ba_append_list, H.out, dec_step hk10, List.append_assoc]⟩
      case measure => simp [RowKit.intOf]; omega

theorem ref_told (n : Int) (h0 : -9223372036854775808 ≤ n) (h1 : n ≤ 9223372036854775807) (w : World) :
    Calls Tryd.prog 54 #[.int .i64 n] w fun e w' => e = .returned (.string ⟨(itoa n).toArray⟩) ∧ w = w' := by
  by_cases hn : n < 0
  · obtain ⟨m, rfl⟩ : ∃ m : Nat, n = -(m : Int) := ⟨n.natAbs, by omega⟩
    have hm : m ≤ 18446744073709551615 := by omega
    have hw1 : IntKind.i64.wrap (-(m : Int) + 1) = -(m : Int) + 1 := IntWalk.i64_in _ (by omega)
    have hw2 : IntKind.i64.wrap (-(-(m : Int) + 1)) = (m : Int) - 1 := by rw [IntWalk.i64_in _ (by omega)]; omega
    have hL := Lib.hid (show (decDigits m).length ≤ 20 from dec_len m hm)
    have hd : decide (-(m : Int) < 0) = true := by simpa using hn
    go_enter Tryd.func54, Tryd.ntmps54
    go_wp2_with fail
    obtain ⟨K, hK⟩ : ∃ K, (ByteArray.mk (decDigits m).toArray) = K := ⟨_, rfl⟩
    refine (ref_told_low m hm _).mono ?_
    rw [hK]
    rintro e w' ⟨rfl, rfl⟩
    have hs : K.size ≤ 20 := by
      rw [← hK]
      have : (ByteArray.mk (decDigits m).toArray).size = (decDigits m).length := by show (decDigits m).toArray.size = _; simp
      have := hL.out
      omega
    have HK := Lib.hid hK
    clear hK
    have hs1 : 1 + K.size ≤ 9223372036854775807 := by omega
    go_wp2
    go_ret
    refine ⟨ret_str (ba_mk ?_), rfl⟩
    rw [ba_append_list, ← HK.out, itoa_neg m (by omega)]
    simp
  · obtain ⟨m, rfl⟩ := Int.eq_ofNat_of_zero_le (Int.not_lt.1 hn)
    have hm : m ≤ 18446744073709551615 := by omega
    have hd : decide ((m : Int) < 0) = false := by simp
    go_enter Tryd.func54, Tryd.ntmps54
    go_wp2_with fail
    refine (ref_told_low m hm _).mono ?_
    rintro e w' ⟨rfl, rfl⟩
    go_wp2
    go_ret
    rw [itoa_nonneg]
    exact ⟨rfl, rfl⟩
end Go.Proofs.YtokgignmdgejoaaDoor
