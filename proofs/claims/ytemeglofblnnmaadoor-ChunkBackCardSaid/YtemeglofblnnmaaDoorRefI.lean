/- The document's bytes of a number. -/
import Derived.Test.YtemeglofblnnmaaDoorRefL
namespace Go.Proofs.YtemeglofblnnmaaDoor
open Go.RowKit Go.Lib
set_option linter.unusedVariables false
set_option maxRecDepth 100000
attribute [local go_sem ↓] Go.wp_at_zero Go.wp_at_succ

theorem ref_int (n : Int) (h0 : -9223372036854775808 ≤ n) (h1 : n ≤ 9223372036854775807) (w : World) :
    Calls Tryd.prog 22 #[.int .i64 n] w (GivenP w (tInt n)) := by
  obtain ⟨K, hK⟩ : ∃ K, (ByteArray.mk (itoa n).toArray) = K := ⟨_, rfl⟩
  have hs : K.size ≤ 20 := by rw [← hK, mk_size]; exact itoa_len20 n h0 h1
  have HK := Lib.hid hK
  clear hK
  obtain ⟨X, hX⟩ : ∃ X, (ByteArray.mk #[105]) ++ K ++ (ByteArray.mk #[101]) = X := ⟨_, rfl⟩
  have hXl : X.data.toList = tInt n := by rw [← hX, ba_append_list, ba_append_list, ← HK.out]; simp [tInt]
  have hXs : X.size ≤ 22 := by
    have : X.data.toList.length = X.size := rfl
    rw [← this, hXl, tInt_length]
    have := itoa_len20 n h0 h1
    omega
  obtain ⟨A, c, W, hcv, hp, ho⟩ := conv_bytes X (by omega) w
  have HP := Lib.hid hp
  have HO := Lib.hid ho
  have XL := Lib.hid hXl
  have HXX := Lib.hid hX
  have hs1 : 1 + K.size ≤ 9223372036854775807 := by omega
  have hs2 : 1 + K.size + 1 ≤ 9223372036854775807 := by omega
  clear hp ho hXl hX
  go_enter Tryd.func22, Tryd.ntmps22
  go_wp2_with fail
  refine (ref_told_v n h0 h1 K HK.out _).mono ?_
  rintro e w' ⟨rfl, rfl⟩
  rw [← HXX.out] at hcv
  go_wp2
  go_ret
  have hl : 1 + K.size + 1 = (tInt n).length := by
    rw [← XL.out, ← HXX.out, ba_append_list, ba_append_list, List.length_append, List.length_append]
    rfl
  have hx : X.data.toList = tInt n := XL.out
  rw [hl]
  rw [hx] at HP
  exact ⟨A, c, rfl, HP.out, HO.out⟩
end Go.Proofs.YtemeglofblnnmaaDoor
