/- NflogBack: the plain laws; '==' on sendings. -/
import Derived.Test.YtgclhkknkppmbaaDoorNOfB
import Derived.Test.YtgclhkknkppmbaaDoorNflD
namespace Go.Proofs.YtgclhkknkppmbaaDoor
open Go.RowKit Go.Lib
set_option linter.unusedVariables false
set_option maxRecDepth 100000
attribute [local go_sem ↓] Go.wp_at_zero Go.wp_at_succ

theorem back1 {e : Ent} {s : Snd} (h : ofR e = (s, true)) : s.ent e.org (e.til - e.time) = (e, 0) := by
  unfold ofR at h
  split at h
  · rename_i hb
    simp only [Prod.mk.injEq, and_true] at h
    rw [← h]
    exact ofB_iff.1 hb
  · simp at h
theorem ba_eta (s : ByteArray) : (⟨s.data.toList.toArray⟩ : ByteArray) = s := by cases s; simp
theorem back_rd {s : Snd} {o k : Int} {y : Ent} (h : s.ent o k = (y, 0)) : (rdS y).2 = s := by
  obtain ⟨_, _, hk, _, _, _, _, hy⟩ := ent_ok h
  have hk1 : s.k = 110 :: tList [tText s.rcv.data.toList, tText s.key.data.toList] := rfl
  have hl : (tText s.rcv.data.toList).length + (tText s.key.data.toList).length + 3 ≤ 1024 := by
    rw [hk1] at hk
    simp only [tList, List.length_cons, List.length_append, List.flatten_cons, List.flatten_nil, List.length_nil] at hk
    omega
  rw [tText_length, tText_length] at hl
  have hkey : y.key.data.toList.drop 1 = 108 :: (tText s.rcv.data.toList ++ (tText s.key.data.toList ++ [101])) := by
    rw [hy]
    show s.k.toArray.toList.drop 1 = _
    rw [hk1]
    simp [tList]
  unfold rdS
  rw [hkey, Rd.byte_laid, Rd.text_laid _ _ _ (by omega) (by omega)]
  simp only
  rw [Rd.text_laid _ _ _ (by omega) (by omega)]
  simp only
  rw [ba_eta, ba_eta, hy]
theorem back2 {s : Snd} {o k : Int} {y : Ent} (h : s.ent o k = (y, 0)) : ofR y = (s, true) := by
  have hr := back_rd h
  have hy := (ent_ok h).2.2.2.2.2.2.2
  have hb : ofB y = true := by
    rw [ofB_iff, hr]
    have h1 : y.org = o := by rw [hy]
    have h2 : y.til - y.time = k := by rw [hy]; simp only; omega
    rw [h1, h2]
    exact h
  rw [ofR_yes hb, hr]
theorem back3 {s : Snd} {o k : Int} {y : Ent} (h : s.ent o k = (y, 0)) : y.check = 0 := by
  obtain ⟨_, _, hk, hv, h1, h2, h3, hy⟩ := ent_ok h
  have b1 := okT_iff.1 h1
  have b2 := okT_iff.1 h2
  have b3 := okT_iff.1 h3
  have hks : y.key.size = s.k.length := by rw [hy]; exact (List.size_toArray ..)
  have hkp : 1 ≤ s.k.length := by show 1 ≤ (110 :: tList [tText s.rcv.data.toList, tText s.key.data.toList]).length; simp
  unfold Ent.check
  rw [hks]
  rw [hy]
  simp only
  rw [if_neg (by omega), if_neg (by omega)]
theorem ent_err {s : Snd} {o k : Int} {y : Ent} {f : Int} (h : s.ent o k = (y, f)) (hf : f ≠ 0) : y = z0 := by
  unfold Snd.ent at h
  split at h
  · simp only [Prod.mk.injEq] at h; exact h.1.symm
  · split at h
    · simp only [Prod.mk.injEq] at h; exact h.1.symm
    · split at h
      · simp only [Prod.mk.injEq] at h; exact h.1.symm
      · simp only [Prod.mk.injEq] at h; exact absurd h.2.symm hf
theorem eqin_snd (a : Snd) (w : World) : (Op.equalIn 10000 35 (.agg #[.string a.rcv, .string a.key, .string a.rev, .int .i64 a.at_]) (.agg #[.string a.rcv, .string a.key, .string a.rev, .int .i64 a.at_])).run Tryd.prog w = .ok true w := by
  have u3 := Tryd.underlying3
  have a3 := Tryd.isAgg3
  have z3 := Tryd.sizeOf3
  have u9 := Tryd.underlying9
  have a9 := Tryd.isAgg9
  have z9 := Tryd.sizeOf9
  have hS : Tryd.prog.underlying 35 = some (.struct (Tryd.prog.fieldsOf 35)) := by kernel_rfl
  have hp : Tryd.prog.stoodInHeld 35 = false := by kernel_rfl
  rw [show (10000 : Nat) = 9999 + 1 from rfl, run_equalIn_agg w 9999 35 _ _ hS hp]
  simp only [Program.fieldsOf, Tryd.underlying35]
  go_simp
theorem eq_snd (a : Snd) (w : World) : (binOp .eql 35 (.agg #[.string a.rcv, .string a.key, .string a.rev, .int .i64 a.at_]) (.agg #[.string a.rcv, .string a.key, .string a.rev, .int .i64 a.at_])).run Tryd.prog w = .ok (.bool true) w := by
  rw [run_eql_struct, eqin_snd]
  rfl
theorem guard_snd : Tryd.prog.eqGuardType Tryd.prog.depth 35 = false := by kernel_rfl
end Go.Proofs.YtgclhkknkppmbaaDoor
