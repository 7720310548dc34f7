/- Package nflog: awake; the walks of NflogKeys, NflogWaits, NflogCalm. -/
import Derived.Test.YtgclhkknkppmbaaDoorNflC
namespace Go.Proofs.YtgclhkknkppmbaaDoor
open Go.RowKit Go.Lib
set_option linter.unusedVariables false
set_option maxRecDepth 100000
attribute [local go_sem ↓] Go.wp_at_zero Go.wp_at_succ

def fireS : ByteArray := ⟨#[108, 49, 58, 97, 105, 49, 101, 101]⟩
def calmS : ByteArray := ⟨#[108, 49, 58, 97, 105, 48, 101, 101]⟩
theorem list_laid (c : UInt8) (r : List UInt8) : Rd.byte ⟨c :: r, 0⟩ c = ⟨r, 0⟩ := Rd.byte_laid c r
theorem cstep_laid (s r : List UInt8) (n len : Int) (hs : s.length ≤ 1000000000) (hl : (s.length : Int) ≤ len) (h0 : -9223372036854775808 ≤ n) (h1 : n ≤ 9223372036854775807) : cstep len ⟨tText s ++ (tInt n ++ r), 0⟩ = (⟨r, 0⟩, n) := by
  unfold cstep
  rw [Rd.text_laid s _ len hs hl]
  exact Rd.int_laid n r h0 h1
theorem counts_one (n : Int) (hn : n = 0 ∨ n = 1) : counts (108 :: (tText [97] ++ (tInt n ++ [101]))) = (n, 1 - n) := by
  unfold counts
  rw [list_laid]
  have hm : Rd.more ⟨tText [97] ++ (tInt n ++ [101]), 0⟩ = true := by
    simp [tText, itoa, decDigits, Rd.more]
  have hlen : ((108 : UInt8) :: (tText [97] ++ (tInt n ++ [101]))).length = 8 := by
    rcases hn with rfl | rfl <;> simp [tText, tInt, itoa, decDigits]
  rw [hlen]
  have hst : cstep ((8 : Nat) : Int) ⟨tText [97] ++ (tInt n ++ [101]), 0⟩ = (⟨[101], 0⟩, n) := cstep_laid [97] [101] n _ (by decide) (by decide) (by omega) (by omega)
  rw [cntF, if_pos hm, hst]
  simp only
  rw [if_neg (by rintro (h | h | h); exact h rfl; omega; omega)]
  rcases hn with rfl | rfl
  · rw [if_neg (by decide), cntF, if_neg (by simp [Rd.more])]
    simp [Rd.byte]
  · rw [if_pos rfl, cntF, if_neg (by simp [Rd.more])]
    simp [Rd.byte]
theorem fires_fire : firesB fireS = true := by
  have h := counts_one 1 (.inr rfl)
  have e : fireS.data.toList = 108 :: (tText [97] ++ (tInt 1 ++ [101])) := by simp [fireS, tText, tInt, itoa, decDigits]
  unfold firesB
  rw [e, h]
  rfl
theorem fires_calm : firesB calmS = false := by
  have h := counts_one 0 (.inl rfl)
  have e : calmS.data.toList = 108 :: (tText [97] ++ (tInt 0 ++ [101])) := by simp [calmS, tText, tInt, itoa, decDigits]
  unfold firesB
  rw [e, h]
  rfl
def eA : Ent := ⟨⟨#[110, 108, 49, 58, 114, 49, 58, 103, 101]⟩, 5, 1, fireS, 105⟩
theorem ent_awake : Snd.ent ⟨⟨#[114]⟩, ⟨#[103]⟩, fireS, 5⟩ 1 100 = (eA, 0) := by
  have hk : Snd.k ⟨⟨#[114]⟩, ⟨#[103]⟩, fireS, 5⟩ = [110, 108, 49, 58, 114, 49, 58, 103, 101] := by
    simp [Snd.k, nKey, tList, tText, itoa, decDigits]
  unfold Snd.ent
  rw [hk]
  simp [ByteArray.toList_eq, okT, eA, fireS, ByteArray.size]
theorem need_w1 : needB z0 false fireS 5 10 = true := by unfold needB; rw [if_pos rfl]; exact fires_fire
theorem need_w2 : needB eA true fireS 14 10 = false := by
  unfold needB
  rw [if_neg (by decide), if_neg (by decide), if_pos (by rfl)]
  simp [okT, eA]
theorem need_w3 : needB eA true fireS 15 10 = true := by
  unfold needB
  rw [if_neg (by decide), if_neg (by decide), if_pos (by rfl), fires_fire]
  simp [okT, eA]
theorem need_w4 : needB eA true calmS 6 10 = true := by
  unfold needB
  rw [if_neg (by decide), if_neg (by decide), if_neg (by decide), show eA.val = fireS from rfl, fires_fire]
  simp
theorem need_w5 : needB z0 false calmS 5 10 = false := by unfold needB; rw [if_pos rfl]; exact fires_calm

theorem nfl_awake (w : World) (he : Env w) : Calls Tryd.prog 22 #[] w fun e w' => e = .returned (.bool true) ∧ Only Noth w w' := by
  have E := Lib.hid he
  clear he
  go_enter Tryd.func22, Tryd.ntmps22
  go_wp2_with fail
  refine (nfl_entry ⟨⟨#[114]⟩, ⟨#[103]⟩, fireS, 5⟩ 1 100 (by decide) (by decide) _ E.out.tab).mono ?_
  rintro e w1 ⟨h1, h2⟩
  rw [ent_awake] at h1
  have h1 : e = .returned (.tuple #[.agg #[.string ⟨#[110, 108, 49, 58, 114, 49, 58, 103, 101]⟩, .int .i64 5, .int .u16 1, .string ⟨#[108, 49, 58, 97, 105, 49, 101, 101]⟩, .int .i64 105], .int .i64 0]) := h1
  subst h1
  have O1 := Lib.hid (h2.alloc (.cells #[.string ⟨#[110, 108, 49, 58, 114, 49, 58, 103, 101]⟩, .int .i64 5, .int .u16 1, .string ⟨#[108, 49, 58, 97, 105, 49, 101, 101]⟩, .int .i64 105] 24))
  have E1 := Lib.hid (E.out.noth O1.out)
  have HE1 := Lib.hid (Hld.new w1 24 #[.string ⟨#[110, 108, 49, 58, 114, 49, 58, 103, 101]⟩, .int .i64 5, .int .u16 1, .string ⟨#[108, 49, 58, 97, 105, 49, 101, 101]⟩, .int .i64 105])
  clear h2
  go_wp2_with fail
  refine (nfl_need z0 false fireS 5 10 (by decide) (by decide) (by decide) (by decide) (by decide) (by decide) _ E1.out).mono ?_
  rintro e w2 ⟨rfl, ho⟩
  rw [need_w1]
  have HE2 := Lib.hid (HE1.out.only ho (fun h => h))
  obtain ⟨p00, p01, p02, p03, p04⟩ := HE2.out.five
  have O2 := Lib.hid (O1.out.tr ho)
  have E2 := Lib.hid (E1.out.noth ho)
  clear ho
  go_wp2_with fail
  refine (nfl_need eA true fireS 14 10 (by decide) (by decide) (by decide) (by decide) (by decide) (by decide) _ E2.out).mono ?_
  rintro e w3 ⟨rfl, ho⟩
  rw [need_w2]
  have HE3 := Lib.hid (HE2.out.only ho (fun h => h))
  obtain ⟨p10, p11, p12, p13, p14⟩ := HE3.out.five
  have O3 := Lib.hid (O2.out.tr ho)
  have E3 := Lib.hid (E2.out.noth ho)
  clear ho
  go_wp2_with fail
  refine (nfl_need eA true fireS 15 10 (by decide) (by decide) (by decide) (by decide) (by decide) (by decide) _ E3.out).mono ?_
  rintro e w4 ⟨rfl, ho⟩
  rw [need_w3]
  have HE4 := Lib.hid (HE3.out.only ho (fun h => h))
  obtain ⟨p20, p21, p22, p23, p24⟩ := HE4.out.five
  have O4 := Lib.hid (O3.out.tr ho)
  have E4 := Lib.hid (E3.out.noth ho)
  clear ho
  go_wp2_with fail
  refine (nfl_need eA true calmS 6 10 (by decide) (by decide) (by decide) (by decide) (by decide) (by decide) _ E4.out).mono ?_
  rintro e w5 ⟨rfl, ho⟩
  rw [need_w4]
  have HE5 := Lib.hid (HE4.out.only ho (fun h => h))
  obtain ⟨p30, p31, p32, p33, p34⟩ := HE5.out.five
  have O5 := Lib.hid (O4.out.tr ho)
  have E5 := Lib.hid (E4.out.noth ho)
  clear ho
  go_wp2_with fail
  refine (nfl_need z0 false calmS 5 10 (by decide) (by decide) (by decide) (by decide) (by decide) (by decide) _ E5.out).mono ?_
  rintro e w6 ⟨rfl, ho⟩
  rw [need_w5]
  have HE6 := Lib.hid (HE5.out.only ho (fun h => h))
  obtain ⟨p40, p41, p42, p43, p44⟩ := HE6.out.five
  have O6 := Lib.hid (O5.out.tr ho)
  have E6 := Lib.hid (E5.out.noth ho)
  clear ho
  go_wp2
  go_ret
  exact ⟨rfl, O6.out⟩
end Go.Proofs.YtgclhkknkppmbaaDoor
