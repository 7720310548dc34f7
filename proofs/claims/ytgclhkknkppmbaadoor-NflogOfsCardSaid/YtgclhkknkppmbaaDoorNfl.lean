/- Package nflog: Key, time, fires, Entry. -/
import Derived.Test.YtgclhkknkppmbaaDoorCnt
import Derived.Test.YtgclhkknkppmbaaDoorEntD
namespace Go.Proofs.YtgclhkknkppmbaaDoor
open Go.RowKit Go.Lib
set_option linter.unusedVariables false
set_option maxRecDepth 100000
attribute [local go_sem ↓] Go.wp_at_zero Go.wp_at_succ

def nKey (r g : List UInt8) : List UInt8 := 110 :: tList [tText r, tText g]
theorem nfl_key (r g : ByteArray) (hs : r.size + g.size ≤ 140737488355000) (w : World) (ht : Tab w) :
    Calls Tryd.prog 25 #[.string r, .string g] w fun e w' => e = .returned (.string ⟨(nKey r.data.toList g.data.toList).toArray⟩) ∧ Only Noth w w' := by
  have T := Lib.hid ht
  have HS := Lib.hid hs
  have hr : r.size ≤ 140737488355300 := by omega
  have hg : g.size ≤ 140737488355300 := by omega
  have l1 := itoa_len20 (r.data.toList.length : Int) (by omega) (by have : r.data.toList.length = r.size := rfl; omega)
  have l2 := itoa_len20 (g.data.toList.length : Int) (by omega) (by have : g.data.toList.length = g.size := rfl; omega)
  have HL := Lib.hid (show ([tText r.data.toList, tText g.data.toList].flatten).length + 2 ≤ 140737488355328 by
    have e1 : r.data.toList.length = r.size := rfl
    have e2 : g.data.toList.length = g.size := rfl
    simp only [List.flatten_cons, List.flatten_nil, List.length_append, List.length_nil, tText_length]
    omega)
  have HR := Lib.hid hr
  have HG := Lib.hid hg
  clear ht hs hr hg l1 l2
  go_enter Tryd.func25, Tryd.ntmps25
  go_wp2_with fail
  refine (ben_text r HR.out _ T.out).mono ?_
  rintro e w1 hg
  obtain ⟨A, c, rfl, hp, ho⟩ := hg.part
  have T1 := Lib.hid (T.out.noth ho)
  have P1 := Lib.hid ((Parts.nil w1).snoc hp)
  have O1 := Lib.hid ho
  clear hg hp ho
  go_wp2_with fail
  refine (ben_text g HG.out _ T1.out).mono ?_
  rintro e w2 hg
  obtain ⟨A2, c2, rfl, hp, ho⟩ := hg.part
  have P2 := Lib.hid ((P1.out.noth ho).snoc hp)
  have O2 := Lib.hid (O1.out.tr ho)
  clear hg hp ho
  go_wp2_with fail
  refine (ben_list _ _ _ [tText r.data.toList, tText g.data.toList] _ (srcb_new _ 53 _ 2 rfl _ (by simp)) (P2.out.noth ((Only.refl Noth _).alloc _)) (Nat.le_refl _) (by simp) HL.out).mono ?_
  rintro e w3 hg
  obtain ⟨l, hl⟩ : ∃ l, l = tList [tText r.data.toList, tText g.data.toList] := ⟨_, rfl⟩
  rw [← hl] at hg
  obtain ⟨A3, c3, rfl, hp, ho⟩ := hg.part
  have hcv := hp.conv
  have HLL := Lib.hid (show ByteArray.mk (nKey r.data.toList g.data.toList).toArray = ByteArray.mk (110 :: l).toArray by rw [hl]; rfl)
  have O3 := Lib.hid ((O2.out.alloc _).tr ho)
  have hll : l.length ≤ 140737488355328 := by
    have := HL.out
    rw [hl]
    simp only [tList, List.length_cons, List.length_append, List.length_nil]
    omega
  have hl2 : (ByteArray.mk l.toArray).size = l.length := by show l.toArray.size = _; simp
  clear hg hp ho hl
  go_wp2_with fail
  go_ret
  refine ⟨?_, O3.out⟩
  rw [HLL.out]
  show Ending.returned (Value.string (ByteArray.mk #[110] ++ ByteArray.mk l.toArray)) = _
  rw [ByteArray.mk_append_mk]
  simp

def okT (t : Int) : Bool := decide (0 ≤ t ∧ t ≤ 1099511627776)
theorem nfl_time (t : Int) (w : World) : Calls Tryd.prog 41 #[.int .i64 t] w fun e w' => e = .returned (.bool (okT t)) ∧ w = w' := by
  go_enter Tryd.func41, Tryd.ntmps41
  go_wp2
  all_goals go_ret
  all_goals refine ⟨ret_bool ?_, rfl⟩
  all_goals (unfold okT; first | (simp; omega) | (simp; done) | (symm; rw [decide_eq_false_iff_not]; omega) | skip)
theorem nfl_fires (s : ByteArray) (hs : s.size ≤ 140737488355000) (w : World) (he : Env w) :
    Calls Tryd.prog 46 #[.string s] w fun e w' => e = .returned (.bool (decide (0 < (counts s.data.toList).1))) ∧ Only Noth w w' := by
  have HS := Lib.hid hs
  have E := Lib.hid he
  obtain ⟨p, hp⟩ : ∃ p, p = counts s.data.toList := ⟨_, rfl⟩
  have HP := Lib.hid hp.symm
  rw [← hp]
  clear hs he hp
  go_enter Tryd.func46, Tryd.ntmps46
  go_wp2_with (go_at_call 29; refine (group_counts s HS.out _ E.out).mono ?_; rintro e w1 ⟨rfl, ho⟩; rw [HP.out]; have HO := Lib.hid ho; clear ho)
  go_ret
  exact ⟨rfl, HO.out⟩
end Go.Proofs.YtgclhkknkppmbaaDoor
