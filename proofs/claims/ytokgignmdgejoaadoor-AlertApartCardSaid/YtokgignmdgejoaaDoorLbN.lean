/- Package label: Name. -/
import Derived.Test.YtokgignmdgejoaaDoorLbP
import Derived.Test.YtokgignmdgejoaaDoorOrd
import Derived.Deep.DrawnRows
import Derived.Deep.LoopGhost
import Derived.Deep.CutRange
namespace Go.Proofs.YtokgignmdgejoaaDoor
open Go.RowKit Go.Lib
set_option linter.unusedVariables false
set_option linter.unusedSimpArgs false
set_option maxRecDepth 100000
attribute [local go_sem ↓] Go.wp_at_zero Go.wp_at_succ

theorem str_at (s : ByteArray) (k : Nat) (h : k < s.size) : s[k] = s.data.toList[k]'h := rfl
set_option maxHeartbeats 4000000 in
theorem name_run (s : ByteArray) (hs : s.size ≤ 9223372036854775807) (w : World) : Calls Tryd.prog 57 #[.string s] w fun e w' => e = .returned (.bool (lname s.data.toList)) ∧ Only Noth w w' := by
  obtain ⟨l, hl⟩ : ∃ l, s.data.toList = l := ⟨_, rfl⟩
  obtain ⟨n, hn⟩ : ∃ n, s.size = n := ⟨_, rfl⟩
  have hln : l.length = n := by rw [← hl, ← hn]; rfl
  have HL := Lib.hid hl
  have HN := Lib.hid hn
  have HLN := Lib.hid hln
  have hni : (n : Int) ≤ 9223372036854775807 := by omega
  have hn0 : (0 : Int) ≤ n := by omega
  rw [hl]
  clear hl hln hs
  have hq2 : s.toList.isEmpty = l.isEmpty := by rw [ByteArray.toList_eq, HL.out]
  cases hq : s.toList.isEmpty
  case true =>
    rw [hq] at hq2
    have h : lname l = false := by unfold lname; rw [← hq2]; simp
    have H := Lib.hid h
    clear h hq2
    go_enter Tryd.func57, Tryd.ntmps57
    go_wp2
    go_ret
    exact ⟨by rw [H.out]; rfl, Only.refl _ _⟩
  have h1 : 1 ≤ n := by
    rcases Nat.eq_zero_or_pos n with h | h
    · have e : l = [] := List.eq_nil_of_length_eq_zero (by rw [HLN.out]; exact h)
      rw [hq, e] at hq2
      cases hq2
    · omega
  clear hq2
  have h1i : (1 : Int) ≤ n := by omega
  by_cases h16 : (n : Int) > 16
  · have h : lname l = false := by unfold lname; rw [HLN.out]; simp; omega
    have H := Lib.hid h
    clear h
    go_enter Tryd.func57, Tryd.ntmps57
    go_wp2
    go_ret
    exact ⟨by rw [H.out]; rfl, Only.refl _ _⟩
  obtain ⟨c0, t, hct⟩ : ∃ c0 t, l = c0 :: t := by
    cases l with
    | nil => have := HLN.out; simp at this; omega
    | cons c t => exact ⟨c, t, rfl⟩
  have HCT := Lib.hid hct
  have hs0 : ∀ h : 0 < s.size, s[0] = c0 := fun h => by
    rw [str_at]
    simp only [HL.out, HCT.out, List.getElem_cons_zero]
  have HS0 := Lib.hid hs0
  clear hct hs0
  go_enter Tryd.func57, Tryd.ntmps57
  go_upto_region 1 with fail
  go_cut [21] from 5 to 48 (fun s21 W => s21 = .bool (dig c0) ∧ W = w)
  case first =>
    go_wp2_with fail
    all_goals (go_meet)
    all_goals (refine ⟨?_, rfl⟩; simp only [HS0.out] at *; congr 1; cases h8 : decide (48 ≤ c0.toNat) <;> cases h9 : decide (c0.toNat ≤ 57) <;> simp_all [dig] <;> omega)
  case rest =>
    obtain ⟨h21, hW⟩ := hcut
    replace hW := hW.symm
    subst h21 hW
    cases hd : dig c0
    · have HD := Lib.hid hd
      clear hd
      go_wp2_with fail
      go_loopw [3, 4, 24] (fun _ _ i W => ∃ k : Nat, k ≤ n ∧ i = .int .i64 (k : Int) ∧ (∀ (j : Nat) (c : UInt8), j < k → l[j]? = some c → lch c = true) ∧ W = w) (fun _ _ i _ => n - (RowKit.intOf i).toNat)
      case atStart => exact ⟨0, by omega, rfl, fun j c h => absurd h (by omega), rfl⟩
      case round =>
        obtain ⟨k, hk, rfl, hall, hWr⟩ := hrel
        replace hWr := hWr.symm
        subst hWr
        have HA := Lib.hid hall
        have hk0 : (0 : Int) ≤ k := by omega
        clear hall
        by_cases hlt : k < n
        · have hki : (k : Int) < n := by omega
          obtain ⟨c, hc⟩ : ∃ c, l[k]? = some c := ⟨_, List.getElem?_eq_getElem (by rw [HLN.out]; exact hlt)⟩
          have HC := Lib.hid hc
          have HSK := Lib.hid (show ∀ h : k < s.size, s[k] = c from fun h => by
            rw [str_at]
            have h2 := HC.out
            simp only [← HL.out] at h2
            exact (List.getElem?_eq_some_iff.1 h2).2)
          clear hc
          go_upto_region 7 with fail
          simp only [HSK.out]
          go_cut [4, 24, 47] from 24 to 48 (fun s4 s24 s47 W => s24 = .int .i64 (k : Int) ∧ s47 = .bool (!lch c) ∧ W = w)
          case first =>
            go_wp2_with fail
            all_goals (go_meet)
            all_goals (refine ⟨rfl, ?_, rfl⟩; congr 1; by_cases a1 : c.toNat = 95 <;> by_cases a2 : 97 ≤ c.toNat <;> by_cases a3 : c.toNat ≤ 122 <;> by_cases a4 : 48 ≤ c.toNat <;> by_cases a5 : c.toNat ≤ 57 <;> (try simp [lch, dig, a1, a2, a3, a4, a5]) <;> omega)
          case rest =>
            obtain ⟨h24, h47, hW⟩ := hcut
            replace hW := hW.symm
            subst h24 h47 hW
            cases hlc : lch c
            · have h : lname l = false := by
                unfold lname
                have : l.all lch = false := by
                  rw [List.all_eq_false]
                  exact ⟨c, List.mem_of_getElem? HC.out, by rw [hlc]; decide⟩
                rw [this]
                simp
              have H := Lib.hid h
              clear h
              go_wp2
              go_ret
              exact ⟨by rw [H.out]; rfl, Only.refl _ _⟩
            · have HLC := Lib.hid hlc
              clear hlc
              go_wp2_with fail
              go_roundw
              case rel =>
                refine ⟨k + 1, by omega, by go_num, fun j x hj hx => ?_, by first | rfl | trivial⟩
                rcases Nat.lt_or_ge j k with h | h
                · exact HA.out j x h hx
                · obtain rfl : j = k := by omega
                  rw [HC.out] at hx
                  injection hx with hx
                  rw [← hx]
                  exact HLC.out
              case measure => simp [RowKit.intOf]; omega
        · obtain rfl : k = n := by omega
          have h : lname l = true := by
            unfold lname
            have h2 : l.all lch = true := by
              rw [List.all_eq_true]
              intro x hx
              obtain ⟨j, hj, rfl⟩ := List.mem_iff_getElem.1 hx
              exact HA.out j _ (by rw [← HLN.out]; exact hj) (List.getElem?_eq_getElem hj)
            rw [h2, HLN.out, HCT.out]
            simp [HD.out]
            omega
          have H := Lib.hid h
          clear h
          go_wp2
          go_ret
          exact ⟨by rw [H.out]; rfl, Only.refl _ _⟩
    · have h : lname l = false := by unfold lname; rw [HCT.out]; simp [hd]
      have H := Lib.hid h
      clear h
      go_wp2
      go_ret
      exact ⟨by rw [H.out]; rfl, Only.refl _ _⟩
end Go.Proofs.YtokgignmdgejoaaDoor
