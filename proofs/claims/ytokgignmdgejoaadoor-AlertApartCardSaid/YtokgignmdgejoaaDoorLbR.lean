/- The reference of layer 2: Name. -/
import Derived.Test.YtokgignmdgejoaaDoorLbN
namespace Go.Proofs.YtokgignmdgejoaaDoor
open Go.RowKit Go.Lib
set_option linter.unusedVariables false
set_option linter.unusedSimpArgs false
set_option maxRecDepth 100000
attribute [local go_sem ↓] Go.wp_at_zero Go.wp_at_succ

def sml (c : UInt8) : Bool := decide (c.toNat = 95) || (decide (97 ≤ c.toNat) && decide (c.toNat ≤ 122))
def badAt (i : Nat) (c : UInt8) : Bool := !sml c && (decide (i = 0) || !dig c)
theorem name_bad (l : List UInt8) : lname l = true ↔ (1 ≤ l.length ∧ l.length ≤ 16 ∧ ∀ (j : Nat) (c : UInt8), l[j]? = some c → badAt j c = false) := by
  have key : ∀ c : UInt8, lch c = (sml c || dig c) := fun c => rfl
  have kd : ∀ c : UInt8, dig c = true → sml c = false := fun c h => by
    unfold dig at h
    simp at h
    unfold sml
    simp
    omega
  cases l with
  | nil => simp [lname]
  | cons a t =>
    unfold lname
    simp only [Bool.and_eq_true, decide_eq_true_eq, List.isEmpty_cons, Bool.not_false, List.head?_cons, Option.map_some, Option.getD_some, Bool.not_eq_true', List.all_eq_true]
    constructor
    · rintro ⟨⟨⟨h1, _⟩, h2⟩, h3⟩
      refine ⟨by simp, h1, fun j c hj => ?_⟩
      have hm := h3 c (List.mem_of_getElem? hj)
      rw [key] at hm
      unfold badAt
      cases hs : sml c
      · rw [hs] at hm
        simp at hm
        cases j with
        | zero => simp at hj; subst hj; rw [h2] at hm; cases hm
        | succ j => simp [hm]
      · rfl
    · rintro ⟨_, h1, h3⟩
      have h0 := h3 0 a rfl
      refine ⟨⟨⟨h1, trivial⟩, ?_⟩, fun c hc => ?_⟩
      · cases hd : dig a
        · rfl
        · unfold badAt at h0; rw [kd a hd] at h0; simp at h0
      · obtain ⟨j, hj⟩ := List.getElem?_of_mem hc
        have hb := h3 j c hj
        rw [key]
        unfold badAt at hb
        cases hs : sml c
        · rw [hs] at hb
          simp at hb
          simp [hb.2]
        · rfl
set_option maxHeartbeats 4000000 in
theorem rname_run (s : ByteArray) (hs : s.size ≤ 9223372036854775807) (w : World) : Calls Tryd.prog 88 #[.string s] w fun e w' => e = .returned (.bool (lname s.data.toList)) ∧ Only Noth w w' := by
  obtain ⟨l, hl⟩ : ∃ l, s.data.toList = l := ⟨_, rfl⟩
  obtain ⟨n, hn⟩ : ∃ n, s.size = n := ⟨_, rfl⟩
  have hln : l.length = n := by rw [← hl, ← hn]; rfl
  have HL := Lib.hid hl
  have HLN := Lib.hid hln
  have HB := Lib.hid (name_bad l)
  have hni : (n : Int) ≤ 9223372036854775807 := by omega
  have hn0 : (0 : Int) ≤ n := by omega
  rw [hl]
  clear hl hln hs
  go_enter Tryd.func88, Tryd.ntmps88
  go_wp2_with fail
  go_loopw [3, 4, 5] (fun i _ _ W => ∃ k : Nat, k ≤ n ∧ i = .int .i64 (k : Int) ∧ (∀ (j : Nat) (c : UInt8), j < k → l[j]? = some c → badAt j c = false) ∧ W = w) (fun i _ _ _ => n - (RowKit.intOf i).toNat)
  case atStart => exact ⟨0, by omega, rfl, fun j c h => absurd h (by omega), rfl⟩
  case round =>
    obtain ⟨k, hk, rfl, hall, hWr⟩ := hrel
    replace hWr := hWr.symm
    subst hWr
    have HA := Lib.hid hall
    have hk0 : (0 : Int) ≤ k := by omega
    clear hall
    by_cases hlt : k < n
    · have hki : (k : Int) < n := by omega
      obtain ⟨c, hc⟩ : ∃ c, l[k]? = some c := ⟨_, List.getElem?_eq_getElem (by rw [HLN.out]; exact hlt)⟩
      have HC := Lib.hid hc
      have HSK := Lib.hid (show ∀ h : k < s.size, s[k] = c from fun h => by
        rw [str_at]
        have h2 := HC.out
        simp only [← HL.out] at h2
        exact (List.getElem?_eq_some_iff.1 h2).2)
      clear hc
      go_upto_region 5 with fail
      simp only [HSK.out]
      go_cut [4, 5] from 6 to 38 (fun s4 s5 W => s4 = .int .u8 (c.toNat : Int) ∧ s5 = .bool (sml c) ∧ W = w)
      case first =>
        go_wp2_with fail
        all_goals (go_meet)
        all_goals (refine ⟨?_, ?_, rfl⟩ <;> first | rfl | (congr 1; by_cases a1 : c.toNat = 95 <;> by_cases a2 : 97 ≤ c.toNat <;> by_cases a3 : c.toNat ≤ 122 <;> (try simp [sml, a1, a2, a3]) <;> omega))
      case rest =>
        obtain ⟨h4, h5, hW⟩ := hcut
        replace hW := hW.symm
        subst h4 h5 hW
        obtain ⟨sm, hsm⟩ : ∃ sm, sml c = sm := ⟨_, rfl⟩
        have HSM := Lib.hid hsm
        rw [hsm]
        clear hsm
        go_upto_region 6 with fail
        go_cut [4, 38] from 6 to 38 (fun s4 s38 W => s38 = .bool (badAt k c) ∧ W = w)
        case first =>
          have hb : badAt k c = (!sm && (decide (k = 0) || !dig c)) := by unfold badAt; rw [HSM.out]
          have HBE := Lib.hid hb
          clear hb
          cases sm
          · by_cases hk00 : (k : Int) = 0
            · go_wp2_with fail
              all_goals (go_meet)
              all_goals (refine ⟨?_, rfl⟩; rw [HBE.out]; congr 1; simp; omega)
            · go_wp2_with fail
              all_goals (go_meet)
              all_goals (refine ⟨?_, rfl⟩; rw [HBE.out]; congr 1; have a6 : ¬ k = 0 := by omega
                         by_cases a4 : 48 ≤ c.toNat <;> by_cases a5 : c.toNat ≤ 57 <;> (try simp [dig, a4, a5, a6]) <;> omega)
          · go_wp2_with fail
            all_goals (go_meet)
            all_goals (exact ⟨by rw [HBE.out]; rfl, rfl⟩)
        case rest =>
          obtain ⟨h38, hW⟩ := hcut
          replace hW := hW.symm
          subst h38 hW
          cases hbd : badAt k c
          · have HBD := Lib.hid hbd
            clear hbd
            go_wp2_with fail
            go_roundw
            case rel =>
              refine ⟨k + 1, by omega, by go_num, fun j x hj hx => ?_, by first | rfl | trivial⟩
              rcases Nat.lt_or_ge j k with h | h
              · exact HA.out j x h hx
              · obtain rfl : j = k := by omega
                rw [HC.out] at hx
                injection hx with hx
                rw [← hx]
                exact HBD.out
            case measure => simp [RowKit.intOf]; omega
          · have H := Lib.hid (show lname l = false by
              cases h : lname l
              · rfl
              · have := (HB.out.1 h).2.2 k c HC.out
                rw [hbd] at this
                cases this)
            clear hbd
            go_wp2
            go_ret
            exact ⟨by rw [H.out]; rfl, Only.refl _ _⟩
    · obtain rfl : k = n := by omega
      have hall : ∀ (j : Nat) (c : UInt8), l[j]? = some c → badAt j c = false := fun j c h => HA.out j c (by have := (List.getElem?_eq_some_iff.1 h).1; rw [HLN.out] at this; exact this) h
      have H := Lib.hid (show lname l = (decide ((1 : Int) ≤ k) && decide ((k : Int) ≤ 16)) by
        cases h : lname l
        · by_cases h1 : (1 : Int) ≤ k
          · by_cases h2 : (k : Int) ≤ 16
            · have := HB.out.2 ⟨by rw [HLN.out]; omega, by rw [HLN.out]; omega, hall⟩
              rw [h] at this
              cases this
            · simp [h2]
          · simp [h1]
        · have := HB.out.1 h
          rw [HLN.out] at this
          have h1 : (1 : Int) ≤ k := by omega
          have h2 : (k : Int) ≤ 16 := by omega
          simp [h1, h2])
      clear hall
      by_cases h1 : (1 : Int) ≤ k
      · go_wp2
        go_ret
        exact ⟨by rw [H.out]; simp [h1], Only.refl _ _⟩
      · have HZ := Lib.hid (show lname l = false by rw [H.out]; simp; omega)
        go_wp2
        go_ret
        exact ⟨by rw [HZ.out]; rfl, Only.refl _ _⟩
end Go.Proofs.YtokgignmdgejoaaDoor
