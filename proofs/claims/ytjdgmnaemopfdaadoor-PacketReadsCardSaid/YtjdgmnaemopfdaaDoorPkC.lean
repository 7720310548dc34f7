/- Package packet: wrong, and the lists that ask it. -/
import Derived.Test.YtjdgmnaemopfdaaDoorPkY
import Derived.Test.YtjdgmnaemopfdaaDoorEntK
namespace Go.Proofs.YtjdgmnaemopfdaaDoor
open Go.RowKit Go.Lib
set_option linter.unusedVariables false
set_option maxRecDepth 100000
attribute [local go_sem ↓] Go.wp_at_zero Go.wp_at_succ

def Mem.wrong (m : Mem) : Bool := decide (64 ≤ m.node ∨ 2 < m.st ∨ m.inc < 0 ∨ 1073741824 < m.inc)
set_option maxHeartbeats 1000000 in
theorem pk_wrong (m : Mem) (w : World) : Calls Tryd.prog 56 #[.agg #[.int .u16 m.node, .int .u8 m.st, .int .i64 m.inc]] w
    fun e w' => e = .returned (.bool m.wrong) ∧ Only Noth w w' := by
  go_enter Tryd.func56, Tryd.ntmps56
  go_wp2
  all_goals go_ret
  all_goals refine ⟨ret_bool ?_, (Only.refl _ _).alloc _⟩
  all_goals (unfold Mem.wrong; first | (symm; rw [decide_eq_true_iff]; omega) | (symm; rw [decide_eq_false_iff_not]; omega) | (rw [decide_eq_decide]; omega) | (rw [Bool.eq_iff_iff]; simp only [Bool.or_eq_true, decide_eq_true_iff]; omega))
set_option maxHeartbeats 2000000 in
theorem pk_index (A : Option Addr) (n c : Nat) (xs : List Mem) (hlen : xs.length = n) (hc : n ≤ c) (hc2 : c ≤ 9223372036854775807) (hn : n ≤ 1000000) (w : World) (hel : ElAt w (fun k => k < w.heap.size) 3 A (xs.map Mem.cl)) :
    Calls Tryd.prog 83 #[.slice A n c, .func (.func 56) #[] #[]] w
      fun e w' => (∃ r : Int, e = .returned (.int .i64 r) ∧ decide (0 ≤ r) = xs.any Mem.wrong) ∧ Only Noth w w' := by
  have EL := Lib.hid hel
  have HL := Lib.hid hlen
  have hn0 : (0 : Int) ≤ n := by omega
  clear hel hlen
  go_enter Tryd.func83, Tryd.ntmps83
  go_wp2_with fail
  go_loopw [8] (fun i W => (∃ k : Nat, k ≤ n ∧ i = .int .i64 (k : Int) ∧ (xs.take k).any Mem.wrong = false) ∧ Only Noth w W) (fun i _ => n - (RowKit.intOf i).toNat)
  case atStart => exact ⟨⟨0, Nat.zero_le _, rfl, by simp⟩, Only.refl _ _⟩
  case round =>
    obtain ⟨⟨k, hk, rfl, ha⟩, ho⟩ := hrel
    have ON := Lib.hid ho
    have HA := Lib.hid ha
    clear ho ha
    by_cases hlt : k < n
    · obtain ⟨x, hx⟩ : ∃ x, xs[k]? = some x := ⟨_, List.getElem?_eq_getElem (by rw [HL.out]; exact hlt)⟩
      have HX := Lib.hid hx
      obtain ⟨b, o, rfl, hbw, hbl, e0, e1, e2⟩ := (EL.out.noth ON.out).mem hx
      have hb0 : (0 : Int) ≤ k := by omega
      have hb1 : (k : Int) < n := by omega
      clear hx hbw hbl
      go_wp2_with fail
      refine (pk_wrong x _).mono ?_
      rintro e w1 ⟨rfl, ho1⟩
      have ON1 := Lib.hid (ON.out.tr ho1)
      have hnext : (xs.take (k + 1)).any Mem.wrong = x.wrong := by
        rw [List.take_add_one, HX.out, List.any_append, HA.out]; simp
      have hall : x.wrong = true → xs.any Mem.wrong = true := fun h => List.any_eq_true.2 ⟨x, List.mem_of_getElem? HX.out, h⟩
      have HN := Lib.hid hnext
      have HAL := Lib.hid hall
      clear ho1 e0 e1 e2 hnext hall
      obtain hb | hb : x.wrong = true ∨ x.wrong = false := by cases x.wrong <;> simp
      all_goals rw [hb] at HN ⊢
      · go_wp2
        go_ret
        exact ⟨⟨_, rfl, by rw [HAL.out hb]; exact decide_eq_true hb0⟩, ON1.out⟩
      · go_wp2_with fail
        go_roundw
        case rel => exact ⟨⟨k + 1, by omega, by go_num, HN.out⟩, ON1.out⟩
        case measure => simp [RowKit.intOf]; omega
    · obtain rfl : k = n := by omega
      have hpt := HA.out
      rw [List.take_of_length_le (by rw [HL.out]; exact Nat.le_refl _)] at hpt
      go_wp2
      go_ret
      exact ⟨⟨_, rfl, hpt.symm⟩, ON.out⟩
theorem pk_contains (A : Option Addr) (n c : Nat) (xs : List Mem) (hlen : xs.length = n) (hc : n ≤ c) (hc2 : c ≤ 9223372036854775807) (hn : n ≤ 1000000) (w : World) (hel : ElAt w (fun k => k < w.heap.size) 3 A (xs.map Mem.cl)) :
    Calls Tryd.prog 55 #[.slice A n c, .func (.func 56) #[] #[]] w
      fun e w' => e = .returned (.bool (xs.any Mem.wrong)) ∧ Only Noth w w' := by
  have C := Lib.hid (pk_index A n c xs hlen hc hc2 hn w hel)
  clear hel
  go_enter Tryd.func55, Tryd.ntmps55
  go_wp2_with fail
  refine C.out.mono ?_
  rintro e w1 ⟨⟨r, rfl, hr⟩, ho⟩
  go_wp2
  all_goals go_ret
  all_goals refine ⟨ret_bool ?_, ho⟩
  all_goals (rw [← hr])
end Go.Proofs.YtjdgmnaemopfdaaDoor
