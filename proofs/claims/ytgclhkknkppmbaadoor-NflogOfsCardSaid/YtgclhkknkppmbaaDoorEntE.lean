/- Package entry: awake. -/
import Derived.Test.YtgclhkknkppmbaaDoorEntD
import Derived.Test.YtgclhkknkppmbaaDoorConv
namespace Go.Proofs.YtgclhkknkppmbaaDoor
open Go.RowKit Go.Lib
set_option linter.unusedVariables false
attribute [local go_sem ↓] Go.wp_at_zero Go.wp_at_succ

theorem tEnt_awake : tEnt [107] 5 1 [118] 9 = [108, 49, 58, 107, 105, 53, 101, 105, 49, 101, 49, 58, 118, 105, 57, 101, 101] := by
  simp [tEnt, tList, tText, tInt, itoa, decDigits]
def e0 : Ent := ⟨⟨#[107]⟩, 5, 1, ⟨#[118]⟩, 9⟩
def e1 : Ent := ⟨⟨#[]⟩, 5, 0, ⟨#[]⟩, 0⟩
theorem e0_e1 : e0.above e1 = true := by decide +kernel
theorem e0_e0 : e0.above e0 = false := above_irrefl _

set_option maxRecDepth 100000 in
theorem entry_awake (w : World) (ht : Tab w) : Calls Tryd.prog 15 #[] w fun e w' => e = .returned (.bool true) ∧ Only Noth w w' := by
  have HT := Lib.hid (ht.alloc (.cells #[.string ⟨#[107]⟩, .int .i64 5, .int .u16 1, .string ⟨#[118]⟩, .int .i64 9] 24))
  clear ht
  go_enter Tryd.func15, Tryd.ntmps15
  go_wp2_with fail
  refine (entry_put ⟨#[107]⟩ ⟨#[118]⟩ 5 1 9 (by decide) (by decide) (by decide) (by decide) (by decide) (by decide) (by decide) _ HT.out).mono ?_
  rintro e w1 hg
  rw [show tEnt (ByteArray.mk #[107]).data.toList 5 1 (ByteArray.mk #[118]).data.toList 9 = [108, 49, 58, 107, 105, 53, 101, 105, 49, 101, 49, 58, 118, 105, 57, 101, 101] from tEnt_awake] at hg
  obtain ⟨A, c, rfl, hp, ho⟩ := hg.part
  have hcv := hp.conv
  simp only [List.length_cons, List.length_nil, Nat.zero_add, Nat.reduceAdd] at hcv
  have HO := Lib.hid ho
  have HE := Lib.hid ((Hld.new w 24 #[.string ⟨#[107]⟩, .int .i64 5, .int .u16 1, .string ⟨#[118]⟩, .int .i64 9]).only ho (fun h => h))
  obtain ⟨x0, x1, x2, x3, x4⟩ := HE.out.five
  clear hg hp ho
  go_wp2_with fail
  refine (entry_above e0 e1 _).mono ?_
  rintro e w2 ⟨rfl, ho⟩
  rw [e0_e1]
  have HO2 := Lib.hid ho
  have HE2 := Lib.hid (HE.out.only ho (fun h => h))
  obtain ⟨x0', x1', x2', x3', x4'⟩ := HE2.out.five
  clear ho
  go_wp2_with fail
  refine (entry_above e0 e0 _).mono ?_
  rintro e w3 ⟨rfl, ho⟩
  rw [e0_e0]
  have HO3 := Lib.hid ho
  have HE3 := Lib.hid (HE2.out.only ho (fun h => h))
  obtain ⟨y0, y1, y2, y3, y4⟩ := HE3.out.five
  clear ho
  go_wp2_with fail
  refine (entry_counts e0 8 _).mono ?_
  rintro e w4 ⟨rfl, ho⟩
  rw [show decide ((8 : Int) < e0.til) = true from by decide +kernel]
  have HO4 := Lib.hid ho
  have HE4 := Lib.hid (HE3.out.only ho (fun h => h))
  obtain ⟨z0, z1, z2, z3, z4⟩ := HE4.out.five
  clear ho
  go_wp2_with fail
  refine (entry_counts e0 9 _).mono ?_
  rintro e w5 ⟨rfl, ho⟩
  rw [show decide ((9 : Int) < e0.til) = false from by decide +kernel]
  have HO5 := Lib.hid ho
  clear ho
  go_wp2
  go_ret
  exact ⟨rfl, ((((((Only.refl _ _).alloc _).tr HO.out).tr HO2.out).tr HO3.out).tr HO4.out).tr HO5.out⟩
end Go.Proofs.YtgclhkknkppmbaaDoor
