/- The walk of NflogNeeds. -/
import Derived.Test.YtgclhkknkppmbaaDoorRefF
import Derived.Test.YtgclhkknkppmbaaDoorNflD
import Derived.Test.YtgclhkknkppmbaaDoorOrdC
import Derived.Test.YtgclhkknkppmbaaDoorOrdE
namespace Go.Proofs.YtgclhkknkppmbaaDoor
open Go.RowKit Go.Lib
set_option linter.unusedVariables false
set_option maxRecDepth 100000
attribute [local go_sem ↓] Go.wp_at_zero Go.wp_at_succ

theorem Hld.three {w : World} {g : Nat} {t : TypeId} {a b c : Value} (h : Hld w g t #[a, b, c]) : w.cell? ⟨g, 0, none⟩ = some a ∧ w.cell? ⟨g, 1, none⟩ = some b ∧ w.cell? ⟨g, 2, none⟩ = some c := ⟨h.cell 0, h.cell 1, h.cell 2⟩
section
variable (last : Ent) (was : Bool) (rev : ByteArray) (now rep : Int) (h1 : last.val.size ≤ 9223372036854775807) (h2 : rev.size ≤ 9223372036854775807) (w : World) (he : Env w)
include h1 h2 he
theorem nneeds_heavy (h : 5000 < last.val.size ∨ 5000 < rev.size) : Calls Tryd.prog 7 #[.agg #[.string last.key, .int .i64 last.time, .int .u16 last.org, .string last.val, .int .i64 last.til], .bool was, .agg #[.string rev, .int .i64 now, .int .i64 rep]] w fun e w' => e = .returned (.bool true) ∧ Only Noth w w' := by
  have i1 : (last.val.size : Int) ≤ 9223372036854775807 := by omega
  have i2 : (rev.size : Int) ≤ 9223372036854775807 := by omega
  by_cases g1 : 5000 < last.val.size
  · have d1 : decide ((5000 : Int) < last.val.size) = true := by simp; omega
    clear h
    go_enter Tryd.func7, Tryd.ntmps7
    go_wp2_with (go_at_call 22; refine (nfl_awake _ (he.noth (((Only.refl Noth w).alloc _).alloc _))).mono ?_; rintro e w1 ⟨rfl, ho⟩; have HO := Lib.hid ho; clear ho)
    go_ret
    exact ⟨rfl, ((((Only.refl Noth w).alloc _).alloc _).tr HO.out)⟩
  · have d1 : decide ((5000 : Int) < last.val.size) = false := by simp; omega
    have d3 : decide ((5000 : Int) < rev.size) = true := by simp; omega
    clear h
    go_enter Tryd.func7, Tryd.ntmps7
    go_wp2_with (go_at_call 22; refine (nfl_awake _ (he.noth (((Only.refl Noth w).alloc _).alloc _))).mono ?_; rintro e w1 ⟨rfl, ho⟩; have HO := Lib.hid ho; clear ho)
    go_ret
    exact ⟨rfl, ((((Only.refl Noth w).alloc _).alloc _).tr HO.out)⟩
variable (hn0 : -9223372036854775808 ≤ now) (hn1 : now ≤ 9223372036854775807) (ht0 : -9223372036854775808 ≤ last.time) (ht1 : last.time ≤ 9223372036854775807)
include hn0 hn1 ht0 ht1
set_option maxHeartbeats 4000000 in
theorem nneeds_light (l1 : last.val.size ≤ 5000) (l2 : rev.size ≤ 5000) : Calls Tryd.prog 7 #[.agg #[.string last.key, .int .i64 last.time, .int .u16 last.org, .string last.val, .int .i64 last.til], .bool was, .agg #[.string rev, .int .i64 now, .int .i64 rep]] w fun e w' => e = .returned (.bool true) ∧ Only Noth w w' := by
  have i1 : (last.val.size : Int) ≤ 9223372036854775807 := by omega
  have i2 : (rev.size : Int) ≤ 9223372036854775807 := by omega
  have d1 : decide ((5000 : Int) < last.val.size) = false := by simp; omega
  have d2 : decide ((5000 : Int) < rev.size) = false := by simp; omega
  obtain ⟨x, hx⟩ : ∃ x, needB last was rev now rep = x := ⟨_, rfl⟩
  have X := Lib.hid hx
  have T := Lib.hid he
  have LB := Lib.hid ((Hld.new w 24 #[.string last.key, .int .i64 last.time, .int .u16 last.org, .string last.val, .int .i64 last.til]).alloc (.cells #[.string rev, .int .i64 now, .int .i64 rep] 43))
  have SB := Lib.hid (Hld.at_ (w.alloc (.cells #[.string last.key, .int .i64 last.time, .int .u16 last.org, .string last.val, .int .i64 last.til] 24)) 43 #[.string rev, .int .i64 now, .int .i64 rep] (w.heap.size + 1) (by simp))
  have ON := Lib.hid (((Only.refl Noth w).alloc (.cells #[.string last.key, .int .i64 last.time, .int .u16 last.org, .string last.val, .int .i64 last.til] 24)).alloc (.cells #[.string rev, .int .i64 now, .int .i64 rep] 43))
  have V1 := Lib.hid (show last.val.size ≤ 140737488355000 by omega)
  have V2 := Lib.hid (show rev.size ≤ 140737488355000 by omega)
  clear hx he
  go_enter Tryd.func7, Tryd.ntmps7
  go_wp2_with fail
  refine wp_region_N Noth (by kernel_rfl) ?_
  refine wpN_take (i := 0) (d := some 18) rfl rfl (by kernel_rfl) (by kernel_rfl) (by kernel_rfl) (fun _ _ _ h => h) (sure_ent (by rfl) rfl rfl (LB.out.drew)) (Only.refl _ _) ?_
  simp only [Act.put, List.setIfInBounds_toArray, List.set_cons_zero, List.set_cons_succ]
  refine wpN_take (i := 1) (d := some 19) rfl rfl (by kernel_rfl) (by kernel_rfl) (by kernel_rfl) (fun _ _ _ h => h) (sure_value (v := .bool was) (by rfl) (fun _ _ => rfl)) (Only.refl _ _) ?_
  simp only [Act.put, List.setIfInBounds_toArray, List.set_cons_zero, List.set_cons_succ]
  refine wpN_take (i := 2) (d := some 20) rfl rfl (by kernel_rfl) (by kernel_rfl) (by kernel_rfl) (fun _ _ _ h => h) (sure_value (v := .pointer (some ⟨w.heap.size + 1, 0, none⟩)) (by rfl) (fun _ _ => by go_simp)) (Only.refl _ _) ?_
  simp only [Act.put, List.setIfInBounds_toArray, List.set_cons_zero, List.set_cons_succ]
  refine wpN_take (i := 3) (d := some 21) rfl rfl (by kernel_rfl) (by kernel_rfl) (by kernel_rfl) (fun _ _ _ h => h) (sure_str (by rfl) rfl rfl SB.out.drew rfl (fun h => h)) (Only.refl _ _) ?_
  simp only [Act.put, List.setIfInBounds_toArray, List.set_cons_zero, List.set_cons_succ]
  refine wpN_take (i := 4) (d := some 22) rfl rfl (by kernel_rfl) (by kernel_rfl) (by kernel_rfl) (fun _ _ _ h => h) (sure_value (v := .pointer (some ⟨w.heap.size + 1, 1, none⟩)) (by rfl) (fun _ _ => by go_simp)) (Only.refl _ _) ?_
  simp only [Act.put, List.setIfInBounds_toArray, List.set_cons_zero, List.set_cons_succ]
  refine wpN_take (i := 5) (d := some 23) rfl rfl (by kernel_rfl) (by kernel_rfl) (by kernel_rfl) (fun _ _ _ h => h) (sure_num (by rfl) rfl rfl SB.out.drew rfl (fun h => h)) (Only.refl _ _) ?_
  simp only [Act.put, List.setIfInBounds_toArray, List.set_cons_zero, List.set_cons_succ]
  refine wpN_take (i := 6) (d := some 24) rfl rfl (by kernel_rfl) (by kernel_rfl) (by kernel_rfl) (fun _ _ _ h => h) (sure_value (v := .pointer (some ⟨w.heap.size + 1, 2, none⟩)) (by rfl) (fun _ _ => by go_simp)) (Only.refl _ _) ?_
  simp only [Act.put, List.setIfInBounds_toArray, List.set_cons_zero, List.set_cons_succ]
  refine wpN_take (i := 7) (d := some 25) rfl rfl (by kernel_rfl) (by kernel_rfl) (by kernel_rfl) (fun _ _ _ h => h) (sure_num (by rfl) rfl rfl SB.out.drew rfl (fun h => h)) (Only.refl _ _) ?_
  simp only [Act.put, List.setIfInBounds_toArray, List.set_cons_zero, List.set_cons_succ]
  refine wpN_take (i := 8) (d := some 26) rfl rfl (by kernel_rfl) (by kernel_rfl) (by kernel_rfl) (fun _ _ _ h => h) (sure_call (v := .bool x) (fun w1 ho => by have := nfl_need last was rev now rep V2.out V1.out hn0 hn1 ht0 ht1 _ (T.out.noth (ON.out.tr (Only.undrew ho))); rw [X.out] at this; exact this) (by rfl) (fun _ => by go_simp)) (Only.refl _ _) ?_
  simp only [Act.put, List.setIfInBounds_toArray, List.set_cons_zero, List.set_cons_succ]
  refine wpN_take (i := 9) (d := some 27) rfl rfl (by kernel_rfl) (by kernel_rfl) (by kernel_rfl) (fun _ _ _ h => h) (sure_ent (by rfl) rfl rfl (LB.out.drew)) (Only.refl _ _) ?_
  simp only [Act.put, List.setIfInBounds_toArray, List.set_cons_zero, List.set_cons_succ]
  refine wpN_take (i := 10) (d := some 28) rfl rfl (by kernel_rfl) (by kernel_rfl) (by kernel_rfl) (fun _ _ _ h => h) (sure_value (v := .bool was) (by rfl) (fun _ _ => rfl)) (Only.refl _ _) ?_
  simp only [Act.put, List.setIfInBounds_toArray, List.set_cons_zero, List.set_cons_succ]
  refine wpN_take (i := 11) (d := some 29) rfl rfl (by kernel_rfl) (by kernel_rfl) (by kernel_rfl) (fun _ _ _ h => h) (sure_value (v := .pointer (some ⟨w.heap.size + 1, 0, none⟩)) (by rfl) (fun _ _ => by go_simp)) (Only.refl _ _) ?_
  simp only [Act.put, List.setIfInBounds_toArray, List.set_cons_zero, List.set_cons_succ]
  refine wpN_take (i := 12) (d := some 30) rfl rfl (by kernel_rfl) (by kernel_rfl) (by kernel_rfl) (fun _ _ _ h => h) (sure_str (by rfl) rfl rfl SB.out.drew rfl (fun h => h)) (Only.refl _ _) ?_
  simp only [Act.put, List.setIfInBounds_toArray, List.set_cons_zero, List.set_cons_succ]
  refine wpN_take (i := 13) (d := some 31) rfl rfl (by kernel_rfl) (by kernel_rfl) (by kernel_rfl) (fun _ _ _ h => h) (sure_value (v := .pointer (some ⟨w.heap.size + 1, 1, none⟩)) (by rfl) (fun _ _ => by go_simp)) (Only.refl _ _) ?_
  simp only [Act.put, List.setIfInBounds_toArray, List.set_cons_zero, List.set_cons_succ]
  refine wpN_take (i := 14) (d := some 32) rfl rfl (by kernel_rfl) (by kernel_rfl) (by kernel_rfl) (fun _ _ _ h => h) (sure_num (by rfl) rfl rfl SB.out.drew rfl (fun h => h)) (Only.refl _ _) ?_
  simp only [Act.put, List.setIfInBounds_toArray, List.set_cons_zero, List.set_cons_succ]
  refine wpN_take (i := 15) (d := some 33) rfl rfl (by kernel_rfl) (by kernel_rfl) (by kernel_rfl) (fun _ _ _ h => h) (sure_value (v := .pointer (some ⟨w.heap.size + 1, 2, none⟩)) (by rfl) (fun _ _ => by go_simp)) (Only.refl _ _) ?_
  simp only [Act.put, List.setIfInBounds_toArray, List.set_cons_zero, List.set_cons_succ]
  refine wpN_take (i := 16) (d := some 34) rfl rfl (by kernel_rfl) (by kernel_rfl) (by kernel_rfl) (fun _ _ _ h => h) (sure_num (by rfl) rfl rfl SB.out.drew rfl (fun h => h)) (Only.refl _ _) ?_
  simp only [Act.put, List.setIfInBounds_toArray, List.set_cons_zero, List.set_cons_succ]
  refine wpN_take (i := 17) (d := some 35) rfl rfl (by kernel_rfl) (by kernel_rfl) (by kernel_rfl) (fun _ _ _ h => h) (sure_call (v := .bool x) (fun w1 ho => by have := ref_need last was rev now rep V2.out V1.out hn0 hn1 ht0 ht1 _ (T.out.noth (ON.out.tr (Only.undrew ho))); rw [X.out] at this; exact this) (by rfl) (fun _ => by go_simp)) (Only.refl _ _) ?_
  simp only [Act.put, List.setIfInBounds_toArray, List.set_cons_zero, List.set_cons_succ]
  refine wpN_take (i := 18) (d := some 36) rfl rfl (by kernel_rfl) (by kernel_rfl) (by kernel_rfl) (fun _ _ _ h => h) (sure_value (v := .bool true) (by rfl) (fun _ _ => by go_simp)) (Only.refl _ _) ?_
  simp only [Act.put, List.setIfInBounds_toArray, List.set_cons_zero, List.set_cons_succ]
  refine wpN_take (i := 19) (d := some 37) rfl rfl (by kernel_rfl) (by kernel_rfl) (by kernel_rfl) (fun _ _ _ h => h) (sure_value (v := .bool true) (by rfl) (fun _ _ => rfl)) (Only.refl _ _) ?_
  simp only [Act.put, List.setIfInBounds_toArray, List.set_cons_zero, List.set_cons_succ]
  refine wpN_take (i := 20) (d := some 38) rfl rfl (by kernel_rfl) (by kernel_rfl) (by kernel_rfl) (fun _ _ _ h => h) (sure_call (fun w1 ho => nfl_awake _ (T.out.noth (ON.out.tr (Only.undrew ho)))) (by rfl) (fun _ => by go_simp)) (Only.refl _ _) ?_
  simp only [Act.put, List.setIfInBounds_toArray, List.set_cons_zero, List.set_cons_succ]
  refine wpN_take (i := 21) (d := some 39) rfl rfl (by kernel_rfl) (by kernel_rfl) (by kernel_rfl) (fun _ _ _ h => h) (sure_value (v := .bool true) (by rfl) (fun _ _ => rfl)) (Only.refl _ _) ?_
  simp only [Act.put, List.setIfInBounds_toArray, List.set_cons_zero, List.set_cons_succ]
  refine wpN_take (i := 22) (d := some 6) rfl rfl (by kernel_rfl) (by kernel_rfl) (by kernel_rfl) (fun _ _ _ h => h) (sure_value (v := .bool true) (by rfl) (fun _ _ => rfl)) (Only.refl _ _) ?_
  simp only [Act.put, List.setIfInBounds_toArray, List.set_cons_zero, List.set_cons_succ]
  refine wpN_done (by kernel_rfl) (fun W7 ho7 => ?_) _
  go_wp2
  go_ret
  exact ⟨rfl, ON.out.tr (Only.undrew ho7)⟩
theorem nneeds_walk : Calls Tryd.prog 7 #[.agg #[.string last.key, .int .i64 last.time, .int .u16 last.org, .string last.val, .int .i64 last.til], .bool was, .agg #[.string rev, .int .i64 now, .int .i64 rep]] w fun e w' => e = .returned (.bool true) ∧ Only Noth w w' := by
  by_cases g1 : 5000 < last.val.size
  · exact nneeds_heavy last was rev now rep h1 h2 w he (.inl g1)
  · by_cases g2 : 5000 < rev.size
    · exact nneeds_heavy last was rev now rep h1 h2 w he (.inr g2)
    · exact nneeds_light last was rev now rep h1 h2 w he hn0 hn1 ht0 ht1 (by omega) (by omega)
end
end Go.Proofs.YtgclhkknkppmbaaDoor
