/- The walk of NflogEntries. -/
import Derived.Test.YtgclhkknkppmbaaDoorRefE
import Derived.Test.YtgclhkknkppmbaaDoorNflD
import Derived.Test.YtgclhkknkppmbaaDoorOrdC
import Derived.Test.YtgclhkknkppmbaaDoorOrdE
namespace Go.Proofs.YtgclhkknkppmbaaDoor
open Go.RowKit Go.Lib
set_option linter.unusedVariables false
set_option maxRecDepth 100000
attribute [local go_sem ↓] Go.wp_at_zero Go.wp_at_succ

section
variable (s : Snd) (o keep : Int) (h1 : s.rcv.size ≤ 9223372036854775807) (h2 : s.key.size ≤ 9223372036854775807) (h3 : s.rev.size ≤ 9223372036854775807) (w : World) (he : Env w)
include h1 h2 h3 he
theorem nentries_heavy (h : 20000 < s.rcv.size ∨ 20000 < s.key.size ∨ 20000 < s.rev.size) : Calls Tryd.prog 6 #[.agg #[.string s.rcv, .string s.key, .string s.rev, .int .i64 s.at_], .int .u16 o, .int .i64 keep] w fun e w' => e = .returned (.bool true) ∧ Only Noth w w' := by
  have i1 : (s.rcv.size : Int) ≤ 9223372036854775807 := by omega
  have i2 : (s.key.size : Int) ≤ 9223372036854775807 := by omega
  have i3 : (s.rev.size : Int) ≤ 9223372036854775807 := by omega
  by_cases g1 : 20000 < s.rcv.size
  · have d1 : decide ((20000 : Int) < s.rcv.size) = true := by simp; omega
    clear h
    go_enter Tryd.func6, Tryd.ntmps6
    go_wp2_with (go_at_call 22; refine (nfl_awake _ (he.noth ((Only.refl Noth w).alloc _))).mono ?_; rintro e w1 ⟨rfl, ho⟩; have HO := Lib.hid ho; clear ho)
    go_ret
    exact ⟨rfl, (((Only.refl Noth w).alloc _).tr HO.out)⟩
  · have d1 : decide ((20000 : Int) < s.rcv.size) = false := by simp; omega
    by_cases g2 : 20000 < s.key.size
    · have d2 : decide ((20000 : Int) < s.key.size) = true := by simp; omega
      clear h
      go_enter Tryd.func6, Tryd.ntmps6
      go_wp2_with (go_at_call 22; refine (nfl_awake _ (he.noth ((Only.refl Noth w).alloc _))).mono ?_; rintro e w1 ⟨rfl, ho⟩; have HO := Lib.hid ho; clear ho)
      go_ret
      exact ⟨rfl, (((Only.refl Noth w).alloc _).tr HO.out)⟩
    · have d2 : decide ((20000 : Int) < s.key.size) = false := by simp; omega
      have d3 : decide ((20000 : Int) < s.rev.size) = true := by simp; omega
      clear h
      go_enter Tryd.func6, Tryd.ntmps6
      go_wp2_with (go_at_call 22; refine (nfl_awake _ (he.noth ((Only.refl Noth w).alloc _))).mono ?_; rintro e w1 ⟨rfl, ho⟩; have HO := Lib.hid ho; clear ho)
      go_ret
      exact ⟨rfl, (((Only.refl Noth w).alloc _).tr HO.out)⟩
variable (hk1 : -9223372036854775808 ≤ keep) (hk3 : keep ≤ 9223372036854775807)
include hk1 hk3
set_option maxHeartbeats 4000000 in
theorem nentries_light (l1 : s.rcv.size ≤ 20000) (l2 : s.key.size ≤ 20000) (l3 : s.rev.size ≤ 20000) : Calls Tryd.prog 6 #[.agg #[.string s.rcv, .string s.key, .string s.rev, .int .i64 s.at_], .int .u16 o, .int .i64 keep] w fun e w' => e = .returned (.bool true) ∧ Only Noth w w' := by
  have i1 : (s.rcv.size : Int) ≤ 9223372036854775807 := by omega
  have i2 : (s.key.size : Int) ≤ 9223372036854775807 := by omega
  have i3 : (s.rev.size : Int) ≤ 9223372036854775807 := by omega
  have d1 : decide ((20000 : Int) < s.rcv.size) = false := by simp; omega
  have d2 : decide ((20000 : Int) < s.key.size) = false := by simp; omega
  have d3 : decide ((20000 : Int) < s.rev.size) = false := by simp; omega
  obtain ⟨x, hx⟩ : ∃ x, s.ent o keep = x := ⟨_, rfl⟩
  have X := Lib.hid hx
  have T := Lib.hid he
  have S := Lib.hid (Hld.new w 35 #[.string s.rcv, .string s.key, .string s.rev, .int .i64 s.at_])
  have ON := Lib.hid ((Only.refl Noth w).alloc (.cells #[.string s.rcv, .string s.key, .string s.rev, .int .i64 s.at_] 35))
  have L12 := Lib.hid (show s.rcv.size + s.key.size ≤ 140737488355000 by omega)
  clear hx he
  go_enter Tryd.func6, Tryd.ntmps6
  go_wp2_with fail
  refine (nfl_entry s o keep L12.out h3 _ (T.out.noth ON.out).tab).mono ?_
  rw [X.out]
  rintro e w1 ⟨rfl, ho⟩
  have ON1 := Lib.hid (ON.out.tr ho)
  have S1 := Lib.hid (S.out.only ho (fun h => h))
  obtain ⟨c0, c1, c2, c3⟩ := (S1.out.alloc (.cells #[.string x.1.key, .int .i64 x.1.time, .int .u16 x.1.org, .string x.1.val, .int .i64 x.1.til] 24)).four
  clear ho
  go_wp2_with fail
  refine (ref_nentry s o keep L12.out h3 hk1 hk3 _).mono ?_
  rw [X.out]
  rintro e w2 ⟨rfl, ho⟩
  have XA := Lib.hid ((Hld.new w1 24 #[.string x.1.key, .int .i64 x.1.time, .int .u16 x.1.org, .string x.1.val, .int .i64 x.1.til]).only ho (fun h => h))
  have ON2 := Lib.hid ((ON1.out.alloc _).tr ho)
  have S2 := Lib.hid ((S1.out.alloc (.cells #[.string x.1.key, .int .i64 x.1.time, .int .u16 x.1.org, .string x.1.val, .int .i64 x.1.til] 24)).only ho (fun h => h))
  clear ho c0 c1 c2 c3
  go_wp2_with fail
  obtain ⟨W, hW⟩ : ∃ W, W = (w2.alloc (.cells #[.string x.1.key, .int .i64 x.1.time, .int .u16 x.1.org, .string x.1.val, .int .i64 x.1.til] 24)) := ⟨_, rfl⟩
  rw [← hW]
  have XB := Lib.hid (show Hld W w2.heap.size 24 #[.string x.1.key, .int .i64 x.1.time, .int .u16 x.1.org, .string x.1.val, .int .i64 x.1.til] by rw [hW]; exact Hld.new _ _ _)
  have XA3 := Lib.hid (show Hld W w1.heap.size 24 #[.string x.1.key, .int .i64 x.1.time, .int .u16 x.1.org, .string x.1.val, .int .i64 x.1.til] by rw [hW]; exact XA.out.alloc _)
  have S3 := Lib.hid (show Hld W w.heap.size 35 #[.string s.rcv, .string s.key, .string s.rev, .int .i64 s.at_] by rw [hW]; exact S2.out.alloc _)
  have ON3 := Lib.hid (show Only Noth w W by rw [hW]; exact ON2.out.alloc _)
  clear hW
  refine wp_region_N Noth (by kernel_rfl) ?_
  refine wpN_take (i := 0) (d := some 42) rfl rfl (by kernel_rfl) (by kernel_rfl) (by kernel_rfl) (fun _ _ _ h => h) (sure_ent (by rfl) rfl rfl (XA3.out.drew)) (Only.refl _ _) ?_
  simp only [Act.put, List.setIfInBounds_toArray, List.set_cons_zero, List.set_cons_succ]
  refine wpN_take (i := 1) (d := some 43) rfl rfl (by kernel_rfl) (by kernel_rfl) (by kernel_rfl) (fun _ _ _ h => h) (sure_ent (by rfl) rfl rfl (XB.out.drew)) (Only.refl _ _) ?_
  simp only [Act.put, List.setIfInBounds_toArray, List.set_cons_zero, List.set_cons_succ]
  refine wpN_take (i := 2) (d := some 44) rfl rfl (by kernel_rfl) (by kernel_rfl) (by kernel_rfl) (fun _ _ _ h => h) (sure_eq (x := x.1) (y := x.1) (eqs_self _ _ _ _ _) (by rfl) rfl rfl rfl) (Only.refl _ _) ?_
  simp only [Act.put, List.setIfInBounds_toArray, List.set_cons_zero, List.set_cons_succ]
  refine wpN_take (i := 3) (d := some 45) rfl rfl (by kernel_rfl) (by kernel_rfl) (by kernel_rfl) (fun _ _ _ h => h) (sure_value (v := .bool true) (by rfl) (fun _ _ => rfl)) (Only.refl _ _) ?_
  simp only [Act.put, List.setIfInBounds_toArray, List.set_cons_zero, List.set_cons_succ]
  refine wpN_take (i := 4) (d := some 46) rfl rfl (by kernel_rfl) (by kernel_rfl) (by kernel_rfl) (fun _ _ _ h => h) (sure_value (v := .int .i64 x.2) (by rfl) (fun _ _ => rfl)) (Only.refl _ _) ?_
  simp only [Act.put, List.setIfInBounds_toArray, List.set_cons_zero, List.set_cons_succ]
  refine wpN_take (i := 5) (d := some 47) rfl rfl (by kernel_rfl) (by kernel_rfl) (by kernel_rfl) (fun _ _ _ h => h) (sure_value (v := .int .i64 x.2) (by rfl) (fun _ _ => rfl)) (Only.refl _ _) ?_
  simp only [Act.put, List.setIfInBounds_toArray, List.set_cons_zero, List.set_cons_succ]
  refine wpN_take (i := 6) (d := some 48) rfl rfl (by kernel_rfl) (by kernel_rfl) (by kernel_rfl) (fun _ _ _ h => h) (sure_value (v := .bool true) (by rfl) (fun _ _ => by go_simp)) (Only.refl _ _) ?_
  simp only [Act.put, List.setIfInBounds_toArray, List.set_cons_zero, List.set_cons_succ]
  refine wpN_take (i := 7) (d := some 49) rfl rfl (by kernel_rfl) (by kernel_rfl) (by kernel_rfl) (fun _ _ _ h => h) (sure_value (v := .bool true) (by rfl) (fun _ _ => rfl)) (Only.refl _ _) ?_
  simp only [Act.put, List.setIfInBounds_toArray, List.set_cons_zero, List.set_cons_succ]
  refine wpN_take (i := 8) (d := some 50) rfl rfl (by kernel_rfl) (by kernel_rfl) (by kernel_rfl) (fun _ _ _ h => h) (sure_value (v := .bool true) (by rfl) (fun _ _ => rfl)) (Only.refl _ _) ?_
  simp only [Act.put, List.setIfInBounds_toArray, List.set_cons_zero, List.set_cons_succ]
  refine wpN_take (i := 9) (d := some 51) rfl rfl (by kernel_rfl) (by kernel_rfl) (by kernel_rfl) (fun _ _ _ h => h) (sure_value (v := .pointer (some ⟨w.heap.size, 0, none⟩)) (by rfl) (fun _ _ => by go_simp)) (Only.refl _ _) ?_
  simp only [Act.put, List.setIfInBounds_toArray, List.set_cons_zero, List.set_cons_succ]
  refine wpN_take (i := 10) (d := some 52) rfl rfl (by kernel_rfl) (by kernel_rfl) (by kernel_rfl) (fun _ _ _ h => h) (sure_str (by rfl) rfl rfl S3.out.drew rfl (fun h => h)) (Only.refl _ _) ?_
  simp only [Act.put, List.setIfInBounds_toArray, List.set_cons_zero, List.set_cons_succ]
  refine wpN_take (i := 11) (d := some 53) rfl rfl (by kernel_rfl) (by kernel_rfl) (by kernel_rfl) (fun _ _ _ h => h) (sure_value (v := .pointer (some ⟨w.heap.size, 1, none⟩)) (by rfl) (fun _ _ => by go_simp)) (Only.refl _ _) ?_
  simp only [Act.put, List.setIfInBounds_toArray, List.set_cons_zero, List.set_cons_succ]
  refine wpN_take (i := 12) (d := some 54) rfl rfl (by kernel_rfl) (by kernel_rfl) (by kernel_rfl) (fun _ _ _ h => h) (sure_str (by rfl) rfl rfl S3.out.drew rfl (fun h => h)) (Only.refl _ _) ?_
  simp only [Act.put, List.setIfInBounds_toArray, List.set_cons_zero, List.set_cons_succ]
  refine wpN_take (i := 13) (d := some 55) rfl rfl (by kernel_rfl) (by kernel_rfl) (by kernel_rfl) (fun _ _ _ h => h) (sure_call (fun w1 ho => nfl_key s.rcv s.key L12.out _ (T.out.noth (ON3.out.tr (Only.undrew ho))).tab) (by rfl) (fun _ => by go_simp)) (Only.refl _ _) ?_
  simp only [Act.put, List.setIfInBounds_toArray, List.set_cons_zero, List.set_cons_succ]
  refine wpN_take (i := 14) (d := some 56) rfl rfl (by kernel_rfl) (by kernel_rfl) (by kernel_rfl) (fun _ _ _ h => h) (sure_value (v := .pointer (some ⟨w.heap.size, 0, none⟩)) (by rfl) (fun _ _ => by go_simp)) (Only.refl _ _) ?_
  simp only [Act.put, List.setIfInBounds_toArray, List.set_cons_zero, List.set_cons_succ]
  refine wpN_take (i := 15) (d := some 57) rfl rfl (by kernel_rfl) (by kernel_rfl) (by kernel_rfl) (fun _ _ _ h => h) (sure_str (by rfl) rfl rfl S3.out.drew rfl (fun h => h)) (Only.refl _ _) ?_
  simp only [Act.put, List.setIfInBounds_toArray, List.set_cons_zero, List.set_cons_succ]
  refine wpN_take (i := 16) (d := some 58) rfl rfl (by kernel_rfl) (by kernel_rfl) (by kernel_rfl) (fun _ _ _ h => h) (sure_value (v := .pointer (some ⟨w.heap.size, 1, none⟩)) (by rfl) (fun _ _ => by go_simp)) (Only.refl _ _) ?_
  simp only [Act.put, List.setIfInBounds_toArray, List.set_cons_zero, List.set_cons_succ]
  refine wpN_take (i := 17) (d := some 59) rfl rfl (by kernel_rfl) (by kernel_rfl) (by kernel_rfl) (fun _ _ _ h => h) (sure_str (by rfl) rfl rfl S3.out.drew rfl (fun h => h)) (Only.refl _ _) ?_
  simp only [Act.put, List.setIfInBounds_toArray, List.set_cons_zero, List.set_cons_succ]
  refine wpN_take (i := 18) (d := some 60) rfl rfl (by kernel_rfl) (by kernel_rfl) (by kernel_rfl) (fun _ _ _ h => h) (sure_call (fun w1 ho => ref_nkey s.rcv s.key L12.out _) (by rfl) (fun _ => by go_simp)) (Only.refl _ _) ?_
  simp only [Act.put, List.setIfInBounds_toArray, List.set_cons_zero, List.set_cons_succ]
  refine wpN_take (i := 19) (d := some 61) rfl rfl (by kernel_rfl) (by kernel_rfl) (by kernel_rfl) (fun _ _ _ h => h) (sure_value (v := .bool true) (by rfl) (fun _ _ => by go_simp)) (Only.refl _ _) ?_
  simp only [Act.put, List.setIfInBounds_toArray, List.set_cons_zero, List.set_cons_succ]
  refine wpN_take (i := 20) (d := some 62) rfl rfl (by kernel_rfl) (by kernel_rfl) (by kernel_rfl) (fun _ _ _ h => h) (sure_value (v := .bool true) (by rfl) (fun _ _ => rfl)) (Only.refl _ _) ?_
  simp only [Act.put, List.setIfInBounds_toArray, List.set_cons_zero, List.set_cons_succ]
  refine wpN_take (i := 21) (d := some 63) rfl rfl (by kernel_rfl) (by kernel_rfl) (by kernel_rfl) (fun _ _ _ h => h) (sure_value (v := .bool true) (by rfl) (fun _ _ => rfl)) (Only.refl _ _) ?_
  simp only [Act.put, List.setIfInBounds_toArray, List.set_cons_zero, List.set_cons_succ]
  refine wpN_take (i := 22) (d := some 64) rfl rfl (by kernel_rfl) (by kernel_rfl) (by kernel_rfl) (fun _ _ _ h => h) (sure_call (fun w1 ho => nfl_awake _ (T.out.noth (ON3.out.tr (Only.undrew ho)))) (by rfl) (fun _ => by go_simp)) (Only.refl _ _) ?_
  simp only [Act.put, List.setIfInBounds_toArray, List.set_cons_zero, List.set_cons_succ]
  refine wpN_take (i := 23) (d := some 65) rfl rfl (by kernel_rfl) (by kernel_rfl) (by kernel_rfl) (fun _ _ _ h => h) (sure_value (v := .bool true) (by rfl) (fun _ _ => rfl)) (Only.refl _ _) ?_
  simp only [Act.put, List.setIfInBounds_toArray, List.set_cons_zero, List.set_cons_succ]
  refine wpN_take (i := 24) (d := some 6) rfl rfl (by kernel_rfl) (by kernel_rfl) (by kernel_rfl) (fun _ _ _ h => h) (sure_value (v := .bool true) (by rfl) (fun _ _ => rfl)) (Only.refl _ _) ?_
  simp only [Act.put, List.setIfInBounds_toArray, List.set_cons_zero, List.set_cons_succ]
  refine wpN_done (by kernel_rfl) (fun W7 ho7 => ?_) _
  go_wp2
  go_ret
  exact ⟨rfl, ON3.out.tr (Only.undrew ho7)⟩
theorem nentries_walk : Calls Tryd.prog 6 #[.agg #[.string s.rcv, .string s.key, .string s.rev, .int .i64 s.at_], .int .u16 o, .int .i64 keep] w fun e w' => e = .returned (.bool true) ∧ Only Noth w w' := by
  by_cases g1 : 20000 < s.rcv.size
  · exact nentries_heavy s o keep h1 h2 h3 w he (.inl g1)
  · by_cases g2 : 20000 < s.key.size
    · exact nentries_heavy s o keep h1 h2 h3 w he (.inr (.inl g2))
    · by_cases g3 : 20000 < s.rev.size
      · exact nentries_heavy s o keep h1 h2 h3 w he (.inr (.inr g3))
      · exact nentries_light s o keep h1 h2 h3 w he hk1 hk3 (by omega) (by omega) (by omega)
end
end Go.Proofs.YtgclhkknkppmbaaDoor
