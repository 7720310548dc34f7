/- Package label: Check. -/
import Derived.Test.YtokgignmdgejoaaDoorLbC
namespace Go.Proofs.YtokgignmdgejoaaDoor
open Go.RowKit Go.Lib
set_option linter.unusedVariables false
set_option linter.unusedSimpArgs false
set_option maxRecDepth 100000
attribute [local go_sem ↓] Go.wp_at_zero Go.wp_at_succ

theorem cmp_before : ∀ (a b : List UInt8), decide (0 ≤ compareBytes a b) = !bytesBefore a b
  | [], [] => by rfl
  | [], y :: s => by rfl
  | x :: r, [] => by rfl
  | x :: r, y :: s => by
    have ih := cmp_before r s
    unfold compareBytes bytesBefore
    by_cases h1 : x < y
    · simp [h1]
    · by_cases h2 : x = y
      · subst h2
        simp [ih]
      · have h3 : y < x := by
          rw [UInt8.lt_iff_toNat_lt] at h1 ⊢
          have : x.toNat ≠ y.toNat := fun e => h2 (UInt8.toNat_inj.1 e)
          omega
        simp [h1, h2, h3]
theorem byname_run (p q : Pr) (w : World) : Calls Tryd.prog 47 #[.agg p.arr, .agg q.arr] w fun e w' => e = .returned (.int .i64 (compareBytes p.nb q.nb)) ∧ Only Noth w w' := by
  have a1 := ((Only.refl Noth w).alloc (.cells p.arr 63)).alloc (.cells q.arr 63)
  have O := Lib.hid a1
  clear a1
  go_enter Tryd.func47, Tryd.ntmps47
  go_wp2_with fail
  refine (Tryd.strings_Compare p.name q.name _).mono ?_
  rintro e w1 ⟨rfl, rfl⟩
  go_wp2
  go_ret
  exact ⟨rfl, O.out⟩
set_option maxHeartbeats 4000000 in
theorem check_run (S : Nat → Prop) (A : Option Addr) (c n : Nat) (l : List Pr) (hn : l.length = n) (w : World) (h : PsAt w S A c l) :
    Calls Tryd.prog 29 #[.slice A n c] w fun e w' => e = .returned (.int .i64 (lcheck l)) ∧ Only Noth w w' := by
  have H := Lib.hid h
  have HN := Lib.hid hn
  have hni : (n : Int) ≤ 9223372036854775807 := by have := h.cap; have := h.top; omega
  have hn0 : (0 : Int) ≤ n := by omega
  clear h hn
  go_enter Tryd.func29, Tryd.ntmps29
  go_wp2_with fail
  refine (parts_run S A c n l HN.out w H.out).mono ?_
  rintro e w1 ⟨rfl, ho⟩
  have O1 := Lib.hid ho
  obtain ⟨z, hz⟩ : ∃ z, lparts l = z := ⟨_, rfl⟩
  have HZ := Lib.hid hz
  rw [hz]
  clear ho hz
  by_cases hz0 : z = 0
  · subst hz0
    go_wp2_with fail
    go_loopw [4, 12] (fun _ i W => ∃ k : Nat, k ≤ n ∧ i = .int .i64 (k : Int) ∧ lord l k ∧ Only Noth w W) (fun _ i _ => n - (RowKit.intOf i).toNat)
    case atStart => exact ⟨0, Nat.zero_le _, rfl, fun i a b h => absurd h (by omega), O1.out⟩
    case round =>
      obtain ⟨k, hk, rfl, hord, ho⟩ := hrel
      have HO := Lib.hid hord
      have O := Lib.hid ho
      have hk0 : (0 : Int) ≤ k := by omega
      clear hord ho
      by_cases hlt : k < n
      · have hk1 : (k : Int) < n := by omega
        cases k with
        | zero =>
          go_upto_region 7 with fail
          refine wp_region_N Noth (by kernel_rfl) ?_
          refine wpN_take (i := 0) (d := some 15) rfl rfl (by kernel_rfl) (by kernel_rfl) (by kernel_rfl) (fun _ _ _ h => h) (sure_value (v := .int .i64 0) (by rfl) (fun v1 h1 => by first | rfl | (go_simp; done) | (go_simp; intro h9; exact absurd h9 (by omega)) | (go_simp; assumption))) (Only.refl _ _) ?_
          simp only [Act.put, List.setIfInBounds_toArray, List.set_cons_zero, List.set_cons_succ]
          refine wpN_take (i := 1) (d := some 16) rfl rfl (by kernel_rfl) (by kernel_rfl) (by kernel_rfl) (fun _ _ _ h => h) (sure_value (v := .bool false) (by rfl) (fun v1 h1 => by first | rfl | (go_simp; done) | (go_simp; intro h9; exact absurd h9 (by omega)) | (go_simp; assumption))) (Only.refl _ _) ?_
          simp only [Act.put, List.setIfInBounds_toArray, List.set_cons_zero, List.set_cons_succ]
          refine wpN_take (i := 2) (d := some 17) rfl rfl (by kernel_rfl) (by kernel_rfl) (by kernel_rfl) (fun _ _ _ h => h) (sure_value (v := .bool false) (by rfl) (fun v1 h1 => by first | rfl | (go_simp; done) | (go_simp; intro h9; exact absurd h9 (by omega)) | (go_simp; assumption))) (Only.refl _ _) ?_
          simp only [Act.put, List.setIfInBounds_toArray, List.set_cons_zero, List.set_cons_succ]
          refine wpN_take (i := 3) (d := some 18) rfl rfl (by kernel_rfl) (by kernel_rfl) (by kernel_rfl) (fun _ _ _ h => h) (sure_skip (by rfl)) (Only.refl _ _) ?_
          simp only [Act.put, List.setIfInBounds_toArray, List.set_cons_zero, List.set_cons_succ]
          refine wpN_take (i := 4) (d := some 19) rfl rfl (by kernel_rfl) (by kernel_rfl) (by kernel_rfl) (fun _ _ _ h => h) (sure_skip (by rfl)) (Only.refl _ _) ?_
          simp only [Act.put, List.setIfInBounds_toArray, List.set_cons_zero, List.set_cons_succ]
          refine wpN_take (i := 5) (d := some 20) rfl rfl (by kernel_rfl) (by kernel_rfl) (by kernel_rfl) (fun _ _ _ h => h) (sure_skip (by rfl)) (Only.refl _ _) ?_
          simp only [Act.put, List.setIfInBounds_toArray, List.set_cons_zero, List.set_cons_succ]
          refine wpN_take (i := 6) (d := some 21) rfl rfl (by kernel_rfl) (by kernel_rfl) (by kernel_rfl) (fun _ _ _ h => h) (sure_skip (by rfl)) (Only.refl _ _) ?_
          simp only [Act.put, List.setIfInBounds_toArray, List.set_cons_zero, List.set_cons_succ]
          refine wpN_take (i := 7) (d := some 22) rfl rfl (by kernel_rfl) (by kernel_rfl) (by kernel_rfl) (fun _ _ _ h => h) (sure_skip (by rfl)) (Only.refl _ _) ?_
          simp only [Act.put, List.setIfInBounds_toArray, List.set_cons_zero, List.set_cons_succ]
          refine wpN_take (i := 8) (d := some 23) rfl rfl (by kernel_rfl) (by kernel_rfl) (by kernel_rfl) (fun _ _ _ h => h) (sure_skip (by rfl)) (Only.refl _ _) ?_
          simp only [Act.put, List.setIfInBounds_toArray, List.set_cons_zero, List.set_cons_succ]
          refine wpN_take (i := 9) (d := some 24) rfl rfl (by kernel_rfl) (by kernel_rfl) (by kernel_rfl) (fun _ _ _ h => h) (sure_skip (by rfl)) (Only.refl _ _) ?_
          simp only [Act.put, List.setIfInBounds_toArray, List.set_cons_zero, List.set_cons_succ]
          refine wpN_take (i := 10) (d := some 25) rfl rfl (by kernel_rfl) (by kernel_rfl) (by kernel_rfl) (fun _ _ _ h => h) (sure_skip (by rfl)) (Only.refl _ _) ?_
          simp only [Act.put, List.setIfInBounds_toArray, List.set_cons_zero, List.set_cons_succ]
          refine wpN_take (i := 11) (d := some 26) rfl rfl (by kernel_rfl) (by kernel_rfl) (by kernel_rfl) (fun _ _ _ h => h) (sure_skip (by rfl)) (Only.refl _ _) ?_
          simp only [Act.put, List.setIfInBounds_toArray, List.set_cons_zero, List.set_cons_succ]
          refine wpN_take (i := 12) (d := some 27) rfl rfl (by kernel_rfl) (by kernel_rfl) (by kernel_rfl) (fun _ _ _ h => h) (sure_skip (by rfl)) (Only.refl _ _) ?_
          simp only [Act.put, List.setIfInBounds_toArray, List.set_cons_zero, List.set_cons_succ]
          refine wpN_take (i := 13) (d := some 28) rfl rfl (by kernel_rfl) (by kernel_rfl) (by kernel_rfl) (fun _ _ _ h => h) (sure_skip (by rfl)) (Only.refl _ _) ?_
          simp only [Act.put, List.setIfInBounds_toArray, List.set_cons_zero, List.set_cons_succ]
          refine wpN_take (i := 14) (d := some 29) rfl rfl (by kernel_rfl) (by kernel_rfl) (by kernel_rfl) (fun _ _ _ h => h) (sure_value (v := .bool false) (by rfl) (fun v1 h1 => by first | rfl | (go_simp; done) | (go_simp; intro h9; exact absurd h9 (by omega)) | (go_simp; assumption))) (Only.refl _ _) ?_
          simp only [Act.put, List.setIfInBounds_toArray, List.set_cons_zero, List.set_cons_succ]
          refine wpN_done (by kernel_rfl) (fun w2 ho => ?_) _
          have O2 := Lib.hid (O.out.tr (Only.undrew ho))
          clear ho
          go_wp2_with fail
          go_roundw
          case rel => exact ⟨1, by omega, by go_num, fun i a b h => absurd h (by omega), O2.out⟩
          case measure => simp [RowKit.intOf]; omega
        | succ j =>
          obtain ⟨x, hx⟩ : ∃ x, l[j]? = some x := ⟨_, List.getElem?_eq_getElem (by rw [HN.out]; omega)⟩
          obtain ⟨y, hy⟩ : ∃ y, l[j + 1]? = some y := ⟨_, List.getElem?_eq_getElem (by rw [HN.out]; exact hlt)⟩
          obtain ⟨b, o, hA, _, hb, hc⟩ := (H.out.noth O.out).mem (by rw [HN.out]; omega)
          subst hA
          have HX := Lib.hid hx
          have HY := Lib.hid hy
          have hsub : (((j + 1 : Nat)) : Int) - 1 = (j : Int) := by omega
          have hj0 : (0 : Int) ≤ j := by omega
          have hwr : IntKind.i64.wrap (j : Int) = (j : Int) := by rw [IntKind.wrap_i64]; omega
          have hj1 : (j : Int) < n := by omega
          have hpos : (0 : Int) < ((j + 1 : Nat) : Int) := by omega
          have hall : ∀ W (i : Nat) (p : Pr), Only Noth wr W → l[i]? = some p → W.cell? ⟨b, o + i * 2, none⟩ = some (.string p.name) ∧ W.cell? ⟨b, o + i * 2 + 1, none⟩ = some (.string p.val) := fun W i p ho hp => ⟨(ho.cell (p := ⟨b, o + i * 2, none⟩) hb (fun h => h)).trans (hc i p hp).1, (ho.cell (p := ⟨b, o + i * 2 + 1, none⟩) hb (fun h => h)).trans (hc i p hp).2⟩
          have HX2 := Lib.hid (fun W ho => hall W j x ho hx)
          have HY2 := Lib.hid (fun W ho => hall W (j + 1) y ho hy)
          have HCB := Lib.hid (cmp_before x.nb y.nb)
          clear hx hy hc hb hall
          go_upto_region 7 with fail
          refine wp_region_N Noth (by kernel_rfl) ?_
          refine wpN_take (i := 0) (d := some 15) rfl rfl (by kernel_rfl) (by kernel_rfl) (by kernel_rfl) (fun _ _ _ h => h) (sure_value (v := .int .i64 ((j + 1 : Nat) : Int)) (by rfl) (fun v1 h1 => by first | rfl | (go_simp; done) | (go_simp; intro h9; exact absurd h9 (by omega)) | (go_simp; assumption))) (Only.refl _ _) ?_
          simp only [Act.put, List.setIfInBounds_toArray, List.set_cons_zero, List.set_cons_succ]
          refine wpN_take (i := 1) (d := some 16) rfl rfl (by kernel_rfl) (by kernel_rfl) (by kernel_rfl) (fun _ _ _ h => h) (sure_value (v := .bool true) (by rfl) (fun v1 h1 => by first | rfl | (go_simp; done) | (go_simp; intro h9; exact absurd h9 (by omega)) | (go_simp; assumption))) (Only.refl _ _) ?_
          simp only [Act.put, List.setIfInBounds_toArray, List.set_cons_zero, List.set_cons_succ]
          refine wpN_take (i := 2) (d := some 17) rfl rfl (by kernel_rfl) (by kernel_rfl) (by kernel_rfl) (fun _ _ _ h => h) (sure_value (v := .bool true) (by rfl) (fun v1 h1 => by first | rfl | (go_simp; done) | (go_simp; intro h9; exact absurd h9 (by omega)) | (go_simp; assumption))) (Only.refl _ _) ?_
          simp only [Act.put, List.setIfInBounds_toArray, List.set_cons_zero, List.set_cons_succ]
          refine wpN_take (i := 3) (d := some 18) rfl rfl (by kernel_rfl) (by kernel_rfl) (by kernel_rfl) (fun _ _ _ h => h) (sure_value (v := .slice (some ⟨b, o, none⟩) n c) (by rfl) (fun v1 h1 => by first | rfl | (go_simp; done) | (go_simp; intro h9; exact absurd h9 (by omega)) | (go_simp; assumption))) (Only.refl _ _) ?_
          simp only [Act.put, List.setIfInBounds_toArray, List.set_cons_zero, List.set_cons_succ]
          refine wpN_take (i := 4) (d := some 19) rfl rfl (by kernel_rfl) (by kernel_rfl) (by kernel_rfl) (fun _ _ _ h => h) (sure_value (v := .int .i64 ((j + 1 : Nat) : Int)) (by rfl) (fun v1 h1 => by first | rfl | (go_simp; done) | (go_simp; intro h9; exact absurd h9 (by omega)) | (go_simp; assumption))) (Only.refl _ _) ?_
          simp only [Act.put, List.setIfInBounds_toArray, List.set_cons_zero, List.set_cons_succ]
          refine wpN_take (i := 5) (d := some 20) rfl rfl (by kernel_rfl) (by kernel_rfl) (by kernel_rfl) (fun _ _ _ h => h) (sure_value (v := .int .i64 (j : Int)) (by rfl) (fun _ _ => by go_simp)) (Only.refl _ _) ?_
          simp only [Act.put, List.setIfInBounds_toArray, List.set_cons_zero, List.set_cons_succ]
          refine wpN_take (i := 6) (d := some 21) rfl rfl (by kernel_rfl) (by kernel_rfl) (by kernel_rfl) (fun _ _ _ h => h) (sure_value (v := .pointer (some ⟨b, o + j * 2, none⟩)) (by rfl) (fun v1 h1 => by first | rfl | (go_simp; done) | (go_simp; intro h9; exact absurd h9 (by omega)) | (go_simp; assumption))) (Only.refl _ _) ?_
          simp only [Act.put, List.setIfInBounds_toArray, List.set_cons_zero, List.set_cons_succ]
          refine wpN_take (i := 7) (d := some 22) rfl rfl (by kernel_rfl) (by kernel_rfl) (by kernel_rfl) (fun _ _ _ h => h) (sure_value (v := .agg x.arr) (by rfl) (fun v1 h1 => by have c0 := (HX2.out _ (Only.undrew h1)).1; have c1 := (HX2.out _ (Only.undrew h1)).2; go_simp)) (Only.refl _ _) ?_
          simp only [Act.put, List.setIfInBounds_toArray, List.set_cons_zero, List.set_cons_succ]
          refine wpN_take (i := 8) (d := some 23) rfl rfl (by kernel_rfl) (by kernel_rfl) (by kernel_rfl) (fun _ _ _ h => h) (sure_value (v := .slice (some ⟨b, o, none⟩) n c) (by rfl) (fun v1 h1 => by first | rfl | (go_simp; done) | (go_simp; intro h9; exact absurd h9 (by omega)) | (go_simp; assumption))) (Only.refl _ _) ?_
          simp only [Act.put, List.setIfInBounds_toArray, List.set_cons_zero, List.set_cons_succ]
          refine wpN_take (i := 9) (d := some 24) rfl rfl (by kernel_rfl) (by kernel_rfl) (by kernel_rfl) (fun _ _ _ h => h) (sure_value (v := .int .i64 ((j + 1 : Nat) : Int)) (by rfl) (fun v1 h1 => by first | rfl | (go_simp; done) | (go_simp; intro h9; exact absurd h9 (by omega)) | (go_simp; assumption))) (Only.refl _ _) ?_
          simp only [Act.put, List.setIfInBounds_toArray, List.set_cons_zero, List.set_cons_succ]
          refine wpN_take (i := 10) (d := some 25) rfl rfl (by kernel_rfl) (by kernel_rfl) (by kernel_rfl) (fun _ _ _ h => h) (sure_value (v := .pointer (some ⟨b, o + (j + 1) * 2, none⟩)) (by rfl) (fun v1 h1 => by first | rfl | (go_simp; done) | (go_simp; intro h9; exact absurd h9 (by omega)) | (go_simp; assumption))) (Only.refl _ _) ?_
          simp only [Act.put, List.setIfInBounds_toArray, List.set_cons_zero, List.set_cons_succ]
          refine wpN_take (i := 11) (d := some 26) rfl rfl (by kernel_rfl) (by kernel_rfl) (by kernel_rfl) (fun _ _ _ h => h) (sure_value (v := .agg y.arr) (by rfl) (fun v1 h1 => by have c0 := (HY2.out _ (Only.undrew h1)).1; have c1 := (HY2.out _ (Only.undrew h1)).2; go_simp)) (Only.refl _ _) ?_
          simp only [Act.put, List.setIfInBounds_toArray, List.set_cons_zero, List.set_cons_succ]
          refine wpN_take (i := 12) (d := some 27) rfl rfl (by kernel_rfl) (by kernel_rfl) (by kernel_rfl) (fun _ _ _ h => h) (sure_call (v := .int .i64 (compareBytes x.nb y.nb)) (fun w' h' => byname_run x y w') (by rfl) (fun _ => by go_simp)) (Only.refl _ _) ?_
          simp only [Act.put, List.setIfInBounds_toArray, List.set_cons_zero, List.set_cons_succ]
          refine wpN_take (i := 13) (d := some 28) rfl rfl (by kernel_rfl) (by kernel_rfl) (by kernel_rfl) (fun _ _ _ h => h) (sure_value (v := .bool (!bytesBefore x.nb y.nb)) (by rfl) (fun v1 h1 => by first | rfl | (go_simp; done) | (go_simp; intro h9; exact absurd h9 (by omega)) | (go_simp; assumption))) (Only.refl _ _) ?_
          simp only [Act.put, List.setIfInBounds_toArray, List.set_cons_zero, List.set_cons_succ]
          refine wpN_take (i := 14) (d := some 29) rfl rfl (by kernel_rfl) (by kernel_rfl) (by kernel_rfl) (fun _ _ _ h => h) (sure_value (v := .bool (!bytesBefore x.nb y.nb)) (by rfl) (fun v1 h1 => by first | rfl | (go_simp; done) | (go_simp; intro h9; exact absurd h9 (by omega)) | (go_simp; assumption))) (Only.refl _ _) ?_
          simp only [Act.put, List.setIfInBounds_toArray, List.set_cons_zero, List.set_cons_succ]
          refine wpN_done (by kernel_rfl) (fun w2 ho => ?_) _
          have O2 := Lib.hid (O.out.tr (Only.undrew ho))
          clear ho
          obtain ⟨q, hq⟩ : ∃ q, bytesBefore x.nb y.nb = q := ⟨_, rfl⟩
          have HQ := Lib.hid hq
          rw [hq]
          clear hq
          cases q
          · have HP := Lib.hid (show lcheck l = 4 by
              unfold lcheck
              rw [if_neg (by rw [HZ.out]; decide)]
              cases hB : lordB l
              · rfl
              · have := (lordB_iff l).1 hB j x y (by rw [HN.out]; exact hlt) HX.out HY.out
                rw [HQ.out] at this
                cases this)
            go_wp2
            go_ret
            exact ⟨by rw [HP.out]; rfl, O2.out⟩
          · go_wp2_with fail
            go_roundw
            case rel =>
              refine ⟨j + 2, by omega, by go_num, fun i a b h ha hb => ?_, O2.out⟩
              by_cases e : i = j
              · subst e
                rw [HX.out] at ha
                rw [HY.out] at hb
                injection ha with ha
                injection hb with hb
                subst ha hb
                exact HQ.out
              · exact HO.out i a b (by omega) ha hb
            case measure => simp [RowKit.intOf]; omega
      · obtain rfl : k = n := by omega
        have HP := Lib.hid (show lcheck l = 0 by
          unfold lcheck
          rw [if_neg (by rw [HZ.out]; decide), (lordB_iff l).2 (by rw [HN.out]; exact HO.out)]
          rfl)
        go_wp2
        go_ret
        exact ⟨by rw [HP.out]; rfl, O.out⟩
  · have HP := Lib.hid (show lcheck l = z by unfold lcheck; rw [if_pos (by rw [HZ.out]; exact hz0), HZ.out])
    go_wp2
    go_ret
    exact ⟨by rw [HP.out]; rfl, O1.out⟩
end Go.Proofs.YtokgignmdgejoaaDoor
