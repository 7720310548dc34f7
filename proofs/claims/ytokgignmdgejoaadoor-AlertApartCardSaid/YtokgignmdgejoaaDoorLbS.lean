/- The document's labels: parts and Check. -/
import Derived.Test.YtokgignmdgejoaaDoorLbR
import Derived.Test.YtokgignmdgejoaaDoorLbD
namespace Go.Proofs.YtokgignmdgejoaaDoor
open Go.RowKit Go.Lib
set_option linter.unusedVariables false
set_option linter.unusedSimpArgs false
set_option maxRecDepth 100000
attribute [local go_sem ↓] Go.wp_at_zero Go.wp_at_succ

theorem any_upto {q : Pr → Bool} {l : List Pr} {n : Nat} (hn : l.length = n) (h : ∀ (j : Nat) (x : Pr), j < n → l[j]? = some x → q x = false) : l.any q = false := by
  rw [List.any_eq_false]
  intro x hx
  obtain ⟨j, hj, rfl⟩ := List.mem_iff_getElem.1 hx
  rw [h j _ (by rw [← hn]; exact hj) (List.getElem?_eq_getElem hj)]
  decide
theorem any_at {q : Pr → Bool} {l : List Pr} {k : Nat} {x : Pr} (hx : l[k]? = some x) (h : q x = true) : l.any q = true := List.any_eq_true.2 ⟨x, List.mem_of_getElem? hx, h⟩
theorem upto_succ {q : Pr → Bool} {l : List Pr} {k : Nat} {x : Pr} (hx : l[k]? = some x) (h : q x = false) (ha : ∀ (j : Nat) (x : Pr), j < k → l[j]? = some x → q x = false) : ∀ (j : Nat) (x : Pr), j < k + 1 → l[j]? = some x → q x = false := by
  intro j z hj hz
  by_cases e : j = k
  · subst e
    rw [hx] at hz
    injection hz with hz
    rw [← hz]
    exact h
  · exact ha j z (by omega) hz
theorem less_before : ∀ x y : List UInt8, Op.bytesLess x y = bytesBefore x y := by
  intro x
  induction x with
  | nil => intro y; cases y <;> rfl
  | cons a x ih =>
    intro y
    cases y with
    | nil => rfl
    | cons b y => simp only [Op.bytesLess, bytesBefore, ih]
theorem less_nb (x y : Pr) : Op.bytesLess x.name.toList y.name.toList = bytesBefore x.nb y.nb := by
  rw [less_before, ByteArray.toList_eq, ByteArray.toList_eq]
  rfl
theorem val_empty (p : Pr) : p.val.toList.isEmpty = decide (p.val.size = 0) := by
  rw [ByteArray.toList_eq]
  have e : p.val.data.toList.length = p.val.size := rfl
  cases h : p.val.data.toList with
  | nil => rw [h] at e; rw [show decide (p.val.size = 0) = true from decide_eq_true (by rw [← e]; rfl)]; rfl
  | cons a t => rw [h] at e; rw [show decide (p.val.size = 0) = false from decide_eq_false (by rw [← e]; simp)]; rfl
set_option maxHeartbeats 4000000 in
theorem rparts_run (S : Nat → Prop) (A : Option Addr) (c n : Nat) (l : List Pr) (hn : l.length = n) (w : World) (h : PsAt w S A c l) :
    Calls Tryd.prog 79 #[.slice A n c] w fun e w' => e = .returned (.int .i64 (lparts l)) ∧ Only Noth w w' := by
  have H := Lib.hid h
  have HN := Lib.hid hn
  have hni : (n : Int) ≤ 9223372036854775807 := by have := h.cap; have := h.top; omega
  have hn0 : (0 : Int) ≤ n := by omega
  clear h hn
  by_cases h8 : (n : Int) > 8
  · have HP := Lib.hid (show lparts l = 5 by unfold lparts; rw [HN.out]; simp; omega)
    go_enter Tryd.func79, Tryd.ntmps79
    go_wp2
    go_ret
    exact ⟨by rw [HP.out]; rfl, Only.refl _ _⟩
  have H8 := Lib.hid (show decide (8 < l.length) = false by rw [HN.out]; simp; omega)
  go_enter Tryd.func79, Tryd.ntmps79
  go_wp2_with fail
  go_loopw [3] (fun i W => ∃ k : Nat, k ≤ n ∧ i = .int .i64 (k : Int) ∧ (∀ (j : Nat) (x : Pr), j < k → l[j]? = some x → x.long = false) ∧ Only Noth w W) (fun i _ => n - (RowKit.intOf i).toNat)
  case atStart => exact ⟨0, Nat.zero_le _, rfl, fun j x hj => absurd hj (Nat.not_lt_zero _), Only.refl _ _⟩
  case round =>
    obtain ⟨k, hk, rfl, hno, ho⟩ := hrel
    have NO := Lib.hid hno
    have O := Lib.hid ho
    have hk0 : (0 : Int) ≤ k := by omega
    clear hno ho
    by_cases hlt : k < n
    · obtain ⟨x, hx⟩ : ∃ x, l[k]? = some x := ⟨_, List.getElem?_eq_getElem (by rw [HN.out]; exact hlt)⟩
      obtain ⟨b, o, hA, _, hb, hc⟩ := (H.out.noth O.out).mem (by rw [HN.out]; omega)
      obtain ⟨c0, c1⟩ := hc k x hx
      have HX := Lib.hid hx
      have hsz : (x.val.size : Int) ≤ 9223372036854775807 := by have := (H.out.sz x (List.mem_of_getElem? hx)).2; omega
      have hk1 : (k : Int) < n := by omega
      subst hA
      clear hx hc
      by_cases h64 : (64 : Int) < x.val.size
      · have HP := Lib.hid (show lparts l = 5 by unfold lparts; rw [H8.out, any_at HX.out (show x.long = true by unfold Pr.long; simp; omega)]; rfl)
        go_wp2
        go_ret
        exact ⟨by rw [HP.out]; rfl, O.out⟩
      · have HL := Lib.hid (show x.long = false by unfold Pr.long; simp; omega)
        go_wp2_with fail
        go_roundw
        case rel => exact ⟨k + 1, by omega, by go_num, upto_succ HX.out HL.out NO.out, O.out⟩
        case measure => simp [RowKit.intOf]; omega
    · obtain rfl : k = n := by omega
      have HNL := Lib.hid (any_upto HN.out NO.out)
      clear NO
      go_wp2_with fail
      go_loopw [4] (fun i W => ∃ j : Nat, j ≤ k ∧ i = .int .i64 (j : Int) ∧ (∀ (i : Nat) (x : Pr), i < j → l[i]? = some x → x.bad = false) ∧ Only Noth w W) (fun i _ => k - (RowKit.intOf i).toNat)
      case atStart => exact ⟨0, Nat.zero_le _, rfl, fun j x hj => absurd hj (Nat.not_lt_zero _), O.out⟩
      case round =>
        obtain ⟨j, hj, rfl, hno, ho⟩ := hrel
        have NO := Lib.hid hno
        have OJ := Lib.hid ho
        have hj0 : (0 : Int) ≤ j := by omega
        clear hno ho
        by_cases hlt : j < k
        · obtain ⟨x, hx⟩ : ∃ x, l[j]? = some x := ⟨_, List.getElem?_eq_getElem (by rw [HN.out]; exact hlt)⟩
          obtain ⟨b, o, hA, _, hb, hc⟩ := (H.out.noth OJ.out).mem (by rw [HN.out]; omega)
          obtain ⟨c0, c1⟩ := hc j x hx
          have HX := Lib.hid hx
          have HSZ := Lib.hid (H.out.sz x (List.mem_of_getElem? hx)).1
          have hk1 : (j : Int) < k := by omega
          have HVE := Lib.hid (val_empty x)
          subst hA
          have HLT := Lib.hid hb
          have HC1 := Lib.hid c1
          clear hx hc hb
          go_wp2_with fail
          refine (rname_run x.name HSZ.out _).mono ?_
          rintro e w1 ⟨rfl, ho⟩
          have O1 := Lib.hid (OJ.out.tr ho)
          have c1' := (ho.cell (p := ⟨b, o + j * 2 + 1, none⟩) HLT.out (fun h => h)).trans HC1.out
          obtain ⟨y, hy⟩ : ∃ y, lname x.name.data.toList = y := ⟨_, rfl⟩
          have HY := Lib.hid hy
          rw [hy]
          clear ho hy c0 c1
          cases y
          · have HP := Lib.hid (show lparts l = 6 by unfold lparts; rw [H8.out, HNL.out, any_at HX.out (show x.bad = true by unfold Pr.bad Pr.nb; rw [HY.out]; simp)]; rfl)
            go_wp2
            go_ret
            exact ⟨by rw [HP.out]; rfl, O1.out⟩
          · obtain ⟨q, hq⟩ : ∃ q, x.val.toList.isEmpty = q := ⟨_, rfl⟩
            have HQ := Lib.hid (show decide (x.val.size = 0) = q by rw [← HVE.out, hq])
            cases q
            · have HB := Lib.hid (show x.bad = false by unfold Pr.bad Pr.nb; rw [HY.out, HQ.out]; rfl)
              go_wp2_with fail
              go_roundw
              case rel => exact ⟨j + 1, by omega, by go_num, upto_succ HX.out HB.out NO.out, O1.out⟩
              case measure => simp [RowKit.intOf]; omega
            · have HP := Lib.hid (show lparts l = 6 by unfold lparts; rw [H8.out, HNL.out, any_at HX.out (show x.bad = true by unfold Pr.bad; rw [HQ.out]; rfl)]; rfl)
              go_wp2
              go_ret
              exact ⟨by rw [HP.out]; rfl, O1.out⟩
        · obtain rfl : j = k := by omega
          have HP := Lib.hid (show lparts l = 0 by unfold lparts; rw [H8.out, HNL.out, any_upto HN.out NO.out]; rfl)
          go_wp2
          go_ret
          exact ⟨by rw [HP.out]; rfl, OJ.out⟩
set_option maxHeartbeats 4000000 in
theorem rcheck_run (S : Nat → Prop) (A : Option Addr) (c n : Nat) (l : List Pr) (hn : l.length = n) (w : World) (h : PsAt w S A c l) :
    Calls Tryd.prog 63 #[.slice A n c] w fun e w' => e = .returned (.int .i64 (lcheck l)) ∧ Only Noth w w' := by
  have H := Lib.hid h
  have HN := Lib.hid hn
  have hni : (n : Int) ≤ 9223372036854775807 := by have := h.cap; have := h.top; omega
  have hn0 : (0 : Int) ≤ n := by omega
  clear h hn
  go_enter Tryd.func63, Tryd.ntmps63
  go_wp2_with fail
  refine (rparts_run S A c n l HN.out w H.out).mono ?_
  rintro e w1 ⟨rfl, ho⟩
  have O1 := Lib.hid ho
  obtain ⟨z, hz⟩ : ∃ z, lparts l = z := ⟨_, rfl⟩
  have HZ := Lib.hid hz
  rw [hz]
  clear ho hz
  go_wp2_with fail
  go_loopw [4] (fun i W => ∃ k : Nat, k ≤ n + 1 ∧ 1 ≤ k ∧ i = .int .i64 (k : Int) ∧ lord l k ∧ Only Noth w W) (fun i _ => n + 1 - (RowKit.intOf i).toNat)
  case atStart => exact ⟨1, by omega, Nat.le_refl _, rfl, fun i a b h => absurd h (by omega), O1.out⟩
  case round =>
    obtain ⟨k, hk, hk1', rfl, hord, ho⟩ := hrel
    have HO := Lib.hid hord
    have O := Lib.hid ho
    have hk0 : (0 : Int) ≤ k := by omega
    clear hord ho
    by_cases hz0 : z = 0
    · subst hz0
      by_cases hlt : k < n
      · have hk1 : (k : Int) < n := by omega
        obtain ⟨j, rfl⟩ : ∃ j, k = j + 1 := ⟨k - 1, by omega⟩
        obtain ⟨x, hx⟩ : ∃ x, l[j]? = some x := ⟨_, List.getElem?_eq_getElem (by rw [HN.out]; omega)⟩
        obtain ⟨y, hy⟩ : ∃ y, l[j + 1]? = some y := ⟨_, List.getElem?_eq_getElem (by rw [HN.out]; exact hlt)⟩
        obtain ⟨b, o, hA, _, hb, hc⟩ := (H.out.noth O.out).mem (by rw [HN.out]; omega)
        subst hA
        have HX := Lib.hid hx
        have HY := Lib.hid hy
        have hsub : (((j + 1 : Nat)) : Int) - 1 = (j : Int) := by omega
        have hj0 : (0 : Int) ≤ j := by omega
        have hwr : IntKind.i64.wrap (j : Int) = (j : Int) := by rw [IntKind.wrap_i64]; omega
        have hj1 : (j : Int) < n := by omega
        have hpos : (0 : Int) < ((j + 1 : Nat) : Int) := by omega
        have hall : ∀ W (i : Nat) (p : Pr), Only Noth wr W → l[i]? = some p → W.cell? ⟨b, o + i * 2, none⟩ = some (.string p.name) ∧ W.cell? ⟨b, o + i * 2 + 1, none⟩ = some (.string p.val) := fun W i p ho hp => ⟨(ho.cell (p := ⟨b, o + i * 2, none⟩) hb (fun h => h)).trans (hc i p hp).1, (ho.cell (p := ⟨b, o + i * 2 + 1, none⟩) hb (fun h => h)).trans (hc i p hp).2⟩
        have HX2 := Lib.hid (fun W ho => hall W j x ho hx)
        have HY2 := Lib.hid (fun W ho => hall W (j + 1) y ho hy)
        clear hx hy hc hb hall
        go_upto_region 5 with fail
        refine wp_region_N Noth (by kernel_rfl) ?_
        refine wpN_take (i := 0) (d := some 17) rfl rfl (by kernel_rfl) (by kernel_rfl) (by kernel_rfl) (fun _ _ _ h => h) (sure_value (v := .slice (some ⟨b, o, none⟩) n c) (by rfl) (fun v1 h1 => by first | rfl | (go_simp; done) | (go_simp; intro h9; exact absurd h9 (by omega)) | (go_simp; assumption))) (Only.refl _ _) ?_
        simp only [Act.put, List.setIfInBounds_toArray, List.set_cons_zero, List.set_cons_succ]
        refine wpN_take (i := 1) (d := some 18) rfl rfl (by kernel_rfl) (by kernel_rfl) (by kernel_rfl) (fun _ _ _ h => h) (sure_value (v := .int .i64 ((j + 1 : Nat) : Int)) (by rfl) (fun v1 h1 => by first | rfl | (go_simp; done) | (go_simp; intro h9; exact absurd h9 (by omega)) | (go_simp; assumption))) (Only.refl _ _) ?_
        simp only [Act.put, List.setIfInBounds_toArray, List.set_cons_zero, List.set_cons_succ]
        refine wpN_take (i := 2) (d := some 19) rfl rfl (by kernel_rfl) (by kernel_rfl) (by kernel_rfl) (fun _ _ _ h => h) (sure_value (v := .int .i64 (j : Int)) (by rfl) (fun _ _ => by go_simp)) (Only.refl _ _) ?_
        simp only [Act.put, List.setIfInBounds_toArray, List.set_cons_zero, List.set_cons_succ]
        refine wpN_take (i := 3) (d := some 20) rfl rfl (by kernel_rfl) (by kernel_rfl) (by kernel_rfl) (fun _ _ _ h => h) (sure_value (v := .pointer (some ⟨b, o + j * 2, none⟩)) (by rfl) (fun v1 h1 => by first | rfl | (go_simp; done) | (go_simp; intro h9; exact absurd h9 (by omega)) | (go_simp; assumption))) (Only.refl _ _) ?_
        simp only [Act.put, List.setIfInBounds_toArray, List.set_cons_zero, List.set_cons_succ]
        refine wpN_take (i := 4) (d := some 21) rfl rfl (by kernel_rfl) (by kernel_rfl) (by kernel_rfl) (fun _ _ _ h => h) (sure_value (v := .pointer (some ⟨b, o + j * 2, none⟩)) (by rfl) (fun v1 h1 => by first | rfl | (go_simp; done) | (go_simp; intro h9; exact absurd h9 (by omega)) | (go_simp; assumption))) (Only.refl _ _) ?_
        simp only [Act.put, List.setIfInBounds_toArray, List.set_cons_zero, List.set_cons_succ]
        refine wpN_take (i := 5) (d := some 22) rfl rfl (by kernel_rfl) (by kernel_rfl) (by kernel_rfl) (fun _ _ _ h => h) (sure_value (v := .string x.name) (by rfl) (fun v1 h1 => by have c0 := (HX2.out _ (Only.undrew h1)).1; go_simp)) (Only.refl _ _) ?_
        simp only [Act.put, List.setIfInBounds_toArray, List.set_cons_zero, List.set_cons_succ]
        refine wpN_take (i := 6) (d := some 23) rfl rfl (by kernel_rfl) (by kernel_rfl) (by kernel_rfl) (fun _ _ _ h => h) (sure_value (v := .slice (some ⟨b, o, none⟩) n c) (by rfl) (fun v1 h1 => by first | rfl | (go_simp; done) | (go_simp; intro h9; exact absurd h9 (by omega)) | (go_simp; assumption))) (Only.refl _ _) ?_
        simp only [Act.put, List.setIfInBounds_toArray, List.set_cons_zero, List.set_cons_succ]
        refine wpN_take (i := 7) (d := some 24) rfl rfl (by kernel_rfl) (by kernel_rfl) (by kernel_rfl) (fun _ _ _ h => h) (sure_value (v := .int .i64 ((j + 1 : Nat) : Int)) (by rfl) (fun v1 h1 => by first | rfl | (go_simp; done) | (go_simp; intro h9; exact absurd h9 (by omega)) | (go_simp; assumption))) (Only.refl _ _) ?_
        simp only [Act.put, List.setIfInBounds_toArray, List.set_cons_zero, List.set_cons_succ]
        refine wpN_take (i := 8) (d := some 25) rfl rfl (by kernel_rfl) (by kernel_rfl) (by kernel_rfl) (fun _ _ _ h => h) (sure_value (v := .pointer (some ⟨b, o + (j + 1) * 2, none⟩)) (by rfl) (fun v1 h1 => by first | rfl | (go_simp; done) | (go_simp; intro h9; exact absurd h9 (by omega)) | (go_simp; assumption))) (Only.refl _ _) ?_
        simp only [Act.put, List.setIfInBounds_toArray, List.set_cons_zero, List.set_cons_succ]
        refine wpN_take (i := 9) (d := some 26) rfl rfl (by kernel_rfl) (by kernel_rfl) (by kernel_rfl) (fun _ _ _ h => h) (sure_value (v := .pointer (some ⟨b, o + (j + 1) * 2, none⟩)) (by rfl) (fun v1 h1 => by first | rfl | (go_simp; done) | (go_simp; intro h9; exact absurd h9 (by omega)) | (go_simp; assumption))) (Only.refl _ _) ?_
        simp only [Act.put, List.setIfInBounds_toArray, List.set_cons_zero, List.set_cons_succ]
        refine wpN_take (i := 10) (d := some 27) rfl rfl (by kernel_rfl) (by kernel_rfl) (by kernel_rfl) (fun _ _ _ h => h) (sure_value (v := .string y.name) (by rfl) (fun v1 h1 => by have c0 := (HY2.out _ (Only.undrew h1)).1; go_simp)) (Only.refl _ _) ?_
        simp only [Act.put, List.setIfInBounds_toArray, List.set_cons_zero, List.set_cons_succ]
        refine wpN_take (i := 11) (d := some 28) rfl rfl (by kernel_rfl) (by kernel_rfl) (by kernel_rfl) (fun _ _ _ h => h) (sure_value (v := .bool (!bytesBefore x.nb y.nb)) (by rfl) (fun v1 h1 => by have hh := less_nb x y; go_simp)) (Only.refl _ _) ?_
        simp only [Act.put, List.setIfInBounds_toArray, List.set_cons_zero, List.set_cons_succ]
        refine wpN_done (by kernel_rfl) (fun w2 ho => ?_) _
        have O2 := Lib.hid (O.out.tr (Only.undrew ho))
        clear ho
        obtain ⟨q, hq⟩ : ∃ q, bytesBefore x.nb y.nb = q := ⟨_, rfl⟩
        have HQ := Lib.hid hq
        rw [hq]
        clear hq
        cases q
        · have HP := Lib.hid (show lcheck l = 4 by
            unfold lcheck
            rw [if_neg (by rw [HZ.out]; decide)]
            cases hB : lordB l
            · rfl
            · have := (lordB_iff l).1 hB j x y (by rw [HN.out]; exact hlt) HX.out HY.out
              rw [HQ.out] at this
              cases this)
          go_wp2
          go_ret
          exact ⟨by rw [HP.out]; rfl, O2.out⟩
        · go_wp2_with fail
          go_roundw
          case rel =>
            refine ⟨j + 2, by omega, by omega, by go_num, fun i a b h ha hb => ?_, O2.out⟩
            by_cases e : i = j
            · subst e
              rw [HX.out] at ha
              rw [HY.out] at hb
              injection ha with ha
              injection hb with hb
              subst ha hb
              exact HQ.out
            · exact HO.out i a b (by omega) ha hb
          case measure => simp [RowKit.intOf]; omega
      · have HP := Lib.hid (show lcheck l = 0 by
          unfold lcheck
          rw [if_neg (by rw [HZ.out]; decide), (lordB_iff l).2 (by rw [HN.out]; exact fun i a b hi ha hb => HO.out i a b (by omega) ha hb)]
          rfl)
        have hge : ¬ (k : Int) < n := by omega
        go_wp2
        go_ret
        exact ⟨by rw [HP.out]; rfl, O.out⟩
    · have HP := Lib.hid (show lcheck l = z by unfold lcheck; rw [if_pos (by rw [HZ.out]; exact hz0), HZ.out])
      by_cases hlt : (k : Int) < n
      · go_wp2
        go_ret
        exact ⟨by rw [HP.out]; rfl, O.out⟩
      · go_wp2
        go_ret
        exact ⟨by rw [HP.out]; rfl, O.out⟩
end Go.Proofs.YtokgignmdgejoaaDoor
