/- The document's alerts: Fires, SameAlert, Same, Check, place. -/
import Derived.Test.YtokgignmdgejoaaDoorRaA
import Derived.Test.YtokgignmdgejoaaDoorLbS
import Derived.Test.YtokgignmdgejoaaDoorLbT
import Derived.Test.YtokgignmdgejoaaDoorLbU
namespace Go.Proofs.YtokgignmdgejoaaDoor
open Go.RowKit Go.Lib
set_option linter.unusedVariables false
set_option linter.unusedSimpArgs false
set_option maxRecDepth 100000
attribute [local go_sem ↓] Go.wp_at_zero Go.wp_at_succ

theorem rfires_run (v : Value) (hv : v.oneCell' = true) (st en now : Int) (w : World) : Calls Tryd.prog 28 #[.agg #[v, .int .i64 st, .int .i64 en], .int .i64 now] w fun e w' => e = .returned (.bool (decide (st ≤ now) && decide (now < en))) ∧ Only Noth w w' := by
  have O := Lib.hid ((Only.refl Noth w).alloc (.cells #[v, .int .i64 st, .int .i64 en] 27))
  by_cases h : st ≤ now
  · have H := Lib.hid (show (decide (st ≤ now) && decide (now < en)) = decide (now < en) by simp [h])
    go_enter Tryd.func28, Tryd.ntmps28
    go_wp2
    go_ret
    exact ⟨by rw [H.out]; rfl, O.out⟩
  · have H := Lib.hid (show (decide (st ≤ now) && decide (now < en)) = false by simp [h])
    go_enter Tryd.func28, Tryd.ntmps28
    go_wp2
    go_ret
    exact ⟨by rw [H.out]; rfl, O.out⟩
/-- Do two alerts say the same? -/
noncomputable def sameQ (x y : List Pr × Int × Int) : Bool := @decide (x = y) (Classical.propDecidable _)
theorem sameQ_iff {x y : List Pr × Int × Int} : sameQ x y = true ↔ x = y := by unfold sameQ; exact @decide_eq_true_iff _ (Classical.propDecidable _)
theorem sameQ_no {x y : List Pr × Int × Int} (h : x ≠ y) : sameQ x y = false := by
  cases hs : sameQ x y
  · rfl
  · exact absurd (sameQ_iff.1 hs) h
theorem rsamea_run (A B : Option Addr) (c d : Nat) (l m : List Pr) (st en st' en' : Int) (w : World) (S S' : Nat → Prop) (ha : PsAt w S A c l) (hb : PsAt w S' B d m) :
    Calls Tryd.prog 22 #[.agg #[.slice A l.length c, .int .i64 st, .int .i64 en], .agg #[.slice B m.length d, .int .i64 st', .int .i64 en']] w fun e w' => e = .returned (.bool (sameQ (l, st, en) (m, st', en'))) ∧ Only Noth w w' := by
  have HA := Lib.hid ha
  have HB := Lib.hid hb
  obtain ⟨W0, hW0⟩ : ∃ W, (w.alloc (.cells #[.slice A l.length c, .int .i64 st, .int .i64 en] 27)).alloc (.cells #[.slice B m.length d, .int .i64 st', .int .i64 en'] 27) = W := ⟨_, rfl⟩
  have B1 := Lib.hid (show Hld W0 w.heap.size 27 #[.slice A l.length c, .int .i64 st, .int .i64 en] by rw [← hW0]; exact (Hld.new w _ _).alloc _)
  have B2 := Lib.hid (show Hld W0 (w.heap.size + 1) 27 #[.slice B m.length d, .int .i64 st', .int .i64 en'] by
    have := Hld.new (w.alloc (.cells #[.slice A l.length c, .int .i64 st, .int .i64 en] 27)) 27 #[.slice B m.length d, .int .i64 st', .int .i64 en']
    rw [hW0] at this
    simpa using this)
  have O0 := Lib.hid (show Only Noth w W0 by rw [← hW0]; exact ((Only.refl Noth w).alloc _).alloc _)
  have m0 := B1.out.cell 0
  have m1 := B1.out.cell 1
  have m2 := B1.out.cell 2
  have n0 := B2.out.cell 0
  have n1 := B2.out.cell 1
  have n2 := B2.out.cell 2
  clear ha hb
  by_cases h1 : st = st'
  · by_cases h2 : en = en'
    · subst h1 h2
      have hb1 : (st == st) = true := by simp
      have hb2 : (en == en) = true := by simp
      go_enter Tryd.func22, Tryd.ntmps22
      go_wp2_with fail
      refine (rsame_run A B c d l m W0 S S' (HA.out.noth O0.out) (HB.out.noth O0.out)).mono ?_
      rintro e w1 ⟨⟨q, rfl, hq⟩, ho⟩
      have HQ := Lib.hid (show sameQ (l, st, en) (m, st, en) = q by
        cases q
        · exact sameQ_no (fun e => by have := hq.2 (congrArg (·.1) e); cases this)
        · exact sameQ_iff.2 (by rw [hq.1 rfl]))
      have O1 := Lib.hid (O0.out.tr ho)
      clear hq ho hW0
      go_wp2
      go_ret
      exact ⟨by rw [HQ.out]; rfl, O1.out⟩
    · have hb1 : (st == st') = true := by simp [h1]
      have hb2 : (en == en') = false := by simp [h2]
      have HQ := Lib.hid (sameQ_no (x := (l, st, en)) (y := (m, st', en')) (fun e => h2 (congrArg (·.2.2) e)))
      go_enter Tryd.func22, Tryd.ntmps22
      go_wp2
      go_ret
      exact ⟨by rw [HQ.out]; rfl, by first | exact O0.out | exact ((Only.refl Noth w).alloc _).alloc _⟩
  · have hb1 : (st == st') = false := by simp [h1]
    have HQ := Lib.hid (sameQ_no (x := (l, st, en)) (y := (m, st', en')) (fun e => h1 (congrArg (·.2.1) e)))
    go_enter Tryd.func22, Tryd.ntmps22
    go_wp2
    go_ret
    exact ⟨by rw [HQ.out]; rfl, by first | exact O0.out | exact ((Only.refl Noth w).alloc _).alloc _⟩
set_option maxHeartbeats 4000000 in
theorem rsames_run (A B : Option Addr) (c d : Nat) (N M : List Al) (w : World) (S S' : Nat → Prop) (ha : LsAt w S A c N) (hb : LsAt w S' B d M) :
    Calls Tryd.prog 20 #[.slice A N.length c, .slice B M.length d] w fun e w' => EqAns (N.map Al.core = M.map Al.core) e ∧ Only Noth w w' := by
  have HA := Lib.hid ha
  have HB := Lib.hid hb
  have hn0 : (0 : Int) ≤ N.length := by omega
  have hl : N.length ≤ 9223372036854775807 := by have := ha.cap; have := ha.top; omega
  have hm : M.length ≤ 9223372036854775807 := by have := hb.cap; have := hb.top; omega
  clear ha hb
  go_enter Tryd.func20, Tryd.ntmps20
  by_cases hlen : N.length = M.length
  · have hlen2 : ((N.length : Int) == M.length) = true := by simp [hlen]
    have HL := Lib.hid hlen
    go_wp2_with fail
    go_loopw [5] (fun i W => ∃ k : Nat, k ≤ N.length ∧ i = .int .i64 (k : Int) ∧ (N.map Al.core).take k = (M.map Al.core).take k ∧ Only Noth w W) (fun i _ => N.length - (RowKit.intOf i).toNat)
    case atStart => exact ⟨0, Nat.zero_le _, rfl, by simp, Only.refl _ _⟩
    case round =>
      obtain ⟨k, hk, rfl, ht, ho⟩ := hrel
      have HT := Lib.hid ht
      have ON := Lib.hid ho
      clear ht ho
      by_cases hlt : k < N.length
      · obtain ⟨x, hx⟩ : ∃ x, N[k]? = some x := ⟨_, List.getElem?_eq_getElem hlt⟩
        obtain ⟨y, hy⟩ : ∃ y, M[k]? = some y := ⟨_, List.getElem?_eq_getElem (by omega)⟩
        obtain ⟨ab, ao, hAe, _, hal, hax⟩ := (HA.out.noth ON.out).mem (by omega)
        obtain ⟨bb, bo, hBe, _, hbl, hbx⟩ := (HB.out.noth ON.out).mem (by omega)
        rw [hAe, hBe]
        have HX := Lib.hid (show (N.map Al.core)[k]? = some x.core by rw [List.getElem?_map, hx]; rfl)
        have HY := Lib.hid (show (M.map Al.core)[k]? = some y.core by rw [List.getElem?_map, hy]; rfl)
        have LX := Lib.hid ((HA.out.noth ON.out).labs x (List.mem_of_getElem? hx))
        have LY := Lib.hid ((HB.out.noth ON.out).labs y (List.mem_of_getElem? hy))
        have hall := fun W (ho : Only Noth wr W) => And.intro ((ho.cell (p := ⟨ab, ao + k * 3, none⟩) hal (fun h => h)).trans (hax k x hx).1) (And.intro ((ho.cell (p := ⟨ab, ao + k * 3 + 1, none⟩) hal (fun h => h)).trans (hax k x hx).2.1) ((ho.cell (p := ⟨ab, ao + k * 3 + 2, none⟩) hal (fun h => h)).trans (hax k x hx).2.2))
        have hbll := fun W (ho : Only Noth wr W) => And.intro ((ho.cell (p := ⟨bb, bo + k * 3, none⟩) hbl (fun h => h)).trans (hbx k y hy).1) (And.intro ((ho.cell (p := ⟨bb, bo + k * 3 + 1, none⟩) hbl (fun h => h)).trans (hbx k y hy).2.1) ((ho.cell (p := ⟨bb, bo + k * 3 + 2, none⟩) hbl (fun h => h)).trans (hbx k y hy).2.2))
        have CX := Lib.hid hall
        have CY := Lib.hid hbll
        have hb0 : (0 : Int) ≤ k := by omega
        have hb1 : (k : Int) < N.length := by omega
        have hb2 : (k : Int) < M.length := by omega
        clear hx hy hall hbll hax hbx hal hbl hAe hBe
        go_upto_region 6 with fail
        refine wp_region_N Noth (by kernel_rfl) ?_
        refine wpN_take (i := 0) (d := some 17) rfl rfl (by kernel_rfl) (by kernel_rfl) (by kernel_rfl) (fun _ _ _ h => h) (sure_value (v := .slice (some ⟨ab, ao, none⟩) N.length c) (by rfl) (fun v1 h1 => by first | rfl | (go_simp; done) | (go_simp; intro h9; exact absurd h9 (by omega)) | (go_simp; assumption))) (Only.refl _ _) ?_
        simp only [Act.put, List.setIfInBounds_toArray, List.set_cons_zero, List.set_cons_succ]
        refine wpN_take (i := 1) (d := some 18) rfl rfl (by kernel_rfl) (by kernel_rfl) (by kernel_rfl) (fun _ _ _ h => h) (sure_value (v := .int .i64 (k : Int)) (by rfl) (fun v1 h1 => by first | rfl | (go_simp; done) | (go_simp; intro h9; exact absurd h9 (by omega)) | (go_simp; assumption))) (Only.refl _ _) ?_
        simp only [Act.put, List.setIfInBounds_toArray, List.set_cons_zero, List.set_cons_succ]
        refine wpN_take (i := 2) (d := some 19) rfl rfl (by kernel_rfl) (by kernel_rfl) (by kernel_rfl) (fun _ _ _ h => h) (sure_value (v := .pointer (some ⟨ab, ao + k * 3, none⟩)) (by rfl) (fun v1 h1 => by first | rfl | (go_simp; done) | (go_simp; intro h9; exact absurd h9 (by omega)) | (go_simp; assumption))) (Only.refl _ _) ?_
        simp only [Act.put, List.setIfInBounds_toArray, List.set_cons_zero, List.set_cons_succ]
        refine wpN_take (i := 3) (d := some 20) rfl rfl (by kernel_rfl) (by kernel_rfl) (by kernel_rfl) (fun _ _ _ h => h) (sure_value (v := .agg x.arr) (by rfl) (fun v1 h1 => by have c0 := (CX.out _ (Only.undrew h1)).1; have c1 := (CX.out _ (Only.undrew h1)).2.1; have c2 := (CX.out _ (Only.undrew h1)).2.2; go_simp)) (Only.refl _ _) ?_
        simp only [Act.put, List.setIfInBounds_toArray, List.set_cons_zero, List.set_cons_succ]
        refine wpN_take (i := 4) (d := some 21) rfl rfl (by kernel_rfl) (by kernel_rfl) (by kernel_rfl) (fun _ _ _ h => h) (sure_value (v := .slice (some ⟨bb, bo, none⟩) M.length d) (by rfl) (fun v1 h1 => by first | rfl | (go_simp; done) | (go_simp; intro h9; exact absurd h9 (by omega)) | (go_simp; assumption))) (Only.refl _ _) ?_
        simp only [Act.put, List.setIfInBounds_toArray, List.set_cons_zero, List.set_cons_succ]
        refine wpN_take (i := 5) (d := some 22) rfl rfl (by kernel_rfl) (by kernel_rfl) (by kernel_rfl) (fun _ _ _ h => h) (sure_value (v := .int .i64 (k : Int)) (by rfl) (fun v1 h1 => by first | rfl | (go_simp; done) | (go_simp; intro h9; exact absurd h9 (by omega)) | (go_simp; assumption))) (Only.refl _ _) ?_
        simp only [Act.put, List.setIfInBounds_toArray, List.set_cons_zero, List.set_cons_succ]
        refine wpN_take (i := 6) (d := some 23) rfl rfl (by kernel_rfl) (by kernel_rfl) (by kernel_rfl) (fun _ _ _ h => h) (sure_value (v := .pointer (some ⟨bb, bo + k * 3, none⟩)) (by rfl) (fun v1 h1 => by first | rfl | (go_simp; done) | (go_simp; intro h9; exact absurd h9 (by omega)) | (go_simp; assumption))) (Only.refl _ _) ?_
        simp only [Act.put, List.setIfInBounds_toArray, List.set_cons_zero, List.set_cons_succ]
        refine wpN_take (i := 7) (d := some 24) rfl rfl (by kernel_rfl) (by kernel_rfl) (by kernel_rfl) (fun _ _ _ h => h) (sure_value (v := .agg y.arr) (by rfl) (fun v1 h1 => by have c0 := (CY.out _ (Only.undrew h1)).1; have c1 := (CY.out _ (Only.undrew h1)).2.1; have c2 := (CY.out _ (Only.undrew h1)).2.2; go_simp)) (Only.refl _ _) ?_
        simp only [Act.put, List.setIfInBounds_toArray, List.set_cons_zero, List.set_cons_succ]
        refine wpN_take (i := 8) (d := some 25) rfl rfl (by kernel_rfl) (by kernel_rfl) (by kernel_rfl) (fun _ _ _ h => h) (sure_call (v := .bool (sameQ x.core y.core)) (fun w' h' => rsamea_run (some ⟨x.blk, 0, none⟩) (some ⟨y.blk, 0, none⟩) x.cap y.cap x.ls y.ls x.st x.en y.st y.en w' S S' (LX.out.noth (Only.undrew h')) (LY.out.noth (Only.undrew h'))) (by rfl) (fun _ => by go_simp)) (Only.refl _ _) ?_
        simp only [Act.put, List.setIfInBounds_toArray, List.set_cons_zero, List.set_cons_succ]
        refine wpN_take (i := 9) (d := some 26) rfl rfl (by kernel_rfl) (by kernel_rfl) (by kernel_rfl) (fun _ _ _ h => h) (sure_value (v := .bool (!sameQ x.core y.core)) (by rfl) (fun v1 h1 => by first | rfl | (go_simp; done) | (go_simp; intro h9; exact absurd h9 (by omega)) | (go_simp; assumption))) (Only.refl _ _) ?_
        simp only [Act.put, List.setIfInBounds_toArray, List.set_cons_zero, List.set_cons_succ]
        refine wpN_done (by kernel_rfl) (fun w7 ho => ?_) _
        have ON7 := Lib.hid (ON.out.tr (Only.undrew ho))
        clear ho
        by_cases h0 : x.core = y.core
        · have h1 : (!sameQ x.core y.core) = false := by rw [sameQ_iff.2 h0]; rfl
          have HE := Lib.hid (take_eq_g HT.out HX.out HY.out h0)
          rw [h1]
          go_wp2_with fail
          go_roundw
          case rel => exact ⟨k + 1, by omega, by go_num, HE.out, ON7.out⟩
          case measure => simp [RowKit.intOf]; omega
        · have h1 : (!sameQ x.core y.core) = true := by rw [sameQ_no h0]; rfl
          have HNE := Lib.hid (show N.map Al.core ≠ M.map Al.core from fun e => h0 (by have a := HX.out; have b := HY.out; rw [e] at a; rw [a] at b; exact Option.some.inj b))
          rw [h1]
          go_wp2
          go_ret
          exact ⟨.no rfl HNE.out, ON7.out⟩
      · obtain rfl : k = N.length := by omega
        have e : N.map Al.core = M.map Al.core := by
          have := HT.out
          rw [List.take_of_length_le (by rw [List.length_map]; exact Nat.le_refl _), List.take_of_length_le (by rw [List.length_map, HL.out]; exact Nat.le_refl _)] at this
          exact this
        have HE := Lib.hid e
        clear e
        go_wp2
        go_ret
        exact ⟨.yes rfl HE.out, ON.out⟩
  · have hlen2 : ((N.length : Int) == M.length) = false := by simp; omega
    have HNE := Lib.hid (show N.map Al.core ≠ M.map Al.core from fun e => hlen (by have := congrArg List.length e; simpa using this))
    go_wp2
    go_ret
    exact ⟨.no rfl HNE.out, Only.refl _ _⟩
theorem rck_run (A : Option Addr) (c : Nat) (l : List Pr) (st en : Int) (S : Nat → Prop) (w : World) (h : PsAt w S A c l) :
    Calls Tryd.prog 52 #[.agg #[.slice A l.length c, .int .i64 st, .int .i64 en]] w fun e w' => e = .returned (.int .i64 (acheck l st en)) ∧ Only Noth w w' := by
  have H := Lib.hid h
  have hln0 : (0 : Int) ≤ l.length := by omega
  have hln : (l.length : Int) ≤ 9223372036854775807 := by have := h.cap; have := h.top; omega
  obtain ⟨W0, hW0⟩ : ∃ W, w.alloc (.cells #[.slice A l.length c, .int .i64 st, .int .i64 en] 27) = W := ⟨_, rfl⟩
  have B0 := Lib.hid (show Hld W0 w.heap.size 27 #[.slice A l.length c, .int .i64 st, .int .i64 en] by rw [← hW0]; exact Hld.new w _ _)
  have O0 := Lib.hid (show Only Noth w W0 by rw [← hW0]; exact (Only.refl Noth w).alloc _)
  have m0 := B0.out.cell 0
  clear h
  go_enter Tryd.func52, Tryd.ntmps52
  go_wp2_with fail
  refine (rcheck_run S A c l.length l rfl W0 (H.out.noth O0.out)).mono ?_
  rintro e w1 ⟨rfl, ho⟩
  have O1 := Lib.hid (O0.out.tr ho)
  have B1 := Lib.hid (B0.out.only ho (fun h => h))
  have m0 := B1.out.cell 0
  have m1 := B1.out.cell 1
  have m2 := B1.out.cell 2
  clear ho hW0
  obtain ⟨z, hz⟩ : ∃ z, lcheck l = z := ⟨_, rfl⟩
  have HZ := Lib.hid hz
  rw [hz]
  clear hz
  by_cases hz0 : z = 0
  · subst hz0
    by_cases hl0 : (l.length : Int) = 0
    · have HP := Lib.hid (show acheck l st en = 6 by unfold acheck; rw [HZ.out, if_neg (by decide), if_pos (show l.length = 0 by omega)])
      have hq : ((l.length : Int) == 0) = true := by simp [hl0]
      go_wp2
      go_ret
      exact ⟨by rw [HP.out]; rfl, O1.out⟩
    · have hq : ((l.length : Int) == 0) = false := by rw [beq_eq_false_iff_ne]; exact hl0
      have HP := Lib.hid (show acheck l st en = if st < 0 ∨ en ≤ st ∨ 1099511627776 < en then 13 else 0 by unfold acheck; rw [HZ.out, if_neg (by decide), if_neg (fun h => hl0 (by rw [h]; rfl))])
      by_cases a1 : st < 0
      · have HP2 := Lib.hid (show acheck l st en = 13 by rw [HP.out, if_pos (.inl a1)])
        go_wp2
        go_ret
        exact ⟨by rw [HP2.out]; rfl, O1.out⟩
      · by_cases a2 : en ≤ st
        · have HP2 := Lib.hid (show acheck l st en = 13 by rw [HP.out, if_pos (.inr (.inl a2))])
          go_wp2
          go_ret
          exact ⟨by rw [HP2.out]; rfl, O1.out⟩
        · by_cases a3 : 1099511627776 < en
          · have HP2 := Lib.hid (show acheck l st en = 13 by rw [HP.out, if_pos (.inr (.inr a3))])
            go_wp2
            go_ret
            exact ⟨by rw [HP2.out]; rfl, O1.out⟩
          · have HP2 := Lib.hid (show acheck l st en = 0 by rw [HP.out, if_neg (by intro h; rcases h with h | h | h <;> omega)])
            go_wp2
            go_ret
            exact ⟨by rw [HP2.out]; rfl, O1.out⟩
  · have HP := Lib.hid (show acheck l st en = z by unfold acheck; rw [HZ.out, if_pos hz0])
    have hq : (z == 0) = false := by simp [hz0]
    have hq2 : (z != 0) = true := by simp [hz0]
    go_wp2
    go_ret
    exact ⟨by rw [HP.out]; rfl, O1.out⟩
end Go.Proofs.YtokgignmdgejoaaDoor
