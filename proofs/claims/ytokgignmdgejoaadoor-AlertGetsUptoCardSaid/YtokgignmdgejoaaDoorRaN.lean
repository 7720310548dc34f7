/- The walk of AlertGets. -/
import Derived.Test.YtokgignmdgejoaaDoorRaH
import Derived.Test.YtokgignmdgejoaaDoorAlK
import Derived.Test.YtokgignmdgejoaaDoorAlL
namespace Go.Proofs.YtokgignmdgejoaaDoor
open Go.RowKit Go.Lib
set_option linter.unusedVariables false
set_option linter.unusedSimpArgs false
set_option maxRecDepth 100000
attribute [local go_sem ↓] Go.wp_at_zero Go.wp_at_succ

theorem afires_run (v : Value) (hv : v.oneCell' = true) (st en now : Int) (w : World) : Calls Tryd.prog 27 #[.agg #[v, .int .i64 st, .int .i64 en], .int .i64 now] w fun e w' => e = .returned (.bool (decide (st ≤ now) && decide (now < en))) ∧ Only Noth w w' := by
  have O := Lib.hid ((Only.refl Noth w).alloc (.cells #[v, .int .i64 st, .int .i64 en] 27))
  by_cases h : st ≤ now
  · have H := Lib.hid (show (decide (st ≤ now) && decide (now < en)) = decide (now < en) by simp [h])
    go_enter Tryd.func27, Tryd.ntmps27
    go_wp2
    go_ret
    exact ⟨by rw [H.out]; rfl, O.out⟩
  · have H := Lib.hid (show (decide (st ≤ now) && decide (now < en)) = false by simp [h])
    go_enter Tryd.func27, Tryd.ntmps27
    go_wp2
    go_ret
    exact ⟨by rw [H.out]; rfl, O.out⟩
/-- What both Gets tell. -/
structure Gotten (X Y : Array Value) (w1 w2 : World) : Prop where
  sx : X.size = 3
  sy : Y.size = 3
  ox : ∀ v ∈ X.toList, v.oneCell' = true
  oy : ∀ v ∈ Y.toList, v.oneCell' = true
  sq : ∀ w', Only Noth w2 w' → Calls Tryd.prog 22 #[.agg X, .agg Y] w' fun e w'' => e = .returned (.bool true) ∧ Only Noth w' w''
set_option maxHeartbeats 16000000 in
theorem gets_walk (A LA : Option Addr) (n c lc : Nat) (xs : List Qc) (l : List Pr) (st en now : Int) (w : World) (hx : QsAt w (fun k => k < w.heap.size) A xs) (hl : xs.length = n) (hm : n ≤ 9223372036854775807) (hp : PsAt w (fun k => k < w.heap.size) LA lc l) (hT : (l.flatMap Pr.tx).flatten.length + 2 ≤ 140737488355300) (ht : Tab w) :
    Calls Tryd.prog 8 #[.slice A n c, .agg #[.slice LA l.length lc, .int .i64 st, .int .i64 en], .int .i64 now] w fun e w' => e = .returned (.bool true) ∧ Only Noth w w' := by
  have HX := Lib.hid hx
  have HL := Lib.hid hl
  have HP := Lib.hid hp
  have TB := Lib.hid ht
  have HT := Lib.hid hT
  have hn0 : (0 : Int) ≤ n := by omega
  have hll0 : (0 : Int) ≤ l.length := by omega
  have hllm : (l.length : Int) ≤ 9223372036854775807 := by have := hp.cap; have := hp.top; omega
  obtain ⟨W0, hW0⟩ : ∃ W, w.alloc (.cells #[.slice LA l.length lc, .int .i64 st, .int .i64 en] 27) = W := ⟨_, rfl⟩
  have B3 := Lib.hid (show Hld W0 w.heap.size 27 #[.slice LA l.length lc, .int .i64 st, .int .i64 en] by rw [← hW0]; exact Hld.new w _ _)
  have OB := Lib.hid (show Only Noth w W0 by rw [← hW0]; exact (Only.refl Noth w).alloc _)
  clear hx hl ht hp hT
  go_enter Tryd.func8, Tryd.ntmps8
  go_wp2_with fail
  refine (few_run A n c xs W0 _ (HX.out.only OB.out (fun _ _ _ h => h)) HL.out hm).mono ?_
  rintro e w0 ⟨rfl, ho⟩
  have O0 := Lib.hid ho
  have OA0 := Lib.hid (OB.out.tr ho)
  have m3 := (B3.out.only ho (fun h => h)).cell 0
  cases hf : fewB xs
  · clear ho hf hW0
    go_wp2_with fail
    refine (awake_run w0 (TB.out.noth OA0.out)).mono ?_
    rintro e wz ⟨rfl, ho⟩
    have OZ := Lib.hid (OA0.out.tr ho)
    clear ho
    go_wp2
    go_ret
    exact ⟨rfl, OZ.out⟩
  · have FW := Lib.hid (few_at hf)
    have hn80 : (n : Int) ≤ 80 := by have h1 := (few_at hf).1; rw [HL.out] at h1; omega
    clear ho hf hW0
    by_cases hl12 : (12 : Int) < l.length
    · skip
      go_wp2_with fail
      refine (awake_run w0 (TB.out.noth OA0.out)).mono ?_
      rintro e wz ⟨rfl, ho⟩
      have OZ := Lib.hid (OA0.out.tr ho)
      clear ho
      go_wp2
      go_ret
      exact ⟨rfl, OZ.out⟩
    · skip
      go_wp2_with fail
      refine (new_al w0).mono ?_
      rintro e w1 ⟨⟨g, b, rfl, ha, hg, hb⟩, ho⟩
      have HA := Lib.hid ha
      have O1 := Lib.hid (O0.out.tr ho)
      have HGB := Lib.hid (show W0.heap.size ≤ g ∧ W0.heap.size ≤ b from ⟨Nat.le_trans O0.out.size hg, Nat.le_trans O0.out.size hb⟩)
      clear ha ho hg hb
      go_wp2_with (refine wpList_store_whole rfl rfl 40 (.tmp 8) (.tmp 30) rfl w1.heap.size rfl #[.slice none 0 0] rfl 40 _ (Hld.new w1 _ _) rfl (by simp [Value.oneCell']) (by kernel_rfl) ?_; intro w2 gb ho2 hz2; have PA0 := Lib.hid (play_start HA.out O1.out HGB.out.1 HGB.out.2 (((Only.refl Noth w1).alloc _).trans ho2 (fun j hj hl => by have hj : j = w1.heap.size := hj; omega)) gb); clear gb ho2 hz2)
      obtain ⟨p, hp⟩ : ∃ p, w1.heap.size = p := ⟨_, rfl⟩
      rw [hp] at PA0
      simp only [hp]
      clear hp
      go_wp2_with fail
      go_loopw [9] (fun i W => ∃ (k : Nat) (L N : List Al) (A0 : Option Addr) (c0 : Nat), k ≤ n ∧ i = .int .i64 (k : Int) ∧ PlayAt W0 g b p L N A0 c0 W) (fun i _ => n - (RowKit.intOf i).toNat)
      case atStart => exact ⟨0, [], [], none, 0, Nat.zero_le _, rfl, PA0.out⟩
      case round =>
        obtain ⟨k, L, N, A0, c0, hk, rfl, hpa⟩ := hrel
        have PA := Lib.hid hpa
        have HON := Lib.hid (OB.out.tr hpa.on)
        have HBASE := Lib.hid OB.out.size
        have hk0 : (0 : Int) ≤ k := by omega
        clear hpa
        by_cases hlt : k < n
        · have hk1 : (k : Int) < n := by omega
          obtain ⟨x, hx⟩ : ∃ x, xs[k]? = some x := ⟨_, List.getElem?_eq_getElem (by rw [HL.out]; omega)⟩
          obtain ⟨qb, qo, qA, hqc⟩ := (HX.out.only HON.out (fun _ _ _ h => h)) (by rw [HL.out]; omega)
          have QX := Lib.hid (hqc k x hx)
          have H12 := Lib.hid (FW.out.2 x (List.mem_of_getElem? hx))
          subst qA
          clear hx hqc
          go_upto_region 7 with fail
          refine wp_region_G (fun j => j = b) (fun j => W0.heap.size ≤ j) 10 (by kernel_rfl) ?_
          refine wpG_take (i := 0) (d := some 38) rfl rfl (by kernel_rfl) (by kernel_rfl) (by kernel_rfl) (fun _ _ _ h => h) (sure_value (v := .pointer (some ⟨g, 0, none⟩)) (by rfl) (fun v1 h1 => by first | rfl | (go_simp; done) | (go_simp; intro h9; exact absurd h9 (by omega)) | (go_simp; assumption))) (Only.refl _ _) ?_
          simp only [Act.put, List.setIfInBounds_toArray, List.set_cons_zero, List.set_cons_succ]
          refine wpG_take (i := 1) (d := some 39) rfl rfl (by kernel_rfl) (by kernel_rfl) (by kernel_rfl) (fun _ _ _ h => h) (sure_value (v := .agg #[.slice A0 N.length c0]) (by rfl) (fun v1 h1 => by have m0 := (PA.out.bx.only (Only.undrew h1) (fun h => PA.out.pb h)).cell 0; go_simp)) (Only.refl _ _) ?_
          simp only [Act.put, List.setIfInBounds_toArray, List.set_cons_zero, List.set_cons_succ]
          refine wpG_take (i := 2) (d := some 40) rfl rfl (by kernel_rfl) (by kernel_rfl) (by kernel_rfl) (fun _ _ _ h => h) (sure_value (v := .slice (some ⟨qb, qo, none⟩) n c) (by rfl) (fun v1 h1 => by first | rfl | (go_simp; done) | (go_simp; intro h9; exact absurd h9 (by omega)) | (go_simp; assumption))) (Only.refl _ _) ?_
          simp only [Act.put, List.setIfInBounds_toArray, List.set_cons_zero, List.set_cons_succ]
          refine wpG_take (i := 3) (d := some 41) rfl rfl (by kernel_rfl) (by kernel_rfl) (by kernel_rfl) (fun _ _ _ h => h) (sure_value (v := .int .i64 (k : Int)) (by rfl) (fun v1 h1 => by first | rfl | (go_simp; done) | (go_simp; intro h9; exact absurd h9 (by omega)) | (go_simp; assumption))) (Only.refl _ _) ?_
          simp only [Act.put, List.setIfInBounds_toArray, List.set_cons_zero, List.set_cons_succ]
          refine wpG_take (i := 4) (d := some 42) rfl rfl (by kernel_rfl) (by kernel_rfl) (by kernel_rfl) (fun _ _ _ h => h) (sure_value (v := .pointer (some ⟨qb, qo + k * 5, none⟩)) (by rfl) (fun v1 h1 => by first | rfl | (go_simp; done) | (go_simp; intro h9; exact absurd h9 (by omega)) | (go_simp; assumption))) (Only.refl _ _) ?_
          simp only [Act.put, List.setIfInBounds_toArray, List.set_cons_zero, List.set_cons_succ]
          refine wpG_take (i := 5) (d := some 43) rfl rfl (by kernel_rfl) (by kernel_rfl) (by kernel_rfl) (fun _ _ _ h => h) (sure_value (v := .agg x.arr) (by rfl) (fun v1 h1 => by have hq := QX.out.only (Only.undrew h1) (fun j hj _ e => by have hj : j < w.heap.size := hj; have e : j = b := e; have := PA.out.lo.2.1; have := HBASE.out; omega); have c0 := hq.c0; have c1 := hq.c1; have c2 := hq.c2; have c3 := hq.c3; have c4 := hq.c4; go_simp)) (Only.refl _ _) ?_
          simp only [Act.put, List.setIfInBounds_toArray, List.set_cons_zero, List.set_cons_succ]
          refine wpG_call (i := 6) (d := some 44) (fun v w1 w' => DoRes g b (fun j => j ≠ b ∧ j ≠ p) v w1 w') (fun w3 h3 => (do_run g b (fun j => j ≠ b ∧ j ≠ p) (fun j => j < w.heap.size) A0 c0 L N x w3 (PA.out.st.noth (Only.undrew h3)) (PA.out.rf.noth (Only.undrew h3)) PA.out.tw (fun h => h.1 rfl) (QX.out.ps.noth (Only.undrew h3)) (fun h => by have h : b < w.heap.size := h; have := PA.out.lo.2.1; have := HBASE.out; omega) H12.out QX.out.kd (TB.out.noth (HON.out.tr (Only.undrew h3)))).mono (fun e w' h => ?_)) (by kernel_rfl) rfl rfl (by rfl) (fun _ => by go_simp) ?_
          · obtain ⟨⟨L', A', c', N', rfl, h1, h2, h3'⟩, ho⟩ := h
            exact ⟨_, rfl, ⟨L', A', c', N', rfl, h1, h2, h3'⟩, (h3.mono (fun _ h _ => h.elim)).trans ho (fun _ h _ => h)⟩
          rintro v w3 w4 h3 ⟨L2, A2, c2, N2, rfl, hst, hrf, htw⟩ h4
          simp only [Act.put, List.setIfInBounds_toArray, List.set_cons_zero, List.set_cons_succ]
          refine wpG_take (i := 7) (d := some 37) rfl rfl (by kernel_rfl) (by kernel_rfl) (by kernel_rfl) (fun _ _ _ h => h) (sure_value (v := .tuple #[.agg #[.slice A2 N2.length c2], .bool true]) (by rfl) (fun v1 h1 => by first | rfl | (go_simp; done) | (go_simp; intro h9; exact absurd h9 (by omega)) | (go_simp; assumption))) h4 ?_
          simp only [Act.put, List.setIfInBounds_toArray, List.set_cons_zero, List.set_cons_succ]
          refine wpG_take (i := 8) (d := some 45) rfl rfl (by kernel_rfl) (by kernel_rfl) (by kernel_rfl) (fun _ _ _ h => h) (sure_value (v := .agg #[.slice A2 N2.length c2]) (by rfl) (fun v1 h1 => by first | rfl | (go_simp; done) | (go_simp; intro h9; exact absurd h9 (by omega)) | (go_simp; assumption))) h4 ?_
          simp only [Act.put, List.setIfInBounds_toArray, List.set_cons_zero, List.set_cons_succ]
          refine wpG_free (i := 9) (v := .bool true) (d := some 46) rfl rfl (by kernel_rfl) (by kernel_rfl) (by kernel_rfl) (fun _ _ _ h => h) (.inl ⟨by rfl, fun w hS b K Q he hk => by unfold Oper.wp; rw [he]; exact hk w (Only.refl _ w) hS⟩) h4 ?_
          simp only [Act.put, List.setIfInBounds_toArray, List.set_cons_zero, List.set_cons_succ]
          refine wpG_store (i := 10) (g := p) (cs' := #[.slice A2 N2.length c2]) (by kernel_rfl) rfl (by rfl) rfl rfl rfl rfl ((PA.out.bx.drew).only h4 (fun h => PA.out.pb h)) (fun _ => PA.out.lo.2.2) rfl (by simp [Value.oneCell']) (by kernel_rfl) h4 (fun j hj => by have hj : j = b := hj; subst hj; exact PA.out.lo.2.1) ?_
          intro w5 w6 h5 hb6 h6 h36
          refine wpN_done (by kernel_rfl) (fun w7 ho7 => ?_) _
          have PA2 := Lib.hid (PA.out.next (Only.undrew h3) (Only.undrew h4) hst hrf htw h5 hb6 h6 ho7)
          clear h3 h4 hst hrf htw h5 hb6 h6 h36 ho7
          go_wp2_with fail
          go_roundw
          case rel => exact ⟨k + 1, L2, N2, A2, c2, by omega, by go_num, PA2.out⟩
          case measure => simp [RowKit.intOf]; omega
        · obtain rfl : k = n := by omega
          have B3r := Lib.hid (B3.out.only PA.out.on (fun h => h))
          have m0 := B3r.out.cell 0
          clear PA0 m3
          obtain ⟨K, hK⟩ : ∃ K, ByteArray.mk (lkey l).toArray = K := ⟨_, rfl⟩
          have HKB := Lib.hid (show K.data.toList = lkey l by rw [← hK])
          have HKS := Lib.hid (show K.size ≤ 9223372036854775807 by
            have e : lkey l = tList (l.flatMap Pr.tx) := rfl
            have e2 : K.size = (lkey l).length := by rw [← hK]; show (lkey l).toArray.size = _; simp
            have h := HT.out
            rw [e2, e]
            unfold tList
            simp
            simp at h
            omega)
          have HKE := Lib.hid hK
          go_wp2_with fail
          refine (rkey_all _ LA lc l.length l rfl (by omega) HT.out _ (HP.out.noth HON.out)).mono ?_
          rintro e w3 ⟨rfl, ho⟩
          rw [HKE.out]
          have PA3 := Lib.hid (PA.out.noth ho)
          have OR3 := Lib.hid ho
          clear ho m0 hK
          go_wp2_with fail
          refine (get_al g b L K HKS.out w3 PA3.out.st).mono ?_
          rintro e w4 ⟨hga, ho⟩
          have PA4 := Lib.hid (PA3.out.noth ho)
          have OR4 := Lib.hid (OR3.out.tr ho)
          unfold GetAns at hga
          rw [HKB.out] at hga
          have hgg := Tw.get (k := lkey l) PA.out.tw
          clear ho
          rcases hgg with ⟨hgL, hgN⟩ | ⟨x1, y1, hgL, hgN, hal⟩
          · rw [hgL] at hga
            subst hga
            go_upto_region 10 with (refine wpList_store_whole rfl rfl 27 (.tmp 11) (.tmp 54) rfl w4.heap.size rfl #[.slice none 0 0, .int .i64 0, .int .i64 0] rfl 27 _ (Hld.new w4 _ _) rfl (by simp [Value.oneCell']) (by kernel_rfl) ?_; intro w5 gb ho1 hz1; have XB := Lib.hid gb; have OX := Lib.hid (show Only Noth w4 w5 from ((Only.refl Noth w4).alloc _).trans ho1 (fun j hj hl => by have hj : j = w4.heap.size := hj; omega)); clear gb ho1 hz1)
            obtain ⟨gx, hgx⟩ : ∃ gx, w4.heap.size = gx := ⟨_, rfl⟩
            rw [hgx] at XB
            simp only [hgx]
            clear hgx
            have PA5 := Lib.hid (PA4.out.noth OX.out)
            have OR5 := Lib.hid (OR4.out.tr OX.out)
            have mp := PA5.out.bx.cell 0
            clear OX
            go_wp2_with fail
            refine (rget_run A0 c0 N K _ w5 PA5.out.rf).mono ?_
            rintro e w6 ⟨hga2, ho⟩
            have OR6 := Lib.hid (OR5.out.tr ho)
            have O46 := Lib.hid (OR6.out)
            replace XB := Lib.hid (XB.out.only ho (fun h => h))
            unfold RGet at hga2
            rw [HKB.out, hgN] at hga2
            subst hga2
            clear ho mp
            go_upto_region 11 with (refine wpList_store_whole rfl rfl 27 (.tmp 13) (.tmp 60) rfl w6.heap.size rfl #[.slice none 0 0, .int .i64 0, .int .i64 0] rfl 27 _ (Hld.new w6 _ _) rfl (by simp [Value.oneCell']) (by kernel_rfl) ?_; intro w7 gb ho1 hz1; have YB := Lib.hid gb; have OX := Lib.hid (show Only Noth w6 w7 from ((Only.refl Noth w6).alloc _).trans ho1 (fun j hj hl => by have hj : j = w6.heap.size := hj; omega)); clear gb ho1 hz1)
            obtain ⟨gy, hgx⟩ : ∃ gx, w6.heap.size = gx := ⟨_, rfl⟩
            rw [hgx] at YB
            simp only [hgx]
            clear hgx
            replace XB := Lib.hid (XB.out.only OX.out (fun h => h))
            have OR7 := Lib.hid (OR6.out.tr OX.out)
            have O67 := Lib.hid OX.out
            clear OX
            go_wp2_with fail
            refine (nil_get K _).mono ?_
            rintro e w8 ⟨rfl, ho⟩
            have O68 := Lib.hid (O67.out.tr ho)
            have OR8 := Lib.hid (OR7.out.tr ho)
            replace XB := Lib.hid (XB.out.only ho (fun h => h))
            replace YB := Lib.hid (YB.out.only ho (fun h => h))
            clear ho
            go_upto_region 13 with (refine wpList_store_whole rfl rfl 27 (.tmp 16) (.tmp 66) rfl w8.heap.size rfl #[.slice none 0 0, .int .i64 0, .int .i64 0] rfl 27 _ (Hld.new w8 _ _) rfl (by simp [Value.oneCell']) (by kernel_rfl) ?_; intro w9 gb ho1 hz1; have ZB := Lib.hid gb; have OX := Lib.hid (show Only Noth w8 w9 from ((Only.refl Noth w8).alloc _).trans ho1 (fun j hj hl => by have hj : j = w8.heap.size := hj; omega)); clear gb ho1 hz1)
            obtain ⟨gz, hgx⟩ : ∃ gx, w8.heap.size = gx := ⟨_, rfl⟩
            rw [hgx] at ZB
            simp only [hgx]
            clear hgx
            have O69 := Lib.hid (O68.out.tr OX.out)
            have OR9 := Lib.hid (OR8.out.tr OX.out)
            replace XB := Lib.hid (XB.out.only OX.out (fun h => h))
            replace YB := Lib.hid (YB.out.only OX.out (fun h => h))
            have AB := Lib.hid (B3r.out.only OR9.out (fun h => h))
            have m0 := AB.out.cell 0
            have m1 := AB.out.cell 1
            have m2 := AB.out.cell 2
            clear OX ZB
            go_wp2_with fail
            refine (nil_put LA l.length lc st en _).mono ?_
            rintro e u1 ⟨rfl, ho1⟩
            clear m0 m1 m2
            go_wp2_with fail
            refine (nil_all _).mono ?_
            rintro e u2 ⟨rfl, ho2⟩
            go_wp2_with fail
            refine (nil_firing now _).mono ?_
            rintro e u3 ⟨rfl, ho3⟩
            go_wp2_with fail
            refine (nil_drop now _).mono ?_
            rintro e u4 ⟨rfl, ho4⟩
            go_wp2_with fail
            refine (nil_len _).mono ?_
            rintro e u5 ⟨rfl, ho5⟩
            go_wp2_with fail
            refine (nil_fork _).mono ?_
            rintro e u6 ⟨rfl, ho6⟩
            have OU := ((((ho1.tr ho2).tr ho3).tr ho4).tr ho5).tr ho6
            replace XB := Lib.hid (XB.out.only OU (fun h => h))
            replace YB := Lib.hid (YB.out.only OU (fun h => h))
            replace AB := Lib.hid (AB.out.only OU (fun h => h))
            have OW := Lib.hid (HON.out.tr (OR9.out.tr OU))
            have O6U := Lib.hid (O69.out.tr OU)
            obtain ⟨fb, hfb⟩ : ∃ fb, (decide (st ≤ now) && decide (now < en)) = fb := ⟨_, rfl⟩
            have FB := Lib.hid (fun W => by have := afires_run (.slice LA l.length lc) rfl st en now W; rw [hfb] at this; exact this)
            have FBR := Lib.hid (fun W => by have := rfires_run (.slice LA l.length lc) rfl st en now W; rw [hfb] at this; exact this)
            have SQ := Lib.hid (fun W (_ : Only Noth u6 W) => by
              have hz : ∀ W : World, PsAt W Noth none 0 [] := fun W => ⟨fun h => absurd h (by simp), fun p h => absurd h (by simp), Nat.le_refl _, by omega⟩
              have := rsamea_run none none 0 0 [] [] 0 0 0 0 W _ _ (hz W) (hz W)
              rw [sameQ_iff.2 rfl] at this
              exact this)
            clear OU ho1 ho2 ho3 ho4 ho5 ho6 hfb
            go_upto_region 14 with fail
            refine wp_region_N Noth (by kernel_rfl) ?_
            refine wpN_take (i := 0) (d := some 105) rfl rfl (by kernel_rfl) (by kernel_rfl) (by kernel_rfl) (fun _ _ _ h => h) (sure_value (v := .agg #[.slice none 0 0, .int .i64 0, .int .i64 0]) (by rfl) (fun v1 h1 => by have hb := XB.out.only (Only.undrew h1) (fun h => h); have c0 := hb.cell 0; have c1 := hb.cell 1; have c2 := hb.cell 2; go_simp)) (Only.refl _ _) ?_
            simp only [Act.put, List.setIfInBounds_toArray, List.set_cons_zero, List.set_cons_succ]
            refine wpN_take (i := 1) (d := some 106) rfl rfl (by kernel_rfl) (by kernel_rfl) (by kernel_rfl) (fun _ _ _ h => h) (sure_value (v := .agg #[.slice none 0 0, .int .i64 0, .int .i64 0]) (by rfl) (fun v1 h1 => by have hb := YB.out.only (Only.undrew h1) (fun h => h); have c0 := hb.cell 0; have c1 := hb.cell 1; have c2 := hb.cell 2; go_simp)) (Only.refl _ _) ?_
            simp only [Act.put, List.setIfInBounds_toArray, List.set_cons_zero, List.set_cons_succ]
            refine wpN_take (i := 2) (d := some 107) rfl rfl (by kernel_rfl) (by kernel_rfl) (by kernel_rfl) (fun _ _ _ h => h) (sure_call (v := .bool true) (fun w' h' => SQ.out w' (Only.undrew h')) (by rfl) (fun _ => by go_simp)) (Only.refl _ _) ?_
            simp only [Act.put, List.setIfInBounds_toArray, List.set_cons_zero, List.set_cons_succ]
            refine wpN_take (i := 3) (d := some 108) rfl rfl (by kernel_rfl) (by kernel_rfl) (by kernel_rfl) (fun _ _ _ h => h) (sure_value (v := .bool true) (by rfl) (fun v1 h1 => by first | rfl | (go_simp; done) | (go_simp; intro h9; exact absurd h9 (by omega)) | (go_simp; assumption))) (Only.refl _ _) ?_
            simp only [Act.put, List.setIfInBounds_toArray, List.set_cons_zero, List.set_cons_succ]
            refine wpN_take (i := 4) (d := some 109) rfl rfl (by kernel_rfl) (by kernel_rfl) (by kernel_rfl) (fun _ _ _ h => h) (sure_value (v := .bool false) (by rfl) (fun v1 h1 => by first | rfl | (go_simp; done) | (go_simp; intro h9; exact absurd h9 (by omega)) | (go_simp; assumption))) (Only.refl _ _) ?_
            simp only [Act.put, List.setIfInBounds_toArray, List.set_cons_zero, List.set_cons_succ]
            refine wpN_take (i := 5) (d := some 110) rfl rfl (by kernel_rfl) (by kernel_rfl) (by kernel_rfl) (fun _ _ _ h => h) (sure_value (v := .bool false) (by rfl) (fun v1 h1 => by first | rfl | (go_simp; done) | (go_simp; intro h9; exact absurd h9 (by omega)) | (go_simp; assumption))) (Only.refl _ _) ?_
            simp only [Act.put, List.setIfInBounds_toArray, List.set_cons_zero, List.set_cons_succ]
            refine wpN_take (i := 6) (d := some 111) rfl rfl (by kernel_rfl) (by kernel_rfl) (by kernel_rfl) (fun _ _ _ h => h) (sure_value (v := .bool true) (by rfl) (fun v1 h1 => by first | rfl | (go_simp; done) | (go_simp; intro h9; exact absurd h9 (by omega)) | (go_simp; assumption))) (Only.refl _ _) ?_
            simp only [Act.put, List.setIfInBounds_toArray, List.set_cons_zero, List.set_cons_succ]
            refine wpN_take (i := 7) (d := some 112) rfl rfl (by kernel_rfl) (by kernel_rfl) (by kernel_rfl) (fun _ _ _ h => h) (sure_value (v := .bool true) (by rfl) (fun v1 h1 => by first | rfl | (go_simp; done) | (go_simp; intro h9; exact absurd h9 (by omega)) | (go_simp; assumption))) (Only.refl _ _) ?_
            simp only [Act.put, List.setIfInBounds_toArray, List.set_cons_zero, List.set_cons_succ]
            refine wpN_take (i := 8) (d := some 113) rfl rfl (by kernel_rfl) (by kernel_rfl) (by kernel_rfl) (fun _ _ _ h => h) (sure_value (v := .bool true) (by rfl) (fun v1 h1 => by first | rfl | (go_simp; done) | (go_simp; intro h9; exact absurd h9 (by omega)) | (go_simp; assumption))) (Only.refl _ _) ?_
            simp only [Act.put, List.setIfInBounds_toArray, List.set_cons_zero, List.set_cons_succ]
            refine wpN_take (i := 9) (d := some 114) rfl rfl (by kernel_rfl) (by kernel_rfl) (by kernel_rfl) (fun _ _ _ h => h) (sure_value (v := .agg #[.slice LA l.length lc, .int .i64 st, .int .i64 en]) (by rfl) (fun v1 h1 => by have hb := AB.out.only (Only.undrew h1) (fun h => h); have c0 := hb.cell 0; have c1 := hb.cell 1; have c2 := hb.cell 2; go_simp)) (Only.refl _ _) ?_
            simp only [Act.put, List.setIfInBounds_toArray, List.set_cons_zero, List.set_cons_succ]
            refine wpN_take (i := 10) (d := some 115) rfl rfl (by kernel_rfl) (by kernel_rfl) (by kernel_rfl) (fun _ _ _ h => h) (sure_value (v := .int .i64 now) (by rfl) (fun v1 h1 => by first | rfl | (go_simp; done) | (go_simp; intro h9; exact absurd h9 (by omega)) | (go_simp; assumption))) (Only.refl _ _) ?_
            simp only [Act.put, List.setIfInBounds_toArray, List.set_cons_zero, List.set_cons_succ]
            refine wpN_take (i := 11) (d := some 116) rfl rfl (by kernel_rfl) (by kernel_rfl) (by kernel_rfl) (fun _ _ _ h => h) (sure_call (v := .bool fb) (fun w' h' => FB.out w') (by rfl) (fun _ => by go_simp)) (Only.refl _ _) ?_
            simp only [Act.put, List.setIfInBounds_toArray, List.set_cons_zero, List.set_cons_succ]
            refine wpN_take (i := 12) (d := some 117) rfl rfl (by kernel_rfl) (by kernel_rfl) (by kernel_rfl) (fun _ _ _ h => h) (sure_value (v := .agg #[.slice LA l.length lc, .int .i64 st, .int .i64 en]) (by rfl) (fun v1 h1 => by have hb := AB.out.only (Only.undrew h1) (fun h => h); have c0 := hb.cell 0; have c1 := hb.cell 1; have c2 := hb.cell 2; go_simp)) (Only.refl _ _) ?_
            simp only [Act.put, List.setIfInBounds_toArray, List.set_cons_zero, List.set_cons_succ]
            refine wpN_take (i := 13) (d := some 118) rfl rfl (by kernel_rfl) (by kernel_rfl) (by kernel_rfl) (fun _ _ _ h => h) (sure_value (v := .int .i64 now) (by rfl) (fun v1 h1 => by first | rfl | (go_simp; done) | (go_simp; intro h9; exact absurd h9 (by omega)) | (go_simp; assumption))) (Only.refl _ _) ?_
            simp only [Act.put, List.setIfInBounds_toArray, List.set_cons_zero, List.set_cons_succ]
            refine wpN_take (i := 14) (d := some 119) rfl rfl (by kernel_rfl) (by kernel_rfl) (by kernel_rfl) (fun _ _ _ h => h) (sure_call (v := .bool fb) (fun w' h' => FBR.out w') (by rfl) (fun _ => by go_simp)) (Only.refl _ _) ?_
            simp only [Act.put, List.setIfInBounds_toArray, List.set_cons_zero, List.set_cons_succ]
            refine wpN_take (i := 15) (d := some 120) rfl rfl (by kernel_rfl) (by kernel_rfl) (by kernel_rfl) (fun _ _ _ h => h) (sure_value (v := .bool true) (by rfl) (fun v1 h1 => by first | rfl | (go_simp; done) | (go_simp; intro h9; exact absurd h9 (by omega)) | (go_simp; assumption))) (Only.refl _ _) ?_
            simp only [Act.put, List.setIfInBounds_toArray, List.set_cons_zero, List.set_cons_succ]
            refine wpN_take (i := 16) (d := some 121) rfl rfl (by kernel_rfl) (by kernel_rfl) (by kernel_rfl) (fun _ _ _ h => h) (sure_value (v := .bool true) (by rfl) (fun v1 h1 => by first | rfl | (go_simp; done) | (go_simp; intro h9; exact absurd h9 (by omega)) | (go_simp; assumption))) (Only.refl _ _) ?_
            simp only [Act.put, List.setIfInBounds_toArray, List.set_cons_zero, List.set_cons_succ]
            refine wpN_take (i := 17) (d := some 122) rfl rfl (by kernel_rfl) (by kernel_rfl) (by kernel_rfl) (fun _ _ _ h => h) (sure_value (v := .bool true) (by rfl) (fun v1 h1 => by first | rfl | (go_simp; done) | (go_simp; intro h9; exact absurd h9 (by omega)) | (go_simp; assumption))) (Only.refl _ _) ?_
            simp only [Act.put, List.setIfInBounds_toArray, List.set_cons_zero, List.set_cons_succ]
            refine wpN_take (i := 18) (d := some 123) rfl rfl (by kernel_rfl) (by kernel_rfl) (by kernel_rfl) (fun _ _ _ h => h) (sure_value (v := .bool true) (by rfl) (fun v1 h1 => by first | rfl | (go_simp; done) | (go_simp; intro h9; exact absurd h9 (by omega)) | (go_simp; assumption))) (Only.refl _ _) ?_
            simp only [Act.put, List.setIfInBounds_toArray, List.set_cons_zero, List.set_cons_succ]
            refine wpN_take (i := 19) (d := some 124) rfl rfl (by kernel_rfl) (by kernel_rfl) (by kernel_rfl) (fun _ _ _ h => h) (sure_value (v := .bool true) (by rfl) (fun v1 h1 => by first | rfl | (go_simp; done) | (go_simp; intro h9; exact absurd h9 (by omega)) | (go_simp; assumption))) (Only.refl _ _) ?_
            simp only [Act.put, List.setIfInBounds_toArray, List.set_cons_zero, List.set_cons_succ]
            refine wpN_take (i := 20) (d := some 125) rfl rfl (by kernel_rfl) (by kernel_rfl) (by kernel_rfl) (fun _ _ _ h => h) (sure_value (v := .bool true) (by rfl) (fun v1 h1 => by first | rfl | (go_simp; done) | (go_simp; intro h9; exact absurd h9 (by omega)) | (go_simp; assumption))) (Only.refl _ _) ?_
            simp only [Act.put, List.setIfInBounds_toArray, List.set_cons_zero, List.set_cons_succ]
            refine wpN_take (i := 21) (d := some 126) rfl rfl (by kernel_rfl) (by kernel_rfl) (by kernel_rfl) (fun _ _ _ h => h) (sure_call (v := .bool true) (fun w' h' => awake_run w' (TB.out.noth (OW.out.tr (Only.undrew h')))) (by rfl) (fun _ => by go_simp)) (Only.refl _ _) ?_
            simp only [Act.put, List.setIfInBounds_toArray, List.set_cons_zero, List.set_cons_succ]
            refine wpN_take (i := 22) (d := some 127) rfl rfl (by kernel_rfl) (by kernel_rfl) (by kernel_rfl) (fun _ _ _ h => h) (sure_value (v := .bool true) (by rfl) (fun v1 h1 => by first | rfl | (go_simp; done) | (go_simp; intro h9; exact absurd h9 (by omega)) | (go_simp; assumption))) (Only.refl _ _) ?_
            simp only [Act.put, List.setIfInBounds_toArray, List.set_cons_zero, List.set_cons_succ]
            refine wpN_take (i := 23) (d := some 6) rfl rfl (by kernel_rfl) (by kernel_rfl) (by kernel_rfl) (fun _ _ _ h => h) (sure_value (v := .bool true) (by rfl) (fun v1 h1 => by first | rfl | (go_simp; done) | (go_simp; intro h9; exact absurd h9 (by omega)) | (go_simp; assumption))) (Only.refl _ _) ?_
            simp only [Act.put, List.setIfInBounds_toArray, List.set_cons_zero, List.set_cons_succ]
            refine wpN_done (by kernel_rfl) (fun wz ho => ?_) _
            have OZ := Lib.hid (OW.out.tr (Only.undrew ho))
            clear ho
            go_wp2
            go_ret
            exact ⟨rfl, OZ.out⟩
          · rw [hgL] at hga
            obtain ⟨b2, c2, rfl, _, _, hps2⟩ := hga
            have LX := Lib.hid hps2
            have HAL := Lib.hid hal
            clear hps2 hal
            go_upto_region 10 with (refine wpList_store_whole rfl rfl 27 (.tmp 11) (.tmp 54) rfl w4.heap.size rfl #[.slice (some ⟨b2, 0, none⟩) x1.ls.length c2, .int .i64 x1.st, .int .i64 x1.en] rfl 27 _ (Hld.new w4 _ _) rfl (by simp [Value.oneCell']) (by kernel_rfl) ?_; intro w5 gb ho1 hz1; have XB := Lib.hid gb; have OX := Lib.hid (show Only Noth w4 w5 from ((Only.refl Noth w4).alloc _).trans ho1 (fun j hj hl => by have hj : j = w4.heap.size := hj; omega)); clear gb ho1 hz1)
            obtain ⟨gx, hgx⟩ : ∃ gx, w4.heap.size = gx := ⟨_, rfl⟩
            rw [hgx] at XB
            simp only [hgx]
            clear hgx
            have PA5 := Lib.hid (PA4.out.noth OX.out)
            have OR5 := Lib.hid (OR4.out.tr OX.out)
            have O45 := Lib.hid OX.out
            have mp := PA5.out.bx.cell 0
            clear OX
            go_wp2_with fail
            refine (rget_run A0 c0 N K _ w5 PA5.out.rf).mono ?_
            rintro e w6 ⟨hga2, ho⟩
            have OR6 := Lib.hid (OR5.out.tr ho)
            have O4X := Lib.hid (O45.out.tr ho)
            replace XB := Lib.hid (XB.out.only ho (fun h => h))
            unfold RGet at hga2
            rw [HKB.out, hgN] at hga2
            obtain ⟨rfl, hpsy⟩ := hga2
            have LY := Lib.hid hpsy
            clear hpsy
            clear ho mp
            go_upto_region 11 with (refine wpList_store_whole rfl rfl 27 (.tmp 13) (.tmp 60) rfl w6.heap.size rfl y1.arr rfl 27 _ (Hld.new w6 _ _) rfl (by simp [Value.oneCell']) (by kernel_rfl) ?_; intro w7 gb ho1 hz1; have YB := Lib.hid gb; have OX := Lib.hid (show Only Noth w6 w7 from ((Only.refl Noth w6).alloc _).trans ho1 (fun j hj hl => by have hj : j = w6.heap.size := hj; omega)); clear gb ho1 hz1)
            obtain ⟨gy, hgx⟩ : ∃ gx, w6.heap.size = gx := ⟨_, rfl⟩
            rw [hgx] at YB
            simp only [hgx]
            clear hgx
            replace XB := Lib.hid (XB.out.only OX.out (fun h => h))
            have OR7 := Lib.hid (OR6.out.tr OX.out)
            have O67 := Lib.hid OX.out
            clear OX
            go_wp2_with fail
            refine (nil_get K _).mono ?_
            rintro e w8 ⟨rfl, ho⟩
            have O68 := Lib.hid (O67.out.tr ho)
            have OR8 := Lib.hid (OR7.out.tr ho)
            replace XB := Lib.hid (XB.out.only ho (fun h => h))
            replace YB := Lib.hid (YB.out.only ho (fun h => h))
            clear ho
            go_upto_region 13 with (refine wpList_store_whole rfl rfl 27 (.tmp 16) (.tmp 66) rfl w8.heap.size rfl #[.slice none 0 0, .int .i64 0, .int .i64 0] rfl 27 _ (Hld.new w8 _ _) rfl (by simp [Value.oneCell']) (by kernel_rfl) ?_; intro w9 gb ho1 hz1; have ZB := Lib.hid gb; have OX := Lib.hid (show Only Noth w8 w9 from ((Only.refl Noth w8).alloc _).trans ho1 (fun j hj hl => by have hj : j = w8.heap.size := hj; omega)); clear gb ho1 hz1)
            obtain ⟨gz, hgx⟩ : ∃ gx, w8.heap.size = gx := ⟨_, rfl⟩
            rw [hgx] at ZB
            simp only [hgx]
            clear hgx
            have O69 := Lib.hid (O68.out.tr OX.out)
            have OR9 := Lib.hid (OR8.out.tr OX.out)
            replace XB := Lib.hid (XB.out.only OX.out (fun h => h))
            replace YB := Lib.hid (YB.out.only OX.out (fun h => h))
            have AB := Lib.hid (B3r.out.only OR9.out (fun h => h))
            have m0 := AB.out.cell 0
            have m1 := AB.out.cell 1
            have m2 := AB.out.cell 2
            clear OX ZB
            go_wp2_with fail
            refine (nil_put LA l.length lc st en _).mono ?_
            rintro e u1 ⟨rfl, ho1⟩
            clear m0 m1 m2
            go_wp2_with fail
            refine (nil_all _).mono ?_
            rintro e u2 ⟨rfl, ho2⟩
            go_wp2_with fail
            refine (nil_firing now _).mono ?_
            rintro e u3 ⟨rfl, ho3⟩
            go_wp2_with fail
            refine (nil_drop now _).mono ?_
            rintro e u4 ⟨rfl, ho4⟩
            go_wp2_with fail
            refine (nil_len _).mono ?_
            rintro e u5 ⟨rfl, ho5⟩
            go_wp2_with fail
            refine (nil_fork _).mono ?_
            rintro e u6 ⟨rfl, ho6⟩
            have OU := ((((ho1.tr ho2).tr ho3).tr ho4).tr ho5).tr ho6
            replace XB := Lib.hid (XB.out.only OU (fun h => h))
            replace YB := Lib.hid (YB.out.only OU (fun h => h))
            replace AB := Lib.hid (AB.out.only OU (fun h => h))
            have OW := Lib.hid (HON.out.tr (OR9.out.tr OU))
            have O6U := Lib.hid (O69.out.tr OU)
            have O4U := Lib.hid (O4X.out.tr O6U.out)
            obtain ⟨fb, hfb⟩ : ∃ fb, (decide (st ≤ now) && decide (now < en)) = fb := ⟨_, rfl⟩
            have FB := Lib.hid (fun W => by have := afires_run (.slice LA l.length lc) rfl st en now W; rw [hfb] at this; exact this)
            have FBR := Lib.hid (fun W => by have := rfires_run (.slice LA l.length lc) rfl st en now W; rw [hfb] at this; exact this)
            have SQ := Lib.hid (fun W (hW : Only Noth u6 W) => by
              have := rsamea_run (some ⟨b2, 0, none⟩) (some ⟨y1.blk, 0, none⟩) c2 y1.cap x1.ls y1.ls x1.st x1.en y1.st y1.en W _ _ ((LX.out.noth (O4U.out)).noth hW) ((LY.out.noth O6U.out).noth hW)
              rw [show sameQ (x1.ls, x1.st, x1.en) (y1.ls, y1.st, y1.en) = true from sameQ_iff.2 HAL.out.1] at this
              exact this)
            clear OU ho1 ho2 ho3 ho4 ho5 ho6 hfb
            go_upto_region 14 with fail
            refine wp_region_N Noth (by kernel_rfl) ?_
            refine wpN_take (i := 0) (d := some 105) rfl rfl (by kernel_rfl) (by kernel_rfl) (by kernel_rfl) (fun _ _ _ h => h) (sure_value (v := .agg #[.slice (some ⟨b2, 0, none⟩) x1.ls.length c2, .int .i64 x1.st, .int .i64 x1.en]) (by rfl) (fun v1 h1 => by have hb := XB.out.only (Only.undrew h1) (fun h => h); have c0 := hb.cell 0; have c1 := hb.cell 1; have c2 := hb.cell 2; go_simp)) (Only.refl _ _) ?_
            simp only [Act.put, List.setIfInBounds_toArray, List.set_cons_zero, List.set_cons_succ]
            refine wpN_take (i := 1) (d := some 106) rfl rfl (by kernel_rfl) (by kernel_rfl) (by kernel_rfl) (fun _ _ _ h => h) (sure_value (v := .agg y1.arr) (by rfl) (fun v1 h1 => by have hb := YB.out.only (Only.undrew h1) (fun h => h); have c0 := hb.cell 0; have c1 := hb.cell 1; have c2 := hb.cell 2; go_simp)) (Only.refl _ _) ?_
            simp only [Act.put, List.setIfInBounds_toArray, List.set_cons_zero, List.set_cons_succ]
            refine wpN_take (i := 2) (d := some 107) rfl rfl (by kernel_rfl) (by kernel_rfl) (by kernel_rfl) (fun _ _ _ h => h) (sure_call (v := .bool true) (fun w' h' => SQ.out w' (Only.undrew h')) (by rfl) (fun _ => by go_simp)) (Only.refl _ _) ?_
            simp only [Act.put, List.setIfInBounds_toArray, List.set_cons_zero, List.set_cons_succ]
            refine wpN_take (i := 3) (d := some 108) rfl rfl (by kernel_rfl) (by kernel_rfl) (by kernel_rfl) (fun _ _ _ h => h) (sure_value (v := .bool true) (by rfl) (fun v1 h1 => by first | rfl | (go_simp; done) | (go_simp; intro h9; exact absurd h9 (by omega)) | (go_simp; assumption))) (Only.refl _ _) ?_
            simp only [Act.put, List.setIfInBounds_toArray, List.set_cons_zero, List.set_cons_succ]
            refine wpN_take (i := 4) (d := some 109) rfl rfl (by kernel_rfl) (by kernel_rfl) (by kernel_rfl) (fun _ _ _ h => h) (sure_value (v := .bool true) (by rfl) (fun v1 h1 => by first | rfl | (go_simp; done) | (go_simp; intro h9; exact absurd h9 (by omega)) | (go_simp; assumption))) (Only.refl _ _) ?_
            simp only [Act.put, List.setIfInBounds_toArray, List.set_cons_zero, List.set_cons_succ]
            refine wpN_take (i := 5) (d := some 110) rfl rfl (by kernel_rfl) (by kernel_rfl) (by kernel_rfl) (fun _ _ _ h => h) (sure_value (v := .bool true) (by rfl) (fun v1 h1 => by first | rfl | (go_simp; done) | (go_simp; intro h9; exact absurd h9 (by omega)) | (go_simp; assumption))) (Only.refl _ _) ?_
            simp only [Act.put, List.setIfInBounds_toArray, List.set_cons_zero, List.set_cons_succ]
            refine wpN_take (i := 6) (d := some 111) rfl rfl (by kernel_rfl) (by kernel_rfl) (by kernel_rfl) (fun _ _ _ h => h) (sure_value (v := .bool true) (by rfl) (fun v1 h1 => by first | rfl | (go_simp; done) | (go_simp; intro h9; exact absurd h9 (by omega)) | (go_simp; assumption))) (Only.refl _ _) ?_
            simp only [Act.put, List.setIfInBounds_toArray, List.set_cons_zero, List.set_cons_succ]
            refine wpN_take (i := 7) (d := some 112) rfl rfl (by kernel_rfl) (by kernel_rfl) (by kernel_rfl) (fun _ _ _ h => h) (sure_value (v := .bool true) (by rfl) (fun v1 h1 => by first | rfl | (go_simp; done) | (go_simp; intro h9; exact absurd h9 (by omega)) | (go_simp; assumption))) (Only.refl _ _) ?_
            simp only [Act.put, List.setIfInBounds_toArray, List.set_cons_zero, List.set_cons_succ]
            refine wpN_take (i := 8) (d := some 113) rfl rfl (by kernel_rfl) (by kernel_rfl) (by kernel_rfl) (fun _ _ _ h => h) (sure_value (v := .bool true) (by rfl) (fun v1 h1 => by first | rfl | (go_simp; done) | (go_simp; intro h9; exact absurd h9 (by omega)) | (go_simp; assumption))) (Only.refl _ _) ?_
            simp only [Act.put, List.setIfInBounds_toArray, List.set_cons_zero, List.set_cons_succ]
            refine wpN_take (i := 9) (d := some 114) rfl rfl (by kernel_rfl) (by kernel_rfl) (by kernel_rfl) (fun _ _ _ h => h) (sure_value (v := .agg #[.slice LA l.length lc, .int .i64 st, .int .i64 en]) (by rfl) (fun v1 h1 => by have hb := AB.out.only (Only.undrew h1) (fun h => h); have c0 := hb.cell 0; have c1 := hb.cell 1; have c2 := hb.cell 2; go_simp)) (Only.refl _ _) ?_
            simp only [Act.put, List.setIfInBounds_toArray, List.set_cons_zero, List.set_cons_succ]
            refine wpN_take (i := 10) (d := some 115) rfl rfl (by kernel_rfl) (by kernel_rfl) (by kernel_rfl) (fun _ _ _ h => h) (sure_value (v := .int .i64 now) (by rfl) (fun v1 h1 => by first | rfl | (go_simp; done) | (go_simp; intro h9; exact absurd h9 (by omega)) | (go_simp; assumption))) (Only.refl _ _) ?_
            simp only [Act.put, List.setIfInBounds_toArray, List.set_cons_zero, List.set_cons_succ]
            refine wpN_take (i := 11) (d := some 116) rfl rfl (by kernel_rfl) (by kernel_rfl) (by kernel_rfl) (fun _ _ _ h => h) (sure_call (v := .bool fb) (fun w' h' => FB.out w') (by rfl) (fun _ => by go_simp)) (Only.refl _ _) ?_
            simp only [Act.put, List.setIfInBounds_toArray, List.set_cons_zero, List.set_cons_succ]
            refine wpN_take (i := 12) (d := some 117) rfl rfl (by kernel_rfl) (by kernel_rfl) (by kernel_rfl) (fun _ _ _ h => h) (sure_value (v := .agg #[.slice LA l.length lc, .int .i64 st, .int .i64 en]) (by rfl) (fun v1 h1 => by have hb := AB.out.only (Only.undrew h1) (fun h => h); have c0 := hb.cell 0; have c1 := hb.cell 1; have c2 := hb.cell 2; go_simp)) (Only.refl _ _) ?_
            simp only [Act.put, List.setIfInBounds_toArray, List.set_cons_zero, List.set_cons_succ]
            refine wpN_take (i := 13) (d := some 118) rfl rfl (by kernel_rfl) (by kernel_rfl) (by kernel_rfl) (fun _ _ _ h => h) (sure_value (v := .int .i64 now) (by rfl) (fun v1 h1 => by first | rfl | (go_simp; done) | (go_simp; intro h9; exact absurd h9 (by omega)) | (go_simp; assumption))) (Only.refl _ _) ?_
            simp only [Act.put, List.setIfInBounds_toArray, List.set_cons_zero, List.set_cons_succ]
            refine wpN_take (i := 14) (d := some 119) rfl rfl (by kernel_rfl) (by kernel_rfl) (by kernel_rfl) (fun _ _ _ h => h) (sure_call (v := .bool fb) (fun w' h' => FBR.out w') (by rfl) (fun _ => by go_simp)) (Only.refl _ _) ?_
            simp only [Act.put, List.setIfInBounds_toArray, List.set_cons_zero, List.set_cons_succ]
            refine wpN_take (i := 15) (d := some 120) rfl rfl (by kernel_rfl) (by kernel_rfl) (by kernel_rfl) (fun _ _ _ h => h) (sure_value (v := .bool true) (by rfl) (fun v1 h1 => by first | rfl | (go_simp; done) | (go_simp; intro h9; exact absurd h9 (by omega)) | (go_simp; assumption))) (Only.refl _ _) ?_
            simp only [Act.put, List.setIfInBounds_toArray, List.set_cons_zero, List.set_cons_succ]
            refine wpN_take (i := 16) (d := some 121) rfl rfl (by kernel_rfl) (by kernel_rfl) (by kernel_rfl) (fun _ _ _ h => h) (sure_value (v := .bool true) (by rfl) (fun v1 h1 => by first | rfl | (go_simp; done) | (go_simp; intro h9; exact absurd h9 (by omega)) | (go_simp; assumption))) (Only.refl _ _) ?_
            simp only [Act.put, List.setIfInBounds_toArray, List.set_cons_zero, List.set_cons_succ]
            refine wpN_take (i := 17) (d := some 122) rfl rfl (by kernel_rfl) (by kernel_rfl) (by kernel_rfl) (fun _ _ _ h => h) (sure_value (v := .bool true) (by rfl) (fun v1 h1 => by first | rfl | (go_simp; done) | (go_simp; intro h9; exact absurd h9 (by omega)) | (go_simp; assumption))) (Only.refl _ _) ?_
            simp only [Act.put, List.setIfInBounds_toArray, List.set_cons_zero, List.set_cons_succ]
            refine wpN_take (i := 18) (d := some 123) rfl rfl (by kernel_rfl) (by kernel_rfl) (by kernel_rfl) (fun _ _ _ h => h) (sure_value (v := .bool true) (by rfl) (fun v1 h1 => by first | rfl | (go_simp; done) | (go_simp; intro h9; exact absurd h9 (by omega)) | (go_simp; assumption))) (Only.refl _ _) ?_
            simp only [Act.put, List.setIfInBounds_toArray, List.set_cons_zero, List.set_cons_succ]
            refine wpN_take (i := 19) (d := some 124) rfl rfl (by kernel_rfl) (by kernel_rfl) (by kernel_rfl) (fun _ _ _ h => h) (sure_value (v := .bool true) (by rfl) (fun v1 h1 => by first | rfl | (go_simp; done) | (go_simp; intro h9; exact absurd h9 (by omega)) | (go_simp; assumption))) (Only.refl _ _) ?_
            simp only [Act.put, List.setIfInBounds_toArray, List.set_cons_zero, List.set_cons_succ]
            refine wpN_take (i := 20) (d := some 125) rfl rfl (by kernel_rfl) (by kernel_rfl) (by kernel_rfl) (fun _ _ _ h => h) (sure_value (v := .bool true) (by rfl) (fun v1 h1 => by first | rfl | (go_simp; done) | (go_simp; intro h9; exact absurd h9 (by omega)) | (go_simp; assumption))) (Only.refl _ _) ?_
            simp only [Act.put, List.setIfInBounds_toArray, List.set_cons_zero, List.set_cons_succ]
            refine wpN_take (i := 21) (d := some 126) rfl rfl (by kernel_rfl) (by kernel_rfl) (by kernel_rfl) (fun _ _ _ h => h) (sure_call (v := .bool true) (fun w' h' => awake_run w' (TB.out.noth (OW.out.tr (Only.undrew h')))) (by rfl) (fun _ => by go_simp)) (Only.refl _ _) ?_
            simp only [Act.put, List.setIfInBounds_toArray, List.set_cons_zero, List.set_cons_succ]
            refine wpN_take (i := 22) (d := some 127) rfl rfl (by kernel_rfl) (by kernel_rfl) (by kernel_rfl) (fun _ _ _ h => h) (sure_value (v := .bool true) (by rfl) (fun v1 h1 => by first | rfl | (go_simp; done) | (go_simp; intro h9; exact absurd h9 (by omega)) | (go_simp; assumption))) (Only.refl _ _) ?_
            simp only [Act.put, List.setIfInBounds_toArray, List.set_cons_zero, List.set_cons_succ]
            refine wpN_take (i := 23) (d := some 6) rfl rfl (by kernel_rfl) (by kernel_rfl) (by kernel_rfl) (fun _ _ _ h => h) (sure_value (v := .bool true) (by rfl) (fun v1 h1 => by first | rfl | (go_simp; done) | (go_simp; intro h9; exact absurd h9 (by omega)) | (go_simp; assumption))) (Only.refl _ _) ?_
            simp only [Act.put, List.setIfInBounds_toArray, List.set_cons_zero, List.set_cons_succ]
            refine wpN_done (by kernel_rfl) (fun wz ho => ?_) _
            have OZ := Lib.hid (OW.out.tr (Only.undrew ho))
            clear ho
            go_wp2
            go_ret
            exact ⟨rfl, OZ.out⟩
end Go.Proofs.YtokgignmdgejoaaDoor
