/- The walk of AlertPlays. -/
import Derived.Test.YtokgignmdgejoaaDoorRaH
namespace Go.Proofs.YtokgignmdgejoaaDoor
open Go.RowKit Go.Lib
set_option linter.unusedVariables false
set_option linter.unusedSimpArgs false
set_option maxRecDepth 100000
attribute [local go_sem ↓] Go.wp_at_zero Go.wp_at_succ

set_option maxHeartbeats 16000000 in
theorem plays_walk (A : Option Addr) (n c : Nat) (xs : List Qc) (now : Int) (w : World) (hx : QsAt w (fun k => k < w.heap.size) A xs) (hl : xs.length = n) (hm : n ≤ 9223372036854775807) (ht : Tab w) :
    Calls Tryd.prog 4 #[.slice A n c, .int .i64 now] w fun e w' => e = .returned (.bool true) ∧ Only Noth w w' := by
  have HX := Lib.hid hx
  have HL := Lib.hid hl
  have TB := Lib.hid ht
  have hn0 : (0 : Int) ≤ n := by omega
  clear hx hl ht
  go_enter Tryd.func4, Tryd.ntmps4
  go_wp2_with fail
  refine (few_run A n c xs w _ HX.out HL.out hm).mono ?_
  rintro e w0 ⟨rfl, ho⟩
  have O0 := Lib.hid ho
  cases hf : fewB xs
  · clear ho hf
    go_wp2_with fail
    refine (awake_run w0 (TB.out.noth O0.out)).mono ?_
    rintro e w1 ⟨rfl, ho⟩
    have O1 := Lib.hid (O0.out.tr ho)
    clear ho
    go_wp2
    go_ret
    exact ⟨rfl, O1.out⟩
  · have FW := Lib.hid (few_at hf)
    have hn80 : (n : Int) ≤ 80 := by have h1 := (few_at hf).1; rw [HL.out] at h1; omega
    clear ho hf
    go_wp2_with fail
    refine (new_al w0).mono ?_
    rintro e w1 ⟨⟨g, b, rfl, ha, hg, hb⟩, ho⟩
    have HA := Lib.hid ha
    have O1 := Lib.hid (O0.out.tr ho)
    have HGB := Lib.hid (show w.heap.size ≤ g ∧ w.heap.size ≤ b from ⟨Nat.le_trans O0.out.size hg, Nat.le_trans O0.out.size hb⟩)
    clear ha ho hg hb
    go_wp2_with (refine wpList_store_whole rfl rfl 40 (.tmp 6) (.tmp 14) rfl w1.heap.size rfl #[.slice none 0 0] rfl 40 _ (Hld.new w1 _ _) rfl (by simp [Value.oneCell']) (by kernel_rfl) ?_; intro w2 gb ho2 hz2; have PA0 := Lib.hid (play_start HA.out O1.out HGB.out.1 HGB.out.2 (((Only.refl Noth w1).alloc _).trans ho2 (fun j hj hl => by have hj : j = w1.heap.size := hj; omega)) gb); clear gb ho2 hz2)
    obtain ⟨p, hp⟩ : ∃ p, w1.heap.size = p := ⟨_, rfl⟩
    rw [hp] at PA0
    simp only [hp]
    clear hp
    go_wp2_with fail
    go_loopw [7, 8] (fun _ i W => ∃ (k : Nat) (L N : List Al) (A0 : Option Addr) (c0 : Nat), k ≤ n ∧ i = .int .i64 (k : Int) ∧ PlayAt w g b p L N A0 c0 W) (fun _ i _ => n - (RowKit.intOf i).toNat)
    case atStart => exact ⟨0, [], [], none, 0, Nat.zero_le _, rfl, PA0.out⟩
    case round =>
      obtain ⟨k, L, N, A0, c0, hk, rfl, hpa⟩ := hrel
      have PA := Lib.hid hpa
      have HON := Lib.hid hpa.on
      have HBASE := Lib.hid (Nat.le_refl w.heap.size)
      have hk0 : (0 : Int) ≤ k := by omega
      clear hpa
      by_cases hlt : k < n
      · have hk1 : (k : Int) < n := by omega
        obtain ⟨x, hx⟩ : ∃ x, xs[k]? = some x := ⟨_, List.getElem?_eq_getElem (by rw [HL.out]; omega)⟩
        obtain ⟨qb, qo, qA, hqc⟩ := (HX.out.only HON.out (fun _ _ _ h => h)) (by rw [HL.out]; omega)
        have QX := Lib.hid (hqc k x hx)
        have H12 := Lib.hid (FW.out.2 x (List.mem_of_getElem? hx))
        subst qA
        clear hx hqc
        go_upto_region 8 with fail
        refine wp_region_G (fun j => j = b) (fun j => w.heap.size ≤ j) 10 (by kernel_rfl) ?_
        refine wpG_take (i := 0) (d := some 22) rfl rfl (by kernel_rfl) (by kernel_rfl) (by kernel_rfl) (fun _ _ _ h => h) (sure_value (v := .pointer (some ⟨g, 0, none⟩)) (by rfl) (fun v1 h1 => by first | rfl | (go_simp; done) | (go_simp; intro h9; exact absurd h9 (by omega)) | (go_simp; assumption))) (Only.refl _ _) ?_
        simp only [Act.put, List.setIfInBounds_toArray, List.set_cons_zero, List.set_cons_succ]
        refine wpG_take (i := 1) (d := some 23) rfl rfl (by kernel_rfl) (by kernel_rfl) (by kernel_rfl) (fun _ _ _ h => h) (sure_value (v := .agg #[.slice A0 N.length c0]) (by rfl) (fun v1 h1 => by have m0 := (PA.out.bx.only (Only.undrew h1) (fun h => PA.out.pb h)).cell 0; go_simp)) (Only.refl _ _) ?_
        simp only [Act.put, List.setIfInBounds_toArray, List.set_cons_zero, List.set_cons_succ]
        refine wpG_take (i := 2) (d := some 24) rfl rfl (by kernel_rfl) (by kernel_rfl) (by kernel_rfl) (fun _ _ _ h => h) (sure_value (v := .slice (some ⟨qb, qo, none⟩) n c) (by rfl) (fun v1 h1 => by first | rfl | (go_simp; done) | (go_simp; intro h9; exact absurd h9 (by omega)) | (go_simp; assumption))) (Only.refl _ _) ?_
        simp only [Act.put, List.setIfInBounds_toArray, List.set_cons_zero, List.set_cons_succ]
        refine wpG_take (i := 3) (d := some 25) rfl rfl (by kernel_rfl) (by kernel_rfl) (by kernel_rfl) (fun _ _ _ h => h) (sure_value (v := .int .i64 (k : Int)) (by rfl) (fun v1 h1 => by first | rfl | (go_simp; done) | (go_simp; intro h9; exact absurd h9 (by omega)) | (go_simp; assumption))) (Only.refl _ _) ?_
        simp only [Act.put, List.setIfInBounds_toArray, List.set_cons_zero, List.set_cons_succ]
        refine wpG_take (i := 4) (d := some 26) rfl rfl (by kernel_rfl) (by kernel_rfl) (by kernel_rfl) (fun _ _ _ h => h) (sure_value (v := .pointer (some ⟨qb, qo + k * 5, none⟩)) (by rfl) (fun v1 h1 => by first | rfl | (go_simp; done) | (go_simp; intro h9; exact absurd h9 (by omega)) | (go_simp; assumption))) (Only.refl _ _) ?_
        simp only [Act.put, List.setIfInBounds_toArray, List.set_cons_zero, List.set_cons_succ]
        refine wpG_take (i := 5) (d := some 27) rfl rfl (by kernel_rfl) (by kernel_rfl) (by kernel_rfl) (fun _ _ _ h => h) (sure_value (v := .agg x.arr) (by rfl) (fun v1 h1 => by have hq := QX.out.only (Only.undrew h1) (fun j hj _ e => by have hj : j < w.heap.size := hj; have e : j = b := e; have := PA.out.lo.2.1; have := HBASE.out; omega); have c0 := hq.c0; have c1 := hq.c1; have c2 := hq.c2; have c3 := hq.c3; have c4 := hq.c4; go_simp)) (Only.refl _ _) ?_
        simp only [Act.put, List.setIfInBounds_toArray, List.set_cons_zero, List.set_cons_succ]
        refine wpG_call (i := 6) (d := some 28) (fun v w1 w' => DoRes g b (fun j => j ≠ b ∧ j ≠ p) v w1 w') (fun w3 h3 => (do_run g b (fun j => j ≠ b ∧ j ≠ p) (fun j => j < w.heap.size) A0 c0 L N x w3 (PA.out.st.noth (Only.undrew h3)) (PA.out.rf.noth (Only.undrew h3)) PA.out.tw (fun h => h.1 rfl) (QX.out.ps.noth (Only.undrew h3)) (fun h => by have h : b < w.heap.size := h; have := PA.out.lo.2.1; have := HBASE.out; omega) H12.out QX.out.kd (TB.out.noth (HON.out.tr (Only.undrew h3)))).mono (fun e w' h => ?_)) (by kernel_rfl) rfl rfl (by rfl) (fun _ => by go_simp) ?_
        · obtain ⟨⟨L', A', c', N', rfl, h1, h2, h3'⟩, ho⟩ := h
          exact ⟨_, rfl, ⟨L', A', c', N', rfl, h1, h2, h3'⟩, (h3.mono (fun _ h _ => h.elim)).trans ho (fun _ h _ => h)⟩
        rintro v w3 w4 h3 ⟨L2, A2, c2, N2, rfl, hst, hrf, htw⟩ h4
        simp only [Act.put, List.setIfInBounds_toArray, List.set_cons_zero, List.set_cons_succ]
        refine wpG_take (i := 7) (d := some 21) rfl rfl (by kernel_rfl) (by kernel_rfl) (by kernel_rfl) (fun _ _ _ h => h) (sure_value (v := .tuple #[.agg #[.slice A2 N2.length c2], .bool true]) (by rfl) (fun v1 h1 => by first | rfl | (go_simp; done) | (go_simp; intro h9; exact absurd h9 (by omega)) | (go_simp; assumption))) h4 ?_
        simp only [Act.put, List.setIfInBounds_toArray, List.set_cons_zero, List.set_cons_succ]
        refine wpG_take (i := 8) (d := some 29) rfl rfl (by kernel_rfl) (by kernel_rfl) (by kernel_rfl) (fun _ _ _ h => h) (sure_value (v := .agg #[.slice A2 N2.length c2]) (by rfl) (fun v1 h1 => by first | rfl | (go_simp; done) | (go_simp; intro h9; exact absurd h9 (by omega)) | (go_simp; assumption))) h4 ?_
        simp only [Act.put, List.setIfInBounds_toArray, List.set_cons_zero, List.set_cons_succ]
        refine wpG_free (i := 9) (v := .bool true) (d := some 30) rfl rfl (by kernel_rfl) (by kernel_rfl) (by kernel_rfl) (fun _ _ _ h => h) (.inl ⟨by rfl, fun w hS b K Q he hk => by unfold Oper.wp; rw [he]; exact hk w (Only.refl _ w) hS⟩) h4 ?_
        simp only [Act.put, List.setIfInBounds_toArray, List.set_cons_zero, List.set_cons_succ]
        refine wpG_store (i := 10) (g := p) (cs' := #[.slice A2 N2.length c2]) (by kernel_rfl) rfl (by rfl) rfl rfl rfl rfl ((PA.out.bx.drew).only h4 (fun h => PA.out.pb h)) (fun _ => PA.out.lo.2.2) rfl (by simp [Value.oneCell']) (by kernel_rfl) h4 (fun j hj => by have hj : j = b := hj; subst hj; exact PA.out.lo.2.1) ?_
        intro w5 w6 h5 hb6 h6 h36
        refine wpN_take (i := 11) (d := some 7) rfl rfl (by kernel_rfl) (by kernel_rfl) (by kernel_rfl) (fun _ _ _ h => h) (sure_value (v := .bool true) (by rfl) (fun v1 h1 => by first | rfl | (go_simp; done) | (go_simp; intro h9; exact absurd h9 (by omega)) | (go_simp; assumption))) h36 ?_
        simp only [Act.put, List.setIfInBounds_toArray, List.set_cons_zero, List.set_cons_succ]
        refine wpN_done (by kernel_rfl) (fun w7 ho7 => ?_) _
        have PA2 := Lib.hid (PA.out.next (Only.undrew h3) (Only.undrew h4) hst hrf htw h5 hb6 h6 ho7)
        clear h3 h4 hst hrf htw h5 hb6 h6 h36 ho7
        have m0 := PA2.out.bx.cell 0
        go_wp2_with fail
        refine (same_run g b _ A2 c2 L2 N2 now w7 PA2.out.st PA2.out.rf PA2.out.tw).mono ?_
        rintro e w8 ⟨rfl, ho⟩
        have PA3 := Lib.hid (PA2.out.noth ho)
        clear ho m0
        go_wp2_with fail
        go_roundw
        case rel => exact ⟨k + 1, L2, N2, A2, c2, by omega, by go_num, PA3.out⟩
        case measure => simp [RowKit.intOf]; omega
      · obtain rfl : k = n := by omega
        go_wp2_with fail
        refine (awake_run _ (TB.out.noth HON.out)).mono ?_
        rintro e w8 ⟨rfl, ho⟩
        have OF := Lib.hid (HON.out.tr ho)
        clear ho
        go_wp2
        go_ret
        exact ⟨rfl, OF.out⟩
end Go.Proofs.YtokgignmdgejoaaDoor
