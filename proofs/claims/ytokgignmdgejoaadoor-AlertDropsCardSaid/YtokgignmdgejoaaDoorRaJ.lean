/- The walk of AlertDrops. -/
import Derived.Test.YtokgignmdgejoaaDoorRaH
namespace Go.Proofs.YtokgignmdgejoaaDoor
open Go.RowKit Go.Lib
set_option linter.unusedVariables false
set_option linter.unusedSimpArgs false
set_option maxRecDepth 100000
attribute [local go_sem ↓] Go.wp_at_zero Go.wp_at_succ

set_option maxHeartbeats 16000000 in
theorem drops_walk (A : Option Addr) (n c : Nat) (xs : List Qc) (now : Int) (w : World) (hx : QsAt w (fun k => k < w.heap.size) A xs) (hl : xs.length = n) (hm : n ≤ 9223372036854775807) (ht : Tab w) :
    Calls Tryd.prog 5 #[.slice A n c, .int .i64 now] w fun e w' => e = .returned (.bool true) ∧ Only Noth w w' := by
  have HX := Lib.hid hx
  have HL := Lib.hid hl
  have TB := Lib.hid ht
  have hn0 : (0 : Int) ≤ n := by omega
  clear hx hl ht
  go_enter Tryd.func5, Tryd.ntmps5
  go_wp2_with fail
  refine (few_run A n c xs w _ HX.out HL.out hm).mono ?_
  rintro e w0 ⟨rfl, ho⟩
  have O0 := Lib.hid ho
  cases hf : fewB xs
  · clear ho hf
    go_wp2_with fail
    refine (awake_run w0 (TB.out.noth O0.out)).mono ?_
    rintro e wz ⟨rfl, ho⟩
    have OZ := Lib.hid (O0.out.tr ho)
    clear ho
    go_wp2
    go_ret
    exact ⟨rfl, OZ.out⟩
  · have FW := Lib.hid (few_at hf)
    have hn80 : (n : Int) ≤ 80 := by have h1 := (few_at hf).1; rw [HL.out] at h1; omega
    clear ho hf
    go_wp2_with fail
    refine (new_al w0).mono ?_
    rintro e w1 ⟨⟨g, b, rfl, ha, hg, hb⟩, ho⟩
    have HA := Lib.hid ha
    have O1 := Lib.hid (O0.out.tr ho)
    have HGB := Lib.hid (show w.heap.size ≤ g ∧ w.heap.size ≤ b from ⟨Nat.le_trans O0.out.size hg, Nat.le_trans O0.out.size hb⟩)
    clear ha ho hg hb
    go_wp2_with (refine wpList_store_whole rfl rfl 40 (.tmp 6) (.tmp 18) rfl w1.heap.size rfl #[.slice none 0 0] rfl 40 _ (Hld.new w1 _ _) rfl (by simp [Value.oneCell']) (by kernel_rfl) ?_; intro w2 gb ho2 hz2; have PA0 := Lib.hid (play_start HA.out O1.out HGB.out.1 HGB.out.2 (((Only.refl Noth w1).alloc _).trans ho2 (fun j hj hl => by have hj : j = w1.heap.size := hj; omega)) gb); clear gb ho2 hz2)
    obtain ⟨p, hp⟩ : ∃ p, w1.heap.size = p := ⟨_, rfl⟩
    rw [hp] at PA0
    simp only [hp]
    clear hp
    go_wp2_with fail
    go_loopw [7] (fun i W => ∃ (k : Nat) (L N : List Al) (A0 : Option Addr) (c0 : Nat), k ≤ n ∧ i = .int .i64 (k : Int) ∧ PlayAt w g b p L N A0 c0 W) (fun i _ => n - (RowKit.intOf i).toNat)
    case atStart => exact ⟨0, [], [], none, 0, Nat.zero_le _, rfl, PA0.out⟩
    case round =>
      obtain ⟨k, L, N, A0, c0, hk, rfl, hpa⟩ := hrel
      have PA := Lib.hid hpa
      have HON := Lib.hid hpa.on
      have HBASE := Lib.hid (Nat.le_refl w.heap.size)
      have hk0 : (0 : Int) ≤ k := by omega
      clear hpa
      by_cases hlt : k < n
      · have hk1 : (k : Int) < n := by omega
        obtain ⟨x, hx⟩ : ∃ x, xs[k]? = some x := ⟨_, List.getElem?_eq_getElem (by rw [HL.out]; omega)⟩
        obtain ⟨qb, qo, qA, hqc⟩ := (HX.out.only HON.out (fun _ _ _ h => h)) (by rw [HL.out]; omega)
        have QX := Lib.hid (hqc k x hx)
        have H12 := Lib.hid (FW.out.2 x (List.mem_of_getElem? hx))
        subst qA
        clear hx hqc
        go_upto_region 7 with fail
        refine wp_region_G (fun j => j = b) (fun j => w.heap.size ≤ j) 10 (by kernel_rfl) ?_
        refine wpG_take (i := 0) (d := some 26) rfl rfl (by kernel_rfl) (by kernel_rfl) (by kernel_rfl) (fun _ _ _ h => h) (sure_value (v := .pointer (some ⟨g, 0, none⟩)) (by rfl) (fun v1 h1 => by first | rfl | (go_simp; done) | (go_simp; intro h9; exact absurd h9 (by omega)) | (go_simp; assumption))) (Only.refl _ _) ?_
        simp only [Act.put, List.setIfInBounds_toArray, List.set_cons_zero, List.set_cons_succ]
        refine wpG_take (i := 1) (d := some 27) rfl rfl (by kernel_rfl) (by kernel_rfl) (by kernel_rfl) (fun _ _ _ h => h) (sure_value (v := .agg #[.slice A0 N.length c0]) (by rfl) (fun v1 h1 => by have m0 := (PA.out.bx.only (Only.undrew h1) (fun h => PA.out.pb h)).cell 0; go_simp)) (Only.refl _ _) ?_
        simp only [Act.put, List.setIfInBounds_toArray, List.set_cons_zero, List.set_cons_succ]
        refine wpG_take (i := 2) (d := some 28) rfl rfl (by kernel_rfl) (by kernel_rfl) (by kernel_rfl) (fun _ _ _ h => h) (sure_value (v := .slice (some ⟨qb, qo, none⟩) n c) (by rfl) (fun v1 h1 => by first | rfl | (go_simp; done) | (go_simp; intro h9; exact absurd h9 (by omega)) | (go_simp; assumption))) (Only.refl _ _) ?_
        simp only [Act.put, List.setIfInBounds_toArray, List.set_cons_zero, List.set_cons_succ]
        refine wpG_take (i := 3) (d := some 29) rfl rfl (by kernel_rfl) (by kernel_rfl) (by kernel_rfl) (fun _ _ _ h => h) (sure_value (v := .int .i64 (k : Int)) (by rfl) (fun v1 h1 => by first | rfl | (go_simp; done) | (go_simp; intro h9; exact absurd h9 (by omega)) | (go_simp; assumption))) (Only.refl _ _) ?_
        simp only [Act.put, List.setIfInBounds_toArray, List.set_cons_zero, List.set_cons_succ]
        refine wpG_take (i := 4) (d := some 30) rfl rfl (by kernel_rfl) (by kernel_rfl) (by kernel_rfl) (fun _ _ _ h => h) (sure_value (v := .pointer (some ⟨qb, qo + k * 5, none⟩)) (by rfl) (fun v1 h1 => by first | rfl | (go_simp; done) | (go_simp; intro h9; exact absurd h9 (by omega)) | (go_simp; assumption))) (Only.refl _ _) ?_
        simp only [Act.put, List.setIfInBounds_toArray, List.set_cons_zero, List.set_cons_succ]
        refine wpG_take (i := 5) (d := some 31) rfl rfl (by kernel_rfl) (by kernel_rfl) (by kernel_rfl) (fun _ _ _ h => h) (sure_value (v := .agg x.arr) (by rfl) (fun v1 h1 => by have hq := QX.out.only (Only.undrew h1) (fun j hj _ e => by have hj : j < w.heap.size := hj; have e : j = b := e; have := PA.out.lo.2.1; have := HBASE.out; omega); have c0 := hq.c0; have c1 := hq.c1; have c2 := hq.c2; have c3 := hq.c3; have c4 := hq.c4; go_simp)) (Only.refl _ _) ?_
        simp only [Act.put, List.setIfInBounds_toArray, List.set_cons_zero, List.set_cons_succ]
        refine wpG_call (i := 6) (d := some 32) (fun v w1 w' => DoRes g b (fun j => j ≠ b ∧ j ≠ p) v w1 w') (fun w3 h3 => (do_run g b (fun j => j ≠ b ∧ j ≠ p) (fun j => j < w.heap.size) A0 c0 L N x w3 (PA.out.st.noth (Only.undrew h3)) (PA.out.rf.noth (Only.undrew h3)) PA.out.tw (fun h => h.1 rfl) (QX.out.ps.noth (Only.undrew h3)) (fun h => by have h : b < w.heap.size := h; have := PA.out.lo.2.1; have := HBASE.out; omega) H12.out QX.out.kd (TB.out.noth (HON.out.tr (Only.undrew h3)))).mono (fun e w' h => ?_)) (by kernel_rfl) rfl rfl (by rfl) (fun _ => by go_simp) ?_
        · obtain ⟨⟨L', A', c', N', rfl, h1, h2, h3'⟩, ho⟩ := h
          exact ⟨_, rfl, ⟨L', A', c', N', rfl, h1, h2, h3'⟩, (h3.mono (fun _ h _ => h.elim)).trans ho (fun _ h _ => h)⟩
        rintro v w3 w4 h3 ⟨L2, A2, c2, N2, rfl, hst, hrf, htw⟩ h4
        simp only [Act.put, List.setIfInBounds_toArray, List.set_cons_zero, List.set_cons_succ]
        refine wpG_take (i := 7) (d := some 25) rfl rfl (by kernel_rfl) (by kernel_rfl) (by kernel_rfl) (fun _ _ _ h => h) (sure_value (v := .tuple #[.agg #[.slice A2 N2.length c2], .bool true]) (by rfl) (fun v1 h1 => by first | rfl | (go_simp; done) | (go_simp; intro h9; exact absurd h9 (by omega)) | (go_simp; assumption))) h4 ?_
        simp only [Act.put, List.setIfInBounds_toArray, List.set_cons_zero, List.set_cons_succ]
        refine wpG_take (i := 8) (d := some 33) rfl rfl (by kernel_rfl) (by kernel_rfl) (by kernel_rfl) (fun _ _ _ h => h) (sure_value (v := .agg #[.slice A2 N2.length c2]) (by rfl) (fun v1 h1 => by first | rfl | (go_simp; done) | (go_simp; intro h9; exact absurd h9 (by omega)) | (go_simp; assumption))) h4 ?_
        simp only [Act.put, List.setIfInBounds_toArray, List.set_cons_zero, List.set_cons_succ]
        refine wpG_free (i := 9) (v := .bool true) (d := some 34) rfl rfl (by kernel_rfl) (by kernel_rfl) (by kernel_rfl) (fun _ _ _ h => h) (.inl ⟨by rfl, fun w hS b K Q he hk => by unfold Oper.wp; rw [he]; exact hk w (Only.refl _ w) hS⟩) h4 ?_
        simp only [Act.put, List.setIfInBounds_toArray, List.set_cons_zero, List.set_cons_succ]
        refine wpG_store (i := 10) (g := p) (cs' := #[.slice A2 N2.length c2]) (by kernel_rfl) rfl (by rfl) rfl rfl rfl rfl ((PA.out.bx.drew).only h4 (fun h => PA.out.pb h)) (fun _ => PA.out.lo.2.2) rfl (by simp [Value.oneCell']) (by kernel_rfl) h4 (fun j hj => by have hj : j = b := hj; subst hj; exact PA.out.lo.2.1) ?_
        intro w5 w6 h5 hb6 h6 h36
        refine wpN_done (by kernel_rfl) (fun w7 ho7 => ?_) _
        have PA2 := Lib.hid (PA.out.next (Only.undrew h3) (Only.undrew h4) hst hrf htw h5 hb6 h6 ho7)
        clear h3 h4 hst hrf htw h5 hb6 h6 h36 ho7
        go_wp2_with fail
        go_roundw
        case rel => exact ⟨k + 1, L2, N2, A2, c2, by omega, by go_num, PA2.out⟩
        case measure => simp [RowKit.intOf]; omega
      · obtain rfl : k = n := by omega
        have hlen := PA.out.st.len
        go_wp2_with fail
        refine (len_al g b L _ PA.out.st).mono ?_
        rintro e w2' ⟨rfl, ho⟩
        have S2 := Lib.hid (PA.out.st.noth ho)
        have O2 := Lib.hid (HON.out.tr ho)
        clear ho
        go_wp2_with fail
        refine (firing_run g b L now _ S2.out).mono ?_
        rintro e w3 ⟨hwa, ho⟩
        obtain ⟨A3, c3, M3, rfl, hm3, hls3, _⟩ := which_ls hwa
        have L3 := Lib.hid (show LsAt w3 (fun j => j ≠ b ∧ w2'.heap.size ≤ j) A3 c3 M3 from hls3.mono (fun j hj _ => by have hj : w2'.heap.size ≤ j := hj; have := S2.out.own.lt; exact ⟨by omega, hj⟩))
        have HM3 := Lib.hid hm3
        have S3 := Lib.hid (S2.out.noth ho)
        have O3 := Lib.hid (O2.out.tr ho)
        clear ho hwa hls3 hm3
        go_wp2_with fail
        refine (drop_run g b L now w3 S3.out).mono ?_
        rintro e w4 ⟨rfl, ha4, ho⟩
        have O4 := Lib.hid (show Only Noth w w4 from O3.out.trans ho (fun j hj hl => by have hj : j = b := hj; have := PA.out.lo.2.1; omega))
        have L4 := Lib.hid (L3.out.only ho (fun j hj e => hj.1 e))
        obtain ⟨L1, hL1⟩ : ∃ L1, L.filter (fun x => !decide (x.en < now)) = L1 := ⟨_, rfl⟩
        rw [hL1] at ha4 ⊢
        have S4 := Lib.hid ha4
        have HL1 := Lib.hid hL1
        have hl1 : L1.length ≤ L.length := by rw [← hL1]; exact List.length_filter_le _ _
        have HEN := Lib.hid (show ∀ x ∈ L1, ¬ x.en < now from fun x hx => by rw [← hL1] at hx; simpa using (List.mem_filter.1 hx).2)
        clear ho ha4 hL1
        obtain ⟨dn, hdn⟩ : ∃ dn : Nat, (L.length : Int) - (L1.length : Nat) = (dn : Int) := ⟨L.length - L1.length, by omega⟩
        rw [hdn]
        go_wp2_with fail
        refine (all_run g b L1 w4 S4.out).mono ?_
        rintro e w5 ⟨hwa, ho⟩
        obtain ⟨A5, c5, M5, rfl, hm5, hls5, _⟩ := which_ls hwa
        have L5 := Lib.hid hls5
        have S5 := Lib.hid (S4.out.noth ho)
        have O5 := Lib.hid (O4.out.tr ho)
        have L35 := Lib.hid (L4.out.noth ho)
        have hlm : M5.length = L1.length := by have := congrArg List.length hm5; simpa using this
        have HE5 := Lib.hid (show ∀ x ∈ M5, ¬ x.en < now from fun x hx => by
          have h1 : x.core ∈ M5.map Al.core := List.mem_map_of_mem hx
          rw [hm5] at h1
          obtain ⟨y, hy, e⟩ := List.mem_map.1 h1
          have e2 : y.en = x.en := congrArg (·.2.2) e
          have := HEN.out y hy
          omega)
        have hm0 : (0 : Int) ≤ M5.length := by omega
        have hm64 : (M5.length : Int) ≤ 64 := by omega
        clear ho hwa hls5 hm5
        go_wp2_with fail
        go_loopw [12] (fun i W => ∃ j : Nat, j ≤ M5.length ∧ i = .int .i64 (j : Int) ∧ Only Noth w5 W) (fun i _ => M5.length - (RowKit.intOf i).toNat)
        case atStart => exact ⟨0, Nat.zero_le _, rfl, Only.refl _ _⟩
        case round =>
          obtain ⟨j, hj, rfl, ho⟩ := hrel
          have OJ := Lib.hid ho
          have hj0 : (0 : Int) ≤ j := by omega
          clear ho
          by_cases hlt2 : j < M5.length
          · obtain ⟨x, hx⟩ : ∃ x, M5[j]? = some x := ⟨_, List.getElem?_eq_getElem hlt2⟩
            obtain ⟨mb, mo, hMA, _, hml, hmc⟩ := (L5.out.noth OJ.out).mem (by omega)
            obtain ⟨_, _, k2⟩ := hmc j x hx
            have hen := HE5.out x (List.mem_of_getElem? hx)
            have hj1 : (j : Int) < M5.length := by omega
            subst hMA
            clear hx hmc hml
            go_wp2_with fail
            go_roundw
            case rel => exact ⟨j + 1, by omega, by go_num, OJ.out⟩
            case measure => simp [RowKit.intOf]; omega
          · obtain rfl : j = M5.length := by omega
            have S6 := Lib.hid (S5.out.noth OJ.out)
            have L36 := Lib.hid (L35.out.noth OJ.out)
            have O6 := Lib.hid (O5.out.tr OJ.out)
            have hsum : ((M5.length : Int) + (dn : Int)) = (L.length : Int) := by omega
            have hdn64 : (dn : Int) ≤ 64 := by omega
            have hdn0 : (0 : Int) ≤ dn := by omega
            have hLL0 : (0 : Int) ≤ L.length := by omega
            have hLL : (L.length : Int) ≤ 64 := by omega
            go_wp2_with fail
            refine (firing_run g b L1 now _ S6.out).mono ?_
            rintro e w7 ⟨hwa, ho⟩
            obtain ⟨A7, c7, M7, rfl, hm7, hls7, _⟩ := which_ls hwa
            have L7 := Lib.hid hls7
            have S7 := Lib.hid (S6.out.noth ho)
            have L37 := Lib.hid (L36.out.noth ho)
            have O7 := Lib.hid (O6.out.tr ho)
            have HF := Lib.hid (show M7.map Al.core = M3.map Al.core by
              rw [hm7, HM3.out, ← HL1.out, List.filter_filter]
              congr 1
              refine List.filter_congr (fun x _ => ?_)
              unfold Al.fires
              by_cases h1 : now < x.en
              · have : ¬ x.en < now := by omega
                simp [this]
              · simp [h1])
            clear ho hwa hls7 hm7
            go_wp2_with fail
            refine (rsames_true L7.out L37.out HF.out).mono ?_
            rintro e w8 ⟨rfl, ho⟩
            have S8 := Lib.hid (S7.out.noth ho)
            have O8 := Lib.hid (O7.out.tr ho)
            clear ho
            go_wp2_with fail
            refine (drop_run g b L1 now w8 S8.out).mono ?_
            rintro e w9 ⟨rfl, _, ho⟩
            have O9 := Lib.hid (show Only Noth w w9 from O8.out.trans ho (fun j hj hl => by have hj : j = b := hj; have := PA.out.lo.2.1; omega))
            have hff : ((L1.length : Int) - ((L1.filter fun x => !decide (x.en < now)).length : Nat)) = 0 := by
              have : L1.filter (fun x => !decide (x.en < now)) = L1 := by
                refine List.filter_eq_self.2 (fun x hx => ?_)
                have := HEN.out x hx
                simp
                omega
              rw [this]
              omega
            rw [hff]
            clear ho hff
            go_wp2_with fail
            refine (awake_run _ (TB.out.noth O9.out)).mono ?_
            rintro e w10 ⟨rfl, ho⟩
            have OZ := Lib.hid (O9.out.tr ho)
            clear ho
            go_wp2
            go_ret
            exact ⟨rfl, OZ.out⟩
end Go.Proofs.YtokgignmdgejoaaDoor
