/- The walk of AlertApart. -/
import Derived.Test.YtokgignmdgejoaaDoorRaL
namespace Go.Proofs.YtokgignmdgejoaaDoor
open Go.RowKit Go.Lib
set_option linter.unusedVariables false
set_option linter.unusedSimpArgs false
set_option maxRecDepth 100000
attribute [local go_sem ↓] Go.wp_at_zero Go.wp_at_succ

theorem ls_cells {W : World} {S : Nat → Prop} {A : Option Addr} {c : Nat} {N : List Al} (h : LsAt W S A c N) {k : Nat} {x : Al} (hx : N[k]? = some x) : ∃ b o, A = some ⟨b, o, none⟩ ∧ (∀ W', Only Noth W W' → W'.cell? ⟨b, o + k * 3, none⟩ = some (.slice (some ⟨x.blk, 0, none⟩) x.ls.length x.cap) ∧ W'.cell? ⟨b, o + k * 3 + 1, none⟩ = some (.int .i64 x.st) ∧ W'.cell? ⟨b, o + k * 3 + 2, none⟩ = some (.int .i64 x.en)) ∧ PsAt W S (some ⟨x.blk, 0, none⟩) x.cap x.ls := by
  obtain ⟨b, o, hA, _, hb, hc⟩ := h.mem (by have := (List.getElem?_eq_some_iff.1 hx).1; omega)
  refine ⟨b, o, hA, fun W' ho => ?_, h.labs x (List.mem_of_getElem? hx)⟩
  obtain ⟨c0, c1, c2⟩ := hc k x hx
  exact ⟨(ho.cell (p := ⟨b, o + k * 3, none⟩) hb (fun h => h)).trans c0, (ho.cell (p := ⟨b, o + k * 3 + 1, none⟩) hb (fun h => h)).trans c1, (ho.cell (p := ⟨b, o + k * 3 + 2, none⟩) hb (fun h => h)).trans c2⟩
set_option maxHeartbeats 16000000 in
theorem apart_walk (A LA : Option Addr) (n c lc : Nat) (xs : List Qc) (l : List Pr) (st en : Int) (w : World) (hx : QsAt w (fun k => k < w.heap.size) A xs) (hl : xs.length = n) (hm : n ≤ 9223372036854775807) (hp : PsAt w (fun k => k < w.heap.size) LA lc l) (ht : Tab w) :
    Calls Tryd.prog 6 #[.slice A n c, .agg #[.slice LA l.length lc, .int .i64 st, .int .i64 en]] w fun e w' => e = .returned (.bool true) ∧ Only Noth w w' := by
  have HX := Lib.hid hx
  have HL := Lib.hid hl
  have HP := Lib.hid hp
  have TB := Lib.hid ht
  have hn0 : (0 : Int) ≤ n := by omega
  have hll0 : (0 : Int) ≤ l.length := by omega
  have hllm : (l.length : Int) ≤ 9223372036854775807 := by have := hp.cap; have := hp.top; omega
  obtain ⟨W0, hW0⟩ : ∃ W, w.alloc (.cells #[.slice LA l.length lc, .int .i64 st, .int .i64 en] 27) = W := ⟨_, rfl⟩
  have B3 := Lib.hid (show Hld W0 w.heap.size 27 #[.slice LA l.length lc, .int .i64 st, .int .i64 en] by rw [← hW0]; exact Hld.new w _ _)
  have OB := Lib.hid (show Only Noth w W0 by rw [← hW0]; exact (Only.refl Noth w).alloc _)
  clear hx hl ht hp
  go_enter Tryd.func6, Tryd.ntmps6
  go_wp2_with fail
  refine (few_run A n c xs W0 _ (HX.out.only OB.out (fun _ _ _ h => h)) HL.out hm).mono ?_
  rintro e w0 ⟨rfl, ho⟩
  have O0 := Lib.hid ho
  have OA0 := Lib.hid (OB.out.tr ho)
  have m3 := (B3.out.only ho (fun h => h)).cell 0
  cases hf : fewB xs
  · clear ho hf hW0
    go_wp2_with fail
    refine (awake_run w0 (TB.out.noth OA0.out)).mono ?_
    rintro e wz ⟨rfl, ho⟩
    have OZ := Lib.hid (OA0.out.tr ho)
    clear ho
    go_wp2
    go_ret
    exact ⟨rfl, OZ.out⟩
  · have FW := Lib.hid (few_at hf)
    have hn80 : (n : Int) ≤ 80 := by have h1 := (few_at hf).1; rw [HL.out] at h1; omega
    clear ho hf hW0
    by_cases hl12 : (12 : Int) < l.length
    · skip
      go_wp2_with fail
      refine (awake_run w0 (TB.out.noth OA0.out)).mono ?_
      rintro e wz ⟨rfl, ho⟩
      have OZ := Lib.hid (OA0.out.tr ho)
      clear ho
      go_wp2
      go_ret
      exact ⟨rfl, OZ.out⟩
    · skip
      go_wp2_with fail
      refine (new_al w0).mono ?_
      rintro e w1 ⟨⟨g, b, rfl, ha, hg, hb⟩, ho⟩
      have HA := Lib.hid ha
      have O1 := Lib.hid (O0.out.tr ho)
      have HGB := Lib.hid (show W0.heap.size ≤ g ∧ W0.heap.size ≤ b from ⟨Nat.le_trans O0.out.size hg, Nat.le_trans O0.out.size hb⟩)
      clear ha ho hg hb
      go_wp2_with (refine wpList_store_whole rfl rfl 40 (.tmp 6) (.tmp 24) rfl w1.heap.size rfl #[.slice none 0 0] rfl 40 _ (Hld.new w1 _ _) rfl (by simp [Value.oneCell']) (by kernel_rfl) ?_; intro w2 gb ho2 hz2; have PA0 := Lib.hid (play_start HA.out O1.out HGB.out.1 HGB.out.2 (((Only.refl Noth w1).alloc _).trans ho2 (fun j hj hl => by have hj : j = w1.heap.size := hj; omega)) gb); clear gb ho2 hz2)
      obtain ⟨p, hp⟩ : ∃ p, w1.heap.size = p := ⟨_, rfl⟩
      rw [hp] at PA0
      simp only [hp]
      clear hp
      go_wp2_with fail
      go_loopw [7] (fun i W => ∃ (k : Nat) (L N : List Al) (A0 : Option Addr) (c0 : Nat), k ≤ n ∧ i = .int .i64 (k : Int) ∧ PlayAt W0 g b p L N A0 c0 W) (fun i _ => n - (RowKit.intOf i).toNat)
      case atStart => exact ⟨0, [], [], none, 0, Nat.zero_le _, rfl, PA0.out⟩
      case round =>
        obtain ⟨k, L, N, A0, c0, hk, rfl, hpa⟩ := hrel
        have PA := Lib.hid hpa
        have HON := Lib.hid (OB.out.tr hpa.on)
        have HBASE := Lib.hid OB.out.size
        have hk0 : (0 : Int) ≤ k := by omega
        clear hpa
        by_cases hlt : k < n
        · have hk1 : (k : Int) < n := by omega
          obtain ⟨x, hx⟩ : ∃ x, xs[k]? = some x := ⟨_, List.getElem?_eq_getElem (by rw [HL.out]; omega)⟩
          obtain ⟨qb, qo, qA, hqc⟩ := (HX.out.only HON.out (fun _ _ _ h => h)) (by rw [HL.out]; omega)
          have QX := Lib.hid (hqc k x hx)
          have H12 := Lib.hid (FW.out.2 x (List.mem_of_getElem? hx))
          subst qA
          clear hx hqc
          go_upto_region 7 with fail
          refine wp_region_G (fun j => j = b) (fun j => W0.heap.size ≤ j) 10 (by kernel_rfl) ?_
          refine wpG_take (i := 0) (d := some 32) rfl rfl (by kernel_rfl) (by kernel_rfl) (by kernel_rfl) (fun _ _ _ h => h) (sure_value (v := .pointer (some ⟨g, 0, none⟩)) (by rfl) (fun v1 h1 => by first | rfl | (go_simp; done) | (go_simp; intro h9; exact absurd h9 (by omega)) | (go_simp; assumption))) (Only.refl _ _) ?_
          simp only [Act.put, List.setIfInBounds_toArray, List.set_cons_zero, List.set_cons_succ]
          refine wpG_take (i := 1) (d := some 33) rfl rfl (by kernel_rfl) (by kernel_rfl) (by kernel_rfl) (fun _ _ _ h => h) (sure_value (v := .agg #[.slice A0 N.length c0]) (by rfl) (fun v1 h1 => by have m0 := (PA.out.bx.only (Only.undrew h1) (fun h => PA.out.pb h)).cell 0; go_simp)) (Only.refl _ _) ?_
          simp only [Act.put, List.setIfInBounds_toArray, List.set_cons_zero, List.set_cons_succ]
          refine wpG_take (i := 2) (d := some 34) rfl rfl (by kernel_rfl) (by kernel_rfl) (by kernel_rfl) (fun _ _ _ h => h) (sure_value (v := .slice (some ⟨qb, qo, none⟩) n c) (by rfl) (fun v1 h1 => by first | rfl | (go_simp; done) | (go_simp; intro h9; exact absurd h9 (by omega)) | (go_simp; assumption))) (Only.refl _ _) ?_
          simp only [Act.put, List.setIfInBounds_toArray, List.set_cons_zero, List.set_cons_succ]
          refine wpG_take (i := 3) (d := some 35) rfl rfl (by kernel_rfl) (by kernel_rfl) (by kernel_rfl) (fun _ _ _ h => h) (sure_value (v := .int .i64 (k : Int)) (by rfl) (fun v1 h1 => by first | rfl | (go_simp; done) | (go_simp; intro h9; exact absurd h9 (by omega)) | (go_simp; assumption))) (Only.refl _ _) ?_
          simp only [Act.put, List.setIfInBounds_toArray, List.set_cons_zero, List.set_cons_succ]
          refine wpG_take (i := 4) (d := some 36) rfl rfl (by kernel_rfl) (by kernel_rfl) (by kernel_rfl) (fun _ _ _ h => h) (sure_value (v := .pointer (some ⟨qb, qo + k * 5, none⟩)) (by rfl) (fun v1 h1 => by first | rfl | (go_simp; done) | (go_simp; intro h9; exact absurd h9 (by omega)) | (go_simp; assumption))) (Only.refl _ _) ?_
          simp only [Act.put, List.setIfInBounds_toArray, List.set_cons_zero, List.set_cons_succ]
          refine wpG_take (i := 5) (d := some 37) rfl rfl (by kernel_rfl) (by kernel_rfl) (by kernel_rfl) (fun _ _ _ h => h) (sure_value (v := .agg x.arr) (by rfl) (fun v1 h1 => by have hq := QX.out.only (Only.undrew h1) (fun j hj _ e => by have hj : j < w.heap.size := hj; have e : j = b := e; have := PA.out.lo.2.1; have := HBASE.out; omega); have c0 := hq.c0; have c1 := hq.c1; have c2 := hq.c2; have c3 := hq.c3; have c4 := hq.c4; go_simp)) (Only.refl _ _) ?_
          simp only [Act.put, List.setIfInBounds_toArray, List.set_cons_zero, List.set_cons_succ]
          refine wpG_call (i := 6) (d := some 38) (fun v w1 w' => DoRes g b (fun j => j ≠ b ∧ j ≠ p) v w1 w') (fun w3 h3 => (do_run g b (fun j => j ≠ b ∧ j ≠ p) (fun j => j < w.heap.size) A0 c0 L N x w3 (PA.out.st.noth (Only.undrew h3)) (PA.out.rf.noth (Only.undrew h3)) PA.out.tw (fun h => h.1 rfl) (QX.out.ps.noth (Only.undrew h3)) (fun h => by have h : b < w.heap.size := h; have := PA.out.lo.2.1; have := HBASE.out; omega) H12.out QX.out.kd (TB.out.noth (HON.out.tr (Only.undrew h3)))).mono (fun e w' h => ?_)) (by kernel_rfl) rfl rfl (by rfl) (fun _ => by go_simp) ?_
          · obtain ⟨⟨L', A', c', N', rfl, h1, h2, h3'⟩, ho⟩ := h
            exact ⟨_, rfl, ⟨L', A', c', N', rfl, h1, h2, h3'⟩, (h3.mono (fun _ h _ => h.elim)).trans ho (fun _ h _ => h)⟩
          rintro v w3 w4 h3 ⟨L2, A2, c2, N2, rfl, hst, hrf, htw⟩ h4
          simp only [Act.put, List.setIfInBounds_toArray, List.set_cons_zero, List.set_cons_succ]
          refine wpG_take (i := 7) (d := some 31) rfl rfl (by kernel_rfl) (by kernel_rfl) (by kernel_rfl) (fun _ _ _ h => h) (sure_value (v := .tuple #[.agg #[.slice A2 N2.length c2], .bool true]) (by rfl) (fun v1 h1 => by first | rfl | (go_simp; done) | (go_simp; intro h9; exact absurd h9 (by omega)) | (go_simp; assumption))) h4 ?_
          simp only [Act.put, List.setIfInBounds_toArray, List.set_cons_zero, List.set_cons_succ]
          refine wpG_take (i := 8) (d := some 39) rfl rfl (by kernel_rfl) (by kernel_rfl) (by kernel_rfl) (fun _ _ _ h => h) (sure_value (v := .agg #[.slice A2 N2.length c2]) (by rfl) (fun v1 h1 => by first | rfl | (go_simp; done) | (go_simp; intro h9; exact absurd h9 (by omega)) | (go_simp; assumption))) h4 ?_
          simp only [Act.put, List.setIfInBounds_toArray, List.set_cons_zero, List.set_cons_succ]
          refine wpG_free (i := 9) (v := .bool true) (d := some 40) rfl rfl (by kernel_rfl) (by kernel_rfl) (by kernel_rfl) (fun _ _ _ h => h) (.inl ⟨by rfl, fun w hS b K Q he hk => by unfold Oper.wp; rw [he]; exact hk w (Only.refl _ w) hS⟩) h4 ?_
          simp only [Act.put, List.setIfInBounds_toArray, List.set_cons_zero, List.set_cons_succ]
          refine wpG_store (i := 10) (g := p) (cs' := #[.slice A2 N2.length c2]) (by kernel_rfl) rfl (by rfl) rfl rfl rfl rfl ((PA.out.bx.drew).only h4 (fun h => PA.out.pb h)) (fun _ => PA.out.lo.2.2) rfl (by simp [Value.oneCell']) (by kernel_rfl) h4 (fun j hj => by have hj : j = b := hj; subst hj; exact PA.out.lo.2.1) ?_
          intro w5 w6 h5 hb6 h6 h36
          refine wpN_done (by kernel_rfl) (fun w7 ho7 => ?_) _
          have PA2 := Lib.hid (PA.out.next (Only.undrew h3) (Only.undrew h4) hst hrf htw h5 hb6 h6 ho7)
          clear h3 h4 hst hrf htw h5 hb6 h6 h36 ho7
          go_wp2_with fail
          go_roundw
          case rel => exact ⟨k + 1, L2, N2, A2, c2, by omega, by go_num, PA2.out⟩
          case measure => simp [RowKit.intOf]; omega
        · obtain rfl : k = n := by omega
          have B3r := Lib.hid (B3.out.only PA.out.on (fun h => h))
          have hlen := PA.out.st.len
          clear PA0 m3
          go_wp2_with fail
          refine (all_run g b L _ PA.out.st).mono ?_
          rintro e w3 ⟨hwa, ho⟩
          obtain ⟨A1, c1, N1, rfl, hm1, hls1, _⟩ := which_ls hwa
          have S3 := Lib.hid (PA.out.st.noth ho)
          have O3 := Lib.hid (HON.out.tr ho)
          have B33 := Lib.hid (B3r.out.only ho (fun h => h))
          have zr := PA.out.st.own.lt
          have W1 := Lib.hid (show LsAt w3 (fun j => j ≠ b) A1 c1 N1 from hls1.mono (fun j hj _ => by intro e; have hj : _ ≤ j := hj; omega))
          have HM1 := Lib.hid hm1
          have z3 := B33.out.lt
          have m0 := B33.out.cell 0
          have m1 := B33.out.cell 1
          have m2 := B33.out.cell 2
          clear ho hwa hls1 hm1
          go_wp2_with fail
          refine (aput_run g b L l st en LA lc _ w3 S3.out (HP.out.noth O3.out) (TB.out.noth O3.out)).mono ?_
          rintro e w4 ⟨rfl, ⟨L', hL', hno, hyes⟩, ho⟩
          obtain ⟨er, her⟩ : ∃ er, aerr L l st en = er := ⟨_, rfl⟩
          rw [her]
          obtain ⟨eb, heb⟩ : ∃ eb, (er == 0) = eb := ⟨_, rfl⟩
          have HPF := Lib.hid (show (L'.map Al.core).filter (fun t => !pass l eb t) = (L.map Al.core).filter (fun t => !pass l eb t) by
            rw [← heb]
            rw [her] at hno hyes
            exact pass_filter PA.out.st.ok her hno (fun h => by obtain ⟨blk, cap, h1, _⟩ := hyes h; exact ⟨blk, cap, h1⟩))
          have S4 := Lib.hid hL'
          have hbw := PA.out.lo.2.1
          have hbw0 := OB.out.size
          have hb3 : w.heap.size < b := by have := B3.out.lt; omega
          have O4 := Lib.hid (show Only Noth w w4 from O3.out.trans ho (fun j hj hl => by have hj : j = b := hj; omega))
          have B34 := Lib.hid (B33.out.only ho (fun e => by have e : w.heap.size = b := e; omega))
          have W14 := Lib.hid (W1.out.only ho (fun j hj e => hj e))
          have hlen' := hL'.len
          clear ho hL' hno hyes her m0 m1 m2
          go_wp2_with fail
          refine (all_run g b L' w4 S4.out).mono ?_
          rintro e w5 ⟨hwa, ho⟩
          obtain ⟨A2, c2, N2, rfl, hm2, hls2, _⟩ := which_ls hwa
          have W2 := Lib.hid hls2
          have W15 := Lib.hid (W14.out.noth ho)
          have O5 := Lib.hid (O4.out.tr ho)
          have B35 := Lib.hid (B34.out.only ho (fun h => h))
          have hn1 : N1.length = L.length := by have := congrArg List.length HM1.out; simpa using this
          have hn2 : N2.length = L'.length := by have := congrArg List.length hm2; simpa using this
          have HX1 := Lib.hid HM1.out
          have HX2 := Lib.hid hm2
          have hn1m : (N1.length : Int) ≤ 64 := by omega
          have hn2m : (N2.length : Int) ≤ 64 := by omega
          have hn10 : (0 : Int) ≤ N1.length := by omega
          have hn20 : (0 : Int) ≤ N2.length := by omega
          have HALL := Lib.hid (show (N2.map Al.core).filter (fun t => !pass l eb t) = (N1.map Al.core).filter (fun t => !pass l eb t) by rw [hm2, HM1.out]; exact HPF.out)
          clear ho hwa hls2 hm2 hn1 hn2
          go_wp2_with fail
          go_loopw [11, 12] (fun s i W => ∃ (n2 i2 : Nat), i2 ≤ N2.length ∧ s = .int .i64 (n2 : Int) ∧ i = .int .i64 (i2 : Int) ∧ Both (N1.map Al.core) (N2.map Al.core) (fun t => !pass l eb t) n2 i2 ∧ Only Noth w5 W) (fun _ i _ => N2.length - (RowKit.intOf i).toNat)
          case atStart => exact ⟨0, 0, Nat.zero_le _, rfl, rfl, ⟨by simp, Nat.zero_le _⟩, Only.refl _ _⟩
          case round =>
            obtain ⟨n2, i, hi, rfl, rfl, hbo, ho⟩ := hrel
            have BO := Lib.hid hbo
            have ON := Lib.hid ho
            have hn2l : n2 ≤ N1.length := by have := hbo.n; simpa using this
            have hi0 : (0 : Int) ≤ i := by omega
            have hn20' : (0 : Int) ≤ n2 := by omega
            have B3 := Lib.hid (B35.out.only ho (fun h => h))
            have OI := Lib.hid (O5.out.tr ho)
            clear hbo ho
            by_cases hlt2 : i < N2.length
            · have hi1 : (i : Int) < N2.length := by omega
              obtain ⟨y, hy⟩ : ∃ y, N2[i]? = some y := ⟨_, List.getElem?_eq_getElem hlt2⟩
              obtain ⟨nb, no, hA2, hcn5, hly5⟩ := ls_cells W2.out hy
              have NCELL := Lib.hid hcn5
              have NLAB := Lib.hid (fun W (hW : Only Noth w5 W) => hly5.noth hW)
              have hcn := fun W (hW : Only Noth wr W) => (show _ ∧ _ ∧ _ from hcn5 W (ON.out.tr hW))
              have hly := hly5.noth ON.out
              have HY := Lib.hid (show (N2.map Al.core)[i]? = some y.core by rw [List.getElem?_map, hy]; rfl)
              have CN := Lib.hid hcn
              have LY := Lib.hid hly
              subst hA2
              obtain ⟨sq, hsq⟩ : ∃ sq, lsQ y.ls l = sq := ⟨_, rfl⟩
              have HSQ := Lib.hid hsq
              have HPY := Lib.hid (show pass l eb y.core = (eb && sq) by unfold pass; rw [← hsq]; rfl)
              clear hy hcn hly hsq hcn5 hly5
              cases sq
              · go_upto_region 15 with fail
                refine wp_region_N Noth (by kernel_rfl) ?_
                refine wpN_take (i := 0) (d := some 54) rfl rfl (by kernel_rfl) (by kernel_rfl) (by kernel_rfl) (fun _ _ _ h => h) (sure_value (v := .slice (some ⟨nb, no, none⟩) N2.length c2) (by rfl) (fun v1 h1 => by first | rfl | (go_simp; done) | (go_simp; intro h9; exact absurd h9 (by omega)) | (go_simp; assumption))) (Only.refl _ _) ?_
                simp only [Act.put, List.setIfInBounds_toArray, List.set_cons_zero, List.set_cons_succ]
                refine wpN_take (i := 1) (d := some 55) rfl rfl (by kernel_rfl) (by kernel_rfl) (by kernel_rfl) (fun _ _ _ h => h) (sure_value (v := .int .i64 (i : Int)) (by rfl) (fun v1 h1 => by first | rfl | (go_simp; done) | (go_simp; intro h9; exact absurd h9 (by omega)) | (go_simp; assumption))) (Only.refl _ _) ?_
                simp only [Act.put, List.setIfInBounds_toArray, List.set_cons_zero, List.set_cons_succ]
                refine wpN_take (i := 2) (d := some 56) rfl rfl (by kernel_rfl) (by kernel_rfl) (by kernel_rfl) (fun _ _ _ h => h) (sure_value (v := .pointer (some ⟨nb, no + i * 3, none⟩)) (by rfl) (fun v1 h1 => by first | rfl | (go_simp; done) | (go_simp; intro h9; exact absurd h9 (by omega)) | (go_simp; assumption))) (Only.refl _ _) ?_
                simp only [Act.put, List.setIfInBounds_toArray, List.set_cons_zero, List.set_cons_succ]
                refine wpN_take (i := 3) (d := some 57) rfl rfl (by kernel_rfl) (by kernel_rfl) (by kernel_rfl) (fun _ _ _ h => h) (sure_value (v := .pointer (some ⟨nb, no + i * 3, none⟩)) (by rfl) (fun v1 h1 => by first | rfl | (go_simp; done) | (go_simp; intro h9; exact absurd h9 (by omega)) | (go_simp; assumption))) (Only.refl _ _) ?_
                simp only [Act.put, List.setIfInBounds_toArray, List.set_cons_zero, List.set_cons_succ]
                refine wpN_take (i := 4) (d := some 58) rfl rfl (by kernel_rfl) (by kernel_rfl) (by kernel_rfl) (fun _ _ _ h => h) (sure_value (v := .slice (some ⟨y.blk, 0, none⟩) y.ls.length y.cap) (by rfl) (fun v1 h1 => by have c0 := (CN.out _ (Only.undrew h1)).1; go_simp)) (Only.refl _ _) ?_
                simp only [Act.put, List.setIfInBounds_toArray, List.set_cons_zero, List.set_cons_succ]
                refine wpN_take (i := 5) (d := some 59) rfl rfl (by kernel_rfl) (by kernel_rfl) (by kernel_rfl) (fun _ _ _ h => h) (sure_value (v := .pointer (some ⟨w.heap.size, 0, none⟩)) (by rfl) (fun v1 h1 => by first | rfl | (go_simp; done) | (go_simp; intro h9; exact absurd h9 (by omega)) | (go_simp; assumption))) (Only.refl _ _) ?_
                simp only [Act.put, List.setIfInBounds_toArray, List.set_cons_zero, List.set_cons_succ]
                refine wpN_take (i := 6) (d := some 60) rfl rfl (by kernel_rfl) (by kernel_rfl) (by kernel_rfl) (fun _ _ _ h => h) (sure_lit (v := .slice LA l.length lc) (i := 0) B3.out.drew rfl (fun h => h) (by rfl) (fun _ h => by go_simp)) (Only.refl _ _) ?_
                simp only [Act.put, List.setIfInBounds_toArray, List.set_cons_zero, List.set_cons_succ]
                refine wpN_take (i := 7) (d := some 61) rfl rfl (by kernel_rfl) (by kernel_rfl) (by kernel_rfl) (fun _ _ _ h => h) (sure_call (v := .bool false) (fun w' h' => by have := lsame_q (some ⟨y.blk, 0, none⟩) LA y.cap lc y.ls l w' _ _ (LY.out.noth (Only.undrew h')) (HP.out.noth (OI.out.tr (Only.undrew h'))); rw [HSQ.out] at this; exact this) (by rfl) (fun _ => by go_simp)) (Only.refl _ _) ?_
                simp only [Act.put, List.setIfInBounds_toArray, List.set_cons_zero, List.set_cons_succ]
                refine wpN_take (i := 8) (d := some 62) rfl rfl (by kernel_rfl) (by kernel_rfl) (by kernel_rfl) (fun _ _ _ h => h) (sure_value (v := .bool false) (by rfl) (fun v1 h1 => by first | rfl | (go_simp; done) | (go_simp; intro h9; exact absurd h9 (by omega)) | (go_simp; assumption))) (Only.refl _ _) ?_
                simp only [Act.put, List.setIfInBounds_toArray, List.set_cons_zero, List.set_cons_succ]
                refine wpN_take (i := 9) (d := some 63) rfl rfl (by kernel_rfl) (by kernel_rfl) (by kernel_rfl) (fun _ _ _ h => h) (sure_skip (by rfl)) (Only.refl _ _) ?_
                simp only [Act.put, List.setIfInBounds_toArray, List.set_cons_zero, List.set_cons_succ]
                refine wpN_take (i := 10) (d := some 64) rfl rfl (by kernel_rfl) (by kernel_rfl) (by kernel_rfl) (fun _ _ _ h => h) (sure_skip (by rfl)) (Only.refl _ _) ?_
                simp only [Act.put, List.setIfInBounds_toArray, List.set_cons_zero, List.set_cons_succ]
                refine wpN_take (i := 11) (d := some 65) rfl rfl (by kernel_rfl) (by kernel_rfl) (by kernel_rfl) (fun _ _ _ h => h) (sure_value (v := .bool false) (by rfl) (fun v1 h1 => by first | rfl | (go_simp; done) | (go_simp; intro h9; exact absurd h9 (by omega)) | (go_simp; assumption))) (Only.refl _ _) ?_
                simp only [Act.put, List.setIfInBounds_toArray, List.set_cons_zero, List.set_cons_succ]
                refine wpN_done (by kernel_rfl) (fun wa ho => ?_) _
                have OA := Lib.hid (ON.out.tr (Only.undrew ho))
                have HPT := Lib.hid (show (!pass l eb y.core) = true by rw [HPY.out]; simp)
                clear ho
                go_wp2_with fail
                go_loopw [11] (fun s W => ∃ n2 : Nat, n2 ≤ N1.length ∧ s = .int .i64 (n2 : Int) ∧ Both (N1.map Al.core) (N2.map Al.core) (fun t => !pass l eb t) n2 i ∧ Only Noth w5 W) (fun s _ => N1.length - (RowKit.intOf s).toNat)
                case atStart => exact ⟨n2, hn2l, rfl, BO.out, OA.out⟩
                case round =>
                  obtain ⟨n2, hn2l, rfl, hbo, ho⟩ := hrel
                  have BJ := Lib.hid hbo
                  have ONJ := Lib.hid ho
                  have hn20' : (0 : Int) ≤ n2 := by omega
                  have B3j := Lib.hid (B35.out.only ho (fun h => h))
                  have OJ := Lib.hid (O5.out.tr ho)
                  have CNk := Lib.hid (fun W (hW : Only Noth wr W) => (show _ ∧ _ ∧ _ from NCELL.out W (ho.tr hW)))
                  have LYk := Lib.hid (NLAB.out _ ho)
                  clear hbo ho
                  by_cases hlt3 : n2 < N1.length
                  · have hn2lt : (n2 : Int) < N1.length := by omega
                    obtain ⟨z, hz⟩ : ∃ z, N1[n2]? = some z := ⟨_, List.getElem?_eq_getElem hlt3⟩
                    obtain ⟨wb, wo, hA1, hcw, hlz⟩ := ls_cells (W15.out.noth ONJ.out) hz
                    have HZ := Lib.hid (show (N1.map Al.core)[n2]? = some z.core by rw [List.getElem?_map, hz]; rfl)
                    have CW := Lib.hid hcw
                    have LZ := Lib.hid hlz
                    subst hA1
                    obtain ⟨zq, hzq⟩ : ∃ zq, lsQ z.ls l = zq := ⟨_, rfl⟩
                    have HZQ := Lib.hid hzq
                    have HPZ := Lib.hid (show pass l eb z.core = (eb && zq) by unfold pass; rw [← hzq]; rfl)
                    clear hz hcw hlz hzq
                    cases zq
                    · have hnx := BJ.out.next HALL.out HY.out HPT.out (fun u hu => by first | rfl | (rw [HZ.out] at hu; injection hu with hu; subst hu; simp [HPZ.out]))
                      have HZY := Lib.hid (show z.core = y.core from by have h1 := hnx.2.1; rw [HZ.out] at h1; exact Option.some.inj h1)
                      have BN := Lib.hid hnx.2.2
                      clear hnx
                      go_upto_region 16 with fail
                      refine wp_region_N Noth (by kernel_rfl) ?_
                      refine wpN_take (i := 0) (d := some 66) rfl rfl (by kernel_rfl) (by kernel_rfl) (by kernel_rfl) (fun _ _ _ h => h) (sure_value (v := .int .i64 (n2 : Int)) (by rfl) (fun v1 h1 => by first | rfl | (go_simp; done) | (go_simp; intro h9; exact absurd h9 (by omega)) | (go_simp; assumption))) (Only.refl _ _) ?_
                      simp only [Act.put, List.setIfInBounds_toArray, List.set_cons_zero, List.set_cons_succ]
                      refine wpN_take (i := 1) (d := some 67) rfl rfl (by kernel_rfl) (by kernel_rfl) (by kernel_rfl) (fun _ _ _ h => h) (sure_value (v := .slice (some ⟨wb, wo, none⟩) N1.length c1) (by rfl) (fun v1 h1 => by first | rfl | (go_simp; done) | (go_simp; intro h9; exact absurd h9 (by omega)) | (go_simp; assumption))) (Only.refl _ _) ?_
                      simp only [Act.put, List.setIfInBounds_toArray, List.set_cons_zero, List.set_cons_succ]
                      refine wpN_take (i := 2) (d := some 68) rfl rfl (by kernel_rfl) (by kernel_rfl) (by kernel_rfl) (fun _ _ _ h => h) (sure_value (v := .int .i64 N1.length) (by rfl) (fun v1 h1 => by first | rfl | (go_simp; done) | (go_simp; intro h9; exact absurd h9 (by omega)) | (go_simp; assumption))) (Only.refl _ _) ?_
                      simp only [Act.put, List.setIfInBounds_toArray, List.set_cons_zero, List.set_cons_succ]
                      refine wpN_take (i := 3) (d := some 69) rfl rfl (by kernel_rfl) (by kernel_rfl) (by kernel_rfl) (fun _ _ _ h => h) (sure_value (v := .bool true) (by rfl) (fun v1 h1 => by first | rfl | (go_simp; done) | (go_simp; intro h9; exact absurd h9 (by omega)) | (go_simp; assumption))) (Only.refl _ _) ?_
                      simp only [Act.put, List.setIfInBounds_toArray, List.set_cons_zero, List.set_cons_succ]
                      refine wpN_take (i := 4) (d := some 70) rfl rfl (by kernel_rfl) (by kernel_rfl) (by kernel_rfl) (fun _ _ _ h => h) (sure_value (v := .bool true) (by rfl) (fun v1 h1 => by first | rfl | (go_simp; done) | (go_simp; intro h9; exact absurd h9 (by omega)) | (go_simp; assumption))) (Only.refl _ _) ?_
                      simp only [Act.put, List.setIfInBounds_toArray, List.set_cons_zero, List.set_cons_succ]
                      refine wpN_take (i := 5) (d := some 71) rfl rfl (by kernel_rfl) (by kernel_rfl) (by kernel_rfl) (fun _ _ _ h => h) (sure_value (v := .slice (some ⟨wb, wo, none⟩) N1.length c1) (by rfl) (fun v1 h1 => by first | rfl | (go_simp; done) | (go_simp; intro h9; exact absurd h9 (by omega)) | (go_simp; assumption))) (Only.refl _ _) ?_
                      simp only [Act.put, List.setIfInBounds_toArray, List.set_cons_zero, List.set_cons_succ]
                      refine wpN_take (i := 6) (d := some 72) rfl rfl (by kernel_rfl) (by kernel_rfl) (by kernel_rfl) (fun _ _ _ h => h) (sure_value (v := .int .i64 (n2 : Int)) (by rfl) (fun v1 h1 => by first | rfl | (go_simp; done) | (go_simp; intro h9; exact absurd h9 (by omega)) | (go_simp; assumption))) (Only.refl _ _) ?_
                      simp only [Act.put, List.setIfInBounds_toArray, List.set_cons_zero, List.set_cons_succ]
                      refine wpN_take (i := 7) (d := some 73) rfl rfl (by kernel_rfl) (by kernel_rfl) (by kernel_rfl) (fun _ _ _ h => h) (sure_value (v := .pointer (some ⟨wb, wo + n2 * 3, none⟩)) (by rfl) (fun v1 h1 => by first | rfl | (go_simp; done) | (go_simp; intro h9; exact absurd h9 (by omega)) | (go_simp; assumption))) (Only.refl _ _) ?_
                      simp only [Act.put, List.setIfInBounds_toArray, List.set_cons_zero, List.set_cons_succ]
                      refine wpN_take (i := 8) (d := some 74) rfl rfl (by kernel_rfl) (by kernel_rfl) (by kernel_rfl) (fun _ _ _ h => h) (sure_value (v := .pointer (some ⟨wb, wo + n2 * 3, none⟩)) (by rfl) (fun v1 h1 => by first | rfl | (go_simp; done) | (go_simp; intro h9; exact absurd h9 (by omega)) | (go_simp; assumption))) (Only.refl _ _) ?_
                      simp only [Act.put, List.setIfInBounds_toArray, List.set_cons_zero, List.set_cons_succ]
                      refine wpN_take (i := 9) (d := some 75) rfl rfl (by kernel_rfl) (by kernel_rfl) (by kernel_rfl) (fun _ _ _ h => h) (sure_value (v := .slice (some ⟨z.blk, 0, none⟩) z.ls.length z.cap) (by rfl) (fun v1 h1 => by have c0 := (CW.out _ (Only.undrew h1)).1; go_simp)) (Only.refl _ _) ?_
                      simp only [Act.put, List.setIfInBounds_toArray, List.set_cons_zero, List.set_cons_succ]
                      refine wpN_take (i := 10) (d := some 76) rfl rfl (by kernel_rfl) (by kernel_rfl) (by kernel_rfl) (fun _ _ _ h => h) (sure_value (v := .pointer (some ⟨w.heap.size, 0, none⟩)) (by rfl) (fun v1 h1 => by first | rfl | (go_simp; done) | (go_simp; intro h9; exact absurd h9 (by omega)) | (go_simp; assumption))) (Only.refl _ _) ?_
                      simp only [Act.put, List.setIfInBounds_toArray, List.set_cons_zero, List.set_cons_succ]
                      refine wpN_take (i := 11) (d := some 77) rfl rfl (by kernel_rfl) (by kernel_rfl) (by kernel_rfl) (fun _ _ _ h => h) (sure_lit (v := .slice LA l.length lc) (i := 0) B3j.out.drew rfl (fun h => h) (by rfl) (fun _ h => by go_simp)) (Only.refl _ _) ?_
                      simp only [Act.put, List.setIfInBounds_toArray, List.set_cons_zero, List.set_cons_succ]
                      refine wpN_take (i := 12) (d := some 78) rfl rfl (by kernel_rfl) (by kernel_rfl) (by kernel_rfl) (fun _ _ _ h => h) (sure_call (v := .bool false) (fun w' h' => by have := lsame_q (some ⟨z.blk, 0, none⟩) LA z.cap lc z.ls l w' _ _ (LZ.out.noth (Only.undrew h')) (HP.out.noth (OJ.out.tr (Only.undrew h'))); rw [HZQ.out] at this; exact this) (by rfl) (fun _ => by go_simp)) (Only.refl _ _) ?_
                      simp only [Act.put, List.setIfInBounds_toArray, List.set_cons_zero, List.set_cons_succ]
                      refine wpN_take (i := 13) (d := some 79) rfl rfl (by kernel_rfl) (by kernel_rfl) (by kernel_rfl) (fun _ _ _ h => h) (sure_value (v := .bool false) (by rfl) (fun v1 h1 => by first | rfl | (go_simp; done) | (go_simp; intro h9; exact absurd h9 (by omega)) | (go_simp; assumption))) (Only.refl _ _) ?_
                      simp only [Act.put, List.setIfInBounds_toArray, List.set_cons_zero, List.set_cons_succ]
                      refine wpN_take (i := 14) (d := some 80) rfl rfl (by kernel_rfl) (by kernel_rfl) (by kernel_rfl) (fun _ _ _ h => h) (sure_value (v := .bool false) (by rfl) (fun v1 h1 => by first | rfl | (go_simp; done) | (go_simp; intro h9; exact absurd h9 (by omega)) | (go_simp; assumption))) (Only.refl _ _) ?_
                      simp only [Act.put, List.setIfInBounds_toArray, List.set_cons_zero, List.set_cons_succ]
                      refine wpN_take (i := 15) (d := some 81) rfl rfl (by kernel_rfl) (by kernel_rfl) (by kernel_rfl) (fun _ _ _ h => h) (sure_skip (by rfl)) (Only.refl _ _) ?_
                      simp only [Act.put, List.setIfInBounds_toArray, List.set_cons_zero, List.set_cons_succ]
                      refine wpN_take (i := 16) (d := some 82) rfl rfl (by kernel_rfl) (by kernel_rfl) (by kernel_rfl) (fun _ _ _ h => h) (sure_skip (by rfl)) (Only.refl _ _) ?_
                      simp only [Act.put, List.setIfInBounds_toArray, List.set_cons_zero, List.set_cons_succ]
                      refine wpN_take (i := 17) (d := some 83) rfl rfl (by kernel_rfl) (by kernel_rfl) (by kernel_rfl) (fun _ _ _ h => h) (sure_value (v := .bool false) (by rfl) (fun v1 h1 => by first | rfl | (go_simp; done) | (go_simp; intro h9; exact absurd h9 (by omega)) | (go_simp; assumption))) (Only.refl _ _) ?_
                      simp only [Act.put, List.setIfInBounds_toArray, List.set_cons_zero, List.set_cons_succ]
                      refine wpN_done (by kernel_rfl) (fun wc ho => ?_) _
                      have OC := Lib.hid (ONJ.out.tr (Only.undrew ho))
                      replace CW := Lib.hid (fun W (hW : Only Noth wc W) => (show _ ∧ _ ∧ _ from CW.out W ((Only.undrew ho).tr hW)))
                      replace LZ := Lib.hid (LZ.out.noth (Only.undrew ho))
                      replace CNk := Lib.hid (fun W (hW : Only Noth wc W) => (show _ ∧ _ ∧ _ from CNk.out W ((Only.undrew ho).tr hW)))
                      replace LYk := Lib.hid (LYk.out.noth (Only.undrew ho))
                      clear ho
                      go_upto_region 18 with fail
                      refine wp_region_N Noth (by kernel_rfl) ?_
                      refine wpN_take (i := 0) (d := some 86) rfl rfl (by kernel_rfl) (by kernel_rfl) (by kernel_rfl) (fun _ _ _ h => h) (sure_value (v := .int .i64 (n2 : Int)) (by rfl) (fun v1 h1 => by first | rfl | (go_simp; done) | (go_simp; intro h9; exact absurd h9 (by omega)) | (go_simp; assumption))) (Only.refl _ _) ?_
                      simp only [Act.put, List.setIfInBounds_toArray, List.set_cons_zero, List.set_cons_succ]
                      refine wpN_take (i := 1) (d := some 87) rfl rfl (by kernel_rfl) (by kernel_rfl) (by kernel_rfl) (fun _ _ _ h => h) (sure_value (v := .slice (some ⟨wb, wo, none⟩) N1.length c1) (by rfl) (fun v1 h1 => by first | rfl | (go_simp; done) | (go_simp; intro h9; exact absurd h9 (by omega)) | (go_simp; assumption))) (Only.refl _ _) ?_
                      simp only [Act.put, List.setIfInBounds_toArray, List.set_cons_zero, List.set_cons_succ]
                      refine wpN_take (i := 2) (d := some 88) rfl rfl (by kernel_rfl) (by kernel_rfl) (by kernel_rfl) (fun _ _ _ h => h) (sure_value (v := .int .i64 N1.length) (by rfl) (fun v1 h1 => by first | rfl | (go_simp; done) | (go_simp; intro h9; exact absurd h9 (by omega)) | (go_simp; assumption))) (Only.refl _ _) ?_
                      simp only [Act.put, List.setIfInBounds_toArray, List.set_cons_zero, List.set_cons_succ]
                      refine wpN_take (i := 3) (d := some 89) rfl rfl (by kernel_rfl) (by kernel_rfl) (by kernel_rfl) (fun _ _ _ h => h) (sure_value (v := .bool false) (by rfl) (fun v1 h1 => by first | rfl | (go_simp; done) | (go_simp; intro h9; exact absurd h9 (by omega)) | (go_simp; assumption))) (Only.refl _ _) ?_
                      simp only [Act.put, List.setIfInBounds_toArray, List.set_cons_zero, List.set_cons_succ]
                      refine wpN_take (i := 4) (d := some 90) rfl rfl (by kernel_rfl) (by kernel_rfl) (by kernel_rfl) (fun _ _ _ h => h) (sure_value (v := .bool false) (by rfl) (fun v1 h1 => by first | rfl | (go_simp; done) | (go_simp; intro h9; exact absurd h9 (by omega)) | (go_simp; assumption))) (Only.refl _ _) ?_
                      simp only [Act.put, List.setIfInBounds_toArray, List.set_cons_zero, List.set_cons_succ]
                      refine wpN_take (i := 5) (d := some 91) rfl rfl (by kernel_rfl) (by kernel_rfl) (by kernel_rfl) (fun _ _ _ h => h) (sure_value (v := .slice (some ⟨wb, wo, none⟩) N1.length c1) (by rfl) (fun v1 h1 => by first | rfl | (go_simp; done) | (go_simp; intro h9; exact absurd h9 (by omega)) | (go_simp; assumption))) (Only.refl _ _) ?_
                      simp only [Act.put, List.setIfInBounds_toArray, List.set_cons_zero, List.set_cons_succ]
                      refine wpN_take (i := 6) (d := some 92) rfl rfl (by kernel_rfl) (by kernel_rfl) (by kernel_rfl) (fun _ _ _ h => h) (sure_value (v := .int .i64 (n2 : Int)) (by rfl) (fun v1 h1 => by first | rfl | (go_simp; done) | (go_simp; intro h9; exact absurd h9 (by omega)) | (go_simp; assumption))) (Only.refl _ _) ?_
                      simp only [Act.put, List.setIfInBounds_toArray, List.set_cons_zero, List.set_cons_succ]
                      refine wpN_take (i := 7) (d := some 93) rfl rfl (by kernel_rfl) (by kernel_rfl) (by kernel_rfl) (fun _ _ _ h => h) (sure_value (v := .pointer (some ⟨wb, wo + n2 * 3, none⟩)) (by rfl) (fun v1 h1 => by first | rfl | (go_simp; done) | (go_simp; intro h9; exact absurd h9 (by omega)) | (go_simp; assumption))) (Only.refl _ _) ?_
                      simp only [Act.put, List.setIfInBounds_toArray, List.set_cons_zero, List.set_cons_succ]
                      refine wpN_take (i := 8) (d := some 94) rfl rfl (by kernel_rfl) (by kernel_rfl) (by kernel_rfl) (fun _ _ _ h => h) (sure_value (v := .agg z.arr) (by rfl) (fun v1 h1 => by have cc := CW.out _ (Only.undrew h1); have c0 := cc.1; have c1 := cc.2.1; have c2 := cc.2.2; go_simp)) (Only.refl _ _) ?_
                      simp only [Act.put, List.setIfInBounds_toArray, List.set_cons_zero, List.set_cons_succ]
                      refine wpN_take (i := 9) (d := some 95) rfl rfl (by kernel_rfl) (by kernel_rfl) (by kernel_rfl) (fun _ _ _ h => h) (sure_value (v := .slice (some ⟨nb, no, none⟩) N2.length c2) (by rfl) (fun v1 h1 => by first | rfl | (go_simp; done) | (go_simp; intro h9; exact absurd h9 (by omega)) | (go_simp; assumption))) (Only.refl _ _) ?_
                      simp only [Act.put, List.setIfInBounds_toArray, List.set_cons_zero, List.set_cons_succ]
                      refine wpN_take (i := 10) (d := some 96) rfl rfl (by kernel_rfl) (by kernel_rfl) (by kernel_rfl) (fun _ _ _ h => h) (sure_value (v := .int .i64 (i : Int)) (by rfl) (fun v1 h1 => by first | rfl | (go_simp; done) | (go_simp; intro h9; exact absurd h9 (by omega)) | (go_simp; assumption))) (Only.refl _ _) ?_
                      simp only [Act.put, List.setIfInBounds_toArray, List.set_cons_zero, List.set_cons_succ]
                      refine wpN_take (i := 11) (d := some 97) rfl rfl (by kernel_rfl) (by kernel_rfl) (by kernel_rfl) (fun _ _ _ h => h) (sure_value (v := .pointer (some ⟨nb, no + i * 3, none⟩)) (by rfl) (fun v1 h1 => by first | rfl | (go_simp; done) | (go_simp; intro h9; exact absurd h9 (by omega)) | (go_simp; assumption))) (Only.refl _ _) ?_
                      simp only [Act.put, List.setIfInBounds_toArray, List.set_cons_zero, List.set_cons_succ]
                      refine wpN_take (i := 12) (d := some 98) rfl rfl (by kernel_rfl) (by kernel_rfl) (by kernel_rfl) (fun _ _ _ h => h) (sure_value (v := .agg y.arr) (by rfl) (fun v1 h1 => by have cc := CNk.out _ (Only.undrew h1); have c0 := cc.1; have c1 := cc.2.1; have c2 := cc.2.2; go_simp)) (Only.refl _ _) ?_
                      simp only [Act.put, List.setIfInBounds_toArray, List.set_cons_zero, List.set_cons_succ]
                      refine wpN_take (i := 13) (d := some 99) rfl rfl (by kernel_rfl) (by kernel_rfl) (by kernel_rfl) (fun _ _ _ h => h) (sure_call (v := .bool true) (fun w' h' => by have := rsamea_run (some ⟨z.blk, 0, none⟩) (some ⟨y.blk, 0, none⟩) z.cap y.cap z.ls y.ls z.st z.en y.st y.en w' _ _ (LZ.out.noth (Only.undrew h')) (LYk.out.noth (Only.undrew h')); rw [show sameQ (z.ls, z.st, z.en) (y.ls, y.st, y.en) = true from sameQ_iff.2 HZY.out] at this; exact this) (by rfl) (fun _ => by go_simp)) (Only.refl _ _) ?_
                      simp only [Act.put, List.setIfInBounds_toArray, List.set_cons_zero, List.set_cons_succ]
                      refine wpN_take (i := 14) (d := some 100) rfl rfl (by kernel_rfl) (by kernel_rfl) (by kernel_rfl) (fun _ _ _ h => h) (sure_value (v := .bool false) (by rfl) (fun v1 h1 => by first | rfl | (go_simp; done) | (go_simp; intro h9; exact absurd h9 (by omega)) | (go_simp; assumption))) (Only.refl _ _) ?_
                      simp only [Act.put, List.setIfInBounds_toArray, List.set_cons_zero, List.set_cons_succ]
                      refine wpN_take (i := 15) (d := some 101) rfl rfl (by kernel_rfl) (by kernel_rfl) (by kernel_rfl) (fun _ _ _ h => h) (sure_value (v := .bool false) (by rfl) (fun v1 h1 => by first | rfl | (go_simp; done) | (go_simp; intro h9; exact absurd h9 (by omega)) | (go_simp; assumption))) (Only.refl _ _) ?_
                      simp only [Act.put, List.setIfInBounds_toArray, List.set_cons_zero, List.set_cons_succ]
                      refine wpN_done (by kernel_rfl) (fun wd ho => ?_) _
                      have OD := Lib.hid (OC.out.tr (Only.undrew ho))
                      clear ho
                      go_wp2_with fail
                      go_roundw
                      case rel => exact ⟨n2 + 1, i + 1, by omega, by go_num, by go_num, BN.out, OD.out⟩
                      case measure => simp [RowKit.intOf]; omega
                    · cases eb
                      · have hnx := BJ.out.next HALL.out HY.out HPT.out (fun u hu => by first | rfl | (rw [HZ.out] at hu; injection hu with hu; subst hu; simp [HPZ.out]))
                        have HZY := Lib.hid (show z.core = y.core from by have h1 := hnx.2.1; rw [HZ.out] at h1; exact Option.some.inj h1)
                        have BN := Lib.hid hnx.2.2
                        clear hnx
                        go_upto_region 16 with fail
                        refine wp_region_N Noth (by kernel_rfl) ?_
                        refine wpN_take (i := 0) (d := some 66) rfl rfl (by kernel_rfl) (by kernel_rfl) (by kernel_rfl) (fun _ _ _ h => h) (sure_value (v := .int .i64 (n2 : Int)) (by rfl) (fun v1 h1 => by first | rfl | (go_simp; done) | (go_simp; intro h9; exact absurd h9 (by omega)) | (go_simp; assumption))) (Only.refl _ _) ?_
                        simp only [Act.put, List.setIfInBounds_toArray, List.set_cons_zero, List.set_cons_succ]
                        refine wpN_take (i := 1) (d := some 67) rfl rfl (by kernel_rfl) (by kernel_rfl) (by kernel_rfl) (fun _ _ _ h => h) (sure_value (v := .slice (some ⟨wb, wo, none⟩) N1.length c1) (by rfl) (fun v1 h1 => by first | rfl | (go_simp; done) | (go_simp; intro h9; exact absurd h9 (by omega)) | (go_simp; assumption))) (Only.refl _ _) ?_
                        simp only [Act.put, List.setIfInBounds_toArray, List.set_cons_zero, List.set_cons_succ]
                        refine wpN_take (i := 2) (d := some 68) rfl rfl (by kernel_rfl) (by kernel_rfl) (by kernel_rfl) (fun _ _ _ h => h) (sure_value (v := .int .i64 N1.length) (by rfl) (fun v1 h1 => by first | rfl | (go_simp; done) | (go_simp; intro h9; exact absurd h9 (by omega)) | (go_simp; assumption))) (Only.refl _ _) ?_
                        simp only [Act.put, List.setIfInBounds_toArray, List.set_cons_zero, List.set_cons_succ]
                        refine wpN_take (i := 3) (d := some 69) rfl rfl (by kernel_rfl) (by kernel_rfl) (by kernel_rfl) (fun _ _ _ h => h) (sure_value (v := .bool true) (by rfl) (fun v1 h1 => by first | rfl | (go_simp; done) | (go_simp; intro h9; exact absurd h9 (by omega)) | (go_simp; assumption))) (Only.refl _ _) ?_
                        simp only [Act.put, List.setIfInBounds_toArray, List.set_cons_zero, List.set_cons_succ]
                        refine wpN_take (i := 4) (d := some 70) rfl rfl (by kernel_rfl) (by kernel_rfl) (by kernel_rfl) (fun _ _ _ h => h) (sure_value (v := .bool true) (by rfl) (fun v1 h1 => by first | rfl | (go_simp; done) | (go_simp; intro h9; exact absurd h9 (by omega)) | (go_simp; assumption))) (Only.refl _ _) ?_
                        simp only [Act.put, List.setIfInBounds_toArray, List.set_cons_zero, List.set_cons_succ]
                        refine wpN_take (i := 5) (d := some 71) rfl rfl (by kernel_rfl) (by kernel_rfl) (by kernel_rfl) (fun _ _ _ h => h) (sure_value (v := .slice (some ⟨wb, wo, none⟩) N1.length c1) (by rfl) (fun v1 h1 => by first | rfl | (go_simp; done) | (go_simp; intro h9; exact absurd h9 (by omega)) | (go_simp; assumption))) (Only.refl _ _) ?_
                        simp only [Act.put, List.setIfInBounds_toArray, List.set_cons_zero, List.set_cons_succ]
                        refine wpN_take (i := 6) (d := some 72) rfl rfl (by kernel_rfl) (by kernel_rfl) (by kernel_rfl) (fun _ _ _ h => h) (sure_value (v := .int .i64 (n2 : Int)) (by rfl) (fun v1 h1 => by first | rfl | (go_simp; done) | (go_simp; intro h9; exact absurd h9 (by omega)) | (go_simp; assumption))) (Only.refl _ _) ?_
                        simp only [Act.put, List.setIfInBounds_toArray, List.set_cons_zero, List.set_cons_succ]
                        refine wpN_take (i := 7) (d := some 73) rfl rfl (by kernel_rfl) (by kernel_rfl) (by kernel_rfl) (fun _ _ _ h => h) (sure_value (v := .pointer (some ⟨wb, wo + n2 * 3, none⟩)) (by rfl) (fun v1 h1 => by first | rfl | (go_simp; done) | (go_simp; intro h9; exact absurd h9 (by omega)) | (go_simp; assumption))) (Only.refl _ _) ?_
                        simp only [Act.put, List.setIfInBounds_toArray, List.set_cons_zero, List.set_cons_succ]
                        refine wpN_take (i := 8) (d := some 74) rfl rfl (by kernel_rfl) (by kernel_rfl) (by kernel_rfl) (fun _ _ _ h => h) (sure_value (v := .pointer (some ⟨wb, wo + n2 * 3, none⟩)) (by rfl) (fun v1 h1 => by first | rfl | (go_simp; done) | (go_simp; intro h9; exact absurd h9 (by omega)) | (go_simp; assumption))) (Only.refl _ _) ?_
                        simp only [Act.put, List.setIfInBounds_toArray, List.set_cons_zero, List.set_cons_succ]
                        refine wpN_take (i := 9) (d := some 75) rfl rfl (by kernel_rfl) (by kernel_rfl) (by kernel_rfl) (fun _ _ _ h => h) (sure_value (v := .slice (some ⟨z.blk, 0, none⟩) z.ls.length z.cap) (by rfl) (fun v1 h1 => by have c0 := (CW.out _ (Only.undrew h1)).1; go_simp)) (Only.refl _ _) ?_
                        simp only [Act.put, List.setIfInBounds_toArray, List.set_cons_zero, List.set_cons_succ]
                        refine wpN_take (i := 10) (d := some 76) rfl rfl (by kernel_rfl) (by kernel_rfl) (by kernel_rfl) (fun _ _ _ h => h) (sure_value (v := .pointer (some ⟨w.heap.size, 0, none⟩)) (by rfl) (fun v1 h1 => by first | rfl | (go_simp; done) | (go_simp; intro h9; exact absurd h9 (by omega)) | (go_simp; assumption))) (Only.refl _ _) ?_
                        simp only [Act.put, List.setIfInBounds_toArray, List.set_cons_zero, List.set_cons_succ]
                        refine wpN_take (i := 11) (d := some 77) rfl rfl (by kernel_rfl) (by kernel_rfl) (by kernel_rfl) (fun _ _ _ h => h) (sure_lit (v := .slice LA l.length lc) (i := 0) B3j.out.drew rfl (fun h => h) (by rfl) (fun _ h => by go_simp)) (Only.refl _ _) ?_
                        simp only [Act.put, List.setIfInBounds_toArray, List.set_cons_zero, List.set_cons_succ]
                        refine wpN_take (i := 12) (d := some 78) rfl rfl (by kernel_rfl) (by kernel_rfl) (by kernel_rfl) (fun _ _ _ h => h) (sure_call (v := .bool true) (fun w' h' => by have := lsame_q (some ⟨z.blk, 0, none⟩) LA z.cap lc z.ls l w' _ _ (LZ.out.noth (Only.undrew h')) (HP.out.noth (OJ.out.tr (Only.undrew h'))); rw [HZQ.out] at this; exact this) (by rfl) (fun _ => by go_simp)) (Only.refl _ _) ?_
                        simp only [Act.put, List.setIfInBounds_toArray, List.set_cons_zero, List.set_cons_succ]
                        refine wpN_take (i := 13) (d := some 79) rfl rfl (by kernel_rfl) (by kernel_rfl) (by kernel_rfl) (fun _ _ _ h => h) (sure_value (v := .bool true) (by rfl) (fun v1 h1 => by first | rfl | (go_simp; done) | (go_simp; intro h9; exact absurd h9 (by omega)) | (go_simp; assumption))) (Only.refl _ _) ?_
                        simp only [Act.put, List.setIfInBounds_toArray, List.set_cons_zero, List.set_cons_succ]
                        refine wpN_take (i := 14) (d := some 80) rfl rfl (by kernel_rfl) (by kernel_rfl) (by kernel_rfl) (fun _ _ _ h => h) (sure_value (v := .bool true) (by rfl) (fun v1 h1 => by first | rfl | (go_simp; done) | (go_simp; intro h9; exact absurd h9 (by omega)) | (go_simp; assumption))) (Only.refl _ _) ?_
                        simp only [Act.put, List.setIfInBounds_toArray, List.set_cons_zero, List.set_cons_succ]
                        refine wpN_take (i := 15) (d := some 81) rfl rfl (by kernel_rfl) (by kernel_rfl) (by kernel_rfl) (fun _ _ _ h => h) (sure_value (v := .int .i64 er) (by rfl) (fun v1 h1 => by first | rfl | (go_simp; done) | (go_simp; intro h9; exact absurd h9 (by omega)) | (go_simp; assumption))) (Only.refl _ _) ?_
                        simp only [Act.put, List.setIfInBounds_toArray, List.set_cons_zero, List.set_cons_succ]
                        refine wpN_take (i := 16) (d := some 82) rfl rfl (by kernel_rfl) (by kernel_rfl) (by kernel_rfl) (fun _ _ _ h => h) (sure_value (v := .bool false) (by rfl) (fun v1 h1 => by first | rfl | (go_simp; done) | (go_simp; intro h9; exact absurd h9 (by omega)) | (go_simp; assumption))) (Only.refl _ _) ?_
                        simp only [Act.put, List.setIfInBounds_toArray, List.set_cons_zero, List.set_cons_succ]
                        refine wpN_take (i := 17) (d := some 83) rfl rfl (by kernel_rfl) (by kernel_rfl) (by kernel_rfl) (fun _ _ _ h => h) (sure_value (v := .bool false) (by rfl) (fun v1 h1 => by first | rfl | (go_simp; done) | (go_simp; intro h9; exact absurd h9 (by omega)) | (go_simp; assumption))) (Only.refl _ _) ?_
                        simp only [Act.put, List.setIfInBounds_toArray, List.set_cons_zero, List.set_cons_succ]
                        refine wpN_done (by kernel_rfl) (fun wc ho => ?_) _
                        have OC := Lib.hid (ONJ.out.tr (Only.undrew ho))
                        replace CW := Lib.hid (fun W (hW : Only Noth wc W) => (show _ ∧ _ ∧ _ from CW.out W ((Only.undrew ho).tr hW)))
                        replace LZ := Lib.hid (LZ.out.noth (Only.undrew ho))
                        replace CNk := Lib.hid (fun W (hW : Only Noth wc W) => (show _ ∧ _ ∧ _ from CNk.out W ((Only.undrew ho).tr hW)))
                        replace LYk := Lib.hid (LYk.out.noth (Only.undrew ho))
                        clear ho
                        go_upto_region 18 with fail
                        refine wp_region_N Noth (by kernel_rfl) ?_
                        refine wpN_take (i := 0) (d := some 86) rfl rfl (by kernel_rfl) (by kernel_rfl) (by kernel_rfl) (fun _ _ _ h => h) (sure_value (v := .int .i64 (n2 : Int)) (by rfl) (fun v1 h1 => by first | rfl | (go_simp; done) | (go_simp; intro h9; exact absurd h9 (by omega)) | (go_simp; assumption))) (Only.refl _ _) ?_
                        simp only [Act.put, List.setIfInBounds_toArray, List.set_cons_zero, List.set_cons_succ]
                        refine wpN_take (i := 1) (d := some 87) rfl rfl (by kernel_rfl) (by kernel_rfl) (by kernel_rfl) (fun _ _ _ h => h) (sure_value (v := .slice (some ⟨wb, wo, none⟩) N1.length c1) (by rfl) (fun v1 h1 => by first | rfl | (go_simp; done) | (go_simp; intro h9; exact absurd h9 (by omega)) | (go_simp; assumption))) (Only.refl _ _) ?_
                        simp only [Act.put, List.setIfInBounds_toArray, List.set_cons_zero, List.set_cons_succ]
                        refine wpN_take (i := 2) (d := some 88) rfl rfl (by kernel_rfl) (by kernel_rfl) (by kernel_rfl) (fun _ _ _ h => h) (sure_value (v := .int .i64 N1.length) (by rfl) (fun v1 h1 => by first | rfl | (go_simp; done) | (go_simp; intro h9; exact absurd h9 (by omega)) | (go_simp; assumption))) (Only.refl _ _) ?_
                        simp only [Act.put, List.setIfInBounds_toArray, List.set_cons_zero, List.set_cons_succ]
                        refine wpN_take (i := 3) (d := some 89) rfl rfl (by kernel_rfl) (by kernel_rfl) (by kernel_rfl) (fun _ _ _ h => h) (sure_value (v := .bool false) (by rfl) (fun v1 h1 => by first | rfl | (go_simp; done) | (go_simp; intro h9; exact absurd h9 (by omega)) | (go_simp; assumption))) (Only.refl _ _) ?_
                        simp only [Act.put, List.setIfInBounds_toArray, List.set_cons_zero, List.set_cons_succ]
                        refine wpN_take (i := 4) (d := some 90) rfl rfl (by kernel_rfl) (by kernel_rfl) (by kernel_rfl) (fun _ _ _ h => h) (sure_value (v := .bool false) (by rfl) (fun v1 h1 => by first | rfl | (go_simp; done) | (go_simp; intro h9; exact absurd h9 (by omega)) | (go_simp; assumption))) (Only.refl _ _) ?_
                        simp only [Act.put, List.setIfInBounds_toArray, List.set_cons_zero, List.set_cons_succ]
                        refine wpN_take (i := 5) (d := some 91) rfl rfl (by kernel_rfl) (by kernel_rfl) (by kernel_rfl) (fun _ _ _ h => h) (sure_value (v := .slice (some ⟨wb, wo, none⟩) N1.length c1) (by rfl) (fun v1 h1 => by first | rfl | (go_simp; done) | (go_simp; intro h9; exact absurd h9 (by omega)) | (go_simp; assumption))) (Only.refl _ _) ?_
                        simp only [Act.put, List.setIfInBounds_toArray, List.set_cons_zero, List.set_cons_succ]
                        refine wpN_take (i := 6) (d := some 92) rfl rfl (by kernel_rfl) (by kernel_rfl) (by kernel_rfl) (fun _ _ _ h => h) (sure_value (v := .int .i64 (n2 : Int)) (by rfl) (fun v1 h1 => by first | rfl | (go_simp; done) | (go_simp; intro h9; exact absurd h9 (by omega)) | (go_simp; assumption))) (Only.refl _ _) ?_
                        simp only [Act.put, List.setIfInBounds_toArray, List.set_cons_zero, List.set_cons_succ]
                        refine wpN_take (i := 7) (d := some 93) rfl rfl (by kernel_rfl) (by kernel_rfl) (by kernel_rfl) (fun _ _ _ h => h) (sure_value (v := .pointer (some ⟨wb, wo + n2 * 3, none⟩)) (by rfl) (fun v1 h1 => by first | rfl | (go_simp; done) | (go_simp; intro h9; exact absurd h9 (by omega)) | (go_simp; assumption))) (Only.refl _ _) ?_
                        simp only [Act.put, List.setIfInBounds_toArray, List.set_cons_zero, List.set_cons_succ]
                        refine wpN_take (i := 8) (d := some 94) rfl rfl (by kernel_rfl) (by kernel_rfl) (by kernel_rfl) (fun _ _ _ h => h) (sure_value (v := .agg z.arr) (by rfl) (fun v1 h1 => by have cc := CW.out _ (Only.undrew h1); have c0 := cc.1; have c1 := cc.2.1; have c2 := cc.2.2; go_simp)) (Only.refl _ _) ?_
                        simp only [Act.put, List.setIfInBounds_toArray, List.set_cons_zero, List.set_cons_succ]
                        refine wpN_take (i := 9) (d := some 95) rfl rfl (by kernel_rfl) (by kernel_rfl) (by kernel_rfl) (fun _ _ _ h => h) (sure_value (v := .slice (some ⟨nb, no, none⟩) N2.length c2) (by rfl) (fun v1 h1 => by first | rfl | (go_simp; done) | (go_simp; intro h9; exact absurd h9 (by omega)) | (go_simp; assumption))) (Only.refl _ _) ?_
                        simp only [Act.put, List.setIfInBounds_toArray, List.set_cons_zero, List.set_cons_succ]
                        refine wpN_take (i := 10) (d := some 96) rfl rfl (by kernel_rfl) (by kernel_rfl) (by kernel_rfl) (fun _ _ _ h => h) (sure_value (v := .int .i64 (i : Int)) (by rfl) (fun v1 h1 => by first | rfl | (go_simp; done) | (go_simp; intro h9; exact absurd h9 (by omega)) | (go_simp; assumption))) (Only.refl _ _) ?_
                        simp only [Act.put, List.setIfInBounds_toArray, List.set_cons_zero, List.set_cons_succ]
                        refine wpN_take (i := 11) (d := some 97) rfl rfl (by kernel_rfl) (by kernel_rfl) (by kernel_rfl) (fun _ _ _ h => h) (sure_value (v := .pointer (some ⟨nb, no + i * 3, none⟩)) (by rfl) (fun v1 h1 => by first | rfl | (go_simp; done) | (go_simp; intro h9; exact absurd h9 (by omega)) | (go_simp; assumption))) (Only.refl _ _) ?_
                        simp only [Act.put, List.setIfInBounds_toArray, List.set_cons_zero, List.set_cons_succ]
                        refine wpN_take (i := 12) (d := some 98) rfl rfl (by kernel_rfl) (by kernel_rfl) (by kernel_rfl) (fun _ _ _ h => h) (sure_value (v := .agg y.arr) (by rfl) (fun v1 h1 => by have cc := CNk.out _ (Only.undrew h1); have c0 := cc.1; have c1 := cc.2.1; have c2 := cc.2.2; go_simp)) (Only.refl _ _) ?_
                        simp only [Act.put, List.setIfInBounds_toArray, List.set_cons_zero, List.set_cons_succ]
                        refine wpN_take (i := 13) (d := some 99) rfl rfl (by kernel_rfl) (by kernel_rfl) (by kernel_rfl) (fun _ _ _ h => h) (sure_call (v := .bool true) (fun w' h' => by have := rsamea_run (some ⟨z.blk, 0, none⟩) (some ⟨y.blk, 0, none⟩) z.cap y.cap z.ls y.ls z.st z.en y.st y.en w' _ _ (LZ.out.noth (Only.undrew h')) (LYk.out.noth (Only.undrew h')); rw [show sameQ (z.ls, z.st, z.en) (y.ls, y.st, y.en) = true from sameQ_iff.2 HZY.out] at this; exact this) (by rfl) (fun _ => by go_simp)) (Only.refl _ _) ?_
                        simp only [Act.put, List.setIfInBounds_toArray, List.set_cons_zero, List.set_cons_succ]
                        refine wpN_take (i := 14) (d := some 100) rfl rfl (by kernel_rfl) (by kernel_rfl) (by kernel_rfl) (fun _ _ _ h => h) (sure_value (v := .bool false) (by rfl) (fun v1 h1 => by first | rfl | (go_simp; done) | (go_simp; intro h9; exact absurd h9 (by omega)) | (go_simp; assumption))) (Only.refl _ _) ?_
                        simp only [Act.put, List.setIfInBounds_toArray, List.set_cons_zero, List.set_cons_succ]
                        refine wpN_take (i := 15) (d := some 101) rfl rfl (by kernel_rfl) (by kernel_rfl) (by kernel_rfl) (fun _ _ _ h => h) (sure_value (v := .bool false) (by rfl) (fun v1 h1 => by first | rfl | (go_simp; done) | (go_simp; intro h9; exact absurd h9 (by omega)) | (go_simp; assumption))) (Only.refl _ _) ?_
                        simp only [Act.put, List.setIfInBounds_toArray, List.set_cons_zero, List.set_cons_succ]
                        refine wpN_done (by kernel_rfl) (fun wd ho => ?_) _
                        have OD := Lib.hid (OC.out.tr (Only.undrew ho))
                        clear ho
                        go_wp2_with fail
                        go_roundw
                        case rel => exact ⟨n2 + 1, i + 1, by omega, by go_num, by go_num, BN.out, OD.out⟩
                        case measure => simp [RowKit.intOf]; omega
                      · go_upto_region 16 with fail
                        refine wp_region_N Noth (by kernel_rfl) ?_
                        refine wpN_take (i := 0) (d := some 66) rfl rfl (by kernel_rfl) (by kernel_rfl) (by kernel_rfl) (fun _ _ _ h => h) (sure_value (v := .int .i64 (n2 : Int)) (by rfl) (fun v1 h1 => by first | rfl | (go_simp; done) | (go_simp; intro h9; exact absurd h9 (by omega)) | (go_simp; assumption))) (Only.refl _ _) ?_
                        simp only [Act.put, List.setIfInBounds_toArray, List.set_cons_zero, List.set_cons_succ]
                        refine wpN_take (i := 1) (d := some 67) rfl rfl (by kernel_rfl) (by kernel_rfl) (by kernel_rfl) (fun _ _ _ h => h) (sure_value (v := .slice (some ⟨wb, wo, none⟩) N1.length c1) (by rfl) (fun v1 h1 => by first | rfl | (go_simp; done) | (go_simp; intro h9; exact absurd h9 (by omega)) | (go_simp; assumption))) (Only.refl _ _) ?_
                        simp only [Act.put, List.setIfInBounds_toArray, List.set_cons_zero, List.set_cons_succ]
                        refine wpN_take (i := 2) (d := some 68) rfl rfl (by kernel_rfl) (by kernel_rfl) (by kernel_rfl) (fun _ _ _ h => h) (sure_value (v := .int .i64 N1.length) (by rfl) (fun v1 h1 => by first | rfl | (go_simp; done) | (go_simp; intro h9; exact absurd h9 (by omega)) | (go_simp; assumption))) (Only.refl _ _) ?_
                        simp only [Act.put, List.setIfInBounds_toArray, List.set_cons_zero, List.set_cons_succ]
                        refine wpN_take (i := 3) (d := some 69) rfl rfl (by kernel_rfl) (by kernel_rfl) (by kernel_rfl) (fun _ _ _ h => h) (sure_value (v := .bool true) (by rfl) (fun v1 h1 => by first | rfl | (go_simp; done) | (go_simp; intro h9; exact absurd h9 (by omega)) | (go_simp; assumption))) (Only.refl _ _) ?_
                        simp only [Act.put, List.setIfInBounds_toArray, List.set_cons_zero, List.set_cons_succ]
                        refine wpN_take (i := 4) (d := some 70) rfl rfl (by kernel_rfl) (by kernel_rfl) (by kernel_rfl) (fun _ _ _ h => h) (sure_value (v := .bool true) (by rfl) (fun v1 h1 => by first | rfl | (go_simp; done) | (go_simp; intro h9; exact absurd h9 (by omega)) | (go_simp; assumption))) (Only.refl _ _) ?_
                        simp only [Act.put, List.setIfInBounds_toArray, List.set_cons_zero, List.set_cons_succ]
                        refine wpN_take (i := 5) (d := some 71) rfl rfl (by kernel_rfl) (by kernel_rfl) (by kernel_rfl) (fun _ _ _ h => h) (sure_value (v := .slice (some ⟨wb, wo, none⟩) N1.length c1) (by rfl) (fun v1 h1 => by first | rfl | (go_simp; done) | (go_simp; intro h9; exact absurd h9 (by omega)) | (go_simp; assumption))) (Only.refl _ _) ?_
                        simp only [Act.put, List.setIfInBounds_toArray, List.set_cons_zero, List.set_cons_succ]
                        refine wpN_take (i := 6) (d := some 72) rfl rfl (by kernel_rfl) (by kernel_rfl) (by kernel_rfl) (fun _ _ _ h => h) (sure_value (v := .int .i64 (n2 : Int)) (by rfl) (fun v1 h1 => by first | rfl | (go_simp; done) | (go_simp; intro h9; exact absurd h9 (by omega)) | (go_simp; assumption))) (Only.refl _ _) ?_
                        simp only [Act.put, List.setIfInBounds_toArray, List.set_cons_zero, List.set_cons_succ]
                        refine wpN_take (i := 7) (d := some 73) rfl rfl (by kernel_rfl) (by kernel_rfl) (by kernel_rfl) (fun _ _ _ h => h) (sure_value (v := .pointer (some ⟨wb, wo + n2 * 3, none⟩)) (by rfl) (fun v1 h1 => by first | rfl | (go_simp; done) | (go_simp; intro h9; exact absurd h9 (by omega)) | (go_simp; assumption))) (Only.refl _ _) ?_
                        simp only [Act.put, List.setIfInBounds_toArray, List.set_cons_zero, List.set_cons_succ]
                        refine wpN_take (i := 8) (d := some 74) rfl rfl (by kernel_rfl) (by kernel_rfl) (by kernel_rfl) (fun _ _ _ h => h) (sure_value (v := .pointer (some ⟨wb, wo + n2 * 3, none⟩)) (by rfl) (fun v1 h1 => by first | rfl | (go_simp; done) | (go_simp; intro h9; exact absurd h9 (by omega)) | (go_simp; assumption))) (Only.refl _ _) ?_
                        simp only [Act.put, List.setIfInBounds_toArray, List.set_cons_zero, List.set_cons_succ]
                        refine wpN_take (i := 9) (d := some 75) rfl rfl (by kernel_rfl) (by kernel_rfl) (by kernel_rfl) (fun _ _ _ h => h) (sure_value (v := .slice (some ⟨z.blk, 0, none⟩) z.ls.length z.cap) (by rfl) (fun v1 h1 => by have c0 := (CW.out _ (Only.undrew h1)).1; go_simp)) (Only.refl _ _) ?_
                        simp only [Act.put, List.setIfInBounds_toArray, List.set_cons_zero, List.set_cons_succ]
                        refine wpN_take (i := 10) (d := some 76) rfl rfl (by kernel_rfl) (by kernel_rfl) (by kernel_rfl) (fun _ _ _ h => h) (sure_value (v := .pointer (some ⟨w.heap.size, 0, none⟩)) (by rfl) (fun v1 h1 => by first | rfl | (go_simp; done) | (go_simp; intro h9; exact absurd h9 (by omega)) | (go_simp; assumption))) (Only.refl _ _) ?_
                        simp only [Act.put, List.setIfInBounds_toArray, List.set_cons_zero, List.set_cons_succ]
                        refine wpN_take (i := 11) (d := some 77) rfl rfl (by kernel_rfl) (by kernel_rfl) (by kernel_rfl) (fun _ _ _ h => h) (sure_lit (v := .slice LA l.length lc) (i := 0) B3j.out.drew rfl (fun h => h) (by rfl) (fun _ h => by go_simp)) (Only.refl _ _) ?_
                        simp only [Act.put, List.setIfInBounds_toArray, List.set_cons_zero, List.set_cons_succ]
                        refine wpN_take (i := 12) (d := some 78) rfl rfl (by kernel_rfl) (by kernel_rfl) (by kernel_rfl) (fun _ _ _ h => h) (sure_call (v := .bool true) (fun w' h' => by have := lsame_q (some ⟨z.blk, 0, none⟩) LA z.cap lc z.ls l w' _ _ (LZ.out.noth (Only.undrew h')) (HP.out.noth (OJ.out.tr (Only.undrew h'))); rw [HZQ.out] at this; exact this) (by rfl) (fun _ => by go_simp)) (Only.refl _ _) ?_
                        simp only [Act.put, List.setIfInBounds_toArray, List.set_cons_zero, List.set_cons_succ]
                        refine wpN_take (i := 13) (d := some 79) rfl rfl (by kernel_rfl) (by kernel_rfl) (by kernel_rfl) (fun _ _ _ h => h) (sure_value (v := .bool true) (by rfl) (fun v1 h1 => by first | rfl | (go_simp; done) | (go_simp; intro h9; exact absurd h9 (by omega)) | (go_simp; assumption))) (Only.refl _ _) ?_
                        simp only [Act.put, List.setIfInBounds_toArray, List.set_cons_zero, List.set_cons_succ]
                        refine wpN_take (i := 14) (d := some 80) rfl rfl (by kernel_rfl) (by kernel_rfl) (by kernel_rfl) (fun _ _ _ h => h) (sure_value (v := .bool true) (by rfl) (fun v1 h1 => by first | rfl | (go_simp; done) | (go_simp; intro h9; exact absurd h9 (by omega)) | (go_simp; assumption))) (Only.refl _ _) ?_
                        simp only [Act.put, List.setIfInBounds_toArray, List.set_cons_zero, List.set_cons_succ]
                        refine wpN_take (i := 15) (d := some 81) rfl rfl (by kernel_rfl) (by kernel_rfl) (by kernel_rfl) (fun _ _ _ h => h) (sure_value (v := .int .i64 er) (by rfl) (fun v1 h1 => by first | rfl | (go_simp; done) | (go_simp; intro h9; exact absurd h9 (by omega)) | (go_simp; assumption))) (Only.refl _ _) ?_
                        simp only [Act.put, List.setIfInBounds_toArray, List.set_cons_zero, List.set_cons_succ]
                        refine wpN_take (i := 16) (d := some 82) rfl rfl (by kernel_rfl) (by kernel_rfl) (by kernel_rfl) (fun _ _ _ h => h) (sure_value (v := .bool true) (by rfl) (fun v1 h1 => by first | rfl | (go_simp; done) | (go_simp; intro h9; exact absurd h9 (by omega)) | (go_simp; assumption))) (Only.refl _ _) ?_
                        simp only [Act.put, List.setIfInBounds_toArray, List.set_cons_zero, List.set_cons_succ]
                        refine wpN_take (i := 17) (d := some 83) rfl rfl (by kernel_rfl) (by kernel_rfl) (by kernel_rfl) (fun _ _ _ h => h) (sure_value (v := .bool true) (by rfl) (fun v1 h1 => by first | rfl | (go_simp; done) | (go_simp; intro h9; exact absurd h9 (by omega)) | (go_simp; assumption))) (Only.refl _ _) ?_
                        simp only [Act.put, List.setIfInBounds_toArray, List.set_cons_zero, List.set_cons_succ]
                        refine wpN_done (by kernel_rfl) (fun wc ho => ?_) _
                        have OC := Lib.hid (ONJ.out.tr (Only.undrew ho))
                        have BN := Lib.hid (BJ.out.skip HZ.out (by rw [HPZ.out] <;> simp))
                        clear ho
                        go_wp2_with fail
                        go_roundw
                        case rel => exact ⟨n2 + 1, by omega, by go_num, BN.out, OC.out⟩
                        case measure => simp [RowKit.intOf]; omega
                  · obtain rfl : n2 = N1.length := by omega
                    have hnx := BJ.out.next HALL.out HY.out HPT.out (fun u hu => by rw [List.getElem?_eq_none_iff.2 (by simp)] at hu; cases hu)
                    exact absurd hnx.1 (by simp)
              · cases eb
                · go_upto_region 15 with fail
                  refine wp_region_N Noth (by kernel_rfl) ?_
                  refine wpN_take (i := 0) (d := some 54) rfl rfl (by kernel_rfl) (by kernel_rfl) (by kernel_rfl) (fun _ _ _ h => h) (sure_value (v := .slice (some ⟨nb, no, none⟩) N2.length c2) (by rfl) (fun v1 h1 => by first | rfl | (go_simp; done) | (go_simp; intro h9; exact absurd h9 (by omega)) | (go_simp; assumption))) (Only.refl _ _) ?_
                  simp only [Act.put, List.setIfInBounds_toArray, List.set_cons_zero, List.set_cons_succ]
                  refine wpN_take (i := 1) (d := some 55) rfl rfl (by kernel_rfl) (by kernel_rfl) (by kernel_rfl) (fun _ _ _ h => h) (sure_value (v := .int .i64 (i : Int)) (by rfl) (fun v1 h1 => by first | rfl | (go_simp; done) | (go_simp; intro h9; exact absurd h9 (by omega)) | (go_simp; assumption))) (Only.refl _ _) ?_
                  simp only [Act.put, List.setIfInBounds_toArray, List.set_cons_zero, List.set_cons_succ]
                  refine wpN_take (i := 2) (d := some 56) rfl rfl (by kernel_rfl) (by kernel_rfl) (by kernel_rfl) (fun _ _ _ h => h) (sure_value (v := .pointer (some ⟨nb, no + i * 3, none⟩)) (by rfl) (fun v1 h1 => by first | rfl | (go_simp; done) | (go_simp; intro h9; exact absurd h9 (by omega)) | (go_simp; assumption))) (Only.refl _ _) ?_
                  simp only [Act.put, List.setIfInBounds_toArray, List.set_cons_zero, List.set_cons_succ]
                  refine wpN_take (i := 3) (d := some 57) rfl rfl (by kernel_rfl) (by kernel_rfl) (by kernel_rfl) (fun _ _ _ h => h) (sure_value (v := .pointer (some ⟨nb, no + i * 3, none⟩)) (by rfl) (fun v1 h1 => by first | rfl | (go_simp; done) | (go_simp; intro h9; exact absurd h9 (by omega)) | (go_simp; assumption))) (Only.refl _ _) ?_
                  simp only [Act.put, List.setIfInBounds_toArray, List.set_cons_zero, List.set_cons_succ]
                  refine wpN_take (i := 4) (d := some 58) rfl rfl (by kernel_rfl) (by kernel_rfl) (by kernel_rfl) (fun _ _ _ h => h) (sure_value (v := .slice (some ⟨y.blk, 0, none⟩) y.ls.length y.cap) (by rfl) (fun v1 h1 => by have c0 := (CN.out _ (Only.undrew h1)).1; go_simp)) (Only.refl _ _) ?_
                  simp only [Act.put, List.setIfInBounds_toArray, List.set_cons_zero, List.set_cons_succ]
                  refine wpN_take (i := 5) (d := some 59) rfl rfl (by kernel_rfl) (by kernel_rfl) (by kernel_rfl) (fun _ _ _ h => h) (sure_value (v := .pointer (some ⟨w.heap.size, 0, none⟩)) (by rfl) (fun v1 h1 => by first | rfl | (go_simp; done) | (go_simp; intro h9; exact absurd h9 (by omega)) | (go_simp; assumption))) (Only.refl _ _) ?_
                  simp only [Act.put, List.setIfInBounds_toArray, List.set_cons_zero, List.set_cons_succ]
                  refine wpN_take (i := 6) (d := some 60) rfl rfl (by kernel_rfl) (by kernel_rfl) (by kernel_rfl) (fun _ _ _ h => h) (sure_lit (v := .slice LA l.length lc) (i := 0) B3.out.drew rfl (fun h => h) (by rfl) (fun _ h => by go_simp)) (Only.refl _ _) ?_
                  simp only [Act.put, List.setIfInBounds_toArray, List.set_cons_zero, List.set_cons_succ]
                  refine wpN_take (i := 7) (d := some 61) rfl rfl (by kernel_rfl) (by kernel_rfl) (by kernel_rfl) (fun _ _ _ h => h) (sure_call (v := .bool true) (fun w' h' => by have := lsame_q (some ⟨y.blk, 0, none⟩) LA y.cap lc y.ls l w' _ _ (LY.out.noth (Only.undrew h')) (HP.out.noth (OI.out.tr (Only.undrew h'))); rw [HSQ.out] at this; exact this) (by rfl) (fun _ => by go_simp)) (Only.refl _ _) ?_
                  simp only [Act.put, List.setIfInBounds_toArray, List.set_cons_zero, List.set_cons_succ]
                  refine wpN_take (i := 8) (d := some 62) rfl rfl (by kernel_rfl) (by kernel_rfl) (by kernel_rfl) (fun _ _ _ h => h) (sure_value (v := .bool true) (by rfl) (fun v1 h1 => by first | rfl | (go_simp; done) | (go_simp; intro h9; exact absurd h9 (by omega)) | (go_simp; assumption))) (Only.refl _ _) ?_
                  simp only [Act.put, List.setIfInBounds_toArray, List.set_cons_zero, List.set_cons_succ]
                  refine wpN_take (i := 9) (d := some 63) rfl rfl (by kernel_rfl) (by kernel_rfl) (by kernel_rfl) (fun _ _ _ h => h) (sure_value (v := .int .i64 er) (by rfl) (fun v1 h1 => by first | rfl | (go_simp; done) | (go_simp; intro h9; exact absurd h9 (by omega)) | (go_simp; assumption))) (Only.refl _ _) ?_
                  simp only [Act.put, List.setIfInBounds_toArray, List.set_cons_zero, List.set_cons_succ]
                  refine wpN_take (i := 10) (d := some 64) rfl rfl (by kernel_rfl) (by kernel_rfl) (by kernel_rfl) (fun _ _ _ h => h) (sure_value (v := .bool false) (by rfl) (fun v1 h1 => by first | rfl | (go_simp; done) | (go_simp; intro h9; exact absurd h9 (by omega)) | (go_simp; assumption))) (Only.refl _ _) ?_
                  simp only [Act.put, List.setIfInBounds_toArray, List.set_cons_zero, List.set_cons_succ]
                  refine wpN_take (i := 11) (d := some 65) rfl rfl (by kernel_rfl) (by kernel_rfl) (by kernel_rfl) (fun _ _ _ h => h) (sure_value (v := .bool false) (by rfl) (fun v1 h1 => by first | rfl | (go_simp; done) | (go_simp; intro h9; exact absurd h9 (by omega)) | (go_simp; assumption))) (Only.refl _ _) ?_
                  simp only [Act.put, List.setIfInBounds_toArray, List.set_cons_zero, List.set_cons_succ]
                  refine wpN_done (by kernel_rfl) (fun wa ho => ?_) _
                  have OA := Lib.hid (ON.out.tr (Only.undrew ho))
                  have HPT := Lib.hid (show (!pass l false y.core) = true by rw [HPY.out]; simp)
                  clear ho
                  go_wp2_with fail
                  go_loopw [11] (fun s W => ∃ n2 : Nat, n2 ≤ N1.length ∧ s = .int .i64 (n2 : Int) ∧ Both (N1.map Al.core) (N2.map Al.core) (fun t => !pass l false t) n2 i ∧ Only Noth w5 W) (fun s _ => N1.length - (RowKit.intOf s).toNat)
                  case atStart => exact ⟨n2, hn2l, rfl, BO.out, OA.out⟩
                  case round =>
                    obtain ⟨n2, hn2l, rfl, hbo, ho⟩ := hrel
                    have BJ := Lib.hid hbo
                    have ONJ := Lib.hid ho
                    have hn20' : (0 : Int) ≤ n2 := by omega
                    have B3j := Lib.hid (B35.out.only ho (fun h => h))
                    have OJ := Lib.hid (O5.out.tr ho)
                    have CNk := Lib.hid (fun W (hW : Only Noth wr W) => (show _ ∧ _ ∧ _ from NCELL.out W (ho.tr hW)))
                    have LYk := Lib.hid (NLAB.out _ ho)
                    clear hbo ho
                    by_cases hlt3 : n2 < N1.length
                    · have hn2lt : (n2 : Int) < N1.length := by omega
                      obtain ⟨z, hz⟩ : ∃ z, N1[n2]? = some z := ⟨_, List.getElem?_eq_getElem hlt3⟩
                      obtain ⟨wb, wo, hA1, hcw, hlz⟩ := ls_cells (W15.out.noth ONJ.out) hz
                      have HZ := Lib.hid (show (N1.map Al.core)[n2]? = some z.core by rw [List.getElem?_map, hz]; rfl)
                      have CW := Lib.hid hcw
                      have LZ := Lib.hid hlz
                      subst hA1
                      obtain ⟨zq, hzq⟩ : ∃ zq, lsQ z.ls l = zq := ⟨_, rfl⟩
                      have HZQ := Lib.hid hzq
                      have HPZ := Lib.hid (show pass l false z.core = (false && zq) by unfold pass; rw [← hzq]; rfl)
                      clear hz hcw hlz hzq
                      cases zq
                      · have hnx := BJ.out.next HALL.out HY.out HPT.out (fun u hu => by first | rfl | (rw [HZ.out] at hu; injection hu with hu; subst hu; simp [HPZ.out]))
                        have HZY := Lib.hid (show z.core = y.core from by have h1 := hnx.2.1; rw [HZ.out] at h1; exact Option.some.inj h1)
                        have BN := Lib.hid hnx.2.2
                        clear hnx
                        go_upto_region 16 with fail
                        refine wp_region_N Noth (by kernel_rfl) ?_
                        refine wpN_take (i := 0) (d := some 66) rfl rfl (by kernel_rfl) (by kernel_rfl) (by kernel_rfl) (fun _ _ _ h => h) (sure_value (v := .int .i64 (n2 : Int)) (by rfl) (fun v1 h1 => by first | rfl | (go_simp; done) | (go_simp; intro h9; exact absurd h9 (by omega)) | (go_simp; assumption))) (Only.refl _ _) ?_
                        simp only [Act.put, List.setIfInBounds_toArray, List.set_cons_zero, List.set_cons_succ]
                        refine wpN_take (i := 1) (d := some 67) rfl rfl (by kernel_rfl) (by kernel_rfl) (by kernel_rfl) (fun _ _ _ h => h) (sure_value (v := .slice (some ⟨wb, wo, none⟩) N1.length c1) (by rfl) (fun v1 h1 => by first | rfl | (go_simp; done) | (go_simp; intro h9; exact absurd h9 (by omega)) | (go_simp; assumption))) (Only.refl _ _) ?_
                        simp only [Act.put, List.setIfInBounds_toArray, List.set_cons_zero, List.set_cons_succ]
                        refine wpN_take (i := 2) (d := some 68) rfl rfl (by kernel_rfl) (by kernel_rfl) (by kernel_rfl) (fun _ _ _ h => h) (sure_value (v := .int .i64 N1.length) (by rfl) (fun v1 h1 => by first | rfl | (go_simp; done) | (go_simp; intro h9; exact absurd h9 (by omega)) | (go_simp; assumption))) (Only.refl _ _) ?_
                        simp only [Act.put, List.setIfInBounds_toArray, List.set_cons_zero, List.set_cons_succ]
                        refine wpN_take (i := 3) (d := some 69) rfl rfl (by kernel_rfl) (by kernel_rfl) (by kernel_rfl) (fun _ _ _ h => h) (sure_value (v := .bool true) (by rfl) (fun v1 h1 => by first | rfl | (go_simp; done) | (go_simp; intro h9; exact absurd h9 (by omega)) | (go_simp; assumption))) (Only.refl _ _) ?_
                        simp only [Act.put, List.setIfInBounds_toArray, List.set_cons_zero, List.set_cons_succ]
                        refine wpN_take (i := 4) (d := some 70) rfl rfl (by kernel_rfl) (by kernel_rfl) (by kernel_rfl) (fun _ _ _ h => h) (sure_value (v := .bool true) (by rfl) (fun v1 h1 => by first | rfl | (go_simp; done) | (go_simp; intro h9; exact absurd h9 (by omega)) | (go_simp; assumption))) (Only.refl _ _) ?_
                        simp only [Act.put, List.setIfInBounds_toArray, List.set_cons_zero, List.set_cons_succ]
                        refine wpN_take (i := 5) (d := some 71) rfl rfl (by kernel_rfl) (by kernel_rfl) (by kernel_rfl) (fun _ _ _ h => h) (sure_value (v := .slice (some ⟨wb, wo, none⟩) N1.length c1) (by rfl) (fun v1 h1 => by first | rfl | (go_simp; done) | (go_simp; intro h9; exact absurd h9 (by omega)) | (go_simp; assumption))) (Only.refl _ _) ?_
                        simp only [Act.put, List.setIfInBounds_toArray, List.set_cons_zero, List.set_cons_succ]
                        refine wpN_take (i := 6) (d := some 72) rfl rfl (by kernel_rfl) (by kernel_rfl) (by kernel_rfl) (fun _ _ _ h => h) (sure_value (v := .int .i64 (n2 : Int)) (by rfl) (fun v1 h1 => by first | rfl | (go_simp; done) | (go_simp; intro h9; exact absurd h9 (by omega)) | (go_simp; assumption))) (Only.refl _ _) ?_
                        simp only [Act.put, List.setIfInBounds_toArray, List.set_cons_zero, List.set_cons_succ]
                        refine wpN_take (i := 7) (d := some 73) rfl rfl (by kernel_rfl) (by kernel_rfl) (by kernel_rfl) (fun _ _ _ h => h) (sure_value (v := .pointer (some ⟨wb, wo + n2 * 3, none⟩)) (by rfl) (fun v1 h1 => by first | rfl | (go_simp; done) | (go_simp; intro h9; exact absurd h9 (by omega)) | (go_simp; assumption))) (Only.refl _ _) ?_
                        simp only [Act.put, List.setIfInBounds_toArray, List.set_cons_zero, List.set_cons_succ]
                        refine wpN_take (i := 8) (d := some 74) rfl rfl (by kernel_rfl) (by kernel_rfl) (by kernel_rfl) (fun _ _ _ h => h) (sure_value (v := .pointer (some ⟨wb, wo + n2 * 3, none⟩)) (by rfl) (fun v1 h1 => by first | rfl | (go_simp; done) | (go_simp; intro h9; exact absurd h9 (by omega)) | (go_simp; assumption))) (Only.refl _ _) ?_
                        simp only [Act.put, List.setIfInBounds_toArray, List.set_cons_zero, List.set_cons_succ]
                        refine wpN_take (i := 9) (d := some 75) rfl rfl (by kernel_rfl) (by kernel_rfl) (by kernel_rfl) (fun _ _ _ h => h) (sure_value (v := .slice (some ⟨z.blk, 0, none⟩) z.ls.length z.cap) (by rfl) (fun v1 h1 => by have c0 := (CW.out _ (Only.undrew h1)).1; go_simp)) (Only.refl _ _) ?_
                        simp only [Act.put, List.setIfInBounds_toArray, List.set_cons_zero, List.set_cons_succ]
                        refine wpN_take (i := 10) (d := some 76) rfl rfl (by kernel_rfl) (by kernel_rfl) (by kernel_rfl) (fun _ _ _ h => h) (sure_value (v := .pointer (some ⟨w.heap.size, 0, none⟩)) (by rfl) (fun v1 h1 => by first | rfl | (go_simp; done) | (go_simp; intro h9; exact absurd h9 (by omega)) | (go_simp; assumption))) (Only.refl _ _) ?_
                        simp only [Act.put, List.setIfInBounds_toArray, List.set_cons_zero, List.set_cons_succ]
                        refine wpN_take (i := 11) (d := some 77) rfl rfl (by kernel_rfl) (by kernel_rfl) (by kernel_rfl) (fun _ _ _ h => h) (sure_lit (v := .slice LA l.length lc) (i := 0) B3j.out.drew rfl (fun h => h) (by rfl) (fun _ h => by go_simp)) (Only.refl _ _) ?_
                        simp only [Act.put, List.setIfInBounds_toArray, List.set_cons_zero, List.set_cons_succ]
                        refine wpN_take (i := 12) (d := some 78) rfl rfl (by kernel_rfl) (by kernel_rfl) (by kernel_rfl) (fun _ _ _ h => h) (sure_call (v := .bool false) (fun w' h' => by have := lsame_q (some ⟨z.blk, 0, none⟩) LA z.cap lc z.ls l w' _ _ (LZ.out.noth (Only.undrew h')) (HP.out.noth (OJ.out.tr (Only.undrew h'))); rw [HZQ.out] at this; exact this) (by rfl) (fun _ => by go_simp)) (Only.refl _ _) ?_
                        simp only [Act.put, List.setIfInBounds_toArray, List.set_cons_zero, List.set_cons_succ]
                        refine wpN_take (i := 13) (d := some 79) rfl rfl (by kernel_rfl) (by kernel_rfl) (by kernel_rfl) (fun _ _ _ h => h) (sure_value (v := .bool false) (by rfl) (fun v1 h1 => by first | rfl | (go_simp; done) | (go_simp; intro h9; exact absurd h9 (by omega)) | (go_simp; assumption))) (Only.refl _ _) ?_
                        simp only [Act.put, List.setIfInBounds_toArray, List.set_cons_zero, List.set_cons_succ]
                        refine wpN_take (i := 14) (d := some 80) rfl rfl (by kernel_rfl) (by kernel_rfl) (by kernel_rfl) (fun _ _ _ h => h) (sure_value (v := .bool false) (by rfl) (fun v1 h1 => by first | rfl | (go_simp; done) | (go_simp; intro h9; exact absurd h9 (by omega)) | (go_simp; assumption))) (Only.refl _ _) ?_
                        simp only [Act.put, List.setIfInBounds_toArray, List.set_cons_zero, List.set_cons_succ]
                        refine wpN_take (i := 15) (d := some 81) rfl rfl (by kernel_rfl) (by kernel_rfl) (by kernel_rfl) (fun _ _ _ h => h) (sure_skip (by rfl)) (Only.refl _ _) ?_
                        simp only [Act.put, List.setIfInBounds_toArray, List.set_cons_zero, List.set_cons_succ]
                        refine wpN_take (i := 16) (d := some 82) rfl rfl (by kernel_rfl) (by kernel_rfl) (by kernel_rfl) (fun _ _ _ h => h) (sure_skip (by rfl)) (Only.refl _ _) ?_
                        simp only [Act.put, List.setIfInBounds_toArray, List.set_cons_zero, List.set_cons_succ]
                        refine wpN_take (i := 17) (d := some 83) rfl rfl (by kernel_rfl) (by kernel_rfl) (by kernel_rfl) (fun _ _ _ h => h) (sure_value (v := .bool false) (by rfl) (fun v1 h1 => by first | rfl | (go_simp; done) | (go_simp; intro h9; exact absurd h9 (by omega)) | (go_simp; assumption))) (Only.refl _ _) ?_
                        simp only [Act.put, List.setIfInBounds_toArray, List.set_cons_zero, List.set_cons_succ]
                        refine wpN_done (by kernel_rfl) (fun wc ho => ?_) _
                        have OC := Lib.hid (ONJ.out.tr (Only.undrew ho))
                        replace CW := Lib.hid (fun W (hW : Only Noth wc W) => (show _ ∧ _ ∧ _ from CW.out W ((Only.undrew ho).tr hW)))
                        replace LZ := Lib.hid (LZ.out.noth (Only.undrew ho))
                        replace CNk := Lib.hid (fun W (hW : Only Noth wc W) => (show _ ∧ _ ∧ _ from CNk.out W ((Only.undrew ho).tr hW)))
                        replace LYk := Lib.hid (LYk.out.noth (Only.undrew ho))
                        clear ho
                        go_upto_region 18 with fail
                        refine wp_region_N Noth (by kernel_rfl) ?_
                        refine wpN_take (i := 0) (d := some 86) rfl rfl (by kernel_rfl) (by kernel_rfl) (by kernel_rfl) (fun _ _ _ h => h) (sure_value (v := .int .i64 (n2 : Int)) (by rfl) (fun v1 h1 => by first | rfl | (go_simp; done) | (go_simp; intro h9; exact absurd h9 (by omega)) | (go_simp; assumption))) (Only.refl _ _) ?_
                        simp only [Act.put, List.setIfInBounds_toArray, List.set_cons_zero, List.set_cons_succ]
                        refine wpN_take (i := 1) (d := some 87) rfl rfl (by kernel_rfl) (by kernel_rfl) (by kernel_rfl) (fun _ _ _ h => h) (sure_value (v := .slice (some ⟨wb, wo, none⟩) N1.length c1) (by rfl) (fun v1 h1 => by first | rfl | (go_simp; done) | (go_simp; intro h9; exact absurd h9 (by omega)) | (go_simp; assumption))) (Only.refl _ _) ?_
                        simp only [Act.put, List.setIfInBounds_toArray, List.set_cons_zero, List.set_cons_succ]
                        refine wpN_take (i := 2) (d := some 88) rfl rfl (by kernel_rfl) (by kernel_rfl) (by kernel_rfl) (fun _ _ _ h => h) (sure_value (v := .int .i64 N1.length) (by rfl) (fun v1 h1 => by first | rfl | (go_simp; done) | (go_simp; intro h9; exact absurd h9 (by omega)) | (go_simp; assumption))) (Only.refl _ _) ?_
                        simp only [Act.put, List.setIfInBounds_toArray, List.set_cons_zero, List.set_cons_succ]
                        refine wpN_take (i := 3) (d := some 89) rfl rfl (by kernel_rfl) (by kernel_rfl) (by kernel_rfl) (fun _ _ _ h => h) (sure_value (v := .bool false) (by rfl) (fun v1 h1 => by first | rfl | (go_simp; done) | (go_simp; intro h9; exact absurd h9 (by omega)) | (go_simp; assumption))) (Only.refl _ _) ?_
                        simp only [Act.put, List.setIfInBounds_toArray, List.set_cons_zero, List.set_cons_succ]
                        refine wpN_take (i := 4) (d := some 90) rfl rfl (by kernel_rfl) (by kernel_rfl) (by kernel_rfl) (fun _ _ _ h => h) (sure_value (v := .bool false) (by rfl) (fun v1 h1 => by first | rfl | (go_simp; done) | (go_simp; intro h9; exact absurd h9 (by omega)) | (go_simp; assumption))) (Only.refl _ _) ?_
                        simp only [Act.put, List.setIfInBounds_toArray, List.set_cons_zero, List.set_cons_succ]
                        refine wpN_take (i := 5) (d := some 91) rfl rfl (by kernel_rfl) (by kernel_rfl) (by kernel_rfl) (fun _ _ _ h => h) (sure_value (v := .slice (some ⟨wb, wo, none⟩) N1.length c1) (by rfl) (fun v1 h1 => by first | rfl | (go_simp; done) | (go_simp; intro h9; exact absurd h9 (by omega)) | (go_simp; assumption))) (Only.refl _ _) ?_
                        simp only [Act.put, List.setIfInBounds_toArray, List.set_cons_zero, List.set_cons_succ]
                        refine wpN_take (i := 6) (d := some 92) rfl rfl (by kernel_rfl) (by kernel_rfl) (by kernel_rfl) (fun _ _ _ h => h) (sure_value (v := .int .i64 (n2 : Int)) (by rfl) (fun v1 h1 => by first | rfl | (go_simp; done) | (go_simp; intro h9; exact absurd h9 (by omega)) | (go_simp; assumption))) (Only.refl _ _) ?_
                        simp only [Act.put, List.setIfInBounds_toArray, List.set_cons_zero, List.set_cons_succ]
                        refine wpN_take (i := 7) (d := some 93) rfl rfl (by kernel_rfl) (by kernel_rfl) (by kernel_rfl) (fun _ _ _ h => h) (sure_value (v := .pointer (some ⟨wb, wo + n2 * 3, none⟩)) (by rfl) (fun v1 h1 => by first | rfl | (go_simp; done) | (go_simp; intro h9; exact absurd h9 (by omega)) | (go_simp; assumption))) (Only.refl _ _) ?_
                        simp only [Act.put, List.setIfInBounds_toArray, List.set_cons_zero, List.set_cons_succ]
                        refine wpN_take (i := 8) (d := some 94) rfl rfl (by kernel_rfl) (by kernel_rfl) (by kernel_rfl) (fun _ _ _ h => h) (sure_value (v := .agg z.arr) (by rfl) (fun v1 h1 => by have cc := CW.out _ (Only.undrew h1); have c0 := cc.1; have c1 := cc.2.1; have c2 := cc.2.2; go_simp)) (Only.refl _ _) ?_
                        simp only [Act.put, List.setIfInBounds_toArray, List.set_cons_zero, List.set_cons_succ]
                        refine wpN_take (i := 9) (d := some 95) rfl rfl (by kernel_rfl) (by kernel_rfl) (by kernel_rfl) (fun _ _ _ h => h) (sure_value (v := .slice (some ⟨nb, no, none⟩) N2.length c2) (by rfl) (fun v1 h1 => by first | rfl | (go_simp; done) | (go_simp; intro h9; exact absurd h9 (by omega)) | (go_simp; assumption))) (Only.refl _ _) ?_
                        simp only [Act.put, List.setIfInBounds_toArray, List.set_cons_zero, List.set_cons_succ]
                        refine wpN_take (i := 10) (d := some 96) rfl rfl (by kernel_rfl) (by kernel_rfl) (by kernel_rfl) (fun _ _ _ h => h) (sure_value (v := .int .i64 (i : Int)) (by rfl) (fun v1 h1 => by first | rfl | (go_simp; done) | (go_simp; intro h9; exact absurd h9 (by omega)) | (go_simp; assumption))) (Only.refl _ _) ?_
                        simp only [Act.put, List.setIfInBounds_toArray, List.set_cons_zero, List.set_cons_succ]
                        refine wpN_take (i := 11) (d := some 97) rfl rfl (by kernel_rfl) (by kernel_rfl) (by kernel_rfl) (fun _ _ _ h => h) (sure_value (v := .pointer (some ⟨nb, no + i * 3, none⟩)) (by rfl) (fun v1 h1 => by first | rfl | (go_simp; done) | (go_simp; intro h9; exact absurd h9 (by omega)) | (go_simp; assumption))) (Only.refl _ _) ?_
                        simp only [Act.put, List.setIfInBounds_toArray, List.set_cons_zero, List.set_cons_succ]
                        refine wpN_take (i := 12) (d := some 98) rfl rfl (by kernel_rfl) (by kernel_rfl) (by kernel_rfl) (fun _ _ _ h => h) (sure_value (v := .agg y.arr) (by rfl) (fun v1 h1 => by have cc := CNk.out _ (Only.undrew h1); have c0 := cc.1; have c1 := cc.2.1; have c2 := cc.2.2; go_simp)) (Only.refl _ _) ?_
                        simp only [Act.put, List.setIfInBounds_toArray, List.set_cons_zero, List.set_cons_succ]
                        refine wpN_take (i := 13) (d := some 99) rfl rfl (by kernel_rfl) (by kernel_rfl) (by kernel_rfl) (fun _ _ _ h => h) (sure_call (v := .bool true) (fun w' h' => by have := rsamea_run (some ⟨z.blk, 0, none⟩) (some ⟨y.blk, 0, none⟩) z.cap y.cap z.ls y.ls z.st z.en y.st y.en w' _ _ (LZ.out.noth (Only.undrew h')) (LYk.out.noth (Only.undrew h')); rw [show sameQ (z.ls, z.st, z.en) (y.ls, y.st, y.en) = true from sameQ_iff.2 HZY.out] at this; exact this) (by rfl) (fun _ => by go_simp)) (Only.refl _ _) ?_
                        simp only [Act.put, List.setIfInBounds_toArray, List.set_cons_zero, List.set_cons_succ]
                        refine wpN_take (i := 14) (d := some 100) rfl rfl (by kernel_rfl) (by kernel_rfl) (by kernel_rfl) (fun _ _ _ h => h) (sure_value (v := .bool false) (by rfl) (fun v1 h1 => by first | rfl | (go_simp; done) | (go_simp; intro h9; exact absurd h9 (by omega)) | (go_simp; assumption))) (Only.refl _ _) ?_
                        simp only [Act.put, List.setIfInBounds_toArray, List.set_cons_zero, List.set_cons_succ]
                        refine wpN_take (i := 15) (d := some 101) rfl rfl (by kernel_rfl) (by kernel_rfl) (by kernel_rfl) (fun _ _ _ h => h) (sure_value (v := .bool false) (by rfl) (fun v1 h1 => by first | rfl | (go_simp; done) | (go_simp; intro h9; exact absurd h9 (by omega)) | (go_simp; assumption))) (Only.refl _ _) ?_
                        simp only [Act.put, List.setIfInBounds_toArray, List.set_cons_zero, List.set_cons_succ]
                        refine wpN_done (by kernel_rfl) (fun wd ho => ?_) _
                        have OD := Lib.hid (OC.out.tr (Only.undrew ho))
                        clear ho
                        go_wp2_with fail
                        go_roundw
                        case rel => exact ⟨n2 + 1, i + 1, by omega, by go_num, by go_num, BN.out, OD.out⟩
                        case measure => simp [RowKit.intOf]; omega
                      · have hnx := BJ.out.next HALL.out HY.out HPT.out (fun u hu => by first | rfl | (rw [HZ.out] at hu; injection hu with hu; subst hu; simp [HPZ.out]))
                        have HZY := Lib.hid (show z.core = y.core from by have h1 := hnx.2.1; rw [HZ.out] at h1; exact Option.some.inj h1)
                        have BN := Lib.hid hnx.2.2
                        clear hnx
                        go_upto_region 16 with fail
                        refine wp_region_N Noth (by kernel_rfl) ?_
                        refine wpN_take (i := 0) (d := some 66) rfl rfl (by kernel_rfl) (by kernel_rfl) (by kernel_rfl) (fun _ _ _ h => h) (sure_value (v := .int .i64 (n2 : Int)) (by rfl) (fun v1 h1 => by first | rfl | (go_simp; done) | (go_simp; intro h9; exact absurd h9 (by omega)) | (go_simp; assumption))) (Only.refl _ _) ?_
                        simp only [Act.put, List.setIfInBounds_toArray, List.set_cons_zero, List.set_cons_succ]
                        refine wpN_take (i := 1) (d := some 67) rfl rfl (by kernel_rfl) (by kernel_rfl) (by kernel_rfl) (fun _ _ _ h => h) (sure_value (v := .slice (some ⟨wb, wo, none⟩) N1.length c1) (by rfl) (fun v1 h1 => by first | rfl | (go_simp; done) | (go_simp; intro h9; exact absurd h9 (by omega)) | (go_simp; assumption))) (Only.refl _ _) ?_
                        simp only [Act.put, List.setIfInBounds_toArray, List.set_cons_zero, List.set_cons_succ]
                        refine wpN_take (i := 2) (d := some 68) rfl rfl (by kernel_rfl) (by kernel_rfl) (by kernel_rfl) (fun _ _ _ h => h) (sure_value (v := .int .i64 N1.length) (by rfl) (fun v1 h1 => by first | rfl | (go_simp; done) | (go_simp; intro h9; exact absurd h9 (by omega)) | (go_simp; assumption))) (Only.refl _ _) ?_
                        simp only [Act.put, List.setIfInBounds_toArray, List.set_cons_zero, List.set_cons_succ]
                        refine wpN_take (i := 3) (d := some 69) rfl rfl (by kernel_rfl) (by kernel_rfl) (by kernel_rfl) (fun _ _ _ h => h) (sure_value (v := .bool true) (by rfl) (fun v1 h1 => by first | rfl | (go_simp; done) | (go_simp; intro h9; exact absurd h9 (by omega)) | (go_simp; assumption))) (Only.refl _ _) ?_
                        simp only [Act.put, List.setIfInBounds_toArray, List.set_cons_zero, List.set_cons_succ]
                        refine wpN_take (i := 4) (d := some 70) rfl rfl (by kernel_rfl) (by kernel_rfl) (by kernel_rfl) (fun _ _ _ h => h) (sure_value (v := .bool true) (by rfl) (fun v1 h1 => by first | rfl | (go_simp; done) | (go_simp; intro h9; exact absurd h9 (by omega)) | (go_simp; assumption))) (Only.refl _ _) ?_
                        simp only [Act.put, List.setIfInBounds_toArray, List.set_cons_zero, List.set_cons_succ]
                        refine wpN_take (i := 5) (d := some 71) rfl rfl (by kernel_rfl) (by kernel_rfl) (by kernel_rfl) (fun _ _ _ h => h) (sure_value (v := .slice (some ⟨wb, wo, none⟩) N1.length c1) (by rfl) (fun v1 h1 => by first | rfl | (go_simp; done) | (go_simp; intro h9; exact absurd h9 (by omega)) | (go_simp; assumption))) (Only.refl _ _) ?_
                        simp only [Act.put, List.setIfInBounds_toArray, List.set_cons_zero, List.set_cons_succ]
                        refine wpN_take (i := 6) (d := some 72) rfl rfl (by kernel_rfl) (by kernel_rfl) (by kernel_rfl) (fun _ _ _ h => h) (sure_value (v := .int .i64 (n2 : Int)) (by rfl) (fun v1 h1 => by first | rfl | (go_simp; done) | (go_simp; intro h9; exact absurd h9 (by omega)) | (go_simp; assumption))) (Only.refl _ _) ?_
                        simp only [Act.put, List.setIfInBounds_toArray, List.set_cons_zero, List.set_cons_succ]
                        refine wpN_take (i := 7) (d := some 73) rfl rfl (by kernel_rfl) (by kernel_rfl) (by kernel_rfl) (fun _ _ _ h => h) (sure_value (v := .pointer (some ⟨wb, wo + n2 * 3, none⟩)) (by rfl) (fun v1 h1 => by first | rfl | (go_simp; done) | (go_simp; intro h9; exact absurd h9 (by omega)) | (go_simp; assumption))) (Only.refl _ _) ?_
                        simp only [Act.put, List.setIfInBounds_toArray, List.set_cons_zero, List.set_cons_succ]
                        refine wpN_take (i := 8) (d := some 74) rfl rfl (by kernel_rfl) (by kernel_rfl) (by kernel_rfl) (fun _ _ _ h => h) (sure_value (v := .pointer (some ⟨wb, wo + n2 * 3, none⟩)) (by rfl) (fun v1 h1 => by first | rfl | (go_simp; done) | (go_simp; intro h9; exact absurd h9 (by omega)) | (go_simp; assumption))) (Only.refl _ _) ?_
                        simp only [Act.put, List.setIfInBounds_toArray, List.set_cons_zero, List.set_cons_succ]
                        refine wpN_take (i := 9) (d := some 75) rfl rfl (by kernel_rfl) (by kernel_rfl) (by kernel_rfl) (fun _ _ _ h => h) (sure_value (v := .slice (some ⟨z.blk, 0, none⟩) z.ls.length z.cap) (by rfl) (fun v1 h1 => by have c0 := (CW.out _ (Only.undrew h1)).1; go_simp)) (Only.refl _ _) ?_
                        simp only [Act.put, List.setIfInBounds_toArray, List.set_cons_zero, List.set_cons_succ]
                        refine wpN_take (i := 10) (d := some 76) rfl rfl (by kernel_rfl) (by kernel_rfl) (by kernel_rfl) (fun _ _ _ h => h) (sure_value (v := .pointer (some ⟨w.heap.size, 0, none⟩)) (by rfl) (fun v1 h1 => by first | rfl | (go_simp; done) | (go_simp; intro h9; exact absurd h9 (by omega)) | (go_simp; assumption))) (Only.refl _ _) ?_
                        simp only [Act.put, List.setIfInBounds_toArray, List.set_cons_zero, List.set_cons_succ]
                        refine wpN_take (i := 11) (d := some 77) rfl rfl (by kernel_rfl) (by kernel_rfl) (by kernel_rfl) (fun _ _ _ h => h) (sure_lit (v := .slice LA l.length lc) (i := 0) B3j.out.drew rfl (fun h => h) (by rfl) (fun _ h => by go_simp)) (Only.refl _ _) ?_
                        simp only [Act.put, List.setIfInBounds_toArray, List.set_cons_zero, List.set_cons_succ]
                        refine wpN_take (i := 12) (d := some 78) rfl rfl (by kernel_rfl) (by kernel_rfl) (by kernel_rfl) (fun _ _ _ h => h) (sure_call (v := .bool true) (fun w' h' => by have := lsame_q (some ⟨z.blk, 0, none⟩) LA z.cap lc z.ls l w' _ _ (LZ.out.noth (Only.undrew h')) (HP.out.noth (OJ.out.tr (Only.undrew h'))); rw [HZQ.out] at this; exact this) (by rfl) (fun _ => by go_simp)) (Only.refl _ _) ?_
                        simp only [Act.put, List.setIfInBounds_toArray, List.set_cons_zero, List.set_cons_succ]
                        refine wpN_take (i := 13) (d := some 79) rfl rfl (by kernel_rfl) (by kernel_rfl) (by kernel_rfl) (fun _ _ _ h => h) (sure_value (v := .bool true) (by rfl) (fun v1 h1 => by first | rfl | (go_simp; done) | (go_simp; intro h9; exact absurd h9 (by omega)) | (go_simp; assumption))) (Only.refl _ _) ?_
                        simp only [Act.put, List.setIfInBounds_toArray, List.set_cons_zero, List.set_cons_succ]
                        refine wpN_take (i := 14) (d := some 80) rfl rfl (by kernel_rfl) (by kernel_rfl) (by kernel_rfl) (fun _ _ _ h => h) (sure_value (v := .bool true) (by rfl) (fun v1 h1 => by first | rfl | (go_simp; done) | (go_simp; intro h9; exact absurd h9 (by omega)) | (go_simp; assumption))) (Only.refl _ _) ?_
                        simp only [Act.put, List.setIfInBounds_toArray, List.set_cons_zero, List.set_cons_succ]
                        refine wpN_take (i := 15) (d := some 81) rfl rfl (by kernel_rfl) (by kernel_rfl) (by kernel_rfl) (fun _ _ _ h => h) (sure_value (v := .int .i64 er) (by rfl) (fun v1 h1 => by first | rfl | (go_simp; done) | (go_simp; intro h9; exact absurd h9 (by omega)) | (go_simp; assumption))) (Only.refl _ _) ?_
                        simp only [Act.put, List.setIfInBounds_toArray, List.set_cons_zero, List.set_cons_succ]
                        refine wpN_take (i := 16) (d := some 82) rfl rfl (by kernel_rfl) (by kernel_rfl) (by kernel_rfl) (fun _ _ _ h => h) (sure_value (v := .bool false) (by rfl) (fun v1 h1 => by first | rfl | (go_simp; done) | (go_simp; intro h9; exact absurd h9 (by omega)) | (go_simp; assumption))) (Only.refl _ _) ?_
                        simp only [Act.put, List.setIfInBounds_toArray, List.set_cons_zero, List.set_cons_succ]
                        refine wpN_take (i := 17) (d := some 83) rfl rfl (by kernel_rfl) (by kernel_rfl) (by kernel_rfl) (fun _ _ _ h => h) (sure_value (v := .bool false) (by rfl) (fun v1 h1 => by first | rfl | (go_simp; done) | (go_simp; intro h9; exact absurd h9 (by omega)) | (go_simp; assumption))) (Only.refl _ _) ?_
                        simp only [Act.put, List.setIfInBounds_toArray, List.set_cons_zero, List.set_cons_succ]
                        refine wpN_done (by kernel_rfl) (fun wc ho => ?_) _
                        have OC := Lib.hid (ONJ.out.tr (Only.undrew ho))
                        replace CW := Lib.hid (fun W (hW : Only Noth wc W) => (show _ ∧ _ ∧ _ from CW.out W ((Only.undrew ho).tr hW)))
                        replace LZ := Lib.hid (LZ.out.noth (Only.undrew ho))
                        replace CNk := Lib.hid (fun W (hW : Only Noth wc W) => (show _ ∧ _ ∧ _ from CNk.out W ((Only.undrew ho).tr hW)))
                        replace LYk := Lib.hid (LYk.out.noth (Only.undrew ho))
                        clear ho
                        go_upto_region 18 with fail
                        refine wp_region_N Noth (by kernel_rfl) ?_
                        refine wpN_take (i := 0) (d := some 86) rfl rfl (by kernel_rfl) (by kernel_rfl) (by kernel_rfl) (fun _ _ _ h => h) (sure_value (v := .int .i64 (n2 : Int)) (by rfl) (fun v1 h1 => by first | rfl | (go_simp; done) | (go_simp; intro h9; exact absurd h9 (by omega)) | (go_simp; assumption))) (Only.refl _ _) ?_
                        simp only [Act.put, List.setIfInBounds_toArray, List.set_cons_zero, List.set_cons_succ]
                        refine wpN_take (i := 1) (d := some 87) rfl rfl (by kernel_rfl) (by kernel_rfl) (by kernel_rfl) (fun _ _ _ h => h) (sure_value (v := .slice (some ⟨wb, wo, none⟩) N1.length c1) (by rfl) (fun v1 h1 => by first | rfl | (go_simp; done) | (go_simp; intro h9; exact absurd h9 (by omega)) | (go_simp; assumption))) (Only.refl _ _) ?_
                        simp only [Act.put, List.setIfInBounds_toArray, List.set_cons_zero, List.set_cons_succ]
                        refine wpN_take (i := 2) (d := some 88) rfl rfl (by kernel_rfl) (by kernel_rfl) (by kernel_rfl) (fun _ _ _ h => h) (sure_value (v := .int .i64 N1.length) (by rfl) (fun v1 h1 => by first | rfl | (go_simp; done) | (go_simp; intro h9; exact absurd h9 (by omega)) | (go_simp; assumption))) (Only.refl _ _) ?_
                        simp only [Act.put, List.setIfInBounds_toArray, List.set_cons_zero, List.set_cons_succ]
                        refine wpN_take (i := 3) (d := some 89) rfl rfl (by kernel_rfl) (by kernel_rfl) (by kernel_rfl) (fun _ _ _ h => h) (sure_value (v := .bool false) (by rfl) (fun v1 h1 => by first | rfl | (go_simp; done) | (go_simp; intro h9; exact absurd h9 (by omega)) | (go_simp; assumption))) (Only.refl _ _) ?_
                        simp only [Act.put, List.setIfInBounds_toArray, List.set_cons_zero, List.set_cons_succ]
                        refine wpN_take (i := 4) (d := some 90) rfl rfl (by kernel_rfl) (by kernel_rfl) (by kernel_rfl) (fun _ _ _ h => h) (sure_value (v := .bool false) (by rfl) (fun v1 h1 => by first | rfl | (go_simp; done) | (go_simp; intro h9; exact absurd h9 (by omega)) | (go_simp; assumption))) (Only.refl _ _) ?_
                        simp only [Act.put, List.setIfInBounds_toArray, List.set_cons_zero, List.set_cons_succ]
                        refine wpN_take (i := 5) (d := some 91) rfl rfl (by kernel_rfl) (by kernel_rfl) (by kernel_rfl) (fun _ _ _ h => h) (sure_value (v := .slice (some ⟨wb, wo, none⟩) N1.length c1) (by rfl) (fun v1 h1 => by first | rfl | (go_simp; done) | (go_simp; intro h9; exact absurd h9 (by omega)) | (go_simp; assumption))) (Only.refl _ _) ?_
                        simp only [Act.put, List.setIfInBounds_toArray, List.set_cons_zero, List.set_cons_succ]
                        refine wpN_take (i := 6) (d := some 92) rfl rfl (by kernel_rfl) (by kernel_rfl) (by kernel_rfl) (fun _ _ _ h => h) (sure_value (v := .int .i64 (n2 : Int)) (by rfl) (fun v1 h1 => by first | rfl | (go_simp; done) | (go_simp; intro h9; exact absurd h9 (by omega)) | (go_simp; assumption))) (Only.refl _ _) ?_
                        simp only [Act.put, List.setIfInBounds_toArray, List.set_cons_zero, List.set_cons_succ]
                        refine wpN_take (i := 7) (d := some 93) rfl rfl (by kernel_rfl) (by kernel_rfl) (by kernel_rfl) (fun _ _ _ h => h) (sure_value (v := .pointer (some ⟨wb, wo + n2 * 3, none⟩)) (by rfl) (fun v1 h1 => by first | rfl | (go_simp; done) | (go_simp; intro h9; exact absurd h9 (by omega)) | (go_simp; assumption))) (Only.refl _ _) ?_
                        simp only [Act.put, List.setIfInBounds_toArray, List.set_cons_zero, List.set_cons_succ]
                        refine wpN_take (i := 8) (d := some 94) rfl rfl (by kernel_rfl) (by kernel_rfl) (by kernel_rfl) (fun _ _ _ h => h) (sure_value (v := .agg z.arr) (by rfl) (fun v1 h1 => by have cc := CW.out _ (Only.undrew h1); have c0 := cc.1; have c1 := cc.2.1; have c2 := cc.2.2; go_simp)) (Only.refl _ _) ?_
                        simp only [Act.put, List.setIfInBounds_toArray, List.set_cons_zero, List.set_cons_succ]
                        refine wpN_take (i := 9) (d := some 95) rfl rfl (by kernel_rfl) (by kernel_rfl) (by kernel_rfl) (fun _ _ _ h => h) (sure_value (v := .slice (some ⟨nb, no, none⟩) N2.length c2) (by rfl) (fun v1 h1 => by first | rfl | (go_simp; done) | (go_simp; intro h9; exact absurd h9 (by omega)) | (go_simp; assumption))) (Only.refl _ _) ?_
                        simp only [Act.put, List.setIfInBounds_toArray, List.set_cons_zero, List.set_cons_succ]
                        refine wpN_take (i := 10) (d := some 96) rfl rfl (by kernel_rfl) (by kernel_rfl) (by kernel_rfl) (fun _ _ _ h => h) (sure_value (v := .int .i64 (i : Int)) (by rfl) (fun v1 h1 => by first | rfl | (go_simp; done) | (go_simp; intro h9; exact absurd h9 (by omega)) | (go_simp; assumption))) (Only.refl _ _) ?_
                        simp only [Act.put, List.setIfInBounds_toArray, List.set_cons_zero, List.set_cons_succ]
                        refine wpN_take (i := 11) (d := some 97) rfl rfl (by kernel_rfl) (by kernel_rfl) (by kernel_rfl) (fun _ _ _ h => h) (sure_value (v := .pointer (some ⟨nb, no + i * 3, none⟩)) (by rfl) (fun v1 h1 => by first | rfl | (go_simp; done) | (go_simp; intro h9; exact absurd h9 (by omega)) | (go_simp; assumption))) (Only.refl _ _) ?_
                        simp only [Act.put, List.setIfInBounds_toArray, List.set_cons_zero, List.set_cons_succ]
                        refine wpN_take (i := 12) (d := some 98) rfl rfl (by kernel_rfl) (by kernel_rfl) (by kernel_rfl) (fun _ _ _ h => h) (sure_value (v := .agg y.arr) (by rfl) (fun v1 h1 => by have cc := CNk.out _ (Only.undrew h1); have c0 := cc.1; have c1 := cc.2.1; have c2 := cc.2.2; go_simp)) (Only.refl _ _) ?_
                        simp only [Act.put, List.setIfInBounds_toArray, List.set_cons_zero, List.set_cons_succ]
                        refine wpN_take (i := 13) (d := some 99) rfl rfl (by kernel_rfl) (by kernel_rfl) (by kernel_rfl) (fun _ _ _ h => h) (sure_call (v := .bool true) (fun w' h' => by have := rsamea_run (some ⟨z.blk, 0, none⟩) (some ⟨y.blk, 0, none⟩) z.cap y.cap z.ls y.ls z.st z.en y.st y.en w' _ _ (LZ.out.noth (Only.undrew h')) (LYk.out.noth (Only.undrew h')); rw [show sameQ (z.ls, z.st, z.en) (y.ls, y.st, y.en) = true from sameQ_iff.2 HZY.out] at this; exact this) (by rfl) (fun _ => by go_simp)) (Only.refl _ _) ?_
                        simp only [Act.put, List.setIfInBounds_toArray, List.set_cons_zero, List.set_cons_succ]
                        refine wpN_take (i := 14) (d := some 100) rfl rfl (by kernel_rfl) (by kernel_rfl) (by kernel_rfl) (fun _ _ _ h => h) (sure_value (v := .bool false) (by rfl) (fun v1 h1 => by first | rfl | (go_simp; done) | (go_simp; intro h9; exact absurd h9 (by omega)) | (go_simp; assumption))) (Only.refl _ _) ?_
                        simp only [Act.put, List.setIfInBounds_toArray, List.set_cons_zero, List.set_cons_succ]
                        refine wpN_take (i := 15) (d := some 101) rfl rfl (by kernel_rfl) (by kernel_rfl) (by kernel_rfl) (fun _ _ _ h => h) (sure_value (v := .bool false) (by rfl) (fun v1 h1 => by first | rfl | (go_simp; done) | (go_simp; intro h9; exact absurd h9 (by omega)) | (go_simp; assumption))) (Only.refl _ _) ?_
                        simp only [Act.put, List.setIfInBounds_toArray, List.set_cons_zero, List.set_cons_succ]
                        refine wpN_done (by kernel_rfl) (fun wd ho => ?_) _
                        have OD := Lib.hid (OC.out.tr (Only.undrew ho))
                        clear ho
                        go_wp2_with fail
                        go_roundw
                        case rel => exact ⟨n2 + 1, i + 1, by omega, by go_num, by go_num, BN.out, OD.out⟩
                        case measure => simp [RowKit.intOf]; omega
                    · obtain rfl : n2 = N1.length := by omega
                      have hnx := BJ.out.next HALL.out HY.out HPT.out (fun u hu => by rw [List.getElem?_eq_none_iff.2 (by simp)] at hu; cases hu)
                      exact absurd hnx.1 (by simp)
                · go_upto_region 15 with fail
                  refine wp_region_N Noth (by kernel_rfl) ?_
                  refine wpN_take (i := 0) (d := some 54) rfl rfl (by kernel_rfl) (by kernel_rfl) (by kernel_rfl) (fun _ _ _ h => h) (sure_value (v := .slice (some ⟨nb, no, none⟩) N2.length c2) (by rfl) (fun v1 h1 => by first | rfl | (go_simp; done) | (go_simp; intro h9; exact absurd h9 (by omega)) | (go_simp; assumption))) (Only.refl _ _) ?_
                  simp only [Act.put, List.setIfInBounds_toArray, List.set_cons_zero, List.set_cons_succ]
                  refine wpN_take (i := 1) (d := some 55) rfl rfl (by kernel_rfl) (by kernel_rfl) (by kernel_rfl) (fun _ _ _ h => h) (sure_value (v := .int .i64 (i : Int)) (by rfl) (fun v1 h1 => by first | rfl | (go_simp; done) | (go_simp; intro h9; exact absurd h9 (by omega)) | (go_simp; assumption))) (Only.refl _ _) ?_
                  simp only [Act.put, List.setIfInBounds_toArray, List.set_cons_zero, List.set_cons_succ]
                  refine wpN_take (i := 2) (d := some 56) rfl rfl (by kernel_rfl) (by kernel_rfl) (by kernel_rfl) (fun _ _ _ h => h) (sure_value (v := .pointer (some ⟨nb, no + i * 3, none⟩)) (by rfl) (fun v1 h1 => by first | rfl | (go_simp; done) | (go_simp; intro h9; exact absurd h9 (by omega)) | (go_simp; assumption))) (Only.refl _ _) ?_
                  simp only [Act.put, List.setIfInBounds_toArray, List.set_cons_zero, List.set_cons_succ]
                  refine wpN_take (i := 3) (d := some 57) rfl rfl (by kernel_rfl) (by kernel_rfl) (by kernel_rfl) (fun _ _ _ h => h) (sure_value (v := .pointer (some ⟨nb, no + i * 3, none⟩)) (by rfl) (fun v1 h1 => by first | rfl | (go_simp; done) | (go_simp; intro h9; exact absurd h9 (by omega)) | (go_simp; assumption))) (Only.refl _ _) ?_
                  simp only [Act.put, List.setIfInBounds_toArray, List.set_cons_zero, List.set_cons_succ]
                  refine wpN_take (i := 4) (d := some 58) rfl rfl (by kernel_rfl) (by kernel_rfl) (by kernel_rfl) (fun _ _ _ h => h) (sure_value (v := .slice (some ⟨y.blk, 0, none⟩) y.ls.length y.cap) (by rfl) (fun v1 h1 => by have c0 := (CN.out _ (Only.undrew h1)).1; go_simp)) (Only.refl _ _) ?_
                  simp only [Act.put, List.setIfInBounds_toArray, List.set_cons_zero, List.set_cons_succ]
                  refine wpN_take (i := 5) (d := some 59) rfl rfl (by kernel_rfl) (by kernel_rfl) (by kernel_rfl) (fun _ _ _ h => h) (sure_value (v := .pointer (some ⟨w.heap.size, 0, none⟩)) (by rfl) (fun v1 h1 => by first | rfl | (go_simp; done) | (go_simp; intro h9; exact absurd h9 (by omega)) | (go_simp; assumption))) (Only.refl _ _) ?_
                  simp only [Act.put, List.setIfInBounds_toArray, List.set_cons_zero, List.set_cons_succ]
                  refine wpN_take (i := 6) (d := some 60) rfl rfl (by kernel_rfl) (by kernel_rfl) (by kernel_rfl) (fun _ _ _ h => h) (sure_lit (v := .slice LA l.length lc) (i := 0) B3.out.drew rfl (fun h => h) (by rfl) (fun _ h => by go_simp)) (Only.refl _ _) ?_
                  simp only [Act.put, List.setIfInBounds_toArray, List.set_cons_zero, List.set_cons_succ]
                  refine wpN_take (i := 7) (d := some 61) rfl rfl (by kernel_rfl) (by kernel_rfl) (by kernel_rfl) (fun _ _ _ h => h) (sure_call (v := .bool true) (fun w' h' => by have := lsame_q (some ⟨y.blk, 0, none⟩) LA y.cap lc y.ls l w' _ _ (LY.out.noth (Only.undrew h')) (HP.out.noth (OI.out.tr (Only.undrew h'))); rw [HSQ.out] at this; exact this) (by rfl) (fun _ => by go_simp)) (Only.refl _ _) ?_
                  simp only [Act.put, List.setIfInBounds_toArray, List.set_cons_zero, List.set_cons_succ]
                  refine wpN_take (i := 8) (d := some 62) rfl rfl (by kernel_rfl) (by kernel_rfl) (by kernel_rfl) (fun _ _ _ h => h) (sure_value (v := .bool true) (by rfl) (fun v1 h1 => by first | rfl | (go_simp; done) | (go_simp; intro h9; exact absurd h9 (by omega)) | (go_simp; assumption))) (Only.refl _ _) ?_
                  simp only [Act.put, List.setIfInBounds_toArray, List.set_cons_zero, List.set_cons_succ]
                  refine wpN_take (i := 9) (d := some 63) rfl rfl (by kernel_rfl) (by kernel_rfl) (by kernel_rfl) (fun _ _ _ h => h) (sure_value (v := .int .i64 er) (by rfl) (fun v1 h1 => by first | rfl | (go_simp; done) | (go_simp; intro h9; exact absurd h9 (by omega)) | (go_simp; assumption))) (Only.refl _ _) ?_
                  simp only [Act.put, List.setIfInBounds_toArray, List.set_cons_zero, List.set_cons_succ]
                  refine wpN_take (i := 10) (d := some 64) rfl rfl (by kernel_rfl) (by kernel_rfl) (by kernel_rfl) (fun _ _ _ h => h) (sure_value (v := .bool true) (by rfl) (fun v1 h1 => by first | rfl | (go_simp; done) | (go_simp; intro h9; exact absurd h9 (by omega)) | (go_simp; assumption))) (Only.refl _ _) ?_
                  simp only [Act.put, List.setIfInBounds_toArray, List.set_cons_zero, List.set_cons_succ]
                  refine wpN_take (i := 11) (d := some 65) rfl rfl (by kernel_rfl) (by kernel_rfl) (by kernel_rfl) (fun _ _ _ h => h) (sure_value (v := .bool true) (by rfl) (fun v1 h1 => by first | rfl | (go_simp; done) | (go_simp; intro h9; exact absurd h9 (by omega)) | (go_simp; assumption))) (Only.refl _ _) ?_
                  simp only [Act.put, List.setIfInBounds_toArray, List.set_cons_zero, List.set_cons_succ]
                  refine wpN_done (by kernel_rfl) (fun wa ho => ?_) _
                  have OA := Lib.hid (ON.out.tr (Only.undrew ho))
                  have HPT := Lib.hid (show (!pass l true y.core) = false by rw [HPY.out]; simp)
                  clear ho
                  go_wp2_with fail
                  go_roundw
                  case rel => exact ⟨n2, i + 1, by omega, rfl, by go_num, BO.out.over HY.out HPT.out, OA.out⟩
                  case measure => simp [RowKit.intOf]; omega
            · obtain rfl : i = N2.length := by omega
              go_wp2_with fail
              refine (awake_run _ (TB.out.noth OI.out)).mono ?_
              rintro e wz ⟨rfl, ho⟩
              have OZ := Lib.hid (OI.out.tr ho)
              clear ho
              go_wp2
              go_ret
              exact ⟨rfl, OZ.out⟩
end Go.Proofs.YtokgignmdgejoaaDoor
