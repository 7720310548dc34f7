/- The walk of AlertFires. -/
import Derived.Test.YtokgignmdgejoaaDoorAlG
namespace Go.Proofs.YtokgignmdgejoaaDoor
open Go.RowKit Go.Lib
set_option linter.unusedVariables false
set_option linter.unusedSimpArgs false
set_option maxRecDepth 100000
attribute [local go_sem ↓] Go.wp_at_zero Go.wp_at_succ

/-- A row of small numbers that came in. -/
structure U16s where
  a : Option Addr
  c : Nat
  l : List Int
structure U16s.Fit (w : World) (b : U16s) : Prop where
  src : Src w (fun k => k < w.heap.size) 1 b.a b.l.length (b.l.map fun z => .int .u16 z)
  all : ∀ z ∈ b.l, 0 ≤ z ∧ z ≤ 65535
  len : b.l.length ≤ 9223372036854775807
set_option maxHeartbeats 16000000 in
theorem fires_walk (x y : U16s) (w : World) (hx : x.Fit w) (hy : y.Fit w) (ht : Tab w) :
    Calls Tryd.prog 3 #[.slice x.a x.l.length x.c, .slice y.a y.l.length y.c] w fun e w' => e = .returned (.bool true) ∧ Only Noth w w' := by
  obtain ⟨A, c, l1⟩ := x
  obtain ⟨B, d, l2⟩ := y
  have HX := Lib.hid hx
  have HY := Lib.hid hy
  have T := Lib.hid ht
  have hl1 : l1.length ≤ 9223372036854775807 := hx.len
  have hl2 : l2.length ≤ 9223372036854775807 := hy.len
  obtain ⟨n, hn⟩ : ∃ n, l1.length = n := ⟨_, rfl⟩
  obtain ⟨m, hm⟩ : ∃ m, l2.length = m := ⟨_, rfl⟩
  have HN := Lib.hid hn
  have HM := Lib.hid hm
  simp only [hn, hm] at hl1 hl2 ⊢
  have hn0 : (0 : Int) ≤ n := by omega
  have hm0 : (0 : Int) ≤ m := by omega
  have hn1 : (n : Int) ≤ 9223372036854775807 := by omega
  have hm1 : (m : Int) ≤ 9223372036854775807 := by omega
  clear hx hy ht hn hm hl1 hl2
  have TF := Lib.hid (show ∀ W, Only Noth w W → Tab W from fun W h => T.out.noth h)
  go_enter Tryd.func3, Tryd.ntmps3
  go_wp2_with fail
  refine (new_al w).mono ?_
  rintro e w1 ⟨⟨g, b, rfl, hal, hg, hb⟩, ho⟩
  have HB := Lib.hid hb
  have M1 := Lib.hid hal
  have O1 := Lib.hid ho
  clear hal hg hb ho
  go_wp2_with fail
  go_loopw [6, 7] (fun i _ W => ∃ (k : Nat) (L : List Al), k ≤ 40 ∧ i = .int .i64 (k : Int) ∧ AlAt W g b L ∧ One (onel ⟨#[120]⟩) L ∧ Only Noth w W) (fun i _ _ => 40 - (RowKit.intOf i).toNat)
  case atStart => exact ⟨0, [], by omega, rfl, M1.out, .inl rfl, O1.out⟩
  case round =>
    obtain ⟨k, L, hk, rfl, hal, hone, ho⟩ := hrel
    have MR := Lib.hid hal
    have ONE := Lib.hid hone
    have O := Lib.hid ho
    have hk0 : (0 : Int) ≤ k := by omega
    have hk40 : (k : Int) ≤ 40 := by omega
    clear hal hone ho
    by_cases g1 : (k : Int) < n
    · by_cases g2 : (k : Int) < m
      · by_cases g3 : (k : Int) < 40
        · have hkn : k < l1.length := by rw [HN.out]; omega
          have hkm : k < l2.length := by rw [HM.out]; omega
          obtain ⟨ad1, hA, _, hb1, hc1⟩ := (HX.out.src.only O.out (fun _ _ h => h)).2 (by show 0 < l1.length; omega)
          obtain ⟨ad2, hB, _, hb2, hc2⟩ := (HY.out.src.only O.out (fun _ _ h => h)).2 (by show 0 < l2.length; omega)
          obtain ⟨z1, hz1⟩ : ∃ z, l1[k] = z := ⟨_, rfl⟩
          obtain ⟨z2, hz2⟩ : ∃ z, l2[k] = z := ⟨_, rfl⟩
          have e1 := hc1 k (.int .u16 z1) (by show (l1.map _)[k]? = _; rw [List.getElem?_map, List.getElem?_eq_getElem hkn, hz1]; rfl)
          have e2 := hc2 k (.int .u16 z2) (by show (l2.map _)[k]? = _; rw [List.getElem?_map, List.getElem?_eq_getElem hkm, hz2]; rfl)
          obtain ⟨v1, v2⟩ := HX.out.all z1 (by rw [← hz1]; exact List.getElem_mem hkn)
          obtain ⟨v3, v4⟩ := HY.out.all z2 (by rw [← hz2]; exact List.getElem_mem hkm)
          have D1 := Lib.hid (show ∀ W, Only Noth wr W → W.cell? (ad1.add k) = some (.int .u16 z1) from fun W h => (h.cell (by rw [block_add]; exact hb1) (fun h => h)).trans e1)
          have D2 := Lib.hid (show ∀ W, Only Noth wr W → W.cell? (ad2.add k) = some (.int .u16 z2) from fun W h => (h.cell (by rw [block_add]; exact hb2) (fun h => h)).trans e2)
          obtain ⟨en, hen⟩ : ∃ en, z1 + 1 + z2 = en := ⟨_, rfl⟩
          have en1 : z1 < en := by omega
          have en2 : en ≤ 131071 := by omega
          have hA : A = some ad1 := hA
          have hB : B = some ad2 := hB
          subst hA hB
          clear hc1 hc2 e1 e2 hz1 hz2 hkn hkm hb1 hb2
          have q1 : IntKind.i64.wrap z1 = z1 := by rw [IntKind.wrap_i64]; omega
          have q2 : IntKind.i64.wrap (z1 + 1) = z1 + 1 := by rw [IntKind.wrap_i64]; omega
          have q3 : IntKind.i64.wrap z2 = z2 := by rw [IntKind.wrap_i64]; omega
          have q4 : IntKind.i64.wrap en = en := by rw [IntKind.wrap_i64]; omega
          go_upto_region 5 with fail
          go_cut [7] from 9 to 76 (fun s7 W => ∃ p b1, s7 = .pointer (some ⟨p, 0, none⟩) ∧ Hld W p 27 #[.slice (some ⟨b1, 0, none⟩) 1 1, .int .i64 z1, .int .i64 en] ∧ PsAt W (fun k => k = b1) (some ⟨b1, 0, none⟩) 1 (onel ⟨#[120]⟩) ∧ Only Noth wr W)
          case first =>
            refine wp_region_N Noth (by kernel_rfl) ?_
            refine wpN_take (i := 0) (d := some 25) rfl rfl (by kernel_rfl) (by kernel_rfl) (by kernel_rfl) (fun _ _ _ h => h) (sure_value (v := .slice (some ad1) n c) (by rfl) (fun v1 h1 => by first | rfl | (go_simp; done) | (go_simp; intro h9; exact absurd h9 (by omega)) | (go_simp; assumption))) (Only.refl _ _) ?_
            simp only [Act.put, List.setIfInBounds_toArray, List.set_cons_zero, List.set_cons_succ]
            refine wpN_take (i := 1) (d := some 26) rfl rfl (by kernel_rfl) (by kernel_rfl) (by kernel_rfl) (fun _ _ _ h => h) (sure_value (v := .int .i64 (k : Int)) (by rfl) (fun v1 h1 => by first | rfl | (go_simp; done) | (go_simp; intro h9; exact absurd h9 (by omega)) | (go_simp; assumption))) (Only.refl _ _) ?_
            simp only [Act.put, List.setIfInBounds_toArray, List.set_cons_zero, List.set_cons_succ]
            refine wpN_take (i := 2) (d := some 27) rfl rfl (by kernel_rfl) (by kernel_rfl) (by kernel_rfl) (fun _ _ _ h => h) (sure_value (v := .pointer (some (ad1.add k))) (by rfl) (fun _ _ => by go_simp)) (Only.refl _ _) ?_
            simp only [Act.put, List.setIfInBounds_toArray, List.set_cons_zero, List.set_cons_succ]
            refine wpN_take (i := 3) (d := some 28) rfl rfl (by kernel_rfl) (by kernel_rfl) (by kernel_rfl) (fun _ _ _ h => h) (sure_value (v := .int .u16 z1) (by rfl) (fun v1 h1 => by have c0 := D1.out v1 (Only.undrew h1); go_simp)) (Only.refl _ _) ?_
            simp only [Act.put, List.setIfInBounds_toArray, List.set_cons_zero, List.set_cons_succ]
            refine wpN_take (i := 4) (d := some 29) rfl rfl (by kernel_rfl) (by kernel_rfl) (by kernel_rfl) (fun _ _ _ h => h) (sure_value (v := .int .i64 z1) (by rfl) (fun _ _ => by go_simp)) (Only.refl _ _) ?_
            simp only [Act.put, List.setIfInBounds_toArray, List.set_cons_zero, List.set_cons_succ]
            refine wpN_take (i := 5) (d := some 30) rfl rfl (by kernel_rfl) (by kernel_rfl) (by kernel_rfl) (fun _ _ _ h => h) (sure_value (v := .slice (some ad1) n c) (by rfl) (fun v1 h1 => by first | rfl | (go_simp; done) | (go_simp; intro h9; exact absurd h9 (by omega)) | (go_simp; assumption))) (Only.refl _ _) ?_
            simp only [Act.put, List.setIfInBounds_toArray, List.set_cons_zero, List.set_cons_succ]
            refine wpN_take (i := 6) (d := some 31) rfl rfl (by kernel_rfl) (by kernel_rfl) (by kernel_rfl) (fun _ _ _ h => h) (sure_value (v := .int .i64 (k : Int)) (by rfl) (fun v1 h1 => by first | rfl | (go_simp; done) | (go_simp; intro h9; exact absurd h9 (by omega)) | (go_simp; assumption))) (Only.refl _ _) ?_
            simp only [Act.put, List.setIfInBounds_toArray, List.set_cons_zero, List.set_cons_succ]
            refine wpN_take (i := 7) (d := some 32) rfl rfl (by kernel_rfl) (by kernel_rfl) (by kernel_rfl) (fun _ _ _ h => h) (sure_value (v := .pointer (some (ad1.add k))) (by rfl) (fun _ _ => by go_simp)) (Only.refl _ _) ?_
            simp only [Act.put, List.setIfInBounds_toArray, List.set_cons_zero, List.set_cons_succ]
            refine wpN_take (i := 8) (d := some 33) rfl rfl (by kernel_rfl) (by kernel_rfl) (by kernel_rfl) (fun _ _ _ h => h) (sure_value (v := .int .u16 z1) (by rfl) (fun v1 h1 => by have c0 := D1.out v1 (Only.undrew h1); go_simp)) (Only.refl _ _) ?_
            simp only [Act.put, List.setIfInBounds_toArray, List.set_cons_zero, List.set_cons_succ]
            refine wpN_take (i := 9) (d := some 34) rfl rfl (by kernel_rfl) (by kernel_rfl) (by kernel_rfl) (fun _ _ _ h => h) (sure_value (v := .int .i64 z1) (by rfl) (fun _ _ => by go_simp)) (Only.refl _ _) ?_
            simp only [Act.put, List.setIfInBounds_toArray, List.set_cons_zero, List.set_cons_succ]
            refine wpN_take (i := 10) (d := some 35) rfl rfl (by kernel_rfl) (by kernel_rfl) (by kernel_rfl) (fun _ _ _ h => h) (sure_value (v := .int .i64 (z1 + 1)) (by rfl) (fun _ _ => by go_simp)) (Only.refl _ _) ?_
            simp only [Act.put, List.setIfInBounds_toArray, List.set_cons_zero, List.set_cons_succ]
            refine wpN_take (i := 11) (d := some 36) rfl rfl (by kernel_rfl) (by kernel_rfl) (by kernel_rfl) (fun _ _ _ h => h) (sure_value (v := .slice (some ad2) m d) (by rfl) (fun v1 h1 => by first | rfl | (go_simp; done) | (go_simp; intro h9; exact absurd h9 (by omega)) | (go_simp; assumption))) (Only.refl _ _) ?_
            simp only [Act.put, List.setIfInBounds_toArray, List.set_cons_zero, List.set_cons_succ]
            refine wpN_take (i := 12) (d := some 37) rfl rfl (by kernel_rfl) (by kernel_rfl) (by kernel_rfl) (fun _ _ _ h => h) (sure_value (v := .int .i64 (k : Int)) (by rfl) (fun v1 h1 => by first | rfl | (go_simp; done) | (go_simp; intro h9; exact absurd h9 (by omega)) | (go_simp; assumption))) (Only.refl _ _) ?_
            simp only [Act.put, List.setIfInBounds_toArray, List.set_cons_zero, List.set_cons_succ]
            refine wpN_take (i := 13) (d := some 38) rfl rfl (by kernel_rfl) (by kernel_rfl) (by kernel_rfl) (fun _ _ _ h => h) (sure_value (v := .pointer (some (ad2.add k))) (by rfl) (fun _ _ => by go_simp)) (Only.refl _ _) ?_
            simp only [Act.put, List.setIfInBounds_toArray, List.set_cons_zero, List.set_cons_succ]
            refine wpN_take (i := 14) (d := some 39) rfl rfl (by kernel_rfl) (by kernel_rfl) (by kernel_rfl) (fun _ _ _ h => h) (sure_value (v := .int .u16 z2) (by rfl) (fun v1 h1 => by have c0 := D2.out v1 (Only.undrew h1); go_simp)) (Only.refl _ _) ?_
            simp only [Act.put, List.setIfInBounds_toArray, List.set_cons_zero, List.set_cons_succ]
            refine wpN_take (i := 15) (d := some 40) rfl rfl (by kernel_rfl) (by kernel_rfl) (by kernel_rfl) (fun _ _ _ h => h) (sure_value (v := .int .i64 z2) (by rfl) (fun _ _ => by go_simp)) (Only.refl _ _) ?_
            simp only [Act.put, List.setIfInBounds_toArray, List.set_cons_zero, List.set_cons_succ]
            refine wpN_take (i := 16) (d := some 41) rfl rfl (by kernel_rfl) (by kernel_rfl) (by kernel_rfl) (fun _ _ _ h => h) (sure_value (v := .int .i64 en) (by rfl) (fun _ _ => by go_simp)) (Only.refl _ _) ?_
            simp only [Act.put, List.setIfInBounds_toArray, List.set_cons_zero, List.set_cons_succ]
            refine wpN_ca (i := 17) (j := 18) (d := some 42) (d' := some 7) (z := #[.slice none 0 0, .int .i64 0, .int .i64 0]) (t := 27) (T := fun v w1 w2 => (∃ b1, v = .agg #[.slice (some ⟨b1, 0, none⟩) 1 1, .int .i64 z1, .int .i64 en] ∧ PsAt w2 (fun k => k = b1) (some ⟨b1, 0, none⟩) 1 (onel ⟨#[120]⟩)) ∧ Only Noth w1 w2) (fun w1 h1 => (one_run ⟨#[120]⟩ z1 en (by decide) w1).mono ?_) (by kernel_rfl) rfl rfl (by rfl) (fun _ => by go_simp) rfl rfl (by rfl) (fun _ => rfl) (Only.refl _ _) ?_ ?_
            · rintro e w' ⟨⟨b1, rfl, hh⟩, ho⟩
              exact ⟨_, rfl, ⟨⟨b1, rfl, hh⟩, ho⟩, h1.tr ho⟩
            · rintro v w1 w2 h1 ⟨⟨b1, rfl, hps⟩, ho2⟩ h3
              simp only [Act.put, List.setIfInBounds_toArray, List.set_cons_zero, List.set_cons_succ]
              refine wpN_alloc (i := 18) (d := some 7) (z := #[.slice none 0 0, .int .i64 0, .int .i64 0]) (t := 27) (by kernel_rfl) rfl rfl (by rfl) h3 (fun _ => rfl) ?_
              intro w4 p ho4 P1 hp
              simp only [Act.put, List.setIfInBounds_toArray, List.set_cons_zero, List.set_cons_succ]
              have hS4 := only_up _ _ _ h3 ho4
              refine wpN_store (i := 19) (g := p) (cs' := #[.slice (some ⟨b1, 0, none⟩) 1 1, .int .i64 z1, .int .i64 en]) (by kernel_rfl) rfl (by rfl) rfl rfl rfl rfl P1 (fun h => absurd h (Nat.not_lt.2 (Nat.le_trans h3.size hp))) rfl (by simp [Value.oneCell']) (by kernel_rfl) hS4 ?_
              intro w5 w6 ho5 P2 ho6 hS6
              refine wpN_done (by kernel_rfl) (fun w7 ho7 => ?_) _
              have PB := Lib.hid (P2.only ho7 (fun h => h))
              have hW : Only Noth w2 w7 := (ho4.tr ho5).trans (ho6.trans ho7 (fun j hj _ => hj.elim)) (fun j hj hl => by have hj : j = p := hj; omega)
              have HPS := Lib.hid (hps.noth hW)
              have hT := Lib.hid (Only.undrew (only_up _ _ _ hS6 ho7))
              clear h1 hps ho2 h3 ho4 P1 hp hS4 ho5 P2 ho6 hS6 ho7 hW
              go_wp2_with fail
              go_meet
              case rel => exact ⟨p, b1, rfl, PB.out, HPS.out, hT.out⟩
            · intro w2 p ho2 P1 hp
              simp only [Act.put, List.setIfInBounds_toArray, List.set_cons_zero, List.set_cons_succ]
              refine wpN_call (i := 17) (d := some 42) (T := fun v w1 w2 => (∃ b1, v = .agg #[.slice (some ⟨b1, 0, none⟩) 1 1, .int .i64 z1, .int .i64 en] ∧ PsAt w2 (fun k => k = b1) (some ⟨b1, 0, none⟩) 1 (onel ⟨#[120]⟩)) ∧ Only Noth w1 w2 ∧ w1.heap.size ≤ w2.heap.size) (fun w1 h1 => (one_run ⟨#[120]⟩ z1 en (by decide) w1).mono ?_) (by kernel_rfl) rfl rfl (by rfl) (fun _ => by go_simp) ?_
              · rintro e w' ⟨⟨b1, rfl, hh⟩, ho⟩
                exact ⟨_, rfl, ⟨⟨b1, rfl, hh⟩, ho, ho.size⟩, (ho2.tr h1).tr ho⟩
              rintro v w1 w3 h1 ⟨⟨b1, rfl, hps⟩, hcall, _⟩ h3
              have P3 := (P1.only h1 (fun h => h)).only hcall (fun h => h)
              have hbp : b1 ≠ p := fun e => by
                subst e
                have hc := hps.mem (by decide)
                obtain ⟨bb, oo, hA, _, _, hcell⟩ := hc
                injection hA with hA
                injection hA with hA1 hA2
                subst hA1 hA2
                have q0 := (hcell 0 _ rfl).1
                have q1 := P3.cell 0
                rw [show 0 + 0 * 2 = 0 from rfl, q1] at q0
                cases q0
              simp only [Act.put, List.setIfInBounds_toArray, List.set_cons_zero, List.set_cons_succ]
              refine wpN_store (i := 19) (g := p) (cs' := #[.slice (some ⟨b1, 0, none⟩) 1 1, .int .i64 z1, .int .i64 en]) (by kernel_rfl) rfl (by rfl) rfl rfl rfl rfl P3 (fun h => absurd h (Nat.not_lt.2 hp)) rfl (by simp [Value.oneCell']) (by kernel_rfl) h3 ?_
              intro w5 w6 ho5 P2 ho6 hS6
              refine wpN_done (by kernel_rfl) (fun w7 ho7 => ?_) _
              have PB := Lib.hid (P2.only ho7 (fun h => h))
              have hW : Only (fun k => k = p) w3 w7 := (ho5.mono (fun j hj _ => hj.elim)).trans (ho6.trans ho7 (fun j hj _ => hj.elim)) (fun j hj _ => hj)
              have HPS := Lib.hid (hps.only hW (fun j hj e => by have hj : j = b1 := hj; have e : j = p := e; exact hbp (hj.symm.trans e)))
              have hT := Lib.hid (Only.undrew (only_up _ _ _ hS6 ho7))
              clear h1 hps ho2 h3 P1 hp ho5 P2 ho6 hS6 ho7 hW hbp P3 hcall
              go_wp2_with fail
              go_meet
              case rel => exact ⟨p, b1, rfl, PB.out, HPS.out, hT.out⟩
          case rest =>
            obtain ⟨p, b1, hs7, hpb, hps, ho⟩ := hcut
            subst hs7
            have OC := Lib.hid (O.out.tr ho)
            have PB := Lib.hid hpb
            have PS := Lib.hid hps
            have MC := Lib.hid (MR.out.noth ho)
            have y0 := hpb.cell 0
            have y1 := hpb.cell 1
            have y2 := hpb.cell 2
            clear hpb hps ho hen
            go_wp2_with fail
            refine (aput_run g b L (onel ⟨#[120]⟩) z1 en (some ⟨b1, 0, none⟩) 1 _ wc MC.out PS.out (TF.out _ OC.out)).mono ?_
            intro e w3 hput
            obtain ⟨rfl, ⟨n1, hal, hk1, hs1, he1⟩, ho⟩ := put_one hput lcx (by decide) ⟨v1, en1, by omega⟩ ONE.out
            have M3 := Lib.hid hal
            have K1 := Lib.hid hk1
            have S1 := Lib.hid (show n1.st ≤ z1 by rw [hs1]; exact ast_le _ _ _ _)
            have E1 := Lib.hid he1
            have O3 := Lib.hid (show Only Noth w w3 from OC.out.trans ho (fun j hj hl => by have hj : j = b := hj; have := HB.out; omega))
            have NP := Lib.hid (show p ≠ b from fun e => by
              have h1 := PB.out
              obtain ⟨es, clock, h2, _⟩ := MC.out.own
              subst e
              unfold Hld at h1
              rw [h1] at h2
              cases h2)
            have PB3 := PB.out.only ho NP.out
            have PB3H := Lib.hid PB3
            replace y0 := PB3.cell 0
            replace y1 := PB3.cell 1
            replace y2 := PB3.cell 2
            clear hput hal hk1 hs1 he1 ho PB3
            go_wp2_with fail
            refine (firing_run g b [n1] z1 w3 M3.out).mono ?_
            rintro e w4 ⟨hw, ho⟩
            rw [show [n1].filter (fun x => x.fires z1) = [n1] by have := S1.out; have := E1.out; simp [Al.fires]; omega] at hw
            obtain ⟨gA, cA, rfl, _⟩ := hw.first
            have O4 := Lib.hid (O3.out.tr ho)
            have M4 := Lib.hid (M3.out.noth ho)
            have PB4 := Lib.hid (PB3H.out.only ho (fun h => h))
            replace y0 := PB4.out.cell 0
            replace y1 := PB4.out.cell 1
            replace y2 := PB4.out.cell 2
            clear hw ho
            go_wp2_with fail
            refine (firing_run g b [n1] (en - 1) w4 M4.out).mono ?_
            rintro e w5 ⟨hw, ho⟩
            rw [show [n1].filter (fun x => x.fires (en - 1)) = [n1] by have := S1.out; have := E1.out; simp [Al.fires]; omega] at hw
            obtain ⟨gB, cB, rfl, _⟩ := hw.first
            have O5 := Lib.hid (O4.out.tr ho)
            have M5 := Lib.hid (M4.out.noth ho)
            have PB5 := Lib.hid (PB4.out.only ho (fun h => h))
            replace y0 := PB5.out.cell 0
            replace y1 := PB5.out.cell 1
            replace y2 := PB5.out.cell 2
            clear hw ho
            go_wp2_with fail
            refine (firing_run g b [n1] en w5 M5.out).mono ?_
            rintro e w6 ⟨hw, ho⟩
            rw [show [n1].filter (fun x => x.fires en) = [] by have := S1.out; have := E1.out; simp [Al.fires]; omega] at hw
            obtain ⟨gD, cD, rfl⟩ := hw.none
            have O6 := Lib.hid (O5.out.tr ho)
            have M6 := Lib.hid (M5.out.noth ho)
            clear hw ho y0 y1 y2
            go_wp2_with fail
            refine (len_al g b [n1] w6 M6.out).mono ?_
            rintro e w7 ⟨rfl, ho⟩
            have O7 := Lib.hid (O6.out.tr ho)
            have M7 := Lib.hid (M6.out.noth ho)
            clear ho
            go_wp2_with fail
            go_roundw
            case rel => exact ⟨k + 1, [n1], by omega, by go_num, M7.out, .inr ⟨n1, rfl, K1.out⟩, O7.out⟩
            case measure => simp [RowKit.intOf]; omega
        · go_wp2_with fail
          refine (awake_run _ (TF.out _ O.out)).mono ?_
          rintro e w9 ⟨rfl, ho9⟩
          have O9 := Lib.hid (O.out.tr ho9)
          clear ho9
          go_wp2
          go_ret
          exact ⟨rfl, O9.out⟩
      · go_wp2_with fail
        refine (awake_run _ (TF.out _ O.out)).mono ?_
        rintro e w9 ⟨rfl, ho9⟩
        have O9 := Lib.hid (O.out.tr ho9)
        clear ho9
        go_wp2
        go_ret
        exact ⟨rfl, O9.out⟩
    · go_wp2_with fail
      refine (awake_run _ (TF.out _ O.out)).mono ?_
      rintro e w9 ⟨rfl, ho9⟩
      have O9 := Lib.hid (O.out.tr ho9)
      clear ho9
      go_wp2
      go_ret
      exact ⟨rfl, O9.out⟩
end Go.Proofs.YtokgignmdgejoaaDoor
