/- The walk of AlertForks. -/
import Derived.Test.YtokgignmdgejoaaDoorRaH
namespace Go.Proofs.YtokgignmdgejoaaDoor
open Go.RowKit Go.Lib
set_option linter.unusedVariables false
set_option linter.unusedSimpArgs false
set_option maxRecDepth 100000
attribute [local go_sem ↓] Go.wp_at_zero Go.wp_at_succ

section
variable {P : Program}
/-- The orders of a region meet again. -/
def Meet {X : Type} (G : X → World → Prop) (f : X → Act → Act) (Q : Exit → Act → World → Prop) (a : Act) : Exit → Act → World → Prop := fun e b wx => match e with
  | .normal => ∃ x, G x wx ∧ b = f x a
  | e => Q e b wx
theorem Meet.at {X : Type} {G : X → World → Prop} {f : X → Act → Act} {Q : Exit → Act → World → Prop} {a b : Act} {wx : World} (x : X) (h : G x wx) (e : b = f x a) : Meet G f Q a .normal b wx := ⟨x, h, e⟩
theorem region_meet {id : Nat} {ops : Array Oper} {dr : Bool} {a : Act} {w : World} {Q : Exit → Act → World → Prop} {X : Type} (G : X → World → Prop) (f : X → Act → Act)
    (h : (Code.region id ops dr).wp P (Meet G f Q a) a w) (k : ∀ x wx, G x wx → Q .normal (f x a) wx) : (Code.region id ops dr).wp P Q a w :=
  wp_mono h (fun e b wx q => by
    cases e with
    | normal => obtain ⟨x, hx, rfl⟩ := q; exact k x wx hx
    | _ => exact q)
end
set_option maxHeartbeats 16000000 in
theorem forks_walk (A B : Option Addr) (n m c d : Nat) (xs ys : List Qc) (w : World) (hx : QsAt w (fun k => k < w.heap.size) A xs) (hl : xs.length = n) (hm : n ≤ 9223372036854775807) (hy : QsAt w (fun k => k < w.heap.size) B ys) (hl2 : ys.length = m) (hm2 : m ≤ 9223372036854775807) (ht : Tab w) :
    Calls Tryd.prog 7 #[.slice A n c, .slice B m d] w fun e w' => e = .returned (.bool true) ∧ Only Noth w w' := by
  have HX := Lib.hid hx
  have HL := Lib.hid hl
  have HY := Lib.hid hy
  have HM := Lib.hid hl2
  have TB := Lib.hid ht
  have hn0 : (0 : Int) ≤ n := by omega
  have hm0 : (0 : Int) ≤ m := by omega
  clear hx hl ht hy hl2
  go_enter Tryd.func7, Tryd.ntmps7
  go_wp2_with fail
  refine (few_run A n c xs w _ HX.out HL.out hm).mono ?_
  rintro e w0 ⟨rfl, ho⟩
  have O0 := Lib.hid ho
  cases hf : fewB xs
  · clear ho hf
    go_wp2_with fail
    refine (awake_run w0 (TB.out.noth O0.out)).mono ?_
    rintro e wz ⟨rfl, ho⟩
    have OZ := Lib.hid (O0.out.tr ho)
    clear ho
    go_wp2
    go_ret
    exact ⟨rfl, OZ.out⟩
  · have FW := Lib.hid (few_at hf)
    have hn80 : (n : Int) ≤ 80 := by have h1 := (few_at hf).1; rw [HL.out] at h1; omega
    clear ho hf
    go_wp2_with fail
    refine (few_run B m d ys w0 _ (HY.out.only O0.out (fun _ _ _ h => h)) HM.out hm2).mono ?_
    rintro e w00 ⟨rfl, ho⟩
    replace O0 := Lib.hid (O0.out.tr ho)
    cases hf : fewB ys
    · clear ho hf
      go_wp2_with fail
      refine (awake_run w00 (TB.out.noth O0.out)).mono ?_
      rintro e wz ⟨rfl, ho⟩
      have OZ := Lib.hid (O0.out.tr ho)
      clear ho
      go_wp2
      go_ret
      exact ⟨rfl, OZ.out⟩
    · have FY := Lib.hid (few_at hf)
      have hm80 : (m : Int) ≤ 80 := by have h1 := (few_at hf).1; rw [HM.out] at h1; omega
      clear ho hf
      go_wp2_with fail
      refine (new_al w00).mono ?_
      rintro e w1 ⟨⟨g, b, rfl, ha, hg, hb⟩, ho⟩
      have HA := Lib.hid ha
      have O1 := Lib.hid (O0.out.tr ho)
      have HGB := Lib.hid (show w.heap.size ≤ g ∧ w.heap.size ≤ b from ⟨Nat.le_trans O0.out.size hg, Nat.le_trans O0.out.size hb⟩)
      clear ha ho hg hb
      go_wp2_with (refine wpList_store_whole rfl rfl 40 (.tmp 6) (.tmp 22) rfl w1.heap.size rfl #[.slice none 0 0] rfl 40 _ (Hld.new w1 _ _) rfl (by simp [Value.oneCell']) (by kernel_rfl) ?_; intro w2 gb ho2 hz2; have PA0 := Lib.hid (play_start HA.out O1.out HGB.out.1 HGB.out.2 (((Only.refl Noth w1).alloc _).trans ho2 (fun j hj hl => by have hj : j = w1.heap.size := hj; omega)) gb); clear gb ho2 hz2)
      obtain ⟨p, hp⟩ : ∃ p, w1.heap.size = p := ⟨_, rfl⟩
      rw [hp] at PA0
      simp only [hp]
      clear hp
      go_wp2_with fail
      go_loopw [7] (fun i W => ∃ (k : Nat) (L N : List Al) (A0 : Option Addr) (c0 : Nat), k ≤ n ∧ i = .int .i64 (k : Int) ∧ PlayAt w g b p L N A0 c0 W) (fun i _ => n - (RowKit.intOf i).toNat)
      case atStart => exact ⟨0, [], [], none, 0, Nat.zero_le _, rfl, PA0.out⟩
      case round =>
        obtain ⟨k, L, N, A0, c0, hk, rfl, hpa⟩ := hrel
        have PA := Lib.hid hpa
        have HON := Lib.hid hpa.on
        have HBASE := Lib.hid (Nat.le_refl w.heap.size)
        have hk0 : (0 : Int) ≤ k := by omega
        clear hpa
        by_cases hlt : k < n
        · have hk1 : (k : Int) < n := by omega
          obtain ⟨x, hx⟩ : ∃ x, xs[k]? = some x := ⟨_, List.getElem?_eq_getElem (by rw [HL.out]; omega)⟩
          obtain ⟨qb, qo, qA, hqc⟩ := (HX.out.only HON.out (fun _ _ _ h => h)) (by rw [HL.out]; omega)
          have QX := Lib.hid (hqc k x hx)
          have H12 := Lib.hid (FW.out.2 x (List.mem_of_getElem? hx))
          subst qA
          clear hx hqc
          go_upto_region 7 with fail
          refine wp_region_G (fun j => j = b) (fun j => w.heap.size ≤ j) 10 (by kernel_rfl) ?_
          refine wpG_take (i := 0) (d := some 30) rfl rfl (by kernel_rfl) (by kernel_rfl) (by kernel_rfl) (fun _ _ _ h => h) (sure_value (v := .pointer (some ⟨g, 0, none⟩)) (by rfl) (fun v1 h1 => by first | rfl | (go_simp; done) | (go_simp; intro h9; exact absurd h9 (by omega)) | (go_simp; assumption))) (Only.refl _ _) ?_
          simp only [Act.put, List.setIfInBounds_toArray, List.set_cons_zero, List.set_cons_succ]
          refine wpG_take (i := 1) (d := some 31) rfl rfl (by kernel_rfl) (by kernel_rfl) (by kernel_rfl) (fun _ _ _ h => h) (sure_value (v := .agg #[.slice A0 N.length c0]) (by rfl) (fun v1 h1 => by have m0 := (PA.out.bx.only (Only.undrew h1) (fun h => PA.out.pb h)).cell 0; go_simp)) (Only.refl _ _) ?_
          simp only [Act.put, List.setIfInBounds_toArray, List.set_cons_zero, List.set_cons_succ]
          refine wpG_take (i := 2) (d := some 32) rfl rfl (by kernel_rfl) (by kernel_rfl) (by kernel_rfl) (fun _ _ _ h => h) (sure_value (v := .slice (some ⟨qb, qo, none⟩) n c) (by rfl) (fun v1 h1 => by first | rfl | (go_simp; done) | (go_simp; intro h9; exact absurd h9 (by omega)) | (go_simp; assumption))) (Only.refl _ _) ?_
          simp only [Act.put, List.setIfInBounds_toArray, List.set_cons_zero, List.set_cons_succ]
          refine wpG_take (i := 3) (d := some 33) rfl rfl (by kernel_rfl) (by kernel_rfl) (by kernel_rfl) (fun _ _ _ h => h) (sure_value (v := .int .i64 (k : Int)) (by rfl) (fun v1 h1 => by first | rfl | (go_simp; done) | (go_simp; intro h9; exact absurd h9 (by omega)) | (go_simp; assumption))) (Only.refl _ _) ?_
          simp only [Act.put, List.setIfInBounds_toArray, List.set_cons_zero, List.set_cons_succ]
          refine wpG_take (i := 4) (d := some 34) rfl rfl (by kernel_rfl) (by kernel_rfl) (by kernel_rfl) (fun _ _ _ h => h) (sure_value (v := .pointer (some ⟨qb, qo + k * 5, none⟩)) (by rfl) (fun v1 h1 => by first | rfl | (go_simp; done) | (go_simp; intro h9; exact absurd h9 (by omega)) | (go_simp; assumption))) (Only.refl _ _) ?_
          simp only [Act.put, List.setIfInBounds_toArray, List.set_cons_zero, List.set_cons_succ]
          refine wpG_take (i := 5) (d := some 35) rfl rfl (by kernel_rfl) (by kernel_rfl) (by kernel_rfl) (fun _ _ _ h => h) (sure_value (v := .agg x.arr) (by rfl) (fun v1 h1 => by have hq := QX.out.only (Only.undrew h1) (fun j hj _ e => by have hj : j < w.heap.size := hj; have e : j = b := e; have := PA.out.lo.2.1; have := HBASE.out; omega); have c0 := hq.c0; have c1 := hq.c1; have c2 := hq.c2; have c3 := hq.c3; have c4 := hq.c4; go_simp)) (Only.refl _ _) ?_
          simp only [Act.put, List.setIfInBounds_toArray, List.set_cons_zero, List.set_cons_succ]
          refine wpG_call (i := 6) (d := some 36) (fun v w1 w' => DoRes g b (fun j => j ≠ b ∧ j ≠ p) v w1 w') (fun w3 h3 => (do_run g b (fun j => j ≠ b ∧ j ≠ p) (fun j => j < w.heap.size) A0 c0 L N x w3 (PA.out.st.noth (Only.undrew h3)) (PA.out.rf.noth (Only.undrew h3)) PA.out.tw (fun h => h.1 rfl) (QX.out.ps.noth (Only.undrew h3)) (fun h => by have h : b < w.heap.size := h; have := PA.out.lo.2.1; have := HBASE.out; omega) H12.out QX.out.kd (TB.out.noth (HON.out.tr (Only.undrew h3)))).mono (fun e w' h => ?_)) (by kernel_rfl) rfl rfl (by rfl) (fun _ => by go_simp) ?_
          · obtain ⟨⟨L', A', c', N', rfl, h1, h2, h3'⟩, ho⟩ := h
            exact ⟨_, rfl, ⟨L', A', c', N', rfl, h1, h2, h3'⟩, (h3.mono (fun _ h _ => h.elim)).trans ho (fun _ h _ => h)⟩
          rintro v w3 w4 h3 ⟨L2, A2, c2, N2, rfl, hst, hrf, htw⟩ h4
          simp only [Act.put, List.setIfInBounds_toArray, List.set_cons_zero, List.set_cons_succ]
          refine wpG_take (i := 7) (d := some 29) rfl rfl (by kernel_rfl) (by kernel_rfl) (by kernel_rfl) (fun _ _ _ h => h) (sure_value (v := .tuple #[.agg #[.slice A2 N2.length c2], .bool true]) (by rfl) (fun v1 h1 => by first | rfl | (go_simp; done) | (go_simp; intro h9; exact absurd h9 (by omega)) | (go_simp; assumption))) h4 ?_
          simp only [Act.put, List.setIfInBounds_toArray, List.set_cons_zero, List.set_cons_succ]
          refine wpG_take (i := 8) (d := some 37) rfl rfl (by kernel_rfl) (by kernel_rfl) (by kernel_rfl) (fun _ _ _ h => h) (sure_value (v := .agg #[.slice A2 N2.length c2]) (by rfl) (fun v1 h1 => by first | rfl | (go_simp; done) | (go_simp; intro h9; exact absurd h9 (by omega)) | (go_simp; assumption))) h4 ?_
          simp only [Act.put, List.setIfInBounds_toArray, List.set_cons_zero, List.set_cons_succ]
          refine wpG_free (i := 9) (v := .bool true) (d := some 38) rfl rfl (by kernel_rfl) (by kernel_rfl) (by kernel_rfl) (fun _ _ _ h => h) (.inl ⟨by rfl, fun w hS b K Q he hk => by unfold Oper.wp; rw [he]; exact hk w (Only.refl _ w) hS⟩) h4 ?_
          simp only [Act.put, List.setIfInBounds_toArray, List.set_cons_zero, List.set_cons_succ]
          refine wpG_store (i := 10) (g := p) (cs' := #[.slice A2 N2.length c2]) (by kernel_rfl) rfl (by rfl) rfl rfl rfl rfl ((PA.out.bx.drew).only h4 (fun h => PA.out.pb h)) (fun _ => PA.out.lo.2.2) rfl (by simp [Value.oneCell']) (by kernel_rfl) h4 (fun j hj => by have hj : j = b := hj; subst hj; exact PA.out.lo.2.1) ?_
          intro w5 w6 h5 hb6 h6 h36
          refine wpN_done (by kernel_rfl) (fun w7 ho7 => ?_) _
          have PA2 := Lib.hid (PA.out.next (Only.undrew h3) (Only.undrew h4) hst hrf htw h5 hb6 h6 ho7)
          clear h3 h4 hst hrf htw h5 hb6 h6 h36 ho7
          go_wp2_with fail
          go_roundw
          case rel => exact ⟨k + 1, L2, N2, A2, c2, by omega, by go_num, PA2.out⟩
          case measure => simp [RowKit.intOf]; omega
        · obtain rfl : k = n := by omega
          clear PA0
          obtain ⟨wf, hwf⟩ : ∃ wf, wf = wr := ⟨_, rfl⟩
          subst hwf
          go_upto_region 8 with fail
          refine region_meet (X := Nat × Nat × Nat) (fun (g2, b2, p2) wx => AlAt wx g2 b2 L ∧ Hld wx p2 40 #[.slice A0 N.length c0] ∧ wf.heap.size ≤ g2 ∧ wf.heap.size ≤ b2 ∧ wf.heap.size ≤ p2 ∧ Only Noth wf wx) (fun (g2, b2, p2) b => ((((((b.put (some 39) (.pointer (some ⟨g, 0, none⟩))).put (some 40) (.pointer (some ⟨g2, 0, none⟩))).put (some 41) (.agg #[.slice A0 N.length c0])).put (some 9) (.pointer (some ⟨p2, 0, none⟩))).put (some 8) (.pointer (some ⟨g2, 0, none⟩))).put (some 10) (.bool true))) ?_ ?_
          · refine wp_region_N Noth (by kernel_rfl) ?_
            refine wpN_take (i := 0) (d := some 39) rfl rfl (by kernel_rfl) (by kernel_rfl) (by kernel_rfl) (fun _ _ _ h => h) (sure_value (v := .pointer (some ⟨g, 0, none⟩)) (by rfl) (fun v1 h1 => by first | rfl | (go_simp; done) | (go_simp; intro h9; exact absurd h9 (by omega)) | (go_simp; assumption))) (Only.refl _ _) ?_
            simp only [Act.put, List.setIfInBounds_toArray, List.set_cons_zero, List.set_cons_succ]
            refine wpN_take (i := 2) (d := some 41) rfl rfl (by kernel_rfl) (by kernel_rfl) (by kernel_rfl) (fun _ _ _ h => h) (sure_value (v := .agg #[.slice A0 N.length c0]) (by rfl) (fun v1 h1 => by have m0 := (PA.out.bx.only (Only.undrew h1) (fun h => h)).cell 0; go_simp)) (Only.refl _ _) ?_
            simp only [Act.put, List.setIfInBounds_toArray, List.set_cons_zero, List.set_cons_succ]
            refine wpN_ca (i := 1) (j := 3) (d := some 40) (d' := some 9) (z := #[.slice none 0 0]) (t := 40) (T := (fun v w1 w' => (∃ g2 b2, v = .pointer (some ⟨g2, 0, none⟩) ∧ AlAt w' g2 b2 L ∧ w1.heap.size ≤ g2 ∧ w1.heap.size ≤ b2) ∧ Only Noth w1 w')) (fun w1 h1 => (fork_al g b L w1 (PA.out.st.noth (Only.undrew h1))).mono (fun r w' h => by obtain ⟨⟨g2, b2, rfl, e1, e2, e3⟩, e4⟩ := h; exact ⟨_, rfl, ⟨⟨g2, b2, rfl, e1, e2, e3⟩, e4⟩, (h1).tr e4⟩)) (by kernel_rfl) rfl rfl (by rfl) (fun _ => by go_simp) rfl rfl (by rfl) (fun _ => rfl) (Only.refl _ _) ?_ ?_
            · rintro v w1 w2 h1 ⟨⟨g2, b2, rfl, hcm, hz1, hz2⟩, hcall⟩ h3
              simp only [Act.put, List.setIfInBounds_toArray, List.set_cons_zero, List.set_cons_succ]
              refine wpN_alloc (i := 3) (d := some 9) (z := #[.slice none 0 0]) (t := 40) (by kernel_rfl) rfl rfl (by rfl) h3 (fun _ => rfl) ?_
              intro w4 p ho4 P1 hp
              simp only [Act.put, List.setIfInBounds_toArray, List.set_cons_zero, List.set_cons_succ]
              have hS4 := only_up _ _ _ h3 ho4
              refine wpN_take (i := 4) (d := some 8) rfl rfl (by kernel_rfl) (by kernel_rfl) (by kernel_rfl) (fun _ _ _ h => h) (sure_value (v := .pointer (some ⟨g2, 0, none⟩)) (by rfl) (fun v1 h1 => by first | rfl | (go_simp; done) | (go_simp; intro h9; exact absurd h9 (by omega)) | (go_simp; assumption))) hS4 ?_
              simp only [Act.put, List.setIfInBounds_toArray, List.set_cons_zero, List.set_cons_succ]
              refine wpN_store (i := 5) (g := p) (cs' := #[.slice A0 N.length c0]) (by kernel_rfl) rfl (by rfl) rfl rfl rfl rfl P1 (fun h => absurd h (Nat.not_lt.2 (Nat.le_trans h3.size hp))) rfl (by simp [Value.oneCell']) (by kernel_rfl) hS4 ?_
              intro w5 w6 ho5 P2 ho6 hS6
              refine wpN_take (i := 6) (d := some 10) rfl rfl (by kernel_rfl) (by kernel_rfl) (by kernel_rfl) (fun _ _ _ h => h) (sure_value (v := .bool true) (by rfl) (fun v1 h1 => by first | rfl | (go_simp; done) | (go_simp; intro h9; exact absurd h9 (by omega)) | (go_simp; assumption))) hS6 ?_
              simp only [Act.put, List.setIfInBounds_toArray, List.set_cons_zero, List.set_cons_succ]
              refine wpN_done (by kernel_rfl) (fun w7 ho7 => ?_) _
              have PB := P2.only ho7 (fun h => h)
              have hW : Only Noth w2 w7 := (ho4.tr ho5).trans (ho6.trans ho7 (fun j hj _ => hj.elim)) (fun j hj hl => by have hj : j = p := hj; omega)
              have hT := Only.undrew (only_up _ _ _ hS6 ho7)
              have hzz := (Only.undrew h1).size
              have hz3 := (Only.undrew h3).size
              exact Meet.at (g2, b2, p) ⟨hcm.noth hW, PB, Nat.le_trans hzz hz1, Nat.le_trans hzz hz2, Nat.le_trans hz3 hp, hT⟩ (by simp only [Act.put, List.setIfInBounds_toArray, List.set_cons_zero, List.set_cons_succ])
            · intro w2 p ho2 P1 hp
              simp only [Act.put, List.setIfInBounds_toArray, List.set_cons_zero, List.set_cons_succ]
              refine wpN_call (i := 1) (d := some 40) (T := (fun v w1 w' => (∃ g2 b2, v = .pointer (some ⟨g2, 0, none⟩) ∧ AlAt w' g2 b2 L ∧ w1.heap.size ≤ g2 ∧ w1.heap.size ≤ b2) ∧ Only Noth w1 w')) (fun w1 h1 => (fork_al g b L w1 (PA.out.st.noth (Only.undrew (ho2.tr h1)))).mono (fun r w' h => by obtain ⟨⟨g2, b2, rfl, e1, e2, e3⟩, e4⟩ := h; exact ⟨_, rfl, ⟨⟨g2, b2, rfl, e1, e2, e3⟩, e4⟩, ((ho2.tr h1)).tr e4⟩)) (by kernel_rfl) rfl rfl (by rfl) (fun _ => by go_simp) ?_
              rintro v w1 w3 h1 ⟨⟨g2, b2, rfl, hcm, hz1, hz2⟩, hcall⟩ h3
              have P3 := (P1.only h1 (fun h => h)).only hcall (fun h => h)
              simp only [Act.put, List.setIfInBounds_toArray, List.set_cons_zero, List.set_cons_succ]
              refine wpN_take (i := 4) (d := some 8) rfl rfl (by kernel_rfl) (by kernel_rfl) (by kernel_rfl) (fun _ _ _ h => h) (sure_value (v := .pointer (some ⟨g2, 0, none⟩)) (by rfl) (fun v1 h1 => by first | rfl | (go_simp; done) | (go_simp; intro h9; exact absurd h9 (by omega)) | (go_simp; assumption))) h3 ?_
              simp only [Act.put, List.setIfInBounds_toArray, List.set_cons_zero, List.set_cons_succ]
              refine wpN_store (i := 5) (g := p) (cs' := #[.slice A0 N.length c0]) (by kernel_rfl) rfl (by rfl) rfl rfl rfl rfl P3 (fun h => absurd h (Nat.not_lt.2 hp)) rfl (by simp [Value.oneCell']) (by kernel_rfl) h3 ?_
              intro w5 w6 ho5 P2 ho6 hS6
              refine wpN_take (i := 6) (d := some 10) rfl rfl (by kernel_rfl) (by kernel_rfl) (by kernel_rfl) (fun _ _ _ h => h) (sure_value (v := .bool true) (by rfl) (fun v1 h1 => by first | rfl | (go_simp; done) | (go_simp; intro h9; exact absurd h9 (by omega)) | (go_simp; assumption))) hS6 ?_
              simp only [Act.put, List.setIfInBounds_toArray, List.set_cons_zero, List.set_cons_succ]
              refine wpN_done (by kernel_rfl) (fun w7 ho7 => ?_) _
              have PB := P2.only ho7 (fun h => h)
              have hT := Only.undrew (only_up _ _ _ hS6 ho7)
              have hW : Only (fun k => k = p) w3 w7 := (ho5.mono (fun j hj _ => hj.elim)).trans (ho6.trans ho7 (fun j hj _ => hj.elim)) (fun j hj _ => hj)
              have hzz := Nat.le_trans (Only.undrew ho2).size h1.size
              exact Meet.at (g2, b2, p) ⟨hcm.only hW (fun k hk => by have hk : k = p := hk; subst hk; exact hcm.aside P3), PB, Nat.le_trans hzz hz1, Nat.le_trans hzz hz2, hp, hT⟩ (by simp only [Act.put, List.setIfInBounds_toArray, List.set_cons_zero, List.set_cons_succ])
          rintro ⟨g2, b2, p2⟩ w7 ⟨hst, hbx, hz1, hz2, hz3, hof⟩
          simp only [Act.put, List.setIfInBounds_toArray, List.set_cons_zero, List.set_cons_succ]
          have HWF := Lib.hid (Only.size HON.out)
          have PB0 := Lib.hid (show PlayAt wf g2 b2 p2 L N A0 c0 w7 from ⟨hst, (PA.out.rf.lt.noth hof).mono (fun j hj _ => ⟨by have := hj.2; omega, by have := hj.2; omega⟩), PA.out.tw, hbx, ⟨hz1, hz2, hz3⟩, hof⟩)
          have HONF := Lib.hid HON.out
          clear hst hbx hz1 hz2 hz3 hof HON HBASE
          go_wp2_with fail
          go_loopw [10, 11] (fun _ i W => ∃ (k : Nat) (L N : List Al) (A0 : Option Addr) (c0 : Nat), k ≤ m ∧ i = .int .i64 (k : Int) ∧ PlayAt wf g2 b2 p2 L N A0 c0 W) (fun _ i _ => m - (RowKit.intOf i).toNat)
          case atStart => exact ⟨0, L, N, A0, c0, Nat.zero_le _, rfl, PB0.out⟩
          case round =>
            have PAS := Lib.hid PA.out
            obtain ⟨j, L, N, A0, c0, hj, rfl, hpb⟩ := hrel
            have PB := Lib.hid hpb
            have HON := Lib.hid (HONF.out.tr hpb.on)
            have HBASE := Lib.hid HWF.out
            have hj0 : (0 : Int) ≤ j := by omega
            clear hpb PB0 PA
            by_cases hlt2 : j < m
            · have hj1 : (j : Int) < m := by omega
              obtain ⟨x, hx⟩ : ∃ x, ys[j]? = some x := ⟨_, List.getElem?_eq_getElem (by rw [HM.out]; omega)⟩
              obtain ⟨rb, ro, rA, hqc⟩ := (HY.out.only HON.out (fun _ _ _ h => h)) (by rw [HM.out]; omega)
              have QX := Lib.hid (hqc j x hx)
              have H12 := Lib.hid (FY.out.2 x (List.mem_of_getElem? hx))
              subst rA
              clear hx hqc
              go_upto_region 14 with fail
              refine wp_region_G (fun j => j = b2) (fun j => wf.heap.size ≤ j) 10 (by kernel_rfl) ?_
              refine wpG_take (i := 0) (d := some 51) rfl rfl (by kernel_rfl) (by kernel_rfl) (by kernel_rfl) (fun _ _ _ h => h) (sure_value (v := .pointer (some ⟨g2, 0, none⟩)) (by rfl) (fun v1 h1 => by first | rfl | (go_simp; done) | (go_simp; intro h9; exact absurd h9 (by omega)) | (go_simp; assumption))) (Only.refl _ _) ?_
              simp only [Act.put, List.setIfInBounds_toArray, List.set_cons_zero, List.set_cons_succ]
              refine wpG_take (i := 1) (d := some 52) rfl rfl (by kernel_rfl) (by kernel_rfl) (by kernel_rfl) (fun _ _ _ h => h) (sure_value (v := .agg #[.slice A0 N.length c0]) (by rfl) (fun v1 h1 => by have m0 := (PB.out.bx.only (Only.undrew h1) (fun h => PB.out.pb h)).cell 0; go_simp)) (Only.refl _ _) ?_
              simp only [Act.put, List.setIfInBounds_toArray, List.set_cons_zero, List.set_cons_succ]
              refine wpG_take (i := 2) (d := some 53) rfl rfl (by kernel_rfl) (by kernel_rfl) (by kernel_rfl) (fun _ _ _ h => h) (sure_value (v := .slice (some ⟨rb, ro, none⟩) m d) (by rfl) (fun v1 h1 => by first | rfl | (go_simp; done) | (go_simp; intro h9; exact absurd h9 (by omega)) | (go_simp; assumption))) (Only.refl _ _) ?_
              simp only [Act.put, List.setIfInBounds_toArray, List.set_cons_zero, List.set_cons_succ]
              refine wpG_take (i := 3) (d := some 54) rfl rfl (by kernel_rfl) (by kernel_rfl) (by kernel_rfl) (fun _ _ _ h => h) (sure_value (v := .int .i64 (j : Int)) (by rfl) (fun v1 h1 => by first | rfl | (go_simp; done) | (go_simp; intro h9; exact absurd h9 (by omega)) | (go_simp; assumption))) (Only.refl _ _) ?_
              simp only [Act.put, List.setIfInBounds_toArray, List.set_cons_zero, List.set_cons_succ]
              refine wpG_take (i := 4) (d := some 55) rfl rfl (by kernel_rfl) (by kernel_rfl) (by kernel_rfl) (fun _ _ _ h => h) (sure_value (v := .pointer (some ⟨rb, ro + j * 5, none⟩)) (by rfl) (fun v1 h1 => by first | rfl | (go_simp; done) | (go_simp; intro h9; exact absurd h9 (by omega)) | (go_simp; assumption))) (Only.refl _ _) ?_
              simp only [Act.put, List.setIfInBounds_toArray, List.set_cons_zero, List.set_cons_succ]
              refine wpG_take (i := 5) (d := some 56) rfl rfl (by kernel_rfl) (by kernel_rfl) (by kernel_rfl) (fun _ _ _ h => h) (sure_value (v := .agg x.arr) (by rfl) (fun v1 h1 => by have hq := QX.out.only (Only.undrew h1) (fun j hj _ e => by have hj : j < w.heap.size := hj; have e : j = b2 := e; have := PB.out.lo.2.1; have := HBASE.out; omega); have c0 := hq.c0; have c1 := hq.c1; have c2 := hq.c2; have c3 := hq.c3; have c4 := hq.c4; go_simp)) (Only.refl _ _) ?_
              simp only [Act.put, List.setIfInBounds_toArray, List.set_cons_zero, List.set_cons_succ]
              refine wpG_call (i := 6) (d := some 57) (fun v w1 w' => DoRes g2 b2 (fun j => j ≠ b2 ∧ j ≠ p2) v w1 w') (fun w3 h3 => (do_run g2 b2 (fun j => j ≠ b2 ∧ j ≠ p2) (fun j => j < w.heap.size) A0 c0 L N x w3 (PB.out.st.noth (Only.undrew h3)) (PB.out.rf.noth (Only.undrew h3)) PB.out.tw (fun h => h.1 rfl) (QX.out.ps.noth (Only.undrew h3)) (fun h => by have h : b2 < w.heap.size := h; have := PB.out.lo.2.1; have := HBASE.out; omega) H12.out QX.out.kd (TB.out.noth (HON.out.tr (Only.undrew h3)))).mono (fun e w' h => ?_)) (by kernel_rfl) rfl rfl (by rfl) (fun _ => by go_simp) ?_
              · obtain ⟨⟨L', A', c', N', rfl, h1, h2, h3'⟩, ho⟩ := h
                exact ⟨_, rfl, ⟨L', A', c', N', rfl, h1, h2, h3'⟩, (h3.mono (fun _ h _ => h.elim)).trans ho (fun _ h _ => h)⟩
              rintro v w3 w4 h3 ⟨L2, A2, c2, N2, rfl, hst, hrf, htw⟩ h4
              simp only [Act.put, List.setIfInBounds_toArray, List.set_cons_zero, List.set_cons_succ]
              refine wpG_take (i := 7) (d := some 50) rfl rfl (by kernel_rfl) (by kernel_rfl) (by kernel_rfl) (fun _ _ _ h => h) (sure_value (v := .tuple #[.agg #[.slice A2 N2.length c2], .bool true]) (by rfl) (fun v1 h1 => by first | rfl | (go_simp; done) | (go_simp; intro h9; exact absurd h9 (by omega)) | (go_simp; assumption))) h4 ?_
              simp only [Act.put, List.setIfInBounds_toArray, List.set_cons_zero, List.set_cons_succ]
              refine wpG_take (i := 8) (d := some 58) rfl rfl (by kernel_rfl) (by kernel_rfl) (by kernel_rfl) (fun _ _ _ h => h) (sure_value (v := .agg #[.slice A2 N2.length c2]) (by rfl) (fun v1 h1 => by first | rfl | (go_simp; done) | (go_simp; intro h9; exact absurd h9 (by omega)) | (go_simp; assumption))) h4 ?_
              simp only [Act.put, List.setIfInBounds_toArray, List.set_cons_zero, List.set_cons_succ]
              refine wpG_free (i := 9) (v := .bool true) (d := some 59) rfl rfl (by kernel_rfl) (by kernel_rfl) (by kernel_rfl) (fun _ _ _ h => h) (.inl ⟨by rfl, fun w hS b K Q he hk => by unfold Oper.wp; rw [he]; exact hk w (Only.refl _ w) hS⟩) h4 ?_
              simp only [Act.put, List.setIfInBounds_toArray, List.set_cons_zero, List.set_cons_succ]
              refine wpG_store (i := 10) (g := p2) (cs' := #[.slice A2 N2.length c2]) (by kernel_rfl) rfl (by rfl) rfl rfl rfl rfl ((PB.out.bx.drew).only h4 (fun h => PB.out.pb h)) (fun _ => PB.out.lo.2.2) rfl (by simp [Value.oneCell']) (by kernel_rfl) h4 (fun j hj => by have hj : j = b2 := hj; subst hj; exact PB.out.lo.2.1) ?_
              intro w5 w6 h5 hb6 h6 h36
              refine wpN_take (i := 11) (d := some 10) rfl rfl (by kernel_rfl) (by kernel_rfl) (by kernel_rfl) (fun _ _ _ h => h) (sure_value (v := .bool true) (by rfl) (fun v1 h1 => by first | rfl | (go_simp; done) | (go_simp; intro h9; exact absurd h9 (by omega)) | (go_simp; assumption))) h36 ?_
              simp only [Act.put, List.setIfInBounds_toArray, List.set_cons_zero, List.set_cons_succ]
              refine wpN_done (by kernel_rfl) (fun w7 ho7 => ?_) _
              have PB2 := Lib.hid (PB.out.next (Only.undrew h3) (Only.undrew h4) hst hrf htw h5 hb6 h6 ho7)
              clear h3 h4 hst hrf htw h5 hb6 h6 h36 ho7
              go_wp2_with fail
              go_roundw
              case rel => exact ⟨j + 1, L2, N2, A2, c2, by omega, by go_num, PB2.out⟩
              case measure => simp [RowKit.intOf]; omega
            · obtain rfl : j = m := by omega
              have PAE := Lib.hid (PAS.out.noth PB.out.on)
              have m9 := PB.out.bx.cell 0
              go_wp2_with fail
              refine (same_run g2 b2 _ _ _ _ _ 5 _ PB.out.st PB.out.rf PB.out.tw).mono ?_
              rintro e w8 ⟨rfl, ho⟩
              have OE := Lib.hid (HON.out.tr ho)
              have PAF := Lib.hid (PAE.out.noth ho)
              have m6 := PAF.out.bx.cell 0
              clear ho m9
              go_wp2_with fail
              refine (same_run g b _ _ _ _ _ 5 _ PAF.out.st PAF.out.rf PAF.out.tw).mono ?_
              rintro e w9 ⟨rfl, ho⟩
              have OG := Lib.hid (OE.out.tr ho)
              clear ho m6
              go_wp2_with fail
              refine (awake_run _ (TB.out.noth OG.out)).mono ?_
              rintro e wz ⟨rfl, ho⟩
              have OZ := Lib.hid (OG.out.tr ho)
              clear ho
              go_wp2
              go_ret
              exact ⟨rfl, OZ.out⟩
end Go.Proofs.YtokgignmdgejoaaDoor
