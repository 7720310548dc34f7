/- CrdtPuts: the walk. -/
import Derived.Test.YtdclkbhkboaafaaCmNil
namespace Go.Proofs.Ytdclkbhkboaafaa
open Go.RowKit Go.Lib Go.Sort
set_option linter.unusedVariables false
set_option linter.unusedSimpArgs false
set_option maxRecDepth 100000
attribute [local go_sem ↓] Go.wp_at_zero Go.wp_at_succ

theorem MapIs.ne_hld {w : World} {b g : Nat} {L : List Ent} {t : TypeId} {cs : Array Value} (h : MapIs w b L) (k : Hld w g t cs) : b ≠ g := fun e => by
  obtain ⟨es, clock, h2, _⟩ := h
  subst e
  unfold Hld at k
  rw [k] at h2
  cases h2
theorem CmAt.ne_box {w : World} {g b rb : Nat} {L : List Ent} {cs : Array Value} (h : CmAt w g b L) (k : Hld w rb 28 cs) : g ≠ rb ∧ b ≠ rb := ⟨h.box.ne_ k (by decide), h.own.ne_hld k⟩
set_option maxHeartbeats 16000000 in
theorem puts_walk (l : List Ent) (A : Option Addr) (c : Nat) (w : World) (h : Ents w (.slice A l.length c) l) (hf : Fit l) :
    Calls Try.prog 3 #[.slice A l.length c] w fun e w' => e = .returned (.bool true) ∧ Only Noth w w' := by
  have E := Lib.hid h
  have HF := Lib.hid hf
  have O := Lib.hid (Only.refl Noth w)
  have hn0 : (0 : Int) ≤ l.length := by omega
  have hle : l.length ≤ 9223372036854775807 := by obtain ⟨_, _, _, _, h1, h2⟩ := h; omega
  clear h hf
  go_enter Try.func3, Try.ntmps3
  go_wp2_with fail
  refine (light_run A c l hle _).mono ?_
  rintro r w0 ⟨rfl, ho⟩
  replace E := Lib.hid (E.out.noth ho)
  replace O := Lib.hid (O.out.tr ho)
  clear ho
  by_cases hbig : ¬ ((l.length : Int) ≤ 300)
  · have hd : decide ((l.length : Int) ≤ 300) = false := by simpa using hbig
    rw [hd]
    go_wp2_with fail
    refine (cm_awake _).mono ?_
    rintro e w1 ⟨rfl, ho⟩
    replace O := Lib.hid (O.out.tr ho)
    clear ho
    go_wp2
    go_ret
    exact ⟨rfl, O.out⟩
  have hsm : (l.length : Int) ≤ 300 := Decidable.not_not.1 hbig
  have hd : decide ((l.length : Int) ≤ 300) = true := by simpa using hsm
  rw [hd]
  clear hd hbig
  go_wp2_with fail
  refine (cm_new _).mono ?_
  rintro r w1 ⟨⟨g, b, rfl, hm, hg, hb⟩, ho⟩
  have zg := Lib.hid (Nat.le_trans O.out.size hg)
  have zb := Lib.hid (Nat.le_trans O.out.size hb)
  replace E := Lib.hid (E.out.noth ho)
  replace O := Lib.hid (O.out.tr ho)
  have CM := Lib.hid hm
  clear ho hm hg hb
  go_wp2_with (refine wpList_store_whole rfl rfl 28 (.tmp 4) (.tmp 16) rfl _ rfl #[.slice none 0 0] rfl 28 _ (Hld.new _ _ _) rfl (by simp [Value.oneCell']) (by kernel_rfl) ?_; intro w2 hb2 ho2 _; have RB := Lib.hid hb2; have OW := Lib.hid (((Only.refl Noth w1).alloc (.cells #[.slice none 0 0] 28)).trans ho2 (fun j hj hl => by have hj : j = w1.heap.size := hj; omega)); clear hb2 ho2)
  replace E := Lib.hid (E.out.noth OW.out)
  have zr := Lib.hid (O.out.size)
  replace O := Lib.hid (O.out.tr OW.out)
  replace CM := Lib.hid (CM.out.noth OW.out)
  clear OW
  obtain ⟨rb, hrb⟩ : ∃ rb, w1.heap.size = rb := ⟨_, rfl⟩
  rw [hrb] at RB zr ⊢
  clear hrb
  go_loopw [5] (fun i W => ∃ k : Nat, k ≤ l.length ∧ i = .int .i64 (k : Int) ∧ (∃ L B d, L = (cmerge [] (l.take k)).1 ∧ CmAt W g b L ∧ Hld W rb 28 #[.slice B L.length d] ∧ Ents W (.slice B L.length d) L) ∧ Ents W (.slice A l.length c) l ∧ Only Noth w W) (fun i _ => l.length - (RowKit.intOf i).toNat)
  case atStart => exact ⟨0, Nat.zero_le _, rfl, ⟨[], none, 0, by simp [cmerge], CM.out, RB.out, Ents.none_ _⟩, E.out, O.out⟩
  case round =>
    obtain ⟨k, hk, rfl, ⟨L, B, d, hL, hm, hr, he⟩, hel, ho⟩ := hrel
    replace CM := Lib.hid hm
    replace RB := Lib.hid hr
    have ER := Lib.hid he
    replace E := Lib.hid hel
    replace O := Lib.hid ho
    have HL := Lib.hid hL
    have NE := Lib.hid (hm.ne_box hr)
    have hk0 : (0 : Int) ≤ k := by omega
    clear hL hm hr he hel ho
    by_cases hlt : k < l.length
    · obtain ⟨x, hx⟩ : ∃ x, l[k]? = some x := ⟨_, List.getElem?_eq_getElem hlt⟩
      have XS := Lib.hid (HF.out x (List.mem_of_getElem? hx))
      obtain ⟨xb, xo, hA, hcx⟩ := E.out.at hx
      subst hA
      obtain ⟨_, e0, e1, e2, e3, e4⟩ := hcx
      have SN := Lib.hid (show (cmerge [] (l.take (k + 1))).1 = (cstep L x).1 by rw [List.take_add_one, hx, Option.toList_some, cmerge_snoc, ← HL.out])
      have HX := Lib.hid hx
      have hk1 : (k : Int) < l.length := by omega
      clear hx
      go_wp2_with fail
      refine (cm_put g b L x XS.out.1 XS.out.2 _ CM.out).mono ?_
      rintro r w3 ⟨rfl, hm2, ho2⟩
      have CM2 := Lib.hid hm2
      replace RB := Lib.hid (RB.out.only ho2 (fun hj => NE.out.2 (show b = rb from (show rb = b from hj).symm)))
      replace ER := Lib.hid (ER.out.beside CM.out.own ho2)
      replace E := Lib.hid (E.out.beside CM.out.own ho2)
      replace O := Lib.hid (O.out.trans ho2 (fun j hj hl => by have hj : j = b := hj; have := zb.out; omega))
      have RM := Lib.hid CM.out.rm
      obtain ⟨yb, yo, hA, hcy⟩ := E.out.at HX.out
      injection hA with hA
      injection hA with hA1 hA2
      subst hA1 hA2
      have CX := Lib.hid hcy
      clear hm2 ho2 e0 e1 e2 e3 e4 CM hcy
      go_wp2_with fail
      refine region_meet (X := Option Addr × Nat × List Ent × Nat) (fun (B2, d2, M2, p) wx => M2 = (cstep L x).1 ∧ Hld wx p 28 #[.slice B2 M2.length d2] ∧ Ents wx (.slice B2 M2.length d2) M2 ∧ Only Noth w3 wx) (fun (B2, d2, M2, p) b => (((((((((((((b.put (some 33) (.agg #[.slice B L.length d])).put (some 34) (.slice (some ⟨xb, xo, none⟩) l.length c)).put (some 35) (.int .i64 (k : Int))).put (some 36) (.pointer (some ⟨xb, xo + k * 5, none⟩))).put (some 37) (.agg x.arr)).put (some 38) (.tuple #[.agg #[.slice B2 M2.length d2], .bool (cstep L x).2.1, .int .i64 (cstep L x).2.2])).put (some 32) (.tuple #[.agg #[.slice B2 M2.length d2], .bool (cstep L x).2.1, .int .i64 (cstep L x).2.2])).put (some 39) (.agg #[.slice B2 M2.length d2])).put (some 40) (.bool (cstep L x).2.1)).put (some 41) (.int .i64 (cstep L x).2.2)).put (some 8) (.pointer (some ⟨p, 0, none⟩))).put (some 9) (.bool (cstep L x).2.1)).put (some 10) (.int .i64 (cstep L x).2.2))) ?_ ?_
      · refine wp_region_N Noth (by kernel_rfl) ?_
        refine wpN_take (i := 0) (d := some 33) rfl rfl (by kernel_rfl) (by kernel_rfl) (by kernel_rfl) (fun _ _ _ h => h) (sure_one RB.out.drew (fun h => h) (by rfl) (fun _ h => by go_simp)) (Only.refl _ _) ?_
        simp only [Act.put, List.setIfInBounds_toArray, List.set_cons_zero, List.set_cons_succ]
        refine wpN_take (i := 1) (d := some 34) rfl rfl (by kernel_rfl) (by kernel_rfl) (by kernel_rfl) (fun _ _ _ h => h) (sure_value (v := .slice (some ⟨xb, xo, none⟩) l.length c) (by rfl) (fun v1 h1 => by first | rfl | (go_simp; done) | (go_simp; intro h9; exact absurd h9 (by omega)) | (go_simp; assumption))) (Only.refl _ _) ?_
        simp only [Act.put, List.setIfInBounds_toArray, List.set_cons_zero, List.set_cons_succ]
        refine wpN_take (i := 2) (d := some 35) rfl rfl (by kernel_rfl) (by kernel_rfl) (by kernel_rfl) (fun _ _ _ h => h) (sure_value (v := .int .i64 (k : Int)) (by rfl) (fun v1 h1 => by first | rfl | (go_simp; done) | (go_simp; intro h9; exact absurd h9 (by omega)) | (go_simp; assumption))) (Only.refl _ _) ?_
        simp only [Act.put, List.setIfInBounds_toArray, List.set_cons_zero, List.set_cons_succ]
        refine wpN_take (i := 3) (d := some 36) rfl rfl (by kernel_rfl) (by kernel_rfl) (by kernel_rfl) (fun _ _ _ h => h) (sure_value (v := .pointer (some ⟨xb, xo + k * 5, none⟩)) (by rfl) (fun v1 h1 => by first | rfl | (go_simp; done) | (go_simp; intro h9; exact absurd h9 (by omega)) | (go_simp; assumption))) (Only.refl _ _) ?_
        simp only [Act.put, List.setIfInBounds_toArray, List.set_cons_zero, List.set_cons_succ]
        refine wpN_take (i := 4) (d := some 37) rfl rfl (by kernel_rfl) (by kernel_rfl) (by kernel_rfl) (fun _ _ _ h => h) (sure_at CX.out.drew (fun h => h) (by rfl) rfl rfl) (Only.refl _ _) ?_
        simp only [Act.put, List.setIfInBounds_toArray, List.set_cons_zero, List.set_cons_succ]
        refine wpN_ca (i := 5) (j := 10) (d := some 38) (d' := some 8) (z := #[.slice none 0 0]) (t := 28) (T := (fun v w1 w' => (∃ B2 d2 M2, M2 = (cstep L x).1 ∧ v = .tuple #[.agg #[.slice B2 M2.length d2], .bool (cstep L x).2.1, .int .i64 (cstep L x).2.2] ∧ Ents w' (.slice B2 M2.length d2) M2) ∧ Only Noth w1 w')) (fun w1 h1 => (rput_call XS.out.1 XS.out.2 RM.out (ER.out.noth (Only.undrew h1))).mono (fun r w' h => by obtain ⟨v, e1, e2, e3⟩ := h; exact ⟨v, e1, ⟨e2, e3⟩, (h1).tr e3⟩)) (by kernel_rfl) rfl rfl (by rfl) (fun _ => by go_simp) rfl rfl (by rfl) (fun _ => rfl) (Only.refl _ _) ?_ ?_
        · rintro v w1 w2 h1 ⟨⟨B2, d2, M2, hM2, rfl, he2⟩, hcall⟩ h3
          simp only [Act.put, List.setIfInBounds_toArray, List.set_cons_zero, List.set_cons_succ]
          refine wpN_take (i := 6) (d := some 32) rfl rfl (by kernel_rfl) (by kernel_rfl) (by kernel_rfl) (fun _ _ _ h => h) (sure_value (v := .tuple #[.agg #[.slice B2 M2.length d2], .bool (cstep L x).2.1, .int .i64 (cstep L x).2.2]) (by rfl) (fun v1 h1 => by first | rfl | (go_simp; done) | (go_simp; intro h9; exact absurd h9 (by omega)) | (go_simp; assumption))) h3 ?_
          simp only [Act.put, List.setIfInBounds_toArray, List.set_cons_zero, List.set_cons_succ]
          refine wpN_take (i := 7) (d := some 39) rfl rfl (by kernel_rfl) (by kernel_rfl) (by kernel_rfl) (fun _ _ _ h => h) (sure_value (v := .agg #[.slice B2 M2.length d2]) (by rfl) (fun v1 h1 => by first | rfl | (go_simp; done) | (go_simp; intro h9; exact absurd h9 (by omega)) | (go_simp; assumption))) h3 ?_
          simp only [Act.put, List.setIfInBounds_toArray, List.set_cons_zero, List.set_cons_succ]
          refine wpN_take (i := 8) (d := some 40) rfl rfl (by kernel_rfl) (by kernel_rfl) (by kernel_rfl) (fun _ _ _ h => h) (sure_value (v := .bool (cstep L x).2.1) (by rfl) (fun v1 h1 => by first | rfl | (go_simp; done) | (go_simp; intro h9; exact absurd h9 (by omega)) | (go_simp; assumption))) h3 ?_
          simp only [Act.put, List.setIfInBounds_toArray, List.set_cons_zero, List.set_cons_succ]
          refine wpN_take (i := 9) (d := some 41) rfl rfl (by kernel_rfl) (by kernel_rfl) (by kernel_rfl) (fun _ _ _ h => h) (sure_value (v := .int .i64 (cstep L x).2.2) (by rfl) (fun v1 h1 => by first | rfl | (go_simp; done) | (go_simp; intro h9; exact absurd h9 (by omega)) | (go_simp; assumption))) h3 ?_
          simp only [Act.put, List.setIfInBounds_toArray, List.set_cons_zero, List.set_cons_succ]
          refine wpN_alloc (i := 10) (d := some 8) (z := #[.slice none 0 0]) (t := 28) (by kernel_rfl) rfl rfl (by rfl) h3 (fun _ => rfl) ?_
          intro w4 p ho4 P1 hp
          simp only [Act.put, List.setIfInBounds_toArray, List.set_cons_zero, List.set_cons_succ]
          have hS4 := only_up _ _ _ h3 ho4
          refine wpN_store (i := 11) (g := p) (cs' := #[.slice B2 M2.length d2]) (by kernel_rfl) rfl (by rfl) rfl rfl rfl rfl P1 (fun h => absurd h (Nat.not_lt.2 (Nat.le_trans h3.size hp))) rfl (by simp [Value.oneCell']) (by kernel_rfl) hS4 ?_
          intro w5 w6 ho5 P2 ho6 hS6
          refine wpN_take (i := 12) (d := some 9) rfl rfl (by kernel_rfl) (by kernel_rfl) (by kernel_rfl) (fun _ _ _ h => h) (sure_value (v := .bool (cstep L x).2.1) (by rfl) (fun v1 h1 => by first | rfl | (go_simp; done) | (go_simp; intro h9; exact absurd h9 (by omega)) | (go_simp; assumption))) hS6 ?_
          simp only [Act.put, List.setIfInBounds_toArray, List.set_cons_zero, List.set_cons_succ]
          refine wpN_take (i := 13) (d := some 10) rfl rfl (by kernel_rfl) (by kernel_rfl) (by kernel_rfl) (fun _ _ _ h => h) (sure_value (v := .int .i64 (cstep L x).2.2) (by rfl) (fun v1 h1 => by first | rfl | (go_simp; done) | (go_simp; intro h9; exact absurd h9 (by omega)) | (go_simp; assumption))) hS6 ?_
          simp only [Act.put, List.setIfInBounds_toArray, List.set_cons_zero, List.set_cons_succ]
          refine wpN_done (by kernel_rfl) (fun w7 ho7 => ?_) _
          have PB := P2.only ho7 (fun h => h)
          have hW : Only Noth w2 w7 := (ho4.tr ho5).trans (ho6.trans ho7 (fun j hj _ => hj.elim)) (fun j hj hl => by have hj : j = p := hj; omega)
          have hT := Only.undrew (only_up _ _ _ hS6 ho7)
          exact Meet.at (B2, d2, M2, p) ⟨hM2, PB, he2.noth hW, hT⟩ (by simp only [Act.put, List.setIfInBounds_toArray, List.set_cons_zero, List.set_cons_succ])
        · intro w2 p ho2 P1 hp
          simp only [Act.put, List.setIfInBounds_toArray, List.set_cons_zero, List.set_cons_succ]
          refine wpN_call (i := 5) (d := some 38) (T := (fun v w1 w' => (∃ B2 d2 M2, M2 = (cstep L x).1 ∧ v = .tuple #[.agg #[.slice B2 M2.length d2], .bool (cstep L x).2.1, .int .i64 (cstep L x).2.2] ∧ Ents w' (.slice B2 M2.length d2) M2) ∧ Only Noth w1 w')) (fun w1 h1 => (rput_call XS.out.1 XS.out.2 RM.out (ER.out.noth (Only.undrew (ho2.tr h1)))).mono (fun r w' h => by obtain ⟨v, e1, e2, e3⟩ := h; exact ⟨v, e1, ⟨e2, e3⟩, ((ho2.tr h1)).tr e3⟩)) (by kernel_rfl) rfl rfl (by rfl) (fun _ => by go_simp) ?_
          rintro v w1 w3 h1 ⟨⟨B2, d2, M2, hM2, rfl, he2⟩, hcall⟩ h3
          have P3 := (P1.only h1 (fun h => h)).only hcall (fun h => h)
          simp only [Act.put, List.setIfInBounds_toArray, List.set_cons_zero, List.set_cons_succ]
          refine wpN_take (i := 6) (d := some 32) rfl rfl (by kernel_rfl) (by kernel_rfl) (by kernel_rfl) (fun _ _ _ h => h) (sure_value (v := .tuple #[.agg #[.slice B2 M2.length d2], .bool (cstep L x).2.1, .int .i64 (cstep L x).2.2]) (by rfl) (fun v1 h1 => by first | rfl | (go_simp; done) | (go_simp; intro h9; exact absurd h9 (by omega)) | (go_simp; assumption))) h3 ?_
          simp only [Act.put, List.setIfInBounds_toArray, List.set_cons_zero, List.set_cons_succ]
          refine wpN_take (i := 7) (d := some 39) rfl rfl (by kernel_rfl) (by kernel_rfl) (by kernel_rfl) (fun _ _ _ h => h) (sure_value (v := .agg #[.slice B2 M2.length d2]) (by rfl) (fun v1 h1 => by first | rfl | (go_simp; done) | (go_simp; intro h9; exact absurd h9 (by omega)) | (go_simp; assumption))) h3 ?_
          simp only [Act.put, List.setIfInBounds_toArray, List.set_cons_zero, List.set_cons_succ]
          refine wpN_take (i := 8) (d := some 40) rfl rfl (by kernel_rfl) (by kernel_rfl) (by kernel_rfl) (fun _ _ _ h => h) (sure_value (v := .bool (cstep L x).2.1) (by rfl) (fun v1 h1 => by first | rfl | (go_simp; done) | (go_simp; intro h9; exact absurd h9 (by omega)) | (go_simp; assumption))) h3 ?_
          simp only [Act.put, List.setIfInBounds_toArray, List.set_cons_zero, List.set_cons_succ]
          refine wpN_take (i := 9) (d := some 41) rfl rfl (by kernel_rfl) (by kernel_rfl) (by kernel_rfl) (fun _ _ _ h => h) (sure_value (v := .int .i64 (cstep L x).2.2) (by rfl) (fun v1 h1 => by first | rfl | (go_simp; done) | (go_simp; intro h9; exact absurd h9 (by omega)) | (go_simp; assumption))) h3 ?_
          simp only [Act.put, List.setIfInBounds_toArray, List.set_cons_zero, List.set_cons_succ]
          refine wpN_store (i := 11) (g := p) (cs' := #[.slice B2 M2.length d2]) (by kernel_rfl) rfl (by rfl) rfl rfl rfl rfl P3 (fun h => absurd h (Nat.not_lt.2 hp)) rfl (by simp [Value.oneCell']) (by kernel_rfl) h3 ?_
          intro w5 w6 ho5 P2 ho6 hS6
          refine wpN_take (i := 12) (d := some 9) rfl rfl (by kernel_rfl) (by kernel_rfl) (by kernel_rfl) (fun _ _ _ h => h) (sure_value (v := .bool (cstep L x).2.1) (by rfl) (fun v1 h1 => by first | rfl | (go_simp; done) | (go_simp; intro h9; exact absurd h9 (by omega)) | (go_simp; assumption))) hS6 ?_
          simp only [Act.put, List.setIfInBounds_toArray, List.set_cons_zero, List.set_cons_succ]
          refine wpN_take (i := 13) (d := some 10) rfl rfl (by kernel_rfl) (by kernel_rfl) (by kernel_rfl) (fun _ _ _ h => h) (sure_value (v := .int .i64 (cstep L x).2.2) (by rfl) (fun v1 h1 => by first | rfl | (go_simp; done) | (go_simp; intro h9; exact absurd h9 (by omega)) | (go_simp; assumption))) hS6 ?_
          simp only [Act.put, List.setIfInBounds_toArray, List.set_cons_zero, List.set_cons_succ]
          refine wpN_done (by kernel_rfl) (fun w7 ho7 => ?_) _
          have PB := P2.only ho7 (fun h => h)
          have hT := Only.undrew (only_up _ _ _ hS6 ho7)
          have hW : Only (fun k => k = p) w3 w7 := (ho5.mono (fun j hj _ => hj.elim)).trans (ho6.trans ho7 (fun j hj _ => hj.elim)) (fun j hj _ => hj)
          exact Meet.at (B2, d2, M2, p) ⟨hM2, PB, he2.aside P3 hW, hT⟩ (by simp only [Act.put, List.setIfInBounds_toArray, List.set_cons_zero, List.set_cons_succ])
      rintro ⟨B2, d2, M2, p⟩ w7 ⟨hM2, hpb, he2, ht⟩
      simp only [Act.put, List.setIfInBounds_toArray, List.set_cons_zero, List.set_cons_succ]
      have PB := Lib.hid hpb
      have E2 := Lib.hid he2
      replace E := Lib.hid (E.out.noth ht)
      replace RB := Lib.hid (RB.out.only ht (fun h => h))
      replace CM2 := Lib.hid (CM2.out.noth ht)
      replace O := Lib.hid (O.out.tr ht)
      rw [← hM2] at CM2
      replace SN := Lib.hid (SN.out.trans hM2.symm)
      clear hM2 hpb he2 ht ER HX CX
      have q0 : _ = some (Value.slice B2 M2.length d2) := PB.out.cell 0
      obtain ⟨ok, hok⟩ : ∃ ok, (cstep L x).2.1 = ok := ⟨_, rfl⟩
      obtain ⟨er, her⟩ : ∃ er, (cstep L x).2.2 = er := ⟨_, rfl⟩
      rw [hok, her]
      clear hok her
      go_wp2_with (refine wpList_store_whole rfl rfl 28 (.tmp 4) (.tmp 42) rfl rb rfl #[.slice B2 M2.length d2] rfl 28 _ RB.out rfl (by simp [Value.oneCell']) (by kernel_rfl) ?_; intro w9 hb9 ho9 _; have RB9 := Lib.hid hb9; have c9 : _ = some (Value.slice B2 M2.length d2) := hb9.cell 0; have E9 := Lib.hid (E2.out.aside RB.out ho9); have EL9 := Lib.hid (E.out.aside RB.out ho9); have CM9 := Lib.hid (CM2.out.only ho9 NE.out.1 NE.out.2); have O9 := Lib.hid (O.out.trans ho9 (fun j hj hl => by have hj : j = rb := hj; have := zr.out; omega)); clear hb9 ho9)
      · refine (same_law g b _ _ M2 M2 _ CM9.out E9.out rfl).mono ?_
        rintro r w10 ⟨rfl, ho⟩
        replace RB9 := Lib.hid (RB9.out.only ho (fun h => h))
        replace E9 := Lib.hid (E9.out.noth ho)
        replace EL9 := Lib.hid (EL9.out.noth ho)
        replace CM9 := Lib.hid (CM9.out.noth ho)
        replace O9 := Lib.hid (O9.out.tr ho)
        clear ho
        go_wp2_with fail
        go_roundw
        case rel => exact ⟨k + 1, by omega, by go_num, ⟨M2, B2, d2, SN.out.symm, CM9.out, RB9.out, E9.out⟩, EL9.out, O9.out⟩
        case measure => simp [RowKit.intOf]; omega
      · go_roundw
        case rel => exact ⟨k + 1, by omega, by go_num, ⟨M2, B2, d2, SN.out.symm, CM9.out, RB9.out, E9.out⟩, EL9.out, O9.out⟩
        case measure => simp [RowKit.intOf]; omega
    · obtain rfl : k = l.length := by omega
      have m0 : _ = some (Value.slice B L.length d) := RB.out.cell 0
      go_wp2_with fail
      refine (same_law g b _ _ L L _ CM.out ER.out rfl).mono ?_
      rintro r w10 ⟨rfl, ho⟩
      replace O := Lib.hid (O.out.tr ho)
      clear ho
      go_wp2_with fail
      refine (cm_awake _).mono ?_
      rintro e w11 ⟨rfl, ho⟩
      replace O := Lib.hid (O.out.tr ho)
      clear ho
      go_wp2
      go_ret
      exact ⟨rfl, O.out⟩
end Go.Proofs.Ytdclkbhkboaafaa
