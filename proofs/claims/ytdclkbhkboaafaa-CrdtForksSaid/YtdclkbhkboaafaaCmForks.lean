/- CrdtForks: the walk. -/
import Derived.Test.YtdclkbhkboaafaaCmPuts
namespace Go.Proofs.Ytdclkbhkboaafaa
open Go.RowKit Go.Lib Go.Sort
set_option linter.unusedVariables false
set_option linter.unusedSimpArgs false
set_option maxRecDepth 100000
attribute [local go_sem ↓] Go.wp_at_zero Go.wp_at_succ

/-- The entry that a map which is not there is told. -/
def ek : Ent := ⟨⟨#[107]⟩, 0, 0, ⟨#[]⟩, 0⟩
theorem fork_call {g b : Nat} {L : List Ent} {w1 : World} (h : CmAt w1 g b L) : Calls Try.prog 31 #[.pointer (some ⟨g, 0, none⟩)] w1 fun e w' => ∃ v, e = .returned v ∧ (∃ g2 b2, v = .pointer (some ⟨g2, 0, none⟩) ∧ CmAt w' g2 b2 L ∧ w1.heap.size ≤ g2 ∧ w1.heap.size ≤ b2) ∧ Only Noth w1 w' := by
  refine (cm_fork g b L w1 h).mono ?_
  rintro e w' ⟨⟨g2, b2, rfl, h1, h2, h3⟩, ho⟩
  exact ⟨_, rfl, ⟨g2, b2, rfl, h1, h2, h3⟩, ho⟩
set_option maxHeartbeats 32000000 in
theorem forks_walk (l : List Ent) (A : Option Addr) (c : Nat) (m : List Ent) (A2 : Option Addr) (c2 : Nat) (now : Int) (w : World) (h : Ents w (.slice A l.length c) l) (hf : Fit l) (h2 : Ents w (.slice A2 m.length c2) m) (hf2 : Fit m) :
    Calls Try.prog 9 #[.slice A l.length c, .slice A2 m.length c2, .int .i64 now] w fun e w' => e = .returned (.bool true) ∧ Only Noth w w' := by
  have EL := Lib.hid h
  have EM := Lib.hid h2
  have FL := Lib.hid hf
  have FM := Lib.hid hf2
  have O := Lib.hid (Only.refl Noth w)
  have hn0 : (0 : Int) ≤ l.length := by omega
  have hn1 : (0 : Int) ≤ m.length := by omega
  have hle : l.length ≤ 9223372036854775807 := by obtain ⟨_, _, _, _, h1, h2⟩ := h; omega
  have hle2 : m.length ≤ 9223372036854775807 := by obtain ⟨_, _, _, _, h1, h2⟩ := h2; omega
  clear h h2 hf hf2
  go_enter Try.func9, Try.ntmps9
  go_wp2_with fail
  refine (light_run A c l hle _).mono ?_
  rintro r wll ⟨rfl, ho⟩
  replace EL := Lib.hid (EL.out.noth ho)
  replace EM := Lib.hid (EM.out.noth ho)
  replace O := Lib.hid (O.out.tr ho)
  clear ho
  by_cases hbl : ¬ ((l.length : Int) ≤ 300)
  · have hd : decide ((l.length : Int) ≤ 300) = false := by simpa using hbl
    rw [hd]
    go_wp2_with fail
    refine (cm_awake _).mono ?_
    rintro e wa ⟨rfl, ho⟩
    replace O := Lib.hid (O.out.tr ho)
    clear ho
    go_wp2
    go_ret
    exact ⟨rfl, O.out⟩
  have hsl : (l.length : Int) ≤ 300 := Decidable.not_not.1 hbl
  have hd : decide ((l.length : Int) ≤ 300) = true := by simpa using hsl
  rw [hd]
  clear hd hbl
  go_wp2_with fail
  refine (light_run A2 c2 m hle2 _).mono ?_
  rintro r wlm ⟨rfl, ho⟩
  replace EL := Lib.hid (EL.out.noth ho)
  replace EM := Lib.hid (EM.out.noth ho)
  replace O := Lib.hid (O.out.tr ho)
  clear ho
  by_cases hbm : ¬ ((m.length : Int) ≤ 300)
  · have hd : decide ((m.length : Int) ≤ 300) = false := by simpa using hbm
    rw [hd]
    go_wp2_with fail
    refine (cm_awake _).mono ?_
    rintro e wa ⟨rfl, ho⟩
    replace O := Lib.hid (O.out.tr ho)
    clear ho
    go_wp2
    go_ret
    exact ⟨rfl, O.out⟩
  have hsm : (m.length : Int) ≤ 300 := Decidable.not_not.1 hbm
  have hd : decide ((m.length : Int) ≤ 300) = true := by simpa using hsm
  rw [hd]
  clear hd hbm
  go_wp2_with fail
  refine (cm_new _).mono ?_
  rintro r w1 ⟨⟨g, b, rfl, hm, hg, hb⟩, ho⟩
  have zg := Lib.hid (Nat.le_trans O.out.size hg)
  have zb := Lib.hid (Nat.le_trans O.out.size hb)
  replace EL := Lib.hid (EL.out.noth ho)
  replace EM := Lib.hid (EM.out.noth ho)
  replace O := Lib.hid (O.out.tr ho)
  have CM := Lib.hid hm
  clear ho hm hg hb
  go_wp2_with (refine wpList_store_whole rfl rfl 28 (.tmp 8) (.tmp 29) rfl _ rfl #[.slice none 0 0] rfl 28 _ (Hld.new _ _ _) rfl (by simp [Value.oneCell']) (by kernel_rfl) ?_; intro w2 hb2 ho2 _; have RB := Lib.hid hb2; have OW := Lib.hid (((Only.refl Noth w1).alloc (.cells #[.slice none 0 0] 28)).trans ho2 (fun j hj hl => by have hj : j = w1.heap.size := hj; omega)); clear hb2 ho2)
  have zr := Lib.hid (O.out.size)
  replace EL := Lib.hid (EL.out.noth OW.out)
  replace EM := Lib.hid (EM.out.noth OW.out)
  replace CM := Lib.hid (CM.out.noth OW.out)
  replace O := Lib.hid (O.out.tr OW.out)
  clear OW
  obtain ⟨rb, hrb⟩ : ∃ rb, w1.heap.size = rb := ⟨_, rfl⟩
  rw [hrb] at RB zr ⊢
  clear hrb
  refine (merge_run CM.out FL.out EL.out).mono ?_
  rintro e w3 ⟨⟨n, L, rfl, hn, hL, hm⟩, ho⟩
  replace EL := Lib.hid (EL.out.beside CM.out.own ho)
  replace EM := Lib.hid (EM.out.beside CM.out.own ho)
  replace RB := Lib.hid (RB.out.only ho (fun hj => (CM.out.ne_box RB.out).2 (show b = rb from (show rb = b from hj).symm)))
  replace O := Lib.hid (O.out.trans ho (fun j hj hl => by have hj : j = b := hj; have := zb.out; omega))
  replace CM := Lib.hid hm
  have HL := Lib.hid hL
  have m0 : _ = some (Value.slice none 0 0) := RB.out.cell 0
  clear hn hL hm ho
  go_wp2_with fail
  refine (rm_merge none A 0 c [] l FL.out Rm.nil _ (Ents.none_ _) EL.out).mono ?_
  rintro e w4 ⟨⟨B, d, L2, n2, hL2, hn2, rfl, he⟩, ho⟩
  obtain rfl : L2 = L := hL2.trans HL.out.symm
  have ER := Lib.hid he
  clear m0
  replace EL := Lib.hid (EL.out.noth ho)
  replace EM := Lib.hid (EM.out.noth ho)
  replace RB := Lib.hid (RB.out.only ho (fun h => h))
  replace CM := Lib.hid (CM.out.noth ho)
  replace O := Lib.hid (O.out.tr ho)
  clear ho he hL2 hn2
  go_wp2_with (refine wpList_store_whole rfl rfl 28 (.tmp 8) (.tmp 37) rfl rb rfl #[.slice B L2.length d] rfl 28 _ RB.out rfl (by simp [Value.oneCell']) (by kernel_rfl) ?_; intro w5 hb5 ho5 _; replace EL := Lib.hid (EL.out.aside RB.out ho5); replace EM := Lib.hid (EM.out.aside RB.out ho5); replace ER := Lib.hid (ER.out.aside RB.out ho5); replace CM := Lib.hid (CM.out.only ho5 (CM.out.ne_box RB.out).1 (CM.out.ne_box RB.out).2); replace O := Lib.hid (O.out.trans ho5 (fun j hj hl => by have hj : j = rb := hj; have := zr.out; omega)); replace RB := Lib.hid hb5; clear hb5 ho5)
  refine region_meet (X := Nat × Nat × Nat) (fun (g2, b2, p) wx => CmAt wx g2 b2 L2 ∧ Hld wx p 28 #[.slice B L2.length d] ∧ w5.heap.size ≤ g2 ∧ w5.heap.size ≤ b2 ∧ w5.heap.size ≤ p ∧ Only Noth w5 wx) (fun (g2, b2, p) b => (((((b.put (some 39) (.pointer (some ⟨g, 0, none⟩))).put (some 40) (.pointer (some ⟨g2, 0, none⟩))).put (some 41) (.agg #[.slice B L2.length d])).put (some 10) (.pointer (some ⟨p, 0, none⟩))).put (some 9) (.pointer (some ⟨g2, 0, none⟩)))) ?_ ?_
  · refine wp_region_N Noth (by kernel_rfl) ?_
    refine wpN_take (i := 0) (d := some 39) rfl rfl (by kernel_rfl) (by kernel_rfl) (by kernel_rfl) (fun _ _ _ h => h) (sure_value (v := .pointer (some ⟨g, 0, none⟩)) (by rfl) (fun v1 h1 => by first | rfl | (go_simp; done) | (go_simp; intro h9; exact absurd h9 (by omega)) | (go_simp; assumption))) (Only.refl _ _) ?_
    simp only [Act.put, List.setIfInBounds_toArray, List.set_cons_zero, List.set_cons_succ]
    refine wpN_take (i := 2) (d := some 41) rfl rfl (by kernel_rfl) (by kernel_rfl) (by kernel_rfl) (fun _ _ _ h => h) (sure_one RB.out.drew (fun h => h) (by rfl) (fun _ h => by go_simp)) (Only.refl _ _) ?_
    simp only [Act.put, List.setIfInBounds_toArray, List.set_cons_zero, List.set_cons_succ]
    refine wpN_ca (i := 1) (j := 3) (d := some 40) (d' := some 10) (z := #[.slice none 0 0]) (t := 28) (T := (fun v w1 w' => (∃ g2 b2, v = .pointer (some ⟨g2, 0, none⟩) ∧ CmAt w' g2 b2 L2 ∧ w1.heap.size ≤ g2 ∧ w1.heap.size ≤ b2) ∧ Only Noth w1 w')) (fun w1 h1 => (fork_call (CM.out.noth (Only.undrew h1))).mono (fun r w' h => by obtain ⟨v, e1, e2, e3⟩ := h; exact ⟨v, e1, ⟨e2, e3⟩, (h1).tr e3⟩)) (by kernel_rfl) rfl rfl (by rfl) (fun _ => by go_simp) rfl rfl (by rfl) (fun _ => rfl) (Only.refl _ _) ?_ ?_
    · rintro v w1 w2 h1 ⟨⟨g2, b2, rfl, hcm, hz1, hz2⟩, hcall⟩ h3
      simp only [Act.put, List.setIfInBounds_toArray, List.set_cons_zero, List.set_cons_succ]
      refine wpN_alloc (i := 3) (d := some 10) (z := #[.slice none 0 0]) (t := 28) (by kernel_rfl) rfl rfl (by rfl) h3 (fun _ => rfl) ?_
      intro w4 p ho4 P1 hp
      simp only [Act.put, List.setIfInBounds_toArray, List.set_cons_zero, List.set_cons_succ]
      have hS4 := only_up _ _ _ h3 ho4
      refine wpN_take (i := 4) (d := some 9) rfl rfl (by kernel_rfl) (by kernel_rfl) (by kernel_rfl) (fun _ _ _ h => h) (sure_value (v := .pointer (some ⟨g2, 0, none⟩)) (by rfl) (fun v1 h1 => by first | rfl | (go_simp; done) | (go_simp; intro h9; exact absurd h9 (by omega)) | (go_simp; assumption))) hS4 ?_
      simp only [Act.put, List.setIfInBounds_toArray, List.set_cons_zero, List.set_cons_succ]
      refine wpN_store (i := 5) (g := p) (cs' := #[.slice B L2.length d]) (by kernel_rfl) rfl (by rfl) rfl rfl rfl rfl P1 (fun h => absurd h (Nat.not_lt.2 (Nat.le_trans h3.size hp))) rfl (by simp [Value.oneCell']) (by kernel_rfl) hS4 ?_
      intro w5 w6 ho5 P2 ho6 hS6

      refine wpN_done (by kernel_rfl) (fun w7 ho7 => ?_) _
      have PB := P2.only ho7 (fun h => h)
      have hW : Only Noth w2 w7 := (ho4.tr ho5).trans (ho6.trans ho7 (fun j hj _ => hj.elim)) (fun j hj hl => by have hj : j = p := hj; omega)
      have hT := Only.undrew (only_up _ _ _ hS6 ho7)
      have hzz := (Only.undrew h1).size
      have hz3 := (Only.undrew h3).size
      exact Meet.at (g2, b2, p) ⟨hcm.noth hW, PB, Nat.le_trans hzz hz1, Nat.le_trans hzz hz2, Nat.le_trans hz3 hp, hT⟩ (by simp only [Act.put, List.setIfInBounds_toArray, List.set_cons_zero, List.set_cons_succ])
    · intro w2 p ho2 P1 hp
      simp only [Act.put, List.setIfInBounds_toArray, List.set_cons_zero, List.set_cons_succ]
      refine wpN_call (i := 1) (d := some 40) (T := (fun v w1 w' => (∃ g2 b2, v = .pointer (some ⟨g2, 0, none⟩) ∧ CmAt w' g2 b2 L2 ∧ w1.heap.size ≤ g2 ∧ w1.heap.size ≤ b2) ∧ Only Noth w1 w')) (fun w1 h1 => (fork_call (CM.out.noth (Only.undrew (ho2.tr h1)))).mono (fun r w' h => by obtain ⟨v, e1, e2, e3⟩ := h; exact ⟨v, e1, ⟨e2, e3⟩, ((ho2.tr h1)).tr e3⟩)) (by kernel_rfl) rfl rfl (by rfl) (fun _ => by go_simp) ?_
      rintro v w1 w3 h1 ⟨⟨g2, b2, rfl, hcm, hz1, hz2⟩, hcall⟩ h3
      have P3 := (P1.only h1 (fun h => h)).only hcall (fun h => h)
      simp only [Act.put, List.setIfInBounds_toArray, List.set_cons_zero, List.set_cons_succ]
      refine wpN_take (i := 4) (d := some 9) rfl rfl (by kernel_rfl) (by kernel_rfl) (by kernel_rfl) (fun _ _ _ h => h) (sure_value (v := .pointer (some ⟨g2, 0, none⟩)) (by rfl) (fun v1 h1 => by first | rfl | (go_simp; done) | (go_simp; intro h9; exact absurd h9 (by omega)) | (go_simp; assumption))) h3 ?_
      simp only [Act.put, List.setIfInBounds_toArray, List.set_cons_zero, List.set_cons_succ]
      refine wpN_store (i := 5) (g := p) (cs' := #[.slice B L2.length d]) (by kernel_rfl) rfl (by rfl) rfl rfl rfl rfl P3 (fun h => absurd h (Nat.not_lt.2 hp)) rfl (by simp [Value.oneCell']) (by kernel_rfl) h3 ?_
      intro w5 w6 ho5 P2 ho6 hS6

      refine wpN_done (by kernel_rfl) (fun w7 ho7 => ?_) _
      have PB := P2.only ho7 (fun h => h)
      have hT := Only.undrew (only_up _ _ _ hS6 ho7)
      have hW : Only (fun k => k = p) w3 w7 := (ho5.mono (fun j hj _ => hj.elim)).trans (ho6.trans ho7 (fun j hj _ => hj.elim)) (fun j hj _ => hj)
      have hzz := Nat.le_trans (Only.undrew ho2).size h1.size
      exact Meet.at (g2, b2, p) ⟨hcm.only hW (hcm.ne_box P3).1 (hcm.ne_box P3).2, PB, Nat.le_trans hzz hz1, Nat.le_trans hzz hz2, hp, hT⟩ (by simp only [Act.put, List.setIfInBounds_toArray, List.set_cons_zero, List.set_cons_succ])
  rintro ⟨g2, b2, p⟩ w7 ⟨hcm, hpb, hz1, hz2, hz3, ht⟩
  simp only [Act.put, List.setIfInBounds_toArray, List.set_cons_zero, List.set_cons_succ]
  have z2 := Lib.hid (Nat.le_trans O.out.size hz2)
  have zp := Lib.hid (Nat.le_trans O.out.size hz3)
  have SP := Lib.hid (show g ≠ b2 ∧ b ≠ b2 from ⟨fun e => by have := CM.out.box.lt; omega, fun e => by have := CM.out.own.lt; omega⟩)
  have NB := Lib.hid (show rb ≠ p from fun e => by have := RB.out.lt; omega)
  replace EL := Lib.hid (EL.out.noth ht)
  replace EM := Lib.hid (EM.out.noth ht)
  replace ER := Lib.hid (ER.out.noth ht)
  replace RB := Lib.hid (RB.out.only ht (fun h => h))
  replace CM := Lib.hid (CM.out.noth ht)
  replace O := Lib.hid (O.out.tr ht)
  have CF := Lib.hid hcm
  have XB := Lib.hid hpb
  clear hcm hpb hz1 hz2 hz3 ht
  go_wp2_with fail
  obtain ⟨fk, hfk⟩ : ∃ fk : Int, (L2.length : Int) - ((L2.filter fun x => decide (now < x.til)).length : Nat) = fk := ⟨_, rfl⟩
  refine (cm_forget g2 b2 L2 now _ CF.out).mono ?_
  rintro e w8 ⟨rfl, hm, ho⟩
  rw [hfk]
  replace EL := Lib.hid (EL.out.beside CF.out.own ho)
  replace EM := Lib.hid (EM.out.beside CF.out.own ho)
  replace ER := Lib.hid (ER.out.beside CF.out.own ho)
  replace RB := Lib.hid (RB.out.only ho (fun hj => (CF.out.ne_box RB.out).2 (show b2 = rb from (show rb = b2 from hj).symm)))
  replace XB := Lib.hid (XB.out.only ho (fun hj => (CF.out.ne_box XB.out).2 (show b2 = p from (show p = b2 from hj).symm)))
  replace CM := Lib.hid (CM.out.only ho SP.out.1 SP.out.2)
  replace O := Lib.hid (O.out.trans ho (fun j hj hl => by have hj : j = b2 := hj; have := z2.out; omega))
  replace CF := Lib.hid hm
  have m0 : _ = some (Value.slice B L2.length d) := XB.out.cell 0
  clear hm ho
  go_wp2_with fail
  refine (rm_forget B d L2 now CM.out.len _ ER.out).mono ?_
  rintro e w9 ⟨⟨B3, d3, M3, hM3, rfl, he⟩, ho⟩
  rw [hfk]
  rw [← hM3] at CF
  have RM3 := Lib.hid CF.out.rm
  have E3 := Lib.hid he
  clear m0 hM3 he hfk
  replace EL := Lib.hid (EL.out.noth ho)
  replace EM := Lib.hid (EM.out.noth ho)
  replace ER := Lib.hid (ER.out.noth ho)
  replace RB := Lib.hid (RB.out.only ho (fun h => h))
  replace XB := Lib.hid (XB.out.only ho (fun h => h))
  replace CM := Lib.hid (CM.out.noth ho)
  replace CF := Lib.hid (CF.out.noth ho)
  replace O := Lib.hid (O.out.tr ho)
  clear ho
  go_wp2_with (refine wpList_store_whole rfl rfl 28 (.tmp 10) (.tmp 51) rfl p rfl #[.slice B3 M3.length d3] rfl 28 _ XB.out rfl (by simp [Value.oneCell']) (by kernel_rfl) ?_; intro w10 hb ho _; replace EL := Lib.hid (EL.out.aside XB.out ho); replace EM := Lib.hid (EM.out.aside XB.out ho); replace ER := Lib.hid (ER.out.aside XB.out ho); replace E3 := Lib.hid (E3.out.aside XB.out ho); replace CM := Lib.hid (CM.out.only ho (CM.out.ne_box XB.out).1 (CM.out.ne_box XB.out).2); replace CF := Lib.hid (CF.out.only ho (CF.out.ne_box XB.out).1 (CF.out.ne_box XB.out).2); replace RB := Lib.hid (RB.out.only ho NB.out); replace O := Lib.hid (O.out.trans ho (fun j hj hl => by have hj : j = p := hj; have := zp.out; omega)); replace XB := Lib.hid hb; clear hb ho)
  refine (merge_run CF.out FM.out EM.out).mono ?_
  rintro e w11 ⟨⟨n4, M4, rfl, hn4, hM4, hm⟩, ho⟩
  replace EL := Lib.hid (EL.out.beside CF.out.own ho)
  replace EM := Lib.hid (EM.out.beside CF.out.own ho)
  replace ER := Lib.hid (ER.out.beside CF.out.own ho)
  replace E3 := Lib.hid (E3.out.beside CF.out.own ho)
  replace RB := Lib.hid (RB.out.only ho (fun hj => (CF.out.ne_box RB.out).2 (show b2 = rb from (show rb = b2 from hj).symm)))
  replace XB := Lib.hid (XB.out.only ho (fun hj => (CF.out.ne_box XB.out).2 (show b2 = p from (show p = b2 from hj).symm)))
  replace CM := Lib.hid (CM.out.only ho SP.out.1 SP.out.2)
  replace O := Lib.hid (O.out.trans ho (fun j hj hl => by have hj : j = b2 := hj; have := z2.out; omega))
  replace CF := Lib.hid hm
  have H4 := Lib.hid hM4
  have m0 : _ = some (Value.slice B3 M3.length d3) := XB.out.cell 0
  clear hn4 hM4 hm ho
  go_wp2_with fail
  refine (rm_merge B3 A2 d3 c2 M3 m FM.out RM3.out _ E3.out EM.out).mono ?_
  rintro e w12 ⟨⟨B5, d5, M5, n5, hM5, hn5, rfl, he⟩, ho⟩
  obtain rfl : M5 = M4 := hM5.trans H4.out.symm
  have E5 := Lib.hid he
  clear m0
  replace EL := Lib.hid (EL.out.noth ho)
  replace EM := Lib.hid (EM.out.noth ho)
  replace ER := Lib.hid (ER.out.noth ho)
  replace E3 := Lib.hid (E3.out.noth ho)
  replace RB := Lib.hid (RB.out.only ho (fun h => h))
  replace XB := Lib.hid (XB.out.only ho (fun h => h))
  replace CM := Lib.hid (CM.out.noth ho)
  replace CF := Lib.hid (CF.out.noth ho)
  replace O := Lib.hid (O.out.tr ho)
  clear ho he hM5 hn5
  go_wp2_with (refine wpList_store_whole rfl rfl 28 (.tmp 10) (.tmp 60) rfl p rfl #[.slice B5 M5.length d5] rfl 28 _ XB.out rfl (by simp [Value.oneCell']) (by kernel_rfl) ?_; intro w13 hb ho _; replace EL := Lib.hid (EL.out.aside XB.out ho); replace EM := Lib.hid (EM.out.aside XB.out ho); replace ER := Lib.hid (ER.out.aside XB.out ho); replace E3 := Lib.hid (E3.out.aside XB.out ho); replace E5 := Lib.hid (E5.out.aside XB.out ho); replace CM := Lib.hid (CM.out.only ho (CM.out.ne_box XB.out).1 (CM.out.ne_box XB.out).2); replace CF := Lib.hid (CF.out.only ho (CF.out.ne_box XB.out).1 (CF.out.ne_box XB.out).2); replace RB := Lib.hid (RB.out.only ho NB.out); replace O := Lib.hid (O.out.trans ho (fun j hj hl => by have hj : j = p := hj; have := zp.out; omega)); replace XB := Lib.hid hb; clear hb ho)
  refine (nil_put _ ek).mono ?_
  rintro e w21 ⟨rfl, ho⟩
  replace EL := Lib.hid (EL.out.noth ho)
  replace EM := Lib.hid (EM.out.noth ho)
  replace ER := Lib.hid (ER.out.noth ho)
  replace E3 := Lib.hid (E3.out.noth ho)
  replace E5 := Lib.hid (E5.out.noth ho)
  replace RB := Lib.hid (RB.out.only ho (fun h => h))
  replace XB := Lib.hid (XB.out.only ho (fun h => h))
  replace CM := Lib.hid (CM.out.noth ho)
  replace CF := Lib.hid (CF.out.noth ho)
  replace O := Lib.hid (O.out.tr ho)
  clear ho
  go_wp2_with fail
  refine (nil_get _ ⟨#[107]⟩).mono ?_
  rintro e w22 ⟨rfl, ho⟩
  replace EL := Lib.hid (EL.out.noth ho)
  replace EM := Lib.hid (EM.out.noth ho)
  replace ER := Lib.hid (ER.out.noth ho)
  replace E3 := Lib.hid (E3.out.noth ho)
  replace E5 := Lib.hid (E5.out.noth ho)
  replace RB := Lib.hid (RB.out.only ho (fun h => h))
  replace XB := Lib.hid (XB.out.only ho (fun h => h))
  replace CM := Lib.hid (CM.out.noth ho)
  replace CF := Lib.hid (CF.out.noth ho)
  replace O := Lib.hid (O.out.tr ho)
  clear ho
  go_wp2_with (refine wpList_store_whole rfl rfl 34 (.tmp 16) (.tmp 71) rfl _ rfl Ent.none.arr rfl 34 _ (Hld.new _ _ _) rfl (by simp [Value.oneCell']) (by kernel_rfl) ?_; intro w30 hb ho _; have OW := Lib.hid (((Only.refl Noth w22).alloc (.cells Ent.none.arr 34)).trans ho (fun j hj hl => by have hj : j = w22.heap.size := hj; omega)); replace EL := Lib.hid (EL.out.noth OW.out); replace EM := Lib.hid (EM.out.noth OW.out); replace ER := Lib.hid (ER.out.noth OW.out); replace E3 := Lib.hid (E3.out.noth OW.out); replace E5 := Lib.hid (E5.out.noth OW.out); replace RB := Lib.hid (RB.out.only OW.out (fun h => h)); replace XB := Lib.hid (XB.out.only OW.out (fun h => h)); replace CM := Lib.hid (CM.out.noth OW.out); replace CF := Lib.hid (CF.out.noth OW.out); replace O := Lib.hid (O.out.tr OW.out); clear OW hb ho)
  refine (nil_merge l A c _ EL.out).mono ?_
  rintro e w23 ⟨rfl, ho⟩
  replace EL := Lib.hid (EL.out.noth ho)
  replace EM := Lib.hid (EM.out.noth ho)
  replace ER := Lib.hid (ER.out.noth ho)
  replace E3 := Lib.hid (E3.out.noth ho)
  replace E5 := Lib.hid (E5.out.noth ho)
  replace RB := Lib.hid (RB.out.only ho (fun h => h))
  replace XB := Lib.hid (XB.out.only ho (fun h => h))
  replace CM := Lib.hid (CM.out.noth ho)
  replace CF := Lib.hid (CF.out.noth ho)
  replace O := Lib.hid (O.out.tr ho)
  clear ho
  go_wp2_with fail
  refine (nil_list _).mono ?_
  rintro e w24 ⟨rfl, ho⟩
  replace EL := Lib.hid (EL.out.noth ho)
  replace EM := Lib.hid (EM.out.noth ho)
  replace ER := Lib.hid (ER.out.noth ho)
  replace E3 := Lib.hid (E3.out.noth ho)
  replace E5 := Lib.hid (E5.out.noth ho)
  replace RB := Lib.hid (RB.out.only ho (fun h => h))
  replace XB := Lib.hid (XB.out.only ho (fun h => h))
  replace CM := Lib.hid (CM.out.noth ho)
  replace CF := Lib.hid (CF.out.noth ho)
  replace O := Lib.hid (O.out.tr ho)
  clear ho
  go_wp2_with fail
  refine (nil_view _ now).mono ?_
  rintro e w25 ⟨rfl, ho⟩
  replace EL := Lib.hid (EL.out.noth ho)
  replace EM := Lib.hid (EM.out.noth ho)
  replace ER := Lib.hid (ER.out.noth ho)
  replace E3 := Lib.hid (E3.out.noth ho)
  replace E5 := Lib.hid (E5.out.noth ho)
  replace RB := Lib.hid (RB.out.only ho (fun h => h))
  replace XB := Lib.hid (XB.out.only ho (fun h => h))
  replace CM := Lib.hid (CM.out.noth ho)
  replace CF := Lib.hid (CF.out.noth ho)
  replace O := Lib.hid (O.out.tr ho)
  clear ho
  go_wp2_with fail
  refine (nil_delta l A c (fun e he => (FL.out e he).1) _ EL.out).mono ?_
  rintro e w26 ⟨rfl, ho⟩
  replace EL := Lib.hid (EL.out.noth ho)
  replace EM := Lib.hid (EM.out.noth ho)
  replace ER := Lib.hid (ER.out.noth ho)
  replace E3 := Lib.hid (E3.out.noth ho)
  replace E5 := Lib.hid (E5.out.noth ho)
  replace RB := Lib.hid (RB.out.only ho (fun h => h))
  replace XB := Lib.hid (XB.out.only ho (fun h => h))
  replace CM := Lib.hid (CM.out.noth ho)
  replace CF := Lib.hid (CF.out.noth ho)
  replace O := Lib.hid (O.out.tr ho)
  clear ho
  go_wp2_with fail
  refine (nil_forget _ now).mono ?_
  rintro e w27 ⟨rfl, ho⟩
  replace EL := Lib.hid (EL.out.noth ho)
  replace EM := Lib.hid (EM.out.noth ho)
  replace ER := Lib.hid (ER.out.noth ho)
  replace E3 := Lib.hid (E3.out.noth ho)
  replace E5 := Lib.hid (E5.out.noth ho)
  replace RB := Lib.hid (RB.out.only ho (fun h => h))
  replace XB := Lib.hid (XB.out.only ho (fun h => h))
  replace CM := Lib.hid (CM.out.noth ho)
  replace CF := Lib.hid (CF.out.noth ho)
  replace O := Lib.hid (O.out.tr ho)
  clear ho
  go_wp2_with fail
  refine (nil_len _).mono ?_
  rintro e w28 ⟨rfl, ho⟩
  replace EL := Lib.hid (EL.out.noth ho)
  replace EM := Lib.hid (EM.out.noth ho)
  replace ER := Lib.hid (ER.out.noth ho)
  replace E3 := Lib.hid (E3.out.noth ho)
  replace E5 := Lib.hid (E5.out.noth ho)
  replace RB := Lib.hid (RB.out.only ho (fun h => h))
  replace XB := Lib.hid (XB.out.only ho (fun h => h))
  replace CM := Lib.hid (CM.out.noth ho)
  replace CF := Lib.hid (CF.out.noth ho)
  replace O := Lib.hid (O.out.tr ho)
  clear ho
  go_wp2_with fail
  refine (nil_fork _).mono ?_
  rintro e w29 ⟨rfl, ho⟩
  replace EL := Lib.hid (EL.out.noth ho)
  replace EM := Lib.hid (EM.out.noth ho)
  replace ER := Lib.hid (ER.out.noth ho)
  replace E3 := Lib.hid (E3.out.noth ho)
  replace E5 := Lib.hid (E5.out.noth ho)
  replace RB := Lib.hid (RB.out.only ho (fun h => h))
  replace XB := Lib.hid (XB.out.only ho (fun h => h))
  replace CM := Lib.hid (CM.out.noth ho)
  replace CF := Lib.hid (CF.out.noth ho)
  replace O := Lib.hid (O.out.tr ho)
  clear ho
  have m0 : _ = some (Value.slice B5 M5.length d5) := XB.out.cell 0
  go_wp2_with fail
  refine (same_law g2 b2 B5 d5 M5 M5 _ CF.out E5.out rfl).mono ?_
  rintro e w30 ⟨rfl, ho⟩
  replace EL := Lib.hid (EL.out.noth ho)
  replace EM := Lib.hid (EM.out.noth ho)
  replace ER := Lib.hid (ER.out.noth ho)
  replace E3 := Lib.hid (E3.out.noth ho)
  replace E5 := Lib.hid (E5.out.noth ho)
  replace RB := Lib.hid (RB.out.only ho (fun h => h))
  replace XB := Lib.hid (XB.out.only ho (fun h => h))
  replace CM := Lib.hid (CM.out.noth ho)
  replace CF := Lib.hid (CF.out.noth ho)
  replace O := Lib.hid (O.out.tr ho)
  clear ho
  clear m0
  have m0 : _ = some (Value.slice B L2.length d) := RB.out.cell 0
  go_wp2_with fail
  refine (same_law g b B d L2 L2 _ CM.out ER.out rfl).mono ?_
  rintro e w31 ⟨rfl, ho⟩
  replace EL := Lib.hid (EL.out.noth ho)
  replace EM := Lib.hid (EM.out.noth ho)
  replace ER := Lib.hid (ER.out.noth ho)
  replace E3 := Lib.hid (E3.out.noth ho)
  replace E5 := Lib.hid (E5.out.noth ho)
  replace RB := Lib.hid (RB.out.only ho (fun h => h))
  replace XB := Lib.hid (XB.out.only ho (fun h => h))
  replace CM := Lib.hid (CM.out.noth ho)
  replace CF := Lib.hid (CF.out.noth ho)
  replace O := Lib.hid (O.out.tr ho)
  clear ho
  go_wp2_with fail
  refine (cm_awake _).mono ?_
  rintro e w40 ⟨rfl, ho⟩
  replace O := Lib.hid (O.out.tr ho)
  clear ho
  go_wp2
  go_ret
  exact ⟨rfl, O.out⟩
end Go.Proofs.Ytdclkbhkboaafaa
