/- CrdtOrder: the walk. -/
import Derived.Test.YtdclkbhkboaafaaCmM
namespace Go.Proofs.Ytdclkbhkboaafaa
open Go.RowKit Go.Lib Go.Sort
set_option linter.unusedVariables false
set_option linter.unusedSimpArgs false
set_option maxRecDepth 100000
attribute [local go_sem ↓] Go.wp_at_zero Go.wp_at_succ

theorem ord_plain {a b M1 M2 M3 R x y z ra rb : List Ent} (hS : (a ++ b).length ≤ 256) (h1 : M1 = a ++ b) (h2 : M2 = b ++ a) (h3 : M3 = a ++ b ++ a) (hR : R = a.reverse) (hx : x = (cmerge [] M1).1) (hy : y = (cmerge [] M2).1) (hz : z = (cmerge [] M3).1) (hra : ra = (cmerge [] a).1) (hrb : rb = (cmerge [] R).1) :
    x = y ∧ x = z ∧ ra = rb ∧ cmerge z x = (z, 0) := by
  have ix := isOf_of (l := M1) hS (fun e he => by rw [h1] at he; exact he)
  have iy := isOf_of (l := M2) hS (fun e he => by rw [h2] at he; rcases List.mem_append.1 he with he | he <;> simp [he])
  have iz := isOf_of (l := M3) hS (fun e he => by rw [h3] at he; simp only [List.mem_append] at he ⊢; rcases he with (he | he) | he <;> simp [he])
  have ia := isOf_of (l := a) hS (fun e he => by simp [he])
  have ib := isOf_of (l := R) hS (fun e he => by rw [hR] at he; simp at he; simp [he])
  rw [← hx] at ix
  rw [← hy] at iy
  rw [← hz] at iz
  rw [← hra] at ia
  rw [← hrb] at ib
  have e2 : x = z := isOf_one ix iz (fun e => by rw [h1, h3]; simp [List.mem_append]; exact ⟨fun h => by rcases h with h | h <;> simp [h], fun h => by rcases h with h | h | h <;> simp [h]⟩)
  refine ⟨isOf_one ix iy (fun e => by rw [h1, h2]; simp [or_comm]), e2, isOf_one ia ib (fun e => by rw [hR]; simp), ?_⟩
  rw [e2]
  exact cmerge_old iz _ (isOf_sub iz)
set_option maxHeartbeats 8000000 in
theorem ord_walk (a : List Ent) (Aa : Option Addr) (ca : Nat) (b : List Ent) (Ab : Option Addr) (cb : Nat) (w : World) (ha : Ents w (.slice Aa a.length ca) a) (fa : Fit a) (hb : Ents w (.slice Ab b.length cb) b) (fb : Fit b) (hz : (a.length : Int) + b.length ≤ 9223372036854775807) : Calls Try.prog 5 #[.slice Aa a.length ca, .slice Ab b.length cb] w fun e w' => e = .returned (.bool true) ∧ Only Noth w w' := by
  have Ea := Lib.hid ha
  have Fa := Lib.hid fa
  have Eb := Lib.hid hb
  have Fb := Lib.hid fb
  have O := Lib.hid (Only.refl Noth w)
  have za : (0 : Int) ≤ a.length := by omega
  have zb : (0 : Int) ≤ b.length := by omega
  clear ha fa hb fb
  go_enter Try.func5, Try.ntmps5
  by_cases hbig : (250 : Int) < (a.length : Int) + b.length
  · go_wp2_with fail
    refine (cm_awake _).mono ?_
    rintro e w1 ⟨rfl, ho⟩
    replace O := Lib.hid (O.out.tr ho)
    clear ho
    go_wp2
    go_ret
    exact ⟨rfl, O.out⟩
  have HS := Lib.hid (show (a ++ b).length ≤ 256 by simp; omega)
  have hab : (a.length : Int) + b.length ≤ 250 := by omega
  go_wp2_with (first | (at_builtin; refine wpList_app_ents w _ rfl (.tmp 17) (.tmp 18) rfl (l := []) (m := a) rfl (ERow.empty _ _ _) rfl (Ea.out.noth ((Only.refl Noth _).alloc _)) (by simp; omega) ((Only.refl Noth _).alloc _) ?_; intro Bp1 dp1 Mp1 vp1 hM hr ho; have ERp1 := Lib.hid hr; have ONp1 := Lib.hid ho; have HMp1 := Lib.hid hM; have zp1 : Mp1.length ≤ 500 := (by rw [hM, List.length_append]; simp only [List.length_nil]; omega); clear hr ho hM) | (at_builtin; refine wpList_app_ents w _ rfl (.tmp 19) (.tmp 20) rfl (l := Mp1) (m := b) rfl ERp1.out rfl (Eb.out.noth ONp1.out) (by omega) ONp1.out ?_; intro Bp2 dp2 Mp2 vp2 hM hr ho; have ERp2 := Lib.hid hr; have ONp2 := Lib.hid ho; have HMp2 := Lib.hid hM; have zp2 : Mp2.length ≤ 1000 := (by rw [hM, List.length_append]; omega); clear hr ho hM))
  replace Ea := Lib.hid (Ea.out.noth ONp2.out)
  replace Eb := Lib.hid (Eb.out.noth ONp2.out)
  replace O := Lib.hid (O.out.tr ONp2.out)
  have HLp := Lib.hid (show Mp2 = a ++ b by rw [HMp2.out, HMp1.out, List.nil_append])
  have Fp2 := Lib.hid (show Fit Mp2 by rw [HLp.out]; exact (Fa.out).app Fb.out)
  have Ep2 := Lib.hid ERp2.out.ents
  clear ERp1 ONp1 HMp1 ERp2 ONp2 HMp2
  go_wp2_with fail
  refine (of_run Fp2.out Ep2.out).mono ?_
  rintro e w1 ⟨⟨ggx, bbx, Lx, rfl, hL, hm, hg, hb⟩, ho⟩
  have Bx := Lib.hid (Nat.le_trans O.out.size hb)
  have BGx := Lib.hid (Nat.le_trans O.out.size hg)
  replace Ea := Lib.hid (Ea.out.noth ho)
  replace Eb := Lib.hid (Eb.out.noth ho)
  replace Ep2 := Lib.hid (Ep2.out.noth ho)
  replace O := Lib.hid (O.out.tr ho)
  have Mx := Lib.hid hm
  have Ix := Lib.hid hL
  clear hL hm hg hb ho
  clear Ep2
  go_wp2_with (first | (at_builtin; refine wpList_app_ents w1 _ rfl (.tmp 23) (.tmp 24) rfl (l := []) (m := b) rfl (ERow.empty _ _ _) rfl (Eb.out.noth ((Only.refl Noth _).alloc _)) (by simp; omega) ((Only.refl Noth _).alloc _) ?_; intro Bq1 dq1 Mq1 vq1 hM hr ho; have ERq1 := Lib.hid hr; have ONq1 := Lib.hid ho; have HMq1 := Lib.hid hM; have zq1 : Mq1.length ≤ 500 := (by rw [hM, List.length_append]; simp only [List.length_nil]; omega); clear hr ho hM) | (at_builtin; refine wpList_app_ents w1 _ rfl (.tmp 25) (.tmp 26) rfl (l := Mq1) (m := a) rfl ERq1.out rfl (Ea.out.noth ONq1.out) (by omega) ONq1.out ?_; intro Bq2 dq2 Mq2 vq2 hM hr ho; have ERq2 := Lib.hid hr; have ONq2 := Lib.hid ho; have HMq2 := Lib.hid hM; have zq2 : Mq2.length ≤ 1000 := (by rw [hM, List.length_append]; omega); clear hr ho hM))
  replace Mx := Lib.hid (Mx.out.noth ONq2.out)
  replace Ea := Lib.hid (Ea.out.noth ONq2.out)
  replace Eb := Lib.hid (Eb.out.noth ONq2.out)
  replace O := Lib.hid (O.out.tr ONq2.out)
  have HLq := Lib.hid (show Mq2 = b ++ a by rw [HMq2.out, HMq1.out, List.nil_append])
  have Fq2 := Lib.hid (show Fit Mq2 by rw [HLq.out]; exact (Fb.out).app Fa.out)
  have Eq2 := Lib.hid ERq2.out.ents
  clear ERq1 ONq1 HMq1 ERq2 ONq2 HMq2
  go_wp2_with fail
  refine (of_run Fq2.out Eq2.out).mono ?_
  rintro e w2 ⟨⟨ggy, bby, Ly, rfl, hL, hm, hg, hb⟩, ho⟩
  have Nxy := Lib.hid (apart Mx.out hg hb)
  have By := Lib.hid (Nat.le_trans O.out.size hb)
  have BGy := Lib.hid (Nat.le_trans O.out.size hg)
  replace Mx := Lib.hid (Mx.out.noth ho)
  replace Ea := Lib.hid (Ea.out.noth ho)
  replace Eb := Lib.hid (Eb.out.noth ho)
  replace Eq2 := Lib.hid (Eq2.out.noth ho)
  replace O := Lib.hid (O.out.tr ho)
  have My := Lib.hid hm
  have Iy := Lib.hid hL
  clear hL hm hg hb ho
  clear Eq2
  go_wp2_with (first | (at_builtin; refine wpList_app_ents w2 _ rfl (.tmp 29) (.tmp 30) rfl (l := []) (m := a) rfl (ERow.empty _ _ _) rfl (Ea.out.noth ((Only.refl Noth _).alloc _)) (by simp; omega) ((Only.refl Noth _).alloc _) ?_; intro Br1 dr1 Mr1 vr1 hM hr ho; have ERr1 := Lib.hid hr; have ONr1 := Lib.hid ho; have HMr1 := Lib.hid hM; have zr1 : Mr1.length ≤ 500 := (by rw [hM, List.length_append]; simp only [List.length_nil]; omega); clear hr ho hM) | (at_builtin; refine wpList_app_ents w2 _ rfl (.tmp 31) (.tmp 32) rfl (l := Mr1) (m := b) rfl ERr1.out rfl (Eb.out.noth ONr1.out) (by omega) ONr1.out ?_; intro Br2 dr2 Mr2 vr2 hM hr ho; have ERr2 := Lib.hid hr; have ONr2 := Lib.hid ho; have HMr2 := Lib.hid hM; have zr2 : Mr2.length ≤ 1000 := (by rw [hM, List.length_append]; omega); clear hr ho hM) | (at_builtin; refine wpList_app_ents w2 _ rfl (.tmp 33) (.tmp 34) rfl (l := Mr2) (m := a) rfl ERr2.out rfl (Ea.out.noth ONr2.out) (by omega) ONr2.out ?_; intro Br3 dr3 Mr3 vr3 hM hr ho; have ERr3 := Lib.hid hr; have ONr3 := Lib.hid ho; have HMr3 := Lib.hid hM; have zr3 : Mr3.length ≤ 1500 := (by rw [hM, List.length_append]; omega); clear hr ho hM))
  replace Mx := Lib.hid (Mx.out.noth ONr3.out)
  replace My := Lib.hid (My.out.noth ONr3.out)
  replace Ea := Lib.hid (Ea.out.noth ONr3.out)
  replace Eb := Lib.hid (Eb.out.noth ONr3.out)
  replace O := Lib.hid (O.out.tr ONr3.out)
  have HLr := Lib.hid (show Mr3 = a ++ b ++ a by rw [HMr3.out, HMr2.out, HMr1.out, List.nil_append])
  have Fr3 := Lib.hid (show Fit Mr3 by rw [HLr.out]; exact ((Fa.out).app Fb.out).app Fa.out)
  have Er3 := Lib.hid ERr3.out.ents
  clear ERr1 ONr1 HMr1 ERr2 ONr2 HMr2 ERr3 ONr3 HMr3
  go_wp2_with fail
  refine (of_run Fr3.out Er3.out).mono ?_
  rintro e w3 ⟨⟨ggz, bbz, Lz, rfl, hL, hm, hg, hb⟩, ho⟩
  have Nxz := Lib.hid (apart Mx.out hg hb)
  have Nyz := Lib.hid (apart My.out hg hb)
  have Bz := Lib.hid (Nat.le_trans O.out.size hb)
  have BGz := Lib.hid (Nat.le_trans O.out.size hg)
  replace Mx := Lib.hid (Mx.out.noth ho)
  replace My := Lib.hid (My.out.noth ho)
  replace Ea := Lib.hid (Ea.out.noth ho)
  replace Eb := Lib.hid (Eb.out.noth ho)
  replace Er3 := Lib.hid (Er3.out.noth ho)
  replace O := Lib.hid (O.out.tr ho)
  have Mz := Lib.hid hm
  have Iz := Lib.hid hL
  clear hL hm hg hb ho
  clear Er3
  go_wp2_with fail
  go_loopw [8, 9] (fun v i wr => ∃ (j : Nat) (B : Option Addr) (d : Nat) (R : List Ent), j ≤ a.length ∧ i = .int .i64 ((j : Int) - 1) ∧ v = .slice B R.length d ∧ R = (a.drop j).reverse ∧ ERow w3 wr B d R ∧ Only Noth w3 wr) (fun _ i _ => (RowKit.intOf i + 1).toNat)
  case atStart => exact ⟨a.length, none, 0, [], Nat.le_refl _, rfl, rfl, by simp, Row.nil _ _ _ _, Only.refl _ _⟩
  case round =>
    obtain ⟨j, B, d, R, hj, rfl, rfl, hR, hrow, ho⟩ := hrel
    have RW := Lib.hid hrow
    have ON := Lib.hid ho
    have HR := Lib.hid hR
    have hRl : R.length ≤ a.length := by rw [hR]; simp
    clear hrow ho hR
    cases j with
    | succ j =>
      rw [show (((j + 1 : Nat) : Int) - 1) = j by omega]
      obtain ⟨x, hx⟩ : ∃ x, a[j]? = some x := ⟨_, List.getElem?_eq_getElem hj⟩
      have HX := Lib.hid hx
      obtain ⟨A', c', q0, hel, _, _⟩ := Ea.out.noth ON.out
      injection q0 with q1 q2 q3
      subst q1 q3
      clear q2
      obtain ⟨bb, o, hA, _, hbl, e0, e1, e2, e3, e4⟩ := hel.ent hx
      subst hA
      have hb0 : (0 : Int) ≤ j := by omega
      have hb1 : (j : Int) < a.length := by omega
      clear hx hel
      go_wp2_with (at_builtin; refine wpList_app_ents w3 _ rfl (.tmp 44) (.tmp 49) rfl (l := R) (m := [x]) rfl (RW.out.noth ((Only.refl Noth _).alloc _)) rfl (ents_block _ wr.heap.size x.arr 34 _ x rfl (heap_alloc_new wr _)) (by simp; omega) (ON.out.tr ((Only.refl Noth _).alloc _)) ?_; intro B2 d2 M2 w4 hM hr ho; have ER2 := Lib.hid hr; have ON2 := Lib.hid ho; have HM2 := Lib.hid hM; clear hr ho hM)
      go_roundw
      case rel => exact ⟨j, B2, d2, M2, by omega, rfl, rfl, by rw [HM2.out, HR.out, List.drop_eq_getElem_cons (by omega : j < a.length), List.reverse_cons, (List.getElem?_eq_some_iff.1 HX.out).2], ER2.out, ON2.out⟩
      case measure => simp [RowKit.intOf]
    | zero =>
      rw [show (((0 : Nat) : Int) - 1) = -1 by omega]
      have HR2 := Lib.hid (show R = a.reverse by rw [HR.out, List.drop_zero])
      replace Mx := Lib.hid (Mx.out.noth ON.out)
      replace My := Lib.hid (My.out.noth ON.out)
      replace Mz := Lib.hid (Mz.out.noth ON.out)
      replace Ea := Lib.hid (Ea.out.noth ON.out)
      replace Eb := Lib.hid (Eb.out.noth ON.out)
      replace O := Lib.hid (O.out.tr ON.out)
      have ER := Lib.hid RW.out.ents
      have FR := Lib.hid (show Fit R by rw [HR2.out]; exact Fa.out.sub (fun x hx => by simpa using hx))
      replace ER := Lib.hid ER.out
      clear ON HR
      go_wp2_with fail
      refine (list_run Mx.out).mono ?_
      rintro e w4 ⟨⟨Al1, cl1, rfl, he⟩, ho⟩
      replace Mx := Lib.hid (Mx.out.noth ho)
      replace My := Lib.hid (My.out.noth ho)
      replace Mz := Lib.hid (Mz.out.noth ho)
      replace Ea := Lib.hid (Ea.out.noth ho)
      replace Eb := Lib.hid (Eb.out.noth ho)
      replace ER := Lib.hid (ER.out.noth ho)
      replace O := Lib.hid (O.out.tr ho)
      have El1 := Lib.hid he
      have Fl1 := Lib.hid (fit_ok Mx.out.ok)
      clear he ho
      go_wp2_with fail
      refine (list_run My.out).mono ?_
      rintro e w5 ⟨⟨Al2, cl2, rfl, he⟩, ho⟩
      replace Mx := Lib.hid (Mx.out.noth ho)
      replace My := Lib.hid (My.out.noth ho)
      replace Mz := Lib.hid (Mz.out.noth ho)
      replace Ea := Lib.hid (Ea.out.noth ho)
      replace Eb := Lib.hid (Eb.out.noth ho)
      replace ER := Lib.hid (ER.out.noth ho)
      replace El1 := Lib.hid (El1.out.noth ho)
      replace O := Lib.hid (O.out.tr ho)
      have El2 := Lib.hid he
      have Fl2 := Lib.hid (fit_ok My.out.ok)
      clear he ho
      go_wp2_with fail
      have EQ1 := Lib.hid (ord_plain (R := R) HS.out HLp.out HLq.out HLr.out HR2.out Ix.out Iy.out Iz.out rfl rfl)
      refine (same_run El1.out El2.out).mono ?_
      rintro e w6 ⟨⟨v, rfl, hv⟩, ho⟩
      obtain rfl : v = true := hv.2 (EQ1.out.1)
      replace Mx := Lib.hid (Mx.out.noth ho)
      replace My := Lib.hid (My.out.noth ho)
      replace Mz := Lib.hid (Mz.out.noth ho)
      replace Ea := Lib.hid (Ea.out.noth ho)
      replace Eb := Lib.hid (Eb.out.noth ho)
      replace ER := Lib.hid (ER.out.noth ho)
      replace El1 := Lib.hid (El1.out.noth ho)
      replace El2 := Lib.hid (El2.out.noth ho)
      replace O := Lib.hid (O.out.tr ho)
      clear hv ho
      go_wp2_with fail
      refine (list_run Mx.out).mono ?_
      rintro e w7 ⟨⟨Al3, cl3, rfl, he⟩, ho⟩
      replace Mx := Lib.hid (Mx.out.noth ho)
      replace My := Lib.hid (My.out.noth ho)
      replace Mz := Lib.hid (Mz.out.noth ho)
      replace Ea := Lib.hid (Ea.out.noth ho)
      replace Eb := Lib.hid (Eb.out.noth ho)
      replace ER := Lib.hid (ER.out.noth ho)
      replace El1 := Lib.hid (El1.out.noth ho)
      replace El2 := Lib.hid (El2.out.noth ho)
      replace O := Lib.hid (O.out.tr ho)
      have El3 := Lib.hid he
      have Fl3 := Lib.hid (fit_ok Mx.out.ok)
      clear he ho
      go_wp2_with fail
      refine (list_run Mz.out).mono ?_
      rintro e w8 ⟨⟨Al4, cl4, rfl, he⟩, ho⟩
      replace Mx := Lib.hid (Mx.out.noth ho)
      replace My := Lib.hid (My.out.noth ho)
      replace Mz := Lib.hid (Mz.out.noth ho)
      replace Ea := Lib.hid (Ea.out.noth ho)
      replace Eb := Lib.hid (Eb.out.noth ho)
      replace ER := Lib.hid (ER.out.noth ho)
      replace El1 := Lib.hid (El1.out.noth ho)
      replace El2 := Lib.hid (El2.out.noth ho)
      replace El3 := Lib.hid (El3.out.noth ho)
      replace O := Lib.hid (O.out.tr ho)
      have El4 := Lib.hid he
      have Fl4 := Lib.hid (fit_ok Mz.out.ok)
      clear he ho
      go_wp2_with fail
      refine (same_run El3.out El4.out).mono ?_
      rintro e w9 ⟨⟨v, rfl, hv⟩, ho⟩
      obtain rfl : v = true := hv.2 (EQ1.out.2.1)
      replace Mx := Lib.hid (Mx.out.noth ho)
      replace My := Lib.hid (My.out.noth ho)
      replace Mz := Lib.hid (Mz.out.noth ho)
      replace Ea := Lib.hid (Ea.out.noth ho)
      replace Eb := Lib.hid (Eb.out.noth ho)
      replace ER := Lib.hid (ER.out.noth ho)
      replace El1 := Lib.hid (El1.out.noth ho)
      replace El2 := Lib.hid (El2.out.noth ho)
      replace El3 := Lib.hid (El3.out.noth ho)
      replace El4 := Lib.hid (El4.out.noth ho)
      replace O := Lib.hid (O.out.tr ho)
      clear hv ho
      go_wp2_with fail
      refine (of_run Fa.out Ea.out).mono ?_
      rintro e w10 ⟨⟨ggs, bbs, Ls, rfl, hL, hm, hg, hb⟩, ho⟩
      have Nxs := Lib.hid (apart Mx.out hg hb)
      have Nys := Lib.hid (apart My.out hg hb)
      have Nzs := Lib.hid (apart Mz.out hg hb)
      have Bs := Lib.hid (Nat.le_trans O.out.size hb)
      have BGs := Lib.hid (Nat.le_trans O.out.size hg)
      replace Mx := Lib.hid (Mx.out.noth ho)
      replace My := Lib.hid (My.out.noth ho)
      replace Mz := Lib.hid (Mz.out.noth ho)
      replace Ea := Lib.hid (Ea.out.noth ho)
      replace Eb := Lib.hid (Eb.out.noth ho)
      replace ER := Lib.hid (ER.out.noth ho)
      replace El1 := Lib.hid (El1.out.noth ho)
      replace El2 := Lib.hid (El2.out.noth ho)
      replace El3 := Lib.hid (El3.out.noth ho)
      replace El4 := Lib.hid (El4.out.noth ho)
      replace O := Lib.hid (O.out.tr ho)
      have Ms := Lib.hid hm
      have Is := Lib.hid hL
      clear hL hm hg hb ho
      go_wp2_with fail
      refine (list_run Ms.out).mono ?_
      rintro e w11 ⟨⟨Al5, cl5, rfl, he⟩, ho⟩
      replace Mx := Lib.hid (Mx.out.noth ho)
      replace My := Lib.hid (My.out.noth ho)
      replace Mz := Lib.hid (Mz.out.noth ho)
      replace Ms := Lib.hid (Ms.out.noth ho)
      replace Ea := Lib.hid (Ea.out.noth ho)
      replace Eb := Lib.hid (Eb.out.noth ho)
      replace ER := Lib.hid (ER.out.noth ho)
      replace El1 := Lib.hid (El1.out.noth ho)
      replace El2 := Lib.hid (El2.out.noth ho)
      replace El3 := Lib.hid (El3.out.noth ho)
      replace El4 := Lib.hid (El4.out.noth ho)
      replace O := Lib.hid (O.out.tr ho)
      have El5 := Lib.hid he
      have Fl5 := Lib.hid (fit_ok Ms.out.ok)
      clear he ho
      go_wp2_with fail
      refine (of_run FR.out ER.out).mono ?_
      rintro e w12 ⟨⟨ggt, bbt, Lt, rfl, hL, hm, hg, hb⟩, ho⟩
      have Nxt := Lib.hid (apart Mx.out hg hb)
      have Nyt := Lib.hid (apart My.out hg hb)
      have Nzt := Lib.hid (apart Mz.out hg hb)
      have Nst := Lib.hid (apart Ms.out hg hb)
      have Bt := Lib.hid (Nat.le_trans O.out.size hb)
      have BGt := Lib.hid (Nat.le_trans O.out.size hg)
      replace Mx := Lib.hid (Mx.out.noth ho)
      replace My := Lib.hid (My.out.noth ho)
      replace Mz := Lib.hid (Mz.out.noth ho)
      replace Ms := Lib.hid (Ms.out.noth ho)
      replace Ea := Lib.hid (Ea.out.noth ho)
      replace Eb := Lib.hid (Eb.out.noth ho)
      replace ER := Lib.hid (ER.out.noth ho)
      replace El1 := Lib.hid (El1.out.noth ho)
      replace El2 := Lib.hid (El2.out.noth ho)
      replace El3 := Lib.hid (El3.out.noth ho)
      replace El4 := Lib.hid (El4.out.noth ho)
      replace El5 := Lib.hid (El5.out.noth ho)
      replace O := Lib.hid (O.out.tr ho)
      have Mt := Lib.hid hm
      have It := Lib.hid hL
      clear hL hm hg hb ho
      go_wp2_with fail
      refine (list_run Mt.out).mono ?_
      rintro e w13 ⟨⟨Al6, cl6, rfl, he⟩, ho⟩
      replace Mx := Lib.hid (Mx.out.noth ho)
      replace My := Lib.hid (My.out.noth ho)
      replace Mz := Lib.hid (Mz.out.noth ho)
      replace Ms := Lib.hid (Ms.out.noth ho)
      replace Mt := Lib.hid (Mt.out.noth ho)
      replace Ea := Lib.hid (Ea.out.noth ho)
      replace Eb := Lib.hid (Eb.out.noth ho)
      replace ER := Lib.hid (ER.out.noth ho)
      replace El1 := Lib.hid (El1.out.noth ho)
      replace El2 := Lib.hid (El2.out.noth ho)
      replace El3 := Lib.hid (El3.out.noth ho)
      replace El4 := Lib.hid (El4.out.noth ho)
      replace El5 := Lib.hid (El5.out.noth ho)
      replace O := Lib.hid (O.out.tr ho)
      have El6 := Lib.hid he
      have Fl6 := Lib.hid (fit_ok Mt.out.ok)
      clear he ho
      go_wp2_with fail
      refine (same_run El5.out El6.out).mono ?_
      rintro e w14 ⟨⟨v, rfl, hv⟩, ho⟩
      obtain rfl : v = true := hv.2 (by rw [Is.out, It.out]; exact EQ1.out.2.2.1)
      replace Mx := Lib.hid (Mx.out.noth ho)
      replace My := Lib.hid (My.out.noth ho)
      replace Mz := Lib.hid (Mz.out.noth ho)
      replace Ms := Lib.hid (Ms.out.noth ho)
      replace Mt := Lib.hid (Mt.out.noth ho)
      replace Ea := Lib.hid (Ea.out.noth ho)
      replace Eb := Lib.hid (Eb.out.noth ho)
      replace ER := Lib.hid (ER.out.noth ho)
      replace El1 := Lib.hid (El1.out.noth ho)
      replace El2 := Lib.hid (El2.out.noth ho)
      replace El3 := Lib.hid (El3.out.noth ho)
      replace El4 := Lib.hid (El4.out.noth ho)
      replace El5 := Lib.hid (El5.out.noth ho)
      replace El6 := Lib.hid (El6.out.noth ho)
      replace O := Lib.hid (O.out.tr ho)
      clear hv ho
      go_wp2_with fail
      refine (list_run Mx.out).mono ?_
      rintro e w15 ⟨⟨Al7, cl7, rfl, he⟩, ho⟩
      replace Mx := Lib.hid (Mx.out.noth ho)
      replace My := Lib.hid (My.out.noth ho)
      replace Mz := Lib.hid (Mz.out.noth ho)
      replace Ms := Lib.hid (Ms.out.noth ho)
      replace Mt := Lib.hid (Mt.out.noth ho)
      replace Ea := Lib.hid (Ea.out.noth ho)
      replace Eb := Lib.hid (Eb.out.noth ho)
      replace ER := Lib.hid (ER.out.noth ho)
      replace El1 := Lib.hid (El1.out.noth ho)
      replace El2 := Lib.hid (El2.out.noth ho)
      replace El3 := Lib.hid (El3.out.noth ho)
      replace El4 := Lib.hid (El4.out.noth ho)
      replace El5 := Lib.hid (El5.out.noth ho)
      replace El6 := Lib.hid (El6.out.noth ho)
      replace O := Lib.hid (O.out.tr ho)
      have El7 := Lib.hid he
      have Fl7 := Lib.hid (fit_ok Mx.out.ok)
      clear he ho
      go_wp2_with fail
      refine (merge_run Mz.out Fl7.out El7.out).mono ?_
      rintro e w16 ⟨⟨nz2, Lz2, rfl, hn, hL, hm⟩, ho⟩
      replace Mx := Lib.hid (Mx.out.beside ho (Nxz.out.1) (Nxz.out.2.1))
      replace My := Lib.hid (My.out.beside ho (Nyz.out.1) (Nyz.out.2.1))
      replace Ms := Lib.hid (Ms.out.beside ho (Nzs.out.2.2.1) (Nzs.out.2.2.2))
      replace Mt := Lib.hid (Mt.out.beside ho (Nzt.out.2.2.1) (Nzt.out.2.2.2))
      replace Ea := Lib.hid (Ea.out.beside Mz.out.own ho)
      replace Eb := Lib.hid (Eb.out.beside Mz.out.own ho)
      replace ER := Lib.hid (ER.out.beside Mz.out.own ho)
      replace El1 := Lib.hid (El1.out.beside Mz.out.own ho)
      replace El2 := Lib.hid (El2.out.beside Mz.out.own ho)
      replace El3 := Lib.hid (El3.out.beside Mz.out.own ho)
      replace El4 := Lib.hid (El4.out.beside Mz.out.own ho)
      replace El5 := Lib.hid (El5.out.beside Mz.out.own ho)
      replace El6 := Lib.hid (El6.out.beside Mz.out.own ho)
      replace El7 := Lib.hid (El7.out.beside Mz.out.own ho)
      replace O := Lib.hid (O.out.trans ho (fun j hj hl => by have hj : j = bbz := hj; have := Bz.out; omega))
      replace Mz := Lib.hid hm
      have Iz2 := Lib.hid hL
      have Cz2 := Lib.hid hn
      clear hL hn hm ho
      obtain rfl : nz2 = 0 := by rw [Cz2.out, EQ1.out.2.2.2]
      go_wp2_with fail
      refine (cm_awake _).mono ?_
      rintro e w17 ⟨rfl, ho⟩
      replace O := Lib.hid (O.out.tr ho)
      clear ho
      go_wp2
      go_ret
      exact ⟨rfl, O.out⟩
end Go.Proofs.Ytdclkbhkboaafaa
