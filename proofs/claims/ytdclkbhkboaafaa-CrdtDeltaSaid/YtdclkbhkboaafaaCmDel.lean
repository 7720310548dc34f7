/- CrdtDelta: the walk. -/
import Derived.Test.YtdclkbhkboaafaaCmM
namespace Go.Proofs.Ytdclkbhkboaafaa
open Go.RowKit Go.Lib Go.Sort
set_option linter.unusedVariables false
set_option linter.unusedSimpArgs false
set_option maxRecDepth 100000
attribute [local go_sem ↓] Go.wp_at_zero Go.wp_at_succ

theorem delta_dom {a b La Lb : List Ent} (ia : IsOf a La) (ib : IsOf b Lb) (x : Ent) : Best (a ++ Lb.filter (lacks (dbest La))) x ↔ Best (a ++ b) x := by
  refine best_dom (fun x hx => ?_) (fun y hy hc => ?_) x
  · rcases List.mem_append.1 hx with hx | hx
    · simp [hx]
    · have := isOf_sub ib x (List.mem_filter.1 hx).1
      simp [this]
  · rcases List.mem_append.1 hy with hy | hy
    · exact ⟨y, by simp [hy], hc, rfl, above_irrefl y⟩
    · obtain ⟨z, hz, h1, h2, h3⟩ := isOf_has ib hy hc
      cases hl : lacks (dbest La) z
      · have hl2 := hl
        rw [lacks_srt ia.1] at hl2
        unfold lacks at hl2
        cases hg : cget z.kb La with
        | none => rw [hg] at hl2; cases hl2
        | some old =>
          rw [hg] at hl2
          simp only at hl2
          obtain ⟨ho, hk⟩ := cget_some hg
          exact ⟨old, by have := isOf_sub ia old ho; simp [this], isOf_ok ia old ho, hk.trans h2, not_above_trans h2.symm hk.symm h3 hl2⟩
      · exact ⟨z, List.mem_append.2 (.inr (List.mem_filter.2 ⟨hz, hl⟩)), h1, h2, h3⟩
theorem delta_all {S a b La Lb : List Ent} (hS : S.length ≤ 256) (sa : ∀ x ∈ a, x ∈ S) (sb : ∀ x ∈ b, x ∈ S) (ia : IsOf a La) (ib : IsOf b Lb) : (cmerge La (Lb.filter (lacks (dbest La)))).2 = (Lb.filter (lacks (dbest La))).length ∧ IsOf (a ++ b) (cmerge La (Lb.filter (lacks (dbest La)))).1 := by
  have h1 : ∀ x ∈ Lb.filter (lacks (dbest La)), x ∈ S := fun x hx => sb x (isOf_sub ib x (List.mem_filter.1 hx).1)
  refine ⟨cmerge_all hS (fun x hx => sa x (isOf_sub ia x hx)) h1 ia.1 (filter_srt _ ib.1) (fun x hx => isOf_ok ib x (List.mem_filter.1 hx).1) (fun x hx => ?_), isOf_dom (isOf_merge hS sa h1 ia) (delta_dom ia ib)⟩
  rw [← lacks_srt ia.1]
  exact (List.mem_filter.1 hx).2
theorem delta_none {l L : List Ent} (h : IsOf l L) : L.filter (lacks (dbest L)) = [] := by
  rw [List.filter_eq_nil_iff]
  intro x hx hl
  have := (lacks_iff L x).1 hl x hx rfl
  rw [above_irrefl] at this
  cases this
theorem del_plain {a b Lx Ly ys xs Lx2 Ly2 M Lc : List Ent} {nx ny : Nat} (hS : (a ++ b).length ≤ 256) (hx : Lx = (cmerge [] a).1) (hy : Ly = (cmerge [] b).1) (hxs : xs = Lx.filter (lacks (dbest Ly))) (hys : ys = Ly.filter (lacks (dbest Lx))) (hnx : nx = (cmerge Lx ys).2) (hx2 : Lx2 = (cmerge Lx ys).1) (hny : ny = (cmerge Ly xs).2) (hy2 : Ly2 = (cmerge Ly xs).1)
    (hM : M = a ++ b) (hc : Lc = (cmerge [] M).1) : nx = ys.length ∧ ny = xs.length ∧ Lx2 = Ly2 ∧ Lx2 = Lc ∧ Lx2.filter (lacks (dbest Ly2)) = [] := by
  have ia := isOf_of (l := a) hS (fun x hx => by simp [hx])
  have ib := isOf_of (l := b) hS (fun x hx => by simp [hx])
  rw [← hx] at ia
  rw [← hy] at ib
  have ic := isOf_of (l := a ++ b) hS (fun x hx => hx)
  rw [← hM, ← hc] at ic
  have h1 := delta_all hS (fun x hx => by simp [hx]) (fun x hx => by simp [hx]) ia ib
  have h2 := delta_all hS (fun x hx => by simp [hx]) (fun x hx => by simp [hx]) ib ia
  rw [← hys, ← hnx, ← hx2] at h1
  rw [← hxs, ← hny, ← hy2] at h2
  have e1 : Lx2 = Ly2 := isOf_one h1.2 h2.2 (fun x => by simp [or_comm])
  refine ⟨h1.1, h2.1, e1, isOf_one h1.2 ic (fun x => by rw [hM]), ?_⟩
  rw [← e1]
  exact delta_none h1.2
set_option maxHeartbeats 8000000 in
theorem del_walk (a : List Ent) (Aa : Option Addr) (ca : Nat) (b : List Ent) (Ab : Option Addr) (cb : Nat) (w : World) (ha : Ents w (.slice Aa a.length ca) a) (fa : Fit a) (hb : Ents w (.slice Ab b.length cb) b) (fb : Fit b) : Calls Try.prog 6 #[.slice Aa a.length ca, .slice Ab b.length cb] w fun e w' => e = .returned (.bool true) ∧ Only Noth w w' := by
  have Ea := Lib.hid ha
  have Fa := Lib.hid fa
  have Eb := Lib.hid hb
  have Fb := Lib.hid fb
  have O := Lib.hid (Only.refl Noth w)
  have za : (0 : Int) ≤ a.length := by omega
  have zb : (0 : Int) ≤ b.length := by omega
  clear ha fa hb fb
  go_enter Try.func6, Try.ntmps6
  by_cases hbig : (120 : Int) < a.length ∨ (120 : Int) < b.length
  · by_cases h1 : (120 : Int) < a.length
    · go_wp2_with fail
      refine (cm_awake _).mono ?_
      rintro e w1 ⟨rfl, ho⟩
      replace O := Lib.hid (O.out.tr ho)
      clear ho
      go_wp2
      go_ret
      exact ⟨rfl, O.out⟩
    · have h2 : (120 : Int) < b.length := by omega
      go_wp2_with fail
      refine (cm_awake _).mono ?_
      rintro e w1 ⟨rfl, ho⟩
      replace O := Lib.hid (O.out.tr ho)
      clear ho
      go_wp2
      go_ret
      exact ⟨rfl, O.out⟩
  have h1 : ¬ (120 : Int) < a.length := by omega
  have h2 : ¬ (120 : Int) < b.length := by omega
  have HS := Lib.hid (show (a ++ b).length ≤ 256 by simp; omega)
  clear hbig
  go_wp2_with fail
  refine (of_run Fa.out Ea.out).mono ?_
  rintro e w1 ⟨⟨ggx, bbx, Lx, rfl, hL, hm, hg, hb⟩, ho⟩
  have Bx := Lib.hid (Nat.le_trans O.out.size hb)
  have BGx := Lib.hid (Nat.le_trans O.out.size hg)
  replace Ea := Lib.hid (Ea.out.noth ho)
  replace Eb := Lib.hid (Eb.out.noth ho)
  replace O := Lib.hid (O.out.tr ho)
  have Mx := Lib.hid hm
  have Ix := Lib.hid hL
  clear hL hm hg hb ho
  go_wp2_with fail
  refine (of_run Fb.out Eb.out).mono ?_
  rintro e w2 ⟨⟨ggy, bby, Ly, rfl, hL, hm, hg, hb⟩, ho⟩
  have Nxy := Lib.hid (apart Mx.out hg hb)
  have By := Lib.hid (Nat.le_trans O.out.size hb)
  have BGy := Lib.hid (Nat.le_trans O.out.size hg)
  replace Mx := Lib.hid (Mx.out.noth ho)
  replace Ea := Lib.hid (Ea.out.noth ho)
  replace Eb := Lib.hid (Eb.out.noth ho)
  replace O := Lib.hid (O.out.tr ho)
  have My := Lib.hid hm
  have Iy := Lib.hid hL
  clear hL hm hg hb ho
  go_wp2_with fail
  refine (list_run My.out).mono ?_
  rintro e w3 ⟨⟨Aly, cly, rfl, he⟩, ho⟩
  replace Mx := Lib.hid (Mx.out.noth ho)
  replace My := Lib.hid (My.out.noth ho)
  replace Ea := Lib.hid (Ea.out.noth ho)
  replace Eb := Lib.hid (Eb.out.noth ho)
  replace O := Lib.hid (O.out.tr ho)
  have Ely := Lib.hid he
  have Fly := Lib.hid (fit_ok My.out.ok)
  clear he ho
  go_wp2_with fail
  refine (delta_run Mx.out Fly.out Ely.out).mono ?_
  rintro e w4 ⟨⟨Lxs, Axs, cxs, hf, rfl, he⟩, ho⟩
  have Fxs := Lib.hid (show Fit Lxs by rw [hf]; exact fit_ok (fun x hx => Mx.out.ok x (List.mem_filter.1 hx).1))
  replace Mx := Lib.hid (Mx.out.noth ho)
  replace My := Lib.hid (My.out.noth ho)
  replace Ea := Lib.hid (Ea.out.noth ho)
  replace Eb := Lib.hid (Eb.out.noth ho)
  replace Ely := Lib.hid (Ely.out.noth ho)
  replace O := Lib.hid (O.out.tr ho)
  have Exs := Lib.hid he
  have Jxs := Lib.hid hf
  clear he ho hf
  go_wp2_with fail
  refine (list_run Mx.out).mono ?_
  rintro e w5 ⟨⟨Alx, clx, rfl, he⟩, ho⟩
  replace Mx := Lib.hid (Mx.out.noth ho)
  replace My := Lib.hid (My.out.noth ho)
  replace Ea := Lib.hid (Ea.out.noth ho)
  replace Eb := Lib.hid (Eb.out.noth ho)
  replace Ely := Lib.hid (Ely.out.noth ho)
  replace Exs := Lib.hid (Exs.out.noth ho)
  replace O := Lib.hid (O.out.tr ho)
  have Elx := Lib.hid he
  have Flx := Lib.hid (fit_ok Mx.out.ok)
  clear he ho
  go_wp2_with fail
  refine (delta_run My.out Flx.out Elx.out).mono ?_
  rintro e w6 ⟨⟨Lys, Ays, cys, hf, rfl, he⟩, ho⟩
  have Fys := Lib.hid (show Fit Lys by rw [hf]; exact fit_ok (fun x hx => My.out.ok x (List.mem_filter.1 hx).1))
  replace Mx := Lib.hid (Mx.out.noth ho)
  replace My := Lib.hid (My.out.noth ho)
  replace Ea := Lib.hid (Ea.out.noth ho)
  replace Eb := Lib.hid (Eb.out.noth ho)
  replace Ely := Lib.hid (Ely.out.noth ho)
  replace Exs := Lib.hid (Exs.out.noth ho)
  replace Elx := Lib.hid (Elx.out.noth ho)
  replace O := Lib.hid (O.out.tr ho)
  have Eys := Lib.hid he
  have Jys := Lib.hid hf
  clear he ho hf
  go_wp2_with fail
  clear Elx Ely
  refine (merge_run Mx.out Fys.out Eys.out).mono ?_
  rintro e w7 ⟨⟨nx2, Lx2, rfl, hn, hL, hm⟩, ho⟩
  replace My := Lib.hid (My.out.beside ho (Nxy.out.2.2.1) (Nxy.out.2.2.2))
  replace Ea := Lib.hid (Ea.out.beside Mx.out.own ho)
  replace Eb := Lib.hid (Eb.out.beside Mx.out.own ho)
  replace Exs := Lib.hid (Exs.out.beside Mx.out.own ho)
  replace Eys := Lib.hid (Eys.out.beside Mx.out.own ho)
  replace O := Lib.hid (O.out.trans ho (fun j hj hl => by have hj : j = bbx := hj; have := Bx.out; omega))
  replace Mx := Lib.hid hm
  have Ix2 := Lib.hid hL
  have Cx2 := Lib.hid hn
  clear hL hn hm ho
  go_wp2_with fail
  refine (merge_run My.out Fxs.out Exs.out).mono ?_
  rintro e w8 ⟨⟨ny2, Ly2, rfl, hn, hL, hm⟩, ho⟩
  replace Mx := Lib.hid (Mx.out.beside ho (Nxy.out.1) (Nxy.out.2.1))
  replace Ea := Lib.hid (Ea.out.beside My.out.own ho)
  replace Eb := Lib.hid (Eb.out.beside My.out.own ho)
  replace Exs := Lib.hid (Exs.out.beside My.out.own ho)
  replace Eys := Lib.hid (Eys.out.beside My.out.own ho)
  replace O := Lib.hid (O.out.trans ho (fun j hj hl => by have hj : j = bby := hj; have := By.out; omega))
  replace My := Lib.hid hm
  have Iy2 := Lib.hid hL
  have Cy2 := Lib.hid hn
  clear hL hn hm ho
  go_wp2_with (first | (at_builtin; refine wpList_app_ents w8 _ rfl (.tmp 45) (.tmp 46) rfl (l := []) (m := a) rfl (ERow.empty _ _ _) rfl (Ea.out.noth ((Only.refl Noth _).alloc _)) (by simp; omega) ((Only.refl Noth _).alloc _) ?_; intro Bp1 dp1 Mp1 vp1 hM hr ho; have ERp1 := Lib.hid hr; have ONp1 := Lib.hid ho; have HMp1 := Lib.hid hM; have zp1 : Mp1.length ≤ 500 := (by rw [hM, List.length_append]; simp only [List.length_nil]; omega); clear hr ho hM) | (at_builtin; refine wpList_app_ents w8 _ rfl (.tmp 47) (.tmp 48) rfl (l := Mp1) (m := b) rfl ERp1.out rfl (Eb.out.noth ONp1.out) (by omega) ONp1.out ?_; intro Bp2 dp2 Mp2 vp2 hM hr ho; have ERp2 := Lib.hid hr; have ONp2 := Lib.hid ho; have HMp2 := Lib.hid hM; have zp2 : Mp2.length ≤ 1000 := (by rw [hM, List.length_append]; omega); clear hr ho hM))
  replace Mx := Lib.hid (Mx.out.noth ONp2.out)
  replace My := Lib.hid (My.out.noth ONp2.out)
  replace Ea := Lib.hid (Ea.out.noth ONp2.out)
  replace Eb := Lib.hid (Eb.out.noth ONp2.out)
  replace Exs := Lib.hid (Exs.out.noth ONp2.out)
  replace Eys := Lib.hid (Eys.out.noth ONp2.out)
  replace O := Lib.hid (O.out.tr ONp2.out)
  have HLp := Lib.hid (show Mp2 = a ++ b by rw [HMp2.out, HMp1.out, List.nil_append])
  have Fp2 := Lib.hid (show Fit Mp2 by rw [HLp.out]; exact (Fa.out).app Fb.out)
  have Ep2 := Lib.hid ERp2.out.ents
  clear ERp1 ONp1 HMp1 ERp2 ONp2 HMp2
  go_wp2_with fail
  refine (of_run Fp2.out Ep2.out).mono ?_
  rintro e w9 ⟨⟨ggz, bbz, Lz, rfl, hL, hm, hg, hb⟩, ho⟩
  have Nxz := Lib.hid (apart Mx.out hg hb)
  have Nyz := Lib.hid (apart My.out hg hb)
  have Bz := Lib.hid (Nat.le_trans O.out.size hb)
  have BGz := Lib.hid (Nat.le_trans O.out.size hg)
  replace Mx := Lib.hid (Mx.out.noth ho)
  replace My := Lib.hid (My.out.noth ho)
  replace Ea := Lib.hid (Ea.out.noth ho)
  replace Eb := Lib.hid (Eb.out.noth ho)
  replace Exs := Lib.hid (Exs.out.noth ho)
  replace Eys := Lib.hid (Eys.out.noth ho)
  replace Ep2 := Lib.hid (Ep2.out.noth ho)
  replace O := Lib.hid (O.out.tr ho)
  have Mz := Lib.hid hm
  have Iz := Lib.hid hL
  clear hL hm hg hb ho
  have P := Lib.hid (del_plain HS.out Ix.out Iy.out Jxs.out Jys.out Cx2.out Ix2.out Cy2.out Iy2.out HLp.out Iz.out)
  obtain rfl : nx2 = Lys.length := P.out.1
  obtain rfl : ny2 = Lxs.length := P.out.2.1
  go_wp2_with fail
  refine (list_run Mx.out).mono ?_
  rintro e w10 ⟨⟨Al1, cl1, rfl, he⟩, ho⟩
  replace Mx := Lib.hid (Mx.out.noth ho)
  replace My := Lib.hid (My.out.noth ho)
  replace Mz := Lib.hid (Mz.out.noth ho)
  replace Ea := Lib.hid (Ea.out.noth ho)
  replace Eb := Lib.hid (Eb.out.noth ho)
  replace Exs := Lib.hid (Exs.out.noth ho)
  replace Eys := Lib.hid (Eys.out.noth ho)
  replace Ep2 := Lib.hid (Ep2.out.noth ho)
  replace O := Lib.hid (O.out.tr ho)
  have El1 := Lib.hid he
  have Fl1 := Lib.hid (fit_ok Mx.out.ok)
  clear he ho
  go_wp2_with fail
  refine (list_run My.out).mono ?_
  rintro e w11 ⟨⟨Al2, cl2, rfl, he⟩, ho⟩
  replace Mx := Lib.hid (Mx.out.noth ho)
  replace My := Lib.hid (My.out.noth ho)
  replace Mz := Lib.hid (Mz.out.noth ho)
  replace Ea := Lib.hid (Ea.out.noth ho)
  replace Eb := Lib.hid (Eb.out.noth ho)
  replace Exs := Lib.hid (Exs.out.noth ho)
  replace Eys := Lib.hid (Eys.out.noth ho)
  replace Ep2 := Lib.hid (Ep2.out.noth ho)
  replace El1 := Lib.hid (El1.out.noth ho)
  replace O := Lib.hid (O.out.tr ho)
  have El2 := Lib.hid he
  have Fl2 := Lib.hid (fit_ok My.out.ok)
  clear he ho
  go_wp2_with fail
  refine (same_run El1.out El2.out).mono ?_
  rintro e w12 ⟨⟨v, rfl, hv⟩, ho⟩
  obtain rfl : v = true := hv.2 (P.out.2.2.1)
  replace Mx := Lib.hid (Mx.out.noth ho)
  replace My := Lib.hid (My.out.noth ho)
  replace Mz := Lib.hid (Mz.out.noth ho)
  replace Ea := Lib.hid (Ea.out.noth ho)
  replace Eb := Lib.hid (Eb.out.noth ho)
  replace Exs := Lib.hid (Exs.out.noth ho)
  replace Eys := Lib.hid (Eys.out.noth ho)
  replace Ep2 := Lib.hid (Ep2.out.noth ho)
  replace El1 := Lib.hid (El1.out.noth ho)
  replace El2 := Lib.hid (El2.out.noth ho)
  replace O := Lib.hid (O.out.tr ho)
  clear hv ho
  go_wp2_with fail
  refine (list_run Mx.out).mono ?_
  rintro e w13 ⟨⟨Al3, cl3, rfl, he⟩, ho⟩
  replace Mx := Lib.hid (Mx.out.noth ho)
  replace My := Lib.hid (My.out.noth ho)
  replace Mz := Lib.hid (Mz.out.noth ho)
  replace Ea := Lib.hid (Ea.out.noth ho)
  replace Eb := Lib.hid (Eb.out.noth ho)
  replace Exs := Lib.hid (Exs.out.noth ho)
  replace Eys := Lib.hid (Eys.out.noth ho)
  replace Ep2 := Lib.hid (Ep2.out.noth ho)
  replace El1 := Lib.hid (El1.out.noth ho)
  replace El2 := Lib.hid (El2.out.noth ho)
  replace O := Lib.hid (O.out.tr ho)
  have El3 := Lib.hid he
  have Fl3 := Lib.hid (fit_ok Mx.out.ok)
  clear he ho
  go_wp2_with fail
  refine (list_run Mz.out).mono ?_
  rintro e w14 ⟨⟨Al4, cl4, rfl, he⟩, ho⟩
  replace Mx := Lib.hid (Mx.out.noth ho)
  replace My := Lib.hid (My.out.noth ho)
  replace Mz := Lib.hid (Mz.out.noth ho)
  replace Ea := Lib.hid (Ea.out.noth ho)
  replace Eb := Lib.hid (Eb.out.noth ho)
  replace Exs := Lib.hid (Exs.out.noth ho)
  replace Eys := Lib.hid (Eys.out.noth ho)
  replace Ep2 := Lib.hid (Ep2.out.noth ho)
  replace El1 := Lib.hid (El1.out.noth ho)
  replace El2 := Lib.hid (El2.out.noth ho)
  replace El3 := Lib.hid (El3.out.noth ho)
  replace O := Lib.hid (O.out.tr ho)
  have El4 := Lib.hid he
  have Fl4 := Lib.hid (fit_ok Mz.out.ok)
  clear he ho
  go_wp2_with fail
  refine (same_run El3.out El4.out).mono ?_
  rintro e w15 ⟨⟨v, rfl, hv⟩, ho⟩
  obtain rfl : v = true := hv.2 (P.out.2.2.2.1)
  replace Mx := Lib.hid (Mx.out.noth ho)
  replace My := Lib.hid (My.out.noth ho)
  replace Mz := Lib.hid (Mz.out.noth ho)
  replace Ea := Lib.hid (Ea.out.noth ho)
  replace Eb := Lib.hid (Eb.out.noth ho)
  replace Exs := Lib.hid (Exs.out.noth ho)
  replace Eys := Lib.hid (Eys.out.noth ho)
  replace Ep2 := Lib.hid (Ep2.out.noth ho)
  replace El1 := Lib.hid (El1.out.noth ho)
  replace El2 := Lib.hid (El2.out.noth ho)
  replace El3 := Lib.hid (El3.out.noth ho)
  replace El4 := Lib.hid (El4.out.noth ho)
  replace O := Lib.hid (O.out.tr ho)
  clear hv ho
  go_wp2_with fail
  refine (list_run My.out).mono ?_
  rintro e w16 ⟨⟨Al5, cl5, rfl, he⟩, ho⟩
  replace Mx := Lib.hid (Mx.out.noth ho)
  replace My := Lib.hid (My.out.noth ho)
  replace Mz := Lib.hid (Mz.out.noth ho)
  replace Ea := Lib.hid (Ea.out.noth ho)
  replace Eb := Lib.hid (Eb.out.noth ho)
  replace Exs := Lib.hid (Exs.out.noth ho)
  replace Eys := Lib.hid (Eys.out.noth ho)
  replace Ep2 := Lib.hid (Ep2.out.noth ho)
  replace El1 := Lib.hid (El1.out.noth ho)
  replace El2 := Lib.hid (El2.out.noth ho)
  replace El3 := Lib.hid (El3.out.noth ho)
  replace El4 := Lib.hid (El4.out.noth ho)
  replace O := Lib.hid (O.out.tr ho)
  have El5 := Lib.hid he
  have Fl5 := Lib.hid (fit_ok My.out.ok)
  clear he ho
  go_wp2_with fail
  refine (delta_run Mx.out Fl5.out El5.out).mono ?_
  rintro e w17 ⟨⟨Lnn, Ann, cnn, hf, rfl, he⟩, ho⟩
  have Fnn := Lib.hid (show Fit Lnn by rw [hf]; exact fit_ok (fun x hx => Mx.out.ok x (List.mem_filter.1 hx).1))
  replace Mx := Lib.hid (Mx.out.noth ho)
  replace My := Lib.hid (My.out.noth ho)
  replace Mz := Lib.hid (Mz.out.noth ho)
  replace Ea := Lib.hid (Ea.out.noth ho)
  replace Eb := Lib.hid (Eb.out.noth ho)
  replace Exs := Lib.hid (Exs.out.noth ho)
  replace Eys := Lib.hid (Eys.out.noth ho)
  replace Ep2 := Lib.hid (Ep2.out.noth ho)
  replace El1 := Lib.hid (El1.out.noth ho)
  replace El2 := Lib.hid (El2.out.noth ho)
  replace El3 := Lib.hid (El3.out.noth ho)
  replace El4 := Lib.hid (El4.out.noth ho)
  replace El5 := Lib.hid (El5.out.noth ho)
  replace O := Lib.hid (O.out.tr ho)
  have Enn := Lib.hid he
  have Jnn := Lib.hid hf
  clear he ho hf
  obtain rfl : Lnn = [] := by rw [Jnn.out, P.out.2.2.2.2]
  go_wp2_with fail
  refine (cm_awake _).mono ?_
  rintro e w18 ⟨rfl, ho⟩
  replace O := Lib.hid (O.out.tr ho)
  clear ho
  go_wp2
  go_ret
  exact ⟨rfl, O.out⟩
end Go.Proofs.Ytdclkbhkboaafaa
