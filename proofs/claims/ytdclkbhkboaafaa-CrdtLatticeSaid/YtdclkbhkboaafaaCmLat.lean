/- CrdtLattice: the walk. -/
import Derived.Test.YtdclkbhkboaafaaCmM
namespace Go.Proofs.Ytdclkbhkboaafaa
open Go.RowKit Go.Lib Go.Sort
set_option linter.unusedVariables false
set_option linter.unusedSimpArgs false
set_option maxRecDepth 100000
attribute [local go_sem ↓] Go.wp_at_zero Go.wp_at_succ

theorem lat_plain {a b c Lx Ly Lu Lx2 Ls Ly2 Lt Lx3 Lr Lr2 : List Ent} (hS : (a ++ b ++ c).length ≤ 256) (hx : Lx = (cmerge [] a).1) (hy : Ly = (cmerge [] b).1) (hu : Lu = (cmerge [] b).1) (hx2 : Lx2 = (cmerge Lx Lu).1) (hs : Ls = (cmerge [] c).1) (hy2 : Ly2 = (cmerge Ly Ls).1)
    (ht : Lt = (cmerge [] c).1) (hx3 : Lx3 = (cmerge Lx2 Lt).1) (hr : Lr = (cmerge [] a).1) (hr2 : Lr2 = (cmerge Lr Ly2).1) : Lx3 = Lr2 ∧ (cmerge Lx3 Lx3) = (Lx3, 0) ∧ (cmerge Lx3 a).2 = 0 := by
  have ia := isOf_of (l := a) hS (fun x hx => by simp [hx])
  have ib := isOf_of (l := b) hS (fun x hx => by simp [hx])
  have ic := isOf_of (l := c) hS (fun x hx => by simp [hx])
  have sb := isOf_sub ib
  have sc := isOf_sub ic
  rw [← hx] at ia
  rw [← hy] at ib sb
  rw [← hs] at ic sc
  have e1 : Lu = Ly := by rw [hu, hy]
  have e2 : Lt = Ls := by rw [ht, hs]
  have e3 : Lr = Lx := by rw [hr, hx]
  subst e1 e2 e3
  have i2 : IsOf (a ++ b) Lx2 := by
    rw [hx2]
    exact isOf_dom (isOf_merge hS (fun x hx => by simp [hx]) (fun x hx => by have := sb x hx; simp [this]) ia) (best_left ib)
  have i3 : IsOf ((a ++ b) ++ c) Lx3 := by
    rw [hx3]
    exact isOf_dom (isOf_merge hS (fun x hx => by rcases List.mem_append.1 hx with hx | hx <;> simp [hx]) (fun x hx => by have := sc x hx; simp [this]) i2) (best_left ic)
  have j2 : IsOf (b ++ c) Ly2 := by
    rw [hy2]
    exact isOf_dom (isOf_merge hS (fun x hx => by simp [hx]) (fun x hx => by have := sc x hx; simp [this]) ib) (best_left ic)
  have sj := isOf_sub j2
  have j3 : IsOf (a ++ (b ++ c)) Lr2 := by
    rw [hr2]
    exact isOf_dom (isOf_merge hS (fun x hx => by simp [hx]) (fun x hx => by have := sj x hx; rcases List.mem_append.1 this with h | h <;> simp [h]) ia) (best_left j2)
  refine ⟨isOf_one i3 j3 (fun x => by simp [List.append_assoc]), cmerge_old i3 _ (isOf_sub i3), ?_⟩
  rw [cmerge_old i3 a (fun x hx => by simp [hx])]
set_option maxHeartbeats 8000000 in
theorem lat_walk (a : List Ent) (Aa : Option Addr) (ca : Nat) (b : List Ent) (Ab : Option Addr) (cb : Nat) (c : List Ent) (Ac : Option Addr) (cc : Nat) (w : World) (ha : Ents w (.slice Aa a.length ca) a) (fa : Fit a) (hb : Ents w (.slice Ab b.length cb) b) (fb : Fit b) (hc : Ents w (.slice Ac c.length cc) c) (fc : Fit c) : Calls Try.prog 7 #[.slice Aa a.length ca, .slice Ab b.length cb, .slice Ac c.length cc] w fun e w' => e = .returned (.bool true) ∧ Only Noth w w' := by
  have Ea := Lib.hid ha
  have Fa := Lib.hid fa
  have Eb := Lib.hid hb
  have Fb := Lib.hid fb
  have Ec := Lib.hid hc
  have Fc := Lib.hid fc
  have O := Lib.hid (Only.refl Noth w)
  have za : (0 : Int) ≤ a.length := by omega
  have zb : (0 : Int) ≤ b.length := by omega
  have zc : (0 : Int) ≤ c.length := by omega
  clear ha fa hb fb hc fc
  go_enter Try.func7, Try.ntmps7
  by_cases hbig : (80 : Int) < a.length ∨ (80 : Int) < b.length ∨ (80 : Int) < c.length
  · by_cases h1 : (80 : Int) < a.length
    · go_wp2_with fail
      refine (cm_awake _).mono ?_
      rintro e w1 ⟨rfl, ho⟩
      replace O := Lib.hid (O.out.tr ho)
      clear ho
      go_wp2
      go_ret
      exact ⟨rfl, O.out⟩
    · by_cases h2 : (80 : Int) < b.length
      · go_wp2_with fail
        refine (cm_awake _).mono ?_
        rintro e w1 ⟨rfl, ho⟩
        replace O := Lib.hid (O.out.tr ho)
        clear ho
        go_wp2
        go_ret
        exact ⟨rfl, O.out⟩
      · have h3 : (80 : Int) < c.length := by omega
        go_wp2_with fail
        refine (cm_awake _).mono ?_
        rintro e w1 ⟨rfl, ho⟩
        replace O := Lib.hid (O.out.tr ho)
        clear ho
        go_wp2
        go_ret
        exact ⟨rfl, O.out⟩
  have h1 : ¬ (80 : Int) < a.length := by omega
  have h2 : ¬ (80 : Int) < b.length := by omega
  have h3 : ¬ (80 : Int) < c.length := by omega
  have HS := Lib.hid (show (a ++ b ++ c).length ≤ 256 by simp; omega)
  clear hbig
  go_wp2_with fail
  refine (of_run Fa.out Ea.out).mono ?_
  rintro e w1 ⟨⟨ggx, bbx, Lx, rfl, hL, hm, hg, hb⟩, ho⟩
  have Bx := Lib.hid (Nat.le_trans O.out.size hb)
  have BGx := Lib.hid (Nat.le_trans O.out.size hg)
  replace Ea := Lib.hid (Ea.out.noth ho)
  replace Eb := Lib.hid (Eb.out.noth ho)
  replace Ec := Lib.hid (Ec.out.noth ho)
  replace O := Lib.hid (O.out.tr ho)
  have Mx := Lib.hid hm
  have Ix := Lib.hid hL
  clear hL hm hg hb ho
  go_wp2_with fail
  refine (of_run Fb.out Eb.out).mono ?_
  rintro e w2 ⟨⟨ggy, bby, Ly, rfl, hL, hm, hg, hb⟩, ho⟩
  have Nxy := Lib.hid (apart Mx.out hg hb)
  have By := Lib.hid (Nat.le_trans O.out.size hb)
  have BGy := Lib.hid (Nat.le_trans O.out.size hg)
  replace Mx := Lib.hid (Mx.out.noth ho)
  replace Ea := Lib.hid (Ea.out.noth ho)
  replace Eb := Lib.hid (Eb.out.noth ho)
  replace Ec := Lib.hid (Ec.out.noth ho)
  replace O := Lib.hid (O.out.tr ho)
  have My := Lib.hid hm
  have Iy := Lib.hid hL
  clear hL hm hg hb ho
  go_wp2_with fail
  refine (of_run Fb.out Eb.out).mono ?_
  rintro e w3 ⟨⟨ggu, bbu, Lu, rfl, hL, hm, hg, hb⟩, ho⟩
  have Nxu := Lib.hid (apart Mx.out hg hb)
  have Nyu := Lib.hid (apart My.out hg hb)
  have Bu := Lib.hid (Nat.le_trans O.out.size hb)
  have BGu := Lib.hid (Nat.le_trans O.out.size hg)
  replace Mx := Lib.hid (Mx.out.noth ho)
  replace My := Lib.hid (My.out.noth ho)
  replace Ea := Lib.hid (Ea.out.noth ho)
  replace Eb := Lib.hid (Eb.out.noth ho)
  replace Ec := Lib.hid (Ec.out.noth ho)
  replace O := Lib.hid (O.out.tr ho)
  have Mu := Lib.hid hm
  have Iu := Lib.hid hL
  clear hL hm hg hb ho
  go_wp2_with fail
  refine (list_run Mu.out).mono ?_
  rintro e w4 ⟨⟨Alu, clu, rfl, he⟩, ho⟩
  replace Mx := Lib.hid (Mx.out.noth ho)
  replace My := Lib.hid (My.out.noth ho)
  replace Mu := Lib.hid (Mu.out.noth ho)
  replace Ea := Lib.hid (Ea.out.noth ho)
  replace Eb := Lib.hid (Eb.out.noth ho)
  replace Ec := Lib.hid (Ec.out.noth ho)
  replace O := Lib.hid (O.out.tr ho)
  have Elu := Lib.hid he
  have Flu := Lib.hid (fit_ok Mu.out.ok)
  clear he ho
  go_wp2_with fail
  refine (merge_run Mx.out Flu.out Elu.out).mono ?_
  rintro e w5 ⟨⟨nx2, Lx2, rfl, hn, hL, hm⟩, ho⟩
  replace My := Lib.hid (My.out.beside ho (Nxy.out.2.2.1) (Nxy.out.2.2.2))
  replace Mu := Lib.hid (Mu.out.beside ho (Nxu.out.2.2.1) (Nxu.out.2.2.2))
  replace Ea := Lib.hid (Ea.out.beside Mx.out.own ho)
  replace Eb := Lib.hid (Eb.out.beside Mx.out.own ho)
  replace Ec := Lib.hid (Ec.out.beside Mx.out.own ho)
  replace Elu := Lib.hid (Elu.out.beside Mx.out.own ho)
  replace O := Lib.hid (O.out.trans ho (fun j hj hl => by have hj : j = bbx := hj; have := Bx.out; omega))
  replace Mx := Lib.hid hm
  have Ix2 := Lib.hid hL
  have Cx2 := Lib.hid hn
  clear hL hn hm ho
  go_wp2_with fail
  clear Elu
  refine (of_run Fc.out Ec.out).mono ?_
  rintro e w6 ⟨⟨ggs, bbs, Ls, rfl, hL, hm, hg, hb⟩, ho⟩
  have Nxs := Lib.hid (apart Mx.out hg hb)
  have Nys := Lib.hid (apart My.out hg hb)
  have Nus := Lib.hid (apart Mu.out hg hb)
  have Bs := Lib.hid (Nat.le_trans O.out.size hb)
  have BGs := Lib.hid (Nat.le_trans O.out.size hg)
  replace Mx := Lib.hid (Mx.out.noth ho)
  replace My := Lib.hid (My.out.noth ho)
  replace Mu := Lib.hid (Mu.out.noth ho)
  replace Ea := Lib.hid (Ea.out.noth ho)
  replace Eb := Lib.hid (Eb.out.noth ho)
  replace Ec := Lib.hid (Ec.out.noth ho)
  replace O := Lib.hid (O.out.tr ho)
  have Ms := Lib.hid hm
  have Is := Lib.hid hL
  clear hL hm hg hb ho
  go_wp2_with fail
  refine (list_run Ms.out).mono ?_
  rintro e w7 ⟨⟨Als, cls, rfl, he⟩, ho⟩
  replace Mx := Lib.hid (Mx.out.noth ho)
  replace My := Lib.hid (My.out.noth ho)
  replace Mu := Lib.hid (Mu.out.noth ho)
  replace Ms := Lib.hid (Ms.out.noth ho)
  replace Ea := Lib.hid (Ea.out.noth ho)
  replace Eb := Lib.hid (Eb.out.noth ho)
  replace Ec := Lib.hid (Ec.out.noth ho)
  replace O := Lib.hid (O.out.tr ho)
  have Els := Lib.hid he
  have Fls := Lib.hid (fit_ok Ms.out.ok)
  clear he ho
  go_wp2_with fail
  refine (merge_run My.out Fls.out Els.out).mono ?_
  rintro e w8 ⟨⟨ny2, Ly2, rfl, hn, hL, hm⟩, ho⟩
  replace Mx := Lib.hid (Mx.out.beside ho (Nxy.out.1) (Nxy.out.2.1))
  replace Mu := Lib.hid (Mu.out.beside ho (Nyu.out.2.2.1) (Nyu.out.2.2.2))
  replace Ms := Lib.hid (Ms.out.beside ho (Nys.out.2.2.1) (Nys.out.2.2.2))
  replace Ea := Lib.hid (Ea.out.beside My.out.own ho)
  replace Eb := Lib.hid (Eb.out.beside My.out.own ho)
  replace Ec := Lib.hid (Ec.out.beside My.out.own ho)
  replace Els := Lib.hid (Els.out.beside My.out.own ho)
  replace O := Lib.hid (O.out.trans ho (fun j hj hl => by have hj : j = bby := hj; have := By.out; omega))
  replace My := Lib.hid hm
  have Iy2 := Lib.hid hL
  have Cy2 := Lib.hid hn
  clear hL hn hm ho
  go_wp2_with fail
  clear Els
  refine (of_run Fc.out Ec.out).mono ?_
  rintro e w9 ⟨⟨ggt, bbt, Lt, rfl, hL, hm, hg, hb⟩, ho⟩
  have Nxt := Lib.hid (apart Mx.out hg hb)
  have Nyt := Lib.hid (apart My.out hg hb)
  have Nut := Lib.hid (apart Mu.out hg hb)
  have Nst := Lib.hid (apart Ms.out hg hb)
  have Bt := Lib.hid (Nat.le_trans O.out.size hb)
  have BGt := Lib.hid (Nat.le_trans O.out.size hg)
  replace Mx := Lib.hid (Mx.out.noth ho)
  replace My := Lib.hid (My.out.noth ho)
  replace Mu := Lib.hid (Mu.out.noth ho)
  replace Ms := Lib.hid (Ms.out.noth ho)
  replace Ea := Lib.hid (Ea.out.noth ho)
  replace Eb := Lib.hid (Eb.out.noth ho)
  replace Ec := Lib.hid (Ec.out.noth ho)
  replace O := Lib.hid (O.out.tr ho)
  have Mt := Lib.hid hm
  have It := Lib.hid hL
  clear hL hm hg hb ho
  go_wp2_with fail
  refine (list_run Mt.out).mono ?_
  rintro e w10 ⟨⟨Alt, clt, rfl, he⟩, ho⟩
  replace Mx := Lib.hid (Mx.out.noth ho)
  replace My := Lib.hid (My.out.noth ho)
  replace Mu := Lib.hid (Mu.out.noth ho)
  replace Ms := Lib.hid (Ms.out.noth ho)
  replace Mt := Lib.hid (Mt.out.noth ho)
  replace Ea := Lib.hid (Ea.out.noth ho)
  replace Eb := Lib.hid (Eb.out.noth ho)
  replace Ec := Lib.hid (Ec.out.noth ho)
  replace O := Lib.hid (O.out.tr ho)
  have Elt := Lib.hid he
  have Flt := Lib.hid (fit_ok Mt.out.ok)
  clear he ho
  go_wp2_with fail
  refine (merge_run Mx.out Flt.out Elt.out).mono ?_
  rintro e w11 ⟨⟨nx3, Lx3, rfl, hn, hL, hm⟩, ho⟩
  replace My := Lib.hid (My.out.beside ho (Nxy.out.2.2.1) (Nxy.out.2.2.2))
  replace Mu := Lib.hid (Mu.out.beside ho (Nxu.out.2.2.1) (Nxu.out.2.2.2))
  replace Ms := Lib.hid (Ms.out.beside ho (Nxs.out.2.2.1) (Nxs.out.2.2.2))
  replace Mt := Lib.hid (Mt.out.beside ho (Nxt.out.2.2.1) (Nxt.out.2.2.2))
  replace Ea := Lib.hid (Ea.out.beside Mx.out.own ho)
  replace Eb := Lib.hid (Eb.out.beside Mx.out.own ho)
  replace Ec := Lib.hid (Ec.out.beside Mx.out.own ho)
  replace Elt := Lib.hid (Elt.out.beside Mx.out.own ho)
  replace O := Lib.hid (O.out.trans ho (fun j hj hl => by have hj : j = bbx := hj; have := Bx.out; omega))
  replace Mx := Lib.hid hm
  have Ix3 := Lib.hid hL
  have Cx3 := Lib.hid hn
  clear hL hn hm ho
  go_wp2_with fail
  clear Elt
  refine (list_run Mx.out).mono ?_
  rintro e w12 ⟨⟨Aleft, cleft, rfl, he⟩, ho⟩
  replace Mx := Lib.hid (Mx.out.noth ho)
  replace My := Lib.hid (My.out.noth ho)
  replace Mu := Lib.hid (Mu.out.noth ho)
  replace Ms := Lib.hid (Ms.out.noth ho)
  replace Mt := Lib.hid (Mt.out.noth ho)
  replace Ea := Lib.hid (Ea.out.noth ho)
  replace Eb := Lib.hid (Eb.out.noth ho)
  replace Ec := Lib.hid (Ec.out.noth ho)
  replace O := Lib.hid (O.out.tr ho)
  have Eleft := Lib.hid he
  have Fleft := Lib.hid (fit_ok Mx.out.ok)
  clear he ho
  go_wp2_with fail
  refine (of_run Fa.out Ea.out).mono ?_
  rintro e w13 ⟨⟨ggr, bbr, Lr, rfl, hL, hm, hg, hb⟩, ho⟩
  have Nxr := Lib.hid (apart Mx.out hg hb)
  have Nyr := Lib.hid (apart My.out hg hb)
  have Nur := Lib.hid (apart Mu.out hg hb)
  have Nsr := Lib.hid (apart Ms.out hg hb)
  have Ntr := Lib.hid (apart Mt.out hg hb)
  have Br := Lib.hid (Nat.le_trans O.out.size hb)
  have BGr := Lib.hid (Nat.le_trans O.out.size hg)
  replace Mx := Lib.hid (Mx.out.noth ho)
  replace My := Lib.hid (My.out.noth ho)
  replace Mu := Lib.hid (Mu.out.noth ho)
  replace Ms := Lib.hid (Ms.out.noth ho)
  replace Mt := Lib.hid (Mt.out.noth ho)
  replace Ea := Lib.hid (Ea.out.noth ho)
  replace Eb := Lib.hid (Eb.out.noth ho)
  replace Ec := Lib.hid (Ec.out.noth ho)
  replace Eleft := Lib.hid (Eleft.out.noth ho)
  replace O := Lib.hid (O.out.tr ho)
  have Mr := Lib.hid hm
  have Ir := Lib.hid hL
  clear hL hm hg hb ho
  go_wp2_with fail
  refine (list_run My.out).mono ?_
  rintro e w14 ⟨⟨Aly, cly, rfl, he⟩, ho⟩
  replace Mx := Lib.hid (Mx.out.noth ho)
  replace My := Lib.hid (My.out.noth ho)
  replace Mu := Lib.hid (Mu.out.noth ho)
  replace Ms := Lib.hid (Ms.out.noth ho)
  replace Mt := Lib.hid (Mt.out.noth ho)
  replace Mr := Lib.hid (Mr.out.noth ho)
  replace Ea := Lib.hid (Ea.out.noth ho)
  replace Eb := Lib.hid (Eb.out.noth ho)
  replace Ec := Lib.hid (Ec.out.noth ho)
  replace Eleft := Lib.hid (Eleft.out.noth ho)
  replace O := Lib.hid (O.out.tr ho)
  have Ely := Lib.hid he
  have Fly := Lib.hid (fit_ok My.out.ok)
  clear he ho
  go_wp2_with fail
  refine (merge_run Mr.out Fly.out Ely.out).mono ?_
  rintro e w15 ⟨⟨nr2, Lr2, rfl, hn, hL, hm⟩, ho⟩
  replace Mx := Lib.hid (Mx.out.beside ho (Nxr.out.1) (Nxr.out.2.1))
  replace My := Lib.hid (My.out.beside ho (Nyr.out.1) (Nyr.out.2.1))
  replace Mu := Lib.hid (Mu.out.beside ho (Nur.out.1) (Nur.out.2.1))
  replace Ms := Lib.hid (Ms.out.beside ho (Nsr.out.1) (Nsr.out.2.1))
  replace Mt := Lib.hid (Mt.out.beside ho (Ntr.out.1) (Ntr.out.2.1))
  replace Ea := Lib.hid (Ea.out.beside Mr.out.own ho)
  replace Eb := Lib.hid (Eb.out.beside Mr.out.own ho)
  replace Ec := Lib.hid (Ec.out.beside Mr.out.own ho)
  replace Eleft := Lib.hid (Eleft.out.beside Mr.out.own ho)
  replace Ely := Lib.hid (Ely.out.beside Mr.out.own ho)
  replace O := Lib.hid (O.out.trans ho (fun j hj hl => by have hj : j = bbr := hj; have := Br.out; omega))
  replace Mr := Lib.hid hm
  have Ir2 := Lib.hid hL
  have Cr2 := Lib.hid hn
  clear hL hn hm ho
  go_wp2_with fail
  clear Ely
  refine (list_run Mr.out).mono ?_
  rintro e w16 ⟨⟨Alr, clr, rfl, he⟩, ho⟩
  replace Mx := Lib.hid (Mx.out.noth ho)
  replace My := Lib.hid (My.out.noth ho)
  replace Mu := Lib.hid (Mu.out.noth ho)
  replace Ms := Lib.hid (Ms.out.noth ho)
  replace Mt := Lib.hid (Mt.out.noth ho)
  replace Mr := Lib.hid (Mr.out.noth ho)
  replace Ea := Lib.hid (Ea.out.noth ho)
  replace Eb := Lib.hid (Eb.out.noth ho)
  replace Ec := Lib.hid (Ec.out.noth ho)
  replace Eleft := Lib.hid (Eleft.out.noth ho)
  replace O := Lib.hid (O.out.tr ho)
  have Elr := Lib.hid he
  have Flr := Lib.hid (fit_ok Mr.out.ok)
  clear he ho
  go_wp2_with fail
  have P := Lib.hid (lat_plain HS.out Ix.out Iy.out Iu.out Ix2.out Is.out Iy2.out It.out Ix3.out Ir.out Ir2.out)
  refine (same_run Eleft.out Elr.out).mono ?_
  rintro e w17 ⟨⟨v, rfl, hv⟩, ho⟩
  obtain rfl : v = true := hv.2 (P.out.1)
  replace Mx := Lib.hid (Mx.out.noth ho)
  replace My := Lib.hid (My.out.noth ho)
  replace Mu := Lib.hid (Mu.out.noth ho)
  replace Ms := Lib.hid (Ms.out.noth ho)
  replace Mt := Lib.hid (Mt.out.noth ho)
  replace Mr := Lib.hid (Mr.out.noth ho)
  replace Ea := Lib.hid (Ea.out.noth ho)
  replace Eb := Lib.hid (Eb.out.noth ho)
  replace Ec := Lib.hid (Ec.out.noth ho)
  replace Eleft := Lib.hid (Eleft.out.noth ho)
  replace Elr := Lib.hid (Elr.out.noth ho)
  replace O := Lib.hid (O.out.tr ho)
  clear hv ho
  go_wp2_with fail
  refine (merge_run Mx.out Fleft.out Eleft.out).mono ?_
  rintro e w18 ⟨⟨nx4, Lx4, rfl, hn, hL, hm⟩, ho⟩
  replace My := Lib.hid (My.out.beside ho (Nxy.out.2.2.1) (Nxy.out.2.2.2))
  replace Mu := Lib.hid (Mu.out.beside ho (Nxu.out.2.2.1) (Nxu.out.2.2.2))
  replace Ms := Lib.hid (Ms.out.beside ho (Nxs.out.2.2.1) (Nxs.out.2.2.2))
  replace Mt := Lib.hid (Mt.out.beside ho (Nxt.out.2.2.1) (Nxt.out.2.2.2))
  replace Mr := Lib.hid (Mr.out.beside ho (Nxr.out.2.2.1) (Nxr.out.2.2.2))
  replace Ea := Lib.hid (Ea.out.beside Mx.out.own ho)
  replace Eb := Lib.hid (Eb.out.beside Mx.out.own ho)
  replace Ec := Lib.hid (Ec.out.beside Mx.out.own ho)
  replace Eleft := Lib.hid (Eleft.out.beside Mx.out.own ho)
  replace Elr := Lib.hid (Elr.out.beside Mx.out.own ho)
  replace O := Lib.hid (O.out.trans ho (fun j hj hl => by have hj : j = bbx := hj; have := Bx.out; omega))
  replace Mx := Lib.hid hm
  have Ix4 := Lib.hid hL
  have Cx4 := Lib.hid hn
  clear hL hn hm ho
  obtain rfl : nx4 = 0 := by rw [Cx4.out, P.out.2.1]
  obtain rfl : Lx4 = Lx3 := by rw [Ix4.out, P.out.2.1]
  go_wp2_with fail
  refine (merge_run Mx.out Fa.out Ea.out).mono ?_
  rintro e w19 ⟨⟨nx5, Lx5, rfl, hn, hL, hm⟩, ho⟩
  replace My := Lib.hid (My.out.beside ho (Nxy.out.2.2.1) (Nxy.out.2.2.2))
  replace Mu := Lib.hid (Mu.out.beside ho (Nxu.out.2.2.1) (Nxu.out.2.2.2))
  replace Ms := Lib.hid (Ms.out.beside ho (Nxs.out.2.2.1) (Nxs.out.2.2.2))
  replace Mt := Lib.hid (Mt.out.beside ho (Nxt.out.2.2.1) (Nxt.out.2.2.2))
  replace Mr := Lib.hid (Mr.out.beside ho (Nxr.out.2.2.1) (Nxr.out.2.2.2))
  replace Ea := Lib.hid (Ea.out.beside Mx.out.own ho)
  replace Eb := Lib.hid (Eb.out.beside Mx.out.own ho)
  replace Ec := Lib.hid (Ec.out.beside Mx.out.own ho)
  replace Eleft := Lib.hid (Eleft.out.beside Mx.out.own ho)
  replace Elr := Lib.hid (Elr.out.beside Mx.out.own ho)
  replace O := Lib.hid (O.out.trans ho (fun j hj hl => by have hj : j = bbx := hj; have := Bx.out; omega))
  replace Mx := Lib.hid hm
  have Ix5 := Lib.hid hL
  have Cx5 := Lib.hid hn
  clear hL hn hm ho
  obtain rfl : nx5 = 0 := by rw [Cx5.out, P.out.2.2]
  go_wp2_with fail
  refine (cm_awake _).mono ?_
  rintro e w20 ⟨rfl, ho⟩
  replace O := Lib.hid (O.out.tr ho)
  clear ho
  go_wp2
  go_ret
  exact ⟨rfl, O.out⟩
end Go.Proofs.Ytdclkbhkboaafaa
