/- CrdtViews: the walk. -/
import Derived.Test.YtdclkbhkboaafaaCmF
namespace Go.Proofs.Ytdclkbhkboaafaa
open Go.RowKit Go.Lib Go.Sort
set_option linter.unusedVariables false
set_option linter.unusedSimpArgs false
set_option maxRecDepth 100000
attribute [local go_sem ↓] Go.wp_at_zero Go.wp_at_succ

theorem sub_ne {x y : Ent} {r s : List Ent} (h : (y :: r).Sublist (x :: s)) (hn : x ≠ y) : (y :: r).Sublist s := by
  cases h with
  | cons _ h => exact h
  | cons_cons _ h => exact absurd rfl hn
theorem sub_filter (L : List Ent) {now later : Int} (h : now ≤ later) : (L.filter fun x => decide (later < x.til)).Sublist (L.filter fun x => decide (now < x.til)) := by
  have e : (L.filter fun x => decide (later < x.til)) = (L.filter fun x => decide (now < x.til)).filter fun x => decide (later < x.til) := by
    rw [List.filter_filter]
    refine List.filter_congr (fun x _ => ?_)
    by_cases hl : later < x.til
    · have : now < x.til := by omega
      simp [hl, this]
    · simp [hl]
  rw [e]
  exact List.filter_sublist
theorem view_view (L : List Ent) {now later : Int} (h : now ≤ later) : (L.filter fun x => decide (now < x.til)).filter (fun x => decide (later < x.til)) = L.filter fun x => decide (later < x.til) := by
  rw [List.filter_filter]
  refine List.filter_congr (fun x _ => ?_)
  by_cases hl : later < x.til
  · have : now < x.til := by omega
    simp [hl, this]
  · simp [hl]
theorem counts_at (x : Ent) (now : Int) (h : decide (now < x.til) = true) (w : World) : Calls Try.prog 35 #[.agg #[.string x.key, .int .i64 x.time, .int .u16 x.org, .string x.val, .int .i64 x.til], .int .i64 now] w fun e w' => e = .returned (.bool true) ∧ Only Noth w w' := by
  refine (entry_counts x now w).mono ?_
  rintro e w' ⟨rfl, ho⟩
  rw [h]
  exact ⟨rfl, ho⟩
set_option maxHeartbeats 16000000 in
theorem views_walk (l : List Ent) (Al : Option Addr) (cl : Nat) (now later : Int) (w : World) (hl : Ents w (.slice Al l.length cl) l) (fl : Fit l) (hn1 : -9223372036854775808 ≤ now) (hn2 : now ≤ 9223372036854775807) (hl1 : -9223372036854775808 ≤ later) (hl2 : later ≤ 9223372036854775807) : Calls Try.prog 10 #[.slice Al l.length cl, .int .i64 now, .int .i64 later] w fun e w' => e = .returned (.bool true) ∧ Only Noth w w' := by
  have El := Lib.hid hl
  have Fl := Lib.hid fl
  have O := Lib.hid (Only.refl Noth w)
  have zl : (0 : Int) ≤ l.length := by omega
  clear hl fl
  go_enter Try.func10, Try.ntmps10
  by_cases hbig : (250 : Int) < l.length
  · go_wp2_with fail
    refine (cm_awake _).mono ?_
    rintro e w1 ⟨rfl, ho⟩
    replace O := Lib.hid (O.out.tr ho)
    clear ho
    go_wp2
    go_ret
    exact ⟨rfl, O.out⟩
  by_cases hlate : later < now
  · go_wp2_with fail
    refine (cm_awake _).mono ?_
    rintro e w1 ⟨rfl, ho⟩
    replace O := Lib.hid (O.out.tr ho)
    clear ho
    go_wp2
    go_ret
    exact ⟨rfl, O.out⟩
  have HS := Lib.hid (show l.length ≤ 256 by omega)
  have HNL := Lib.hid (show now ≤ later by omega)
  go_wp2_with fail
  refine (of_run Fl.out El.out).mono ?_
  rintro e w1 ⟨⟨ggx, bbx, Lx, rfl, hL, hm, hg, hb⟩, ho⟩
  have Bx := Lib.hid (Nat.le_trans O.out.size hb)
  have BGx := Lib.hid (Nat.le_trans O.out.size hg)
  replace El := Lib.hid (El.out.noth ho)
  replace O := Lib.hid (O.out.tr ho)
  have Mx := Lib.hid hm
  have Ix := Lib.hid hL
  clear hL hm hg hb ho
  go_wp2_with fail
  refine (view_run now Mx.out).mono ?_
  rintro e w2 ⟨⟨La, Aa, ca, hf, rfl, he⟩, ho⟩
  have Fa := Lib.hid (show Fit La by rw [hf]; exact fit_ok (fun x hx => Mx.out.ok x (List.mem_filter.1 hx).1))
  replace Mx := Lib.hid (Mx.out.noth ho)
  replace El := Lib.hid (El.out.noth ho)
  replace O := Lib.hid (O.out.tr ho)
  have Ea := Lib.hid he
  have Ja := Lib.hid hf
  clear he ho hf
  go_wp2_with fail
  refine (view_run later Mx.out).mono ?_
  rintro e w3 ⟨⟨Lb, Ab, cb, hf, rfl, he⟩, ho⟩
  have Fb := Lib.hid (show Fit Lb by rw [hf]; exact fit_ok (fun x hx => Mx.out.ok x (List.mem_filter.1 hx).1))
  replace Mx := Lib.hid (Mx.out.noth ho)
  replace El := Lib.hid (El.out.noth ho)
  replace Ea := Lib.hid (Ea.out.noth ho)
  replace O := Lib.hid (O.out.tr ho)
  have Eb := Lib.hid he
  have Jb := Lib.hid hf
  clear he ho hf
  have hxl : Lx.length ≤ 256 := Mx.out.len
  have hla : La.length ≤ 256 := by rw [Ja.out]; exact Nat.le_trans (List.length_filter_le _ _) hxl
  have hlb : Lb.length ≤ 256 := by rw [Jb.out]; exact Nat.le_trans (List.length_filter_le _ _) hxl
  have SUB := Lib.hid (show Lb.Sublist La by rw [Ja.out, Jb.out]; exact sub_filter _ HNL.out)
  have CNT := Lib.hid (show ∀ y ∈ Lb, decide (later < y.til) = true from fun y hy => by rw [Jb.out] at hy; exact (List.mem_filter.1 hy).2)
  have hz0 : (0 : Int) ≤ La.length := by omega
  have hz1 : (0 : Int) ≤ Lb.length := by omega
  go_wp2_with fail
  go_loopw [10, 11] (fun n i W => ∃ p q : Nat, p ≤ La.length ∧ q ≤ Lb.length ∧ n = .int .i64 (p : Int) ∧ i = .int .i64 (q : Int) ∧ (Lb.drop q).Sublist (La.drop p) ∧ Only Noth w3 W) (fun _ i _ => Lb.length - (RowKit.intOf i).toNat)
  case atStart => exact ⟨0, 0, Nat.zero_le _, Nat.zero_le _, rfl, rfl, by simpa using SUB.out, Only.refl _ _⟩
  case round =>
    obtain ⟨p, q, hp, hq, rfl, rfl, hs, ho⟩ := hrel
    have ON := Lib.hid ho
    have SB := Lib.hid hs
    have hp0 : (0 : Int) ≤ p := by omega
    clear ho hs
    by_cases hlt : q < Lb.length
    · obtain ⟨y, hy⟩ : ∃ y, Lb[q]? = some y := ⟨_, List.getElem?_eq_getElem hlt⟩
      have HY := Lib.hid hy
      have HD := Lib.hid (show Lb.drop q = y :: Lb.drop (q + 1) by rw [List.drop_eq_getElem_cons hlt, (List.getElem?_eq_some_iff.1 hy).2])
      have YC := Lib.hid (fun W => counts_at y later (CNT.out y (List.mem_of_getElem? hy)) W)
      obtain ⟨yb, yo, hYA, hcy⟩ := (Eb.out.noth ON.out).at hy
      subst hYA
      have CY := Lib.hid hcy
      have hb0 : (0 : Int) ≤ q := by omega
      have hb1 : (q : Int) < Lb.length := by omega
      clear hy hcy
      go_wp2_with fail
      obtain ⟨wm, rfl⟩ : ∃ x, x = wr := ⟨_, rfl⟩
      go_loopw [10] (fun n W => ∃ p : Nat, p ≤ La.length ∧ n = .int .i64 (p : Int) ∧ (Lb.drop q).Sublist (La.drop p) ∧ Only Noth wm W) (fun n _ => La.length - (RowKit.intOf n).toNat)
      case atStart => exact ⟨p, hp, rfl, SB.out, Only.refl _ _⟩
      case round =>
        obtain ⟨r, hr, rfl, hs, ho⟩ := hrel
        have ON2 := Lib.hid ho
        have SB2 := Lib.hid hs
        have hrl : r < La.length := by
          have := hs.length_le
          rw [List.length_drop, List.length_drop] at this
          omega
        clear ho hs
        obtain ⟨x, hx⟩ : ∃ x, La[r]? = some x := ⟨_, List.getElem?_eq_getElem hrl⟩
        have HX := Lib.hid hx
        have HE := Lib.hid (show La.drop r = x :: La.drop (r + 1) by rw [List.drop_eq_getElem_cons hrl, (List.getElem?_eq_some_iff.1 hx).2])
        obtain ⟨xb, xo, hXA, hcx⟩ := (Ea.out.noth (ON.out.tr ON2.out)).at hx
        subst hXA
        have CX := Lib.hid hcx
        have CY2 := Lib.hid (CY.out.noth ON2.out)
        have hr0 : (0 : Int) ≤ r := by omega
        have hr1 : (r : Int) < La.length := by omega
        clear hx hcx
        go_wp2_with fail
        refine wp_region_N Noth (by kernel_rfl) ?_
        refine wpN_take (i := 0) (d := some 36) rfl rfl (by kernel_rfl) (by kernel_rfl) (by kernel_rfl) (fun _ _ _ h => h) (sure_value (v := .int .i64 (r : Int)) (by rfl) (fun v1 h1 => by first | rfl | (go_simp; done) | (go_simp; intro h9; exact absurd h9 (by omega)) | (go_simp; assumption))) (Only.refl _ _) ?_
        simp only [Act.put, List.setIfInBounds_toArray, List.set_cons_zero, List.set_cons_succ]
        refine wpN_take (i := 1) (d := some 37) rfl rfl (by kernel_rfl) (by kernel_rfl) (by kernel_rfl) (fun _ _ _ h => h) (sure_value (v := .slice (some ⟨xb, xo, none⟩) La.length ca) (by rfl) (fun v1 h1 => by first | rfl | (go_simp; done) | (go_simp; intro h9; exact absurd h9 (by omega)) | (go_simp; assumption))) (Only.refl _ _) ?_
        simp only [Act.put, List.setIfInBounds_toArray, List.set_cons_zero, List.set_cons_succ]
        refine wpN_take (i := 2) (d := some 38) rfl rfl (by kernel_rfl) (by kernel_rfl) (by kernel_rfl) (fun _ _ _ h => h) (sure_value (v := .int .i64 La.length) (by rfl) (fun v1 h1 => by first | rfl | (go_simp; done) | (go_simp; intro h9; exact absurd h9 (by omega)) | (go_simp; assumption))) (Only.refl _ _) ?_
        simp only [Act.put, List.setIfInBounds_toArray, List.set_cons_zero, List.set_cons_succ]
        refine wpN_take (i := 3) (d := some 39) rfl rfl (by kernel_rfl) (by kernel_rfl) (by kernel_rfl) (fun _ _ _ h => h) (sure_value (v := .bool true) (by rfl) (fun v1 h1 => by first | rfl | (go_simp; done) | (go_simp; intro h9; exact absurd h9 (by omega)) | (go_simp; assumption))) (Only.refl _ _) ?_
        simp only [Act.put, List.setIfInBounds_toArray, List.set_cons_zero, List.set_cons_succ]
        refine wpN_take (i := 4) (d := some 40) rfl rfl (by kernel_rfl) (by kernel_rfl) (by kernel_rfl) (fun _ _ _ h => h) (sure_value (v := .bool true) (by rfl) (fun v1 h1 => by first | rfl | (go_simp; done) | (go_simp; intro h9; exact absurd h9 (by omega)) | (go_simp; assumption))) (Only.refl _ _) ?_
        simp only [Act.put, List.setIfInBounds_toArray, List.set_cons_zero, List.set_cons_succ]
        refine wpN_take (i := 5) (d := some 41) rfl rfl (by kernel_rfl) (by kernel_rfl) (by kernel_rfl) (fun _ _ _ h => h) (sure_value (v := .slice (some ⟨xb, xo, none⟩) La.length ca) (by rfl) (fun v1 h1 => by first | rfl | (go_simp; done) | (go_simp; intro h9; exact absurd h9 (by omega)) | (go_simp; assumption))) (Only.refl _ _) ?_
        simp only [Act.put, List.setIfInBounds_toArray, List.set_cons_zero, List.set_cons_succ]
        refine wpN_take (i := 6) (d := some 42) rfl rfl (by kernel_rfl) (by kernel_rfl) (by kernel_rfl) (fun _ _ _ h => h) (sure_value (v := .int .i64 (r : Int)) (by rfl) (fun v1 h1 => by first | rfl | (go_simp; done) | (go_simp; intro h9; exact absurd h9 (by omega)) | (go_simp; assumption))) (Only.refl _ _) ?_
        simp only [Act.put, List.setIfInBounds_toArray, List.set_cons_zero, List.set_cons_succ]
        refine wpN_take (i := 7) (d := some 43) rfl rfl (by kernel_rfl) (by kernel_rfl) (by kernel_rfl) (fun _ _ _ h => h) (sure_value (v := .pointer (some ⟨xb, xo + r * 5, none⟩)) (by rfl) (fun v1 h1 => by first | rfl | (go_simp; done) | (go_simp; intro h9; exact absurd h9 (by omega)) | (go_simp; assumption))) (Only.refl _ _) ?_
        simp only [Act.put, List.setIfInBounds_toArray, List.set_cons_zero, List.set_cons_succ]
        refine wpN_take (i := 8) (d := some 44) rfl rfl (by kernel_rfl) (by kernel_rfl) (by kernel_rfl) (fun _ _ _ h => h) (sure_at CX.out.drew (fun h => h) (by rfl) rfl rfl) (Only.refl _ _) ?_
        simp only [Act.put, List.setIfInBounds_toArray, List.set_cons_zero, List.set_cons_succ]
        refine wpN_take (i := 9) (d := some 45) rfl rfl (by kernel_rfl) (by kernel_rfl) (by kernel_rfl) (fun _ _ _ h => h) (sure_value (v := .slice (some ⟨yb, yo, none⟩) Lb.length cb) (by rfl) (fun v1 h1 => by first | rfl | (go_simp; done) | (go_simp; intro h9; exact absurd h9 (by omega)) | (go_simp; assumption))) (Only.refl _ _) ?_
        simp only [Act.put, List.setIfInBounds_toArray, List.set_cons_zero, List.set_cons_succ]
        refine wpN_take (i := 10) (d := some 46) rfl rfl (by kernel_rfl) (by kernel_rfl) (by kernel_rfl) (fun _ _ _ h => h) (sure_value (v := .int .i64 (q : Int)) (by rfl) (fun v1 h1 => by first | rfl | (go_simp; done) | (go_simp; intro h9; exact absurd h9 (by omega)) | (go_simp; assumption))) (Only.refl _ _) ?_
        simp only [Act.put, List.setIfInBounds_toArray, List.set_cons_zero, List.set_cons_succ]
        refine wpN_take (i := 11) (d := some 47) rfl rfl (by kernel_rfl) (by kernel_rfl) (by kernel_rfl) (fun _ _ _ h => h) (sure_value (v := .pointer (some ⟨yb, yo + q * 5, none⟩)) (by rfl) (fun v1 h1 => by first | rfl | (go_simp; done) | (go_simp; intro h9; exact absurd h9 (by omega)) | (go_simp; assumption))) (Only.refl _ _) ?_
        simp only [Act.put, List.setIfInBounds_toArray, List.set_cons_zero, List.set_cons_succ]
        refine wpN_take (i := 12) (d := some 48) rfl rfl (by kernel_rfl) (by kernel_rfl) (by kernel_rfl) (fun _ _ _ h => h) (sure_at CY2.out.drew (fun h => h) (by rfl) rfl rfl) (Only.refl _ _) ?_
        simp only [Act.put, List.setIfInBounds_toArray, List.set_cons_zero, List.set_cons_succ]
        refine wpN_take (i := 13) (d := some 49) rfl rfl (by kernel_rfl) (by kernel_rfl) (by kernel_rfl) (fun _ _ _ h => h) (sure_ne_ent x y (by rfl) rfl rfl rfl) (Only.refl _ _) ?_
        simp only [Act.put, List.setIfInBounds_toArray, List.set_cons_zero, List.set_cons_succ]
        refine wpN_take (i := 14) (d := some 50) rfl rfl (by kernel_rfl) (by kernel_rfl) (by kernel_rfl) (fun _ _ _ h => h) (sure_value (v := .bool (!x.same y)) (by rfl) (fun v1 h1 => by first | rfl | (go_simp; done) | (go_simp; intro h9; exact absurd h9 (by omega)) | (go_simp; assumption))) (Only.refl _ _) ?_
        simp only [Act.put, List.setIfInBounds_toArray, List.set_cons_zero, List.set_cons_succ]
        refine wpN_done (by kernel_rfl) (fun w7 ho => ?_) _
        have ON7 := Lib.hid (ON2.out.tr (Only.undrew ho))
        clear ho
        by_cases h0 : x = y
        · have h1 : (!x.same y) = false := by rw [same_iff.2 h0]; rfl
          rw [h1]
          clear h0 h1
          obtain ⟨_, f0, f1, f2, f3, f4⟩ := CY.out.noth ON7.out
          go_wp2_with fail
          refine (YC.out _).mono ?_
          rintro e w8 ⟨rfl, ho⟩
          have ON8 := Lib.hid (ON.out.tr (ON7.out.tr ho))
          clear ho f0 f1 f2 f3 f4
          go_wp2_with fail
          go_roundw
          case rel => exact ⟨r, q + 1, by omega, by omega, rfl, by go_num, by have h := SB2.out; rw [HD.out] at h; exact (List.sublist_cons_self _ _).trans h, ON8.out⟩
          case measure => simp [RowKit.intOf]; omega
        · have h1 : (!x.same y) = true := by
            cases hs : x.same y
            · rfl
            · exact absurd (same_iff.1 hs) h0
          have SB3 := Lib.hid (show (Lb.drop q).Sublist (La.drop (r + 1)) by have h := SB2.out; rw [HD.out, HE.out] at h; rw [HD.out]; exact sub_ne h h0)
          rw [h1]
          clear h0 h1
          go_wp2_with fail
          go_roundw
          case rel => exact ⟨r + 1, by omega, by go_num, SB3.out, ON7.out⟩
          case measure => simp [RowKit.intOf]; omega
    · obtain rfl : q = Lb.length := by omega
      replace Mx := Lib.hid (Mx.out.noth ON.out)
      replace El := Lib.hid (El.out.noth ON.out)
      replace Ea := Lib.hid (Ea.out.noth ON.out)
      replace Eb := Lib.hid (Eb.out.noth ON.out)
      replace O := Lib.hid (O.out.tr ON.out)
      clear ON
      go_wp2_with fail
      refine (cm_fork _ _ _ _ Mx.out).mono ?_
      rintro e w4 ⟨⟨ggf, bbf, rfl, hm, hg, hb⟩, ho⟩
      have Nxf := Lib.hid (apart Mx.out hg hb)
      have Bf := Lib.hid (Nat.le_trans O.out.size hb)
      replace Mx := Lib.hid (Mx.out.noth ho)
      replace El := Lib.hid (El.out.noth ho)
      replace Ea := Lib.hid (Ea.out.noth ho)
      replace Eb := Lib.hid (Eb.out.noth ho)
      replace O := Lib.hid (O.out.tr ho)
      have Mf := Lib.hid hm
      clear hm hg hb ho
      go_wp2_with fail
      refine (cm_forget _ _ _ now _ Mf.out).mono ?_
      rintro e w5 ⟨rfl, hm, ho⟩
      replace Mx := Lib.hid (Mx.out.beside ho (Nxf.out.1) (Nxf.out.2.1))
      replace El := Lib.hid (El.out.beside Mf.out.own ho)
      replace Ea := Lib.hid (Ea.out.beside Mf.out.own ho)
      replace Eb := Lib.hid (Eb.out.beside Mf.out.own ho)
      replace O := Lib.hid (O.out.trans ho (fun j hj hl => by have hj : j = bbf := hj; have := Bf.out; omega))
      replace Mf := Lib.hid hm
      clear hm ho
      go_wp2_with fail
      refine (list_run Mf.out).mono ?_
      rintro e w6 ⟨⟨Afl, cfl, rfl, he⟩, ho⟩
      replace Mx := Lib.hid (Mx.out.noth ho)
      replace Mf := Lib.hid (Mf.out.noth ho)
      replace El := Lib.hid (El.out.noth ho)
      replace Ea := Lib.hid (Ea.out.noth ho)
      replace Eb := Lib.hid (Eb.out.noth ho)
      replace O := Lib.hid (O.out.tr ho)
      have Efl := Lib.hid he
      have Ffl := Lib.hid (fit_ok Mf.out.ok)
      clear he ho
      go_wp2_with fail
      refine (same_run Efl.out Ea.out).mono ?_
      rintro e w7 ⟨⟨v, rfl, hv⟩, ho⟩
      obtain rfl : v = true := hv.2 (Ja.out.symm)
      replace Mx := Lib.hid (Mx.out.noth ho)
      replace Mf := Lib.hid (Mf.out.noth ho)
      replace El := Lib.hid (El.out.noth ho)
      replace Ea := Lib.hid (Ea.out.noth ho)
      replace Eb := Lib.hid (Eb.out.noth ho)
      replace Efl := Lib.hid (Efl.out.noth ho)
      replace O := Lib.hid (O.out.tr ho)
      clear hv ho
      go_wp2_with fail
      refine (view_run later Mf.out).mono ?_
      rintro e w8 ⟨⟨Lfv, Afv, cfv, hf, rfl, he⟩, ho⟩
      have Ffv := Lib.hid (show Fit Lfv by rw [hf]; exact fit_ok (fun x hx => Mf.out.ok x (List.mem_filter.1 hx).1))
      replace Mx := Lib.hid (Mx.out.noth ho)
      replace Mf := Lib.hid (Mf.out.noth ho)
      replace El := Lib.hid (El.out.noth ho)
      replace Ea := Lib.hid (Ea.out.noth ho)
      replace Eb := Lib.hid (Eb.out.noth ho)
      replace Efl := Lib.hid (Efl.out.noth ho)
      replace O := Lib.hid (O.out.tr ho)
      have Efv := Lib.hid he
      have Jfv := Lib.hid hf
      clear he ho hf
      go_wp2_with fail
      refine (same_run Efv.out Eb.out).mono ?_
      rintro e w9 ⟨⟨v, rfl, hv⟩, ho⟩
      obtain rfl : v = true := hv.2 (by rw [Jfv.out, Jb.out]; exact view_view _ HNL.out)
      replace Mx := Lib.hid (Mx.out.noth ho)
      replace Mf := Lib.hid (Mf.out.noth ho)
      replace El := Lib.hid (El.out.noth ho)
      replace Ea := Lib.hid (Ea.out.noth ho)
      replace Eb := Lib.hid (Eb.out.noth ho)
      replace Efl := Lib.hid (Efl.out.noth ho)
      replace Efv := Lib.hid (Efv.out.noth ho)
      replace O := Lib.hid (O.out.tr ho)
      clear hv ho
      go_wp2_with fail
      refine (cm_len _ _ _ _ Mx.out).mono ?_
      rintro e w10 ⟨rfl, ho⟩
      replace Mx := Lib.hid (Mx.out.noth ho)
      replace Mf := Lib.hid (Mf.out.noth ho)
      replace El := Lib.hid (El.out.noth ho)
      replace Ea := Lib.hid (Ea.out.noth ho)
      replace Eb := Lib.hid (Eb.out.noth ho)
      replace Efl := Lib.hid (Efl.out.noth ho)
      replace Efv := Lib.hid (Efv.out.noth ho)
      replace O := Lib.hid (O.out.tr ho)
      clear ho
      go_wp2_with fail
      refine (list_run Mx.out).mono ?_
      rintro e w11 ⟨⟨Axl, cxl, rfl, he⟩, ho⟩
      replace Mx := Lib.hid (Mx.out.noth ho)
      replace Mf := Lib.hid (Mf.out.noth ho)
      replace El := Lib.hid (El.out.noth ho)
      replace Ea := Lib.hid (Ea.out.noth ho)
      replace Eb := Lib.hid (Eb.out.noth ho)
      replace Efl := Lib.hid (Efl.out.noth ho)
      replace Efv := Lib.hid (Efv.out.noth ho)
      replace O := Lib.hid (O.out.tr ho)
      have Exl := Lib.hid he
      have Fxl := Lib.hid (fit_ok Mx.out.ok)
      clear he ho
      go_wp2_with fail
      refine (cm_awake _).mono ?_
      rintro e w12 ⟨rfl, ho⟩
      replace O := Lib.hid (O.out.tr ho)
      clear ho
      go_wp2
      go_ret
      exact ⟨rfl, O.out⟩
end Go.Proofs.Ytdclkbhkboaafaa
