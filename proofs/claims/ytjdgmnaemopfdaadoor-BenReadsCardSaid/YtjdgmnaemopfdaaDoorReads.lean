/- The walk of BenReads. -/
import Derived.Test.YtjdgmnaemopfdaaDoorDoR
import Derived.Test.YtjdgmnaemopfdaaDoorBenA
import Derived.Deep.LoopGhost
namespace Go.Proofs.YtjdgmnaemopfdaaDoor
open Go.RowKit Go.Lib
set_option linter.unusedVariables false
set_option maxRecDepth 100000
attribute [local go_sem ↓] Go.wp_at_zero Go.wp_at_succ

theorem do_step (g : Nat) (v : Value) (r : Rd) (k : Nat) (m : Int) (hk2 : k ≤ 255) (w : World) (h : Both w g v r) :
    Calls Tryd.prog 24 #[.pointer (some ⟨g, 0, none⟩), v, .agg #[.int .u8 k, .int .i64 m]] w (DoPost g (rdStep r k m) w) := by
  unfold rdStep
  by_cases h0 : k % 5 = 0
  · rw [if_pos h0]; exact do_int g v r k m h0 hk2 w h
  · rw [if_neg h0]
    by_cases h1 : k % 5 = 1
    · rw [if_pos h1]; exact do_text g v r k m h1 hk2 w h
    · rw [if_neg h1]
      by_cases h2 : k % 5 = 2
      · rw [if_pos h2]; exact do_open g v r k m h2 hk2 w h
      · rw [if_neg h2]
        by_cases h3 : k % 5 = 3
        · rw [if_pos h3]; exact do_more g v r k m h3 hk2 w h
        · rw [if_neg h3]; exact do_close g v r k m (by omega) hk2 w h
theorem sure_act {ops : Array Oper} {op : Oper} {a : Act} {w0 : World} {F : Nat → Prop} {x : Operand} {b o : Nat} {t : Tw} (hw : Region.wanted op (yielded ops a.tmps) = true) (ho : op.op = .load 44 x) (hx : a.eval x = .pointer (some ⟨b, o, none⟩))
    (h : TwAt w0 b o t) (hF : ¬ F b) : Sure Tryd.prog ops (Only Noth) (Only F w0) op (.agg #[.int .u8 t.kind, .int .i64 t.most]) a := by
  refine sure_value hw (fun w1 k1 => ?_)
  have a0 := (k1.cell (p := ⟨b, o, none⟩) h.lt hF).trans h.c0
  have a1 := (k1.cell (p := ⟨b, o + 1, none⟩) h.lt hF).trans h.c1
  unfold execOp
  simp only [ho, hx]
  go_simp
/-- At the loop's head. -/
def ReadsAt (w : World) (g xb n : Nat) (vin : Value) (l : List UInt8) (ok i : Value) (W : World) : Prop :=
  ∃ (k : Nat) (r : Rd) (A : Option Addr) (c : Nat), k ≤ n ∧ ok = .bool true ∧ i = .int .i64 k ∧ Both W g (.agg #[.slice A r.b.length c, .int .i64 r.err]) r ∧ Hld W xb 40 #[.slice A r.b.length c, .int .i64 r.err] ∧ Only Noth w W ∧ Part W vin l
set_option maxHeartbeats 8000000 in
theorem reads_walk (A : Option Addr) (c : Nat) (l : List UInt8) (hl : l.length ≤ 140737488351232) (w : World) (hsrc : Src w (fun k => k < w.heap.size) 1 A l.length (byteCells l)) (hc1 : l.length ≤ c) (hc2 : c ≤ 9223372036854775807)
    (t : Tws) (ht : t.Fit w) (he : Env w) :
    Calls Tryd.prog 5 #[.slice A l.length c, .slice t.a t.l.length t.c] w fun e w' => e = .returned (.bool true) ∧ Only Noth w w' := by
  have SR := Lib.hid hsrc
  have E := Lib.hid he
  have HT := Lib.hid ht
  have PB := Lib.hid (show Part w (.slice A l.length c) l from ⟨A, c, rfl, hsrc, hc1, hc2⟩)
  have hl2 := hl
  have hn := ht.len
  clear hsrc he ht
  obtain ⟨i0, hi, hz0, hz1, hz2⟩ := info_parts b8info
  go_enter Tryd.func5, Tryd.ntmps5
  go_wp2_with (at_builtin; refine wpList_append_row _ rfl (.tmp 10) (.tmp 11) 23 rfl 5 i0 (.int .u8 0) 1 1 Tryd.underlying23 hi hz0 hz1 hz2 rfl (New w) (fun k => k < w.heap.size) _ 0 [] rfl (Row.empty _ _ _ _ _) A l.length c (byteCells l) rfl (SR.out.alloc _) (cells_one l) (by simp only [maxLen]; omega) (by omega) ?_; intro v' w1 hrow honly hsz; obtain ⟨A1, c1, hv'⟩ := hrow.shape; subst hv'; have ROW := Lib.hid hrow; have HO := Lib.hid honly; clear hrow honly hsz)
  have O1 := Lib.hid (show Only Noth w w1 from ((Only.refl Noth w).alloc _).trans HO.out (fun j hj hl => by have : w.heap.size ≤ j := hj; omega))
  have P1 := Lib.hid (show Part w1 (.slice A1 (0 + l.length) c1) l from ⟨A1, c1, by rw [Nat.zero_add], by have := ROW.out.src; simp only [Nat.zero_add, List.nil_append] at this; exact this.mono (fun k hk hl => hl), by have := ROW.out.caps.1; omega, ROW.out.caps.2⟩)
  simp only [Nat.zero_add] at P1 ⊢
  clear ROW HO
  go_wp2_with fail
  refine (rdr_new A1 c1 l _ P1.out).mono ?_
  rintro e w2 ⟨rfl, hr, ho⟩
  obtain ⟨g, hg⟩ : ∃ g, w1.heap.size = g := ⟨_, rfl⟩
  rw [hg] at hr
  rw [hg]
  have hge : w.heap.size ≤ g := by have := O1.out.size; omega
  have HI := Lib.hid (E.out.hi (g := g) hge)
  have R2 := Lib.hid hr
  have O2 := Lib.hid (O1.out.tr ho)
  have P2 := Lib.hid (P1.out.noth ho)
  have GE := Lib.hid hge
  have hgx : g < w2.heap.size := R2.out.lt
  obtain ⟨xb, hxb⟩ : ∃ x, w2.heap.size = x := ⟨_, rfl⟩
  have HXB := Lib.hid hxb
  clear hr ho hg hge
  go_wp2_with fail
  have XG := Lib.hid (show g < xb by omega)
  have XGE := Lib.hid (show w.heap.size ≤ xb by have := GE.out; omega)
  have HX := Lib.hid (show Hld (w2.alloc (.cells #[.slice A l.length c, .int .i64 0] 40)) xb 40 #[.slice A l.length c, .int .i64 0] by rw [← HXB.out]; exact Hld.new _ _ _)
  have XB := Lib.hid (show Both (w2.alloc (.cells #[.slice A l.length c, .int .i64 0] 40)) g (.agg #[.slice A l.length c, .int .i64 0]) ⟨l, 0⟩ from
    ⟨R2.out.noth ((Only.refl _ _).alloc _), Rv.noth ⟨A, c, rfl, PB.out.noth O2.out, Rd.sane_mk _⟩ ((Only.refl _ _).alloc _), (E.out.noth O2.out).noth ((Only.refl _ _).alloc _), HI.out⟩)
  clear hxb hgx
  go_loopw [8, 9] (fun ok i W => ReadsAt w g xb t.l.length (.slice A1 l.length c1) l ok i W) (fun _ i W => t.l.length - (RowKit.intOf i).toNat)
  case atStart => exact ⟨0, ⟨l, 0⟩, A, c, Nat.zero_le _, rfl, rfl, XB.out, HX.out, O2.out.alloc _, P2.out.noth ((Only.refl _ _).alloc _)⟩
  case round =>
    obtain ⟨k, r, A3, c3, hk, rfl, rfl, hb, hx, ho, hp⟩ := hrel
    have BO := Lib.hid hb
    have XO := Lib.hid hx
    have ON := Lib.hid ho
    have PO := Lib.hid hp
    clear hb hx ho hp XB HX P2 P1 O1 O2
    by_cases hlt : k < t.l.length
    · obtain ⟨b, o, ha, hx⟩ := HT.out.at_ (by omega)
      obtain ⟨y, hy⟩ : ∃ y, t.l[k]? = some y := ⟨_, List.getElem?_eq_getElem hlt⟩
      have TY0 := hx k y hy
      have TY := Lib.hid (TY0.noth ON.out)
      have hbw : b < w.heap.size := TY0.lt
      have hkd := TY0.kind
      rw [ha]
      have hb0 : (0 : Int) ≤ k := by omega
      have hb1 : (k : Int) < t.l.length := by omega
      have NB := Lib.hid (show ¬ (b = g ∨ b = xb) by have := GE.out; have := XGE.out; omega)
      have GX := Lib.hid (show g ≠ xb by have := XG.out; omega)
      clear hx hy ha TY0
      go_wp2_with fail
      refine wp_region_N (fun j => j = g ∨ j = xb) (by kernel_rfl) ?_
      refine wpN_take (i := 0) (d := some 26) rfl rfl (by kernel_rfl) (by kernel_rfl) (by kernel_rfl) (fun _ _ _ h => h) (sure_value (v := .pointer (some ⟨g, 0, none⟩)) (by rfl) (fun _ _ => rfl)) (Only.refl _ _) ?_
      simp only [Act.put, List.setIfInBounds_toArray, List.set_cons_zero, List.set_cons_succ]
      refine wpN_take (i := 2) (d := some 28) rfl rfl (by kernel_rfl) (by kernel_rfl) (by kernel_rfl) (fun _ _ _ h => h) (sure_value (v := .slice (some ⟨b, o, none⟩) t.l.length t.c) (by rfl) (fun _ _ => rfl)) (Only.refl _ _) ?_
      simp only [Act.put, List.setIfInBounds_toArray, List.set_cons_zero, List.set_cons_succ]
      refine wpN_take (i := 3) (d := some 29) rfl rfl (by kernel_rfl) (by kernel_rfl) (by kernel_rfl) (fun _ _ _ h => h) (sure_value (v := .int .i64 k) (by rfl) (fun _ _ => rfl)) (Only.refl _ _) ?_
      simp only [Act.put, List.setIfInBounds_toArray, List.set_cons_zero, List.set_cons_succ]
      refine wpN_take (i := 4) (d := some 30) rfl rfl (by kernel_rfl) (by kernel_rfl) (by kernel_rfl) (fun _ _ _ h => h) (sure_value (v := .pointer (some ⟨b, o + k * 2, none⟩)) (by rfl) (fun _ _ => by go_simp)) (Only.refl _ _) ?_
      simp only [Act.put, List.setIfInBounds_toArray, List.set_cons_zero, List.set_cons_succ]
      refine wpN_take (i := 5) (d := some 31) rfl rfl (by kernel_rfl) (by kernel_rfl) (by kernel_rfl) (fun _ _ _ h => h) (sure_act (by rfl) rfl rfl (TY.out.noth ((Only.refl _ _).drew)) NB.out) (Only.refl _ _) ?_
      simp only [Act.put, List.setIfInBounds_toArray, List.set_cons_zero, List.set_cons_succ]
      refine wpN_value1 (i := 1) (d := some 27) (by kernel_rfl) rfl rfl (sure_two (by rfl) rfl rfl XO.out.drew (fun h => h)) (Only.refl _ _) ?_
      simp only [Act.put, List.setIfInBounds_toArray, List.set_cons_zero, List.set_cons_succ]
      refine wpN_call (i := 6) (d := some 32) (T := fun u w1 w2 => DoPost g (rdStep r y.kind y.most) w1 (.returned u) w2) (fun w1 ho => (do_step g _ r y.kind y.most hkd _ (BO.out.noth (Only.undrew ho))).mono ?_) (by kernel_rfl) rfl rfl (by rfl) (fun _ => by go_simp) ?_
      · rintro e w' ⟨v, rfl, h1, h2⟩
        exact ⟨_, rfl, ⟨v, rfl, h1, h2⟩, (only_up _ _ _ (Only.refl _ _) ho).trans h2 (fun j hj _ => .inl hj)⟩
      rintro u w3 w4 h3 ⟨v, hv, hb4, ho4⟩ hS
      injection hv with hv
      subst hv
      simp only [Act.put, List.setIfInBounds_toArray, List.set_cons_zero, List.set_cons_succ]
      obtain ⟨r', hr'⟩ : ∃ r', rdStep r y.kind y.most = r' := ⟨_, rfl⟩
      rw [hr'] at hb4
      obtain ⟨A4, c4, rfl, -, -⟩ := id hb4.rv
      have X4 := (XO.out.only (Only.undrew h3) (fun h => h)).only ho4 (fun h => GX.out h.symm)
      have P4 := (PO.out.noth (Only.undrew h3)).beside ((BO.out.rd.noth (Only.undrew h3))) ho4
      have ON4 := (ON.out.tr (Only.undrew h3)).trans ho4 (fun j hj hl => by have : j = g := hj; have := GE.out; omega)
      clear h3 ho4 hr'
      refine wpN_take (i := 7) (d := some 25) rfl rfl (by kernel_rfl) (by kernel_rfl) (by kernel_rfl) (fun _ _ _ h => h) (sure_value (v := .tuple #[.agg #[.slice A4 r'.b.length c4, .int .i64 r'.err], .bool true]) (by rfl) (fun _ _ => rfl)) hS ?_
      simp only [Act.put, List.setIfInBounds_toArray, List.set_cons_zero, List.set_cons_succ]
      refine wpN_take (i := 8) (d := some 33) rfl rfl (by kernel_rfl) (by kernel_rfl) (by kernel_rfl) (fun _ _ _ h => h) (sure_value (v := .agg #[.slice A4 r'.b.length c4, .int .i64 r'.err]) (by rfl) (fun _ _ => by go_simp)) hS ?_
      simp only [Act.put, List.setIfInBounds_toArray, List.set_cons_zero, List.set_cons_succ]
      refine wpN_take (i := 9) (d := some 34) rfl rfl (by kernel_rfl) (by kernel_rfl) (by kernel_rfl) (fun _ _ _ h => h) (sure_value (v := .bool true) (by rfl) (fun _ _ => by go_simp)) hS ?_
      simp only [Act.put, List.setIfInBounds_toArray, List.set_cons_zero, List.set_cons_succ]
      refine wpN_store (i := 10) (g := xb) (cs' := #[.slice A4 r'.b.length c4, .int .i64 r'.err]) (by kernel_rfl) rfl (by rfl) rfl rfl rfl rfl X4 (fun _ => .inr rfl) rfl (by simp [Value.oneCell']) (by kernel_rfl) hS ?_
      intro W3 W4 ho3 X5 ho5 hS4
      have B5 := (hb4.noth ho3).at_box (X4.only ho3 (fun h => h)) ho5 GX.out (E.out.hi XGE.out)
      have P5 := (P4.noth ho3).off (X4.only ho3 (fun h => h)) (noByte_two _ _ _ _) ho5
      have ON5 := (ON4.tr ho3).trans ho5 (fun j hj hl => by have : j = xb := hj; have := XGE.out; omega)
      refine wpN_take (i := 11) (d := some 8) rfl rfl (by kernel_rfl) (by kernel_rfl) (by kernel_rfl) (fun _ _ _ h => h) (sure_value (v := .bool true) (by rfl) (fun _ _ => rfl)) hS4 ?_
      simp only [Act.put, List.setIfInBounds_toArray, List.set_cons_zero, List.set_cons_succ]
      refine wpN_done (by kernel_rfl) (fun W6 ho6 => ?_) _
      have B6 := Lib.hid (B5.noth ho6)
      have P6 := Lib.hid (P5.noth ho6)
      have X6 := Lib.hid (X5.only ho6 (fun h => h))
      have ON6 := Lib.hid (ON5.tr ho6)
      clear hS hb4 X4 P4 ON4 ho3 X5 ho5 hS4 B5 P5 ON5 ho6
      go_wp2_with fail
      refine wp_region_N Noth (by kernel_rfl) ?_
      refine wpN_take (i := 0) (d := some 35) rfl rfl (by kernel_rfl) (by kernel_rfl) (by kernel_rfl) (fun _ _ _ h => h) (sure_value (v := .bool true) (by rfl) (fun _ _ => rfl)) (Only.refl _ _) ?_
      simp only [Act.put, List.setIfInBounds_toArray, List.set_cons_zero, List.set_cons_succ]
      refine wpN_take (i := 1) (d := some 36) rfl rfl (by kernel_rfl) (by kernel_rfl) (by kernel_rfl) (fun _ _ _ h => h) (sure_value (v := .bool false) (by rfl) (fun _ _ => by go_simp)) (Only.refl _ _) ?_
      simp only [Act.put, List.setIfInBounds_toArray, List.set_cons_zero, List.set_cons_succ]
      refine wpN_take (i := 2) (d := some 37) rfl rfl (by kernel_rfl) (by kernel_rfl) (by kernel_rfl) (fun _ _ _ h => h) (sure_value (v := .bool false) (by rfl) (fun _ _ => rfl)) (Only.refl _ _) ?_
      simp only [Act.put, List.setIfInBounds_toArray, List.set_cons_zero, List.set_cons_succ]
      refine wpN_take (i := 3) (d := some 38) rfl rfl (by kernel_rfl) (by kernel_rfl) (by kernel_rfl) (fun _ _ _ h => h) (sure_value (v := .pointer (some ⟨g, 0, none⟩)) (by rfl) (fun _ _ => rfl)) (Only.refl _ _) ?_
      simp only [Act.put, List.setIfInBounds_toArray, List.set_cons_zero, List.set_cons_succ]
      refine wpN_take (i := 4) (d := some 39) rfl rfl (by kernel_rfl) (by kernel_rfl) (by kernel_rfl) (fun _ _ _ h => h) (sure_call (fun w1 ho => quiet_noth (rdr_err g _ _ (B6.out.rd.noth (Only.undrew ho)))) (by rfl) (fun _ => by go_simp)) (Only.refl _ _) ?_
      simp only [Act.put, List.setIfInBounds_toArray, List.set_cons_zero, List.set_cons_succ]
      refine wpN_take (i := 5) (d := some 40) rfl rfl (by kernel_rfl) (by kernel_rfl) (by kernel_rfl) (fun _ _ _ h => h) (sure_value (v := .pointer (some ⟨xb, 1, none⟩)) (by rfl) (fun _ _ => by go_simp)) (Only.refl _ _) ?_
      simp only [Act.put, List.setIfInBounds_toArray, List.set_cons_zero, List.set_cons_succ]
      refine wpN_take (i := 6) (d := some 41) rfl rfl (by kernel_rfl) (by kernel_rfl) (by kernel_rfl) (fun _ _ _ h => h) (sure_cell1 (by rfl) rfl rfl X6.out.drew rfl (fun h => h)) (Only.refl _ _) ?_
      simp only [Act.put, List.setIfInBounds_toArray, List.set_cons_zero, List.set_cons_succ]
      refine wpN_take (i := 7) (d := some 42) rfl rfl (by kernel_rfl) (by kernel_rfl) (by kernel_rfl) (fun _ _ _ h => h) (sure_value (v := .bool false) (by rfl) (fun _ _ => by go_simp)) (Only.refl _ _) ?_
      simp only [Act.put, List.setIfInBounds_toArray, List.set_cons_zero, List.set_cons_succ]
      refine wpN_take (i := 8) (d := some 43) rfl rfl (by kernel_rfl) (by kernel_rfl) (by kernel_rfl) (fun _ _ _ h => h) (sure_value (v := .bool false) (by rfl) (fun _ _ => rfl)) (Only.refl _ _) ?_
      simp only [Act.put, List.setIfInBounds_toArray, List.set_cons_zero, List.set_cons_succ]
      refine wpN_take (i := 9) (d := some 44) rfl rfl (by kernel_rfl) (by kernel_rfl) (by kernel_rfl) (fun _ _ _ h => h) (sure_value (v := .bool false) (by rfl) (fun _ _ => rfl)) (Only.refl _ _) ?_
      simp only [Act.put, List.setIfInBounds_toArray, List.set_cons_zero, List.set_cons_succ]
      refine wpN_take (i := 10) (d := some 45) rfl rfl (by kernel_rfl) (by kernel_rfl) (by kernel_rfl) (fun _ _ _ h => h) (sure_value (v := .pointer (some ⟨g, 0, none⟩)) (by rfl) (fun _ _ => rfl)) (Only.refl _ _) ?_
      simp only [Act.put, List.setIfInBounds_toArray, List.set_cons_zero, List.set_cons_succ]
      refine wpN_take (i := 11) (d := some 46) rfl rfl (by kernel_rfl) (by kernel_rfl) (by kernel_rfl) (fun _ _ _ h => h) (sure_call (fun w1 ho => quiet_noth (rdr_left g _ _ (B6.out.rd.noth (Only.undrew ho)))) (by rfl) (fun _ => by go_simp)) (Only.refl _ _) ?_
      simp only [Act.put, List.setIfInBounds_toArray, List.set_cons_zero, List.set_cons_succ]
      refine wpN_take (i := 12) (d := some 47) rfl rfl (by kernel_rfl) (by kernel_rfl) (by kernel_rfl) (fun _ _ _ h => h) (sure_value (v := .pointer (some ⟨xb, 0, none⟩)) (by rfl) (fun _ _ => by go_simp)) (Only.refl _ _) ?_
      simp only [Act.put, List.setIfInBounds_toArray, List.set_cons_zero, List.set_cons_succ]
      refine wpN_take (i := 13) (d := some 48) rfl rfl (by kernel_rfl) (by kernel_rfl) (by kernel_rfl) (fun _ _ _ h => h) (sure_cell0 (by rfl) rfl rfl X6.out.drew (fun h => h)) (Only.refl _ _) ?_
      simp only [Act.put, List.setIfInBounds_toArray, List.set_cons_zero, List.set_cons_succ]
      refine wpN_take (i := 14) (d := some 49) rfl rfl (by kernel_rfl) (by kernel_rfl) (by kernel_rfl) (fun _ _ _ h => h) (sure_value (v := .int .i64 r'.b.length) (by rfl) (fun _ _ => by go_simp)) (Only.refl _ _) ?_
      simp only [Act.put, List.setIfInBounds_toArray, List.set_cons_zero, List.set_cons_succ]
      refine wpN_take (i := 15) (d := some 50) rfl rfl (by kernel_rfl) (by kernel_rfl) (by kernel_rfl) (fun _ _ _ h => h) (sure_value (v := .bool false) (by rfl) (fun _ _ => by go_simp)) (Only.refl _ _) ?_
      simp only [Act.put, List.setIfInBounds_toArray, List.set_cons_zero, List.set_cons_succ]
      refine wpN_take (i := 16) (d := some 51) rfl rfl (by kernel_rfl) (by kernel_rfl) (by kernel_rfl) (fun _ _ _ h => h) (sure_value (v := .bool false) (by rfl) (fun _ _ => rfl)) (Only.refl _ _) ?_
      simp only [Act.put, List.setIfInBounds_toArray, List.set_cons_zero, List.set_cons_succ]
      refine wpN_done (by kernel_rfl) (fun W7 ho7 => ?_) _
      have ho7 := Only.undrew ho7
      have F7 := Lib.hid (And.intro (B6.out.noth ho7) (And.intro (X6.out.only ho7 (fun h => h)) (And.intro (ON6.out.tr ho7) (P6.out.noth ho7))))
      clear ho7
      go_wp2_with fail
      go_roundw
      case rel => exact ⟨k + 1, r', A4, c4, by omega, rfl, by go_num, F7.out.1, F7.out.2.1, F7.out.2.2.1, F7.out.2.2.2⟩
      case measure => simp [RowKit.intOf]; omega
    · obtain rfl : k = t.l.length := by omega
      have hcS := (PB.out.noth ON.out).conv
      have hcT := PO.out.conv
      go_wp2_with fail
      refine (ben_awake _ BO.out.env).mono ?_
      rintro e w' ⟨rfl, ho⟩
      go_wp2
      go_ret
      exact ⟨rfl, ON.out.tr ho⟩
end Go.Proofs.YtjdgmnaemopfdaaDoor
