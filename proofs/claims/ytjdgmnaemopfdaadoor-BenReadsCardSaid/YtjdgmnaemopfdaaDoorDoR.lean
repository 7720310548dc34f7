/- One call on both readers. -/
import Derived.Test.YtjdgmnaemopfdaaDoorRefT
import Derived.Test.YtjdgmnaemopfdaaDoorTwo
namespace Go.Proofs.YtjdgmnaemopfdaaDoor
open Go.RowKit Go.Lib
set_option linter.unusedVariables false
set_option maxRecDepth 100000
attribute [local go_sem ↓] Go.wp_at_zero Go.wp_at_succ

theorem Rv.beside {w w' : World} {v : Value} {r q : Rd} {g : Nat} (h : Rv w v r) (hb : RdAt w g q) (ho : Only (At g) w w') : Rv w' v r := by
  obtain ⟨A, c, e, hp, hs⟩ := h
  exact ⟨A, c, e, hp.beside hb ho, hs⟩
/-- What a call makes of a reader. -/
def rdStep (r : Rd) (k : Nat) (m : Int) : Rd := if k % 5 = 0 then r.int.1 else if k % 5 = 1 then (r.text m).1 else if k % 5 = 2 then r.byte 108 else if k % 5 = 3 then r else r.byte 101
/-- Both readers at a world. -/
structure Both (w : World) (g : Nat) (v : Value) (r : Rd) : Prop where
  rd : RdAt w g r
  rv : Rv w v r
  env : Env w
  hi : Hi g
theorem Both.noth {w w' : World} {g : Nat} {v : Value} {r : Rd} (h : Both w g v r) (ho : Only Noth w w') : Both w' g v r := ⟨h.rd.noth ho, h.rv.noth ho, h.env.noth ho, h.hi⟩
theorem noByte_two (A : Option Addr) (n c : Nat) (e : Int) : NoByte #[.slice A n c, .int .i64 e] := noByte_rd _ (fun n h => by cases h) _
/-- A store into a box beside both. -/
theorem Both.at_box {w w' : World} {g b : Nat} {v : Value} {r : Rd} {A : Option Addr} {n c : Nat} {e : Int} {t : TypeId} (h : Both w g v r) (hb : Hld w b t #[.slice A n c, .int .i64 e]) (ho : Only (fun k => k = b) w w') (hne : g ≠ b := by omega) (hi : Hi b := by assumption) : Both w' g v r := by
  obtain ⟨A2, c2, e2, hp, hs⟩ := h.rv
  exact ⟨h.rd.off hb (noByte_two _ _ _ _) hne ho, ⟨A2, c2, e2, hp.off hb (noByte_two _ _ _ _) ho, hs⟩, h.env.at_ ho hi, h.hi⟩
section
variable {ops : Array Oper} {o : Oper} {a : Act} {w0 : World} {F : Nat → Prop}
/-- A document's reader is read whole out of its box. -/
theorem sure_two {x : Operand} {g : Nat} {A : Option Addr} {n c : Nat} {e : Int} (hw : Region.wanted o (yielded ops a.tmps) = true) (ho : o.op = .load 40 x) (hx : a.eval x = .pointer (some ⟨g, 0, none⟩))
    (h : Hld w0 g 40 #[.slice A n c, .int .i64 e]) (hF : ¬ F g) : Sure Tryd.prog ops (Only Noth) (Only F w0) o (.agg #[.slice A n c, .int .i64 e]) a := by
  refine sure_value hw (fun w1 k1 => ?_)
  obtain ⟨a0, a1⟩ := (h.only k1 hF).two
  unfold execOp
  simp only [ho, hx]
  go_simp
theorem sure_cell0 {x : Operand} {g : Nat} {u : Value} {A : Option Addr} {n c : Nat} (hw : Region.wanted o (yielded ops a.tmps) = true) (ho : o.op = .load 23 x) (hx : a.eval x = .pointer (some ⟨g, 0, none⟩))
    {t : TypeId} (h : Hld w0 g t #[.slice A n c, u]) (hF : ¬ F g) : Sure Tryd.prog ops (Only Noth) (Only F w0) o (.slice A n c) a := by
  refine sure_value hw (fun w1 k1 => ?_)
  obtain ⟨a0, a1⟩ := (h.only k1 hF).two
  unfold execOp
  simp only [ho, hx]
  go_simp
/-- The number of a call is read out of its box. -/
theorem sure_cell1 {x : Operand} {g : Nat} {u : Value} {m : Int} (hw : Region.wanted o (yielded ops a.tmps) = true) (ho : o.op = .load 3 x) (hx : a.eval x = .pointer (some ⟨g, 1, none⟩))
    {t : TypeId} (h : Hld w0 g t #[u, .int .i64 m]) (hu : u = u) (hF : ¬ F g) : Sure Tryd.prog ops (Only Noth) (Only F w0) o (.int .i64 m) a := by
  refine sure_value hw (fun w1 k1 => ?_)
  obtain ⟨a0, a1⟩ := (h.only k1 hF).two
  unfold execOp
  simp only [ho, hx]
  go_simp
end
def DoPost (g : Nat) (r' : Rd) (w : World) (e : Ending) (w' : World) : Prop := ∃ v, e = .returned (.tuple #[v, .bool true]) ∧ Both w' g v r' ∧ Only (At g) w w'
set_option maxHeartbeats 4000000 in
theorem do_int (g : Nat) (v : Value) (r : Rd) (k : Nat) (m : Int) (hk : k % 5 = 0) (hk2 : k ≤ 255) (w : World) (h : Both w g v r) :
    Calls Tryd.prog 24 #[.pointer (some ⟨g, 0, none⟩), v, .agg #[.int .u8 k, .int .i64 m]] w (DoPost g r.int.1 w) := by
  have H := Lib.hid h
  obtain ⟨A, c, rfl, hp, hs⟩ := h.rv
  have GL := Lib.hid h.rd.lt
  have HIR := Lib.hid (h.env.hi (g := w.heap.size + 1 + 1) (by omega))
  have hk0 : (0 : Int) ≤ k := by omega
  have hk1 : (k : Int) ≤ 255 := by omega
  have e0 : ((k : Int) % 5 == 0) = true := by simp; omega
  clear hp hs h
  have XB := Lib.hid (((Hld.new w 40 #[.slice A r.b.length c, .int .i64 r.err]).alloc (.cells #[.int .u8 k, .int .i64 m] 44)).alloc (.cells #[.slice none 0 0, .int .i64 0] 40))
  have AB := Lib.hid ((Hld.at' (w.alloc (.cells #[.slice A r.b.length c, .int .i64 r.err] 40)) 44 #[.int .u8 k, .int .i64 m] (w.heap.size + 1) (by simp)).alloc (.cells #[.slice none 0 0, .int .i64 0] 40))
  have RB := Lib.hid (Hld.at' ((w.alloc (.cells #[.slice A r.b.length c, .int .i64 r.err] 40)).alloc (.cells #[.int .u8 k, .int .i64 m] 44)) 40 #[.slice none 0 0, .int .i64 0] (w.heap.size + 1 + 1) (by simp))
  have ON := Lib.hid ((((Only.refl Noth w).alloc (.cells #[.slice A r.b.length c, .int .i64 r.err] 40)).alloc (.cells #[.int .u8 k, .int .i64 m] 44)).alloc (.cells #[.slice none 0 0, .int .i64 0] 40))
  go_enter Tryd.func24, Tryd.ntmps24
  go_wp2_with fail
  refine (ref_rint _ _ _ (H.out.rv.noth ON.out)).mono ?_
  rintro e w1 ⟨x, rfl, hx, ho⟩
  obtain ⟨A1, c1, rfl, -, -⟩ := id hx
  have O1 := Lib.hid (ON.out.tr ho)
  have RB1 := Lib.hid (RB.out.only ho (fun h => h))
  have AB1 := Lib.hid (AB.out.only ho (fun h => h))
  have X1 := Lib.hid hx
  clear hx ho
  go_wp2_with fail
  obtain ⟨W, hW⟩ : ∃ W, W = (w1.alloc (.cells #[.slice A1 r.int.1.b.length c1, .int .i64 r.int.1.err] 40)) := ⟨_, rfl⟩
  rw [← hW]
  have YB := Lib.hid (show Hld W w1.heap.size 40 #[.slice A1 r.int.1.b.length c1, .int .i64 r.int.1.err] by rw [hW]; exact Hld.new _ _ _)
  have ON1 := Lib.hid (show Only (At g) w W by rw [hW]; exact (Only.at_of O1.out).alloc _)
  have RB2 := (show Hld W (w.heap.size + 1 + 1) 40 #[.slice none 0 0, .int .i64 0] by rw [hW]; exact RB1.out.alloc _)
  have AB2 := Lib.hid (show Hld W (w.heap.size + 1) 44 #[.int .u8 k, .int .i64 m] by rw [hW]; exact AB1.out.alloc _)
  have XV := Lib.hid (show Rv W (.agg #[.slice A1 r.int.1.b.length c1, .int .i64 r.int.1.err]) r.int.1 by rw [hW]; exact X1.out.noth ((Only.refl _ _).alloc _))
  have HH := Lib.hid (show Both W g (.agg #[.slice A r.b.length c, .int .i64 r.err]) r by rw [hW]; exact (H.out.noth O1.out).noth ((Only.refl _ _).alloc _))
  have Y := Lib.hid (show w.heap.size + 1 + 1 < w1.heap.size from RB1.out.lt)
  clear hW
  refine wp_region_N (fun j => j = g ∨ j = w.heap.size + 1 + 1) (by kernel_rfl) ?_
  refine wpN_take (i := 0) (d := some 22) rfl rfl (by kernel_rfl) (by kernel_rfl) (by kernel_rfl) (fun _ _ _ h => h) (sure_two (by rfl) rfl rfl YB.out.drew (by have := GL.out; have := Y.out; rintro (h | h) <;> omega)) (Only.refl _ _) ?_
  simp only [Act.put, List.setIfInBounds_toArray, List.set_cons_zero, List.set_cons_succ]
  refine wpN_take (i := 1) (d := some 23) rfl rfl (by kernel_rfl) (by kernel_rfl) (by kernel_rfl) (fun _ _ _ h => h) (sure_value (v := .pointer (some ⟨g, 0, none⟩)) (by rfl) (fun _ _ => rfl)) (Only.refl _ _) ?_
  simp only [Act.put, List.setIfInBounds_toArray, List.set_cons_zero, List.set_cons_succ]
  refine wpN_take (i := 3) (d := some 25) rfl rfl (by kernel_rfl) (by kernel_rfl) (by kernel_rfl) (fun _ _ _ h => h) (sure_value (v := .int .i64 r.int.2) (by rfl) (fun _ _ => rfl)) (Only.refl _ _) ?_
  simp only [Act.put, List.setIfInBounds_toArray, List.set_cons_zero, List.set_cons_succ]
  refine wpN_call (i := 2) (d := some 24) (T := fun u w1 w2 => u = .int .i64 r.int.2 ∧ RdAt w2 g r.int.1 ∧ Only (At g) w1 w2) (fun w1 ho => (rdr_int g r _ (HH.out.noth (Only.undrew ho)).rd (HH.out.noth (Only.undrew ho)).env HH.out.hi).mono ?_) (by kernel_rfl) rfl rfl (by rfl) (fun _ => by go_simp) ?_
  · rintro e w' ⟨rfl, h1, h2⟩
    exact ⟨_, rfl, ⟨rfl, h1, h2⟩, (only_up _ _ _ (Only.refl _ _) ho).trans h2 (fun j hj _ => .inl hj)⟩
  rintro u w3 w4 h3 ⟨rfl, hr, ho4⟩ hS
  simp only [Act.put, List.setIfInBounds_toArray, List.set_cons_zero, List.set_cons_succ]
  have F3 := (show Both w4 g (.agg #[.slice A1 r.int.1.b.length c1, .int .i64 r.int.1.err]) r.int.1 from ⟨hr, (XV.out.noth (Only.undrew h3)).beside (HH.out.rd.noth (Only.undrew h3)) ho4, (HH.out.env.noth (Only.undrew h3)).at_ ho4 HH.out.hi, HH.out.hi⟩)
  have RB2 := (RB2.only (Only.undrew h3) (fun h => h)).only ho4 (by have := GL.out; intro h; have : w.heap.size + 1 + 1 = g := h; omega)
  clear h3 hr ho4
  refine wpN_take (i := 4) (d := some 26) rfl rfl (by kernel_rfl) (by kernel_rfl) (by kernel_rfl) (fun _ _ _ h => h) (sure_value (v := .bool true) (by rfl) (fun _ _ => by go_simp)) hS ?_
  simp only [Act.put, List.setIfInBounds_toArray, List.set_cons_zero, List.set_cons_succ]
  refine wpN_store (i := 5) (g := w.heap.size + 1 + 1) (cs' := #[.slice A1 r.int.1.b.length c1, .int .i64 r.int.1.err]) (by kernel_rfl) rfl (by rfl) rfl rfl rfl rfl (RB2) (fun _ => .inr rfl) rfl (by simp [Value.oneCell']) (by kernel_rfl) hS ?_
  intro W3 W4 ho3 P2 ho4 hS4
  have F4 := (F3.noth ho3).at_box (RB2.only ho3 (fun h => h)) ho4 (by have := GL.out; omega) HIR.out
  refine wpN_take (i := 6) (d := some 7) rfl rfl (by kernel_rfl) (by kernel_rfl) (by kernel_rfl) (fun _ _ _ h => h) (sure_value (v := .bool true) (by rfl) (fun _ _ => rfl)) hS4 ?_
  simp only [Act.put, List.setIfInBounds_toArray, List.set_cons_zero, List.set_cons_succ]
  refine wpN_done (by kernel_rfl) (fun W5 ho5 => ?_) _
  have HP := Lib.hid (P2.only ho5 (fun h => h))
  have FS := Lib.hid (F4.noth ho5)
  have HS := Lib.hid (only_up _ _ _ hS4 ho5)
  clear P2 ho3 ho4 ho5 hS4 F4
  obtain ⟨y0, y1⟩ := HP.out.two
  go_wp2
  refine bodyPost_ret (v := .tuple #[.agg #[.slice A1 r.int.1.b.length c1, .int .i64 r.int.1.err], .bool true]) (by simp [results, Tryd.results24, go_sem, y0, y1]) rfl ⟨_, rfl, FS.out, ?_⟩
  exact ON1.out.trans HS.out.undrew (fun j hj hl => by rcases hj with hj | hj; exact hj; omega)
set_option maxHeartbeats 4000000 in
theorem do_text (g : Nat) (v : Value) (r : Rd) (k : Nat) (m : Int) (hk : k % 5 = 1) (hk2 : k ≤ 255) (w : World) (h : Both w g v r) :
    Calls Tryd.prog 24 #[.pointer (some ⟨g, 0, none⟩), v, .agg #[.int .u8 k, .int .i64 m]] w (DoPost g (r.text m).1 w) := by
  have H := Lib.hid h
  obtain ⟨A, c, rfl, hp, hs⟩ := h.rv
  have GL := Lib.hid h.rd.lt
  have HIR := Lib.hid (h.env.hi (g := w.heap.size + 1 + 1) (by omega))
  have hk0 : (0 : Int) ≤ k := by omega
  have hk1 : (k : Int) ≤ 255 := by omega
  have e0 : ((k : Int) % 5 == 0) = false := by simp; omega
  have e1 : ((k : Int) % 5 == 1) = true := by simp; omega
  clear hp hs h
  have XB := Lib.hid (((Hld.new w 40 #[.slice A r.b.length c, .int .i64 r.err]).alloc (.cells #[.int .u8 k, .int .i64 m] 44)).alloc (.cells #[.slice none 0 0, .int .i64 0] 40))
  have AB := Lib.hid ((Hld.at' (w.alloc (.cells #[.slice A r.b.length c, .int .i64 r.err] 40)) 44 #[.int .u8 k, .int .i64 m] (w.heap.size + 1) (by simp)).alloc (.cells #[.slice none 0 0, .int .i64 0] 40))
  have RB := Lib.hid (Hld.at' ((w.alloc (.cells #[.slice A r.b.length c, .int .i64 r.err] 40)).alloc (.cells #[.int .u8 k, .int .i64 m] 44)) 40 #[.slice none 0 0, .int .i64 0] (w.heap.size + 1 + 1) (by simp))
  have ON := Lib.hid ((((Only.refl Noth w).alloc (.cells #[.slice A r.b.length c, .int .i64 r.err] 40)).alloc (.cells #[.int .u8 k, .int .i64 m] 44)).alloc (.cells #[.slice none 0 0, .int .i64 0] 40))
  go_enter Tryd.func24, Tryd.ntmps24
  go_wp2_with fail
  refine (ref_rtext _ _ _ (H.out.rv.noth ON.out) m).mono ?_
  rintro e w1 ⟨x, rfl, hx, ho⟩
  obtain ⟨A1, c1, rfl, -, -⟩ := id hx
  have O1 := Lib.hid (ON.out.tr ho)
  have RB1 := Lib.hid (RB.out.only ho (fun h => h))
  have AB1 := Lib.hid (AB.out.only ho (fun h => h))
  have X1 := Lib.hid hx
  clear hx ho
  go_wp2_with fail
  obtain ⟨W, hW⟩ : ∃ W, W = (w1.alloc (.cells #[.slice A1 (r.text m).1.b.length c1, .int .i64 (r.text m).1.err] 40)) := ⟨_, rfl⟩
  rw [← hW]
  have YB := Lib.hid (show Hld W w1.heap.size 40 #[.slice A1 (r.text m).1.b.length c1, .int .i64 (r.text m).1.err] by rw [hW]; exact Hld.new _ _ _)
  have ON1 := Lib.hid (show Only (At g) w W by rw [hW]; exact (Only.at_of O1.out).alloc _)
  have RB2 := (show Hld W (w.heap.size + 1 + 1) 40 #[.slice none 0 0, .int .i64 0] by rw [hW]; exact RB1.out.alloc _)
  have AB2 := Lib.hid (show Hld W (w.heap.size + 1) 44 #[.int .u8 k, .int .i64 m] by rw [hW]; exact AB1.out.alloc _)
  have XV := Lib.hid (show Rv W (.agg #[.slice A1 (r.text m).1.b.length c1, .int .i64 (r.text m).1.err]) (r.text m).1 by rw [hW]; exact X1.out.noth ((Only.refl _ _).alloc _))
  have HH := Lib.hid (show Both W g (.agg #[.slice A r.b.length c, .int .i64 r.err]) r by rw [hW]; exact (H.out.noth O1.out).noth ((Only.refl _ _).alloc _))
  have Y := Lib.hid (show w.heap.size + 1 + 1 < w1.heap.size from RB1.out.lt)
  clear hW
  refine wp_region_N (fun j => j = g ∨ j = w.heap.size + 1 + 1) (by kernel_rfl) ?_
  refine wpN_take (i := 0) (d := some 36) rfl rfl (by kernel_rfl) (by kernel_rfl) (by kernel_rfl) (fun _ _ _ h => h) (sure_two (by rfl) rfl rfl YB.out.drew (by have := GL.out; have := Y.out; rintro (h | h) <;> omega)) (Only.refl _ _) ?_
  simp only [Act.put, List.setIfInBounds_toArray, List.set_cons_zero, List.set_cons_succ]
  refine wpN_take (i := 1) (d := some 37) rfl rfl (by kernel_rfl) (by kernel_rfl) (by kernel_rfl) (fun _ _ _ h => h) (sure_value (v := .pointer (some ⟨g, 0, none⟩)) (by rfl) (fun _ _ => rfl)) (Only.refl _ _) ?_
  simp only [Act.put, List.setIfInBounds_toArray, List.set_cons_zero, List.set_cons_succ]
  refine wpN_take (i := 2) (d := some 38) rfl rfl (by kernel_rfl) (by kernel_rfl) (by kernel_rfl) (fun _ _ _ h => h) (sure_value (v := .pointer (some ⟨w.heap.size + 1, 1, none⟩)) (by rfl) (fun _ _ => by go_simp)) (Only.refl _ _) ?_
  simp only [Act.put, List.setIfInBounds_toArray, List.set_cons_zero, List.set_cons_succ]
  refine wpN_take (i := 3) (d := some 39) rfl rfl (by kernel_rfl) (by kernel_rfl) (by kernel_rfl) (fun _ _ _ h => h) (sure_cell1 (by rfl) rfl rfl AB2.out.drew rfl (by have := GL.out; rintro (h | h) <;> omega)) (Only.refl _ _) ?_
  simp only [Act.put, List.setIfInBounds_toArray, List.set_cons_zero, List.set_cons_succ]
  refine wpN_take (i := 5) (d := some 41) rfl rfl (by kernel_rfl) (by kernel_rfl) (by kernel_rfl) (fun _ _ _ h => h) (sure_value (v := .string ⟨(r.text m).2.toArray⟩) (by rfl) (fun _ _ => rfl)) (Only.refl _ _) ?_
  simp only [Act.put, List.setIfInBounds_toArray, List.set_cons_zero, List.set_cons_succ]
  refine wpN_call (i := 4) (d := some 40) (T := fun u w1 w2 => u = .string ⟨(r.text m).2.toArray⟩ ∧ RdAt w2 g (r.text m).1 ∧ Only (At g) w1 w2) (fun w1 ho => (rdr_text g r m _ (HH.out.noth (Only.undrew ho)).rd (HH.out.noth (Only.undrew ho)).env).mono ?_) (by kernel_rfl) rfl rfl (by rfl) (fun _ => by go_simp) ?_
  · rintro e w' ⟨rfl, h1, h2⟩
    exact ⟨_, rfl, ⟨rfl, h1, h2⟩, (only_up _ _ _ (Only.refl _ _) ho).trans h2 (fun j hj _ => .inl hj)⟩
  rintro u w3 w4 h3 ⟨rfl, hr, ho4⟩ hS
  simp only [Act.put, List.setIfInBounds_toArray, List.set_cons_zero, List.set_cons_succ]
  have F3 := (show Both w4 g (.agg #[.slice A1 (r.text m).1.b.length c1, .int .i64 (r.text m).1.err]) (r.text m).1 from ⟨hr, (XV.out.noth (Only.undrew h3)).beside (HH.out.rd.noth (Only.undrew h3)) ho4, (HH.out.env.noth (Only.undrew h3)).at_ ho4 HH.out.hi, HH.out.hi⟩)
  have RB2 := (RB2.only (Only.undrew h3) (fun h => h)).only ho4 (by have := GL.out; intro h; have : w.heap.size + 1 + 1 = g := h; omega)
  clear h3 hr ho4
  refine wpN_take (i := 6) (d := some 42) rfl rfl (by kernel_rfl) (by kernel_rfl) (by kernel_rfl) (fun _ _ _ h => h) (sure_value (v := .bool true) (by rfl) (fun _ _ => by go_simp)) hS ?_
  simp only [Act.put, List.setIfInBounds_toArray, List.set_cons_zero, List.set_cons_succ]
  refine wpN_store (i := 7) (g := w.heap.size + 1 + 1) (cs' := #[.slice A1 (r.text m).1.b.length c1, .int .i64 (r.text m).1.err]) (by kernel_rfl) rfl (by rfl) rfl rfl rfl rfl (RB2) (fun _ => .inr rfl) rfl (by simp [Value.oneCell']) (by kernel_rfl) hS ?_
  intro W3 W4 ho3 P2 ho4 hS4
  have F4 := (F3.noth ho3).at_box (RB2.only ho3 (fun h => h)) ho4 (by have := GL.out; omega) HIR.out
  refine wpN_take (i := 8) (d := some 7) rfl rfl (by kernel_rfl) (by kernel_rfl) (by kernel_rfl) (fun _ _ _ h => h) (sure_value (v := .bool true) (by rfl) (fun _ _ => rfl)) hS4 ?_
  simp only [Act.put, List.setIfInBounds_toArray, List.set_cons_zero, List.set_cons_succ]
  refine wpN_done (by kernel_rfl) (fun W5 ho5 => ?_) _
  have HP := Lib.hid (P2.only ho5 (fun h => h))
  have FS := Lib.hid (F4.noth ho5)
  have HS := Lib.hid (only_up _ _ _ hS4 ho5)
  clear P2 ho3 ho4 ho5 hS4 F4
  obtain ⟨y0, y1⟩ := HP.out.two
  go_wp2
  refine bodyPost_ret (v := .tuple #[.agg #[.slice A1 (r.text m).1.b.length c1, .int .i64 (r.text m).1.err], .bool true]) (by simp [results, Tryd.results24, go_sem, y0, y1]) rfl ⟨_, rfl, FS.out, ?_⟩
  exact ON1.out.trans HS.out.undrew (fun j hj hl => by rcases hj with hj | hj; exact hj; omega)
set_option maxHeartbeats 4000000 in
theorem do_open (g : Nat) (v : Value) (r : Rd) (k : Nat) (m : Int) (hk : k % 5 = 2) (hk2 : k ≤ 255) (w : World) (h : Both w g v r) :
    Calls Tryd.prog 24 #[.pointer (some ⟨g, 0, none⟩), v, .agg #[.int .u8 k, .int .i64 m]] w (DoPost g (r.byte 108) w) := by
  have H := Lib.hid h
  obtain ⟨A, c, rfl, hp, hs⟩ := h.rv
  have GL := Lib.hid h.rd.lt
  have HIR := Lib.hid (h.env.hi (g := w.heap.size + 1 + 1) (by omega))
  have hk0 : (0 : Int) ≤ k := by omega
  have hk1 : (k : Int) ≤ 255 := by omega
  have e0 : ((k : Int) % 5 == 0) = false := by simp; omega
  have e1 : ((k : Int) % 5 == 1) = false := by simp; omega
  have e2 : ((k : Int) % 5 == 2) = true := by simp; omega
  clear hp hs h
  have XB := Lib.hid (((Hld.new w 40 #[.slice A r.b.length c, .int .i64 r.err]).alloc (.cells #[.int .u8 k, .int .i64 m] 44)).alloc (.cells #[.slice none 0 0, .int .i64 0] 40))
  have AB := Lib.hid ((Hld.at' (w.alloc (.cells #[.slice A r.b.length c, .int .i64 r.err] 40)) 44 #[.int .u8 k, .int .i64 m] (w.heap.size + 1) (by simp)).alloc (.cells #[.slice none 0 0, .int .i64 0] 40))
  have RB := Lib.hid (Hld.at' ((w.alloc (.cells #[.slice A r.b.length c, .int .i64 r.err] 40)).alloc (.cells #[.int .u8 k, .int .i64 m] 44)) 40 #[.slice none 0 0, .int .i64 0] (w.heap.size + 1 + 1) (by simp))
  have ON := Lib.hid ((((Only.refl Noth w).alloc (.cells #[.slice A r.b.length c, .int .i64 r.err] 40)).alloc (.cells #[.int .u8 k, .int .i64 m] 44)).alloc (.cells #[.slice none 0 0, .int .i64 0] 40))
  go_enter Tryd.func24, Tryd.ntmps24
  go_wp2_with fail
  refine (rdr_open g r _ (H.out.noth ON.out).rd).mono ?_
  rintro e w1 ⟨rfl, hr, ho⟩
  have R1 := Lib.hid (show Both w1 g (.agg #[.slice A r.b.length c, .int .i64 r.err]) r → True from fun _ => trivial)
  have V1 := Lib.hid ((H.out.noth ON.out).rv.beside (H.out.noth ON.out).rd ho)
  have E1 := Lib.hid ((H.out.noth ON.out).env.at_ ho H.out.hi)
  have RD1 := Lib.hid hr
  have O1 := Lib.hid ((Only.at_of ON.out).at_tr ho)
  have hng : w.heap.size + 1 + 1 ≠ g := by have := GL.out; omega
  have RB1 := Lib.hid (RB.out.only ho (fun h => hng h))
  obtain ⟨x0, x1⟩ := (XB.out.only ho (fun h => by have : w.heap.size = g := h; have := GL.out; omega)).two
  clear hr ho R1
  go_wp2_with fail
  refine (ref_byte _ _ _ V1.out 108).mono ?_
  rintro e w2 ⟨x, rfl, hx, ho⟩
  obtain ⟨A1, c1, rfl, -, -⟩ := id hx
  have FS := Lib.hid (show Both w2 g (.agg #[.slice A1 (r.byte 108).b.length c1, .int .i64 (r.byte 108).err]) (r.byte 108) from ⟨RD1.out.noth ho, hx, E1.out.noth ho, H.out.hi⟩)
  have RB2 := Lib.hid (RB1.out.only ho (fun h => h))
  have O2 := Lib.hid (O1.out.trans ho (fun _ h _ => h.elim))
  clear hx ho
  go_wp2_with (refine wpList_store_whole rfl rfl 40 (.tmp 6) (.tmp 48) rfl (w.heap.size + 1 + 1) rfl #[.slice A1 (r.byte 108).b.length c1, .int .i64 (r.byte 108).err] rfl 40 _ RB2.out rfl (by simp [Value.oneCell']) (by kernel_rfl) ?_; intro w3 hb3 ho3 _; obtain ⟨y0, y1⟩ := hb3.two; have F3 := Lib.hid (FS.out.at_box RB2.out ho3 (by have := GL.out; omega) HIR.out); have O3 := Lib.hid ho3; clear ho3 hb3)
  refine bodyPost_ret (v := .tuple #[.agg #[.slice A1 (r.byte 108).b.length c1, .int .i64 (r.byte 108).err], .bool true]) (by simp [results, Tryd.results24, go_sem, y0, y1]) rfl ⟨_, rfl, F3.out, ?_⟩
  exact O2.out.trans O3.out (fun j hj hl => by have : j = w.heap.size + 1 + 1 := hj; omega)
set_option maxHeartbeats 4000000 in
theorem do_close (g : Nat) (v : Value) (r : Rd) (k : Nat) (m : Int) (hk : k % 5 = 4) (hk2 : k ≤ 255) (w : World) (h : Both w g v r) :
    Calls Tryd.prog 24 #[.pointer (some ⟨g, 0, none⟩), v, .agg #[.int .u8 k, .int .i64 m]] w (DoPost g (r.byte 101) w) := by
  have H := Lib.hid h
  obtain ⟨A, c, rfl, hp, hs⟩ := h.rv
  have GL := Lib.hid h.rd.lt
  have HIR := Lib.hid (h.env.hi (g := w.heap.size + 1 + 1) (by omega))
  have hk0 : (0 : Int) ≤ k := by omega
  have hk1 : (k : Int) ≤ 255 := by omega
  have e0 : ((k : Int) % 5 == 0) = false := by simp; omega
  have e1 : ((k : Int) % 5 == 1) = false := by simp; omega
  have e2 : ((k : Int) % 5 == 2) = false := by simp; omega
  have e3 : ((k : Int) % 5 == 3) = false := by simp; omega
  clear hp hs h
  have XB := Lib.hid (((Hld.new w 40 #[.slice A r.b.length c, .int .i64 r.err]).alloc (.cells #[.int .u8 k, .int .i64 m] 44)).alloc (.cells #[.slice none 0 0, .int .i64 0] 40))
  have AB := Lib.hid ((Hld.at' (w.alloc (.cells #[.slice A r.b.length c, .int .i64 r.err] 40)) 44 #[.int .u8 k, .int .i64 m] (w.heap.size + 1) (by simp)).alloc (.cells #[.slice none 0 0, .int .i64 0] 40))
  have RB := Lib.hid (Hld.at' ((w.alloc (.cells #[.slice A r.b.length c, .int .i64 r.err] 40)).alloc (.cells #[.int .u8 k, .int .i64 m] 44)) 40 #[.slice none 0 0, .int .i64 0] (w.heap.size + 1 + 1) (by simp))
  have ON := Lib.hid ((((Only.refl Noth w).alloc (.cells #[.slice A r.b.length c, .int .i64 r.err] 40)).alloc (.cells #[.int .u8 k, .int .i64 m] 44)).alloc (.cells #[.slice none 0 0, .int .i64 0] 40))
  go_enter Tryd.func24, Tryd.ntmps24
  go_wp2_with fail
  refine (rdr_close g r _ (H.out.noth ON.out).rd).mono ?_
  rintro e w1 ⟨rfl, hr, ho⟩
  have R1 := Lib.hid (show Both w1 g (.agg #[.slice A r.b.length c, .int .i64 r.err]) r → True from fun _ => trivial)
  have V1 := Lib.hid ((H.out.noth ON.out).rv.beside (H.out.noth ON.out).rd ho)
  have E1 := Lib.hid ((H.out.noth ON.out).env.at_ ho H.out.hi)
  have RD1 := Lib.hid hr
  have O1 := Lib.hid ((Only.at_of ON.out).at_tr ho)
  have hng : w.heap.size + 1 + 1 ≠ g := by have := GL.out; omega
  have RB1 := Lib.hid (RB.out.only ho (fun h => hng h))
  obtain ⟨x0, x1⟩ := (XB.out.only ho (fun h => by have : w.heap.size = g := h; have := GL.out; omega)).two
  clear hr ho R1
  go_wp2_with fail
  refine (ref_byte _ _ _ V1.out 101).mono ?_
  rintro e w2 ⟨x, rfl, hx, ho⟩
  obtain ⟨A1, c1, rfl, -, -⟩ := id hx
  have FS := Lib.hid (show Both w2 g (.agg #[.slice A1 (r.byte 101).b.length c1, .int .i64 (r.byte 101).err]) (r.byte 101) from ⟨RD1.out.noth ho, hx, E1.out.noth ho, H.out.hi⟩)
  have RB2 := Lib.hid (RB1.out.only ho (fun h => h))
  have O2 := Lib.hid (O1.out.trans ho (fun _ h _ => h.elim))
  clear hx ho
  go_wp2_with (refine wpList_store_whole rfl rfl 40 (.tmp 6) (.tmp 60) rfl (w.heap.size + 1 + 1) rfl #[.slice A1 (r.byte 101).b.length c1, .int .i64 (r.byte 101).err] rfl 40 _ RB2.out rfl (by simp [Value.oneCell']) (by kernel_rfl) ?_; intro w3 hb3 ho3 _; obtain ⟨y0, y1⟩ := hb3.two; have F3 := Lib.hid (FS.out.at_box RB2.out ho3 (by have := GL.out; omega) HIR.out); have O3 := Lib.hid ho3; clear ho3 hb3)
  refine bodyPost_ret (v := .tuple #[.agg #[.slice A1 (r.byte 101).b.length c1, .int .i64 (r.byte 101).err], .bool true]) (by simp [results, Tryd.results24, go_sem, y0, y1]) rfl ⟨_, rfl, F3.out, ?_⟩
  exact O2.out.trans O3.out (fun j hj hl => by have : j = w.heap.size + 1 + 1 := hj; omega)
set_option maxHeartbeats 4000000 in
theorem do_more (g : Nat) (v : Value) (r : Rd) (k : Nat) (m : Int) (hk : k % 5 = 3) (hk2 : k ≤ 255) (w : World) (h : Both w g v r) :
    Calls Tryd.prog 24 #[.pointer (some ⟨g, 0, none⟩), v, .agg #[.int .u8 k, .int .i64 m]] w (DoPost g r w) := by
  have H := Lib.hid h
  obtain ⟨A, c, rfl, hp, hs⟩ := h.rv
  have GL := Lib.hid h.rd.lt
  have HIR := Lib.hid (h.env.hi (g := w.heap.size + 1 + 1) (by omega))
  have hk0 : (0 : Int) ≤ k := by omega
  have hk1 : (k : Int) ≤ 255 := by omega
  have e0 : ((k : Int) % 5 == 0) = false := by simp; omega
  have e1 : ((k : Int) % 5 == 1) = false := by simp; omega
  have e2 : ((k : Int) % 5 == 2) = false := by simp; omega
  have e3 : ((k : Int) % 5 == 3) = true := by simp; omega
  clear hp hs h
  have XB := Lib.hid (((Hld.new w 40 #[.slice A r.b.length c, .int .i64 r.err]).alloc (.cells #[.int .u8 k, .int .i64 m] 44)).alloc (.cells #[.slice none 0 0, .int .i64 0] 40))
  have AB := Lib.hid ((Hld.at' (w.alloc (.cells #[.slice A r.b.length c, .int .i64 r.err] 40)) 44 #[.int .u8 k, .int .i64 m] (w.heap.size + 1) (by simp)).alloc (.cells #[.slice none 0 0, .int .i64 0] 40))
  have RB := Lib.hid (Hld.at' ((w.alloc (.cells #[.slice A r.b.length c, .int .i64 r.err] 40)).alloc (.cells #[.int .u8 k, .int .i64 m] 44)) 40 #[.slice none 0 0, .int .i64 0] (w.heap.size + 1 + 1) (by simp))
  have ON := Lib.hid ((((Only.refl Noth w).alloc (.cells #[.slice A r.b.length c, .int .i64 r.err] 40)).alloc (.cells #[.int .u8 k, .int .i64 m] 44)).alloc (.cells #[.slice none 0 0, .int .i64 0] 40))
  go_enter Tryd.func24, Tryd.ntmps24
  go_wp2_with fail
  obtain ⟨W, hW⟩ : ∃ W, W = (((w.alloc (.cells #[.slice A r.b.length c, .int .i64 r.err] 40)).alloc (.cells #[.int .u8 k, .int .i64 m] 44)).alloc (.cells #[.slice none 0 0, .int .i64 0] 40)) := ⟨_, rfl⟩
  rw [← hW]
  have ON1 := Lib.hid (show Only (At g) w W by rw [hW]; exact Only.at_of ON.out)
  have RB2 := (show Hld W (w.heap.size + 1 + 1) 40 #[.slice none 0 0, .int .i64 0] by rw [hW]; exact RB.out)
  have XB2 := Lib.hid (show Hld W w.heap.size 40 #[.slice A r.b.length c, .int .i64 r.err] by rw [hW]; exact XB.out)
  have HH := Lib.hid (show Both W.drew g (.agg #[.slice A r.b.length c, .int .i64 r.err]) r by rw [hW]; exact (H.out.noth ON.out).noth ((Only.refl _ _).drew))
  have RB2 := RB2.drew
  clear hW
  refine wp_region_N (fun j => j = w.heap.size + 1 + 1) (by kernel_rfl) ?_
  refine wpN_take (i := 0) (d := some 51) rfl rfl (by kernel_rfl) (by kernel_rfl) (by kernel_rfl) (fun _ _ _ h => h) (sure_two (by rfl) rfl rfl XB2.out.drew (by omega)) (Only.refl _ _) ?_
  simp only [Act.put, List.setIfInBounds_toArray, List.set_cons_zero, List.set_cons_succ]
  refine wpN_take (i := 1) (d := some 52) rfl rfl (by kernel_rfl) (by kernel_rfl) (by kernel_rfl) (fun _ _ _ h => h) (sure_value (v := .pointer (some ⟨g, 0, none⟩)) (by rfl) (fun _ _ => rfl)) (Only.refl _ _) ?_
  simp only [Act.put, List.setIfInBounds_toArray, List.set_cons_zero, List.set_cons_succ]
  refine wpN_take (i := 2) (d := some 53) rfl rfl (by kernel_rfl) (by kernel_rfl) (by kernel_rfl) (fun _ _ _ h => h) (sure_call (fun w1 ho => quiet_noth (rdr_more g r _ (HH.out.at_box RB2 ho (by have := GL.out; omega) HIR.out).rd)) (by rfl) (fun _ => by go_simp)) (Only.refl _ _) ?_
  simp only [Act.put, List.setIfInBounds_toArray, List.set_cons_zero, List.set_cons_succ]
  refine wpN_take (i := 3) (d := some 54) rfl rfl (by kernel_rfl) (by kernel_rfl) (by kernel_rfl) (fun _ _ _ h => h) (sure_two (by rfl) rfl rfl XB2.out.drew (by omega)) (Only.refl _ _) ?_
  simp only [Act.put, List.setIfInBounds_toArray, List.set_cons_zero, List.set_cons_succ]
  refine wpN_take (i := 4) (d := some 55) rfl rfl (by kernel_rfl) (by kernel_rfl) (by kernel_rfl) (fun _ _ _ h => h) (sure_call (fun w1 ho => ref_more _ _ _ (HH.out.at_box RB2 ho (by have := GL.out; omega) HIR.out).rv) (by rfl) (fun _ => by go_simp)) (Only.refl _ _) ?_
  simp only [Act.put, List.setIfInBounds_toArray, List.set_cons_zero, List.set_cons_succ]
  refine wpN_take (i := 5) (d := some 56) rfl rfl (by kernel_rfl) (by kernel_rfl) (by kernel_rfl) (fun _ _ _ h => h) (sure_value (v := .bool true) (by rfl) (fun _ _ => by go_simp)) (Only.refl _ _) ?_
  simp only [Act.put, List.setIfInBounds_toArray, List.set_cons_zero, List.set_cons_succ]
  refine wpN_store (i := 6) (g := w.heap.size + 1 + 1) (cs' := #[.slice A r.b.length c, .int .i64 r.err]) (by kernel_rfl) rfl (by rfl) rfl rfl rfl rfl (RB2) (fun _ => rfl) rfl (by simp [Value.oneCell']) (by kernel_rfl) (Only.refl _ _) ?_
  intro W3 W4 ho3 P2 ho4 hS4
  have F4 := (HH.out.noth ho3).at_box (RB2.only ho3 (fun h => h)) ho4 (by have := GL.out; omega) HIR.out
  refine wpN_take (i := 7) (d := some 7) rfl rfl (by kernel_rfl) (by kernel_rfl) (by kernel_rfl) (fun _ _ _ h => h) (sure_value (v := .bool true) (by rfl) (fun _ _ => rfl)) hS4 ?_
  simp only [Act.put, List.setIfInBounds_toArray, List.set_cons_zero, List.set_cons_succ]
  refine wpN_done (by kernel_rfl) (fun W5 ho5 => ?_) _
  have HP := Lib.hid (P2.only ho5 (fun h => h))
  have FS := Lib.hid (F4.noth ho5)
  have HS := Lib.hid (only_up _ _ _ hS4 ho5)
  clear P2 ho3 ho4 ho5 hS4 F4
  obtain ⟨y0, y1⟩ := HP.out.two
  go_wp2
  refine bodyPost_ret (v := .tuple #[.agg #[.slice A r.b.length c, .int .i64 r.err], .bool true]) (by simp [results, Tryd.results24, go_sem, y0, y1]) rfl ⟨_, rfl, FS.out, ?_⟩
  exact ON1.out.trans HS.out.undrew (fun j hj hl => by omega)
end Go.Proofs.YtjdgmnaemopfdaaDoor
