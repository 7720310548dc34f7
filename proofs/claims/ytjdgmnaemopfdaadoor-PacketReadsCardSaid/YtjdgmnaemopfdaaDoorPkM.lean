/- Package packet: numbers, members, lists, the whole laid. -/
import Derived.Test.YtjdgmnaemopfdaaDoorPk
namespace Go.Proofs.YtjdgmnaemopfdaaDoor
open Go.RowKit Go.Lib
set_option linter.unusedVariables false
set_option maxRecDepth 100000
attribute [local go_sem ↓] Go.wp_at_zero Go.wp_at_succ

theorem num_u8 (n : Int) (h0 : 0 ≤ n) (h1 : n ≤ 255) (L : List UInt8) (hL : tInt n = L) (w : World) (ht : Tab w) : Calls Tryd.prog 78 #[.int .u8 n] w (GivenP w L) := by
  have hw : IntKind.i64.wrap n = n := IntWalk.i64_in _ (by omega)
  go_enter Tryd.func78, Tryd.ntmps78
  go_wp2_with fail
  refine (ben_int_v n (by omega) (by omega) L hL _ ht).mono ?_
  rintro e w1 hg
  obtain ⟨A, c, rfl, hp, ho⟩ := hg.part
  go_wp2
  go_ret
  exact ⟨A, c, rfl, hp, ho⟩
theorem num_u16 (n : Int) (h0 : 0 ≤ n) (h1 : n ≤ 65535) (L : List UInt8) (hL : tInt n = L) (w : World) (ht : Tab w) : Calls Tryd.prog 65 #[.int .u16 n] w (GivenP w L) := by
  have hw : IntKind.i64.wrap n = n := IntWalk.i64_in _ (by omega)
  go_enter Tryd.func65, Tryd.ntmps65
  go_wp2_with fail
  refine (ben_int_v n (by omega) (by omega) L hL _ ht).mono ?_
  rintro e w1 hg
  obtain ⟨A, c, rfl, hp, ho⟩ := hg.part
  go_wp2
  go_ret
  exact ⟨A, c, rfl, hp, ho⟩
theorem num_st (n : Int) (h0 : 0 ≤ n) (h1 : n ≤ 255) (L : List UInt8) (hL : tInt n = L) (w : World) (ht : Tab w) : Calls Tryd.prog 66 #[.int .u8 n] w (GivenP w L) := by
  have hw : IntKind.i64.wrap n = n := IntWalk.i64_in _ (by omega)
  go_enter Tryd.func66, Tryd.ntmps66
  go_wp2_with fail
  refine (ben_int_v n (by omega) (by omega) L hL _ ht).mono ?_
  rintro e w1 hg
  obtain ⟨A, c, rfl, hp, ho⟩ := hg.part
  go_wp2
  go_ret
  exact ⟨A, c, rfl, hp, ho⟩
theorem num_int (n : Int) (h0 : -9223372036854775808 ≤ n) (h1 : n ≤ 9223372036854775807) (L : List UInt8) (hL : tInt n = L) (w : World) (ht : Tab w) : Calls Tryd.prog 67 #[.int .i64 n] w (GivenP w L) := by
  have hw : IntKind.i64.wrap n = n := IntWalk.i64_in _ (by omega)
  go_enter Tryd.func67, Tryd.ntmps67
  go_wp2_with fail
  refine (ben_int_v n (by omega) (by omega) L hL _ ht).mono ?_
  rintro e w1 hg
  obtain ⟨A, c, rfl, hp, ho⟩ := hg.part
  go_wp2
  go_ret
  exact ⟨A, c, rfl, hp, ho⟩
theorem sure_lit {ops : Array Oper} {o : Oper} {a : Act} {F : Nat → Prop} {w0 : World} {v : Value} {g i : Nat} {cs : Array Value} {t : TypeId} (h : Hld w0 g t cs) (hi : cs[i]? = some v) (hF : ¬ F g) (hw : Region.wanted o (yielded ops a.tmps) = true)
    (he : ∀ w, w.cell? ⟨g, i, none⟩ = some v → (execOp a.eval o).run Tryd.prog w = .ok (.value v) w) : Sure Tryd.prog ops (Only Noth) (Only F w0) o v a :=
  sure_value hw (fun w1 k1 => he w1 (((h.only k1 hF).cell i).trans hi))
set_option maxHeartbeats 2000000 in
theorem pk_member (m : Mem) (hm : m.Ok) (L : List UInt8) (hL : tMem m = L) (w : World) (ht : Tab w) : Calls Tryd.prog 38 #[.agg #[.int .u16 m.node, .int .u8 m.st, .int .i64 m.inc]] w (GivenP w L) := by
  have T := Lib.hid (ht.alloc (.cells #[.int .u16 m.node, .int .u8 m.st, .int .i64 m.inc] 68))
  have B := Lib.hid (Hld.new w 68 #[.int .u16 m.node, .int .u8 m.st, .int .i64 m.inc])
  have ON := Lib.hid ((Only.refl Noth w).alloc (.cells #[.int .u16 m.node, .int .u8 m.st, .int .i64 m.inc] 68))
  obtain ⟨L1, hL1⟩ : ∃ L, tInt m.node = L := ⟨_, rfl⟩
  obtain ⟨L2, hL2⟩ : ∃ L, tInt m.st = L := ⟨_, rfl⟩
  obtain ⟨L3, hL3⟩ : ∃ L, tInt m.inc = L := ⟨_, rfl⟩
  have LL := Lib.hid (show tList [L1, L2, L3] = L by rw [← hL, ← hL1, ← hL2, ← hL3]; rfl)
  have l1 := tInt_le m.node (by have := hm.n0; omega) (by have := hm.n1; omega)
  have l2 := tInt_le m.st (by have := hm.s0; omega) (by have := hm.s1; omega)
  have l3 := tInt_le m.inc hm.i0 hm.i1
  rw [hL1] at l1
  rw [hL2] at l2
  rw [hL3] at l3
  have LB := Lib.hid (show [L1, L2, L3].flatten.length + 2 ≤ 140737488355328 by simp; omega)
  have H1 := Lib.hid hL1
  have H2 := Lib.hid hL2
  have H3 := Lib.hid hL3
  clear ht hL hL1 hL2 hL3 l1 l2 l3
  go_enter Tryd.func38, Tryd.ntmps38
  go_wp2_with fail
  refine wp_region_N Noth (by kernel_rfl) ?_
  refine wpN_take (i := 0) (d := some 3) rfl rfl (by kernel_rfl) (by kernel_rfl) (by kernel_rfl) (fun _ _ _ h => h) (sure_value (v := .pointer (some ⟨w.heap.size, 0, none⟩)) (by rfl) (fun _ _ => by go_simp)) (Only.refl _ _) ?_
  simp only [Act.put, List.setIfInBounds_toArray, List.set_cons_zero, List.set_cons_succ]
  refine wpN_take (i := 1) (d := some 4) rfl rfl (by kernel_rfl) (by kernel_rfl) (by kernel_rfl) (fun _ _ _ h => h) (sure_lit (v := .int .u16 m.node) (i := 0) B.out.drew rfl (fun h => h) (by rfl) (fun _ h => by go_simp)) (Only.refl _ _) ?_
  simp only [Act.put, List.setIfInBounds_toArray, List.set_cons_zero, List.set_cons_succ]
  refine wpN_take (i := 3) (d := some 6) rfl rfl (by kernel_rfl) (by kernel_rfl) (by kernel_rfl) (fun _ _ _ h => h) (sure_value (v := .pointer (some ⟨w.heap.size, 1, none⟩)) (by rfl) (fun _ _ => by go_simp)) (Only.refl _ _) ?_
  simp only [Act.put, List.setIfInBounds_toArray, List.set_cons_zero, List.set_cons_succ]
  refine wpN_take (i := 4) (d := some 7) rfl rfl (by kernel_rfl) (by kernel_rfl) (by kernel_rfl) (fun _ _ _ h => h) (sure_lit (v := .int .u8 m.st) (i := 1) B.out.drew rfl (fun h => h) (by rfl) (fun _ h => by go_simp)) (Only.refl _ _) ?_
  simp only [Act.put, List.setIfInBounds_toArray, List.set_cons_zero, List.set_cons_succ]
  refine wpN_take (i := 6) (d := some 9) rfl rfl (by kernel_rfl) (by kernel_rfl) (by kernel_rfl) (fun _ _ _ h => h) (sure_value (v := .pointer (some ⟨w.heap.size, 2, none⟩)) (by rfl) (fun _ _ => by go_simp)) (Only.refl _ _) ?_
  simp only [Act.put, List.setIfInBounds_toArray, List.set_cons_zero, List.set_cons_succ]
  refine wpN_take (i := 7) (d := some 10) rfl rfl (by kernel_rfl) (by kernel_rfl) (by kernel_rfl) (fun _ _ _ h => h) (sure_lit (v := .int .i64 m.inc) (i := 2) B.out.drew rfl (fun h => h) (by rfl) (fun _ h => by go_simp)) (Only.refl _ _) ?_
  simp only [Act.put, List.setIfInBounds_toArray, List.set_cons_zero, List.set_cons_succ]
  have ON0 := Lib.hid ON.out.drew
  have P0 := Lib.hid (Parts.nil ((w.alloc (.cells #[.int .u16 m.node, .int .u8 m.st, .int .i64 m.inc] 68)).drew))
  refine wpN_givenp (i := 2) (d := some 5) (L := L1) (fun w1 ho => num_u16 m.node hm.n0 hm.n1 L1 H1.out _ (T.out.noth (Only.undrew ho))) (Only.refl _ _) (by kernel_rfl) rfl rfl (by rfl) (fun _ => by go_simp) ?_
  intro A1 c1 w1 hp ho
  have P1 := Lib.hid ((P0.out.noth ho).snoc hp)
  have ON1 := Lib.hid (ON0.out.tr ho)
  have T := Lib.hid (T.out.noth (Only.undrew ho))
  clear hp ho
  simp only [Act.put, List.setIfInBounds_toArray, List.set_cons_zero, List.set_cons_succ]
  refine wpN_givenp (i := 5) (d := some 8) (L := L2) (fun w1 ho => num_st m.st hm.s0 hm.s1 L2 H2.out _ (T.out.noth ho)) (Only.refl _ _) (by kernel_rfl) rfl rfl (by rfl) (fun _ => by go_simp) ?_
  intro A2 c2 w2 hp ho
  have P2 := Lib.hid ((P1.out.noth ho).snoc hp)
  have ON2 := Lib.hid (ON1.out.tr ho)
  have T := Lib.hid (T.out.noth ho)
  clear hp ho
  simp only [Act.put, List.setIfInBounds_toArray, List.set_cons_zero, List.set_cons_succ]
  refine wpN_givenp (i := 8) (d := some 11) (L := L3) (fun w1 ho => num_int m.inc hm.i0 hm.i1 L3 H3.out _ (T.out.noth ho)) (Only.refl _ _) (by kernel_rfl) rfl rfl (by rfl) (fun _ => by go_simp) ?_
  intro A3 c3 w3 hp ho
  have P3 := Lib.hid ((P2.out.noth ho).snoc hp)
  have ON3 := Lib.hid (ON2.out.tr ho)
  have T := Lib.hid (T.out.noth ho)
  clear hp ho
  simp only [Act.put, List.setIfInBounds_toArray, List.set_cons_zero, List.set_cons_succ]
  refine wpN_build (m := 3) (i := 9) (d := some 12) (z := #[.slice A1 L1.length c1, .slice A2 L2.length c2, .slice A3 L3.length c3]) (t := 23) (by kernel_rfl) rfl rfl (by rfl) (Only.refl _ _) (fun _ => by go_simp) ?_
  intro w4 p ho HB hp
  simp only [Act.put, List.setIfInBounds_toArray, List.set_cons_zero, List.set_cons_succ]
  refine wpN_rebase ho ?_
  have ON4 := Lib.hid (ON3.out.tr ho)
  have PP := Lib.hid (P3.out.noth ho)
  have HBB := Lib.hid HB
  clear ho HB
  refine wpN_givenp (i := 10) (d := some 13) (L := L) (fun w1 ho => by have := ben_list (some ⟨p, 0, none⟩) 3 _ [L1, L2, L3] _ (((HBB.out.src 3 rfl).only ho (fun _ _ h => h)).mono (fun k h hl => hl)) (PP.out.noth ho) (Nat.le_refl _) (by simp) LB.out; rw [LL.out] at this; exact given_p this) (Only.refl _ _) (by kernel_rfl) rfl rfl (by rfl) (fun _ => by go_simp) ?_
  intro A9 c9 w9 hp9 ho9
  have HP9 := Lib.hid hp9
  have ON9 := Lib.hid (ON4.out.tr ho9)
  clear hp9 ho9
  simp only [Act.put, List.setIfInBounds_toArray, List.set_cons_zero, List.set_cons_succ]
  refine wpN_take (i := 11) (d := some 2) rfl rfl (by kernel_rfl) (by kernel_rfl) (by kernel_rfl) (fun _ _ _ h => h) (sure_value (v := .slice A9 L.length c9) (by rfl) (fun _ _ => rfl)) (Only.refl _ _) ?_
  simp only [Act.put, List.setIfInBounds_toArray, List.set_cons_zero, List.set_cons_succ]
  refine wpN_done (by kernel_rfl) (fun w10 ho => ?_) _
  go_wp2
  go_ret
  exact ⟨A9, c9, rfl, HP9.out.noth ho, ON9.out.tr ho⟩
end Go.Proofs.YtjdgmnaemopfdaaDoor
