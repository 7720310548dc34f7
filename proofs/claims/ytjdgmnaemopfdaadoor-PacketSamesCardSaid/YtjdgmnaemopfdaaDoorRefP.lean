/- The reference: a member, an entry, as they are laid. -/
import Derived.Test.YtjdgmnaemopfdaaDoorPkL
import Derived.Test.YtjdgmnaemopfdaaDoorPkC
import Derived.Test.YtjdgmnaemopfdaaDoorRefI
import Derived.Test.YtjdgmnaemopfdaaDoorRefM
namespace Go.Proofs.YtjdgmnaemopfdaaDoor
open Go.RowKit Go.Lib
set_option linter.unusedVariables false
set_option maxRecDepth 100000
attribute [local go_sem ↓] Go.wp_at_zero Go.wp_at_succ

theorem rint_L {n : Int} {L : List UInt8} (h : tInt n = L) (w : World) (h0 : -9223372036854775808 ≤ n) (h1 : n ≤ 9223372036854775807) : Calls Tryd.prog 13 #[.int .i64 n] w (GivenP w L) := by subst h; exact ref_int n h0 h1 w
theorem rtext_L {s : ByteArray} {L : List UInt8} (h : tText s.data.toList = L) (w : World) (hs : s.size ≤ 140737488355300) : Calls Tryd.prog 15 #[.string s] w (GivenP w L) := by subst h; exact ref_text s hs w
theorem ref_okm (m : Mem) (w : World) : Calls Tryd.prog 81 #[.agg #[.int .u16 m.node, .int .u8 m.st, .int .i64 m.inc]] w
    fun e w' => e = .returned (.bool (!m.wrong)) ∧ Only Noth w w' := by
  go_enter Tryd.func81, Tryd.ntmps81
  have ON := Lib.hid ((Only.refl Noth w).alloc (.cells #[.int .u16 m.node, .int .u8 m.st, .int .i64 m.inc] 68))
  go_wp2
  all_goals go_ret
  all_goals refine ⟨ret_bool ?_, ON.out⟩
  all_goals (unfold Mem.wrong; rw [Bool.eq_iff_iff]; simp)
  all_goals omega
set_option maxHeartbeats 2000000 in
theorem ref_member (m : Mem) (hm : m.Ok) (L : List UInt8) (hL : tMem m = L) (w : World) : Calls Tryd.prog 41 #[.agg #[.int .u16 m.node, .int .u8 m.st, .int .i64 m.inc]] w (GivenN w L) := by
  have B := Lib.hid (Hld.new w 68 #[.int .u16 m.node, .int .u8 m.st, .int .i64 m.inc])
  have ON := Lib.hid ((Only.refl Noth w).alloc (.cells #[.int .u16 m.node, .int .u8 m.st, .int .i64 m.inc] 68))
  obtain ⟨L1, hL1⟩ : ∃ L, tInt m.node = L := ⟨_, rfl⟩
  obtain ⟨L2, hL2⟩ : ∃ L, tInt m.st = L := ⟨_, rfl⟩
  obtain ⟨L3, hL3⟩ : ∃ L, tInt m.inc = L := ⟨_, rfl⟩
  have LL := Lib.hid (show tList [L1, L2, L3] = L by rw [← hL, ← hL1, ← hL2, ← hL3]; rfl)
  have l1 := tInt_le m.node (by have := hm.n0; omega) (by have := hm.n1; omega)
  rw [hL1] at l1
  have l2 := tInt_le m.st (by have := hm.s0; omega) (by have := hm.s1; omega)
  rw [hL2] at l2
  have l3 := tInt_le m.inc hm.i0 hm.i1
  rw [hL3] at l3
  have LB := Lib.hid (show [L1, L2, L3].flatten.length + 2 ≤ 140737488355328 by simp; omega)
  have H1 := Lib.hid hL1
  have H2 := Lib.hid hL2
  have H3 := Lib.hid hL3
  have HWmnode := Lib.hid (show IntKind.i64.wrap m.node = m.node from IntWalk.i64_in _ (by have := hm.n0; have := hm.n1; omega))
  have HWmst := Lib.hid (show IntKind.i64.wrap m.st = m.st from IntWalk.i64_in _ (by have := hm.s0; have := hm.s1; omega))
  clear hL hL1 hL2 hL3 l1 l2 l3
  go_enter Tryd.func41, Tryd.ntmps41
  go_wp2_with fail
  refine wp_region_N Noth (by kernel_rfl) ?_
  refine wpN_take (i := 0) (d := some 3) rfl rfl (by kernel_rfl) (by kernel_rfl) (by kernel_rfl) (fun _ _ _ h => h) (sure_value (v := .pointer (some ⟨w.heap.size, 0, none⟩)) (by rfl) (fun _ _ => by go_simp)) (Only.refl _ _) ?_
  simp only [Act.put, List.setIfInBounds_toArray, List.set_cons_zero, List.set_cons_succ]
  refine wpN_take (i := 1) (d := some 4) rfl rfl (by kernel_rfl) (by kernel_rfl) (by kernel_rfl) (fun _ _ _ h => h) (sure_lit (v := .int .u16 m.node) (i := 0) B.out.drew rfl (fun h => h) (by rfl) (fun _ h => by go_simp)) (Only.refl _ _) ?_
  simp only [Act.put, List.setIfInBounds_toArray, List.set_cons_zero, List.set_cons_succ]
  refine wpN_take (i := 2) (d := some 5) rfl rfl (by kernel_rfl) (by kernel_rfl) (by kernel_rfl) (fun _ _ _ h => h) (sure_value (v := .int .i64 m.node) (by rfl) (fun _ _ => by have hw : IntKind.i64.wrap m.node = m.node := HWmnode.out; go_simp)) (Only.refl _ _) ?_
  simp only [Act.put, List.setIfInBounds_toArray, List.set_cons_zero, List.set_cons_succ]
  refine wpN_take (i := 4) (d := some 7) rfl rfl (by kernel_rfl) (by kernel_rfl) (by kernel_rfl) (fun _ _ _ h => h) (sure_value (v := .pointer (some ⟨w.heap.size, 1, none⟩)) (by rfl) (fun _ _ => by go_simp)) (Only.refl _ _) ?_
  simp only [Act.put, List.setIfInBounds_toArray, List.set_cons_zero, List.set_cons_succ]
  refine wpN_take (i := 5) (d := some 8) rfl rfl (by kernel_rfl) (by kernel_rfl) (by kernel_rfl) (fun _ _ _ h => h) (sure_lit (v := .int .u8 m.st) (i := 1) B.out.drew rfl (fun h => h) (by rfl) (fun _ h => by go_simp)) (Only.refl _ _) ?_
  simp only [Act.put, List.setIfInBounds_toArray, List.set_cons_zero, List.set_cons_succ]
  refine wpN_take (i := 6) (d := some 9) rfl rfl (by kernel_rfl) (by kernel_rfl) (by kernel_rfl) (fun _ _ _ h => h) (sure_value (v := .int .i64 m.st) (by rfl) (fun _ _ => by have hw : IntKind.i64.wrap m.st = m.st := HWmst.out; go_simp)) (Only.refl _ _) ?_
  simp only [Act.put, List.setIfInBounds_toArray, List.set_cons_zero, List.set_cons_succ]
  refine wpN_take (i := 8) (d := some 11) rfl rfl (by kernel_rfl) (by kernel_rfl) (by kernel_rfl) (fun _ _ _ h => h) (sure_value (v := .pointer (some ⟨w.heap.size, 2, none⟩)) (by rfl) (fun _ _ => by go_simp)) (Only.refl _ _) ?_
  simp only [Act.put, List.setIfInBounds_toArray, List.set_cons_zero, List.set_cons_succ]
  refine wpN_take (i := 9) (d := some 12) rfl rfl (by kernel_rfl) (by kernel_rfl) (by kernel_rfl) (fun _ _ _ h => h) (sure_lit (v := .int .i64 m.inc) (i := 2) B.out.drew rfl (fun h => h) (by rfl) (fun _ h => by go_simp)) (Only.refl _ _) ?_
  simp only [Act.put, List.setIfInBounds_toArray, List.set_cons_zero, List.set_cons_succ]
  have ON0 := Lib.hid ON.out.drew
  have P0 := Lib.hid (Parts.nil ((w.alloc (.cells #[.int .u16 m.node, .int .u8 m.st, .int .i64 m.inc] 68)).drew))
  refine wpN_givenp (i := 3) (d := some 6) (L := L1) (fun w1 ho => rint_L H1.out _ (by have := hm.n0; omega) (by have := hm.n1; omega)) (Only.refl _ _) (by kernel_rfl) rfl rfl (by rfl) (fun _ => by go_simp) ?_
  intro A1 c1 w1 hp ho
  have P1 := Lib.hid ((P0.out.noth ho).snoc hp)
  have ON1 := Lib.hid (ON0.out.tr ho)
  clear hp ho
  simp only [Act.put, List.setIfInBounds_toArray, List.set_cons_zero, List.set_cons_succ]
  refine wpN_givenp (i := 7) (d := some 10) (L := L2) (fun w1 ho => rint_L H2.out _ (by have := hm.s0; omega) (by have := hm.s1; omega)) (Only.refl _ _) (by kernel_rfl) rfl rfl (by rfl) (fun _ => by go_simp) ?_
  intro A2 c2 w2 hp ho
  have P2 := Lib.hid ((P1.out.noth ho).snoc hp)
  have ON2 := Lib.hid (ON1.out.tr ho)
  clear hp ho
  simp only [Act.put, List.setIfInBounds_toArray, List.set_cons_zero, List.set_cons_succ]
  refine wpN_givenp (i := 10) (d := some 13) (L := L3) (fun w1 ho => rint_L H3.out _ hm.i0 hm.i1) (Only.refl _ _) (by kernel_rfl) rfl rfl (by rfl) (fun _ => by go_simp) ?_
  intro A3 c3 w3 hp ho
  have P3 := Lib.hid ((P2.out.noth ho).snoc hp)
  have ON3 := Lib.hid (ON2.out.tr ho)
  clear hp ho
  simp only [Act.put, List.setIfInBounds_toArray, List.set_cons_zero, List.set_cons_succ]
  refine wpN_build (m := 3) (i := 11) (d := some 14) (z := #[.slice A1 L1.length c1, .slice A2 L2.length c2, .slice A3 L3.length c3]) (t := 23) (by kernel_rfl) rfl rfl (by rfl) (Only.refl _ _) (fun _ => by go_simp) ?_
  intro w4 p9 ho HB hp9
  simp only [Act.put, List.setIfInBounds_toArray, List.set_cons_zero, List.set_cons_succ]
  refine wpN_rebase ho ?_
  have ON4 := Lib.hid (ON3.out.tr ho)
  have PP := Lib.hid (P3.out.noth ho)
  have HBB := Lib.hid HB
  clear ho HB
  refine wpN_givenn (i := 12) (d := some 15) (L := L) (fun w1 ho => by have := ref_list_n (some ⟨p9, 0, none⟩) 3 _ [L1, L2, L3] _ (((HBB.out.src 3 rfl).only ho (fun _ _ h => h)).mono (fun k h hl => hl)) (PP.out.noth ho) (Nat.le_refl _) (by simp) LB.out; rw [LL.out] at this; exact this) (Only.refl _ _) (by kernel_rfl) rfl rfl (by rfl) (fun _ => by go_simp) ?_
  intro A9 c9 w9 hp9 hb9 ho9
  have HP9 := Lib.hid hp9
  have HB9 := Lib.hid hb9
  have ON9 := Lib.hid (ON4.out.tr ho9)
  clear hp9 hb9 ho9
  simp only [Act.put, List.setIfInBounds_toArray, List.set_cons_zero, List.set_cons_succ]
  refine wpN_take (i := 13) (d := some 2) rfl rfl (by kernel_rfl) (by kernel_rfl) (by kernel_rfl) (fun _ _ _ h => h) (sure_value (v := .slice A9 L.length c9) (by rfl) (fun _ _ => rfl)) (Only.refl _ _) ?_
  simp only [Act.put, List.setIfInBounds_toArray, List.set_cons_zero, List.set_cons_succ]
  refine wpN_done (by kernel_rfl) (fun w10 ho => ?_) _
  go_wp2
  go_ret
  have hz := ON4.out.size
  exact ⟨A9, c9, rfl, (HP9.out.only ho (fun _ _ h => h)).mono (fun j hj _ => by unfold New at hj ⊢; omega), ON9.out.tr ho, HB9.out⟩
set_option maxHeartbeats 2000000 in
theorem ref_put (x : Ent) (h : x.Ok) (hs : x.key.size + x.val.size ≤ 140737488355000) (L : List UInt8) (hL : x.bytes = L) (w : World) : Calls Tryd.prog 40 #[.agg #[.string x.key, .int .i64 x.time, .int .u16 x.org, .string x.val, .int .i64 x.til]] w (GivenN w L) := by
  have e1 : x.key.data.toList.length = x.key.size := rfl
  have e2 : x.val.data.toList.length = x.val.size := rfl
  have k1 := itoa_len20 (x.key.data.toList.length : Int) (by omega) (by omega)
  have k2 := itoa_len20 (x.val.data.toList.length : Int) (by omega) (by omega)
  have B := Lib.hid (Hld.new w 64 #[.string x.key, .int .i64 x.time, .int .u16 x.org, .string x.val, .int .i64 x.til])
  have ON := Lib.hid ((Only.refl Noth w).alloc (.cells #[.string x.key, .int .i64 x.time, .int .u16 x.org, .string x.val, .int .i64 x.til] 64))
  obtain ⟨L1, hL1⟩ : ∃ L, tText x.key.data.toList = L := ⟨_, rfl⟩
  obtain ⟨L2, hL2⟩ : ∃ L, tInt x.time = L := ⟨_, rfl⟩
  obtain ⟨L3, hL3⟩ : ∃ L, tInt x.org = L := ⟨_, rfl⟩
  obtain ⟨L4, hL4⟩ : ∃ L, tText x.val.data.toList = L := ⟨_, rfl⟩
  obtain ⟨L5, hL5⟩ : ∃ L, tInt x.til = L := ⟨_, rfl⟩
  have LL := Lib.hid (show tList [L1, L2, L3, L4, L5] = L by rw [← hL, ← hL1, ← hL2, ← hL3, ← hL4, ← hL5]; rfl)
  have l1 := tText_length x.key.data.toList
  rw [hL1] at l1
  have l2 := tInt_le x.time h.t0 h.t1
  rw [hL2] at l2
  have l3 := tInt_le x.org (by have := h.o0; omega) (by have := h.o1; omega)
  rw [hL3] at l3
  have l4 := tText_length x.val.data.toList
  rw [hL4] at l4
  have l5 := tInt_le x.til h.u0 h.u1
  rw [hL5] at l5
  have LB := Lib.hid (show [L1, L2, L3, L4, L5].flatten.length + 2 ≤ 140737488355328 by simp; omega)
  have H1 := Lib.hid hL1
  have H2 := Lib.hid hL2
  have H3 := Lib.hid hL3
  have H4 := Lib.hid hL4
  have H5 := Lib.hid hL5
  have HWxorg := Lib.hid (show IntKind.i64.wrap x.org = x.org from IntWalk.i64_in _ (by have := h.o0; have := h.o1; omega))
  clear hL hL1 hL2 hL3 hL4 hL5 l1 l2 l3 l4 l5
  go_enter Tryd.func40, Tryd.ntmps40
  go_wp2_with fail
  refine wp_region_N Noth (by kernel_rfl) ?_
  refine wpN_take (i := 0) (d := some 3) rfl rfl (by kernel_rfl) (by kernel_rfl) (by kernel_rfl) (fun _ _ _ h => h) (sure_value (v := .pointer (some ⟨w.heap.size, 0, none⟩)) (by rfl) (fun _ _ => by go_simp)) (Only.refl _ _) ?_
  simp only [Act.put, List.setIfInBounds_toArray, List.set_cons_zero, List.set_cons_succ]
  refine wpN_take (i := 1) (d := some 4) rfl rfl (by kernel_rfl) (by kernel_rfl) (by kernel_rfl) (fun _ _ _ h => h) (sure_lit (v := .string x.key) (i := 0) B.out.drew rfl (fun h => h) (by rfl) (fun _ h => by go_simp)) (Only.refl _ _) ?_
  simp only [Act.put, List.setIfInBounds_toArray, List.set_cons_zero, List.set_cons_succ]
  refine wpN_take (i := 3) (d := some 6) rfl rfl (by kernel_rfl) (by kernel_rfl) (by kernel_rfl) (fun _ _ _ h => h) (sure_value (v := .pointer (some ⟨w.heap.size, 1, none⟩)) (by rfl) (fun _ _ => by go_simp)) (Only.refl _ _) ?_
  simp only [Act.put, List.setIfInBounds_toArray, List.set_cons_zero, List.set_cons_succ]
  refine wpN_take (i := 4) (d := some 7) rfl rfl (by kernel_rfl) (by kernel_rfl) (by kernel_rfl) (fun _ _ _ h => h) (sure_lit (v := .int .i64 x.time) (i := 1) B.out.drew rfl (fun h => h) (by rfl) (fun _ h => by go_simp)) (Only.refl _ _) ?_
  simp only [Act.put, List.setIfInBounds_toArray, List.set_cons_zero, List.set_cons_succ]
  refine wpN_take (i := 6) (d := some 9) rfl rfl (by kernel_rfl) (by kernel_rfl) (by kernel_rfl) (fun _ _ _ h => h) (sure_value (v := .pointer (some ⟨w.heap.size, 2, none⟩)) (by rfl) (fun _ _ => by go_simp)) (Only.refl _ _) ?_
  simp only [Act.put, List.setIfInBounds_toArray, List.set_cons_zero, List.set_cons_succ]
  refine wpN_take (i := 7) (d := some 10) rfl rfl (by kernel_rfl) (by kernel_rfl) (by kernel_rfl) (fun _ _ _ h => h) (sure_lit (v := .int .u16 x.org) (i := 2) B.out.drew rfl (fun h => h) (by rfl) (fun _ h => by go_simp)) (Only.refl _ _) ?_
  simp only [Act.put, List.setIfInBounds_toArray, List.set_cons_zero, List.set_cons_succ]
  refine wpN_take (i := 8) (d := some 11) rfl rfl (by kernel_rfl) (by kernel_rfl) (by kernel_rfl) (fun _ _ _ h => h) (sure_value (v := .int .i64 x.org) (by rfl) (fun _ _ => by have hw : IntKind.i64.wrap x.org = x.org := HWxorg.out; go_simp)) (Only.refl _ _) ?_
  simp only [Act.put, List.setIfInBounds_toArray, List.set_cons_zero, List.set_cons_succ]
  refine wpN_take (i := 10) (d := some 13) rfl rfl (by kernel_rfl) (by kernel_rfl) (by kernel_rfl) (fun _ _ _ h => h) (sure_value (v := .pointer (some ⟨w.heap.size, 3, none⟩)) (by rfl) (fun _ _ => by go_simp)) (Only.refl _ _) ?_
  simp only [Act.put, List.setIfInBounds_toArray, List.set_cons_zero, List.set_cons_succ]
  refine wpN_take (i := 11) (d := some 14) rfl rfl (by kernel_rfl) (by kernel_rfl) (by kernel_rfl) (fun _ _ _ h => h) (sure_lit (v := .string x.val) (i := 3) B.out.drew rfl (fun h => h) (by rfl) (fun _ h => by go_simp)) (Only.refl _ _) ?_
  simp only [Act.put, List.setIfInBounds_toArray, List.set_cons_zero, List.set_cons_succ]
  refine wpN_take (i := 13) (d := some 16) rfl rfl (by kernel_rfl) (by kernel_rfl) (by kernel_rfl) (fun _ _ _ h => h) (sure_value (v := .pointer (some ⟨w.heap.size, 4, none⟩)) (by rfl) (fun _ _ => by go_simp)) (Only.refl _ _) ?_
  simp only [Act.put, List.setIfInBounds_toArray, List.set_cons_zero, List.set_cons_succ]
  refine wpN_take (i := 14) (d := some 17) rfl rfl (by kernel_rfl) (by kernel_rfl) (by kernel_rfl) (fun _ _ _ h => h) (sure_lit (v := .int .i64 x.til) (i := 4) B.out.drew rfl (fun h => h) (by rfl) (fun _ h => by go_simp)) (Only.refl _ _) ?_
  simp only [Act.put, List.setIfInBounds_toArray, List.set_cons_zero, List.set_cons_succ]
  have ON0 := Lib.hid ON.out.drew
  have P0 := Lib.hid (Parts.nil ((w.alloc (.cells #[.string x.key, .int .i64 x.time, .int .u16 x.org, .string x.val, .int .i64 x.til] 64)).drew))
  refine wpN_givenp (i := 2) (d := some 5) (L := L1) (fun w1 ho => rtext_L H1.out _ (by omega)) (Only.refl _ _) (by kernel_rfl) rfl rfl (by rfl) (fun _ => by go_simp) ?_
  intro A1 c1 w1 hp ho
  have P1 := Lib.hid ((P0.out.noth ho).snoc hp)
  have ON1 := Lib.hid (ON0.out.tr ho)
  clear hp ho
  simp only [Act.put, List.setIfInBounds_toArray, List.set_cons_zero, List.set_cons_succ]
  refine wpN_givenp (i := 5) (d := some 8) (L := L2) (fun w1 ho => rint_L H2.out _ h.t0 h.t1) (Only.refl _ _) (by kernel_rfl) rfl rfl (by rfl) (fun _ => by go_simp) ?_
  intro A2 c2 w2 hp ho
  have P2 := Lib.hid ((P1.out.noth ho).snoc hp)
  have ON2 := Lib.hid (ON1.out.tr ho)
  clear hp ho
  simp only [Act.put, List.setIfInBounds_toArray, List.set_cons_zero, List.set_cons_succ]
  refine wpN_givenp (i := 9) (d := some 12) (L := L3) (fun w1 ho => rint_L H3.out _ (by have := h.o0; omega) (by have := h.o1; omega)) (Only.refl _ _) (by kernel_rfl) rfl rfl (by rfl) (fun _ => by go_simp) ?_
  intro A3 c3 w3 hp ho
  have P3 := Lib.hid ((P2.out.noth ho).snoc hp)
  have ON3 := Lib.hid (ON2.out.tr ho)
  clear hp ho
  simp only [Act.put, List.setIfInBounds_toArray, List.set_cons_zero, List.set_cons_succ]
  refine wpN_givenp (i := 12) (d := some 15) (L := L4) (fun w1 ho => rtext_L H4.out _ (by omega)) (Only.refl _ _) (by kernel_rfl) rfl rfl (by rfl) (fun _ => by go_simp) ?_
  intro A4 c4 w4 hp ho
  have P4 := Lib.hid ((P3.out.noth ho).snoc hp)
  have ON4 := Lib.hid (ON3.out.tr ho)
  clear hp ho
  simp only [Act.put, List.setIfInBounds_toArray, List.set_cons_zero, List.set_cons_succ]
  refine wpN_givenp (i := 15) (d := some 18) (L := L5) (fun w1 ho => rint_L H5.out _ h.u0 h.u1) (Only.refl _ _) (by kernel_rfl) rfl rfl (by rfl) (fun _ => by go_simp) ?_
  intro A5 c5 w5 hp ho
  have P5 := Lib.hid ((P4.out.noth ho).snoc hp)
  have ON5 := Lib.hid (ON4.out.tr ho)
  clear hp ho
  simp only [Act.put, List.setIfInBounds_toArray, List.set_cons_zero, List.set_cons_succ]
  refine wpN_build (m := 5) (i := 16) (d := some 19) (z := #[.slice A1 L1.length c1, .slice A2 L2.length c2, .slice A3 L3.length c3, .slice A4 L4.length c4, .slice A5 L5.length c5]) (t := 23) (by kernel_rfl) rfl rfl (by rfl) (Only.refl _ _) (fun _ => by go_simp) ?_
  intro w6 p9 ho HB hp9
  simp only [Act.put, List.setIfInBounds_toArray, List.set_cons_zero, List.set_cons_succ]
  refine wpN_rebase ho ?_
  have ON6 := Lib.hid (ON5.out.tr ho)
  have PP := Lib.hid (P5.out.noth ho)
  have HBB := Lib.hid HB
  clear ho HB
  refine wpN_givenn (i := 17) (d := some 20) (L := L) (fun w1 ho => by have := ref_list_n (some ⟨p9, 0, none⟩) 5 _ [L1, L2, L3, L4, L5] _ (((HBB.out.src 5 rfl).only ho (fun _ _ h => h)).mono (fun k h hl => hl)) (PP.out.noth ho) (Nat.le_refl _) (by simp) LB.out; rw [LL.out] at this; exact this) (Only.refl _ _) (by kernel_rfl) rfl rfl (by rfl) (fun _ => by go_simp) ?_
  intro A9 c9 w9 hp9 hb9 ho9
  have HP9 := Lib.hid hp9
  have HB9 := Lib.hid hb9
  have ON9 := Lib.hid (ON6.out.tr ho9)
  clear hp9 hb9 ho9
  simp only [Act.put, List.setIfInBounds_toArray, List.set_cons_zero, List.set_cons_succ]
  refine wpN_take (i := 18) (d := some 2) rfl rfl (by kernel_rfl) (by kernel_rfl) (by kernel_rfl) (fun _ _ _ h => h) (sure_value (v := .slice A9 L.length c9) (by rfl) (fun _ _ => rfl)) (Only.refl _ _) ?_
  simp only [Act.put, List.setIfInBounds_toArray, List.set_cons_zero, List.set_cons_succ]
  refine wpN_done (by kernel_rfl) (fun w10 ho => ?_) _
  go_wp2
  go_ret
  have hz := ON6.out.size
  exact ⟨A9, c9, rfl, (HP9.out.only ho (fun _ _ h => h)).mono (fun j hj _ => by unfold New at hj ⊢; omega), ON9.out.tr ho, HB9.out⟩
end Go.Proofs.YtjdgmnaemopfdaaDoor
