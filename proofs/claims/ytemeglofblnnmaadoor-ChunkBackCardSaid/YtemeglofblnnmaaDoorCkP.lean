/- Package chunk: a part is laid; the reference's. -/
import Derived.Test.YtemeglofblnnmaaDoorJnVZ
import Derived.Test.YtemeglofblnnmaaDoorOrdCZ
import Derived.Test.YtemeglofblnnmaaDoorRefI
namespace Go.Proofs.YtemeglofblnnmaaDoor
open Go.RowKit Go.Lib
set_option linter.unusedVariables false
set_option linter.unusedSimpArgs false
set_option maxRecDepth 100000
attribute [local go_sem ↓] Go.wp_at_zero Go.wp_at_succ

/-- A part's bytes as they are laid. -/
def ptB (p : Pt) : List UInt8 := tList [tInt p.id, tInt p.idx, tInt p.cnt, tText p.bs]
def putD (p : Pt) : List UInt8 × Int := if p.may then (ptB p, 0) else ([], 2)
/-- What Put hands back. -/
def PutAns (L : List UInt8) (er : Int) (w : World) (e : Ending) (w' : World) : Prop := ∃ A c, e = .returned (.tuple #[.slice A L.length c, .int .i64 er]) ∧ Part w' (.slice A L.length c) L ∧ Only Noth w w'
theorem BsAt.part {w : World} {S : Nat → Prop} {v : Value} {l : List UInt8} (h : BsAt w S v l) : Part w v l := by
  obtain ⟨A, c, rfl, hs, h1, h2⟩ := h
  exact ⟨A, c, rfl, hs.mono (fun _ _ h => h), h1, h2⟩
theorem Part.bs {w : World} {v : Value} {l : List UInt8} (h : Part w v l) : BsAt w (fun k => k < w.heap.size) v l := h
section
variable {P : Program} {ops : Array Oper} {Q : Exit → Act → World → Prop} {md : Region.Mode} {F : Nat → Prop} {w0 : World}
/-- A slice that is made of values, alone. -/
theorem wpN_build {i : Nat} {o : Oper} {d : Option Tmp} {n m : Nat} {listed : Array Bool} {a : Act} {w : World} {t : TypeId} {z : Array Value} (hr : Region.ready md ops listed = [i]) (hi : ops[i]? = some o) (hd : o.dst = d) (hw : Region.wanted o (yielded ops a.tmps) = true)
    (hS : Only F w0 w) (he : ∀ w1, (execOp a.eval o).run P w1 = .ok (.value (.slice (some ⟨w1.heap.size, 0, none⟩) m m)) (w1.alloc (.cells z t)))
    (h : ∀ w2 p, Only Noth w w2 → Hld w2 p t z → w.heap.size ≤ p → wpN P md ops Q F w0 n (listed.setIfInBounds i true) (a.put d (.slice (some ⟨p, 0, none⟩) m m)) w2) : wpN P md ops Q F w0 (n + 1) listed a w := by
  subst hd
  refine wpN_one hr hi hw (fun w1 h1 => ?_)
  unfold Oper.wp
  rw [he w1]
  exact ⟨only_up _ _ _ hS (h1.alloc _), h _ _ (h1.alloc _) (Hld.new w1 t z) h1.size⟩
end
theorem Hld.src {w : World} {g : Nat} {t : TypeId} {cs : Array Value} (h : Hld w g t cs) (n : Nat) (hn : cs.size = n) : Src w (fun k => k < w.heap.size) 1 (some ⟨g, 0, none⟩) n cs.toList := by
  refine ⟨by simp [hn], fun _ => ⟨_, rfl, h.lt, h.lt, fun j u hu => ?_⟩⟩
  rw [add_plain', Nat.zero_add, h.cell j]
  simpa using hu
set_option maxHeartbeats 2000000 in
theorem rmay_run (p : Pt) (A : Option Addr) (c : Nat) (hl : p.bs.length ≤ maxLen) (w : World) : Calls Tryd.prog 20 #[.agg (p.cells (.slice A p.bs.length c))] w fun e w' => e = .returned (.bool p.may) ∧ Only Noth w w' := by
  have hl2 : (p.bs.length : Int) ≤ 9223372036854775807 := by unfold maxLen at hl; omega
  have hl0 : (0 : Int) ≤ p.bs.length := by omega
  have O := Lib.hid ((Only.refl Noth w).alloc (.cells (p.cells (.slice A p.bs.length c)) 24))
  have HM := Lib.hid (show p.may = (decide (0 ≤ p.id) && decide (p.id ≤ 1099511627776) && decide (1 ≤ p.cnt) && decide (p.cnt ≤ 64) && decide (0 ≤ p.idx) && decide (p.idx < p.cnt) && decide ((p.bs.length : Int) ≤ 8192)) by
    unfold Pt.may
    congr 1
    by_cases h : p.bs.length ≤ 8192
    · have : (p.bs.length : Int) ≤ 8192 := by omega
      simp [h, this]
    · have : ¬ (p.bs.length : Int) ≤ 8192 := by omega
      simp [h, this])
  go_enter Tryd.func20, Tryd.ntmps20
  go_wp2
  all_goals go_ret
  all_goals refine ⟨ret_bool ?_, O.out⟩
  all_goals rw [HM.out]
  all_goals simp_all
  all_goals omega
set_option maxHeartbeats 8000000 in
theorem put_run (p : Pt) (S : Nat → Prop) (A : Option Addr) (c : Nat) (w : World) (ht : Tab w) (h : BsAt w S (.slice A p.bs.length c) p.bs) : Calls Tryd.prog 6 #[.agg #[.int .i64 p.id, .int .i64 p.idx, .int .i64 p.cnt, .slice A p.bs.length c]] w (PutAns (putD p).1 (putD p).2 w) := by
  have HB0 := Lib.hid h
  have T := Lib.hid ht
  have hbl : p.bs.length ≤ maxLen := by obtain ⟨_, _, _, _, h1, h2⟩ := h; omega
  have HBL := Lib.hid hbl
  clear h ht
  obtain ⟨W0, hW0⟩ : ∃ W, w.alloc (.cells #[.int .i64 p.id, .int .i64 p.idx, .int .i64 p.cnt, .slice A p.bs.length c] 29) = W := ⟨_, rfl⟩
  have BX0 := Lib.hid (show Hld W0 w.heap.size 29 #[.int .i64 p.id, .int .i64 p.idx, .int .i64 p.cnt, .slice A p.bs.length c] by rw [← hW0]; exact Hld.new w _ _)
  have O0 := Lib.hid (show Only Noth w W0 by rw [← hW0]; exact (Only.refl Noth w).alloc _)
  have m0 := BX0.out.cell 0
  have m1 := BX0.out.cell 1
  have m2 := BX0.out.cell 2
  have m3 := BX0.out.cell 3
  clear hbl
  go_enter Tryd.func6, Tryd.ntmps6
  go_wp2_with fail
  refine (may_run p A c HBL.out _).mono ?_
  rintro e w1 ⟨rfl, ho⟩
  have BX := Lib.hid (BX0.out.only ho (fun h => h))
  have O1 := Lib.hid (O0.out.tr ho)
  clear ho hW0 m0 m1 m2 m3
  obtain ⟨mb, hmb⟩ : ∃ mb, p.may = mb := ⟨_, rfl⟩
  have HM := Lib.hid hmb
  rw [hmb]
  clear hmb
  cases mb
  · have HP := Lib.hid (show putD p = ([], 2) by unfold putD; rw [HM.out]; rfl)
    go_wp2
    refine bodyPost_ret (v := .tuple #[.slice none 0 0, .int .i64 2]) (by simp [results, Tryd.results6, go_sem]) rfl ?_
    rw [HP.out]
    exact ⟨none, 0, rfl, (BsAt.nil _ (fun k => k < w1.heap.size)).part, O1.out⟩
  have hp := Pt.may_iff.1 HM.out
  obtain ⟨L1, hL1⟩ : ∃ L, tInt p.id = L := ⟨_, rfl⟩
  obtain ⟨L2, hL2⟩ : ∃ L, tInt p.idx = L := ⟨_, rfl⟩
  obtain ⟨L3, hL3⟩ : ∃ L, tInt p.cnt = L := ⟨_, rfl⟩
  obtain ⟨L4, hL4⟩ : ∃ L, tText p.bs = L := ⟨_, rfl⟩
  obtain ⟨L, hL⟩ : ∃ L, ptB p = L := ⟨_, rfl⟩
  have LL := Lib.hid (show tList [L1, L2, L3, L4] = L by rw [← hL, ← hL1, ← hL2, ← hL3, ← hL4]; rfl)
  have l1 := tInt_le p.id (by omega) (by omega)
  have l2 := tInt_le p.idx (by omega) (by omega)
  have l3 := tInt_le p.cnt (by omega) (by omega)
  have l4 := tText_length p.bs
  have k1 := itoa_len20 (p.bs.length : Int) (by omega) (by omega)
  rw [hL1] at l1
  rw [hL2] at l2
  rw [hL3] at l3
  rw [hL4] at l4
  have LB := Lib.hid (show [L1, L2, L3, L4].flatten.length + 2 ≤ 140737488355328 by simp; omega)
  have HP := Lib.hid (show putD p = (L, 0) by unfold putD; rw [HM.out, ← hL]; rfl)
  have H1 := Lib.hid hL1
  have H2 := Lib.hid hL2
  have H3 := Lib.hid hL3
  have H4 := Lib.hid hL4
  have HPP := Lib.hid hp
  clear hL hL1 hL2 hL3 hL4 l1 l2 l3 l4 k1 hp
  go_wp2_with fail
  refine wp_region_N Noth (by kernel_rfl) ?_
  refine wpN_take (i := 0) (d := some 7) rfl rfl (by kernel_rfl) (by kernel_rfl) (by kernel_rfl) (fun _ _ _ h => h) (sure_value (v := .pointer (some ⟨w.heap.size, 0, none⟩)) (by rfl) (fun v1 h1 => by first | rfl | (go_simp; done) | (go_simp; intro h9; exact absurd h9 (by omega)) | (go_simp; assumption))) (Only.refl _ _) ?_
  simp only [Act.put, List.setIfInBounds_toArray, List.set_cons_zero, List.set_cons_succ]
  refine wpN_take (i := 1) (d := some 8) rfl rfl (by kernel_rfl) (by kernel_rfl) (by kernel_rfl) (fun _ _ _ h => h) (sure_lit (v := .int .i64 p.id) (i := 0) BX.out.drew rfl (fun h => h) (by rfl) (fun _ h => by go_simp)) (Only.refl _ _) ?_
  simp only [Act.put, List.setIfInBounds_toArray, List.set_cons_zero, List.set_cons_succ]
  refine wpN_take (i := 3) (d := some 10) rfl rfl (by kernel_rfl) (by kernel_rfl) (by kernel_rfl) (fun _ _ _ h => h) (sure_value (v := .pointer (some ⟨w.heap.size, 1, none⟩)) (by rfl) (fun v1 h1 => by first | rfl | (go_simp; done) | (go_simp; intro h9; exact absurd h9 (by omega)) | (go_simp; assumption))) (Only.refl _ _) ?_
  simp only [Act.put, List.setIfInBounds_toArray, List.set_cons_zero, List.set_cons_succ]
  refine wpN_take (i := 4) (d := some 11) rfl rfl (by kernel_rfl) (by kernel_rfl) (by kernel_rfl) (fun _ _ _ h => h) (sure_lit (v := .int .i64 p.idx) (i := 1) BX.out.drew rfl (fun h => h) (by rfl) (fun _ h => by go_simp)) (Only.refl _ _) ?_
  simp only [Act.put, List.setIfInBounds_toArray, List.set_cons_zero, List.set_cons_succ]
  refine wpN_take (i := 6) (d := some 13) rfl rfl (by kernel_rfl) (by kernel_rfl) (by kernel_rfl) (fun _ _ _ h => h) (sure_value (v := .pointer (some ⟨w.heap.size, 2, none⟩)) (by rfl) (fun v1 h1 => by first | rfl | (go_simp; done) | (go_simp; intro h9; exact absurd h9 (by omega)) | (go_simp; assumption))) (Only.refl _ _) ?_
  simp only [Act.put, List.setIfInBounds_toArray, List.set_cons_zero, List.set_cons_succ]
  refine wpN_take (i := 7) (d := some 14) rfl rfl (by kernel_rfl) (by kernel_rfl) (by kernel_rfl) (fun _ _ _ h => h) (sure_lit (v := .int .i64 p.cnt) (i := 2) BX.out.drew rfl (fun h => h) (by rfl) (fun _ h => by go_simp)) (Only.refl _ _) ?_
  simp only [Act.put, List.setIfInBounds_toArray, List.set_cons_zero, List.set_cons_succ]
  refine wpN_take (i := 9) (d := some 16) rfl rfl (by kernel_rfl) (by kernel_rfl) (by kernel_rfl) (fun _ _ _ h => h) (sure_value (v := .pointer (some ⟨w.heap.size, 3, none⟩)) (by rfl) (fun v1 h1 => by first | rfl | (go_simp; done) | (go_simp; intro h9; exact absurd h9 (by omega)) | (go_simp; assumption))) (Only.refl _ _) ?_
  simp only [Act.put, List.setIfInBounds_toArray, List.set_cons_zero, List.set_cons_succ]
  refine wpN_take (i := 10) (d := some 17) rfl rfl (by kernel_rfl) (by kernel_rfl) (by kernel_rfl) (fun _ _ _ h => h) (sure_lit (v := .slice A p.bs.length c) (i := 3) BX.out.drew rfl (fun h => h) (by rfl) (fun _ h => by go_simp)) (Only.refl _ _) ?_
  simp only [Act.put, List.setIfInBounds_toArray, List.set_cons_zero, List.set_cons_succ]
  refine wpN_take (i := 11) (d := some 18) rfl rfl (by kernel_rfl) (by kernel_rfl) (by kernel_rfl) (fun _ _ _ h => h) (sure_value (v := .string ⟨p.bs.toArray⟩) (by rfl) (fun v1 h1 => by have kc := BsAt.conv (HB0.out.noth (O1.out.tr (Only.undrew h1))); go_simp)) (Only.refl _ _) ?_
  simp only [Act.put, List.setIfInBounds_toArray, List.set_cons_zero, List.set_cons_succ]
  have ON0 := Lib.hid O1.out.drew
  have P0 := Lib.hid (Parts.nil w1.drew)
  have T0 := Lib.hid (T.out.noth ON0.out)
  refine wpN_givenp (i := 2) (d := some 9) (L := L1) (fun w1 ho => given_p (by have := ben_int p.id (by have := HPP.out; omega) (by have := HPP.out; omega) _ (T0.out.noth ho); rw [show tInt _ = L1 from H1.out] at this; exact this)) (Only.refl _ _) (by kernel_rfl) rfl rfl (by rfl) (fun _ => by go_simp) ?_
  intro A1 c1 w11 hp ho
  have P1 := Lib.hid ((P0.out.noth ho).snoc hp)
  have ON1 := Lib.hid (ON0.out.tr ho)
  have T1 := Lib.hid (T0.out.noth ho)
  clear hp ho
  simp only [Act.put, List.setIfInBounds_toArray, List.set_cons_zero, List.set_cons_succ]
  refine wpN_givenp (i := 5) (d := some 12) (L := L2) (fun w1 ho => given_p (by have := ben_int p.idx (by have := HPP.out; omega) (by have := HPP.out; omega) _ (T1.out.noth ho); rw [show tInt _ = L2 from H2.out] at this; exact this)) (Only.refl _ _) (by kernel_rfl) rfl rfl (by rfl) (fun _ => by go_simp) ?_
  intro A2 c2 w12 hp ho
  have P2 := Lib.hid ((P1.out.noth ho).snoc hp)
  have ON2 := Lib.hid (ON1.out.tr ho)
  have T2 := Lib.hid (T1.out.noth ho)
  clear hp ho
  simp only [Act.put, List.setIfInBounds_toArray, List.set_cons_zero, List.set_cons_succ]
  refine wpN_givenp (i := 8) (d := some 15) (L := L3) (fun w1 ho => given_p (by have := ben_int p.cnt (by have := HPP.out; omega) (by have := HPP.out; omega) _ (T2.out.noth ho); rw [show tInt _ = L3 from H3.out] at this; exact this)) (Only.refl _ _) (by kernel_rfl) rfl rfl (by rfl) (fun _ => by go_simp) ?_
  intro A3 c3 w13 hp ho
  have P3 := Lib.hid ((P2.out.noth ho).snoc hp)
  have ON3 := Lib.hid (ON2.out.tr ho)
  have T3 := Lib.hid (T2.out.noth ho)
  clear hp ho
  simp only [Act.put, List.setIfInBounds_toArray, List.set_cons_zero, List.set_cons_succ]
  refine wpN_givenp (i := 12) (d := some 19) (L := L4) (fun w1 ho => given_p (by have := ben_text ⟨p.bs.toArray⟩ (by rw [mk_size]; have h := HPP.out.2.2.2.2.2.2; omega) _ (T3.out.noth ho); simp only [List.toList_toArray] at this; rw [H4.out] at this; exact this)) (Only.refl _ _) (by kernel_rfl) rfl rfl (by rfl) (fun _ => by go_simp) ?_
  intro A4 c4 w14 hp ho
  have P4 := Lib.hid ((P3.out.noth ho).snoc hp)
  have ON4 := Lib.hid (ON3.out.tr ho)
  have T4 := Lib.hid (T3.out.noth ho)
  clear hp ho
  simp only [Act.put, List.setIfInBounds_toArray, List.set_cons_zero, List.set_cons_succ]
  refine wpN_build (m := 4) (i := 13) (d := some 20) (z := #[.slice A1 L1.length c1, .slice A2 L2.length c2, .slice A3 L3.length c3, .slice A4 L4.length c4]) (t := 22) (by kernel_rfl) rfl rfl (by rfl) (Only.refl _ _) (fun _ => by go_simp) ?_
  intro w15 q ho HB hq
  simp only [Act.put, List.setIfInBounds_toArray, List.set_cons_zero, List.set_cons_succ]
  refine wpN_rebase ho ?_
  have ON5 := Lib.hid (ON4.out.tr ho)
  have PP := Lib.hid (P4.out.noth ho)
  have HBB := Lib.hid HB
  clear ho HB
  refine wpN_givenp (i := 14) (d := some 21) (L := L) (fun w1 ho => by have := ben_list (some ⟨q, 0, none⟩) 4 _ [L1, L2, L3, L4] _ (((HBB.out.src 4 rfl).only ho (fun _ _ h => h)).mono (fun k h hl => hl)) (PP.out.noth ho) (Nat.le_refl _) (by simp) LB.out; rw [LL.out] at this; exact given_p this) (Only.refl _ _) (by kernel_rfl) rfl rfl (by rfl) (fun _ => by go_simp) ?_
  intro A9 c9 w19 hp9 ho9
  have HP9 := Lib.hid hp9
  have ON9 := Lib.hid (ON5.out.tr ho9)
  clear hp9 ho9
  simp only [Act.put, List.setIfInBounds_toArray, List.set_cons_zero, List.set_cons_succ]
  refine wpN_take (i := 15) (d := some 2) rfl rfl (by kernel_rfl) (by kernel_rfl) (by kernel_rfl) (fun _ _ _ h => h) (sure_value (v := .slice A9 L.length c9) (by rfl) (fun v1 h1 => by first | rfl | (go_simp; done) | (go_simp; intro h9; exact absurd h9 (by omega)) | (go_simp; assumption))) (Only.refl _ _) ?_
  simp only [Act.put, List.setIfInBounds_toArray, List.set_cons_zero, List.set_cons_succ]
  refine wpN_take (i := 16) (d := some 3) rfl rfl (by kernel_rfl) (by kernel_rfl) (by kernel_rfl) (fun _ _ _ h => h) (sure_value (v := .int .i64 0) (by rfl) (fun v1 h1 => by first | rfl | (go_simp; done) | (go_simp; intro h9; exact absurd h9 (by omega)) | (go_simp; assumption))) (Only.refl _ _) ?_
  simp only [Act.put, List.setIfInBounds_toArray, List.set_cons_zero, List.set_cons_succ]
  refine wpN_done (by kernel_rfl) (fun w20 ho => ?_) _
  go_wp2
  refine bodyPost_ret (v := .tuple #[.slice A9 L.length c9, .int .i64 0]) (by simp [results, Tryd.results6, go_sem]) rfl ?_
  rw [HP.out]
  exact ⟨A9, c9, rfl, HP9.out.noth ho, ON9.out.tr ho⟩
set_option maxHeartbeats 8000000 in
theorem rput_run (p : Pt) (S : Nat → Prop) (A : Option Addr) (c : Nat) (w : World) (h : BsAt w S (.slice A p.bs.length c) p.bs) : Calls Tryd.prog 7 #[.agg #[.int .i64 p.id, .int .i64 p.idx, .int .i64 p.cnt, .slice A p.bs.length c]] w (PutAns (putD p).1 (putD p).2 w) := by
  have HB0 := Lib.hid h
  have hbl : p.bs.length ≤ maxLen := by obtain ⟨_, _, _, _, h1, h2⟩ := h; omega
  have HBL := Lib.hid hbl
  clear h
  obtain ⟨W0, hW0⟩ : ∃ W, w.alloc (.cells #[.int .i64 p.id, .int .i64 p.idx, .int .i64 p.cnt, .slice A p.bs.length c] 24) = W := ⟨_, rfl⟩
  have BX0 := Lib.hid (show Hld W0 w.heap.size 24 #[.int .i64 p.id, .int .i64 p.idx, .int .i64 p.cnt, .slice A p.bs.length c] by rw [← hW0]; exact Hld.new w _ _)
  have O0 := Lib.hid (show Only Noth w W0 by rw [← hW0]; exact (Only.refl Noth w).alloc _)
  have m0 := BX0.out.cell 0
  have m1 := BX0.out.cell 1
  have m2 := BX0.out.cell 2
  have m3 := BX0.out.cell 3
  clear hbl
  go_enter Tryd.func7, Tryd.ntmps7
  go_wp2_with fail
  refine (rmay_run p A c HBL.out _).mono ?_
  rintro e w1 ⟨rfl, ho⟩
  have BX := Lib.hid (BX0.out.only ho (fun h => h))
  have O1 := Lib.hid (O0.out.tr ho)
  clear ho hW0 m0 m1 m2 m3
  obtain ⟨mb, hmb⟩ : ∃ mb, p.may = mb := ⟨_, rfl⟩
  have HM := Lib.hid hmb
  rw [hmb]
  clear hmb
  cases mb
  · have HP := Lib.hid (show putD p = ([], 2) by unfold putD; rw [HM.out]; rfl)
    go_wp2
    refine bodyPost_ret (v := .tuple #[.slice none 0 0, .int .i64 2]) (by simp [results, Tryd.results7, go_sem]) rfl ?_
    rw [HP.out]
    exact ⟨none, 0, rfl, (BsAt.nil _ (fun k => k < w1.heap.size)).part, O1.out⟩
  have hp := Pt.may_iff.1 HM.out
  obtain ⟨L1, hL1⟩ : ∃ L, tInt p.id = L := ⟨_, rfl⟩
  obtain ⟨L2, hL2⟩ : ∃ L, tInt p.idx = L := ⟨_, rfl⟩
  obtain ⟨L3, hL3⟩ : ∃ L, tInt p.cnt = L := ⟨_, rfl⟩
  obtain ⟨L4, hL4⟩ : ∃ L, tText p.bs = L := ⟨_, rfl⟩
  obtain ⟨L, hL⟩ : ∃ L, ptB p = L := ⟨_, rfl⟩
  have LL := Lib.hid (show tList [L1, L2, L3, L4] = L by rw [← hL, ← hL1, ← hL2, ← hL3, ← hL4]; rfl)
  have l1 := tInt_le p.id (by omega) (by omega)
  have l2 := tInt_le p.idx (by omega) (by omega)
  have l3 := tInt_le p.cnt (by omega) (by omega)
  have l4 := tText_length p.bs
  have k1 := itoa_len20 (p.bs.length : Int) (by omega) (by omega)
  rw [hL1] at l1
  rw [hL2] at l2
  rw [hL3] at l3
  rw [hL4] at l4
  have LB := Lib.hid (show [L1, L2, L3, L4].flatten.length + 2 ≤ 140737488355328 by simp; omega)
  have HP := Lib.hid (show putD p = (L, 0) by unfold putD; rw [HM.out, ← hL]; rfl)
  have H1 := Lib.hid hL1
  have H2 := Lib.hid hL2
  have H3 := Lib.hid hL3
  have H4 := Lib.hid hL4
  have HPP := Lib.hid hp
  clear hL hL1 hL2 hL3 hL4 l1 l2 l3 l4 k1 hp
  go_wp2_with fail
  refine wp_region_N Noth (by kernel_rfl) ?_
  refine wpN_take (i := 0) (d := some 7) rfl rfl (by kernel_rfl) (by kernel_rfl) (by kernel_rfl) (fun _ _ _ h => h) (sure_value (v := .pointer (some ⟨w.heap.size, 0, none⟩)) (by rfl) (fun v1 h1 => by first | rfl | (go_simp; done) | (go_simp; intro h9; exact absurd h9 (by omega)) | (go_simp; assumption))) (Only.refl _ _) ?_
  simp only [Act.put, List.setIfInBounds_toArray, List.set_cons_zero, List.set_cons_succ]
  refine wpN_take (i := 1) (d := some 8) rfl rfl (by kernel_rfl) (by kernel_rfl) (by kernel_rfl) (fun _ _ _ h => h) (sure_lit (v := .int .i64 p.id) (i := 0) BX.out.drew rfl (fun h => h) (by rfl) (fun _ h => by go_simp)) (Only.refl _ _) ?_
  simp only [Act.put, List.setIfInBounds_toArray, List.set_cons_zero, List.set_cons_succ]
  refine wpN_take (i := 3) (d := some 10) rfl rfl (by kernel_rfl) (by kernel_rfl) (by kernel_rfl) (fun _ _ _ h => h) (sure_value (v := .pointer (some ⟨w.heap.size, 1, none⟩)) (by rfl) (fun v1 h1 => by first | rfl | (go_simp; done) | (go_simp; intro h9; exact absurd h9 (by omega)) | (go_simp; assumption))) (Only.refl _ _) ?_
  simp only [Act.put, List.setIfInBounds_toArray, List.set_cons_zero, List.set_cons_succ]
  refine wpN_take (i := 4) (d := some 11) rfl rfl (by kernel_rfl) (by kernel_rfl) (by kernel_rfl) (fun _ _ _ h => h) (sure_lit (v := .int .i64 p.idx) (i := 1) BX.out.drew rfl (fun h => h) (by rfl) (fun _ h => by go_simp)) (Only.refl _ _) ?_
  simp only [Act.put, List.setIfInBounds_toArray, List.set_cons_zero, List.set_cons_succ]
  refine wpN_take (i := 6) (d := some 13) rfl rfl (by kernel_rfl) (by kernel_rfl) (by kernel_rfl) (fun _ _ _ h => h) (sure_value (v := .pointer (some ⟨w.heap.size, 2, none⟩)) (by rfl) (fun v1 h1 => by first | rfl | (go_simp; done) | (go_simp; intro h9; exact absurd h9 (by omega)) | (go_simp; assumption))) (Only.refl _ _) ?_
  simp only [Act.put, List.setIfInBounds_toArray, List.set_cons_zero, List.set_cons_succ]
  refine wpN_take (i := 7) (d := some 14) rfl rfl (by kernel_rfl) (by kernel_rfl) (by kernel_rfl) (fun _ _ _ h => h) (sure_lit (v := .int .i64 p.cnt) (i := 2) BX.out.drew rfl (fun h => h) (by rfl) (fun _ h => by go_simp)) (Only.refl _ _) ?_
  simp only [Act.put, List.setIfInBounds_toArray, List.set_cons_zero, List.set_cons_succ]
  refine wpN_take (i := 9) (d := some 16) rfl rfl (by kernel_rfl) (by kernel_rfl) (by kernel_rfl) (fun _ _ _ h => h) (sure_value (v := .pointer (some ⟨w.heap.size, 3, none⟩)) (by rfl) (fun v1 h1 => by first | rfl | (go_simp; done) | (go_simp; intro h9; exact absurd h9 (by omega)) | (go_simp; assumption))) (Only.refl _ _) ?_
  simp only [Act.put, List.setIfInBounds_toArray, List.set_cons_zero, List.set_cons_succ]
  refine wpN_take (i := 10) (d := some 17) rfl rfl (by kernel_rfl) (by kernel_rfl) (by kernel_rfl) (fun _ _ _ h => h) (sure_lit (v := .slice A p.bs.length c) (i := 3) BX.out.drew rfl (fun h => h) (by rfl) (fun _ h => by go_simp)) (Only.refl _ _) ?_
  simp only [Act.put, List.setIfInBounds_toArray, List.set_cons_zero, List.set_cons_succ]
  refine wpN_take (i := 11) (d := some 18) rfl rfl (by kernel_rfl) (by kernel_rfl) (by kernel_rfl) (fun _ _ _ h => h) (sure_value (v := .string ⟨p.bs.toArray⟩) (by rfl) (fun v1 h1 => by have kc := BsAt.conv (HB0.out.noth (O1.out.tr (Only.undrew h1))); go_simp)) (Only.refl _ _) ?_
  simp only [Act.put, List.setIfInBounds_toArray, List.set_cons_zero, List.set_cons_succ]
  have ON0 := Lib.hid O1.out.drew
  have P0 := Lib.hid (Parts.nil w1.drew)
  refine wpN_givenp (i := 2) (d := some 9) (L := L1) (fun w1 ho => by have := ref_int p.id (by have := HPP.out; omega) (by have := HPP.out; omega) w1; rw [show tInt _ = L1 from H1.out] at this; exact this) (Only.refl _ _) (by kernel_rfl) rfl rfl (by rfl) (fun _ => by go_simp) ?_
  intro A1 c1 w11 hp ho
  have P1 := Lib.hid ((P0.out.noth ho).snoc hp)
  have ON1 := Lib.hid (ON0.out.tr ho)
  clear hp ho
  simp only [Act.put, List.setIfInBounds_toArray, List.set_cons_zero, List.set_cons_succ]
  refine wpN_givenp (i := 5) (d := some 12) (L := L2) (fun w1 ho => by have := ref_int p.idx (by have := HPP.out; omega) (by have := HPP.out; omega) w1; rw [show tInt _ = L2 from H2.out] at this; exact this) (Only.refl _ _) (by kernel_rfl) rfl rfl (by rfl) (fun _ => by go_simp) ?_
  intro A2 c2 w12 hp ho
  have P2 := Lib.hid ((P1.out.noth ho).snoc hp)
  have ON2 := Lib.hid (ON1.out.tr ho)
  clear hp ho
  simp only [Act.put, List.setIfInBounds_toArray, List.set_cons_zero, List.set_cons_succ]
  refine wpN_givenp (i := 8) (d := some 15) (L := L3) (fun w1 ho => by have := ref_int p.cnt (by have := HPP.out; omega) (by have := HPP.out; omega) w1; rw [show tInt _ = L3 from H3.out] at this; exact this) (Only.refl _ _) (by kernel_rfl) rfl rfl (by rfl) (fun _ => by go_simp) ?_
  intro A3 c3 w13 hp ho
  have P3 := Lib.hid ((P2.out.noth ho).snoc hp)
  have ON3 := Lib.hid (ON2.out.tr ho)
  clear hp ho
  simp only [Act.put, List.setIfInBounds_toArray, List.set_cons_zero, List.set_cons_succ]
  refine wpN_givenp (i := 12) (d := some 19) (L := L4) (fun w1 ho => by have := ref_text ⟨p.bs.toArray⟩ (by rw [mk_size]; have h := HPP.out.2.2.2.2.2.2; omega) w1; simp only [List.toList_toArray] at this; rw [H4.out] at this; exact this) (Only.refl _ _) (by kernel_rfl) rfl rfl (by rfl) (fun _ => by go_simp) ?_
  intro A4 c4 w14 hp ho
  have P4 := Lib.hid ((P3.out.noth ho).snoc hp)
  have ON4 := Lib.hid (ON3.out.tr ho)
  clear hp ho
  simp only [Act.put, List.setIfInBounds_toArray, List.set_cons_zero, List.set_cons_succ]
  refine wpN_build (m := 4) (i := 13) (d := some 20) (z := #[.slice A1 L1.length c1, .slice A2 L2.length c2, .slice A3 L3.length c3, .slice A4 L4.length c4]) (t := 22) (by kernel_rfl) rfl rfl (by rfl) (Only.refl _ _) (fun _ => by go_simp) ?_
  intro w15 q ho HB hq
  simp only [Act.put, List.setIfInBounds_toArray, List.set_cons_zero, List.set_cons_succ]
  refine wpN_rebase ho ?_
  have ON5 := Lib.hid (ON4.out.tr ho)
  have PP := Lib.hid (P4.out.noth ho)
  have HBB := Lib.hid HB
  clear ho HB
  refine wpN_givenp (i := 14) (d := some 21) (L := L) (fun w1 ho => by have := ref_list (some ⟨q, 0, none⟩) 4 _ [L1, L2, L3, L4] _ (((HBB.out.src 4 rfl).only ho (fun _ _ h => h)).mono (fun k h hl => hl)) (PP.out.noth ho) (Nat.le_refl _) (by simp) LB.out; rw [LL.out] at this; exact this) (Only.refl _ _) (by kernel_rfl) rfl rfl (by rfl) (fun _ => by go_simp) ?_
  intro A9 c9 w19 hp9 ho9
  have HP9 := Lib.hid hp9
  have ON9 := Lib.hid (ON5.out.tr ho9)
  clear hp9 ho9
  simp only [Act.put, List.setIfInBounds_toArray, List.set_cons_zero, List.set_cons_succ]
  refine wpN_take (i := 15) (d := some 2) rfl rfl (by kernel_rfl) (by kernel_rfl) (by kernel_rfl) (fun _ _ _ h => h) (sure_value (v := .slice A9 L.length c9) (by rfl) (fun v1 h1 => by first | rfl | (go_simp; done) | (go_simp; intro h9; exact absurd h9 (by omega)) | (go_simp; assumption))) (Only.refl _ _) ?_
  simp only [Act.put, List.setIfInBounds_toArray, List.set_cons_zero, List.set_cons_succ]
  refine wpN_take (i := 16) (d := some 3) rfl rfl (by kernel_rfl) (by kernel_rfl) (by kernel_rfl) (fun _ _ _ h => h) (sure_value (v := .int .i64 0) (by rfl) (fun v1 h1 => by first | rfl | (go_simp; done) | (go_simp; intro h9; exact absurd h9 (by omega)) | (go_simp; assumption))) (Only.refl _ _) ?_
  simp only [Act.put, List.setIfInBounds_toArray, List.set_cons_zero, List.set_cons_succ]
  refine wpN_done (by kernel_rfl) (fun w20 ho => ?_) _
  go_wp2
  refine bodyPost_ret (v := .tuple #[.slice A9 L.length c9, .int .i64 0]) (by simp [results, Tryd.results7, go_sem]) rfl ?_
  rw [HP.out]
  exact ⟨A9, c9, rfl, HP9.out.noth ho, ON9.out.tr ho⟩
end Go.Proofs.YtemeglofblnnmaaDoor
