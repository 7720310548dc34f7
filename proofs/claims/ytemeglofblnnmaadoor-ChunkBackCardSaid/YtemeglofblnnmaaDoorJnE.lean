/- A text takes a part. -/
import Derived.Test.YtemeglofblnnmaaDoorJnD
namespace Go.Proofs.YtemeglofblnnmaaDoor
open Go.RowKit Go.Lib
set_option linter.unusedVariables false
set_option linter.unusedSimpArgs false
set_option maxRecDepth 100000
attribute [local go_sem ↓] Go.wp_at_zero Go.wp_at_succ

theorem clone_call {v : Value} {S : Nat → Prop} {l : List UInt8} {w1 : World} (hz : l.length ≤ 1000000) (h : BsAt w1 S v l) : Calls Tryd.prog 35 #[v] w1 fun e w' => ∃ u, e = .returned u ∧ BsAt w' (New w1) u l ∧ Only Noth w1 w' := by
  obtain ⟨A, c, rfl, h1⟩ := id h
  refine (clone_bytes A c S l hz w1 h).mono ?_
  rintro e w' ⟨⟨u, rfl, hu⟩, ho⟩
  exact ⟨u, rfl, hu, ho⟩
/-- What add leaves in the text's cells. -/
def AddLeft (w : World) (S : Nat → Prop) (g i : Nat) (cur : Array Value) (t : Tx) (w' : World) : Prop := ∃ cur' cs', Hld w' g 79 cur' ∧ cur'.size = cur.size ∧ (∀ x, x < i * 132 ∨ i * 132 + 132 ≤ x → cur'[x]? = cur[x]?) ∧ (∀ j u, cs'[j]? = some u → cur'[i * 132 + j]? = some u) ∧ TxIs w' (fun b => S b ∨ New w b) cs' t
theorem set_at {cur : Array Value} {off x : Nat} {v u : Value} (h : cur[x]? = some u) : (cur.setIfInBounds off v)[x]? = some (if x = off then v else u) := by
  have hx : x < cur.size := (Array.getElem?_eq_some_iff.1 h).1
  rw [Array.getElem?_setIfInBounds]
  by_cases e : off = x
  · subst e
    simp [hx]
  · rw [if_neg e, if_neg (fun e2 => e e2.symm)]
    exact h
theorem lset_at {cs : List Value} {off x : Nat} {v u : Value} (h : (cs.set off v)[x]? = some u) : ∃ u0, cs[x]? = some u0 ∧ u = if x = off then v else u0 := by
  by_cases e : off = x
  · subst e
    have hl : off < cs.length := by have := (List.getElem?_eq_some_iff.1 h).1; simpa using this
    rw [List.getElem?_set_self hl] at h
    injection h with h
    exact ⟨cs[off], List.getElem?_eq_getElem hl, by rw [if_pos rfl, h]⟩
  · rw [List.getElem?_set_ne e] at h
    exact ⟨u, h, by rw [if_neg (fun e2 => e e2.symm)]⟩
set_option maxHeartbeats 8000000 in
theorem text_add (g i k : Nat) (id cnt : Int) (bs : List UInt8) (v : Value) (cur : Array Value) (cs : List Value) (t : Tx) (S Sv : Nat → Prop) (w : World) (hg : Hld w g 79 cur) (hcs : ∀ j u, cs[j]? = some u → cur[i * 132 + j]? = some u) (ht : TxIs w S cs t) (hS : ∀ b, S b → b ≠ g)
    (hk : k < t.pcs.length) (h64 : t.pcs.length ≤ 64) (hl : 1 ≤ t.left) (hv : BsAt w Sv v bs) (hSv : ∀ b, Sv b → b ≠ g) (hb : bs.length ≤ 8192) :
    Calls Tryd.prog 38 #[.pointer (some ⟨g, i * 132, none⟩), .agg #[.int .i64 id, .int .i64 (k : Int), .int .i64 cnt, v]] w fun e w' => e = .returned (.bool (decide (((t.put k bs).left : Int) = 0))) ∧ AddLeft w S g i cur (t.put k bs) w' ∧ Only (fun b => b = g) w w' := by
  have hle := Tx.left_le t
  have a1 := (Only.refl Noth w).alloc (.cells #[.int .i64 id, .int .i64 (k : Int), .int .i64 cnt, v] 29)
  have PB := Lib.hid (Hld.new w 29 #[.int .i64 id, .int .i64 (k : Int), .int .i64 cnt, v])
  have HG := Lib.hid (hg.only a1 (fun h => h))
  have TX := Lib.hid (ht.only a1 (fun _ _ h => h))
  have HV := Lib.hid (hv.noth a1)
  have HCS := Lib.hid hcs
  have NS := Lib.hid hS
  have NV := Lib.hid hSv
  have O := Lib.hid a1
  have HGL := Lib.hid hg.lt
  have NE := Lib.hid (show w.heap.size ≠ g from fun e => by have := hg.lt; omega)
  have hk0 : (0 : Int) ≤ k := by omega
  have hk1 : (k : Int) < 64 := by omega
  obtain ⟨has, hhas⟩ : ∃ has, t.has k = has := ⟨_, rfl⟩
  have HH := Lib.hid hhas
  have C4 := Lib.hid (hcs _ _ (show cs[4 + k]? = some (.bool has) by rw [← hhas]; exact ht.came k (by omega)))
  have C3 := Lib.hid (hcs _ _ ht.c3)
  obtain ⟨v68, hv68, _⟩ := ht.part k (by omega)
  have C68 := Lib.hid (hcs _ _ hv68)
  rw [← Nat.add_assoc] at C4 C68
  clear hg ht hv hcs hS hSv a1 hhas hv68
  go_enter Tryd.func38, Tryd.ntmps38
  go_wp2_with fail
  refine wp_region_N Noth (by kernel_rfl) ?_
  refine wpN_take (i := 0) (d := some 5) rfl rfl (by kernel_rfl) (by kernel_rfl) (by kernel_rfl) (fun _ _ _ h => h) (sure_value (v := .pointer (some ⟨g, i * 132, none⟩)) (by rfl) (fun v1 h1 => by first | rfl | (go_simp; done) | (go_simp; intro h9; exact absurd h9 (by omega)) | (go_simp; assumption))) (Only.refl _ _) ?_
  simp only [Act.put, List.setIfInBounds_toArray, List.set_cons_zero, List.set_cons_succ]
  refine wpN_take (i := 1) (d := some 6) rfl rfl (by kernel_rfl) (by kernel_rfl) (by kernel_rfl) (fun _ _ _ h => h) (sure_value (v := .pointer (some ⟨w.heap.size, 1, none⟩)) (by rfl) (fun v1 h1 => by first | rfl | (go_simp; done) | (go_simp; intro h9; exact absurd h9 (by omega)) | (go_simp; assumption))) (Only.refl _ _) ?_
  simp only [Act.put, List.setIfInBounds_toArray, List.set_cons_zero, List.set_cons_succ]
  refine wpN_take (i := 2) (d := some 7) rfl rfl (by kernel_rfl) (by kernel_rfl) (by kernel_rfl) (fun _ _ _ h => h) (sure_lit (v := .int .i64 (k : Int)) (i := 1) PB.out.drew rfl (fun h => h) (by rfl) (fun _ h => by go_simp)) (Only.refl _ _) ?_
  simp only [Act.put, List.setIfInBounds_toArray, List.set_cons_zero, List.set_cons_succ]
  refine wpN_take (i := 3) (d := some 8) rfl rfl (by kernel_rfl) (by kernel_rfl) (by kernel_rfl) (fun _ _ _ h => h) (sure_value (v := .pointer (some ⟨g, i * 132, none⟩)) (by rfl) (fun v1 h1 => by first | rfl | (go_simp; done) | (go_simp; intro h9; exact absurd h9 (by omega)) | (go_simp; assumption))) (Only.refl _ _) ?_
  simp only [Act.put, List.setIfInBounds_toArray, List.set_cons_zero, List.set_cons_succ]
  refine wpN_take (i := 4) (d := some 9) rfl rfl (by kernel_rfl) (by kernel_rfl) (by kernel_rfl) (fun _ _ _ h => h) (sure_value (v := .pointer (some ⟨g, i * 132 + 4, none⟩)) (by rfl) (fun v1 h1 => by first | rfl | (go_simp; done) | (go_simp; intro h9; exact absurd h9 (by omega)) | (go_simp; assumption))) (Only.refl _ _) ?_
  simp only [Act.put, List.setIfInBounds_toArray, List.set_cons_zero, List.set_cons_succ]
  refine wpN_take (i := 5) (d := some 10) rfl rfl (by kernel_rfl) (by kernel_rfl) (by kernel_rfl) (fun _ _ _ h => h) (sure_value (v := .pointer (some ⟨g, i * 132 + 4 + k, none⟩)) (by rfl) (fun v1 h1 => by first | rfl | (go_simp; done) | (go_simp; intro h9; exact absurd h9 (by omega)) | (go_simp; assumption))) (Only.refl _ _) ?_
  simp only [Act.put, List.setIfInBounds_toArray, List.set_cons_zero, List.set_cons_succ]
  refine wpN_take (i := 6) (d := some 11) rfl rfl (by kernel_rfl) (by kernel_rfl) (by kernel_rfl) (fun _ _ _ h => h) (sure_lit (v := .bool has) (i := i * 132 + 4 + k) HG.out.drew C4.out (fun h => h) (by rfl) (fun _ h => by go_simp)) (Only.refl _ _) ?_
  simp only [Act.put, List.setIfInBounds_toArray, List.set_cons_zero, List.set_cons_succ]
  refine wpN_take (i := 7) (d := some 12) rfl rfl (by kernel_rfl) (by kernel_rfl) (by kernel_rfl) (fun _ _ _ h => h) (sure_value (v := .bool (!has)) (by rfl) (fun v1 h1 => by first | rfl | (go_simp; done) | (go_simp; intro h9; exact absurd h9 (by omega)) | (go_simp; assumption))) (Only.refl _ _) ?_
  simp only [Act.put, List.setIfInBounds_toArray, List.set_cons_zero, List.set_cons_succ]
  refine wpN_done (by kernel_rfl) (fun w1 ho => ?_) _
  replace ho := Only.undrew ho
  replace PB := Lib.hid (PB.out.only ho (fun h => h))
  replace HG := Lib.hid (HG.out.only ho (fun h => h))
  replace TX := Lib.hid (TX.out.only ho (fun _ _ h => h))
  replace HV := Lib.hid (HV.out.noth ho)
  replace O := Lib.hid (O.out.tr ho)
  clear ho
  cases has
  · go_wp2_with fail
    refine wp_region_N (fun b => b = g) (by kernel_rfl) ?_
    refine wpN_take (i := 0) (d := some 13) rfl rfl (by kernel_rfl) (by kernel_rfl) (by kernel_rfl) (fun _ _ _ h => h) (sure_value (v := .pointer (some ⟨g, i * 132, none⟩)) (by rfl) (fun v1 h1 => by first | rfl | (go_simp; done) | (go_simp; intro h9; exact absurd h9 (by omega)) | (go_simp; assumption))) (Only.refl _ _) ?_
    simp only [Act.put, List.setIfInBounds_toArray, List.set_cons_zero, List.set_cons_succ]
    refine wpN_take (i := 1) (d := some 14) rfl rfl (by kernel_rfl) (by kernel_rfl) (by kernel_rfl) (fun _ _ _ h => h) (sure_value (v := .pointer (some ⟨w.heap.size, 1, none⟩)) (by rfl) (fun v1 h1 => by first | rfl | (go_simp; done) | (go_simp; intro h9; exact absurd h9 (by omega)) | (go_simp; assumption))) (Only.refl _ _) ?_
    simp only [Act.put, List.setIfInBounds_toArray, List.set_cons_zero, List.set_cons_succ]
    refine wpN_take (i := 2) (d := some 15) rfl rfl (by kernel_rfl) (by kernel_rfl) (by kernel_rfl) (fun _ _ _ h => h) (sure_lit (v := .int .i64 (k : Int)) (i := 1) PB.out.drew rfl (fun h => NE.out h) (by rfl) (fun _ h => by go_simp)) (Only.refl _ _) ?_
    simp only [Act.put, List.setIfInBounds_toArray, List.set_cons_zero, List.set_cons_succ]
    refine wpN_take (i := 3) (d := some 16) rfl rfl (by kernel_rfl) (by kernel_rfl) (by kernel_rfl) (fun _ _ _ h => h) (sure_value (v := .pointer (some ⟨g, i * 132, none⟩)) (by rfl) (fun v1 h1 => by first | rfl | (go_simp; done) | (go_simp; intro h9; exact absurd h9 (by omega)) | (go_simp; assumption))) (Only.refl _ _) ?_
    simp only [Act.put, List.setIfInBounds_toArray, List.set_cons_zero, List.set_cons_succ]
    refine wpN_take (i := 4) (d := some 17) rfl rfl (by kernel_rfl) (by kernel_rfl) (by kernel_rfl) (fun _ _ _ h => h) (sure_value (v := .pointer (some ⟨g, i * 132 + 4, none⟩)) (by rfl) (fun v1 h1 => by first | rfl | (go_simp; done) | (go_simp; intro h9; exact absurd h9 (by omega)) | (go_simp; assumption))) (Only.refl _ _) ?_
    simp only [Act.put, List.setIfInBounds_toArray, List.set_cons_zero, List.set_cons_succ]
    refine wpN_take (i := 5) (d := some 18) rfl rfl (by kernel_rfl) (by kernel_rfl) (by kernel_rfl) (fun _ _ _ h => h) (sure_value (v := .pointer (some ⟨g, i * 132 + 4 + k, none⟩)) (by rfl) (fun v1 h1 => by first | rfl | (go_simp; done) | (go_simp; intro h9; exact absurd h9 (by omega)) | (go_simp; assumption))) (Only.refl _ _) ?_
    simp only [Act.put, List.setIfInBounds_toArray, List.set_cons_zero, List.set_cons_succ]
    refine wpN_cell (i := 6) (off := i * 132 + 4 + k) (g := g) (v := .bool true) (by kernel_rfl) rfl (by rfl) rfl rfl rfl rfl HG.out.drew C4.out (fun w1 h1 h2 => by go_simp) (Only.refl _ _) (fun _ => rfl) ?_
    intro w2 w3 ho2 hg3 ho3 hS3
    refine wpN_done (by kernel_rfl) (fun w4 ho4 => ?_) _
    have hW := Only.undrew (only_up _ _ _ hS3 ho4)
    obtain ⟨cur1, hcur1⟩ : ∃ cur1, cur.setIfInBounds (i * 132 + 4 + k) (.bool true) = cur1 := ⟨_, rfl⟩
    rw [hcur1] at hg3
    replace HG := Lib.hid (hg3.only ho4 (fun h => h))
    replace PB := Lib.hid (PB.out.only hW NE.out)
    replace TX := Lib.hid (TX.out.only hW NS.out)
    replace HV := Lib.hid (HV.out.only hW NV.out)
    have O1 := Lib.hid (show Only (fun b => b = g) w w4 from (O.out.mono (fun j hj _ => hj.elim)).trans hW (fun j hj _ => hj))
    have D68 := Lib.hid (show cur1[i * 132 + 68 + k]? = some v68 by rw [← hcur1, set_at C68.out, if_neg (by omega)])
    have D3 := Lib.hid (show cur1[i * 132 + 3]? = some (.int .i64 t.left) by rw [← hcur1, set_at C3.out, if_neg (by omega)])
    have HC1 := Lib.hid hcur1
    clear ho2 hg3 ho3 hS3 ho4 hW hcur1
    go_wp2_with fail
    refine wp_region_N (fun b => b = g) (by kernel_rfl) ?_
    refine wpN_take (i := 0) (d := some 19) rfl rfl (by kernel_rfl) (by kernel_rfl) (by kernel_rfl) (fun _ _ _ h => h) (sure_value (v := .pointer (some ⟨g, i * 132, none⟩)) (by rfl) (fun v1 h1 => by first | rfl | (go_simp; done) | (go_simp; intro h9; exact absurd h9 (by omega)) | (go_simp; assumption))) (Only.refl _ _) ?_
    simp only [Act.put, List.setIfInBounds_toArray, List.set_cons_zero, List.set_cons_succ]
    refine wpN_take (i := 1) (d := some 20) rfl rfl (by kernel_rfl) (by kernel_rfl) (by kernel_rfl) (fun _ _ _ h => h) (sure_value (v := .pointer (some ⟨w.heap.size, 1, none⟩)) (by rfl) (fun v1 h1 => by first | rfl | (go_simp; done) | (go_simp; intro h9; exact absurd h9 (by omega)) | (go_simp; assumption))) (Only.refl _ _) ?_
    simp only [Act.put, List.setIfInBounds_toArray, List.set_cons_zero, List.set_cons_succ]
    refine wpN_take (i := 2) (d := some 21) rfl rfl (by kernel_rfl) (by kernel_rfl) (by kernel_rfl) (fun _ _ _ h => h) (sure_lit (v := .int .i64 (k : Int)) (i := 1) PB.out.drew rfl (fun h => NE.out h) (by rfl) (fun _ h => by go_simp)) (Only.refl _ _) ?_
    simp only [Act.put, List.setIfInBounds_toArray, List.set_cons_zero, List.set_cons_succ]
    refine wpN_take (i := 3) (d := some 22) rfl rfl (by kernel_rfl) (by kernel_rfl) (by kernel_rfl) (fun _ _ _ h => h) (sure_value (v := .pointer (some ⟨w.heap.size, 3, none⟩)) (by rfl) (fun v1 h1 => by first | rfl | (go_simp; done) | (go_simp; intro h9; exact absurd h9 (by omega)) | (go_simp; assumption))) (Only.refl _ _) ?_
    simp only [Act.put, List.setIfInBounds_toArray, List.set_cons_zero, List.set_cons_succ]
    refine wpN_take (i := 4) (d := some 23) rfl rfl (by kernel_rfl) (by kernel_rfl) (by kernel_rfl) (fun _ _ _ h => h) (sure_lit (v := v) (i := 3) PB.out.drew rfl (fun h => NE.out h) (by rfl) (fun _ h => by go_simp)) (Only.refl _ _) ?_
    simp only [Act.put, List.setIfInBounds_toArray, List.set_cons_zero, List.set_cons_succ]
    refine wpN_take (i := 6) (d := some 25) rfl rfl (by kernel_rfl) (by kernel_rfl) (by kernel_rfl) (fun _ _ _ h => h) (sure_value (v := .pointer (some ⟨g, i * 132, none⟩)) (by rfl) (fun v1 h1 => by first | rfl | (go_simp; done) | (go_simp; intro h9; exact absurd h9 (by omega)) | (go_simp; assumption))) (Only.refl _ _) ?_
    simp only [Act.put, List.setIfInBounds_toArray, List.set_cons_zero, List.set_cons_succ]
    refine wpN_take (i := 7) (d := some 26) rfl rfl (by kernel_rfl) (by kernel_rfl) (by kernel_rfl) (fun _ _ _ h => h) (sure_value (v := .pointer (some ⟨g, i * 132 + 68, none⟩)) (by rfl) (fun v1 h1 => by first | rfl | (go_simp; done) | (go_simp; intro h9; exact absurd h9 (by omega)) | (go_simp; assumption))) (Only.refl _ _) ?_
    simp only [Act.put, List.setIfInBounds_toArray, List.set_cons_zero, List.set_cons_succ]
    refine wpN_call (i := 5) (d := some 24) (T := fun u w1 w' => BsAt w' (New w4) u bs ∧ Only Noth w1 w') (fun w1 h1 => (clone_call (by omega) (HV.out.noth (Only.undrew h1))).mono (fun r w' h => by obtain ⟨u, e1, e2, e3⟩ := h; exact ⟨u, e1, ⟨e2.mono (fun j hj _ => Nat.le_trans (Only.undrew h1).size hj), e3⟩, (h1.tr e3).mono (fun j hj _ => hj.elim)⟩)) (by kernel_rfl) rfl rfl (by rfl) (fun _ => by go_simp) ?_
    rintro v' w5 w6 h5 ⟨hv', hcall⟩ h6
    have hv2 := hv'
    obtain ⟨A', c', rfl, -⟩ := hv2
    simp only [Act.put, List.setIfInBounds_toArray, List.set_cons_zero, List.set_cons_succ]
    refine wpN_take (i := 8) (d := some 27) rfl rfl (by kernel_rfl) (by kernel_rfl) (by kernel_rfl) (fun _ _ _ h => h) (sure_value (v := .pointer (some ⟨g, i * 132 + 68 + k, none⟩)) (by rfl) (fun v1 h1 => by first | rfl | (go_simp; done) | (go_simp; intro h9; exact absurd h9 (by omega)) | (go_simp; assumption))) h6 ?_
    simp only [Act.put, List.setIfInBounds_toArray, List.set_cons_zero, List.set_cons_succ]
    have hW6 : Only Noth w4 w6 := Only.undrew (h5.tr hcall)
    refine wpN_cell (i := 9) (off := i * 132 + 68 + k) (g := g) (v := .slice A' bs.length c') (by kernel_rfl) rfl (by rfl) rfl rfl rfl rfl (HG.out.only hW6 (fun h => h)) D68.out (fun w1 h1 h2 => by go_simp) h6 (fun _ => rfl) ?_
    intro w7 w8 ho7 hg8 ho8 hS8
    refine wpN_done (by kernel_rfl) (fun w9 ho9 => ?_) _
    have hW := Only.undrew (only_up _ _ _ hS8 ho9)
    obtain ⟨cur2, hcur2⟩ : ∃ cur2, cur1.setIfInBounds (i * 132 + 68 + k) (.slice A' bs.length c') = cur2 := ⟨_, rfl⟩
    rw [hcur2] at hg8
    replace HG := Lib.hid (hg8.only ho9 (fun h => h))
    replace TX := Lib.hid (TX.out.only hW NS.out)
    have hz4 := O1.out.size
    have hg4 := (HG.out).lt
    have HB := Lib.hid (show BsAt w9 (fun b => New w b ∧ b ≠ g) (.slice A' bs.length c') bs from by
      have e1 : BsAt w6 (fun b => New w b ∧ b ≠ g) (.slice A' bs.length c') bs := hv'.mono (fun j hj _ => ⟨Nat.le_trans hz4 hj, fun e => by have hj : w4.heap.size ≤ j := hj; have := PB.out.lt; have := HGL.out; omega⟩)
      exact ((e1.noth ho7).only ho8 (fun b hb e => hb.2 e)).noth ho9)
    replace O1 := Lib.hid (O1.out.trans hW (fun j hj _ => hj))
    have E3 := Lib.hid (show cur2[i * 132 + 3]? = some (.int .i64 t.left) by rw [← hcur2, set_at D3.out, if_neg (by omega)])
    have HC2 := Lib.hid hcur2
    clear h5 hv' hcall h6 hW6 ho7 hg8 ho8 hS8 ho9 hW hcur2 PB
    have q3 : w9.cell? ⟨g, i * 132 + 3, none⟩ = some (.int .i64 t.left) := (HG.out.cell _).trans E3.out
    have f3 := HG.out.free (i * 132 + 3)
    have hlb : (t.left : Int) ≤ 64 := by omega
    have hlb2 : (1 : Int) ≤ t.left := by omega
    have hput := Tx.put_left (b := bs) hk
    rw [HH.out] at hput
    simp only [Bool.false_eq_true, if_false] at hput
    have HP := Lib.hid (show (((t.put k bs).left : Nat) : Int) = (t.left : Int) - 1 by omega)
    go_wp2
    go_ret
    refine ⟨?_, ⟨cur2.setIfInBounds (i * 132 + 3) (.int .i64 ((t.left : Int) - 1)), ((cs.set (4 + k) (.bool true)).set (68 + k) (.slice A' bs.length c')).set 3 (.int .i64 ((t.left : Int) - 1)), HG.out.set_ _ _, ?_, fun x hx => ?_, fun j u hj => ?_, ?_⟩, O1.out.setCell (fun _ => rfl) _⟩
    · rw [HP.out]
      first | rfl | simp
    · rw [← HC2.out, ← HC1.out]
      simp
    · rw [Array.getElem?_setIfInBounds, if_neg (by omega), ← HC2.out, Array.getElem?_setIfInBounds, if_neg (by omega), ← HC1.out, Array.getElem?_setIfInBounds, if_neg (by omega)]
    · have hj132 : j < 132 := by
        have := (List.getElem?_eq_some_iff.1 hj).1
        simpa [TX.out.len] using this
      obtain ⟨u1, h1, rfl⟩ := lset_at hj
      obtain ⟨u2, h2, rfl⟩ := lset_at h1
      obtain ⟨u3, h3, rfl⟩ := lset_at h2
      have h4 := HCS.out j u3 h3
      rw [set_at (u := if j = 68 + k then .slice A' bs.length c' else if j = 4 + k then .bool true else u3)]
      · congr 1
        by_cases e : j = 3
        · rw [if_pos (by omega), if_pos e]
        · rw [if_neg (by omega), if_neg e]
      · rw [← HC2.out, set_at (u := if j = 4 + k then .bool true else u3)]
        · congr 1
          by_cases e : j = 68 + k
          · rw [if_pos (by omega), if_pos e]
          · rw [if_neg (by omega), if_neg e]
        · rw [← HC1.out, set_at h4]
          congr 1
          by_cases e : j = 4 + k
          · rw [if_pos (by omega), if_pos e]
          · rw [if_neg (by omega), if_neg e]
    · have h1 := (TX.out.mono (T := fun b => (S b ∨ New w b) ∧ b ≠ g) (fun b hb _ => ⟨.inl hb, NS.out b hb⟩)).put hk h64 HH.out (HB.out.mono (fun b hb _ => ⟨.inr hb.1, hb.2⟩))
      exact (h1.only (((Only.refl (fun b => b = g) w9).setCell (p := ⟨g, i * 132 + 3, none⟩) (fun _ => rfl) _)) (fun b hb e => hb.2 e)).mono (fun b hb _ => hb.1)
  · have q3 : w1.cell? ⟨g, i * 132 + 3, none⟩ = some (.int .i64 t.left) := (HG.out.cell _).trans C3.out
    have HP := Lib.hid (Tx.put_has (b := bs) HH.out)
    go_wp2
    go_ret
    rw [HP.out]
    exact ⟨by first | rfl | simp, ⟨cur, cs, HG.out, rfl, fun _ _ => rfl, HCS.out, TX.out.mono (fun b hb _ => .inl hb)⟩, O.out.mono (fun j hj _ => hj.elim)⟩
end Go.Proofs.YtemeglofblnnmaaDoor
