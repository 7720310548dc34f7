/- The rule wpN: a load and a call, in either order. -/
import Derived.Test.YtjdgmnaemopfdaaDoorOrdC
import Derived.Test.YtjdgmnaemopfdaaDoorPkL
namespace Go.Proofs.YtjdgmnaemopfdaaDoor
open Go.RowKit Go.Lib
set_option linter.unusedVariables false
section
variable {P : Program} {ops : Array Oper} {Q : Exit → Act → World → Prop} {md : Region.Mode} {F G : Nat → Prop} {w0 : World}
/-- A load (its value stands, whether or not the call has been) and a call: one goal. -/
theorem wpN_lc {i j : Nat} {o o' : Oper} {d d' : Option Tmp} {n : Nat} {listed : Array Bool} {a : Act} {w : World} {v : Value} {f : FuncId} {args : Array Value} {T : Value → World → World → Prop}
    (hr : Region.ready md ops listed = [i, j]) (hri : Region.ready md ops (listed.setIfInBounds i true) = [j]) (hrj : Region.ready md ops (listed.setIfInBounds j true) = [i])
    (hi : ops[i]? = some o) (hj : ops[j]? = some o') (hdd : o.dst = d) (hdd' : o'.dst = d') (hg : o.guard = none) (hg' : o'.guard = none) (hd : ∀ e, d = some e → d' ≠ some e) (hij : i ≠ j)
    (hS : Only F w0 w) (he : ∀ w1, Only G w w1 → (execOp a.eval o).run P w1 = .ok (.value v) w1) (he2 : ∀ u w1, Only G w w1 → (execOp (a.put d' u).eval o).run P w1 = .ok (.value v) w1)
    (hc1 : ∀ w1, (execOp a.eval o').run P w1 = .ok (.enter f args) w1) (hc2 : ∀ w1, (execOp (a.put d v).eval o').run P w1 = .ok (.enter f args) w1)
    (hc : ∀ w1, Only Noth w w1 → Calls P f args w1 (fun e w' => ∃ u, e = .returned u ∧ T u w1 w' ∧ Only F w0 w' ∧ Only G w w'))
    (h : ∀ u w1 w2 w3, Only Noth w w1 → T u w1 w2 → Only Noth w2 w3 → Only F w0 w3 →
      wpN P md ops Q F w0 n ((listed.setIfInBounds i true).setIfInBounds j true) ((a.put d v).put d' u) w3) : wpN P md ops Q F w0 (n + 2) listed a w := by
  subst hdd hdd'
  have hw : ∀ b : Act, Region.wanted o (yielded ops b.tmps) = true := fun b => by simp [Region.wanted, hg]
  have hw' : ∀ b : Act, Region.wanted o' (yielded ops b.tmps) = true := fun b => by simp [Region.wanted, hg']
  refine wpN_two hr hi (hw a) hj (hw' a) (fun w1 h1 => ?_) (fun w1 h1 => ?_)
  · unfold Oper.wp
    rw [he w1 (h1.mono (fun _ h _ => h.elim))]
    refine ⟨only_up w0 _ _ hS h1, wpN_one hri hj (hw' _) (fun w2 h2 => ?_)⟩
    unfold Oper.wp
    rw [hc2 w2]
    refine (hc w2 (h1.tr h2)).mono ?_
    rintro e w' ⟨u, rfl, ht, ho, hG⟩
    exact ⟨ho, h u w2 w' w' (h1.tr h2) ht (Only.refl _ _) ho⟩
  · unfold Oper.wp
    rw [hc1 w1]
    refine (hc w1 h1).mono ?_
    rintro e w' ⟨u, rfl, ht, ho, hG⟩
    refine ⟨ho, wpN_one hrj hi (hw _) (fun w2 h2 => ?_)⟩
    unfold Oper.wp
    rw [he2 u w2 (hG.trans h2 (fun _ h _ => h.elim))]
    refine ⟨only_up w0 _ _ ho h2, ?_⟩
    have := h u w1 w' w2 h1 ht h2 (only_up w0 _ _ ho h2)
    rw [Array.setIfInBounds_comm _ _ hij, Act.put_comm _ _ _ hd] at this
    exact this
/-- A load, a call whose answer is known (but that turns blocks of G), a slice made of that answer: one goal. -/
theorem wpN_lcb {i j k : Nat} {o o' o'' : Oper} {d d' d'' : Option Tmp} {n m : Nat} {listed : Array Bool} {a : Act} {w : World} {v u : Value} {f : FuncId} {args : Array Value} {T : World → World → Prop} {t : TypeId} {z : Array Value}
    (hr : Region.ready md ops listed = [i, j]) (hri : Region.ready md ops (listed.setIfInBounds i true) = [j]) (hrj : Region.ready md ops (listed.setIfInBounds j true) = [i, k])
    (hrij : Region.ready md ops ((listed.setIfInBounds i true).setIfInBounds j true) = [k]) (hrjk : Region.ready md ops ((listed.setIfInBounds j true).setIfInBounds k true) = [i])
    (hi : ops[i]? = some o) (hj : ops[j]? = some o') (hk : ops[k]? = some o'') (hdd : o.dst = d) (hdd' : o'.dst = d') (hdd'' : o''.dst = d'') (hg : o.guard = none) (hg' : o'.guard = none) (hg'' : o''.guard = none)
    (hd : ∀ e, d = some e → d' ≠ some e) (hd2 : ∀ e, d = some e → d'' ≠ some e) (hij : i ≠ j) (hik : i ≠ k)
    (hS : Only F w0 w) (he : ∀ w1, Only G w w1 → (execOp a.eval o).run P w1 = .ok (.value v) w1) (he2 : ∀ w1, Only G w w1 → (execOp (a.put d' u).eval o).run P w1 = .ok (.value v) w1)
    (he3 : ∀ q w1, Only G w w1 → (execOp ((a.put d' u).put d'' q).eval o).run P w1 = .ok (.value v) w1)
    (hc1 : ∀ w1, (execOp a.eval o').run P w1 = .ok (.enter f args) w1) (hc2 : ∀ w1, (execOp (a.put d v).eval o').run P w1 = .ok (.enter f args) w1)
    (hc : ∀ w1, Only Noth w w1 → Calls P f args w1 (fun e w' => e = .returned u ∧ T w1 w' ∧ Only F w0 w' ∧ Only G w w'))
    (hb1 : ∀ w1, (execOp (a.put d' u).eval o'').run P w1 = .ok (.value (.slice (some ⟨w1.heap.size, 0, none⟩) m m)) (w1.alloc (.cells z t)))
    (hb2 : ∀ w1, (execOp ((a.put d v).put d' u).eval o'').run P w1 = .ok (.value (.slice (some ⟨w1.heap.size, 0, none⟩) m m)) (w1.alloc (.cells z t)))
    (h : ∀ w1 w2 w3 p, Only Noth w w1 → T w1 w2 → Only Noth w2 w3 → Hld w3 p t z → Only F w0 w3 →
      wpN P md ops Q F w0 n (((listed.setIfInBounds i true).setIfInBounds j true).setIfInBounds k true) (((a.put d v).put d' u).put d'' (.slice (some ⟨p, 0, none⟩) m m)) w3) : wpN P md ops Q F w0 (n + 3) listed a w := by
  subst hdd hdd' hdd''
  have hw : ∀ b : Act, Region.wanted o (yielded ops b.tmps) = true := fun b => by simp [Region.wanted, hg]
  have hw' : ∀ b : Act, Region.wanted o' (yielded ops b.tmps) = true := fun b => by simp [Region.wanted, hg']
  have hw'' : ∀ b : Act, Region.wanted o'' (yielded ops b.tmps) = true := fun b => by simp [Region.wanted, hg'']
  have hrij2 : Region.ready md ops ((listed.setIfInBounds j true).setIfInBounds i true) = [k] := by rw [← Array.setIfInBounds_comm _ _ hij]; exact hrij
  refine wpN_two hr hi (hw a) hj (hw' a) (fun w1 h1 => ?_) (fun w1 h1 => ?_)
  · unfold Oper.wp
    rw [he w1 (h1.mono (fun _ h _ => h.elim))]
    refine ⟨only_up w0 _ _ hS h1, wpN_one hri hj (hw' _) (fun w2 h2 => ?_)⟩
    unfold Oper.wp
    rw [hc2 w2]
    refine (hc w2 (h1.tr h2)).mono ?_
    rintro e w' ⟨rfl, ht, ho, hG⟩
    refine ⟨ho, wpN_one hrij hk (hw'' _) (fun w3 h3 => ?_)⟩
    unfold Oper.wp
    rw [hb2 w3]
    have h4 := h3.alloc (.cells z t)
    exact ⟨only_up w0 _ _ ho h4, h w2 w' _ _ (h1.tr h2) ht h4 (Hld.new w3 t z) (only_up w0 _ _ ho h4)⟩
  · unfold Oper.wp
    rw [hc1 w1]
    refine (hc w1 h1).mono ?_
    rintro e w' ⟨rfl, ht, ho, hG⟩
    refine ⟨ho, wpN_two hrj hi (hw _) hk (hw'' _) (fun w2 h2 => ?_) (fun w2 h2 => ?_)⟩
    · unfold Oper.wp
      rw [he2 w2 (hG.trans h2 (fun _ h _ => h.elim))]
      refine ⟨only_up w0 _ _ ho h2, wpN_one hrij2 hk (hw'' _) (fun w3 h3 => ?_)⟩
      unfold Oper.wp
      have hput : (a.put o'.dst u).put o.dst v = (a.put o.dst v).put o'.dst u := (Act.put_comm _ _ _ hd).symm
      rw [hput, hb2 w3]
      have h4 := (h2.tr h3).alloc (.cells z t)
      refine ⟨only_up w0 _ _ ho h4, ?_⟩
      have := h w1 w' _ _ h1 ht h4 (Hld.new w3 t z) (only_up w0 _ _ ho h4)
      rw [Array.setIfInBounds_comm _ _ hij] at this
      exact this
    · unfold Oper.wp
      rw [hb1 w2]
      have h4 := h2.alloc (.cells z t)
      refine ⟨only_up w0 _ _ ho h4, wpN_one hrjk hi (hw _) (fun w3 h3 => ?_)⟩
      unfold Oper.wp
      rw [he3 _ w3 (hG.trans (h4.tr h3) (fun _ h _ => h.elim))]
      have h5 := h4.tr h3
      refine ⟨only_up w0 _ _ ho h5, ?_⟩
      have := h w1 w' _ _ h1 ht h5 ((Hld.new w2 t z).only h3 (fun h => h)) (only_up w0 _ _ ho h5)
      rw [Array.setIfInBounds_comm _ _ hij, Array.setIfInBounds_comm _ _ hik, Act.put_comm _ _ _ hd, Act.put_comm _ _ _ hd2] at this
      exact this
end
end Go.Proofs.YtjdgmnaemopfdaaDoor
namespace Go.Proofs.YtjdgmnaemopfdaaDoor
open Go.RowKit Go.Lib
set_option linter.unusedVariables false
set_option linter.unusedSimpArgs false
set_option maxRecDepth 100000
attribute [local go_sem ↓] Go.wp_at_zero Go.wp_at_succ

theorem take_eq_of {l m : List UInt8} (h : l.length = m.length) {k : Nat} (hk : l.take k = m.take k) {x y : UInt8} (hx : l[k]? = some x) (hy : m[k]? = some y) (hxy : x = y) : l.take (k + 1) = m.take (k + 1) := by
  rw [List.take_add_one, List.take_add_one, hk, hx, hy, hxy]
set_option maxHeartbeats 2000000 in
theorem bytes_equal (A B : Option Addr) (c d : Nat) (l m : List UInt8) (w : World) (S S' : Nat → Prop) (ha : Src w S 1 A l.length (byteCells l)) (hb : Src w S' 1 B m.length (byteCells m)) (hl : l.length ≤ 9223372036854775807) (hm : m.length ≤ 9223372036854775807) :
    Calls Tryd.prog 62 #[.slice A l.length c, .slice B m.length d] w fun e w' => e = .returned (.bool (decide (l = m))) ∧ Only Noth w w' := by
  have HA := Lib.hid ha
  have HB := Lib.hid hb
  have hn0 : (0 : Int) ≤ l.length := by omega
  clear ha hb
  go_enter Tryd.func62, Tryd.ntmps62
  by_cases hlen : l.length = m.length
  · have hlen2 : ((l.length : Int) == m.length) = true := by simp [hlen]
    have HL := Lib.hid hlen
    go_wp2_with fail
    go_loopw [13] (fun i W => ∃ k : Nat, k ≤ l.length ∧ i = .int .i64 (k : Int) ∧ l.take k = m.take k ∧ Only Noth w W) (fun i _ => l.length - (RowKit.intOf i).toNat)
    case atStart => exact ⟨0, Nat.zero_le _, rfl, by simp, Only.refl _ _⟩
    case round =>
      obtain ⟨k, hk, rfl, ht, ho⟩ := hrel
      have HT := Lib.hid ht
      have ON := Lib.hid ho
      clear ht ho
      by_cases hlt : k < l.length
      · obtain ⟨x, hx⟩ : ∃ x, l[k]? = some x := ⟨_, List.getElem?_eq_getElem hlt⟩
        obtain ⟨y, hy⟩ : ∃ y, m[k]? = some y := ⟨_, List.getElem?_eq_getElem (by omega)⟩
        obtain ⟨ad, rfl, _, hal, hc⟩ := (HA.out.only ON.out (fun _ _ h => h)).2 (by omega)
        obtain ⟨bd, rfl, _, hbl, hd⟩ := (HB.out.only ON.out (fun _ _ h => h)).2 (by omega)
        have hcell : wr.cell? (ad.add k) = some (.int .u8 x.toNat) := hc k _ (by rw [byteCells, List.getElem?_map, hx]; rfl)
        have hcell2 : wr.cell? (bd.add k) = some (.int .u8 y.toNat) := hd k _ (by rw [byteCells, List.getElem?_map, hy]; rfl)
        have HX := Lib.hid hx
        have HY := Lib.hid hy
        have hb0 : (0 : Int) ≤ k := by omega
        have hb1 : (k : Int) < l.length := by omega
        have hb2 : (k : Int) < m.length := by omega
        clear hx hy hc hd
        go_wp2_with fail
        refine wp_region_N Noth (by kernel_rfl) ?_
        refine wpN_take (i := 0) (d := some 16) rfl rfl (by kernel_rfl) (by kernel_rfl) (by kernel_rfl) (fun _ _ _ h => h) (sure_value (v := .slice (some ad) l.length c) (by rfl) (fun v1 h1 => by first | rfl | go_simp)) (Only.refl _ _) ?_
        simp only [Act.put, List.setIfInBounds_toArray, List.set_cons_zero, List.set_cons_succ]
        refine wpN_take (i := 1) (d := some 17) rfl rfl (by kernel_rfl) (by kernel_rfl) (by kernel_rfl) (fun _ _ _ h => h) (sure_value (v := .int .i64 (k : Int)) (by rfl) (fun v1 h1 => by first | rfl | go_simp)) (Only.refl _ _) ?_
        simp only [Act.put, List.setIfInBounds_toArray, List.set_cons_zero, List.set_cons_succ]
        refine wpN_take (i := 2) (d := some 18) rfl rfl (by kernel_rfl) (by kernel_rfl) (by kernel_rfl) (fun _ _ _ h => h) (sure_value (v := .pointer (some (ad.add k))) (by rfl) (fun v1 h1 => by first | rfl | go_simp)) (Only.refl _ _) ?_
        simp only [Act.put, List.setIfInBounds_toArray, List.set_cons_zero, List.set_cons_succ]
        refine wpN_take (i := 3) (d := some 19) rfl rfl (by kernel_rfl) (by kernel_rfl) (by kernel_rfl) (fun _ _ _ h => h) (sure_value (v := .int .u8 x.toNat) (by rfl) (fun v1 h1 => by have q : v1.cell? (ad.add k) = some (.int .u8 x.toNat) := ((Only.undrew h1).cell (by rw [block_add]; exact hal) (fun h => h)).trans hcell; go_simp)) (Only.refl _ _) ?_
        simp only [Act.put, List.setIfInBounds_toArray, List.set_cons_zero, List.set_cons_succ]
        refine wpN_take (i := 4) (d := some 20) rfl rfl (by kernel_rfl) (by kernel_rfl) (by kernel_rfl) (fun _ _ _ h => h) (sure_value (v := .slice (some bd) m.length d) (by rfl) (fun v1 h1 => by first | rfl | go_simp)) (Only.refl _ _) ?_
        simp only [Act.put, List.setIfInBounds_toArray, List.set_cons_zero, List.set_cons_succ]
        refine wpN_take (i := 5) (d := some 21) rfl rfl (by kernel_rfl) (by kernel_rfl) (by kernel_rfl) (fun _ _ _ h => h) (sure_value (v := .int .i64 (k : Int)) (by rfl) (fun v1 h1 => by first | rfl | go_simp)) (Only.refl _ _) ?_
        simp only [Act.put, List.setIfInBounds_toArray, List.set_cons_zero, List.set_cons_succ]
        refine wpN_take (i := 6) (d := some 22) rfl rfl (by kernel_rfl) (by kernel_rfl) (by kernel_rfl) (fun _ _ _ h => h) (sure_value (v := .pointer (some (bd.add k))) (by rfl) (fun v1 h1 => by first | rfl | go_simp)) (Only.refl _ _) ?_
        simp only [Act.put, List.setIfInBounds_toArray, List.set_cons_zero, List.set_cons_succ]
        refine wpN_take (i := 7) (d := some 23) rfl rfl (by kernel_rfl) (by kernel_rfl) (by kernel_rfl) (fun _ _ _ h => h) (sure_value (v := .int .u8 y.toNat) (by rfl) (fun v1 h1 => by have q : v1.cell? (bd.add k) = some (.int .u8 y.toNat) := ((Only.undrew h1).cell (by rw [block_add]; exact hbl) (fun h => h)).trans hcell2; go_simp)) (Only.refl _ _) ?_
        simp only [Act.put, List.setIfInBounds_toArray, List.set_cons_zero, List.set_cons_succ]
        refine wpN_take (i := 8) (d := some 24) rfl rfl (by kernel_rfl) (by kernel_rfl) (by kernel_rfl) (fun _ _ _ h => h) (sure_value (v := .bool ((x.toNat : Int) != (y.toNat : Int))) (by rfl) (fun v1 h1 => by first | rfl | go_simp)) (Only.refl _ _) ?_
        simp only [Act.put, List.setIfInBounds_toArray, List.set_cons_zero, List.set_cons_succ]
        refine wpN_done (by kernel_rfl) (fun w7 ho => ?_) _
        have ON7 := Lib.hid (ON.out.tr (Only.undrew ho))
        clear ho hcell hcell2
        by_cases h0 : x = y
        · have h1 : ((x.toNat : Int) != (y.toNat : Int)) = false := by rw [h0]; simp
          have HE := Lib.hid (take_eq_of HL.out HT.out HX.out HY.out h0)
          rw [h1]
          go_wp2_with fail
          go_roundw
          case rel => exact ⟨k + 1, by omega, by go_num, HE.out, ON7.out⟩
          case measure => simp [RowKit.intOf]; omega
        · have h1 : ((x.toNat : Int) != (y.toNat : Int)) = true := by
            have := u8_beq x y
            simp only [bne, this]
            simpa using h0
          have HNE := Lib.hid (show l ≠ m from fun e => h0 (by have a := HX.out; have b := HY.out; rw [e] at a; rw [a] at b; exact Option.some.inj b))
          rw [h1]
          go_wp2
          go_ret
          exact ⟨ret_bool (by rw [decide_eq_false HNE.out]), ON7.out⟩
      · obtain rfl : k = l.length := by omega
        have e : l = m := by
          have := HT.out
          rw [List.take_of_length_le (Nat.le_refl _), List.take_of_length_le (by rw [HL.out]; exact Nat.le_refl _)] at this
          exact this
        have HE := Lib.hid e
        clear e
        go_wp2
        go_ret
        exact ⟨ret_bool (by rw [decide_eq_true HE.out]), ON.out⟩
  · have hlen2 : ((l.length : Int) == m.length) = false := by simp; omega
    have HNE := Lib.hid (show l ≠ m from fun e => hlen (by rw [e]))
    go_wp2
    go_ret
    exact ⟨ret_bool (by rw [decide_eq_false HNE.out]), Only.refl _ _⟩
end Go.Proofs.YtjdgmnaemopfdaaDoor
