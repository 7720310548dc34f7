/- Whether labels are the same. -/
import Derived.Test.YtokgignmdgejoaaDoorLbE
namespace Go.Proofs.YtokgignmdgejoaaDoor
open Go.RowKit Go.Lib
set_option linter.unusedVariables false
set_option linter.unusedSimpArgs false
set_option maxRecDepth 100000
attribute [local go_sem ↓] Go.wp_at_zero Go.wp_at_succ

/-- A truth is told. -/
def EqAns (P : Prop) (e : Ending) : Prop := ∃ b : Bool, e = .returned (.bool b) ∧ (b = true ↔ P)
theorem EqAns.no {P : Prop} {b : Bool} (hb : b = false) (h : ¬ P) : EqAns P (.returned (.bool b)) := ⟨b, rfl, by rw [hb]; simp [h]⟩
theorem EqAns.yes {P : Prop} {b : Bool} (hb : b = true) (h : P) : EqAns P (.returned (.bool b)) := ⟨b, rfl, by rw [hb]; simp [h]⟩
def Pr.same (a b : Pr) : Bool := decide (a.name = b.name ∧ a.val = b.val)
theorem prsame_iff {a b : Pr} : a.same b = true ↔ a = b := by
  unfold Pr.same
  rw [decide_eq_true_iff]
  cases a
  cases b
  simp
theorem ba_list (a b : ByteArray) : a.toList = b.toList ↔ a = b := by
  rw [ByteArray.toList_eq, ByteArray.toList_eq]
  exact ⟨ba_inj, fun h => by rw [h]⟩
theorem eqin_pr (a b : Pr) (w : World) : (Op.equalIn 10000 63 (.agg a.arr) (.agg b.arr)).run Tryd.prog w = .ok (a.same b) w := by
  have u9 := Tryd.underlying9
  have a9 := Tryd.isAgg9
  have z9 := Tryd.sizeOf9
  have hS : Tryd.prog.underlying 63 = some (.struct (Tryd.prog.fieldsOf 63)) := by kernel_rfl
  have hp : Tryd.prog.stoodInHeld 63 = false := by kernel_rfl
  rw [show (10000 : Nat) = 9999 + 1 from rfl, run_equalIn_agg w 9999 63 _ _ hS hp]
  simp only [Program.fieldsOf, Tryd.underlying63]
  go_simp
  simp only [Pr.same]
  by_cases h1 : a.name = b.name <;> by_cases h2 : a.val = b.val <;> simp [h1, h2, ba_list]
theorem ne_pr (a b : Pr) (w : World) : (binOp .neq 63 (.agg a.arr) (.agg b.arr)).run Tryd.prog w = .ok (.bool (!a.same b)) w := by
  rw [run_neq_struct, eqin_pr]
  rfl
theorem guard_pr : Tryd.prog.eqGuardType Tryd.prog.depth 63 = false := by kernel_rfl
theorem sure_ne_pr {ops : Array Oper} {o : Oper} {a : Act} {w0 : World} {F : Nat → Prop} {p q : Operand} {ty : TypeId} (x y : Pr) (hw : Region.wanted o (yielded ops a.tmps) = true) (ho : o.op = .binOp .neq 63 p q ty)
    (hp : a.eval p = .agg x.arr) (hq : a.eval q = .agg y.arr) : Sure Tryd.prog ops (Only Noth) (Only F w0) o (.bool (!x.same y)) a := by
  refine sure_value hw (fun w1 k1 => ?_)
  unfold execOp
  have := ne_pr x y w1
  simp only [ho, hp, hq, Sem.run_bind, run_eqGuard_agg (hm := guard_pr), Result.andThen_ok, this, Sem.run_pure]
theorem take_eq_g {α : Type} {l m : List α} {k : Nat} (hk : l.take k = m.take k) {x y : α} (hx : l[k]? = some x) (hy : m[k]? = some y) (hxy : x = y) : l.take (k + 1) = m.take (k + 1) := by
  rw [List.take_add_one, List.take_add_one, hk, hx, hy, hxy]
set_option maxHeartbeats 2000000 in
theorem eq_prs (A B : Option Addr) (c d : Nat) (l m : List Pr) (w : World) (S S' : Nat → Prop) (ha : PsAt w S A c l) (hb : PsAt w S' B d m) :
    Calls Tryd.prog 40 #[.slice A l.length c, .slice B m.length d] w fun e w' => EqAns (l = m) e ∧ Only Noth w w' := by
  have HA := Lib.hid ha
  have HB := Lib.hid hb
  have hn0 : (0 : Int) ≤ l.length := by omega
  have hl : l.length ≤ 9223372036854775807 := by have := ha.cap; have := ha.top; omega
  have hm : m.length ≤ 9223372036854775807 := by have := hb.cap; have := hb.top; omega
  clear ha hb
  go_enter Tryd.func40, Tryd.ntmps40
  by_cases hlen : l.length = m.length
  · have hlen2 : ((l.length : Int) == m.length) = true := by simp [hlen]
    have HL := Lib.hid hlen
    go_wp2_with fail
    go_loopw [13] (fun i W => ∃ k : Nat, k ≤ l.length ∧ i = .int .i64 (k : Int) ∧ l.take k = m.take k ∧ Only Noth w W) (fun i _ => l.length - (RowKit.intOf i).toNat)
    case atStart => exact ⟨0, Nat.zero_le _, rfl, by simp, Only.refl _ _⟩
    case round =>
      obtain ⟨k, hk, rfl, ht, ho⟩ := hrel
      have HT := Lib.hid ht
      have ON := Lib.hid ho
      clear ht ho
      by_cases hlt : k < l.length
      · obtain ⟨x, hx⟩ : ∃ x, l[k]? = some x := ⟨_, List.getElem?_eq_getElem hlt⟩
        obtain ⟨y, hy⟩ : ∃ y, m[k]? = some y := ⟨_, List.getElem?_eq_getElem (by omega)⟩
        obtain ⟨ab, ao, hAe, _, hal, hax⟩ := (HA.out.noth ON.out).mem (by omega)
        obtain ⟨bb, bo, hBe, _, hbl, hbx⟩ := (HB.out.noth ON.out).mem (by omega)
        rw [hAe, hBe]
        have HX := Lib.hid hx
        have HY := Lib.hid hy
        have hall : ∀ W, Only Noth wr W → W.cell? ⟨ab, ao + k * 2, none⟩ = some (.string x.name) ∧ W.cell? ⟨ab, ao + k * 2 + 1, none⟩ = some (.string x.val) := fun W ho => ⟨(ho.cell (p := ⟨ab, ao + k * 2, none⟩) hal (fun h => h)).trans (hax k x hx).1, (ho.cell (p := ⟨ab, ao + k * 2 + 1, none⟩) hal (fun h => h)).trans (hax k x hx).2⟩
        have hbll : ∀ W, Only Noth wr W → W.cell? ⟨bb, bo + k * 2, none⟩ = some (.string y.name) ∧ W.cell? ⟨bb, bo + k * 2 + 1, none⟩ = some (.string y.val) := fun W ho => ⟨(ho.cell (p := ⟨bb, bo + k * 2, none⟩) hbl (fun h => h)).trans (hbx k y hy).1, (ho.cell (p := ⟨bb, bo + k * 2 + 1, none⟩) hbl (fun h => h)).trans (hbx k y hy).2⟩
        have CX := Lib.hid hall
        have CY := Lib.hid hbll
        have hb0 : (0 : Int) ≤ k := by omega
        have hb1 : (k : Int) < l.length := by omega
        have hb2 : (k : Int) < m.length := by omega
        clear hx hy hall hbll hax hbx hal hbl hAe hBe
        go_upto_region 6 with fail
        refine wp_region_N Noth (by kernel_rfl) ?_
        refine wpN_take (i := 0) (d := some 16) rfl rfl (by kernel_rfl) (by kernel_rfl) (by kernel_rfl) (fun _ _ _ h => h) (sure_value (v := .slice (some ⟨ab, ao, none⟩) l.length c) (by rfl) (fun v1 h1 => by first | rfl | (go_simp; done) | (go_simp; intro h9; exact absurd h9 (by omega)) | (go_simp; assumption))) (Only.refl _ _) ?_
        simp only [Act.put, List.setIfInBounds_toArray, List.set_cons_zero, List.set_cons_succ]
        refine wpN_take (i := 1) (d := some 17) rfl rfl (by kernel_rfl) (by kernel_rfl) (by kernel_rfl) (fun _ _ _ h => h) (sure_value (v := .int .i64 (k : Int)) (by rfl) (fun v1 h1 => by first | rfl | (go_simp; done) | (go_simp; intro h9; exact absurd h9 (by omega)) | (go_simp; assumption))) (Only.refl _ _) ?_
        simp only [Act.put, List.setIfInBounds_toArray, List.set_cons_zero, List.set_cons_succ]
        refine wpN_take (i := 2) (d := some 18) rfl rfl (by kernel_rfl) (by kernel_rfl) (by kernel_rfl) (fun _ _ _ h => h) (sure_value (v := .pointer (some ⟨ab, ao + k * 2, none⟩)) (by rfl) (fun v1 h1 => by first | rfl | (go_simp; done) | (go_simp; intro h9; exact absurd h9 (by omega)) | (go_simp; assumption))) (Only.refl _ _) ?_
        simp only [Act.put, List.setIfInBounds_toArray, List.set_cons_zero, List.set_cons_succ]
        refine wpN_take (i := 3) (d := some 19) rfl rfl (by kernel_rfl) (by kernel_rfl) (by kernel_rfl) (fun _ _ _ h => h) (sure_value (v := .agg x.arr) (by rfl) (fun v1 h1 => by have c0 := (CX.out _ (Only.undrew h1)).1; have c1 := (CX.out _ (Only.undrew h1)).2; go_simp)) (Only.refl _ _) ?_
        simp only [Act.put, List.setIfInBounds_toArray, List.set_cons_zero, List.set_cons_succ]
        refine wpN_take (i := 4) (d := some 20) rfl rfl (by kernel_rfl) (by kernel_rfl) (by kernel_rfl) (fun _ _ _ h => h) (sure_value (v := .slice (some ⟨bb, bo, none⟩) m.length d) (by rfl) (fun v1 h1 => by first | rfl | (go_simp; done) | (go_simp; intro h9; exact absurd h9 (by omega)) | (go_simp; assumption))) (Only.refl _ _) ?_
        simp only [Act.put, List.setIfInBounds_toArray, List.set_cons_zero, List.set_cons_succ]
        refine wpN_take (i := 5) (d := some 21) rfl rfl (by kernel_rfl) (by kernel_rfl) (by kernel_rfl) (fun _ _ _ h => h) (sure_value (v := .int .i64 (k : Int)) (by rfl) (fun v1 h1 => by first | rfl | (go_simp; done) | (go_simp; intro h9; exact absurd h9 (by omega)) | (go_simp; assumption))) (Only.refl _ _) ?_
        simp only [Act.put, List.setIfInBounds_toArray, List.set_cons_zero, List.set_cons_succ]
        refine wpN_take (i := 6) (d := some 22) rfl rfl (by kernel_rfl) (by kernel_rfl) (by kernel_rfl) (fun _ _ _ h => h) (sure_value (v := .pointer (some ⟨bb, bo + k * 2, none⟩)) (by rfl) (fun v1 h1 => by first | rfl | (go_simp; done) | (go_simp; intro h9; exact absurd h9 (by omega)) | (go_simp; assumption))) (Only.refl _ _) ?_
        simp only [Act.put, List.setIfInBounds_toArray, List.set_cons_zero, List.set_cons_succ]
        refine wpN_take (i := 7) (d := some 23) rfl rfl (by kernel_rfl) (by kernel_rfl) (by kernel_rfl) (fun _ _ _ h => h) (sure_value (v := .agg y.arr) (by rfl) (fun v1 h1 => by have c0 := (CY.out _ (Only.undrew h1)).1; have c1 := (CY.out _ (Only.undrew h1)).2; go_simp)) (Only.refl _ _) ?_
        simp only [Act.put, List.setIfInBounds_toArray, List.set_cons_zero, List.set_cons_succ]
        refine wpN_take (i := 8) (d := some 24) rfl rfl (by kernel_rfl) (by kernel_rfl) (by kernel_rfl) (fun _ _ _ h => h) (sure_ne_pr x y (by rfl) rfl rfl rfl) (Only.refl _ _) ?_
        simp only [Act.put, List.setIfInBounds_toArray, List.set_cons_zero, List.set_cons_succ]
        refine wpN_done (by kernel_rfl) (fun w7 ho => ?_) _
        have ON7 := Lib.hid (ON.out.tr (Only.undrew ho))
        clear ho
        by_cases h0 : x = y
        · have h1 : (!x.same y) = false := by rw [prsame_iff.2 h0]; rfl
          have HE := Lib.hid (take_eq_g HT.out HX.out HY.out h0)
          rw [h1]
          go_wp2_with fail
          go_roundw
          case rel => exact ⟨k + 1, by omega, by go_num, HE.out, ON7.out⟩
          case measure => simp [RowKit.intOf]; omega
        · have h1 : (!x.same y) = true := by
            cases hs : x.same y
            · rfl
            · exact absurd (prsame_iff.1 hs) h0
          have HNE := Lib.hid (show l ≠ m from fun e => h0 (by have a := HX.out; have b := HY.out; rw [e] at a; rw [a] at b; exact Option.some.inj b))
          rw [h1]
          go_wp2
          go_ret
          exact ⟨.no rfl HNE.out, ON7.out⟩
      · obtain rfl : k = l.length := by omega
        have e : l = m := by
          have := HT.out
          rw [List.take_of_length_le (Nat.le_refl _), List.take_of_length_le (by rw [HL.out]; exact Nat.le_refl _)] at this
          exact this
        have HE := Lib.hid e
        clear e
        go_wp2
        go_ret
        exact ⟨.yes rfl HE.out, ON.out⟩
  · have hlen2 : ((l.length : Int) == m.length) = false := by simp; omega
    have HNE := Lib.hid (show l ≠ m from fun e => hlen (by rw [e]))
    go_wp2
    go_ret
    exact ⟨.no rfl HNE.out, Only.refl _ _⟩
set_option maxHeartbeats 2000000 in
theorem rsame_run (A B : Option Addr) (c d : Nat) (l m : List Pr) (w : World) (S S' : Nat → Prop) (ha : PsAt w S A c l) (hb : PsAt w S' B d m) :
    Calls Tryd.prog 41 #[.slice A l.length c, .slice B m.length d] w fun e w' => EqAns (l = m) e ∧ Only Noth w w' := by
  have HA := Lib.hid ha
  have HB := Lib.hid hb
  have hn0 : (0 : Int) ≤ l.length := by omega
  have hl : l.length ≤ 9223372036854775807 := by have := ha.cap; have := ha.top; omega
  have hm : m.length ≤ 9223372036854775807 := by have := hb.cap; have := hb.top; omega
  clear ha hb
  go_enter Tryd.func41, Tryd.ntmps41
  by_cases hlen : l.length = m.length
  · have hlen2 : ((l.length : Int) == m.length) = true := by simp [hlen]
    have HL := Lib.hid hlen
    go_wp2_with fail
    go_loopw [5] (fun i W => ∃ k : Nat, k ≤ l.length ∧ i = .int .i64 (k : Int) ∧ l.take k = m.take k ∧ Only Noth w W) (fun i _ => l.length - (RowKit.intOf i).toNat)
    case atStart => exact ⟨0, Nat.zero_le _, rfl, by simp, Only.refl _ _⟩
    case round =>
      obtain ⟨k, hk, rfl, ht, ho⟩ := hrel
      have HT := Lib.hid ht
      have ON := Lib.hid ho
      clear ht ho
      by_cases hlt : k < l.length
      · obtain ⟨x, hx⟩ : ∃ x, l[k]? = some x := ⟨_, List.getElem?_eq_getElem hlt⟩
        obtain ⟨y, hy⟩ : ∃ y, m[k]? = some y := ⟨_, List.getElem?_eq_getElem (by omega)⟩
        obtain ⟨ab, ao, hAe, _, hal, hax⟩ := (HA.out.noth ON.out).mem (by omega)
        obtain ⟨bb, bo, hBe, _, hbl, hbx⟩ := (HB.out.noth ON.out).mem (by omega)
        rw [hAe, hBe]
        have HX := Lib.hid hx
        have HY := Lib.hid hy
        have hall : ∀ W, Only Noth wr W → W.cell? ⟨ab, ao + k * 2, none⟩ = some (.string x.name) ∧ W.cell? ⟨ab, ao + k * 2 + 1, none⟩ = some (.string x.val) := fun W ho => ⟨(ho.cell (p := ⟨ab, ao + k * 2, none⟩) hal (fun h => h)).trans (hax k x hx).1, (ho.cell (p := ⟨ab, ao + k * 2 + 1, none⟩) hal (fun h => h)).trans (hax k x hx).2⟩
        have hbll : ∀ W, Only Noth wr W → W.cell? ⟨bb, bo + k * 2, none⟩ = some (.string y.name) ∧ W.cell? ⟨bb, bo + k * 2 + 1, none⟩ = some (.string y.val) := fun W ho => ⟨(ho.cell (p := ⟨bb, bo + k * 2, none⟩) hbl (fun h => h)).trans (hbx k y hy).1, (ho.cell (p := ⟨bb, bo + k * 2 + 1, none⟩) hbl (fun h => h)).trans (hbx k y hy).2⟩
        have CX := Lib.hid hall
        have CY := Lib.hid hbll
        have hb0 : (0 : Int) ≤ k := by omega
        have hb1 : (k : Int) < l.length := by omega
        have hb2 : (k : Int) < m.length := by omega
        clear hx hy hall hbll hax hbx hal hbl hAe hBe
        go_upto_region 6 with fail
        refine wp_region_N Noth (by kernel_rfl) ?_
        refine wpN_take (i := 0) (d := some 17) rfl rfl (by kernel_rfl) (by kernel_rfl) (by kernel_rfl) (fun _ _ _ h => h) (sure_value (v := .slice (some ⟨ab, ao, none⟩) l.length c) (by rfl) (fun v1 h1 => by first | rfl | (go_simp; done) | (go_simp; intro h9; exact absurd h9 (by omega)) | (go_simp; assumption))) (Only.refl _ _) ?_
        simp only [Act.put, List.setIfInBounds_toArray, List.set_cons_zero, List.set_cons_succ]
        refine wpN_take (i := 1) (d := some 18) rfl rfl (by kernel_rfl) (by kernel_rfl) (by kernel_rfl) (fun _ _ _ h => h) (sure_value (v := .int .i64 (k : Int)) (by rfl) (fun v1 h1 => by first | rfl | (go_simp; done) | (go_simp; intro h9; exact absurd h9 (by omega)) | (go_simp; assumption))) (Only.refl _ _) ?_
        simp only [Act.put, List.setIfInBounds_toArray, List.set_cons_zero, List.set_cons_succ]
        refine wpN_take (i := 2) (d := some 19) rfl rfl (by kernel_rfl) (by kernel_rfl) (by kernel_rfl) (fun _ _ _ h => h) (sure_value (v := .pointer (some ⟨ab, ao + k * 2, none⟩)) (by rfl) (fun v1 h1 => by first | rfl | (go_simp; done) | (go_simp; intro h9; exact absurd h9 (by omega)) | (go_simp; assumption))) (Only.refl _ _) ?_
        simp only [Act.put, List.setIfInBounds_toArray, List.set_cons_zero, List.set_cons_succ]
        refine wpN_take (i := 3) (d := some 20) rfl rfl (by kernel_rfl) (by kernel_rfl) (by kernel_rfl) (fun _ _ _ h => h) (sure_value (v := .agg x.arr) (by rfl) (fun v1 h1 => by have c0 := (CX.out _ (Only.undrew h1)).1; have c1 := (CX.out _ (Only.undrew h1)).2; go_simp)) (Only.refl _ _) ?_
        simp only [Act.put, List.setIfInBounds_toArray, List.set_cons_zero, List.set_cons_succ]
        refine wpN_take (i := 4) (d := some 21) rfl rfl (by kernel_rfl) (by kernel_rfl) (by kernel_rfl) (fun _ _ _ h => h) (sure_value (v := .slice (some ⟨bb, bo, none⟩) m.length d) (by rfl) (fun v1 h1 => by first | rfl | (go_simp; done) | (go_simp; intro h9; exact absurd h9 (by omega)) | (go_simp; assumption))) (Only.refl _ _) ?_
        simp only [Act.put, List.setIfInBounds_toArray, List.set_cons_zero, List.set_cons_succ]
        refine wpN_take (i := 5) (d := some 22) rfl rfl (by kernel_rfl) (by kernel_rfl) (by kernel_rfl) (fun _ _ _ h => h) (sure_value (v := .int .i64 (k : Int)) (by rfl) (fun v1 h1 => by first | rfl | (go_simp; done) | (go_simp; intro h9; exact absurd h9 (by omega)) | (go_simp; assumption))) (Only.refl _ _) ?_
        simp only [Act.put, List.setIfInBounds_toArray, List.set_cons_zero, List.set_cons_succ]
        refine wpN_take (i := 6) (d := some 23) rfl rfl (by kernel_rfl) (by kernel_rfl) (by kernel_rfl) (fun _ _ _ h => h) (sure_value (v := .pointer (some ⟨bb, bo + k * 2, none⟩)) (by rfl) (fun v1 h1 => by first | rfl | (go_simp; done) | (go_simp; intro h9; exact absurd h9 (by omega)) | (go_simp; assumption))) (Only.refl _ _) ?_
        simp only [Act.put, List.setIfInBounds_toArray, List.set_cons_zero, List.set_cons_succ]
        refine wpN_take (i := 7) (d := some 24) rfl rfl (by kernel_rfl) (by kernel_rfl) (by kernel_rfl) (fun _ _ _ h => h) (sure_value (v := .agg y.arr) (by rfl) (fun v1 h1 => by have c0 := (CY.out _ (Only.undrew h1)).1; have c1 := (CY.out _ (Only.undrew h1)).2; go_simp)) (Only.refl _ _) ?_
        simp only [Act.put, List.setIfInBounds_toArray, List.set_cons_zero, List.set_cons_succ]
        refine wpN_take (i := 8) (d := some 25) rfl rfl (by kernel_rfl) (by kernel_rfl) (by kernel_rfl) (fun _ _ _ h => h) (sure_ne_pr x y (by rfl) rfl rfl rfl) (Only.refl _ _) ?_
        simp only [Act.put, List.setIfInBounds_toArray, List.set_cons_zero, List.set_cons_succ]
        refine wpN_done (by kernel_rfl) (fun w7 ho => ?_) _
        have ON7 := Lib.hid (ON.out.tr (Only.undrew ho))
        clear ho
        by_cases h0 : x = y
        · have h1 : (!x.same y) = false := by rw [prsame_iff.2 h0]; rfl
          have HE := Lib.hid (take_eq_g HT.out HX.out HY.out h0)
          rw [h1]
          go_wp2_with fail
          go_roundw
          case rel => exact ⟨k + 1, by omega, by go_num, HE.out, ON7.out⟩
          case measure => simp [RowKit.intOf]; omega
        · have h1 : (!x.same y) = true := by
            cases hs : x.same y
            · rfl
            · exact absurd (prsame_iff.1 hs) h0
          have HNE := Lib.hid (show l ≠ m from fun e => h0 (by have a := HX.out; have b := HY.out; rw [e] at a; rw [a] at b; exact Option.some.inj b))
          rw [h1]
          go_wp2
          go_ret
          exact ⟨.no rfl HNE.out, ON7.out⟩
      · obtain rfl : k = l.length := by omega
        have e : l = m := by
          have := HT.out
          rw [List.take_of_length_le (Nat.le_refl _), List.take_of_length_le (by rw [HL.out]; exact Nat.le_refl _)] at this
          exact this
        have HE := Lib.hid e
        clear e
        go_wp2
        go_ret
        exact ⟨.yes rfl HE.out, ON.out⟩
  · have hlen2 : ((l.length : Int) == m.length) = false := by simp; omega
    have HNE := Lib.hid (show l ≠ m from fun e => hlen (by rw [e]))
    go_wp2
    go_ret
    exact ⟨.no rfl HNE.out, Only.refl _ _⟩
theorem lsame_run (A B : Option Addr) (c d : Nat) (l m : List Pr) (w : World) (S S' : Nat → Prop) (ha : PsAt w S A c l) (hb : PsAt w S' B d m) :
    Calls Tryd.prog 21 #[.slice A l.length c, .slice B m.length d] w fun e w' => EqAns (l = m) e ∧ Only Noth w w' := by
  have HE := Lib.hid (eq_prs A B c d l m w S S' ha hb)
  clear ha hb
  go_enter Tryd.func21, Tryd.ntmps21
  go_wp2_with fail
  refine HE.out.mono ?_
  rintro e w1 ⟨⟨q, rfl, hq⟩, ho⟩
  have HQ := Lib.hid hq
  have O := Lib.hid ho
  clear hq ho
  go_wp2
  go_ret
  exact ⟨⟨q, rfl, HQ.out⟩, O.out⟩
end Go.Proofs.YtokgignmdgejoaaDoor
