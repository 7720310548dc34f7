/- Whether two lists of members, of entries, are one: slices.Equal, and the reference's. -/
import Derived.Test.YtjdgmnaemopfdaaDoorMOE
import Derived.Test.YtjdgmnaemopfdaaDoorPkE
import Derived.Test.YtjdgmnaemopfdaaDoorEntQ
import Derived.Test.YtjdgmnaemopfdaaDoorPkF
namespace Go.Proofs.YtjdgmnaemopfdaaDoor
open Go.RowKit Go.Lib
set_option linter.unusedVariables false
set_option linter.unusedSimpArgs false
set_option maxRecDepth 100000
attribute [local go_sem ↓] Go.wp_at_zero Go.wp_at_succ

/-- A truth is told. -/
def EqAns (P : Prop) (e : Ending) : Prop := ∃ b : Bool, e = .returned (.bool b) ∧ (b = true ↔ P)
theorem EqAns.no {P : Prop} {b : Bool} (hb : b = false) (h : ¬ P) : EqAns P (.returned (.bool b)) := ⟨b, rfl, by rw [hb]; simp [h]⟩
theorem EqAns.yes {P : Prop} {b : Bool} (hb : b = true) (h : P) : EqAns P (.returned (.bool b)) := ⟨b, rfl, by rw [hb]; simp [h]⟩
def Mem.same (a b : Mem) : Bool := decide (a.node = b.node ∧ a.st = b.st ∧ a.inc = b.inc)
theorem memsame_iff {a b : Mem} : a.same b = true ↔ a = b := by
  unfold Mem.same
  rw [decide_eq_true_iff]
  cases a
  cases b
  simp
theorem eqin_mem (a b : Mem) (w : World) : (Op.equalIn 10000 68 (.agg #[.int .u16 a.node, .int .u8 a.st, .int .i64 a.inc]) (.agg #[.int .u16 b.node, .int .u8 b.st, .int .i64 b.inc])).run Tryd.prog w = .ok (a.same b) w := by
  have u3 := Tryd.underlying3
  have a3 := Tryd.isAgg3
  have z3 := Tryd.sizeOf3
  have u9 := Tryd.underlying66
  have a9 := Tryd.isAgg66
  have z9 := Tryd.sizeOf66
  have u22 := Tryd.underlying46
  have a22 := Tryd.isAgg46
  have z22 := Tryd.sizeOf46
  have hS : Tryd.prog.underlying 68 = some (.struct (Tryd.prog.fieldsOf 68)) := by kernel_rfl
  have hp : Tryd.prog.stoodInHeld 68 = false := by kernel_rfl
  rw [show (10000 : Nat) = 9999 + 1 from rfl, run_equalIn_agg w 9999 68 _ _ hS hp]
  simp only [Program.fieldsOf, Tryd.underlying68]
  go_simp
  simp only [Mem.same]
  by_cases h1 : a.node = b.node <;> by_cases h2 : a.st = b.st <;> by_cases h3 : a.inc = b.inc <;> simp [h1, h2, h3]
theorem ne_mem (a b : Mem) (w : World) : (binOp .neq 68 (.agg #[.int .u16 a.node, .int .u8 a.st, .int .i64 a.inc]) (.agg #[.int .u16 b.node, .int .u8 b.st, .int .i64 b.inc])).run Tryd.prog w = .ok (.bool (!a.same b)) w := by
  rw [run_neq_struct, eqin_mem]
  rfl
theorem guard_mem : Tryd.prog.eqGuardType Tryd.prog.depth 68 = false := by kernel_rfl
theorem sure_ne_mem {ops : Array Oper} {o : Oper} {a : Act} {w0 : World} {F : Nat → Prop} {p q : Operand} {ty : TypeId} (x y : Mem) (hw : Region.wanted o (yielded ops a.tmps) = true) (ho : o.op = .binOp .neq 68 p q ty)
    (hp : a.eval p = .agg #[.int .u16 x.node, .int .u8 x.st, .int .i64 x.inc]) (hq : a.eval q = .agg #[.int .u16 y.node, .int .u8 y.st, .int .i64 y.inc]) : Sure Tryd.prog ops (Only Noth) (Only F w0) o (.bool (!x.same y)) a := by
  refine sure_value hw (fun w1 k1 => ?_)
  unfold execOp
  have := ne_mem x y w1
  simp only [ho, hp, hq, Sem.run_bind, run_eqGuard_agg (hm := guard_mem), Result.andThen_ok, this, Sem.run_pure]
theorem sure_ne_ent {ops : Array Oper} {o : Oper} {a : Act} {w0 : World} {F : Nat → Prop} {p q : Operand} {ty : TypeId} (x y : Ent) (hw : Region.wanted o (yielded ops a.tmps) = true) (ho : o.op = .binOp .neq 64 p q ty)
    (hp : a.eval p = .agg #[.string x.key, .int .i64 x.time, .int .u16 x.org, .string x.val, .int .i64 x.til]) (hq : a.eval q = .agg #[.string y.key, .int .i64 y.time, .int .u16 y.org, .string y.val, .int .i64 y.til]) : Sure Tryd.prog ops (Only Noth) (Only F w0) o (.bool (!x.same y)) a := by
  refine sure_value hw (fun w1 k1 => ?_)
  unfold execOp
  have := ne_ent x y w1
  simp only [ho, hp, hq, Sem.run_bind, run_eqGuard_agg (hm := guard_ent), Result.andThen_ok, this, Sem.run_pure]
theorem take_eq_g {α : Type} {l m : List α} {k : Nat} (hk : l.take k = m.take k) {x y : α} (hx : l[k]? = some x) (hy : m[k]? = some y) (hxy : x = y) : l.take (k + 1) = m.take (k + 1) := by
  rw [List.take_add_one, List.take_add_one, hk, hx, hy, hxy]
set_option maxHeartbeats 2000000 in
theorem eq_mems (A B : Option Addr) (c d : Nat) (l m : List Mem) (w : World) (S S' : Nat → Prop) (ha : ElAt w S 3 A (l.map Mem.cl)) (hb : ElAt w S' 3 B (m.map Mem.cl)) (hl : l.length ≤ 9223372036854775807) (hm : m.length ≤ 9223372036854775807) :
    Calls Tryd.prog 68 #[.slice A l.length c, .slice B m.length d] w fun e w' => EqAns (l = m) e ∧ Only Noth w w' := by
  have HA := Lib.hid ha
  have HB := Lib.hid hb
  have hn0 : (0 : Int) ≤ l.length := by omega
  clear ha hb
  go_enter Tryd.func68, Tryd.ntmps68
  by_cases hlen : l.length = m.length
  · have hlen2 : ((l.length : Int) == m.length) = true := by simp [hlen]
    have HL := Lib.hid hlen
    go_wp2_with fail
    go_loopw [13] (fun i W => ∃ k : Nat, k ≤ l.length ∧ i = .int .i64 (k : Int) ∧ l.take k = m.take k ∧ Only Noth w W) (fun i _ => l.length - (RowKit.intOf i).toNat)
    case atStart => exact ⟨0, Nat.zero_le _, rfl, by simp, Only.refl _ _⟩
    case round =>
      obtain ⟨k, hk, rfl, ht, ho⟩ := hrel
      have HT := Lib.hid ht
      have ON := Lib.hid ho
      clear ht ho
      by_cases hlt : k < l.length
      · obtain ⟨x, hx⟩ : ∃ x, l[k]? = some x := ⟨_, List.getElem?_eq_getElem hlt⟩
        obtain ⟨y, hy⟩ : ∃ y, m[k]? = some y := ⟨_, List.getElem?_eq_getElem (by omega)⟩
        obtain ⟨ab, ao, hAe, _, hal, e0, e1, e2⟩ := (HA.out.noth ON.out).mem hx
        obtain ⟨bb, bo, hBe, _, hbl, f0, f1, f2⟩ := (HB.out.noth ON.out).mem hy
        rw [hAe, hBe]
        have HX := Lib.hid hx
        have HY := Lib.hid hy
        have hb0 : (0 : Int) ≤ k := by omega
        have hb1 : (k : Int) < l.length := by omega
        have hb2 : (k : Int) < m.length := by omega
        clear hx hy
        go_wp2_with fail
        refine wp_region_N Noth (by kernel_rfl) ?_
        refine wpN_take (i := 0) (d := some 16) rfl rfl (by kernel_rfl) (by kernel_rfl) (by kernel_rfl) (fun _ _ _ h => h) (sure_value (v := .slice (some ⟨ab, ao, none⟩) l.length c) (by rfl) (fun v1 h1 => by first | rfl | go_simp)) (Only.refl _ _) ?_
        simp only [Act.put, List.setIfInBounds_toArray, List.set_cons_zero, List.set_cons_succ]
        refine wpN_take (i := 1) (d := some 17) rfl rfl (by kernel_rfl) (by kernel_rfl) (by kernel_rfl) (fun _ _ _ h => h) (sure_value (v := .int .i64 (k : Int)) (by rfl) (fun v1 h1 => by first | rfl | go_simp)) (Only.refl _ _) ?_
        simp only [Act.put, List.setIfInBounds_toArray, List.set_cons_zero, List.set_cons_succ]
        refine wpN_take (i := 2) (d := some 18) rfl rfl (by kernel_rfl) (by kernel_rfl) (by kernel_rfl) (fun _ _ _ h => h) (sure_value (v := .pointer (some ⟨ab, ao + k * 3, none⟩)) (by rfl) (fun v1 h1 => by first | rfl | go_simp)) (Only.refl _ _) ?_
        simp only [Act.put, List.setIfInBounds_toArray, List.set_cons_zero, List.set_cons_succ]
        refine wpN_take (i := 3) (d := some 19) rfl rfl (by kernel_rfl) (by kernel_rfl) (by kernel_rfl) (fun _ _ _ h => h) (sure_value (v := .agg #[.int .u16 x.node, .int .u8 x.st, .int .i64 x.inc]) (by rfl) (fun v1 h1 => by have q0 : v1.cell? ⟨ab, ao + k * 3, none⟩ = some (.int .u16 x.node) := ((Only.undrew h1).cell hal (fun h => h)).trans e0; have q1 : v1.cell? ⟨ab, ao + k * 3 + 1, none⟩ = some (.int .u8 x.st) := ((Only.undrew h1).cell hal (fun h => h)).trans e1; have q2 : v1.cell? ⟨ab, ao + k * 3 + 2, none⟩ = some (.int .i64 x.inc) := ((Only.undrew h1).cell hal (fun h => h)).trans e2; go_simp)) (Only.refl _ _) ?_
        simp only [Act.put, List.setIfInBounds_toArray, List.set_cons_zero, List.set_cons_succ]
        refine wpN_take (i := 4) (d := some 20) rfl rfl (by kernel_rfl) (by kernel_rfl) (by kernel_rfl) (fun _ _ _ h => h) (sure_value (v := .slice (some ⟨bb, bo, none⟩) m.length d) (by rfl) (fun v1 h1 => by first | rfl | go_simp)) (Only.refl _ _) ?_
        simp only [Act.put, List.setIfInBounds_toArray, List.set_cons_zero, List.set_cons_succ]
        refine wpN_take (i := 5) (d := some 21) rfl rfl (by kernel_rfl) (by kernel_rfl) (by kernel_rfl) (fun _ _ _ h => h) (sure_value (v := .int .i64 (k : Int)) (by rfl) (fun v1 h1 => by first | rfl | go_simp)) (Only.refl _ _) ?_
        simp only [Act.put, List.setIfInBounds_toArray, List.set_cons_zero, List.set_cons_succ]
        refine wpN_take (i := 6) (d := some 22) rfl rfl (by kernel_rfl) (by kernel_rfl) (by kernel_rfl) (fun _ _ _ h => h) (sure_value (v := .pointer (some ⟨bb, bo + k * 3, none⟩)) (by rfl) (fun v1 h1 => by first | rfl | go_simp)) (Only.refl _ _) ?_
        simp only [Act.put, List.setIfInBounds_toArray, List.set_cons_zero, List.set_cons_succ]
        refine wpN_take (i := 7) (d := some 23) rfl rfl (by kernel_rfl) (by kernel_rfl) (by kernel_rfl) (fun _ _ _ h => h) (sure_value (v := .agg #[.int .u16 y.node, .int .u8 y.st, .int .i64 y.inc]) (by rfl) (fun v1 h1 => by have q0 : v1.cell? ⟨bb, bo + k * 3, none⟩ = some (.int .u16 y.node) := ((Only.undrew h1).cell hbl (fun h => h)).trans f0; have q1 : v1.cell? ⟨bb, bo + k * 3 + 1, none⟩ = some (.int .u8 y.st) := ((Only.undrew h1).cell hbl (fun h => h)).trans f1; have q2 : v1.cell? ⟨bb, bo + k * 3 + 2, none⟩ = some (.int .i64 y.inc) := ((Only.undrew h1).cell hbl (fun h => h)).trans f2; go_simp)) (Only.refl _ _) ?_
        simp only [Act.put, List.setIfInBounds_toArray, List.set_cons_zero, List.set_cons_succ]
        refine wpN_take (i := 8) (d := some 24) rfl rfl (by kernel_rfl) (by kernel_rfl) (by kernel_rfl) (fun _ _ _ h => h) (sure_ne_mem x y (by rfl) rfl rfl rfl) (Only.refl _ _) ?_
        simp only [Act.put, List.setIfInBounds_toArray, List.set_cons_zero, List.set_cons_succ]
        refine wpN_done (by kernel_rfl) (fun w7 ho => ?_) _
        have ON7 := Lib.hid (ON.out.tr (Only.undrew ho))
        clear ho e0 e1 e2 f0 f1 f2
        by_cases h0 : x = y
        · have h1 : (!x.same y) = false := by rw [memsame_iff.2 h0]; rfl
          have HE := Lib.hid (take_eq_g HT.out HX.out HY.out h0)
          rw [h1]
          go_wp2_with fail
          go_roundw
          case rel => exact ⟨k + 1, by omega, by go_num, HE.out, ON7.out⟩
          case measure => simp [RowKit.intOf]; omega
        · have h1 : (!x.same y) = true := by
            cases hs : x.same y
            · rfl
            · exact absurd (memsame_iff.1 hs) h0
          have HNE := Lib.hid (show l ≠ m from fun e => h0 (by have a := HX.out; have b := HY.out; rw [e] at a; rw [a] at b; exact Option.some.inj b))
          rw [h1]
          go_wp2
          go_ret
          exact ⟨.no rfl HNE.out, ON7.out⟩
      · obtain rfl : k = l.length := by omega
        have e : l = m := by
          have := HT.out
          rw [List.take_of_length_le (Nat.le_refl _), List.take_of_length_le (by rw [HL.out]; exact Nat.le_refl _)] at this
          exact this
        have HE := Lib.hid e
        clear e
        go_wp2
        go_ret
        exact ⟨.yes rfl HE.out, ON.out⟩
  · have hlen2 : ((l.length : Int) == m.length) = false := by simp; omega
    have HNE := Lib.hid (show l ≠ m from fun e => hlen (by rw [e]))
    go_wp2
    go_ret
    exact ⟨.no rfl HNE.out, Only.refl _ _⟩
set_option maxHeartbeats 2000000 in
theorem eq_ents (A B : Option Addr) (c d : Nat) (l m : List Ent) (w : World) (S S' : Nat → Prop) (ha : ElAt w S 5 A (l.map Ent.cl)) (hb : ElAt w S' 5 B (m.map Ent.cl)) (hl : l.length ≤ 9223372036854775807) (hm : m.length ≤ 9223372036854775807) :
    Calls Tryd.prog 69 #[.slice A l.length c, .slice B m.length d] w fun e w' => EqAns (l = m) e ∧ Only Noth w w' := by
  have HA := Lib.hid ha
  have HB := Lib.hid hb
  have hn0 : (0 : Int) ≤ l.length := by omega
  clear ha hb
  go_enter Tryd.func69, Tryd.ntmps69
  by_cases hlen : l.length = m.length
  · have hlen2 : ((l.length : Int) == m.length) = true := by simp [hlen]
    have HL := Lib.hid hlen
    go_wp2_with fail
    go_loopw [13] (fun i W => ∃ k : Nat, k ≤ l.length ∧ i = .int .i64 (k : Int) ∧ l.take k = m.take k ∧ Only Noth w W) (fun i _ => l.length - (RowKit.intOf i).toNat)
    case atStart => exact ⟨0, Nat.zero_le _, rfl, by simp, Only.refl _ _⟩
    case round =>
      obtain ⟨k, hk, rfl, ht, ho⟩ := hrel
      have HT := Lib.hid ht
      have ON := Lib.hid ho
      clear ht ho
      by_cases hlt : k < l.length
      · obtain ⟨x, hx⟩ : ∃ x, l[k]? = some x := ⟨_, List.getElem?_eq_getElem hlt⟩
        obtain ⟨y, hy⟩ : ∃ y, m[k]? = some y := ⟨_, List.getElem?_eq_getElem (by omega)⟩
        obtain ⟨ab, ao, hAe, _, hal, e0, e1, e2, e3, e4⟩ := (HA.out.noth ON.out).ent hx
        obtain ⟨bb, bo, hBe, _, hbl, f0, f1, f2, f3, f4⟩ := (HB.out.noth ON.out).ent hy
        rw [hAe, hBe]
        have HX := Lib.hid hx
        have HY := Lib.hid hy
        have hb0 : (0 : Int) ≤ k := by omega
        have hb1 : (k : Int) < l.length := by omega
        have hb2 : (k : Int) < m.length := by omega
        clear hx hy
        go_wp2_with fail
        refine wp_region_N Noth (by kernel_rfl) ?_
        refine wpN_take (i := 0) (d := some 16) rfl rfl (by kernel_rfl) (by kernel_rfl) (by kernel_rfl) (fun _ _ _ h => h) (sure_value (v := .slice (some ⟨ab, ao, none⟩) l.length c) (by rfl) (fun v1 h1 => by first | rfl | go_simp)) (Only.refl _ _) ?_
        simp only [Act.put, List.setIfInBounds_toArray, List.set_cons_zero, List.set_cons_succ]
        refine wpN_take (i := 1) (d := some 17) rfl rfl (by kernel_rfl) (by kernel_rfl) (by kernel_rfl) (fun _ _ _ h => h) (sure_value (v := .int .i64 (k : Int)) (by rfl) (fun v1 h1 => by first | rfl | go_simp)) (Only.refl _ _) ?_
        simp only [Act.put, List.setIfInBounds_toArray, List.set_cons_zero, List.set_cons_succ]
        refine wpN_take (i := 2) (d := some 18) rfl rfl (by kernel_rfl) (by kernel_rfl) (by kernel_rfl) (fun _ _ _ h => h) (sure_value (v := .pointer (some ⟨ab, ao + k * 5, none⟩)) (by rfl) (fun v1 h1 => by first | rfl | go_simp)) (Only.refl _ _) ?_
        simp only [Act.put, List.setIfInBounds_toArray, List.set_cons_zero, List.set_cons_succ]
        refine wpN_take (i := 3) (d := some 19) rfl rfl (by kernel_rfl) (by kernel_rfl) (by kernel_rfl) (fun _ _ _ h => h) (sure_value (v := .agg #[.string x.key, .int .i64 x.time, .int .u16 x.org, .string x.val, .int .i64 x.til]) (by rfl) (fun v1 h1 => by have q0 : v1.cell? ⟨ab, ao + k * 5, none⟩ = some (.string x.key) := ((Only.undrew h1).cell hal (fun h => h)).trans e0; have q1 : v1.cell? ⟨ab, ao + k * 5 + 1, none⟩ = some (.int .i64 x.time) := ((Only.undrew h1).cell hal (fun h => h)).trans e1; have q2 : v1.cell? ⟨ab, ao + k * 5 + 2, none⟩ = some (.int .u16 x.org) := ((Only.undrew h1).cell hal (fun h => h)).trans e2; have q3 : v1.cell? ⟨ab, ao + k * 5 + 3, none⟩ = some (.string x.val) := ((Only.undrew h1).cell hal (fun h => h)).trans e3; have q4 : v1.cell? ⟨ab, ao + k * 5 + 4, none⟩ = some (.int .i64 x.til) := ((Only.undrew h1).cell hal (fun h => h)).trans e4; go_simp)) (Only.refl _ _) ?_
        simp only [Act.put, List.setIfInBounds_toArray, List.set_cons_zero, List.set_cons_succ]
        refine wpN_take (i := 4) (d := some 20) rfl rfl (by kernel_rfl) (by kernel_rfl) (by kernel_rfl) (fun _ _ _ h => h) (sure_value (v := .slice (some ⟨bb, bo, none⟩) m.length d) (by rfl) (fun v1 h1 => by first | rfl | go_simp)) (Only.refl _ _) ?_
        simp only [Act.put, List.setIfInBounds_toArray, List.set_cons_zero, List.set_cons_succ]
        refine wpN_take (i := 5) (d := some 21) rfl rfl (by kernel_rfl) (by kernel_rfl) (by kernel_rfl) (fun _ _ _ h => h) (sure_value (v := .int .i64 (k : Int)) (by rfl) (fun v1 h1 => by first | rfl | go_simp)) (Only.refl _ _) ?_
        simp only [Act.put, List.setIfInBounds_toArray, List.set_cons_zero, List.set_cons_succ]
        refine wpN_take (i := 6) (d := some 22) rfl rfl (by kernel_rfl) (by kernel_rfl) (by kernel_rfl) (fun _ _ _ h => h) (sure_value (v := .pointer (some ⟨bb, bo + k * 5, none⟩)) (by rfl) (fun v1 h1 => by first | rfl | go_simp)) (Only.refl _ _) ?_
        simp only [Act.put, List.setIfInBounds_toArray, List.set_cons_zero, List.set_cons_succ]
        refine wpN_take (i := 7) (d := some 23) rfl rfl (by kernel_rfl) (by kernel_rfl) (by kernel_rfl) (fun _ _ _ h => h) (sure_value (v := .agg #[.string y.key, .int .i64 y.time, .int .u16 y.org, .string y.val, .int .i64 y.til]) (by rfl) (fun v1 h1 => by have q0 : v1.cell? ⟨bb, bo + k * 5, none⟩ = some (.string y.key) := ((Only.undrew h1).cell hbl (fun h => h)).trans f0; have q1 : v1.cell? ⟨bb, bo + k * 5 + 1, none⟩ = some (.int .i64 y.time) := ((Only.undrew h1).cell hbl (fun h => h)).trans f1; have q2 : v1.cell? ⟨bb, bo + k * 5 + 2, none⟩ = some (.int .u16 y.org) := ((Only.undrew h1).cell hbl (fun h => h)).trans f2; have q3 : v1.cell? ⟨bb, bo + k * 5 + 3, none⟩ = some (.string y.val) := ((Only.undrew h1).cell hbl (fun h => h)).trans f3; have q4 : v1.cell? ⟨bb, bo + k * 5 + 4, none⟩ = some (.int .i64 y.til) := ((Only.undrew h1).cell hbl (fun h => h)).trans f4; go_simp)) (Only.refl _ _) ?_
        simp only [Act.put, List.setIfInBounds_toArray, List.set_cons_zero, List.set_cons_succ]
        refine wpN_take (i := 8) (d := some 24) rfl rfl (by kernel_rfl) (by kernel_rfl) (by kernel_rfl) (fun _ _ _ h => h) (sure_ne_ent x y (by rfl) rfl rfl rfl) (Only.refl _ _) ?_
        simp only [Act.put, List.setIfInBounds_toArray, List.set_cons_zero, List.set_cons_succ]
        refine wpN_done (by kernel_rfl) (fun w7 ho => ?_) _
        have ON7 := Lib.hid (ON.out.tr (Only.undrew ho))
        clear ho e0 e1 e2 e3 e4 f0 f1 f2 f3 f4
        by_cases h0 : x = y
        · have h1 : (!x.same y) = false := by rw [same_iff.2 h0]; rfl
          have HE := Lib.hid (take_eq_g HT.out HX.out HY.out h0)
          rw [h1]
          go_wp2_with fail
          go_roundw
          case rel => exact ⟨k + 1, by omega, by go_num, HE.out, ON7.out⟩
          case measure => simp [RowKit.intOf]; omega
        · have h1 : (!x.same y) = true := by
            cases hs : x.same y
            · rfl
            · exact absurd (same_iff.1 hs) h0
          have HNE := Lib.hid (show l ≠ m from fun e => h0 (by have a := HX.out; have b := HY.out; rw [e] at a; rw [a] at b; exact Option.some.inj b))
          rw [h1]
          go_wp2
          go_ret
          exact ⟨.no rfl HNE.out, ON7.out⟩
      · obtain rfl : k = l.length := by omega
        have e : l = m := by
          have := HT.out
          rw [List.take_of_length_le (Nat.le_refl _), List.take_of_length_le (by rw [HL.out]; exact Nat.le_refl _)] at this
          exact this
        have HE := Lib.hid e
        clear e
        go_wp2
        go_ret
        exact ⟨.yes rfl HE.out, ON.out⟩
  · have hlen2 : ((l.length : Int) == m.length) = false := by simp; omega
    have HNE := Lib.hid (show l ≠ m from fun e => hlen (by rw [e]))
    go_wp2
    go_ret
    exact ⟨.no rfl HNE.out, Only.refl _ _⟩
set_option maxHeartbeats 2000000 in
theorem ref_mems (A B : Option Addr) (c d : Nat) (l m : List Mem) (w : World) (S S' : Nat → Prop) (ha : ElAt w S 3 A (l.map Mem.cl)) (hb : ElAt w S' 3 B (m.map Mem.cl)) (hl : l.length ≤ 9223372036854775807) (hm : m.length ≤ 9223372036854775807) :
    Calls Tryd.prog 58 #[.slice A l.length c, .slice B m.length d] w fun e w' => EqAns (l = m) e ∧ Only Noth w w' := by
  have HA := Lib.hid ha
  have HB := Lib.hid hb
  have hn0 : (0 : Int) ≤ l.length := by omega
  clear ha hb
  go_enter Tryd.func58, Tryd.ntmps58
  by_cases hlen : l.length = m.length
  · have hlen2 : ((l.length : Int) == m.length) = true := by simp [hlen]
    have HL := Lib.hid hlen
    go_wp2_with fail
    go_loopw [5] (fun i W => ∃ k : Nat, k ≤ l.length ∧ i = .int .i64 (k : Int) ∧ l.take k = m.take k ∧ Only Noth w W) (fun i _ => l.length - (RowKit.intOf i).toNat)
    case atStart => exact ⟨0, Nat.zero_le _, rfl, by simp, Only.refl _ _⟩
    case round =>
      obtain ⟨k, hk, rfl, ht, ho⟩ := hrel
      have HT := Lib.hid ht
      have ON := Lib.hid ho
      clear ht ho
      by_cases hlt : k < l.length
      · obtain ⟨x, hx⟩ : ∃ x, l[k]? = some x := ⟨_, List.getElem?_eq_getElem hlt⟩
        obtain ⟨y, hy⟩ : ∃ y, m[k]? = some y := ⟨_, List.getElem?_eq_getElem (by omega)⟩
        obtain ⟨ab, ao, hAe, _, hal, e0, e1, e2⟩ := (HA.out.noth ON.out).mem hx
        obtain ⟨bb, bo, hBe, _, hbl, f0, f1, f2⟩ := (HB.out.noth ON.out).mem hy
        rw [hAe, hBe]
        have HX := Lib.hid hx
        have HY := Lib.hid hy
        have hb0 : (0 : Int) ≤ k := by omega
        have hb1 : (k : Int) < l.length := by omega
        have hb2 : (k : Int) < m.length := by omega
        clear hx hy
        go_wp2_with fail
        refine wp_region_N Noth (by kernel_rfl) ?_
        refine wpN_take (i := 0) (d := some 17) rfl rfl (by kernel_rfl) (by kernel_rfl) (by kernel_rfl) (fun _ _ _ h => h) (sure_value (v := .slice (some ⟨ab, ao, none⟩) l.length c) (by rfl) (fun v1 h1 => by first | rfl | go_simp)) (Only.refl _ _) ?_
        simp only [Act.put, List.setIfInBounds_toArray, List.set_cons_zero, List.set_cons_succ]
        refine wpN_take (i := 1) (d := some 18) rfl rfl (by kernel_rfl) (by kernel_rfl) (by kernel_rfl) (fun _ _ _ h => h) (sure_value (v := .int .i64 (k : Int)) (by rfl) (fun v1 h1 => by first | rfl | go_simp)) (Only.refl _ _) ?_
        simp only [Act.put, List.setIfInBounds_toArray, List.set_cons_zero, List.set_cons_succ]
        refine wpN_take (i := 2) (d := some 19) rfl rfl (by kernel_rfl) (by kernel_rfl) (by kernel_rfl) (fun _ _ _ h => h) (sure_value (v := .pointer (some ⟨ab, ao + k * 3, none⟩)) (by rfl) (fun v1 h1 => by first | rfl | go_simp)) (Only.refl _ _) ?_
        simp only [Act.put, List.setIfInBounds_toArray, List.set_cons_zero, List.set_cons_succ]
        refine wpN_take (i := 3) (d := some 20) rfl rfl (by kernel_rfl) (by kernel_rfl) (by kernel_rfl) (fun _ _ _ h => h) (sure_value (v := .agg #[.int .u16 x.node, .int .u8 x.st, .int .i64 x.inc]) (by rfl) (fun v1 h1 => by have q0 : v1.cell? ⟨ab, ao + k * 3, none⟩ = some (.int .u16 x.node) := ((Only.undrew h1).cell hal (fun h => h)).trans e0; have q1 : v1.cell? ⟨ab, ao + k * 3 + 1, none⟩ = some (.int .u8 x.st) := ((Only.undrew h1).cell hal (fun h => h)).trans e1; have q2 : v1.cell? ⟨ab, ao + k * 3 + 2, none⟩ = some (.int .i64 x.inc) := ((Only.undrew h1).cell hal (fun h => h)).trans e2; go_simp)) (Only.refl _ _) ?_
        simp only [Act.put, List.setIfInBounds_toArray, List.set_cons_zero, List.set_cons_succ]
        refine wpN_take (i := 4) (d := some 21) rfl rfl (by kernel_rfl) (by kernel_rfl) (by kernel_rfl) (fun _ _ _ h => h) (sure_value (v := .slice (some ⟨bb, bo, none⟩) m.length d) (by rfl) (fun v1 h1 => by first | rfl | go_simp)) (Only.refl _ _) ?_
        simp only [Act.put, List.setIfInBounds_toArray, List.set_cons_zero, List.set_cons_succ]
        refine wpN_take (i := 5) (d := some 22) rfl rfl (by kernel_rfl) (by kernel_rfl) (by kernel_rfl) (fun _ _ _ h => h) (sure_value (v := .int .i64 (k : Int)) (by rfl) (fun v1 h1 => by first | rfl | go_simp)) (Only.refl _ _) ?_
        simp only [Act.put, List.setIfInBounds_toArray, List.set_cons_zero, List.set_cons_succ]
        refine wpN_take (i := 6) (d := some 23) rfl rfl (by kernel_rfl) (by kernel_rfl) (by kernel_rfl) (fun _ _ _ h => h) (sure_value (v := .pointer (some ⟨bb, bo + k * 3, none⟩)) (by rfl) (fun v1 h1 => by first | rfl | go_simp)) (Only.refl _ _) ?_
        simp only [Act.put, List.setIfInBounds_toArray, List.set_cons_zero, List.set_cons_succ]
        refine wpN_take (i := 7) (d := some 24) rfl rfl (by kernel_rfl) (by kernel_rfl) (by kernel_rfl) (fun _ _ _ h => h) (sure_value (v := .agg #[.int .u16 y.node, .int .u8 y.st, .int .i64 y.inc]) (by rfl) (fun v1 h1 => by have q0 : v1.cell? ⟨bb, bo + k * 3, none⟩ = some (.int .u16 y.node) := ((Only.undrew h1).cell hbl (fun h => h)).trans f0; have q1 : v1.cell? ⟨bb, bo + k * 3 + 1, none⟩ = some (.int .u8 y.st) := ((Only.undrew h1).cell hbl (fun h => h)).trans f1; have q2 : v1.cell? ⟨bb, bo + k * 3 + 2, none⟩ = some (.int .i64 y.inc) := ((Only.undrew h1).cell hbl (fun h => h)).trans f2; go_simp)) (Only.refl _ _) ?_
        simp only [Act.put, List.setIfInBounds_toArray, List.set_cons_zero, List.set_cons_succ]
        refine wpN_take (i := 8) (d := some 25) rfl rfl (by kernel_rfl) (by kernel_rfl) (by kernel_rfl) (fun _ _ _ h => h) (sure_ne_mem x y (by rfl) rfl rfl rfl) (Only.refl _ _) ?_
        simp only [Act.put, List.setIfInBounds_toArray, List.set_cons_zero, List.set_cons_succ]
        refine wpN_done (by kernel_rfl) (fun w7 ho => ?_) _
        have ON7 := Lib.hid (ON.out.tr (Only.undrew ho))
        clear ho e0 e1 e2 f0 f1 f2
        by_cases h0 : x = y
        · have h1 : (!x.same y) = false := by rw [memsame_iff.2 h0]; rfl
          have HE := Lib.hid (take_eq_g HT.out HX.out HY.out h0)
          rw [h1]
          go_wp2_with fail
          go_roundw
          case rel => exact ⟨k + 1, by omega, by go_num, HE.out, ON7.out⟩
          case measure => simp [RowKit.intOf]; omega
        · have h1 : (!x.same y) = true := by
            cases hs : x.same y
            · rfl
            · exact absurd (memsame_iff.1 hs) h0
          have HNE := Lib.hid (show l ≠ m from fun e => h0 (by have a := HX.out; have b := HY.out; rw [e] at a; rw [a] at b; exact Option.some.inj b))
          rw [h1]
          go_wp2
          go_ret
          exact ⟨.no rfl HNE.out, ON7.out⟩
      · obtain rfl : k = l.length := by omega
        have e : l = m := by
          have := HT.out
          rw [List.take_of_length_le (Nat.le_refl _), List.take_of_length_le (by rw [HL.out]; exact Nat.le_refl _)] at this
          exact this
        have HE := Lib.hid e
        clear e
        go_wp2
        go_ret
        exact ⟨.yes rfl HE.out, ON.out⟩
  · have hlen2 : ((l.length : Int) == m.length) = false := by simp; omega
    have HNE := Lib.hid (show l ≠ m from fun e => hlen (by rw [e]))
    go_wp2
    go_ret
    exact ⟨.no rfl HNE.out, Only.refl _ _⟩
set_option maxHeartbeats 2000000 in
theorem ref_ents (A B : Option Addr) (c d : Nat) (l m : List Ent) (w : World) (S S' : Nat → Prop) (ha : ElAt w S 5 A (l.map Ent.cl)) (hb : ElAt w S' 5 B (m.map Ent.cl)) (hl : l.length ≤ 9223372036854775807) (hm : m.length ≤ 9223372036854775807) :
    Calls Tryd.prog 59 #[.slice A l.length c, .slice B m.length d] w fun e w' => EqAns (l = m) e ∧ Only Noth w w' := by
  have HA := Lib.hid ha
  have HB := Lib.hid hb
  have hn0 : (0 : Int) ≤ l.length := by omega
  clear ha hb
  go_enter Tryd.func59, Tryd.ntmps59
  by_cases hlen : l.length = m.length
  · have hlen2 : ((l.length : Int) == m.length) = true := by simp [hlen]
    have HL := Lib.hid hlen
    go_wp2_with fail
    go_loopw [5] (fun i W => ∃ k : Nat, k ≤ l.length ∧ i = .int .i64 (k : Int) ∧ l.take k = m.take k ∧ Only Noth w W) (fun i _ => l.length - (RowKit.intOf i).toNat)
    case atStart => exact ⟨0, Nat.zero_le _, rfl, by simp, Only.refl _ _⟩
    case round =>
      obtain ⟨k, hk, rfl, ht, ho⟩ := hrel
      have HT := Lib.hid ht
      have ON := Lib.hid ho
      clear ht ho
      by_cases hlt : k < l.length
      · obtain ⟨x, hx⟩ : ∃ x, l[k]? = some x := ⟨_, List.getElem?_eq_getElem hlt⟩
        obtain ⟨y, hy⟩ : ∃ y, m[k]? = some y := ⟨_, List.getElem?_eq_getElem (by omega)⟩
        obtain ⟨ab, ao, hAe, _, hal, e0, e1, e2, e3, e4⟩ := (HA.out.noth ON.out).ent hx
        obtain ⟨bb, bo, hBe, _, hbl, f0, f1, f2, f3, f4⟩ := (HB.out.noth ON.out).ent hy
        rw [hAe, hBe]
        have HX := Lib.hid hx
        have HY := Lib.hid hy
        have hb0 : (0 : Int) ≤ k := by omega
        have hb1 : (k : Int) < l.length := by omega
        have hb2 : (k : Int) < m.length := by omega
        clear hx hy
        go_wp2_with fail
        refine wp_region_N Noth (by kernel_rfl) ?_
        refine wpN_take (i := 0) (d := some 17) rfl rfl (by kernel_rfl) (by kernel_rfl) (by kernel_rfl) (fun _ _ _ h => h) (sure_value (v := .slice (some ⟨ab, ao, none⟩) l.length c) (by rfl) (fun v1 h1 => by first | rfl | go_simp)) (Only.refl _ _) ?_
        simp only [Act.put, List.setIfInBounds_toArray, List.set_cons_zero, List.set_cons_succ]
        refine wpN_take (i := 1) (d := some 18) rfl rfl (by kernel_rfl) (by kernel_rfl) (by kernel_rfl) (fun _ _ _ h => h) (sure_value (v := .int .i64 (k : Int)) (by rfl) (fun v1 h1 => by first | rfl | go_simp)) (Only.refl _ _) ?_
        simp only [Act.put, List.setIfInBounds_toArray, List.set_cons_zero, List.set_cons_succ]
        refine wpN_take (i := 2) (d := some 19) rfl rfl (by kernel_rfl) (by kernel_rfl) (by kernel_rfl) (fun _ _ _ h => h) (sure_value (v := .pointer (some ⟨ab, ao + k * 5, none⟩)) (by rfl) (fun v1 h1 => by first | rfl | go_simp)) (Only.refl _ _) ?_
        simp only [Act.put, List.setIfInBounds_toArray, List.set_cons_zero, List.set_cons_succ]
        refine wpN_take (i := 3) (d := some 20) rfl rfl (by kernel_rfl) (by kernel_rfl) (by kernel_rfl) (fun _ _ _ h => h) (sure_value (v := .agg #[.string x.key, .int .i64 x.time, .int .u16 x.org, .string x.val, .int .i64 x.til]) (by rfl) (fun v1 h1 => by have q0 : v1.cell? ⟨ab, ao + k * 5, none⟩ = some (.string x.key) := ((Only.undrew h1).cell hal (fun h => h)).trans e0; have q1 : v1.cell? ⟨ab, ao + k * 5 + 1, none⟩ = some (.int .i64 x.time) := ((Only.undrew h1).cell hal (fun h => h)).trans e1; have q2 : v1.cell? ⟨ab, ao + k * 5 + 2, none⟩ = some (.int .u16 x.org) := ((Only.undrew h1).cell hal (fun h => h)).trans e2; have q3 : v1.cell? ⟨ab, ao + k * 5 + 3, none⟩ = some (.string x.val) := ((Only.undrew h1).cell hal (fun h => h)).trans e3; have q4 : v1.cell? ⟨ab, ao + k * 5 + 4, none⟩ = some (.int .i64 x.til) := ((Only.undrew h1).cell hal (fun h => h)).trans e4; go_simp)) (Only.refl _ _) ?_
        simp only [Act.put, List.setIfInBounds_toArray, List.set_cons_zero, List.set_cons_succ]
        refine wpN_take (i := 4) (d := some 21) rfl rfl (by kernel_rfl) (by kernel_rfl) (by kernel_rfl) (fun _ _ _ h => h) (sure_value (v := .slice (some ⟨bb, bo, none⟩) m.length d) (by rfl) (fun v1 h1 => by first | rfl | go_simp)) (Only.refl _ _) ?_
        simp only [Act.put, List.setIfInBounds_toArray, List.set_cons_zero, List.set_cons_succ]
        refine wpN_take (i := 5) (d := some 22) rfl rfl (by kernel_rfl) (by kernel_rfl) (by kernel_rfl) (fun _ _ _ h => h) (sure_value (v := .int .i64 (k : Int)) (by rfl) (fun v1 h1 => by first | rfl | go_simp)) (Only.refl _ _) ?_
        simp only [Act.put, List.setIfInBounds_toArray, List.set_cons_zero, List.set_cons_succ]
        refine wpN_take (i := 6) (d := some 23) rfl rfl (by kernel_rfl) (by kernel_rfl) (by kernel_rfl) (fun _ _ _ h => h) (sure_value (v := .pointer (some ⟨bb, bo + k * 5, none⟩)) (by rfl) (fun v1 h1 => by first | rfl | go_simp)) (Only.refl _ _) ?_
        simp only [Act.put, List.setIfInBounds_toArray, List.set_cons_zero, List.set_cons_succ]
        refine wpN_take (i := 7) (d := some 24) rfl rfl (by kernel_rfl) (by kernel_rfl) (by kernel_rfl) (fun _ _ _ h => h) (sure_value (v := .agg #[.string y.key, .int .i64 y.time, .int .u16 y.org, .string y.val, .int .i64 y.til]) (by rfl) (fun v1 h1 => by have q0 : v1.cell? ⟨bb, bo + k * 5, none⟩ = some (.string y.key) := ((Only.undrew h1).cell hbl (fun h => h)).trans f0; have q1 : v1.cell? ⟨bb, bo + k * 5 + 1, none⟩ = some (.int .i64 y.time) := ((Only.undrew h1).cell hbl (fun h => h)).trans f1; have q2 : v1.cell? ⟨bb, bo + k * 5 + 2, none⟩ = some (.int .u16 y.org) := ((Only.undrew h1).cell hbl (fun h => h)).trans f2; have q3 : v1.cell? ⟨bb, bo + k * 5 + 3, none⟩ = some (.string y.val) := ((Only.undrew h1).cell hbl (fun h => h)).trans f3; have q4 : v1.cell? ⟨bb, bo + k * 5 + 4, none⟩ = some (.int .i64 y.til) := ((Only.undrew h1).cell hbl (fun h => h)).trans f4; go_simp)) (Only.refl _ _) ?_
        simp only [Act.put, List.setIfInBounds_toArray, List.set_cons_zero, List.set_cons_succ]
        refine wpN_take (i := 8) (d := some 25) rfl rfl (by kernel_rfl) (by kernel_rfl) (by kernel_rfl) (fun _ _ _ h => h) (sure_ne_ent x y (by rfl) rfl rfl rfl) (Only.refl _ _) ?_
        simp only [Act.put, List.setIfInBounds_toArray, List.set_cons_zero, List.set_cons_succ]
        refine wpN_done (by kernel_rfl) (fun w7 ho => ?_) _
        have ON7 := Lib.hid (ON.out.tr (Only.undrew ho))
        clear ho e0 e1 e2 e3 e4 f0 f1 f2 f3 f4
        by_cases h0 : x = y
        · have h1 : (!x.same y) = false := by rw [same_iff.2 h0]; rfl
          have HE := Lib.hid (take_eq_g HT.out HX.out HY.out h0)
          rw [h1]
          go_wp2_with fail
          go_roundw
          case rel => exact ⟨k + 1, by omega, by go_num, HE.out, ON7.out⟩
          case measure => simp [RowKit.intOf]; omega
        · have h1 : (!x.same y) = true := by
            cases hs : x.same y
            · rfl
            · exact absurd (same_iff.1 hs) h0
          have HNE := Lib.hid (show l ≠ m from fun e => h0 (by have a := HX.out; have b := HY.out; rw [e] at a; rw [a] at b; exact Option.some.inj b))
          rw [h1]
          go_wp2
          go_ret
          exact ⟨.no rfl HNE.out, ON7.out⟩
      · obtain rfl : k = l.length := by omega
        have e : l = m := by
          have := HT.out
          rw [List.take_of_length_le (Nat.le_refl _), List.take_of_length_le (by rw [HL.out]; exact Nat.le_refl _)] at this
          exact this
        have HE := Lib.hid e
        clear e
        go_wp2
        go_ret
        exact ⟨.yes rfl HE.out, ON.out⟩
  · have hlen2 : ((l.length : Int) == m.length) = false := by simp; omega
    have HNE := Lib.hid (show l ≠ m from fun e => hlen (by rw [e]))
    go_wp2
    go_ret
    exact ⟨.no rfl HNE.out, Only.refl _ _⟩
end Go.Proofs.YtjdgmnaemopfdaaDoor
namespace Go.Proofs.YtjdgmnaemopfdaaDoor
open Go.RowKit Go.Lib
set_option linter.unusedVariables false
set_option linter.unusedSimpArgs false
set_option maxRecDepth 100000
attribute [local go_sem ↓] Go.wp_at_zero Go.wp_at_succ

theorem pkt_eq {p q : Pkt} : p = q ↔ p.kind = q.kind ∧ p.frm = q.frm ∧ p.abt = q.abt ∧ p.seq = q.seq ∧ p.ms = q.ms ∧ p.es = q.es := by
  cases p
  cases q
  simp
set_option maxHeartbeats 2000000 in
theorem pk_same (A : Option Addr) (c : Nat) (B : Option Addr) (d : Nat) (p : Pkt) (A' : Option Addr) (c' : Nat) (B' : Option Addr) (d' : Nat) (q : Pkt) (w : World) (hat : PkAt w A c B d p) (hat' : PkAt w A' c' B' d' q) : Calls Tryd.prog 39 #[.agg #[.int .u8 p.kind, .int .u16 p.frm, .int .u16 p.abt, .int .i64 p.seq, .slice A p.ms.length c, .slice B p.es.length d], .agg #[.int .u8 q.kind, .int .u16 q.frm, .int .u16 q.abt, .int .i64 q.seq, .slice A' q.ms.length c', .slice B' q.es.length d']] w
    fun e w' => EqAns (p = q) e ∧ Only Noth w w' := by
  have AP := Lib.hid hat
  have AQ := Lib.hid hat'
  have B0 := Lib.hid ((Hld.new w 50 #[.int .u8 p.kind, .int .u16 p.frm, .int .u16 p.abt, .int .i64 p.seq, .slice A p.ms.length c, .slice B p.es.length d]).only ((Only.refl Noth (w.alloc (.cells #[.int .u8 p.kind, .int .u16 p.frm, .int .u16 p.abt, .int .i64 p.seq, .slice A p.ms.length c, .slice B p.es.length d] 50))).alloc (.cells #[.int .u8 q.kind, .int .u16 q.frm, .int .u16 q.abt, .int .i64 q.seq, .slice A' q.ms.length c', .slice B' q.es.length d'] 50)) (fun h => h))
  have B1 := Lib.hid (Hld.new (w.alloc (.cells #[.int .u8 p.kind, .int .u16 p.frm, .int .u16 p.abt, .int .i64 p.seq, .slice A p.ms.length c, .slice B p.es.length d] 50)) 50 #[.int .u8 q.kind, .int .u16 q.frm, .int .u16 q.abt, .int .i64 q.seq, .slice A' q.ms.length c', .slice B' q.es.length d'])
  have ON := Lib.hid (((Only.refl Noth w).alloc (.cells #[.int .u8 p.kind, .int .u16 p.frm, .int .u16 p.abt, .int .i64 p.seq, .slice A p.ms.length c, .slice B p.es.length d] 50)).alloc (.cells #[.int .u8 q.kind, .int .u16 q.frm, .int .u16 q.abt, .int .i64 q.seq, .slice A' q.ms.length c', .slice B' q.es.length d'] 50))
  clear hat hat'
  go_enter Tryd.func39, Tryd.ntmps39
  obtain h0 | h0 : (p.kind == q.kind) = false ∨ (p.kind == q.kind) = true := by cases (p.kind == q.kind) <;> simp
  · go_wp2
    go_ret
    exact ⟨.no rfl (fun e => by rw [e] at h0; simp at h0), ON.out⟩
  obtain h1 | h1 : (p.frm == q.frm) = false ∨ (p.frm == q.frm) = true := by cases (p.frm == q.frm) <;> simp
  · go_wp2
    go_ret
    exact ⟨.no rfl (fun e => by rw [e] at h1; simp at h1), ON.out⟩
  obtain h2 | h2 : (p.abt == q.abt) = false ∨ (p.abt == q.abt) = true := by cases (p.abt == q.abt) <;> simp
  · go_wp2
    go_ret
    exact ⟨.no rfl (fun e => by rw [e] at h2; simp at h2), ON.out⟩
  obtain h3 | h3 : (p.seq == q.seq) = false ∨ (p.seq == q.seq) = true := by cases (p.seq == q.seq) <;> simp
  · go_wp2
    go_ret
    exact ⟨.no rfl (fun e => by rw [e] at h3; simp at h3), ON.out⟩
  go_wp2_with fail
  refine (eq_mems A A' c c' p.ms q.ms _ _ _ (AP.out.noth ON.out).ms (AQ.out.noth ON.out).ms (by have := AP.out.c0; have := AP.out.c1; omega) (by have := AQ.out.c0; have := AQ.out.c1; omega)).mono ?_
  rintro e w1 ⟨⟨b, rfl, hb⟩, ho⟩
  have HB := Lib.hid hb
  have ON1 := Lib.hid (ON.out.tr ho)
  have X0 := (B0.out.only ho (fun h => h)).cell 5
  have X1 := (B1.out.only ho (fun h => h)).cell 5
  simp only [World.size_alloc] at X1
  have c0 : w1.cell? ⟨w.heap.size, 5, none⟩ = some (.slice B p.es.length d) := X0
  have c1 : w1.cell? ⟨w.heap.size + 1, 5, none⟩ = some (.slice B' q.es.length d') := X1
  clear hb ho X0 X1
  cases b
  · go_wp2
    go_ret
    exact ⟨.no rfl (fun e => absurd (HB.out.2 (by rw [e])) (by decide)), ON1.out⟩
  go_wp2_with fail
  refine (eq_ents B B' d d' p.es q.es _ _ _ (AP.out.noth ON1.out).es (AQ.out.noth ON1.out).es (by have := AP.out.d0; have := AP.out.d1; omega) (by have := AQ.out.d0; have := AQ.out.d1; omega)).mono ?_
  rintro e w2 ⟨⟨b2, rfl, hb2⟩, ho⟩
  have HB2 := Lib.hid hb2
  have ON2 := Lib.hid (ON1.out.tr ho)
  clear hb2 ho
  cases b2
  · go_wp2
    go_ret
    exact ⟨.no rfl (fun e => absurd (HB2.out.2 (by rw [e])) (by decide)), ON2.out⟩
  · go_wp2
    go_ret
    exact ⟨.yes rfl (pkt_eq.2 ⟨eq_of_beq h0, eq_of_beq h1, eq_of_beq h2, eq_of_beq h3, HB.out.1 (by simp), HB2.out.1 (by simp)⟩), ON2.out⟩
set_option maxHeartbeats 2000000 in
theorem ref_same (A : Option Addr) (c : Nat) (B : Option Addr) (d : Nat) (p : Pkt) (A' : Option Addr) (c' : Nat) (B' : Option Addr) (d' : Nat) (q : Pkt) (w : World) (hat : PkAt w A c B d p) (hat' : PkAt w A' c' B' d' q) : Calls Tryd.prog 34 #[.agg #[.int .u8 p.kind, .int .u16 p.frm, .int .u16 p.abt, .int .i64 p.seq, .slice A p.ms.length c, .slice B p.es.length d], .agg #[.int .u8 q.kind, .int .u16 q.frm, .int .u16 q.abt, .int .i64 q.seq, .slice A' q.ms.length c', .slice B' q.es.length d']] w
    fun e w' => EqAns (p = q) e ∧ Only Noth w w' := by
  have AP := Lib.hid hat
  have AQ := Lib.hid hat'
  have B0 := Lib.hid ((Hld.new w 50 #[.int .u8 p.kind, .int .u16 p.frm, .int .u16 p.abt, .int .i64 p.seq, .slice A p.ms.length c, .slice B p.es.length d]).only ((Only.refl Noth (w.alloc (.cells #[.int .u8 p.kind, .int .u16 p.frm, .int .u16 p.abt, .int .i64 p.seq, .slice A p.ms.length c, .slice B p.es.length d] 50))).alloc (.cells #[.int .u8 q.kind, .int .u16 q.frm, .int .u16 q.abt, .int .i64 q.seq, .slice A' q.ms.length c', .slice B' q.es.length d'] 50)) (fun h => h))
  have B1 := Lib.hid (Hld.new (w.alloc (.cells #[.int .u8 p.kind, .int .u16 p.frm, .int .u16 p.abt, .int .i64 p.seq, .slice A p.ms.length c, .slice B p.es.length d] 50)) 50 #[.int .u8 q.kind, .int .u16 q.frm, .int .u16 q.abt, .int .i64 q.seq, .slice A' q.ms.length c', .slice B' q.es.length d'])
  have ON := Lib.hid (((Only.refl Noth w).alloc (.cells #[.int .u8 p.kind, .int .u16 p.frm, .int .u16 p.abt, .int .i64 p.seq, .slice A p.ms.length c, .slice B p.es.length d] 50)).alloc (.cells #[.int .u8 q.kind, .int .u16 q.frm, .int .u16 q.abt, .int .i64 q.seq, .slice A' q.ms.length c', .slice B' q.es.length d'] 50))
  clear hat hat'
  go_enter Tryd.func34, Tryd.ntmps34
  obtain h0 | h0 : (p.kind == q.kind) = false ∨ (p.kind == q.kind) = true := by cases (p.kind == q.kind) <;> simp
  · go_wp2
    go_ret
    exact ⟨.no rfl (fun e => by rw [e] at h0; simp at h0), ON.out⟩
  obtain h1 | h1 : (p.frm == q.frm) = false ∨ (p.frm == q.frm) = true := by cases (p.frm == q.frm) <;> simp
  · go_wp2
    go_ret
    exact ⟨.no rfl (fun e => by rw [e] at h1; simp at h1), ON.out⟩
  obtain h2 | h2 : (p.abt == q.abt) = false ∨ (p.abt == q.abt) = true := by cases (p.abt == q.abt) <;> simp
  · go_wp2
    go_ret
    exact ⟨.no rfl (fun e => by rw [e] at h2; simp at h2), ON.out⟩
  obtain h3 | h3 : (p.seq == q.seq) = false ∨ (p.seq == q.seq) = true := by cases (p.seq == q.seq) <;> simp
  · go_wp2
    go_ret
    exact ⟨.no rfl (fun e => by rw [e] at h3; simp at h3), ON.out⟩
  go_wp2_with fail
  refine (ref_mems A A' c c' p.ms q.ms _ _ _ (AP.out.noth ON.out).ms (AQ.out.noth ON.out).ms (by have := AP.out.c0; have := AP.out.c1; omega) (by have := AQ.out.c0; have := AQ.out.c1; omega)).mono ?_
  rintro e w1 ⟨⟨b, rfl, hb⟩, ho⟩
  have HB := Lib.hid hb
  have ON1 := Lib.hid (ON.out.tr ho)
  have X0 := (B0.out.only ho (fun h => h)).cell 5
  have X1 := (B1.out.only ho (fun h => h)).cell 5
  simp only [World.size_alloc] at X1
  have c0 : w1.cell? ⟨w.heap.size, 5, none⟩ = some (.slice B p.es.length d) := X0
  have c1 : w1.cell? ⟨w.heap.size + 1, 5, none⟩ = some (.slice B' q.es.length d') := X1
  clear hb ho X0 X1
  cases b
  · go_wp2
    go_ret
    exact ⟨.no rfl (fun e => absurd (HB.out.2 (by rw [e])) (by decide)), ON1.out⟩
  go_wp2_with fail
  refine (ref_ents B B' d d' p.es q.es _ _ _ (AP.out.noth ON1.out).es (AQ.out.noth ON1.out).es (by have := AP.out.d0; have := AP.out.d1; omega) (by have := AQ.out.d0; have := AQ.out.d1; omega)).mono ?_
  rintro e w2 ⟨⟨b2, rfl, hb2⟩, ho⟩
  have HB2 := Lib.hid hb2
  have ON2 := Lib.hid (ON1.out.tr ho)
  clear hb2 ho
  cases b2
  · go_wp2
    go_ret
    exact ⟨.no rfl (fun e => absurd (HB2.out.2 (by rw [e])) (by decide)), ON2.out⟩
  · go_wp2
    go_ret
    exact ⟨.yes rfl (pkt_eq.2 ⟨eq_of_beq h0, eq_of_beq h1, eq_of_beq h2, eq_of_beq h3, HB.out.1 (by simp), HB2.out.1 (by simp)⟩), ON2.out⟩
end Go.Proofs.YtjdgmnaemopfdaaDoor
