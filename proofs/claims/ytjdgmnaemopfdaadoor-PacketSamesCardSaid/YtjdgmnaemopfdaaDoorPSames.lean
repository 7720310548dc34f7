/- Layer 13: whether two packets are one, how a member is laid, how long an entry is. -/
import Derived.Test.YtjdgmnaemopfdaaDoorRefZ
import Derived.Test.YtjdgmnaemopfdaaDoorSameP
import Derived.Test.YtjdgmnaemopfdaaDoorPkA
namespace Go.Proofs.YtjdgmnaemopfdaaDoor
open Go.RowKit Go.Lib
set_option linter.unusedVariables false
set_option linter.unusedSimpArgs false
set_option maxRecDepth 100000
attribute [local go_sem ↓] Go.wp_at_zero Go.wp_at_succ

theorem same_v {D : Bool} {p q : Pkt} (hD : D = true ↔ p = q) {f : FuncId} {args : Array Value} {w : World} (h : Calls Tryd.prog f args w fun e w' => EqAns (p = q) e ∧ Only Noth w w') : Calls Tryd.prog f args w fun e w' => e = .returned (.bool D) ∧ Only Noth w w' := by
  refine h.mono ?_
  rintro e w' ⟨⟨b, rfl, hb⟩, ho⟩
  rw [Bool.eq_iff_iff.2 (hb.trans hD.symm)]
  exact ⟨rfl, ho⟩
theorem sure_six {ops : Array Oper} {o : Oper} {a : Act} {F : Nat → Prop} {w0 : World} {g : Nat} {x0 x1 x2 x3 x4 x5 : Value} {t : TypeId} (h : Hld w0 g t #[x0, x1, x2, x3, x4, x5]) (hF : ¬ F g) (hw : Region.wanted o (yielded ops a.tmps) = true)
    (he : ∀ w, w.cell? ⟨g, 0, none⟩ = some x0 → w.cell? ⟨g, 1, none⟩ = some x1 → w.cell? ⟨g, 2, none⟩ = some x2 → w.cell? ⟨g, 3, none⟩ = some x3 → w.cell? ⟨g, 4, none⟩ = some x4 → w.cell? ⟨g, 5, none⟩ = some x5 → (execOp a.eval o).run Tryd.prog w = .ok (.value (.agg #[x0, x1, x2, x3, x4, x5])) w) : Sure Tryd.prog ops (Only Noth) (Only F w0) o (.agg #[x0, x1, x2, x3, x4, x5]) a :=
  sure_value hw (fun w1 k1 => by obtain ⟨h0, h1, h2, h3, h4, h5⟩ := (h.only k1 hF).six; exact he w1 h0 h1 h2 h3 h4 h5)
theorem sure_three {ops : Array Oper} {o : Oper} {a : Act} {F : Nat → Prop} {w0 : World} {g : Nat} {x0 x1 x2 : Value} {t : TypeId} (h : Hld w0 g t #[x0, x1, x2]) (hF : ¬ F g) (hw : Region.wanted o (yielded ops a.tmps) = true)
    (he : ∀ w, w.cell? ⟨g, 0, none⟩ = some x0 → w.cell? ⟨g, 1, none⟩ = some x1 → w.cell? ⟨g, 2, none⟩ = some x2 → (execOp a.eval o).run Tryd.prog w = .ok (.value (.agg #[x0, x1, x2])) w) : Sure Tryd.prog ops (Only Noth) (Only F w0) o (.agg #[x0, x1, x2]) a :=
  sure_value hw (fun w1 k1 => he w1 ((h.only k1 hF).cell 0) ((h.only k1 hF).cell 1) ((h.only k1 hF).cell 2))
set_option maxHeartbeats 8000000 in
theorem psames_walk (A : Option Addr) (c : Nat) (B : Option Addr) (d : Nat) (p : Pkt) (hf : p.Fit) (A' : Option Addr) (c' : Nat) (B' : Option Addr) (d' : Nat) (q : Pkt) (hf' : q.Fit) (m : Mem) (hm : m.Ok) (w : World) (hat : PkAt w A c B d p) (hat' : PkAt w A' c' B' d' q) (he : Env w) : Calls Tryd.prog 11 #[.agg #[.int .u8 p.kind, .int .u16 p.frm, .int .u16 p.abt, .int .i64 p.seq, .slice A p.ms.length c, .slice B p.es.length d], .agg #[.int .u8 q.kind, .int .u16 q.frm, .int .u16 q.abt, .int .i64 q.seq, .slice A' q.ms.length c', .slice B' q.es.length d'], .agg #[.int .u16 m.node, .int .u8 m.st, .int .i64 m.inc]] w
    fun e w' => e = .returned (.bool true) ∧ Only Noth w w' := by
  have HP := Lib.hid hf
  have HM := Lib.hid hm
  have ON := Lib.hid ((((Only.refl Noth w).alloc (.cells #[.int .u8 p.kind, .int .u16 p.frm, .int .u16 p.abt, .int .i64 p.seq, .slice A p.ms.length c, .slice B p.es.length d] 50)).alloc (.cells #[.int .u8 q.kind, .int .u16 q.frm, .int .u16 q.abt, .int .i64 q.seq, .slice A' q.ms.length c', .slice B' q.es.length d'] 50)).alloc (.cells #[.int .u16 m.node, .int .u8 m.st, .int .i64 m.inc] 68))
  have AT := Lib.hid (hat.noth ON.out)
  have AQ := Lib.hid (hat'.noth ON.out)
  have E := Lib.hid (he.noth ON.out)
  have BP := Lib.hid (((Hld.new w 50 #[.int .u8 p.kind, .int .u16 p.frm, .int .u16 p.abt, .int .i64 p.seq, .slice A p.ms.length c, .slice B p.es.length d]).only ((Only.refl Noth (w.alloc (.cells #[.int .u8 p.kind, .int .u16 p.frm, .int .u16 p.abt, .int .i64 p.seq, .slice A p.ms.length c, .slice B p.es.length d] 50))).alloc (.cells #[.int .u8 q.kind, .int .u16 q.frm, .int .u16 q.abt, .int .i64 q.seq, .slice A' q.ms.length c', .slice B' q.es.length d'] 50)) (fun h => h)).only ((Only.refl Noth ((w.alloc (.cells #[.int .u8 p.kind, .int .u16 p.frm, .int .u16 p.abt, .int .i64 p.seq, .slice A p.ms.length c, .slice B p.es.length d] 50)).alloc (.cells #[.int .u8 q.kind, .int .u16 q.frm, .int .u16 q.abt, .int .i64 q.seq, .slice A' q.ms.length c', .slice B' q.es.length d'] 50))).alloc (.cells #[.int .u16 m.node, .int .u8 m.st, .int .i64 m.inc] 68)) (fun h => h))
  have bq := (Hld.new (w.alloc (.cells #[.int .u8 p.kind, .int .u16 p.frm, .int .u16 p.abt, .int .i64 p.seq, .slice A p.ms.length c, .slice B p.es.length d] 50)) 50 #[.int .u8 q.kind, .int .u16 q.frm, .int .u16 q.abt, .int .i64 q.seq, .slice A' q.ms.length c', .slice B' q.es.length d']).only ((Only.refl Noth ((w.alloc (.cells #[.int .u8 p.kind, .int .u16 p.frm, .int .u16 p.abt, .int .i64 p.seq, .slice A p.ms.length c, .slice B p.es.length d] 50)).alloc (.cells #[.int .u8 q.kind, .int .u16 q.frm, .int .u16 q.abt, .int .i64 q.seq, .slice A' q.ms.length c', .slice B' q.es.length d'] 50))).alloc (.cells #[.int .u16 m.node, .int .u8 m.st, .int .i64 m.inc] 68)) (fun h => h)
  have bm := Hld.new ((w.alloc (.cells #[.int .u8 p.kind, .int .u16 p.frm, .int .u16 p.abt, .int .i64 p.seq, .slice A p.ms.length c, .slice B p.es.length d] 50)).alloc (.cells #[.int .u8 q.kind, .int .u16 q.frm, .int .u16 q.abt, .int .i64 q.seq, .slice A' q.ms.length c', .slice B' q.es.length d'] 50)) 68 #[.int .u16 m.node, .int .u8 m.st, .int .i64 m.inc]
  have HK := Lib.hid (show ∀ e ∈ p.es, e.key.size ≤ 9223372036854775807 ∧ e.val.size ≤ 9223372036854775807 from fun e h => (hf.e e h).2)
  have HK' := Lib.hid (show ∀ e ∈ q.es, e.key.size ≤ 9223372036854775807 ∧ e.val.size ≤ 9223372036854775807 from fun e h => (hf'.e e h).2)
  simp only [World.size_alloc] at bq bm
  have BQ := Lib.hid bq
  have BM := Lib.hid bm
  have el0 : (0 : Int) ≤ p.es.length := by omega
  obtain ⟨D, hD⟩ : ∃ D : Bool, (D = true ↔ p = q) := ⟨@decide (p = q) (Classical.propDecidable _), @decide_eq_true_iff (p = q) (Classical.propDecidable _)⟩
  have HD := Lib.hid hD
  obtain ⟨w0, hw0⟩ : ∃ x, x = ((w.alloc (.cells #[.int .u8 p.kind, .int .u16 p.frm, .int .u16 p.abt, .int .i64 p.seq, .slice A p.ms.length c, .slice B p.es.length d] 50)).alloc (.cells #[.int .u8 q.kind, .int .u16 q.frm, .int .u16 q.abt, .int .i64 q.seq, .slice A' q.ms.length c', .slice B' q.es.length d'] 50)).alloc (.cells #[.int .u16 m.node, .int .u8 m.st, .int .i64 m.inc] 68) := ⟨_, rfl⟩
  rw [← hw0] at AT AQ E BP BQ BM ON
  clear he hf hf' hat hat' hm bq bm hD
  go_enter Tryd.func11, Tryd.ntmps11
  go_wp2_with fail
  rw [← hw0]
  clear hw0
  refine (pk_light A c B d p HK.out _ AT.out).mono ?_
  rintro e w1 ⟨⟨b, rfl, hb⟩, ho⟩
  have ON1 := Lib.hid ho
  have HB := Lib.hid hb
  have X1 := Lib.hid (BQ.out.only ho (fun h => h))
  clear ho hb
  cases b
  · go_wp2_with fail
    refine (pk_awake _ (E.out.noth ON1.out)).mono ?_
    rintro e w2 ⟨rfl, ho⟩
    have ON2 := Lib.hid ((ON.out.tr ON1.out).tr ho)
    clear ho
    go_wp2
    go_ret
    exact ⟨rfl, ON2.out⟩
  have LL := HB.out rfl
  have L2 : p.es.length ≤ 260 := LL.2.1
  have L3 := Lib.hid LL.2.2
  obtain ⟨c0, c1, c2, c3, c4, c5⟩ := X1.out.six
  clear HB LL
  go_wp2_with fail
  refine (pk_light A' c' B' d' q HK'.out _ (AQ.out.noth ON1.out)).mono ?_
  rintro e w2 ⟨⟨b, rfl, hb⟩, ho⟩
  have ON2 := Lib.hid (ON1.out.tr ho)
  clear ho hb c0 c1 c2 c3 c4 c5 X1 ON1
  cases b
  · go_wp2_with fail
    refine (pk_awake _ (E.out.noth ON2.out)).mono ?_
    rintro e w3 ⟨rfl, ho⟩
    have ON3 := Lib.hid ((ON.out.tr ON2.out).tr ho)
    clear ho
    go_wp2
    go_ret
    exact ⟨rfl, ON3.out⟩
  go_wp2_with fail
  go_loopw [7] (fun i W => ∃ k : Nat, k ≤ p.es.length ∧ i = .int .i64 (k : Int) ∧ Only Noth w0 W) (fun i _ => p.es.length - (RowKit.intOf i).toNat)
  case atStart => exact ⟨0, Nat.zero_le _, rfl, ON2.out⟩
  case round =>
    obtain ⟨k, hk, rfl, ho⟩ := hrel
    have ON3 := Lib.hid ho
    have Y := Lib.hid (BP.out.only ho (fun h => h))
    have c5 : wr.cell? ⟨w.heap.size, 5, none⟩ = some (.slice B p.es.length d) := Y.out.cell 5
    clear ho ON2
    by_cases hlt : k < p.es.length
    · obtain ⟨x, hx⟩ : ∃ x, p.es[k]? = some x := ⟨_, List.getElem?_eq_getElem hlt⟩
      have hxm : x ∈ p.es := List.mem_of_getElem? hx
      have XO := Lib.hid (HP.out.e x hxm).1
      have XS := Lib.hid (show x.key.size + x.val.size ≤ 140737488355000 by have := L3.out x hxm; omega)
      obtain ⟨bb, o, hBe, hbw, hbl, e0, e1, e2, e3, e4⟩ := ((AT.out.noth ON3.out).es).ent hx
      have hb0 : (0 : Int) ≤ k := by omega
      have hb1 : (k : Int) < p.es.length := by omega
      clear hx hbw hxm
      go_wp2_with fail
      refine wp_region_N Noth (by kernel_rfl) ?_
      refine wpN_take (i := 0) (d := some 24) rfl rfl (by kernel_rfl) (by kernel_rfl) (by kernel_rfl) (fun _ _ _ h => h) (sure_value (v := .pointer (some ⟨w.heap.size, 5, none⟩)) (by rfl) (fun v1 h1 => by first | rfl | go_simp)) (Only.refl _ _) ?_
      simp only [Act.put, List.setIfInBounds_toArray, List.set_cons_zero, List.set_cons_succ]
      refine wpN_take (i := 1) (d := some 25) rfl rfl (by kernel_rfl) (by kernel_rfl) (by kernel_rfl) (fun _ _ _ h => h) (sure_lit (v := .slice B p.es.length d) (i := 5) Y.out.drew rfl (fun h => h) (by rfl) (fun _ h => by go_simp)) (Only.refl _ _) ?_
      simp only [Act.put, List.setIfInBounds_toArray, List.set_cons_zero, List.set_cons_succ]
      refine wpN_take (i := 2) (d := some 26) rfl rfl (by kernel_rfl) (by kernel_rfl) (by kernel_rfl) (fun _ _ _ h => h) (sure_value (v := .int .i64 (k : Int)) (by rfl) (fun v1 h1 => by first | rfl | go_simp)) (Only.refl _ _) ?_
      simp only [Act.put, List.setIfInBounds_toArray, List.set_cons_zero, List.set_cons_succ]
      refine wpN_take (i := 3) (d := some 27) rfl rfl (by kernel_rfl) (by kernel_rfl) (by kernel_rfl) (fun _ _ _ h => h) (sure_value (v := .pointer (some ⟨bb, o + k * 5, none⟩)) (by rfl) (fun v1 h1 => by rw [hBe]; go_simp)) (Only.refl _ _) ?_
      simp only [Act.put, List.setIfInBounds_toArray, List.set_cons_zero, List.set_cons_succ]
      refine wpN_take (i := 4) (d := some 28) rfl rfl (by kernel_rfl) (by kernel_rfl) (by kernel_rfl) (fun _ _ _ h => h) (sure_value (v := .agg #[.string x.key, .int .i64 x.time, .int .u16 x.org, .string x.val, .int .i64 x.til]) (by rfl) (fun v1 h1 => by have q0 : v1.cell? ⟨bb, o + k * 5, none⟩ = some (.string x.key) := ((Only.undrew h1).cell hbl (fun h => h)).trans e0; have q1 : v1.cell? ⟨bb, o + k * 5 + 1, none⟩ = some (.int .i64 x.time) := ((Only.undrew h1).cell hbl (fun h => h)).trans e1; have q2 : v1.cell? ⟨bb, o + k * 5 + 2, none⟩ = some (.int .u16 x.org) := ((Only.undrew h1).cell hbl (fun h => h)).trans e2; have q3 : v1.cell? ⟨bb, o + k * 5 + 3, none⟩ = some (.string x.val) := ((Only.undrew h1).cell hbl (fun h => h)).trans e3; have q4 : v1.cell? ⟨bb, o + k * 5 + 4, none⟩ = some (.int .i64 x.til) := ((Only.undrew h1).cell hbl (fun h => h)).trans e4; go_simp)) (Only.refl _ _) ?_
      simp only [Act.put, List.setIfInBounds_toArray, List.set_cons_zero, List.set_cons_succ]
      refine wpN_take (i := 5) (d := some 29) rfl rfl (by kernel_rfl) (by kernel_rfl) (by kernel_rfl) (fun _ _ _ h => h) (sure_call (v := .int .i64 x.bytes.length) (fun w1 ho => pk_size x XO.out XS.out _ (E.out.noth (ON3.out.tr (Only.undrew ho))).tab) (by rfl) (fun _ => by go_simp)) (Only.refl _ _) ?_
      simp only [Act.put, List.setIfInBounds_toArray, List.set_cons_zero, List.set_cons_succ]
      refine wpN_take (i := 6) (d := some 30) rfl rfl (by kernel_rfl) (by kernel_rfl) (by kernel_rfl) (fun _ _ _ h => h) (sure_value (v := .pointer (some ⟨w.heap.size, 5, none⟩)) (by rfl) (fun v1 h1 => by first | rfl | go_simp)) (Only.refl _ _) ?_
      simp only [Act.put, List.setIfInBounds_toArray, List.set_cons_zero, List.set_cons_succ]
      refine wpN_take (i := 7) (d := some 31) rfl rfl (by kernel_rfl) (by kernel_rfl) (by kernel_rfl) (fun _ _ _ h => h) (sure_lit (v := .slice B p.es.length d) (i := 5) Y.out.drew rfl (fun h => h) (by rfl) (fun _ h => by go_simp)) (Only.refl _ _) ?_
      simp only [Act.put, List.setIfInBounds_toArray, List.set_cons_zero, List.set_cons_succ]
      refine wpN_take (i := 8) (d := some 32) rfl rfl (by kernel_rfl) (by kernel_rfl) (by kernel_rfl) (fun _ _ _ h => h) (sure_value (v := .int .i64 (k : Int)) (by rfl) (fun v1 h1 => by first | rfl | go_simp)) (Only.refl _ _) ?_
      simp only [Act.put, List.setIfInBounds_toArray, List.set_cons_zero, List.set_cons_succ]
      refine wpN_take (i := 9) (d := some 33) rfl rfl (by kernel_rfl) (by kernel_rfl) (by kernel_rfl) (fun _ _ _ h => h) (sure_value (v := .pointer (some ⟨bb, o + k * 5, none⟩)) (by rfl) (fun v1 h1 => by rw [hBe]; go_simp)) (Only.refl _ _) ?_
      simp only [Act.put, List.setIfInBounds_toArray, List.set_cons_zero, List.set_cons_succ]
      refine wpN_take (i := 10) (d := some 34) rfl rfl (by kernel_rfl) (by kernel_rfl) (by kernel_rfl) (fun _ _ _ h => h) (sure_value (v := .agg #[.string x.key, .int .i64 x.time, .int .u16 x.org, .string x.val, .int .i64 x.til]) (by rfl) (fun v1 h1 => by have q0 : v1.cell? ⟨bb, o + k * 5, none⟩ = some (.string x.key) := ((Only.undrew h1).cell hbl (fun h => h)).trans e0; have q1 : v1.cell? ⟨bb, o + k * 5 + 1, none⟩ = some (.int .i64 x.time) := ((Only.undrew h1).cell hbl (fun h => h)).trans e1; have q2 : v1.cell? ⟨bb, o + k * 5 + 2, none⟩ = some (.int .u16 x.org) := ((Only.undrew h1).cell hbl (fun h => h)).trans e2; have q3 : v1.cell? ⟨bb, o + k * 5 + 3, none⟩ = some (.string x.val) := ((Only.undrew h1).cell hbl (fun h => h)).trans e3; have q4 : v1.cell? ⟨bb, o + k * 5 + 4, none⟩ = some (.int .i64 x.til) := ((Only.undrew h1).cell hbl (fun h => h)).trans e4; go_simp)) (Only.refl _ _) ?_
      simp only [Act.put, List.setIfInBounds_toArray, List.set_cons_zero, List.set_cons_succ]
      refine wpN_givenn (i := 11) (d := some 35) (L := x.bytes) (fun w1 ho => ref_put x XO.out XS.out _ rfl _) (Only.refl _ _) (by kernel_rfl) rfl rfl (by rfl) (fun _ => by go_simp) ?_
      intro A9 c9 w9 hp9 hb9 ho9
      have ON9 := Lib.hid (ON3.out.tr (Only.undrew ho9))
      clear hp9 hb9 ho9
      simp only [Act.put, List.setIfInBounds_toArray, List.set_cons_zero, List.set_cons_succ]
      refine wpN_take (i := 12) (d := some 36) rfl rfl (by kernel_rfl) (by kernel_rfl) (by kernel_rfl) (fun _ _ _ h => h) (sure_value (v := .int .i64 x.bytes.length) (by rfl) (fun v1 h1 => by first | rfl | go_simp)) (Only.refl _ _) ?_
      simp only [Act.put, List.setIfInBounds_toArray, List.set_cons_zero, List.set_cons_succ]
      refine wpN_take (i := 13) (d := some 37) rfl rfl (by kernel_rfl) (by kernel_rfl) (by kernel_rfl) (fun _ _ _ h => h) (sure_value (v := .bool false) (by rfl) (fun v1 h1 => by first | rfl | go_simp)) (Only.refl _ _) ?_
      simp only [Act.put, List.setIfInBounds_toArray, List.set_cons_zero, List.set_cons_succ]
      refine wpN_done (by kernel_rfl) (fun w10 ho => ?_) _
      have ON10 := Lib.hid (ON9.out.tr ho)
      clear ho c5 e0 e1 e2 e3 e4 hBe
      go_wp2_with fail
      go_roundw
      case rel => exact ⟨k + 1, by omega, by go_num, ON10.out⟩
      case measure => simp [RowKit.intOf]; omega
    · obtain rfl : k = p.es.length := by omega
      have YQ := Lib.hid (BQ.out.only ON3.out (fun h => h))
      have YM := Lib.hid (BM.out.only ON3.out (fun h => h))
      go_wp2_with fail
      refine wp_region_N Noth (by kernel_rfl) ?_
      refine wpN_take (i := 0) (d := some 38) rfl rfl (by kernel_rfl) (by kernel_rfl) (by kernel_rfl) (fun _ _ _ h => h) (sure_six (Y.out.drew) (fun h => h) (by rfl) (fun _ h0 h1 h2 h3 h4 h5 => by go_simp)) (Only.refl _ _) ?_
      simp only [Act.put, List.setIfInBounds_toArray, List.set_cons_zero, List.set_cons_succ]
      refine wpN_take (i := 1) (d := some 39) rfl rfl (by kernel_rfl) (by kernel_rfl) (by kernel_rfl) (fun _ _ _ h => h) (sure_six (YQ.out.drew) (fun h => h) (by rfl) (fun _ h0 h1 h2 h3 h4 h5 => by go_simp)) (Only.refl _ _) ?_
      simp only [Act.put, List.setIfInBounds_toArray, List.set_cons_zero, List.set_cons_succ]
      refine wpN_take (i := 2) (d := some 40) rfl rfl (by kernel_rfl) (by kernel_rfl) (by kernel_rfl) (fun _ _ _ h => h) (sure_call (v := .bool D) (fun w1 ho => same_v HD.out (pk_same A c B d p A' c' B' d' q _ (AT.out.noth (ON3.out.tr (Only.undrew ho))) (AQ.out.noth (ON3.out.tr (Only.undrew ho))))) (by rfl) (fun _ => by go_simp)) (Only.refl _ _) ?_
      simp only [Act.put, List.setIfInBounds_toArray, List.set_cons_zero, List.set_cons_succ]
      refine wpN_take (i := 3) (d := some 41) rfl rfl (by kernel_rfl) (by kernel_rfl) (by kernel_rfl) (fun _ _ _ h => h) (sure_six (Y.out.drew) (fun h => h) (by rfl) (fun _ h0 h1 h2 h3 h4 h5 => by go_simp)) (Only.refl _ _) ?_
      simp only [Act.put, List.setIfInBounds_toArray, List.set_cons_zero, List.set_cons_succ]
      refine wpN_take (i := 4) (d := some 42) rfl rfl (by kernel_rfl) (by kernel_rfl) (by kernel_rfl) (fun _ _ _ h => h) (sure_six (YQ.out.drew) (fun h => h) (by rfl) (fun _ h0 h1 h2 h3 h4 h5 => by go_simp)) (Only.refl _ _) ?_
      simp only [Act.put, List.setIfInBounds_toArray, List.set_cons_zero, List.set_cons_succ]
      refine wpN_take (i := 5) (d := some 43) rfl rfl (by kernel_rfl) (by kernel_rfl) (by kernel_rfl) (fun _ _ _ h => h) (sure_call (v := .bool D) (fun w1 ho => same_v HD.out (ref_same A c B d p A' c' B' d' q _ (AT.out.noth (ON3.out.tr (Only.undrew ho))) (AQ.out.noth (ON3.out.tr (Only.undrew ho))))) (by rfl) (fun _ => by go_simp)) (Only.refl _ _) ?_
      simp only [Act.put, List.setIfInBounds_toArray, List.set_cons_zero, List.set_cons_succ]
      refine wpN_take (i := 6) (d := some 44) rfl rfl (by kernel_rfl) (by kernel_rfl) (by kernel_rfl) (fun _ _ _ h => h) (sure_value (v := .bool true) (by rfl) (fun v1 h1 => by cases D <;> go_simp)) (Only.refl _ _) ?_
      simp only [Act.put, List.setIfInBounds_toArray, List.set_cons_zero, List.set_cons_succ]
      refine wpN_take (i := 7) (d := some 45) rfl rfl (by kernel_rfl) (by kernel_rfl) (by kernel_rfl) (fun _ _ _ h => h) (sure_value (v := .bool true) (by rfl) (fun v1 h1 => by first | rfl | go_simp)) (Only.refl _ _) ?_
      simp only [Act.put, List.setIfInBounds_toArray, List.set_cons_zero, List.set_cons_succ]
      refine wpN_take (i := 8) (d := some 46) rfl rfl (by kernel_rfl) (by kernel_rfl) (by kernel_rfl) (fun _ _ _ h => h) (sure_three (YM.out.drew) (fun h => h) (by rfl) (fun _ h0 h1 h2 => by go_simp)) (Only.refl _ _) ?_
      simp only [Act.put, List.setIfInBounds_toArray, List.set_cons_zero, List.set_cons_succ]
      refine wpN_take (i := 11) (d := some 49) rfl rfl (by kernel_rfl) (by kernel_rfl) (by kernel_rfl) (fun _ _ _ h => h) (sure_three (YM.out.drew) (fun h => h) (by rfl) (fun _ h0 h1 h2 => by go_simp)) (Only.refl _ _) ?_
      simp only [Act.put, List.setIfInBounds_toArray, List.set_cons_zero, List.set_cons_succ]
      refine wpN_givenp (i := 9) (d := some 47) (L := tMem m) (fun w1 ho => pk_member m HM.out _ rfl _ (E.out.noth (ON3.out.tr (Only.undrew ho))).tab) (Only.refl _ _) (by kernel_rfl) rfl rfl (by rfl) (fun _ => by go_simp) ?_
      intro A8 c8 w8 hp8 ho8
      have ON8 := Lib.hid (ON3.out.tr (Only.undrew ho8))
      have P8 := Lib.hid hp8
      clear hp8 ho8
      simp only [Act.put, List.setIfInBounds_toArray, List.set_cons_zero, List.set_cons_succ]
      refine wpN_take (i := 10) (d := some 48) rfl rfl (by kernel_rfl) (by kernel_rfl) (by kernel_rfl) (fun _ _ _ h => h) (sure_conv P8.out (by rfl) rfl rfl) (Only.refl _ _) ?_
      simp only [Act.put, List.setIfInBounds_toArray, List.set_cons_zero, List.set_cons_succ]
      refine wpN_givenp (i := 12) (d := some 50) (L := tMem m) (fun w1 ho => (ref_member m HM.out _ rfl _).mono (fun _ _ h => h.p)) (Only.refl _ _) (by kernel_rfl) rfl rfl (by rfl) (fun _ => by go_simp) ?_
      intro A9 c9 w9 hp9 ho9
      have ON9 := Lib.hid (ON8.out.tr ho9)
      have P9 := Lib.hid hp9
      clear hp9 ho9
      simp only [Act.put, List.setIfInBounds_toArray, List.set_cons_zero, List.set_cons_succ]
      refine wpN_take (i := 13) (d := some 51) rfl rfl (by kernel_rfl) (by kernel_rfl) (by kernel_rfl) (fun _ _ _ h => h) (sure_conv P9.out (by rfl) rfl rfl) (Only.refl _ _) ?_
      simp only [Act.put, List.setIfInBounds_toArray, List.set_cons_zero, List.set_cons_succ]
      refine wpN_take (i := 14) (d := some 52) rfl rfl (by kernel_rfl) (by kernel_rfl) (by kernel_rfl) (fun _ _ _ h => h) (sure_value (v := .bool true) (by rfl) (fun v1 h1 => by first | rfl | go_simp)) (Only.refl _ _) ?_
      simp only [Act.put, List.setIfInBounds_toArray, List.set_cons_zero, List.set_cons_succ]
      refine wpN_take (i := 15) (d := some 53) rfl rfl (by kernel_rfl) (by kernel_rfl) (by kernel_rfl) (fun _ _ _ h => h) (sure_value (v := .bool true) (by rfl) (fun v1 h1 => by first | rfl | go_simp)) (Only.refl _ _) ?_
      simp only [Act.put, List.setIfInBounds_toArray, List.set_cons_zero, List.set_cons_succ]
      refine wpN_take (i := 16) (d := some 54) rfl rfl (by kernel_rfl) (by kernel_rfl) (by kernel_rfl) (fun _ _ _ h => h) (sure_value (v := .bool true) (by rfl) (fun v1 h1 => by first | rfl | go_simp)) (Only.refl _ _) ?_
      simp only [Act.put, List.setIfInBounds_toArray, List.set_cons_zero, List.set_cons_succ]
      refine wpN_take (i := 17) (d := some 55) rfl rfl (by kernel_rfl) (by kernel_rfl) (by kernel_rfl) (fun _ _ _ h => h) (sure_call (v := .bool true) (fun w1 ho => pk_awake _ (E.out.noth (ON9.out.tr ho))) (by rfl) (fun _ => by go_simp)) (Only.refl _ _) ?_
      simp only [Act.put, List.setIfInBounds_toArray, List.set_cons_zero, List.set_cons_succ]
      refine wpN_take (i := 18) (d := some 56) rfl rfl (by kernel_rfl) (by kernel_rfl) (by kernel_rfl) (fun _ _ _ h => h) (sure_value (v := .bool true) (by rfl) (fun v1 h1 => by first | rfl | go_simp)) (Only.refl _ _) ?_
      simp only [Act.put, List.setIfInBounds_toArray, List.set_cons_zero, List.set_cons_succ]
      refine wpN_take (i := 19) (d := some 6) rfl rfl (by kernel_rfl) (by kernel_rfl) (by kernel_rfl) (fun _ _ _ h => h) (sure_value (v := .bool true) (by rfl) (fun v1 h1 => by first | rfl | go_simp)) (Only.refl _ _) ?_
      simp only [Act.put, List.setIfInBounds_toArray, List.set_cons_zero, List.set_cons_succ]
      refine wpN_done (by kernel_rfl) (fun w10 ho => ?_) _
      have ON10 := Lib.hid ((ON.out.tr ON9.out).tr ho)
      clear ho
      go_wp2
      go_ret
      exact ⟨rfl, ON10.out⟩
end Go.Proofs.YtjdgmnaemopfdaaDoor
