/- The reference's disk: contracts, and how it goes with the disk's plain data. -/
import Derived.Test.YtibeblibminjfaaActs
namespace Go.Proofs.Ytibeblibminjfaa
open Go.RowKit
set_option linter.unusedVariables false

/-- The reference's disk. -/
structure Rk where
  s : ByteArray
  l : ByteArray
  sf : Int
  cp : Int
  op : Int
  dw : Bool
  td : Bool
  af : Int
  dn : Bool

def Rk.v (r : Rk) : Value := .agg #[.string r.s, .string r.l, .int .i64 r.sf, .int .i64 r.cp, .int .i64 r.op, .bool r.dw, .bool r.td, .int .i64 r.af, .bool r.dn]
def Rk.tick (r : Rk) : Rk × Bool × Int :=
  if r.td = false then ({ r with op := r.op + 1 }, true, 0) else if 0 < r.af then ({ r with op := r.op + 1, af := r.af - 1 }, true, 0) else ({ r with op := r.op + 1, td := false, dw := true }, r.dn, 12)

/-- The numbers of a disk are small. -/
structure Rk.Ok (r : Rk) : Prop where
  op0 : 0 ≤ r.op
  op1 : r.op ≤ 1000000
  af0 : -9223372036854775808 < r.af
  af1 : r.af ≤ 9223372036854775807
  cp0 : 0 ≤ r.cp
  cp1 : r.cp ≤ 9223372036854775807
  s : r.s.size ≤ 100000000
  l : r.l.size ≤ 100000000
  sf0 : 0 ≤ r.sf
  sf1 : r.sf ≤ r.l.size

theorem rop_any (r : Rk) (w : World) (hr : r.Ok) :
    Calls Try.prog 40 #[r.v] w fun e w' => e = .returned (.tuple #[r.tick.1.v, .bool r.tick.2.1, .int .i64 r.tick.2.2]) ∧ Only Noth w w' := by
  obtain ⟨s, l, sf, cp, op, dw, td, af, dn⟩ := r
  obtain ⟨h0, h1, a0, a1, _, _, _, _, _, _⟩ := hr
  simp only [] at h0 h1 a0 a1
  unfold Rk.tick Rk.v
  cases td with
  | false =>
    simp only [if_true]
    go_enter Try.func40, Try.ntmps40
    go_wp2
    refine bodyPost_ret (v := .tuple #[.agg #[.string s, .string l, .int .i64 sf, .int .i64 cp, .int .i64 (op + 1), .bool dw, .bool false, .int .i64 af, .bool dn], .bool true, .int .i64 0]) (by simp [results, Try.results40, go_sem]) rfl ?_
    exact ⟨rfl, ((Only.refl _ _).alloc _).alloc _⟩
  | true =>
    simp only [Bool.true_eq_false, if_false]
    by_cases ha : 0 < af
    · rw [if_pos ha]
      go_enter Try.func40, Try.ntmps40
      go_wp2
      refine bodyPost_ret (v := .tuple #[.agg #[.string s, .string l, .int .i64 sf, .int .i64 cp, .int .i64 (op + 1), .bool dw, .bool true, .int .i64 (af - 1), .bool dn], .bool true, .int .i64 0]) (by simp [results, Try.results40, go_sem]) rfl ?_
      exact ⟨rfl, ((Only.refl _ _).alloc _).alloc _⟩
    · rw [if_neg ha]
      go_enter Try.func40, Try.ntmps40
      go_wp2
      go_region
      all_goals go_wp2
      all_goals (refine bodyPost_ret (v := .tuple #[.agg #[.string s, .string l, .int .i64 sf, .int .i64 cp, .int .i64 (op + 1), .bool true, .bool false, .int .i64 af, .bool dn], .bool dn, .int .i64 12]) (by simp [results, Try.results40, go_sem]) rfl ?_; exact ⟨rfl, (((Only.refl _ _).alloc _).alloc _).drew⟩)

theorem size_alloc (w : World) (o : Obj) : (w.alloc o).heap.size = w.heap.size + 1 := by simp
theorem box_cells {w w' : World} {b : Nat} {t : TypeId} {v0 v1 v2 v3 v4 v5 v6 v7 v8 : Value} (h : Hld w b t #[v0, v1, v2, v3, v4, v5, v6, v7, v8]) (ho : Only Noth w w') :
    (w'.cell? ⟨b, 0, none⟩ = some v0 ∧ w'.cell? ⟨b, 1, none⟩ = some v1 ∧ w'.cell? ⟨b, 2, none⟩ = some v2 ∧ w'.cell? ⟨b, 3, none⟩ = some v3 ∧ w'.cell? ⟨b, 4, none⟩ = some v4 ∧ w'.cell? ⟨b, 5, none⟩ = some v5 ∧ w'.cell? ⟨b, 6, none⟩ = some v6 ∧ w'.cell? ⟨b, 7, none⟩ = some v7 ∧ w'.cell? ⟨b, 8, none⟩ = some v8) ∧ ∀ j, w'.frozen? ⟨b, j, none⟩ = false := by
  have g := h.only ho (fun h => h)
  exact ⟨⟨g.cell 0, g.cell 1, g.cell 2, g.cell 3, g.cell 4, g.cell 5, g.cell 6, g.cell 7, g.cell 8⟩, fun j => g.free j⟩

def Rk.append (r : Rk) (m : ByteArray) : Rk × Int :=
  if r.dw = true then (r, 12) else if (m.size : Int) > r.cp - r.s.size - r.l.size then (r, 11) else (if r.tick.2.1 = true then { r.tick.1 with l := r.l ++ m } else r.tick.1, r.tick.2.2)
def Rk.swap (r : Rk) (m : ByteArray) : Rk × Int :=
  if r.dw = true then (r, 12) else if (m.size : Int) > r.cp - r.l.size then (r, 11) else (if r.tick.2.1 = true then { r.tick.1 with s := m } else r.tick.1, r.tick.2.2)
def Rk.sync (r : Rk) : Rk × Int :=
  if r.dw = true then (r, 12) else (if r.tick.2.1 = true then { r.tick.1 with sf := r.l.size } else r.tick.1, r.tick.2.2)
def Rk.cut (r : Rk) (n : Int) : Rk × Int :=
  if r.dw = true then (r, 12) else if n < 0 ∨ n > r.l.size then (r, 15) else (if r.tick.2.1 = true then { r.tick.1 with l := r.l.extract 0 n.toNat, sf := min r.sf n } else r.tick.1, r.tick.2.2)
def Rk.fail (r : Rk) (n : Int) (dn : Bool) : Rk × Int := if r.dw = true then (r, 12) else if n < 0 then (r, 2) else ({ r with td := true, af := n, dn := dn }, 0)
def Rk.crash (r : Rk) (k : Int) : Rk :=
  { s := r.s, l := r.l.extract 0 (r.sf + min (max k 0) (r.l.size - r.sf)).toNat, sf := r.sf + min (max k 0) (r.l.size - r.sf), cp := r.cp, op := r.op, dw := false, td := false, af := 0, dn := false }

/-- What op leaves of the fields that it does not turn. -/
theorem tick_keeps (r : Rk) : r.tick.1.s = r.s ∧ r.tick.1.l = r.l ∧ r.tick.1.sf = r.sf := by
  unfold Rk.tick
  split
  · exact ⟨rfl, rfl, rfl⟩
  · split <;> exact ⟨rfl, rfl, rfl⟩

set_option maxHeartbeats 4000000 in
theorem rsync_any (r : Rk) (w : World) (hr : r.Ok) :
    Calls Try.prog 35 #[r.v] w fun e w' => e = .returned (.tuple #[(r.sync).1.v, .int .i64 (r.sync).2]) ∧ Only Noth w w' := by
  have HT := Lib.hid (fun W => rop_any r W hr)
  have hk := tick_keeps r
  unfold Rk.sync
  generalize r.tick = t at HT hk ⊢
  obtain ⟨q, ok, er⟩ := t
  obtain ⟨s, l, sf, cp, op, dw, td, af, dn⟩ := r
  obtain ⟨s2, l2, sf2, cp2, op2, dw2, td2, af2, dn2⟩ := q
  obtain ⟨e1, e2, e3⟩ := hk
  simp only [] at e1 e2 e3
  subst e1 e2 e3
  obtain ⟨h0, h1, a0, a1, b0, b1, hs, hl, f0, f1⟩ := hr
  simp only [] at h0 h1 a0 a1 b0 b1 hs hl f0 f1
  unfold Rk.v at HT ⊢
  cases dw with
  | true =>
    simp only [if_true]
    clear HT
    go_enter Try.func35, Try.ntmps35
    go_wp2
    refine bodyPost_ret (v := .tuple #[.agg #[.string s2, .string l2, .int .i64 sf2, .int .i64 cp, .int .i64 op, .bool true, .bool td, .int .i64 af, .bool dn], .int .i64 12]) (by simp [results, Try.results35, go_sem]) rfl ?_
    exact ⟨rfl, ((Only.refl _ _).alloc _).alloc _⟩
  | false =>
    simp only [Bool.false_eq_true, if_false]
    cases ok with
    | true =>
      simp only [if_true]
      go_enter Try.func35, Try.ntmps35
      go_wp2_with fail
      refine (HT.out _).mono ?_
      rintro e w1 ⟨rfl, ho⟩
      have gb := (((Hld.new w 48 _).alloc _).only ho (fun h => h))
      have gr := ((Hld.new (w.alloc _) 48 _).only ho (fun h => h))
      simp only [size_alloc] at gr
      have O1 := Lib.hid ((((Only.refl Noth w).alloc _).alloc _).trans ho (fun _ h _ => h))
      have GB := Lib.hid gb
      have GR := Lib.hid gr
      clear ho HT gb gr
      go_wp2_with (first | (refine wpList_store_whole rfl rfl 48 (.tmp 1) (.tmp 12) rfl w.heap.size rfl _ rfl 48 _ GB.out rfl (by simp [Value.oneCell']) (by kernel_rfl) ?_; intro w2 gb2 ho2 _; have GB2 := Lib.hid gb2; have GR2 := Lib.hid (GR.out.only ho2 (fun h => by omega)); have O2 := Lib.hid (O1.out.trans ho2 (fun j hj hlt => by omega)); have bx := box_cells gb2 (Only.refl _ _); obtain ⟨⟨x0, x1, x2, x3, x4, x5, x6, x7, x8⟩, xf⟩ := bx; clear gb2 ho2) | (refine wpList_store_whole rfl rfl 48 (.tmp 2) (.tmp 20) rfl (w.heap.size + 1) rfl _ rfl 48 _ (GR2.out.far (p := ⟨w.heap.size, 2, none⟩) (by simp) _) rfl (by simp [Value.oneCell']) (by kernel_rfl) ?_; intro w3 gr3 ho3 _; have O3 := Lib.hid ((O2.out.setCell (p := ⟨w.heap.size, 2, none⟩) (fun h => by simp only [] at h; omega) _).trans ho3 (fun j hj hlt => by omega)); have by' := box_cells gr3 (Only.refl _ _); obtain ⟨⟨y0, y1, y2, y3, y4, y5, y6, y7, y8⟩, yf⟩ := by'; clear gr3 ho3 x0 x1 x2 x3 x4 x5 x6 x7 x8 xf))
      refine bodyPost_ret (v := .tuple #[.agg #[.string s2, .string l2, .int .i64 (l2.size : Int), .int .i64 cp2, .int .i64 op2, .bool dw2, .bool td2, .int .i64 af2, .bool dn2], .int .i64 er]) (by simp [results, Try.results35, go_sem, y0, y1, y2, y3, y4, y5, y6, y7, y8]) rfl ?_
      exact ⟨rfl, O3.out⟩
    | false =>
      simp only [Bool.false_eq_true, if_false]
      go_enter Try.func35, Try.ntmps35
      go_wp2_with fail
      refine (HT.out _).mono ?_
      rintro e w1 ⟨rfl, ho⟩
      have gb := (((Hld.new w 48 _).alloc _).only ho (fun h => h))
      have gr := ((Hld.new (w.alloc _) 48 _).only ho (fun h => h))
      simp only [size_alloc] at gr
      have O1 := Lib.hid ((((Only.refl Noth w).alloc _).alloc _).trans ho (fun _ h _ => h))
      have GB := Lib.hid gb
      have GR := Lib.hid gr
      clear ho HT gb gr
      go_wp2_with (first | (refine wpList_store_whole rfl rfl 48 (.tmp 1) (.tmp 12) rfl w.heap.size rfl _ rfl 48 _ GB.out rfl (by simp [Value.oneCell']) (by kernel_rfl) ?_; intro w2 gb2 ho2 _; have GB2 := Lib.hid gb2; have GR2 := Lib.hid (GR.out.only ho2 (fun h => by omega)); have O2 := Lib.hid (O1.out.trans ho2 (fun j hj hlt => by omega)); have bx := box_cells gb2 (Only.refl _ _); obtain ⟨⟨x0, x1, x2, x3, x4, x5, x6, x7, x8⟩, xf⟩ := bx; clear gb2 ho2) | (refine wpList_store_whole rfl rfl 48 (.tmp 2) (.tmp 20) rfl (w.heap.size + 1) rfl _ rfl 48 _ GR2.out rfl (by simp [Value.oneCell']) (by kernel_rfl) ?_; intro w3 gr3 ho3 _; have O3 := Lib.hid (O2.out.trans ho3 (fun j hj hlt => by omega)); have by' := box_cells gr3 (Only.refl _ _); obtain ⟨⟨y0, y1, y2, y3, y4, y5, y6, y7, y8⟩, yf⟩ := by'; clear gr3 ho3 x0 x1 x2 x3 x4 x5 x6 x7 x8 xf))
      refine bodyPost_ret (v := .tuple #[.agg #[.string s2, .string l2, .int .i64 sf2, .int .i64 cp2, .int .i64 op2, .bool dw2, .bool td2, .int .i64 af2, .bool dn2], .int .i64 er]) (by simp [results, Try.results35, go_sem, y0, y1, y2, y3, y4, y5, y6, y7, y8]) rfl ?_
      exact ⟨rfl, O3.out⟩

set_option maxHeartbeats 4000000 in
theorem rappend_any (r : Rk) (m : ByteArray) (w : World) (hr : r.Ok) (hm : m.size ≤ 100000000) :
    Calls Try.prog 39 #[r.v, .string m] w fun e w' => e = .returned (.tuple #[(r.append m).1.v, .int .i64 (r.append m).2]) ∧ Only Noth w w' := by
  have HT := Lib.hid (fun W => rop_any r W hr)
  have hk := tick_keeps r
  unfold Rk.append
  generalize r.tick = t at HT hk ⊢
  obtain ⟨q, ok, er⟩ := t
  obtain ⟨s, l, sf, cp, op, dw, td, af, dn⟩ := r
  obtain ⟨s2, l2, sf2, cp2, op2, dw2, td2, af2, dn2⟩ := q
  obtain ⟨e1, e2, e3⟩ := hk
  simp only [] at e1 e2 e3
  subst e1 e2 e3
  obtain ⟨h0, h1, a0, a1, b0, b1, hs, hl, f0, f1⟩ := hr
  simp only [] at h0 h1 a0 a1 b0 b1 hs hl f0 f1
  unfold Rk.v at HT ⊢
  cases dw with
  | true =>
    simp only [if_true]
    clear HT
    go_enter Try.func39, Try.ntmps39
    go_wp2
    refine bodyPost_ret (v := .tuple #[.agg #[.string s2, .string l2, .int .i64 sf2, .int .i64 cp, .int .i64 op, .bool true, .bool td, .int .i64 af, .bool dn], .int .i64 12]) (by simp [results, Try.results39, go_sem]) rfl ?_
    exact ⟨rfl, ((Only.refl _ _).alloc _).alloc _⟩
  | false =>
    simp only [Bool.false_eq_true, if_false]
    by_cases hfull : (m.size : Int) > cp - s2.size - l2.size
    · rw [if_pos hfull]
      clear HT
      go_enter Try.func39, Try.ntmps39
      go_wp2
      refine bodyPost_ret (v := .tuple #[.agg #[.string s2, .string l2, .int .i64 sf2, .int .i64 cp, .int .i64 op, .bool false, .bool td, .int .i64 af, .bool dn], .int .i64 11]) (by simp [results, Try.results39, go_sem]) rfl ?_
      exact ⟨rfl, ((Only.refl _ _).alloc _).alloc _⟩
    · rw [if_neg hfull]
      cases ok with
      | true =>
        simp only [if_true]
        have hadd : ¬ (9223372036854775807 < l2.size + m.size) := by omega
        go_enter Try.func39, Try.ntmps39
        go_wp2_with fail
        refine (HT.out _).mono ?_
        rintro e w1 ⟨rfl, ho⟩
        have gb := (((Hld.new w 48 _).alloc _).only ho (fun h => h))
        have gr := ((Hld.new (w.alloc _) 48 _).only ho (fun h => h))
        simp only [size_alloc] at gr
        have O1 := Lib.hid ((((Only.refl Noth w).alloc _).alloc _).trans ho (fun _ h _ => h))
        have GB := Lib.hid gb
        have GR := Lib.hid gr
        clear ho HT gb gr
        go_wp2_with (first | (refine wpList_store_whole rfl rfl 48 (.tmp 2) (.tmp 30) rfl w.heap.size rfl _ rfl 48 _ GB.out rfl (by simp [Value.oneCell']) (by kernel_rfl) ?_; intro w2 gb2 ho2 _; have GB2 := Lib.hid gb2; have GR2 := Lib.hid (GR.out.only ho2 (fun h => by omega)); have O2 := Lib.hid (O1.out.trans ho2 (fun j hj hlt => by omega)); have bx := box_cells gb2 (Only.refl _ _); obtain ⟨⟨x0, x1, x2, x3, x4, x5, x6, x7, x8⟩, xf⟩ := bx; clear gb2 ho2) | (refine wpList_store_whole rfl rfl 48 (.tmp 4) (.tmp 39) rfl (w.heap.size + 1) rfl _ rfl 48 _ (GR2.out.far (p := ⟨w.heap.size, 1, none⟩) (by simp) _) rfl (by simp [Value.oneCell']) (by kernel_rfl) ?_; intro w3 gr3 ho3 _; have O3 := Lib.hid ((O2.out.setCell (p := ⟨w.heap.size, 1, none⟩) (fun h => by simp only [] at h; omega) _).trans ho3 (fun j hj hlt => by omega)); have by' := box_cells gr3 (Only.refl _ _); obtain ⟨⟨y0, y1, y2, y3, y4, y5, y6, y7, y8⟩, yf⟩ := by'; clear gr3 ho3 x0 x1 x2 x3 x4 x5 x6 x7 x8 xf))
        refine bodyPost_ret (v := .tuple #[.agg #[.string s2, .string (l2 ++ m), .int .i64 sf2, .int .i64 cp2, .int .i64 op2, .bool dw2, .bool td2, .int .i64 af2, .bool dn2], .int .i64 er]) (by simp [results, Try.results39, go_sem, y0, y1, y2, y3, y4, y5, y6, y7, y8]) rfl ?_
        exact ⟨rfl, O3.out⟩
      | false =>
        simp only [Bool.false_eq_true, if_false]
        go_enter Try.func39, Try.ntmps39
        go_wp2_with fail
        refine (HT.out _).mono ?_
        rintro e w1 ⟨rfl, ho⟩
        have gb := (((Hld.new w 48 _).alloc _).only ho (fun h => h))
        have gr := ((Hld.new (w.alloc _) 48 _).only ho (fun h => h))
        simp only [size_alloc] at gr
        have O1 := Lib.hid ((((Only.refl Noth w).alloc _).alloc _).trans ho (fun _ h _ => h))
        have GB := Lib.hid gb
        have GR := Lib.hid gr
        clear ho HT gb gr
        go_wp2_with (first | (refine wpList_store_whole rfl rfl 48 (.tmp 2) (.tmp 30) rfl w.heap.size rfl _ rfl 48 _ GB.out rfl (by simp [Value.oneCell']) (by kernel_rfl) ?_; intro w2 gb2 ho2 _; have GB2 := Lib.hid gb2; have GR2 := Lib.hid (GR.out.only ho2 (fun h => by omega)); have O2 := Lib.hid (O1.out.trans ho2 (fun j hj hlt => by omega)); have bx := box_cells gb2 (Only.refl _ _); obtain ⟨⟨x0, x1, x2, x3, x4, x5, x6, x7, x8⟩, xf⟩ := bx; clear gb2 ho2) | (refine wpList_store_whole rfl rfl 48 (.tmp 4) (.tmp 39) rfl (w.heap.size + 1) rfl _ rfl 48 _ GR2.out rfl (by simp [Value.oneCell']) (by kernel_rfl) ?_; intro w3 gr3 ho3 _; have O3 := Lib.hid (O2.out.trans ho3 (fun j hj hlt => by omega)); have by' := box_cells gr3 (Only.refl _ _); obtain ⟨⟨y0, y1, y2, y3, y4, y5, y6, y7, y8⟩, yf⟩ := by'; clear gr3 ho3 x0 x1 x2 x3 x4 x5 x6 x7 x8 xf))
        refine bodyPost_ret (v := .tuple #[.agg #[.string s2, .string l2, .int .i64 sf2, .int .i64 cp2, .int .i64 op2, .bool dw2, .bool td2, .int .i64 af2, .bool dn2], .int .i64 er]) (by simp [results, Try.results39, go_sem, y0, y1, y2, y3, y4, y5, y6, y7, y8]) rfl ?_
        exact ⟨rfl, O3.out⟩

set_option maxHeartbeats 4000000 in
theorem rswap_any (r : Rk) (m : ByteArray) (w : World) (hr : r.Ok) (hm : m.size ≤ 100000000) :
    Calls Try.prog 36 #[r.v, .string m] w fun e w' => e = .returned (.tuple #[(r.swap m).1.v, .int .i64 (r.swap m).2]) ∧ Only Noth w w' := by
  have HT := Lib.hid (fun W => rop_any r W hr)
  have hk := tick_keeps r
  unfold Rk.swap
  generalize r.tick = t at HT hk ⊢
  obtain ⟨q, ok, er⟩ := t
  obtain ⟨s, l, sf, cp, op, dw, td, af, dn⟩ := r
  obtain ⟨s2, l2, sf2, cp2, op2, dw2, td2, af2, dn2⟩ := q
  obtain ⟨e1, e2, e3⟩ := hk
  simp only [] at e1 e2 e3
  subst e1 e2 e3
  obtain ⟨h0, h1, a0, a1, b0, b1, hs, hl, f0, f1⟩ := hr
  simp only [] at h0 h1 a0 a1 b0 b1 hs hl f0 f1
  unfold Rk.v at HT ⊢
  cases dw with
  | true =>
    simp only [if_true]
    clear HT
    go_enter Try.func36, Try.ntmps36
    go_wp2
    refine bodyPost_ret (v := .tuple #[.agg #[.string s2, .string l2, .int .i64 sf2, .int .i64 cp, .int .i64 op, .bool true, .bool td, .int .i64 af, .bool dn], .int .i64 12]) (by simp [results, Try.results36, go_sem]) rfl ?_
    exact ⟨rfl, ((Only.refl _ _).alloc _).alloc _⟩
  | false =>
    simp only [Bool.false_eq_true, if_false]
    by_cases hfull : (m.size : Int) > cp - l2.size
    · rw [if_pos hfull]
      clear HT
      go_enter Try.func36, Try.ntmps36
      go_wp2
      refine bodyPost_ret (v := .tuple #[.agg #[.string s2, .string l2, .int .i64 sf2, .int .i64 cp, .int .i64 op, .bool false, .bool td, .int .i64 af, .bool dn], .int .i64 11]) (by simp [results, Try.results36, go_sem]) rfl ?_
      exact ⟨rfl, ((Only.refl _ _).alloc _).alloc _⟩
    · rw [if_neg hfull]
      cases ok with
      | true =>
        simp only [if_true]
        go_enter Try.func36, Try.ntmps36
        go_wp2_with fail
        refine (HT.out _).mono ?_
        rintro e w1 ⟨rfl, ho⟩
        have gb := (((Hld.new w 48 _).alloc _).only ho (fun h => h))
        have gr := ((Hld.new (w.alloc _) 48 _).only ho (fun h => h))
        simp only [size_alloc] at gr
        have O1 := Lib.hid ((((Only.refl Noth w).alloc _).alloc _).trans ho (fun _ h _ => h))
        have GB := Lib.hid gb
        have GR := Lib.hid gr
        clear ho HT gb gr
        go_wp2_with (first | (refine wpList_store_whole rfl rfl 48 (.tmp 2) (.tmp 26) rfl w.heap.size rfl _ rfl 48 _ GB.out rfl (by simp [Value.oneCell']) (by kernel_rfl) ?_; intro w2 gb2 ho2 _; have GB2 := Lib.hid gb2; have GR2 := Lib.hid (GR.out.only ho2 (fun h => by omega)); have O2 := Lib.hid (O1.out.trans ho2 (fun j hj hlt => by omega)); have bx := box_cells gb2 (Only.refl _ _); obtain ⟨⟨x0, x1, x2, x3, x4, x5, x6, x7, x8⟩, xf⟩ := bx; clear gb2 ho2) | (refine wpList_store_whole rfl rfl 48 (.tmp 4) (.tmp 32) rfl (w.heap.size + 1) rfl _ rfl 48 _ (GR2.out.far (p := ⟨w.heap.size, 0, none⟩) (by simp) _) rfl (by simp [Value.oneCell']) (by kernel_rfl) ?_; intro w3 gr3 ho3 _; have O3 := Lib.hid ((O2.out.setCell (p := ⟨w.heap.size, 0, none⟩) (fun h => by simp only [] at h; omega) _).trans ho3 (fun j hj hlt => by omega)); have by' := box_cells gr3 (Only.refl _ _); obtain ⟨⟨y0, y1, y2, y3, y4, y5, y6, y7, y8⟩, yf⟩ := by'; clear gr3 ho3 x0 x1 x2 x3 x4 x5 x6 x7 x8 xf))
        refine bodyPost_ret (v := .tuple #[.agg #[.string m, .string l2, .int .i64 sf2, .int .i64 cp2, .int .i64 op2, .bool dw2, .bool td2, .int .i64 af2, .bool dn2], .int .i64 er]) (by simp [results, Try.results36, go_sem, y0, y1, y2, y3, y4, y5, y6, y7, y8]) rfl ?_
        exact ⟨rfl, O3.out⟩
      | false =>
        simp only [Bool.false_eq_true, if_false]
        go_enter Try.func36, Try.ntmps36
        go_wp2_with fail
        refine (HT.out _).mono ?_
        rintro e w1 ⟨rfl, ho⟩
        have gb := (((Hld.new w 48 _).alloc _).only ho (fun h => h))
        have gr := ((Hld.new (w.alloc _) 48 _).only ho (fun h => h))
        simp only [size_alloc] at gr
        have O1 := Lib.hid ((((Only.refl Noth w).alloc _).alloc _).trans ho (fun _ h _ => h))
        have GB := Lib.hid gb
        have GR := Lib.hid gr
        clear ho HT gb gr
        go_wp2_with (first | (refine wpList_store_whole rfl rfl 48 (.tmp 2) (.tmp 26) rfl w.heap.size rfl _ rfl 48 _ GB.out rfl (by simp [Value.oneCell']) (by kernel_rfl) ?_; intro w2 gb2 ho2 _; have GB2 := Lib.hid gb2; have GR2 := Lib.hid (GR.out.only ho2 (fun h => by omega)); have O2 := Lib.hid (O1.out.trans ho2 (fun j hj hlt => by omega)); have bx := box_cells gb2 (Only.refl _ _); obtain ⟨⟨x0, x1, x2, x3, x4, x5, x6, x7, x8⟩, xf⟩ := bx; clear gb2 ho2) | (refine wpList_store_whole rfl rfl 48 (.tmp 4) (.tmp 32) rfl (w.heap.size + 1) rfl _ rfl 48 _ GR2.out rfl (by simp [Value.oneCell']) (by kernel_rfl) ?_; intro w3 gr3 ho3 _; have O3 := Lib.hid (O2.out.trans ho3 (fun j hj hlt => by omega)); have by' := box_cells gr3 (Only.refl _ _); obtain ⟨⟨y0, y1, y2, y3, y4, y5, y6, y7, y8⟩, yf⟩ := by'; clear gr3 ho3 x0 x1 x2 x3 x4 x5 x6 x7 x8 xf))
        refine bodyPost_ret (v := .tuple #[.agg #[.string s2, .string l2, .int .i64 sf2, .int .i64 cp2, .int .i64 op2, .bool dw2, .bool td2, .int .i64 af2, .bool dn2], .int .i64 er]) (by simp [results, Try.results36, go_sem, y0, y1, y2, y3, y4, y5, y6, y7, y8]) rfl ?_
        exact ⟨rfl, O3.out⟩

set_option maxHeartbeats 4000000 in
theorem rcut_any (r : Rk) (n : Int) (w : World) (hr : r.Ok) :
    Calls Try.prog 34 #[r.v, .int .i64 n] w fun e w' => e = .returned (.tuple #[(r.cut n).1.v, .int .i64 (r.cut n).2]) ∧ Only Noth w w' := by
  have HT := Lib.hid (fun W => rop_any r W hr)
  have hk := tick_keeps r
  unfold Rk.cut
  generalize r.tick = t at HT hk ⊢
  obtain ⟨q, ok, er⟩ := t
  obtain ⟨s, l, sf, cp, op, dw, td, af, dn⟩ := r
  obtain ⟨s2, l2, sf2, cp2, op2, dw2, td2, af2, dn2⟩ := q
  obtain ⟨e1, e2, e3⟩ := hk
  simp only [] at e1 e2 e3
  subst e1 e2 e3
  obtain ⟨h0, h1, a0, a1, b0, b1, hs, hl, f0, f1⟩ := hr
  simp only [] at h0 h1 a0 a1 b0 b1 hs hl f0 f1
  unfold Rk.v at HT ⊢
  cases dw with
  | true =>
    simp only [if_true]
    clear HT
    go_enter Try.func34, Try.ntmps34
    go_wp2
    refine bodyPost_ret (v := .tuple #[.agg #[.string s2, .string l2, .int .i64 sf2, .int .i64 cp, .int .i64 op, .bool true, .bool td, .int .i64 af, .bool dn], .int .i64 12]) (by simp [results, Try.results34, go_sem]) rfl ?_
    exact ⟨rfl, ((Only.refl _ _).alloc _).alloc _⟩
  | false =>
    simp only [Bool.false_eq_true, if_false]
    by_cases hneg : n < 0
    · rw [if_pos (.inl hneg)]
      clear HT
      go_enter Try.func34, Try.ntmps34
      go_wp2
      refine bodyPost_ret (v := .tuple #[.agg #[.string s2, .string l2, .int .i64 sf2, .int .i64 cp, .int .i64 op, .bool false, .bool td, .int .i64 af, .bool dn], .int .i64 15]) (by simp [results, Try.results34, go_sem]) rfl ?_
      exact ⟨rfl, ((Only.refl _ _).alloc _).alloc _⟩
    · by_cases hbig : n > (l2.size : Int)
      · rw [if_pos (.inr hbig)]
        clear HT
        go_enter Try.func34, Try.ntmps34
        go_wp2
        refine bodyPost_ret (v := .tuple #[.agg #[.string s2, .string l2, .int .i64 sf2, .int .i64 cp, .int .i64 op, .bool false, .bool td, .int .i64 af, .bool dn], .int .i64 15]) (by simp [results, Try.results34, go_sem]) rfl ?_
        exact ⟨rfl, ((Only.refl _ _).alloc _).alloc _⟩
      · rw [if_neg (by omega)]
        cases ok with
        | true =>
          simp only [if_true]
          have hmin : (if n < sf2 then n else sf2) = min sf2 n := by split <;> omega
          have n0 : 0 ≤ n := by omega
          have n1 : n ≤ (l2.size : Int) := by omega
          have n2 : n.toNat ≤ l2.size := by omega
          go_enter Try.func34, Try.ntmps34
          go_wp2_with fail
          refine (HT.out _).mono ?_
          rintro e w1 ⟨rfl, ho⟩
          have gb := (((Hld.new w 48 _).alloc _).only ho (fun h => h))
          have gr := ((Hld.new (w.alloc _) 48 _).only ho (fun h => h))
          simp only [size_alloc] at gr
          have O1 := Lib.hid ((((Only.refl Noth w).alloc _).alloc _).trans ho (fun _ h _ => h))
          have GB := Lib.hid gb
          have GR := Lib.hid gr
          clear ho HT gb gr
          go_wp2_with (first | (refine wpList_store_whole rfl rfl 48 (.tmp 2) (.tmp 26) rfl w.heap.size rfl _ rfl 48 _ GB.out rfl (by simp [Value.oneCell']) (by kernel_rfl) ?_; intro w2 gb2 ho2 _; have GB2 := Lib.hid gb2; have GR2 := Lib.hid (GR.out.only ho2 (fun h => by omega)); have O2 := Lib.hid (O1.out.trans ho2 (fun j hj hlt => by omega)); have bx := box_cells gb2 (Only.refl _ _); obtain ⟨⟨x0, x1, x2, x3, x4, x5, x6, x7, x8⟩, xf⟩ := bx; clear gb2 ho2) | (refine wpList_store_whole rfl rfl 48 (.tmp 4) (.tmp 40) rfl (w.heap.size + 1) rfl _ rfl 48 _ ((GR2.out.far (p := ⟨w.heap.size, 1, none⟩) (by simp) _).far (p := ⟨w.heap.size, 2, none⟩) (by simp) _) rfl (by simp [Value.oneCell']) (by kernel_rfl) ?_; intro w3 gr3 ho3 _; have O3 := Lib.hid (((O2.out.setCell (p := ⟨w.heap.size, 1, none⟩) (fun h => by simp only [] at h; omega) _).setCell (p := ⟨w.heap.size, 2, none⟩) (fun h => by simp only [] at h; omega) _).trans ho3 (fun j hj hlt => by omega)); have by' := box_cells gr3 (Only.refl _ _); obtain ⟨⟨y0, y1, y2, y3, y4, y5, y6, y7, y8⟩, yf⟩ := by'; clear gr3 ho3 x0 x1 x2 x3 x4 x5 x6 x7 x8 xf))
          refine bodyPost_ret (v := .tuple #[.agg #[.string s2, .string (l2.extract 0 n.toNat), .int .i64 (min sf2 n), .int .i64 cp2, .int .i64 op2, .bool dw2, .bool td2, .int .i64 af2, .bool dn2], .int .i64 er]) (by simp [results, Try.results34, go_sem, y0, y1, y2, y3, y4, y5, y6, y7, y8]) rfl ?_
          exact ⟨rfl, O3.out⟩
        | false =>
          simp only [Bool.false_eq_true, if_false]
          go_enter Try.func34, Try.ntmps34
          go_wp2_with fail
          refine (HT.out _).mono ?_
          rintro e w1 ⟨rfl, ho⟩
          have gb := (((Hld.new w 48 _).alloc _).only ho (fun h => h))
          have gr := ((Hld.new (w.alloc _) 48 _).only ho (fun h => h))
          simp only [size_alloc] at gr
          have O1 := Lib.hid ((((Only.refl Noth w).alloc _).alloc _).trans ho (fun _ h _ => h))
          have GB := Lib.hid gb
          have GR := Lib.hid gr
          clear ho HT gb gr
          go_wp2_with (first | (refine wpList_store_whole rfl rfl 48 (.tmp 2) (.tmp 26) rfl w.heap.size rfl _ rfl 48 _ GB.out rfl (by simp [Value.oneCell']) (by kernel_rfl) ?_; intro w2 gb2 ho2 _; have GB2 := Lib.hid gb2; have GR2 := Lib.hid (GR.out.only ho2 (fun h => by omega)); have O2 := Lib.hid (O1.out.trans ho2 (fun j hj hlt => by omega)); have bx := box_cells gb2 (Only.refl _ _); obtain ⟨⟨x0, x1, x2, x3, x4, x5, x6, x7, x8⟩, xf⟩ := bx; clear gb2 ho2) | (refine wpList_store_whole rfl rfl 48 (.tmp 4) (.tmp 40) rfl (w.heap.size + 1) rfl _ rfl 48 _ GR2.out rfl (by simp [Value.oneCell']) (by kernel_rfl) ?_; intro w3 gr3 ho3 _; have O3 := Lib.hid (O2.out.trans ho3 (fun j hj hlt => by omega)); have by' := box_cells gr3 (Only.refl _ _); obtain ⟨⟨y0, y1, y2, y3, y4, y5, y6, y7, y8⟩, yf⟩ := by'; clear gr3 ho3 x0 x1 x2 x3 x4 x5 x6 x7 x8 xf))
          refine bodyPost_ret (v := .tuple #[.agg #[.string s2, .string l2, .int .i64 sf2, .int .i64 cp2, .int .i64 op2, .bool dw2, .bool td2, .int .i64 af2, .bool dn2], .int .i64 er]) (by simp [results, Try.results34, go_sem, y0, y1, y2, y3, y4, y5, y6, y7, y8]) rfl ?_
          exact ⟨rfl, O3.out⟩
end Go.Proofs.Ytibeblibminjfaa
