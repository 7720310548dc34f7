/- The joiner: made, counted, and one that is not there. -/
import Derived.Test.YtemeglofblnnmaaDoorJnG
namespace Go.Proofs.YtemeglofblnnmaaDoor
open Go.RowKit Go.Lib
set_option linter.unusedVariables false
set_option linter.unusedSimpArgs false
set_option maxRecDepth 100000
attribute [local go_sem ↓] Go.wp_at_zero Go.wp_at_succ

theorem jn_ok0 : (⟨[], 0⟩ : Jn).Ok := ⟨Nat.zero_le _, fun t ht => by cases ht⟩
theorem join_new {w : World} {g : Nat} {R S : Nat → Prop} (hR : ¬ R g) (hS : ¬ S g) (h : Hld w g 74 #[.slice none 0 0, .int .i64 0]) : JoinAt R S w g ⟨[], 0⟩ :=
  ⟨⟨hR, hS⟩, jn_ok0, none, 0, [], h, ⟨rfl, none, 0, rfl, Nat.le_refl _, Nat.zero_le _, .inl rfl⟩, rfl, fun i t ht => by cases ht⟩
theorem new_run (w : World) : Calls Tryd.prog 12 #[] w fun e w' => e = .returned (.pointer (some ⟨w.heap.size, 0, none⟩)) ∧ JoinAt Noth Noth w' w.heap.size ⟨[], 0⟩ ∧ w.heap.size < w'.heap.size ∧ Only Noth w w' := by
  have B := Lib.hid (Hld.new w 74 #[.slice none 0 0, .int .i64 0])
  have O := Lib.hid ((Only.refl Noth w).alloc (.cells #[.slice none 0 0, .int .i64 0] 74))
  go_enter Tryd.func12, Tryd.ntmps12
  go_wp2
  go_ret
  exact ⟨rfl, join_new (fun h => h) (fun h => h) B.out, B.out.lt, O.out⟩
/-- The joiner, where less can lie in its way. -/
theorem JoinAt.tight {R S R' S' : Nat → Prop} {w : World} {g : Nat} {J : Jn} (h : JoinAt R S w g J) (hR : ∀ k, R k → k < w.heap.size → R' k) (hS : ∀ k, S k → k < w.heap.size → S' k) (h1 : ¬ R' g) (h2 : ¬ S' g) : JoinAt R' S' w g J := by
  obtain ⟨_, hok, A, c, css, hb, hr, hx⟩ := h
  have hlt : ∀ k, RowB A c k → R k ∧ k < w.heap.size := fun k hk => by
    obtain ⟨ha, cur, hc⟩ := hr.tightB.2 k hk
    exact ⟨ha, (Array.getElem?_eq_some_iff.1 hc).1⟩
  refine ⟨⟨h1, h2⟩, hok, A, c, css, hb, hr.tightB.1.mono (fun k hk _ => hR k (hlt k hk).1 (hlt k hk).2), hx.mono (fun k hk hl => ⟨hS k hk.1 hl, hk.2⟩)⟩
/-- What was not touched stands. -/
theorem JoinAt.only {R S F : Nat → Prop} {w w' : World} {g : Nat} {J : Jn} (h : JoinAt R S w g J) (ho : Only F w w') (hg : ¬ F g) (hR : ∀ k, R k → ¬ F k) (hS : ∀ k, S k → ¬ F k) : JoinAt R S w' g J := by
  obtain ⟨h0, hok, A, c, css, hb, hr, hx⟩ := h
  exact ⟨h0, hok, A, c, css, hb.only ho hg, hr.only ho hR, hx.only ho (fun k hk => hS k hk.1)⟩
theorem open_run (R S : Nat → Prop) (g : Nat) (J : Jn) (w : World) (h : JoinAt R S w g J) : Calls Tryd.prog 15 #[.pointer (some ⟨g, 0, none⟩)] w fun e w' => e = .returned (.int .i64 J.T.length) ∧ Only Noth w w' := by
  obtain ⟨_, hok, A, c, css, hb, hr, hx⟩ := h
  have m0 : w.cell? ⟨g, 0, none⟩ = some (.slice A J.T.length c) := hb.cell 0
  clear hb hr hx
  go_enter Tryd.func15, Tryd.ntmps15
  go_wp2
  go_ret
  exact ⟨rfl, Only.refl _ _⟩
theorem nil_open (w : World) : Calls Tryd.prog 15 #[.pointer none] w fun e w' => e = .returned (.int .i64 0) ∧ Only Noth w w' := by
  go_enter Tryd.func15, Tryd.ntmps15
  go_wp2
  go_ret
  exact ⟨rfl, Only.refl _ _⟩
theorem nil_find (w : World) (frm id : Int) : Calls Tryd.prog 36 #[.pointer none, .int .u16 frm, .int .i64 id] w fun e w' => e = .returned (.int .i64 (-1)) ∧ Only Noth w w' := by
  have O := Lib.hid (((Only.refl Noth w).alloc (.cells #[.int .u16 frm] 46)).alloc (.cells #[.int .i64 id] 3))
  go_enter Tryd.func36, Tryd.ntmps36
  go_wp2
  go_ret
  exact ⟨rfl, O.out⟩
theorem nil_missing (w : World) (frm id : Int) : Calls Tryd.prog 14 #[.pointer none, .int .u16 frm, .int .i64 id] w fun e w' => e = .returned (.slice none 0 0) ∧ Only Noth w w' := by
  go_enter Tryd.func14, Tryd.ntmps14
  go_wp2_with fail
  refine (nil_find _ _ _).mono ?_
  rintro r w1 ⟨rfl, ho⟩
  have O := Lib.hid ho
  clear ho
  go_wp2
  go_ret
  exact ⟨rfl, O.out⟩
theorem nil_add (w : World) (frm : Int) (p : Pt) (v : Value) : Calls Tryd.prog 13 #[.pointer none, .int .u16 frm, .agg (p.cells v)] w fun e w' => e = .returned (.tuple #[.slice none 0 0, .bool false, .int .i64 1]) ∧ Only Noth w w' := by
  have O := Lib.hid ((Only.refl Noth w).alloc (.cells (p.cells v) 29))
  go_enter Tryd.func13, Tryd.ntmps13
  go_wp2
  refine bodyPost_ret (v := .tuple #[.slice none 0 0, .bool false, .int .i64 1]) (by simp [results, Tryd.results13, go_sem]) rfl ?_
  exact ⟨rfl, O.out⟩
end Go.Proofs.YtemeglofblnnmaaDoor
