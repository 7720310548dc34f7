/- The joiner: Fork. -/
import Derived.Test.YtemeglofblnnmaaJnI
namespace Go.Proofs.Ytemeglofblnnmaa
open Go.RowKit Go.Lib
set_option linter.unusedVariables false
set_option linter.unusedSimpArgs false
set_option maxRecDepth 100000
attribute [local go_sem ↓] Go.wp_at_zero Go.wp_at_succ

set_option maxHeartbeats 4000000 in
theorem clone_texts (F : Nat → Prop) (A : Option Addr) (c n : Nat) (xs : List Value) (hz : n ≤ 1000) (h1 : ∀ u ∈ xs, u.oneCell' = true) (w : World) (h : Row w F 66 132 (.slice A n c) n xs) :
    Calls Try.prog 30 #[.slice A n c] w fun e w' => (∃ A' c', e = .returned (.slice A' n c') ∧ Row w' (New w) 66 132 (.slice A' n c') n xs) ∧ Only Noth w w' := by
  have HS := Lib.hid h.src
  have hq := fun (w : World) (a : Option Addr) (n c : Nat) => Lib.run_eql_slice_nil (P := Try.prog) w 59 66 a n c 0 0 Try.underlying59
  cases A with
  | none =>
    obtain ⟨hl, A', cap, hv, h2, h3, h4⟩ := h
    injection hv with e1 _ e3
    subst e1 e3
    have hn : n = 0 := by
      rcases h4 with h4 | ⟨g, cur, hA, _⟩
      · omega
      · cases hA
    subst hn
    have hx : xs = [] := List.eq_nil_of_length_eq_zero (by simpa using hl)
    have HX := Lib.hid hx
    clear hx h1 hl h2 h3 h4
    go_enter Try.func30, Try.ntmps30
    go_wp2
    go_ret
    refine ⟨⟨none, 0, rfl, ?_⟩, Only.refl _ _⟩
    rw [HX.out]
    exact Row.empty _ _ _ _ _
  | some ad =>
    obtain ⟨i0, hi, hz0, hz1, hz2⟩ := info_parts txinfo
    have H1 := Lib.hid h1
    clear h h1
    have RW := Lib.hid (Row.empty (w.alloc (.cells #[] 66)) (New w) 66 132 (some ⟨w.heap.size, 0, none⟩))
    have SV := Lib.hid (HS.out.alloc (.cells #[] 66))
    go_enter Try.func30, Try.ntmps30
    go_wp2_with (at_builtin; refine wpList_append_row _ rfl (.tmp 5) (.tmp 6) 59 rfl 66 i0 (.agg (newCells 0 0 0).toArray) 132 1632 Try.underlying59 hi hz0 hz1 hz2 rfl (New w) _ _ 0 _ rfl RW.out (some ad) n c xs rfl SV.out H1.out (by simp only [maxLen]; omega) (by omega) ?_; intro v' w3 hrow3 ho3 _; have HR3 := Lib.hid hrow3; have HO3 := Lib.hid ho3; clear hrow3 ho3)
    go_ret
    have hr := HR3.out
    rw [List.nil_append, Nat.zero_add] at hr
    obtain ⟨A3, c3, rfl⟩ := hr.shape
    refine ⟨⟨A3, c3, rfl, hr.mono (fun k hk _ => ?_)⟩, ((Only.refl Noth w).alloc _).trans HO3.out (fun j hj hl => by have hj : w.heap.size ≤ j := hj; omega)⟩
    rcases hk with hk | hk
    · exact hk
    · have := hk.1
      simp only [World.size_alloc] at this
      show w.heap.size ≤ k
      omega
set_option maxHeartbeats 4000000 in
theorem fork_run (R S : Nat → Prop) (g : Nat) (J : Jn) (w : World) (h : JoinAt R S w g J) :
    Calls Try.prog 19 #[.pointer (some ⟨g, 0, none⟩)] w fun e w' => (∃ p, e = .returned (.pointer (some ⟨p, 0, none⟩)) ∧ w.heap.size ≤ p ∧ p < w'.heap.size ∧ JoinAt (fun b => New w b ∧ b ≠ p) (fun b => S b ∧ b < w.heap.size) w' p J) ∧ Only Noth w w' := by
  obtain ⟨hok, A, c, css, hst⟩ := h.st
  have ST := Lib.hid hst
  have BX := Lib.hid hst.box
  have HOK := Lib.hid hok
  have h16 : J.T.length ≤ 16 := hok.len
  have HONE := Lib.hid hst.one
  clear hst hok h
  go_enter Try.func19, Try.ntmps19
  go_wp2_with fail
  refine wp_region_N Noth (by kernel_rfl) ?_
  refine wpN_take (i := 0) (d := some 5) rfl rfl (by kernel_rfl) (by kernel_rfl) (by kernel_rfl) (fun _ _ _ h => h) (sure_value (v := .pointer (some ⟨g, 0, none⟩)) (by rfl) (fun v1 h1 => by first | rfl | (go_simp; done) | (go_simp; intro h9; exact absurd h9 (by omega)) | (go_simp; assumption))) (Only.refl _ _) ?_
  simp only [Act.put, List.setIfInBounds_toArray, List.set_cons_zero, List.set_cons_succ]
  refine wpN_take (i := 1) (d := some 6) rfl rfl (by kernel_rfl) (by kernel_rfl) (by kernel_rfl) (fun _ _ _ h => h) (sure_value (v := .pointer (some ⟨g, 0, none⟩)) (by rfl) (fun v1 h1 => by first | rfl | (go_simp; done) | (go_simp; intro h9; exact absurd h9 (by omega)) | (go_simp; assumption))) (Only.refl _ _) ?_
  simp only [Act.put, List.setIfInBounds_toArray, List.set_cons_zero, List.set_cons_succ]
  refine wpN_take (i := 2) (d := some 7) rfl rfl (by kernel_rfl) (by kernel_rfl) (by kernel_rfl) (fun _ _ _ h => h) (sure_value (v := .pointer (some ⟨g, 0, none⟩)) (by rfl) (fun v1 h1 => by first | rfl | (go_simp; done) | (go_simp; intro h9; exact absurd h9 (by omega)) | (go_simp; assumption))) (Only.refl _ _) ?_
  simp only [Act.put, List.setIfInBounds_toArray, List.set_cons_zero, List.set_cons_succ]
  refine wpN_take (i := 3) (d := some 8) rfl rfl (by kernel_rfl) (by kernel_rfl) (by kernel_rfl) (fun _ _ _ h => h) (sure_lit (v := .slice A J.T.length c) (i := 0) BX.out.drew rfl (fun h => h) (by rfl) (fun _ h => by go_simp)) (Only.refl _ _) ?_
  simp only [Act.put, List.setIfInBounds_toArray, List.set_cons_zero, List.set_cons_succ]
  refine wpN_take (i := 5) (d := some 10) rfl rfl (by kernel_rfl) (by kernel_rfl) (by kernel_rfl) (fun _ _ _ h => h) (sure_value (v := .pointer (some ⟨g, 0, none⟩)) (by rfl) (fun v1 h1 => by first | rfl | (go_simp; done) | (go_simp; intro h9; exact absurd h9 (by omega)) | (go_simp; assumption))) (Only.refl _ _) ?_
  simp only [Act.put, List.setIfInBounds_toArray, List.set_cons_zero, List.set_cons_succ]
  refine wpN_take (i := 6) (d := some 11) rfl rfl (by kernel_rfl) (by kernel_rfl) (by kernel_rfl) (fun _ _ _ h => h) (sure_value (v := .pointer (some ⟨g, 0, none⟩)) (by rfl) (fun v1 h1 => by first | rfl | (go_simp; done) | (go_simp; intro h9; exact absurd h9 (by omega)) | (go_simp; assumption))) (Only.refl _ _) ?_
  simp only [Act.put, List.setIfInBounds_toArray, List.set_cons_zero, List.set_cons_succ]
  refine wpN_take (i := 7) (d := some 12) rfl rfl (by kernel_rfl) (by kernel_rfl) (by kernel_rfl) (fun _ _ _ h => h) (sure_value (v := .pointer (some ⟨g, 1, none⟩)) (by rfl) (fun v1 h1 => by first | rfl | (go_simp; done) | (go_simp; intro h9; exact absurd h9 (by omega)) | (go_simp; assumption))) (Only.refl _ _) ?_
  simp only [Act.put, List.setIfInBounds_toArray, List.set_cons_zero, List.set_cons_succ]
  refine wpN_take (i := 8) (d := some 13) rfl rfl (by kernel_rfl) (by kernel_rfl) (by kernel_rfl) (fun _ _ _ h => h) (sure_lit (v := .int .i64 J.lost) (i := 1) BX.out.drew rfl (fun h => h) (by rfl) (fun _ h => by go_simp)) (Only.refl _ _) ?_
  simp only [Act.put, List.setIfInBounds_toArray, List.set_cons_zero, List.set_cons_succ]
  refine wpN_call (i := 4) (d := some 9) (T := fun u w1 w' => ∃ A' c', u = .slice A' J.T.length c' ∧ Row w' (New w) 66 132 (.slice A' J.T.length c') J.T.length css.flatten) (fun w1 h1 => (clone_texts _ A c J.T.length css.flatten (by omega) HONE.out w1 (ST.out.noth (Only.undrew h1)).row).mono (fun r w' h => by obtain ⟨⟨A', c', e1, e2⟩, e3⟩ := h; exact ⟨_, e1, ⟨A', c', rfl, e2.mono (fun k hk _ => Nat.le_trans (Only.undrew h1).size hk)⟩, h1.tr e3⟩)) (by kernel_rfl) rfl rfl (by rfl) (fun _ => by go_simp) ?_
  rintro u w1 w2 h1 ⟨A2, c2, rfl, hrow2⟩ h2
  have HR2 := Lib.hid hrow2
  clear hrow2
  simp only [Act.put, List.setIfInBounds_toArray, List.set_cons_zero, List.set_cons_succ]
  refine wpN_take (i := 9) (d := some 14) rfl rfl (by kernel_rfl) (by kernel_rfl) (by kernel_rfl) (fun _ _ _ h => h) (sure_value (v := .agg #[.slice A2 J.T.length c2, .int .i64 J.lost]) (by rfl) (fun v1 h1 => by first | rfl | (go_simp; done) | (go_simp; intro h9; exact absurd h9 (by omega)) | (go_simp; assumption))) h2 ?_
  simp only [Act.put, List.setIfInBounds_toArray, List.set_cons_zero, List.set_cons_succ]
  refine wpN_run1 (i := 10) (d := some 15) (fun v W => ∃ p, v = .pointer (some ⟨p, 0, none⟩) ∧ w2.heap.size ≤ p ∧ Hld W p 61 #[.slice A2 J.T.length c2, .int .i64 J.lost] ∧ Only Noth w2 W) (by kernel_rfl) rfl rfl (by rfl) (fun w3 h3 => ?_) ?_
  · refine ⟨.pointer (some ⟨w3.heap.size, 0, none⟩), w3.alloc (.cells #[.slice A2 J.T.length c2, .int .i64 J.lost] 61), by go_simp, ⟨w3.heap.size, rfl, h3.size, Hld.new w3 _ _, h3.alloc _⟩, (only_up _ _ _ h2 h3).alloc _⟩
  rintro v w4 ⟨p, rfl, hp, hbox, h24⟩ h4
  simp only [Act.put, List.setIfInBounds_toArray, List.set_cons_zero, List.set_cons_succ]
  refine wpN_take (i := 11) (d := some 2) rfl rfl (by kernel_rfl) (by kernel_rfl) (by kernel_rfl) (fun _ _ _ h => h) (sure_value (v := .pointer (some ⟨p, 0, none⟩)) (by rfl) (fun v1 h1 => by first | rfl | (go_simp; done) | (go_simp; intro h9; exact absurd h9 (by omega)) | (go_simp; assumption))) h4 ?_
  simp only [Act.put, List.setIfInBounds_toArray, List.set_cons_zero, List.set_cons_succ]
  refine wpN_done (by kernel_rfl) (fun w5 ho => ?_) _
  replace ho := Lib.hid (ho)
  have HBX := Lib.hid (hbox.only ho.out (fun h => h))
  have HW := Lib.hid (Only.undrew (only_up _ _ _ h4 ho.out))
  have H25 := Lib.hid (h24.tr ho.out)
  have HP := Lib.hid hp
  have HZ2 := Lib.hid (Only.undrew h2)
  have HR5 := Lib.hid (HR2.out.only H25.out (fun _ _ h => h))
  have HT2 := Lib.hid HR2.out.tightB
  clear h1 h2 h4 ho hbox h24 hp HR2
  go_wp2
  go_ret
  have hsz := HZ2.out.size
  have hpp := HP.out
  have hblk : ∀ k, RowB A2 c2 k → w.heap.size ≤ k ∧ k < w2.heap.size := fun k hk => by
    obtain ⟨h1, cur, h2⟩ := HT2.out.2 k hk
    exact ⟨h1, (Array.getElem?_eq_some_iff.1 h2).1⟩
  refine ⟨⟨p, rfl, Nat.le_trans hsz hpp, HBX.out.lt, ⟨fun h => h.2 rfl, fun h => by have := h.2; omega⟩, HOK.out, A2, c2, css, HBX.out, ?_, ?_⟩, HW.out⟩
  · refine HR5.out.tightB.1.mono (fun k hk _ => ⟨(hblk k hk).1, fun e => ?_⟩)
    have := (hblk k hk).2
    omega
  · have hx := ST.out.txs.mono (S' := fun b => S b ∧ b < w.heap.size) (fun k hk hl => ⟨by
      rcases hk.1 with h | h
      · exact h
      · have h : w.heap.size ≤ k := h
        omega, hl⟩)
    exact (hx.only HW.out (fun _ _ h => h)).mono (fun k hk _ => ⟨hk, fun hr => by have := (hblk k hr).1; have := hk.2; omega⟩)
end Go.Proofs.Ytemeglofblnnmaa
