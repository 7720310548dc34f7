/- Package label: Key. -/
import Derived.Test.YtokgignmdgejoaaDoorLbD
import Derived.Test.YtokgignmdgejoaaDoorAlS
import Derived.Test.YtokgignmdgejoaaDoorConvY
namespace Go.Proofs.YtokgignmdgejoaaDoor
open Go.RowKit Go.Lib
set_option linter.unusedVariables false
set_option linter.unusedSimpArgs false
set_option maxRecDepth 100000
attribute [local go_sem ↓] Go.wp_at_zero Go.wp_at_succ

section
variable {ops : Array Oper} {o : Oper} {a : Act} {Q : Exit → Act → World → Prop} {md : Region.Mode} {F : Nat → Prop} {w0 : World}
/-- An operation that comes up alone; what it yields may be new. -/
theorem wpN_run1 {i : Nat} {d : Option Tmp} {n : Nat} {listed : Array Bool} {w : World} (T : Value → World → Prop)
    (hr : Region.ready md ops listed = [i]) (hi : ops[i]? = some o) (hd : o.dst = d) (hw : Region.wanted o (yielded ops a.tmps) = true)
    (he : ∀ w1, Only Noth w w1 → ∃ v w2, (execOp a.eval o).run Tryd.prog w1 = .ok (.value v) w2 ∧ T v w2 ∧ Only F w0 w2)
    (h : ∀ v w2, T v w2 → Only F w0 w2 → wpN Tryd.prog md ops Q F w0 n (listed.setIfInBounds i true) (a.put d v) w2) : wpN Tryd.prog md ops Q F w0 (n + 1) listed a w := by
  subst hd
  refine wpN_one hr hi hw (fun w1 h1 => ?_)
  obtain ⟨v, w2, hrun, ht, ho⟩ := he w1 h1
  unfold Oper.wp
  rw [hrun]
  exact ⟨ho, h v w2 ht ho⟩
/-- A call that makes bytes. -/
theorem wpN_givenF {i : Nat} {d : Option Tmp} {n : Nat} {listed : Array Bool} {w : World} {f : FuncId} {args : Array Value} {L : List UInt8} (hc : ∀ w1, Only Noth w w1 → Calls Tryd.prog f args w1 (Given w1 L)) (hS : Only F w0 w)
    (hr : Region.ready md ops listed = [i]) (hi : ops[i]? = some o) (hd : o.dst = d) (hw : Region.wanted o (yielded ops a.tmps) = true) (he : ∀ w1, (execOp a.eval o).run Tryd.prog w1 = .ok (.enter f args) w1)
    (h : ∀ A c w2, Row w2 (New w) 5 1 (.slice A L.length c) L.length (byteCells L) → L.length ≤ c → c ≤ 9223372036854775807 → Only Noth w w2 → Only F w0 w2 → wpN Tryd.prog md ops Q F w0 n (listed.setIfInBounds i true) (a.put d (.slice A L.length c)) w2) : wpN Tryd.prog md ops Q F w0 (n + 1) listed a w := by
  refine wpN_call (T := fun v w1 w2 => ∃ A c, v = .slice A L.length c ∧ Row w2 (New w1) 5 1 (.slice A L.length c) L.length (byteCells L) ∧ L.length ≤ c ∧ c ≤ 9223372036854775807 ∧ Only Noth w1 w2) (fun w1 h1 => (hc w1 h1).mono ?_) hr hi hd hw he ?_
  · rintro e w' ⟨A, c, rfl, hp, ho, h3, h4⟩
    exact ⟨_, rfl, ⟨A, c, rfl, hp, h3, h4, ho⟩, only_up _ _ _ (only_up _ _ _ hS h1) ho⟩
  · rintro v w1 w2 h1 ⟨A, c, rfl, hp, h3, h4, ho⟩ h2
    exact h A c w2 (hp.mono (fun k hk _ => Nat.le_trans h1.size hk)) h3 h4 (h1.tr ho) h2
/-- A slice that is made of values, alone. -/
theorem wpN_buildF {i : Nat} {d : Option Tmp} {n m : Nat} {listed : Array Bool} {w : World} {t : TypeId} {z : Array Value} (hr : Region.ready md ops listed = [i]) (hi : ops[i]? = some o) (hd : o.dst = d) (hw : Region.wanted o (yielded ops a.tmps) = true)
    (hS : Only F w0 w) (he : ∀ w1, (execOp a.eval o).run Tryd.prog w1 = .ok (.value (.slice (some ⟨w1.heap.size, 0, none⟩) m m)) (w1.alloc (.cells z t)))
    (h : ∀ w2 p, Only Noth w w2 → Hld w2 p t z → w.heap.size ≤ p → Only F w0 w2 → wpN Tryd.prog md ops Q F w0 n (listed.setIfInBounds i true) (a.put d (.slice (some ⟨p, 0, none⟩) m m)) w2) : wpN Tryd.prog md ops Q F w0 (n + 1) listed a w := by
  subst hd
  refine wpN_one hr hi hw (fun w1 h1 => ?_)
  unfold Oper.wp
  rw [he w1]
  exact ⟨only_up _ _ _ hS (h1.alloc _), h _ _ (h1.alloc _) (Hld.new w1 t z) h1.size (only_up _ _ _ hS (h1.alloc _))⟩
theorem app_op {t : TypeId} {s x : Operand} {S X v : Value} {w1 w2 : World} (ho : o.op = .call { callee := .builtin .append, args := #[s, x], argTypes := #[t, t] }) (hs : a.eval s = S) (hx : a.eval x = X) (hr : (Builtin.append_ #[t, t] o.type #[S, X]).run Tryd.prog w1 = .ok v w2) : (execOp a.eval o).run Tryd.prog w1 = .ok (.value v) w2 := by
  subst hs hx
  unfold execOp
  simp only [ho, resolve, invoke, builtin, Sem.run_bind, Sem.run_pure, Result.andThen_ok, List.map_toArray, List.map_cons, List.map_nil, hr]
theorem only_upF {w w1 w2 : World} (h : Only F w0 w) (k : Only Noth w w1) (m : Only F w1 w2) : Only F w0 w2 := (only_up _ _ _ h k).trans m (fun j hj _ => hj)
end
/-- Bytes by parts, each in blocks of S. -/
def PIn (w : World) (S : Nat → Prop) (vs : List Value) (ls : List (List UInt8)) : Prop := vs.length = ls.length ∧ ∀ (i : Nat) (l : List UInt8), ls[i]? = some l → ∃ A c, vs[i]? = some (.slice A l.length c) ∧ Src w S 1 A l.length (byteCells l) ∧ l.length ≤ c ∧ c ≤ 9223372036854775807
theorem PIn.only {w w' : World} {S F : Nat → Prop} {vs : List Value} {ls : List (List UInt8)} (h : PIn w S vs ls) (ho : Only F w w') (hSF : ∀ k, S k → ¬ F k) : PIn w' S vs ls := ⟨h.1, fun i l hl => by
  obtain ⟨A, c, h1, h2, h3⟩ := h.2 i l hl
  exact ⟨A, c, h1, h2.only ho hSF, h3⟩⟩
theorem PIn.mono {w : World} {S T : Nat → Prop} {vs : List Value} {ls : List (List UInt8)} (h : PIn w S vs ls) (hST : ∀ k, S k → k < w.heap.size → T k) : PIn w T vs ls := ⟨h.1, fun i l hl => by
  obtain ⟨A, c, h1, h2, h3⟩ := h.2 i l hl
  exact ⟨A, c, h1, h2.mono hST, h3⟩⟩
theorem PIn.parts {w : World} {S : Nat → Prop} {vs : List Value} {ls : List (List UInt8)} (h : PIn w S vs ls) : Parts w vs ls := ⟨h.1, fun i l hl => by
  obtain ⟨A, c, h1, h2, h3⟩ := h.2 i l hl
  exact ⟨_, h1, A, c, rfl, h2.mono (fun _ _ h => h), h3⟩⟩
theorem PIn.nil (w : World) (S : Nat → Prop) : PIn w S [] [] := ⟨rfl, fun i l h => by simp at h⟩
theorem PIn.snoc {w : World} {S : Nat → Prop} {vs : List Value} {ls : List (List UInt8)} {A : Option Addr} {c : Nat} {l : List UInt8} (h : PIn w S vs ls) (hs : Src w S 1 A l.length (byteCells l)) (h1 : l.length ≤ c) (h2 : c ≤ 9223372036854775807) : PIn w S (vs ++ [.slice A l.length c]) (ls ++ [l]) := by
  refine ⟨by simp [h.1], fun i x hx => ?_⟩
  rcases Nat.lt_or_ge i ls.length with hlt | hge
  · rw [List.getElem?_append_left hlt] at hx
    rw [List.getElem?_append_left (by rw [h.1]; exact hlt)]
    exact h.2 i x hx
  · rw [List.getElem?_append_right hge] at hx
    rw [List.getElem?_append_right (by rw [h.1]; exact hge), h.1]
    obtain ⟨hi, hxe⟩ := List.getElem?_eq_some_iff.1 hx
    have e : i - ls.length = 0 := by simp at hi; omega
    rw [e] at hx ⊢
    simp at hx
    subst hx
    exact ⟨A, c, rfl, hs, h1, h2⟩
def Pr.tx (p : Pr) : List (List UInt8) := [tText p.nb, tText p.val.data.toList]
theorem b8sinfo : (Tryd.prog.info? 75).map (fun i => (i.zero, i.size, i.bytes)) = some (some (.slice none 0 0), 1, 24) := by kernel_rfl
theorem tx_len (l : List Pr) : (l.flatMap Pr.tx).length = 2 * l.length := by
  induction l with
  | nil => rfl
  | cons a t ih => simp [Pr.tx] at ih ⊢; omega
theorem tx_small {l : List Pr} (h : ∀ p ∈ l, p.name.size ≤ 1000 ∧ p.val.size ≤ 1000) : (l.flatMap Pr.tx).flatten.length ≤ l.length * 2100 := by
  induction l with
  | nil => simp
  | cons a t ih =>
    have h1 := ih (fun p hp => h p (by simp [hp]))
    have h2 := h a (by simp)
    have e1 : a.nb.length = a.name.size := rfl
    have e2 : a.val.data.toList.length = a.val.size := rfl
    have k1 := tText_length a.nb
    have k2 := tText_length a.val.data.toList
    have k3 := itoa_len20 (a.nb.length : Int) (by omega) (by omega)
    have k4 := itoa_len20 (a.val.data.toList.length : Int) (by omega) (by omega)
    simp only [List.flatMap_cons, Pr.tx, List.flatten_append, List.flatten_cons, List.flatten_nil, List.length_append, List.length_nil, List.length_cons] at h1 ⊢
    omega
set_option maxHeartbeats 8000000 in
theorem key_run (S : Nat → Prop) (A : Option Addr) (c n : Nat) (l : List Pr) (hn : l.length = n) (hn8 : n ≤ 8) (hsm : ∀ p ∈ l, p.name.size ≤ 1000 ∧ p.val.size ≤ 1000) (w : World) (h : PsAt w S A c l) (ht : Tab w) :
    Calls Tryd.prog 30 #[.slice A n c] w fun e w' => e = .returned (.string ⟨(lkey l).toArray⟩) ∧ Only Noth w w' := by
  have H := Lib.hid h
  have HN := Lib.hid hn
  have SM := Lib.hid hsm
  have TB := Lib.hid ht
  have hn0 : (0 : Int) ≤ n := by omega
  obtain ⟨i0, hi, hz0, hz1, hz2⟩ := info_parts b8sinfo
  clear h hn hsm ht
  go_enter Tryd.func30, Tryd.ntmps30
  go_wp2_with fail
  go_loopw [3, 5, 8] (fun v3 _ i W => ∃ (k : Nat) (vs : List Value) (A' : Option Addr) (c' : Nat), k ≤ n ∧ i = .int .i64 (k : Int) ∧ v3 = .slice A' (2 * k) c' ∧ Row W (New w) 75 1 (.slice A' (2 * k) c') (2 * k) vs ∧ PIn W (fun j => w.heap.size ≤ j ∧ ¬ OwnB A' c' j) vs ((l.take k).flatMap Pr.tx) ∧ Only Noth w W) (fun _ _ i _ => n - (RowKit.intOf i).toNat)
  case atStart => exact ⟨0, [], none, 0, Nat.zero_le _, rfl, rfl, Row.nil _ _ _ _, PIn.nil _ _, Only.refl _ _⟩
  case round =>
    obtain ⟨k, vs, A1, c1, hk, rfl, rfl, hrow, hpi, ho⟩ := hrel
    have RW := Lib.hid hrow
    have RT0 := Lib.hid hrow.tight.1
    have PI := Lib.hid hpi
    have O := Lib.hid ho
    have OWN := Lib.hid (show ∀ j, OwnB A1 c1 j → w.heap.size ≤ j ∧ j < wr.heap.size from fun j hj => by
      obtain ⟨h1, cur, h2⟩ := hrow.tight.2 j hj
      exact ⟨h1, (Array.getElem?_eq_some_iff.1 h2).1⟩)
    have hk0 : (0 : Int) ≤ k := by omega
    clear hrow hpi ho
    by_cases hlt : k < n
    · have hk1 : (k : Int) < n := by omega
      obtain ⟨p, hp⟩ : ∃ p, l[k]? = some p := ⟨_, List.getElem?_eq_getElem (by rw [HN.out]; exact hlt)⟩
      obtain ⟨b, o, hA, _, hb, hc⟩ := (H.out.noth O.out).mem (by rw [HN.out]; omega)
      obtain ⟨p0, p1⟩ := hc k p hp
      subst hA
      have HP := Lib.hid hp
      have PM := Lib.hid (List.mem_of_getElem? hp)
      clear hp hc hb
      go_upto_region 5 with (refine wpList_store_whole rfl rfl 63 (.tmp 5) (.tmp 11) rfl wr.heap.size rfl _ rfl 63 _ (Hld.new wr _ _) rfl (by simp [Value.oneCell']) (by kernel_rfl) ?_; intro w5 gb ho5 hz5; have B5 := Lib.hid gb; have O5 := Lib.hid (show Only Noth wr w5 from ((Only.refl Noth wr).alloc _).trans ho5 (fun j hj hl => by have hj : j = wr.heap.size := hj; omega)); clear gb ho5 hz5)
      obtain ⟨g5, hg5⟩ : ∃ g5, wr.heap.size = g5 := ⟨_, rfl⟩
      have G5 := Lib.hid hg5
      have NB := Lib.hid (show ¬ OwnB A1 c1 g5 from fun h => by have := (OWN.out g5 h).2; omega)
      rw [hg5] at B5
      simp only [hg5]
      have T5 := Lib.hid (TB.out.noth (O.out.tr O5.out))
      have RT := Lib.hid (RT0.out.only O5.out (fun _ _ h => h))
      clear hg5 p0 p1
      refine wp_region_N (OwnB A1 c1) (by kernel_rfl) ?_
      refine wpN_take (i := 0) (d := some 12) rfl rfl (by kernel_rfl) (by kernel_rfl) (by kernel_rfl) (fun _ _ _ h => h) (sure_value (v := .slice A1 (2 * k) c1) (by rfl) (fun v1 h1 => by first | rfl | (go_simp; done) | (go_simp; intro h9; exact absurd h9 (by omega)) | (go_simp; assumption))) (Only.refl _ _) ?_
      simp only [Act.put, List.setIfInBounds_toArray, List.set_cons_zero, List.set_cons_succ]
      refine wpN_take (i := 1) (d := some 13) rfl rfl (by kernel_rfl) (by kernel_rfl) (by kernel_rfl) (fun _ _ _ h => h) (sure_value (v := .pointer (some ⟨g5, 0, none⟩)) (by rfl) (fun v1 h1 => by first | rfl | (go_simp; done) | (go_simp; intro h9; exact absurd h9 (by omega)) | (go_simp; assumption))) (Only.refl _ _) ?_
      simp only [Act.put, List.setIfInBounds_toArray, List.set_cons_zero, List.set_cons_succ]
      refine wpN_take (i := 2) (d := some 14) rfl rfl (by kernel_rfl) (by kernel_rfl) (by kernel_rfl) (fun _ _ _ h => h) (sure_lit (v := .string p.name) (i := 0) B5.out.drew rfl NB.out (by rfl) (fun _ h => by go_simp)) (Only.refl _ _) ?_
      simp only [Act.put, List.setIfInBounds_toArray, List.set_cons_zero, List.set_cons_succ]
      refine wpN_take (i := 4) (d := some 16) rfl rfl (by kernel_rfl) (by kernel_rfl) (by kernel_rfl) (fun _ _ _ h => h) (sure_value (v := .pointer (some ⟨g5, 1, none⟩)) (by rfl) (fun v1 h1 => by first | rfl | (go_simp; done) | (go_simp; intro h9; exact absurd h9 (by omega)) | (go_simp; assumption))) (Only.refl _ _) ?_
      simp only [Act.put, List.setIfInBounds_toArray, List.set_cons_zero, List.set_cons_succ]
      refine wpN_take (i := 5) (d := some 17) rfl rfl (by kernel_rfl) (by kernel_rfl) (by kernel_rfl) (fun _ _ _ h => h) (sure_lit (v := .string p.val) (i := 1) B5.out.drew rfl NB.out (by rfl) (fun _ h => by go_simp)) (Only.refl _ _) ?_
      simp only [Act.put, List.setIfInBounds_toArray, List.set_cons_zero, List.set_cons_succ]
      refine wpN_givenF (i := 3) (d := some 15) (L := tText p.nb) (fun w1 ho => ben_text p.name (by have := (SM.out p PM.out).1; omega) w1 (T5.out.noth (Only.undrew ho))) (Only.refl _ _) (by kernel_rfl) rfl rfl (by rfl) (fun _ => by go_simp) ?_
      intro A7 c7 w7 hr7 hl7 hc7 ho7 hO7
      simp only [Act.put, List.setIfInBounds_toArray, List.set_cons_zero, List.set_cons_succ]
      have R7 := Lib.hid hr7
      have O7 := Lib.hid (show Only Noth w5 w7 from Only.undrew ho7)
      have C7 := Lib.hid (And.intro hl7 hc7)
      clear hr7 ho7 hl7 hc7
      refine wpN_givenF (i := 6) (d := some 18) (L := tText p.val.data.toList) (fun w1 ho => ben_text p.val (by have := (SM.out p PM.out).2; omega) w1 (T5.out.noth (O7.out.tr ho))) hO7 (by kernel_rfl) rfl rfl (by rfl) (fun _ => by go_simp) ?_
      intro A8 c8 w8 hr8 hl8 hc8 ho8 hO8
      simp only [Act.put, List.setIfInBounds_toArray, List.set_cons_zero, List.set_cons_succ]
      have R8 := Lib.hid hr8
      have O8 := Lib.hid (O7.out.tr ho8)
      have R78 := Lib.hid (R7.out.only ho8 (fun _ _ h => h))
      have C8 := Lib.hid (And.intro hl8 hc8)
      clear hr8 ho8 hl8 hc8 hO7
      refine wpN_buildF (m := 2) (i := 7) (d := some 19) (z := #[.slice A7 (tText p.nb).length c7, .slice A8 (tText p.val.data.toList).length c8]) (t := 75) (by kernel_rfl) rfl rfl (by rfl) hO8 (fun _ => by go_simp) ?_
      intro w9 q9 ho9 hb9 hq9 hO9
      simp only [Act.put, List.setIfInBounds_toArray, List.set_cons_zero, List.set_cons_succ]
      have B9 := Lib.hid hb9
      have O9 := Lib.hid (O8.out.tr ho9)
      have R79 := Lib.hid (R78.out.only ho9 (fun _ _ h => h))
      have R89 := Lib.hid (R8.out.only ho9 (fun _ _ h => h))
      clear hb9 ho9 hO8
      refine wpN_run1 (i := 8) (d := some 20) (fun v W => ∃ A' c' W', v = .slice A' (2 * k + 2) c' ∧ Only Noth w9 W' ∧ Row W (Plus (OwnB A1 c1) W' W) 75 1 (.slice A' (2 * k + 2) c') (2 * k + 2) (vs ++ [.slice A7 (tText p.nb).length c7, .slice A8 (tText p.val.data.toList).length c8]) ∧ Only (OwnB A1 c1) W' W) (by kernel_rfl) rfl rfl (by rfl) (fun w10 h10 => ?_) ?_
      · obtain ⟨v', w', hrun, hrow', ho', _⟩ := run_append_row (P := Tryd.prog) w10 74 _ 75 i0 (.slice none 0 0) 1 24 Tryd.underlying74 hi hz0 hz1 hz2 rfl (OwnB A1 c1) _ _ (2 * k) vs (RT.out.only (O9.out.tr h10) (fun _ _ h => h)) (some ⟨q9, 0, none⟩) 2 2 [.slice A7 (tText p.nb).length c7, .slice A8 (tText p.val.data.toList).length c8] (((B9.out.only h10 (fun h => h)).src 2 rfl)) (by intro u hu; simp at hu; rcases hu with rfl | rfl <;> rfl) (by simp only [maxLen]; omega) (by omega)
        obtain ⟨A', c', rfl⟩ := hrow'.shape
        exact ⟨_, w', app_op rfl rfl rfl hrun, ⟨A', c', w10, rfl, h10, hrow', ho'⟩, only_upF hO9 h10 ho'⟩
      rintro v w11 ⟨A', c', W', rfl, h10, hrow', ho'⟩ hO11
      refine wpN_rebase hO11 ?_
      simp only [Act.put, List.setIfInBounds_toArray, List.set_cons_zero, List.set_cons_succ]
      refine wpN_take (i := 9) (d := some 3) rfl rfl (by kernel_rfl) (by kernel_rfl) (by kernel_rfl) (fun _ _ _ h => h) (sure_value (v := .slice A' (2 * k + 2) c') (by rfl) (fun v1 h1 => by first | rfl | (go_simp; done) | (go_simp; intro h9; exact absurd h9 (by omega)) | (go_simp; assumption))) (Only.refl _ _) ?_
      simp only [Act.put, List.setIfInBounds_toArray, List.set_cons_zero, List.set_cons_succ]
      refine wpN_done (by kernel_rfl) (fun w12 ho => ?_) _
      have O11 := Lib.hid (show Only Noth w w11 from (((O.out.tr O5.out).tr O9.out).tr h10).trans ho' (fun j hj hl => by have := (OWN.out j hj).1; omega))
      have Z5 := Lib.hid O5.out.size
      have Z9 := Lib.hid O9.out.size
      have Z7 := Lib.hid O7.out.size
      have Z10 := Lib.hid h10.size
      have hin1 : PIn W' (fun j => w.heap.size ≤ j ∧ ¬ OwnB A1 c1 j ∧ j < W'.heap.size) vs ((l.take k).flatMap Pr.tx) := (((PI.out.only O5.out (fun _ _ h => h)).only O9.out (fun _ _ h => h)).only h10 (fun _ _ h => h)).mono (fun j hj hl => ⟨hj.1, hj.2, hl⟩)
      have hnw : ∀ j, w5.heap.size ≤ j → j < W'.heap.size → w.heap.size ≤ j ∧ ¬ OwnB A1 c1 j ∧ j < W'.heap.size := fun j hj hl => ⟨by have := O.out.size; have := Z5.out; omega, fun h => by have := (OWN.out j h).2; have := Z5.out; omega, hl⟩
      have hin2 := hin1.snoc ((R79.out.only h10 (fun _ _ h => h)).src.mono (fun j hj hl => hnw j hj hl)) C7.out.1 C7.out.2
      have hin3 := hin2.snoc ((R89.out.only h10 (fun _ _ h => h)).src.mono (fun j hj hl => hnw j (by have hj : w7.heap.size ≤ j := hj; have := Z7.out; omega) hl)) C8.out.1 C8.out.2
      have hin4 := (hin3.only ho' (fun j hj => hj.2.1)).mono (T := fun j => w.heap.size ≤ j ∧ ¬ OwnB A' c' j) (fun j hj hl => ⟨hj.1, fun h => by
        rcases (hrow'.tight.2 j h).1 with h2 | h2
        · exact hj.2.1 h2
        · have := h2.1; have := hj.2.2; omega⟩)
      rw [List.append_assoc, List.append_assoc] at hin4
      have HIN := Lib.hid (hin4.only ho (fun _ _ h => h))
      have HRW := Lib.hid ((hrow'.mono (G := New w) (fun j hj hl => by
        rcases hj with hj | hj
        · exact (OWN.out j hj).1
        · have := hj.1; have := O.out.size; have := Z5.out; have := Z9.out; have := Z10.out; show w.heap.size ≤ j; omega)).only ho (fun _ _ h => h))
      have O12 := Lib.hid (O11.out.tr ho)
      clear hin1 hin2 hin3 hin4 hnw hrow' ho' h10 hO11 ho
      go_wp2_with fail
      go_roundw
      case rel =>
        refine ⟨k + 1, _, A', c', by omega, by go_num, rfl, HRW.out, ?_, O12.out⟩
        rw [List.take_add_one, HP.out, List.flatMap_append]
        exact HIN.out
      case measure => simp [RowKit.intOf]; omega
    · obtain rfl : k = n := by omega
      have hpi := PI.out
      rw [List.take_of_length_le (by rw [HN.out]; exact Nat.le_refl _)] at hpi
      have hlm : (l.flatMap Pr.tx).length = 2 * k := by rw [tx_len, HN.out]
      have LS := Lib.hid (ben_list A1 c1 vs (l.flatMap Pr.tx) wr (by rw [hlm]; exact RW.out.src.mono (fun _ _ h => h)) hpi.parts (by rw [hlm]; obtain ⟨_, _, _, he, h1, _⟩ := RW.out; injection he with _ _ e; omega) (by obtain ⟨_, _, _, he, _, h2, _⟩ := RW.out; injection he with _ _ e; simp only [maxLen] at h2; omega) (by have := tx_small SM.out; rw [HN.out] at this; omega))
      rw [hlm] at LS
      have HK := Lib.hid (show tList (l.flatMap Pr.tx) = lkey l from rfl)
      clear hpi hlm
      go_wp2_with fail
      refine LS.out.mono ?_
      rintro e w3 hg
      have ho3 := hg.choose_spec.choose_spec.2.2.1
      obtain ⟨A3, c3, rfl, hp3, _⟩ := hg.part
      have hcv := hp3.conv
      rw [HK.out] at hcv ⊢
      have O3 := Lib.hid (O.out.tr ho3)
      clear hg hp3 ho3
      go_wp2
      go_ret
      exact ⟨rfl, O3.out⟩
end Go.Proofs.YtokgignmdgejoaaDoor
