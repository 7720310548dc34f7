/- The document's key of labels. -/
import Derived.Test.YtokgignmdgejoaaDoorLbE
import Derived.Test.YtokgignmdgejoaaDoorRefLK
namespace Go.Proofs.YtokgignmdgejoaaDoor
open Go.RowKit Go.Lib
set_option linter.unusedVariables false
set_option linter.unusedSimpArgs false
set_option maxRecDepth 100000
attribute [local go_sem ↓] Go.wp_at_zero Go.wp_at_succ

/-- Bytes that a call hands back, in new memory. -/
def GivenS (w : World) (l : List UInt8) (e : Ending) (w' : World) : Prop := ∃ A c, e = .returned (.slice A l.length c) ∧ Src w' (New w) 1 A l.length (byteCells l) ∧ l.length ≤ c ∧ c ≤ 9223372036854775807 ∧ Only Noth w w'
theorem ref_text_n (s : ByteArray) (hs : s.size ≤ 140737488355300) (w : World) :
    Calls Tryd.prog 43 #[.string s] w (GivenS w (tText s.data.toList)) := by
  have el : s.data.toList.length = s.size := rfl
  obtain ⟨K, hK⟩ : ∃ K, (ByteArray.mk (itoa (s.size : Int)).toArray) = K := ⟨_, rfl⟩
  have hks : K.size ≤ 20 := by rw [← hK, mk_size]; exact itoa_len20 _ (by omega) (by omega)
  have HK := Lib.hid hK
  clear hK
  obtain ⟨X, hX⟩ : ∃ X, K ++ (ByteArray.mk #[58]) ++ s = X := ⟨_, rfl⟩
  have hXl : X.data.toList = tText s.data.toList := by rw [← hX, ba_append_list, ba_append_list, ← HK.out]; simp [tText]
  have hXs : X.size ≤ 140737488355400 := by
    have : X.data.toList.length = X.size := rfl
    rw [← this, ← hX, ba_append_list, ba_append_list, List.length_append, List.length_append]
    have e1 : K.data.toList.length = K.size := rfl
    have e2 : (ByteArray.mk #[58]).data.toList.length = 1 := rfl
    omega
  have HCV := Lib.hid (fun w => conv_bytes_n X (by omega) w)
  obtain ⟨A, c, W, hcv, hp, ho⟩ := HCV.out w
  have HP := Lib.hid hp
  have HO := Lib.hid ho
  have XL := Lib.hid hXl
  have HXX := Lib.hid hX
  have hs1 : K.size + 1 ≤ 9223372036854775807 := by omega
  have hs2 : K.size + 1 + s.size ≤ 9223372036854775807 := by omega
  have hs3 : (s.size : Int) ≤ 9223372036854775807 := by omega
  clear hp ho hXl hX el
  go_enter Tryd.func43, Tryd.ntmps43
  go_wp2_with fail
  refine (ref_told_v _ (by omega) hs3 K HK.out _).mono ?_
  rintro e w' ⟨rfl, rfl⟩
  rw [← HXX.out] at hcv
  go_wp2
  go_ret
  have hl : K.size + 1 + s.size = (tText s.data.toList).length := by
    rw [← XL.out, ← HXX.out, ba_append_list, ba_append_list, List.length_append, List.length_append]
    rfl
  have hx : X.data.toList = tText s.data.toList := XL.out
  rw [hl]
  rw [hx] at HP
  exact ⟨A, c, rfl, HP.out.1, HP.out.2.1, HP.out.2.2, HO.out⟩
section
variable {ops : Array Oper} {o : Oper} {a : Act} {Q : Exit → Act → World → Prop} {md : Region.Mode} {F : Nat → Prop} {w0 : World}
theorem wpN_givenS {i : Nat} {d : Option Tmp} {n : Nat} {listed : Array Bool} {w : World} {f : FuncId} {args : Array Value} {L : List UInt8} (hc : ∀ w1, Only Noth w w1 → Calls Tryd.prog f args w1 (GivenS w1 L)) (hS : Only F w0 w)
    (hr : Region.ready md ops listed = [i]) (hi : ops[i]? = some o) (hd : o.dst = d) (hw : Region.wanted o (yielded ops a.tmps) = true) (he : ∀ w1, (execOp a.eval o).run Tryd.prog w1 = .ok (.enter f args) w1)
    (h : ∀ A c w2, Src w2 (New w) 1 A L.length (byteCells L) → L.length ≤ c → c ≤ 9223372036854775807 → Only Noth w w2 → Only F w0 w2 → wpN Tryd.prog md ops Q F w0 n (listed.setIfInBounds i true) (a.put d (.slice A L.length c)) w2) : wpN Tryd.prog md ops Q F w0 (n + 1) listed a w := by
  refine wpN_call (T := fun v w1 w2 => ∃ A c, v = .slice A L.length c ∧ Src w2 (New w1) 1 A L.length (byteCells L) ∧ L.length ≤ c ∧ c ≤ 9223372036854775807 ∧ Only Noth w1 w2) (fun w1 h1 => (hc w1 h1).mono ?_) hr hi hd hw he ?_
  · rintro e w' ⟨A, c, rfl, hp, h3, h4, ho⟩
    exact ⟨_, rfl, ⟨A, c, rfl, hp, h3, h4, ho⟩, only_up _ _ _ (only_up _ _ _ hS h1) ho⟩
  · rintro v w1 w2 h1 ⟨A, c, rfl, hp, h3, h4, ho⟩ h2
    exact h A c w2 (hp.mono (fun k hk _ => Nat.le_trans h1.size hk)) h3 h4 (h1.tr ho) h2
end
theorem tx_each {l : List Pr} {p : Pr} (hp : p ∈ l) : p.name.size ≤ (l.flatMap Pr.tx).flatten.length ∧ p.val.size ≤ (l.flatMap Pr.tx).flatten.length := by
  induction l with
  | nil => cases hp
  | cons a t ih =>
    have e1 : a.nb.length = a.name.size := rfl
    have e2 : a.val.data.toList.length = a.val.size := rfl
    have k1 := tText_length a.nb
    have k2 := tText_length a.val.data.toList
    simp only [List.flatMap_cons, Pr.tx, List.flatten_append, List.flatten_cons, List.flatten_nil, List.length_append, List.length_nil, List.length_cons] at ih ⊢
    rcases List.mem_cons.1 hp with rfl | hp
    · omega
    · have := ih hp
      omega
set_option maxHeartbeats 8000000 in
/-- The document's key. -/
theorem rkey_all (S : Nat → Prop) (A : Option Addr) (c n : Nat) (l : List Pr) (hn : l.length = n) (hn8 : n ≤ 12) (hT : (l.flatMap Pr.tx).flatten.length + 2 ≤ 140737488355300) (w : World) (h : PsAt w S A c l) :
    Calls Tryd.prog 24 #[.slice A n c] w fun e w' => e = .returned (.string ⟨(lkey l).toArray⟩) ∧ Only Noth w w' := by
  have H := Lib.hid h
  have HN := Lib.hid hn
  have ST := Lib.hid hT
  have hn0 : (0 : Int) ≤ n := by omega
  obtain ⟨i0, hi, hz0, hz1, hz2⟩ := info_parts b8sinfo
  clear h hn hT
  go_enter Tryd.func24, Tryd.ntmps24
  go_wp2_with fail
  go_loopw [3, 4] (fun v3 i W => ∃ (k : Nat) (vs : List Value) (A' : Option Addr) (c' : Nat), k ≤ n ∧ i = .int .i64 (k : Int) ∧ v3 = .slice A' (2 * k) c' ∧ Row W (New w) 75 1 (.slice A' (2 * k) c') (2 * k) vs ∧ PIn W (fun j => w.heap.size ≤ j ∧ ¬ OwnB A' c' j) vs ((l.take k).flatMap Pr.tx) ∧ Only Noth w W) (fun _ i _ => n - (RowKit.intOf i).toNat)
  case atStart => exact ⟨0, [], none, 0, Nat.zero_le _, rfl, rfl, Row.nil _ _ _ _, PIn.nil _ _, Only.refl _ _⟩
  case round =>
    obtain ⟨k, vs, A1, c1, hk, rfl, rfl, hrow, hpi, ho⟩ := hrel
    have RW := Lib.hid hrow
    have RT0 := Lib.hid hrow.tight.1
    have PI := Lib.hid hpi
    have O := Lib.hid ho
    have OWN := Lib.hid (show ∀ j, OwnB A1 c1 j → w.heap.size ≤ j ∧ j < wr.heap.size from fun j hj => by
      obtain ⟨h1, cur, h2⟩ := hrow.tight.2 j hj
      exact ⟨h1, (Array.getElem?_eq_some_iff.1 h2).1⟩)
    have hk0 : (0 : Int) ≤ k := by omega
    clear hrow hpi ho
    by_cases hlt : k < n
    · have hk1 : (k : Int) < n := by omega
      obtain ⟨p, hp⟩ : ∃ p, l[k]? = some p := ⟨_, List.getElem?_eq_getElem (by rw [HN.out]; exact hlt)⟩
      obtain ⟨b, o, hA, _, hb, hc⟩ := H.out.mem (by rw [HN.out]; omega)
      have hall : ∀ W, Only (OwnB A1 c1) wr W → W.cell? ⟨b, o + k * 2, none⟩ = some (.string p.name) ∧ W.cell? ⟨b, o + k * 2 + 1, none⟩ = some (.string p.val) := fun W ho => by
        have hnb : ¬ OwnB A1 c1 b := fun h => by have := (OWN.out b h).1; omega
        have hbl : b < wr.heap.size := Nat.lt_of_lt_of_le hb O.out.size
        exact ⟨((ho.cell (p := ⟨b, o + k * 2, none⟩) hbl hnb).trans (O.out.cell (p := ⟨b, o + k * 2, none⟩) hb (fun h => h))).trans (hc k p hp).1, ((ho.cell (p := ⟨b, o + k * 2 + 1, none⟩) hbl hnb).trans (O.out.cell (p := ⟨b, o + k * 2 + 1, none⟩) hb (fun h => h))).trans (hc k p hp).2⟩
      have HC := Lib.hid hall
      subst hA
      have HP := Lib.hid hp
      have EA := Lib.hid (show p.name.size ≤ 140737488355300 ∧ p.val.size ≤ 140737488355300 by
        have := tx_each (List.mem_of_getElem? hp)
        have := ST.out
        omega)
      clear hp hc hb hall
      go_upto_region 5 with fail
      refine wp_region_N (OwnB A1 c1) (by kernel_rfl) ?_
      refine wpN_take (i := 0) (d := some 11) rfl rfl (by kernel_rfl) (by kernel_rfl) (by kernel_rfl) (fun _ _ _ h => h) (sure_value (v := .slice A1 (2 * k) c1) (by rfl) (fun v1 h1 => by first | rfl | (go_simp; done) | (go_simp; intro h9; exact absurd h9 (by omega)) | (go_simp; assumption))) (Only.refl _ _) ?_
      simp only [Act.put, List.setIfInBounds_toArray, List.set_cons_zero, List.set_cons_succ]
      refine wpN_take (i := 1) (d := some 12) rfl rfl (by kernel_rfl) (by kernel_rfl) (by kernel_rfl) (fun _ _ _ h => h) (sure_value (v := .slice (some ⟨b, o, none⟩) n c) (by rfl) (fun v1 h1 => by first | rfl | (go_simp; done) | (go_simp; intro h9; exact absurd h9 (by omega)) | (go_simp; assumption))) (Only.refl _ _) ?_
      simp only [Act.put, List.setIfInBounds_toArray, List.set_cons_zero, List.set_cons_succ]
      refine wpN_take (i := 2) (d := some 13) rfl rfl (by kernel_rfl) (by kernel_rfl) (by kernel_rfl) (fun _ _ _ h => h) (sure_value (v := .int .i64 (k : Int)) (by rfl) (fun v1 h1 => by first | rfl | (go_simp; done) | (go_simp; intro h9; exact absurd h9 (by omega)) | (go_simp; assumption))) (Only.refl _ _) ?_
      simp only [Act.put, List.setIfInBounds_toArray, List.set_cons_zero, List.set_cons_succ]
      refine wpN_take (i := 3) (d := some 14) rfl rfl (by kernel_rfl) (by kernel_rfl) (by kernel_rfl) (fun _ _ _ h => h) (sure_value (v := .pointer (some ⟨b, o + k * 2, none⟩)) (by rfl) (fun v1 h1 => by first | rfl | (go_simp; done) | (go_simp; intro h9; exact absurd h9 (by omega)) | (go_simp; assumption))) (Only.refl _ _) ?_
      simp only [Act.put, List.setIfInBounds_toArray, List.set_cons_zero, List.set_cons_succ]
      refine wpN_take (i := 4) (d := some 15) rfl rfl (by kernel_rfl) (by kernel_rfl) (by kernel_rfl) (fun _ _ _ h => h) (sure_value (v := .pointer (some ⟨b, o + k * 2, none⟩)) (by rfl) (fun v1 h1 => by first | rfl | (go_simp; done) | (go_simp; intro h9; exact absurd h9 (by omega)) | (go_simp; assumption))) (Only.refl _ _) ?_
      simp only [Act.put, List.setIfInBounds_toArray, List.set_cons_zero, List.set_cons_succ]
      refine wpN_take (i := 5) (d := some 16) rfl rfl (by kernel_rfl) (by kernel_rfl) (by kernel_rfl) (fun _ _ _ h => h) (sure_value (v := .string p.name) (by rfl) (fun v1 h1 => by have c0 := (HC.out _ (Only.undrew h1)).1; go_simp)) (Only.refl _ _) ?_
      simp only [Act.put, List.setIfInBounds_toArray, List.set_cons_zero, List.set_cons_succ]
      refine wpN_take (i := 7) (d := some 18) rfl rfl (by kernel_rfl) (by kernel_rfl) (by kernel_rfl) (fun _ _ _ h => h) (sure_value (v := .slice (some ⟨b, o, none⟩) n c) (by rfl) (fun v1 h1 => by first | rfl | (go_simp; done) | (go_simp; intro h9; exact absurd h9 (by omega)) | (go_simp; assumption))) (Only.refl _ _) ?_
      simp only [Act.put, List.setIfInBounds_toArray, List.set_cons_zero, List.set_cons_succ]
      refine wpN_take (i := 8) (d := some 19) rfl rfl (by kernel_rfl) (by kernel_rfl) (by kernel_rfl) (fun _ _ _ h => h) (sure_value (v := .int .i64 (k : Int)) (by rfl) (fun v1 h1 => by first | rfl | (go_simp; done) | (go_simp; intro h9; exact absurd h9 (by omega)) | (go_simp; assumption))) (Only.refl _ _) ?_
      simp only [Act.put, List.setIfInBounds_toArray, List.set_cons_zero, List.set_cons_succ]
      refine wpN_take (i := 9) (d := some 20) rfl rfl (by kernel_rfl) (by kernel_rfl) (by kernel_rfl) (fun _ _ _ h => h) (sure_value (v := .pointer (some ⟨b, o + k * 2, none⟩)) (by rfl) (fun v1 h1 => by first | rfl | (go_simp; done) | (go_simp; intro h9; exact absurd h9 (by omega)) | (go_simp; assumption))) (Only.refl _ _) ?_
      simp only [Act.put, List.setIfInBounds_toArray, List.set_cons_zero, List.set_cons_succ]
      refine wpN_take (i := 10) (d := some 21) rfl rfl (by kernel_rfl) (by kernel_rfl) (by kernel_rfl) (fun _ _ _ h => h) (sure_value (v := .pointer (some ⟨b, o + k * 2 + 1, none⟩)) (by rfl) (fun v1 h1 => by first | rfl | (go_simp; done) | (go_simp; intro h9; exact absurd h9 (by omega)) | (go_simp; assumption))) (Only.refl _ _) ?_
      simp only [Act.put, List.setIfInBounds_toArray, List.set_cons_zero, List.set_cons_succ]
      refine wpN_take (i := 11) (d := some 22) rfl rfl (by kernel_rfl) (by kernel_rfl) (by kernel_rfl) (fun _ _ _ h => h) (sure_value (v := .string p.val) (by rfl) (fun v1 h1 => by have c0 := (HC.out _ (Only.undrew h1)).2; go_simp)) (Only.refl _ _) ?_
      simp only [Act.put, List.setIfInBounds_toArray, List.set_cons_zero, List.set_cons_succ]
      refine wpN_givenS (i := 6) (d := some 17) (L := tText p.nb) (fun w1 ho => ref_text_n p.name (by have := EA.out.1; omega) w1) (Only.refl _ _) (by kernel_rfl) rfl rfl (by rfl) (fun _ => by go_simp) ?_
      intro A7 c7 w7 hr7 hl7 hc7 ho7 hO7
      simp only [Act.put, List.setIfInBounds_toArray, List.set_cons_zero, List.set_cons_succ]
      have R7 := Lib.hid hr7
      have O7 := Lib.hid (show Only Noth wr w7 from Only.undrew ho7)
      have C7 := Lib.hid (And.intro hl7 hc7)
      clear hr7 ho7 hl7 hc7
      refine wpN_givenS (i := 12) (d := some 23) (L := tText p.val.data.toList) (fun w1 ho => ref_text_n p.val (by have := EA.out.2; omega) w1) hO7 (by kernel_rfl) rfl rfl (by rfl) (fun _ => by go_simp) ?_
      intro A8 c8 w8 hr8 hl8 hc8 ho8 hO8
      simp only [Act.put, List.setIfInBounds_toArray, List.set_cons_zero, List.set_cons_succ]
      have R8 := Lib.hid hr8
      have O8 := Lib.hid (O7.out.tr ho8)
      have R78 := Lib.hid (R7.out.only ho8 (fun _ _ h => h))
      have C8 := Lib.hid (And.intro hl8 hc8)
      clear hr8 ho8 hl8 hc8 hO7
      refine wpN_buildF (m := 2) (i := 13) (d := some 24) (z := #[.slice A7 (tText p.nb).length c7, .slice A8 (tText p.val.data.toList).length c8]) (t := 75) (by kernel_rfl) rfl rfl (by rfl) hO8 (fun _ => by go_simp) ?_
      intro w9 q9 ho9 hb9 hq9 hO9
      simp only [Act.put, List.setIfInBounds_toArray, List.set_cons_zero, List.set_cons_succ]
      have B9 := Lib.hid hb9
      have O9 := Lib.hid (O8.out.tr ho9)
      have R79 := Lib.hid (R78.out.only ho9 (fun _ _ h => h))
      have R89 := Lib.hid (R8.out.only ho9 (fun _ _ h => h))
      clear hb9 ho9 hO8
      refine wpN_run1 (i := 14) (d := some 25) (fun v W => ∃ A' c' W', v = .slice A' (2 * k + 2) c' ∧ Only Noth w9 W' ∧ Row W (Plus (OwnB A1 c1) W' W) 75 1 (.slice A' (2 * k + 2) c') (2 * k + 2) (vs ++ [.slice A7 (tText p.nb).length c7, .slice A8 (tText p.val.data.toList).length c8]) ∧ Only (OwnB A1 c1) W' W) (by kernel_rfl) rfl rfl (by rfl) (fun w10 h10 => ?_) ?_
      · obtain ⟨v', w', hrun, hrow', ho', _⟩ := run_append_row (P := Tryd.prog) w10 74 _ 75 i0 (.slice none 0 0) 1 24 Tryd.underlying74 hi hz0 hz1 hz2 rfl (OwnB A1 c1) _ _ (2 * k) vs (RT0.out.only (O9.out.tr h10) (fun _ _ h => h)) (some ⟨q9, 0, none⟩) 2 2 [.slice A7 (tText p.nb).length c7, .slice A8 (tText p.val.data.toList).length c8] (((B9.out.only h10 (fun h => h)).src 2 rfl)) (by intro u hu; simp at hu; rcases hu with rfl | rfl <;> rfl) (by simp only [maxLen]; omega) (by omega)
        obtain ⟨A', c', rfl⟩ := hrow'.shape
        exact ⟨_, w', app_op rfl rfl rfl hrun, ⟨A', c', w10, rfl, h10, hrow', ho'⟩, only_upF hO9 h10 ho'⟩
      rintro v w11 ⟨A', c', W', rfl, h10, hrow', ho'⟩ hO11
      refine wpN_rebase hO11 ?_
      simp only [Act.put, List.setIfInBounds_toArray, List.set_cons_zero, List.set_cons_succ]
      refine wpN_take (i := 15) (d := some 3) rfl rfl (by kernel_rfl) (by kernel_rfl) (by kernel_rfl) (fun _ _ _ h => h) (sure_value (v := .slice A' (2 * k + 2) c') (by rfl) (fun v1 h1 => by first | rfl | (go_simp; done) | (go_simp; intro h9; exact absurd h9 (by omega)) | (go_simp; assumption))) (Only.refl _ _) ?_
      simp only [Act.put, List.setIfInBounds_toArray, List.set_cons_zero, List.set_cons_succ]
      refine wpN_done (by kernel_rfl) (fun w12 ho => ?_) _
      have O11 := Lib.hid (show Only Noth w w11 from ((O.out.tr O9.out).tr h10).trans ho' (fun j hj hl => by have := (OWN.out j hj).1; omega))
      have Z9 := Lib.hid O9.out.size
      have Z7 := Lib.hid O7.out.size
      have Z10 := Lib.hid h10.size
      have hin1 : PIn W' (fun j => w.heap.size ≤ j ∧ ¬ OwnB A1 c1 j ∧ j < W'.heap.size) vs ((l.take k).flatMap Pr.tx) := ((PI.out.only O9.out (fun _ _ h => h)).only h10 (fun _ _ h => h)).mono (fun j hj hl => ⟨hj.1, hj.2, hl⟩)
      have hnw : ∀ j, wr.heap.size ≤ j → j < W'.heap.size → w.heap.size ≤ j ∧ ¬ OwnB A1 c1 j ∧ j < W'.heap.size := fun j hj hl => ⟨by have := O.out.size; omega, fun h => by have := (OWN.out j h).2; omega, hl⟩
      have hin2 := hin1.snoc ((R79.out.only h10 (fun _ _ h => h)).mono (fun j hj hl => hnw j hj hl)) C7.out.1 C7.out.2
      have hin3 := hin2.snoc ((R89.out.only h10 (fun _ _ h => h)).mono (fun j hj hl => hnw j (by have hj : w7.heap.size ≤ j := hj; have := Z7.out; omega) hl)) C8.out.1 C8.out.2
      have hin4 := (hin3.only ho' (fun j hj => hj.2.1)).mono (T := fun j => w.heap.size ≤ j ∧ ¬ OwnB A' c' j) (fun j hj hl => ⟨hj.1, fun h => by
        rcases (hrow'.tight.2 j h).1 with h2 | h2
        · exact hj.2.1 h2
        · have := h2.1; have := hj.2.2; omega⟩)
      rw [List.append_assoc, List.append_assoc] at hin4
      have HIN := Lib.hid (hin4.only ho (fun _ _ h => h))
      have HRW := Lib.hid ((hrow'.mono (G := New w) (fun j hj hl => by
        rcases hj with hj | hj
        · exact (OWN.out j hj).1
        · have := hj.1; have := O.out.size; have := Z9.out; have := Z10.out; show w.heap.size ≤ j; omega)).only ho (fun _ _ h => h))
      have O12 := Lib.hid (O11.out.tr ho)
      clear hin1 hin2 hin3 hin4 hnw hrow' ho' h10 hO11 ho
      go_wp2_with fail
      go_roundw
      case rel =>
        refine ⟨k + 1, _, A', c', by omega, by go_num, rfl, HRW.out, ?_, O12.out⟩
        rw [List.take_add_one, HP.out, List.flatMap_append]
        exact HIN.out
      case measure => simp [RowKit.intOf]; omega
    · obtain rfl : k = n := by omega
      have hpi := PI.out
      rw [List.take_of_length_le (by rw [HN.out]; exact Nat.le_refl _)] at hpi
      have hlm : (l.flatMap Pr.tx).length = 2 * k := by rw [tx_len, HN.out]
      have LS := Lib.hid (ref_list A1 c1 vs (l.flatMap Pr.tx) wr (by rw [hlm]; exact RW.out.src.mono (fun _ _ h => by assumption)) hpi.parts (by rw [hlm]; obtain ⟨_, _, _, he, h1, _⟩ := RW.out; injection he with _ _ e; omega) (by obtain ⟨_, _, _, he, _, h2, _⟩ := RW.out; injection he with _ _ e; simp only [maxLen] at h2; omega) (by have := ST.out; omega))
      rw [hlm] at LS
      have HK := Lib.hid (show tList (l.flatMap Pr.tx) = lkey l from rfl)
      clear hpi hlm
      go_wp2_with fail
      refine LS.out.mono ?_
      rintro e w3 ⟨A3, c3, rfl, hp3, ho3⟩
      have hcv := hp3.conv
      rw [HK.out] at hcv ⊢
      have O3 := Lib.hid (O.out.tr ho3)
      clear hp3 ho3
      go_wp2
      go_ret
      exact ⟨rfl, O3.out⟩
theorem rkey_run (S : Nat → Prop) (A : Option Addr) (c : Nat) (l : List Pr) (h8 : l.length ≤ 8) (hsm : ∀ p ∈ l, p.name.size ≤ 1000 ∧ p.val.size ≤ 1000) (w : World) (h : PsAt w S A c l) :
    Calls Tryd.prog 24 #[.slice A l.length c] w fun e w' => e = .returned (.string ⟨(lkey l).toArray⟩) ∧ Only Noth w w' :=
  rkey_all S A c l.length l rfl (by omega) (by have := tx_small hsm; omega) w h
end Go.Proofs.YtokgignmdgejoaaDoor
