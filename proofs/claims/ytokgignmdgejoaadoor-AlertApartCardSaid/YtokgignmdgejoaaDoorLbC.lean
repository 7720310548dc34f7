/- Package label: pairs in memory; parts. -/
import Derived.Test.YtokgignmdgejoaaDoorLbN
namespace Go.Proofs.YtokgignmdgejoaaDoor
open Go.RowKit Go.Lib
set_option linter.unusedVariables false
set_option linter.unusedSimpArgs false
set_option maxRecDepth 100000
attribute [local go_sem ↓] Go.wp_at_zero Go.wp_at_succ

abbrev Pr.arr (p : Pr) : Array Value := #[.string p.name, .string p.val]
/-- Labels in memory. -/
structure PsAt (w : World) (S : Nat → Prop) (A : Option Addr) (c : Nat) (l : List Pr) : Prop where
  mem : 0 < l.length → ∃ b o, A = some ⟨b, o, none⟩ ∧ S b ∧ b < w.heap.size ∧ ∀ (k : Nat) (p : Pr), l[k]? = some p → w.cell? ⟨b, o + k * 2, none⟩ = some (.string p.name) ∧ w.cell? ⟨b, o + k * 2 + 1, none⟩ = some (.string p.val)
  sz : ∀ p ∈ l, p.name.size ≤ 9223372036854775807 ∧ p.val.size ≤ 9223372036854775807
  cap : l.length ≤ c
  top : c ≤ 9223372036854775807
theorem PsAt.only {w w' : World} {S F : Nat → Prop} {A : Option Addr} {c : Nat} {l : List Pr} (h : PsAt w S A c l) (ho : Only F w w') (hSF : ∀ k, S k → ¬ F k) : PsAt w' S A c l :=
  ⟨fun hl => by
    obtain ⟨b, o, hA, hS, hb, hc⟩ := h.mem hl
    exact ⟨b, o, hA, hS, Nat.lt_of_lt_of_le hb ho.size, fun k p hp => ⟨(ho.cell (p := ⟨b, o + k * 2, none⟩) hb (hSF b hS)).trans (hc k p hp).1, (ho.cell (p := ⟨b, o + k * 2 + 1, none⟩) hb (hSF b hS)).trans (hc k p hp).2⟩⟩, h.sz, h.cap, h.top⟩
theorem PsAt.noth {w w' : World} {S : Nat → Prop} {A : Option Addr} {c : Nat} {l : List Pr} (h : PsAt w S A c l) (ho : Only Noth w w') : PsAt w' S A c l := h.only ho (fun _ _ h => h)
theorem long_cl (p : Pr) (hv : p.val.size ≤ 9223372036854775807) (w : World) : Calls Tryd.prog 55 #[.agg p.arr] w fun e w' => e = .returned (.bool p.long) ∧ Only Noth w w' := by
  have O := Lib.hid ((Only.refl Noth w).alloc (.cells p.arr 63))
  have hz : (p.val.size : Int) ≤ 9223372036854775807 := by omega
  have H := Lib.hid (show p.long = decide ((64 : Int) < p.val.size) by unfold Pr.long; congr 1; simp; omega)
  clear hv
  go_enter Tryd.func55, Tryd.ntmps55
  go_wp2
  go_ret
  exact ⟨by rw [H.out]; rfl, O.out⟩
theorem bad_cl (p : Pr) (hv : p.name.size ≤ 9223372036854775807) (w : World) : Calls Tryd.prog 56 #[.agg p.arr] w fun e w' => e = .returned (.bool p.bad) ∧ Only Noth w w' := by
  have O := Lib.hid ((Only.refl Noth w).alloc (.cells p.arr 63))
  have hq2 : p.val.toList.isEmpty = decide (p.val.size = 0) := by
    rw [ByteArray.toList_eq]
    have e : p.val.data.toList.length = p.val.size := rfl
    cases h : p.val.data.toList with
    | nil => rw [h] at e; rw [show decide (p.val.size = 0) = true from decide_eq_true (by rw [← e]; rfl)]; rfl
    | cons a t => rw [h] at e; rw [show decide (p.val.size = 0) = false from decide_eq_false (by rw [← e]; simp)]; rfl
  have HN := Lib.hid hv
  cases hq : p.val.toList.isEmpty
  case true =>
    have H := Lib.hid (show p.bad = true by unfold Pr.bad; rw [← hq2, hq]; rfl)
    clear hq2 hv
    go_enter Tryd.func56, Tryd.ntmps56
    go_wp2
    go_ret
    exact ⟨by rw [H.out]; rfl, O.out⟩
  case false =>
    have H := Lib.hid (show p.bad = !lname p.name.data.toList by unfold Pr.bad Pr.nb; rw [← hq2, hq]; rfl)
    clear hq2 hv
    go_enter Tryd.func56, Tryd.ntmps56
    go_wp2_with fail
    refine (name_run p.name HN.out _).mono ?_
    rintro e w1 ⟨rfl, ho⟩
    have O1 := Lib.hid (O.out.tr ho)
    clear ho
    go_wp2
    go_ret
    exact ⟨by rw [H.out]; rfl, O1.out⟩
set_option maxHeartbeats 4000000 in
theorem lidx_run (q : Pr → Bool) (fn : FuncId) (cb : Array Value) (S : Nat → Prop) (A : Option Addr) (c n : Nat) (l : List Pr) (hn : l.length = n) (w : World) (eg : ∀ args w, (callFunc fn args).run Tryd.prog w = .ok (.enter fn args) w) (h : PsAt w S A c l)
    (hcl : ∀ W x, x ∈ l → Calls Tryd.prog fn (#[.agg x.arr] ++ cb) W fun r w' => r = .returned (.bool (q x)) ∧ Only Noth W w') :
    Calls Tryd.prog 65 #[.slice A n c, .func (.func fn) #[] cb] w fun e w' => (∃ z : Int, e = .returned (.int .i64 z) ∧ decide (0 ≤ z) = l.any q) ∧ Only Noth w w' := by
  have H := Lib.hid h
  have HC := Lib.hid hcl
  have HN := Lib.hid hn
  have hni : (n : Int) ≤ 9223372036854775807 := by have := h.cap; have := h.top; omega
  have hn0 : (0 : Int) ≤ n := by omega
  clear h hcl hn
  go_enter Tryd.func65, Tryd.ntmps65
  go_wp2_with fail
  go_loopw [8] (fun i W => ∃ k : Nat, k ≤ n ∧ i = .int .i64 (k : Int) ∧ (∀ (j : Nat) (x : Pr), j < k → l[j]? = some x → q x = false) ∧ Only Noth w W) (fun i _ => n - (RowKit.intOf i).toNat)
  case atStart => exact ⟨0, Nat.zero_le _, rfl, fun j x hj => absurd hj (Nat.not_lt_zero _), Only.refl _ _⟩
  case round =>
    obtain ⟨k, hk, rfl, hno, ho⟩ := hrel
    have NO := Lib.hid hno
    have O := Lib.hid ho
    have hk0 : (0 : Int) ≤ k := by omega
    clear hno ho
    by_cases hlt : k < n
    · obtain ⟨x, hx⟩ : ∃ x, l[k]? = some x := ⟨_, List.getElem?_eq_getElem (by rw [HN.out]; exact hlt)⟩
      obtain ⟨b, o, hA, _, hb, hc⟩ := (H.out.noth O.out).mem (by rw [HN.out]; omega)
      obtain ⟨c0, c1⟩ := hc k x hx
      have HX := Lib.hid hx
      have hk1 : (k : Int) < n := by omega
      subst hA
      clear hx hc
      go_wp2_with fail
      refine (HC.out _ x (List.mem_of_getElem? HX.out)).mono ?_
      rintro e w1 ⟨rfl, ho⟩
      have O1 := Lib.hid (O.out.tr ho)
      obtain ⟨y, hy⟩ : ∃ y, q x = y := ⟨_, rfl⟩
      rw [hy]
      have HY := Lib.hid hy
      clear ho hy c0 c1
      cases y
      · go_wp2_with fail
        go_roundw
        case rel =>
          refine ⟨k + 1, by omega, by go_num, fun j z hj hz => ?_, O1.out⟩
          by_cases e : j = k
          · subst e
            rw [HX.out] at hz
            injection hz with hz
            subst hz
            exact HY.out
          · exact NO.out j z (by omega) hz
        case measure => simp [RowKit.intOf]; omega
      · go_wp2
        go_ret
        refine ⟨⟨(k : Int), rfl, ?_⟩, O1.out⟩
        have : l.any q = true := List.any_eq_true.2 ⟨x, List.mem_of_getElem? HX.out, HY.out⟩
        rw [this]
        simp
    · obtain rfl : k = n := by omega
      go_wp2
      go_ret
      refine ⟨⟨-1, rfl, ?_⟩, O.out⟩
      have : l.any q = false := by
        rw [List.any_eq_false]
        intro x hx
        obtain ⟨j, hj, rfl⟩ := List.mem_iff_getElem.1 hx
        rw [NO.out j _ (by rw [← HN.out]; exact hj) (List.getElem?_eq_getElem hj)]
        decide
      rw [this]
      rfl
theorem lcon_run (q : Pr → Bool) (fn : FuncId) (cb : Array Value) (S : Nat → Prop) (A : Option Addr) (c n : Nat) (l : List Pr) (hn : l.length = n) (w : World) (eg : ∀ args w, (callFunc fn args).run Tryd.prog w = .ok (.enter fn args) w) (h : PsAt w S A c l)
    (hcl : ∀ W x, x ∈ l → Calls Tryd.prog fn (#[.agg x.arr] ++ cb) W fun r w' => r = .returned (.bool (q x)) ∧ Only Noth W w') :
    Calls Tryd.prog 58 #[.slice A n c, .func (.func fn) #[] cb] w fun e w' => e = .returned (.bool (l.any q)) ∧ Only Noth w w' := by
  have H := Lib.hid h
  have HC := Lib.hid hcl
  have HN := Lib.hid hn
  have EG := Lib.hid eg
  clear h hcl hn eg
  go_enter Tryd.func58, Tryd.ntmps58
  go_wp2_with fail
  refine (lidx_run q fn cb S A c n l HN.out w EG.out H.out HC.out).mono ?_
  rintro e w1 ⟨⟨z, rfl, hz⟩, ho⟩
  have HZ := Lib.hid hz
  have O := Lib.hid ho
  clear hz ho
  go_wp2
  go_ret
  exact ⟨by rw [← HZ.out]; rfl, O.out⟩
theorem egl : ∀ args w, (callFunc 55 args).run Tryd.prog w = .ok (.enter 55 args) w := fun args w => by rfl
theorem egb : ∀ args w, (callFunc 56 args).run Tryd.prog w = .ok (.enter 56 args) w := fun args w => by rfl
set_option maxHeartbeats 4000000 in
theorem parts_run (S : Nat → Prop) (A : Option Addr) (c n : Nat) (l : List Pr) (hn : l.length = n) (w : World) (h : PsAt w S A c l) :
    Calls Tryd.prog 46 #[.slice A n c] w fun e w' => e = .returned (.int .i64 (lparts l)) ∧ Only Noth w w' := by
  have H := Lib.hid h
  have HN := Lib.hid hn
  have hni : (n : Int) ≤ 9223372036854775807 := by have := h.cap; have := h.top; omega
  have hn0 : (0 : Int) ≤ n := by omega
  have hlong : ∀ W, Only Noth w W → Calls Tryd.prog 58 #[.slice A n c, .func (.func 55) #[] #[]] W fun e w' => e = .returned (.bool (l.any Pr.long)) ∧ Only Noth W w' := fun W ho => lcon_run Pr.long _ _ S A c n l hn W egl (h.noth ho) (fun W x hx => long_cl x (h.sz x hx).2 W)
  have hbad : ∀ W, Only Noth w W → Calls Tryd.prog 58 #[.slice A n c, .func (.func 56) #[] #[]] W fun e w' => e = .returned (.bool (l.any Pr.bad)) ∧ Only Noth W w' := fun W ho => lcon_run Pr.bad _ _ S A c n l hn W egb (h.noth ho) (fun W x hx => bad_cl x (h.sz x hx).1 W)
  have HLG := Lib.hid hlong
  have HBD := Lib.hid hbad
  clear h hn hlong hbad
  by_cases h8 : (n : Int) > 8
  · have HP := Lib.hid (show lparts l = 5 by unfold lparts; rw [HN.out]; simp; omega)
    go_enter Tryd.func46, Tryd.ntmps46
    go_wp2
    go_ret
    exact ⟨by rw [HP.out]; rfl, Only.refl _ _⟩
  have H8 := Lib.hid (show decide (8 < l.length) = false by rw [HN.out]; simp; omega)
  go_enter Tryd.func46, Tryd.ntmps46
  go_wp2_with fail
  refine (HLG.out w (Only.refl _ _)).mono ?_
  rintro e w1 ⟨rfl, ho⟩
  have O1 := Lib.hid ho
  obtain ⟨y, hy⟩ : ∃ y, l.any Pr.long = y := ⟨_, rfl⟩
  have HY := Lib.hid hy
  rw [hy]
  clear ho hy
  cases y
  · go_wp2_with fail
    refine (HBD.out w1 O1.out).mono ?_
    rintro e w2 ⟨rfl, ho⟩
    have O2 := Lib.hid (O1.out.tr ho)
    obtain ⟨z, hz⟩ : ∃ z, l.any Pr.bad = z := ⟨_, rfl⟩
    have HZ := Lib.hid hz
    rw [hz]
    clear ho hz
    cases z
    · have HP := Lib.hid (show lparts l = 0 by unfold lparts; rw [H8.out, HY.out, HZ.out]; rfl)
      go_wp2
      go_ret
      exact ⟨by rw [HP.out]; rfl, O2.out⟩
    · have HP := Lib.hid (show lparts l = 6 by unfold lparts; rw [H8.out, HY.out, HZ.out]; rfl)
      go_wp2
      go_ret
      exact ⟨by rw [HP.out]; rfl, O2.out⟩
  · have HP := Lib.hid (show lparts l = 5 by unfold lparts; rw [H8.out, HY.out]; rfl)
    go_wp2
    go_ret
    exact ⟨by rw [HP.out]; rfl, O1.out⟩
end Go.Proofs.YtokgignmdgejoaaDoor
