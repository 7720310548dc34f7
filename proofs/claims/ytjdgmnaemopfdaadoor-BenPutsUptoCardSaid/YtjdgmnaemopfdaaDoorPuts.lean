/- The walk of BenPuts. -/
import Derived.Test.YtjdgmnaemopfdaaDoorBenA
import Derived.Test.YtjdgmnaemopfdaaDoorRefL
import Derived.Test.YtjdgmnaemopfdaaDoorOrdC
import Derived.Test.YtjdgmnaemopfdaaDoorPrt
namespace Go.Proofs.YtjdgmnaemopfdaaDoor
open Go.RowKit Go.Lib
set_option linter.unusedVariables false
set_option maxRecDepth 100000
attribute [local go_sem ↓] Go.wp_at_zero Go.wp_at_succ

theorem bulk_pos {H : Type} (e : DataW H) : 1 ≤ Rows.uptoBulk e := by
  cases e with
  | lit l => cases l <;> simp [Rows.uptoBulk]
  | _ => simp [Rows.uptoBulk]
theorem bulk_all {H : Type} (l : List (DataW H)) : l.length ≤ Rows.uptoBulkAll l := by
  induction l with
  | nil => simp
  | cons e t ih => simp only [List.length_cons, Rows.uptoBulkAll]; have := bulk_pos e; omega
theorem bulk_one {H : Type} {e : DataW H} {l : List UInt8} (h : Bulk e l) : l.length ≤ Rows.uptoBulk e := by
  rcases h with ⟨_, rfl⟩ | ⟨elems, sp, rfl, hl⟩
  · simp
  · simp only [Rows.uptoBulk]; have := bulk_all elems; omega
theorem bulk_flat {H : Type} (elems : List (DataW H)) : ∀ ls : List (List UInt8), elems.length = ls.length → (∀ (i : Nat) e l, elems[i]? = some e → ls[i]? = some l → Bulk e l) → ls.flatten.length ≤ Rows.uptoBulkAll elems := by
  induction elems with
  | nil => intro ls h _; cases ls with
    | nil => simp
    | cons _ _ => simp at h
  | cons e t ih =>
    intro ls h hb
    cases ls with
    | nil => simp at h
    | cons l ls =>
      have h1 := bulk_one (hb 0 e l rfl rfl)
      have h2 := ih ls (by simpa using h) (fun i e' l' he hl => hb (i + 1) e' l' (by simpa using he) (by simpa using hl))
      simp only [List.flatten_cons, List.length_append, Rows.uptoBulkAll]
      omega
theorem prts_bulk {H : Type} {d : DataW H} {ls : List (List UInt8)} (h : d = .nil ∧ ls = [] ∨ ∃ elems spare, d = .slice elems spare ∧ elems.length = ls.length ∧ ∀ (i : Nat) e l, elems[i]? = some e → ls[i]? = some l → Bulk e l) : ls.flatten.length ≤ Rows.uptoBulk d := by
  rcases h with ⟨_, rfl⟩ | ⟨elems, sp, rfl, hl, hb⟩
  · simp
  · simp only [Rows.uptoBulk]; have := bulk_flat elems ls hl hb; omega
theorem tInt_L {n : Int} {L : List UInt8} (h : tInt n = L) (w : World) (h0 : -9223372036854775808 ≤ n) (h1 : n ≤ 9223372036854775807) : Calls Tryd.prog 13 #[.int .i64 n] w (GivenP w L) := by subst h; exact ref_int n h0 h1 w
theorem tText_L {s : ByteArray} {L : List UInt8} (h : tText s.data.toList = L) (w : World) (hs : s.size ≤ 140737488355300) : Calls Tryd.prog 15 #[.string s] w (GivenP w L) := by subst h; exact ref_text s hs w
set_option maxHeartbeats 8000000 in
theorem puts_walk (n : Int) (h0 : -9223372036854775808 ≤ n) (h1 : n ≤ 9223372036854775807) (s : ByteArray) (hs : s.size ≤ 140737488355300) (p : Prts) (w : World) (hp : p.Fit w) (hb : p.ls.flatten.length + 2 ≤ 140737488355328) (he : Env w) :
    Calls Tryd.prog 3 #[.int .i64 n, .string s, .slice p.a p.ls.length p.c] w fun e w' => e = .returned (.bool true) ∧ Only Noth w w' := by
  have E := Lib.hid he
  have P := Lib.hid hp
  have HS := Lib.hid hs
  have HB := Lib.hid hb
  obtain ⟨L1, hL1⟩ : ∃ L, tInt n = L := ⟨_, rfl⟩
  obtain ⟨L2, hL2⟩ : ∃ L, tText s.data.toList = L := ⟨_, rfl⟩
  obtain ⟨L3, hL3⟩ : ∃ L, tList p.ls = L := ⟨_, rfl⟩
  have LL1 := Lib.hid hL1
  have LL2 := Lib.hid hL2
  have LL3 := Lib.hid hL3
  have hl3 : ∀ W, Only Noth w W → Calls Tryd.prog 16 #[.slice p.a p.ls.length p.c] W (GivenP W L3) := fun W ho => by
    have := ben_list p.a p.c p.vs p.ls W ((hp.src.only ho (fun _ _ h => h)).mono (fun k h hl => hl)) (hp.parts.noth ho) hp.len hp.cap hb
    rw [hL3] at this
    exact given_p this
  have hr3 : ∀ W, Only Noth w W → Calls Tryd.prog 17 #[.slice p.a p.ls.length p.c] W (GivenP W L3) := fun W ho => by
    have := ref_list p.a p.c p.vs p.ls W ((hp.src.only ho (fun _ _ h => h)).mono (fun k h hl => hl)) (hp.parts.noth ho) hp.len hp.cap hb
    rw [hL3] at this
    exact this
  have HL3 := Lib.hid hl3
  have HR3 := Lib.hid hr3
  clear he hp hs hb hL1 hL2 hL3 hl3 hr3
  go_enter Tryd.func3, Tryd.ntmps3
  go_wp2_with fail
  refine wp_region_N Noth (by kernel_rfl) ?_
  have ON0 := Lib.hid (Only.refl Noth w).drew
  refine wpN_take (i := 0) (d := some 7) rfl rfl (by kernel_rfl) (by kernel_rfl) (by kernel_rfl) (fun _ _ _ h => h) (sure_value (v := .int .i64 n) (by rfl) (fun _ _ => rfl)) (Only.refl _ _) ?_
  simp only [Act.put, List.setIfInBounds_toArray, List.set_cons_zero, List.set_cons_succ]
  refine wpN_take (i := 3) (d := some 10) rfl rfl (by kernel_rfl) (by kernel_rfl) (by kernel_rfl) (fun _ _ _ h => h) (sure_value (v := .int .i64 n) (by rfl) (fun _ _ => rfl)) (Only.refl _ _) ?_
  simp only [Act.put, List.setIfInBounds_toArray, List.set_cons_zero, List.set_cons_succ]
  refine wpN_givenp (i := 1) (d := some 8) (L := L1) (fun w1 ho => given_p (ben_int_v n h0 h1 L1 LL1.out _ (E.out.noth (ON0.out.tr ho)).tab)) (Only.refl _ _) (by kernel_rfl) rfl rfl (by rfl) (fun _ => by go_simp) ?_
  intro A1 c1 w1 hp ho
  have HP1 := Lib.hid hp
  have ON1 := Lib.hid (ON0.out.tr ho)
  clear hp ho
  simp only [Act.put, List.setIfInBounds_toArray, List.set_cons_zero, List.set_cons_succ]
  refine wpN_take (i := 2) (d := some 9) rfl rfl (by kernel_rfl) (by kernel_rfl) (by kernel_rfl) (fun _ _ _ h => h) (sure_conv HP1.out (by rfl) rfl rfl) (Only.refl _ _) ?_
  simp only [Act.put, List.setIfInBounds_toArray, List.set_cons_zero, List.set_cons_succ]
  refine wpN_givenp (i := 4) (d := some 11) (L := L1) (fun w1 ho => tInt_L LL1.out _ h0 h1) (Only.refl _ _) (by kernel_rfl) rfl rfl (by rfl) (fun _ => by go_simp) ?_
  intro A2 c2 w2 hp ho
  have HP2 := Lib.hid hp
  have ON2 := Lib.hid (ON1.out.tr ho)
  clear hp ho
  simp only [Act.put, List.setIfInBounds_toArray, List.set_cons_zero, List.set_cons_succ]
  refine wpN_take (i := 5) (d := some 12) rfl rfl (by kernel_rfl) (by kernel_rfl) (by kernel_rfl) (fun _ _ _ h => h) (sure_conv HP2.out (by rfl) rfl rfl) (Only.refl _ _) ?_
  simp only [Act.put, List.setIfInBounds_toArray, List.set_cons_zero, List.set_cons_succ]
  refine wpN_take (i := 6) (d := some 13) rfl rfl (by kernel_rfl) (by kernel_rfl) (by kernel_rfl) (fun _ _ _ h => h) (sure_value (v := .bool true) (by rfl) (fun _ _ => by go_simp)) (Only.refl _ _) ?_
  simp only [Act.put, List.setIfInBounds_toArray, List.set_cons_zero, List.set_cons_succ]
  refine wpN_take (i := 7) (d := some 14) rfl rfl (by kernel_rfl) (by kernel_rfl) (by kernel_rfl) (fun _ _ _ h => h) (sure_value (v := .bool true) (by rfl) (fun _ _ => rfl)) (Only.refl _ _) ?_
  simp only [Act.put, List.setIfInBounds_toArray, List.set_cons_zero, List.set_cons_succ]
  refine wpN_take (i := 8) (d := some 15) rfl rfl (by kernel_rfl) (by kernel_rfl) (by kernel_rfl) (fun _ _ _ h => h) (sure_value (v := .string s) (by rfl) (fun _ _ => rfl)) (Only.refl _ _) ?_
  simp only [Act.put, List.setIfInBounds_toArray, List.set_cons_zero, List.set_cons_succ]
  refine wpN_take (i := 11) (d := some 18) rfl rfl (by kernel_rfl) (by kernel_rfl) (by kernel_rfl) (fun _ _ _ h => h) (sure_value (v := .string s) (by rfl) (fun _ _ => rfl)) (Only.refl _ _) ?_
  simp only [Act.put, List.setIfInBounds_toArray, List.set_cons_zero, List.set_cons_succ]
  refine wpN_givenp (i := 9) (d := some 16) (L := L2) (fun w1 ho => given_p (ben_text_v s HS.out L2 LL2.out _ (E.out.noth (ON2.out.tr ho)).tab)) (Only.refl _ _) (by kernel_rfl) rfl rfl (by rfl) (fun _ => by go_simp) ?_
  intro A3 c3 w3 hp ho
  have HP3 := Lib.hid hp
  have ON3 := Lib.hid (ON2.out.tr ho)
  clear hp ho
  simp only [Act.put, List.setIfInBounds_toArray, List.set_cons_zero, List.set_cons_succ]
  refine wpN_take (i := 10) (d := some 17) rfl rfl (by kernel_rfl) (by kernel_rfl) (by kernel_rfl) (fun _ _ _ h => h) (sure_conv HP3.out (by rfl) rfl rfl) (Only.refl _ _) ?_
  simp only [Act.put, List.setIfInBounds_toArray, List.set_cons_zero, List.set_cons_succ]
  refine wpN_givenp (i := 12) (d := some 19) (L := L2) (fun w1 ho => tText_L LL2.out _ HS.out) (Only.refl _ _) (by kernel_rfl) rfl rfl (by rfl) (fun _ => by go_simp) ?_
  intro A4 c4 w4 hp ho
  have HP4 := Lib.hid hp
  have ON4 := Lib.hid (ON3.out.tr ho)
  clear hp ho
  simp only [Act.put, List.setIfInBounds_toArray, List.set_cons_zero, List.set_cons_succ]
  refine wpN_take (i := 13) (d := some 20) rfl rfl (by kernel_rfl) (by kernel_rfl) (by kernel_rfl) (fun _ _ _ h => h) (sure_conv HP4.out (by rfl) rfl rfl) (Only.refl _ _) ?_
  simp only [Act.put, List.setIfInBounds_toArray, List.set_cons_zero, List.set_cons_succ]
  refine wpN_take (i := 14) (d := some 21) rfl rfl (by kernel_rfl) (by kernel_rfl) (by kernel_rfl) (fun _ _ _ h => h) (sure_value (v := .bool true) (by rfl) (fun _ _ => by go_simp)) (Only.refl _ _) ?_
  simp only [Act.put, List.setIfInBounds_toArray, List.set_cons_zero, List.set_cons_succ]
  refine wpN_take (i := 15) (d := some 22) rfl rfl (by kernel_rfl) (by kernel_rfl) (by kernel_rfl) (fun _ _ _ h => h) (sure_value (v := .bool true) (by rfl) (fun _ _ => rfl)) (Only.refl _ _) ?_
  simp only [Act.put, List.setIfInBounds_toArray, List.set_cons_zero, List.set_cons_succ]
  refine wpN_take (i := 16) (d := some 23) rfl rfl (by kernel_rfl) (by kernel_rfl) (by kernel_rfl) (fun _ _ _ h => h) (sure_value (v := .bool true) (by rfl) (fun _ _ => rfl)) (Only.refl _ _) ?_
  simp only [Act.put, List.setIfInBounds_toArray, List.set_cons_zero, List.set_cons_succ]
  refine wpN_take (i := 17) (d := some 24) rfl rfl (by kernel_rfl) (by kernel_rfl) (by kernel_rfl) (fun _ _ _ h => h) (sure_value (v := .slice p.a p.ls.length p.c) (by rfl) (fun _ _ => rfl)) (Only.refl _ _) ?_
  simp only [Act.put, List.setIfInBounds_toArray, List.set_cons_zero, List.set_cons_succ]
  refine wpN_take (i := 20) (d := some 27) rfl rfl (by kernel_rfl) (by kernel_rfl) (by kernel_rfl) (fun _ _ _ h => h) (sure_value (v := .slice p.a p.ls.length p.c) (by rfl) (fun _ _ => rfl)) (Only.refl _ _) ?_
  simp only [Act.put, List.setIfInBounds_toArray, List.set_cons_zero, List.set_cons_succ]
  refine wpN_givenp (i := 18) (d := some 25) (L := L3) (fun w1 ho => HL3.out _ (ON4.out.tr ho)) (Only.refl _ _) (by kernel_rfl) rfl rfl (by rfl) (fun _ => by go_simp) ?_
  intro A5 c5 w5 hp ho
  have HP5 := Lib.hid hp
  have ON5 := Lib.hid (ON4.out.tr ho)
  clear hp ho
  simp only [Act.put, List.setIfInBounds_toArray, List.set_cons_zero, List.set_cons_succ]
  refine wpN_take (i := 19) (d := some 26) rfl rfl (by kernel_rfl) (by kernel_rfl) (by kernel_rfl) (fun _ _ _ h => h) (sure_conv HP5.out (by rfl) rfl rfl) (Only.refl _ _) ?_
  simp only [Act.put, List.setIfInBounds_toArray, List.set_cons_zero, List.set_cons_succ]
  refine wpN_givenp (i := 21) (d := some 28) (L := L3) (fun w1 ho => HR3.out _ (ON5.out.tr ho)) (Only.refl _ _) (by kernel_rfl) rfl rfl (by rfl) (fun _ => by go_simp) ?_
  intro A6 c6 w6 hp ho
  have HP6 := Lib.hid hp
  have ON6 := Lib.hid (ON5.out.tr ho)
  clear hp ho
  simp only [Act.put, List.setIfInBounds_toArray, List.set_cons_zero, List.set_cons_succ]
  refine wpN_take (i := 22) (d := some 29) rfl rfl (by kernel_rfl) (by kernel_rfl) (by kernel_rfl) (fun _ _ _ h => h) (sure_conv HP6.out (by rfl) rfl rfl) (Only.refl _ _) ?_
  simp only [Act.put, List.setIfInBounds_toArray, List.set_cons_zero, List.set_cons_succ]
  refine wpN_take (i := 23) (d := some 30) rfl rfl (by kernel_rfl) (by kernel_rfl) (by kernel_rfl) (fun _ _ _ h => h) (sure_value (v := .bool true) (by rfl) (fun _ _ => by go_simp)) (Only.refl _ _) ?_
  simp only [Act.put, List.setIfInBounds_toArray, List.set_cons_zero, List.set_cons_succ]
  refine wpN_take (i := 24) (d := some 31) rfl rfl (by kernel_rfl) (by kernel_rfl) (by kernel_rfl) (fun _ _ _ h => h) (sure_value (v := .bool true) (by rfl) (fun _ _ => rfl)) (Only.refl _ _) ?_
  simp only [Act.put, List.setIfInBounds_toArray, List.set_cons_zero, List.set_cons_succ]
  refine wpN_take (i := 25) (d := some 32) rfl rfl (by kernel_rfl) (by kernel_rfl) (by kernel_rfl) (fun _ _ _ h => h) (sure_value (v := .bool true) (by rfl) (fun _ _ => rfl)) (Only.refl _ _) ?_
  simp only [Act.put, List.setIfInBounds_toArray, List.set_cons_zero, List.set_cons_succ]
  refine wpN_take (i := 26) (d := some 33) rfl rfl (by kernel_rfl) (by kernel_rfl) (by kernel_rfl) (fun _ _ _ h => h) (sure_call (fun w1 ho => ben_awake _ (E.out.noth (ON6.out.tr ho))) (by rfl) (fun _ => by go_simp)) (Only.refl _ _) ?_
  simp only [Act.put, List.setIfInBounds_toArray, List.set_cons_zero, List.set_cons_succ]
  refine wpN_take (i := 27) (d := some 34) rfl rfl (by kernel_rfl) (by kernel_rfl) (by kernel_rfl) (fun _ _ _ h => h) (sure_value (v := .bool true) (by rfl) (fun _ _ => rfl)) (Only.refl _ _) ?_
  simp only [Act.put, List.setIfInBounds_toArray, List.set_cons_zero, List.set_cons_succ]
  refine wpN_take (i := 28) (d := some 6) rfl rfl (by kernel_rfl) (by kernel_rfl) (by kernel_rfl) (fun _ _ _ h => h) (sure_value (v := .bool true) (by rfl) (fun _ _ => rfl)) (Only.refl _ _) ?_
  simp only [Act.put, List.setIfInBounds_toArray, List.set_cons_zero, List.set_cons_succ]
  refine wpN_done (by kernel_rfl) (fun w9 ho => ?_) _
  go_wp2
  go_ret
  exact ⟨rfl, ON6.out.tr ho⟩
end Go.Proofs.YtjdgmnaemopfdaaDoor
