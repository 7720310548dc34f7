/- CrdtLooks: the walk. -/
import Derived.Test.YtdclkbhkboaafaaCmPuts
namespace Go.Proofs.Ytdclkbhkboaafaa
open Go.RowKit Go.Lib Go.Sort
set_option linter.unusedVariables false
set_option linter.unusedSimpArgs false
set_option maxRecDepth 100000
attribute [local go_sem ↓] Go.wp_at_zero Go.wp_at_succ

/-- A call that hands back a new list, in a drawn region. -/
def NewL (N : List Ent) (v : Value) (w1 w' : World) : Prop := (∃ M A c, M = N ∧ v = .slice A M.length c ∧ Ents w' (.slice A M.length c) M) ∧ Only Noth w1 w'
theorem newl {f : FuncId} {args : Array Value} {w w1 : World} {N : List Ent} (h : Calls Try.prog f args w1 fun e w' => FiltAns N e w' ∧ Only Noth w1 w') (ho : Only Noth w w1) : Calls Try.prog f args w1 fun e w' => ∃ v, e = .returned v ∧ NewL N v w1 w' ∧ Only Noth w w' := by
  refine h.mono ?_
  rintro e w' ⟨⟨M, A, c, hM, rfl, he⟩, h2⟩
  exact ⟨_, rfl, ⟨⟨M, A, c, hM, rfl, he⟩, h2⟩, ho.tr h2⟩
/-- Whether two lists are one, as both say. -/
theorem eq_run {q : Bool} {l m : List Ent} {A B : Option Addr} {c d : Nat} {w : World} (hq : q = true ↔ l = m) (ha : Ents w (.slice A l.length c) l) (hb : Ents w (.slice B m.length d) m) : Calls Try.prog 22 #[.slice A l.length c, .slice B m.length d] w fun e w' => e = .returned (.bool q) ∧ Only Noth w w' := by
  refine (same_run ha hb).mono ?_
  rintro e w' ⟨⟨v, rfl, hv⟩, ho⟩
  refine ⟨?_, ho⟩
  congr 2
  rw [Bool.eq_iff_iff, hv, hq]
theorem ref_eq_run {q : Bool} {l m : List Ent} {A B : Option Addr} {c d : Nat} {w : World} (hq : q = true ↔ l = m) (ha : Ents w (.slice A l.length c) l) (hb : Ents w (.slice B m.length d) m) : Calls Try.prog 27 #[.slice A l.length c, .slice B m.length d] w fun e w' => e = .returned (.bool q) ∧ Only Noth w w' := by
  obtain ⟨A', c', e1, h1, h2, h3⟩ := ha
  obtain ⟨B', d', e2, k1, k2, k3⟩ := hb
  injection e1 with a1 _ a3
  injection e2 with b1 _ b3
  subst a1 a3 b1 b3
  refine (ref_ents A B c d l m w _ _ h1 k1 (by omega) (by omega)).mono ?_
  rintro r w' ⟨⟨v, rfl, hv⟩, ho⟩
  refine ⟨?_, ho⟩
  congr 2
  rw [Bool.eq_iff_iff, hv, hq]
set_option maxHeartbeats 32000000 in
theorem looks_walk (l : List Ent) (A : Option Addr) (c : Nat) (m : List Ent) (A2 : Option Addr) (c2 : Nat) (key : ByteArray) (now : Int) (w : World) (h : Ents w (.slice A l.length c) l) (hf : Fit l) (h2 : Ents w (.slice A2 m.length c2) m) (hf2 : Fit m) (hk : key.size ≤ 9223372036854775807) :
    Calls Try.prog 8 #[.slice A l.length c, .slice A2 m.length c2, .agg #[.string key, .int .i64 now]] w fun e w' => e = .returned (.bool true) ∧ Only Noth w w' := by
  have a1 := (Only.refl Noth w).alloc (.cells #[.string key, .int .i64 now] 49)
  have SB := Lib.hid (Hld.new w 49 #[.string key, .int .i64 now])
  have EL := Lib.hid (h.noth a1)
  have EM := Lib.hid (h2.noth a1)
  have FL := Lib.hid hf
  have FM := Lib.hid hf2
  have O := Lib.hid a1
  have HK := Lib.hid hk
  have hn0 : (0 : Int) ≤ l.length := by omega
  have hn1 : (0 : Int) ≤ m.length := by omega
  have hle : l.length ≤ 9223372036854775807 := by obtain ⟨_, _, _, _, h1, h2⟩ := h; omega
  have hle2 : m.length ≤ 9223372036854775807 := by obtain ⟨_, _, _, _, h1, h2⟩ := h2; omega
  clear h h2 hf hf2 a1 hk
  go_enter Try.func8, Try.ntmps8
  go_wp2_with fail
  refine (light_run A c l hle _).mono ?_
  rintro r wll ⟨rfl, ho⟩
  replace SB := Lib.hid (SB.out.only ho (fun h => h))
  replace EL := Lib.hid (EL.out.noth ho)
  replace EM := Lib.hid (EM.out.noth ho)
  replace O := Lib.hid (O.out.tr ho)
  clear ho
  by_cases hbl : ¬ ((l.length : Int) ≤ 300)
  · have hd : decide ((l.length : Int) ≤ 300) = false := by simpa using hbl
    rw [hd]
    go_wp2_with fail
    refine (cm_awake _).mono ?_
    rintro e wa ⟨rfl, ho⟩
    replace O := Lib.hid (O.out.tr ho)
    clear ho
    go_wp2
    go_ret
    exact ⟨rfl, O.out⟩
  have hsl : (l.length : Int) ≤ 300 := Decidable.not_not.1 hbl
  have hd : decide ((l.length : Int) ≤ 300) = true := by simpa using hsl
  rw [hd]
  clear hd hbl
  go_wp2_with fail
  refine (light_run A2 c2 m hle2 _).mono ?_
  rintro r wlm ⟨rfl, ho⟩
  replace SB := Lib.hid (SB.out.only ho (fun h => h))
  replace EL := Lib.hid (EL.out.noth ho)
  replace EM := Lib.hid (EM.out.noth ho)
  replace O := Lib.hid (O.out.tr ho)
  clear ho
  by_cases hbm : ¬ ((m.length : Int) ≤ 300)
  · have hd : decide ((m.length : Int) ≤ 300) = false := by simpa using hbm
    rw [hd]
    go_wp2_with fail
    refine (cm_awake _).mono ?_
    rintro e wa ⟨rfl, ho⟩
    replace O := Lib.hid (O.out.tr ho)
    clear ho
    go_wp2
    go_ret
    exact ⟨rfl, O.out⟩
  have hsm : (m.length : Int) ≤ 300 := Decidable.not_not.1 hbm
  have hd : decide ((m.length : Int) ≤ 300) = true := by simpa using hsm
  rw [hd]
  clear hd hbm
  go_wp2_with fail
  refine wp_region_N Noth (by kernel_rfl) ?_
  refine wpN_take (i := 0) (d := some 26) rfl rfl (by kernel_rfl) (by kernel_rfl) (by kernel_rfl) (fun _ _ _ h => h) (sure_value (v := .pointer (some ⟨w.heap.size, 0, none⟩)) (by rfl) (fun v1 h1 => by first | rfl | (go_simp; done) | (go_simp; intro h9; exact absurd h9 (by omega)) | (go_simp; assumption))) (Only.refl _ _) ?_
  simp only [Act.put, List.setIfInBounds_toArray, List.set_cons_zero, List.set_cons_succ]
  refine wpN_take (i := 1) (d := some 27) rfl rfl (by kernel_rfl) (by kernel_rfl) (by kernel_rfl) (fun _ _ _ h => h) (sure_lit (v := .string key) (i := 0) SB.out.drew rfl (fun h => h) (by rfl) (fun _ h => by go_simp)) (Only.refl _ _) ?_
  simp only [Act.put, List.setIfInBounds_toArray, List.set_cons_zero, List.set_cons_succ]
  refine wpN_take (i := 2) (d := some 28) rfl rfl (by kernel_rfl) (by kernel_rfl) (by kernel_rfl) (fun _ _ _ h => h) (sure_value (v := .pointer (some ⟨w.heap.size, 1, none⟩)) (by rfl) (fun v1 h1 => by first | rfl | (go_simp; done) | (go_simp; intro h9; exact absurd h9 (by omega)) | (go_simp; assumption))) (Only.refl _ _) ?_
  simp only [Act.put, List.setIfInBounds_toArray, List.set_cons_zero, List.set_cons_succ]
  refine wpN_take (i := 3) (d := some 29) rfl rfl (by kernel_rfl) (by kernel_rfl) (by kernel_rfl) (fun _ _ _ h => h) (sure_lit (v := .int .i64 now) (i := 1) SB.out.drew rfl (fun h => h) (by rfl) (fun _ h => by go_simp)) (Only.refl _ _) ?_
  simp only [Act.put, List.setIfInBounds_toArray, List.set_cons_zero, List.set_cons_succ]
  refine wpN_take (i := 4) (d := some 7) rfl rfl (by kernel_rfl) (by kernel_rfl) (by kernel_rfl) (fun _ _ _ h => h) (sure_value (v := .string key) (by rfl) (fun v1 h1 => by first | rfl | (go_simp; done) | (go_simp; intro h9; exact absurd h9 (by omega)) | (go_simp; assumption))) (Only.refl _ _) ?_
  simp only [Act.put, List.setIfInBounds_toArray, List.set_cons_zero, List.set_cons_succ]
  refine wpN_take (i := 5) (d := some 8) rfl rfl (by kernel_rfl) (by kernel_rfl) (by kernel_rfl) (fun _ _ _ h => h) (sure_value (v := .int .i64 now) (by rfl) (fun v1 h1 => by first | rfl | (go_simp; done) | (go_simp; intro h9; exact absurd h9 (by omega)) | (go_simp; assumption))) (Only.refl _ _) ?_
  simp only [Act.put, List.setIfInBounds_toArray, List.set_cons_zero, List.set_cons_succ]
  refine wpN_done (by kernel_rfl) (fun ws ho => ?_) _
  replace ho := Only.undrew ho
  replace SB := Lib.hid (SB.out.only ho (fun h => h))
  replace EL := Lib.hid (EL.out.noth ho)
  replace EM := Lib.hid (EM.out.noth ho)
  replace O := Lib.hid (O.out.tr ho)
  clear ho SB
  go_wp2_with fail
  refine (cm_new _).mono ?_
  rintro r w1 ⟨⟨g, b, rfl, hm, hg, hb⟩, ho⟩
  have zg := Lib.hid (Nat.le_trans O.out.size hg)
  have zb := Lib.hid (Nat.le_trans O.out.size hb)
  replace EL := Lib.hid (EL.out.noth ho)
  replace EM := Lib.hid (EM.out.noth ho)
  replace O := Lib.hid (O.out.tr ho)
  have CM := Lib.hid hm
  clear ho hm hg hb
  go_wp2_with (refine wpList_store_whole rfl rfl 28 (.tmp 10) (.tmp 31) rfl _ rfl #[.slice none 0 0] rfl 28 _ (Hld.new _ _ _) rfl (by simp [Value.oneCell']) (by kernel_rfl) ?_; intro w2 hb2 ho2 _; have RB := Lib.hid hb2; have OW := Lib.hid (((Only.refl Noth w1).alloc (.cells #[.slice none 0 0] 28)).trans ho2 (fun j hj hl => by have hj : j = w1.heap.size := hj; omega)); clear hb2 ho2)
  have zr := Lib.hid (O.out.size)
  replace EL := Lib.hid (EL.out.noth OW.out)
  replace EM := Lib.hid (EM.out.noth OW.out)
  replace O := Lib.hid (O.out.tr OW.out)
  replace CM := Lib.hid (CM.out.noth OW.out)
  clear OW
  obtain ⟨rb, hrb⟩ : ∃ rb, w1.heap.size = rb := ⟨_, rfl⟩
  rw [hrb] at RB zr ⊢
  clear hrb
  have NE := Lib.hid (CM.out.ne_box RB.out)
  refine (merge_run CM.out FL.out EL.out).mono ?_
  rintro e w3 ⟨⟨n, L, rfl, hn, hL, hm⟩, ho⟩
  replace RB := Lib.hid (RB.out.only ho (fun hj => NE.out.2 (show b = rb from (show rb = b from hj).symm)))
  replace EL := Lib.hid (EL.out.beside CM.out.own ho)
  replace EM := Lib.hid (EM.out.beside CM.out.own ho)
  replace O := Lib.hid (O.out.trans ho (fun j hj hl => by have hj : j = b := hj; have := zb.out; omega))
  replace CM := Lib.hid hm
  have HL := Lib.hid hL
  have HN := Lib.hid hn
  have m0 : _ = some (Value.slice none 0 0) := RB.out.cell 0
  clear hn hL hm ho
  go_wp2_with fail
  refine (rm_merge none A 0 c [] l FL.out Rm.nil _ (Ents.none_ _) EL.out).mono ?_
  rintro e w4 ⟨⟨B, d, L2, n2, hL2, hn2, rfl, he⟩, ho⟩
  obtain rfl : L2 = L := hL2.trans HL.out.symm
  obtain rfl : n2 = n := hn2.trans HN.out.symm
  have ER := Lib.hid he
  clear m0
  replace EL := Lib.hid (EL.out.noth ho)
  replace EM := Lib.hid (EM.out.noth ho)
  replace O := Lib.hid (O.out.tr ho)
  replace CM := Lib.hid (CM.out.noth ho)
  replace RB := Lib.hid (RB.out.only ho (fun h => h))
  clear ho he hL2 hn2
  go_wp2_with (refine wpList_store_whole rfl rfl 28 (.tmp 10) (.tmp 39) rfl rb rfl #[.slice B L2.length d] rfl 28 _ RB.out rfl (by simp [Value.oneCell']) (by kernel_rfl) ?_; intro w5 hb5 ho5 _; replace ER := Lib.hid (ER.out.aside RB.out ho5); replace EL := Lib.hid (EL.out.aside RB.out ho5); replace EM := Lib.hid (EM.out.aside RB.out ho5); replace CM := Lib.hid (CM.out.only ho5 NE.out.1 NE.out.2); replace O := Lib.hid (O.out.trans ho5 (fun j hj hl => by have hj : j = rb := hj; have := zr.out; omega)); replace RB := Lib.hid hb5; clear hb5 ho5)
  refine (cm_get g b L2 key HK.out _ CM.out).mono ?_
  rintro e w6 ⟨rfl, ho⟩
  replace EL := Lib.hid (EL.out.noth ho)
  replace EM := Lib.hid (EM.out.noth ho)
  replace O := Lib.hid (O.out.tr ho)
  replace CM := Lib.hid (CM.out.noth ho)
  replace RB := Lib.hid (RB.out.only ho (fun h => h))
  replace ER := Lib.hid (ER.out.noth ho)
  clear ho
  obtain ⟨old, hold⟩ : ∃ old, look key L2 = old := ⟨_, rfl⟩
  obtain ⟨is, his⟩ : ∃ is, (cget key.data.toList L2).isSome = is := ⟨_, rfl⟩
  have HOLD := Lib.hid hold
  have HIS := Lib.hid his
  rw [hold, his]
  clear hold his
  go_wp2_with (refine wpList_store_whole rfl rfl 34 (.tmp 13) (.tmp 45) rfl _ rfl old.arr rfl 34 _ (Hld.new _ _ _) rfl (by simp [Value.oneCell']) (by kernel_rfl) ?_; intro w7 hb7 ho7 _; have X1 := Lib.hid hb7; have OW := Lib.hid (((Only.refl Noth w6).alloc (.cells Ent.none.arr 34)).trans ho7 (fun j hj hl => by have hj : j = w6.heap.size := hj; omega)); have m0 : _ = some (Value.slice B L2.length d) := (RB.out.only OW.out (fun h => h)).cell 0; clear hb7 ho7)
  replace EL := Lib.hid (EL.out.noth OW.out)
  replace EM := Lib.hid (EM.out.noth OW.out)
  replace O := Lib.hid (O.out.tr OW.out)
  replace CM := Lib.hid (CM.out.noth OW.out)
  replace RB := Lib.hid (RB.out.only OW.out (fun h => h))
  replace ER := Lib.hid (ER.out.noth OW.out)
  clear OW
  obtain ⟨x1, hx1⟩ : ∃ x1, w6.heap.size = x1 := ⟨_, rfl⟩
  rw [hx1] at X1 ⊢
  clear hx1
  refine (rm_get B d L2 key _ ER.out).mono ?_
  rintro e w8 ⟨rfl, ho⟩
  rw [HOLD.out, HIS.out]
  clear m0
  replace EL := Lib.hid (EL.out.noth ho)
  replace EM := Lib.hid (EM.out.noth ho)
  replace O := Lib.hid (O.out.tr ho)
  replace CM := Lib.hid (CM.out.noth ho)
  replace RB := Lib.hid (RB.out.only ho (fun h => h))
  replace ER := Lib.hid (ER.out.noth ho)
  replace X1 := Lib.hid (X1.out.only ho (fun h => h))
  clear ho
  go_wp2_with (refine wpList_store_whole rfl rfl 34 (.tmp 15) (.tmp 51) rfl _ rfl old.arr rfl 34 _ (Hld.new _ _ _) rfl (by simp [Value.oneCell']) (by kernel_rfl) ?_; intro w9 hb9 ho9 _; have X2 := Lib.hid hb9; have OW := Lib.hid (((Only.refl Noth w8).alloc (.cells Ent.none.arr 34)).trans ho9 (fun j hj hl => by have hj : j = w8.heap.size := hj; omega)); clear hb9 ho9)
  replace EL := Lib.hid (EL.out.noth OW.out)
  replace EM := Lib.hid (EM.out.noth OW.out)
  replace O := Lib.hid (O.out.tr OW.out)
  replace CM := Lib.hid (CM.out.noth OW.out)
  replace RB := Lib.hid (RB.out.only OW.out (fun h => h))
  replace ER := Lib.hid (ER.out.noth OW.out)
  replace X1 := Lib.hid (X1.out.only OW.out (fun h => h))
  clear OW
  obtain ⟨x2, hx2⟩ : ∃ x2, w8.heap.size = x2 := ⟨_, rfl⟩
  rw [hx2] at X2 ⊢
  clear hx2
  have hz0 : (0 : Int) ≤ n2 := by omega
  go_wp2_with fail
  obtain ⟨dsm, hdsm⟩ : ∃ dsm : Bool, (dsm = true ↔ l = m) := by
    by_cases h : l = m
    · exact ⟨true, by simp [h]⟩
    · exact ⟨false, by simp [h]⟩
  have HDQ := Lib.hid hdsm
  clear hdsm
  refine wp_region_N Noth (by kernel_rfl) ?_
  refine wpN_take (i := 0) (d := some 53) rfl rfl (by kernel_rfl) (by kernel_rfl) (by kernel_rfl) (fun _ _ _ h => h) (sure_value (v := .int .i64 (n2 : Int)) (by rfl) (fun v1 h1 => by first | rfl | (go_simp; done) | (go_simp; intro h9; exact absurd h9 (by omega)) | (go_simp; assumption))) (Only.refl _ _) ?_
  simp only [Act.put, List.setIfInBounds_toArray, List.set_cons_zero, List.set_cons_succ]
  refine wpN_take (i := 1) (d := some 54) rfl rfl (by kernel_rfl) (by kernel_rfl) (by kernel_rfl) (fun _ _ _ h => h) (sure_value (v := .int .i64 (n2 : Int)) (by rfl) (fun v1 h1 => by first | rfl | (go_simp; done) | (go_simp; intro h9; exact absurd h9 (by omega)) | (go_simp; assumption))) (Only.refl _ _) ?_
  simp only [Act.put, List.setIfInBounds_toArray, List.set_cons_zero, List.set_cons_succ]
  refine wpN_take (i := 2) (d := some 55) rfl rfl (by kernel_rfl) (by kernel_rfl) (by kernel_rfl) (fun _ _ _ h => h) (sure_value (v := .bool true) (by rfl) (fun v1 h1 => by first | rfl | (go_simp; done) | (go_simp; intro h9; exact absurd h9 (by omega)) | (go_simp; assumption))) (Only.refl _ _) ?_
  simp only [Act.put, List.setIfInBounds_toArray, List.set_cons_zero, List.set_cons_succ]
  refine wpN_take (i := 3) (d := some 56) rfl rfl (by kernel_rfl) (by kernel_rfl) (by kernel_rfl) (fun _ _ _ h => h) (sure_value (v := .bool true) (by rfl) (fun v1 h1 => by first | rfl | (go_simp; done) | (go_simp; intro h9; exact absurd h9 (by omega)) | (go_simp; assumption))) (Only.refl _ _) ?_
  simp only [Act.put, List.setIfInBounds_toArray, List.set_cons_zero, List.set_cons_succ]
  refine wpN_take (i := 4) (d := some 57) rfl rfl (by kernel_rfl) (by kernel_rfl) (by kernel_rfl) (fun _ _ _ h => h) (sure_at (EntCell.box X1.out).drew (fun h => h) (by rfl) rfl rfl) (Only.refl _ _) ?_
  simp only [Act.put, List.setIfInBounds_toArray, List.set_cons_zero, List.set_cons_succ]
  refine wpN_take (i := 5) (d := some 58) rfl rfl (by kernel_rfl) (by kernel_rfl) (by kernel_rfl) (fun _ _ _ h => h) (sure_at (EntCell.box X2.out).drew (fun h => h) (by rfl) rfl rfl) (Only.refl _ _) ?_
  simp only [Act.put, List.setIfInBounds_toArray, List.set_cons_zero, List.set_cons_succ]
  refine wpN_take (i := 6) (d := some 59) rfl rfl (by kernel_rfl) (by kernel_rfl) (by kernel_rfl) (fun _ _ _ h => h) (sure_eq (x := old) (y := old) (r := true) (eqs_of rfl) (by rfl) rfl rfl rfl) (Only.refl _ _) ?_
  simp only [Act.put, List.setIfInBounds_toArray, List.set_cons_zero, List.set_cons_succ]
  refine wpN_take (i := 7) (d := some 60) rfl rfl (by kernel_rfl) (by kernel_rfl) (by kernel_rfl) (fun _ _ _ h => h) (sure_value (v := .bool true) (by rfl) (fun v1 h1 => by first | rfl | (go_simp; done) | (go_simp; intro h9; exact absurd h9 (by omega)) | (go_simp; assumption))) (Only.refl _ _) ?_
  simp only [Act.put, List.setIfInBounds_toArray, List.set_cons_zero, List.set_cons_succ]
  refine wpN_take (i := 8) (d := some 61) rfl rfl (by kernel_rfl) (by kernel_rfl) (by kernel_rfl) (fun _ _ _ h => h) (sure_value (v := .bool true) (by rfl) (fun v1 h1 => by first | rfl | (go_simp; done) | (go_simp; intro h9; exact absurd h9 (by omega)) | (go_simp; assumption))) (Only.refl _ _) ?_
  simp only [Act.put, List.setIfInBounds_toArray, List.set_cons_zero, List.set_cons_succ]
  refine wpN_take (i := 9) (d := some 62) rfl rfl (by kernel_rfl) (by kernel_rfl) (by kernel_rfl) (fun _ _ _ h => h) (sure_value (v := .bool is) (by rfl) (fun v1 h1 => by first | rfl | (go_simp; done) | (go_simp; intro h9; exact absurd h9 (by omega)) | (go_simp; assumption))) (Only.refl _ _) ?_
  simp only [Act.put, List.setIfInBounds_toArray, List.set_cons_zero, List.set_cons_succ]
  refine wpN_take (i := 10) (d := some 63) rfl rfl (by kernel_rfl) (by kernel_rfl) (by kernel_rfl) (fun _ _ _ h => h) (sure_value (v := .bool is) (by rfl) (fun v1 h1 => by first | rfl | (go_simp; done) | (go_simp; intro h9; exact absurd h9 (by omega)) | (go_simp; assumption))) (Only.refl _ _) ?_
  simp only [Act.put, List.setIfInBounds_toArray, List.set_cons_zero, List.set_cons_succ]
  refine wpN_take (i := 11) (d := some 64) rfl rfl (by kernel_rfl) (by kernel_rfl) (by kernel_rfl) (fun _ _ _ h => h) (sure_value (v := .bool true) (by rfl) (fun v1 h1 => by first | rfl | (go_simp; done) | (go_simp; intro h9; exact absurd h9 (by omega)) | (go_simp; assumption))) (Only.refl _ _) ?_
  simp only [Act.put, List.setIfInBounds_toArray, List.set_cons_zero, List.set_cons_succ]
  refine wpN_take (i := 12) (d := some 65) rfl rfl (by kernel_rfl) (by kernel_rfl) (by kernel_rfl) (fun _ _ _ h => h) (sure_value (v := .bool true) (by rfl) (fun v1 h1 => by first | rfl | (go_simp; done) | (go_simp; intro h9; exact absurd h9 (by omega)) | (go_simp; assumption))) (Only.refl _ _) ?_
  simp only [Act.put, List.setIfInBounds_toArray, List.set_cons_zero, List.set_cons_succ]
  refine wpN_take (i := 13) (d := some 66) rfl rfl (by kernel_rfl) (by kernel_rfl) (by kernel_rfl) (fun _ _ _ h => h) (sure_value (v := .bool true) (by rfl) (fun v1 h1 => by first | rfl | (go_simp; done) | (go_simp; intro h9; exact absurd h9 (by omega)) | (go_simp; assumption))) (Only.refl _ _) ?_
  simp only [Act.put, List.setIfInBounds_toArray, List.set_cons_zero, List.set_cons_succ]
  refine wpN_take (i := 14) (d := some 67) rfl rfl (by kernel_rfl) (by kernel_rfl) (by kernel_rfl) (fun _ _ _ h => h) (sure_value (v := .pointer (some ⟨g, 0, none⟩)) (by rfl) (fun v1 h1 => by first | rfl | (go_simp; done) | (go_simp; intro h9; exact absurd h9 (by omega)) | (go_simp; assumption))) (Only.refl _ _) ?_
  simp only [Act.put, List.setIfInBounds_toArray, List.set_cons_zero, List.set_cons_succ]
  refine wpN_take (i := 15) (d := some 68) rfl rfl (by kernel_rfl) (by kernel_rfl) (by kernel_rfl) (fun _ _ _ h => h) (sure_value (v := .int .i64 now) (by rfl) (fun v1 h1 => by first | rfl | (go_simp; done) | (go_simp; intro h9; exact absurd h9 (by omega)) | (go_simp; assumption))) (Only.refl _ _) ?_
  simp only [Act.put, List.setIfInBounds_toArray, List.set_cons_zero, List.set_cons_succ]
  refine wpN_take (i := 17) (d := some 70) rfl rfl (by kernel_rfl) (by kernel_rfl) (by kernel_rfl) (fun _ _ _ h => h) (sure_one RB.out (fun h => h) (by rfl) (fun _ h => by go_simp)) (Only.refl _ _) ?_
  simp only [Act.put, List.setIfInBounds_toArray, List.set_cons_zero, List.set_cons_succ]
  refine wpN_take (i := 18) (d := some 71) rfl rfl (by kernel_rfl) (by kernel_rfl) (by kernel_rfl) (fun _ _ _ h => h) (sure_value (v := .int .i64 now) (by rfl) (fun v1 h1 => by first | rfl | (go_simp; done) | (go_simp; intro h9; exact absurd h9 (by omega)) | (go_simp; assumption))) (Only.refl _ _) ?_
  simp only [Act.put, List.setIfInBounds_toArray, List.set_cons_zero, List.set_cons_succ]
  refine wpN_call (i := 16) (d := some 69) (T := NewL _) (fun w1 h1 => newl (view_run now (CM.out.noth (Only.undrew h1))) h1) (by kernel_rfl) rfl rfl (by rfl) (fun _ => by go_simp) ?_
  rintro va wpa wqa h1 ⟨⟨Na, Ba, da, hNa, rfl, hea⟩, _⟩ h3
  simp only [Act.put, List.setIfInBounds_toArray, List.set_cons_zero, List.set_cons_succ]
  refine wpN_rebase h3 ?_
  replace h3 := Only.undrew h3
  have Ea := Lib.hid hea
  have Ja := Lib.hid hNa
  clear h1 hea hNa
  replace EL := Lib.hid (EL.out.noth h3)
  replace EM := Lib.hid (EM.out.noth h3)
  replace O := Lib.hid (O.out.tr h3)
  replace CM := Lib.hid (CM.out.noth h3)
  replace RB := Lib.hid (RB.out.only h3 (fun h => h))
  replace ER := Lib.hid (ER.out.noth h3)
  replace X1 := Lib.hid (X1.out.only h3 (fun h => h))
  replace X2 := Lib.hid (X2.out.only h3 (fun h => h))
  clear h3
  refine wpN_call (i := 19) (d := some 72) (T := NewL _) (fun w1 h1 => newl (rm_view B d L2 now CM.out.len _ (ER.out.noth h1)) h1) (by kernel_rfl) rfl rfl (by rfl) (fun _ => by go_simp) ?_
  rintro vb wpb wqb h1 ⟨⟨Nb, Bb, db, hNb, rfl, heb⟩, _⟩ h3
  simp only [Act.put, List.setIfInBounds_toArray, List.set_cons_zero, List.set_cons_succ]
  refine wpN_rebase h3 ?_
  have Eb := Lib.hid heb
  have Jb := Lib.hid hNb
  clear h1 heb hNb
  replace EL := Lib.hid (EL.out.noth h3)
  replace EM := Lib.hid (EM.out.noth h3)
  replace O := Lib.hid (O.out.tr h3)
  replace CM := Lib.hid (CM.out.noth h3)
  replace RB := Lib.hid (RB.out.only h3 (fun h => h))
  replace ER := Lib.hid (ER.out.noth h3)
  replace X1 := Lib.hid (X1.out.only h3 (fun h => h))
  replace X2 := Lib.hid (X2.out.only h3 (fun h => h))
  replace Ea := Lib.hid (Ea.out.noth h3)
  clear h3
  refine wpN_take (i := 20) (d := some 73) rfl rfl (by kernel_rfl) (by kernel_rfl) (by kernel_rfl) (fun _ _ _ h => h) (sure_call (v := .bool true) (fun w' h' => ref_self (Ea.out.noth h') (Eb.out.noth h') (Ja.out.trans Jb.out.symm)) (by rfl) (fun _ => by go_simp)) (Only.refl _ _) ?_
  simp only [Act.put, List.setIfInBounds_toArray, List.set_cons_zero, List.set_cons_succ]
  refine wpN_take (i := 21) (d := some 74) rfl rfl (by kernel_rfl) (by kernel_rfl) (by kernel_rfl) (fun _ _ _ h => h) (sure_value (v := .bool true) (by rfl) (fun v1 h1 => by first | rfl | (go_simp; done) | (go_simp; intro h9; exact absurd h9 (by omega)) | (go_simp; assumption))) (Only.refl _ _) ?_
  simp only [Act.put, List.setIfInBounds_toArray, List.set_cons_zero, List.set_cons_succ]
  refine wpN_take (i := 22) (d := some 75) rfl rfl (by kernel_rfl) (by kernel_rfl) (by kernel_rfl) (fun _ _ _ h => h) (sure_value (v := .bool true) (by rfl) (fun v1 h1 => by first | rfl | (go_simp; done) | (go_simp; intro h9; exact absurd h9 (by omega)) | (go_simp; assumption))) (Only.refl _ _) ?_
  simp only [Act.put, List.setIfInBounds_toArray, List.set_cons_zero, List.set_cons_succ]
  refine wpN_take (i := 23) (d := some 76) rfl rfl (by kernel_rfl) (by kernel_rfl) (by kernel_rfl) (fun _ _ _ h => h) (sure_value (v := .pointer (some ⟨g, 0, none⟩)) (by rfl) (fun v1 h1 => by first | rfl | (go_simp; done) | (go_simp; intro h9; exact absurd h9 (by omega)) | (go_simp; assumption))) (Only.refl _ _) ?_
  simp only [Act.put, List.setIfInBounds_toArray, List.set_cons_zero, List.set_cons_succ]
  refine wpN_take (i := 24) (d := some 77) rfl rfl (by kernel_rfl) (by kernel_rfl) (by kernel_rfl) (fun _ _ _ h => h) (sure_value (v := .slice A2 m.length c2) (by rfl) (fun v1 h1 => by first | rfl | (go_simp; done) | (go_simp; intro h9; exact absurd h9 (by omega)) | (go_simp; assumption))) (Only.refl _ _) ?_
  simp only [Act.put, List.setIfInBounds_toArray, List.set_cons_zero, List.set_cons_succ]
  refine wpN_take (i := 26) (d := some 79) rfl rfl (by kernel_rfl) (by kernel_rfl) (by kernel_rfl) (fun _ _ _ h => h) (sure_one RB.out (fun h => h) (by rfl) (fun _ h => by go_simp)) (Only.refl _ _) ?_
  simp only [Act.put, List.setIfInBounds_toArray, List.set_cons_zero, List.set_cons_succ]
  refine wpN_take (i := 27) (d := some 80) rfl rfl (by kernel_rfl) (by kernel_rfl) (by kernel_rfl) (fun _ _ _ h => h) (sure_value (v := .slice A2 m.length c2) (by rfl) (fun v1 h1 => by first | rfl | (go_simp; done) | (go_simp; intro h9; exact absurd h9 (by omega)) | (go_simp; assumption))) (Only.refl _ _) ?_
  simp only [Act.put, List.setIfInBounds_toArray, List.set_cons_zero, List.set_cons_succ]
  refine wpN_call (i := 25) (d := some 78) (T := NewL _) (fun w1 h1 => newl (delta_run (CM.out.noth h1) FM.out (EM.out.noth h1)) h1) (by kernel_rfl) rfl rfl (by rfl) (fun _ => by go_simp) ?_
  rintro vp wpp wqp h1 ⟨⟨Np, Bp, dp, hNp, rfl, hep⟩, _⟩ h3
  simp only [Act.put, List.setIfInBounds_toArray, List.set_cons_zero, List.set_cons_succ]
  refine wpN_rebase h3 ?_
  have Ep := Lib.hid hep
  have Jp := Lib.hid hNp
  clear h1 hep hNp
  replace EL := Lib.hid (EL.out.noth h3)
  replace EM := Lib.hid (EM.out.noth h3)
  replace O := Lib.hid (O.out.tr h3)
  replace CM := Lib.hid (CM.out.noth h3)
  replace RB := Lib.hid (RB.out.only h3 (fun h => h))
  replace ER := Lib.hid (ER.out.noth h3)
  replace X1 := Lib.hid (X1.out.only h3 (fun h => h))
  replace X2 := Lib.hid (X2.out.only h3 (fun h => h))
  replace Ea := Lib.hid (Ea.out.noth h3)
  replace Eb := Lib.hid (Eb.out.noth h3)
  clear h3
  refine wpN_call (i := 28) (d := some 81) (T := NewL _) (fun w1 h1 => newl (rm_delta B A2 d c2 L2 m CM.out.len _ (ER.out.noth h1) (EM.out.noth h1)) h1) (by kernel_rfl) rfl rfl (by rfl) (fun _ => by go_simp) ?_
  rintro vq wpq wqq h1 ⟨⟨Nq, Bq, dq, hNq, rfl, heq⟩, _⟩ h3
  simp only [Act.put, List.setIfInBounds_toArray, List.set_cons_zero, List.set_cons_succ]
  refine wpN_rebase h3 ?_
  have Eq := Lib.hid heq
  have Jq := Lib.hid hNq
  clear h1 heq hNq
  replace EL := Lib.hid (EL.out.noth h3)
  replace EM := Lib.hid (EM.out.noth h3)
  replace O := Lib.hid (O.out.tr h3)
  replace CM := Lib.hid (CM.out.noth h3)
  replace RB := Lib.hid (RB.out.only h3 (fun h => h))
  replace ER := Lib.hid (ER.out.noth h3)
  replace X1 := Lib.hid (X1.out.only h3 (fun h => h))
  replace X2 := Lib.hid (X2.out.only h3 (fun h => h))
  replace Ea := Lib.hid (Ea.out.noth h3)
  replace Eb := Lib.hid (Eb.out.noth h3)
  replace Ep := Lib.hid (Ep.out.noth h3)
  clear h3
  refine wpN_take (i := 29) (d := some 82) rfl rfl (by kernel_rfl) (by kernel_rfl) (by kernel_rfl) (fun _ _ _ h => h) (sure_call (v := .bool true) (fun w' h' => ref_self (Ep.out.noth h') (Eq.out.noth h') (Jp.out.trans Jq.out.symm)) (by rfl) (fun _ => by go_simp)) (Only.refl _ _) ?_
  simp only [Act.put, List.setIfInBounds_toArray, List.set_cons_zero, List.set_cons_succ]
  refine wpN_take (i := 30) (d := some 83) rfl rfl (by kernel_rfl) (by kernel_rfl) (by kernel_rfl) (fun _ _ _ h => h) (sure_value (v := .bool true) (by rfl) (fun v1 h1 => by first | rfl | (go_simp; done) | (go_simp; intro h9; exact absurd h9 (by omega)) | (go_simp; assumption))) (Only.refl _ _) ?_
  simp only [Act.put, List.setIfInBounds_toArray, List.set_cons_zero, List.set_cons_succ]
  refine wpN_take (i := 31) (d := some 84) rfl rfl (by kernel_rfl) (by kernel_rfl) (by kernel_rfl) (fun _ _ _ h => h) (sure_value (v := .bool true) (by rfl) (fun v1 h1 => by first | rfl | (go_simp; done) | (go_simp; intro h9; exact absurd h9 (by omega)) | (go_simp; assumption))) (Only.refl _ _) ?_
  simp only [Act.put, List.setIfInBounds_toArray, List.set_cons_zero, List.set_cons_succ]
  refine wpN_take (i := 32) (d := some 85) rfl rfl (by kernel_rfl) (by kernel_rfl) (by kernel_rfl) (fun _ _ _ h => h) (sure_value (v := .slice A l.length c) (by rfl) (fun v1 h1 => by first | rfl | (go_simp; done) | (go_simp; intro h9; exact absurd h9 (by omega)) | (go_simp; assumption))) (Only.refl _ _) ?_
  simp only [Act.put, List.setIfInBounds_toArray, List.set_cons_zero, List.set_cons_succ]
  refine wpN_take (i := 33) (d := some 86) rfl rfl (by kernel_rfl) (by kernel_rfl) (by kernel_rfl) (fun _ _ _ h => h) (sure_value (v := .slice A2 m.length c2) (by rfl) (fun v1 h1 => by first | rfl | (go_simp; done) | (go_simp; intro h9; exact absurd h9 (by omega)) | (go_simp; assumption))) (Only.refl _ _) ?_
  simp only [Act.put, List.setIfInBounds_toArray, List.set_cons_zero, List.set_cons_succ]
  refine wpN_take (i := 34) (d := some 87) rfl rfl (by kernel_rfl) (by kernel_rfl) (by kernel_rfl) (fun _ _ _ h => h) (sure_call (v := .bool dsm) (fun w' h' => eq_run HDQ.out (EL.out.noth h') (EM.out.noth h')) (by rfl) (fun _ => by go_simp)) (Only.refl _ _) ?_
  simp only [Act.put, List.setIfInBounds_toArray, List.set_cons_zero, List.set_cons_succ]
  refine wpN_take (i := 35) (d := some 88) rfl rfl (by kernel_rfl) (by kernel_rfl) (by kernel_rfl) (fun _ _ _ h => h) (sure_value (v := .slice A l.length c) (by rfl) (fun v1 h1 => by first | rfl | (go_simp; done) | (go_simp; intro h9; exact absurd h9 (by omega)) | (go_simp; assumption))) (Only.refl _ _) ?_
  simp only [Act.put, List.setIfInBounds_toArray, List.set_cons_zero, List.set_cons_succ]
  refine wpN_take (i := 36) (d := some 89) rfl rfl (by kernel_rfl) (by kernel_rfl) (by kernel_rfl) (fun _ _ _ h => h) (sure_value (v := .slice A2 m.length c2) (by rfl) (fun v1 h1 => by first | rfl | (go_simp; done) | (go_simp; intro h9; exact absurd h9 (by omega)) | (go_simp; assumption))) (Only.refl _ _) ?_
  simp only [Act.put, List.setIfInBounds_toArray, List.set_cons_zero, List.set_cons_succ]
  refine wpN_take (i := 37) (d := some 90) rfl rfl (by kernel_rfl) (by kernel_rfl) (by kernel_rfl) (fun _ _ _ h => h) (sure_call (v := .bool dsm) (fun w' h' => ref_eq_run HDQ.out (EL.out.noth h') (EM.out.noth h')) (by rfl) (fun _ => by go_simp)) (Only.refl _ _) ?_
  simp only [Act.put, List.setIfInBounds_toArray, List.set_cons_zero, List.set_cons_succ]
  refine wpN_take (i := 38) (d := some 91) rfl rfl (by kernel_rfl) (by kernel_rfl) (by kernel_rfl) (fun _ _ _ h => h) (sure_value (v := .bool true) (by rfl) (fun v1 h1 => by first | rfl | (go_simp; done) | (go_simp; intro h9; exact absurd h9 (by omega)) | (go_simp; assumption))) (Only.refl _ _) ?_
  simp only [Act.put, List.setIfInBounds_toArray, List.set_cons_zero, List.set_cons_succ]
  refine wpN_take (i := 39) (d := some 92) rfl rfl (by kernel_rfl) (by kernel_rfl) (by kernel_rfl) (fun _ _ _ h => h) (sure_value (v := .bool true) (by rfl) (fun v1 h1 => by first | rfl | (go_simp; done) | (go_simp; intro h9; exact absurd h9 (by omega)) | (go_simp; assumption))) (Only.refl _ _) ?_
  simp only [Act.put, List.setIfInBounds_toArray, List.set_cons_zero, List.set_cons_succ]
  refine wpN_take (i := 40) (d := some 93) rfl rfl (by kernel_rfl) (by kernel_rfl) (by kernel_rfl) (fun _ _ _ h => h) (sure_value (v := .bool true) (by rfl) (fun v1 h1 => by first | rfl | (go_simp; done) | (go_simp; intro h9; exact absurd h9 (by omega)) | (go_simp; assumption))) (Only.refl _ _) ?_
  simp only [Act.put, List.setIfInBounds_toArray, List.set_cons_zero, List.set_cons_succ]
  refine wpN_take (i := 41) (d := some 94) rfl rfl (by kernel_rfl) (by kernel_rfl) (by kernel_rfl) (fun _ _ _ h => h) (sure_value (v := .pointer (some ⟨g, 0, none⟩)) (by rfl) (fun v1 h1 => by first | rfl | (go_simp; done) | (go_simp; intro h9; exact absurd h9 (by omega)) | (go_simp; assumption))) (Only.refl _ _) ?_
  simp only [Act.put, List.setIfInBounds_toArray, List.set_cons_zero, List.set_cons_succ]
  refine wpN_take (i := 42) (d := some 95) rfl rfl (by kernel_rfl) (by kernel_rfl) (by kernel_rfl) (fun _ _ _ h => h) (sure_one RB.out (fun h => h) (by rfl) (fun _ h => by go_simp)) (Only.refl _ _) ?_
  simp only [Act.put, List.setIfInBounds_toArray, List.set_cons_zero, List.set_cons_succ]
  refine wpN_take (i := 43) (d := some 96) rfl rfl (by kernel_rfl) (by kernel_rfl) (by kernel_rfl) (fun _ _ _ h => h) (sure_call (v := .bool true) (fun w' h' => same_law g b B d L2 L2 _ (CM.out.noth h') (ER.out.noth h') rfl) (by rfl) (fun _ => by go_simp)) (Only.refl _ _) ?_
  simp only [Act.put, List.setIfInBounds_toArray, List.set_cons_zero, List.set_cons_succ]
  refine wpN_take (i := 44) (d := some 97) rfl rfl (by kernel_rfl) (by kernel_rfl) (by kernel_rfl) (fun _ _ _ h => h) (sure_value (v := .bool true) (by rfl) (fun v1 h1 => by first | rfl | (go_simp; done) | (go_simp; intro h9; exact absurd h9 (by omega)) | (go_simp; assumption))) (Only.refl _ _) ?_
  simp only [Act.put, List.setIfInBounds_toArray, List.set_cons_zero, List.set_cons_succ]
  refine wpN_take (i := 45) (d := some 98) rfl rfl (by kernel_rfl) (by kernel_rfl) (by kernel_rfl) (fun _ _ _ h => h) (sure_value (v := .bool true) (by rfl) (fun v1 h1 => by first | rfl | (go_simp; done) | (go_simp; intro h9; exact absurd h9 (by omega)) | (go_simp; assumption))) (Only.refl _ _) ?_
  simp only [Act.put, List.setIfInBounds_toArray, List.set_cons_zero, List.set_cons_succ]
  refine wpN_take (i := 46) (d := some 99) rfl rfl (by kernel_rfl) (by kernel_rfl) (by kernel_rfl) (fun _ _ _ h => h) (sure_call (v := .bool true) (fun w' h' => cm_awake _) (by rfl) (fun _ => by go_simp)) (Only.refl _ _) ?_
  simp only [Act.put, List.setIfInBounds_toArray, List.set_cons_zero, List.set_cons_succ]
  refine wpN_take (i := 47) (d := some 100) rfl rfl (by kernel_rfl) (by kernel_rfl) (by kernel_rfl) (fun _ _ _ h => h) (sure_value (v := .bool true) (by rfl) (fun v1 h1 => by first | rfl | (go_simp; done) | (go_simp; intro h9; exact absurd h9 (by omega)) | (go_simp; assumption))) (Only.refl _ _) ?_
  simp only [Act.put, List.setIfInBounds_toArray, List.set_cons_zero, List.set_cons_succ]
  refine wpN_take (i := 48) (d := some 6) rfl rfl (by kernel_rfl) (by kernel_rfl) (by kernel_rfl) (fun _ _ _ h => h) (sure_value (v := .bool true) (by rfl) (fun v1 h1 => by first | rfl | (go_simp; done) | (go_simp; intro h9; exact absurd h9 (by omega)) | (go_simp; assumption))) (Only.refl _ _) ?_
  simp only [Act.put, List.setIfInBounds_toArray, List.set_cons_zero, List.set_cons_succ]
  refine wpN_done (by kernel_rfl) (fun wz ho => ?_) _
  replace O := Lib.hid (O.out.tr ho)
  clear ho
  go_wp2
  go_ret
  exact ⟨rfl, O.out⟩
end Go.Proofs.Ytdclkbhkboaafaa
