/- The document's alerts: Firing, Drop, Get. -/
import Derived.Test.YtokgignmdgejoaaDoorRaC
namespace Go.Proofs.YtokgignmdgejoaaDoor
open Go.RowKit Go.Lib
set_option linter.unusedVariables false
set_option linter.unusedSimpArgs false
set_option maxRecDepth 100000
attribute [local go_sem ↓] Go.wp_at_zero Go.wp_at_succ

theorem filter_succ {N : List Al} {p : Al → Bool} {k : Nat} {x : Al} (hx : N[k]? = some x) : (N.take (k + 1)).filter p = (N.take k).filter p ++ (if p x then [x] else []) := by
  rw [List.take_add_one, hx, List.filter_append]
  congr 1
  cases h : p x <;> simp [h]
theorem row_ls {w w' : World} {S : Nat → Prop} {A0 : Option Addr} {c0 : Nat} {N M : List Al} {A : Option Addr} {c : Nat} {wb : World} (h : LsAt w S A0 c0 N) (ho : Only Noth w w') (hr : ARow wb w' A c M) (hb : w.heap.size ≤ wb.heap.size) (hm : ∀ x ∈ M, x ∈ N) : LsAt w' (fun k => S k ∨ w.heap.size ≤ k) A c M :=
  LsAt.of_row hr (fun k hk _ => .inr (Nat.le_trans hb hk)) (fun x hx => ((h.labs x (hm x hx)).noth ho).mono (fun k hk _ => .inl hk))
set_option maxHeartbeats 4000000 in
theorem rfiring_run (A : Option Addr) (c : Nat) (N : List Al) (now : Int) (S : Nat → Prop) (w : World) (h : LsAt w S A c N) (hl64 : N.length ≤ 64) :
    Calls Tryd.prog 36 #[.agg #[.slice A N.length c], .int .i64 now] w fun e w' => (∃ A' c' M, M = N.filter (fun x => x.fires now) ∧ e = .returned (.slice A' M.length c') ∧ LsAt w' (fun k => S k ∨ w.heap.size ≤ k) A' c' M) ∧ Only Noth w w' := by
  have H := Lib.hid h
  have hn0 : (0 : Int) ≤ N.length := by omega
  have HL := Lib.hid hl64
  obtain ⟨W0, hW0⟩ : ∃ W, w.alloc (.cells #[.slice A N.length c] 40) = W := ⟨_, rfl⟩
  have B0 := Lib.hid (show Hld W0 w.heap.size 40 #[.slice A N.length c] by rw [← hW0]; exact Hld.new w _ _)
  have O0 := Lib.hid (show Only Noth w W0 by rw [← hW0]; exact (Only.refl Noth w).alloc _)
  have ZW := Lib.hid B0.out.lt
  clear h
  go_enter Tryd.func36, Tryd.ntmps36
  go_wp2_with fail
  go_loopw [5, 6] (fun v i W => ∃ (k : Nat) (B : Option Addr) (d : Nat) (M : List Al), k ≤ N.length ∧ i = .int .i64 (k : Int) ∧ v = .slice B M.length d ∧ M = (N.take k).filter (fun x => x.fires now) ∧ ARow W0 W B d M ∧ Only Noth W0 W) (fun _ i _ => N.length - (RowKit.intOf i).toNat)
  case atStart => exact ⟨0, none, 0, [], Nat.zero_le _, rfl, rfl, by simp, ARow.empty _ _ _, by rw [← hW0]; exact Only.refl _ _⟩
  case round =>
    clear hW0
    obtain ⟨k, B, d, M, hk, rfl, rfl, hM, hrow, ho⟩ := hrel
    have HM := Lib.hid hM
    have RW := Lib.hid hrow
    have OW := Lib.hid ho
    have ON := Lib.hid (O0.out.tr ho)
    have B1 := Lib.hid (B0.out.only ho (fun h => h))
    have m0 := B1.out.cell 0
    have hk0 : (0 : Int) ≤ k := by omega
    have hml : M.length ≤ 64 := by rw [hM]; have h1 := List.length_filter_le (fun x => x.fires now) (N.take k); have h2 : (N.take k).length ≤ N.length := by rw [List.length_take]; omega
                                   have := HL.out; omega
    clear hrow ho
    by_cases hlt : k < N.length
    · obtain ⟨x, hx⟩ : ∃ x, N[k]? = some x := ⟨_, List.getElem?_eq_getElem hlt⟩
      obtain ⟨b, o, hA, _, hbl, hc⟩ := (H.out.noth ON.out).mem (by omega)
      obtain ⟨c0, c1, c2⟩ := hc k x hx
      have HX := Lib.hid hx
      have HC := Lib.hid (fun W (ho : Only Noth wr W) => And.intro ((ho.cell (p := ⟨b, o + k * 3, none⟩) hbl (fun h => h)).trans c0) (And.intro ((ho.cell (p := ⟨b, o + k * 3 + 1, none⟩) hbl (fun h => h)).trans c1) ((ho.cell (p := ⟨b, o + k * 3 + 2, none⟩) hbl (fun h => h)).trans c2)))
      have hk1 : (k : Int) < N.length := by omega
      subst hA
      clear hx hc hbl hM
      go_wp2_with fail
      refine (rfires_run (.slice (some ⟨x.blk, 0, none⟩) x.ls.length x.cap) rfl x.st x.en now _).mono ?_
      rintro e w1 ⟨rfl, ho⟩
      rw [show (decide (x.st ≤ now) && decide (now < x.en)) = x.fires now from rfl]
      have OW1 := Lib.hid (OW.out.tr ho)
      have RW1 := Lib.hid (RW.out.noth ho)
      obtain ⟨c0', c1', c2'⟩ := HC.out w1 ho
      have m0 := (B1.out.only ho (fun h => h)).cell 0
      obtain ⟨q, hq⟩ : ∃ q, x.fires now = q := ⟨_, rfl⟩
      have HQ := Lib.hid hq
      rw [hq]
      clear ho hq c0 c1 c2
      cases q
      · go_wp2_with fail
        go_roundw
        case rel => exact ⟨k + 1, B, d, M, by omega, by go_num, rfl, by rw [filter_succ HX.out, ← HM.out, HQ.out]; simp, RW1.out, OW1.out⟩
        case measure => simp [RowKit.intOf]; omega
      · go_wp2_with (at_builtin; refine wpList_app_als W0 (w1.alloc (.cells x.arr 27)) rfl (.tmp 21) (.tmp 27) rfl (l := M) (m := [x]) rfl (RW1.out.noth ((Only.refl Noth w1).alloc _)) rfl (al_src (Hld.new w1 27 x.arr)) (by simp only [List.length_cons, List.length_nil]; omega) (OW1.out.alloc _) ?_; intro B2 d2 M2 w2 hM2 hr2 ho2; have HM2 := Lib.hid hM2; have HR2 := Lib.hid hr2; have HO2 := Lib.hid ho2; clear hM2 hr2 ho2)
        go_roundw
        case rel => exact ⟨k + 1, B2, d2, M2, by omega, by go_num, rfl, by rw [filter_succ HX.out, ← HM.out, HQ.out, HM2.out]; simp, HR2.out, (OW1.out.alloc _).trans HO2.out (fun j hj hl => by have hj : W0.heap.size ≤ j := hj; omega)⟩
        case measure => simp [RowKit.intOf]; omega
    · obtain rfl : k = N.length := by omega
      have HMF := Lib.hid (show M = N.filter (fun x => x.fires now) by rw [HM.out, List.take_of_length_le (Nat.le_refl _)])
      clear hM
      go_wp2
      go_ret
      exact ⟨⟨B, d, M, HMF.out, rfl, row_ls H.out ON.out RW.out O0.out.size (fun x hx => by rw [HMF.out] at hx; exact (List.mem_filter.1 hx).1)⟩, ON.out⟩
set_option maxHeartbeats 4000000 in
theorem rdrop_run (A : Option Addr) (c : Nat) (N : List Al) (now : Int) (S : Nat → Prop) (w : World) (h : LsAt w S A c N) (hl64 : N.length ≤ 64) :
    Calls Tryd.prog 34 #[.agg #[.slice A N.length c], .int .i64 now] w fun e w' => (∃ A' c' M, M = N.filter (fun x => !decide (x.en < now)) ∧ e = .returned (.tuple #[.agg #[.slice A' M.length c'], .int .i64 ((N.length - M.length : Nat) : Int)]) ∧ LsAt w' (fun k => S k ∨ w.heap.size ≤ k) A' c' M) ∧ Only Noth w w' := by
  have H := Lib.hid h
  have hn0 : (0 : Int) ≤ N.length := by omega
  have HL := Lib.hid hl64
  obtain ⟨W0, hW0⟩ : ∃ W, (w.alloc (.cells #[.slice A N.length c] 40)).alloc (.cells #[.slice none 0 0] 40) = W := ⟨_, rfl⟩
  have B0 := Lib.hid (show Hld W0 w.heap.size 40 #[.slice A N.length c] by rw [← hW0]; exact (Hld.new w _ _).alloc _)
  have BR := Lib.hid (show Hld W0 (w.heap.size + 1) 40 #[.slice none 0 0] by
    have := Hld.new (w.alloc (.cells #[.slice A N.length c] 40)) 40 #[.slice none 0 0]
    rw [hW0] at this
    simpa using this)
  have O0 := Lib.hid (show Only Noth w W0 by rw [← hW0]; exact ((Only.refl Noth w).alloc _).alloc _)
  have ZW := Lib.hid BR.out.lt
  clear h
  go_enter Tryd.func34, Tryd.ntmps34
  go_wp2_with fail
  go_loopw [6, 7] (fun v i W => ∃ (k : Nat) (B : Option Addr) (d : Nat) (M : List Al), k ≤ N.length ∧ i = .int .i64 (k : Int) ∧ v = .slice B M.length d ∧ M = (N.take k).filter (fun x => !decide (x.en < now)) ∧ ARow W0 W B d M ∧ Only Noth W0 W) (fun _ i _ => N.length - (RowKit.intOf i).toNat)
  case atStart => exact ⟨0, none, 0, [], Nat.zero_le _, rfl, rfl, by simp, ARow.empty _ _ _, by rw [← hW0]; exact Only.refl _ _⟩
  case round =>
    clear hW0
    obtain ⟨k, B, d, M, hk, rfl, rfl, hM, hrow, ho⟩ := hrel
    have HM := Lib.hid hM
    have RW := Lib.hid hrow
    have OW := Lib.hid ho
    have ON := Lib.hid (O0.out.tr ho)
    have B1 := Lib.hid (B0.out.only ho (fun h => h))
    have m0 := B1.out.cell 0
    have hk0 : (0 : Int) ≤ k := by omega
    have hml : M.length ≤ 64 := by rw [hM]; have h1 := List.length_filter_le (fun x => !decide (x.en < now)) (N.take k); have h2 : (N.take k).length ≤ N.length := by rw [List.length_take]; omega
                                   have := HL.out; omega
    clear hrow ho
    by_cases hlt : k < N.length
    · obtain ⟨x, hx⟩ : ∃ x, N[k]? = some x := ⟨_, List.getElem?_eq_getElem hlt⟩
      obtain ⟨b, o, hA, _, hbl, hc⟩ := (H.out.noth ON.out).mem (by omega)
      obtain ⟨c0, c1, c2⟩ := hc k x hx
      have HX := Lib.hid hx
      have HC := Lib.hid (fun W (ho : Only Noth wr W) => And.intro ((ho.cell (p := ⟨b, o + k * 3, none⟩) hbl (fun h => h)).trans c0) (And.intro ((ho.cell (p := ⟨b, o + k * 3 + 1, none⟩) hbl (fun h => h)).trans c1) ((ho.cell (p := ⟨b, o + k * 3 + 2, none⟩) hbl (fun h => h)).trans c2)))
      have hk1 : (k : Int) < N.length := by omega
      subst hA
      clear hx hc hbl hM
      by_cases hd : now ≤ x.en
      · have HQ := Lib.hid (show (!decide (x.en < now)) = true by simp; omega)
        go_wp2_with (at_builtin; refine wpList_app_als W0 (wr.alloc (.cells x.arr 27)) rfl (.tmp 23) (.tmp 29) rfl (l := M) (m := [x]) rfl (RW.out.noth ((Only.refl Noth wr).alloc _)) rfl (al_src (Hld.new wr 27 x.arr)) (by simp only [List.length_cons, List.length_nil]; omega) (OW.out.alloc _) ?_; intro B2 d2 M2 w2 hM2 hr2 ho2; have HM2 := Lib.hid hM2; have HR2 := Lib.hid hr2; have HO2 := Lib.hid ho2; clear hM2 hr2 ho2)
        go_roundw
        case rel => exact ⟨k + 1, B2, d2, M2, by omega, by go_num, rfl, by rw [filter_succ HX.out, ← HM.out, HQ.out, HM2.out]; simp, HR2.out, (OW.out.alloc _).trans HO2.out (fun j hj hl => by have hj : W0.heap.size ≤ j := hj; omega)⟩
        case measure => simp [RowKit.intOf]; omega
      · have HQ := Lib.hid (show (!decide (x.en < now)) = false by simp; omega)
        go_wp2_with fail
        go_roundw
        case rel => exact ⟨k + 1, B, d, M, by omega, by go_num, rfl, by rw [filter_succ HX.out, ← HM.out, HQ.out]; simp, RW.out, OW.out⟩
        case measure => simp [RowKit.intOf]; omega
    · obtain rfl : k = N.length := by omega
      have HMF := Lib.hid (show M = N.filter (fun x => !decide (x.en < now)) by rw [HM.out, List.take_of_length_le (Nat.le_refl _)])
      have hmn : M.length ≤ N.length := by rw [HMF.out]; exact List.length_filter_le _ _
      have hsub : (N.length : Int) - M.length = ((N.length - M.length : Nat) : Int) := by omega
      have hm0 : (0 : Int) ≤ M.length := by omega
      have hnl : (N.length : Int) ≤ 64 := by have := HL.out; omega
      have hwr : IntKind.i64.wrap ((N.length - M.length : Nat) : Int) = ((N.length - M.length : Nat) : Int) := by rw [IntKind.wrap_i64]; omega
      have B2 := Lib.hid (BR.out.only OW.out (fun h => h))
      clear hM
      go_upto_region 7 with fail
      refine wp_region_N (fun k => k = w.heap.size + 1) (by kernel_rfl) ?_
      refine wpN_take (i := 0) (d := some 31) rfl rfl (by kernel_rfl) (by kernel_rfl) (by kernel_rfl) (fun _ _ _ h => h) (sure_value (v := .slice B M.length d) (by rfl) (fun v1 h1 => by first | rfl | (go_simp; done) | (go_simp; intro h9; exact absurd h9 (by omega)) | (go_simp; assumption))) (Only.refl _ _) ?_
      simp only [Act.put, List.setIfInBounds_toArray, List.set_cons_zero, List.set_cons_succ]
      refine wpN_take (i := 1) (d := some 32) rfl rfl (by kernel_rfl) (by kernel_rfl) (by kernel_rfl) (fun _ _ _ h => h) (sure_value (v := .agg #[.slice B M.length d]) (by rfl) (fun v1 h1 => by first | rfl | (go_simp; done) | (go_simp; intro h9; exact absurd h9 (by omega)) | (go_simp; assumption))) (Only.refl _ _) ?_
      simp only [Act.put, List.setIfInBounds_toArray, List.set_cons_zero, List.set_cons_succ]
      refine wpN_take (i := 2) (d := some 33) rfl rfl (by kernel_rfl) (by kernel_rfl) (by kernel_rfl) (fun _ _ _ h => h) (sure_value (v := .pointer (some ⟨w.heap.size, 0, none⟩)) (by rfl) (fun v1 h1 => by first | rfl | (go_simp; done) | (go_simp; intro h9; exact absurd h9 (by omega)) | (go_simp; assumption))) (Only.refl _ _) ?_
      simp only [Act.put, List.setIfInBounds_toArray, List.set_cons_zero, List.set_cons_succ]
      refine wpN_take (i := 3) (d := some 34) rfl rfl (by kernel_rfl) (by kernel_rfl) (by kernel_rfl) (fun _ _ _ h => h) (sure_lit (v := .slice A N.length c) (i := 0) B1.out.drew rfl (fun h => by have h : w.heap.size = w.heap.size + 1 := h; omega) (by rfl) (fun _ h => by go_simp)) (Only.refl _ _) ?_
      simp only [Act.put, List.setIfInBounds_toArray, List.set_cons_zero, List.set_cons_succ]
      refine wpN_take (i := 4) (d := some 35) rfl rfl (by kernel_rfl) (by kernel_rfl) (by kernel_rfl) (fun _ _ _ h => h) (sure_value (v := .int .i64 N.length) (by rfl) (fun v1 h1 => by first | rfl | (go_simp; done) | (go_simp; intro h9; exact absurd h9 (by omega)) | (go_simp; assumption))) (Only.refl _ _) ?_
      simp only [Act.put, List.setIfInBounds_toArray, List.set_cons_zero, List.set_cons_succ]
      refine wpN_take (i := 5) (d := some 36) rfl rfl (by kernel_rfl) (by kernel_rfl) (by kernel_rfl) (fun _ _ _ h => h) (sure_value (v := .slice B M.length d) (by rfl) (fun v1 h1 => by first | rfl | (go_simp; done) | (go_simp; intro h9; exact absurd h9 (by omega)) | (go_simp; assumption))) (Only.refl _ _) ?_
      simp only [Act.put, List.setIfInBounds_toArray, List.set_cons_zero, List.set_cons_succ]
      refine wpN_take (i := 6) (d := some 37) rfl rfl (by kernel_rfl) (by kernel_rfl) (by kernel_rfl) (fun _ _ _ h => h) (sure_value (v := .int .i64 M.length) (by rfl) (fun v1 h1 => by first | rfl | (go_simp; done) | (go_simp; intro h9; exact absurd h9 (by omega)) | (go_simp; assumption))) (Only.refl _ _) ?_
      simp only [Act.put, List.setIfInBounds_toArray, List.set_cons_zero, List.set_cons_succ]
      refine wpN_take (i := 7) (d := some 38) rfl rfl (by kernel_rfl) (by kernel_rfl) (by kernel_rfl) (fun _ _ _ h => h) (sure_value (v := .int .i64 ((N.length - M.length : Nat) : Int)) (by rfl) (fun v1 h1 => by go_simp)) (Only.refl _ _) ?_
      simp only [Act.put, List.setIfInBounds_toArray, List.set_cons_zero, List.set_cons_succ]
      refine wpN_store (i := 8) (g := w.heap.size + 1) (cs' := #[.slice B M.length d]) (by kernel_rfl) rfl (by rfl) rfl rfl rfl rfl B2.out.drew (fun _ => rfl) rfl (by simp [Value.oneCell']) (by kernel_rfl) (Only.refl _ _) ?_
      intro w5 w6 ho5 hb6 ho6 hS6
      refine wpN_take (i := 9) (d := some 5) rfl rfl (by kernel_rfl) (by kernel_rfl) (by kernel_rfl) (fun _ _ _ h => h) (sure_value (v := .int .i64 ((N.length - M.length : Nat) : Int)) (by rfl) (fun v1 h1 => by first | rfl | (go_simp; done) | (go_simp; intro h9; exact absurd h9 (by omega)) | (go_simp; assumption))) hS6 ?_
      simp only [Act.put, List.setIfInBounds_toArray, List.set_cons_zero, List.set_cons_succ]
      refine wpN_done (by kernel_rfl) (fun w7 ho7 => ?_) _
      have y0 := (hb6.only ho7 (fun h => h)).cell 0
      have OF := Lib.hid (show Only Noth w w7 from ON.out.trans (show Only (fun k => k = w.heap.size + 1) wr w7 from Only.undrew (only_up _ _ _ hS6 ho7)) (fun j hj hl => by have hj : j = w.heap.size + 1 := hj; omega))
      have RF := Lib.hid (RW.out.only (show Only (fun k => k = w.heap.size + 1) wr w7 from Only.undrew (only_up _ _ _ hS6 ho7)) (fun j hj e => by have hj : W0.heap.size ≤ j := hj; have e : j = w.heap.size + 1 := e; have := ZW.out; omega))
      clear hb6 ho7 ho6 ho5 hS6
      go_wp2_with fail
      refine bodyPost_ret (v := .tuple #[.agg #[.slice B M.length d], .int .i64 ((N.length - M.length : Nat) : Int)]) (by simp [results, Tryd.results34, go_sem, y0]) rfl ?_
      exact ⟨⟨B, d, M, HMF.out, rfl, row_ls H.out OF.out RF.out O0.out.size (fun x hx => by rw [HMF.out] at hx; exact (List.mem_filter.1 hx).1)⟩, OF.out⟩
/-- What Get of the document's store tells. -/
def RGet (S : Nat → Prop) (N : List Al) (k : List UInt8) (w : World) (e : Ending) (w' : World) : Prop := match cget k N with
  | some x => e = .returned (.tuple #[.agg x.arr, .bool true]) ∧ PsAt w' S (some ⟨x.blk, 0, none⟩) x.cap x.ls
  | none => e = .returned (.tuple #[.agg #[.slice none 0 0, .int .i64 0, .int .i64 0], .bool false])
theorem rget_run (A : Option Addr) (c : Nat) (N : List Al) (K : ByteArray) (S : Nat → Prop) (w : World) (h : RfAt w S A c N) :
    Calls Tryd.prog 26 #[.agg #[.slice A N.length c], .string K] w fun e w' => RGet S N K.data.toList w e w' ∧ Only Noth w w' := by
  have HR := Lib.hid h
  have hn0 : (0 : Int) ≤ N.length := by omega
  obtain ⟨W0, hW0⟩ : ∃ W, (w.alloc (.cells #[.slice A N.length c] 40)).alloc (.cells #[.slice none 0 0, .int .i64 0, .int .i64 0] 27) = W := ⟨_, rfl⟩
  have B0 := Lib.hid (show Hld W0 w.heap.size 40 #[.slice A N.length c] by rw [← hW0]; exact (Hld.new w _ _).alloc _)
  have BR := Lib.hid (show Hld W0 (w.heap.size + 1) 27 #[.slice none 0 0, .int .i64 0, .int .i64 0] by
    have := Hld.new (w.alloc (.cells #[.slice A N.length c] 40)) 27 #[.slice none 0 0, .int .i64 0, .int .i64 0]
    rw [hW0] at this
    simpa using this)
  have O0 := Lib.hid (show Only Noth w W0 by rw [← hW0]; exact ((Only.refl Noth w).alloc _).alloc _)
  have m0 := B0.out.cell 0
  obtain ⟨i, hi⟩ : ∃ i, rpos N K.data.toList = i := ⟨_, rfl⟩
  have HI := Lib.hid hi
  obtain ⟨is, his⟩ : ∃ is, ris N K.data.toList = is := ⟨_, rfl⟩
  have HIS := Lib.hid his
  clear h hi his
  go_enter Tryd.func26, Tryd.ntmps26
  go_wp2_with fail
  refine (rplace_run A c N K S W0 (HR.out.noth O0.out)).mono ?_
  rintro e w1 ⟨rfl, ho⟩
  rw [HI.out, HIS.out]
  have O1 := Lib.hid (O0.out.tr ho)
  have B1 := Lib.hid (B0.out.only ho (fun h => h))
  have B2 := Lib.hid (BR.out.only ho (fun h => h))
  have m0 := B1.out.cell 0
  have hi0 : (0 : Int) ≤ i := by omega
  clear ho hW0
  cases is
  · have HG := Lib.hid (show cget K.data.toList N = none by
      have hh := ris_no HIS.out
      have hb := rpos_take N K.data.toList
      rw [HI.out] at hh hb
      have e : (⟨K, [], 0, 0, 0, 0⟩ : Al).kb = K.data.toList := rfl
      exact (put_at_ne (e := ⟨K, [], 0, 0, 0, 0⟩) HR.out.srt (by rw [e]; exact hb) (by rw [e]; exact hh)).1)
    go_wp2_with (refine wpList_store_whole rfl rfl 27 (.tmp 4) (.tmp 16) rfl (w.heap.size + 1) rfl #[.slice none 0 0, .int .i64 0, .int .i64 0] rfl 27 _ B2.out rfl (by simp [Value.oneCell']) (by kernel_rfl) ?_; intro w9 hb9 ho9 _; have y0 := hb9.cell 0; have y1 := hb9.cell 1; have y2 := hb9.cell 2; have O9 := Lib.hid ho9; clear hb9 ho9)
    refine bodyPost_ret (v := .tuple #[.agg #[.slice none 0 0, .int .i64 0, .int .i64 0], .bool false]) (by simp [results, Tryd.results26, go_sem, y0, y1, y2]) rfl ?_
    refine ⟨?_, O1.out.trans O9.out (fun j hj hl => by have hj : j = w.heap.size + 1 := hj; omega)⟩
    unfold RGet
    rw [HG.out]
  · obtain ⟨x, hx, hxk⟩ := ris_yes HIS.out
    rw [HI.out] at hx
    have HG := Lib.hid (show cget K.data.toList N = some x from (cget_iff HR.out.srt).2 ⟨List.mem_of_getElem? hx, hxk⟩)
    have HX := Lib.hid (List.mem_of_getElem? hx)
    have hil : i < N.length := (List.getElem?_eq_some_iff.1 hx).1
    have hil' : (i : Int) < N.length := by omega
    obtain ⟨xb, xo, hXA, _, hxl, hxc⟩ := (HR.out.noth O1.out).ls.mem (by omega)
    obtain ⟨k0, k1, k2⟩ := hxc i x hx
    subst hXA
    clear hxc hx hxk
    go_wp2_with (refine wpList_store_whole rfl rfl 27 (.tmp 4) (.tmp 21) rfl (w.heap.size + 1) rfl x.arr rfl 27 _ B2.out rfl (by simp [Value.oneCell']) (by kernel_rfl) ?_; intro w9 hb9 ho9 _; have y0 := hb9.cell 0; have y1 := hb9.cell 1; have y2 := hb9.cell 2; have O9 := Lib.hid ho9; clear hb9 ho9)
    refine bodyPost_ret (v := .tuple #[.agg x.arr, .bool true]) (by simp [results, Tryd.results26, go_sem, y0, y1, y2]) rfl ?_
    have OF : Only Noth w w9 := O1.out.trans O9.out (fun j hj hl => by have hj : j = w.heap.size + 1 := hj; omega)
    refine ⟨?_, OF⟩
    unfold RGet
    rw [HG.out]
    exact ⟨rfl, (HR.out.ls.labs x HX.out).noth OF⟩
end Go.Proofs.YtokgignmdgejoaaDoor
