/- Do both joiners have the same? -/
import Derived.Test.YtemeglofblnnmaaRjF
namespace Go.Proofs.Ytemeglofblnnmaa
open Go.RowKit Go.Lib
set_option linter.unusedVariables false
set_option linter.unusedSimpArgs false
set_option maxRecDepth 100000
attribute [local go_sem ↓] Go.wp_at_zero Go.wp_at_succ

theorem nats_at {w : World} {S : Nat → Prop} {A : Option Addr} {n c : Nat} {l : List Nat} (h : Row w S 3 1 (.slice A n c) n (natCs l)) (hl : l.length = n) {k : Nat} (hk : k < n) : ∃ b, A = some ⟨b, 0, none⟩ ∧ b < w.heap.size ∧ w.cell? ⟨b, k, none⟩ = some (.int .i64 ((l[k]'(by omega) : Nat) : Int)) := by
  have hlen : (natCs l).length = n := by unfold natCs; rw [List.length_map, hl]
  obtain ⟨b, o, hA, hS, hb, hc⟩ := h.cs (by omega)
  have hu : (natCs l)[k]? = some (.int .i64 ((l[k]'(by omega) : Nat) : Int)) := by unfold natCs; rw [List.getElem?_map, List.getElem?_eq_getElem (by omega)]; rfl
  obtain ⟨hl2, A', cap, hv, h1, h2, h3⟩ := h
  injection hv with e1 _ e3
  subst e1 e3
  rcases h3 with h3 | ⟨g, cur, hA2, hF, hg, hcz, ht⟩
  · omega
  · rw [hA2] at hA
    injection hA with hA
    injection hA with e1 e2 _
    subst e1 e2
    have := hc k _ hu
    rw [Nat.zero_add] at this
    exact ⟨g, hA2, hb, this⟩
set_option maxHeartbeats 8000000 in
theorem same_at (N : Nat) (R S Sr : Nat → Prop) (w : World) (g : Nat) (v : Value) (J : Jn) (frm id : Int) (h : PJ N R S Sr w g v J) :
    Calls Try.prog 18 #[.pointer (some ⟨g, 0, none⟩), v, .int .u16 frm, .int .i64 id] w fun e w' => e = .returned (.bool true) ∧ Only Noth w w' := by
  obtain ⟨u, rfl, hT⟩ := h.r
  obtain ⟨A, c, rfl⟩ := hT.shape
  have hok := h.j.2.1
  obtain ⟨n, hn⟩ : ∃ n, J.T.length = n := ⟨_, rfl⟩
  have hn16 : n ≤ 16 := by rw [← hn]; exact hok.len
  have HOK := Lib.hid hok
  have HN := Lib.hid hn
  have HP := Lib.hid h
  have HR := Lib.hid (show RJ w Sr (.agg #[.slice A n c, .int .i64 J.lost]) J from by have := h.r; rw [hn] at this; exact this)
  rw [hn]
  obtain ⟨W0, hW0⟩ : ∃ W, w.alloc (.cells #[.slice A n c, .int .i64 J.lost] 48) = W := ⟨_, rfl⟩
  have o1 : Only Noth w W0 := by rw [← hW0]; exact (Only.refl Noth w).alloc _
  have BX := Lib.hid (show Hld W0 w.heap.size 48 #[.slice A n c, .int .i64 J.lost] by rw [← hW0]; exact Hld.new w _ _)
  have O1 := Lib.hid o1
  have HJ := Lib.hid (fun W (ho : Only Noth W0 W) => h.j.only (o1.tr ho) (fun h => h) (fun _ _ h => h) (fun _ _ h => h))
  have HRW := Lib.hid (fun W (ho : Only Noth W0 W) => HR.out.noth (o1.tr ho))
  obtain ⟨L, hL⟩ : ∃ L, jmiss J frm id = L := ⟨_, rfl⟩
  have HL := Lib.hid hL
  have hLl : L.length ≤ 64 := by
    rw [← hL]
    unfold jmiss
    split
    · rename_i t ht
      exact Nat.le_trans (Tx.gaps_len _ _) (hok.all t (List.mem_of_getElem? ht)).n2
    · simp
  obtain ⟨m, hm⟩ : ∃ m, L.length = m := ⟨_, rfl⟩
  have HM := Lib.hid hm
  rw [hm] at hLl
  have HMA := Lib.hid (fun W (ho : Only Noth W0 W) => (missing_run R S g J frm id W (HJ.out W ho)).mono (R' := fun e w' => ∃ v, e = .returned v ∧ (∃ A' c', v = .slice A' m c' ∧ Row w' (New W) 3 1 (.slice A' m c') m (natCs L)) ∧ Only Noth W w') (fun e w' h => by
    obtain ⟨⟨v, he, hv⟩, ho⟩ := h
    unfold NatsAt at hv
    rw [hL, hm] at hv
    obtain ⟨A', c', rfl⟩ := hv.shape
    exact ⟨_, he, ⟨A', c', rfl, hv⟩, ho⟩))
  have HMB := Lib.hid (fun W (ho : Only Noth W0 W) => (rmiss_run Sr _ J frm id W (HRW.out W ho) (by rw [hn]; omega) (fun t ht => (hok.all t ht).n2)).mono (R' := fun e w' => ∃ v, e = .returned v ∧ (∃ A' c', v = .slice A' m c' ∧ Row w' (New W) 3 1 (.slice A' m c') m (natCs L)) ∧ Only Noth W w') (fun e w' h => by
    obtain ⟨⟨v, he, hv⟩, ho⟩ := h
    unfold NatsAt at hv
    rw [hL, hm] at hv
    obtain ⟨A', c', rfl⟩ := hv.shape
    exact ⟨_, he, ⟨A', c', rfl, hv⟩, ho⟩))
  have HOP := Lib.hid (fun W (ho : Only Noth W0 W) => (open_run R S g J W (HJ.out W ho)).mono (R' := fun e w' => e = .returned (.int .i64 (n : Int)) ∧ Only Noth W w') (fun e w' h => by rw [hn] at h; exact h))
  have HLO := Lib.hid (fun W (ho : Only Noth W0 W) => lost_run R S g J W (HJ.out W ho))
  clear h hT hok hn o1 hL hm
  go_enter Try.func18, Try.ntmps18
  go_wp2_with fail
  clear hW0
  refine wp_region_N Noth (by kernel_rfl) ?_
  refine wpN_take (i := 0) (d := some 12) rfl rfl (by kernel_rfl) (by kernel_rfl) (by kernel_rfl) (fun _ _ _ h => h) (sure_value (v := .pointer (some ⟨g, 0, none⟩)) (by rfl) (fun v1 h1 => by first | rfl | (go_simp; done) | (go_simp; intro h9; exact absurd h9 (by omega)) | (go_simp; assumption))) (Only.refl _ _) ?_
  simp only [Act.put, List.setIfInBounds_toArray, List.set_cons_zero, List.set_cons_succ]
  refine wpN_take (i := 1) (d := some 13) rfl rfl (by kernel_rfl) (by kernel_rfl) (by kernel_rfl) (fun _ _ _ h => h) (sure_value (v := .int .u16 frm) (by rfl) (fun v1 h1 => by first | rfl | (go_simp; done) | (go_simp; intro h9; exact absurd h9 (by omega)) | (go_simp; assumption))) (Only.refl _ _) ?_
  simp only [Act.put, List.setIfInBounds_toArray, List.set_cons_zero, List.set_cons_succ]
  refine wpN_take (i := 2) (d := some 14) rfl rfl (by kernel_rfl) (by kernel_rfl) (by kernel_rfl) (fun _ _ _ h => h) (sure_value (v := .int .i64 id) (by rfl) (fun v1 h1 => by first | rfl | (go_simp; done) | (go_simp; intro h9; exact absurd h9 (by omega)) | (go_simp; assumption))) (Only.refl _ _) ?_
  simp only [Act.put, List.setIfInBounds_toArray, List.set_cons_zero, List.set_cons_succ]
  refine wpN_take (i := 4) (d := some 16) rfl rfl (by kernel_rfl) (by kernel_rfl) (by kernel_rfl) (fun _ _ _ h => h) (sure_pair BX.out.drew (fun h => h) (by rfl) (fun _ h h2 => by go_simp)) (Only.refl _ _) ?_
  simp only [Act.put, List.setIfInBounds_toArray, List.set_cons_zero, List.set_cons_succ]
  refine wpN_take (i := 5) (d := some 17) rfl rfl (by kernel_rfl) (by kernel_rfl) (by kernel_rfl) (fun _ _ _ h => h) (sure_value (v := .int .u16 frm) (by rfl) (fun v1 h1 => by first | rfl | (go_simp; done) | (go_simp; intro h9; exact absurd h9 (by omega)) | (go_simp; assumption))) (Only.refl _ _) ?_
  simp only [Act.put, List.setIfInBounds_toArray, List.set_cons_zero, List.set_cons_succ]
  refine wpN_take (i := 6) (d := some 18) rfl rfl (by kernel_rfl) (by kernel_rfl) (by kernel_rfl) (fun _ _ _ h => h) (sure_value (v := .int .i64 id) (by rfl) (fun v1 h1 => by first | rfl | (go_simp; done) | (go_simp; intro h9; exact absurd h9 (by omega)) | (go_simp; assumption))) (Only.refl _ _) ?_
  simp only [Act.put, List.setIfInBounds_toArray, List.set_cons_zero, List.set_cons_succ]
  refine wpN_call (i := 3) (d := some 15) (T := fun v w1 w' => (∃ A' c', v = .slice A' m c' ∧ Row w' (New w1) 3 1 (.slice A' m c') m (natCs L)) ∧ Only Noth w1 w') (fun w1 h1 => (HMA.out w1 (Only.undrew h1)).mono (fun e w' h => by obtain ⟨v, e1, e2, e3⟩ := h; exact ⟨v, e1, ⟨e2, e3⟩, (h1.tr e3)⟩)) (by kernel_rfl) rfl rfl (by rfl) (fun _ => by go_simp) ?_
  rintro v w1 w2 h1 ⟨⟨A1, c1, rfl, hra⟩, hoa⟩ h2
  simp only [Act.put, List.setIfInBounds_toArray, List.set_cons_zero, List.set_cons_succ]
  have RA := Lib.hid hra
  have OA := Lib.hid ((Only.undrew h1).tr hoa)
  refine wpN_call (i := 7) (d := some 19) (T := fun v w1 w' => (∃ A' c', v = .slice A' m c' ∧ Row w' (New w1) 3 1 (.slice A' m c') m (natCs L)) ∧ Only Noth w1 w') (fun w3 h3 => (HMB.out w3 (OA.out.tr h3)).mono (fun e w' h => by obtain ⟨v, e1, e2, e3⟩ := h; exact ⟨v, e1, ⟨e2, e3⟩, (h2.tr (h3.tr e3))⟩)) (by kernel_rfl) rfl rfl (by rfl) (fun _ => by go_simp) ?_
  rintro v w3 w4 h3 ⟨⟨B1, d1, rfl, hrb⟩, hob⟩ h4
  simp only [Act.put, List.setIfInBounds_toArray, List.set_cons_zero, List.set_cons_succ]
  have RB := Lib.hid hrb
  have OB := Lib.hid (h3.tr hob)
  refine wpN_take (i := 8) (d := some 9) rfl rfl (by kernel_rfl) (by kernel_rfl) (by kernel_rfl) (fun _ _ _ h => h) (sure_value (v := .slice A1 m c1) (by rfl) (fun v1 h1 => by first | rfl | (go_simp; done) | (go_simp; intro h9; exact absurd h9 (by omega)) | (go_simp; assumption))) h4 ?_
  simp only [Act.put, List.setIfInBounds_toArray, List.set_cons_zero, List.set_cons_succ]
  refine wpN_take (i := 9) (d := some 10) rfl rfl (by kernel_rfl) (by kernel_rfl) (by kernel_rfl) (fun _ _ _ h => h) (sure_value (v := .slice B1 m d1) (by rfl) (fun v1 h1 => by first | rfl | (go_simp; done) | (go_simp; intro h9; exact absurd h9 (by omega)) | (go_simp; assumption))) h4 ?_
  simp only [Act.put, List.setIfInBounds_toArray, List.set_cons_zero, List.set_cons_succ]
  refine wpN_done (by kernel_rfl) (fun w5 ho5 => ?_) _
  have O5 := Lib.hid ((OA.out.tr OB.out).tr ho5)
  have RA5 := Lib.hid ((RA.out.only OB.out (fun _ _ h => h)).only ho5 (fun _ _ h => h))
  have RB5 := Lib.hid (RB.out.only ho5 (fun _ _ h => h))
  have BX5 := Lib.hid (BX.out.only O5.out (fun h => h))
  have hm0 : (0 : Int) ≤ m := by omega
  clear hra hoa hrb hob h1 h2 h3 h4 ho5
  go_wp2_with fail
  refine wp_region_N Noth (by kernel_rfl) ?_
  refine wpN_take (i := 0) (d := some 20) rfl rfl (by kernel_rfl) (by kernel_rfl) (by kernel_rfl) (fun _ _ _ h => h) (sure_value (v := .slice A1 m c1) (by rfl) (fun v1 h1 => by first | rfl | (go_simp; done) | (go_simp; intro h9; exact absurd h9 (by omega)) | (go_simp; assumption))) (Only.refl _ _) ?_
  simp only [Act.put, List.setIfInBounds_toArray, List.set_cons_zero, List.set_cons_succ]
  refine wpN_take (i := 1) (d := some 21) rfl rfl (by kernel_rfl) (by kernel_rfl) (by kernel_rfl) (fun _ _ _ h => h) (sure_value (v := .int .i64 (m : Int)) (by rfl) (fun v1 h1 => by first | rfl | (go_simp; done) | (go_simp; intro h9; exact absurd h9 (by omega)) | (go_simp; assumption))) (Only.refl _ _) ?_
  simp only [Act.put, List.setIfInBounds_toArray, List.set_cons_zero, List.set_cons_succ]
  refine wpN_take (i := 2) (d := some 22) rfl rfl (by kernel_rfl) (by kernel_rfl) (by kernel_rfl) (fun _ _ _ h => h) (sure_value (v := .slice B1 m d1) (by rfl) (fun v1 h1 => by first | rfl | (go_simp; done) | (go_simp; intro h9; exact absurd h9 (by omega)) | (go_simp; assumption))) (Only.refl _ _) ?_
  simp only [Act.put, List.setIfInBounds_toArray, List.set_cons_zero, List.set_cons_succ]
  refine wpN_take (i := 3) (d := some 23) rfl rfl (by kernel_rfl) (by kernel_rfl) (by kernel_rfl) (fun _ _ _ h => h) (sure_value (v := .int .i64 (m : Int)) (by rfl) (fun v1 h1 => by first | rfl | (go_simp; done) | (go_simp; intro h9; exact absurd h9 (by omega)) | (go_simp; assumption))) (Only.refl _ _) ?_
  simp only [Act.put, List.setIfInBounds_toArray, List.set_cons_zero, List.set_cons_succ]
  refine wpN_take (i := 4) (d := some 24) rfl rfl (by kernel_rfl) (by kernel_rfl) (by kernel_rfl) (fun _ _ _ h => h) (sure_value (v := .bool false) (by rfl) (fun v1 h1 => by first | rfl | (go_simp; done) | (go_simp; intro h9; exact absurd h9 (by omega)) | (go_simp; assumption))) (Only.refl _ _) ?_
  simp only [Act.put, List.setIfInBounds_toArray, List.set_cons_zero, List.set_cons_succ]
  refine wpN_take (i := 5) (d := some 25) rfl rfl (by kernel_rfl) (by kernel_rfl) (by kernel_rfl) (fun _ _ _ h => h) (sure_value (v := .bool false) (by rfl) (fun v1 h1 => by first | rfl | (go_simp; done) | (go_simp; intro h9; exact absurd h9 (by omega)) | (go_simp; assumption))) (Only.refl _ _) ?_
  simp only [Act.put, List.setIfInBounds_toArray, List.set_cons_zero, List.set_cons_succ]
  refine wpN_take (i := 6) (d := some 26) rfl rfl (by kernel_rfl) (by kernel_rfl) (by kernel_rfl) (fun _ _ _ h => h) (sure_value (v := .pointer (some ⟨g, 0, none⟩)) (by rfl) (fun v1 h1 => by first | rfl | (go_simp; done) | (go_simp; intro h9; exact absurd h9 (by omega)) | (go_simp; assumption))) (Only.refl _ _) ?_
  simp only [Act.put, List.setIfInBounds_toArray, List.set_cons_zero, List.set_cons_succ]
  refine wpN_take (i := 7) (d := some 27) rfl rfl (by kernel_rfl) (by kernel_rfl) (by kernel_rfl) (fun _ _ _ h => h) (sure_call (v := .int .i64 (n : Int)) (fun w' h' => HOP.out w' (O5.out.tr (Only.undrew h'))) (by rfl) (fun _ => by go_simp)) (Only.refl _ _) ?_
  simp only [Act.put, List.setIfInBounds_toArray, List.set_cons_zero, List.set_cons_succ]
  refine wpN_take (i := 8) (d := some 28) rfl rfl (by kernel_rfl) (by kernel_rfl) (by kernel_rfl) (fun _ _ _ h => h) (sure_value (v := .pointer (some ⟨w.heap.size, 0, none⟩)) (by rfl) (fun v1 h1 => by first | rfl | (go_simp; done) | (go_simp; intro h9; exact absurd h9 (by omega)) | (go_simp; assumption))) (Only.refl _ _) ?_
  simp only [Act.put, List.setIfInBounds_toArray, List.set_cons_zero, List.set_cons_succ]
  refine wpN_take (i := 9) (d := some 29) rfl rfl (by kernel_rfl) (by kernel_rfl) (by kernel_rfl) (fun _ _ _ h => h) (sure_lit (v := .slice A n c) (i := 0) BX5.out.drew rfl (fun h => h) (by rfl) (fun _ h => by go_simp)) (Only.refl _ _) ?_
  simp only [Act.put, List.setIfInBounds_toArray, List.set_cons_zero, List.set_cons_succ]
  refine wpN_take (i := 10) (d := some 30) rfl rfl (by kernel_rfl) (by kernel_rfl) (by kernel_rfl) (fun _ _ _ h => h) (sure_value (v := .int .i64 (n : Int)) (by rfl) (fun v1 h1 => by first | rfl | (go_simp; done) | (go_simp; intro h9; exact absurd h9 (by omega)) | (go_simp; assumption))) (Only.refl _ _) ?_
  simp only [Act.put, List.setIfInBounds_toArray, List.set_cons_zero, List.set_cons_succ]
  refine wpN_take (i := 11) (d := some 31) rfl rfl (by kernel_rfl) (by kernel_rfl) (by kernel_rfl) (fun _ _ _ h => h) (sure_value (v := .bool false) (by rfl) (fun v1 h1 => by first | rfl | (go_simp; done) | (go_simp; intro h9; exact absurd h9 (by omega)) | (go_simp; assumption))) (Only.refl _ _) ?_
  simp only [Act.put, List.setIfInBounds_toArray, List.set_cons_zero, List.set_cons_succ]
  refine wpN_take (i := 12) (d := some 32) rfl rfl (by kernel_rfl) (by kernel_rfl) (by kernel_rfl) (fun _ _ _ h => h) (sure_value (v := .bool false) (by rfl) (fun v1 h1 => by first | rfl | (go_simp; done) | (go_simp; intro h9; exact absurd h9 (by omega)) | (go_simp; assumption))) (Only.refl _ _) ?_
  simp only [Act.put, List.setIfInBounds_toArray, List.set_cons_zero, List.set_cons_succ]
  refine wpN_take (i := 13) (d := some 33) rfl rfl (by kernel_rfl) (by kernel_rfl) (by kernel_rfl) (fun _ _ _ h => h) (sure_value (v := .bool false) (by rfl) (fun v1 h1 => by first | rfl | (go_simp; done) | (go_simp; intro h9; exact absurd h9 (by omega)) | (go_simp; assumption))) (Only.refl _ _) ?_
  simp only [Act.put, List.setIfInBounds_toArray, List.set_cons_zero, List.set_cons_succ]
  refine wpN_take (i := 14) (d := some 34) rfl rfl (by kernel_rfl) (by kernel_rfl) (by kernel_rfl) (fun _ _ _ h => h) (sure_value (v := .pointer (some ⟨g, 0, none⟩)) (by rfl) (fun v1 h1 => by first | rfl | (go_simp; done) | (go_simp; intro h9; exact absurd h9 (by omega)) | (go_simp; assumption))) (Only.refl _ _) ?_
  simp only [Act.put, List.setIfInBounds_toArray, List.set_cons_zero, List.set_cons_succ]
  refine wpN_take (i := 15) (d := some 35) rfl rfl (by kernel_rfl) (by kernel_rfl) (by kernel_rfl) (fun _ _ _ h => h) (sure_call (v := .int .i64 (J.lost : Int)) (fun w' h' => HLO.out w' (O5.out.tr (Only.undrew h'))) (by rfl) (fun _ => by go_simp)) (Only.refl _ _) ?_
  simp only [Act.put, List.setIfInBounds_toArray, List.set_cons_zero, List.set_cons_succ]
  refine wpN_take (i := 16) (d := some 36) rfl rfl (by kernel_rfl) (by kernel_rfl) (by kernel_rfl) (fun _ _ _ h => h) (sure_value (v := .pointer (some ⟨w.heap.size, 1, none⟩)) (by rfl) (fun v1 h1 => by first | rfl | (go_simp; done) | (go_simp; intro h9; exact absurd h9 (by omega)) | (go_simp; assumption))) (Only.refl _ _) ?_
  simp only [Act.put, List.setIfInBounds_toArray, List.set_cons_zero, List.set_cons_succ]
  refine wpN_take (i := 17) (d := some 37) rfl rfl (by kernel_rfl) (by kernel_rfl) (by kernel_rfl) (fun _ _ _ h => h) (sure_lit (v := .int .i64 (J.lost : Int)) (i := 1) BX5.out.drew rfl (fun h => h) (by rfl) (fun _ h => by go_simp)) (Only.refl _ _) ?_
  simp only [Act.put, List.setIfInBounds_toArray, List.set_cons_zero, List.set_cons_succ]
  refine wpN_take (i := 18) (d := some 38) rfl rfl (by kernel_rfl) (by kernel_rfl) (by kernel_rfl) (fun _ _ _ h => h) (sure_value (v := .bool false) (by rfl) (fun v1 h1 => by first | rfl | (go_simp; done) | (go_simp; intro h9; exact absurd h9 (by omega)) | (go_simp; assumption))) (Only.refl _ _) ?_
  simp only [Act.put, List.setIfInBounds_toArray, List.set_cons_zero, List.set_cons_succ]
  refine wpN_take (i := 19) (d := some 39) rfl rfl (by kernel_rfl) (by kernel_rfl) (by kernel_rfl) (fun _ _ _ h => h) (sure_value (v := .bool false) (by rfl) (fun v1 h1 => by first | rfl | (go_simp; done) | (go_simp; intro h9; exact absurd h9 (by omega)) | (go_simp; assumption))) (Only.refl _ _) ?_
  simp only [Act.put, List.setIfInBounds_toArray, List.set_cons_zero, List.set_cons_succ]
  refine wpN_done (by kernel_rfl) (fun w6 ho6 => ?_) _
  have O6 := Lib.hid (Only.undrew ho6)
  clear ho6
  go_wp2_with fail
  go_loopw [11] (fun i W => ∃ k : Nat, k ≤ m ∧ i = .int .i64 (k : Int) ∧ Only Noth w5 W) (fun i _ => m - (RowKit.intOf i).toNat)
  case atStart => exact ⟨0, Nat.zero_le _, rfl, O6.out⟩
  case round =>
    obtain ⟨k, hk, rfl, ho⟩ := hrel
    have OK := Lib.hid ho
    have hk0 : (0 : Int) ≤ k := by omega
    clear ho
    by_cases hkm : k < m
    · have hk1 : (k : Int) < m := by omega
      obtain ⟨ba, hba, hla, hca⟩ := nats_at (RA5.out.only OK.out (fun _ _ h => h)) HM.out hkm
      obtain ⟨bb, hbb, hlb, hcb⟩ := nats_at (RB5.out.only OK.out (fun _ _ h => h)) HM.out hkm
      subst hba hbb
      obtain ⟨z, hz⟩ : ∃ z : Int, ((L[k]'(by rw [HM.out]; exact hkm) : Nat) : Int) = z := ⟨_, rfl⟩
      rw [hz] at hca hcb
      have HCA := Lib.hid hca
      have HCB := Lib.hid hcb
      have HLA := Lib.hid hla
      have HLB := Lib.hid hlb
      clear hz hca hcb hla hlb
      go_wp2_with fail
      refine wp_region_N Noth (by kernel_rfl) ?_
      refine wpN_take (i := 0) (d := some 46) rfl rfl (by kernel_rfl) (by kernel_rfl) (by kernel_rfl) (fun _ _ _ h => h) (sure_value (v := .slice (some ⟨ba, 0, none⟩) m c1) (by rfl) (fun v1 h1 => by first | rfl | (go_simp; done) | (go_simp; intro h9; exact absurd h9 (by omega)) | (go_simp; assumption))) (Only.refl _ _) ?_
      simp only [Act.put, List.setIfInBounds_toArray, List.set_cons_zero, List.set_cons_succ]
      refine wpN_take (i := 1) (d := some 47) rfl rfl (by kernel_rfl) (by kernel_rfl) (by kernel_rfl) (fun _ _ _ h => h) (sure_value (v := .int .i64 (k : Int)) (by rfl) (fun v1 h1 => by first | rfl | (go_simp; done) | (go_simp; intro h9; exact absurd h9 (by omega)) | (go_simp; assumption))) (Only.refl _ _) ?_
      simp only [Act.put, List.setIfInBounds_toArray, List.set_cons_zero, List.set_cons_succ]
      refine wpN_take (i := 2) (d := some 48) rfl rfl (by kernel_rfl) (by kernel_rfl) (by kernel_rfl) (fun _ _ _ h => h) (sure_value (v := .pointer (some ⟨ba, k, none⟩)) (by rfl) (fun v1 h1 => by first | rfl | (go_simp; done) | (go_simp; intro h9; exact absurd h9 (by omega)) | (go_simp; assumption))) (Only.refl _ _) ?_
      simp only [Act.put, List.setIfInBounds_toArray, List.set_cons_zero, List.set_cons_succ]
      refine wpN_take (i := 3) (d := some 49) rfl rfl (by kernel_rfl) (by kernel_rfl) (by kernel_rfl) (fun _ _ _ h => h) (sure_cellv (v := .int .i64 z) HCA.out HLA.out (fun h => h) (by rfl) (fun _ h => by go_simp)) (Only.refl _ _) ?_
      simp only [Act.put, List.setIfInBounds_toArray, List.set_cons_zero, List.set_cons_succ]
      refine wpN_take (i := 4) (d := some 50) rfl rfl (by kernel_rfl) (by kernel_rfl) (by kernel_rfl) (fun _ _ _ h => h) (sure_value (v := .slice (some ⟨bb, 0, none⟩) m d1) (by rfl) (fun v1 h1 => by first | rfl | (go_simp; done) | (go_simp; intro h9; exact absurd h9 (by omega)) | (go_simp; assumption))) (Only.refl _ _) ?_
      simp only [Act.put, List.setIfInBounds_toArray, List.set_cons_zero, List.set_cons_succ]
      refine wpN_take (i := 5) (d := some 51) rfl rfl (by kernel_rfl) (by kernel_rfl) (by kernel_rfl) (fun _ _ _ h => h) (sure_value (v := .int .i64 (k : Int)) (by rfl) (fun v1 h1 => by first | rfl | (go_simp; done) | (go_simp; intro h9; exact absurd h9 (by omega)) | (go_simp; assumption))) (Only.refl _ _) ?_
      simp only [Act.put, List.setIfInBounds_toArray, List.set_cons_zero, List.set_cons_succ]
      refine wpN_take (i := 6) (d := some 52) rfl rfl (by kernel_rfl) (by kernel_rfl) (by kernel_rfl) (fun _ _ _ h => h) (sure_value (v := .pointer (some ⟨bb, k, none⟩)) (by rfl) (fun v1 h1 => by first | rfl | (go_simp; done) | (go_simp; intro h9; exact absurd h9 (by omega)) | (go_simp; assumption))) (Only.refl _ _) ?_
      simp only [Act.put, List.setIfInBounds_toArray, List.set_cons_zero, List.set_cons_succ]
      refine wpN_take (i := 7) (d := some 53) rfl rfl (by kernel_rfl) (by kernel_rfl) (by kernel_rfl) (fun _ _ _ h => h) (sure_cellv (v := .int .i64 z) HCB.out HLB.out (fun h => h) (by rfl) (fun _ h => by go_simp)) (Only.refl _ _) ?_
      simp only [Act.put, List.setIfInBounds_toArray, List.set_cons_zero, List.set_cons_succ]
      refine wpN_take (i := 8) (d := some 54) rfl rfl (by kernel_rfl) (by kernel_rfl) (by kernel_rfl) (fun _ _ _ h => h) (sure_value (v := .bool false) (by rfl) (fun v1 h1 => by first | rfl | (go_simp; done) | (go_simp; intro h9; exact absurd h9 (by omega)) | (go_simp; assumption))) (Only.refl _ _) ?_
      simp only [Act.put, List.setIfInBounds_toArray, List.set_cons_zero, List.set_cons_succ]
      refine wpN_done (by kernel_rfl) (fun w7 ho7 => ?_) _
      go_wp2_with fail
      go_roundw
      case rel => exact ⟨k + 1, by omega, by go_num, OK.out.tr (Only.undrew ho7)⟩
      case measure => simp [RowKit.intOf]; omega
    · obtain rfl : k = m := by omega
      go_wp2
      go_ret
      exact ⟨rfl, O1.out.tr (O5.out.tr OK.out)⟩
end Go.Proofs.Ytemeglofblnnmaa
