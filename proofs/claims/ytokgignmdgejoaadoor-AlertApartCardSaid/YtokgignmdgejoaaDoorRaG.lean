/- The law's same: what both have is the same; what is told is the asker's own. -/
import Derived.Test.YtokgignmdgejoaaDoorRaF
import Derived.Test.YtokgignmdgejoaaDoorAlI
namespace Go.Proofs.YtokgignmdgejoaaDoor
open Go.RowKit Go.Lib
set_option linter.unusedVariables false
set_option linter.unusedSimpArgs false
set_option maxRecDepth 100000
attribute [local go_sem ↓] Go.wp_at_zero Go.wp_at_succ

section
variable {P : Program} {ops : Array Oper} {Q : Exit → Act → World → Prop} {md : Region.Mode} {F : Nat → Prop} {w0 : World}
/-- Two calls that may come up in either order; what they hand back may be new. -/
theorem wpN_call2 {i j : Nat} {o o' : Oper} {d d' : Option Tmp} {n : Nat} {listed : Array Bool} {a : Act} {w : World} {f f' : FuncId} {args args' : Array Value} (T U : Value → World → Prop)
    (hT : ∀ v w1 w2, T v w1 → Only Noth w1 w2 → T v w2) (hU : ∀ v w1 w2, U v w1 → Only Noth w1 w2 → U v w2)
    (hr : Region.ready md ops listed = [i, j]) (hri : Region.ready md ops (listed.setIfInBounds i true) = [j]) (hrj : Region.ready md ops (listed.setIfInBounds j true) = [i]) (hij : i ≠ j)
    (hi : ops[i]? = some o) (hj : ops[j]? = some o') (hdd : o.dst = d) (hdd' : o'.dst = d')
    (hw : Region.wanted o (yielded ops a.tmps) = true) (hw1 : ∀ u, Region.wanted o (yielded ops (a.put d' u).tmps) = true) (hw' : Region.wanted o' (yielded ops a.tmps) = true) (hw1' : ∀ v, Region.wanted o' (yielded ops (a.put d v).tmps) = true) (hd : ∀ e, d = some e → d' ≠ some e)
    (hS : Only F w0 w)
    (hc : ∀ w1, Only Noth w w1 → Calls P f args w1 (fun e w' => ∃ v, e = .returned v ∧ T v w' ∧ Only Noth w1 w'))
    (hc' : ∀ w1, Only Noth w w1 → Calls P f' args' w1 (fun e w' => ∃ v, e = .returned v ∧ U v w' ∧ Only Noth w1 w'))
    (he : ∀ w1, (execOp a.eval o).run P w1 = .ok (.enter f args) w1) (he1 : ∀ u w1, (execOp (a.put d' u).eval o).run P w1 = .ok (.enter f args) w1)
    (he' : ∀ w1, (execOp a.eval o').run P w1 = .ok (.enter f' args') w1) (he1' : ∀ v w1, (execOp (a.put d v).eval o').run P w1 = .ok (.enter f' args') w1)
    (h : ∀ v u w2, T v w2 → U u w2 → Only Noth w w2 → wpN P md ops Q F w0 n ((listed.setIfInBounds i true).setIfInBounds j true) ((a.put d v).put d' u) w2) : wpN P md ops Q F w0 (n + 2) listed a w := by
  subst hdd hdd'
  refine wpN_two hr hi hw hj hw' (fun w1 h1 => ?_) (fun w1 h1 => ?_)
  · unfold Oper.wp
    rw [he w1]
    refine (hc w1 h1).mono ?_
    rintro e w2 ⟨v, rfl, ht, ho⟩
    have k2 := h1.tr ho
    refine ⟨only_up w0 _ _ hS k2, wpN_one hri hj (hw1' v) (fun w3 h3 => ?_)⟩
    unfold Oper.wp
    rw [he1' v w3]
    refine (hc' w3 (k2.tr h3)).mono ?_
    rintro e w4 ⟨u, rfl, hu, ho4⟩
    have k4 := (k2.tr h3).tr ho4
    exact ⟨only_up w0 _ _ hS k4, h v u w4 (hT _ _ _ (hT _ _ _ ht h3) ho4) hu k4⟩
  · unfold Oper.wp
    rw [he' w1]
    refine (hc' w1 h1).mono ?_
    rintro e w2 ⟨u, rfl, hu, ho⟩
    have k2 := h1.tr ho
    refine ⟨only_up w0 _ _ hS k2, wpN_one hrj hi (hw1 u) (fun w3 h3 => ?_)⟩
    unfold Oper.wp
    rw [he1 u w3]
    refine (hc w3 (k2.tr h3)).mono ?_
    rintro e w4 ⟨v, rfl, ht, ho4⟩
    have k4 := (k2.tr h3).tr ho4
    refine ⟨only_up w0 _ _ hS k4, ?_⟩
    have := h v u w4 ht (hU _ _ _ (hU _ _ _ hu h3) ho4) k4
    rw [Array.setIfInBounds_comm _ _ hij, Act.put_comm _ _ _ hd] at this
    exact this
end
/-- A list is told that says this. -/
def ToldL (X : List (List Pr × Int × Int)) (v : Value) (w : World) : Prop := ∃ A c M, v = .slice A M.length c ∧ M.map Al.core = X ∧ LsAt w (fun _ => True) A c M
theorem ToldL.noth {X : List (List Pr × Int × Int)} {v : Value} {w w' : World} (h : ToldL X v w) (ho : Only Noth w w') : ToldL X v w' := by
  obtain ⟨A, c, M, h1, h2, h3⟩ := h
  exact ⟨A, c, M, h1, h2, h3.noth ho⟩
theorem rsames_true {A B : Option Addr} {c d : Nat} {N M : List Al} {w : World} {S S' : Nat → Prop} (ha : LsAt w S A c N) (hb : LsAt w S' B d M) (he : N.map Al.core = M.map Al.core) :
    Calls Tryd.prog 20 #[.slice A N.length c, .slice B M.length d] w fun e w' => e = .returned (.bool true) ∧ Only Noth w w' :=
  (rsames_run A B c d N M w S S' ha hb).mono fun e w' ⟨⟨q, h1, h2⟩, ho⟩ => ⟨by rw [h1, h2.2 he], ho⟩
def Told (N : List Al) : Nat → Prop := fun k => ∃ n ∈ N, k = n.blk
set_option maxHeartbeats 16000000 in
theorem same_run (g b : Nat) (S : Nat → Prop) (A : Option Addr) (c : Nat) (L N : List Al) (now : Int) (w : World) (hs : AlAt w g b L) (hr : RfAt w S A c N) (htw : Tw L N) :
    Calls Tryd.prog 17 #[.pointer (some ⟨g, 0, none⟩), .agg #[.slice A N.length c], .int .i64 now] w fun e w' => e = .returned (.bool true) ∧ Only Noth w w' := by
  have HS := Lib.hid hs
  have HR := Lib.hid hr.lt
  have TW := Lib.hid htw
  have GB := Lib.hid (And.intro hs.box.lt hs.own.lt)
  have hnl := hr.len
  have hn0 : (0 : Int) ≤ N.length := by omega
  obtain ⟨W0, hW0⟩ : ∃ W, w.alloc (.cells #[.slice A N.length c] 40) = W := ⟨_, rfl⟩
  have B4 := Lib.hid (show Hld W0 w.heap.size 40 #[.slice A N.length c] by rw [← hW0]; exact Hld.new w _ _)
  have O0 := Lib.hid (show Only Noth w W0 by rw [← hW0]; exact (Only.refl Noth w).alloc _)
  have Z0 := Lib.hid B4.out.lt
  clear hs hr htw
  go_enter Tryd.func17, Tryd.ntmps17
  go_wp2_with fail
  refine (all_run g b L W0 (HS.out.noth O0.out)).mono ?_
  rintro e w1 ⟨hwa, ho⟩
  obtain ⟨A1, c1, N1, rfl, hm1, hls1, hpw, hold⟩ := which_ls hwa
  have L1 := Lib.hid hls1
  have PW := Lib.hid hpw
  have HO := Lib.hid hold
  have HEQ := Lib.hid (show N1.map Al.core = N.map Al.core by rw [hm1]; exact TW.out.core)
  have O1 := Lib.hid (O0.out.tr ho)
  have SA := Lib.hid (HS.out.noth O1.out)
  have RF := Lib.hid (HR.out.noth O1.out)
  have hln1 : N1.length = L.length := by have := congrArg List.length hm1; simpa using this
  have hll : L.length = N.length := TW.out.len
  have HLN := Lib.hid (show ((L.length : Int) == N.length) = true by simp [hll])
  replace B4 := Lib.hid (B4.out.only ho (fun h => h))
  have Z1 := Lib.hid ho.size
  clear hwa hls1 hpw hold hm1 ho hW0
  go_upto_region 2 with fail
  refine wp_region_N Noth (by kernel_rfl) ?_
  refine wpN_take (i := 0) (d := some 13) rfl rfl (by kernel_rfl) (by kernel_rfl) (by kernel_rfl) (fun _ _ _ h => h) (sure_value (v := .slice A1 N1.length c1) (by rfl) (fun v1 h1 => by first | rfl | (go_simp; done) | (go_simp; intro h9; exact absurd h9 (by omega)) | (go_simp; assumption))) (Only.refl _ _) ?_
  simp only [Act.put, List.setIfInBounds_toArray, List.set_cons_zero, List.set_cons_succ]
  refine wpN_take (i := 1) (d := some 14) rfl rfl (by kernel_rfl) (by kernel_rfl) (by kernel_rfl) (fun _ _ _ h => h) (sure_value (v := .pointer (some ⟨w.heap.size, 0, none⟩)) (by rfl) (fun v1 h1 => by first | rfl | (go_simp; done) | (go_simp; intro h9; exact absurd h9 (by omega)) | (go_simp; assumption))) (Only.refl _ _) ?_
  simp only [Act.put, List.setIfInBounds_toArray, List.set_cons_zero, List.set_cons_succ]
  refine wpN_take (i := 2) (d := some 15) rfl rfl (by kernel_rfl) (by kernel_rfl) (by kernel_rfl) (fun _ _ _ h => h) (sure_lit (v := .slice A N.length c) (i := 0) B4.out.drew rfl (fun h => h) (by rfl) (fun _ h => by go_simp)) (Only.refl _ _) ?_
  simp only [Act.put, List.setIfInBounds_toArray, List.set_cons_zero, List.set_cons_succ]
  refine wpN_take (i := 3) (d := some 16) rfl rfl (by kernel_rfl) (by kernel_rfl) (by kernel_rfl) (fun _ _ _ h => h) (sure_call (v := .bool true) (fun w' h' => rsames_true (L1.out.noth (Only.undrew h')) (RF.out.ls.noth (Only.undrew h')) HEQ.out) (by rfl) (fun _ => by go_simp)) (Only.refl _ _) ?_
  simp only [Act.put, List.setIfInBounds_toArray, List.set_cons_zero, List.set_cons_succ]
  refine wpN_take (i := 4) (d := some 17) rfl rfl (by kernel_rfl) (by kernel_rfl) (by kernel_rfl) (fun _ _ _ h => h) (sure_value (v := .bool true) (by rfl) (fun v1 h1 => by first | rfl | (go_simp; done) | (go_simp; intro h9; exact absurd h9 (by omega)) | (go_simp; assumption))) (Only.refl _ _) ?_
  simp only [Act.put, List.setIfInBounds_toArray, List.set_cons_zero, List.set_cons_succ]
  refine wpN_take (i := 5) (d := some 18) rfl rfl (by kernel_rfl) (by kernel_rfl) (by kernel_rfl) (fun _ _ _ h => h) (sure_value (v := .pointer (some ⟨g, 0, none⟩)) (by rfl) (fun v1 h1 => by first | rfl | (go_simp; done) | (go_simp; intro h9; exact absurd h9 (by omega)) | (go_simp; assumption))) (Only.refl _ _) ?_
  simp only [Act.put, List.setIfInBounds_toArray, List.set_cons_zero, List.set_cons_succ]
  refine wpN_take (i := 6) (d := some 19) rfl rfl (by kernel_rfl) (by kernel_rfl) (by kernel_rfl) (fun _ _ _ h => h) (sure_call (v := .int .i64 L.length) (fun w' h' => len_al g b L w' (SA.out.noth (Only.undrew h'))) (by rfl) (fun _ => by go_simp)) (Only.refl _ _) ?_
  simp only [Act.put, List.setIfInBounds_toArray, List.set_cons_zero, List.set_cons_succ]
  refine wpN_take (i := 7) (d := some 20) rfl rfl (by kernel_rfl) (by kernel_rfl) (by kernel_rfl) (fun _ _ _ h => h) (sure_value (v := .pointer (some ⟨w.heap.size, 0, none⟩)) (by rfl) (fun v1 h1 => by first | rfl | (go_simp; done) | (go_simp; intro h9; exact absurd h9 (by omega)) | (go_simp; assumption))) (Only.refl _ _) ?_
  simp only [Act.put, List.setIfInBounds_toArray, List.set_cons_zero, List.set_cons_succ]
  refine wpN_take (i := 8) (d := some 21) rfl rfl (by kernel_rfl) (by kernel_rfl) (by kernel_rfl) (fun _ _ _ h => h) (sure_lit (v := .slice A N.length c) (i := 0) B4.out.drew rfl (fun h => h) (by rfl) (fun _ h => by go_simp)) (Only.refl _ _) ?_
  simp only [Act.put, List.setIfInBounds_toArray, List.set_cons_zero, List.set_cons_succ]
  refine wpN_take (i := 9) (d := some 22) rfl rfl (by kernel_rfl) (by kernel_rfl) (by kernel_rfl) (fun _ _ _ h => h) (sure_value (v := .int .i64 N.length) (by rfl) (fun v1 h1 => by first | rfl | (go_simp; done) | (go_simp; intro h9; exact absurd h9 (by omega)) | (go_simp; assumption))) (Only.refl _ _) ?_
  simp only [Act.put, List.setIfInBounds_toArray, List.set_cons_zero, List.set_cons_succ]
  refine wpN_take (i := 10) (d := some 23) rfl rfl (by kernel_rfl) (by kernel_rfl) (by kernel_rfl) (fun _ _ _ h => h) (sure_value (v := .bool true) (by rfl) (fun v1 h1 => by have hh := HLN.out; go_simp)) (Only.refl _ _) ?_
  simp only [Act.put, List.setIfInBounds_toArray, List.set_cons_zero, List.set_cons_succ]
  refine wpN_take (i := 11) (d := some 24) rfl rfl (by kernel_rfl) (by kernel_rfl) (by kernel_rfl) (fun _ _ _ h => h) (sure_value (v := .bool true) (by rfl) (fun v1 h1 => by first | rfl | (go_simp; done) | (go_simp; intro h9; exact absurd h9 (by omega)) | (go_simp; assumption))) (Only.refl _ _) ?_
  simp only [Act.put, List.setIfInBounds_toArray, List.set_cons_zero, List.set_cons_succ]
  refine wpN_take (i := 12) (d := some 8) rfl rfl (by kernel_rfl) (by kernel_rfl) (by kernel_rfl) (fun _ _ _ h => h) (sure_value (v := .bool true) (by rfl) (fun v1 h1 => by first | rfl | (go_simp; done) | (go_simp; intro h9; exact absurd h9 (by omega)) | (go_simp; assumption))) (Only.refl _ _) ?_
  simp only [Act.put, List.setIfInBounds_toArray, List.set_cons_zero, List.set_cons_succ]
  refine wpN_done (by kernel_rfl) (fun w2 ho => ?_) _
  have O12 := Lib.hid (show Only Noth w1 w2 from Only.undrew ho)
  replace B4 := Lib.hid (B4.out.only O12.out (fun h => h))
  have L12 := Lib.hid (L1.out.noth O12.out)
  have WD := Lib.hid (show ∀ n ∈ N1, Wide w2 n.blk (n.ls.length * 2) from fun n hn => (HO.out n hn).2.2.2.only O12.out (fun h => h))
  have hn1l : (N1.length : Int) ≤ 64 := by omega
  have hn10 : (0 : Int) ≤ N1.length := by omega
  -- no told label lies in the row, nor in what was there
  have NR := Lib.hid (show ∀ k o, A1 = some ⟨k, o, none⟩ → 0 < N1.length → ¬ Told N1 k from fun k o hA hp ht => by
    obtain ⟨n, hn, rfl⟩ := ht
    exact (HO.out n hn).2.2.1 o hA hp)
  have NT := Lib.hid (show ∀ k, Told N1 k → w.heap.size < k from fun k ht => by
    obtain ⟨n, hn, rfl⟩ := ht
    have := (HO.out n hn).1
    have := Z0.out
    omega)
  clear ho
  go_wp2_with fail
  go_loopw [9] (fun i W => ∃ k : Nat, k ≤ N1.length ∧ i = .int .i64 (k : Int) ∧ Only (Told N1) w2 W ∧ (∀ n ∈ N1, Wide W n.blk (n.ls.length * 2))) (fun i _ => N1.length - (RowKit.intOf i).toNat)
  case atStart => exact ⟨0, Nat.zero_le _, rfl, Only.refl _ _, WD.out⟩
  case round =>
    obtain ⟨k, hk, rfl, ho, hwd⟩ := hrel
    have OK := Lib.hid ho
    have WK := Lib.hid hwd
    have hk0 : (0 : Int) ≤ k := by omega
    clear ho hwd
    by_cases hlt : k < N1.length
    · obtain ⟨n, hn⟩ : ∃ n, N1[k]? = some n := ⟨_, List.getElem?_eq_getElem hlt⟩
      obtain ⟨rb, ro, hA1, _, hrl, hrc⟩ := L12.out.mem (by omega)
      have HN := Lib.hid (List.mem_of_getElem? hn)
      have CC := Lib.hid (show ∀ W, Only (Told N1) w2 W → W.cell? ⟨rb, ro + k * 3, none⟩ = some (.slice (some ⟨n.blk, 0, none⟩) n.ls.length n.cap) from fun W ho => (ho.cell (p := ⟨rb, ro + k * 3, none⟩) hrl (NR.out rb ro hA1 (by omega))).trans (hrc k n hn).1)
      have hnls : (n.ls.length : Int) ≤ 9223372036854775807 := by have h1 := (L12.out.labs n HN.out).cap; have h2 := (L12.out.labs n HN.out).top; omega
      have hnl0 : (0 : Int) ≤ n.ls.length := by omega
      have hk1 : (k : Int) < N1.length := by omega
      subst hA1
      clear hn hrc hrl
      go_wp2_with fail
      go_loopw [10] (fun i W => ∃ j : Nat, j ≤ n.ls.length ∧ i = .int .i64 (j : Int) ∧ Only (Told N1) w2 W ∧ (∀ n ∈ N1, Wide W n.blk (n.ls.length * 2))) (fun i _ => n.ls.length - (RowKit.intOf i).toNat)
      case atStart => exact ⟨0, Nat.zero_le _, rfl, OK.out, WK.out⟩
      case round =>
        obtain ⟨j, hj, rfl, ho, hwd⟩ := hrel
        have OJ := Lib.hid ho
        have WJ := Lib.hid hwd
        have c0 := CC.out _ ho
        have hj0 : (0 : Int) ≤ j := by omega
        clear ho hwd
        by_cases hlt2 : j < n.ls.length
        · obtain ⟨⟨v9, hv9⟩, hf9⟩ := (WJ.out n HN.out).at (k := j * 2 + 1) (by omega)
          have hj1 : (j : Int) < n.ls.length := by omega
          go_wp2_with fail
          go_roundw
          case rel => exact ⟨j + 1, by omega, by go_num, OJ.out.setCell (p := ⟨n.blk, j * 2 + 1, none⟩) (fun _ => ⟨n, HN.out, rfl⟩) _, fun m hm => (WJ.out m hm).set n.blk (j * 2 + 1) _⟩
          case measure => simp [RowKit.intOf]; omega
        · obtain rfl : j = n.ls.length := by omega
          go_wp2_with fail
          go_roundw
          case rel => exact ⟨k + 1, by omega, by go_num, OJ.out, WJ.out⟩
          case measure => simp [RowKit.intOf]; omega
    · obtain rfl : k = N1.length := by omega
      have hb2 := O12.out.size
      replace SA := Lib.hid ((SA.out.noth O12.out).only OK.out (fun k ht => by
        have h1 := NT.out k ht
        have h2 := GB.out
        exact ⟨by omega, by omega, fun e he => by have := HS.out.blk e he; omega⟩))
      replace RF := Lib.hid ((RF.out.noth O12.out).only OK.out (fun k hk ht => by have h1 := NT.out k ht; have := hk.2; omega))
      replace B4 := Lib.hid (B4.out.only OK.out (fun ht => by have h1 := NT.out _ ht; omega))
      have OF := Lib.hid (show Only Noth w wr from (O1.out.tr O12.out).trans OK.out (fun k ht hl => by have h1 := NT.out k ht; omega))
      go_upto_region 10 with fail
      refine wp_region_N Noth (by kernel_rfl) ?_
      refine wpN_take (i := 0) (d := some 49) rfl rfl (by kernel_rfl) (by kernel_rfl) (by kernel_rfl) (fun _ _ _ h => h) (sure_value (v := .bool true) (by rfl) (fun v1 h1 => by first | rfl | (go_simp; done) | (go_simp; intro h9; exact absurd h9 (by omega)) | (go_simp; assumption))) (Only.refl _ _) ?_
      simp only [Act.put, List.setIfInBounds_toArray, List.set_cons_zero, List.set_cons_succ]
      refine wpN_take (i := 1) (d := some 50) rfl rfl (by kernel_rfl) (by kernel_rfl) (by kernel_rfl) (fun _ _ _ h => h) (sure_value (v := .bool true) (by rfl) (fun v1 h1 => by first | rfl | (go_simp; done) | (go_simp; intro h9; exact absurd h9 (by omega)) | (go_simp; assumption))) (Only.refl _ _) ?_
      simp only [Act.put, List.setIfInBounds_toArray, List.set_cons_zero, List.set_cons_succ]
      refine wpN_take (i := 2) (d := some 51) rfl rfl (by kernel_rfl) (by kernel_rfl) (by kernel_rfl) (fun _ _ _ h => h) (sure_value (v := .pointer (some ⟨g, 0, none⟩)) (by rfl) (fun v1 h1 => by first | rfl | (go_simp; done) | (go_simp; intro h9; exact absurd h9 (by omega)) | (go_simp; assumption))) (Only.refl _ _) ?_
      simp only [Act.put, List.setIfInBounds_toArray, List.set_cons_zero, List.set_cons_succ]
      refine wpN_take (i := 4) (d := some 53) rfl rfl (by kernel_rfl) (by kernel_rfl) (by kernel_rfl) (fun _ _ _ h => h) (sure_value (v := .pointer (some ⟨w.heap.size, 0, none⟩)) (by rfl) (fun v1 h1 => by first | rfl | (go_simp; done) | (go_simp; intro h9; exact absurd h9 (by omega)) | (go_simp; assumption))) (Only.refl _ _) ?_
      simp only [Act.put, List.setIfInBounds_toArray, List.set_cons_zero, List.set_cons_succ]
      refine wpN_take (i := 5) (d := some 54) rfl rfl (by kernel_rfl) (by kernel_rfl) (by kernel_rfl) (fun _ _ _ h => h) (sure_lit (v := .slice A N.length c) (i := 0) B4.out.drew rfl (fun h => h) (by rfl) (fun _ h => by go_simp)) (Only.refl _ _) ?_
      simp only [Act.put, List.setIfInBounds_toArray, List.set_cons_zero, List.set_cons_succ]
      refine wpN_call (i := 3) (d := some 52) (T := fun v w1 w2 => ToldL (L.map Al.core) v w2 ∧ Only Noth w1 w2) (fun w1 h1 => (all_run g b L w1 (SA.out.noth (Only.undrew h1))).mono ?_) (by kernel_rfl) rfl rfl (by rfl) (fun _ => by go_simp) ?_
      · rintro e w' ⟨hwa, ho⟩
        obtain ⟨A3, c3, M3, rfl, hm, hls, _⟩ := which_ls hwa
        exact ⟨_, rfl, ⟨⟨A3, c3, M3, rfl, hm, hls.mono (fun _ _ _ => trivial)⟩, ho⟩, only_up _ _ _ (only_up _ _ _ (Only.refl _ _) h1) ho⟩
      rintro v w1 wa h1 ⟨⟨A3, c3, M3, rfl, hm3, hls3⟩, ho3⟩ hOa
      refine wpN_rebase hOa ?_
      simp only [Act.put, List.setIfInBounds_toArray, List.set_cons_zero, List.set_cons_succ]
      have B4a := Lib.hid (B4.out.only (Only.undrew hOa) (fun h => h))
      have SAa := Lib.hid (SA.out.noth (Only.undrew hOa))
      have RFa := Lib.hid (RF.out.noth (Only.undrew hOa))
      have L3 := Lib.hid hls3
      have HE3 := Lib.hid (show M3.map Al.core = N.map Al.core by rw [hm3]; exact TW.out.core)
      have OPa := Lib.hid (show Only Noth wr wa from Only.undrew hOa)
      clear hls3 hm3 ho3 hOa h1
      refine wpN_take (i := 6) (d := some 55) rfl rfl (by kernel_rfl) (by kernel_rfl) (by kernel_rfl) (fun _ _ _ h => h) (sure_call (v := .bool true) (fun w' h' => rsames_true (L3.out.noth h') (RFa.out.ls.noth h') HE3.out) (by rfl) (fun _ => by go_simp)) (Only.refl _ _) ?_
      simp only [Act.put, List.setIfInBounds_toArray, List.set_cons_zero, List.set_cons_succ]
      refine wpN_take (i := 7) (d := some 56) rfl rfl (by kernel_rfl) (by kernel_rfl) (by kernel_rfl) (fun _ _ _ h => h) (sure_value (v := .bool true) (by rfl) (fun v1 h1 => by first | rfl | (go_simp; done) | (go_simp; intro h9; exact absurd h9 (by omega)) | (go_simp; assumption))) (Only.refl _ _) ?_
      simp only [Act.put, List.setIfInBounds_toArray, List.set_cons_zero, List.set_cons_succ]
      refine wpN_take (i := 8) (d := some 57) rfl rfl (by kernel_rfl) (by kernel_rfl) (by kernel_rfl) (fun _ _ _ h => h) (sure_value (v := .bool true) (by rfl) (fun v1 h1 => by first | rfl | (go_simp; done) | (go_simp; intro h9; exact absurd h9 (by omega)) | (go_simp; assumption))) (Only.refl _ _) ?_
      simp only [Act.put, List.setIfInBounds_toArray, List.set_cons_zero, List.set_cons_succ]
      refine wpN_take (i := 9) (d := some 58) rfl rfl (by kernel_rfl) (by kernel_rfl) (by kernel_rfl) (fun _ _ _ h => h) (sure_value (v := .pointer (some ⟨g, 0, none⟩)) (by rfl) (fun v1 h1 => by first | rfl | (go_simp; done) | (go_simp; intro h9; exact absurd h9 (by omega)) | (go_simp; assumption))) (Only.refl _ _) ?_
      simp only [Act.put, List.setIfInBounds_toArray, List.set_cons_zero, List.set_cons_succ]
      refine wpN_take (i := 10) (d := some 59) rfl rfl (by kernel_rfl) (by kernel_rfl) (by kernel_rfl) (fun _ _ _ h => h) (sure_value (v := .int .i64 now) (by rfl) (fun v1 h1 => by first | rfl | (go_simp; done) | (go_simp; intro h9; exact absurd h9 (by omega)) | (go_simp; assumption))) (Only.refl _ _) ?_
      simp only [Act.put, List.setIfInBounds_toArray, List.set_cons_zero, List.set_cons_succ]
      refine wpN_take (i := 12) (d := some 61) rfl rfl (by kernel_rfl) (by kernel_rfl) (by kernel_rfl) (fun _ _ _ h => h) (sure_value (v := .agg #[.slice A N.length c]) (by rfl) (fun v1 h1 => by have c0 := (B4a.out.only h1 (fun h => h)).cell 0; go_simp)) (Only.refl _ _) ?_
      simp only [Act.put, List.setIfInBounds_toArray, List.set_cons_zero, List.set_cons_succ]
      refine wpN_take (i := 13) (d := some 62) rfl rfl (by kernel_rfl) (by kernel_rfl) (by kernel_rfl) (fun _ _ _ h => h) (sure_value (v := .int .i64 now) (by rfl) (fun v1 h1 => by first | rfl | (go_simp; done) | (go_simp; intro h9; exact absurd h9 (by omega)) | (go_simp; assumption))) (Only.refl _ _) ?_
      simp only [Act.put, List.setIfInBounds_toArray, List.set_cons_zero, List.set_cons_succ]
      refine wpN_call (i := 11) (d := some 60) (T := fun v w1 w2 => ToldL ((L.filter fun x => x.fires now).map Al.core) v w2 ∧ Only Noth w1 w2) (fun w1 h1 => (firing_run g b L now w1 (SAa.out.noth h1)).mono ?_) (by kernel_rfl) rfl rfl (by rfl) (fun _ => by go_simp) ?_
      · rintro e w' ⟨hwa, ho⟩
        obtain ⟨A3, c3, M3, rfl, hm, hls, _⟩ := which_ls hwa
        exact ⟨_, rfl, ⟨⟨A3, c3, M3, rfl, hm, hls.mono (fun _ _ _ => trivial)⟩, ho⟩, only_up _ _ _ (only_up _ _ _ (Only.refl _ _) h1) ho⟩
      rintro v w1 wb h1 ⟨⟨A5, c5, M5, rfl, hm5, hls5⟩, ho5⟩ hOb
      refine wpN_rebase hOb ?_
      simp only [Act.put, List.setIfInBounds_toArray, List.set_cons_zero, List.set_cons_succ]
      have L5 := Lib.hid hls5
      have RFb := Lib.hid (RFa.out.noth hOb)
      have OPb := Lib.hid (OPa.out.tr hOb)
      have HM5 := Lib.hid hm5
      clear hls5 hm5 hOb h1 ho5
      refine wpN_call (i := 14) (d := some 63) (T := fun v w1 w2 => ToldL ((L.filter fun x => x.fires now).map Al.core) v w2 ∧ Only Noth w1 w2) (fun w1 h1 => (rfiring_run A c N now _ w1 (RFb.out.ls.noth h1) RFb.out.len).mono ?_) (by kernel_rfl) rfl rfl (by rfl) (fun _ => by go_simp) ?_
      · rintro e w' ⟨⟨A3, c3, M3, hM, rfl, hls⟩, ho⟩
        exact ⟨_, rfl, ⟨⟨A3, c3, M3, rfl, by rw [hM]; exact (Tw.filter (fun x y hxy => by unfold Al.fires; rw [hxy.st, hxy.en]) TW.out).core.symm, hls.mono (fun _ _ _ => trivial)⟩, ho⟩, only_up _ _ _ (only_up _ _ _ (Only.refl _ _) h1) ho⟩
      rintro v w1 wc h1 ⟨⟨A6, c6, M6, rfl, hm6, hls6⟩, ho6⟩ hOc
      refine wpN_rebase hOc ?_
      simp only [Act.put, List.setIfInBounds_toArray, List.set_cons_zero, List.set_cons_succ]
      have L5c := Lib.hid (L5.out.noth hOc)
      have L6 := Lib.hid hls6
      have HE6 := Lib.hid (HM5.out.trans hm6.symm)
      have OPc := Lib.hid (OPb.out.tr hOc)
      clear hls6 hm6 hOc h1 ho6
      refine wpN_take (i := 15) (d := some 64) rfl rfl (by kernel_rfl) (by kernel_rfl) (by kernel_rfl) (fun _ _ _ h => h) (sure_call (v := .bool true) (fun w' h' => rsames_true (L5c.out.noth h') (L6.out.noth h') HE6.out) (by rfl) (fun _ => by go_simp)) (Only.refl _ _) ?_
      simp only [Act.put, List.setIfInBounds_toArray, List.set_cons_zero, List.set_cons_succ]
      refine wpN_take (i := 16) (d := some 65) rfl rfl (by kernel_rfl) (by kernel_rfl) (by kernel_rfl) (fun _ _ _ h => h) (sure_value (v := .bool true) (by rfl) (fun v1 h1 => by first | rfl | (go_simp; done) | (go_simp; intro h9; exact absurd h9 (by omega)) | (go_simp; assumption))) (Only.refl _ _) ?_
      simp only [Act.put, List.setIfInBounds_toArray, List.set_cons_zero, List.set_cons_succ]
      refine wpN_take (i := 17) (d := some 6) rfl rfl (by kernel_rfl) (by kernel_rfl) (by kernel_rfl) (fun _ _ _ h => h) (sure_value (v := .bool true) (by rfl) (fun v1 h1 => by first | rfl | (go_simp; done) | (go_simp; intro h9; exact absurd h9 (by omega)) | (go_simp; assumption))) (Only.refl _ _) ?_
      simp only [Act.put, List.setIfInBounds_toArray, List.set_cons_zero, List.set_cons_succ]
      refine wpN_done (by kernel_rfl) (fun w9 ho => ?_) _
      have O9 := Lib.hid (OF.out.tr (OPc.out.tr ho))
      clear ho
      go_wp2
      go_ret
      exact ⟨rfl, O9.out⟩
end Go.Proofs.YtokgignmdgejoaaDoor
