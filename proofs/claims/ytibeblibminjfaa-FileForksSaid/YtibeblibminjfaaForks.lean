/- The walk of FileForks. -/
import Derived.Test.YtibeblibminjfaaNils
namespace Go.Proofs.Ytibeblibminjfaa
open Go.RowKit
set_option linter.unusedVariables false

theorem then_fork' {F : Nat → Prop} {w wr w5 wx : World} {b g b2 b3 k : Nat} {d : Dk} {r : Rk} {W : World} {cs : Array Value} (h : PlayAt F w wr b g d r k) (ho : Only Noth wr W) (hL : Leaves Noth b2 d (W.alloc (.cells cs 48)) w5) (hb : b2 = b3) (gz : Hld w5 W.heap.size 48 rzero)
    (hx : wx = (((((((((w5.setCell ⟨W.heap.size, 0, none⟩ (.string r.s)).setCell ⟨W.heap.size, 1, none⟩ (.string r.l)).setCell ⟨W.heap.size, 2, none⟩ (.int .i64 r.sf)).setCell ⟨W.heap.size, 3, none⟩ (.int .i64 r.cp)).setCell ⟨W.heap.size, 4, none⟩ (.int .i64 r.op)).setCell ⟨W.heap.size, 5, none⟩ (.bool r.dw)).setCell ⟨W.heap.size, 6, none⟩ (.bool r.td)).setCell ⟨W.heap.size, 7, none⟩ (.int .i64 r.af)).setCell ⟨W.heap.size, 8, none⟩ (.bool r.dn))) :
    ForkLeft F w b g d r k (.pointer (some ⟨b3, 0, none⟩)) (.pointer (some ⟨W.heap.size, 0, none⟩)) (.bool true) wx := by
  subst hb
  subst hx
  refine then_fork h ho hL ?_ ?_
  · simpa [rzero, rcells] using ((((((((gz.set_ 0 (.string r.s)).set_ 1 (.string r.l)).set_ 2 (.int .i64 r.sf)).set_ 3 (.int .i64 r.cp)).set_ 4 (.int .i64 r.op)).set_ 5 (.bool r.dw)).set_ 6 (.bool r.td)).set_ 7 (.int .i64 r.af)).set_ 8 (.bool r.dn)
  · exact (((((((((Only.refl (fun k => k = W.heap.size) w5).setCell (p := ⟨W.heap.size, 0, none⟩) (fun _ => rfl) _).setCell (p := ⟨W.heap.size, 1, none⟩) (fun _ => rfl) _).setCell (p := ⟨W.heap.size, 2, none⟩) (fun _ => rfl) _).setCell (p := ⟨W.heap.size, 3, none⟩) (fun _ => rfl) _).setCell (p := ⟨W.heap.size, 4, none⟩) (fun _ => rfl) _).setCell (p := ⟨W.heap.size, 5, none⟩) (fun _ => rfl) _).setCell (p := ⟨W.heap.size, 6, none⟩) (fun _ => rfl) _).setCell (p := ⟨W.heap.size, 7, none⟩) (fun _ => rfl) _).setCell (p := ⟨W.heap.size, 8, none⟩) (fun _ => rfl) _

set_option maxHeartbeats 16000000 in
set_option maxRecDepth 100000 in
theorem forks_walk (A : Option Addr) (n c : Nat) (xs : List Ac) (B : Option Addr) (m e : Nat) (ys : List Ac) (w : World) (S : Nat → Prop) (hn : n ≤ 9223372036854775807) (hm : m ≤ 9223372036854775807) (hx : ActsAt w S A xs) (hl : xs.length = n) (hy : ActsAt w S B ys) (hyl : ys.length = m) (hS : ∀ j, S j → j < w.heap.size) :
    Calls Try.prog 8 #[.slice A n c, .slice B m e] w fun e w' => e = .returned (.bool true) ∧ Below w.heap.size w w' := by
  cases hf : fewB xs with
  | false =>
    have HN := Lib.hid (few_no A n c xs w S hx hl hn hf)
    clear hx hl hS hf hy hyl
    go_enter Try.func8, Try.ntmps8
    go_wp2_with (first | (go_at_call 20; refine HN.out.mono ?_; rintro e w' ⟨rfl, rfl⟩) | (go_at_call 14; refine (awake_any _).mono ?_; rintro e w' ⟨rfl, ho⟩))
    go_ret
    exact ⟨rfl, ho.below (Nat.le_refl _) (fun _ h => h.elim)⟩
  | true =>
    cases hf2 : fewB ys with
    | false =>
      have HN := Lib.hid (few_yes A n c xs w S hx hl hf)
      have HN2 := Lib.hid (few_no B m e ys w S hy hyl hm hf2)
      clear hx hl hS hf hy hyl hf2
      go_enter Try.func8, Try.ntmps8
      go_wp2_with fail
      refine HN.out.mono ?_
      rintro e w' ⟨rfl, rfl⟩
      go_wp2_with fail
      refine HN2.out.mono ?_
      rintro e w' ⟨rfl, rfl⟩
      go_wp2_with fail
      refine (awake_any _).mono ?_
      rintro e w' ⟨rfl, ho⟩
      go_wp2_with fail
      go_ret
      exact ⟨rfl, ho.below (Nat.le_refl _) (fun _ h => h.elim)⟩
    | true =>
      have HN := Lib.hid (few_yes A n c xs w S hx hl hf)
      have HN2 := Lib.hid (few_yes B m e ys w S hy hyl hf2)
      have hn100 : n ≤ 100 := by simp only [fewB, Bool.and_eq_true, decide_eq_true_eq] at hf; omega
      have hm100 : m ≤ 100 := by simp only [fewB, Bool.and_eq_true, decide_eq_true_eq] at hf2; omega
      have hsum : sumB xs ≤ 10000 := by simp only [fewB, Bool.and_eq_true, decide_eq_true_eq] at hf; omega
      have hsum2 : sumB ys ≤ 10000 := by simp only [fewB, Bool.and_eq_true, decide_eq_true_eq] at hf2; omega
      have HX := Lib.hid hx
      have HL := Lib.hid hl
      have HY := Lib.hid hy
      have HYL := Lib.hid hyl
      have HS := Lib.hid hS
      have HSUM := Lib.hid hsum
      have HSUM2 := Lib.hid hsum2
      clear hx hl hy hyl hS hf hf2 hsum hsum2
      go_enter Try.func8, Try.ntmps8
      go_wp2_with fail
      refine HN.out.mono ?_
      rintro e w' ⟨rfl, rfl⟩
      go_wp2_with fail
      refine HN2.out.mono ?_
      rintro e w' ⟨rfl, rfl⟩
      go_wp2_with (first | (go_at_call 9; refine (disk_new 5000 (by omega) _).mono ?_; rintro e w1 ⟨rfl, hD1, ho1, hz1⟩; have HD1 := Lib.hid hD1; have HO1 := Lib.hid (show Ours w (fun j => j = w.heap.size) w1 from ⟨ho1, fun j hj => by omega⟩); have HZ1 := Lib.hid hz1; clear hD1 ho1 hz1) | (go_at_call 21; refine (rnew_at 5000 _).mono ?_; rintro e w2 ⟨rfl, ho2⟩; have HO2 := Lib.hid ho2; clear ho2) |
        (refine wpList_store_whole rfl rfl 48 (.tmp 6) (.tmp 26) rfl w2.heap.size rfl (rcells { s := ⟨#[]⟩, l := ⟨#[]⟩, sf := 0, cp := max 0 5000, op := 0, dw := false, td := false, af := 0, dn := false }) rfl 48 _ (Hld.new _ _ _) rfl (by simp [Value.oneCell', rcells]) (by kernel_rfl) ?_; intro w3 gb ho3 _; have PA := Lib.hid (play_start HD1.out HO1.out HZ1.out HO2.out ho3 gb); clear gb ho3))
      have hnew := Lib.hid PA.out.new
      go_loopg [7] n (fun g s7 wx => ∃ (k : Nat) (d : Dk) (r : Rk) (F : Nat → Prop), k ≤ n ∧ g = n - k ∧ s7 = .int .i64 (k : Int) ∧ Hid (PlayAt F w wx w.heap.size w2.heap.size d r k))
      case atStart => exact ⟨0, _, _, _, by omega, by omega, rfl, PA⟩
      case round =>
        obtain ⟨k, d, r, F, hk, hg, rfl, PK⟩ := hrel
        by_cases hlt : k < n
        · obtain ⟨x, hx⟩ : ∃ x, xs[k]? = some x := ⟨_, List.getElem?_eq_getElem (by have := HL.out; omega)⟩
          have hxl := act_len HSUM.out hx
          obtain ⟨ab, ao, hA, hc⟩ := (HX.out.only PK.out.ours.only (fun _ _ h => h)) (by have := HL.out; omega)
          have ha := hc k x hx
          have a0 := ha.c0
          have a1 := ha.c1
          have a2 := ha.c2
          have a3 := ha.c3
          have HAC := Lib.hid ha
          obtain ⟨⟨x0, x1, x2, x3, x4, x5, x6, x7, x8⟩, xf⟩ := box_cells PK.out.box (Only.refl _ _)
          have HG := Lib.hid hg
          subst hA
          clear hx hc ha xf hg
          go_wp2_with fail
          go_region_with (go_at_call 23; refine (do_at PK.out.drew (by omega) (HAC.out.only ((Only.refl Noth _).drew) (fun _ _ h => h)) hxl HS.out).mono ?_; rintro e w5 ⟨r', rfl, hR, hL⟩; obtain ⟨w6, hst, gb, ho6⟩ := run_store_box (P := Try.prog) (PK.out.drew.box.only hL.2 (fun h => PK.out.apart _ h rfl)) (rcells_size r' r) (rcells_one r'); have PS := Lib.hid (play_step PK.out.drew (by have := HAC.out.zl; omega) hR hL gb ho6); clear hR hL gb ho6)
          all_goals
            clear x0 x1 x2 x3 x4 x5 x6 x7 x8 a0 a1 a2 a3 hst
            go_wp2_with fail
            go_roundg (n - (k + 1))
            case measure => have := HG.out; omega
            case rel => exact ⟨k + 1, _, _, _, by omega, rfl, by go_num, PS⟩
        · obtain rfl : k = n := by omega
          clear hg
          obtain ⟨⟨x0, x1, x2, x3, x4, x5, x6, x7, x8⟩, xf⟩ := box_cells PK.out.box (Only.refl _ _)
          clear xf
          go_upto_region 8 with fail
          go_cut [8, 9, 10] from 43 to 45 (fun s8 s9 s10 wx => Hid (ForkLeft F w w.heap.size w2.heap.size d r k s8 s9 s10 wx))
          case first =>
            have HFK := Lib.hid (fun W (ho : Only Noth wr W) => (disk_fork (PK.out.disk.only ho (fun _ _ h => h))).mono (R' := fun e w' => e = .returned (.pointer (some ⟨W.heap.size, 0, none⟩)) ∧ Leaves Noth W.heap.size d W w' ∧ Hld w' w2.heap.size 48 (rcells r)) (fun e w' h => ⟨h.1, h.2, (PK.out.box.only ho (fun h => h)).only h.2.2 (fun h => h)⟩))
            obtain ⟨⟨u0, u1, u2, u3, u4, u5, u6, u7, u8⟩, uf⟩ := box_cells (PK.out.box.alloc (.cells #[.string ⟨#[]⟩, .string ⟨#[]⟩, .int .i64 0, .int .i64 0, .int .i64 0, .bool false, .bool false, .int .i64 0, .bool false] 48)) (Only.refl _ _)
            clear uf
            go_region_with (go_at_call 18; go_loud (refine (HFK.out _ ?_).mono ?_); (first | exact (Only.refl Noth _).drew | exact ((Only.refl Noth _).drew).alloc _); rintro e w5 ⟨rfl, hL, hb⟩; obtain ⟨⟨y0, y1, y2, y3, y4, y5, y6, y7, y8⟩, yf⟩ := box_cells hb (Only.refl _ _); clear yf; obtain ⟨⟨v0, v1, v2, v3, v4, v5, v6, v7, v8⟩, vf⟩ := box_cells (hb.alloc (.cells #[.string ⟨#[]⟩, .string ⟨#[]⟩, .int .i64 0, .int .i64 0, .int .i64 0, .bool false, .bool false, .int .i64 0, .bool false] 48)) (Only.refl _ _); clear vf; (try (have gz : Hld w5 wr.heap.size 48 rzero := (Hld.new wr.drew _ _).only hL.2 (fun h => h); obtain ⟨⟨z0, z1, z2, z3, z4, z5, z6, z7, z8⟩, zf⟩ := box_cells gz (Only.refl _ _); have GZ := Lib.hid gz; clear gz)); have LL := Lib.hid hL; clear hL hb)
            all_goals clear u0 u1 u2 u3 u4 u5 u6 u7 u8
            all_goals (go_wp2_with fail; go_meet)
            · exact Lib.hid (fork_then (W := wr.drew) PK.out ((Only.refl _ _).drew) LL.out)
            · exact Lib.hid (fork_then (W := wr.drew) PK.out ((Only.refl _ _).drew) LL.out)
            · exact Lib.hid (fork_then (W := wr.drew) PK.out ((Only.refl _ _).drew) LL.out)
            · exact Lib.hid (then_fork' (W := wr.drew) PK.out ((Only.refl _ _).drew) LL.out (size_alloc _ _) GZ.out rfl)
            · exact Lib.hid (then_fork' (W := wr.drew) PK.out ((Only.refl _ _).drew) LL.out (size_alloc _ _) GZ.out rfl)
            · exact Lib.hid (then_fork' (W := wr.drew) PK.out ((Only.refl _ _).drew) LL.out (size_alloc _ _) GZ.out rfl)
          case rest =>
            obtain ⟨F2, b2, g2, hu8, hu9, hu10, hT⟩ := hcut.out
            subst hu8
            subst hu9
            subst hu10
            have T0 := Lib.hid hT
            clear hT hcut x0 x1 x2 x3 x4 x5 x6 x7 x8
            go_wp2_with fail
            go_loopg [10, 11] m (fun g s10 s11 wx => ∃ (k2 : Nat) (d2 : Dk) (r2 : Rk) (F3 : Nat → Prop), k2 ≤ m ∧ g = m - k2 ∧ s10 = .bool true ∧ s11 = .int .i64 (k2 : Int) ∧ Hid (Two F F3 w wx w.heap.size w2.heap.size b2 g2 d d2 r r2 k (k + k2)))
            case atStart => exact ⟨0, _, _, _, by omega, by omega, rfl, rfl, T0⟩
            case round =>
              obtain ⟨k2, d2, r2, F3, hk2, hg, rfl, rfl, TK⟩ := hrel
              by_cases hlt : k2 < m
              · obtain ⟨x, hx⟩ : ∃ x, ys[k2]? = some x := ⟨_, List.getElem?_eq_getElem (by have := HYL.out; omega)⟩
                have hxl := act_len HSUM2.out hx
                obtain ⟨ab, ao, hA, hc⟩ := (HY.out.only TK.out.one.ours.only (fun _ _ h => h)) (by have := HYL.out; omega)
                have ha := hc k2 x hx
                have a0 := ha.c0
                have a1 := ha.c1
                have a2 := ha.c2
                have a3 := ha.c3
                have HAC := Lib.hid ha
                obtain ⟨⟨x0, x1, x2, x3, x4, x5, x6, x7, x8⟩, xf⟩ := box_cells TK.out.two.box (Only.refl _ _)
                have HG := Lib.hid hg
                subst hA
                clear hx hc ha xf hg
                go_wp2_with fail
                go_region_with (go_at_call 23; refine (do_at TK.out.two.drew (by omega) (HAC.out.only ((Only.refl Noth _).drew) (fun _ _ h => h)) hxl HS.out).mono ?_; rintro e w5 ⟨r', rfl, hR, hL⟩; obtain ⟨w6, hst, gb, ho6⟩ := run_store_box (P := Try.prog) (TK.out.two.drew.box.only hL.2 (fun h => TK.out.two.apart _ h rfl)) (rcells_size r' r2) (rcells_one r'); have TS := Lib.hid (two_step (TK.out.quiet ((Only.refl Noth _).drew)) (by have := HAC.out.zl; omega) hR hL gb ho6); clear hR hL gb ho6)
                all_goals
                  clear x0 x1 x2 x3 x4 x5 x6 x7 x8 a0 a1 a2 a3 hst
                  go_wp2_with fail
                  go_roundg (m - (k2 + 1))
                  case measure => have := HG.out; omega
                  case rel => exact ⟨k2 + 1, _, _, _, by omega, rfl, rfl, by go_num, TS⟩
              · obtain rfl : k2 = m := by omega
                clear hg
                go_wp2_with fail
                refine (crash_nil 1 _).mono ?_
                rintro e w' ⟨rfl, rfl⟩
                go_wp2_with fail
                refine (read_nil _).mono ?_
                rintro e w' ⟨rfl, rfl⟩
                go_wp2_with fail
                refine (append_nil _).mono ?_
                rintro e q1 ⟨rfl, ho⟩
                have T1 := Lib.hid (TK.out.quiet ho)
                clear ho
                go_wp2_with fail
                refine (cut_nil 0 _).mono ?_
                rintro e q2 ⟨rfl, ho⟩
                have T2 := Lib.hid (T1.out.quiet ho)
                clear ho
                go_wp2_with fail
                refine (sync_nil _).mono ?_
                rintro e q3 ⟨rfl, ho⟩
                have T3 := Lib.hid (T2.out.quiet ho)
                clear ho
                go_wp2_with fail
                refine (swap_nil _).mono ?_
                rintro e q4 ⟨rfl, ho⟩
                have T4 := Lib.hid (T3.out.quiet ho)
                clear ho
                go_wp2_with fail
                refine (fail_nil 0 true _).mono ?_
                rintro e w' ⟨rfl, rfl⟩
                obtain ⟨⟨x0, x1, x2, x3, x4, x5, x6, x7, x8⟩, xf⟩ := box_cells T4.out.two.box (Only.refl _ _)
                clear xf
                go_wp2_with fail
                refine (safe_nil _).mono ?_
                rintro e w' ⟨rfl, rfl⟩
                go_wp2_with fail
                refine (ops_nil _).mono ?_
                rintro e w' ⟨rfl, rfl⟩
                go_wp2_with fail
                refine (down_nil _).mono ?_
                rintro e w' ⟨rfl, rfl⟩
                go_wp2_with fail
                refine (fork_nil _).mono ?_
                rintro e w' ⟨rfl, rfl⟩
                go_wp2_with fail
                refine (same_walk T4.out.two.disk T4.out.two.ref).mono ?_
                rintro e q5 ⟨rfl, ho⟩
                have T5 := Lib.hid (T4.out.quiet ho)
                obtain ⟨⟨y0, y1, y2, y3, y4, y5, y6, y7, y8⟩, yf⟩ := box_cells T5.out.one.box (Only.refl _ _)
                clear ho yf x0 x1 x2 x3 x4 x5 x6 x7 x8
                go_wp2_with fail
                refine (same_walk T5.out.one.disk T5.out.one.ref).mono ?_
                rintro e q6 ⟨rfl, ho⟩
                have T6 := Lib.hid (T5.out.quiet ho)
                clear ho y0 y1 y2 y3 y4 y5 y6 y7 y8
                go_wp2_with fail
                refine (awake_any _).mono ?_
                rintro e q7 ⟨rfl, ho⟩
                have O7 := Lib.hid (T6.out.one.ours.only.trans ho (fun _ h _ => h))
                clear ho
                go_wp2_with fail
                go_ret
                exact ⟨rfl, O7.out.below (Nat.le_refl _) (fun _ h => h.elim)⟩
end Go.Proofs.Ytibeblibminjfaa
