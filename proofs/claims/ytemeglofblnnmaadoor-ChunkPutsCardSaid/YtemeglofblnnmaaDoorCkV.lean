/- Layer 31: parts are laid and read. -/
import Derived.Test.YtemeglofblnnmaaDoorCkQ
import Derived.Test.YtemeglofblnnmaaDoorJnWZ
namespace Go.Proofs.YtemeglofblnnmaaDoor
open Go.RowKit Go.Lib
set_option linter.unusedVariables false
set_option linter.unusedSimpArgs false
set_option maxRecDepth 100000
attribute [local go_sem ↓] Go.wp_at_zero Go.wp_at_succ

set_option maxHeartbeats 8000000 in
theorem puts_run (p : Pt) (A B : Option Addr) (c d : Nat) (l : List UInt8) (w : World) (hp0 : BsAt w (fun k => k < w.heap.size) (.slice A p.bs.length c) p.bs) (hl0 : BsAt w (fun k => k < w.heap.size) (.slice B l.length d) l) (he : Env w) :
    Calls Tryd.prog 3 #[.agg #[.int .i64 p.id, .int .i64 p.idx, .int .i64 p.cnt, .slice A p.bs.length c], .slice B l.length d] w fun e w' => e = .returned (.bool true) ∧ Only Noth w w' := by
  have hn0 : (p.bs.length : Int) ≤ 9223372036854775807 := by obtain ⟨_, _, _, _, h1, h2⟩ := hp0; unfold maxLen at h2; omega
  have hm0 : (l.length : Int) ≤ 9223372036854775807 := by obtain ⟨_, _, _, _, h1, h2⟩ := hl0; unfold maxLen at h2; omega
  obtain ⟨n, hn⟩ : ∃ n, p.bs.length = n := ⟨_, rfl⟩
  obtain ⟨m, hm⟩ : ∃ m, l.length = m := ⟨_, rfl⟩
  have HN := Lib.hid hn
  have HM := Lib.hid hm
  rw [hn] at hp0 hn0 ⊢
  rw [hm] at hl0 hm0 ⊢
  obtain ⟨W0, hW0⟩ : ∃ W, w.alloc (.cells #[.int .i64 p.id, .int .i64 p.idx, .int .i64 p.cnt, .slice A n c] 24) = W := ⟨_, rfl⟩
  have BX0 := Lib.hid (show Hld W0 w.heap.size 24 #[.int .i64 p.id, .int .i64 p.idx, .int .i64 p.cnt, .slice A n c] by rw [← hW0]; exact Hld.new w _ _)
  have o0 : Only Noth w W0 := by rw [← hW0]; exact (Only.refl Noth w).alloc _
  have O0 := Lib.hid o0
  have E0 := Lib.hid (he.only o0 (fun _ h => h.elim))
  have HP0 := Lib.hid hp0
  have HL0 := Lib.hid hl0
  have m3 := BX0.out.cell 3
  clear hp0 hl0 o0 he hn hm
  go_enter Tryd.func3, Tryd.ntmps3
  by_cases hb1 : (n : Int) > 20000
  · go_wp2_with fail
    refine (awake_run W0).mono ?_
    rintro e w1 ⟨rfl, ho⟩
    go_wp2
    go_ret
    exact ⟨rfl, O0.out.tr ho⟩
  by_cases hb2 : (m : Int) > 20000
  · go_wp2_with fail
    refine (awake_run W0).mono ?_
    rintro e w1 ⟨rfl, ho⟩
    go_wp2
    go_ret
    exact ⟨rfl, O0.out.tr ho⟩
  have m0 := BX0.out.cell 0
  have m1 := BX0.out.cell 1
  have m2 := BX0.out.cell 2
  go_wp2_with fail
  clear hW0
  refine (by have := put_run p (fun k => k < w.heap.size) A c W0 E0.out.tab (by rw [HN.out]; exact HP0.out.noth O0.out); rw [HN.out] at this; exact this : Calls Tryd.prog 6 #[.agg #[.int .i64 p.id, .int .i64 p.idx, .int .i64 p.cnt, .slice A n c]] W0 (PutAns (putD p).1 (putD p).2 W0)).mono ?_
  obtain ⟨L, hL⟩ : ∃ L, (putD p).1 = L := ⟨_, rfl⟩
  obtain ⟨er, her⟩ : ∃ r, (putD p).2 = r := ⟨_, rfl⟩
  have HL := Lib.hid hL
  have HER := Lib.hid her
  rw [hL, her]
  clear hL her m0 m1 m2 m3
  rintro e w1 ⟨A1, c1, rfl, hp1, ho1⟩
  have HP1 := Lib.hid hp1
  have O1 := Lib.hid (O0.out.tr ho1)
  have E1 := Lib.hid (E0.out.only ho1 (fun _ h => h.elim))
  have BX1 := Lib.hid (BX0.out.only ho1 (fun h => h))
  have m0 := BX1.out.cell 0
  have m1 := BX1.out.cell 1
  have m2 := BX1.out.cell 2
  have m3 := BX1.out.cell 3
  clear hp1 ho1
  go_wp2_with fail
  refine (by have := rput_run p (fun k => k < w.heap.size) A c w1 (by rw [HN.out]; exact HP0.out.noth O1.out); rw [HN.out, HL.out, HER.out] at this; exact this : Calls Tryd.prog 7 #[.agg #[.int .i64 p.id, .int .i64 p.idx, .int .i64 p.cnt, .slice A n c]] w1 (PutAns L er w1)).mono ?_
  rintro e w2 ⟨A2, c2, rfl, hp2, ho2⟩
  have HP2 := Lib.hid hp2
  have HP12 := Lib.hid (HP1.out.noth ho2)
  have O2 := Lib.hid (O1.out.tr ho2)
  have E2 := Lib.hid (E1.out.only ho2 (fun _ h => h.elim))
  clear hp2 ho2 m0 m1 m2 m3
  go_wp2_with fail
  refine (by have := read_run B d l w2 (by rw [HM.out]; exact (HL0.out.noth O2.out).part) E2.out; rw [HM.out] at this; exact this : Calls Tryd.prog 8 #[.slice B m d] w2 (ReadAns (readD l).1 (readD l).2 w2)).mono ?_
  obtain ⟨q, hq⟩ : ∃ L, (readD l).1 = L := ⟨_, rfl⟩
  obtain ⟨es, hes⟩ : ∃ r, (readD l).2 = r := ⟨_, rfl⟩
  have HQ := Lib.hid hq
  have HES := Lib.hid hes
  rw [hq, hes]
  clear hq hes
  rintro e w3 ⟨A3, c3, rfl, hp3, ho3⟩
  have HP3 := Lib.hid hp3
  have HP13 := Lib.hid (HP12.out.noth ho3)
  have HP23 := Lib.hid (HP2.out.noth ho3)
  have O3 := Lib.hid (O2.out.tr ho3)
  obtain ⟨k3, hk3⟩ : ∃ k, q.bs.length = k := ⟨_, rfl⟩
  have HK3 := Lib.hid hk3
  rw [hk3]
  clear hp3 ho3 hk3
  go_wp2_with (refine wpList_store_whole rfl rfl 29 (.tmp 9) (.tmp 36) rfl w3.heap.size rfl _ rfl 29 _ (Hld.new w3 _ _) rfl (by simp [Value.oneCell']) (by kernel_rfl) ?_; intro w4 gb ho4 hz4; have X4 := Lib.hid gb; have O4 := Lib.hid (show Only Noth w3 w4 from ((Only.refl Noth w3).alloc _).trans ho4 (fun j hj hl => by have hj : j = w3.heap.size := hj; omega)); clear gb ho4 hz4)
  obtain ⟨b3, hb3⟩ : ∃ b, w3.heap.size = b := ⟨_, rfl⟩
  have HB3 := Lib.hid hb3
  rw [hb3] at X4
  simp only [hb3]
  clear hb3
  go_wp2_with fail
  refine (by have := rread_run B d l w4 (by rw [HM.out]; omega) (by rw [HM.out]; exact (HL0.out.noth (O3.out.tr O4.out)).part); rw [HM.out, HQ.out, HES.out] at this; exact this : Calls Tryd.prog 9 #[.slice B m d] w4 (ReadAns q es w4)).mono ?_
  rintro e w5 ⟨A5, c5, rfl, hp5, ho5⟩
  rw [HK3.out] at hp5 ⊢
  have X5 := Lib.hid (X4.out.only ho5 (fun h => h))
  have HP5 := Lib.hid hp5
  have o45 := O4.out.tr ho5
  have HP15 := Lib.hid (HP13.out.noth o45)
  have HP25 := Lib.hid (HP23.out.noth o45)
  have HP35 := Lib.hid (show BsAt w5 (New w2) (.slice A3 k3 c3) q.bs from by have h := HP3.out; rw [HK3.out] at h; exact h.noth o45)
  have O5 := Lib.hid (O3.out.tr o45)
  clear hp5 ho5 o45
  go_upto_region 7 with (refine wpList_store_whole rfl rfl 24 (.tmp 11) (.tmp 41) rfl w5.heap.size rfl _ rfl 24 _ (Hld.new w5 _ _) rfl (by simp [Value.oneCell']) (by kernel_rfl) ?_; intro w6 gb ho6 hz6; have Y6 := Lib.hid gb; have O6 := Lib.hid (show Only Noth w5 w6 from ((Only.refl Noth w5).alloc _).trans ho6 (fun j hj hl => by have hj : j = w5.heap.size := hj; omega)); clear gb ho6 hz6)
  obtain ⟨b5, hb5⟩ : ∃ b, w5.heap.size = b := ⟨_, rfl⟩
  rw [hb5] at Y6
  simp only [hb5]
  clear hb5
  have X6 := Lib.hid (X5.out.only O6.out (fun h => h))
  have k1 := BsAt.conv (HP15.out.noth O6.out).bs
  have k2 := BsAt.conv (HP25.out.noth O6.out).bs
  have x0 := X6.out.cell 0
  have x1 := X6.out.cell 1
  have x2 := X6.out.cell 2
  have x3 := X6.out.cell 3
  have y0 := Y6.out.cell 0
  have y1 := Y6.out.cell 1
  have y2 := Y6.out.cell 2
  have y3 := Y6.out.cell 3
  go_wp2_with fail
  refine (same_run q.id q.idx q.cnt q.bs A3 A5 k3 c3 k3 c5 (New w2) (New w4) w6 (HP35.out.noth O6.out) (HP5.out.noth O6.out)).mono ?_
  rintro e w7 ⟨rfl, ho7⟩
  have O7 := Lib.hid ((O5.out.tr O6.out).tr ho7)
  clear ho7 x0 x1 x2 x3 y0 y1 y2 y3 k1 k2
  go_wp2_with fail
  refine (awake_run w7).mono ?_
  rintro e w8 ⟨rfl, ho8⟩
  go_wp2
  go_ret
  exact ⟨rfl, O7.out.tr ho8⟩
end Go.Proofs.YtemeglofblnnmaaDoor
